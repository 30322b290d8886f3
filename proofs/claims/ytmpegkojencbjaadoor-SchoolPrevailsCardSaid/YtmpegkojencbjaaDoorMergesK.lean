/- School: the law SchoolPrevails, walked. -/
import Derived.Test.YtmpegkojencbjaaDoorMergesJ
import Derived.Deep.CutBlock
import Derived.Deep.DeepCutAuto
import Derived.IntWalk
import Derived.Deep.QuietTactic
import Derived.BigQuiet
import Derived.Test.YtmpegkojencbjaaDoorRows
import Derived.ProofKit
import Derived.OpenShut
import Derived.Carry
import Derived.ChangeSame
import Derived.Deep.SlicePairs
import Derived.ChangeSlices
set_option linter.unusedSimpArgs false
set_option linter.unusedVariables false
set_option linter.unnecessarySimpa false
namespace Go.Proofs.YtmpegkojencbjaaDoor
open List renaming getElem_toArray → glA, getElem_cons_zero → glB, getElem_cons_succ → glC, setIfInBounds_toArray → glD, set_cons_zero → glE, set_cons_succ → glF
open Go Go.RowKit Go.Shelf
set_option maxHeartbeats 40000000
set_option maxRecDepth 100000
theorem spR_at {s : Sch} (hs : schB s = true) {i j : Nat} (hi : i < s.rs.length) (hj : j < s.rs.length) : spR s (i : Int) (j : Int) = (spc (stF s i) (stF s j), 0) := by
  unfold spR
  rw [if_pos hs, if_pos (by omega), Int.toNat_natCast, Int.toNat_natCast]
/-- a choice that is picked -/
def pkF (fs : List Int) (u : Nat → Int) (z : Int) (k : Nat) : List Int := (List.range k).map fun i => (u i / z) % (fs.getD i 0)
theorem pkF_len (fs : List Int) (u : Nat → Int) (z : Int) (k : Nat) : (pkF fs u z k).length = k := by unfold pkF; simp
theorem pkF_succ (fs : List Int) (u : Nat → Int) (z : Int) (k : Nat) : pkF fs u z (k + 1) = pkF fs u z k ++ [(u k / z) % (fs.getD k 0)] := by
  unfold pkF
  rw [List.range_succ, List.map_append]
  rfl
theorem pkF_at (fs : List Int) (u : Nat → Int) (z : Int) {n k : Nat} (h : k < n) : (pkF fs u z n).getD k 0 = (u k / z) % (fs.getD k 0) := by
  unfold pkF
  rw [List.getD_eq_getElem?_getD, List.getElem?_map, List.getElem?_range h]
  rfl
theorem pkF_case {s : Sch} (hs : schB s = true) (u : Nat → Int) (z : Int) : icB s.fs (pkF s.fs u z s.fs.length) = true := by
  refine ic_iff.2 ⟨pkF_len _ _ _ _, fun j hj => ?_⟩
  rw [pkF_at _ _ _ hj]
  have h := fsB_at (schB_ok hs).fs j hj
  have h1 := Int.emod_nonneg (u j / z) (show s.fs.getD j 0 ≠ 0 by omega)
  have h2 := Int.emod_lt_of_pos (u j / z) (show 0 < s.fs.getD j 0 by omega)
  omega
theorem oneT_succ (c : List Int) (x : Int) : oneT (c ++ [x]) = oneT c ++ [((c.length : Int), ((2 ^ x.toNat : Nat) : Int))] := by
  unfold oneT
  rw [List.length_append, List.length_singleton, List.range_succ, List.map_append]
  congr 1
  · refine List.map_congr_left fun i hi => ?_
    have hi' := List.mem_range.1 hi
    rw [List.getD_eq_getElem?_getD, List.getElem?_append_left hi', ← List.getD_eq_getElem?_getD]
  · show [((c.length : Int), ((2 ^ ((c ++ [x]).getD c.length 0).toNat : Nat) : Int))] = _
    rw [List.getD_eq_getElem?_getD, List.getElem?_append_right (Nat.le_refl _), Nat.sub_self]
    rfl
theorem oneT_len (c : List Int) : (oneT c).length = c.length := by unfold oneT; simp
theorem own_cellsJ {W : World} {base n c : Nat} {A : Option Addr} {l : List Int} (h : OwnJ W base (.slice A n c) l) (hl : l.length = n) (hn : 0 < n) :
    ∃ g, A = some ⟨g, 0, none⟩ ∧ g < W.heap.size ∧ ∀ j, j < n → W.cell? ⟨g, j, none⟩ = some (.int .i64 (l.getD j 0)) := by
  subst hl
  have key : ∀ j, j < l.length → ∃ g, A = some ⟨g, 0, none⟩ ∧ g < W.heap.size ∧ base ≤ g ∧ W.cell? ⟨g, j, none⟩ = some (.int .i64 (l.getD j 0)) := fun j hj => own_one h (by
    unfold intJ
    rw [List.getElem?_map, List.getD_eq_getElem?_getD, List.getElem?_eq_getElem hj]
    rfl)
  obtain ⟨g, h1, h2, -, -⟩ := key 0 hn
  refine ⟨g, h1, h2, fun j hj => ?_⟩
  obtain ⟨g', h3, -, -, h4⟩ := key j hj
  rw [h1] at h3
  injection h3 with h3
  injection h3 with h3
  rw [h3]
  exact h4
theorem prevails_any (d : Ad_) (s : Sch) (PA : Option Addr) (np pc : Nat) (u : Nat → Int) (y : Int) (w : World) (hz : ScZ s) (hnp : np ≤ maxLen) (hd : ScR w w.heap.size d s) (hP : ER w w.heap.size 1 PA np (fun k _ => .int .u8 (u k))) (hu : ∀ k, k < np → 0 ≤ u k ∧ u k ≤ 255) (hy : 0 ≤ y ∧ y ≤ 65535) :
    Calls Tryd.prog 10 #[scV d s, .slice PA np pc, .int .u16 y] w fun e w' => e = .returned (.bool true) ∧ Below w.heap.size w w' := by
  have HZ := hide hz
  have HU := hide hu
  obtain ⟨nf, hf⟩ : ∃ n, s.fs.length = n := ⟨_, rfl⟩
  obtain ⟨nr, hr⟩ : ∃ n, s.rs.length = n := ⟨_, rfl⟩
  obtain ⟨Q, hQ⟩ : ∃ n, s.q = n := ⟨_, rfl⟩
  have HN := hide (And.intro hf (And.intro hr hQ))
  have es : scV d s = .agg #[.slice d.fa nf d.fc, .int .i64 Q, .slice d.ra nr d.rc] := by unfold scV; rw [hf, hr, hQ]
  rw [es]
  unfold maxLen at hnp
  have k3 : Blk (w.alloc (.cells #[.slice d.fa nf d.fc, .int .i64 Q, .slice d.ra nr d.rc] 47)) w.heap.size 47 #[.slice d.fa nf d.fc, .int .i64 Q, .slice d.ra nr d.rc] := Blk.new w _ _
  have HB0 : Hid (Below w.heap.size w (w.alloc (.cells #[.slice d.fa nf d.fc, .int .i64 Q, .slice d.ra nr d.rc] 47))) := hide ((Below.refl _ _).alloc (Nat.le_refl _) _)
  have HD := hide (hd.below HB0.out)
  have HP : Hid (ER (w.alloc (.cells #[.slice d.fa nf d.fc, .int .i64 Q, .slice d.ra nr d.rc] 47)) (w.alloc (.cells #[.slice d.fa nf d.fc, .int .i64 Q, .slice d.ra nr d.rc] 47)).heap.size 1 PA np (fun k _ => .int .u8 (u k))) := hide ((ER.below hP HB0.out (Nat.le_refl _)).more HB0.out.size)
  have HES := hide es
  have hnf := hz.nf
  have hnr := hz.nr
  rw [hf] at hnf
  rw [hr] at hnr
  unfold maxLen at hnf hnr
  clear hd hz hf hr hQ es hP hu
  go_enter Tryd.func10, Tryd.ntmps10
  go_upto_region 1 with fail
  generalize (w.alloc (.cells #[.slice d.fa nf d.fc, .int .i64 Q, .slice d.ra nr d.rc] 47)) = w1 at k3 HB0 HD HP ⊢
  obtain ⟨G, hG⟩ : ∃ x, w.heap.size = x := ⟨_, rfl⟩
  rw [hG] at k3 ⊢
  have HSB : Hid (∀ W, Below w1.heap.size w1 W → (W.cell? ⟨G, 0, none⟩ = some (.slice d.fa nf d.fc) ∧ W.cell? ⟨G, 1, none⟩ = some (.int .i64 Q) ∧ W.cell? ⟨G, 2, none⟩ = some (.slice d.ra nr d.rc))) := hide fun W h => by
    obtain ⟨-, q0, q1, q2, -⟩ := blk3 (k3.ext h)
    exact ⟨q0, q1, q2⟩
  have HGB := hide k3
  clear k3 hG
  have HGS : Hid (∀ W, Below w1.heap.size w1 W → Calls Tryd.prog 29 #[.agg #[.slice d.fa nf d.fc, .int .i64 Q, .slice d.ra nr d.rc]] W fun e w' => e = .returned (.bool (grB s)) ∧ Below W.heap.size W w') := hide fun W h => by
    have := great_any d s W (HD.out.below h) HZ.out
    rwa [HES.out] at this
  have B1 : Hid (Below w1.heap.size w1 w1) := hide (Below.refl _ _)
  obtain ⟨x0, x1, x2⟩ := HSB.out _ B1.out
  rcases hgs : grB s with _ | _
  rotate_left
  · -- BEGIN1
    as_aux_lemma =>
    rw [hgs] at HGS
    clear hgs
    go_wp2_with fail
    refine (HGS.out w1 B1.out).mono ?_
    rintro e w2 ⟨rfl, hb⟩
    have B2 := hide (B1.out.trans (hb.mono B1.out.size))
    clear hb
    (clear x0 x1 x2)
    obtain ⟨x0, x1, x2⟩ := HSB.out _ B2.out
    go_wp2_with fail
    refine (known_any w2).mono ?_
    rintro e wz ⟨rfl, hbz⟩
    go_wp2_with fail
    go_ret
    exact ⟨rfl, HB0.out.trans ((B2.out.trans (hbz.mono B2.out.size)).mono HB0.out.size)⟩
    -- END1
  rw [hgs] at HGS
  obtain ⟨b1, b2, b3⟩ := grB_no hgs
  have hnf7 : nf ≤ 7 := by rw [← HN.out.1]; exact b1
  have wf1 : IntKind.i64.wrap ((nf : Int) + 1) = (nf : Int) + 1 := IntWalk.i64_in _ (by omega)
  by_cases hr11 : 11 < nr
  · -- BEGIN2
    as_aux_lemma =>
    have hr11' : (11 : Int) < (nr : Int) := by omega
    clear hgs b1 b2 b3
    go_wp2_with fail
    refine (HGS.out w1 B1.out).mono ?_
    rintro e w2 ⟨rfl, hb⟩
    have B2 := hide (B1.out.trans (hb.mono B1.out.size))
    clear hb
    (clear x0 x1 x2)
    obtain ⟨x0, x1, x2⟩ := HSB.out _ B2.out
    go_wp2_with fail
    refine (known_any w2).mono ?_
    rintro e wz ⟨rfl, hbz⟩
    go_wp2_with fail
    go_ret
    exact ⟨rfl, HB0.out.trans ((B2.out.trans (hbz.mono B2.out.size)).mono HB0.out.size)⟩
    -- END2
  have hr11' : ¬ (11 : Int) < (nr : Int) := by omega
  by_cases hpf : np = nf + 1
  rotate_left
  · -- BEGIN3
    as_aux_lemma =>
    have hpf' : ¬ (np : Int) = (nf : Int) + 1 := by omega
    clear hgs b1 b2 b3
    go_wp2_with fail
    refine (HGS.out w1 B1.out).mono ?_
    rintro e w2 ⟨rfl, hb⟩
    have B2 := hide (B1.out.trans (hb.mono B1.out.size))
    clear hb
    (clear x0 x1 x2)
    obtain ⟨x0, x1, x2⟩ := HSB.out _ B2.out
    go_wp2_with fail
    refine (known_any w2).mono ?_
    rintro e wz ⟨rfl, hbz⟩
    go_wp2_with fail
    go_ret
    exact ⟨rfl, HB0.out.trans ((B2.out.trans (hbz.mono B2.out.size)).mono HB0.out.size)⟩
    -- END3
  have HCO : Hid (∀ W, Below w1.heap.size w1 W → Calls Tryd.prog 31 #[.agg #[.slice d.fa nf d.fc, .int .i64 Q, .slice d.ra nr d.rc]] W fun e w' => ∃ d1, e = .returned (scV d1 s) ∧ ScO w' W.heap.size d1 s ∧ Below W.heap.size W w') := hide fun W h => by
    have := copied_own d s W (HD.out.below h) (by omega) (by omega) (fun r hr => by have := b3 r hr; omega)
    rwa [HES.out] at this
  have HCS : Hid (∀ W, Below w1.heap.size w1 W → Calls Tryd.prog 31 #[.agg #[.slice d.fa nf d.fc, .int .i64 Q, .slice d.ra nr d.rc]] W fun e w' => ∃ d1, e = .returned (scV d1 s) ∧ ScR w' w'.heap.size d1 s ∧ Below W.heap.size W w') := hide fun W h => (HCO.out W h).mono fun e w' ⟨d1, e1, e2, e3⟩ => ⟨d1, e1, e2.read, e3⟩
  clear hgs b1 b2 b3
  rcases hs : schB s with _ | _
  · -- BEGIN4
    as_aux_lemma =>
    have hpf' : (np : Int) = (nf : Int) + 1 := by omega
    have hck : (if schB s = true then (0 : Int) else 2) = 2 := by rw [hs]; rfl
    clear hs
    go_wp2_with fail
    refine (HGS.out w1 B1.out).mono ?_
    rintro e w2 ⟨rfl, hb⟩
    have B2 := hide (B1.out.trans (hb.mono B1.out.size))
    clear hb
    (clear x0 x1 x2)
    obtain ⟨x0, x1, x2⟩ := HSB.out _ B2.out
    go_wp2_with fail
    refine (HCS.out w2 B2.out).mono ?_
    rintro e w3 ⟨dp1, rfl, hdp1, hbp1⟩
    have B3 := hide (B2.out.trans (hbp1.mono B2.out.size))
    have Dp1 := hide hdp1
    clear hdp1 hbp1
    (clear x0 x1 x2)
    obtain ⟨x0, x1, x2⟩ := HSB.out _ B3.out
    have HCC := hide (Check_any dp1 s w3 Dp1.out HZ.out)
    rw [hck] at HCC
    go_wp2_with fail
    refine HCC.out.mono ?_
    rintro e w4 ⟨rfl, hb⟩
    have B4 := hide (B3.out.trans (hb.mono B3.out.size))
    (clear hb x0 x1 x2 HCC Dp1)
    obtain ⟨x0, x1, x2⟩ := HSB.out _ B4.out
    go_wp2_with fail
    refine (known_any w4).mono ?_
    rintro e wz ⟨rfl, hbz⟩
    go_wp2_with fail
    go_ret
    exact ⟨rfl, HB0.out.trans ((B4.out.trans (hbz.mono B4.out.size)).mono HB0.out.size)⟩
    -- END4
  have HS := hide hs
  have HOK := hide (schB_ok hs)
  have hnf5 : nf ≤ 5 := by rw [← HN.out.1]; exact HOK.out.nf5
  have hnf5' : ¬ (5 : Int) < (nf : Int) := by omega
  have hQ1 : 1 ≤ Q := by rw [← HN.out.2.2]; exact HOK.out.q1
  have hQ4 : Q ≤ 4 := by rw [← HN.out.2.2]; exact HOK.out.q4
  have HPF := hide hpf
  go_cut [53] (fun v w' => v = .bool false ∧ Hid (Below w1.heap.size w1 w'))
  case first =>
   -- BEGIN5
   as_aux_lemma =>
    have hpf' : (np : Int) = (nf : Int) + 1 := by omega
    have hck : (if schB s = true then (0 : Int) else 2) = 0 := by rw [hs]; rfl
    clear hs hpf
    go_wp2_with fail
    refine (HGS.out w1 B1.out).mono ?_
    rintro e w2 ⟨rfl, hb⟩
    have B2 := hide (B1.out.trans (hb.mono B1.out.size))
    clear hb
    (clear x0 x1 x2)
    obtain ⟨x0, x1, x2⟩ := HSB.out _ B2.out
    go_wp2_with fail
    refine (HCS.out w2 B2.out).mono ?_
    rintro e w3 ⟨dp1, rfl, hdp1, hbp1⟩
    have B3 := hide (B2.out.trans (hbp1.mono B2.out.size))
    have Dp1 := hide hdp1
    clear hdp1 hbp1
    (clear x0 x1 x2)
    obtain ⟨x0, x1, x2⟩ := HSB.out _ B3.out
    have HCC := hide (Check_any dp1 s w3 Dp1.out HZ.out)
    rw [hck] at HCC
    go_wp2_with fail
    refine HCC.out.mono ?_
    rintro e w4 ⟨rfl, hb⟩
    have B4 := hide (B3.out.trans (hb.mono B3.out.size))
    (clear hb x0 x1 x2 HCC Dp1)
    obtain ⟨x0, x1, x2⟩ := HSB.out _ B4.out
    go_wp2_with fail
    go_meet
    exact ⟨by first | rfl | (rw [decide_eq_false (by omega), decide_eq_false (by omega)]; rfl), B4⟩
   -- END5
  obtain ⟨rfl, BC⟩ := hcut
  clear hs hpf x0 x1 x2 HGS B1 wf1
  obtain ⟨w2, hw2⟩ : ∃ x, x = wc := ⟨_, rfl⟩
  rw [← hw2] at BC ⊢
  clear hw2
  obtain ⟨x0, x1, x2⟩ := HSB.out _ BC.out
  have hQ1' : ¬ Q < 1 := by omega
  go_upto_region 3 with fail
  go_wp2_with fail
  go_loopw [7] (fun v7 wr => ∃ k : Nat, k ≤ nf ∧ v7 = .int .i64 k ∧ Hid (w2 = wr)) (fun v7 _ => nf - (intOf v7).toNat)
  case atStart => exact ⟨0, Nat.zero_le _, rfl, hide rfl⟩
  case round =>
    obtain ⟨k, hk, rfl, HW⟩ := hrel
    obtain rfl := HW.out
    by_cases hkl : k < nf
    · -- BEGIN6
      have hkl' : (k : Int) < (nf : Int) := by omega
      have k0 : (0 : Int) ≤ (k : Int) := by omega
      have hstk : IntKind.i64.wrap ((k : Int) + 1) = ((k + 1 : Nat) : Int) := by rw [IntWalk.i64_in _ (by omega)]; omega
      obtain ⟨fb, fo, hfa, hfb, hfc⟩ := VR1.at_ HD.out.fs (k := k) (by rw [HN.out.1]; exact hkl)
      obtain ⟨fv, hfv⟩ : ∃ x, s.fs.getD k 0 = x := ⟨_, rfl⟩
      have hf4 := fsB_at HOK.out.fs k (by rw [HN.out.1]; exact hkl)
      rw [hfv] at hfc hf4
      have cf := (BC.out.cell (p := ⟨fb, fo + k, none⟩) hfb).trans hfc
      have hf1 : ¬ fv < 1 := by omega
      have hf5 : ¬ 4 < fv := by omega
      rw [hfa] at x0 ⊢
      clear hfc hfv hf4
      go_wp2_with fail
      go_roundw
      case rel => exact ⟨k + 1, by omega, by go_num, by first | exact hide trivial | exact hide rfl⟩
      case measure => simp [intOf]; omega
      -- END6
    · -- BEGIN7
      obtain rfl : nf = k := by omega
      have hnl : ¬ (nf : Int) < (nf : Int) := by omega
      go_wp2_with fail
      go_loopw [8] (fun v8 wr => ∃ i : Nat, i ≤ nr ∧ v8 = .int .i64 i ∧ Hid (Below w1.heap.size w1 wr)) (fun v8 _ => nr - (intOf v8).toNat)
      case atStart => exact ⟨0, Nat.zero_le _, rfl, BC⟩
      case round =>
        obtain ⟨i, hi, rfl, BR⟩ := hrel
        clear x0 x1 x2
        obtain ⟨x0, x1, x2⟩ := HSB.out _ BR.out
        by_cases hil : i < nr
        · -- BEGIN8
          have hil' : (i : Int) < (nr : Int) := by omega
          have i0 : (0 : Int) ≤ (i : Int) := by omega
          have hsti : IntKind.i64.wrap ((i : Int) + 1) = ((i + 1 : Nat) : Int) := by rw [IntWalk.i64_in _ (by omega)]; omega
          go_wp2_with fail
          go_loopw [9] (fun v9 wr => ∃ j : Nat, j ≤ i + 1 ∧ v9 = .int .i64 j ∧ Hid (Below w1.heap.size w1 wr)) (fun v9 _ => i + 1 - (intOf v9).toNat)
          case atStart => exact ⟨0, Nat.zero_le _, rfl, BR⟩
          case round =>
            obtain ⟨j, hj, rfl, BJ⟩ := hrel
            clear x0 x1 x2
            obtain ⟨x0, x1, x2⟩ := HSB.out _ BJ.out
            by_cases hjl : j ≤ i
            · -- BEGIN9
              as_aux_lemma =>
              have hjl' : (j : Int) ≤ (i : Int) := by omega
              have hstj : IntKind.i64.wrap ((j : Int) + 1) = ((j + 1 : Nat) : Int) := by rw [IntWalk.i64_in _ (by omega)]; omega
              have e1 := spR_at HS.out (i := i) (j := j) (by rw [HN.out.2.1]; omega) (by rw [HN.out.2.1]; omega)
              have e2 := spR_at HS.out (i := j) (j := i) (by rw [HN.out.2.1]; omega) (by rw [HN.out.2.1]; omega)
              have hab : ¬ (spc (stF s i) (stF s j) = true ∧ spc (stF s j) (stF s i) = true) := fun h => by
                have h2 := sp_anti (st_lt HS.out i) (st_lt HS.out j) h.1
                rw [h.2] at h2
                cases h2
              obtain ⟨a, ha⟩ : ∃ x, spc (stF s i) (stF s j) = x := ⟨_, rfl⟩
              obtain ⟨b, hb⟩ : ∃ x, spc (stF s j) (stF s i) = x := ⟨_, rfl⟩
              rw [ha] at e1 hab
              rw [hb] at e2 hab
              have E1 := hide e1
              have E2 := hide e2
              clear e1 e2 ha hb
              go_wp2_with fail
              refine (HCS.out wr BJ.out).mono ?_
              rintro e wa ⟨dp1, rfl, hdp1, hbp1⟩
              have Ba := hide (BJ.out.trans (hbp1.mono BJ.out.size))
              have Dp1 := hide hdp1
              clear hdp1 hbp1
              (clear x0 x1 x2)
              obtain ⟨x0, x1, x2⟩ := HSB.out _ Ba.out
              have H1 := Special_any dp1 s (i : Int) (j : Int) wa Dp1.out HZ.out
              rw [E1.out] at H1
              have H1 := hide H1
              go_wp2_with fail
              refine H1.out.mono ?_
              rintro e wb ⟨rfl, hb⟩
              have Bb := hide (Ba.out.trans (hb.mono Ba.out.size))
              (clear hb x0 x1 x2 H1)
              obtain ⟨x0, x1, x2⟩ := HSB.out _ Bb.out
              go_wp2_with fail
              refine (HCS.out wb Bb.out).mono ?_
              rintro e wc ⟨dp2, rfl, hdp2, hbp2⟩
              have Bc := hide (Bb.out.trans (hbp2.mono Bb.out.size))
              have Dp2 := hide hdp2
              clear hdp2 hbp2
              (clear x0 x1 x2)
              obtain ⟨x0, x1, x2⟩ := HSB.out _ Bc.out
              have H2 := Special_any dp2 s (j : Int) (i : Int) wc Dp2.out HZ.out
              rw [E2.out] at H2
              have H2 := hide H2
              go_wp2_with fail
              refine H2.out.mono ?_
              rintro e wd ⟨rfl, hb⟩
              have Bd := hide (Bc.out.trans (hb.mono Bc.out.size))
              (clear hb x0 x1 x2 H2)
              obtain ⟨x0, x1, x2⟩ := HSB.out _ Bd.out
              rcases a with _ | _ <;> rcases b with _ | _
              rotate_right
              · exact absurd ⟨rfl, rfl⟩ hab
              all_goals
                clear hab
                go_wp2_with fail
                go_roundw
                case rel => exact ⟨j + 1, by omega, by go_num, Bd⟩
                case measure => simp [intOf]; omega
              -- END9
            · -- BEGINb1
              have hjl' : ¬ (j : Int) ≤ (i : Int) := by omega
              go_wp2_with fail
              go_roundw
              case rel => exact ⟨i + 1, by omega, by go_num, BJ⟩
              case measure => simp [intOf]; omega
              -- ENDb1
          -- END8
        · -- BEGINb2
          obtain rfl : nr = i := by omega
          have hnl2 : ¬ (nr : Int) < (nr : Int) := by omega
          obtain ⟨w0, hw0⟩ : ∃ x, x = wr := ⟨_, rfl⟩
          rw [← hw0] at BR x0 x1 x2 ⊢
          clear hw0
          go_upto_region 20 with fail
          have c0a := Blk.new w0 3 #[]
          have hba : Below w0.heap.size w0 ((w0.alloc (.cells #[] 3)).alloc (.cells #[] 3)) := ((Below.refl _ _).alloc (Nat.le_refl _) _).alloc (by simp) _
          have hoc : OwnJ ((w0.alloc (.cells #[] 3)).alloc (.cells #[] 3)) w0.heap.size (.slice (some ⟨w0.heap.size, 0, none⟩) 0 0) [] := (OwnJ.made0 w0).ext ((Below.refl _ _).alloc (Nat.le_refl _) _)
          have hoo : OwnJ ((w0.alloc (.cells #[] 3)).alloc (.cells #[] 3)) w0.heap.size (.slice (some ⟨w0.heap.size + 1, 0, none⟩) 0 0) [] := OwnJ.low2 (by simpa using OwnJ.made0 (w0.alloc (.cells #[] 3))) (by simp)
          go_upto_region 21 with fail
          have HOC := hide hoc
          have HOO := hide hoo
          have HNE : Hid ((Value.slice (some (⟨w0.heap.size, 0, none⟩ : Addr)) 0 0).ownBlock = none ∨ (Value.slice (some (⟨w0.heap.size + 1, 0, none⟩ : Addr)) 0 0).ownBlock = none ∨ (Value.slice (some (⟨w0.heap.size, 0, none⟩ : Addr)) 0 0).ownBlock ≠ (Value.slice (some (⟨w0.heap.size + 1, 0, none⟩ : Addr)) 0 0).ownBlock) := hide (.inr (.inr (by simp [Value.ownBlock])))
          have HBA := hide hba
          have BA := hide (BR.out.trans (hba.mono BR.out.size))
          clear c0a hba hoc hoo
          obtain ⟨VC0, hvc⟩ : ∃ x, Value.slice (some ⟨w0.heap.size, 0, none⟩) 0 0 = x := ⟨_, rfl⟩
          obtain ⟨VO0, hvo⟩ : ∃ x, Value.slice (some ⟨w0.heap.size + 1, 0, none⟩) 0 0 = x := ⟨_, rfl⟩
          rw [hvc] at HOC HNE
          rw [hvo] at HOO HNE
          (try simp only [World.size_alloc])
          rw [hvc, hvo]
          generalize ((w0.alloc (.cells #[] 3)).alloc (.cells #[] 3)) = wa at HOC HOO HBA BA ⊢
          have HPC : Hid (∀ W, Below w1.heap.size w1 W → ∀ k, k < np → ∃ pb po, PA = some ⟨pb, po, none⟩ ∧ W.cell? ⟨pb, po + k, none⟩ = some (.int .u8 (u k))) := hide fun W h k hk => by
            obtain ⟨pb, po, hA, hpb, hpc⟩ := VR1.at_ HP.out hk
            exact ⟨pb, po, hA, (h.cell (p := ⟨pb, po + k, none⟩) hpb).trans hpc⟩
          obtain ⟨pb, po, hPA, -⟩ := HPC.out wa BA.out 0 (by have := HPF.out; omega)
          subst hPA
          have HPC2 : Hid (∀ W, Below w1.heap.size w1 W → ∀ k, k < np → W.cell? ⟨pb, po + k, none⟩ = some (.int .u8 (u k))) := hide fun W h k hk => by
            obtain ⟨pb', po', e, h2⟩ := HPC.out W h k hk
            injection e with e
            injection e with e1 e2
            subst e1 e2
            exact h2
          clear HPC hvc hvo x0 x1 x2
          have hnp1 : (nf : Int) < (np : Int) := by have := HPF.out; omega
          have hnf0 : (0 : Int) ≤ (nf : Int) := by omega
          obtain ⟨un, hun⟩ : ∃ x, u nf = x := ⟨_, rfl⟩
          have hun2 := HU.out nf (by have := HPF.out; omega)
          rw [hun] at hun2
          have HS21 : Hid (∀ W, Below w1.heap.size w1 W → (W.cell? ⟨G, 0, none⟩ = some (.slice d.fa nf d.fc) ∧ W.cell? ⟨G, 1, none⟩ = some (.int .i64 Q) ∧ W.cell? ⟨pb, po + nf, none⟩ = some (.int .u8 un))) := hide fun W h => ⟨(HSB.out W h).1, (HSB.out W h).2.1, by
            have := HPC2.out W h nf (by have := HPF.out; omega)
            rwa [hun] at this⟩
          obtain ⟨ask, hask⟩ : ∃ x, un % Q = x := ⟨_, rfl⟩
          obtain ⟨sy, hsy⟩ : ∃ x, y % 1000 = x := ⟨_, rfl⟩
          have q1 : IntKind.i64.wrap un = un := IntWalk.i64_in _ (by omega)
          have q2 : IntKind.i64.wrap y = y := IntWalk.i64_in _ (by omega)
          have q3 : un.tmod Q = ask := by rw [Int.tmod_eq_emod_of_nonneg (by omega)]; exact hask
          have q4 : y.tmod 1000 = sy := by rw [Int.tmod_eq_emod_of_nonneg (by omega)]; exact hsy
          have haq : 0 ≤ ask ∧ ask ≤ Q - 1 := by
            have h1 := Int.emod_nonneg un (show Q ≠ 0 by omega)
            have h2 := Int.emod_lt_of_pos un (show 0 < Q by omega)
            omega
          have hsy9 : 0 ≤ sy ∧ sy ≤ 999 := by omega
          have q5 : IntKind.i64.wrap ask = ask := IntWalk.i64_in _ (by omega)
          have q6 : IntKind.i64.wrap sy = sy := IntWalk.i64_in _ (by omega)
          have HAQ := hide haq
          have HSY := hide hsy9
          have hQ0 : ¬ Q = 0 := by omega
          have hQm : ¬ Q = -1 := by omega
          clear hun hask hsy
          -- the rule that is added
          have Bd := hide (BA.out.trans ((Below.refl wa.heap.size wa).drew.mono BA.out.size))
          have Bd2 := hide (HBA.out.trans ((Below.refl wa.heap.size wa).drew.mono HBA.out.size))
          have HOC := hide (OwnJ.ext HOC.out (Below.refl wa.heap.size wa).drew)
          have HOO := hide (OwnJ.ext HOO.out (Below.refl wa.heap.size wa).drew)
          refine wp_region_J (fun W : World => (W.cell? ⟨G, 0, none⟩ = some (.slice d.fa nf d.fc) ∧ W.cell? ⟨G, 1, none⟩ = some (.int .i64 Q) ∧ W.cell? ⟨pb, po + nf, none⟩ = some (.int .u8 un))) (by kernel_rfl) ?_
          generalize wa.drew = wb at Bd Bd2 HOC HOO ⊢
          refine wpAnyJ_take 0 (v := ?_) (by first | exact hF | exact wideFn) (HS21.out _ Bd.out) rfl (by kernel_rfl) (by kernel_rfl) (by kernel_rfl) (by kernel_rfl) rfl ?_ (by first | exact fun _ _ _ h => h | exact fun _ _ _ h => hQ2 _ _ _ _ _ h) ?_
          rotate_left
          · intro W hSW
            simp only [glA, glB, glC]
            (try dsimp only at hSW)
            go_simp
            with_reducible rfl
          (try simp only [glA, glB, glC, Act.put, glD, glE, glF])
          refine wpAnyJ_take 1 (v := ?_) (by first | exact hF | exact wideFn) (HS21.out _ Bd.out) rfl (by kernel_rfl) (by kernel_rfl) (by kernel_rfl) (by kernel_rfl) rfl ?_ (by first | exact fun _ _ _ h => h | exact fun _ _ _ h => hQ2 _ _ _ _ _ h) ?_
          rotate_left
          · intro W hSW
            simp only [glA, glB, glC]
            (try dsimp only at hSW)
            go_simp
            with_reducible rfl
          (try simp only [glA, glB, glC, Act.put, glD, glE, glF])
          refine wpAnyJ_take 2 (v := ?_) (by first | exact hF | exact wideFn) (HS21.out _ Bd.out) rfl (by kernel_rfl) (by kernel_rfl) (by kernel_rfl) (by kernel_rfl) rfl ?_ (by first | exact fun _ _ _ h => h | exact fun _ _ _ h => hQ2 _ _ _ _ _ h) ?_
          rotate_left
          · intro W hSW
            simp only [glA, glB, glC]
            (try dsimp only at hSW)
            go_simp
            with_reducible rfl
          (try simp only [glA, glB, glC, Act.put, glD, glE, glF])
          refine wpAnyJ_take 3 (v := ?_) (by first | exact hF | exact wideFn) (HS21.out _ Bd.out) rfl (by kernel_rfl) (by kernel_rfl) (by kernel_rfl) (by kernel_rfl) rfl ?_ (by first | exact fun _ _ _ h => h | exact fun _ _ _ h => hQ2 _ _ _ _ _ h) ?_
          rotate_left
          · intro W hSW
            simp only [glA, glB, glC]
            (try dsimp only at hSW)
            go_simp
            with_reducible rfl
          (try simp only [glA, glB, glC, Act.put, glD, glE, glF])
          refine wpAnyJ_take 4 (v := ?_) (by first | exact hF | exact wideFn) (HS21.out _ Bd.out) rfl (by kernel_rfl) (by kernel_rfl) (by kernel_rfl) (by kernel_rfl) rfl ?_ (by first | exact fun _ _ _ h => h | exact fun _ _ _ h => hQ2 _ _ _ _ _ h) ?_
          rotate_left
          · intro W hSW
            simp only [glA, glB, glC]
            (try dsimp only at hSW)
            go_simp
            with_reducible rfl
          (try simp only [glA, glB, glC, Act.put, glD, glE, glF])
          refine wpAnyJ_take 5 (v := ?_) (by first | exact hF | exact wideFn) (HS21.out _ Bd.out) rfl (by kernel_rfl) (by kernel_rfl) (by kernel_rfl) (by kernel_rfl) rfl ?_ (by first | exact fun _ _ _ h => h | exact fun _ _ _ h => hQ2 _ _ _ _ _ h) ?_
          rotate_left
          · intro W hSW
            simp only [glA, glB, glC]
            (try dsimp only at hSW)
            go_simp
            with_reducible rfl
          (try simp only [glA, glB, glC, Act.put, glD, glE, glF])
          refine wpAnyJ_take 6 (v := ?_) (by first | exact hF | exact wideFn) (HS21.out _ Bd.out) rfl (by kernel_rfl) (by kernel_rfl) (by kernel_rfl) (by kernel_rfl) rfl ?_ (by first | exact fun _ _ _ h => h | exact fun _ _ _ h => hQ2 _ _ _ _ _ h) ?_
          rotate_left
          · intro W hSW
            simp only [glA, glB, glC]
            (try dsimp only at hSW)
            go_simp
            with_reducible rfl
          (try simp only [glA, glB, glC, Act.put, glD, glE, glF])
          refine wpAnyJ_take 7 (v := ?_) (by first | exact hF | exact wideFn) (HS21.out _ Bd.out) rfl (by kernel_rfl) (by kernel_rfl) (by kernel_rfl) (by kernel_rfl) rfl ?_ (by first | exact fun _ _ _ h => h | exact fun _ _ _ h => hQ2 _ _ _ _ _ h) ?_
          rotate_left
          · intro W hSW
            simp only [glA, glB, glC]
            (try dsimp only at hSW)
            go_simp
            with_reducible rfl
          (try simp only [glA, glB, glC, Act.put, glD, glE, glF])
          refine wpAnyJ_take 8 (v := ?_) (by first | exact hF | exact wideFn) (HS21.out _ Bd.out) rfl (by kernel_rfl) (by kernel_rfl) (by kernel_rfl) (by kernel_rfl) rfl ?_ (by first | exact fun _ _ _ h => h | exact fun _ _ _ h => hQ2 _ _ _ _ _ h) ?_
          rotate_left
          · intro W hSW
            simp only [glA, glB, glC]
            (try dsimp only at hSW)
            go_simp
            with_reducible rfl
          (try simp only [glA, glB, glC, Act.put, glD, glE, glF])
          refine wpAnyJ_take 9 (v := ?_) (by first | exact hF | exact wideFn) (HS21.out _ Bd.out) rfl (by kernel_rfl) (by kernel_rfl) (by kernel_rfl) (by kernel_rfl) rfl ?_ (by first | exact fun _ _ _ h => h | exact fun _ _ _ h => hQ2 _ _ _ _ _ h) ?_
          rotate_left
          · intro W hSW
            simp only [glA, glB, glC]
            (try dsimp only at hSW)
            go_simp
            with_reducible rfl
          (try simp only [glA, glB, glC, Act.put, glD, glE, glF])
          refine wpAnyJ_take 10 (v := ?_) (by first | exact hF | exact wideFn) (HS21.out _ Bd.out) rfl (by kernel_rfl) (by kernel_rfl) (by kernel_rfl) (by kernel_rfl) rfl ?_ (by first | exact fun _ _ _ h => h | exact fun _ _ _ h => hQ2 _ _ _ _ _ h) ?_
          rotate_left
          · intro W hSW
            simp only [glA, glB, glC]
            (try dsimp only at hSW)
            go_simp
            with_reducible rfl
          (try simp only [glA, glB, glC, Act.put, glD, glE, glF])
          refine wpAnyJ_take 11 (v := ?_) (by first | exact hF | exact wideFn) (HS21.out _ Bd.out) rfl (by kernel_rfl) (by kernel_rfl) (by kernel_rfl) (by kernel_rfl) rfl ?_ (by first | exact fun _ _ _ h => h | exact fun _ _ _ h => hQ2 _ _ _ _ _ h) ?_
          rotate_left
          · intro W hSW
            simp only [glA, glB, glC]
            (try dsimp only at hSW)
            go_simp
            with_reducible rfl
          (try simp only [glA, glB, glC, Act.put, glD, glE, glF])
          refine wpAnyJ_take 12 (v := ?_) (by first | exact hF | exact wideFn) (HS21.out _ Bd.out) rfl (by kernel_rfl) (by kernel_rfl) (by kernel_rfl) (by kernel_rfl) rfl ?_ (by first | exact fun _ _ _ h => h | exact fun _ _ _ h => hQ2 _ _ _ _ _ h) ?_
          rotate_left
          · intro W hSW
            simp only [glA, glB, glC]
            (try dsimp only at hSW)
            go_simp
            with_reducible rfl
          (try simp only [glA, glB, glC, Act.put, glD, glE, glF])
          refine wpAnyJ_take 13 (v := ?_) (by first | exact hF | exact wideFn) (HS21.out _ Bd.out) rfl (by kernel_rfl) (by kernel_rfl) (by kernel_rfl) (by kernel_rfl) rfl ?_ (by first | exact fun _ _ _ h => h | exact fun _ _ _ h => hQ2 _ _ _ _ _ h) ?_
          rotate_left
          · intro W hSW
            simp only [glA, glB, glC]
            (try dsimp only at hSW)
            go_simp
            with_reducible rfl
          (try simp only [glA, glB, glC, Act.put, glD, glE, glF])
          have Be := hide (Bd.out.alloc Bd.out.size (.cells #[.slice none 0 0, .int .i64 0, .int .i64 0] 73))
          have X1 := Blk.new wb 73 #[.slice none 0 0, .int .i64 0, .int .i64 0]
          refine wpAnyJ_one 14 rfl (by kernel_rfl) (fun K hK => ?_)
          simp only [glA, glB, glC]
          go_simp
          refine hK.out _ _ (fun _ => HS21.out _ Be.out) ?_
          clear hK K
          (try simp only [glA, glB, glC, Act.put, glD, glE, glF])
          obtain ⟨X, hX⟩ : ∃ x, wb.heap.size = x := ⟨_, rfl⟩
          have HLO : Hid (w0.heap.size ≤ X) := hide (by rw [← hX]; exact Bd2.out.size)
          have HLO1 : Hid (w1.heap.size ≤ X) := hide (by rw [← hX]; exact Bd.out.size)
          have Be2 := hide (Bd2.out.alloc Bd2.out.size (.cells #[.slice none 0 0, .int .i64 0, .int .i64 0] 73))
          have HOC2 := hide (OwnJ.ext HOC.out ((Below.refl wb.heap.size wb).alloc (Nat.le_refl _) (.cells #[.slice none 0 0, .int .i64 0, .int .i64 0] 73)))
          have HOO2 := hide (OwnJ.ext HOO.out ((Below.refl wb.heap.size wb).alloc (Nat.le_refl _) (.cells #[.slice none 0 0, .int .i64 0, .int .i64 0] 73)))
          rw [hX] at X1 ⊢
          generalize (wb.alloc (.cells #[.slice none 0 0, .int .i64 0, .int .i64 0] 73)) = wc at Be Be2 X1 HOC2 HOO2 ⊢
          obtain ⟨-, z0, z1, z2, z3, z4, z5⟩ := blk3 X1
          have HX3 := hide (X1.set3 (.slice none 0 0) (.int .i64 ask) (.int .i64 sy))
          have HPV : Hid (PvI w0 (((wc.setCell ⟨X, 0, none⟩ (.slice none 0 0)).setCell ⟨X, 1, none⟩ (.int .i64 ask)).setCell ⟨X, 2, none⟩ (.int .i64 sy)) X VC0 VO0 (.slice none 0 0) [] [] [] ask sy) := hide (by
            have kx : KX wc (((wc.setCell ⟨X, 0, none⟩ (.slice none 0 0)).setCell ⟨X, 1, none⟩ (.int .i64 ask)).setCell ⟨X, 2, none⟩ (.int .i64 sy)) X none := (((KX.refl wc X none).set 0 _).set 1 _).set 2 _
            exact ⟨((Be2.out.setCell (p := ⟨X, 0, none⟩) HLO.out _).setCell (p := ⟨X, 1, none⟩) HLO.out _).setCell (p := ⟨X, 2, none⟩) HLO.out _, HLO.out, HX3.out,
              own_kx HOC2.out kx (own_blk_ne HOC2.out X1 (by decide)) none_or, own_kx HOO2.out kx (own_blk_ne HOO2.out X1 (by decide)) none_or, HNE.out, OwnQ.nil _ _⟩)
          refine wpAnyJ_one 15 rfl (by kernel_rfl) (fun K hK => ?_)
          simp only [glA, glB, glC]
          go_simp
          refine hK.out _ _ (fun h => absurd h (by rw [show lastOp _ _ _ = true from by kernel_rfl]; simp)) ?_
          clear hK K
          (try simp only [glA, glB, glC, Act.put, glD, glE, glF])
          refine wpAnyJ_done (by kernel_rfl) ?_
          clear z0 z1 z2 z3 z4 z5 X1 HX3 HOC HOO HOC2 HOO2 Bd Bd2 Be Be2 HBA BA HNE hX q1 q2 q3 q4 q5 q6
          generalize (((wc.setCell ⟨X, 0, none⟩ (.slice none 0 0)).setCell ⟨X, 1, none⟩ (.int .i64 ask)).setCell ⟨X, 2, none⟩ (.int .i64 sy)) = we at HPV ⊢
          as_aux_lemma =>
          -- the lists of the two cases, and the tests
          have Be := hide (BR.out.trans (HPV.out.below.mono BR.out.size))
          obtain ⟨x0, x1, x2⟩ := HSB.out _ Be.out
          have HP0 : Hid (PvI w0 we X VC0 VO0 (.slice none 0 0) (pkF s.fs u 1 0) (pkF s.fs u 16 0) (oneT (pkF s.fs u 1 0)) ask sy) := HPV
          clear HPV
          go_wp2_with fail
          go_loopw [14, 15, 17] (fun v14 v15 v17 wx => ∃ (k : Nat) (TV : Value), k ≤ nf ∧ v17 = .int .i64 k ∧ Hid (PvI w0 wx X v14 v15 TV (pkF s.fs u 1 k) (pkF s.fs u 16 k) (oneT (pkF s.fs u 1 k)) ask sy)) (fun _ _ v17 _ => nf - (intOf v17).toNat)
          case atStart => exact ⟨0, _, Nat.zero_le _, rfl, HP0⟩
          case round =>
            obtain ⟨k, TV, hk, rfl, HPV⟩ := hrel
            have Bx := hide (BR.out.trans (HPV.out.below.mono BR.out.size))
            clear x0 x1 x2 HP0
            obtain ⟨x0, x1, x2⟩ := HSB.out _ Bx.out
            by_cases hkl : k < nf
            · -- BEGINb3
              as_aux_lemma =>
              have hkl' : (k : Int) < (nf : Int) := by omega
              have k0 : (0 : Int) ≤ (k : Int) := by omega
              have hstk : IntKind.i64.wrap ((k : Int) + 1) = ((k + 1 : Nat) : Int) := by rw [IntWalk.i64_in _ (by omega)]; omega
              have hkp : (k : Int) < (np : Int) := by omega
              obtain ⟨fb, fo, hfa, hfb, hfc⟩ := VR1.at_ HD.out.fs (k := k) (by rw [HN.out.1]; exact hkl)
              obtain ⟨fv, hfv⟩ : ∃ x, s.fs.getD k 0 = x := ⟨_, rfl⟩
              have hf4 := fsB_at HOK.out.fs k (by rw [HN.out.1]; exact hkl)
              rw [hfv] at hfc hf4
              obtain ⟨uk, huk⟩ : ∃ x, u k = x := ⟨_, rfl⟩
              have hu2 := HU.out k (by omega)
              rw [huk] at hu2
              have HS25 : Hid (∀ W, Below w1.heap.size w1 W → (W.cell? ⟨G, 0, none⟩ = some (.slice (some ⟨fb, fo, none⟩) nf d.fc) ∧ W.cell? ⟨fb, fo + k, none⟩ = some (.int .i64 fv) ∧ W.cell? ⟨pb, po + k, none⟩ = some (.int .u8 uk))) := hide fun W h => ⟨by rw [← hfa]; exact (HSB.out W h).1, (h.cell (p := ⟨fb, fo + k, none⟩) hfb).trans hfc, by
                have := HPC2.out W h k (by omega)
                rwa [huk] at this⟩
              clear hfa
              obtain ⟨c1, hc1⟩ : ∃ x, uk % fv = x := ⟨_, rfl⟩
              obtain ⟨u16, hu16⟩ : ∃ x, uk / 16 = x := ⟨_, rfl⟩
              obtain ⟨o1, ho1⟩ : ∃ x, u16 % fv = x := ⟨_, rfl⟩
              have hc3 : 0 ≤ c1 ∧ c1 ≤ 3 := by
                have h1 := Int.emod_nonneg uk (show fv ≠ 0 by omega)
                have h2 := Int.emod_lt_of_pos uk (show 0 < fv by omega)
                omega
              have ho3 : 0 ≤ o1 ∧ o1 ≤ 3 := by
                have h1 := Int.emod_nonneg u16 (show fv ≠ 0 by omega)
                have h2 := Int.emod_lt_of_pos u16 (show 0 < fv by omega)
                omega
              have h16 : 0 ≤ u16 ∧ u16 ≤ 15 := by omega
              have e1 : pkF s.fs u 1 (k + 1) = pkF s.fs u 1 k ++ [c1] := by rw [pkF_succ, hfv, huk, Int.ediv_one, hc1]
              have e2 : pkF s.fs u 16 (k + 1) = pkF s.fs u 16 k ++ [o1] := by rw [pkF_succ, hfv, huk, hu16, ho1]
              have e3 : oneT (pkF s.fs u 1 (k + 1)) = oneT (pkF s.fs u 1 k) ++ [((k : Int), ((2 ^ c1.toNat : Nat) : Int))] := by rw [e1, oneT_succ, pkF_len]
              have HE := hide (And.intro e1 (And.intro e2 e3))
              have q1 : IntKind.i64.wrap uk = uk := IntWalk.i64_in _ (by omega)
              have q2 : uk.tmod fv = c1 := by rw [Int.tmod_eq_emod_of_nonneg (by omega)]; exact hc1
              have q3 : IntKind.i64.wrap c1 = c1 := IntWalk.i64_in _ (by omega)
              have q4 : uk.tdiv 16 = u16 := by rw [Int.tdiv_eq_ediv_of_nonneg (by omega)]; exact hu16
              have q5 : IntKind.u8.wrap u16 = u16 := by
                rcases (by omega : u16 = 0 ∨ u16 = 1 ∨ u16 = 2 ∨ u16 = 3 ∨ u16 = 4 ∨ u16 = 5 ∨ u16 = 6 ∨ u16 = 7 ∨ u16 = 8 ∨ u16 = 9 ∨ u16 = 10 ∨ u16 = 11 ∨ u16 = 12 ∨ u16 = 13 ∨ u16 = 14 ∨ u16 = 15) with h | h | h | h | h | h | h | h | h | h | h | h | h | h | h | h <;> rw [h] <;> decide
              have q6 : IntKind.i64.wrap u16 = u16 := IntWalk.i64_in _ (by omega)
              have q7 : u16.tmod fv = o1 := by rw [Int.tmod_eq_emod_of_nonneg (by omega)]; exact ho1
              have q8 : IntKind.i64.wrap o1 = o1 := IntWalk.i64_in _ (by omega)
              have hf0 : ¬ fv = 0 := by omega
              have hfm : ¬ fv = -1 := by omega
              obtain ⟨CA, cc, hv⟩ := own_shape HPV.out.cO
              rw [pkF_len] at hv
              subst hv
              obtain ⟨OA, oc, hv⟩ := own_shape HPV.out.oO
              rw [pkF_len] at hv
              subst hv
              obtain ⟨QA, qc, hv⟩ := own_shape HPV.out.tO
              rw [oneT_len, pkF_len] at hv
              subst hv
              clear hfc hfv hf4 huk hu2 hc1 hu16 ho1 e1 e2 e3
              -- the first case
              go_upto_region 25 with fail
              clear x0 x1 x2
              have Bd := hide (Bx.out.trans ((Below.refl wr.heap.size wr).drew.mono Bx.out.size))
              replace HPV := hide (HPV.out.ext (Below.refl wr.heap.size wr).drew)
              refine wp_region_J (fun W : World => (W.cell? ⟨G, 0, none⟩ = some (.slice (some ⟨fb, fo, none⟩) nf d.fc) ∧ W.cell? ⟨fb, fo + k, none⟩ = some (.int .i64 fv) ∧ W.cell? ⟨pb, po + k, none⟩ = some (.int .u8 uk))) (by kernel_rfl) ?_
              generalize wr.drew = wd at Bd HPV ⊢
              refine wpAnyJ_take 0 (v := ?_) (by first | exact hF | exact wideFn) (HS25.out _ Bd.out) rfl (by kernel_rfl) (by kernel_rfl) (by kernel_rfl) (by kernel_rfl) rfl ?_ (by first | exact fun _ _ _ h => h | exact fun _ _ _ h => hQ2 _ _ _ _ _ h) ?_
              rotate_left
              · intro W hSW
                simp only [glA, glB, glC]
                (try dsimp only at hSW)
                go_simp
                with_reducible rfl
              (try simp only [glA, glB, glC, Act.put, glD, glE, glF])
              refine wpAnyJ_take 1 (v := ?_) (by first | exact hF | exact wideFn) (HS25.out _ Bd.out) rfl (by kernel_rfl) (by kernel_rfl) (by kernel_rfl) (by kernel_rfl) rfl ?_ (by first | exact fun _ _ _ h => h | exact fun _ _ _ h => hQ2 _ _ _ _ _ h) ?_
              rotate_left
              · intro W hSW
                simp only [glA, glB, glC]
                (try dsimp only at hSW)
                go_simp
                with_reducible rfl
              (try simp only [glA, glB, glC, Act.put, glD, glE, glF])
              refine wpAnyJ_take 2 (v := ?_) (by first | exact hF | exact wideFn) (HS25.out _ Bd.out) rfl (by kernel_rfl) (by kernel_rfl) (by kernel_rfl) (by kernel_rfl) rfl ?_ (by first | exact fun _ _ _ h => h | exact fun _ _ _ h => hQ2 _ _ _ _ _ h) ?_
              rotate_left
              · intro W hSW
                simp only [glA, glB, glC]
                (try dsimp only at hSW)
                go_simp
                with_reducible rfl
              (try simp only [glA, glB, glC, Act.put, glD, glE, glF])
              refine wpAnyJ_take 3 (v := ?_) (by first | exact hF | exact wideFn) (HS25.out _ Bd.out) rfl (by kernel_rfl) (by kernel_rfl) (by kernel_rfl) (by kernel_rfl) rfl ?_ (by first | exact fun _ _ _ h => h | exact fun _ _ _ h => hQ2 _ _ _ _ _ h) ?_
              rotate_left
              · intro W hSW
                simp only [glA, glB, glC]
                (try dsimp only at hSW)
                go_simp
                with_reducible rfl
              (try simp only [glA, glB, glC, Act.put, glD, glE, glF])
              refine wpAnyJ_take 4 (v := ?_) (by first | exact hF | exact wideFn) (HS25.out _ Bd.out) rfl (by kernel_rfl) (by kernel_rfl) (by kernel_rfl) (by kernel_rfl) rfl ?_ (by first | exact fun _ _ _ h => h | exact fun _ _ _ h => hQ2 _ _ _ _ _ h) ?_
              rotate_left
              · intro W hSW
                simp only [glA, glB, glC]
                (try dsimp only at hSW)
                go_simp
                with_reducible rfl
              (try simp only [glA, glB, glC, Act.put, glD, glE, glF])
              refine wpAnyJ_take 5 (v := ?_) (by first | exact hF | exact wideFn) (HS25.out _ Bd.out) rfl (by kernel_rfl) (by kernel_rfl) (by kernel_rfl) (by kernel_rfl) rfl ?_ (by first | exact fun _ _ _ h => h | exact fun _ _ _ h => hQ2 _ _ _ _ _ h) ?_
              rotate_left
              · intro W hSW
                simp only [glA, glB, glC]
                (try dsimp only at hSW)
                go_simp
                with_reducible rfl
              (try simp only [glA, glB, glC, Act.put, glD, glE, glF])
              refine wpAnyJ_take 6 (v := ?_) (by first | exact hF | exact wideFn) (HS25.out _ Bd.out) rfl (by kernel_rfl) (by kernel_rfl) (by kernel_rfl) (by kernel_rfl) rfl ?_ (by first | exact fun _ _ _ h => h | exact fun _ _ _ h => hQ2 _ _ _ _ _ h) ?_
              rotate_left
              · intro W hSW
                simp only [glA, glB, glC]
                (try dsimp only at hSW)
                go_simp
                with_reducible rfl
              (try simp only [glA, glB, glC, Act.put, glD, glE, glF])
              refine wpAnyJ_take 7 (v := ?_) (by first | exact hF | exact wideFn) (HS25.out _ Bd.out) rfl (by kernel_rfl) (by kernel_rfl) (by kernel_rfl) (by kernel_rfl) rfl ?_ (by first | exact fun _ _ _ h => h | exact fun _ _ _ h => hQ2 _ _ _ _ _ h) ?_
              rotate_left
              · intro W hSW
                simp only [glA, glB, glC]
                (try dsimp only at hSW)
                go_simp
                with_reducible rfl
              (try simp only [glA, glB, glC, Act.put, glD, glE, glF])
              refine wpAnyJ_take 8 (v := ?_) (by first | exact hF | exact wideFn) (HS25.out _ Bd.out) rfl (by kernel_rfl) (by kernel_rfl) (by kernel_rfl) (by kernel_rfl) rfl ?_ (by first | exact fun _ _ _ h => h | exact fun _ _ _ h => hQ2 _ _ _ _ _ h) ?_
              rotate_left
              · intro W hSW
                simp only [glA, glB, glC]
                (try dsimp only at hSW)
                go_simp
                with_reducible rfl
              (try simp only [glA, glB, glC, Act.put, glD, glE, glF])
              refine wpAnyJ_take 9 (v := ?_) (by first | exact hF | exact wideFn) (HS25.out _ Bd.out) rfl (by kernel_rfl) (by kernel_rfl) (by kernel_rfl) (by kernel_rfl) rfl ?_ (by first | exact fun _ _ _ h => h | exact fun _ _ _ h => hQ2 _ _ _ _ _ h) ?_
              rotate_left
              · intro W hSW
                simp only [glA, glB, glC]
                (try dsimp only at hSW)
                go_simp
                with_reducible rfl
              (try simp only [glA, glB, glC, Act.put, glD, glE, glF])
              refine wpAnyJ_take 10 (v := ?_) (by first | exact hF | exact wideFn) (HS25.out _ Bd.out) rfl (by kernel_rfl) (by kernel_rfl) (by kernel_rfl) (by kernel_rfl) rfl ?_ (by first | exact fun _ _ _ h => h | exact fun _ _ _ h => hQ2 _ _ _ _ _ h) ?_
              rotate_left
              · intro W hSW
                simp only [glA, glB, glC]
                (try dsimp only at hSW)
                go_simp
                with_reducible rfl
              (try simp only [glA, glB, glC, Act.put, glD, glE, glF])
              refine wpAnyJ_take 11 (v := ?_) (by first | exact hF | exact wideFn) (HS25.out _ Bd.out) rfl (by kernel_rfl) (by kernel_rfl) (by kernel_rfl) (by kernel_rfl) rfl ?_ (by first | exact fun _ _ _ h => h | exact fun _ _ _ h => hQ2 _ _ _ _ _ h) ?_
              rotate_left
              · intro W hSW
                simp only [glA, glB, glC]
                (try dsimp only at hSW)
                go_simp
                with_reducible rfl
              (try simp only [glA, glB, glC, Act.put, glD, glE, glF])
              have Be := hide (Bd.out.alloc Bd.out.size (.cells #[.int .i64 c1] 3))
              refine wpAnyJ_one 12 rfl (by kernel_rfl) (fun K hK => ?_)
              simp only [glA, glB, glC]
              go_simp
              refine hK.out _ _ (fun _ => HS25.out _ Be.out) ?_
              clear hK K
              (try simp only [glA, glB, glC, Act.put, glD, glE, glF])
              obtain ⟨A2, cc2, w2', hrun, hpv⟩ := HPV.out.pushC c1 (by rw [pkF_len]; omega)
              rw [pkF_len] at hrun hpv
              have HRUN := hide hrun
              have HPV2 := hide hpv
              have Bf := hide (BR.out.trans (hpv.below.mono BR.out.size))
              clear hrun hpv
              refine wpAnyJ_one 13 rfl (by kernel_rfl) (fun K hK => ?_)
              rw [if_pos (by rfl)]
              refine wpIn_append_run (.tmp 142) (.tmp 154) 36 wideFn rfl rfl rfl HRUN.out ?_
              refine hK.out _ _ (fun _ => HS25.out _ Bf.out) ?_
              clear hK K
              (try simp only [glA, glB, glC, Act.put, glD, glE, glF])
              refine wpAnyJ_take 14 (v := ?_) (by first | exact hF | exact wideFn) (HS25.out _ Bf.out) rfl (by kernel_rfl) (by kernel_rfl) (by kernel_rfl) (by kernel_rfl) rfl ?_ (by first | exact fun _ _ _ h => h | exact fun _ _ _ h => hQ2 _ _ _ _ _ h) ?_
              rotate_left
              · intro W hSW
                simp only [glA, glB, glC]
                (try dsimp only at hSW)
                go_simp
                with_reducible rfl
              (try simp only [glA, glB, glC, Act.put, glD, glE, glF])
              refine wpAnyJ_done (by kernel_rfl) ?_
              clear HPV HRUN Bd Be Bx
              as_aux_lemma =>
              -- the other one
              go_upto_region 26 with fail
              have Bd := hide (Bf.out.trans ((Below.refl w2'.heap.size w2').drew.mono Bf.out.size))
              replace HPV2 := hide (HPV2.out.ext (Below.refl w2'.heap.size w2').drew)
              refine wp_region_J (fun W : World => (W.cell? ⟨G, 0, none⟩ = some (.slice (some ⟨fb, fo, none⟩) nf d.fc) ∧ W.cell? ⟨fb, fo + k, none⟩ = some (.int .i64 fv) ∧ W.cell? ⟨pb, po + k, none⟩ = some (.int .u8 uk))) (by kernel_rfl) ?_
              generalize w2'.drew = wd2 at Bd HPV2 ⊢
              refine wpAnyJ_take 0 (v := ?_) (by first | exact hF | exact wideFn) (HS25.out _ Bd.out) rfl (by kernel_rfl) (by kernel_rfl) (by kernel_rfl) (by kernel_rfl) rfl ?_ (by first | exact fun _ _ _ h => h | exact fun _ _ _ h => hQ2 _ _ _ _ _ h) ?_
              rotate_left
              · intro W hSW
                simp only [glA, glB, glC]
                (try dsimp only at hSW)
                go_simp
                with_reducible rfl
              (try simp only [glA, glB, glC, Act.put, glD, glE, glF])
              refine wpAnyJ_take 1 (v := ?_) (by first | exact hF | exact wideFn) (HS25.out _ Bd.out) rfl (by kernel_rfl) (by kernel_rfl) (by kernel_rfl) (by kernel_rfl) rfl ?_ (by first | exact fun _ _ _ h => h | exact fun _ _ _ h => hQ2 _ _ _ _ _ h) ?_
              rotate_left
              · intro W hSW
                simp only [glA, glB, glC]
                (try dsimp only at hSW)
                go_simp
                with_reducible rfl
              (try simp only [glA, glB, glC, Act.put, glD, glE, glF])
              refine wpAnyJ_take 2 (v := ?_) (by first | exact hF | exact wideFn) (HS25.out _ Bd.out) rfl (by kernel_rfl) (by kernel_rfl) (by kernel_rfl) (by kernel_rfl) rfl ?_ (by first | exact fun _ _ _ h => h | exact fun _ _ _ h => hQ2 _ _ _ _ _ h) ?_
              rotate_left
              · intro W hSW
                simp only [glA, glB, glC]
                (try dsimp only at hSW)
                go_simp
                with_reducible rfl
              (try simp only [glA, glB, glC, Act.put, glD, glE, glF])
              refine wpAnyJ_take 3 (v := ?_) (by first | exact hF | exact wideFn) (HS25.out _ Bd.out) rfl (by kernel_rfl) (by kernel_rfl) (by kernel_rfl) (by kernel_rfl) rfl ?_ (by first | exact fun _ _ _ h => h | exact fun _ _ _ h => hQ2 _ _ _ _ _ h) ?_
              rotate_left
              · intro W hSW
                simp only [glA, glB, glC]
                (try dsimp only at hSW)
                go_simp
                with_reducible rfl
              (try simp only [glA, glB, glC, Act.put, glD, glE, glF])
              refine wpAnyJ_take 4 (v := ?_) (by first | exact hF | exact wideFn) (HS25.out _ Bd.out) rfl (by kernel_rfl) (by kernel_rfl) (by kernel_rfl) (by kernel_rfl) rfl ?_ (by first | exact fun _ _ _ h => h | exact fun _ _ _ h => hQ2 _ _ _ _ _ h) ?_
              rotate_left
              · intro W hSW
                simp only [glA, glB, glC]
                (try dsimp only at hSW)
                go_simp
                with_reducible rfl
              (try simp only [glA, glB, glC, Act.put, glD, glE, glF])
              refine wpAnyJ_take 5 (v := ?_) (by first | exact hF | exact wideFn) (HS25.out _ Bd.out) rfl (by kernel_rfl) (by kernel_rfl) (by kernel_rfl) (by kernel_rfl) rfl ?_ (by first | exact fun _ _ _ h => h | exact fun _ _ _ h => hQ2 _ _ _ _ _ h) ?_
              rotate_left
              · intro W hSW
                simp only [glA, glB, glC]
                (try dsimp only at hSW)
                go_simp
                with_reducible rfl
              (try simp only [glA, glB, glC, Act.put, glD, glE, glF])
              refine wpAnyJ_take 6 (v := ?_) (by first | exact hF | exact wideFn) (HS25.out _ Bd.out) rfl (by kernel_rfl) (by kernel_rfl) (by kernel_rfl) (by kernel_rfl) rfl ?_ (by first | exact fun _ _ _ h => h | exact fun _ _ _ h => hQ2 _ _ _ _ _ h) ?_
              rotate_left
              · intro W hSW
                simp only [glA, glB, glC]
                (try dsimp only at hSW)
                go_simp
                with_reducible rfl
              (try simp only [glA, glB, glC, Act.put, glD, glE, glF])
              refine wpAnyJ_take 7 (v := ?_) (by first | exact hF | exact wideFn) (HS25.out _ Bd.out) rfl (by kernel_rfl) (by kernel_rfl) (by kernel_rfl) (by kernel_rfl) rfl ?_ (by first | exact fun _ _ _ h => h | exact fun _ _ _ h => hQ2 _ _ _ _ _ h) ?_
              rotate_left
              · intro W hSW
                simp only [glA, glB, glC]
                (try dsimp only at hSW)
                go_simp
                with_reducible rfl
              (try simp only [glA, glB, glC, Act.put, glD, glE, glF])
              refine wpAnyJ_take 8 (v := ?_) (by first | exact hF | exact wideFn) (HS25.out _ Bd.out) rfl (by kernel_rfl) (by kernel_rfl) (by kernel_rfl) (by kernel_rfl) rfl ?_ (by first | exact fun _ _ _ h => h | exact fun _ _ _ h => hQ2 _ _ _ _ _ h) ?_
              rotate_left
              · intro W hSW
                simp only [glA, glB, glC]
                (try dsimp only at hSW)
                go_simp
                with_reducible rfl
              (try simp only [glA, glB, glC, Act.put, glD, glE, glF])
              refine wpAnyJ_take 9 (v := ?_) (by first | exact hF | exact wideFn) (HS25.out _ Bd.out) rfl (by kernel_rfl) (by kernel_rfl) (by kernel_rfl) (by kernel_rfl) rfl ?_ (by first | exact fun _ _ _ h => h | exact fun _ _ _ h => hQ2 _ _ _ _ _ h) ?_
              rotate_left
              · intro W hSW
                simp only [glA, glB, glC]
                (try dsimp only at hSW)
                go_simp
                with_reducible rfl
              (try simp only [glA, glB, glC, Act.put, glD, glE, glF])
              refine wpAnyJ_take 10 (v := ?_) (by first | exact hF | exact wideFn) (HS25.out _ Bd.out) rfl (by kernel_rfl) (by kernel_rfl) (by kernel_rfl) (by kernel_rfl) rfl ?_ (by first | exact fun _ _ _ h => h | exact fun _ _ _ h => hQ2 _ _ _ _ _ h) ?_
              rotate_left
              · intro W hSW
                simp only [glA, glB, glC]
                (try dsimp only at hSW)
                go_simp
                with_reducible rfl
              (try simp only [glA, glB, glC, Act.put, glD, glE, glF])
              refine wpAnyJ_take 11 (v := ?_) (by first | exact hF | exact wideFn) (HS25.out _ Bd.out) rfl (by kernel_rfl) (by kernel_rfl) (by kernel_rfl) (by kernel_rfl) rfl ?_ (by first | exact fun _ _ _ h => h | exact fun _ _ _ h => hQ2 _ _ _ _ _ h) ?_
              rotate_left
              · intro W hSW
                simp only [glA, glB, glC]
                (try dsimp only at hSW)
                go_simp
                with_reducible rfl
              (try simp only [glA, glB, glC, Act.put, glD, glE, glF])
              refine wpAnyJ_take 12 (v := ?_) (by first | exact hF | exact wideFn) (HS25.out _ Bd.out) rfl (by kernel_rfl) (by kernel_rfl) (by kernel_rfl) (by kernel_rfl) rfl ?_ (by first | exact fun _ _ _ h => h | exact fun _ _ _ h => hQ2 _ _ _ _ _ h) ?_
              rotate_left
              · intro W hSW
                simp only [glA, glB, glC]
                (try dsimp only at hSW)
                go_simp
                with_reducible rfl
              (try simp only [glA, glB, glC, Act.put, glD, glE, glF])
              have Be := hide (Bd.out.alloc Bd.out.size (.cells #[.int .i64 o1] 3))
              refine wpAnyJ_one 13 rfl (by kernel_rfl) (fun K hK => ?_)
              simp only [glA, glB, glC]
              go_simp
              refine hK.out _ _ (fun _ => HS25.out _ Be.out) ?_
              clear hK K
              (try simp only [glA, glB, glC, Act.put, glD, glE, glF])
              obtain ⟨A3, cc3, w3', hrun, hpv⟩ := HPV2.out.pushO o1 (by rw [pkF_len]; omega)
              rw [pkF_len] at hrun hpv
              have HRUN := hide hrun
              have HPV3 := hide hpv
              have Bg := hide (BR.out.trans (hpv.below.mono BR.out.size))
              clear hrun hpv
              refine wpAnyJ_one 14 rfl (by kernel_rfl) (fun K hK => ?_)
              rw [if_pos (by rfl)]
              refine wpIn_append_run (.tmp 156) (.tmp 169) 36 wideFn rfl rfl rfl HRUN.out ?_
              refine hK.out _ _ (fun _ => HS25.out _ Bg.out) ?_
              clear hK K
              (try simp only [glA, glB, glC, Act.put, glD, glE, glF])
              refine wpAnyJ_take 15 (v := ?_) (by first | exact hF | exact wideFn) (HS25.out _ Bg.out) rfl (by kernel_rfl) (by kernel_rfl) (by kernel_rfl) (by kernel_rfl) rfl ?_ (by first | exact fun _ _ _ h => h | exact fun _ _ _ h => hQ2 _ _ _ _ _ h) ?_
              rotate_left
              · intro W hSW
                simp only [glA, glB, glC]
                (try dsimp only at hSW)
                go_simp
                with_reducible rfl
              (try simp only [glA, glB, glC, Act.put, glD, glE, glF])
              refine wpAnyJ_done (by kernel_rfl) ?_
              clear HPV2 HRUN Bd Be Bf
              as_aux_lemma =>
              -- the test
              obtain ⟨cg, hcg, hcgl, hcc⟩ := own_cellsJ HPV3.out.cO (by rw [List.length_append, pkF_len]; rfl) (by omega)
              subst hcg
              have hck := hcc k (by omega)
              rw [show (pkF s.fs u 1 k ++ [c1]).getD k 0 = c1 from by
                rw [List.getD_eq_getElem?_getD, List.getElem?_append_right (by rw [pkF_len]; exact Nat.le_refl _), pkF_len, Nat.sub_self]; rfl] at hck
              obtain ⟨P, hP⟩ : ∃ x : Int, ((2 ^ c1.toNat : Nat) : Int) = x := ⟨_, rfl⟩
              have hPb : 1 ≤ P ∧ P ≤ 8 := by
                rcases (by omega : c1 = 0 ∨ c1 = 1 ∨ c1 = 2 ∨ c1 = 3) with h | h | h | h <;> (rw [← hP, h]; decide)
              have hPi : (2 : Int) ^ c1.toNat = P := by rw [← hP]; simp
              have p1 : IntKind.u64.wrap c1 = c1 := IntWalk.u64_in _ (by omega)
              have p2 : IntKind.i64.wrap (1 * 2 ^ c1.toNat) = P := by rw [Int.one_mul, hPi]; exact IntWalk.i64_in _ (by omega)
              have p3 : IntKind.i64.wrap (2 ^ c1.toNat) = P := by rw [hPi]; exact IntWalk.i64_in _ (by omega)
              have p4 : c1 ≤ 64 := by omega
              have p5 : 0 ≤ c1 := hc3.1
              have hkk : (k : Int) < (k : Int) + 1 := by omega
              rw [hP] at HE
              have HS27 : Hid (∀ W, Blk W X 73 #[.slice QA k qc, .int .i64 ask, .int .i64 sy] → OwnJ W w0.heap.size (.slice (some ⟨cg, 0, none⟩) (k + 1) cc2) (pkF s.fs u 1 k ++ [c1]) → (W.cell? ⟨X, 0, none⟩ = some (.slice QA k qc) ∧ W.cell? ⟨cg, k, none⟩ = some (.int .i64 c1))) := hide fun W h1 h2 => by
                obtain ⟨cg', hcg', -, hcc'⟩ := own_cellsJ h2 (by rw [List.length_append, pkF_len]; rfl) (by omega)
                injection hcg' with hcg'
                injection hcg' with hcg'
                subst hcg'
                have hck' := hcc' k (by omega)
                rw [show (pkF s.fs u 1 k ++ [c1]).getD k 0 = c1 from by
                  rw [List.getD_eq_getElem?_getD, List.getElem?_append_right (by rw [pkF_len]; exact Nat.le_refl _), pkF_len, Nat.sub_self]; rfl] at hck'
                exact ⟨(blk3 h1).2.1, hck'⟩
              clear hcc hck hP hPi hcgl
              go_upto_region 27 with fail
              replace HPV3 := hide (HPV3.out.ext (Below.refl w3'.heap.size w3').drew)
              refine wp_region_J (fun W : World => (W.cell? ⟨X, 0, none⟩ = some (.slice QA k qc) ∧ W.cell? ⟨cg, k, none⟩ = some (.int .i64 c1))) (by kernel_rfl) ?_
              generalize w3'.drew = wd3 at HPV3 ⊢
              refine wpAnyJ_take 0 (v := ?_) (by first | exact hF | exact wideFn) (HS27.out _ HPV3.out.blk HPV3.out.cO) rfl (by kernel_rfl) (by kernel_rfl) (by kernel_rfl) (by kernel_rfl) rfl ?_ (by first | exact fun _ _ _ h => h | exact fun _ _ _ h => hQ2 _ _ _ _ _ h) ?_
              rotate_left
              · intro W hSW
                simp only [glA, glB, glC]
                (try dsimp only at hSW)
                go_simp
                with_reducible rfl
              (try simp only [glA, glB, glC, Act.put, glD, glE, glF])
              refine wpAnyJ_take 1 (v := ?_) (by first | exact hF | exact wideFn) (HS27.out _ HPV3.out.blk HPV3.out.cO) rfl (by kernel_rfl) (by kernel_rfl) (by kernel_rfl) (by kernel_rfl) rfl ?_ (by first | exact fun _ _ _ h => h | exact fun _ _ _ h => hQ2 _ _ _ _ _ h) ?_
              rotate_left
              · intro W hSW
                simp only [glA, glB, glC]
                (try dsimp only at hSW)
                go_simp
                with_reducible rfl
              (try simp only [glA, glB, glC, Act.put, glD, glE, glF])
              refine wpAnyJ_take 2 (v := ?_) (by first | exact hF | exact wideFn) (HS27.out _ HPV3.out.blk HPV3.out.cO) rfl (by kernel_rfl) (by kernel_rfl) (by kernel_rfl) (by kernel_rfl) rfl ?_ (by first | exact fun _ _ _ h => h | exact fun _ _ _ h => hQ2 _ _ _ _ _ h) ?_
              rotate_left
              · intro W hSW
                simp only [glA, glB, glC]
                (try dsimp only at hSW)
                go_simp
                with_reducible rfl
              (try simp only [glA, glB, glC, Act.put, glD, glE, glF])
              refine wpAnyJ_take 3 (v := ?_) (by first | exact hF | exact wideFn) (HS27.out _ HPV3.out.blk HPV3.out.cO) rfl (by kernel_rfl) (by kernel_rfl) (by kernel_rfl) (by kernel_rfl) rfl ?_ (by first | exact fun _ _ _ h => h | exact fun _ _ _ h => hQ2 _ _ _ _ _ h) ?_
              rotate_left
              · intro W hSW
                simp only [glA, glB, glC]
                (try dsimp only at hSW)
                go_simp
                with_reducible rfl
              (try simp only [glA, glB, glC, Act.put, glD, glE, glF])
              refine wpAnyJ_take 4 (v := ?_) (by first | exact hF | exact wideFn) (HS27.out _ HPV3.out.blk HPV3.out.cO) rfl (by kernel_rfl) (by kernel_rfl) (by kernel_rfl) (by kernel_rfl) rfl ?_ (by first | exact fun _ _ _ h => h | exact fun _ _ _ h => hQ2 _ _ _ _ _ h) ?_
              rotate_left
              · intro W hSW
                simp only [glA, glB, glC]
                (try dsimp only at hSW)
                go_simp
                with_reducible rfl
              (try simp only [glA, glB, glC, Act.put, glD, glE, glF])
              refine wpAnyJ_take 5 (v := ?_) (by first | exact hF | exact wideFn) (HS27.out _ HPV3.out.blk HPV3.out.cO) rfl (by kernel_rfl) (by kernel_rfl) (by kernel_rfl) (by kernel_rfl) rfl ?_ (by first | exact fun _ _ _ h => h | exact fun _ _ _ h => hQ2 _ _ _ _ _ h) ?_
              rotate_left
              · intro W hSW
                simp only [glA, glB, glC]
                (try dsimp only at hSW)
                go_simp
                with_reducible rfl
              (try simp only [glA, glB, glC, Act.put, glD, glE, glF])
              refine wpAnyJ_take 6 (v := ?_) (by first | exact hF | exact wideFn) (HS27.out _ HPV3.out.blk HPV3.out.cO) rfl (by kernel_rfl) (by kernel_rfl) (by kernel_rfl) (by kernel_rfl) rfl ?_ (by first | exact fun _ _ _ h => h | exact fun _ _ _ h => hQ2 _ _ _ _ _ h) ?_
              rotate_left
              · intro W hSW
                simp only [glA, glB, glC]
                (try dsimp only at hSW)
                go_simp
                with_reducible rfl
              (try simp only [glA, glB, glC, Act.put, glD, glE, glF])
              refine wpAnyJ_take 7 (v := ?_) (by first | exact hF | exact wideFn) (HS27.out _ HPV3.out.blk HPV3.out.cO) rfl (by kernel_rfl) (by kernel_rfl) (by kernel_rfl) (by kernel_rfl) rfl ?_ (by first | exact fun _ _ _ h => h | exact fun _ _ _ h => hQ2 _ _ _ _ _ h) ?_
              rotate_left
              · intro W hSW
                simp only [glA, glB, glC]
                (try dsimp only at hSW)
                go_simp
                with_reducible rfl
              (try simp only [glA, glB, glC, Act.put, glD, glE, glF])
              refine wpAnyJ_take 8 (v := ?_) (by first | exact hF | exact wideFn) (HS27.out _ HPV3.out.blk HPV3.out.cO) rfl (by kernel_rfl) (by kernel_rfl) (by kernel_rfl) (by kernel_rfl) rfl ?_ (by first | exact fun _ _ _ h => h | exact fun _ _ _ h => hQ2 _ _ _ _ _ h) ?_
              rotate_left
              · intro W hSW
                simp only [glA, glB, glC]
                (try dsimp only at hSW)
                go_simp
                with_reducible rfl
              (try simp only [glA, glB, glC, Act.put, glD, glE, glF])
              refine wpAnyJ_take 9 (v := ?_) (by first | exact hF | exact wideFn) (HS27.out _ HPV3.out.blk HPV3.out.cO) rfl (by kernel_rfl) (by kernel_rfl) (by kernel_rfl) (by kernel_rfl) rfl ?_ (by first | exact fun _ _ _ h => h | exact fun _ _ _ h => hQ2 _ _ _ _ _ h) ?_
              rotate_left
              · intro W hSW
                simp only [glA, glB, glC]
                (try dsimp only at hSW)
                go_simp
                with_reducible rfl
              (try simp only [glA, glB, glC, Act.put, glD, glE, glF])
              obtain ⟨A4, cc4, w4', hrun, hbx, hba, hbw, hco, hpv⟩ := HPV3.out.pushT ((k : Int), P) (by rw [oneT_len, pkF_len]; omega)
              rw [oneT_len, pkF_len] at hrun hpv
              dsimp only at hrun hba hpv
              have HRUN := hide hrun
              have HPV4 := hide hpv
              have HBX := hide hbx
              have HCO4 := hide hco
              have HBA4 := hide hba
              clear hrun hbx hba hbw hco hpv
              refine wpAnyJ_one 10 rfl (by kernel_rfl) (fun K hK => ?_)
              simp only [glA, glB, glC]
              go_simp
              refine hK.out _ _ (fun _ => HS27.out _ (HPV3.out.blk.ext HBA4.out) (OwnJ.ext HPV3.out.cO HBA4.out)) ?_
              clear hK K
              (try simp only [glA, glB, glC, Act.put, glD, glE, glF])
              refine wpAnyJ_one 11 rfl (by kernel_rfl) (fun K hK => ?_)
              rw [if_pos (by rfl)]
              refine wpIn_append_run (.tmp 172) (.tmp 181) 71 wideFn rfl rfl rfl HRUN.out ?_
              refine hK.out _ _ (fun _ => HS27.out _ HBX.out HCO4.out) ?_
              clear hK K
              (try simp only [glA, glB, glC, Act.put, glD, glE, glF])
              refine wpAnyJ_take 12 (v := ?_) (by first | exact hF | exact wideFn) (HS27.out _ HBX.out HCO4.out) rfl (by kernel_rfl) (by kernel_rfl) (by kernel_rfl) (by kernel_rfl) rfl ?_ (by first | exact fun _ _ _ h => h | exact fun _ _ _ h => hQ2 _ _ _ _ _ h) ?_
              rotate_left
              · intro W hSW
                simp only [glA, glB, glC]
                (try dsimp only at hSW)
                go_simp
                with_reducible rfl
              (try simp only [glA, glB, glC, Act.put, glD, glE, glF])
              obtain ⟨z6, z0, z1, z2, z3, z4, z5⟩ := blk3 HBX.out
              refine wpAnyJ_one 13 rfl (by kernel_rfl) (fun K hK => ?_)
              simp only [glA, glB, glC]
              go_simp
              refine hK.out _ _ (fun h => absurd h (by rw [show lastOp _ _ _ = true from by kernel_rfl]; simp)) ?_
              clear hK K
              (try simp only [glA, glB, glC, Act.put, glD, glE, glF])
              refine wpAnyJ_done (by kernel_rfl) ?_
              clear z0 z1 z2 z3 z4 z5 z6 HBX HCO4 HBA4 HPV3 HRUN
              go_wp2_with fail
              go_roundw
              case rel =>
                have HPN := HPV4.out
                rw [← HE.out.1, ← HE.out.2.1] at HPN
                have e3 := HE.out.2.2
                rw [← e3] at HPN
                exact ⟨k + 1, _, by omega, by go_num, hide HPN⟩
              case measure => simp [intOf]; omega
              -- ENDb3
            · -- BEGINb4
              as_aux_lemma =>
              obtain rfl : nf = k := by omega
              have hnl3 : ¬ (nf : Int) < (nf : Int) := by omega
              have HIC := hide (And.intro (pkF_case HS.out u 1) (pkF_case HS.out u 16))
              have HCL := hide (And.intro (pkF_len s.fs u 1 nf) (pkF_len s.fs u 16 nf))
              rw [HN.out.1] at HIC
              obtain ⟨CA, cc, hv⟩ := own_shape HPV.out.cO
              rw [HCL.out.1] at hv
              subst hv
              obtain ⟨OA, oc, hv⟩ := own_shape HPV.out.oO
              rw [HCL.out.2] at hv
              subst hv
              generalize pkF s.fs u 1 nf = c at HPV HIC HCL
              generalize pkF s.fs u 16 nf = o at HPV HIC HCL
              obtain ⟨QA, qc, hv⟩ := own_shape HPV.out.tO
              rw [oneT_len, HCL.out.1] at hv
              subst hv
              have HXL := hide HPV.out.blk.lt
              go_upto_region 28 with fail
              go_wp2_with fail
              refine (HCO.out wr Bx.out).mono ?_
              rintro e wy ⟨d1, rfl, hso, hb⟩
              have By := hide (Bx.out.trans (hb.mono Bx.out.size))
              replace HPV := hide (HPV.out.ext hb)
              have HSZ := hide hb.size
              have HSO := hide hso
              have ev : scV d1 s = .agg #[.slice d1.fa nf d1.fc, .int .i64 Q, .slice d1.ra nr d1.rc] := by unfold scV; rw [HN.out.1, HN.out.2.1, HN.out.2.2]
              rw [ev]
              have T2 := hide (Blk.new wy 47 #[.slice d1.fa nf d1.fc, .int .i64 Q, .slice d1.ra nr d1.rc])
              have HBA : Hid (Below wy.heap.size wy (wy.alloc (.cells #[.slice d1.fa nf d1.fc, .int .i64 Q, .slice d1.ra nr d1.rc] 47))) := hide ((Below.refl _ _).alloc (Nat.le_refl _) _)
              clear hb hso ev x0 x1 x2
              as_aux_lemma =>
              go_upto_region 29 with fail
              generalize (wy.alloc (.cells #[.slice d1.fa nf d1.fc, .int .i64 Q, .slice d1.ra nr d1.rc] 47)) = wt at HBA T2 ⊢
              obtain ⟨T, hT⟩ : ∃ x, wy.heap.size = x := ⟨_, rfl⟩
              have HT0 : Hid (wr.heap.size ≤ T) := hide (by rw [← hT]; exact HSZ.out)
              have HT1 : Hid (w1.heap.size ≤ T) := hide (by rw [← hT]; exact By.out.size)
              rw [hT] at T2 ⊢
              clear hT
              obtain ⟨-, s0, s1, s2, s3, s4, s5⟩ := blk3 T2.out
              have Bt := hide (By.out.trans (HBA.out.mono By.out.size))
              replace HPV := hide (HPV.out.ext HBA.out)
              replace HSO := hide (HSO.out.ext HBA.out)
              have HSZ2 := hide (Nat.le_trans HSZ.out HBA.out.size)
              obtain ⟨-, z0, z1, z2, -⟩ := blk3 HPV.out.blk
              obtain ⟨B, bc, w6, hrun, hb6, hkx, hbt, hbw, d2, hd2, hsr⟩ := HSO.out.plus (T := T) (by rw [HN.out.2.1]; omega) HSZ2.out QA qc w0.heap.size (oneR c ask sy) (by
                have h := HPV.out.tO
                show OwnQ _ _ (.slice QA (oneT c).length qc) (oneT c)
                rw [oneT_len, HCL.out.1]
                exact h) (by rw [HN.out.1, HN.out.2.1, HN.out.2.2]; exact T2.out)
              have hol : (oneR c ask sy).when_.length = nf := by show (oneT c).length = nf; rw [oneT_len, HCL.out.1]
              rw [hol, HN.out.2.1] at hrun hkx
              rw [HN.out.2.1] at hb6 hbt hd2 hsr hbw
              rw [HN.out.1, HN.out.2.2] at hb6 hbt hd2
              have hrun' : (Builtin.append_ #[45, 45] 45 #[.slice d1.ra nr d1.rc, .slice (some ⟨wt.heap.size, 0, none⟩) 1 1]).run Tryd.prog (wt.alloc (.cells #[.slice QA nf qc, .int .i64 ask, .int .i64 sy] 73)) = .ok (.slice B (nr + 1) bc) w6 := hrun
              have HRUN := hide hrun'
              obtain ⟨-, r0, r1, r2, r3, r4, r5⟩ := blk3 hb6
              have hba2 : Below wt.heap.size wt (wt.alloc (.cells #[.slice QA nf qc, .int .i64 ask, .int .i64 sy] 73)) := (Below.refl _ _).alloc (Nat.le_refl _) _
              have HP5 := HPV.out.ext hba2
              obtain ⟨L, hL, -, -⟩ := (HSO.out.ext hba2).rs
              rw [HN.out.2.1] at hL
              have hkx' : KX (wt.alloc (.cells #[.slice QA nf qc, .int .i64 ask, .int .i64 sy] 73)) (w6.setCell ⟨T, 2, none⟩ (.slice B (nr + 1) bc)) T (Value.slice d1.ra nr d1.rc).ownBlock := hkx
              have T5 := T2.out.ext hba2
              have HC7 : Hid (OwnJ (w6.setCell ⟨T, 2, none⟩ (.slice B (nr + 1) bc)) w0.heap.size (.slice CA nf cc) c) := hide (own_kx HP5.cO hkx' (own_blk_ne HP5.cO T5 (by decide)) (own_own_ne HP5.cO hL (by decide)))
              have HO7 : Hid (OwnJ (w6.setCell ⟨T, 2, none⟩ (.slice B (nr + 1) bc)) w0.heap.size (.slice OA nf oc) o) := hide (own_kx HP5.oO hkx' (own_blk_ne HP5.oO T5 (by decide)) (own_own_ne HP5.oO hL (by decide)))
              have HX7 : Hid (Blk (w6.setCell ⟨T, 2, none⟩ (.slice B (nr + 1) bc)) X 73 #[.slice QA nf qc, .int .i64 ask, .int .i64 sy]) := hide (blk_kx HP5.blk hkx' (by have h1 := HXL.out; have h2 := HT0.out; omega) (fun e => by
                have h1 := (World.ownsRow.lt hL X e.symm).1
                have h2 := HXL.out
                omega))
              have B7 : Hid (Below w1.heap.size w1 (w6.setCell ⟨T, 2, none⟩ (.slice B (nr + 1) bc))) := hide (hbw _ _ Bt.out Bx.out.size HT1.out)
              have HT7 := hide hbt
              have HSR := hide hsr
              have HD2 := hide hd2
              clear hrun hrun' hb6 hkx hkx' hbt hbw hsr hd2 hba2 HP5 hL T5 hol
              clear Bt HSZ HSZ2 HBA T2
              go_upto_region 30 with (at_builtin; refine wpList_append_run rfl (.tmp 187) (.tmp 189) 45 rfl rfl rfl HRUN.out ?_)
              generalize w6.setCell ⟨T, 2, none⟩ (.slice B (nr + 1) bc) = wi at HC7 HO7 HX7 B7 HT7 HSR ⊢
              clear s0 s1 s2 s3 s4 s5 z0 z1 z2 r0 r1 r2 r3 r4 r5 HRUN HPV HSO
              have HOK2 := hide (plus_ok HS.out (by rw [HN.out.2.1]; omega) (one_rl HS.out HIC.out.1 (by rw [HN.out.2.2]; exact HAQ.out) HSY.out))
              have HPR := hide (prevails HS.out (by rw [HN.out.2.1]; omega) HIC.out.1 (a := ask) (y := sy) (by rw [HN.out.2.2]; exact HAQ.out) HSY.out)
              have HPO : Hid (c ≠ o → decR (plusR s (oneR c ask sy)) o ask = decR s o ask) := hide (fun h => prevails_other HS.out (by rw [HN.out.2.1]; omega) HIC.out.1 HIC.out.2 h (by rw [HN.out.2.2]; exact HAQ.out) HSY.out)
              obtain ⟨t, ht⟩ : ∃ t, plusR s (oneR c ask sy) = t := ⟨_, rfl⟩
              have htl : t.rs.length = nr + 1 := by rw [← ht, plus_len, HN.out.2.1]
              have htf : t.fs.length = nf := by rw [← ht]; exact HN.out.1
              have htw : ∀ r ∈ t.rs, r.when_.length ≤ 1000 := fun r hr => by
                have h1 := rule_ok HOK2.out (r := r) (by rw [ht]; exact hr)
                unfold rlB at h1
                rw [Bool.and_eq_true] at h1
                have h2 := of_decide_eq_true h1.1
                omega
              rw [ht] at HD2 HSR HOK2 HPR HPO
              have HTT := hide (And.intro htl (And.intro htf htw))
              have HSF : Hid (∀ W, Below wi.heap.size wi W → ((W.cell? ⟨G, 0, none⟩ = some (.slice d.fa nf d.fc) ∧ W.cell? ⟨G, 1, none⟩ = some (.int .i64 Q) ∧ W.cell? ⟨G, 2, none⟩ = some (.slice d.ra nr d.rc)) ∧ (W.cell? ⟨T, 0, none⟩ = some (.slice d1.fa nf d1.fc) ∧ W.cell? ⟨T, 1, none⟩ = some (.int .i64 Q) ∧ W.cell? ⟨T, 2, none⟩ = some (.slice B (nr + 1) bc)) ∧ W.cell? ⟨X, 1, none⟩ = some (.int .i64 ask) ∧ W.cell? ⟨X, 2, none⟩ = some (.int .i64 sy))) := hide fun W h => by
                obtain ⟨-, q0, q1, q2, -⟩ := blk3 (HT7.out.ext h)
                obtain ⟨-, -, p1, p2, -⟩ := blk3 (HX7.out.ext h)
                exact ⟨HSB.out W (B7.out.trans (h.mono B7.out.size)), ⟨q0, q1, q2⟩, p1, p2⟩
              have HCT : Hid (∀ W, Below wi.heap.size wi W → Calls Tryd.prog 31 #[.agg #[.slice d1.fa nf d1.fc, .int .i64 Q, .slice B (nr + 1) bc]] W fun e w' => ∃ d1, e = .returned (scV d1 t) ∧ ScR w' w'.heap.size d1 t ∧ Below W.heap.size W w') := hide fun W h => by
                have := copied_any d2 t W (HSR.out.below h) (by rw [HTT.out.2.1]; omega) (by rw [HTT.out.1]; omega) HTT.out.2.2
                rwa [HD2.out] at this
              have HCU : Hid (∀ W, Below wi.heap.size wi W → Calls Tryd.prog 31 #[.agg #[.slice d.fa nf d.fc, .int .i64 Q, .slice d.ra nr d.rc]] W fun e w' => ∃ d1, e = .returned (scV d1 s) ∧ ScR w' w'.heap.size d1 s ∧ Below W.heap.size W w') := hide fun W h => HCS.out W (B7.out.trans (h.mono B7.out.size))
              have HNC : Hid (∀ W, Below wi.heap.size wi W → Calls Tryd.prog 24 #[.slice CA nf cc] W fun e w' => ∃ v, e = .returned v ∧ OwnJ w' W.heap.size v c ∧ Below W.heap.size W w') := hide fun W h => by
                have := numbers_any CA cc c W (by rw [HCL.out.1]; omega) (OwnJ.li (OwnJ.ext HC7.out h)).2
                rwa [HCL.out.1] at this
              have HNO : Hid (∀ W, Below wi.heap.size wi W → Calls Tryd.prog 24 #[.slice OA nf oc] W fun e w' => ∃ v, e = .returned v ∧ OwnJ w' W.heap.size v o ∧ Below W.heap.size W w') := hide fun W h => by
                have := numbers_any OA oc o W (by rw [HCL.out.2]; omega) (OwnJ.li (OwnJ.ext HO7.out h)).2
                rwa [HCL.out.2] at this
              have HZT : Hid (t.fs.length ≤ maxLen ∧ t.rs.length ≤ maxLen) := hide (by rw [htf, htl]; unfold maxLen; omega)
              have HZS : Hid (s.fs.length ≤ maxLen ∧ s.rs.length ≤ maxLen) := hide ⟨HZ.out.nf, HZ.out.nr⟩
              have B0 : Hid (Below wi.heap.size wi wi) := hide (Below.refl _ _)
              have hlt := decR_len t c ask
              have hls := decR_len s c ask
              have hlto := decR_len t o ask
              have hlso := decR_len s o ask
              rw [htl] at hlt hlto
              rw [HN.out.2.1] at hls hlso
              have HLT := hide (And.intro hlt (And.intro hls (And.intro hlto hlso)))
              clear ht htl htf htw hlt hls hlto hlso HSR HD2 HTT HX7 HT7
              as_aux_lemma =>
              go_upto_region 30 with fail
              have Bd := hide (B0.out.trans ((Below.refl wi.heap.size wi).drew.mono B0.out.size))
              refine wp_region_J (fun W : World => ((W.cell? ⟨G, 0, none⟩ = some (.slice d.fa nf d.fc) ∧ W.cell? ⟨G, 1, none⟩ = some (.int .i64 Q) ∧ W.cell? ⟨G, 2, none⟩ = some (.slice d.ra nr d.rc)) ∧ (W.cell? ⟨T, 0, none⟩ = some (.slice d1.fa nf d1.fc) ∧ W.cell? ⟨T, 1, none⟩ = some (.int .i64 Q) ∧ W.cell? ⟨T, 2, none⟩ = some (.slice B (nr + 1) bc)) ∧ W.cell? ⟨X, 1, none⟩ = some (.int .i64 ask) ∧ W.cell? ⟨X, 2, none⟩ = some (.int .i64 sy))) (by kernel_rfl) ?_
              have Cd := hide ((Below.refl wi.heap.size wi).drew)
              generalize wi.drew = wd at Bd Cd ⊢
              refine wpAnyJ_take 0 (v := ?_) (by first | exact hF | exact wideFn) (HSF.out _ Bd.out) rfl (by kernel_rfl) (by kernel_rfl) (by kernel_rfl) (by kernel_rfl) rfl ?_ (by first | exact fun _ _ _ h => h | exact fun _ _ _ h => hQ2 _ _ _ _ _ h) ?_
              rotate_left
              · intro W hSW
                simp only [glA, glB, glC]
                (try dsimp only at hSW)
                go_simp
                with_reducible rfl
              (try simp only [glA, glB, glC, Act.put, glD, glE, glF])
              refine wpAnyJ_take 2 (v := ?_) (by first | exact hF | exact wideFn) (HSF.out _ Bd.out) rfl (by kernel_rfl) (by kernel_rfl) (by kernel_rfl) (by kernel_rfl) rfl ?_ (by first | exact fun _ _ _ h => h | exact fun _ _ _ h => hQ2 _ _ _ _ _ h) ?_
              rotate_left
              · intro W hSW
                simp only [glA, glB, glC]
                (try dsimp only at hSW)
                go_simp
                with_reducible rfl
              (try simp only [glA, glB, glC, Act.put, glD, glE, glF])
              refine wpAnyJ_take 4 (v := ?_) (by first | exact hF | exact wideFn) (HSF.out _ Bd.out) rfl (by kernel_rfl) (by kernel_rfl) (by kernel_rfl) (by kernel_rfl) rfl ?_ (by first | exact fun _ _ _ h => h | exact fun _ _ _ h => hQ2 _ _ _ _ _ h) ?_
              rotate_left
              · intro W hSW
                simp only [glA, glB, glC]
                (try dsimp only at hSW)
                go_simp
                with_reducible rfl
              (try simp only [glA, glB, glC, Act.put, glD, glE, glF])
              refine wpAnyJ_take 5 (v := ?_) (by first | exact hF | exact wideFn) (HSF.out _ Bd.out) rfl (by kernel_rfl) (by kernel_rfl) (by kernel_rfl) (by kernel_rfl) rfl ?_ (by first | exact fun _ _ _ h => h | exact fun _ _ _ h => hQ2 _ _ _ _ _ h) ?_
              rotate_left
              · intro W hSW
                simp only [glA, glB, glC]
                (try dsimp only at hSW)
                go_simp
                with_reducible rfl
              (try simp only [glA, glB, glC, Act.put, glD, glE, glF])
              refine wpAnyJ_one 1 rfl (by kernel_rfl) (fun K hK => ?_)
              simp only [glA, glB, glC]
              go_simp
              refine ⟨trivial, rfl, ?_⟩
              (with_reducible refine (callsIn_wide.2 (HCT.out wd Bd.out)).mono ?_)
              rintro e wf ⟨dx, rfl, hdx, hb1⟩
              have Be := hide (Bd.out.trans (hb1.mono Bd.out.size))
              dsimp only
              refine hK.out _ _ (fun _ => HSF.out _ Be.out) ?_
              clear hK K
              (try simp only [glA, glB, glC, Act.put, glD, glE, glF])
              refine wpAnyJ_one 3 rfl (by kernel_rfl) (fun K hK => ?_)
              simp only [glA, glB, glC]
              go_simp
              refine ⟨trivial, rfl, ?_⟩
              (with_reducible refine (callsIn_wide.2 (HNC.out wf Be.out)).mono ?_)
              rintro e wg ⟨vn, rfl, hon, hb2⟩
              have Bf := hide (Be.out.trans (hb2.mono Be.out.size))
              dsimp only
              refine hK.out _ _ (fun _ => HSF.out _ Bf.out) ?_
              clear hK K
              (try simp only [glA, glB, glC, Act.put, glD, glE, glF])
              obtain ⟨NA, ncap, hvn⟩ := own_shape hon
              have hvn2 : vn = .slice NA nf ncap := by rw [hvn, HCL.out.1]
              subst hvn2
              clear hvn
              have HD9 := Decide_any dx t NA ncap c ask wg (hdx.below hb2) HZT.out.1 HZT.out.2 (OwnJ.li hon).2
              obtain ⟨⟨n1, e1, l1⟩, hdd⟩ : ∃ r, decR t c ask = r := ⟨_, rfl⟩
              rw [hdd, HCL.out.1] at HD9
              have HD1_ := hide hdd
              unfold DePost at HD9
              dsimp only at HD9
              refine wpAnyJ_one 6 rfl (by kernel_rfl) (fun K hK => ?_)
              simp only [glA, glB, glC]
              go_simp
              refine ⟨trivial, rfl, ?_⟩
              (with_reducible refine (callsIn_wide.2 HD9).mono ?_)
              rintro e wj ⟨vl, rfl, hol, hb3⟩
              have Bj := hide (Bf.out.trans (hb3.mono Bf.out.size))
              dsimp only
              refine hK.out _ _ (fun _ => HSF.out _ Bj.out) ?_
              clear hK K
              (try simp only [glA, glB, glC, Act.put, glD, glE, glF])
              refine wpAnyJ_take 7 (v := ?_) (by first | exact hF | exact wideFn) (HSF.out _ Bj.out) rfl (by kernel_rfl) (by kernel_rfl) (by kernel_rfl) (by kernel_rfl) rfl ?_ (by first | exact fun _ _ _ h => h | exact fun _ _ _ h => hQ2 _ _ _ _ _ h) ?_
              rotate_left
              · intro W hSW
                simp only [glA, glB, glC]
                (try dsimp only at hSW)
                go_simp
                with_reducible rfl
              (try simp only [glA, glB, glC, Act.put, glD, glE, glF])
              refine wpAnyJ_take 8 (v := ?_) (by first | exact hF | exact wideFn) (HSF.out _ Bj.out) rfl (by kernel_rfl) (by kernel_rfl) (by kernel_rfl) (by kernel_rfl) rfl ?_ (by first | exact fun _ _ _ h => h | exact fun _ _ _ h => hQ2 _ _ _ _ _ h) ?_
              rotate_left
              · intro W hSW
                simp only [glA, glB, glC]
                (try dsimp only at hSW)
                go_simp
                with_reducible rfl
              (try simp only [glA, glB, glC, Act.put, glD, glE, glF])
              refine wpAnyJ_take 9 (v := ?_) (by first | exact hF | exact wideFn) (HSF.out _ Bj.out) rfl (by kernel_rfl) (by kernel_rfl) (by kernel_rfl) (by kernel_rfl) rfl ?_ (by first | exact fun _ _ _ h => h | exact fun _ _ _ h => hQ2 _ _ _ _ _ h) ?_
              rotate_left
              · intro W hSW
                simp only [glA, glB, glC]
                (try dsimp only at hSW)
                go_simp
                with_reducible rfl
              (try simp only [glA, glB, glC, Act.put, glD, glE, glF])
              refine wpAnyJ_take 10 (v := ?_) (by first | exact hF | exact wideFn) (HSF.out _ Bj.out) rfl (by kernel_rfl) (by kernel_rfl) (by kernel_rfl) (by kernel_rfl) rfl ?_ (by first | exact fun _ _ _ h => h | exact fun _ _ _ h => hQ2 _ _ _ _ _ h) ?_
              rotate_left
              · intro W hSW
                simp only [glA, glB, glC]
                (try dsimp only at hSW)
                go_simp
                with_reducible rfl
              (try simp only [glA, glB, glC, Act.put, glD, glE, glF])
              refine wpAnyJ_take 11 (v := ?_) (by first | exact hF | exact wideFn) (HSF.out _ Bj.out) rfl (by kernel_rfl) (by kernel_rfl) (by kernel_rfl) (by kernel_rfl) rfl ?_ (by first | exact fun _ _ _ h => h | exact fun _ _ _ h => hQ2 _ _ _ _ _ h) ?_
              rotate_left
              · intro W hSW
                simp only [glA, glB, glC]
                (try dsimp only at hSW)
                go_simp
                with_reducible rfl
              (try simp only [glA, glB, glC, Act.put, glD, glE, glF])
              refine wpAnyJ_take 12 (v := ?_) (by first | exact hF | exact wideFn) (HSF.out _ Bj.out) rfl (by kernel_rfl) (by kernel_rfl) (by kernel_rfl) (by kernel_rfl) rfl ?_ (by first | exact fun _ _ _ h => h | exact fun _ _ _ h => hQ2 _ _ _ _ _ h) ?_
              rotate_left
              · intro W hSW
                simp only [glA, glB, glC]
                (try dsimp only at hSW)
                go_simp
                with_reducible rfl
              (try simp only [glA, glB, glC, Act.put, glD, glE, glF])
              refine wpAnyJ_take 13 (v := ?_) (by first | exact hF | exact wideFn) (HSF.out _ Bj.out) rfl (by kernel_rfl) (by kernel_rfl) (by kernel_rfl) (by kernel_rfl) rfl ?_ (by first | exact fun _ _ _ h => h | exact fun _ _ _ h => hQ2 _ _ _ _ _ h) ?_
              rotate_left
              · intro W hSW
                simp only [glA, glB, glC]
                (try dsimp only at hSW)
                go_simp
                with_reducible rfl
              (try simp only [glA, glB, glC, Act.put, glD, glE, glF])
              refine wpAnyJ_done (by kernel_rfl) ?_
              obtain ⟨LA1, lc1, hvl⟩ := own_shape hol
              subst hvl
              obtain ⟨ln1, hln⟩ : ∃ n, l1.length = n := ⟨_, rfl⟩
              rw [hln]
              have HLN1 := hide hln
              rw [hln] at hol
              have HOL1 := hide hol
              have C1 := hide (((Cd.out.trans (hb1.mono Cd.out.size)).trans (hb2.mono (Nat.le_trans Cd.out.size hb1.size))).trans (hb3.mono (Nat.le_trans (Nat.le_trans Cd.out.size hb1.size) hb2.size)))
              clear hb1 hb2 hb3 hdx HD9 Bd Be Bf hon hol hln hdd Cd
              go_upto_region 31 with fail
              have Bd := hide (Bj.out.trans ((Below.refl wj.heap.size wj).drew.mono Bj.out.size))
              refine wp_region_J (fun W : World => ((W.cell? ⟨G, 0, none⟩ = some (.slice d.fa nf d.fc) ∧ W.cell? ⟨G, 1, none⟩ = some (.int .i64 Q) ∧ W.cell? ⟨G, 2, none⟩ = some (.slice d.ra nr d.rc)) ∧ (W.cell? ⟨T, 0, none⟩ = some (.slice d1.fa nf d1.fc) ∧ W.cell? ⟨T, 1, none⟩ = some (.int .i64 Q) ∧ W.cell? ⟨T, 2, none⟩ = some (.slice B (nr + 1) bc)) ∧ W.cell? ⟨X, 1, none⟩ = some (.int .i64 ask) ∧ W.cell? ⟨X, 2, none⟩ = some (.int .i64 sy))) (by kernel_rfl) ?_
              have Cd := hide ((Below.refl wj.heap.size wj).drew)
              generalize wj.drew = wd at Bd Cd ⊢
              refine wpAnyJ_take 0 (v := ?_) (by first | exact hF | exact wideFn) (HSF.out _ Bd.out) rfl (by kernel_rfl) (by kernel_rfl) (by kernel_rfl) (by kernel_rfl) rfl ?_ (by first | exact fun _ _ _ h => h | exact fun _ _ _ h => hQ2 _ _ _ _ _ h) ?_
              rotate_left
              · intro W hSW
                simp only [glA, glB, glC]
                (try dsimp only at hSW)
                go_simp
                with_reducible rfl
              (try simp only [glA, glB, glC, Act.put, glD, glE, glF])
              refine wpAnyJ_take 2 (v := ?_) (by first | exact hF | exact wideFn) (HSF.out _ Bd.out) rfl (by kernel_rfl) (by kernel_rfl) (by kernel_rfl) (by kernel_rfl) rfl ?_ (by first | exact fun _ _ _ h => h | exact fun _ _ _ h => hQ2 _ _ _ _ _ h) ?_
              rotate_left
              · intro W hSW
                simp only [glA, glB, glC]
                (try dsimp only at hSW)
                go_simp
                with_reducible rfl
              (try simp only [glA, glB, glC, Act.put, glD, glE, glF])
              refine wpAnyJ_take 4 (v := ?_) (by first | exact hF | exact wideFn) (HSF.out _ Bd.out) rfl (by kernel_rfl) (by kernel_rfl) (by kernel_rfl) (by kernel_rfl) rfl ?_ (by first | exact fun _ _ _ h => h | exact fun _ _ _ h => hQ2 _ _ _ _ _ h) ?_
              rotate_left
              · intro W hSW
                simp only [glA, glB, glC]
                (try dsimp only at hSW)
                go_simp
                with_reducible rfl
              (try simp only [glA, glB, glC, Act.put, glD, glE, glF])
              refine wpAnyJ_take 5 (v := ?_) (by first | exact hF | exact wideFn) (HSF.out _ Bd.out) rfl (by kernel_rfl) (by kernel_rfl) (by kernel_rfl) (by kernel_rfl) rfl ?_ (by first | exact fun _ _ _ h => h | exact fun _ _ _ h => hQ2 _ _ _ _ _ h) ?_
              rotate_left
              · intro W hSW
                simp only [glA, glB, glC]
                (try dsimp only at hSW)
                go_simp
                with_reducible rfl
              (try simp only [glA, glB, glC, Act.put, glD, glE, glF])
              refine wpAnyJ_one 1 rfl (by kernel_rfl) (fun K hK => ?_)
              simp only [glA, glB, glC]
              go_simp
              refine ⟨trivial, rfl, ?_⟩
              (with_reducible refine (callsIn_wide.2 (HCU.out wd Bd.out)).mono ?_)
              rintro e wf ⟨dx, rfl, hdx, hb1⟩
              have Be := hide (Bd.out.trans (hb1.mono Bd.out.size))
              dsimp only
              refine hK.out _ _ (fun _ => HSF.out _ Be.out) ?_
              clear hK K
              (try simp only [glA, glB, glC, Act.put, glD, glE, glF])
              refine wpAnyJ_one 3 rfl (by kernel_rfl) (fun K hK => ?_)
              simp only [glA, glB, glC]
              go_simp
              refine ⟨trivial, rfl, ?_⟩
              (with_reducible refine (callsIn_wide.2 (HNC.out wf Be.out)).mono ?_)
              rintro e wg ⟨vn, rfl, hon, hb2⟩
              have Bf := hide (Be.out.trans (hb2.mono Be.out.size))
              dsimp only
              refine hK.out _ _ (fun _ => HSF.out _ Bf.out) ?_
              clear hK K
              (try simp only [glA, glB, glC, Act.put, glD, glE, glF])
              obtain ⟨NA, ncap, hvn⟩ := own_shape hon
              have hvn2 : vn = .slice NA nf ncap := by rw [hvn, HCL.out.1]
              subst hvn2
              clear hvn
              have HD9 := Decide_any dx s NA ncap c ask wg (hdx.below hb2) HZS.out.1 HZS.out.2 (OwnJ.li hon).2
              obtain ⟨⟨n2, e2, l2⟩, hdd⟩ : ∃ r, decR s c ask = r := ⟨_, rfl⟩
              rw [hdd, HCL.out.1] at HD9
              have HD2_ := hide hdd
              unfold DePost at HD9
              dsimp only at HD9
              refine wpAnyJ_one 6 rfl (by kernel_rfl) (fun K hK => ?_)
              simp only [glA, glB, glC]
              go_simp
              refine ⟨trivial, rfl, ?_⟩
              (with_reducible refine (callsIn_wide.2 HD9).mono ?_)
              rintro e wk ⟨vl, rfl, hol, hb3⟩
              have Bk := hide (Bf.out.trans (hb3.mono Bf.out.size))
              dsimp only
              refine hK.out _ _ (fun _ => HSF.out _ Bk.out) ?_
              clear hK K
              (try simp only [glA, glB, glC, Act.put, glD, glE, glF])
              refine wpAnyJ_take 7 (v := ?_) (by first | exact hF | exact wideFn) (HSF.out _ Bk.out) rfl (by kernel_rfl) (by kernel_rfl) (by kernel_rfl) (by kernel_rfl) rfl ?_ (by first | exact fun _ _ _ h => h | exact fun _ _ _ h => hQ2 _ _ _ _ _ h) ?_
              rotate_left
              · intro W hSW
                simp only [glA, glB, glC]
                (try dsimp only at hSW)
                go_simp
                with_reducible rfl
              (try simp only [glA, glB, glC, Act.put, glD, glE, glF])
              refine wpAnyJ_take 8 (v := ?_) (by first | exact hF | exact wideFn) (HSF.out _ Bk.out) rfl (by kernel_rfl) (by kernel_rfl) (by kernel_rfl) (by kernel_rfl) rfl ?_ (by first | exact fun _ _ _ h => h | exact fun _ _ _ h => hQ2 _ _ _ _ _ h) ?_
              rotate_left
              · intro W hSW
                simp only [glA, glB, glC]
                (try dsimp only at hSW)
                go_simp
                with_reducible rfl
              (try simp only [glA, glB, glC, Act.put, glD, glE, glF])
              refine wpAnyJ_take 9 (v := ?_) (by first | exact hF | exact wideFn) (HSF.out _ Bk.out) rfl (by kernel_rfl) (by kernel_rfl) (by kernel_rfl) (by kernel_rfl) rfl ?_ (by first | exact fun _ _ _ h => h | exact fun _ _ _ h => hQ2 _ _ _ _ _ h) ?_
              rotate_left
              · intro W hSW
                simp only [glA, glB, glC]
                (try dsimp only at hSW)
                go_simp
                with_reducible rfl
              (try simp only [glA, glB, glC, Act.put, glD, glE, glF])
              refine wpAnyJ_take 10 (v := ?_) (by first | exact hF | exact wideFn) (HSF.out _ Bk.out) rfl (by kernel_rfl) (by kernel_rfl) (by kernel_rfl) (by kernel_rfl) rfl ?_ (by first | exact fun _ _ _ h => h | exact fun _ _ _ h => hQ2 _ _ _ _ _ h) ?_
              rotate_left
              · intro W hSW
                simp only [glA, glB, glC]
                (try dsimp only at hSW)
                go_simp
                with_reducible rfl
              (try simp only [glA, glB, glC, Act.put, glD, glE, glF])
              refine wpAnyJ_take 11 (v := ?_) (by first | exact hF | exact wideFn) (HSF.out _ Bk.out) rfl (by kernel_rfl) (by kernel_rfl) (by kernel_rfl) (by kernel_rfl) rfl ?_ (by first | exact fun _ _ _ h => h | exact fun _ _ _ h => hQ2 _ _ _ _ _ h) ?_
              rotate_left
              · intro W hSW
                simp only [glA, glB, glC]
                (try dsimp only at hSW)
                go_simp
                with_reducible rfl
              (try simp only [glA, glB, glC, Act.put, glD, glE, glF])
              refine wpAnyJ_take 12 (v := ?_) (by first | exact hF | exact wideFn) (HSF.out _ Bk.out) rfl (by kernel_rfl) (by kernel_rfl) (by kernel_rfl) (by kernel_rfl) rfl ?_ (by first | exact fun _ _ _ h => h | exact fun _ _ _ h => hQ2 _ _ _ _ _ h) ?_
              rotate_left
              · intro W hSW
                simp only [glA, glB, glC]
                (try dsimp only at hSW)
                go_simp
                with_reducible rfl
              (try simp only [glA, glB, glC, Act.put, glD, glE, glF])
              refine wpAnyJ_take 13 (v := ?_) (by first | exact hF | exact wideFn) (HSF.out _ Bk.out) rfl (by kernel_rfl) (by kernel_rfl) (by kernel_rfl) (by kernel_rfl) rfl ?_ (by first | exact fun _ _ _ h => h | exact fun _ _ _ h => hQ2 _ _ _ _ _ h) ?_
              rotate_left
              · intro W hSW
                simp only [glA, glB, glC]
                (try dsimp only at hSW)
                go_simp
                with_reducible rfl
              (try simp only [glA, glB, glC, Act.put, glD, glE, glF])
              refine wpAnyJ_done (by kernel_rfl) ?_
              obtain ⟨LA2, lc2, hvl⟩ := own_shape hol
              subst hvl
              obtain ⟨ln2, hln⟩ : ∃ n, l2.length = n := ⟨_, rfl⟩
              rw [hln]
              have HLN2 := hide hln
              rw [hln] at hol
              have HOL2 := hide hol
              have C2 := hide (((Cd.out.trans (hb1.mono Cd.out.size)).trans (hb2.mono (Nat.le_trans Cd.out.size hb1.size))).trans (hb3.mono (Nat.le_trans (Nat.le_trans Cd.out.size hb1.size) hb2.size)))
              clear hb1 hb2 hb3 hdx HD9 Bd Be Bf hon hol hln hdd Cd
              rw [HD1_.out, HD2_.out] at HPR
              dsimp only at HPR
              replace HOL1 := hide (OwnJ.ext HOL1.out C2.out)
              as_aux_lemma =>
              have HPRH := hide HPR
              have hold : e2 = 0 → ln2 ≠ 0 := fun h h0 => by
                have h3 := dcF_old (s := s) (st := stF s) (c := c) (q := ask)
                rw [← decR_ok HS.out (by rw [HN.out.2.2]; exact HAQ.out) HIC.out.1, HD2_.out] at h3
                exact h3 h (List.length_eq_zero_iff.1 (HLN2.out.trans h0))
              have HOLD := hide hold
              have HM1 : Hid (ln1 ≤ 100) := hide (by
                have h := HLT.out.1
                rw [HD1_.out] at h
                have h2 : l1.length ≤ nr + 1 := h
                rw [HLN1.out] at h2
                omega)
              clear hold HPR C1 C2
              go_upto_block 8 with fail
              go_cut [] (fun w' => Hid (Below wk.heap.size wk w'))
              case first =>
               -- BEGINb5
               as_aux_lemma =>
                rcases HPRH.out with ⟨h1, h2, l', hl'⟩ | ⟨h1, h7, -⟩
                · rw [HN.out.2.1] at hl'
                  obtain ⟨m, hm⟩ : ∃ m, l'.length = m := ⟨_, rfl⟩
                  have hln : m + 1 = ln1 := by rw [← HLN1.out, hl', List.length_append, hm]; rfl
                  subst hln
                  obtain ⟨bg, hbg, hbl, hbc⟩ := own_cellsJ HOL1.out HLN1.out (by omega)
                  subst hbg
                  have hbm := hbc m (by omega)
                  rw [show l1.getD m 0 = (nr : Int) from by
                    rw [hl', List.getD_eq_getElem?_getD, List.getElem?_append_right (by omega), hm, Nat.sub_self]; rfl] at hbm
                  have HS33 : Hid (∀ W, Below wk.heap.size wk W → (((W.cell? ⟨G, 0, none⟩ = some (.slice d.fa nf d.fc) ∧ W.cell? ⟨G, 1, none⟩ = some (.int .i64 Q) ∧ W.cell? ⟨G, 2, none⟩ = some (.slice d.ra nr d.rc)) ∧ (W.cell? ⟨T, 0, none⟩ = some (.slice d1.fa nf d1.fc) ∧ W.cell? ⟨T, 1, none⟩ = some (.int .i64 Q) ∧ W.cell? ⟨T, 2, none⟩ = some (.slice B (nr + 1) bc)) ∧ W.cell? ⟨X, 1, none⟩ = some (.int .i64 ask) ∧ W.cell? ⟨X, 2, none⟩ = some (.int .i64 sy)) ∧ W.cell? ⟨bg, m, none⟩ = some (.int .i64 (nr : Nat)))) := hide fun W h => ⟨HSF.out W (Bk.out.trans (h.mono Bk.out.size)), (h.cell (p := ⟨bg, m, none⟩) hbl).trans hbm⟩
                  have hm100 := HM1.out
                  have v1 : IntKind.i64.wrap ((m : Int) + 1 - 1) = (m : Int) := by rw [IntWalk.i64_in _ (by omega)]; omega
                  have v2 : IntKind.i64.wrap (m : Int) = (m : Int) := IntWalk.i64_in _ (by omega)
                  have v3 : (m : Int) < (m : Int) + 1 := by omega
                  have v4 : (0 : Int) ≤ (m : Int) := by omega
                  have v5 : ((m : Int) + 1 == 0) = false := by rw [beq_eq_false_iff_ne]; omega
                  obtain rfl : 0 = e1 := h1.symm
                  obtain rfl : sy = n1 := h2.symm
                  clear hbc hbm hl' hm hbl h1 h2
                  go_upto_region 33 with fail
                  have Bd := hide ((Below.refl wk.heap.size wk).drew)
                  refine wp_region_J (fun W : World => (((W.cell? ⟨G, 0, none⟩ = some (.slice d.fa nf d.fc) ∧ W.cell? ⟨G, 1, none⟩ = some (.int .i64 Q) ∧ W.cell? ⟨G, 2, none⟩ = some (.slice d.ra nr d.rc)) ∧ (W.cell? ⟨T, 0, none⟩ = some (.slice d1.fa nf d1.fc) ∧ W.cell? ⟨T, 1, none⟩ = some (.int .i64 Q) ∧ W.cell? ⟨T, 2, none⟩ = some (.slice B (nr + 1) bc)) ∧ W.cell? ⟨X, 1, none⟩ = some (.int .i64 ask) ∧ W.cell? ⟨X, 2, none⟩ = some (.int .i64 sy)) ∧ W.cell? ⟨bg, m, none⟩ = some (.int .i64 (nr : Nat)))) (by kernel_rfl) ?_
                  generalize wk.drew = wd at Bd ⊢
                  refine wpAnyJ_take 0 (v := ?_) (by first | exact hF | exact wideFn) (HS33.out _ Bd.out) rfl (by kernel_rfl) (by kernel_rfl) (by kernel_rfl) (by kernel_rfl) rfl ?_ (by first | exact fun _ _ _ h => h | exact fun _ _ _ h => hQ2 _ _ _ _ _ h) ?_
                  rotate_left
                  · intro W hSW
                    simp only [glA, glB, glC]
                    (try dsimp only at hSW)
                    go_simp
                    with_reducible rfl
                  (try simp only [glA, glB, glC, Act.put, glD, glE, glF])
                  refine wpAnyJ_take 1 (v := ?_) (by first | exact hF | exact wideFn) (HS33.out _ Bd.out) rfl (by kernel_rfl) (by kernel_rfl) (by kernel_rfl) (by kernel_rfl) rfl ?_ (by first | exact fun _ _ _ h => h | exact fun _ _ _ h => hQ2 _ _ _ _ _ h) ?_
                  rotate_left
                  · intro W hSW
                    simp only [glA, glB, glC]
                    (try dsimp only at hSW)
                    go_simp
                    with_reducible rfl
                  (try simp only [glA, glB, glC, Act.put, glD, glE, glF])
                  refine wpAnyJ_take 2 (v := ?_) (by first | exact hF | exact wideFn) (HS33.out _ Bd.out) rfl (by kernel_rfl) (by kernel_rfl) (by kernel_rfl) (by kernel_rfl) rfl ?_ (by first | exact fun _ _ _ h => h | exact fun _ _ _ h => hQ2 _ _ _ _ _ h) ?_
                  rotate_left
                  · intro W hSW
                    simp only [glA, glB, glC]
                    (try dsimp only at hSW)
                    go_simp
                    with_reducible rfl
                  (try simp only [glA, glB, glC, Act.put, glD, glE, glF])
                  refine wpAnyJ_take 3 (v := ?_) (by first | exact hF | exact wideFn) (HS33.out _ Bd.out) rfl (by kernel_rfl) (by kernel_rfl) (by kernel_rfl) (by kernel_rfl) rfl ?_ (by first | exact fun _ _ _ h => h | exact fun _ _ _ h => hQ2 _ _ _ _ _ h) ?_
                  rotate_left
                  · intro W hSW
                    simp only [glA, glB, glC]
                    (try dsimp only at hSW)
                    go_simp
                    with_reducible rfl
                  (try simp only [glA, glB, glC, Act.put, glD, glE, glF])
                  refine wpAnyJ_take 4 (v := ?_) (by first | exact hF | exact wideFn) (HS33.out _ Bd.out) rfl (by kernel_rfl) (by kernel_rfl) (by kernel_rfl) (by kernel_rfl) rfl ?_ (by first | exact fun _ _ _ h => h | exact fun _ _ _ h => hQ2 _ _ _ _ _ h) ?_
                  rotate_left
                  · intro W hSW
                    simp only [glA, glB, glC]
                    (try dsimp only at hSW)
                    go_simp
                    with_reducible rfl
                  (try simp only [glA, glB, glC, Act.put, glD, glE, glF])
                  refine wpAnyJ_take 5 (v := ?_) (by first | exact hF | exact wideFn) (HS33.out _ Bd.out) rfl (by kernel_rfl) (by kernel_rfl) (by kernel_rfl) (by kernel_rfl) rfl ?_ (by first | exact fun _ _ _ h => h | exact fun _ _ _ h => hQ2 _ _ _ _ _ h) ?_
                  rotate_left
                  · intro W hSW
                    simp only [glA, glB, glC]
                    (try dsimp only at hSW)
                    go_simp
                    with_reducible rfl
                  (try simp only [glA, glB, glC, Act.put, glD, glE, glF])
                  refine wpAnyJ_take 6 (v := ?_) (by first | exact hF | exact wideFn) (HS33.out _ Bd.out) rfl (by kernel_rfl) (by kernel_rfl) (by kernel_rfl) (by kernel_rfl) rfl ?_ (by first | exact fun _ _ _ h => h | exact fun _ _ _ h => hQ2 _ _ _ _ _ h) ?_
                  rotate_left
                  · intro W hSW
                    simp only [glA, glB, glC]
                    (try dsimp only at hSW)
                    go_simp
                    with_reducible rfl
                  (try simp only [glA, glB, glC, Act.put, glD, glE, glF])
                  refine wpAnyJ_take 7 (v := ?_) (by first | exact hF | exact wideFn) (HS33.out _ Bd.out) rfl (by kernel_rfl) (by kernel_rfl) (by kernel_rfl) (by kernel_rfl) rfl ?_ (by first | exact fun _ _ _ h => h | exact fun _ _ _ h => hQ2 _ _ _ _ _ h) ?_
                  rotate_left
                  · intro W hSW
                    simp only [glA, glB, glC]
                    (try dsimp only at hSW)
                    go_simp
                    with_reducible rfl
                  (try simp only [glA, glB, glC, Act.put, glD, glE, glF])
                  refine wpAnyJ_take 8 (v := ?_) (by first | exact hF | exact wideFn) (HS33.out _ Bd.out) rfl (by kernel_rfl) (by kernel_rfl) (by kernel_rfl) (by kernel_rfl) rfl ?_ (by first | exact fun _ _ _ h => h | exact fun _ _ _ h => hQ2 _ _ _ _ _ h) ?_
                  rotate_left
                  · intro W hSW
                    simp only [glA, glB, glC]
                    (try dsimp only at hSW)
                    go_simp
                    with_reducible rfl
                  (try simp only [glA, glB, glC, Act.put, glD, glE, glF])
                  refine wpAnyJ_take 9 (v := ?_) (by first | exact hF | exact wideFn) (HS33.out _ Bd.out) rfl (by kernel_rfl) (by kernel_rfl) (by kernel_rfl) (by kernel_rfl) rfl ?_ (by first | exact fun _ _ _ h => h | exact fun _ _ _ h => hQ2 _ _ _ _ _ h) ?_
                  rotate_left
                  · intro W hSW
                    simp only [glA, glB, glC]
                    (try dsimp only at hSW)
                    go_simp
                    with_reducible rfl
                  (try simp only [glA, glB, glC, Act.put, glD, glE, glF])
                  refine wpAnyJ_take 10 (v := ?_) (by first | exact hF | exact wideFn) (HS33.out _ Bd.out) rfl (by kernel_rfl) (by kernel_rfl) (by kernel_rfl) (by kernel_rfl) rfl ?_ (by first | exact fun _ _ _ h => h | exact fun _ _ _ h => hQ2 _ _ _ _ _ h) ?_
                  rotate_left
                  · intro W hSW
                    simp only [glA, glB, glC]
                    (try dsimp only at hSW)
                    go_simp
                    with_reducible rfl
                  (try simp only [glA, glB, glC, Act.put, glD, glE, glF])
                  refine wpAnyJ_take 11 (v := ?_) (by first | exact hF | exact wideFn) (HS33.out _ Bd.out) rfl (by kernel_rfl) (by kernel_rfl) (by kernel_rfl) (by kernel_rfl) rfl ?_ (by first | exact fun _ _ _ h => h | exact fun _ _ _ h => hQ2 _ _ _ _ _ h) ?_
                  rotate_left
                  · intro W hSW
                    simp only [glA, glB, glC]
                    (try dsimp only at hSW)
                    go_simp
                    with_reducible rfl
                  (try simp only [glA, glB, glC, Act.put, glD, glE, glF])
                  refine wpAnyJ_take 12 (v := ?_) (by first | exact hF | exact wideFn) (HS33.out _ Bd.out) rfl (by kernel_rfl) (by kernel_rfl) (by kernel_rfl) (by kernel_rfl) rfl ?_ (by first | exact fun _ _ _ h => h | exact fun _ _ _ h => hQ2 _ _ _ _ _ h) ?_
                  rotate_left
                  · intro W hSW
                    simp only [glA, glB, glC]
                    (try dsimp only at hSW)
                    go_simp
                    with_reducible rfl
                  (try simp only [glA, glB, glC, Act.put, glD, glE, glF])
                  refine wpAnyJ_take 13 (v := ?_) (by first | exact hF | exact wideFn) (HS33.out _ Bd.out) rfl (by kernel_rfl) (by kernel_rfl) (by kernel_rfl) (by kernel_rfl) rfl ?_ (by first | exact fun _ _ _ h => h | exact fun _ _ _ h => hQ2 _ _ _ _ _ h) ?_
                  rotate_left
                  · intro W hSW
                    simp only [glA, glB, glC]
                    (try dsimp only at hSW)
                    go_simp
                    with_reducible rfl
                  (try simp only [glA, glB, glC, Act.put, glD, glE, glF])
                  refine wpAnyJ_take 14 (v := ?_) (by first | exact hF | exact wideFn) (HS33.out _ Bd.out) rfl (by kernel_rfl) (by kernel_rfl) (by kernel_rfl) (by kernel_rfl) rfl ?_ (by first | exact fun _ _ _ h => h | exact fun _ _ _ h => hQ2 _ _ _ _ _ h) ?_
                  rotate_left
                  · intro W hSW
                    simp only [glA, glB, glC]
                    (try dsimp only at hSW)
                    go_simp
                    with_reducible rfl
                  (try simp only [glA, glB, glC, Act.put, glD, glE, glF])
                  refine wpAnyJ_take 15 (v := ?_) (by first | exact hF | exact wideFn) (HS33.out _ Bd.out) rfl (by kernel_rfl) (by kernel_rfl) (by kernel_rfl) (by kernel_rfl) rfl ?_ (by first | exact fun _ _ _ h => h | exact fun _ _ _ h => hQ2 _ _ _ _ _ h) ?_
                  rotate_left
                  · intro W hSW
                    simp only [glA, glB, glC]
                    (try dsimp only at hSW)
                    go_simp
                    with_reducible rfl
                  (try simp only [glA, glB, glC, Act.put, glD, glE, glF])
                  refine wpAnyJ_take 16 (v := ?_) (by first | exact hF | exact wideFn) (HS33.out _ Bd.out) rfl (by kernel_rfl) (by kernel_rfl) (by kernel_rfl) (by kernel_rfl) rfl ?_ (by first | exact fun _ _ _ h => h | exact fun _ _ _ h => hQ2 _ _ _ _ _ h) ?_
                  rotate_left
                  · intro W hSW
                    simp only [glA, glB, glC]
                    (try dsimp only at hSW)
                    go_simp
                    with_reducible rfl
                  (try simp only [glA, glB, glC, Act.put, glD, glE, glF])
                  refine wpAnyJ_take 17 (v := ?_) (by first | exact hF | exact wideFn) (HS33.out _ Bd.out) rfl (by kernel_rfl) (by kernel_rfl) (by kernel_rfl) (by kernel_rfl) rfl ?_ (by first | exact fun _ _ _ h => h | exact fun _ _ _ h => hQ2 _ _ _ _ _ h) ?_
                  rotate_left
                  · intro W hSW
                    simp only [glA, glB, glC]
                    (try dsimp only at hSW)
                    go_simp
                    with_reducible rfl
                  (try simp only [glA, glB, glC, Act.put, glD, glE, glF])
                  refine wpAnyJ_take 18 (v := ?_) (by first | exact hF | exact wideFn) (HS33.out _ Bd.out) rfl (by kernel_rfl) (by kernel_rfl) (by kernel_rfl) (by kernel_rfl) rfl ?_ (by first | exact fun _ _ _ h => h | exact fun _ _ _ h => hQ2 _ _ _ _ _ h) ?_
                  rotate_left
                  · intro W hSW
                    simp only [glA, glB, glC]
                    (try dsimp only at hSW)
                    go_simp
                    with_reducible rfl
                  (try simp only [glA, glB, glC, Act.put, glD, glE, glF])
                  refine wpAnyJ_take 19 (v := ?_) (by first | exact hF | exact wideFn) (HS33.out _ Bd.out) rfl (by kernel_rfl) (by kernel_rfl) (by kernel_rfl) (by kernel_rfl) rfl ?_ (by first | exact fun _ _ _ h => h | exact fun _ _ _ h => hQ2 _ _ _ _ _ h) ?_
                  rotate_left
                  · intro W hSW
                    simp only [glA, glB, glC]
                    (try dsimp only at hSW)
                    go_simp
                    with_reducible rfl
                  (try simp only [glA, glB, glC, Act.put, glD, glE, glF])
                  refine wpAnyJ_take 20 (v := ?_) (by first | exact hF | exact wideFn) (HS33.out _ Bd.out) rfl (by kernel_rfl) (by kernel_rfl) (by kernel_rfl) (by kernel_rfl) rfl ?_ (by first | exact fun _ _ _ h => h | exact fun _ _ _ h => hQ2 _ _ _ _ _ h) ?_
                  rotate_left
                  · intro W hSW
                    simp only [glA, glB, glC]
                    (try dsimp only at hSW)
                    go_simp
                    with_reducible rfl
                  (try simp only [glA, glB, glC, Act.put, glD, glE, glF])
                  refine wpAnyJ_done (by kernel_rfl) ?_
                  go_wp2_with fail
                  go_meet
                  exact Bd
                · obtain rfl : 110 = e1 := h1.symm
                  have v1 : (e2 == 7) = false := by rw [beq_eq_false_iff_ne]; exact h7
                  clear h1 h7
                  go_wp2_with fail
                  go_meet
                  exact hide (Below.refl _ _)
               -- ENDb5
              have HCUT := hcut
              clear hcut
              obtain ⟨wl, hwl⟩ : ∃ x, x = wc := ⟨_, rfl⟩
              rw [← hwl] at HCUT ⊢
              clear hwl
              have Bl := hide (Bk.out.trans (HCUT.out.mono Bk.out.size))
              obtain ⟨⟨x0, x1, x2⟩, -, p1, p2⟩ := HSF.out _ Bl.out
              go_upto_region 37 with fail
              go_cut [265] (fun v w' => v = .bool false ∧ w' = wl)
              case first =>
               -- BEGINb6
               as_aux_lemma =>
                rcases HPRH.out with ⟨h1, -, -⟩ | ⟨h1, -, h3⟩
                · obtain rfl : 0 = e1 := h1.symm
                  by_cases h0 : e2 = 0
                  · have v1 : ((ln2 : Int) == 0) = false := by have := HOLD.out h0; rw [beq_eq_false_iff_ne]; omega
                    obtain rfl : 0 = e2 := h0.symm
                    clear h1 h0
                    go_wp2_with fail
                    go_meet
                    exact ⟨rfl, rfl⟩
                  · have v1 : (e2 == 0) = false := by rw [beq_eq_false_iff_ne]; exact h0
                    clear h1 h0
                    go_wp2_with fail
                    go_meet
                    exact ⟨rfl, rfl⟩
                · obtain rfl : 110 = e1 := h1.symm
                  by_cases h0 : e2 = 0
                  · have v1 : ((ln2 : Int) == 0) = false := by have := HOLD.out h0; rw [beq_eq_false_iff_ne]; omega
                    have v2 : (n2 == sy) = false := by rw [beq_eq_false_iff_ne]; exact h3 h0
                    obtain rfl : 0 = e2 := h0.symm
                    clear h1 h0 h3
                    go_wp2_with fail
                    go_meet
                    exact ⟨rfl, rfl⟩
                  · have v1 : (e2 == 0) = false := by rw [beq_eq_false_iff_ne]; exact h0
                    clear h1 h0 h3
                    go_wp2_with fail
                    go_meet
                    exact ⟨rfl, rfl⟩
               -- ENDb6
              obtain ⟨rfl, hw⟩ := hcut
              have hw := hw.symm
              subst hw
              as_aux_lemma =>
              have HEQ := equal_any CA OA cc oc c o wl (by rw [HCL.out.1]; unfold maxLen; omega) (OwnJ.li (OwnJ.ext HC7.out Bl.out)).2 (OwnJ.li (OwnJ.ext HO7.out Bl.out)).2
              rw [HCL.out.1, HCL.out.2] at HEQ
              by_cases hco : c = o
              · -- BEGINb7
                as_aux_lemma =>
                rw [decide_eq_true hco] at HEQ
                replace HEQ := hide HEQ
                clear hco
                go_wp2_with fail
                refine HEQ.out.mono ?_
                rintro e wm ⟨rfl, hb⟩
                have BM := hide (B7.out.trans ((Bl.out.trans (hb.mono Bl.out.size)).mono B7.out.size))
                clear hb
                go_wp2_with fail
                refine (known_any wm).mono ?_
                rintro e wz ⟨rfl, hbz⟩
                go_wp2_with fail
                go_ret
                exact ⟨rfl, HB0.out.trans ((BM.out.trans (hbz.mono BM.out.size)).mono HB0.out.size)⟩
                -- ENDb7
              rw [decide_eq_false hco] at HEQ
              replace HEQ := hide HEQ
              have HPO2 := hide (HPO.out hco)
              clear hco
              go_wp2_with fail
              refine HEQ.out.mono ?_
              rintro e wm ⟨rfl, hb⟩
              have Bm := hide (Bl.out.trans (hb.mono Bl.out.size))
              clear hb p1 p2 x0 x1 x2 HEQ
              -- BEGINb8
              as_aux_lemma =>
              go_upto_region 41 with fail
              have Bd := hide (Bm.out.trans ((Below.refl wm.heap.size wm).drew.mono Bm.out.size))
              refine wp_region_J (fun W : World => ((W.cell? ⟨G, 0, none⟩ = some (.slice d.fa nf d.fc) ∧ W.cell? ⟨G, 1, none⟩ = some (.int .i64 Q) ∧ W.cell? ⟨G, 2, none⟩ = some (.slice d.ra nr d.rc)) ∧ (W.cell? ⟨T, 0, none⟩ = some (.slice d1.fa nf d1.fc) ∧ W.cell? ⟨T, 1, none⟩ = some (.int .i64 Q) ∧ W.cell? ⟨T, 2, none⟩ = some (.slice B (nr + 1) bc)) ∧ W.cell? ⟨X, 1, none⟩ = some (.int .i64 ask) ∧ W.cell? ⟨X, 2, none⟩ = some (.int .i64 sy))) (by kernel_rfl) ?_
              have Cd := hide ((Below.refl wm.heap.size wm).drew)
              generalize wm.drew = wd at Bd Cd ⊢
              refine wpAnyJ_take 0 (v := ?_) (by first | exact hF | exact wideFn) (HSF.out _ Bd.out) rfl (by kernel_rfl) (by kernel_rfl) (by kernel_rfl) (by kernel_rfl) rfl ?_ (by first | exact fun _ _ _ h => h | exact fun _ _ _ h => hQ2 _ _ _ _ _ h) ?_
              rotate_left
              · intro W hSW
                simp only [glA, glB, glC]
                (try dsimp only at hSW)
                go_simp
                with_reducible rfl
              (try simp only [glA, glB, glC, Act.put, glD, glE, glF])
              refine wpAnyJ_take 2 (v := ?_) (by first | exact hF | exact wideFn) (HSF.out _ Bd.out) rfl (by kernel_rfl) (by kernel_rfl) (by kernel_rfl) (by kernel_rfl) rfl ?_ (by first | exact fun _ _ _ h => h | exact fun _ _ _ h => hQ2 _ _ _ _ _ h) ?_
              rotate_left
              · intro W hSW
                simp only [glA, glB, glC]
                (try dsimp only at hSW)
                go_simp
                with_reducible rfl
              (try simp only [glA, glB, glC, Act.put, glD, glE, glF])
              refine wpAnyJ_take 4 (v := ?_) (by first | exact hF | exact wideFn) (HSF.out _ Bd.out) rfl (by kernel_rfl) (by kernel_rfl) (by kernel_rfl) (by kernel_rfl) rfl ?_ (by first | exact fun _ _ _ h => h | exact fun _ _ _ h => hQ2 _ _ _ _ _ h) ?_
              rotate_left
              · intro W hSW
                simp only [glA, glB, glC]
                (try dsimp only at hSW)
                go_simp
                with_reducible rfl
              (try simp only [glA, glB, glC, Act.put, glD, glE, glF])
              refine wpAnyJ_take 5 (v := ?_) (by first | exact hF | exact wideFn) (HSF.out _ Bd.out) rfl (by kernel_rfl) (by kernel_rfl) (by kernel_rfl) (by kernel_rfl) rfl ?_ (by first | exact fun _ _ _ h => h | exact fun _ _ _ h => hQ2 _ _ _ _ _ h) ?_
              rotate_left
              · intro W hSW
                simp only [glA, glB, glC]
                (try dsimp only at hSW)
                go_simp
                with_reducible rfl
              (try simp only [glA, glB, glC, Act.put, glD, glE, glF])
              refine wpAnyJ_one 1 rfl (by kernel_rfl) (fun K hK => ?_)
              simp only [glA, glB, glC]
              go_simp
              refine ⟨trivial, rfl, ?_⟩
              (with_reducible refine (callsIn_wide.2 (HCT.out wd Bd.out)).mono ?_)
              rintro e wf ⟨dx, rfl, hdx, hb1⟩
              have Be := hide (Bd.out.trans (hb1.mono Bd.out.size))
              dsimp only
              refine hK.out _ _ (fun _ => HSF.out _ Be.out) ?_
              clear hK K
              (try simp only [glA, glB, glC, Act.put, glD, glE, glF])
              refine wpAnyJ_one 3 rfl (by kernel_rfl) (fun K hK => ?_)
              simp only [glA, glB, glC]
              go_simp
              refine ⟨trivial, rfl, ?_⟩
              (with_reducible refine (callsIn_wide.2 (HNO.out wf Be.out)).mono ?_)
              rintro e wg ⟨vn, rfl, hon, hb2⟩
              have Bf := hide (Be.out.trans (hb2.mono Be.out.size))
              dsimp only
              refine hK.out _ _ (fun _ => HSF.out _ Bf.out) ?_
              clear hK K
              (try simp only [glA, glB, glC, Act.put, glD, glE, glF])
              obtain ⟨NA, ncap, hvn⟩ := own_shape hon
              have hvn2 : vn = .slice NA nf ncap := by rw [hvn, HCL.out.2]
              subst hvn2
              clear hvn
              have HD9 := Decide_any dx t NA ncap o ask wg (hdx.below hb2) HZT.out.1 HZT.out.2 (OwnJ.li hon).2
              obtain ⟨⟨n3, e3, l3⟩, hdd⟩ : ∃ r, decR t o ask = r := ⟨_, rfl⟩
              rw [hdd, HCL.out.2] at HD9
              have HD3_ := hide hdd
              unfold DePost at HD9
              dsimp only at HD9
              refine wpAnyJ_one 6 rfl (by kernel_rfl) (fun K hK => ?_)
              simp only [glA, glB, glC]
              go_simp
              refine ⟨trivial, rfl, ?_⟩
              (with_reducible refine (callsIn_wide.2 HD9).mono ?_)
              rintro e wn ⟨vl, rfl, hol, hb3⟩
              have Bn := hide (Bf.out.trans (hb3.mono Bf.out.size))
              dsimp only
              refine hK.out _ _ (fun _ => HSF.out _ Bn.out) ?_
              clear hK K
              (try simp only [glA, glB, glC, Act.put, glD, glE, glF])
              refine wpAnyJ_take 7 (v := ?_) (by first | exact hF | exact wideFn) (HSF.out _ Bn.out) rfl (by kernel_rfl) (by kernel_rfl) (by kernel_rfl) (by kernel_rfl) rfl ?_ (by first | exact fun _ _ _ h => h | exact fun _ _ _ h => hQ2 _ _ _ _ _ h) ?_
              rotate_left
              · intro W hSW
                simp only [glA, glB, glC]
                (try dsimp only at hSW)
                go_simp
                with_reducible rfl
              (try simp only [glA, glB, glC, Act.put, glD, glE, glF])
              refine wpAnyJ_take 8 (v := ?_) (by first | exact hF | exact wideFn) (HSF.out _ Bn.out) rfl (by kernel_rfl) (by kernel_rfl) (by kernel_rfl) (by kernel_rfl) rfl ?_ (by first | exact fun _ _ _ h => h | exact fun _ _ _ h => hQ2 _ _ _ _ _ h) ?_
              rotate_left
              · intro W hSW
                simp only [glA, glB, glC]
                (try dsimp only at hSW)
                go_simp
                with_reducible rfl
              (try simp only [glA, glB, glC, Act.put, glD, glE, glF])
              refine wpAnyJ_take 9 (v := ?_) (by first | exact hF | exact wideFn) (HSF.out _ Bn.out) rfl (by kernel_rfl) (by kernel_rfl) (by kernel_rfl) (by kernel_rfl) rfl ?_ (by first | exact fun _ _ _ h => h | exact fun _ _ _ h => hQ2 _ _ _ _ _ h) ?_
              rotate_left
              · intro W hSW
                simp only [glA, glB, glC]
                (try dsimp only at hSW)
                go_simp
                with_reducible rfl
              (try simp only [glA, glB, glC, Act.put, glD, glE, glF])
              refine wpAnyJ_take 10 (v := ?_) (by first | exact hF | exact wideFn) (HSF.out _ Bn.out) rfl (by kernel_rfl) (by kernel_rfl) (by kernel_rfl) (by kernel_rfl) rfl ?_ (by first | exact fun _ _ _ h => h | exact fun _ _ _ h => hQ2 _ _ _ _ _ h) ?_
              rotate_left
              · intro W hSW
                simp only [glA, glB, glC]
                (try dsimp only at hSW)
                go_simp
                with_reducible rfl
              (try simp only [glA, glB, glC, Act.put, glD, glE, glF])
              refine wpAnyJ_take 11 (v := ?_) (by first | exact hF | exact wideFn) (HSF.out _ Bn.out) rfl (by kernel_rfl) (by kernel_rfl) (by kernel_rfl) (by kernel_rfl) rfl ?_ (by first | exact fun _ _ _ h => h | exact fun _ _ _ h => hQ2 _ _ _ _ _ h) ?_
              rotate_left
              · intro W hSW
                simp only [glA, glB, glC]
                (try dsimp only at hSW)
                go_simp
                with_reducible rfl
              (try simp only [glA, glB, glC, Act.put, glD, glE, glF])
              refine wpAnyJ_take 12 (v := ?_) (by first | exact hF | exact wideFn) (HSF.out _ Bn.out) rfl (by kernel_rfl) (by kernel_rfl) (by kernel_rfl) (by kernel_rfl) rfl ?_ (by first | exact fun _ _ _ h => h | exact fun _ _ _ h => hQ2 _ _ _ _ _ h) ?_
              rotate_left
              · intro W hSW
                simp only [glA, glB, glC]
                (try dsimp only at hSW)
                go_simp
                with_reducible rfl
              (try simp only [glA, glB, glC, Act.put, glD, glE, glF])
              refine wpAnyJ_take 13 (v := ?_) (by first | exact hF | exact wideFn) (HSF.out _ Bn.out) rfl (by kernel_rfl) (by kernel_rfl) (by kernel_rfl) (by kernel_rfl) rfl ?_ (by first | exact fun _ _ _ h => h | exact fun _ _ _ h => hQ2 _ _ _ _ _ h) ?_
              rotate_left
              · intro W hSW
                simp only [glA, glB, glC]
                (try dsimp only at hSW)
                go_simp
                with_reducible rfl
              (try simp only [glA, glB, glC, Act.put, glD, glE, glF])
              refine wpAnyJ_done (by kernel_rfl) ?_
              obtain ⟨LA3, lc3, hvl⟩ := own_shape hol
              subst hvl
              obtain ⟨ln3, hln⟩ : ∃ n, l3.length = n := ⟨_, rfl⟩
              rw [hln]
              have HLN3 := hide hln
              rw [hln] at hol
              have HOL3 := hide hol
              have C3 := hide (((Cd.out.trans (hb1.mono Cd.out.size)).trans (hb2.mono (Nat.le_trans Cd.out.size hb1.size))).trans (hb3.mono (Nat.le_trans (Nat.le_trans Cd.out.size hb1.size) hb2.size)))
              clear hb1 hb2 hb3 hdx HD9 Bd Be Bf hon hol hln hdd Cd
              go_upto_region 42 with fail
              have Bd := hide (Bn.out.trans ((Below.refl wn.heap.size wn).drew.mono Bn.out.size))
              refine wp_region_J (fun W : World => ((W.cell? ⟨G, 0, none⟩ = some (.slice d.fa nf d.fc) ∧ W.cell? ⟨G, 1, none⟩ = some (.int .i64 Q) ∧ W.cell? ⟨G, 2, none⟩ = some (.slice d.ra nr d.rc)) ∧ (W.cell? ⟨T, 0, none⟩ = some (.slice d1.fa nf d1.fc) ∧ W.cell? ⟨T, 1, none⟩ = some (.int .i64 Q) ∧ W.cell? ⟨T, 2, none⟩ = some (.slice B (nr + 1) bc)) ∧ W.cell? ⟨X, 1, none⟩ = some (.int .i64 ask) ∧ W.cell? ⟨X, 2, none⟩ = some (.int .i64 sy))) (by kernel_rfl) ?_
              have Cd := hide ((Below.refl wn.heap.size wn).drew)
              generalize wn.drew = wd at Bd Cd ⊢
              refine wpAnyJ_take 0 (v := ?_) (by first | exact hF | exact wideFn) (HSF.out _ Bd.out) rfl (by kernel_rfl) (by kernel_rfl) (by kernel_rfl) (by kernel_rfl) rfl ?_ (by first | exact fun _ _ _ h => h | exact fun _ _ _ h => hQ2 _ _ _ _ _ h) ?_
              rotate_left
              · intro W hSW
                simp only [glA, glB, glC]
                (try dsimp only at hSW)
                go_simp
                with_reducible rfl
              (try simp only [glA, glB, glC, Act.put, glD, glE, glF])
              refine wpAnyJ_take 2 (v := ?_) (by first | exact hF | exact wideFn) (HSF.out _ Bd.out) rfl (by kernel_rfl) (by kernel_rfl) (by kernel_rfl) (by kernel_rfl) rfl ?_ (by first | exact fun _ _ _ h => h | exact fun _ _ _ h => hQ2 _ _ _ _ _ h) ?_
              rotate_left
              · intro W hSW
                simp only [glA, glB, glC]
                (try dsimp only at hSW)
                go_simp
                with_reducible rfl
              (try simp only [glA, glB, glC, Act.put, glD, glE, glF])
              refine wpAnyJ_take 4 (v := ?_) (by first | exact hF | exact wideFn) (HSF.out _ Bd.out) rfl (by kernel_rfl) (by kernel_rfl) (by kernel_rfl) (by kernel_rfl) rfl ?_ (by first | exact fun _ _ _ h => h | exact fun _ _ _ h => hQ2 _ _ _ _ _ h) ?_
              rotate_left
              · intro W hSW
                simp only [glA, glB, glC]
                (try dsimp only at hSW)
                go_simp
                with_reducible rfl
              (try simp only [glA, glB, glC, Act.put, glD, glE, glF])
              refine wpAnyJ_take 5 (v := ?_) (by first | exact hF | exact wideFn) (HSF.out _ Bd.out) rfl (by kernel_rfl) (by kernel_rfl) (by kernel_rfl) (by kernel_rfl) rfl ?_ (by first | exact fun _ _ _ h => h | exact fun _ _ _ h => hQ2 _ _ _ _ _ h) ?_
              rotate_left
              · intro W hSW
                simp only [glA, glB, glC]
                (try dsimp only at hSW)
                go_simp
                with_reducible rfl
              (try simp only [glA, glB, glC, Act.put, glD, glE, glF])
              refine wpAnyJ_one 1 rfl (by kernel_rfl) (fun K hK => ?_)
              simp only [glA, glB, glC]
              go_simp
              refine ⟨trivial, rfl, ?_⟩
              (with_reducible refine (callsIn_wide.2 (HCU.out wd Bd.out)).mono ?_)
              rintro e wf ⟨dx, rfl, hdx, hb1⟩
              have Be := hide (Bd.out.trans (hb1.mono Bd.out.size))
              dsimp only
              refine hK.out _ _ (fun _ => HSF.out _ Be.out) ?_
              clear hK K
              (try simp only [glA, glB, glC, Act.put, glD, glE, glF])
              refine wpAnyJ_one 3 rfl (by kernel_rfl) (fun K hK => ?_)
              simp only [glA, glB, glC]
              go_simp
              refine ⟨trivial, rfl, ?_⟩
              (with_reducible refine (callsIn_wide.2 (HNO.out wf Be.out)).mono ?_)
              rintro e wg ⟨vn, rfl, hon, hb2⟩
              have Bf := hide (Be.out.trans (hb2.mono Be.out.size))
              dsimp only
              refine hK.out _ _ (fun _ => HSF.out _ Bf.out) ?_
              clear hK K
              (try simp only [glA, glB, glC, Act.put, glD, glE, glF])
              obtain ⟨NA, ncap, hvn⟩ := own_shape hon
              have hvn2 : vn = .slice NA nf ncap := by rw [hvn, HCL.out.2]
              subst hvn2
              clear hvn
              have HD9 := Decide_any dx s NA ncap o ask wg (hdx.below hb2) HZS.out.1 HZS.out.2 (OwnJ.li hon).2
              obtain ⟨⟨n4, e4, l4⟩, hdd⟩ : ∃ r, decR s o ask = r := ⟨_, rfl⟩
              rw [hdd, HCL.out.2] at HD9
              have HD4_ := hide hdd
              unfold DePost at HD9
              dsimp only at HD9
              refine wpAnyJ_one 6 rfl (by kernel_rfl) (fun K hK => ?_)
              simp only [glA, glB, glC]
              go_simp
              refine ⟨trivial, rfl, ?_⟩
              (with_reducible refine (callsIn_wide.2 HD9).mono ?_)
              rintro e wo ⟨vl, rfl, hol, hb3⟩
              have Bo := hide (Bf.out.trans (hb3.mono Bf.out.size))
              dsimp only
              refine hK.out _ _ (fun _ => HSF.out _ Bo.out) ?_
              clear hK K
              (try simp only [glA, glB, glC, Act.put, glD, glE, glF])
              refine wpAnyJ_take 7 (v := ?_) (by first | exact hF | exact wideFn) (HSF.out _ Bo.out) rfl (by kernel_rfl) (by kernel_rfl) (by kernel_rfl) (by kernel_rfl) rfl ?_ (by first | exact fun _ _ _ h => h | exact fun _ _ _ h => hQ2 _ _ _ _ _ h) ?_
              rotate_left
              · intro W hSW
                simp only [glA, glB, glC]
                (try dsimp only at hSW)
                go_simp
                with_reducible rfl
              (try simp only [glA, glB, glC, Act.put, glD, glE, glF])
              refine wpAnyJ_take 8 (v := ?_) (by first | exact hF | exact wideFn) (HSF.out _ Bo.out) rfl (by kernel_rfl) (by kernel_rfl) (by kernel_rfl) (by kernel_rfl) rfl ?_ (by first | exact fun _ _ _ h => h | exact fun _ _ _ h => hQ2 _ _ _ _ _ h) ?_
              rotate_left
              · intro W hSW
                simp only [glA, glB, glC]
                (try dsimp only at hSW)
                go_simp
                with_reducible rfl
              (try simp only [glA, glB, glC, Act.put, glD, glE, glF])
              refine wpAnyJ_take 9 (v := ?_) (by first | exact hF | exact wideFn) (HSF.out _ Bo.out) rfl (by kernel_rfl) (by kernel_rfl) (by kernel_rfl) (by kernel_rfl) rfl ?_ (by first | exact fun _ _ _ h => h | exact fun _ _ _ h => hQ2 _ _ _ _ _ h) ?_
              rotate_left
              · intro W hSW
                simp only [glA, glB, glC]
                (try dsimp only at hSW)
                go_simp
                with_reducible rfl
              (try simp only [glA, glB, glC, Act.put, glD, glE, glF])
              refine wpAnyJ_take 10 (v := ?_) (by first | exact hF | exact wideFn) (HSF.out _ Bo.out) rfl (by kernel_rfl) (by kernel_rfl) (by kernel_rfl) (by kernel_rfl) rfl ?_ (by first | exact fun _ _ _ h => h | exact fun _ _ _ h => hQ2 _ _ _ _ _ h) ?_
              rotate_left
              · intro W hSW
                simp only [glA, glB, glC]
                (try dsimp only at hSW)
                go_simp
                with_reducible rfl
              (try simp only [glA, glB, glC, Act.put, glD, glE, glF])
              refine wpAnyJ_take 11 (v := ?_) (by first | exact hF | exact wideFn) (HSF.out _ Bo.out) rfl (by kernel_rfl) (by kernel_rfl) (by kernel_rfl) (by kernel_rfl) rfl ?_ (by first | exact fun _ _ _ h => h | exact fun _ _ _ h => hQ2 _ _ _ _ _ h) ?_
              rotate_left
              · intro W hSW
                simp only [glA, glB, glC]
                (try dsimp only at hSW)
                go_simp
                with_reducible rfl
              (try simp only [glA, glB, glC, Act.put, glD, glE, glF])
              refine wpAnyJ_take 12 (v := ?_) (by first | exact hF | exact wideFn) (HSF.out _ Bo.out) rfl (by kernel_rfl) (by kernel_rfl) (by kernel_rfl) (by kernel_rfl) rfl ?_ (by first | exact fun _ _ _ h => h | exact fun _ _ _ h => hQ2 _ _ _ _ _ h) ?_
              rotate_left
              · intro W hSW
                simp only [glA, glB, glC]
                (try dsimp only at hSW)
                go_simp
                with_reducible rfl
              (try simp only [glA, glB, glC, Act.put, glD, glE, glF])
              refine wpAnyJ_take 13 (v := ?_) (by first | exact hF | exact wideFn) (HSF.out _ Bo.out) rfl (by kernel_rfl) (by kernel_rfl) (by kernel_rfl) (by kernel_rfl) rfl ?_ (by first | exact fun _ _ _ h => h | exact fun _ _ _ h => hQ2 _ _ _ _ _ h) ?_
              rotate_left
              · intro W hSW
                simp only [glA, glB, glC]
                (try dsimp only at hSW)
                go_simp
                with_reducible rfl
              (try simp only [glA, glB, glC, Act.put, glD, glE, glF])
              refine wpAnyJ_done (by kernel_rfl) ?_
              obtain ⟨LA4, lc4, hvl⟩ := own_shape hol
              subst hvl
              obtain ⟨ln4, hln⟩ : ∃ n, l4.length = n := ⟨_, rfl⟩
              rw [hln]
              have HLN4 := hide hln
              rw [hln] at hol
              have HOL4 := hide hol
              have C4 := hide (((Cd.out.trans (hb1.mono Cd.out.size)).trans (hb2.mono (Nat.le_trans Cd.out.size hb1.size))).trans (hb3.mono (Nat.le_trans (Nat.le_trans Cd.out.size hb1.size) hb2.size)))
              clear hb1 hb2 hb3 hdx HD9 Bd Be Bf hon hol hln hdd Cd
              replace HOL3 := hide (OwnJ.ext HOL3.out C4.out)
              have h34 := HPO2.out
              rw [HD3_.out, HD4_.out] at h34
              injection h34 with h34 h5
              injection h5 with h5 h6
              have h7 : ln3 = ln4 := by rw [← HLN3.out, ← HLN4.out, h6]
              have h8 : l4.length ≤ nr := by
                have h := HLT.out.2.2.2
                rw [HD4_.out] at h
                exact h
              rw [h6] at HOL3
              subst h34 h5 h7
              have HEQ := equal_any LA3 LA4 lc3 lc4 l4 l4 wo (by unfold maxLen; omega) (OwnJ.li HOL3.out).2 (OwnJ.li HOL4.out).2
              rw [decide_eq_true rfl, HLN4.out] at HEQ
              replace HEQ := hide HEQ
              have BO := hide (B7.out.trans (Bo.out.mono B7.out.size))
              clear h6 h8
              go_wp2_with fail
              refine HEQ.out.mono ?_
              rintro e wq ⟨rfl, hb⟩
              have BQ := hide (BO.out.trans (hb.mono BO.out.size))
              clear hb
              go_wp2_with fail
              refine (known_any wq).mono ?_
              rintro e wz ⟨rfl, hbz⟩
              go_wp2_with fail
              go_ret
              exact ⟨rfl, HB0.out.trans ((BQ.out.trans (hbz.mono BQ.out.size)).mono HB0.out.size)⟩
              -- ENDb8
              -- ENDb4
          -- ENDb2
      -- END7
end Go.Proofs.YtmpegkojencbjaaDoor
/- How a law's statement follows from its walk; arguments opened as readings. -/
namespace Go.Proofs.YtmpegkojencbjaaDoor
open Go Go.RowKit Go.ChangeShapes Go.WideShapes Go.ChangeAt
set_option maxRecDepth 100000
theorem own_knob : ownKnob Tryd.prog.godebug = none := by kernel_rfl
theorem laidOut : laidOutB Tryd.prog = true := by kernel_rfl
section
variable {H : Type} {enc : TypeId × Value → H}
/-- arguments read behind the call as before, if below the heap's old size nothing has turned -/
theorem stay_all {W W' : World} (hb : Below W.heap.size W W') {sp : Nat → Bool} : ∀ {ts : List TypeId} {vs : List Value} {ds : List (DataW H)} {ps : List MemPlace},
    (∀ t ∈ ts, Tryd.prog.readableRec t = true ∧ t < Tryd.prog.types.size) → DataW.TrodAll enc Tryd.prog W 0 (fun _ => true) true ts vs ds ps → (∀ x ∈ ps, x.block < W.heap.size) → (∀ x ∈ ps, sp x.block = true) →
    DataW.TrodAll enc Tryd.prog W' 0 sp true ts vs ds ps
  | [], _, _, _, _, h, _, _ => by
    obtain ⟨rfl, rfl, rfl⟩ := trodAll_nil h
    exact trodAll_mk0
  | t :: ts, _, _, _, hr, h, hlt, hsp => by
    obtain ⟨v, vs, d, ds, p, q, rfl, rfl, rfl, h0, r0⟩ := trodAll_cons h
    have k := hr t (by simp)
    exact trodAll_cons_mk (WideElems.Trod_stays laidOut k.1 k.2 h0 (fun x hx => hb.same (hlt x (by simp [hx]))) (fun x hx => hsp x (by simp [hx])))
      (stay_all hb (fun t ht => hr t (by simp [ht])) r0 (fun x hx => hlt x (by simp [hx])) (fun x hx => hsp x (by simp [hx])))
/-- a law that returned true and turned nothing old -/
theorem law_post {f : Func} {s : ChangeSpec} {apart fresh handsOn again : Bool} {W W' : World} {args : Array Value} {ds gs : List (DataW H)} {before : List MemPlace}
    (hW : DataW.Whole enc Tryd.prog f.params.toList s.vars apart W args.toList ds gs before) (hb : Below W.heap.size W W')
    (hvs : s.vars = []) (hr1 : f.resultTypes = #[4])
    (hpar : f.params.toList.all (fun t => Tryd.prog.readableRec t && decide (t < Tryd.prog.types.size)) = true)
    (hfn : (s.fn H ds).results = [.lit (.bool true)] ∧ (s.fn H ds).args = ds ∧ (s.fn H ds).vars = []) :
    s.post enc Tryd.prog f apart fresh handsOn again W args (.bool true) W' := by
  have hW0 := hW
  have hlt : ∀ p ∈ before, p.block < W.heap.size := fun p hp => hW.lt p hp
  have hold : ∀ p ∈ before, (fun b => decide (b < W.heap.size)) p.block = true := fun p hp => by simpa using hlt p hp
  obtain ⟨p, q, hA, hV, rfl, hz, hn⟩ := hW
  rw [hvs] at hV
  obtain ⟨rfl, rfl⟩ := trodVars_none hV
  simp only [List.append_nil] at *
  have hk : ∀ t ∈ f.params.toList, Tryd.prog.readableRec t = true ∧ t < Tryd.prog.types.size := by
    intro t ht
    have := List.all_eq_true.1 hpar t ht
    simpa using this
  have hargs : ∀ sp : Nat → Bool, (∀ x ∈ p, sp x.block = true) → DataW.TrodAll enc Tryd.prog W' 0 sp true f.params.toList args.toList (s.fn H (ds ++ [])).args p := fun sp hsp => by
    rw [List.append_nil, hfn.2.1]; exact stay_all hb hk hA hlt hsp
  have hvars : ∀ sp : Nat → Bool, DataW.TrodVars enc Tryd.prog W' sp s.vars (s.fn H (ds ++ [])).vars [] := fun sp => by
    rw [hvs, List.append_nil, hfn.2.2]; exact rfl
  have hres : ∀ (b : Nat) (sp : Nat → Bool) (hd : Bool), DataW.TrodAll enc Tryd.prog W' b sp hd f.resultTypes.toList ((Value.bool true).resultList f.resultTypes.size) (s.fn H (ds ++ [])).results [] := fun b sp hd => by
    rw [List.append_nil, hfn.1, hr1]
    exact trodAll_cons_mk (shut_bool Tryd.underlying4 _) trodAll_mk0
  refine ⟨ds, [], p, [], p, [], hW0, hres _ _ _, hargs _ hold, hvars _, World.keptBut_mono (fun x hx => ⟨hx, Or.inr (by simpa using hx)⟩) (hb.frame (· ∈ p)), fun _ => ?_⟩
  refine ⟨ok_one hr1 rfl (okWide_bool_mk Tryd.underlying4 _), _, _, ([] ++ p) ++ [], ⟨[] ++ p, [], trodAll_append (hargs _ (fun _ _ => rfl)) (hres _ _ _), hvars (fun _ => true), rfl, ?_, ?_⟩, ?_⟩
  · intro b off hp
    have hin : MemPlace.cell b off ∈ p := by simpa using hp
    rw [hb.frozen (hlt _ hin)]
    exact hz b off hin
  · intro ha
    simpa using hn ha
  · intro x hx _
    simpa using hx
/-- a slice of structs of two cells: the readings of its elements -/
theorem open_pairs_c {W : World} {t e : TypeId} {f0 f1 : Field} {v : Value} {x : DataW H × List MemPlace} {fuel : Nat} (ht : Tryd.prog.underlying t = some (.slice e)) (he : Tryd.prog.underlying e = some (.struct #[f0, f1]))
    (ce : Tryd.prog.cellsOf e = 2) (o0 : f0.offset = 0) (o1 : f1.offset = 1) (c0 : Tryd.prog.cellsOf f0.type = 1) (c1 : Tryd.prog.cellsOf f1.type = 1)
    (h : DataW.trod enc Tryd.prog W 0 (fun _ => true) true fuel t [v] = some x) (hlt : ∀ y ∈ x.2, y.block < W.heap.size) :
    ∃ A n c V0 V1, v = .slice A n c ∧ n ≤ maxLen ∧ n ≤ c ∧ P2 W W.heap.size A n V0 V1 ∧ ∀ i, i < n → ∃ m x0 x1, DataW.trod enc Tryd.prog W 0 (fun _ => true) true m f0.type [V0 i] = some x0 ∧ DataW.trod enc Tryd.prog W 0 (fun _ => true) true m f1.type [V1 i] = some x1 ∧
      (∀ y ∈ x0.2, y.block < W.heap.size) ∧ (∀ y ∈ x1.2, y.block < W.heap.size) := by
  rcases Deep.open_slice_pairs ht he ce o0 o1 c0 c1 h with ⟨h1, -⟩ | ⟨a, len, cap, m, n, V0, V1, D0, D1, P0, P1, h1, hb, hl, hm, hmm, hx, hc⟩
  · injection h1 with h1
    subst h1
    exact ⟨none, 0, 0, fun _ => .nilIface, fun _ => .nilIface, rfl, by simp [maxLen], Nat.le_refl _, ER.nil _ _ _ _ _, fun i hi => absurd hi (by omega)⟩
  · injection h1 with h1
    subst h1
    simp only [if_true] at hmm
    subst hmm
    refine ⟨some a, len, m, V0, V1, rfl, by omega, hl, fun hn => ?_, fun i hi => ?_⟩
    · have h0 := (hc 0 (by omega)).1
      obtain ⟨b, off, spot⟩ := a
      have hsp : spot = none := by simpa [Addr.add] using World.cell?_spot h0
      subst hsp
      refine ⟨b, off, rfl, ?_, fun k i hk hi => ?_⟩
      · have hb1 := hlt (.cell b (off + 0)) (by
          rw [hx]
          exact List.mem_append_left _ (MemPlace.mem_row.2 ⟨0, by omega, rfl⟩))
        exact hb1
      · have hk2 := hc k (by omega)
        have q0 := hk2.1
        have q1 := hk2.2.1
        rw [add_lit'] at q0 q1
        rcases (by omega : i = 0 ∨ i = 1) with rfl | rfl
        · simpa using q0
        · simpa [Nat.add_assoc] using q1
    · have hi2 := hc i (by omega)
      refine ⟨n, _, _, hi2.2.2.1, hi2.2.2.2, fun y hy => hlt y ?_, fun y hy => hlt y ?_⟩
      · rw [hx]; exact List.mem_append_right _ (List.mem_flatMap.2 ⟨i, by simp; omega, List.mem_append_left _ hy⟩)
      · rw [hx]; exact List.mem_append_right _ (List.mem_flatMap.2 ⟨i, by simp; omega, List.mem_append_right _ hy⟩)
/-- a slice of ints -/
theorem open_ints_c {W : World} {t : TypeId} {v : Value} {x : DataW H × List MemPlace} {fuel : Nat} (ht : Tryd.prog.underlying t = some (.slice 3))
    (h : DataW.trod enc Tryd.prog W 0 (fun _ => true) true fuel t [v] = some x) (hlt : ∀ y ∈ x.2, y.block < W.heap.size) :
    ∃ A n c z, v = .slice A n c ∧ n ≤ maxLen ∧ n ≤ c ∧ IR W W.heap.size A n z ∧ ∀ i, i < n → -9223372036854775808 ≤ z i ∧ z i ≤ 9223372036854775807 := by
  rcases open_ints ht Tryd.underlying3 (by kernel_rfl) h with ⟨h1, -⟩ | ⟨a, len, cap, zs, h1, hb, hl, hm, hz, hx, hc, hwf⟩
  · injection h1 with h1
    subst h1
    exact ⟨none, 0, 0, fun _ => 0, rfl, by simp [maxLen], Nat.le_refl _, ER.nil _ _ _ _ _, fun i hi => absurd hi (by omega)⟩
  · injection h1 with h1
    subst h1
    simp only [if_true] at hz
    refine ⟨some a, len, cap, fun i => zs.getD i 0, rfl, by omega, hl, fun hn => ?_, fun i hi => ?_⟩
    · have h0 := hc 0 (by omega)
      obtain ⟨b, off, spot⟩ := a
      have hsp : spot = none := by simpa [Addr.add] using World.cell?_spot h0
      subst hsp
      refine ⟨b, off, rfl, ?_, fun k i hk hi => ?_⟩
      · have hb1 := hlt (.cell b (off + 0)) (by
          rw [hx]
          exact MemPlace.mem_row.2 ⟨0, by omega, rfl⟩)
        exact hb1
      · obtain rfl : i = 0 := by omega
        have := hc k (by omega)
        rw [add_lit'] at this
        simpa using this
    · have h1 : zs.getD i 0 ∈ zs := by
        rw [List.getD_eq_getElem?_getD, List.getElem?_eq_getElem (by omega)]
        exact List.getElem_mem _
      have := hwf _ h1
      simp only [Lit.wf, Bool.and_eq_true, decide_eq_true_eq] at this
      simpa [IntKind.min, IntKind.max, IntKind.signed, IntKind.bits] using this
theorem int_of_trod {W : World} {t : TypeId} {v : Value} {x : DataW H × List MemPlace} {fuel : Nat} (ht : Tryd.prog.underlying t = some (.int .i64)) (h : DataW.trod enc Tryd.prog W 0 (fun _ => true) true fuel t [v] = some x) :
    v = .int .i64 (intOf v) ∧ -9223372036854775808 ≤ intOf v ∧ intOf v ≤ 9223372036854775807 := by
  obtain ⟨z, hz, -, hw⟩ := DataW.trod_int ht h
  injection hz with hz
  subst hz
  simp only [Lit.wf, Bool.and_eq_true, decide_eq_true_eq] at hw
  exact ⟨rfl, by simpa [intOf, IntKind.min, IntKind.max, IntKind.signed, IntKind.bits] using hw⟩
theorem cells_slice {A : Option Addr} {n c : Nat} : (Value.slice A n c).cells.toList = [.slice A n c] := rfl
/-- a slice of structs of two ints -/
theorem open_pairs {r : Reach} {b0 : Nat} {W : World} {t e : TypeId} {f0 f1 : Field} {v : Value} {d : DataW H} {p : List MemPlace} (ht : Tryd.prog.underlying t = some (.slice e)) (he : Tryd.prog.underlying e = some (.struct #[f0, f1]))
    (ce : Tryd.prog.cellsOf e = 2) (o0 : f0.offset = 0) (o1 : f1.offset = 1) (c0 : Tryd.prog.cellsOf f0.type = 1) (c1 : Tryd.prog.cellsOf f1.type = 1)
    (k0 : Tryd.prog.underlying f0.type = some (.int .i64)) (k1 : Tryd.prog.underlying f1.type = some (.int .i64)) (hval : Value.okWide Tryd.prog W r b0 t v)
    (h : DataW.Trod enc Tryd.prog W 0 (fun _ => true) true t v d p) (hlt : ∀ x ∈ p, x.block < W.heap.size) :
    ∃ A n c x y, v = .slice A n c ∧ n ≤ maxLen ∧ n ≤ c ∧ PI W W.heap.size A n x y := by
  obtain ⟨fuel, h⟩ := h
  obtain ⟨A, n, c, rfl⟩ := okWide_slice ht hval
  rw [cells_slice] at h
  obtain ⟨A', n', c', V0, V1, h1, hn, hnc, hP, hV⟩ := open_pairs_c ht he ce o0 o1 c0 c1 h hlt
  injection h1 with h1 h2 h3
  subst h1 h2 h3
  refine ⟨A, n, c, fun i => intOf (V0 i), fun i => intOf (V1 i), rfl, hn, hnc, fun hn0 => ?_⟩
  obtain ⟨b, off, hA, hb, hc⟩ := hP hn0
  refine ⟨b, off, hA, hb, fun k i hk hi => ?_⟩
  obtain ⟨m, x0, x1, g0, g1, -, -⟩ := hV k hk
  rw [hc k i hk hi]
  rcases (by omega : i = 0 ∨ i = 1) with rfl | rfl
  · simpa using (int_of_trod k0 g0).1
  · simpa using (int_of_trod k1 g1).1
end
end Go.Proofs.YtmpegkojencbjaaDoor
