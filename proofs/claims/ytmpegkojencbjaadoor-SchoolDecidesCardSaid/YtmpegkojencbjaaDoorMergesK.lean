/- School: the law SchoolDecides: the row and the tied card. -/
import Derived.Test.YtmpegkojencbjaaDoorMergesJ
import Derived.Deep.CutBlock
import Derived.Deep.DeepCutAuto
import Derived.IntWalk
import Derived.Deep.QuietTactic
import Derived.BigQuiet
import Derived.Test.YtmpegkojencbjaaDoorRows
import Derived.ProofKit
import Derived.OpenShut
import Derived.Carry
import Derived.ChangeSame
import Derived.Deep.SlicePairs
import Derived.ChangeSlices
import Derived.SliceStrings
import Derived.Deep.Fields
import Derived.Test.YtmpegkojencbjaaDoorCards
import Derived.Test.YtmpegkojencbjaaDoorTie
import Derived.LaidMore
import Derived.Lay
import Derived.SevenTiedAt
import Derived.Stop.Joined
set_option linter.unusedSimpArgs false
set_option linter.unusedVariables false
set_option linter.unnecessarySimpa false
/- School: the reference's School: whether a school is valid. -/
namespace Go.Proofs.YtmpegkojencbjaaDoor
open List renaming getElem_toArray → glA, getElem_cons_zero → glB, getElem_cons_succ → glC, setIfInBounds_toArray → glD, set_cons_zero → glE, set_cons_succ → glF
open Go Go.RowKit Go.Shelf
set_option maxHeartbeats 8000000
set_option maxRecDepth 100000
theorem tst_out {nf : Nat} {ev : Nat → Nat} {t : Int × Int} (h : ¬ (0 ≤ t.1 ∧ t.1 < (nf : Int))) : tstB nf ev t = false := by
  unfold tstB
  rw [decide_eq_false (by omega)]; rfl
theorem tst_val {fs : List Int} {F : Nat} (hF : F < fs.length) {n : Nat} (hn : fs.getD F 0 = (n : Int)) (hn4 : n ≤ 4) {ch : Int} (hc : -9223372036854775808 ≤ ch ∧ ch ≤ 9223372036854775807) : tstB fs.length (evF fs) ((F : Int), ch) = decide (0 ≤ ch ∧ ch < (2 ^ n : Nat)) := by
  unfold tstB
  have e : evF fs ((F : Int)).toNat = 2 ^ n - 1 := by
    rw [Int.toNat_natCast]
    unfold evF
    rw [if_pos hF, hn, Int.toNat_natCast]
  dsimp only
  rw [e, decide_eq_true (by omega), Bool.true_and, Bool.eq_iff_iff, beq_iff_eq, tst_iff hn4 hc, decide_eq_true_iff]
  have hpi : ((2 : Int) ^ n) = ((2 ^ n : Nat) : Int) := by push_cast; rfl
  rw [hpi]
theorem sch_no1 {s : Sch} (h : ¬ (1 ≤ s.fs.length ∧ s.fs.length ≤ 5 ∧ 1 ≤ s.q ∧ s.q ≤ 4 ∧ s.rs.length ≤ 12)) : schB s = false := by
  cases h1 : schB s with
  | false => rfl
  | true =>
    have h2 := schB_ok h1
    exact absurd ⟨h2.nf1, h2.nf5, h2.q1, h2.q4, h2.nr⟩ h
theorem sch_no2 {s : Sch} (h : fsB s.fs = false) : schB s = false := by
  cases h1 : schB s with
  | false => rfl
  | true => rw [(schB_ok h1).fs] at h; cases h
theorem sch_no3 {s : Sch} {k : Nat} (hk : k < s.rs.length) {r : Rl} (hr : s.rs.getD k r0 = r) (h : rlB s.fs.length s.q (evF s.fs) r = false) : schB s = false := by
  cases h1 : schB s with
  | false => rfl
  | true => rw [rule_ok h1 (by rw [← hr]; exact mem_at hk)] at h; cases h
theorem sch_yes {s : Sch} (h : 1 ≤ s.fs.length ∧ s.fs.length ≤ 5 ∧ 1 ≤ s.q ∧ s.q ≤ 4 ∧ s.rs.length ≤ 12) (h2 : fsB s.fs = true) (h3 : s.rs.all (rlB s.fs.length s.q (evF s.fs)) = true) : schB s = true := by
  unfold schB
  rw [decide_eq_true ⟨h.1, h.2.1⟩, decide_eq_true ⟨h.2.2.1, h.2.2.2.1⟩, decide_eq_true h.2.2.2.2, h2, h3]; rfl
theorem rl_val {nf : Nat} {q : Int} {ev : Nat → Nat} {r : Rl} : rlB nf q ev r = (decide (¬ (5 < (r.when_.length : Int) ∨ r.ask < 0 ∨ q ≤ r.ask ∨ r.say < 0 ∨ 999 < r.say)) && r.when_.all (tstB nf ev)) := by
  unfold rlB
  rw [← Bool.and_assoc, ← Bool.and_assoc, ← Bool.decide_and, ← Bool.decide_and]
  congr 1
  rw [Bool.eq_iff_iff, decide_eq_true_iff, decide_eq_true_iff]
  omega
theorem tab_at (w : World) {n : Nat} (h : 1 ≤ n ∧ n ≤ 4) : (w.alloc (.cells #[.int .i64 1, .int .i64 2, .int .i64 4, .int .i64 8, .int .i64 16] 3)).cell? ⟨w.heap.size, n, none⟩ = some (.int .i64 ((2 ^ n : Nat) : Int)) := by
  rw [(Blk.new w 3 #[.int .i64 1, .int .i64 2, .int .i64 4, .int .i64 8, .int .i64 16]).cell]
  rcases (by omega : n = 1 ∨ n = 2 ∨ n = 3 ∨ n = 4) with rfl | rfl | rfl | rfl <;> rfl
theorem refSchool_any (d : Ad_) (s : Sch) (w : World) (hd : ScR w w.heap.size d s) (hz : ScZ s) (hi : ScI s) :
    Calls Tryd.prog 33 #[scV d s] w fun e w' => e = .returned (.bool (schB s)) ∧ Below w.heap.size w w' := by
  have hz1 := hz.nf
  have hz2 := hz.nr
  unfold maxLen at hz1 hz2
  have HD := hide hd
  have HZ := hide hz
  have HI := hide hi
  obtain ⟨nf, hf⟩ : ∃ n, s.fs.length = n := ⟨_, rfl⟩
  obtain ⟨nr, hr⟩ : ∃ n, s.rs.length = n := ⟨_, rfl⟩
  obtain ⟨Q, hQ⟩ : ∃ n, s.q = n := ⟨_, rfl⟩
  obtain ⟨fa, hfa⟩ : ∃ x, d.fa = x := ⟨_, rfl⟩
  have HN := hide (And.intro hf (And.intro hr hQ))
  unfold scV
  rw [hf, hr, hQ, hfa]
  have HFA := hide hd.fs
  rw [hfa] at HFA
  rw [hf] at hz1
  rw [hr] at hz2
  have HB0 := hide ((Below.refl w.heap.size w).alloc (Nat.le_refl _) (.cells #[.slice fa nf d.fc, .int .i64 Q, .slice d.ra nr d.rc] 47))
  have G1 := Blk.new w 47 #[.slice fa nf d.fc, .int .i64 Q, .slice d.ra nr d.rc]
  clear hd hz hf hr hQ hi hfa
  go_enter Tryd.func33, Tryd.ntmps33
  go_upto_region 1 with fail
  generalize (w.alloc (.cells #[.slice fa nf d.fc, .int .i64 Q, .slice d.ra nr d.rc] 47)) = w1 at HB0 G1 ⊢
  generalize w.heap.size = G at G1 ⊢
  have HG1 := hide G1
  obtain ⟨g9, g0, g1', g2, -⟩ := blk3 G1
  clear G1
  obtain ⟨g1, hg1⟩ : ∃ b, decide ((nf : Int) < 1 ∨ (5 : Int) < nf ∨ Q < 1 ∨ 4 < Q ∨ (12 : Int) < nr) = b := ⟨_, rfl⟩
  have HGV := hide hg1
  clear hg1
  go_cut [33] (fun v w' => v = .bool g1 ∧ w' = w1)
  case first =>
    -- BEGIN1
    by_cases q1 : (nf : Int) < 1
    · have hb : g1 = true := by rw [← HGV.out]; simp; omega
      subst hb
      go_wp2_with fail
      go_meet
      exact ⟨rfl, rfl⟩
    · by_cases q2 : (5 : Int) < nf
      · have hb : g1 = true := by rw [← HGV.out]; simp; omega
        subst hb
        go_wp2_with fail
        go_meet
        exact ⟨rfl, rfl⟩
      · by_cases q3 : Q < 1
        · have hb : g1 = true := by rw [← HGV.out]; simp; omega
          subst hb
          go_wp2_with fail
          go_meet
          exact ⟨rfl, rfl⟩
        · by_cases q4 : 4 < Q
          · have hb : g1 = true := by rw [← HGV.out]; simp; omega
            subst hb
            go_wp2_with fail
            go_meet
            exact ⟨rfl, rfl⟩
          · by_cases q5 : (12 : Int) < nr
            · have hb : g1 = true := by rw [← HGV.out]; simp; omega
              subst hb
              go_wp2_with fail
              go_meet
              exact ⟨rfl, rfl⟩
            · have hb : g1 = false := by rw [← HGV.out]; simp; omega
              subst hb
              go_wp2_with fail
              go_meet
              exact ⟨rfl, rfl⟩
    -- END1
  obtain ⟨rfl, hw⟩ := hcut
  have hw := hw.symm
  subst hw
  rcases g1 with _ | _
  rotate_left
  · have hno : schB s = false := sch_no1 (by
      have := of_decide_eq_true HGV.out
      rw [HN.out.1, HN.out.2.1, HN.out.2.2]
      omega)
    have HNO := hide hno
    clear hno
    go_wp2_with fail
    go_ret
    exact ⟨ret_bool (Eq.symm HNO.out), HB0.out⟩
  have hbd : 1 ≤ nf ∧ nf ≤ 5 ∧ 1 ≤ Q ∧ Q ≤ 4 ∧ nr ≤ 12 := by
    have := of_decide_eq_false HGV.out
    omega
  have HBD := hide hbd
  obtain ⟨b1, b2, b3, b4, b5⟩ := hbd
  clear HGV
  go_wp2_with fail
  go_loopw [3] (fun i wr => ∃ k : Nat, k ≤ nf ∧ i = .int .i64 k ∧ Hid (fsB (s.fs.take k) = true) ∧ Hid (w1 = wr)) (fun i _ => nf - (intOf i).toNat)
  case atStart => exact ⟨0, Nat.zero_le _, rfl, hide rfl, hide rfl⟩
  case round =>
    obtain ⟨k, hk, rfl, HX, HW⟩ := hrel
    obtain rfl := HW.out
    by_cases hlt : k < nf
    · -- BEGIN2
      have hlt' : (k : Int) < (nf : Int) := by omega
      have i0 : (0 : Int) ≤ (k : Int) := by omega
      have hst : IntKind.i64.wrap ((k : Int) + 1) = ((k + 1 : Nat) : Int) := by rw [IntWalk.i64_in _ (by omega)]; omega
      have hkn : k < s.fs.length := by rw [HN.out.1]; exact hlt
      have HKN := hide hkn
      obtain ⟨yb, yo, hfa, hyb, a0⟩ := VR1.at_ HFA.out hkn
      have c0 := (HB0.out.cell (p := ⟨yb, yo + k, none⟩) hyb).trans a0
      obtain ⟨x, hx⟩ : ∃ e, s.fs.getD k 0 = e := ⟨_, rfl⟩
      rw [hx] at c0
      have HXX := hide hx
      subst hfa
      clear hx a0 hkn
      by_cases q1 : x < 1
      · have HNO : Hid (schB s = false) := hide (sch_no2 (all_take_no _ _ HKN.out 0 (by rw [HXX.out]; exact decide_eq_false (by omega))))
        go_wp2_with fail
        go_ret
        exact ⟨ret_bool (Eq.symm HNO.out), HB0.out⟩
      · by_cases q2 : 4 < x
        · have HNO : Hid (schB s = false) := hide (sch_no2 (all_take_no _ _ HKN.out 0 (by rw [HXX.out]; exact decide_eq_false (by omega))))
          go_wp2_with fail
          go_ret
          exact ⟨ret_bool (Eq.symm HNO.out), HB0.out⟩
        · have HX2 : Hid (fsB (s.fs.take (k + 1)) = true) := hide (all_take_succ _ _ HKN.out 0 (by rw [HXX.out]; exact decide_eq_true (by omega)) HX.out)
          go_wp2_with fail
          go_roundw
          case rel => exact ⟨k + 1, by omega, by go_num, HX2, by first | exact hide trivial | exact hide rfl⟩
          case measure => simp [intOf]; omega
      -- END2
    · obtain rfl : k = nf := by omega
      have hnl : ¬ (k : Int) < (k : Int) := by omega
      have hfs : fsB s.fs = true := by
        have h := HX.out
        rwa [List.take_of_length_le (by rw [HN.out.1]; exact Nat.le_refl _)] at h
      have HFS := hide hfs
      clear hfs HX
      go_wp2_with fail
      go_loopw [4] (fun i wr => ∃ k : Nat, k ≤ nr ∧ i = .int .i64 k ∧ Hid ((s.rs.take k).all (rlB s.fs.length s.q (evF s.fs)) = true) ∧ Hid (Below w1.heap.size w1 wr)) (fun i _ => nr - (intOf i).toNat)
      case atStart => exact ⟨0, Nat.zero_le _, rfl, hide rfl, hide (Below.refl _ _)⟩
      case round =>
        obtain ⟨j, hj, rfl, HR, HBW⟩ := hrel
        clear g0 g1' g2 g9
        have HG2 := hide (HG1.out.ext HBW.out)
        obtain ⟨-, g0, g1', g2, -⟩ := blk3 HG2.out
        have HBF := hide (HB0.out.trans (HBW.out.mono HB0.out.size))
        by_cases hjl : j < nr
        · -- BEGIN3
          have hjl' : (j : Int) < (nr : Int) := by omega
          have j0 : (0 : Int) ≤ (j : Int) := by omega
          have hst : IntKind.i64.wrap ((j : Int) + 1) = ((j + 1 : Nat) : Int) := by rw [IntWalk.i64_in _ (by omega)]; omega
          have hjn : j < s.rs.length := by rw [HN.out.2.1]; exact hjl
          have HJN := hide hjn
          obtain ⟨r, hrr⟩ : ∃ r, s.rs.getD j r0 = r := ⟨_, rfl⟩
          have HRR := hide hrr
          have HMEM : Hid (r ∈ s.rs) := hide (by rw [← hrr]; exact mem_at hjn)
          obtain ⟨rb, ro, hra, hrb, a0, a1, a2⟩ := HD.out.rs.at_ hjn hrr
          have c0 := (HBF.out.cell (p := ⟨rb, ro + j * 3, none⟩) hrb).trans a0
          have c1 := (HBF.out.cell (p := ⟨rb, ro + j * 3 + 1, none⟩) hrb).trans a1
          have c2 := (HBF.out.cell (p := ⟨rb, ro + j * 3 + 2, none⟩) hrb).trans a2
          have hts := HD.out.rs.tests j hjn
          rw [hrr] at hts
          have htl := HZ.out.ts r HMEM.out
          unfold maxLen at htl
          obtain ⟨nt, hnt⟩ : ∃ n, r.when_.length = n := ⟨_, rfl⟩
          obtain ⟨ask, hask⟩ : ∃ n, r.ask = n := ⟨_, rfl⟩
          obtain ⟨say, hsay⟩ : ∃ n, r.say = n := ⟨_, rfl⟩
          obtain ⟨ta, hta⟩ : ∃ x, d.ta j = x := ⟨_, rfl⟩
          obtain ⟨tc, htc⟩ : ∃ x, d.tc j = x := ⟨_, rfl⟩
          rw [hnt, hta, htc] at c0
          rw [hask] at c1
          rw [hsay] at c2
          rw [hta] at hts
          rw [hnt] at htl
          have HTS := hide hts
          have HRN := hide (And.intro hnt (And.intro hask hsay))
          clear hrr a0 a1 a2 hts hnt hask hsay hta htc hjn
          rw [hra] at g2 ⊢
          clear hra
          go_upto_region 12 with fail
          have HB1 := hide ((Below.refl wr.heap.size wr).alloc (Nat.le_refl _) (.cells #[.slice ta nt tc, .int .i64 ask, .int .i64 say] 73))
          have HR1 := hide (Blk.new wr 73 #[.slice ta nt tc, .int .i64 ask, .int .i64 say])
          have HBX := hide (HBW.out.trans (HB1.out.mono HBW.out.size))
          clear g0 g1' g2 c0 c1 c2 HB1 HBF
          generalize (wr.alloc (.cells #[.slice ta nt tc, .int .i64 ask, .int .i64 say] 73)) = w2 at HR1 HBX ⊢
          generalize wr.heap.size = R at HR1 ⊢
          have HG3 := hide (HG1.out.ext HBX.out)
          obtain ⟨-, g0, g1', -, -⟩ := blk3 HG3.out
          obtain ⟨-, y0, y1, y2, -⟩ := blk3 HR1.out
          have HBF := hide (HB0.out.trans (HBX.out.mono HB0.out.size))
          obtain ⟨g1, hg1⟩ : ∃ b, decide ((5 : Int) < nt ∨ ask < 0 ∨ Q ≤ ask ∨ say < 0 ∨ 999 < say) = b := ⟨_, rfl⟩
          have HGV := hide hg1
          clear hg1
          go_cut [92] (fun v w' => v = .bool g1 ∧ w' = w2)
          case first =>
            by_cases q1 : (5 : Int) < nt
            · have hb : g1 = true := by rw [← HGV.out]; simp; omega
              subst hb
              go_wp2_with fail
              go_meet
              exact ⟨rfl, rfl⟩
            · by_cases q2 : ask < 0
              · have hb : g1 = true := by rw [← HGV.out]; simp; omega
                subst hb
                go_wp2_with fail
                go_meet
                exact ⟨rfl, rfl⟩
              · by_cases q3 : Q ≤ ask
                · have hb : g1 = true := by rw [← HGV.out]; simp; omega
                  subst hb
                  go_wp2_with fail
                  go_meet
                  exact ⟨rfl, rfl⟩
                · by_cases q4 : say < 0
                  · have hb : g1 = true := by rw [← HGV.out]; simp; omega
                    subst hb
                    go_wp2_with fail
                    go_meet
                    exact ⟨rfl, rfl⟩
                  · by_cases q5 : 999 < say
                    · have hb : g1 = true := by rw [← HGV.out]; simp; omega
                      subst hb
                      go_wp2_with fail
                      go_meet
                      exact ⟨rfl, rfl⟩
                    · have hb : g1 = false := by rw [← HGV.out]; simp; omega
                      subst hb
                      go_wp2_with fail
                      go_meet
                      exact ⟨rfl, rfl⟩
          obtain ⟨rfl, hw⟩ := hcut
          have hw := hw.symm
          subst hw
          rcases g1 with _ | _
          rotate_left
          · have HNO : Hid (schB s = false) := hide (sch_no3 HJN.out HRR.out (by
              rw [rl_val, HRN.out.1, HRN.out.2.1, HRN.out.2.2, HN.out.2.2, decide_eq_false (by
                have := of_decide_eq_true HGV.out
                exact fun h => h this)]; rfl))
            go_wp2_with fail
            go_ret
            exact ⟨ret_bool (Eq.symm HNO.out), HBF.out⟩
          have HRV : Hid (rlB s.fs.length s.q (evF s.fs) r = r.when_.all (tstB s.fs.length (evF s.fs))) := hide (by
            rw [rl_val, HRN.out.1, HRN.out.2.1, HRN.out.2.2, HN.out.2.2, decide_eq_true (of_decide_eq_false HGV.out), Bool.true_and])
          have hnt5 : nt ≤ 5 := by
            have := of_decide_eq_false HGV.out
            omega
          clear HGV htl
          go_wp2_with fail
          go_loopw [6] (fun i wr => ∃ k : Nat, k ≤ nt ∧ i = .int .i64 k ∧ Hid ((r.when_.take k).all (tstB s.fs.length (evF s.fs)) = true) ∧ Hid (Below w2.heap.size w2 wr)) (fun i _ => nt - (intOf i).toNat)
          case atStart => exact ⟨0, Nat.zero_le _, rfl, hide rfl, hide (Below.refl _ _)⟩
          case round =>
            obtain ⟨m, hm, rfl, HX, HBY⟩ := hrel
            clear g0 g1' y0 y1 y2
            have HBX2 := hide (HBX.out.trans (HBY.out.mono HBX.out.size))
            have HBF2 := hide (HB0.out.trans (HBX2.out.mono HB0.out.size))
            have HR2 := hide (HR1.out.ext HBY.out)
            obtain ⟨-, y0, -, -, -⟩ := blk3 HR2.out
            have HG4 := hide (HG1.out.ext HBX2.out)
            obtain ⟨-, g0, -, -, -⟩ := blk3 HG4.out
            by_cases hml : m < nt
            · -- BEGIN4
              have hml' : (m : Int) < (nt : Int) := by omega
              have m0 : (0 : Int) ≤ (m : Int) := by omega
              have hst2 : IntKind.i64.wrap ((m : Int) + 1) = ((m + 1 : Nat) : Int) := by rw [IntWalk.i64_in _ (by omega)]; omega
              have hmn : m < r.when_.length := by rw [HRN.out.1]; exact hml
              have HMN := hide hmn
              obtain ⟨t, htk⟩ : ∃ t, r.when_.getD m (0, 0) = t := ⟨_, rfl⟩
              have HTK := hide htk
              obtain ⟨tb, to_, hta, htb, a0, a1⟩ := HTS.out.at_ hmn htk
              subst hta
              have hmem : t ∈ r.when_ := by
                rw [← htk, List.getD_eq_getElem?_getD, List.getElem?_eq_getElem hmn]
                exact List.getElem_mem hmn
              have HCH := hide (HI.out r HMEM.out t hmem)
              have c0 := (HBF2.out.cell (p := ⟨tb, to_ + m * 2, none⟩) htb).trans a0
              have c1 := (HBF2.out.cell (p := ⟨tb, to_ + m * 2 + 1, none⟩) htb).trans a1
              obtain ⟨f, ch⟩ := t
              dsimp only at c0 c1
              clear a0 a1 htk hmn hmem
              go_upto_region 18 with fail
              have HB1 := hide ((Below.refl wr.heap.size wr).alloc (Nat.le_refl _) (.cells #[.int .i64 f, .int .i64 ch] 76))
              have HT1 := hide (Blk.new wr 76 #[.int .i64 f, .int .i64 ch])
              have HBZ := hide (HBY.out.trans (HB1.out.mono HBY.out.size))
              clear g0 y0 c0 c1 HB1 HBX2 HBF2 HR2 HG4
              generalize (wr.alloc (.cells #[.int .i64 f, .int .i64 ch] 76)) = w3 at HT1 HBZ ⊢
              generalize wr.heap.size = T at HT1 ⊢
              have HBd := hide (HBZ.out.trans ((Below.refl w3.heap.size w3).drew.mono HBZ.out.size))
              have HTd := hide (HT1.out.ext (Below.refl w3.heap.size w3).drew)
              have HBX2 := hide (HBX.out.trans (HBd.out.mono HBX.out.size))
              have HGd := hide (HG1.out.ext HBX2.out)
              have HBF := hide (HB0.out.trans (HBX2.out.mono HB0.out.size))
              have t0 : w3.drew.cell? ⟨T, 0, none⟩ = some (.int .i64 f) := by rw [HTd.out.cell]; rfl
              have t1 : w3.drew.cell? ⟨T, 1, none⟩ = some (.int .i64 ch) := by rw [HTd.out.cell]; rfl
              have g0 : w3.drew.cell? ⟨G, 0, none⟩ = some (.slice fa k d.fc) := by rw [HGd.out.cell]; rfl
              by_cases hF : 0 ≤ f ∧ f < (k : Int)
              rotate_left
              · have hh : (w3.drew.cell? ⟨T, 0, none⟩ = some (.int .i64 f) ∧ w3.drew.cell? ⟨T, 1, none⟩ = some (.int .i64 ch) ∧ w3.drew.cell? ⟨G, 0, none⟩ = some (.slice fa k d.fc)) := ⟨t0, t1, g0⟩
                have HNO : Hid (schB s = false) := hide (sch_no3 HJN.out HRR.out (by
                  rw [HRV.out]
                  exact all_take_no _ _ HMN.out (0, 0) (by rw [HTK.out, HN.out.1]; exact tst_out hF)))
                refine wp_region_J (fun W : World => (W.cell? ⟨T, 0, none⟩ = some (.int .i64 f) ∧ W.cell? ⟨T, 1, none⟩ = some (.int .i64 ch) ∧ W.cell? ⟨G, 0, none⟩ = some (.slice fa k d.fc))) (by kernel_rfl) ?_
                clear t0 t1 g0 HT1 HBZ HTd
                generalize w3.drew = wd at hh HBd HBX2 HBF ⊢
                refine wpAnyJ_take 0 (v := ?_) (by first | exact hF | exact wideFn) hh rfl (by kernel_rfl) (by kernel_rfl) (by kernel_rfl) (by kernel_rfl) rfl ?_ (by first | exact fun _ _ _ h => h | exact fun _ _ _ h => hQ2 _ _ _ _ _ h) ?_
                rotate_left
                · intro W hSW
                  simp only [glA, glB, glC]
                  (try dsimp only at hSW)
                  go_simp
                  with_reducible rfl
                (try simp only [glA, glB, glC, Act.put, glD, glE, glF])
                refine wpAnyJ_take 1 (v := ?_) (by first | exact hF | exact wideFn) hh rfl (by kernel_rfl) (by kernel_rfl) (by kernel_rfl) (by kernel_rfl) rfl ?_ (by first | exact fun _ _ _ h => h | exact fun _ _ _ h => hQ2 _ _ _ _ _ h) ?_
                rotate_left
                · intro W hSW
                  simp only [glA, glB, glC]
                  (try dsimp only at hSW)
                  go_simp
                  with_reducible rfl
                (try simp only [glA, glB, glC, Act.put, glD, glE, glF])
                refine wpAnyJ_take 2 (v := ?_) (by first | exact hF | exact wideFn) hh rfl (by kernel_rfl) (by kernel_rfl) (by kernel_rfl) (by kernel_rfl) rfl ?_ (by first | exact fun _ _ _ h => h | exact fun _ _ _ h => hQ2 _ _ _ _ _ h) ?_
                rotate_left
                · intro W hSW
                  simp only [glA, glB, glC]
                  (try dsimp only at hSW)
                  go_simp
                  with_reducible rfl
                (try simp only [glA, glB, glC, Act.put, glD, glE, glF])
                by_cases q1 : f < 0
                · have qq := trivial
                  refine wpAnyJ_take 3 (v := ?_) (by first | exact hF | exact wideFn) hh rfl (by kernel_rfl) (by kernel_rfl) (by kernel_rfl) (by kernel_rfl) rfl ?_ (by first | exact fun _ _ _ h => h | exact fun _ _ _ h => hQ2 _ _ _ _ _ h) ?_
                  rotate_left
                  · intro W hSW
                    simp only [glA, glB, glC]
                    (try dsimp only at hSW)
                    go_simp
                    with_reducible rfl
                  (try simp only [glA, glB, glC, Act.put, glD, glE, glF])
                  refine wpAnyJ_skip 4 (by first | exact hF | exact wideFn) hh rfl (by kernel_rfl) (by kernel_rfl) (by kernel_rfl) (by kernel_rfl) rfl (by first | exact fun _ _ _ h => h | exact fun _ _ _ h => hQ2 _ _ _ _ _ h) ?_
                  (try simp only [glA, glB, glC, Act.put, glD, glE, glF])
                  refine wpAnyJ_skip 5 (by first | exact hF | exact wideFn) hh rfl (by kernel_rfl) (by kernel_rfl) (by kernel_rfl) (by kernel_rfl) rfl (by first | exact fun _ _ _ h => h | exact fun _ _ _ h => hQ2 _ _ _ _ _ h) ?_
                  (try simp only [glA, glB, glC, Act.put, glD, glE, glF])
                  refine wpAnyJ_skip 6 (by first | exact hF | exact wideFn) hh rfl (by kernel_rfl) (by kernel_rfl) (by kernel_rfl) (by kernel_rfl) rfl (by first | exact fun _ _ _ h => h | exact fun _ _ _ h => hQ2 _ _ _ _ _ h) ?_
                  (try simp only [glA, glB, glC, Act.put, glD, glE, glF])
                  refine wpAnyJ_skip 7 (by first | exact hF | exact wideFn) hh rfl (by kernel_rfl) (by kernel_rfl) (by kernel_rfl) (by kernel_rfl) rfl (by first | exact fun _ _ _ h => h | exact fun _ _ _ h => hQ2 _ _ _ _ _ h) ?_
                  (try simp only [glA, glB, glC, Act.put, glD, glE, glF])
                  refine wpAnyJ_skip 8 (by first | exact hF | exact wideFn) hh rfl (by kernel_rfl) (by kernel_rfl) (by kernel_rfl) (by kernel_rfl) rfl (by first | exact fun _ _ _ h => h | exact fun _ _ _ h => hQ2 _ _ _ _ _ h) ?_
                  (try simp only [glA, glB, glC, Act.put, glD, glE, glF])
                  refine wpAnyJ_skip 9 (by first | exact hF | exact wideFn) hh rfl (by kernel_rfl) (by kernel_rfl) (by kernel_rfl) (by kernel_rfl) rfl (by first | exact fun _ _ _ h => h | exact fun _ _ _ h => hQ2 _ _ _ _ _ h) ?_
                  (try simp only [glA, glB, glC, Act.put, glD, glE, glF])
                  refine wpAnyJ_take 10 (v := ?_) (by first | exact hF | exact wideFn) hh rfl (by kernel_rfl) (by kernel_rfl) (by kernel_rfl) (by kernel_rfl) rfl ?_ (by first | exact fun _ _ _ h => h | exact fun _ _ _ h => hQ2 _ _ _ _ _ h) ?_
                  rotate_left
                  · intro W hSW
                    simp only [glA, glB, glC]
                    (try dsimp only at hSW)
                    go_simp
                    with_reducible rfl
                  (try simp only [glA, glB, glC, Act.put, glD, glE, glF])
                  refine wpAnyJ_take 11 (v := ?_) (by first | exact hF | exact wideFn) hh rfl (by kernel_rfl) (by kernel_rfl) (by kernel_rfl) (by kernel_rfl) rfl ?_ (by first | exact fun _ _ _ h => h | exact fun _ _ _ h => hQ2 _ _ _ _ _ h) ?_
                  rotate_left
                  · intro W hSW
                    simp only [glA, glB, glC]
                    (try dsimp only at hSW)
                    go_simp
                    with_reducible rfl
                  (try simp only [glA, glB, glC, Act.put, glD, glE, glF])
                  refine wpAnyJ_skip 12 (by first | exact hF | exact wideFn) hh rfl (by kernel_rfl) (by kernel_rfl) (by kernel_rfl) (by kernel_rfl) rfl (by first | exact fun _ _ _ h => h | exact fun _ _ _ h => hQ2 _ _ _ _ _ h) ?_
                  (try simp only [glA, glB, glC, Act.put, glD, glE, glF])
                  refine wpAnyJ_skip 13 (by first | exact hF | exact wideFn) hh rfl (by kernel_rfl) (by kernel_rfl) (by kernel_rfl) (by kernel_rfl) rfl (by first | exact fun _ _ _ h => h | exact fun _ _ _ h => hQ2 _ _ _ _ _ h) ?_
                  (try simp only [glA, glB, glC, Act.put, glD, glE, glF])
                  refine wpAnyJ_skip 14 (by first | exact hF | exact wideFn) hh rfl (by kernel_rfl) (by kernel_rfl) (by kernel_rfl) (by kernel_rfl) rfl (by first | exact fun _ _ _ h => h | exact fun _ _ _ h => hQ2 _ _ _ _ _ h) ?_
                  (try simp only [glA, glB, glC, Act.put, glD, glE, glF])
                  refine wpAnyJ_take 15 (v := ?_) (by first | exact hF | exact wideFn) hh rfl (by kernel_rfl) (by kernel_rfl) (by kernel_rfl) (by kernel_rfl) rfl ?_ (by first | exact fun _ _ _ h => h | exact fun _ _ _ h => hQ2 _ _ _ _ _ h) ?_
                  rotate_left
                  · intro W hSW
                    simp only [glA, glB, glC]
                    (try dsimp only at hSW)
                    go_simp
                    with_reducible rfl
                  (try simp only [glA, glB, glC, Act.put, glD, glE, glF])
                  refine wpAnyJ_take 16 (v := ?_) (by first | exact hF | exact wideFn) hh rfl (by kernel_rfl) (by kernel_rfl) (by kernel_rfl) (by kernel_rfl) rfl ?_ (by first | exact fun _ _ _ h => h | exact fun _ _ _ h => hQ2 _ _ _ _ _ h) ?_
                  rotate_left
                  · intro W hSW
                    simp only [glA, glB, glC]
                    (try dsimp only at hSW)
                    go_simp
                    with_reducible rfl
                  (try simp only [glA, glB, glC, Act.put, glD, glE, glF])
                  refine wpAnyJ_skip 17 (by first | exact hF | exact wideFn) hh rfl (by kernel_rfl) (by kernel_rfl) (by kernel_rfl) (by kernel_rfl) rfl (by first | exact fun _ _ _ h => h | exact fun _ _ _ h => hQ2 _ _ _ _ _ h) ?_
                  (try simp only [glA, glB, glC, Act.put, glD, glE, glF])
                  refine wpAnyJ_skip 18 (by first | exact hF | exact wideFn) hh rfl (by kernel_rfl) (by kernel_rfl) (by kernel_rfl) (by kernel_rfl) rfl (by first | exact fun _ _ _ h => h | exact fun _ _ _ h => hQ2 _ _ _ _ _ h) ?_
                  (try simp only [glA, glB, glC, Act.put, glD, glE, glF])
                  refine wpAnyJ_skip 19 (by first | exact hF | exact wideFn) hh rfl (by kernel_rfl) (by kernel_rfl) (by kernel_rfl) (by kernel_rfl) rfl (by first | exact fun _ _ _ h => h | exact fun _ _ _ h => hQ2 _ _ _ _ _ h) ?_
                  (try simp only [glA, glB, glC, Act.put, glD, glE, glF])
                  refine wpAnyJ_skip 20 (by first | exact hF | exact wideFn) hh rfl (by kernel_rfl) (by kernel_rfl) (by kernel_rfl) (by kernel_rfl) rfl (by first | exact fun _ _ _ h => h | exact fun _ _ _ h => hQ2 _ _ _ _ _ h) ?_
                  (try simp only [glA, glB, glC, Act.put, glD, glE, glF])
                  refine wpAnyJ_skip 21 (by first | exact hF | exact wideFn) hh rfl (by kernel_rfl) (by kernel_rfl) (by kernel_rfl) (by kernel_rfl) rfl (by first | exact fun _ _ _ h => h | exact fun _ _ _ h => hQ2 _ _ _ _ _ h) ?_
                  (try simp only [glA, glB, glC, Act.put, glD, glE, glF])
                  refine wpAnyJ_skip 22 (by first | exact hF | exact wideFn) hh rfl (by kernel_rfl) (by kernel_rfl) (by kernel_rfl) (by kernel_rfl) rfl (by first | exact fun _ _ _ h => h | exact fun _ _ _ h => hQ2 _ _ _ _ _ h) ?_
                  (try simp only [glA, glB, glC, Act.put, glD, glE, glF])
                  refine wpAnyJ_skip 23 (by first | exact hF | exact wideFn) hh rfl (by kernel_rfl) (by kernel_rfl) (by kernel_rfl) (by kernel_rfl) rfl (by first | exact fun _ _ _ h => h | exact fun _ _ _ h => hQ2 _ _ _ _ _ h) ?_
                  (try simp only [glA, glB, glC, Act.put, glD, glE, glF])
                  refine wpAnyJ_skip 24 (by first | exact hF | exact wideFn) hh rfl (by kernel_rfl) (by kernel_rfl) (by kernel_rfl) (by kernel_rfl) rfl (by first | exact fun _ _ _ h => h | exact fun _ _ _ h => hQ2 _ _ _ _ _ h) ?_
                  (try simp only [glA, glB, glC, Act.put, glD, glE, glF])
                  refine wpAnyJ_skip 25 (by first | exact hF | exact wideFn) hh rfl (by kernel_rfl) (by kernel_rfl) (by kernel_rfl) (by kernel_rfl) rfl (by first | exact fun _ _ _ h => h | exact fun _ _ _ h => hQ2 _ _ _ _ _ h) ?_
                  (try simp only [glA, glB, glC, Act.put, glD, glE, glF])
                  refine wpAnyJ_skip 26 (by first | exact hF | exact wideFn) hh rfl (by kernel_rfl) (by kernel_rfl) (by kernel_rfl) (by kernel_rfl) rfl (by first | exact fun _ _ _ h => h | exact fun _ _ _ h => hQ2 _ _ _ _ _ h) ?_
                  (try simp only [glA, glB, glC, Act.put, glD, glE, glF])
                  refine wpAnyJ_skip 27 (by first | exact hF | exact wideFn) hh rfl (by kernel_rfl) (by kernel_rfl) (by kernel_rfl) (by kernel_rfl) rfl (by first | exact fun _ _ _ h => h | exact fun _ _ _ h => hQ2 _ _ _ _ _ h) ?_
                  (try simp only [glA, glB, glC, Act.put, glD, glE, glF])
                  refine wpAnyJ_skip 28 (by first | exact hF | exact wideFn) hh rfl (by kernel_rfl) (by kernel_rfl) (by kernel_rfl) (by kernel_rfl) rfl (by first | exact fun _ _ _ h => h | exact fun _ _ _ h => hQ2 _ _ _ _ _ h) ?_
                  (try simp only [glA, glB, glC, Act.put, glD, glE, glF])
                  refine wpAnyJ_take 29 (v := ?_) (by first | exact hF | exact wideFn) hh rfl (by kernel_rfl) (by kernel_rfl) (by kernel_rfl) (by kernel_rfl) rfl ?_ (by first | exact fun _ _ _ h => h | exact fun _ _ _ h => hQ2 _ _ _ _ _ h) ?_
                  rotate_left
                  · intro W hSW
                    simp only [glA, glB, glC]
                    (try dsimp only at hSW)
                    go_simp
                    with_reducible rfl
                  (try simp only [glA, glB, glC, Act.put, glD, glE, glF])
                  refine wpAnyJ_done (by kernel_rfl) ?_
                  go_wp2_with fail
                  go_ret
                  exact ⟨ret_bool (Eq.symm HNO.out), HBF.out⟩
                · have qq : (k : Int) ≤ f := by omega
                  refine wpAnyJ_take 3 (v := ?_) (by first | exact hF | exact wideFn) hh rfl (by kernel_rfl) (by kernel_rfl) (by kernel_rfl) (by kernel_rfl) rfl ?_ (by first | exact fun _ _ _ h => h | exact fun _ _ _ h => hQ2 _ _ _ _ _ h) ?_
                  rotate_left
                  · intro W hSW
                    simp only [glA, glB, glC]
                    (try dsimp only at hSW)
                    go_simp
                    with_reducible rfl
                  (try simp only [glA, glB, glC, Act.put, glD, glE, glF])
                  refine wpAnyJ_take 4 (v := ?_) (by first | exact hF | exact wideFn) hh rfl (by kernel_rfl) (by kernel_rfl) (by kernel_rfl) (by kernel_rfl) rfl ?_ (by first | exact fun _ _ _ h => h | exact fun _ _ _ h => hQ2 _ _ _ _ _ h) ?_
                  rotate_left
                  · intro W hSW
                    simp only [glA, glB, glC]
                    (try dsimp only at hSW)
                    go_simp
                    with_reducible rfl
                  (try simp only [glA, glB, glC, Act.put, glD, glE, glF])
                  refine wpAnyJ_take 5 (v := ?_) (by first | exact hF | exact wideFn) hh rfl (by kernel_rfl) (by kernel_rfl) (by kernel_rfl) (by kernel_rfl) rfl ?_ (by first | exact fun _ _ _ h => h | exact fun _ _ _ h => hQ2 _ _ _ _ _ h) ?_
                  rotate_left
                  · intro W hSW
                    simp only [glA, glB, glC]
                    (try dsimp only at hSW)
                    go_simp
                    with_reducible rfl
                  (try simp only [glA, glB, glC, Act.put, glD, glE, glF])
                  refine wpAnyJ_take 6 (v := ?_) (by first | exact hF | exact wideFn) hh rfl (by kernel_rfl) (by kernel_rfl) (by kernel_rfl) (by kernel_rfl) rfl ?_ (by first | exact fun _ _ _ h => h | exact fun _ _ _ h => hQ2 _ _ _ _ _ h) ?_
                  rotate_left
                  · intro W hSW
                    simp only [glA, glB, glC]
                    (try dsimp only at hSW)
                    go_simp
                    with_reducible rfl
                  (try simp only [glA, glB, glC, Act.put, glD, glE, glF])
                  refine wpAnyJ_take 7 (v := ?_) (by first | exact hF | exact wideFn) hh rfl (by kernel_rfl) (by kernel_rfl) (by kernel_rfl) (by kernel_rfl) rfl ?_ (by first | exact fun _ _ _ h => h | exact fun _ _ _ h => hQ2 _ _ _ _ _ h) ?_
                  rotate_left
                  · intro W hSW
                    simp only [glA, glB, glC]
                    (try dsimp only at hSW)
                    go_simp
                    with_reducible rfl
                  (try simp only [glA, glB, glC, Act.put, glD, glE, glF])
                  refine wpAnyJ_take 8 (v := ?_) (by first | exact hF | exact wideFn) hh rfl (by kernel_rfl) (by kernel_rfl) (by kernel_rfl) (by kernel_rfl) rfl ?_ (by first | exact fun _ _ _ h => h | exact fun _ _ _ h => hQ2 _ _ _ _ _ h) ?_
                  rotate_left
                  · intro W hSW
                    simp only [glA, glB, glC]
                    (try dsimp only at hSW)
                    go_simp
                    with_reducible rfl
                  (try simp only [glA, glB, glC, Act.put, glD, glE, glF])
                  refine wpAnyJ_take 9 (v := ?_) (by first | exact hF | exact wideFn) hh rfl (by kernel_rfl) (by kernel_rfl) (by kernel_rfl) (by kernel_rfl) rfl ?_ (by first | exact fun _ _ _ h => h | exact fun _ _ _ h => hQ2 _ _ _ _ _ h) ?_
                  rotate_left
                  · intro W hSW
                    simp only [glA, glB, glC]
                    (try dsimp only at hSW)
                    go_simp
                    with_reducible rfl
                  (try simp only [glA, glB, glC, Act.put, glD, glE, glF])
                  refine wpAnyJ_take 10 (v := ?_) (by first | exact hF | exact wideFn) hh rfl (by kernel_rfl) (by kernel_rfl) (by kernel_rfl) (by kernel_rfl) rfl ?_ (by first | exact fun _ _ _ h => h | exact fun _ _ _ h => hQ2 _ _ _ _ _ h) ?_
                  rotate_left
                  · intro W hSW
                    simp only [glA, glB, glC]
                    (try dsimp only at hSW)
                    go_simp
                    with_reducible rfl
                  (try simp only [glA, glB, glC, Act.put, glD, glE, glF])
                  refine wpAnyJ_take 11 (v := ?_) (by first | exact hF | exact wideFn) hh rfl (by kernel_rfl) (by kernel_rfl) (by kernel_rfl) (by kernel_rfl) rfl ?_ (by first | exact fun _ _ _ h => h | exact fun _ _ _ h => hQ2 _ _ _ _ _ h) ?_
                  rotate_left
                  · intro W hSW
                    simp only [glA, glB, glC]
                    (try dsimp only at hSW)
                    go_simp
                    with_reducible rfl
                  (try simp only [glA, glB, glC, Act.put, glD, glE, glF])
                  refine wpAnyJ_skip 12 (by first | exact hF | exact wideFn) hh rfl (by kernel_rfl) (by kernel_rfl) (by kernel_rfl) (by kernel_rfl) rfl (by first | exact fun _ _ _ h => h | exact fun _ _ _ h => hQ2 _ _ _ _ _ h) ?_
                  (try simp only [glA, glB, glC, Act.put, glD, glE, glF])
                  refine wpAnyJ_skip 13 (by first | exact hF | exact wideFn) hh rfl (by kernel_rfl) (by kernel_rfl) (by kernel_rfl) (by kernel_rfl) rfl (by first | exact fun _ _ _ h => h | exact fun _ _ _ h => hQ2 _ _ _ _ _ h) ?_
                  (try simp only [glA, glB, glC, Act.put, glD, glE, glF])
                  refine wpAnyJ_skip 14 (by first | exact hF | exact wideFn) hh rfl (by kernel_rfl) (by kernel_rfl) (by kernel_rfl) (by kernel_rfl) rfl (by first | exact fun _ _ _ h => h | exact fun _ _ _ h => hQ2 _ _ _ _ _ h) ?_
                  (try simp only [glA, glB, glC, Act.put, glD, glE, glF])
                  refine wpAnyJ_take 15 (v := ?_) (by first | exact hF | exact wideFn) hh rfl (by kernel_rfl) (by kernel_rfl) (by kernel_rfl) (by kernel_rfl) rfl ?_ (by first | exact fun _ _ _ h => h | exact fun _ _ _ h => hQ2 _ _ _ _ _ h) ?_
                  rotate_left
                  · intro W hSW
                    simp only [glA, glB, glC]
                    (try dsimp only at hSW)
                    go_simp
                    with_reducible rfl
                  (try simp only [glA, glB, glC, Act.put, glD, glE, glF])
                  refine wpAnyJ_take 16 (v := ?_) (by first | exact hF | exact wideFn) hh rfl (by kernel_rfl) (by kernel_rfl) (by kernel_rfl) (by kernel_rfl) rfl ?_ (by first | exact fun _ _ _ h => h | exact fun _ _ _ h => hQ2 _ _ _ _ _ h) ?_
                  rotate_left
                  · intro W hSW
                    simp only [glA, glB, glC]
                    (try dsimp only at hSW)
                    go_simp
                    with_reducible rfl
                  (try simp only [glA, glB, glC, Act.put, glD, glE, glF])
                  refine wpAnyJ_skip 17 (by first | exact hF | exact wideFn) hh rfl (by kernel_rfl) (by kernel_rfl) (by kernel_rfl) (by kernel_rfl) rfl (by first | exact fun _ _ _ h => h | exact fun _ _ _ h => hQ2 _ _ _ _ _ h) ?_
                  (try simp only [glA, glB, glC, Act.put, glD, glE, glF])
                  refine wpAnyJ_skip 18 (by first | exact hF | exact wideFn) hh rfl (by kernel_rfl) (by kernel_rfl) (by kernel_rfl) (by kernel_rfl) rfl (by first | exact fun _ _ _ h => h | exact fun _ _ _ h => hQ2 _ _ _ _ _ h) ?_
                  (try simp only [glA, glB, glC, Act.put, glD, glE, glF])
                  refine wpAnyJ_skip 19 (by first | exact hF | exact wideFn) hh rfl (by kernel_rfl) (by kernel_rfl) (by kernel_rfl) (by kernel_rfl) rfl (by first | exact fun _ _ _ h => h | exact fun _ _ _ h => hQ2 _ _ _ _ _ h) ?_
                  (try simp only [glA, glB, glC, Act.put, glD, glE, glF])
                  refine wpAnyJ_skip 20 (by first | exact hF | exact wideFn) hh rfl (by kernel_rfl) (by kernel_rfl) (by kernel_rfl) (by kernel_rfl) rfl (by first | exact fun _ _ _ h => h | exact fun _ _ _ h => hQ2 _ _ _ _ _ h) ?_
                  (try simp only [glA, glB, glC, Act.put, glD, glE, glF])
                  refine wpAnyJ_skip 21 (by first | exact hF | exact wideFn) hh rfl (by kernel_rfl) (by kernel_rfl) (by kernel_rfl) (by kernel_rfl) rfl (by first | exact fun _ _ _ h => h | exact fun _ _ _ h => hQ2 _ _ _ _ _ h) ?_
                  (try simp only [glA, glB, glC, Act.put, glD, glE, glF])
                  refine wpAnyJ_skip 22 (by first | exact hF | exact wideFn) hh rfl (by kernel_rfl) (by kernel_rfl) (by kernel_rfl) (by kernel_rfl) rfl (by first | exact fun _ _ _ h => h | exact fun _ _ _ h => hQ2 _ _ _ _ _ h) ?_
                  (try simp only [glA, glB, glC, Act.put, glD, glE, glF])
                  refine wpAnyJ_skip 23 (by first | exact hF | exact wideFn) hh rfl (by kernel_rfl) (by kernel_rfl) (by kernel_rfl) (by kernel_rfl) rfl (by first | exact fun _ _ _ h => h | exact fun _ _ _ h => hQ2 _ _ _ _ _ h) ?_
                  (try simp only [glA, glB, glC, Act.put, glD, glE, glF])
                  refine wpAnyJ_skip 24 (by first | exact hF | exact wideFn) hh rfl (by kernel_rfl) (by kernel_rfl) (by kernel_rfl) (by kernel_rfl) rfl (by first | exact fun _ _ _ h => h | exact fun _ _ _ h => hQ2 _ _ _ _ _ h) ?_
                  (try simp only [glA, glB, glC, Act.put, glD, glE, glF])
                  refine wpAnyJ_skip 25 (by first | exact hF | exact wideFn) hh rfl (by kernel_rfl) (by kernel_rfl) (by kernel_rfl) (by kernel_rfl) rfl (by first | exact fun _ _ _ h => h | exact fun _ _ _ h => hQ2 _ _ _ _ _ h) ?_
                  (try simp only [glA, glB, glC, Act.put, glD, glE, glF])
                  refine wpAnyJ_skip 26 (by first | exact hF | exact wideFn) hh rfl (by kernel_rfl) (by kernel_rfl) (by kernel_rfl) (by kernel_rfl) rfl (by first | exact fun _ _ _ h => h | exact fun _ _ _ h => hQ2 _ _ _ _ _ h) ?_
                  (try simp only [glA, glB, glC, Act.put, glD, glE, glF])
                  refine wpAnyJ_skip 27 (by first | exact hF | exact wideFn) hh rfl (by kernel_rfl) (by kernel_rfl) (by kernel_rfl) (by kernel_rfl) rfl (by first | exact fun _ _ _ h => h | exact fun _ _ _ h => hQ2 _ _ _ _ _ h) ?_
                  (try simp only [glA, glB, glC, Act.put, glD, glE, glF])
                  refine wpAnyJ_skip 28 (by first | exact hF | exact wideFn) hh rfl (by kernel_rfl) (by kernel_rfl) (by kernel_rfl) (by kernel_rfl) rfl (by first | exact fun _ _ _ h => h | exact fun _ _ _ h => hQ2 _ _ _ _ _ h) ?_
                  (try simp only [glA, glB, glC, Act.put, glD, glE, glF])
                  refine wpAnyJ_take 29 (v := ?_) (by first | exact hF | exact wideFn) hh rfl (by kernel_rfl) (by kernel_rfl) (by kernel_rfl) (by kernel_rfl) rfl ?_ (by first | exact fun _ _ _ h => h | exact fun _ _ _ h => hQ2 _ _ _ _ _ h) ?_
                  rotate_left
                  · intro W hSW
                    simp only [glA, glB, glC]
                    (try dsimp only at hSW)
                    go_simp
                    with_reducible rfl
                  (try simp only [glA, glB, glC, Act.put, glD, glE, glF])
                  refine wpAnyJ_done (by kernel_rfl) ?_
                  go_wp2_with fail
                  go_ret
                  exact ⟨ret_bool (Eq.symm HNO.out), HBF.out⟩
              · -- BEGIN5
                obtain ⟨F, rfl⟩ : ∃ F : Nat, f = F := ⟨f.toNat, by omega⟩
                have F0 : (0 : Int) ≤ (F : Int) := hF.1
                have F1 : (F : Int) < (k : Int) := hF.2
                have F2 : ¬ (k : Int) ≤ (F : Int) := by omega
                have F3 : ¬ (F : Int) < 0 := by omega
                have hFn : F < s.fs.length := by rw [HN.out.1]; omega
                have hb4 := fsB_at HFS.out F hFn
                obtain ⟨n, hn⟩ : ∃ n : Nat, s.fs.getD F 0 = n := ⟨(s.fs.getD F 0).toNat, by omega⟩
                rw [hn] at hb4
                obtain ⟨fb, fo, hfa, hfb, a0⟩ := VR1.at_ HFA.out hFn
                have f0 := (HBF.out.cell (p := ⟨fb, fo + F, none⟩) hfb).trans a0
                rw [hn] at f0
                have HV : Hid (tstB s.fs.length (evF s.fs) ((F : Int), ch) = decide (0 ≤ ch ∧ ch < (2 ^ n : Nat))) := hide (tst_val hFn hn (by omega) HCH.out)
                have n0 : (0 : Int) ≤ (n : Int) := by omega
                have n5 : (n : Int) < 5 := by omega
                have n14 : 1 ≤ n ∧ n ≤ 4 := by omega
                clear a0 hn hFn hF hb4
                subst hfa
                have hh : (w3.drew.cell? ⟨T, 0, none⟩ = some (.int .i64 (F : Nat)) ∧ w3.drew.cell? ⟨T, 1, none⟩ = some (.int .i64 ch) ∧ w3.drew.cell? ⟨G, 0, none⟩ = some (.slice (some ⟨fb, fo, none⟩) k d.fc) ∧ w3.drew.cell? ⟨fb, fo + F, none⟩ = some (.int .i64 (n : Nat))) := ⟨t0, t1, g0, f0⟩
                refine wp_region_J (fun W : World => (W.cell? ⟨T, 0, none⟩ = some (.int .i64 (F : Nat)) ∧ W.cell? ⟨T, 1, none⟩ = some (.int .i64 ch) ∧ W.cell? ⟨G, 0, none⟩ = some (.slice (some ⟨fb, fo, none⟩) k d.fc) ∧ W.cell? ⟨fb, fo + F, none⟩ = some (.int .i64 (n : Nat)))) (by kernel_rfl) ?_
                clear t0 t1 g0 f0 HT1 HBZ HTd
                generalize w3.drew = wd at hh HBd HBX2 HBF ⊢
                refine wpAnyJ_take 0 (v := ?_) (by first | exact hF | exact wideFn) hh rfl (by kernel_rfl) (by kernel_rfl) (by kernel_rfl) (by kernel_rfl) rfl ?_ (by first | exact fun _ _ _ h => h | exact fun _ _ _ h => hQ2 _ _ _ _ _ h) ?_
                rotate_left
                · intro W hSW
                  simp only [glA, glB, glC]
                  (try dsimp only at hSW)
                  go_simp
                  with_reducible rfl
                (try simp only [glA, glB, glC, Act.put, glD, glE, glF])
                refine wpAnyJ_take 1 (v := ?_) (by first | exact hF | exact wideFn) hh rfl (by kernel_rfl) (by kernel_rfl) (by kernel_rfl) (by kernel_rfl) rfl ?_ (by first | exact fun _ _ _ h => h | exact fun _ _ _ h => hQ2 _ _ _ _ _ h) ?_
                rotate_left
                · intro W hSW
                  simp only [glA, glB, glC]
                  (try dsimp only at hSW)
                  go_simp
                  with_reducible rfl
                (try simp only [glA, glB, glC, Act.put, glD, glE, glF])
                refine wpAnyJ_take 2 (v := ?_) (by first | exact hF | exact wideFn) hh rfl (by kernel_rfl) (by kernel_rfl) (by kernel_rfl) (by kernel_rfl) rfl ?_ (by first | exact fun _ _ _ h => h | exact fun _ _ _ h => hQ2 _ _ _ _ _ h) ?_
                rotate_left
                · intro W hSW
                  simp only [glA, glB, glC]
                  (try dsimp only at hSW)
                  go_simp
                  with_reducible rfl
                (try simp only [glA, glB, glC, Act.put, glD, glE, glF])
                refine wpAnyJ_take 3 (v := ?_) (by first | exact hF | exact wideFn) hh rfl (by kernel_rfl) (by kernel_rfl) (by kernel_rfl) (by kernel_rfl) rfl ?_ (by first | exact fun _ _ _ h => h | exact fun _ _ _ h => hQ2 _ _ _ _ _ h) ?_
                rotate_left
                · intro W hSW
                  simp only [glA, glB, glC]
                  (try dsimp only at hSW)
                  go_simp
                  with_reducible rfl
                (try simp only [glA, glB, glC, Act.put, glD, glE, glF])
                refine wpAnyJ_take 4 (v := ?_) (by first | exact hF | exact wideFn) hh rfl (by kernel_rfl) (by kernel_rfl) (by kernel_rfl) (by kernel_rfl) rfl ?_ (by first | exact fun _ _ _ h => h | exact fun _ _ _ h => hQ2 _ _ _ _ _ h) ?_
                rotate_left
                · intro W hSW
                  simp only [glA, glB, glC]
                  (try dsimp only at hSW)
                  go_simp
                  with_reducible rfl
                (try simp only [glA, glB, glC, Act.put, glD, glE, glF])
                refine wpAnyJ_take 5 (v := ?_) (by first | exact hF | exact wideFn) hh rfl (by kernel_rfl) (by kernel_rfl) (by kernel_rfl) (by kernel_rfl) rfl ?_ (by first | exact fun _ _ _ h => h | exact fun _ _ _ h => hQ2 _ _ _ _ _ h) ?_
                rotate_left
                · intro W hSW
                  simp only [glA, glB, glC]
                  (try dsimp only at hSW)
                  go_simp
                  with_reducible rfl
                (try simp only [glA, glB, glC, Act.put, glD, glE, glF])
                refine wpAnyJ_take 6 (v := ?_) (by first | exact hF | exact wideFn) hh rfl (by kernel_rfl) (by kernel_rfl) (by kernel_rfl) (by kernel_rfl) rfl ?_ (by first | exact fun _ _ _ h => h | exact fun _ _ _ h => hQ2 _ _ _ _ _ h) ?_
                rotate_left
                · intro W hSW
                  simp only [glA, glB, glC]
                  (try dsimp only at hSW)
                  go_simp
                  with_reducible rfl
                (try simp only [glA, glB, glC, Act.put, glD, glE, glF])
                refine wpAnyJ_take 7 (v := ?_) (by first | exact hF | exact wideFn) hh rfl (by kernel_rfl) (by kernel_rfl) (by kernel_rfl) (by kernel_rfl) rfl ?_ (by first | exact fun _ _ _ h => h | exact fun _ _ _ h => hQ2 _ _ _ _ _ h) ?_
                rotate_left
                · intro W hSW
                  simp only [glA, glB, glC]
                  (try dsimp only at hSW)
                  go_simp
                  with_reducible rfl
                (try simp only [glA, glB, glC, Act.put, glD, glE, glF])
                refine wpAnyJ_take 8 (v := ?_) (by first | exact hF | exact wideFn) hh rfl (by kernel_rfl) (by kernel_rfl) (by kernel_rfl) (by kernel_rfl) rfl ?_ (by first | exact fun _ _ _ h => h | exact fun _ _ _ h => hQ2 _ _ _ _ _ h) ?_
                rotate_left
                · intro W hSW
                  simp only [glA, glB, glC]
                  (try dsimp only at hSW)
                  go_simp
                  with_reducible rfl
                (try simp only [glA, glB, glC, Act.put, glD, glE, glF])
                refine wpAnyJ_take 9 (v := ?_) (by first | exact hF | exact wideFn) hh rfl (by kernel_rfl) (by kernel_rfl) (by kernel_rfl) (by kernel_rfl) rfl ?_ (by first | exact fun _ _ _ h => h | exact fun _ _ _ h => hQ2 _ _ _ _ _ h) ?_
                rotate_left
                · intro W hSW
                  simp only [glA, glB, glC]
                  (try dsimp only at hSW)
                  go_simp
                  with_reducible rfl
                (try simp only [glA, glB, glC, Act.put, glD, glE, glF])
                refine wpAnyJ_take 10 (v := ?_) (by first | exact hF | exact wideFn) hh rfl (by kernel_rfl) (by kernel_rfl) (by kernel_rfl) (by kernel_rfl) rfl ?_ (by first | exact fun _ _ _ h => h | exact fun _ _ _ h => hQ2 _ _ _ _ _ h) ?_
                rotate_left
                · intro W hSW
                  simp only [glA, glB, glC]
                  (try dsimp only at hSW)
                  go_simp
                  with_reducible rfl
                (try simp only [glA, glB, glC, Act.put, glD, glE, glF])
                by_cases q1 : ch < 0
                · have HNO : Hid (schB s = false) := hide (sch_no3 HJN.out HRR.out (by
                    rw [HRV.out]
                    exact all_take_no _ _ HMN.out (0, 0) (by rw [HTK.out, HV.out]; exact decide_eq_false (by omega))))
                  refine wpAnyJ_take 11 (v := ?_) (by first | exact hF | exact wideFn) hh rfl (by kernel_rfl) (by kernel_rfl) (by kernel_rfl) (by kernel_rfl) rfl ?_ (by first | exact fun _ _ _ h => h | exact fun _ _ _ h => hQ2 _ _ _ _ _ h) ?_
                  rotate_left
                  · intro W hSW
                    simp only [glA, glB, glC]
                    (try dsimp only at hSW)
                    go_simp
                    with_reducible rfl
                  (try simp only [glA, glB, glC, Act.put, glD, glE, glF])
                  refine wpAnyJ_take 12 (v := ?_) (by first | exact hF | exact wideFn) hh rfl (by kernel_rfl) (by kernel_rfl) (by kernel_rfl) (by kernel_rfl) rfl ?_ (by first | exact fun _ _ _ h => h | exact fun _ _ _ h => hQ2 _ _ _ _ _ h) ?_
                  rotate_left
                  · intro W hSW
                    simp only [glA, glB, glC]
                    (try dsimp only at hSW)
                    go_simp
                    with_reducible rfl
                  (try simp only [glA, glB, glC, Act.put, glD, glE, glF])
                  refine wpAnyJ_take 13 (v := ?_) (by first | exact hF | exact wideFn) hh rfl (by kernel_rfl) (by kernel_rfl) (by kernel_rfl) (by kernel_rfl) rfl ?_ (by first | exact fun _ _ _ h => h | exact fun _ _ _ h => hQ2 _ _ _ _ _ h) ?_
                  rotate_left
                  · intro W hSW
                    simp only [glA, glB, glC]
                    (try dsimp only at hSW)
                    go_simp
                    with_reducible rfl
                  (try simp only [glA, glB, glC, Act.put, glD, glE, glF])
                  refine wpAnyJ_take 14 (v := ?_) (by first | exact hF | exact wideFn) hh rfl (by kernel_rfl) (by kernel_rfl) (by kernel_rfl) (by kernel_rfl) rfl ?_ (by first | exact fun _ _ _ h => h | exact fun _ _ _ h => hQ2 _ _ _ _ _ h) ?_
                  rotate_left
                  · intro W hSW
                    simp only [glA, glB, glC]
                    (try dsimp only at hSW)
                    go_simp
                    with_reducible rfl
                  (try simp only [glA, glB, glC, Act.put, glD, glE, glF])
                  refine wpAnyJ_take 15 (v := ?_) (by first | exact hF | exact wideFn) hh rfl (by kernel_rfl) (by kernel_rfl) (by kernel_rfl) (by kernel_rfl) rfl ?_ (by first | exact fun _ _ _ h => h | exact fun _ _ _ h => hQ2 _ _ _ _ _ h) ?_
                  rotate_left
                  · intro W hSW
                    simp only [glA, glB, glC]
                    (try dsimp only at hSW)
                    go_simp
                    with_reducible rfl
                  (try simp only [glA, glB, glC, Act.put, glD, glE, glF])
                  refine wpAnyJ_take 16 (v := ?_) (by first | exact hF | exact wideFn) hh rfl (by kernel_rfl) (by kernel_rfl) (by kernel_rfl) (by kernel_rfl) rfl ?_ (by first | exact fun _ _ _ h => h | exact fun _ _ _ h => hQ2 _ _ _ _ _ h) ?_
                  rotate_left
                  · intro W hSW
                    simp only [glA, glB, glC]
                    (try dsimp only at hSW)
                    go_simp
                    with_reducible rfl
                  (try simp only [glA, glB, glC, Act.put, glD, glE, glF])
                  refine wpAnyJ_skip 17 (by first | exact hF | exact wideFn) hh rfl (by kernel_rfl) (by kernel_rfl) (by kernel_rfl) (by kernel_rfl) rfl (by first | exact fun _ _ _ h => h | exact fun _ _ _ h => hQ2 _ _ _ _ _ h) ?_
                  (try simp only [glA, glB, glC, Act.put, glD, glE, glF])
                  refine wpAnyJ_skip 18 (by first | exact hF | exact wideFn) hh rfl (by kernel_rfl) (by kernel_rfl) (by kernel_rfl) (by kernel_rfl) rfl (by first | exact fun _ _ _ h => h | exact fun _ _ _ h => hQ2 _ _ _ _ _ h) ?_
                  (try simp only [glA, glB, glC, Act.put, glD, glE, glF])
                  refine wpAnyJ_skip 19 (by first | exact hF | exact wideFn) hh rfl (by kernel_rfl) (by kernel_rfl) (by kernel_rfl) (by kernel_rfl) rfl (by first | exact fun _ _ _ h => h | exact fun _ _ _ h => hQ2 _ _ _ _ _ h) ?_
                  (try simp only [glA, glB, glC, Act.put, glD, glE, glF])
                  refine wpAnyJ_skip 20 (by first | exact hF | exact wideFn) hh rfl (by kernel_rfl) (by kernel_rfl) (by kernel_rfl) (by kernel_rfl) rfl (by first | exact fun _ _ _ h => h | exact fun _ _ _ h => hQ2 _ _ _ _ _ h) ?_
                  (try simp only [glA, glB, glC, Act.put, glD, glE, glF])
                  refine wpAnyJ_skip 21 (by first | exact hF | exact wideFn) hh rfl (by kernel_rfl) (by kernel_rfl) (by kernel_rfl) (by kernel_rfl) rfl (by first | exact fun _ _ _ h => h | exact fun _ _ _ h => hQ2 _ _ _ _ _ h) ?_
                  (try simp only [glA, glB, glC, Act.put, glD, glE, glF])
                  refine wpAnyJ_skip 22 (by first | exact hF | exact wideFn) hh rfl (by kernel_rfl) (by kernel_rfl) (by kernel_rfl) (by kernel_rfl) rfl (by first | exact fun _ _ _ h => h | exact fun _ _ _ h => hQ2 _ _ _ _ _ h) ?_
                  (try simp only [glA, glB, glC, Act.put, glD, glE, glF])
                  refine wpAnyJ_skip 23 (by first | exact hF | exact wideFn) hh rfl (by kernel_rfl) (by kernel_rfl) (by kernel_rfl) (by kernel_rfl) rfl (by first | exact fun _ _ _ h => h | exact fun _ _ _ h => hQ2 _ _ _ _ _ h) ?_
                  (try simp only [glA, glB, glC, Act.put, glD, glE, glF])
                  refine wpAnyJ_skip 24 (by first | exact hF | exact wideFn) hh rfl (by kernel_rfl) (by kernel_rfl) (by kernel_rfl) (by kernel_rfl) rfl (by first | exact fun _ _ _ h => h | exact fun _ _ _ h => hQ2 _ _ _ _ _ h) ?_
                  (try simp only [glA, glB, glC, Act.put, glD, glE, glF])
                  refine wpAnyJ_skip 25 (by first | exact hF | exact wideFn) hh rfl (by kernel_rfl) (by kernel_rfl) (by kernel_rfl) (by kernel_rfl) rfl (by first | exact fun _ _ _ h => h | exact fun _ _ _ h => hQ2 _ _ _ _ _ h) ?_
                  (try simp only [glA, glB, glC, Act.put, glD, glE, glF])
                  refine wpAnyJ_skip 26 (by first | exact hF | exact wideFn) hh rfl (by kernel_rfl) (by kernel_rfl) (by kernel_rfl) (by kernel_rfl) rfl (by first | exact fun _ _ _ h => h | exact fun _ _ _ h => hQ2 _ _ _ _ _ h) ?_
                  (try simp only [glA, glB, glC, Act.put, glD, glE, glF])
                  refine wpAnyJ_skip 27 (by first | exact hF | exact wideFn) hh rfl (by kernel_rfl) (by kernel_rfl) (by kernel_rfl) (by kernel_rfl) rfl (by first | exact fun _ _ _ h => h | exact fun _ _ _ h => hQ2 _ _ _ _ _ h) ?_
                  (try simp only [glA, glB, glC, Act.put, glD, glE, glF])
                  refine wpAnyJ_skip 28 (by first | exact hF | exact wideFn) hh rfl (by kernel_rfl) (by kernel_rfl) (by kernel_rfl) (by kernel_rfl) rfl (by first | exact fun _ _ _ h => h | exact fun _ _ _ h => hQ2 _ _ _ _ _ h) ?_
                  (try simp only [glA, glB, glC, Act.put, glD, glE, glF])
                  refine wpAnyJ_take 29 (v := ?_) (by first | exact hF | exact wideFn) hh rfl (by kernel_rfl) (by kernel_rfl) (by kernel_rfl) (by kernel_rfl) rfl ?_ (by first | exact fun _ _ _ h => h | exact fun _ _ _ h => hQ2 _ _ _ _ _ h) ?_
                  rotate_left
                  · intro W hSW
                    simp only [glA, glB, glC]
                    (try dsimp only at hSW)
                    go_simp
                    with_reducible rfl
                  (try simp only [glA, glB, glC, Act.put, glD, glE, glF])
                  refine wpAnyJ_done (by kernel_rfl) ?_
                  go_wp2_with fail
                  go_ret
                  exact ⟨ret_bool (Eq.symm HNO.out), HBF.out⟩
                · have HC := hide (tab_at wd n14)
                  obtain ⟨P, hP⟩ : ∃ P : Nat, 2 ^ n = P := ⟨_, rfl⟩
                  rw [hP] at HV HC
                  clear hP
                  have hB2 : Below wd.heap.size wd (wd.alloc (.cells #[.int .i64 1, .int .i64 2, .int .i64 4, .int .i64 8, .int .i64 16] 3)) := (Below.refl _ _).alloc (Nat.le_refl _) _
                  have hh2 : ((wd.alloc (.cells #[.int .i64 1, .int .i64 2, .int .i64 4, .int .i64 8, .int .i64 16] 3)).cell? ⟨T, 0, none⟩ = some (.int .i64 (F : Nat)) ∧ (wd.alloc (.cells #[.int .i64 1, .int .i64 2, .int .i64 4, .int .i64 8, .int .i64 16] 3)).cell? ⟨T, 1, none⟩ = some (.int .i64 ch) ∧ (wd.alloc (.cells #[.int .i64 1, .int .i64 2, .int .i64 4, .int .i64 8, .int .i64 16] 3)).cell? ⟨G, 0, none⟩ = some (.slice (some ⟨fb, fo, none⟩) k d.fc) ∧ (wd.alloc (.cells #[.int .i64 1, .int .i64 2, .int .i64 4, .int .i64 8, .int .i64 16] 3)).cell? ⟨fb, fo + F, none⟩ = some (.int .i64 (n : Nat))) := ⟨(hB2.cell (cell_lt hh.1)).trans hh.1, (hB2.cell (cell_lt hh.2.1)).trans hh.2.1, (hB2.cell (cell_lt hh.2.2.1)).trans hh.2.2.1, (hB2.cell (cell_lt hh.2.2.2)).trans hh.2.2.2⟩
                  have HBF3 := hide (HBF.out.alloc HBF.out.size (.cells #[.int .i64 1, .int .i64 2, .int .i64 4, .int .i64 8, .int .i64 16] 3))
                  have HBd3 := hide (HBd.out.alloc HBd.out.size (.cells #[.int .i64 1, .int .i64 2, .int .i64 4, .int .i64 8, .int .i64 16] 3))
                  have HC2 := HC.out
                  clear hB2 HC
                  refine wpAnyJ_take 11 (v := ?_) (by first | exact hF | exact wideFn) hh rfl (by kernel_rfl) (by kernel_rfl) (by kernel_rfl) (by kernel_rfl) rfl ?_ (by first | exact fun _ _ _ h => h | exact fun _ _ _ h => hQ2 _ _ _ _ _ h) ?_
                  rotate_left
                  · intro W hSW
                    simp only [glA, glB, glC]
                    (try dsimp only at hSW)
                    go_simp
                    with_reducible rfl
                  (try simp only [glA, glB, glC, Act.put, glD, glE, glF])
                  refine wpAnyJ_take 12 (v := ?_) (by first | exact hF | exact wideFn) hh rfl (by kernel_rfl) (by kernel_rfl) (by kernel_rfl) (by kernel_rfl) rfl ?_ (by first | exact fun _ _ _ h => h | exact fun _ _ _ h => hQ2 _ _ _ _ _ h) ?_
                  rotate_left
                  · intro W hSW
                    simp only [glA, glB, glC]
                    (try dsimp only at hSW)
                    go_simp
                    with_reducible rfl
                  (try simp only [glA, glB, glC, Act.put, glD, glE, glF])
                  refine wpAnyJ_take 13 (v := ?_) (by first | exact hF | exact wideFn) hh rfl (by kernel_rfl) (by kernel_rfl) (by kernel_rfl) (by kernel_rfl) rfl ?_ (by first | exact fun _ _ _ h => h | exact fun _ _ _ h => hQ2 _ _ _ _ _ h) ?_
                  rotate_left
                  · intro W hSW
                    simp only [glA, glB, glC]
                    (try dsimp only at hSW)
                    go_simp
                    with_reducible rfl
                  (try simp only [glA, glB, glC, Act.put, glD, glE, glF])
                  refine wpAnyJ_take 14 (v := ?_) (by first | exact hF | exact wideFn) hh rfl (by kernel_rfl) (by kernel_rfl) (by kernel_rfl) (by kernel_rfl) rfl ?_ (by first | exact fun _ _ _ h => h | exact fun _ _ _ h => hQ2 _ _ _ _ _ h) ?_
                  rotate_left
                  · intro W hSW
                    simp only [glA, glB, glC]
                    (try dsimp only at hSW)
                    go_simp
                    with_reducible rfl
                  (try simp only [glA, glB, glC, Act.put, glD, glE, glF])
                  refine wpAnyJ_take 15 (v := ?_) (by first | exact hF | exact wideFn) hh rfl (by kernel_rfl) (by kernel_rfl) (by kernel_rfl) (by kernel_rfl) rfl ?_ (by first | exact fun _ _ _ h => h | exact fun _ _ _ h => hQ2 _ _ _ _ _ h) ?_
                  rotate_left
                  · intro W hSW
                    simp only [glA, glB, glC]
                    (try dsimp only at hSW)
                    go_simp
                    with_reducible rfl
                  (try simp only [glA, glB, glC, Act.put, glD, glE, glF])
                  refine wpAnyJ_take 16 (v := ?_) (by first | exact hF | exact wideFn) hh rfl (by kernel_rfl) (by kernel_rfl) (by kernel_rfl) (by kernel_rfl) rfl ?_ (by first | exact fun _ _ _ h => h | exact fun _ _ _ h => hQ2 _ _ _ _ _ h) ?_
                  rotate_left
                  · intro W hSW
                    simp only [glA, glB, glC]
                    (try dsimp only at hSW)
                    go_simp
                    with_reducible rfl
                  (try simp only [glA, glB, glC, Act.put, glD, glE, glF])
                  refine wpAnyJ_take 17 (v := ?_) (by first | exact hF | exact wideFn) hh rfl (by kernel_rfl) (by kernel_rfl) (by kernel_rfl) (by kernel_rfl) rfl ?_ (by first | exact fun _ _ _ h => h | exact fun _ _ _ h => hQ2 _ _ _ _ _ h) ?_
                  rotate_left
                  · intro W hSW
                    simp only [glA, glB, glC]
                    (try dsimp only at hSW)
                    go_simp
                    with_reducible rfl
                  (try simp only [glA, glB, glC, Act.put, glD, glE, glF])
                  refine wpAnyJ_take 18 (v := ?_) (by first | exact hF | exact wideFn) hh rfl (by kernel_rfl) (by kernel_rfl) (by kernel_rfl) (by kernel_rfl) rfl ?_ (by first | exact fun _ _ _ h => h | exact fun _ _ _ h => hQ2 _ _ _ _ _ h) ?_
                  rotate_left
                  · intro W hSW
                    simp only [glA, glB, glC]
                    (try dsimp only at hSW)
                    go_simp
                    with_reducible rfl
                  (try simp only [glA, glB, glC, Act.put, glD, glE, glF])
                  refine wpAnyJ_take 20 (v := ?_) (by first | exact hF | exact wideFn) hh rfl (by kernel_rfl) (by kernel_rfl) (by kernel_rfl) (by kernel_rfl) rfl ?_ (by first | exact fun _ _ _ h => h | exact fun _ _ _ h => hQ2 _ _ _ _ _ h) ?_
                  rotate_left
                  · intro W hSW
                    simp only [glA, glB, glC]
                    (try dsimp only at hSW)
                    go_simp
                    with_reducible rfl
                  (try simp only [glA, glB, glC, Act.put, glD, glE, glF])
                  refine wpAnyJ_take 21 (v := ?_) (by first | exact hF | exact wideFn) hh rfl (by kernel_rfl) (by kernel_rfl) (by kernel_rfl) (by kernel_rfl) rfl ?_ (by first | exact fun _ _ _ h => h | exact fun _ _ _ h => hQ2 _ _ _ _ _ h) ?_
                  rotate_left
                  · intro W hSW
                    simp only [glA, glB, glC]
                    (try dsimp only at hSW)
                    go_simp
                    with_reducible rfl
                  (try simp only [glA, glB, glC, Act.put, glD, glE, glF])
                  refine wpAnyJ_take 22 (v := ?_) (by first | exact hF | exact wideFn) hh rfl (by kernel_rfl) (by kernel_rfl) (by kernel_rfl) (by kernel_rfl) rfl ?_ (by first | exact fun _ _ _ h => h | exact fun _ _ _ h => hQ2 _ _ _ _ _ h) ?_
                  rotate_left
                  · intro W hSW
                    simp only [glA, glB, glC]
                    (try dsimp only at hSW)
                    go_simp
                    with_reducible rfl
                  (try simp only [glA, glB, glC, Act.put, glD, glE, glF])
                  refine wpAnyJ_take 23 (v := ?_) (by first | exact hF | exact wideFn) hh rfl (by kernel_rfl) (by kernel_rfl) (by kernel_rfl) (by kernel_rfl) rfl ?_ (by first | exact fun _ _ _ h => h | exact fun _ _ _ h => hQ2 _ _ _ _ _ h) ?_
                  rotate_left
                  · intro W hSW
                    simp only [glA, glB, glC]
                    (try dsimp only at hSW)
                    go_simp
                    with_reducible rfl
                  (try simp only [glA, glB, glC, Act.put, glD, glE, glF])
                  refine wpAnyJ_take 24 (v := ?_) (by first | exact hF | exact wideFn) hh rfl (by kernel_rfl) (by kernel_rfl) (by kernel_rfl) (by kernel_rfl) rfl ?_ (by first | exact fun _ _ _ h => h | exact fun _ _ _ h => hQ2 _ _ _ _ _ h) ?_
                  rotate_left
                  · intro W hSW
                    simp only [glA, glB, glC]
                    (try dsimp only at hSW)
                    go_simp
                    with_reducible rfl
                  (try simp only [glA, glB, glC, Act.put, glD, glE, glF])
                  refine wpAnyJ_take 25 (v := ?_) (by first | exact hF | exact wideFn) hh rfl (by kernel_rfl) (by kernel_rfl) (by kernel_rfl) (by kernel_rfl) rfl ?_ (by first | exact fun _ _ _ h => h | exact fun _ _ _ h => hQ2 _ _ _ _ _ h) ?_
                  rotate_left
                  · intro W hSW
                    simp only [glA, glB, glC]
                    (try dsimp only at hSW)
                    go_simp
                    with_reducible rfl
                  (try simp only [glA, glB, glC, Act.put, glD, glE, glF])
                  refine wpAnyJ_one 19 rfl (by kernel_rfl) (fun K hK => ?_)
                  simp only [glA, glB, glC]
                  go_simp
                  refine hK.out _ _ (fun _ => hh2) ?_
                  clear hK K
                  (try simp only [glA, glB, glC, Act.put, glD, glE, glF])
                  generalize (wd.alloc (.cells #[.int .i64 1, .int .i64 2, .int .i64 4, .int .i64 8, .int .i64 16] 3)) = we at hh2 HBF3 HBd3 HC2 ⊢
                  refine wpAnyJ_take 26 (v := ?_) (by first | exact hF | exact wideFn) hh2 rfl (by kernel_rfl) (by kernel_rfl) (by kernel_rfl) (by kernel_rfl) rfl ?_ (by first | exact fun _ _ _ h => h | exact fun _ _ _ h => hQ2 _ _ _ _ _ h) ?_
                  rotate_left
                  · intro W hSW
                    simp only [glA, glB, glC]
                    (try dsimp only at hSW)
                    go_simp
                    with_reducible rfl
                  (try simp only [glA, glB, glC, Act.put, glD, glE, glF])
                  refine wpAnyJ_one 27 rfl (by kernel_rfl) (fun K hK => ?_)
                  simp only [glA, glB, glC]
                  go_simp
                  refine hK.out _ _ (fun _ => hh2) ?_
                  clear hK K
                  (try simp only [glA, glB, glC, Act.put, glD, glE, glF])
                  by_cases q2 : (P : Int) ≤ ch
                  · have HNO : Hid (schB s = false) := hide (sch_no3 HJN.out HRR.out (by
                      rw [HRV.out]
                      exact all_take_no _ _ HMN.out (0, 0) (by rw [HTK.out, HV.out]; exact decide_eq_false (by omega))))
                    refine wpAnyJ_take 28 (v := ?_) (by first | exact hF | exact wideFn) hh2 rfl (by kernel_rfl) (by kernel_rfl) (by kernel_rfl) (by kernel_rfl) rfl ?_ (by first | exact fun _ _ _ h => h | exact fun _ _ _ h => hQ2 _ _ _ _ _ h) ?_
                    rotate_left
                    · intro W hSW
                      simp only [glA, glB, glC]
                      (try dsimp only at hSW)
                      go_simp
                      with_reducible rfl
                    (try simp only [glA, glB, glC, Act.put, glD, glE, glF])
                    refine wpAnyJ_take 29 (v := ?_) (by first | exact hF | exact wideFn) hh2 rfl (by kernel_rfl) (by kernel_rfl) (by kernel_rfl) (by kernel_rfl) rfl ?_ (by first | exact fun _ _ _ h => h | exact fun _ _ _ h => hQ2 _ _ _ _ _ h) ?_
                    rotate_left
                    · intro W hSW
                      simp only [glA, glB, glC]
                      (try dsimp only at hSW)
                      go_simp
                      with_reducible rfl
                    (try simp only [glA, glB, glC, Act.put, glD, glE, glF])
                    refine wpAnyJ_done (by kernel_rfl) ?_
                    go_wp2_with fail
                    go_ret
                    exact ⟨ret_bool (Eq.symm HNO.out), HBF3.out⟩
                  · have HX2 : Hid ((r.when_.take (m + 1)).all (tstB s.fs.length (evF s.fs)) = true) := hide (all_take_succ _ _ HMN.out (0, 0) (by rw [HTK.out, HV.out]; exact decide_eq_true (by omega)) HX.out)
                    refine wpAnyJ_take 28 (v := ?_) (by first | exact hF | exact wideFn) hh2 rfl (by kernel_rfl) (by kernel_rfl) (by kernel_rfl) (by kernel_rfl) rfl ?_ (by first | exact fun _ _ _ h => h | exact fun _ _ _ h => hQ2 _ _ _ _ _ h) ?_
                    rotate_left
                    · intro W hSW
                      simp only [glA, glB, glC]
                      (try dsimp only at hSW)
                      go_simp
                      with_reducible rfl
                    (try simp only [glA, glB, glC, Act.put, glD, glE, glF])
                    refine wpAnyJ_take 29 (v := ?_) (by first | exact hF | exact wideFn) hh2 rfl (by kernel_rfl) (by kernel_rfl) (by kernel_rfl) (by kernel_rfl) rfl ?_ (by first | exact fun _ _ _ h => h | exact fun _ _ _ h => hQ2 _ _ _ _ _ h) ?_
                    rotate_left
                    · intro W hSW
                      simp only [glA, glB, glC]
                      (try dsimp only at hSW)
                      go_simp
                      with_reducible rfl
                    (try simp only [glA, glB, glC, Act.put, glD, glE, glF])
                    refine wpAnyJ_done (by kernel_rfl) ?_
                    go_wp2_with fail
                    go_roundw
                    case rel => exact ⟨m + 1, by omega, by go_num, HX2, HBd3⟩
                    case measure => simp [intOf]; omega
                -- END5
              -- END4
            · obtain rfl : m = nt := by omega
              have hnl : ¬ (m : Int) < (m : Int) := by omega
              have hall : rlB s.fs.length s.q (evF s.fs) r = true := by
                rw [HRV.out]
                have h := HX.out
                rwa [List.take_of_length_le (by rw [HRN.out.1]; exact Nat.le_refl _)] at h
              have HR2 : Hid ((s.rs.take (j + 1)).all (rlB s.fs.length s.q (evF s.fs)) = true) := hide (all_take_succ _ _ HJN.out r0 (by rw [HRR.out]; exact hall) HR.out)
              clear hall
              go_wp2_with fail
              go_roundw
              case rel => exact ⟨j + 1, by omega, by go_num, HR2, HBX2⟩
              case measure => simp [intOf]; omega
          -- END3
        · obtain rfl : j = nr := by omega
          have hnl : ¬ (j : Int) < (j : Int) := by omega
          have HYES : Hid (schB s = true) := hide (sch_yes (by rw [HN.out.1, HN.out.2.1, HN.out.2.2]; exact HBD.out) HFS.out (by
            have h := HR.out
            rwa [List.take_of_length_le (by rw [HN.out.2.1]; exact Nat.le_refl _)] at h))
          go_wp2_with fail
          go_ret
          exact ⟨ret_bool (Eq.symm HYES.out), HBF.out⟩
end Go.Proofs.YtmpegkojencbjaaDoor
/- School: the law SchoolDecides, walked. -/
namespace Go.Proofs.YtmpegkojencbjaaDoor
open List renaming getElem_toArray → glA, getElem_cons_zero → glB, getElem_cons_succ → glC, setIfInBounds_toArray → glD, set_cons_zero → glE, set_cons_succ → glF
open Go Go.RowKit Go.Shelf
set_option maxHeartbeats 40000000
set_option maxRecDepth 100000
theorem equal_same (A B : Option Addr) (c d n : Nat) (l : List Int) (w : World) (hn : l.length = n) (hl : l.length ≤ maxLen) (hA : LI w w.heap.size A l) (hB : LI w w.heap.size B l) :
    Calls Tryd.prog 26 #[.slice A n c, .slice B n d] w fun e w' => e = .returned (.bool true) ∧ Below w.heap.size w w' := by
  have h := equal_any A B c d l l w hl hA hB
  rw [decide_eq_true rfl, hn] at h
  exact h
theorem decides_any (d : Ad_) (s : Sch) (A : Option Addr) (cc : Nat) (c : List Int) (a0 a1 q : Int) (w : World) (hz : ScZ s) (hi : ScI s) (hcl : c.length ≤ maxLen) (hd : ScR w w.heap.size d s) (hA : LI w w.heap.size A c) :
    Calls Tryd.prog 9 #[scV d s, .slice A c.length cc, .agg #[.int .i64 a0, .int .i64 a1, .int .i64 q]] w fun e w' => e = .returned (.bool true) ∧ Below w.heap.size w w' := by
  have HZ := hide hz
  have HI := hide hi
  obtain ⟨nf, hf⟩ : ∃ n, s.fs.length = n := ⟨_, rfl⟩
  obtain ⟨nr, hr⟩ : ∃ n, s.rs.length = n := ⟨_, rfl⟩
  obtain ⟨nc, hc⟩ : ∃ n, c.length = n := ⟨_, rfl⟩
  obtain ⟨Q, hQ⟩ : ∃ n, s.q = n := ⟨_, rfl⟩
  have HN := hide (And.intro hf (And.intro hr (And.intro hQ hc)))
  have es : scV d s = .agg #[.slice d.fa nf d.fc, .int .i64 Q, .slice d.ra nr d.rc] := by unfold scV; rw [hf, hr, hQ]
  rw [es, hc]
  rw [hc] at hcl
  unfold maxLen at hcl
  have k3 : Blk ((w.alloc (.cells #[.slice d.fa nf d.fc, .int .i64 Q, .slice d.ra nr d.rc] 47)).alloc (.cells #[.int .i64 a0, .int .i64 a1, .int .i64 q] 61)) w.heap.size 47 #[.slice d.fa nf d.fc, .int .i64 Q, .slice d.ra nr d.rc] := (Blk.new w _ _).alloc _
  have k4 : Blk ((w.alloc (.cells #[.slice d.fa nf d.fc, .int .i64 Q, .slice d.ra nr d.rc] 47)).alloc (.cells #[.int .i64 a0, .int .i64 a1, .int .i64 q] 61)) (w.heap.size + 1) 61 #[.int .i64 a0, .int .i64 a1, .int .i64 q] := by simpa using Blk.new (w.alloc (.cells #[.slice d.fa nf d.fc, .int .i64 Q, .slice d.ra nr d.rc] 47)) 61 #[.int .i64 a0, .int .i64 a1, .int .i64 q]
  have HB0 : Hid (Below w.heap.size w ((w.alloc (.cells #[.slice d.fa nf d.fc, .int .i64 Q, .slice d.ra nr d.rc] 47)).alloc (.cells #[.int .i64 a0, .int .i64 a1, .int .i64 q] 61))) := hide (((Below.refl _ _).alloc (Nat.le_refl _) _).alloc (by simp) _)
  have HD := hide (hd.below HB0.out)
  have HA : Hid (LI ((w.alloc (.cells #[.slice d.fa nf d.fc, .int .i64 Q, .slice d.ra nr d.rc] 47)).alloc (.cells #[.int .i64 a0, .int .i64 a1, .int .i64 q] 61)) ((w.alloc (.cells #[.slice d.fa nf d.fc, .int .i64 Q, .slice d.ra nr d.rc] 47)).alloc (.cells #[.int .i64 a0, .int .i64 a1, .int .i64 q] 61)).heap.size A c) := hide ((ER.below hA HB0.out (Nat.le_refl _)).more HB0.out.size)
  have HES := hide es
  clear hd hz hi hf hr hc hQ es hA
  go_enter Tryd.func9, Tryd.ntmps9
  go_upto_region 1 with fail
  generalize ((w.alloc (.cells #[.slice d.fa nf d.fc, .int .i64 Q, .slice d.ra nr d.rc] 47)).alloc (.cells #[.int .i64 a0, .int .i64 a1, .int .i64 q] 61)) = w1 at k3 k4 HB0 HD HA ⊢
  obtain ⟨G, hG⟩ : ∃ x, w.heap.size = x := ⟨_, rfl⟩
  obtain ⟨G', hG'⟩ : ∃ x, G + 1 = x := ⟨_, rfl⟩
  rw [hG] at k3 k4 ⊢
  rw [hG'] at k4 ⊢
  have HSB : Hid (∀ W, Below w1.heap.size w1 W → ((W.cell? ⟨G, 0, none⟩ = some (.slice d.fa nf d.fc) ∧ W.cell? ⟨G, 1, none⟩ = some (.int .i64 Q) ∧ W.cell? ⟨G, 2, none⟩ = some (.slice d.ra nr d.rc)) ∧ (W.cell? ⟨G', 0, none⟩ = some (.int .i64 a0) ∧ W.cell? ⟨G', 1, none⟩ = some (.int .i64 a1) ∧ W.cell? ⟨G', 2, none⟩ = some (.int .i64 q)))) := hide fun W h => by
    obtain ⟨-, q0, q1, q2, -⟩ := blk3 (k3.ext h)
    obtain ⟨-, p0, p1, p2, -⟩ := blk3 (k4.ext h)
    exact ⟨⟨q0, q1, q2⟩, p0, p1, p2⟩
  clear k3 k4 hG hG'
  have HGS : Hid (∀ W, Below w1.heap.size w1 W → Calls Tryd.prog 29 #[.agg #[.slice d.fa nf d.fc, .int .i64 Q, .slice d.ra nr d.rc]] W fun e w' => e = .returned (.bool (grB s)) ∧ Below W.heap.size W w') := hide fun W h => by
    have := great_any d s W (HD.out.below h) HZ.out
    rwa [HES.out] at this
  have B1 : Hid (Below w1.heap.size w1 w1) := hide (Below.refl _ _)
  obtain ⟨⟨x0, x1, x2⟩, y0, y1, y2⟩ := HSB.out _ B1.out
  rcases hgs : grB s with _ | _
  rotate_left
  · -- BEGIN1
    as_aux_lemma =>
    rw [hgs] at HGS
    clear hgs
    go_wp2_with fail
    refine (HGS.out w1 B1.out).mono ?_
    rintro e w2 ⟨rfl, hb⟩
    have B2 := hide (B1.out.trans (hb.mono B1.out.size))
    clear hb
    (clear x0 x1 x2 y0 y1 y2)
    obtain ⟨⟨x0, x1, x2⟩, y0, y1, y2⟩ := HSB.out _ B2.out
    go_wp2_with fail
    refine (known_any w2).mono ?_
    rintro e wz ⟨rfl, hbz⟩
    go_wp2_with fail
    go_ret
    exact ⟨rfl, HB0.out.trans ((B2.out.trans (hbz.mono B2.out.size)).mono HB0.out.size)⟩
    -- END1
  rw [hgs] at HGS
  by_cases hc10 : 10 < nc
  · -- BEGIN2
    as_aux_lemma =>
    have hc10' : (10 : Int) < (nc : Int) := by omega
    clear hgs
    go_wp2_with fail
    refine (HGS.out w1 B1.out).mono ?_
    rintro e w2 ⟨rfl, hb⟩
    have B2 := hide (B1.out.trans (hb.mono B1.out.size))
    clear hb
    (clear x0 x1 x2 y0 y1 y2)
    obtain ⟨⟨x0, x1, x2⟩, y0, y1, y2⟩ := HSB.out _ B2.out
    go_wp2_with fail
    refine (known_any w2).mono ?_
    rintro e wz ⟨rfl, hbz⟩
    go_wp2_with fail
    go_ret
    exact ⟨rfl, HB0.out.trans ((B2.out.trans (hbz.mono B2.out.size)).mono HB0.out.size)⟩
    -- END2
  have hc10' : ¬ (10 : Int) < (nc : Int) := by omega
  obtain ⟨b1, b2, b3⟩ := grB_no hgs
  have HCS : Hid (∀ W, Below w1.heap.size w1 W → Calls Tryd.prog 31 #[.agg #[.slice d.fa nf d.fc, .int .i64 Q, .slice d.ra nr d.rc]] W fun e w' => ∃ d1, e = .returned (scV d1 s) ∧ ScR w' w'.heap.size d1 s ∧ Below W.heap.size W w') := hide fun W h => by
    have := copied_any d s W (HD.out.below h) (by omega) (by omega) (fun r hr => by have := b3 r hr; omega)
    rwa [HES.out] at this
  have HNU : Hid (∀ W, Below w1.heap.size w1 W → Calls Tryd.prog 24 #[.slice A nc cc] W fun e w' => ∃ v, e = .returned v ∧ OwnJ w' W.heap.size v c ∧ Below W.heap.size W w') := hide fun W h => by
    have := numbers_any A cc c W (by rw [HN.out.2.2.2]; omega) ((ER.below HA.out h (Nat.le_refl _)).more h.size)
    rwa [HN.out.2.2.2] at this
  have HSC : Hid (∀ W, Below w1.heap.size w1 W → Calls Tryd.prog 33 #[.agg #[.slice d.fa nf d.fc, .int .i64 Q, .slice d.ra nr d.rc]] W fun e w' => e = .returned (.bool (schB s)) ∧ Below W.heap.size W w') := hide fun W h => by
    have := refSchool_any d s W (HD.out.below h) HZ.out HI.out
    rwa [HES.out] at this
  obtain ⟨⟨is, f⟩, hsp⟩ : ∃ r, spR s a0 a1 = r := ⟨_, rfl⟩
  obtain ⟨⟨say, g, l⟩, hde⟩ : ∃ r, decR s c q = r := ⟨_, rfl⟩
  have HSP := hide hsp
  have HDE := hide hde
  have hl15 : l.length ≤ 15 := by
    have h1 := decR_len s c q
    rw [hde] at h1
    have h2 : l.length ≤ s.rs.length := h1
    omega
  obtain ⟨ck, hck⟩ : ∃ x : Int, (if schB s = true then (0 : Int) else 2) = x := ⟨_, rfl⟩
  have HCK := hide hck
  have HL15 := hide hl15
  clear hsp hde hck hgs b1 b2 b3 hc10 hl15
  -- BEGIN3
  go_wp2_with fail
  refine (HGS.out w1 B1.out).mono ?_
  rintro e w2 ⟨rfl, hb⟩
  have B2 := hide (B1.out.trans (hb.mono B1.out.size))
  clear hb
  (clear x0 x1 x2 y0 y1 y2)
  obtain ⟨⟨x0, x1, x2⟩, y0, y1, y2⟩ := HSB.out _ B2.out
  go_wp2_with fail
  refine (HCS.out w2 B2.out).mono ?_
  rintro e w3 ⟨dp1, rfl, hdp1, hbp1⟩
  have B3 := hide (B2.out.trans (hbp1.mono B2.out.size))
  have Dp1 := hide hdp1
  have Gp1 := hide hbp1
  clear hdp1 hbp1
  (clear x0 x1 x2 y0 y1 y2)
  obtain ⟨⟨x0, x1, x2⟩, y0, y1, y2⟩ := HSB.out _ B3.out
  have HCC := hide (Check_any dp1 s w3 Dp1.out HZ.out)
  rw [HCK.out] at HCC
  go_wp2_with fail
  refine HCC.out.mono ?_
  rintro e w4 ⟨rfl, hb⟩
  have B4 := hide (B3.out.trans (hb.mono B3.out.size))
  (clear hb x0 x1 x2 y0 y1 y2 HCC Dp1 Gp1)
  obtain ⟨⟨x0, x1, x2⟩, y0, y1, y2⟩ := HSB.out _ B4.out
  -- Special
  go_upto_region 4 with fail
  have Bd := hide (B4.out.trans ((Below.refl w4.heap.size w4).drew.mono B4.out.size))
  refine wp_region_J (fun W : World => ((W.cell? ⟨G, 0, none⟩ = some (.slice d.fa nf d.fc) ∧ W.cell? ⟨G, 1, none⟩ = some (.int .i64 Q) ∧ W.cell? ⟨G, 2, none⟩ = some (.slice d.ra nr d.rc)) ∧ (W.cell? ⟨G', 0, none⟩ = some (.int .i64 a0) ∧ W.cell? ⟨G', 1, none⟩ = some (.int .i64 a1) ∧ W.cell? ⟨G', 2, none⟩ = some (.int .i64 q)))) (by kernel_rfl) ?_
  (clear x0 x1 x2 y0 y1 y2)
  generalize w4.drew = wd at Bd ⊢
  refine wpAnyJ_take 0 (v := ?_) (by first | exact hF | exact wideFn) (HSB.out _ Bd.out) rfl (by kernel_rfl) (by kernel_rfl) (by kernel_rfl) (by kernel_rfl) rfl ?_ (by first | exact fun _ _ _ h => h | exact fun _ _ _ h => hQ2 _ _ _ _ _ h) ?_
  rotate_left
  · intro W hSW
    simp only [glA, glB, glC]
    (try dsimp only at hSW)
    go_simp
    with_reducible rfl
  (try simp only [glA, glB, glC, Act.put, glD, glE, glF])
  refine wpAnyJ_take 2 (v := ?_) (by first | exact hF | exact wideFn) (HSB.out _ Bd.out) rfl (by kernel_rfl) (by kernel_rfl) (by kernel_rfl) (by kernel_rfl) rfl ?_ (by first | exact fun _ _ _ h => h | exact fun _ _ _ h => hQ2 _ _ _ _ _ h) ?_
  rotate_left
  · intro W hSW
    simp only [glA, glB, glC]
    (try dsimp only at hSW)
    go_simp
    with_reducible rfl
  (try simp only [glA, glB, glC, Act.put, glD, glE, glF])
  refine wpAnyJ_take 3 (v := ?_) (by first | exact hF | exact wideFn) (HSB.out _ Bd.out) rfl (by kernel_rfl) (by kernel_rfl) (by kernel_rfl) (by kernel_rfl) rfl ?_ (by first | exact fun _ _ _ h => h | exact fun _ _ _ h => hQ2 _ _ _ _ _ h) ?_
  rotate_left
  · intro W hSW
    simp only [glA, glB, glC]
    (try dsimp only at hSW)
    go_simp
    with_reducible rfl
  (try simp only [glA, glB, glC, Act.put, glD, glE, glF])
  refine wpAnyJ_take 4 (v := ?_) (by first | exact hF | exact wideFn) (HSB.out _ Bd.out) rfl (by kernel_rfl) (by kernel_rfl) (by kernel_rfl) (by kernel_rfl) rfl ?_ (by first | exact fun _ _ _ h => h | exact fun _ _ _ h => hQ2 _ _ _ _ _ h) ?_
  rotate_left
  · intro W hSW
    simp only [glA, glB, glC]
    (try dsimp only at hSW)
    go_simp
    with_reducible rfl
  (try simp only [glA, glB, glC, Act.put, glD, glE, glF])
  refine wpAnyJ_take 5 (v := ?_) (by first | exact hF | exact wideFn) (HSB.out _ Bd.out) rfl (by kernel_rfl) (by kernel_rfl) (by kernel_rfl) (by kernel_rfl) rfl ?_ (by first | exact fun _ _ _ h => h | exact fun _ _ _ h => hQ2 _ _ _ _ _ h) ?_
  rotate_left
  · intro W hSW
    simp only [glA, glB, glC]
    (try dsimp only at hSW)
    go_simp
    with_reducible rfl
  (try simp only [glA, glB, glC, Act.put, glD, glE, glF])
  refine wpAnyJ_one 1 rfl (by kernel_rfl) (fun K hK => ?_)
  simp only [glA, glB, glC]
  go_simp
  refine ⟨trivial, rfl, ?_⟩
  (with_reducible refine (callsIn_wide.2 (HCS.out wd Bd.out)).mono ?_)
  rintro e we ⟨d1, rfl, hd1, hb1⟩
  have Be := hide (Bd.out.trans (hb1.mono Bd.out.size))
  dsimp only
  refine hK.out _ _ (fun _ => HSB.out _ Be.out) ?_
  clear hK K
  (try simp only [glA, glB, glC, Act.put, glD, glE, glF])
  have HS2 := Special_any d1 s a0 a1 we hd1 HZ.out
  rw [HSP.out] at HS2
  dsimp only at HS2
  refine wpAnyJ_one 6 rfl (by kernel_rfl) (fun K hK => ?_)
  simp only [glA, glB, glC]
  go_simp
  refine ⟨trivial, rfl, ?_⟩
  (with_reducible refine (callsIn_wide.2 HS2).mono ?_)
  rintro e w5 ⟨rfl, hb2⟩
  have B5 := hide (Be.out.trans (hb2.mono Be.out.size))
  dsimp only
  refine hK.out _ _ (fun _ => HSB.out _ B5.out) ?_
  clear hK K
  (try simp only [glA, glB, glC, Act.put, glD, glE, glF])
  refine wpAnyJ_take 7 (v := ?_) (by first | exact hF | exact wideFn) (HSB.out _ B5.out) rfl (by kernel_rfl) (by kernel_rfl) (by kernel_rfl) (by kernel_rfl) rfl ?_ (by first | exact fun _ _ _ h => h | exact fun _ _ _ h => hQ2 _ _ _ _ _ h) ?_
  rotate_left
  · intro W hSW
    simp only [glA, glB, glC]
    (try dsimp only at hSW)
    go_simp
    with_reducible rfl
  (try simp only [glA, glB, glC, Act.put, glD, glE, glF])
  refine wpAnyJ_take 8 (v := ?_) (by first | exact hF | exact wideFn) (HSB.out _ B5.out) rfl (by kernel_rfl) (by kernel_rfl) (by kernel_rfl) (by kernel_rfl) rfl ?_ (by first | exact fun _ _ _ h => h | exact fun _ _ _ h => hQ2 _ _ _ _ _ h) ?_
  rotate_left
  · intro W hSW
    simp only [glA, glB, glC]
    (try dsimp only at hSW)
    go_simp
    with_reducible rfl
  (try simp only [glA, glB, glC, Act.put, glD, glE, glF])
  refine wpAnyJ_take 9 (v := ?_) (by first | exact hF | exact wideFn) (HSB.out _ B5.out) rfl (by kernel_rfl) (by kernel_rfl) (by kernel_rfl) (by kernel_rfl) rfl ?_ (by first | exact fun _ _ _ h => h | exact fun _ _ _ h => hQ2 _ _ _ _ _ h) ?_
  rotate_left
  · intro W hSW
    simp only [glA, glB, glC]
    (try dsimp only at hSW)
    go_simp
    with_reducible rfl
  (try simp only [glA, glB, glC, Act.put, glD, glE, glF])
  refine wpAnyJ_take 10 (v := ?_) (by first | exact hF | exact wideFn) (HSB.out _ B5.out) rfl (by kernel_rfl) (by kernel_rfl) (by kernel_rfl) (by kernel_rfl) rfl ?_ (by first | exact fun _ _ _ h => h | exact fun _ _ _ h => hQ2 _ _ _ _ _ h) ?_
  rotate_left
  · intro W hSW
    simp only [glA, glB, glC]
    (try dsimp only at hSW)
    go_simp
    with_reducible rfl
  (try simp only [glA, glB, glC, Act.put, glD, glE, glF])
  refine wpAnyJ_take 11 (v := ?_) (by first | exact hF | exact wideFn) (HSB.out _ B5.out) rfl (by kernel_rfl) (by kernel_rfl) (by kernel_rfl) (by kernel_rfl) rfl ?_ (by first | exact fun _ _ _ h => h | exact fun _ _ _ h => hQ2 _ _ _ _ _ h) ?_
  rotate_left
  · intro W hSW
    simp only [glA, glB, glC]
    (try dsimp only at hSW)
    go_simp
    with_reducible rfl
  (try simp only [glA, glB, glC, Act.put, glD, glE, glF])
  refine wpAnyJ_done (by kernel_rfl) ?_
  clear hb1 hb2 hd1 HS2 Bd Be
  obtain ⟨⟨x0, x1, x2⟩, y0, y1, y2⟩ := HSB.out _ B5.out
  -- Decide
  go_upto_region 5 with fail
  have Bd := hide (B5.out.trans ((Below.refl w5.heap.size w5).drew.mono B5.out.size))
  refine wp_region_J (fun W : World => ((W.cell? ⟨G, 0, none⟩ = some (.slice d.fa nf d.fc) ∧ W.cell? ⟨G, 1, none⟩ = some (.int .i64 Q) ∧ W.cell? ⟨G, 2, none⟩ = some (.slice d.ra nr d.rc)) ∧ (W.cell? ⟨G', 0, none⟩ = some (.int .i64 a0) ∧ W.cell? ⟨G', 1, none⟩ = some (.int .i64 a1) ∧ W.cell? ⟨G', 2, none⟩ = some (.int .i64 q)))) (by kernel_rfl) ?_
  (clear x0 x1 x2 y0 y1 y2)
  generalize w5.drew = wd at Bd ⊢
  refine wpAnyJ_take 0 (v := ?_) (by first | exact hF | exact wideFn) (HSB.out _ Bd.out) rfl (by kernel_rfl) (by kernel_rfl) (by kernel_rfl) (by kernel_rfl) rfl ?_ (by first | exact fun _ _ _ h => h | exact fun _ _ _ h => hQ2 _ _ _ _ _ h) ?_
  rotate_left
  · intro W hSW
    simp only [glA, glB, glC]
    (try dsimp only at hSW)
    go_simp
    with_reducible rfl
  (try simp only [glA, glB, glC, Act.put, glD, glE, glF])
  refine wpAnyJ_take 2 (v := ?_) (by first | exact hF | exact wideFn) (HSB.out _ Bd.out) rfl (by kernel_rfl) (by kernel_rfl) (by kernel_rfl) (by kernel_rfl) rfl ?_ (by first | exact fun _ _ _ h => h | exact fun _ _ _ h => hQ2 _ _ _ _ _ h) ?_
  rotate_left
  · intro W hSW
    simp only [glA, glB, glC]
    (try dsimp only at hSW)
    go_simp
    with_reducible rfl
  (try simp only [glA, glB, glC, Act.put, glD, glE, glF])
  refine wpAnyJ_take 4 (v := ?_) (by first | exact hF | exact wideFn) (HSB.out _ Bd.out) rfl (by kernel_rfl) (by kernel_rfl) (by kernel_rfl) (by kernel_rfl) rfl ?_ (by first | exact fun _ _ _ h => h | exact fun _ _ _ h => hQ2 _ _ _ _ _ h) ?_
  rotate_left
  · intro W hSW
    simp only [glA, glB, glC]
    (try dsimp only at hSW)
    go_simp
    with_reducible rfl
  (try simp only [glA, glB, glC, Act.put, glD, glE, glF])
  refine wpAnyJ_take 5 (v := ?_) (by first | exact hF | exact wideFn) (HSB.out _ Bd.out) rfl (by kernel_rfl) (by kernel_rfl) (by kernel_rfl) (by kernel_rfl) rfl ?_ (by first | exact fun _ _ _ h => h | exact fun _ _ _ h => hQ2 _ _ _ _ _ h) ?_
  rotate_left
  · intro W hSW
    simp only [glA, glB, glC]
    (try dsimp only at hSW)
    go_simp
    with_reducible rfl
  (try simp only [glA, glB, glC, Act.put, glD, glE, glF])
  refine wpAnyJ_one 1 rfl (by kernel_rfl) (fun K hK => ?_)
  simp only [glA, glB, glC]
  go_simp
  refine ⟨trivial, rfl, ?_⟩
  (with_reducible refine (callsIn_wide.2 (HCS.out wd Bd.out)).mono ?_)
  rintro e we ⟨d1, rfl, hd1, hb1⟩
  have Be := hide (Bd.out.trans (hb1.mono Bd.out.size))
  dsimp only
  refine hK.out _ _ (fun _ => HSB.out _ Be.out) ?_
  clear hK K
  (try simp only [glA, glB, glC, Act.put, glD, glE, glF])
  refine wpAnyJ_one 3 rfl (by kernel_rfl) (fun K hK => ?_)
  simp only [glA, glB, glC]
  go_simp
  refine ⟨trivial, rfl, ?_⟩
  (with_reducible refine (callsIn_wide.2 (HNU.out we Be.out)).mono ?_)
  rintro e wf ⟨vn, rfl, hon, hb2⟩
  have Bf := hide (Be.out.trans (hb2.mono Be.out.size))
  dsimp only
  refine hK.out _ _ (fun _ => HSB.out _ Bf.out) ?_
  clear hK K
  (try simp only [glA, glB, glC, Act.put, glD, glE, glF])
  obtain ⟨NA, ncap, hvn⟩ := own_shape hon
  have hvn2 : vn = .slice NA nc ncap := by rw [hvn, HN.out.2.2.2]
  subst hvn2
  clear hvn
  have HD2 := Decide_any d1 s NA ncap c q wf (hd1.below hb2) HZ.out.nf HZ.out.nr (OwnJ.li hon).2
  rw [HDE.out, HN.out.2.2.2] at HD2
  unfold DePost at HD2
  dsimp only at HD2
  refine wpAnyJ_one 6 rfl (by kernel_rfl) (fun K hK => ?_)
  simp only [glA, glB, glC]
  go_simp
  refine ⟨trivial, rfl, ?_⟩
  (with_reducible refine (callsIn_wide.2 HD2).mono ?_)
  rintro e w6 ⟨vl, rfl, hol, hb3⟩
  have B6 := hide (Bf.out.trans (hb3.mono Bf.out.size))
  dsimp only
  refine hK.out _ _ (fun _ => HSB.out _ B6.out) ?_
  clear hK K
  (try simp only [glA, glB, glC, Act.put, glD, glE, glF])
  refine wpAnyJ_take 7 (v := ?_) (by first | exact hF | exact wideFn) (HSB.out _ B6.out) rfl (by kernel_rfl) (by kernel_rfl) (by kernel_rfl) (by kernel_rfl) rfl ?_ (by first | exact fun _ _ _ h => h | exact fun _ _ _ h => hQ2 _ _ _ _ _ h) ?_
  rotate_left
  · intro W hSW
    simp only [glA, glB, glC]
    (try dsimp only at hSW)
    go_simp
    with_reducible rfl
  (try simp only [glA, glB, glC, Act.put, glD, glE, glF])
  refine wpAnyJ_take 8 (v := ?_) (by first | exact hF | exact wideFn) (HSB.out _ B6.out) rfl (by kernel_rfl) (by kernel_rfl) (by kernel_rfl) (by kernel_rfl) rfl ?_ (by first | exact fun _ _ _ h => h | exact fun _ _ _ h => hQ2 _ _ _ _ _ h) ?_
  rotate_left
  · intro W hSW
    simp only [glA, glB, glC]
    (try dsimp only at hSW)
    go_simp
    with_reducible rfl
  (try simp only [glA, glB, glC, Act.put, glD, glE, glF])
  refine wpAnyJ_take 9 (v := ?_) (by first | exact hF | exact wideFn) (HSB.out _ B6.out) rfl (by kernel_rfl) (by kernel_rfl) (by kernel_rfl) (by kernel_rfl) rfl ?_ (by first | exact fun _ _ _ h => h | exact fun _ _ _ h => hQ2 _ _ _ _ _ h) ?_
  rotate_left
  · intro W hSW
    simp only [glA, glB, glC]
    (try dsimp only at hSW)
    go_simp
    with_reducible rfl
  (try simp only [glA, glB, glC, Act.put, glD, glE, glF])
  refine wpAnyJ_take 10 (v := ?_) (by first | exact hF | exact wideFn) (HSB.out _ B6.out) rfl (by kernel_rfl) (by kernel_rfl) (by kernel_rfl) (by kernel_rfl) rfl ?_ (by first | exact fun _ _ _ h => h | exact fun _ _ _ h => hQ2 _ _ _ _ _ h) ?_
  rotate_left
  · intro W hSW
    simp only [glA, glB, glC]
    (try dsimp only at hSW)
    go_simp
    with_reducible rfl
  (try simp only [glA, glB, glC, Act.put, glD, glE, glF])
  refine wpAnyJ_take 11 (v := ?_) (by first | exact hF | exact wideFn) (HSB.out _ B6.out) rfl (by kernel_rfl) (by kernel_rfl) (by kernel_rfl) (by kernel_rfl) rfl ?_ (by first | exact fun _ _ _ h => h | exact fun _ _ _ h => hQ2 _ _ _ _ _ h) ?_
  rotate_left
  · intro W hSW
    simp only [glA, glB, glC]
    (try dsimp only at hSW)
    go_simp
    with_reducible rfl
  (try simp only [glA, glB, glC, Act.put, glD, glE, glF])
  refine wpAnyJ_take 12 (v := ?_) (by first | exact hF | exact wideFn) (HSB.out _ B6.out) rfl (by kernel_rfl) (by kernel_rfl) (by kernel_rfl) (by kernel_rfl) rfl ?_ (by first | exact fun _ _ _ h => h | exact fun _ _ _ h => hQ2 _ _ _ _ _ h) ?_
  rotate_left
  · intro W hSW
    simp only [glA, glB, glC]
    (try dsimp only at hSW)
    go_simp
    with_reducible rfl
  (try simp only [glA, glB, glC, Act.put, glD, glE, glF])
  refine wpAnyJ_take 13 (v := ?_) (by first | exact hF | exact wideFn) (HSB.out _ B6.out) rfl (by kernel_rfl) (by kernel_rfl) (by kernel_rfl) (by kernel_rfl) rfl ?_ (by first | exact fun _ _ _ h => h | exact fun _ _ _ h => hQ2 _ _ _ _ _ h) ?_
  rotate_left
  · intro W hSW
    simp only [glA, glB, glC]
    (try dsimp only at hSW)
    go_simp
    with_reducible rfl
  (try simp only [glA, glB, glC, Act.put, glD, glE, glF])
  refine wpAnyJ_done (by kernel_rfl) ?_
  obtain ⟨LA, lc, hvl⟩ := own_shape hol
  subst hvl
  obtain ⟨ln, hln⟩ : ∃ n, l.length = n := ⟨_, rfl⟩
  rw [hln]
  have HLN := hide hln
  have HOL := hide hol
  clear hb1 hb2 hb3 hd1 HD2 Bd Be Bf hon hol hln
  obtain ⟨⟨x0, x1, x2⟩, y0, y1, y2⟩ := HSB.out _ B6.out
  rcases hs : schB s with _ | _
  · -- BEGIN4
    as_aux_lemma =>
    rw [hs] at HSC
    have e1 : ck = 2 := by rw [← HCK.out, hs]; rfl
    have e2 : spR s a0 a1 = (false, 2) := by unfold spR; rw [if_neg (by rw [hs]; decide)]
    have e3 : decR s c q = (0, 2, []) := by unfold decR; rw [if_neg (by rw [hs]; decide)]
    rw [HSP.out] at e2
    rw [HDE.out] at e3
    injection e2 with e2 e4
    injection e3 with e3 e5
    injection e5 with e5 e6
    have e7 : ln = 0 := by rw [← HLN.out, e6]; rfl
    subst e1 e2 e4 e3 e5 e7
    clear hs e6
    go_wp2_with fail
    refine (HSC.out w6 B6.out).mono ?_
    rintro e w7 ⟨rfl, hb⟩
    have B7 := hide (B6.out.trans (hb.mono B6.out.size))
    clear hb
    (clear x0 x1 x2 y0 y1 y2)
    obtain ⟨⟨x0, x1, x2⟩, y0, y1, y2⟩ := HSB.out _ B7.out
    go_wp2_with fail
    refine (known_any w7).mono ?_
    rintro e wz ⟨rfl, hbz⟩
    go_wp2_with fail
    go_ret
    exact ⟨rfl, HB0.out.trans ((B7.out.trans (hbz.mono B7.out.size)).mono HB0.out.size)⟩
    -- END4
  rw [hs] at HSC
  have e1 : ck = 0 := by rw [← HCK.out, hs]; rfl
  subst e1
  have HS := hide hs
  have HOK := hide (schB_ok hs)
  have HRS : Hid (∀ W, Below w1.heap.size w1 W → Calls Tryd.prog 35 #[.agg #[.slice d.fa nf d.fc, .int .i64 Q, .slice d.ra nr d.rc]] W fun e w' => ∃ v, e = .returned v ∧ (∃ b, TbB w' b v nr nr (spP s)) ∧ Below W.heap.size W w') := hide fun W h => by
    have := refSpecial_any d s W (HD.out.below h) HS.out HI.out
    rwa [HES.out, HN.out.2.1] at this
  have HIC : Hid (∀ W, Below w1.heap.size w1 W → Calls Tryd.prog 40 #[.agg #[.slice d.fa nf d.fc, .int .i64 Q, .slice d.ra nr d.rc], .slice A nc cc] W fun e w' => e = .returned (.bool (icB s.fs c)) ∧ Below W.heap.size W w') := hide fun W h => by
    have := refCase_any d s A cc c W (HD.out.below h) HZ.out.nf ((ER.below HA.out h (Nat.le_refl _)).more h.size)
    rwa [HES.out, HN.out.2.2.2] at this
  have HLL : Hid (∀ W, Below w6.heap.size w6 W → LI W W.heap.size LA l) := hide fun W h => (OwnJ.li (OwnJ.ext HOL.out h)).2
  have C6 : Hid (Below w6.heap.size w6 w6) := hide (Below.refl _ _)
  clear hs HCK HOL
  go_wp2_with fail
  refine (HSC.out w6 B6.out).mono ?_
  rintro e w7 ⟨rfl, hb⟩
  have B7 := hide (B6.out.trans (hb.mono B6.out.size))
  have C7 := hide (C6.out.trans (hb.mono C6.out.size))
  clear hb
  (clear x0 x1 x2 y0 y1 y2)
  obtain ⟨⟨x0, x1, x2⟩, y0, y1, y2⟩ := HSB.out _ B7.out
  go_wp2_with fail
  refine (HRS.out w7 B7.out).mono ?_
  rintro e w8 ⟨vt, rfl, htb, hb⟩
  have B8 := hide (B7.out.trans (hb.mono B7.out.size))
  have C8 := hide (C7.out.trans (hb.mono C7.out.size))
  have HTB := hide htb
  obtain ⟨TA, tc, hvt⟩ := (htb.choose_spec).shape
  subst hvt
  (clear hb htb x0 x1 x2 y0 y1 y2 HGS HCS HNU HSC HRS)
  obtain ⟨⟨x0, x1, x2⟩, y0, y1, y2⟩ := HSB.out _ B8.out
  have hsq := HOK.out.q1
  have hsq4 := HOK.out.q4
  rw [HN.out.2.2.1] at hsq hsq4
  by_cases hin : (0 ≤ a0 ∧ a0 ≤ (nr : Int) - 1) ∧ (0 ≤ a1 ∧ a1 ≤ (nr : Int) - 1)
  rotate_left
  · -- BEGIN5
    have e2 : spR s a0 a1 = (false, 3) := by unfold spR; rw [if_pos HS.out, HN.out.2.1, if_neg hin]
    rw [HSP.out] at e2
    injection e2 with e2 e4
    subst e2 e4
    clear HSP
    go_upto_region 12 with fail
    go_cut [107] (fun v w' => v = .bool true ∧ w' = w8)
    case first =>
     as_aux_lemma =>
      rcases (by omega : a0 < 0 ∨ (¬ a0 < 0 ∧ (nr : Int) ≤ a0) ∨ (¬ a0 < 0 ∧ ¬ (nr : Int) ≤ a0 ∧ a1 < 0) ∨ (¬ a0 < 0 ∧ ¬ (nr : Int) ≤ a0 ∧ ¬ a1 < 0 ∧ (nr : Int) ≤ a1)) with h | ⟨h, h2⟩ | ⟨h, h2, h3⟩ | ⟨h, h2, h3, h4⟩
      all_goals
        clear hin
        go_wp2_with fail
        go_meet
        exact ⟨rfl, rfl⟩
    obtain ⟨rfl, hw⟩ := hcut
    have hw := hw.symm
    subst hw
    as_aux_lemma =>
        clear hin
        go_upto_region 17 with fail
        by_cases hq : 0 ≤ q ∧ q ≤ Q - 1
        rotate_left
        · have e3 : decR s c q = (0, 3, []) := by unfold decR; rw [if_pos HS.out, HN.out.2.2.1, if_neg hq]
          rw [HDE.out] at e3
          injection e3 with e3 e5
          injection e5 with e5 e6
          have e7 : ln = 0 := by rw [← HLN.out, e6]; rfl
          subst e3 e5 e7
          clear e6 HDE HLN HLL
          rcases (by omega : q < 0 ∨ (¬ q < 0 ∧ Q ≤ q)) with h5 | ⟨h5, h6⟩
          all_goals
            -- BEGIN7
            clear hq
            go_wp2_with fail
            go_wp2_with fail
            refine (known_any w8).mono ?_
            rintro e wz ⟨rfl, hbz⟩
            go_wp2_with fail
            go_ret
            exact ⟨rfl, HB0.out.trans ((B8.out.trans (hbz.mono B8.out.size)).mono HB0.out.size)⟩
            -- END7
        have q0 : ¬ q < 0 := by omega
        have q1 : ¬ Q ≤ q := by omega
        -- BEGIN8
        rcases hic : icB s.fs c with _ | _
        · rw [hic] at HIC
          have e3 : decR s c q = (0, 4, []) := by unfold decR; rw [if_pos HS.out, HN.out.2.2.1, if_pos hq, if_neg (by rw [hic]; decide)]
          rw [HDE.out] at e3
          injection e3 with e3 e5
          injection e5 with e5 e6
          have e7 : ln = 0 := by rw [← HLN.out, e6]; rfl
          subst e3 e5 e7
          clear e6 HDE HLN HLL hic hq
          go_wp2_with fail
          refine (HIC.out w8 B8.out).mono ?_
          rintro e wa ⟨rfl, hb⟩
          have Ba := hide (B8.out.trans (hb.mono B8.out.size))
          clear hb
          (clear x0 x1 x2 y0 y1 y2)
          obtain ⟨⟨x0, x1, x2⟩, y0, y1, y2⟩ := HSB.out _ Ba.out
          go_wp2_with fail
          refine (known_any wa).mono ?_
          rintro e wz ⟨rfl, hbz⟩
          go_wp2_with fail
          go_ret
          exact ⟨rfl, HB0.out.trans ((Ba.out.trans (hbz.mono Ba.out.size)).mono HB0.out.size)⟩
        rw [hic] at HIC
        have hnc : nc = nf := by have := (ic_iff.1 hic).1; rw [HN.out.2.2.2, HN.out.1] at this; exact this
        obtain rfl : nf = nc := hnc.symm
        have HRD : Hid (∀ W, Below w1.heap.size w1 W → Below w8.heap.size w8 W → Calls Tryd.prog 36 #[.agg #[.slice d.fa nf d.fc, .int .i64 Q, .slice d.ra nr d.rc], .slice TA nr tc, .slice A nf cc, .int .i64 q] W (fun e w' => ∃ v, e = .returned (.tuple #[.int .i64 say, v, .int .i64 g]) ∧ OwnJ w' W.heap.size v l ∧ Below W.heap.size W w')) := hide fun W h h2 => by
          have e3 : decR s c q = dcF s (stF s) c q := by unfold decR; rw [if_pos HS.out, HN.out.2.2.1, if_pos hq, if_pos hic]
          have := refDecide_any d s TA A tc cc c q W (HD.out.below h) HS.out HI.out hic ((ER.below HA.out h (Nat.le_refl _)).more h.size) (by
            obtain ⟨b, h3⟩ := HTB.out
            rw [HN.out.2.1]
            exact ⟨b, h3.ext h2⟩)
          rw [← e3, HDE.out, HN.out.2.1, HN.out.1, HES.out] at this
          exact this
        clear hic hq HDE
        go_wp2_with fail
        refine (HIC.out w8 B8.out).mono ?_
        rintro e wa ⟨rfl, hb⟩
        have Ba := hide (B8.out.trans (hb.mono B8.out.size))
        have Ca := hide (C8.out.trans (hb.mono C8.out.size))
        have H8a := hide hb
        (clear hb x0 x1 x2 y0 y1 y2)
        obtain ⟨⟨x0, x1, x2⟩, y0, y1, y2⟩ := HSB.out _ Ba.out
        go_wp2_with fail
        refine (HRD.out wa Ba.out H8a.out).mono ?_
        rintro e wb ⟨vr, rfl, hor, hb⟩
        obtain ⟨RA, rc, hvr⟩ := own_shape hor
        have hvr2 : vr = .slice RA ln rc := by rw [hvr, HLN.out]
        subst hvr2
        clear hvr
        have Bb := hide (Ba.out.trans (hb.mono Ba.out.size))
        have Cb := hide (Ca.out.trans (hb.mono Ca.out.size))
        have HEQ := hide (equal_same LA RA lc rc ln l wb HLN.out (by have := HL15.out; unfold maxLen; omega) (HLL.out wb Cb.out) (OwnJ.li hor).2)
        (clear hb hor x0 x1 x2 y0 y1 y2 HRD)
        obtain ⟨⟨x0, x1, x2⟩, y0, y1, y2⟩ := HSB.out _ Bb.out
        go_wp2_with fail
        refine HEQ.out.mono ?_
        rintro e wc ⟨rfl, hb⟩
        have Bc := hide (Bb.out.trans (hb.mono Bb.out.size))
        clear hb
        go_wp2_with fail
        refine (known_any wc).mono ?_
        rintro e wz ⟨rfl, hbz⟩
        go_wp2_with fail
        go_ret
        exact ⟨rfl, HB0.out.trans ((Bc.out.trans (hbz.mono Bc.out.size)).mono HB0.out.size)⟩
        -- END8
    -- END5
  -- BEGIN6
  have e2 : spR s a0 a1 = (spc (stF s a0.toNat) (stF s a1.toNat), 0) := by unfold spR; rw [if_pos HS.out, HN.out.2.1, if_pos hin]
  rw [HSP.out] at e2
  injection e2 with e2 e4
  obtain ⟨i, rfl⟩ : ∃ n : Nat, a0 = (n : Int) := ⟨a0.toNat, by omega⟩
  obtain ⟨j, rfl⟩ : ∃ n : Nat, a1 = (n : Int) := ⟨a1.toNat, by omega⟩
  rw [Int.toNat_natCast, Int.toNat_natCast] at e2
  have hin2 : i < nr := by omega
  have hjn : j < nr := by omega
  have hsp2 : spP s i j = is := by rw [e2]; exact sp_eq HS.out HI.out (by rw [HN.out.2.1]; exact hin2) (by rw [HN.out.2.1]; exact hjn)
  subst e4
  clear e2 HSP
  have i0 : ¬ (i : Int) < 0 := by omega
  have i1 : ¬ (nr : Int) ≤ (i : Int) := by omega
  have j0 : ¬ (j : Int) < 0 := by omega
  have j1 : ¬ (nr : Int) ≤ (j : Int) := by omega
  have i2 : (0 : Int) ≤ (i : Int) := by omega
  have i3 : (i : Int) < (nr : Int) := by omega
  have j2 : (0 : Int) ≤ (j : Int) := by omega
  have j3 : (j : Int) < (nr : Int) := by omega
  obtain ⟨b, hTb⟩ := HTB.out
  obtain ⟨tg, tr, tz, e1', e2, e3, e4, e5⟩ := hTb.at_ hin2 hjn
  subst e1'
  rw [hsp2] at e5
  have HS15 : Hid (∀ W, Below w8.heap.size w8 W → (W.cell? ⟨G', 0, none⟩ = some (.int .i64 (i : Nat)) ∧ W.cell? ⟨G', 1, none⟩ = some (.int .i64 (j : Nat)) ∧ W.cell? ⟨tg, i, none⟩ = some (.slice (some ⟨tr, 0, none⟩) nr tz) ∧ W.cell? ⟨tr, j, none⟩ = some (.bool is))) := hide fun W h => by
    obtain ⟨⟨-, -, -⟩, y0, y1, y2⟩ := HSB.out _ (B8.out.trans (h.mono B8.out.size))
    exact ⟨y0, y1, (h.cell (p := ⟨tg, i, none⟩) e2).trans e3, (h.cell (p := ⟨tr, j, none⟩) e4).trans e5⟩
  clear hin hsp2 hTb e2 e3 e4 e5
  go_upto_region 15 with fail
  have Bd := hide ((Below.refl w8.heap.size w8).drew)
  (clear x0 x1 x2 y0 y1 y2)
  refine wp_region_J (fun W : World => (W.cell? ⟨G', 0, none⟩ = some (.int .i64 (i : Nat)) ∧ W.cell? ⟨G', 1, none⟩ = some (.int .i64 (j : Nat)) ∧ W.cell? ⟨tg, i, none⟩ = some (.slice (some ⟨tr, 0, none⟩) nr tz) ∧ W.cell? ⟨tr, j, none⟩ = some (.bool is))) (by kernel_rfl) ?_
  obtain ⟨w9, hw9⟩ : ∃ x, x = w8.drew := ⟨_, rfl⟩
  rw [← hw9] at Bd ⊢
  refine wpAnyJ_take 0 (v := ?_) (by first | exact hF | exact wideFn) (HS15.out _ Bd.out) rfl (by kernel_rfl) (by kernel_rfl) (by kernel_rfl) (by kernel_rfl) rfl ?_ (by first | exact fun _ _ _ h => h | exact fun _ _ _ h => hQ2 _ _ _ _ _ h) ?_
  rotate_left
  · intro W hSW
    simp only [glA, glB, glC]
    (try dsimp only at hSW)
    go_simp
    with_reducible rfl
  (try simp only [glA, glB, glC, Act.put, glD, glE, glF])
  refine wpAnyJ_take 1 (v := ?_) (by first | exact hF | exact wideFn) (HS15.out _ Bd.out) rfl (by kernel_rfl) (by kernel_rfl) (by kernel_rfl) (by kernel_rfl) rfl ?_ (by first | exact fun _ _ _ h => h | exact fun _ _ _ h => hQ2 _ _ _ _ _ h) ?_
  rotate_left
  · intro W hSW
    simp only [glA, glB, glC]
    (try dsimp only at hSW)
    go_simp
    with_reducible rfl
  (try simp only [glA, glB, glC, Act.put, glD, glE, glF])
  refine wpAnyJ_take 2 (v := ?_) (by first | exact hF | exact wideFn) (HS15.out _ Bd.out) rfl (by kernel_rfl) (by kernel_rfl) (by kernel_rfl) (by kernel_rfl) rfl ?_ (by first | exact fun _ _ _ h => h | exact fun _ _ _ h => hQ2 _ _ _ _ _ h) ?_
  rotate_left
  · intro W hSW
    simp only [glA, glB, glC]
    (try dsimp only at hSW)
    go_simp
    with_reducible rfl
  (try simp only [glA, glB, glC, Act.put, glD, glE, glF])
  refine wpAnyJ_take 3 (v := ?_) (by first | exact hF | exact wideFn) (HS15.out _ Bd.out) rfl (by kernel_rfl) (by kernel_rfl) (by kernel_rfl) (by kernel_rfl) rfl ?_ (by first | exact fun _ _ _ h => h | exact fun _ _ _ h => hQ2 _ _ _ _ _ h) ?_
  rotate_left
  · intro W hSW
    simp only [glA, glB, glC]
    (try dsimp only at hSW)
    go_simp
    with_reducible rfl
  (try simp only [glA, glB, glC, Act.put, glD, glE, glF])
  refine wpAnyJ_take 4 (v := ?_) (by first | exact hF | exact wideFn) (HS15.out _ Bd.out) rfl (by kernel_rfl) (by kernel_rfl) (by kernel_rfl) (by kernel_rfl) rfl ?_ (by first | exact fun _ _ _ h => h | exact fun _ _ _ h => hQ2 _ _ _ _ _ h) ?_
  rotate_left
  · intro W hSW
    simp only [glA, glB, glC]
    (try dsimp only at hSW)
    go_simp
    with_reducible rfl
  (try simp only [glA, glB, glC, Act.put, glD, glE, glF])
  refine wpAnyJ_take 5 (v := ?_) (by first | exact hF | exact wideFn) (HS15.out _ Bd.out) rfl (by kernel_rfl) (by kernel_rfl) (by kernel_rfl) (by kernel_rfl) rfl ?_ (by first | exact fun _ _ _ h => h | exact fun _ _ _ h => hQ2 _ _ _ _ _ h) ?_
  rotate_left
  · intro W hSW
    simp only [glA, glB, glC]
    (try dsimp only at hSW)
    go_simp
    with_reducible rfl
  (try simp only [glA, glB, glC, Act.put, glD, glE, glF])
  refine wpAnyJ_take 6 (v := ?_) (by first | exact hF | exact wideFn) (HS15.out _ Bd.out) rfl (by kernel_rfl) (by kernel_rfl) (by kernel_rfl) (by kernel_rfl) rfl ?_ (by first | exact fun _ _ _ h => h | exact fun _ _ _ h => hQ2 _ _ _ _ _ h) ?_
  rotate_left
  · intro W hSW
    simp only [glA, glB, glC]
    (try dsimp only at hSW)
    go_simp
    with_reducible rfl
  (try simp only [glA, glB, glC, Act.put, glD, glE, glF])
  refine wpAnyJ_take 7 (v := ?_) (by first | exact hF | exact wideFn) (HS15.out _ Bd.out) rfl (by kernel_rfl) (by kernel_rfl) (by kernel_rfl) (by kernel_rfl) rfl ?_ (by first | exact fun _ _ _ h => h | exact fun _ _ _ h => hQ2 _ _ _ _ _ h) ?_
  rotate_left
  · intro W hSW
    simp only [glA, glB, glC]
    (try dsimp only at hSW)
    go_simp
    with_reducible rfl
  (try simp only [glA, glB, glC, Act.put, glD, glE, glF])
  refine wpAnyJ_take 8 (v := ?_) (by first | exact hF | exact wideFn) (HS15.out _ Bd.out) rfl (by kernel_rfl) (by kernel_rfl) (by kernel_rfl) (by kernel_rfl) rfl ?_ (by first | exact fun _ _ _ h => h | exact fun _ _ _ h => hQ2 _ _ _ _ _ h) ?_
  rotate_left
  · intro W hSW
    simp only [glA, glB, glC]
    (try dsimp only at hSW)
    go_simp
    with_reducible rfl
  (try simp only [glA, glB, glC, Act.put, glD, glE, glF])
  refine wpAnyJ_take 9 (v := ?_) (by first | exact hF | exact wideFn) (HS15.out _ Bd.out) rfl (by kernel_rfl) (by kernel_rfl) (by kernel_rfl) (by kernel_rfl) rfl ?_ (by first | exact fun _ _ _ h => h | exact fun _ _ _ h => hQ2 _ _ _ _ _ h) ?_
  rotate_left
  · intro W hSW
    simp only [glA, glB, glC]
    (try dsimp only at hSW)
    go_simp
    with_reducible rfl
  (try simp only [glA, glB, glC, Act.put, glD, glE, glF])
  refine wpAnyJ_take 10 (v := ?_) (by first | exact hF | exact wideFn) (HS15.out _ Bd.out) rfl (by kernel_rfl) (by kernel_rfl) (by kernel_rfl) (by kernel_rfl) rfl ?_ (by first | exact fun _ _ _ h => h | exact fun _ _ _ h => hQ2 _ _ _ _ _ h) ?_
  rotate_left
  · intro W hSW
    simp only [glA, glB, glC]
    (try dsimp only at hSW)
    go_simp
    with_reducible rfl
  (try simp only [glA, glB, glC, Act.put, glD, glE, glF])
  refine wpAnyJ_take 11 (v := ?_) (by first | exact hF | exact wideFn) (HS15.out _ Bd.out) rfl (by kernel_rfl) (by kernel_rfl) (by kernel_rfl) (by kernel_rfl) rfl ?_ (by first | exact fun _ _ _ h => h | exact fun _ _ _ h => hQ2 _ _ _ _ _ h) ?_
  rotate_left
  · intro W hSW
    simp only [glA, glB, glC]
    (try dsimp only at hSW)
    go_simp
    with_reducible rfl
  (try simp only [glA, glB, glC, Act.put, glD, glE, glF])
  refine wpAnyJ_take 12 (v := ?_) (by first | exact hF | exact wideFn) (HS15.out _ Bd.out) rfl (by kernel_rfl) (by kernel_rfl) (by kernel_rfl) (by kernel_rfl) rfl ?_ (by first | exact fun _ _ _ h => h | exact fun _ _ _ h => hQ2 _ _ _ _ _ h) ?_
  rotate_left
  · intro W hSW
    simp only [glA, glB, glC]
    (try dsimp only at hSW)
    go_simp
    with_reducible rfl
  (try simp only [glA, glB, glC, Act.put, glD, glE, glF])
  refine wpAnyJ_take 13 (v := ?_) (by first | exact hF | exact wideFn) (HS15.out _ Bd.out) rfl (by kernel_rfl) (by kernel_rfl) (by kernel_rfl) (by kernel_rfl) rfl ?_ (by first | exact fun _ _ _ h => h | exact fun _ _ _ h => hQ2 _ _ _ _ _ h) ?_
  rotate_left
  · intro W hSW
    simp only [glA, glB, glC]
    (try dsimp only at hSW)
    go_simp
    with_reducible rfl
  (try simp only [glA, glB, glC, Act.put, glD, glE, glF])
  refine wpAnyJ_take 14 (v := ?_) (by first | exact hF | exact wideFn) (HS15.out _ Bd.out) rfl (by kernel_rfl) (by kernel_rfl) (by kernel_rfl) (by kernel_rfl) rfl ?_ (by first | exact fun _ _ _ h => h | exact fun _ _ _ h => hQ2 _ _ _ _ _ h) ?_
  rotate_left
  · intro W hSW
    simp only [glA, glB, glC]
    (try dsimp only at hSW)
    go_simp
    with_reducible rfl
  (try simp only [glA, glB, glC, Act.put, glD, glE, glF])
  refine wpAnyJ_done (by kernel_rfl) ?_
  have B9 := hide (B8.out.trans (Bd.out.mono B8.out.size))
  have C9 := hide (C8.out.trans (Bd.out.mono C8.out.size))
  replace HTB : Hid (∃ b, TbB w9 b (.slice (some ⟨tg, 0, none⟩) nr tc) nr nr (spP s)) := hide (by
    obtain ⟨b, h⟩ := HTB.out
    exact ⟨b, h.ext Bd.out⟩)
  clear hw9 B8 C8 Bd HS15
  obtain ⟨TA, hTA⟩ : ∃ x, some (⟨tg, 0, none⟩ : Addr) = x := ⟨_, rfl⟩
  rw [hTA] at HTB ⊢
  clear hTA
  obtain ⟨⟨x0, x1, x2⟩, y0, y1, y2⟩ := HSB.out _ B9.out
  obtain ⟨w8, hw8⟩ : ∃ x, x = w9 := ⟨_, rfl⟩
  rw [← hw8] at HTB B9 C9 x0 x1 x2 y0 y1 y2 ⊢
  have B8 := B9
  have C8 := C9
  clear hw8 B9 C9
  as_aux_lemma =>
      go_upto_region 17 with fail
      by_cases hq : 0 ≤ q ∧ q ≤ Q - 1
      rotate_left
      · have e3 : decR s c q = (0, 3, []) := by unfold decR; rw [if_pos HS.out, HN.out.2.2.1, if_neg hq]
        rw [HDE.out] at e3
        injection e3 with e3 e5
        injection e5 with e5 e6
        have e7 : ln = 0 := by rw [← HLN.out, e6]; rfl
        subst e3 e5 e7
        clear e6 HDE HLN HLL
        rcases (by omega : q < 0 ∨ (¬ q < 0 ∧ Q ≤ q)) with h5 | ⟨h5, h6⟩
        all_goals
          -- BEGIN7
          clear hq
          go_wp2_with fail
          go_wp2_with fail
          refine (known_any w8).mono ?_
          rintro e wz ⟨rfl, hbz⟩
          go_wp2_with fail
          go_ret
          exact ⟨rfl, HB0.out.trans ((B8.out.trans (hbz.mono B8.out.size)).mono HB0.out.size)⟩
          -- END7
      have q0 : ¬ q < 0 := by omega
      have q1 : ¬ Q ≤ q := by omega
      -- BEGIN8
      rcases hic : icB s.fs c with _ | _
      · rw [hic] at HIC
        have e3 : decR s c q = (0, 4, []) := by unfold decR; rw [if_pos HS.out, HN.out.2.2.1, if_pos hq, if_neg (by rw [hic]; decide)]
        rw [HDE.out] at e3
        injection e3 with e3 e5
        injection e5 with e5 e6
        have e7 : ln = 0 := by rw [← HLN.out, e6]; rfl
        subst e3 e5 e7
        clear e6 HDE HLN HLL hic hq
        go_wp2_with fail
        refine (HIC.out w8 B8.out).mono ?_
        rintro e wa ⟨rfl, hb⟩
        have Ba := hide (B8.out.trans (hb.mono B8.out.size))
        clear hb
        (clear x0 x1 x2 y0 y1 y2)
        obtain ⟨⟨x0, x1, x2⟩, y0, y1, y2⟩ := HSB.out _ Ba.out
        go_wp2_with fail
        refine (known_any wa).mono ?_
        rintro e wz ⟨rfl, hbz⟩
        go_wp2_with fail
        go_ret
        exact ⟨rfl, HB0.out.trans ((Ba.out.trans (hbz.mono Ba.out.size)).mono HB0.out.size)⟩
      rw [hic] at HIC
      have hnc : nc = nf := by have := (ic_iff.1 hic).1; rw [HN.out.2.2.2, HN.out.1] at this; exact this
      obtain rfl : nf = nc := hnc.symm
      have HRD : Hid (∀ W, Below w1.heap.size w1 W → Below w8.heap.size w8 W → Calls Tryd.prog 36 #[.agg #[.slice d.fa nf d.fc, .int .i64 Q, .slice d.ra nr d.rc], .slice TA nr tc, .slice A nf cc, .int .i64 q] W (fun e w' => ∃ v, e = .returned (.tuple #[.int .i64 say, v, .int .i64 g]) ∧ OwnJ w' W.heap.size v l ∧ Below W.heap.size W w')) := hide fun W h h2 => by
        have e3 : decR s c q = dcF s (stF s) c q := by unfold decR; rw [if_pos HS.out, HN.out.2.2.1, if_pos hq, if_pos hic]
        have := refDecide_any d s TA A tc cc c q W (HD.out.below h) HS.out HI.out hic ((ER.below HA.out h (Nat.le_refl _)).more h.size) (by
          obtain ⟨b, h3⟩ := HTB.out
          rw [HN.out.2.1]
          exact ⟨b, h3.ext h2⟩)
        rw [← e3, HDE.out, HN.out.2.1, HN.out.1, HES.out] at this
        exact this
      clear hic hq HDE
      go_wp2_with fail
      refine (HIC.out w8 B8.out).mono ?_
      rintro e wa ⟨rfl, hb⟩
      have Ba := hide (B8.out.trans (hb.mono B8.out.size))
      have Ca := hide (C8.out.trans (hb.mono C8.out.size))
      have H8a := hide hb
      (clear hb x0 x1 x2 y0 y1 y2)
      obtain ⟨⟨x0, x1, x2⟩, y0, y1, y2⟩ := HSB.out _ Ba.out
      go_wp2_with fail
      refine (HRD.out wa Ba.out H8a.out).mono ?_
      rintro e wb ⟨vr, rfl, hor, hb⟩
      obtain ⟨RA, rc, hvr⟩ := own_shape hor
      have hvr2 : vr = .slice RA ln rc := by rw [hvr, HLN.out]
      subst hvr2
      clear hvr
      have Bb := hide (Ba.out.trans (hb.mono Ba.out.size))
      have Cb := hide (Ca.out.trans (hb.mono Ca.out.size))
      have HEQ := hide (equal_same LA RA lc rc ln l wb HLN.out (by have := HL15.out; unfold maxLen; omega) (HLL.out wb Cb.out) (OwnJ.li hor).2)
      (clear hb hor x0 x1 x2 y0 y1 y2 HRD)
      obtain ⟨⟨x0, x1, x2⟩, y0, y1, y2⟩ := HSB.out _ Bb.out
      go_wp2_with fail
      refine HEQ.out.mono ?_
      rintro e wc ⟨rfl, hb⟩
      have Bc := hide (Bb.out.trans (hb.mono Bb.out.size))
      clear hb
      go_wp2_with fail
      refine (known_any wc).mono ?_
      rintro e wz ⟨rfl, hbz⟩
      go_wp2_with fail
      go_ret
      exact ⟨rfl, HB0.out.trans ((Bc.out.trans (hbz.mono Bc.out.size)).mono HB0.out.size)⟩
      -- END8
  -- END6
  -- END3
end Go.Proofs.YtmpegkojencbjaaDoor
/- How a law's statement follows from its walk; arguments opened as readings. -/
namespace Go.Proofs.YtmpegkojencbjaaDoor
open Go Go.RowKit Go.ChangeShapes Go.WideShapes Go.ChangeAt
set_option maxRecDepth 100000
theorem own_knob : ownKnob Tryd.prog.godebug = none := by kernel_rfl
theorem laidOut : laidOutB Tryd.prog = true := by kernel_rfl
section
variable {H : Type} {enc : TypeId × Value → H}
/-- arguments read behind the call as before, if below the heap's old size nothing has turned -/
theorem stay_all {W W' : World} (hb : Below W.heap.size W W') {sp : Nat → Bool} : ∀ {ts : List TypeId} {vs : List Value} {ds : List (DataW H)} {ps : List MemPlace},
    (∀ t ∈ ts, Tryd.prog.readableRec t = true ∧ t < Tryd.prog.types.size) → DataW.TrodAll enc Tryd.prog W 0 (fun _ => true) true ts vs ds ps → (∀ x ∈ ps, x.block < W.heap.size) → (∀ x ∈ ps, sp x.block = true) →
    DataW.TrodAll enc Tryd.prog W' 0 sp true ts vs ds ps
  | [], _, _, _, _, h, _, _ => by
    obtain ⟨rfl, rfl, rfl⟩ := trodAll_nil h
    exact trodAll_mk0
  | t :: ts, _, _, _, hr, h, hlt, hsp => by
    obtain ⟨v, vs, d, ds, p, q, rfl, rfl, rfl, h0, r0⟩ := trodAll_cons h
    have k := hr t (by simp)
    exact trodAll_cons_mk (WideElems.Trod_stays laidOut k.1 k.2 h0 (fun x hx => hb.same (hlt x (by simp [hx]))) (fun x hx => hsp x (by simp [hx])))
      (stay_all hb (fun t ht => hr t (by simp [ht])) r0 (fun x hx => hlt x (by simp [hx])) (fun x hx => hsp x (by simp [hx])))
/-- a law that returned true and turned nothing old -/
theorem law_post {f : Func} {s : ChangeSpec} {apart fresh handsOn again : Bool} {W W' : World} {args : Array Value} {ds gs : List (DataW H)} {before : List MemPlace}
    (hW : DataW.Whole enc Tryd.prog f.params.toList s.vars apart W args.toList ds gs before) (hb : Below W.heap.size W W')
    (hvs : s.vars = []) (hr1 : f.resultTypes = #[4])
    (hpar : f.params.toList.all (fun t => Tryd.prog.readableRec t && decide (t < Tryd.prog.types.size)) = true)
    (hfn : (s.fn H ds).results = [.lit (.bool true)] ∧ (s.fn H ds).args = ds ∧ (s.fn H ds).vars = []) :
    s.post enc Tryd.prog f apart fresh handsOn again W args (.bool true) W' := by
  have hW0 := hW
  have hlt : ∀ p ∈ before, p.block < W.heap.size := fun p hp => hW.lt p hp
  have hold : ∀ p ∈ before, (fun b => decide (b < W.heap.size)) p.block = true := fun p hp => by simpa using hlt p hp
  obtain ⟨p, q, hA, hV, rfl, hz, hn⟩ := hW
  rw [hvs] at hV
  obtain ⟨rfl, rfl⟩ := trodVars_none hV
  simp only [List.append_nil] at *
  have hk : ∀ t ∈ f.params.toList, Tryd.prog.readableRec t = true ∧ t < Tryd.prog.types.size := by
    intro t ht
    have := List.all_eq_true.1 hpar t ht
    simpa using this
  have hargs : ∀ sp : Nat → Bool, (∀ x ∈ p, sp x.block = true) → DataW.TrodAll enc Tryd.prog W' 0 sp true f.params.toList args.toList (s.fn H (ds ++ [])).args p := fun sp hsp => by
    rw [List.append_nil, hfn.2.1]; exact stay_all hb hk hA hlt hsp
  have hvars : ∀ sp : Nat → Bool, DataW.TrodVars enc Tryd.prog W' sp s.vars (s.fn H (ds ++ [])).vars [] := fun sp => by
    rw [hvs, List.append_nil, hfn.2.2]; exact rfl
  have hres : ∀ (b : Nat) (sp : Nat → Bool) (hd : Bool), DataW.TrodAll enc Tryd.prog W' b sp hd f.resultTypes.toList ((Value.bool true).resultList f.resultTypes.size) (s.fn H (ds ++ [])).results [] := fun b sp hd => by
    rw [List.append_nil, hfn.1, hr1]
    exact trodAll_cons_mk (shut_bool Tryd.underlying4 _) trodAll_mk0
  refine ⟨ds, [], p, [], p, [], hW0, hres _ _ _, hargs _ hold, hvars _, World.keptBut_mono (fun x hx => ⟨hx, Or.inr (by simpa using hx)⟩) (hb.frame (· ∈ p)), fun _ => ?_⟩
  refine ⟨ok_one hr1 rfl (okWide_bool_mk Tryd.underlying4 _), _, _, ([] ++ p) ++ [], ⟨[] ++ p, [], trodAll_append (hargs _ (fun _ _ => rfl)) (hres _ _ _), hvars (fun _ => true), rfl, ?_, ?_⟩, ?_⟩
  · intro b off hp
    have hin : MemPlace.cell b off ∈ p := by simpa using hp
    rw [hb.frozen (hlt _ hin)]
    exact hz b off hin
  · intro ha
    simpa using hn ha
  · intro x hx _
    simpa using hx
/-- a slice of structs of two cells: the readings of its elements -/
theorem open_pairs_c {W : World} {t e : TypeId} {f0 f1 : Field} {v : Value} {x : DataW H × List MemPlace} {fuel : Nat} (ht : Tryd.prog.underlying t = some (.slice e)) (he : Tryd.prog.underlying e = some (.struct #[f0, f1]))
    (ce : Tryd.prog.cellsOf e = 2) (o0 : f0.offset = 0) (o1 : f1.offset = 1) (c0 : Tryd.prog.cellsOf f0.type = 1) (c1 : Tryd.prog.cellsOf f1.type = 1)
    (h : DataW.trod enc Tryd.prog W 0 (fun _ => true) true fuel t [v] = some x) (hlt : ∀ y ∈ x.2, y.block < W.heap.size) :
    ∃ A n c V0 V1, v = .slice A n c ∧ n ≤ maxLen ∧ n ≤ c ∧ P2 W W.heap.size A n V0 V1 ∧ ∀ i, i < n → ∃ m x0 x1, DataW.trod enc Tryd.prog W 0 (fun _ => true) true m f0.type [V0 i] = some x0 ∧ DataW.trod enc Tryd.prog W 0 (fun _ => true) true m f1.type [V1 i] = some x1 ∧
      (∀ y ∈ x0.2, y.block < W.heap.size) ∧ (∀ y ∈ x1.2, y.block < W.heap.size) := by
  rcases Deep.open_slice_pairs ht he ce o0 o1 c0 c1 h with ⟨h1, -⟩ | ⟨a, len, cap, m, n, V0, V1, D0, D1, P0, P1, h1, hb, hl, hm, hmm, hx, hc⟩
  · injection h1 with h1
    subst h1
    exact ⟨none, 0, 0, fun _ => .nilIface, fun _ => .nilIface, rfl, by simp [maxLen], Nat.le_refl _, ER.nil _ _ _ _ _, fun i hi => absurd hi (by omega)⟩
  · injection h1 with h1
    subst h1
    simp only [if_true] at hmm
    subst hmm
    refine ⟨some a, len, m, V0, V1, rfl, by omega, hl, fun hn => ?_, fun i hi => ?_⟩
    · have h0 := (hc 0 (by omega)).1
      obtain ⟨b, off, spot⟩ := a
      have hsp : spot = none := by simpa [Addr.add] using World.cell?_spot h0
      subst hsp
      refine ⟨b, off, rfl, ?_, fun k i hk hi => ?_⟩
      · have hb1 := hlt (.cell b (off + 0)) (by
          rw [hx]
          exact List.mem_append_left _ (MemPlace.mem_row.2 ⟨0, by omega, rfl⟩))
        exact hb1
      · have hk2 := hc k (by omega)
        have q0 := hk2.1
        have q1 := hk2.2.1
        rw [add_lit'] at q0 q1
        rcases (by omega : i = 0 ∨ i = 1) with rfl | rfl
        · simpa using q0
        · simpa [Nat.add_assoc] using q1
    · have hi2 := hc i (by omega)
      refine ⟨n, _, _, hi2.2.2.1, hi2.2.2.2, fun y hy => hlt y ?_, fun y hy => hlt y ?_⟩
      · rw [hx]; exact List.mem_append_right _ (List.mem_flatMap.2 ⟨i, by simp; omega, List.mem_append_left _ hy⟩)
      · rw [hx]; exact List.mem_append_right _ (List.mem_flatMap.2 ⟨i, by simp; omega, List.mem_append_right _ hy⟩)
/-- a slice of ints -/
theorem open_ints_c {W : World} {t : TypeId} {v : Value} {x : DataW H × List MemPlace} {fuel : Nat} (ht : Tryd.prog.underlying t = some (.slice 3))
    (h : DataW.trod enc Tryd.prog W 0 (fun _ => true) true fuel t [v] = some x) (hlt : ∀ y ∈ x.2, y.block < W.heap.size) :
    ∃ A n c z, v = .slice A n c ∧ n ≤ maxLen ∧ n ≤ c ∧ IR W W.heap.size A n z ∧ ∀ i, i < n → -9223372036854775808 ≤ z i ∧ z i ≤ 9223372036854775807 := by
  rcases open_ints ht Tryd.underlying3 (by kernel_rfl) h with ⟨h1, -⟩ | ⟨a, len, cap, zs, h1, hb, hl, hm, hz, hx, hc, hwf⟩
  · injection h1 with h1
    subst h1
    exact ⟨none, 0, 0, fun _ => 0, rfl, by simp [maxLen], Nat.le_refl _, ER.nil _ _ _ _ _, fun i hi => absurd hi (by omega)⟩
  · injection h1 with h1
    subst h1
    simp only [if_true] at hz
    refine ⟨some a, len, cap, fun i => zs.getD i 0, rfl, by omega, hl, fun hn => ?_, fun i hi => ?_⟩
    · have h0 := hc 0 (by omega)
      obtain ⟨b, off, spot⟩ := a
      have hsp : spot = none := by simpa [Addr.add] using World.cell?_spot h0
      subst hsp
      refine ⟨b, off, rfl, ?_, fun k i hk hi => ?_⟩
      · have hb1 := hlt (.cell b (off + 0)) (by
          rw [hx]
          exact MemPlace.mem_row.2 ⟨0, by omega, rfl⟩)
        exact hb1
      · obtain rfl : i = 0 := by omega
        have := hc k (by omega)
        rw [add_lit'] at this
        simpa using this
    · have h1 : zs.getD i 0 ∈ zs := by
        rw [List.getD_eq_getElem?_getD, List.getElem?_eq_getElem (by omega)]
        exact List.getElem_mem _
      have := hwf _ h1
      simp only [Lit.wf, Bool.and_eq_true, decide_eq_true_eq] at this
      simpa [IntKind.min, IntKind.max, IntKind.signed, IntKind.bits] using this
theorem int_of_trod {W : World} {t : TypeId} {v : Value} {x : DataW H × List MemPlace} {fuel : Nat} (ht : Tryd.prog.underlying t = some (.int .i64)) (h : DataW.trod enc Tryd.prog W 0 (fun _ => true) true fuel t [v] = some x) :
    v = .int .i64 (intOf v) ∧ -9223372036854775808 ≤ intOf v ∧ intOf v ≤ 9223372036854775807 := by
  obtain ⟨z, hz, -, hw⟩ := DataW.trod_int ht h
  injection hz with hz
  subst hz
  simp only [Lit.wf, Bool.and_eq_true, decide_eq_true_eq] at hw
  exact ⟨rfl, by simpa [intOf, IntKind.min, IntKind.max, IntKind.signed, IntKind.bits] using hw⟩
theorem cells_slice {A : Option Addr} {n c : Nat} : (Value.slice A n c).cells.toList = [.slice A n c] := rfl
/-- a slice of structs of two ints -/
theorem open_pairs {r : Reach} {b0 : Nat} {W : World} {t e : TypeId} {f0 f1 : Field} {v : Value} {d : DataW H} {p : List MemPlace} (ht : Tryd.prog.underlying t = some (.slice e)) (he : Tryd.prog.underlying e = some (.struct #[f0, f1]))
    (ce : Tryd.prog.cellsOf e = 2) (o0 : f0.offset = 0) (o1 : f1.offset = 1) (c0 : Tryd.prog.cellsOf f0.type = 1) (c1 : Tryd.prog.cellsOf f1.type = 1)
    (k0 : Tryd.prog.underlying f0.type = some (.int .i64)) (k1 : Tryd.prog.underlying f1.type = some (.int .i64)) (hval : Value.okWide Tryd.prog W r b0 t v)
    (h : DataW.Trod enc Tryd.prog W 0 (fun _ => true) true t v d p) (hlt : ∀ x ∈ p, x.block < W.heap.size) :
    ∃ A n c x y, v = .slice A n c ∧ n ≤ maxLen ∧ n ≤ c ∧ PI W W.heap.size A n x y := by
  obtain ⟨fuel, h⟩ := h
  obtain ⟨A, n, c, rfl⟩ := okWide_slice ht hval
  rw [cells_slice] at h
  obtain ⟨A', n', c', V0, V1, h1, hn, hnc, hP, hV⟩ := open_pairs_c ht he ce o0 o1 c0 c1 h hlt
  injection h1 with h1 h2 h3
  subst h1 h2 h3
  refine ⟨A, n, c, fun i => intOf (V0 i), fun i => intOf (V1 i), rfl, hn, hnc, fun hn0 => ?_⟩
  obtain ⟨b, off, hA, hb, hc⟩ := hP hn0
  refine ⟨b, off, hA, hb, fun k i hk hi => ?_⟩
  obtain ⟨m, x0, x1, g0, g1, -, -⟩ := hV k hk
  rw [hc k i hk hi]
  rcases (by omega : i = 0 ∨ i = 1) with rfl | rfl
  · simpa using (int_of_trod k0 g0).1
  · simpa using (int_of_trod k1 g1).1
end
end Go.Proofs.YtmpegkojencbjaaDoor
/- School: a law's arguments opened: texts. -/
namespace Go.Proofs.YtmpegkojencbjaaDoor
open Go Go.RowKit Go.ChangeShapes Go.WideShapes Go.ChangeAt
section
variable {H : Type} {enc : TypeId × Value → H} {r : Reach} {b0 : Nat} {W : World} {v : Value} {d : DataW H} {p : List MemPlace}
set_option maxRecDepth 100000
theorem open_words (hval : Value.okWide Tryd.prog W r b0 22 v) (h : DataW.Trod enc Tryd.prog W 0 (fun _ => true) true 22 v d p) (hlt : ∀ x ∈ p, x.block < W.heap.size) :
    ∃ (A : Option Addr) (c : Nat) (l : List Wd), v = .slice A l.length c ∧ SzOk l ∧ SR W W.heap.size A l := by
  obtain ⟨fuel, h⟩ := h
  obtain ⟨A, n, c, rfl⟩ := okWide_slice Tryd.underlying22 hval
  rw [cells_slice] at h
  rcases open_strings Tryd.underlying22 Tryd.underlying9 (by kernel_rfl) h with ⟨h1, -⟩ | ⟨a, len, cap, ss, h1, -, hl, hm, hz, hx, hc, hsz⟩
  · injection h1 with h1
    injection h1 with h1 h2 h3
    subst h1 h2 h3
    exact ⟨none, 0, [], rfl, ⟨Nat.zero_le _, fun x hx => absurd hx (by simp)⟩, ER.nil _ _ _ _ _⟩
  · injection h1 with h1
    injection h1 with h1 h2 h3
    subst h1 h2 h3
    simp only [if_true] at hz
    have hlen : (ss.take n).length = n := by rw [List.length_take]; omega
    refine ⟨some a, c, ss.take n, by rw [hlen], ⟨by omega, fun x hx => hsz x (List.mem_of_mem_take hx)⟩, ?_⟩
    unfold SR
    rw [hlen]
    refine fun hn => ?_
    have h0 := hc 0 (by omega)
    obtain ⟨b, off, spot⟩ := a
    have hsp : spot = none := by simpa [Addr.add] using World.cell?_spot h0
    subst hsp
    refine ⟨b, off, rfl, ?_, fun k i hk hi => ?_⟩
    · have hb1 := hlt (.cell b (off + 0)) (by
        rw [(Prod.mk.inj hx).2]
        exact MemPlace.mem_row.2 ⟨0, by omega, rfl⟩)
      exact hb1
    · obtain rfl : i = 0 := by omega
      have h2 := hc k (by omega)
      rw [add_lit'] at h2
      have h3 : (ss.take n).getD k noW = ss.getD k ByteArray.empty := by
        simp [List.getD_eq_getElem?_getD, List.getElem?_take, hk, noW]
        rfl
      show W.cell? ⟨b, off + k * 1 + 0, none⟩ = some (.string ((ss.take n).getD k noW))
      rw [h3]
      simpa using h2
end
end Go.Proofs.YtmpegkojencbjaaDoor
/- School: a law's arguments opened: lists of ints. -/
namespace Go.Proofs.YtmpegkojencbjaaDoor
open Go Go.RowKit Go.ChangeShapes Go.WideShapes Go.ChangeAt
section
variable {H : Type} {enc : TypeId × Value → H} {r : Reach} {b0 : Nat} {W : World} {v : Value} {d : DataW H} {p : List MemPlace}
set_option maxRecDepth 100000
theorem open_ints_l (hval : Value.okWide Tryd.prog W r b0 36 v) (h : DataW.Trod enc Tryd.prog W 0 (fun _ => true) true 36 v d p) (hlt : ∀ x ∈ p, x.block < W.heap.size) :
    ∃ (A : Option Addr) (c : Nat) (l : List Int), v = .slice A l.length c ∧ l.length ≤ maxLen ∧ LI W W.heap.size A l := by
  obtain ⟨fuel, h⟩ := h
  obtain ⟨A, n, c, rfl⟩ := okWide_slice Tryd.underlying36 hval
  rw [cells_slice] at h
  obtain ⟨A', n', c', z, h1, h2, -, h3, -⟩ := open_ints_c Tryd.underlying36 h hlt
  injection h1 with h1 h4 h5
  subst h1 h4 h5
  have hl : ((List.range n).map z).length = n := by simp
  refine ⟨A, c, (List.range n).map z, by rw [hl], by rw [hl]; exact h2, ?_⟩
  unfold LI
  rw [hl]
  refine fun hn => ?_
  obtain ⟨b, off, hA, hb, hc⟩ := h3 hn
  refine ⟨b, off, hA, hb, fun k i hk hi => ?_⟩
  rw [hc k i hk hi]
  have e : ((List.range n).map z).getD k 0 = z k := by
    rw [List.getD_eq_getElem?_getD, List.getElem?_map, List.getElem?_range hk]; rfl
  show some (Value.int .i64 (z k)) = some (Value.int .i64 (((List.range n).map z).getD k 0))
  rw [e]
end
end Go.Proofs.YtmpegkojencbjaaDoor
/- School: a law's arguments opened: schools. -/
namespace Go.Proofs.YtmpegkojencbjaaDoor
open Go Go.RowKit Go.ChangeShapes Go.WideShapes Go.ChangeAt
section
variable {H : Type} {enc : TypeId × Value → H} {r : Reach} {b0 : Nat} {W : World} {v : Value} {d : DataW H} {p : List MemPlace}
set_option maxRecDepth 100000
/-- a slice of structs of one-cell fields -/
theorem open_cellsR {t e : TypeId} {fs : Array Field} {x : DataW H × List MemPlace} {fuel : Nat} (ht : Tryd.prog.underlying t = some (.slice e)) (he : Tryd.prog.underlying e = some (.struct fs)) (hone : Deep.oneCellFields Tryd.prog fs = true)
    (ce : Tryd.prog.cellsOf e = fs.size) (hpos : 0 < fs.size) (h : DataW.trod enc Tryd.prog W 0 (fun _ => true) true fuel t [v] = some x) (hlt : ∀ y ∈ x.2, y.block < W.heap.size) :
    ∃ A n c V, v = .slice A n c ∧ n ≤ maxLen ∧ n ≤ c ∧ ER W W.heap.size fs.size A n V ∧ ∀ i k f, i < n → fs[k]? = some f → ∃ m y, DataW.trod enc Tryd.prog W 0 (fun _ => true) true m f.type [V i k] = some y ∧ (∀ z ∈ y.2, z.block < W.heap.size) := by
  rcases Deep.open_slice ht h with ⟨h1, -⟩ | ⟨a, len, cap, m, n, D, Pl, h1, hb, hl, hm, hmm, hx, hc⟩
  · injection h1 with h1
    subst h1
    exact ⟨none, 0, 0, fun _ _ => .nilIface, rfl, by simp [maxLen], Nat.le_refl _, ER.nil _ _ _ _ _, fun i k f hi => absurd hi (by omega)⟩
  · injection h1 with h1
    subst h1
    simp only [if_true] at hmm
    subst hmm
    rw [ce] at hc hx
    obtain ⟨C, hC⟩ := Deep.choose_lt hc
    refine ⟨some a, len, m, fun i k => (C i).getD k undef, rfl, by omega, hl, fun hn => ?_, fun i k f hi hf => ?_⟩
    · obtain ⟨-, hl0, hc0⟩ := World.cells?_some (hC 0 (by omega)).1
      have h0 := hc0 0 hpos
      rw [List.getElem?_eq_getElem (by omega)] at h0
      obtain ⟨b, off, spot⟩ := a
      have hsp : spot = none := by simpa [Addr.add] using World.cell?_spot h0
      subst hsp
      refine ⟨b, off, rfl, ?_, fun k i hk hi => ?_⟩
      · have hb1 := hlt (.cell b (off + 0)) (by
          rw [hx]
          exact List.mem_append_left _ (MemPlace.mem_row.2 ⟨0, Nat.mul_pos (by omega) hpos, rfl⟩))
        exact hb1
      · obtain ⟨-, hl1, hc1⟩ := World.cells?_some (hC k (by omega)).1
        have h2 := hc1 i hi
        rw [Deep.add_add, add_lit', List.getElem?_eq_getElem (by omega)] at h2
        rw [show off + k * fs.size + i = off + (k * fs.size + i) by omega, h2]
        simp [List.getD, List.getElem?_eq_getElem (show i < (C k).length by omega)]
    · obtain ⟨-, hl1, -⟩ := World.cells?_some (hC i (by omega)).1
      obtain ⟨xs, m', -, hxy, -, hxl, hf2⟩ := DataW.trod_struct he (hC i (by omega)).2
      have hk : k < fs.size := (Array.getElem?_eq_some_iff.1 hf).1
      obtain ⟨ho, hc1⟩ := Deep.hone_of hone k f hf
      have g := hf2 k f hf
      rw [ho, hc1, Deep.take1_drop (C i) k undef (by omega), List.getElem?_eq_getElem (by omega)] at g
      refine ⟨m', _, g, fun z hz => hlt z ?_⟩
      rw [hx]
      simp only [Prod.mk.injEq] at hxy
      refine List.mem_append_right _ (List.mem_flatMap.2 ⟨i, by simp; omega, ?_⟩)
      rw [hxy.2]
      exact List.mem_flatMap.2 ⟨_, List.getElem_mem _, hz⟩
theorem arr3R {cs : Array Value} (h : cs.size = 3) : ∃ a b c, cs = #[a, b, c] := by
  rcases cs with ⟨l⟩
  match l, h with
  | [a, b, c], _ => exact ⟨a, b, c, rfl⟩
/-- a list of tests -/
theorem open_tests {x : DataW H × List MemPlace} {fuel : Nat} (h : DataW.trod enc Tryd.prog W 0 (fun _ => true) true fuel 71 [v] = some x) (hlt : ∀ y ∈ x.2, y.block < W.heap.size) :
    ∃ (A : Option Addr) (c : Nat) (l : List (Int × Int)), v = .slice A l.length c ∧ l.length ≤ maxLen ∧ TsR W W.heap.size A l ∧ ∀ t ∈ l, -9223372036854775808 ≤ t.2 ∧ t.2 ≤ 9223372036854775807 := by
  obtain ⟨A, n, c, V, rfl, hn, hnc, hE, hV⟩ := open_cellsR Tryd.underlying71 Tryd.underlying76 (by kernel_rfl) (by kernel_rfl) (by decide) h hlt
  have k0 : ∀ k, k < n → V k 0 = .int .i64 (intOf (V k 0)) := fun k hk => by
    obtain ⟨m, y, g, -⟩ := hV k 0 _ hk rfl
    exact (int_of_trod Tryd.underlying3 g).1
  have k1 : ∀ k, k < n → V k 1 = .int .i64 (intOf (V k 1)) ∧ -9223372036854775808 ≤ intOf (V k 1) ∧ intOf (V k 1) ≤ 9223372036854775807 := fun k hk => by
    obtain ⟨m, y, g, -⟩ := hV k 1 _ hk rfl
    exact int_of_trod Tryd.underlying3 g
  obtain ⟨f, hf⟩ : ∃ f : Nat → Int × Int, f = fun k => (intOf (V k 0), intOf (V k 1)) := ⟨_, rfl⟩
  have hl : ((List.range n).map f).length = n := by simp
  have hg : ∀ k, k < n → ((List.range n).map f).getD k (0, 0) = f k := fun k hk => by
    rw [List.getD_eq_getElem?_getD, List.getElem?_map, List.getElem?_range hk]; rfl
  refine ⟨A, c, (List.range n).map f, by rw [hl], by rw [hl]; exact hn, ?_, fun t ht => by
    obtain ⟨k, hk, rfl⟩ := List.mem_map.1 ht
    rw [hf]
    exact (k1 k (List.mem_range.1 hk)).2⟩
  unfold TsR
  rw [hl]
  refine fun hn0 => ?_
  obtain ⟨b, off, hA, hb, hc⟩ := hE hn0
  refine ⟨b, off, hA, hb, fun k i hk hi => ?_⟩
  refine (hc k i hk hi).trans ?_
  show _ = some (tsV (((List.range n).map f).getD k (0, 0)) i)
  rw [hg k hk, hf]
  rcases (by omega : i = 0 ∨ i = 1) with rfl | rfl
  · rw [k0 k hk]; rfl
  · rw [(k1 k hk).1]; rfl
/-- a list of rules -/
theorem open_rules {x : DataW H × List MemPlace} {fuel : Nat} (h : DataW.trod enc Tryd.prog W 0 (fun _ => true) true fuel 45 [v] = some x) (hlt : ∀ y ∈ x.2, y.block < W.heap.size) :
    ∃ (A : Option Addr) (c : Nat) (rs : List Rl) (ta : Nat → Option Addr) (tc : Nat → Nat), v = .slice A rs.length c ∧ rs.length ≤ maxLen ∧ (∀ r ∈ rs, r.when_.length ≤ maxLen) ∧ RsR W W.heap.size A ta tc rs ∧ ∀ r ∈ rs, ∀ t ∈ r.when_, -9223372036854775808 ≤ t.2 ∧ t.2 ≤ 9223372036854775807 := by
  obtain ⟨A, n, c, V, rfl, hn, hnc, hE, hV⟩ := open_cellsR Tryd.underlying45 Tryd.underlying73 (by kernel_rfl) (by kernel_rfl) (by decide) h hlt
  have key : ∀ i, i < n → ∃ q : Option Addr × Nat × List (Int × Int), V i 0 = .slice q.1 q.2.2.length q.2.1 ∧ q.2.2.length ≤ maxLen ∧ TsR W W.heap.size q.1 q.2.2 ∧ V i 1 = .int .i64 (intOf (V i 1)) ∧ V i 2 = .int .i64 (intOf (V i 2)) ∧ ∀ t ∈ q.2.2, -9223372036854775808 ≤ t.2 ∧ t.2 ≤ 9223372036854775807 := fun i hi => by
    obtain ⟨m0, y0, g0, l0⟩ := hV i 0 _ hi rfl
    obtain ⟨m1, y1, g1, l1⟩ := hV i 1 _ hi rfl
    obtain ⟨m2, y2, g2, l2⟩ := hV i 2 _ hi rfl
    obtain ⟨A0, c0, t0, e0, h0, r0, z0⟩ := open_tests g0 l0
    exact ⟨(A0, c0, t0), e0, h0, r0, (int_of_trod Tryd.underlying3 g1).1, (int_of_trod Tryd.underlying3 g2).1, z0⟩
  obtain ⟨q, hq⟩ := Deep.choose_lt key
  obtain ⟨f, hf⟩ : ∃ f : Nat → Rl, f = fun k => ⟨(q k).2.2, intOf (V k 1), intOf (V k 2)⟩ := ⟨_, rfl⟩
  have hl : ((List.range n).map f).length = n := by simp
  have hg : ∀ k, k < n → ((List.range n).map f).getD k r0 = f k := fun k hk => by
    rw [List.getD_eq_getElem?_getD, List.getElem?_map, List.getElem?_range hk]; rfl
  refine ⟨A, c, (List.range n).map f, fun k => (q k).1, fun k => (q k).2.1, by rw [hl], by rw [hl]; exact hn, fun r hr => ?_, ⟨?_, fun k hk => ?_⟩, fun r hr => by
    obtain ⟨k, hk, rfl⟩ := List.mem_map.1 hr
    rw [hf]
    exact (hq k (List.mem_range.1 hk)).2.2.2.2.2⟩
  · obtain ⟨k, hk, rfl⟩ := List.mem_map.1 hr
    rw [hf]
    exact (hq k (List.mem_range.1 hk)).2.1
  · rw [hl]
    refine fun hn0 => ?_
    obtain ⟨b, off, hA, hb, hc⟩ := hE hn0
    refine ⟨b, off, hA, hb, fun k i hk hi => ?_⟩
    refine (hc k i hk hi).trans ?_
    show _ = some (rlV (((List.range n).map f).getD k r0) (q k).1 (q k).2.1 i)
    rw [hg k hk, hf]
    obtain ⟨e0, -, -, e1, e2, -⟩ := hq k hk
    rcases (by omega : i = 0 ∨ i = 1 ∨ i = 2) with rfl | rfl | rfl
    · rw [e0]; rfl
    · rw [e1]; rfl
    · rw [e2]; rfl
  · rw [hl] at hk
    rw [hg k hk, hf]
    exact (hq k hk).2.2.1
/-- a school -/
theorem open_school (hval : Value.okWide Tryd.prog W r b0 47 v) (h : DataW.Trod enc Tryd.prog W 0 (fun _ => true) true 47 v d p) (hlt : ∀ x ∈ p, x.block < W.heap.size) :
    ∃ (dd : Ad_) (s : Sch), v = scV dd s ∧ ScZ s ∧ ScR W W.heap.size dd s ∧ ∀ r ∈ s.rs, ∀ t ∈ r.when_, -9223372036854775808 ≤ t.2 ∧ t.2 ≤ 9223372036854775807 := by
  obtain ⟨cs, rfl, hsz⟩ := okWide_struct Tryd.underlying47 hval
  obtain ⟨a, b, c, rfl⟩ := arr3R (hsz.trans (by kernel_rfl))
  obtain ⟨fuel, h⟩ := h
  have h' : DataW.trod enc Tryd.prog W 0 (fun _ => true) true fuel 47 [a, b, c] = some (d, p) := h
  obtain ⟨xs, m, -, hxy, -, hxl, hf⟩ := DataW.trod_struct Tryd.underlying47 h'
  have g0 := hf 0 _ rfl
  have g1 := hf 1 _ rfl
  have g2 := hf 2 _ rfl
  rw [List.getElem?_eq_getElem (by rw [hxl]; decide)] at g0 g1 g2
  have k0 : DataW.trod enc Tryd.prog W 0 (fun _ => true) true m 36 [a] = _ := g0
  have k1 : DataW.trod enc Tryd.prog W 0 (fun _ => true) true m 3 [b] = _ := g1
  have k2 : DataW.trod enc Tryd.prog W 0 (fun _ => true) true m 45 [c] = _ := g2
  have e1 := (int_of_trod Tryd.underlying3 k1).1
  simp only [Prod.mk.injEq] at hxy
  obtain ⟨A0, n0, c0, z, e0, l0, -, r0', -⟩ := open_ints_c Tryd.underlying36 k0 (fun y hy => hlt y (by
    rw [hxy.2]
    exact List.mem_flatMap.2 ⟨_, List.getElem_mem _, hy⟩))
  obtain ⟨A2, c2, rs, ta, tc, e2, l2, l3, r2, rz⟩ := open_rules k2 (fun y hy => hlt y (by
    rw [hxy.2]
    exact List.mem_flatMap.2 ⟨_, List.getElem_mem _, hy⟩))
  have hl : ((List.range n0).map z).length = n0 := by simp
  refine ⟨⟨A0, c0, A2, c2, ta, tc⟩, ⟨(List.range n0).map z, intOf b, rs⟩, ?_, ⟨by rw [hl]; exact l0, l2, l3⟩, ⟨?_, r2⟩, rz⟩
  · unfold scV
    dsimp only
    rw [hl, ← e0, ← e2, ← e1]
  · unfold LI
    rw [hl]
    refine fun hn => ?_
    obtain ⟨b', off, hA, hb, hc⟩ := r0' hn
    refine ⟨b', off, hA, hb, fun k i hk hi => ?_⟩
    rw [hc k i hk hi]
    have e : ((List.range n0).map z).getD k 0 = z k := by
      rw [List.getD_eq_getElem?_getD, List.getElem?_map, List.getElem?_range hk]; rfl
    show some (Value.int .i64 (z k)) = some (Value.int .i64 (((List.range n0).map z).getD k 0))
    rw [e]
end
end Go.Proofs.YtmpegkojencbjaaDoor
/- School: a law's arguments opened: arrays of three numbers. -/
namespace Go.Proofs.YtmpegkojencbjaaDoor
open Go Go.RowKit Go.ChangeShapes Go.WideShapes Go.ChangeAt
section
variable {H : Type} {enc : TypeId × Value → H} {r : Reach} {b0 : Nat} {W : World} {v : Value} {d : DataW H} {p : List MemPlace}
set_option maxRecDepth 100000
theorem open_int3 (hval : Value.okWide Tryd.prog W r b0 61 v) (h : DataW.Trod enc Tryd.prog W 0 (fun _ => true) true 61 v d p) :
    ∃ a b c, v = .agg #[.int .i64 a, .int .i64 b, .int .i64 c] := by
  have key : ∃ cs, v = .agg cs ∧ cs.size = Tryd.prog.cellsOf 61 := by
    have ht := Tryd.underlying61
    unfold Value.okWide at hval
    cases v <;> simp_all
  obtain ⟨cs, rfl, hsz⟩ := key
  obtain ⟨c0, c1, c2, rfl⟩ := arr3R (hsz.trans (by kernel_rfl))
  obtain ⟨fuel, h⟩ := h
  obtain ⟨xs, m, -, -, -, hl, hx⟩ := DataW.trod_array Tryd.underlying61 h
  have ce : Tryd.prog.cellsOf 3 = 1 := by kernel_rfl
  rw [ce] at hx
  have y0 := hx 0 (by omega)
  have y1 := hx 1 (by omega)
  have y2 := hx 2 (by omega)
  rw [List.getElem?_eq_getElem (by omega)] at y0 y1 y2
  have k0 := (int_of_trod Tryd.underlying3 (show DataW.trod enc Tryd.prog W 0 (fun _ => true) true m 3 [c0] = _ from y0)).1
  have k1 := (int_of_trod Tryd.underlying3 (show DataW.trod enc Tryd.prog W 0 (fun _ => true) true m 3 [c1] = _ from y1)).1
  have k2 := (int_of_trod Tryd.underlying3 (show DataW.trod enc Tryd.prog W 0 (fun _ => true) true m 3 [c2] = _ from y2)).1
  exact ⟨intOf c0, intOf c1, intOf c2, by rw [← k0, ← k1, ← k2]⟩
end
end Go.Proofs.YtmpegkojencbjaaDoor
namespace Go.Proofs.YtmpegkojencbjaaDoor.schoolDecides
open Go Go.ChangeShapes Go.WideShapes Go.ChangeAt Go.RowKit
set_option maxRecDepth 100000 in
theorem lifted (os : Os) (started : os.Started) (H : Type) (enc : TypeId × Value → H) :
    ReturnsInHanded {} Tryd.checked os 9 .any (fun w args => (Rows.schoolDecidesSpec.pre enc Tryd.prog Tryd.f9 Rows.schoolDecidesRow.domain false w args ∧ laidMetH Tryd.prog Rows.schoolDecidesRow.laid w) ∧ sizedMet enc Tryd.prog Tryd.f9 (OpenSpec.ofChange Rows.schoolDecidesSpec) false w args)
      (Rows.schoolDecidesSpec.post enc Tryd.prog Tryd.f9 false true false false) := by
  refine returnsInHanded_of_change_and (C := Tryd.checked) (X := fun w _ => laidMetH Tryd.prog Rows.schoolDecidesRow.laid w) (fun _ _ _ hh h => h.of_heap hh) own_knob started (by kernel_rfl) Tryd.func9
    (ChangeSpec.witness_shaped (enc := enc) (C := Tryd.checked) (os := os) (X := fun w _ => laidMetH Tryd.prog Rows.schoolDecidesRow.laid w) false (World.laidAll Tryd.prog os Rows.schoolDecidesRow.laid) #[.agg #[.slice none 0 0, .int .i64 0, .slice none 0 0], .slice none 0 0, .agg #[.int .i64 0, .int .i64 0, .int .i64 0]] 8 (World.laidAll_os _ _ _)
      (World.shaped_of_ZipB (by kernel_rfl) (by kernel_rfl)) (by kernel_rfl) (by kernel_rfl) (by kernel_rfl)
      (by rw [MakeChecks.laidMetH_plain _ _ _ (by kernel_rfl)]; exact laidMet_laidAll _ (by kernel_rfl) (by kernel_rfl))) ?_
  intro W base args ds gs before hval0 hW _ _ hL _
  have hval : ∀ (j : Nat) t v, Tryd.f9.params[j]? = some t → args[j]? = some v → Value.okWide Tryd.prog W .any base t v := hval0
  have hW' := hW
  have hlt : ∀ p ∈ before, p.block < W.heap.size := fun p hp => hW.lt p hp
  obtain ⟨p, q, hA0, hV, rfl, hfz, hnd⟩ := hW
  have hA : DataW.TrodAll enc Tryd.prog W 0 (fun _ => true) true Tryd.f9.params.toList args.toList ds p := hA0
  rw [Tryd.params9] at hA hval
  obtain ⟨v0, vs0, d0, ds0, p0, q0, hargs, rfl, rfl, h0, r0⟩ := trodAll_cons hA
  obtain ⟨v1, vs1, d1, ds1, p1, q1, rfl, rfl, rfl, h1, r1⟩ := trodAll_cons r0
  obtain ⟨v2, vs2, d2, ds2, p2, q2, rfl, rfl, rfl, h2, r2⟩ := trodAll_cons r1
  obtain ⟨rfl, rfl, rfl⟩ := trodAll_nil r2
  obtain rfl : args = #[v0, v1, v2] := by cases args; simp_all
  obtain ⟨rfl, rfl⟩ := trodVars_none hV
  have k0 := hval 0 47 v0 rfl rfl
  have k1 := hval 1 36 v1 rfl rfl
  have k2 := hval 2 61 v2 rfl rfl
  obtain ⟨e0, l0, rfl, z0, s0, i0⟩ := open_school k0 h0 (fun x hx => hlt x (by simp [hx]))
  obtain ⟨A1, c1, l1, rfl, z1, s1⟩ := open_ints_l k1 h1 (fun x hx => hlt x (by simp [hx]))
  obtain ⟨a2, b2, c2, rfl⟩ := open_int3 k2 h2
  clear hA0 hval0
  refine (decides_any e0 l0 A1 c1 l1 a2 b2 c2 W z0 i0 z1 s0 s1).mono fun e W' ⟨he, hb⟩ => ?_
  subst he
  exact ⟨_, rfl, law_post hW' hb rfl rfl (by kernel_rfl) ⟨rfl, rfl, rfl⟩⟩
theorem over : Rows.schoolDecidesRow.holds Tryd.pinned (OpenSpec.ofChange Rows.schoolDecidesSpec) :=
  OpenClaim.holds_of_wide 9 Tryd.f9 rfl rfl rfl rfl rfl rfl rfl ⟨rfl, rfl, rfl, rfl, rfl⟩ rfl rfl rfl rfl rfl (by kernel_rfl) Tryd.func9 (by kernel_rfl)
    (of_decide_eq_true (by kernel_rfl)) (by unfold Func.isWrapper; first | (rw [if_pos (by decide +kernel)]; kernel_rfl) | (rw [if_neg (by decide +kernel)]; exact ⟨rfl, rfl⟩))
    (fun os started H enc _ => lifted os started H enc)
theorem proved : Rows.SchoolDecidesCardSaid :=
  Claim7.holds_tied_plain_at .later [] [.data, .pinned] true (true, "de0e8bac062d770159938a4787e32507ef436192cdeecd4cdeadb3815a38d22b") false over (fun _ h => by cases h) (by kernel_rfl) (fun _ h => by cases h) schoolDecides_row_tie rfl ⟨rfl, rfl⟩ (by kernel_rfl) rfl
    (fun f fn hf hfn => by
      obtain rfl : f = 9 := Option.some.inj ((show Tryd.prog.funcNamed "chiti/chitilaw11.SchoolDecides" = some 9 by kernel_rfl).symm.trans hf) |>.symm
      obtain rfl : fn = Tryd.f9 := (Option.some.inj (Tryd.func9.symm.trans hfn)).symm
      exact ⟨by kernel_rfl, fun j t ht => by
        rw [Tryd.params9] at ht
        have hm : t ∈ ([47, 36, 61] : List TypeId) := by simpa using Array.mem_of_getElem? ht
        have hall : (([47, 36, 61] : List TypeId).all fun u => !Tryd.prog.wantsStandIn u) = true := by kernel_rfl
        exact (show Tryd.prog.wantsStandIn t = false by simpa using List.all_eq_true.1 hall t hm)⟩)
    (by kernel_rfl)
#print axioms proved
end Go.Proofs.YtmpegkojencbjaaDoor.schoolDecides
