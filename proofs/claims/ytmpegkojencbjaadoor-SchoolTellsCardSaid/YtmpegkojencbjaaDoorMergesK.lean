/- School: the reference's School: whether a school is valid. -/
import Derived.Test.YtmpegkojencbjaaDoorMergesJ
import Derived.Deep.CutBlock
import Derived.Deep.DeepCutAuto
import Derived.IntWalk
import Derived.Deep.QuietTactic
import Derived.BigQuiet
import Derived.Test.YtmpegkojencbjaaDoorRows
import Derived.ProofKit
import Derived.OpenShut
import Derived.Carry
import Derived.ChangeSame
import Derived.Deep.SlicePairs
import Derived.ChangeSlices
set_option linter.unusedSimpArgs false
set_option linter.unusedVariables false
set_option linter.unnecessarySimpa false
namespace Go.Proofs.YtmpegkojencbjaaDoor
open List renaming getElem_toArray → glA, getElem_cons_zero → glB, getElem_cons_succ → glC, setIfInBounds_toArray → glD, set_cons_zero → glE, set_cons_succ → glF
open Go Go.RowKit Go.Shelf
set_option maxHeartbeats 8000000
set_option maxRecDepth 100000
theorem tst_out {nf : Nat} {ev : Nat → Nat} {t : Int × Int} (h : ¬ (0 ≤ t.1 ∧ t.1 < (nf : Int))) : tstB nf ev t = false := by
  unfold tstB
  rw [decide_eq_false (by omega)]; rfl
theorem tst_val {fs : List Int} {F : Nat} (hF : F < fs.length) {n : Nat} (hn : fs.getD F 0 = (n : Int)) (hn4 : n ≤ 4) {ch : Int} (hc : -9223372036854775808 ≤ ch ∧ ch ≤ 9223372036854775807) : tstB fs.length (evF fs) ((F : Int), ch) = decide (0 ≤ ch ∧ ch < (2 ^ n : Nat)) := by
  unfold tstB
  have e : evF fs ((F : Int)).toNat = 2 ^ n - 1 := by
    rw [Int.toNat_natCast]
    unfold evF
    rw [if_pos hF, hn, Int.toNat_natCast]
  dsimp only
  rw [e, decide_eq_true (by omega), Bool.true_and, Bool.eq_iff_iff, beq_iff_eq, tst_iff hn4 hc, decide_eq_true_iff]
  have hpi : ((2 : Int) ^ n) = ((2 ^ n : Nat) : Int) := by push_cast; rfl
  rw [hpi]
theorem sch_no1 {s : Sch} (h : ¬ (1 ≤ s.fs.length ∧ s.fs.length ≤ 5 ∧ 1 ≤ s.q ∧ s.q ≤ 4 ∧ s.rs.length ≤ 12)) : schB s = false := by
  cases h1 : schB s with
  | false => rfl
  | true =>
    have h2 := schB_ok h1
    exact absurd ⟨h2.nf1, h2.nf5, h2.q1, h2.q4, h2.nr⟩ h
theorem sch_no2 {s : Sch} (h : fsB s.fs = false) : schB s = false := by
  cases h1 : schB s with
  | false => rfl
  | true => rw [(schB_ok h1).fs] at h; cases h
theorem sch_no3 {s : Sch} {k : Nat} (hk : k < s.rs.length) {r : Rl} (hr : s.rs.getD k r0 = r) (h : rlB s.fs.length s.q (evF s.fs) r = false) : schB s = false := by
  cases h1 : schB s with
  | false => rfl
  | true => rw [rule_ok h1 (by rw [← hr]; exact mem_at hk)] at h; cases h
theorem sch_yes {s : Sch} (h : 1 ≤ s.fs.length ∧ s.fs.length ≤ 5 ∧ 1 ≤ s.q ∧ s.q ≤ 4 ∧ s.rs.length ≤ 12) (h2 : fsB s.fs = true) (h3 : s.rs.all (rlB s.fs.length s.q (evF s.fs)) = true) : schB s = true := by
  unfold schB
  rw [decide_eq_true ⟨h.1, h.2.1⟩, decide_eq_true ⟨h.2.2.1, h.2.2.2.1⟩, decide_eq_true h.2.2.2.2, h2, h3]; rfl
theorem rl_val {nf : Nat} {q : Int} {ev : Nat → Nat} {r : Rl} : rlB nf q ev r = (decide (¬ (5 < (r.when_.length : Int) ∨ r.ask < 0 ∨ q ≤ r.ask ∨ r.say < 0 ∨ 999 < r.say)) && r.when_.all (tstB nf ev)) := by
  unfold rlB
  rw [← Bool.and_assoc, ← Bool.and_assoc, ← Bool.decide_and, ← Bool.decide_and]
  congr 1
  rw [Bool.eq_iff_iff, decide_eq_true_iff, decide_eq_true_iff]
  omega
theorem tab_at (w : World) {n : Nat} (h : 1 ≤ n ∧ n ≤ 4) : (w.alloc (.cells #[.int .i64 1, .int .i64 2, .int .i64 4, .int .i64 8, .int .i64 16] 3)).cell? ⟨w.heap.size, n, none⟩ = some (.int .i64 ((2 ^ n : Nat) : Int)) := by
  rw [(Blk.new w 3 #[.int .i64 1, .int .i64 2, .int .i64 4, .int .i64 8, .int .i64 16]).cell]
  rcases (by omega : n = 1 ∨ n = 2 ∨ n = 3 ∨ n = 4) with rfl | rfl | rfl | rfl <;> rfl
theorem refSchool_any (d : Ad_) (s : Sch) (w : World) (hd : ScR w w.heap.size d s) (hz : ScZ s) (hi : ScI s) :
    Calls Tryd.prog 33 #[scV d s] w fun e w' => e = .returned (.bool (schB s)) ∧ Below w.heap.size w w' := by
  have hz1 := hz.nf
  have hz2 := hz.nr
  unfold maxLen at hz1 hz2
  have HD := hide hd
  have HZ := hide hz
  have HI := hide hi
  obtain ⟨nf, hf⟩ : ∃ n, s.fs.length = n := ⟨_, rfl⟩
  obtain ⟨nr, hr⟩ : ∃ n, s.rs.length = n := ⟨_, rfl⟩
  obtain ⟨Q, hQ⟩ : ∃ n, s.q = n := ⟨_, rfl⟩
  obtain ⟨fa, hfa⟩ : ∃ x, d.fa = x := ⟨_, rfl⟩
  have HN := hide (And.intro hf (And.intro hr hQ))
  unfold scV
  rw [hf, hr, hQ, hfa]
  have HFA := hide hd.fs
  rw [hfa] at HFA
  rw [hf] at hz1
  rw [hr] at hz2
  have HB0 := hide ((Below.refl w.heap.size w).alloc (Nat.le_refl _) (.cells #[.slice fa nf d.fc, .int .i64 Q, .slice d.ra nr d.rc] 47))
  have G1 := Blk.new w 47 #[.slice fa nf d.fc, .int .i64 Q, .slice d.ra nr d.rc]
  clear hd hz hf hr hQ hi hfa
  go_enter Tryd.func33, Tryd.ntmps33
  go_upto_region 1 with fail
  generalize (w.alloc (.cells #[.slice fa nf d.fc, .int .i64 Q, .slice d.ra nr d.rc] 47)) = w1 at HB0 G1 ⊢
  generalize w.heap.size = G at G1 ⊢
  have HG1 := hide G1
  obtain ⟨g9, g0, g1', g2, -⟩ := blk3 G1
  clear G1
  obtain ⟨g1, hg1⟩ : ∃ b, decide ((nf : Int) < 1 ∨ (5 : Int) < nf ∨ Q < 1 ∨ 4 < Q ∨ (12 : Int) < nr) = b := ⟨_, rfl⟩
  have HGV := hide hg1
  clear hg1
  go_cut [33] (fun v w' => v = .bool g1 ∧ w' = w1)
  case first =>
    -- BEGIN1
    by_cases q1 : (nf : Int) < 1
    · have hb : g1 = true := by rw [← HGV.out]; simp; omega
      subst hb
      go_wp2_with fail
      go_meet
      exact ⟨rfl, rfl⟩
    · by_cases q2 : (5 : Int) < nf
      · have hb : g1 = true := by rw [← HGV.out]; simp; omega
        subst hb
        go_wp2_with fail
        go_meet
        exact ⟨rfl, rfl⟩
      · by_cases q3 : Q < 1
        · have hb : g1 = true := by rw [← HGV.out]; simp; omega
          subst hb
          go_wp2_with fail
          go_meet
          exact ⟨rfl, rfl⟩
        · by_cases q4 : 4 < Q
          · have hb : g1 = true := by rw [← HGV.out]; simp; omega
            subst hb
            go_wp2_with fail
            go_meet
            exact ⟨rfl, rfl⟩
          · by_cases q5 : (12 : Int) < nr
            · have hb : g1 = true := by rw [← HGV.out]; simp; omega
              subst hb
              go_wp2_with fail
              go_meet
              exact ⟨rfl, rfl⟩
            · have hb : g1 = false := by rw [← HGV.out]; simp; omega
              subst hb
              go_wp2_with fail
              go_meet
              exact ⟨rfl, rfl⟩
    -- END1
  obtain ⟨rfl, hw⟩ := hcut
  have hw := hw.symm
  subst hw
  rcases g1 with _ | _
  rotate_left
  · have hno : schB s = false := sch_no1 (by
      have := of_decide_eq_true HGV.out
      rw [HN.out.1, HN.out.2.1, HN.out.2.2]
      omega)
    have HNO := hide hno
    clear hno
    go_wp2_with fail
    go_ret
    exact ⟨ret_bool (Eq.symm HNO.out), HB0.out⟩
  have hbd : 1 ≤ nf ∧ nf ≤ 5 ∧ 1 ≤ Q ∧ Q ≤ 4 ∧ nr ≤ 12 := by
    have := of_decide_eq_false HGV.out
    omega
  have HBD := hide hbd
  obtain ⟨b1, b2, b3, b4, b5⟩ := hbd
  clear HGV
  go_wp2_with fail
  go_loopw [3] (fun i wr => ∃ k : Nat, k ≤ nf ∧ i = .int .i64 k ∧ Hid (fsB (s.fs.take k) = true) ∧ Hid (w1 = wr)) (fun i _ => nf - (intOf i).toNat)
  case atStart => exact ⟨0, Nat.zero_le _, rfl, hide rfl, hide rfl⟩
  case round =>
    obtain ⟨k, hk, rfl, HX, HW⟩ := hrel
    obtain rfl := HW.out
    by_cases hlt : k < nf
    · -- BEGIN2
      have hlt' : (k : Int) < (nf : Int) := by omega
      have i0 : (0 : Int) ≤ (k : Int) := by omega
      have hst : IntKind.i64.wrap ((k : Int) + 1) = ((k + 1 : Nat) : Int) := by rw [IntWalk.i64_in _ (by omega)]; omega
      have hkn : k < s.fs.length := by rw [HN.out.1]; exact hlt
      have HKN := hide hkn
      obtain ⟨yb, yo, hfa, hyb, a0⟩ := VR1.at_ HFA.out hkn
      have c0 := (HB0.out.cell (p := ⟨yb, yo + k, none⟩) hyb).trans a0
      obtain ⟨x, hx⟩ : ∃ e, s.fs.getD k 0 = e := ⟨_, rfl⟩
      rw [hx] at c0
      have HXX := hide hx
      subst hfa
      clear hx a0 hkn
      by_cases q1 : x < 1
      · have HNO : Hid (schB s = false) := hide (sch_no2 (all_take_no _ _ HKN.out 0 (by rw [HXX.out]; exact decide_eq_false (by omega))))
        go_wp2_with fail
        go_ret
        exact ⟨ret_bool (Eq.symm HNO.out), HB0.out⟩
      · by_cases q2 : 4 < x
        · have HNO : Hid (schB s = false) := hide (sch_no2 (all_take_no _ _ HKN.out 0 (by rw [HXX.out]; exact decide_eq_false (by omega))))
          go_wp2_with fail
          go_ret
          exact ⟨ret_bool (Eq.symm HNO.out), HB0.out⟩
        · have HX2 : Hid (fsB (s.fs.take (k + 1)) = true) := hide (all_take_succ _ _ HKN.out 0 (by rw [HXX.out]; exact decide_eq_true (by omega)) HX.out)
          go_wp2_with fail
          go_roundw
          case rel => exact ⟨k + 1, by omega, by go_num, HX2, by first | exact hide trivial | exact hide rfl⟩
          case measure => simp [intOf]; omega
      -- END2
    · obtain rfl : k = nf := by omega
      have hnl : ¬ (k : Int) < (k : Int) := by omega
      have hfs : fsB s.fs = true := by
        have h := HX.out
        rwa [List.take_of_length_le (by rw [HN.out.1]; exact Nat.le_refl _)] at h
      have HFS := hide hfs
      clear hfs HX
      go_wp2_with fail
      go_loopw [4] (fun i wr => ∃ k : Nat, k ≤ nr ∧ i = .int .i64 k ∧ Hid ((s.rs.take k).all (rlB s.fs.length s.q (evF s.fs)) = true) ∧ Hid (Below w1.heap.size w1 wr)) (fun i _ => nr - (intOf i).toNat)
      case atStart => exact ⟨0, Nat.zero_le _, rfl, hide rfl, hide (Below.refl _ _)⟩
      case round =>
        obtain ⟨j, hj, rfl, HR, HBW⟩ := hrel
        clear g0 g1' g2 g9
        have HG2 := hide (HG1.out.ext HBW.out)
        obtain ⟨-, g0, g1', g2, -⟩ := blk3 HG2.out
        have HBF := hide (HB0.out.trans (HBW.out.mono HB0.out.size))
        by_cases hjl : j < nr
        · -- BEGIN3
          have hjl' : (j : Int) < (nr : Int) := by omega
          have j0 : (0 : Int) ≤ (j : Int) := by omega
          have hst : IntKind.i64.wrap ((j : Int) + 1) = ((j + 1 : Nat) : Int) := by rw [IntWalk.i64_in _ (by omega)]; omega
          have hjn : j < s.rs.length := by rw [HN.out.2.1]; exact hjl
          have HJN := hide hjn
          obtain ⟨r, hrr⟩ : ∃ r, s.rs.getD j r0 = r := ⟨_, rfl⟩
          have HRR := hide hrr
          have HMEM : Hid (r ∈ s.rs) := hide (by rw [← hrr]; exact mem_at hjn)
          obtain ⟨rb, ro, hra, hrb, a0, a1, a2⟩ := HD.out.rs.at_ hjn hrr
          have c0 := (HBF.out.cell (p := ⟨rb, ro + j * 3, none⟩) hrb).trans a0
          have c1 := (HBF.out.cell (p := ⟨rb, ro + j * 3 + 1, none⟩) hrb).trans a1
          have c2 := (HBF.out.cell (p := ⟨rb, ro + j * 3 + 2, none⟩) hrb).trans a2
          have hts := HD.out.rs.tests j hjn
          rw [hrr] at hts
          have htl := HZ.out.ts r HMEM.out
          unfold maxLen at htl
          obtain ⟨nt, hnt⟩ : ∃ n, r.when_.length = n := ⟨_, rfl⟩
          obtain ⟨ask, hask⟩ : ∃ n, r.ask = n := ⟨_, rfl⟩
          obtain ⟨say, hsay⟩ : ∃ n, r.say = n := ⟨_, rfl⟩
          obtain ⟨ta, hta⟩ : ∃ x, d.ta j = x := ⟨_, rfl⟩
          obtain ⟨tc, htc⟩ : ∃ x, d.tc j = x := ⟨_, rfl⟩
          rw [hnt, hta, htc] at c0
          rw [hask] at c1
          rw [hsay] at c2
          rw [hta] at hts
          rw [hnt] at htl
          have HTS := hide hts
          have HRN := hide (And.intro hnt (And.intro hask hsay))
          clear hrr a0 a1 a2 hts hnt hask hsay hta htc hjn
          rw [hra] at g2 ⊢
          clear hra
          go_upto_region 12 with fail
          have HB1 := hide ((Below.refl wr.heap.size wr).alloc (Nat.le_refl _) (.cells #[.slice ta nt tc, .int .i64 ask, .int .i64 say] 73))
          have HR1 := hide (Blk.new wr 73 #[.slice ta nt tc, .int .i64 ask, .int .i64 say])
          have HBX := hide (HBW.out.trans (HB1.out.mono HBW.out.size))
          clear g0 g1' g2 c0 c1 c2 HB1 HBF
          generalize (wr.alloc (.cells #[.slice ta nt tc, .int .i64 ask, .int .i64 say] 73)) = w2 at HR1 HBX ⊢
          generalize wr.heap.size = R at HR1 ⊢
          have HG3 := hide (HG1.out.ext HBX.out)
          obtain ⟨-, g0, g1', -, -⟩ := blk3 HG3.out
          obtain ⟨-, y0, y1, y2, -⟩ := blk3 HR1.out
          have HBF := hide (HB0.out.trans (HBX.out.mono HB0.out.size))
          obtain ⟨g1, hg1⟩ : ∃ b, decide ((5 : Int) < nt ∨ ask < 0 ∨ Q ≤ ask ∨ say < 0 ∨ 999 < say) = b := ⟨_, rfl⟩
          have HGV := hide hg1
          clear hg1
          go_cut [92] (fun v w' => v = .bool g1 ∧ w' = w2)
          case first =>
            by_cases q1 : (5 : Int) < nt
            · have hb : g1 = true := by rw [← HGV.out]; simp; omega
              subst hb
              go_wp2_with fail
              go_meet
              exact ⟨rfl, rfl⟩
            · by_cases q2 : ask < 0
              · have hb : g1 = true := by rw [← HGV.out]; simp; omega
                subst hb
                go_wp2_with fail
                go_meet
                exact ⟨rfl, rfl⟩
              · by_cases q3 : Q ≤ ask
                · have hb : g1 = true := by rw [← HGV.out]; simp; omega
                  subst hb
                  go_wp2_with fail
                  go_meet
                  exact ⟨rfl, rfl⟩
                · by_cases q4 : say < 0
                  · have hb : g1 = true := by rw [← HGV.out]; simp; omega
                    subst hb
                    go_wp2_with fail
                    go_meet
                    exact ⟨rfl, rfl⟩
                  · by_cases q5 : 999 < say
                    · have hb : g1 = true := by rw [← HGV.out]; simp; omega
                      subst hb
                      go_wp2_with fail
                      go_meet
                      exact ⟨rfl, rfl⟩
                    · have hb : g1 = false := by rw [← HGV.out]; simp; omega
                      subst hb
                      go_wp2_with fail
                      go_meet
                      exact ⟨rfl, rfl⟩
          obtain ⟨rfl, hw⟩ := hcut
          have hw := hw.symm
          subst hw
          rcases g1 with _ | _
          rotate_left
          · have HNO : Hid (schB s = false) := hide (sch_no3 HJN.out HRR.out (by
              rw [rl_val, HRN.out.1, HRN.out.2.1, HRN.out.2.2, HN.out.2.2, decide_eq_false (by
                have := of_decide_eq_true HGV.out
                exact fun h => h this)]; rfl))
            go_wp2_with fail
            go_ret
            exact ⟨ret_bool (Eq.symm HNO.out), HBF.out⟩
          have HRV : Hid (rlB s.fs.length s.q (evF s.fs) r = r.when_.all (tstB s.fs.length (evF s.fs))) := hide (by
            rw [rl_val, HRN.out.1, HRN.out.2.1, HRN.out.2.2, HN.out.2.2, decide_eq_true (of_decide_eq_false HGV.out), Bool.true_and])
          have hnt5 : nt ≤ 5 := by
            have := of_decide_eq_false HGV.out
            omega
          clear HGV htl
          go_wp2_with fail
          go_loopw [6] (fun i wr => ∃ k : Nat, k ≤ nt ∧ i = .int .i64 k ∧ Hid ((r.when_.take k).all (tstB s.fs.length (evF s.fs)) = true) ∧ Hid (Below w2.heap.size w2 wr)) (fun i _ => nt - (intOf i).toNat)
          case atStart => exact ⟨0, Nat.zero_le _, rfl, hide rfl, hide (Below.refl _ _)⟩
          case round =>
            obtain ⟨m, hm, rfl, HX, HBY⟩ := hrel
            clear g0 g1' y0 y1 y2
            have HBX2 := hide (HBX.out.trans (HBY.out.mono HBX.out.size))
            have HBF2 := hide (HB0.out.trans (HBX2.out.mono HB0.out.size))
            have HR2 := hide (HR1.out.ext HBY.out)
            obtain ⟨-, y0, -, -, -⟩ := blk3 HR2.out
            have HG4 := hide (HG1.out.ext HBX2.out)
            obtain ⟨-, g0, -, -, -⟩ := blk3 HG4.out
            by_cases hml : m < nt
            · -- BEGIN4
              have hml' : (m : Int) < (nt : Int) := by omega
              have m0 : (0 : Int) ≤ (m : Int) := by omega
              have hst2 : IntKind.i64.wrap ((m : Int) + 1) = ((m + 1 : Nat) : Int) := by rw [IntWalk.i64_in _ (by omega)]; omega
              have hmn : m < r.when_.length := by rw [HRN.out.1]; exact hml
              have HMN := hide hmn
              obtain ⟨t, htk⟩ : ∃ t, r.when_.getD m (0, 0) = t := ⟨_, rfl⟩
              have HTK := hide htk
              obtain ⟨tb, to_, hta, htb, a0, a1⟩ := HTS.out.at_ hmn htk
              subst hta
              have hmem : t ∈ r.when_ := by
                rw [← htk, List.getD_eq_getElem?_getD, List.getElem?_eq_getElem hmn]
                exact List.getElem_mem hmn
              have HCH := hide (HI.out r HMEM.out t hmem)
              have c0 := (HBF2.out.cell (p := ⟨tb, to_ + m * 2, none⟩) htb).trans a0
              have c1 := (HBF2.out.cell (p := ⟨tb, to_ + m * 2 + 1, none⟩) htb).trans a1
              obtain ⟨f, ch⟩ := t
              dsimp only at c0 c1
              clear a0 a1 htk hmn hmem
              go_upto_region 18 with fail
              have HB1 := hide ((Below.refl wr.heap.size wr).alloc (Nat.le_refl _) (.cells #[.int .i64 f, .int .i64 ch] 76))
              have HT1 := hide (Blk.new wr 76 #[.int .i64 f, .int .i64 ch])
              have HBZ := hide (HBY.out.trans (HB1.out.mono HBY.out.size))
              clear g0 y0 c0 c1 HB1 HBX2 HBF2 HR2 HG4
              generalize (wr.alloc (.cells #[.int .i64 f, .int .i64 ch] 76)) = w3 at HT1 HBZ ⊢
              generalize wr.heap.size = T at HT1 ⊢
              have HBd := hide (HBZ.out.trans ((Below.refl w3.heap.size w3).drew.mono HBZ.out.size))
              have HTd := hide (HT1.out.ext (Below.refl w3.heap.size w3).drew)
              have HBX2 := hide (HBX.out.trans (HBd.out.mono HBX.out.size))
              have HGd := hide (HG1.out.ext HBX2.out)
              have HBF := hide (HB0.out.trans (HBX2.out.mono HB0.out.size))
              have t0 : w3.drew.cell? ⟨T, 0, none⟩ = some (.int .i64 f) := by rw [HTd.out.cell]; rfl
              have t1 : w3.drew.cell? ⟨T, 1, none⟩ = some (.int .i64 ch) := by rw [HTd.out.cell]; rfl
              have g0 : w3.drew.cell? ⟨G, 0, none⟩ = some (.slice fa k d.fc) := by rw [HGd.out.cell]; rfl
              by_cases hF : 0 ≤ f ∧ f < (k : Int)
              rotate_left
              · have hh : (w3.drew.cell? ⟨T, 0, none⟩ = some (.int .i64 f) ∧ w3.drew.cell? ⟨T, 1, none⟩ = some (.int .i64 ch) ∧ w3.drew.cell? ⟨G, 0, none⟩ = some (.slice fa k d.fc)) := ⟨t0, t1, g0⟩
                have HNO : Hid (schB s = false) := hide (sch_no3 HJN.out HRR.out (by
                  rw [HRV.out]
                  exact all_take_no _ _ HMN.out (0, 0) (by rw [HTK.out, HN.out.1]; exact tst_out hF)))
                refine wp_region_J (fun W : World => (W.cell? ⟨T, 0, none⟩ = some (.int .i64 f) ∧ W.cell? ⟨T, 1, none⟩ = some (.int .i64 ch) ∧ W.cell? ⟨G, 0, none⟩ = some (.slice fa k d.fc))) (by kernel_rfl) ?_
                clear t0 t1 g0 HT1 HBZ HTd
                generalize w3.drew = wd at hh HBd HBX2 HBF ⊢
                refine wpAnyJ_take 0 (v := ?_) (by first | exact hF | exact wideFn) hh rfl (by kernel_rfl) (by kernel_rfl) (by kernel_rfl) (by kernel_rfl) rfl ?_ (by first | exact fun _ _ _ h => h | exact fun _ _ _ h => hQ2 _ _ _ _ _ h) ?_
                rotate_left
                · intro W hSW
                  simp only [glA, glB, glC]
                  (try dsimp only at hSW)
                  go_simp
                  with_reducible rfl
                (try simp only [glA, glB, glC, Act.put, glD, glE, glF])
                refine wpAnyJ_take 1 (v := ?_) (by first | exact hF | exact wideFn) hh rfl (by kernel_rfl) (by kernel_rfl) (by kernel_rfl) (by kernel_rfl) rfl ?_ (by first | exact fun _ _ _ h => h | exact fun _ _ _ h => hQ2 _ _ _ _ _ h) ?_
                rotate_left
                · intro W hSW
                  simp only [glA, glB, glC]
                  (try dsimp only at hSW)
                  go_simp
                  with_reducible rfl
                (try simp only [glA, glB, glC, Act.put, glD, glE, glF])
                refine wpAnyJ_take 2 (v := ?_) (by first | exact hF | exact wideFn) hh rfl (by kernel_rfl) (by kernel_rfl) (by kernel_rfl) (by kernel_rfl) rfl ?_ (by first | exact fun _ _ _ h => h | exact fun _ _ _ h => hQ2 _ _ _ _ _ h) ?_
                rotate_left
                · intro W hSW
                  simp only [glA, glB, glC]
                  (try dsimp only at hSW)
                  go_simp
                  with_reducible rfl
                (try simp only [glA, glB, glC, Act.put, glD, glE, glF])
                by_cases q1 : f < 0
                · have qq := trivial
                  refine wpAnyJ_take 3 (v := ?_) (by first | exact hF | exact wideFn) hh rfl (by kernel_rfl) (by kernel_rfl) (by kernel_rfl) (by kernel_rfl) rfl ?_ (by first | exact fun _ _ _ h => h | exact fun _ _ _ h => hQ2 _ _ _ _ _ h) ?_
                  rotate_left
                  · intro W hSW
                    simp only [glA, glB, glC]
                    (try dsimp only at hSW)
                    go_simp
                    with_reducible rfl
                  (try simp only [glA, glB, glC, Act.put, glD, glE, glF])
                  refine wpAnyJ_skip 4 (by first | exact hF | exact wideFn) hh rfl (by kernel_rfl) (by kernel_rfl) (by kernel_rfl) (by kernel_rfl) rfl (by first | exact fun _ _ _ h => h | exact fun _ _ _ h => hQ2 _ _ _ _ _ h) ?_
                  (try simp only [glA, glB, glC, Act.put, glD, glE, glF])
                  refine wpAnyJ_skip 5 (by first | exact hF | exact wideFn) hh rfl (by kernel_rfl) (by kernel_rfl) (by kernel_rfl) (by kernel_rfl) rfl (by first | exact fun _ _ _ h => h | exact fun _ _ _ h => hQ2 _ _ _ _ _ h) ?_
                  (try simp only [glA, glB, glC, Act.put, glD, glE, glF])
                  refine wpAnyJ_skip 6 (by first | exact hF | exact wideFn) hh rfl (by kernel_rfl) (by kernel_rfl) (by kernel_rfl) (by kernel_rfl) rfl (by first | exact fun _ _ _ h => h | exact fun _ _ _ h => hQ2 _ _ _ _ _ h) ?_
                  (try simp only [glA, glB, glC, Act.put, glD, glE, glF])
                  refine wpAnyJ_skip 7 (by first | exact hF | exact wideFn) hh rfl (by kernel_rfl) (by kernel_rfl) (by kernel_rfl) (by kernel_rfl) rfl (by first | exact fun _ _ _ h => h | exact fun _ _ _ h => hQ2 _ _ _ _ _ h) ?_
                  (try simp only [glA, glB, glC, Act.put, glD, glE, glF])
                  refine wpAnyJ_skip 8 (by first | exact hF | exact wideFn) hh rfl (by kernel_rfl) (by kernel_rfl) (by kernel_rfl) (by kernel_rfl) rfl (by first | exact fun _ _ _ h => h | exact fun _ _ _ h => hQ2 _ _ _ _ _ h) ?_
                  (try simp only [glA, glB, glC, Act.put, glD, glE, glF])
                  refine wpAnyJ_skip 9 (by first | exact hF | exact wideFn) hh rfl (by kernel_rfl) (by kernel_rfl) (by kernel_rfl) (by kernel_rfl) rfl (by first | exact fun _ _ _ h => h | exact fun _ _ _ h => hQ2 _ _ _ _ _ h) ?_
                  (try simp only [glA, glB, glC, Act.put, glD, glE, glF])
                  refine wpAnyJ_take 10 (v := ?_) (by first | exact hF | exact wideFn) hh rfl (by kernel_rfl) (by kernel_rfl) (by kernel_rfl) (by kernel_rfl) rfl ?_ (by first | exact fun _ _ _ h => h | exact fun _ _ _ h => hQ2 _ _ _ _ _ h) ?_
                  rotate_left
                  · intro W hSW
                    simp only [glA, glB, glC]
                    (try dsimp only at hSW)
                    go_simp
                    with_reducible rfl
                  (try simp only [glA, glB, glC, Act.put, glD, glE, glF])
                  refine wpAnyJ_take 11 (v := ?_) (by first | exact hF | exact wideFn) hh rfl (by kernel_rfl) (by kernel_rfl) (by kernel_rfl) (by kernel_rfl) rfl ?_ (by first | exact fun _ _ _ h => h | exact fun _ _ _ h => hQ2 _ _ _ _ _ h) ?_
                  rotate_left
                  · intro W hSW
                    simp only [glA, glB, glC]
                    (try dsimp only at hSW)
                    go_simp
                    with_reducible rfl
                  (try simp only [glA, glB, glC, Act.put, glD, glE, glF])
                  refine wpAnyJ_skip 12 (by first | exact hF | exact wideFn) hh rfl (by kernel_rfl) (by kernel_rfl) (by kernel_rfl) (by kernel_rfl) rfl (by first | exact fun _ _ _ h => h | exact fun _ _ _ h => hQ2 _ _ _ _ _ h) ?_
                  (try simp only [glA, glB, glC, Act.put, glD, glE, glF])
                  refine wpAnyJ_skip 13 (by first | exact hF | exact wideFn) hh rfl (by kernel_rfl) (by kernel_rfl) (by kernel_rfl) (by kernel_rfl) rfl (by first | exact fun _ _ _ h => h | exact fun _ _ _ h => hQ2 _ _ _ _ _ h) ?_
                  (try simp only [glA, glB, glC, Act.put, glD, glE, glF])
                  refine wpAnyJ_skip 14 (by first | exact hF | exact wideFn) hh rfl (by kernel_rfl) (by kernel_rfl) (by kernel_rfl) (by kernel_rfl) rfl (by first | exact fun _ _ _ h => h | exact fun _ _ _ h => hQ2 _ _ _ _ _ h) ?_
                  (try simp only [glA, glB, glC, Act.put, glD, glE, glF])
                  refine wpAnyJ_take 15 (v := ?_) (by first | exact hF | exact wideFn) hh rfl (by kernel_rfl) (by kernel_rfl) (by kernel_rfl) (by kernel_rfl) rfl ?_ (by first | exact fun _ _ _ h => h | exact fun _ _ _ h => hQ2 _ _ _ _ _ h) ?_
                  rotate_left
                  · intro W hSW
                    simp only [glA, glB, glC]
                    (try dsimp only at hSW)
                    go_simp
                    with_reducible rfl
                  (try simp only [glA, glB, glC, Act.put, glD, glE, glF])
                  refine wpAnyJ_take 16 (v := ?_) (by first | exact hF | exact wideFn) hh rfl (by kernel_rfl) (by kernel_rfl) (by kernel_rfl) (by kernel_rfl) rfl ?_ (by first | exact fun _ _ _ h => h | exact fun _ _ _ h => hQ2 _ _ _ _ _ h) ?_
                  rotate_left
                  · intro W hSW
                    simp only [glA, glB, glC]
                    (try dsimp only at hSW)
                    go_simp
                    with_reducible rfl
                  (try simp only [glA, glB, glC, Act.put, glD, glE, glF])
                  refine wpAnyJ_skip 17 (by first | exact hF | exact wideFn) hh rfl (by kernel_rfl) (by kernel_rfl) (by kernel_rfl) (by kernel_rfl) rfl (by first | exact fun _ _ _ h => h | exact fun _ _ _ h => hQ2 _ _ _ _ _ h) ?_
                  (try simp only [glA, glB, glC, Act.put, glD, glE, glF])
                  refine wpAnyJ_skip 18 (by first | exact hF | exact wideFn) hh rfl (by kernel_rfl) (by kernel_rfl) (by kernel_rfl) (by kernel_rfl) rfl (by first | exact fun _ _ _ h => h | exact fun _ _ _ h => hQ2 _ _ _ _ _ h) ?_
                  (try simp only [glA, glB, glC, Act.put, glD, glE, glF])
                  refine wpAnyJ_skip 19 (by first | exact hF | exact wideFn) hh rfl (by kernel_rfl) (by kernel_rfl) (by kernel_rfl) (by kernel_rfl) rfl (by first | exact fun _ _ _ h => h | exact fun _ _ _ h => hQ2 _ _ _ _ _ h) ?_
                  (try simp only [glA, glB, glC, Act.put, glD, glE, glF])
                  refine wpAnyJ_skip 20 (by first | exact hF | exact wideFn) hh rfl (by kernel_rfl) (by kernel_rfl) (by kernel_rfl) (by kernel_rfl) rfl (by first | exact fun _ _ _ h => h | exact fun _ _ _ h => hQ2 _ _ _ _ _ h) ?_
                  (try simp only [glA, glB, glC, Act.put, glD, glE, glF])
                  refine wpAnyJ_skip 21 (by first | exact hF | exact wideFn) hh rfl (by kernel_rfl) (by kernel_rfl) (by kernel_rfl) (by kernel_rfl) rfl (by first | exact fun _ _ _ h => h | exact fun _ _ _ h => hQ2 _ _ _ _ _ h) ?_
                  (try simp only [glA, glB, glC, Act.put, glD, glE, glF])
                  refine wpAnyJ_skip 22 (by first | exact hF | exact wideFn) hh rfl (by kernel_rfl) (by kernel_rfl) (by kernel_rfl) (by kernel_rfl) rfl (by first | exact fun _ _ _ h => h | exact fun _ _ _ h => hQ2 _ _ _ _ _ h) ?_
                  (try simp only [glA, glB, glC, Act.put, glD, glE, glF])
                  refine wpAnyJ_skip 23 (by first | exact hF | exact wideFn) hh rfl (by kernel_rfl) (by kernel_rfl) (by kernel_rfl) (by kernel_rfl) rfl (by first | exact fun _ _ _ h => h | exact fun _ _ _ h => hQ2 _ _ _ _ _ h) ?_
                  (try simp only [glA, glB, glC, Act.put, glD, glE, glF])
                  refine wpAnyJ_skip 24 (by first | exact hF | exact wideFn) hh rfl (by kernel_rfl) (by kernel_rfl) (by kernel_rfl) (by kernel_rfl) rfl (by first | exact fun _ _ _ h => h | exact fun _ _ _ h => hQ2 _ _ _ _ _ h) ?_
                  (try simp only [glA, glB, glC, Act.put, glD, glE, glF])
                  refine wpAnyJ_skip 25 (by first | exact hF | exact wideFn) hh rfl (by kernel_rfl) (by kernel_rfl) (by kernel_rfl) (by kernel_rfl) rfl (by first | exact fun _ _ _ h => h | exact fun _ _ _ h => hQ2 _ _ _ _ _ h) ?_
                  (try simp only [glA, glB, glC, Act.put, glD, glE, glF])
                  refine wpAnyJ_skip 26 (by first | exact hF | exact wideFn) hh rfl (by kernel_rfl) (by kernel_rfl) (by kernel_rfl) (by kernel_rfl) rfl (by first | exact fun _ _ _ h => h | exact fun _ _ _ h => hQ2 _ _ _ _ _ h) ?_
                  (try simp only [glA, glB, glC, Act.put, glD, glE, glF])
                  refine wpAnyJ_skip 27 (by first | exact hF | exact wideFn) hh rfl (by kernel_rfl) (by kernel_rfl) (by kernel_rfl) (by kernel_rfl) rfl (by first | exact fun _ _ _ h => h | exact fun _ _ _ h => hQ2 _ _ _ _ _ h) ?_
                  (try simp only [glA, glB, glC, Act.put, glD, glE, glF])
                  refine wpAnyJ_skip 28 (by first | exact hF | exact wideFn) hh rfl (by kernel_rfl) (by kernel_rfl) (by kernel_rfl) (by kernel_rfl) rfl (by first | exact fun _ _ _ h => h | exact fun _ _ _ h => hQ2 _ _ _ _ _ h) ?_
                  (try simp only [glA, glB, glC, Act.put, glD, glE, glF])
                  refine wpAnyJ_take 29 (v := ?_) (by first | exact hF | exact wideFn) hh rfl (by kernel_rfl) (by kernel_rfl) (by kernel_rfl) (by kernel_rfl) rfl ?_ (by first | exact fun _ _ _ h => h | exact fun _ _ _ h => hQ2 _ _ _ _ _ h) ?_
                  rotate_left
                  · intro W hSW
                    simp only [glA, glB, glC]
                    (try dsimp only at hSW)
                    go_simp
                    with_reducible rfl
                  (try simp only [glA, glB, glC, Act.put, glD, glE, glF])
                  refine wpAnyJ_done (by kernel_rfl) ?_
                  go_wp2_with fail
                  go_ret
                  exact ⟨ret_bool (Eq.symm HNO.out), HBF.out⟩
                · have qq : (k : Int) ≤ f := by omega
                  refine wpAnyJ_take 3 (v := ?_) (by first | exact hF | exact wideFn) hh rfl (by kernel_rfl) (by kernel_rfl) (by kernel_rfl) (by kernel_rfl) rfl ?_ (by first | exact fun _ _ _ h => h | exact fun _ _ _ h => hQ2 _ _ _ _ _ h) ?_
                  rotate_left
                  · intro W hSW
                    simp only [glA, glB, glC]
                    (try dsimp only at hSW)
                    go_simp
                    with_reducible rfl
                  (try simp only [glA, glB, glC, Act.put, glD, glE, glF])
                  refine wpAnyJ_take 4 (v := ?_) (by first | exact hF | exact wideFn) hh rfl (by kernel_rfl) (by kernel_rfl) (by kernel_rfl) (by kernel_rfl) rfl ?_ (by first | exact fun _ _ _ h => h | exact fun _ _ _ h => hQ2 _ _ _ _ _ h) ?_
                  rotate_left
                  · intro W hSW
                    simp only [glA, glB, glC]
                    (try dsimp only at hSW)
                    go_simp
                    with_reducible rfl
                  (try simp only [glA, glB, glC, Act.put, glD, glE, glF])
                  refine wpAnyJ_take 5 (v := ?_) (by first | exact hF | exact wideFn) hh rfl (by kernel_rfl) (by kernel_rfl) (by kernel_rfl) (by kernel_rfl) rfl ?_ (by first | exact fun _ _ _ h => h | exact fun _ _ _ h => hQ2 _ _ _ _ _ h) ?_
                  rotate_left
                  · intro W hSW
                    simp only [glA, glB, glC]
                    (try dsimp only at hSW)
                    go_simp
                    with_reducible rfl
                  (try simp only [glA, glB, glC, Act.put, glD, glE, glF])
                  refine wpAnyJ_take 6 (v := ?_) (by first | exact hF | exact wideFn) hh rfl (by kernel_rfl) (by kernel_rfl) (by kernel_rfl) (by kernel_rfl) rfl ?_ (by first | exact fun _ _ _ h => h | exact fun _ _ _ h => hQ2 _ _ _ _ _ h) ?_
                  rotate_left
                  · intro W hSW
                    simp only [glA, glB, glC]
                    (try dsimp only at hSW)
                    go_simp
                    with_reducible rfl
                  (try simp only [glA, glB, glC, Act.put, glD, glE, glF])
                  refine wpAnyJ_take 7 (v := ?_) (by first | exact hF | exact wideFn) hh rfl (by kernel_rfl) (by kernel_rfl) (by kernel_rfl) (by kernel_rfl) rfl ?_ (by first | exact fun _ _ _ h => h | exact fun _ _ _ h => hQ2 _ _ _ _ _ h) ?_
                  rotate_left
                  · intro W hSW
                    simp only [glA, glB, glC]
                    (try dsimp only at hSW)
                    go_simp
                    with_reducible rfl
                  (try simp only [glA, glB, glC, Act.put, glD, glE, glF])
                  refine wpAnyJ_take 8 (v := ?_) (by first | exact hF | exact wideFn) hh rfl (by kernel_rfl) (by kernel_rfl) (by kernel_rfl) (by kernel_rfl) rfl ?_ (by first | exact fun _ _ _ h => h | exact fun _ _ _ h => hQ2 _ _ _ _ _ h) ?_
                  rotate_left
                  · intro W hSW
                    simp only [glA, glB, glC]
                    (try dsimp only at hSW)
                    go_simp
                    with_reducible rfl
                  (try simp only [glA, glB, glC, Act.put, glD, glE, glF])
                  refine wpAnyJ_take 9 (v := ?_) (by first | exact hF | exact wideFn) hh rfl (by kernel_rfl) (by kernel_rfl) (by kernel_rfl) (by kernel_rfl) rfl ?_ (by first | exact fun _ _ _ h => h | exact fun _ _ _ h => hQ2 _ _ _ _ _ h) ?_
                  rotate_left
                  · intro W hSW
                    simp only [glA, glB, glC]
                    (try dsimp only at hSW)
                    go_simp
                    with_reducible rfl
                  (try simp only [glA, glB, glC, Act.put, glD, glE, glF])
                  refine wpAnyJ_take 10 (v := ?_) (by first | exact hF | exact wideFn) hh rfl (by kernel_rfl) (by kernel_rfl) (by kernel_rfl) (by kernel_rfl) rfl ?_ (by first | exact fun _ _ _ h => h | exact fun _ _ _ h => hQ2 _ _ _ _ _ h) ?_
                  rotate_left
                  · intro W hSW
                    simp only [glA, glB, glC]
                    (try dsimp only at hSW)
                    go_simp
                    with_reducible rfl
                  (try simp only [glA, glB, glC, Act.put, glD, glE, glF])
                  refine wpAnyJ_take 11 (v := ?_) (by first | exact hF | exact wideFn) hh rfl (by kernel_rfl) (by kernel_rfl) (by kernel_rfl) (by kernel_rfl) rfl ?_ (by first | exact fun _ _ _ h => h | exact fun _ _ _ h => hQ2 _ _ _ _ _ h) ?_
                  rotate_left
                  · intro W hSW
                    simp only [glA, glB, glC]
                    (try dsimp only at hSW)
                    go_simp
                    with_reducible rfl
                  (try simp only [glA, glB, glC, Act.put, glD, glE, glF])
                  refine wpAnyJ_skip 12 (by first | exact hF | exact wideFn) hh rfl (by kernel_rfl) (by kernel_rfl) (by kernel_rfl) (by kernel_rfl) rfl (by first | exact fun _ _ _ h => h | exact fun _ _ _ h => hQ2 _ _ _ _ _ h) ?_
                  (try simp only [glA, glB, glC, Act.put, glD, glE, glF])
                  refine wpAnyJ_skip 13 (by first | exact hF | exact wideFn) hh rfl (by kernel_rfl) (by kernel_rfl) (by kernel_rfl) (by kernel_rfl) rfl (by first | exact fun _ _ _ h => h | exact fun _ _ _ h => hQ2 _ _ _ _ _ h) ?_
                  (try simp only [glA, glB, glC, Act.put, glD, glE, glF])
                  refine wpAnyJ_skip 14 (by first | exact hF | exact wideFn) hh rfl (by kernel_rfl) (by kernel_rfl) (by kernel_rfl) (by kernel_rfl) rfl (by first | exact fun _ _ _ h => h | exact fun _ _ _ h => hQ2 _ _ _ _ _ h) ?_
                  (try simp only [glA, glB, glC, Act.put, glD, glE, glF])
                  refine wpAnyJ_take 15 (v := ?_) (by first | exact hF | exact wideFn) hh rfl (by kernel_rfl) (by kernel_rfl) (by kernel_rfl) (by kernel_rfl) rfl ?_ (by first | exact fun _ _ _ h => h | exact fun _ _ _ h => hQ2 _ _ _ _ _ h) ?_
                  rotate_left
                  · intro W hSW
                    simp only [glA, glB, glC]
                    (try dsimp only at hSW)
                    go_simp
                    with_reducible rfl
                  (try simp only [glA, glB, glC, Act.put, glD, glE, glF])
                  refine wpAnyJ_take 16 (v := ?_) (by first | exact hF | exact wideFn) hh rfl (by kernel_rfl) (by kernel_rfl) (by kernel_rfl) (by kernel_rfl) rfl ?_ (by first | exact fun _ _ _ h => h | exact fun _ _ _ h => hQ2 _ _ _ _ _ h) ?_
                  rotate_left
                  · intro W hSW
                    simp only [glA, glB, glC]
                    (try dsimp only at hSW)
                    go_simp
                    with_reducible rfl
                  (try simp only [glA, glB, glC, Act.put, glD, glE, glF])
                  refine wpAnyJ_skip 17 (by first | exact hF | exact wideFn) hh rfl (by kernel_rfl) (by kernel_rfl) (by kernel_rfl) (by kernel_rfl) rfl (by first | exact fun _ _ _ h => h | exact fun _ _ _ h => hQ2 _ _ _ _ _ h) ?_
                  (try simp only [glA, glB, glC, Act.put, glD, glE, glF])
                  refine wpAnyJ_skip 18 (by first | exact hF | exact wideFn) hh rfl (by kernel_rfl) (by kernel_rfl) (by kernel_rfl) (by kernel_rfl) rfl (by first | exact fun _ _ _ h => h | exact fun _ _ _ h => hQ2 _ _ _ _ _ h) ?_
                  (try simp only [glA, glB, glC, Act.put, glD, glE, glF])
                  refine wpAnyJ_skip 19 (by first | exact hF | exact wideFn) hh rfl (by kernel_rfl) (by kernel_rfl) (by kernel_rfl) (by kernel_rfl) rfl (by first | exact fun _ _ _ h => h | exact fun _ _ _ h => hQ2 _ _ _ _ _ h) ?_
                  (try simp only [glA, glB, glC, Act.put, glD, glE, glF])
                  refine wpAnyJ_skip 20 (by first | exact hF | exact wideFn) hh rfl (by kernel_rfl) (by kernel_rfl) (by kernel_rfl) (by kernel_rfl) rfl (by first | exact fun _ _ _ h => h | exact fun _ _ _ h => hQ2 _ _ _ _ _ h) ?_
                  (try simp only [glA, glB, glC, Act.put, glD, glE, glF])
                  refine wpAnyJ_skip 21 (by first | exact hF | exact wideFn) hh rfl (by kernel_rfl) (by kernel_rfl) (by kernel_rfl) (by kernel_rfl) rfl (by first | exact fun _ _ _ h => h | exact fun _ _ _ h => hQ2 _ _ _ _ _ h) ?_
                  (try simp only [glA, glB, glC, Act.put, glD, glE, glF])
                  refine wpAnyJ_skip 22 (by first | exact hF | exact wideFn) hh rfl (by kernel_rfl) (by kernel_rfl) (by kernel_rfl) (by kernel_rfl) rfl (by first | exact fun _ _ _ h => h | exact fun _ _ _ h => hQ2 _ _ _ _ _ h) ?_
                  (try simp only [glA, glB, glC, Act.put, glD, glE, glF])
                  refine wpAnyJ_skip 23 (by first | exact hF | exact wideFn) hh rfl (by kernel_rfl) (by kernel_rfl) (by kernel_rfl) (by kernel_rfl) rfl (by first | exact fun _ _ _ h => h | exact fun _ _ _ h => hQ2 _ _ _ _ _ h) ?_
                  (try simp only [glA, glB, glC, Act.put, glD, glE, glF])
                  refine wpAnyJ_skip 24 (by first | exact hF | exact wideFn) hh rfl (by kernel_rfl) (by kernel_rfl) (by kernel_rfl) (by kernel_rfl) rfl (by first | exact fun _ _ _ h => h | exact fun _ _ _ h => hQ2 _ _ _ _ _ h) ?_
                  (try simp only [glA, glB, glC, Act.put, glD, glE, glF])
                  refine wpAnyJ_skip 25 (by first | exact hF | exact wideFn) hh rfl (by kernel_rfl) (by kernel_rfl) (by kernel_rfl) (by kernel_rfl) rfl (by first | exact fun _ _ _ h => h | exact fun _ _ _ h => hQ2 _ _ _ _ _ h) ?_
                  (try simp only [glA, glB, glC, Act.put, glD, glE, glF])
                  refine wpAnyJ_skip 26 (by first | exact hF | exact wideFn) hh rfl (by kernel_rfl) (by kernel_rfl) (by kernel_rfl) (by kernel_rfl) rfl (by first | exact fun _ _ _ h => h | exact fun _ _ _ h => hQ2 _ _ _ _ _ h) ?_
                  (try simp only [glA, glB, glC, Act.put, glD, glE, glF])
                  refine wpAnyJ_skip 27 (by first | exact hF | exact wideFn) hh rfl (by kernel_rfl) (by kernel_rfl) (by kernel_rfl) (by kernel_rfl) rfl (by first | exact fun _ _ _ h => h | exact fun _ _ _ h => hQ2 _ _ _ _ _ h) ?_
                  (try simp only [glA, glB, glC, Act.put, glD, glE, glF])
                  refine wpAnyJ_skip 28 (by first | exact hF | exact wideFn) hh rfl (by kernel_rfl) (by kernel_rfl) (by kernel_rfl) (by kernel_rfl) rfl (by first | exact fun _ _ _ h => h | exact fun _ _ _ h => hQ2 _ _ _ _ _ h) ?_
                  (try simp only [glA, glB, glC, Act.put, glD, glE, glF])
                  refine wpAnyJ_take 29 (v := ?_) (by first | exact hF | exact wideFn) hh rfl (by kernel_rfl) (by kernel_rfl) (by kernel_rfl) (by kernel_rfl) rfl ?_ (by first | exact fun _ _ _ h => h | exact fun _ _ _ h => hQ2 _ _ _ _ _ h) ?_
                  rotate_left
                  · intro W hSW
                    simp only [glA, glB, glC]
                    (try dsimp only at hSW)
                    go_simp
                    with_reducible rfl
                  (try simp only [glA, glB, glC, Act.put, glD, glE, glF])
                  refine wpAnyJ_done (by kernel_rfl) ?_
                  go_wp2_with fail
                  go_ret
                  exact ⟨ret_bool (Eq.symm HNO.out), HBF.out⟩
              · -- BEGIN5
                obtain ⟨F, rfl⟩ : ∃ F : Nat, f = F := ⟨f.toNat, by omega⟩
                have F0 : (0 : Int) ≤ (F : Int) := hF.1
                have F1 : (F : Int) < (k : Int) := hF.2
                have F2 : ¬ (k : Int) ≤ (F : Int) := by omega
                have F3 : ¬ (F : Int) < 0 := by omega
                have hFn : F < s.fs.length := by rw [HN.out.1]; omega
                have hb4 := fsB_at HFS.out F hFn
                obtain ⟨n, hn⟩ : ∃ n : Nat, s.fs.getD F 0 = n := ⟨(s.fs.getD F 0).toNat, by omega⟩
                rw [hn] at hb4
                obtain ⟨fb, fo, hfa, hfb, a0⟩ := VR1.at_ HFA.out hFn
                have f0 := (HBF.out.cell (p := ⟨fb, fo + F, none⟩) hfb).trans a0
                rw [hn] at f0
                have HV : Hid (tstB s.fs.length (evF s.fs) ((F : Int), ch) = decide (0 ≤ ch ∧ ch < (2 ^ n : Nat))) := hide (tst_val hFn hn (by omega) HCH.out)
                have n0 : (0 : Int) ≤ (n : Int) := by omega
                have n5 : (n : Int) < 5 := by omega
                have n14 : 1 ≤ n ∧ n ≤ 4 := by omega
                clear a0 hn hFn hF hb4
                subst hfa
                have hh : (w3.drew.cell? ⟨T, 0, none⟩ = some (.int .i64 (F : Nat)) ∧ w3.drew.cell? ⟨T, 1, none⟩ = some (.int .i64 ch) ∧ w3.drew.cell? ⟨G, 0, none⟩ = some (.slice (some ⟨fb, fo, none⟩) k d.fc) ∧ w3.drew.cell? ⟨fb, fo + F, none⟩ = some (.int .i64 (n : Nat))) := ⟨t0, t1, g0, f0⟩
                refine wp_region_J (fun W : World => (W.cell? ⟨T, 0, none⟩ = some (.int .i64 (F : Nat)) ∧ W.cell? ⟨T, 1, none⟩ = some (.int .i64 ch) ∧ W.cell? ⟨G, 0, none⟩ = some (.slice (some ⟨fb, fo, none⟩) k d.fc) ∧ W.cell? ⟨fb, fo + F, none⟩ = some (.int .i64 (n : Nat)))) (by kernel_rfl) ?_
                clear t0 t1 g0 f0 HT1 HBZ HTd
                generalize w3.drew = wd at hh HBd HBX2 HBF ⊢
                refine wpAnyJ_take 0 (v := ?_) (by first | exact hF | exact wideFn) hh rfl (by kernel_rfl) (by kernel_rfl) (by kernel_rfl) (by kernel_rfl) rfl ?_ (by first | exact fun _ _ _ h => h | exact fun _ _ _ h => hQ2 _ _ _ _ _ h) ?_
                rotate_left
                · intro W hSW
                  simp only [glA, glB, glC]
                  (try dsimp only at hSW)
                  go_simp
                  with_reducible rfl
                (try simp only [glA, glB, glC, Act.put, glD, glE, glF])
                refine wpAnyJ_take 1 (v := ?_) (by first | exact hF | exact wideFn) hh rfl (by kernel_rfl) (by kernel_rfl) (by kernel_rfl) (by kernel_rfl) rfl ?_ (by first | exact fun _ _ _ h => h | exact fun _ _ _ h => hQ2 _ _ _ _ _ h) ?_
                rotate_left
                · intro W hSW
                  simp only [glA, glB, glC]
                  (try dsimp only at hSW)
                  go_simp
                  with_reducible rfl
                (try simp only [glA, glB, glC, Act.put, glD, glE, glF])
                refine wpAnyJ_take 2 (v := ?_) (by first | exact hF | exact wideFn) hh rfl (by kernel_rfl) (by kernel_rfl) (by kernel_rfl) (by kernel_rfl) rfl ?_ (by first | exact fun _ _ _ h => h | exact fun _ _ _ h => hQ2 _ _ _ _ _ h) ?_
                rotate_left
                · intro W hSW
                  simp only [glA, glB, glC]
                  (try dsimp only at hSW)
                  go_simp
                  with_reducible rfl
                (try simp only [glA, glB, glC, Act.put, glD, glE, glF])
                refine wpAnyJ_take 3 (v := ?_) (by first | exact hF | exact wideFn) hh rfl (by kernel_rfl) (by kernel_rfl) (by kernel_rfl) (by kernel_rfl) rfl ?_ (by first | exact fun _ _ _ h => h | exact fun _ _ _ h => hQ2 _ _ _ _ _ h) ?_
                rotate_left
                · intro W hSW
                  simp only [glA, glB, glC]
                  (try dsimp only at hSW)
                  go_simp
                  with_reducible rfl
                (try simp only [glA, glB, glC, Act.put, glD, glE, glF])
                refine wpAnyJ_take 4 (v := ?_) (by first | exact hF | exact wideFn) hh rfl (by kernel_rfl) (by kernel_rfl) (by kernel_rfl) (by kernel_rfl) rfl ?_ (by first | exact fun _ _ _ h => h | exact fun _ _ _ h => hQ2 _ _ _ _ _ h) ?_
                rotate_left
                · intro W hSW
                  simp only [glA, glB, glC]
                  (try dsimp only at hSW)
                  go_simp
                  with_reducible rfl
                (try simp only [glA, glB, glC, Act.put, glD, glE, glF])
                refine wpAnyJ_take 5 (v := ?_) (by first | exact hF | exact wideFn) hh rfl (by kernel_rfl) (by kernel_rfl) (by kernel_rfl) (by kernel_rfl) rfl ?_ (by first | exact fun _ _ _ h => h | exact fun _ _ _ h => hQ2 _ _ _ _ _ h) ?_
                rotate_left
                · intro W hSW
                  simp only [glA, glB, glC]
                  (try dsimp only at hSW)
                  go_simp
                  with_reducible rfl
                (try simp only [glA, glB, glC, Act.put, glD, glE, glF])
                refine wpAnyJ_take 6 (v := ?_) (by first | exact hF | exact wideFn) hh rfl (by kernel_rfl) (by kernel_rfl) (by kernel_rfl) (by kernel_rfl) rfl ?_ (by first | exact fun _ _ _ h => h | exact fun _ _ _ h => hQ2 _ _ _ _ _ h) ?_
                rotate_left
                · intro W hSW
                  simp only [glA, glB, glC]
                  (try dsimp only at hSW)
                  go_simp
                  with_reducible rfl
                (try simp only [glA, glB, glC, Act.put, glD, glE, glF])
                refine wpAnyJ_take 7 (v := ?_) (by first | exact hF | exact wideFn) hh rfl (by kernel_rfl) (by kernel_rfl) (by kernel_rfl) (by kernel_rfl) rfl ?_ (by first | exact fun _ _ _ h => h | exact fun _ _ _ h => hQ2 _ _ _ _ _ h) ?_
                rotate_left
                · intro W hSW
                  simp only [glA, glB, glC]
                  (try dsimp only at hSW)
                  go_simp
                  with_reducible rfl
                (try simp only [glA, glB, glC, Act.put, glD, glE, glF])
                refine wpAnyJ_take 8 (v := ?_) (by first | exact hF | exact wideFn) hh rfl (by kernel_rfl) (by kernel_rfl) (by kernel_rfl) (by kernel_rfl) rfl ?_ (by first | exact fun _ _ _ h => h | exact fun _ _ _ h => hQ2 _ _ _ _ _ h) ?_
                rotate_left
                · intro W hSW
                  simp only [glA, glB, glC]
                  (try dsimp only at hSW)
                  go_simp
                  with_reducible rfl
                (try simp only [glA, glB, glC, Act.put, glD, glE, glF])
                refine wpAnyJ_take 9 (v := ?_) (by first | exact hF | exact wideFn) hh rfl (by kernel_rfl) (by kernel_rfl) (by kernel_rfl) (by kernel_rfl) rfl ?_ (by first | exact fun _ _ _ h => h | exact fun _ _ _ h => hQ2 _ _ _ _ _ h) ?_
                rotate_left
                · intro W hSW
                  simp only [glA, glB, glC]
                  (try dsimp only at hSW)
                  go_simp
                  with_reducible rfl
                (try simp only [glA, glB, glC, Act.put, glD, glE, glF])
                refine wpAnyJ_take 10 (v := ?_) (by first | exact hF | exact wideFn) hh rfl (by kernel_rfl) (by kernel_rfl) (by kernel_rfl) (by kernel_rfl) rfl ?_ (by first | exact fun _ _ _ h => h | exact fun _ _ _ h => hQ2 _ _ _ _ _ h) ?_
                rotate_left
                · intro W hSW
                  simp only [glA, glB, glC]
                  (try dsimp only at hSW)
                  go_simp
                  with_reducible rfl
                (try simp only [glA, glB, glC, Act.put, glD, glE, glF])
                by_cases q1 : ch < 0
                · have HNO : Hid (schB s = false) := hide (sch_no3 HJN.out HRR.out (by
                    rw [HRV.out]
                    exact all_take_no _ _ HMN.out (0, 0) (by rw [HTK.out, HV.out]; exact decide_eq_false (by omega))))
                  refine wpAnyJ_take 11 (v := ?_) (by first | exact hF | exact wideFn) hh rfl (by kernel_rfl) (by kernel_rfl) (by kernel_rfl) (by kernel_rfl) rfl ?_ (by first | exact fun _ _ _ h => h | exact fun _ _ _ h => hQ2 _ _ _ _ _ h) ?_
                  rotate_left
                  · intro W hSW
                    simp only [glA, glB, glC]
                    (try dsimp only at hSW)
                    go_simp
                    with_reducible rfl
                  (try simp only [glA, glB, glC, Act.put, glD, glE, glF])
                  refine wpAnyJ_take 12 (v := ?_) (by first | exact hF | exact wideFn) hh rfl (by kernel_rfl) (by kernel_rfl) (by kernel_rfl) (by kernel_rfl) rfl ?_ (by first | exact fun _ _ _ h => h | exact fun _ _ _ h => hQ2 _ _ _ _ _ h) ?_
                  rotate_left
                  · intro W hSW
                    simp only [glA, glB, glC]
                    (try dsimp only at hSW)
                    go_simp
                    with_reducible rfl
                  (try simp only [glA, glB, glC, Act.put, glD, glE, glF])
                  refine wpAnyJ_take 13 (v := ?_) (by first | exact hF | exact wideFn) hh rfl (by kernel_rfl) (by kernel_rfl) (by kernel_rfl) (by kernel_rfl) rfl ?_ (by first | exact fun _ _ _ h => h | exact fun _ _ _ h => hQ2 _ _ _ _ _ h) ?_
                  rotate_left
                  · intro W hSW
                    simp only [glA, glB, glC]
                    (try dsimp only at hSW)
                    go_simp
                    with_reducible rfl
                  (try simp only [glA, glB, glC, Act.put, glD, glE, glF])
                  refine wpAnyJ_take 14 (v := ?_) (by first | exact hF | exact wideFn) hh rfl (by kernel_rfl) (by kernel_rfl) (by kernel_rfl) (by kernel_rfl) rfl ?_ (by first | exact fun _ _ _ h => h | exact fun _ _ _ h => hQ2 _ _ _ _ _ h) ?_
                  rotate_left
                  · intro W hSW
                    simp only [glA, glB, glC]
                    (try dsimp only at hSW)
                    go_simp
                    with_reducible rfl
                  (try simp only [glA, glB, glC, Act.put, glD, glE, glF])
                  refine wpAnyJ_take 15 (v := ?_) (by first | exact hF | exact wideFn) hh rfl (by kernel_rfl) (by kernel_rfl) (by kernel_rfl) (by kernel_rfl) rfl ?_ (by first | exact fun _ _ _ h => h | exact fun _ _ _ h => hQ2 _ _ _ _ _ h) ?_
                  rotate_left
                  · intro W hSW
                    simp only [glA, glB, glC]
                    (try dsimp only at hSW)
                    go_simp
                    with_reducible rfl
                  (try simp only [glA, glB, glC, Act.put, glD, glE, glF])
                  refine wpAnyJ_take 16 (v := ?_) (by first | exact hF | exact wideFn) hh rfl (by kernel_rfl) (by kernel_rfl) (by kernel_rfl) (by kernel_rfl) rfl ?_ (by first | exact fun _ _ _ h => h | exact fun _ _ _ h => hQ2 _ _ _ _ _ h) ?_
                  rotate_left
                  · intro W hSW
                    simp only [glA, glB, glC]
                    (try dsimp only at hSW)
                    go_simp
                    with_reducible rfl
                  (try simp only [glA, glB, glC, Act.put, glD, glE, glF])
                  refine wpAnyJ_skip 17 (by first | exact hF | exact wideFn) hh rfl (by kernel_rfl) (by kernel_rfl) (by kernel_rfl) (by kernel_rfl) rfl (by first | exact fun _ _ _ h => h | exact fun _ _ _ h => hQ2 _ _ _ _ _ h) ?_
                  (try simp only [glA, glB, glC, Act.put, glD, glE, glF])
                  refine wpAnyJ_skip 18 (by first | exact hF | exact wideFn) hh rfl (by kernel_rfl) (by kernel_rfl) (by kernel_rfl) (by kernel_rfl) rfl (by first | exact fun _ _ _ h => h | exact fun _ _ _ h => hQ2 _ _ _ _ _ h) ?_
                  (try simp only [glA, glB, glC, Act.put, glD, glE, glF])
                  refine wpAnyJ_skip 19 (by first | exact hF | exact wideFn) hh rfl (by kernel_rfl) (by kernel_rfl) (by kernel_rfl) (by kernel_rfl) rfl (by first | exact fun _ _ _ h => h | exact fun _ _ _ h => hQ2 _ _ _ _ _ h) ?_
                  (try simp only [glA, glB, glC, Act.put, glD, glE, glF])
                  refine wpAnyJ_skip 20 (by first | exact hF | exact wideFn) hh rfl (by kernel_rfl) (by kernel_rfl) (by kernel_rfl) (by kernel_rfl) rfl (by first | exact fun _ _ _ h => h | exact fun _ _ _ h => hQ2 _ _ _ _ _ h) ?_
                  (try simp only [glA, glB, glC, Act.put, glD, glE, glF])
                  refine wpAnyJ_skip 21 (by first | exact hF | exact wideFn) hh rfl (by kernel_rfl) (by kernel_rfl) (by kernel_rfl) (by kernel_rfl) rfl (by first | exact fun _ _ _ h => h | exact fun _ _ _ h => hQ2 _ _ _ _ _ h) ?_
                  (try simp only [glA, glB, glC, Act.put, glD, glE, glF])
                  refine wpAnyJ_skip 22 (by first | exact hF | exact wideFn) hh rfl (by kernel_rfl) (by kernel_rfl) (by kernel_rfl) (by kernel_rfl) rfl (by first | exact fun _ _ _ h => h | exact fun _ _ _ h => hQ2 _ _ _ _ _ h) ?_
                  (try simp only [glA, glB, glC, Act.put, glD, glE, glF])
                  refine wpAnyJ_skip 23 (by first | exact hF | exact wideFn) hh rfl (by kernel_rfl) (by kernel_rfl) (by kernel_rfl) (by kernel_rfl) rfl (by first | exact fun _ _ _ h => h | exact fun _ _ _ h => hQ2 _ _ _ _ _ h) ?_
                  (try simp only [glA, glB, glC, Act.put, glD, glE, glF])
                  refine wpAnyJ_skip 24 (by first | exact hF | exact wideFn) hh rfl (by kernel_rfl) (by kernel_rfl) (by kernel_rfl) (by kernel_rfl) rfl (by first | exact fun _ _ _ h => h | exact fun _ _ _ h => hQ2 _ _ _ _ _ h) ?_
                  (try simp only [glA, glB, glC, Act.put, glD, glE, glF])
                  refine wpAnyJ_skip 25 (by first | exact hF | exact wideFn) hh rfl (by kernel_rfl) (by kernel_rfl) (by kernel_rfl) (by kernel_rfl) rfl (by first | exact fun _ _ _ h => h | exact fun _ _ _ h => hQ2 _ _ _ _ _ h) ?_
                  (try simp only [glA, glB, glC, Act.put, glD, glE, glF])
                  refine wpAnyJ_skip 26 (by first | exact hF | exact wideFn) hh rfl (by kernel_rfl) (by kernel_rfl) (by kernel_rfl) (by kernel_rfl) rfl (by first | exact fun _ _ _ h => h | exact fun _ _ _ h => hQ2 _ _ _ _ _ h) ?_
                  (try simp only [glA, glB, glC, Act.put, glD, glE, glF])
                  refine wpAnyJ_skip 27 (by first | exact hF | exact wideFn) hh rfl (by kernel_rfl) (by kernel_rfl) (by kernel_rfl) (by kernel_rfl) rfl (by first | exact fun _ _ _ h => h | exact fun _ _ _ h => hQ2 _ _ _ _ _ h) ?_
                  (try simp only [glA, glB, glC, Act.put, glD, glE, glF])
                  refine wpAnyJ_skip 28 (by first | exact hF | exact wideFn) hh rfl (by kernel_rfl) (by kernel_rfl) (by kernel_rfl) (by kernel_rfl) rfl (by first | exact fun _ _ _ h => h | exact fun _ _ _ h => hQ2 _ _ _ _ _ h) ?_
                  (try simp only [glA, glB, glC, Act.put, glD, glE, glF])
                  refine wpAnyJ_take 29 (v := ?_) (by first | exact hF | exact wideFn) hh rfl (by kernel_rfl) (by kernel_rfl) (by kernel_rfl) (by kernel_rfl) rfl ?_ (by first | exact fun _ _ _ h => h | exact fun _ _ _ h => hQ2 _ _ _ _ _ h) ?_
                  rotate_left
                  · intro W hSW
                    simp only [glA, glB, glC]
                    (try dsimp only at hSW)
                    go_simp
                    with_reducible rfl
                  (try simp only [glA, glB, glC, Act.put, glD, glE, glF])
                  refine wpAnyJ_done (by kernel_rfl) ?_
                  go_wp2_with fail
                  go_ret
                  exact ⟨ret_bool (Eq.symm HNO.out), HBF.out⟩
                · have HC := hide (tab_at wd n14)
                  obtain ⟨P, hP⟩ : ∃ P : Nat, 2 ^ n = P := ⟨_, rfl⟩
                  rw [hP] at HV HC
                  clear hP
                  have hB2 : Below wd.heap.size wd (wd.alloc (.cells #[.int .i64 1, .int .i64 2, .int .i64 4, .int .i64 8, .int .i64 16] 3)) := (Below.refl _ _).alloc (Nat.le_refl _) _
                  have hh2 : ((wd.alloc (.cells #[.int .i64 1, .int .i64 2, .int .i64 4, .int .i64 8, .int .i64 16] 3)).cell? ⟨T, 0, none⟩ = some (.int .i64 (F : Nat)) ∧ (wd.alloc (.cells #[.int .i64 1, .int .i64 2, .int .i64 4, .int .i64 8, .int .i64 16] 3)).cell? ⟨T, 1, none⟩ = some (.int .i64 ch) ∧ (wd.alloc (.cells #[.int .i64 1, .int .i64 2, .int .i64 4, .int .i64 8, .int .i64 16] 3)).cell? ⟨G, 0, none⟩ = some (.slice (some ⟨fb, fo, none⟩) k d.fc) ∧ (wd.alloc (.cells #[.int .i64 1, .int .i64 2, .int .i64 4, .int .i64 8, .int .i64 16] 3)).cell? ⟨fb, fo + F, none⟩ = some (.int .i64 (n : Nat))) := ⟨(hB2.cell (cell_lt hh.1)).trans hh.1, (hB2.cell (cell_lt hh.2.1)).trans hh.2.1, (hB2.cell (cell_lt hh.2.2.1)).trans hh.2.2.1, (hB2.cell (cell_lt hh.2.2.2)).trans hh.2.2.2⟩
                  have HBF3 := hide (HBF.out.alloc HBF.out.size (.cells #[.int .i64 1, .int .i64 2, .int .i64 4, .int .i64 8, .int .i64 16] 3))
                  have HBd3 := hide (HBd.out.alloc HBd.out.size (.cells #[.int .i64 1, .int .i64 2, .int .i64 4, .int .i64 8, .int .i64 16] 3))
                  have HC2 := HC.out
                  clear hB2 HC
                  refine wpAnyJ_take 11 (v := ?_) (by first | exact hF | exact wideFn) hh rfl (by kernel_rfl) (by kernel_rfl) (by kernel_rfl) (by kernel_rfl) rfl ?_ (by first | exact fun _ _ _ h => h | exact fun _ _ _ h => hQ2 _ _ _ _ _ h) ?_
                  rotate_left
                  · intro W hSW
                    simp only [glA, glB, glC]
                    (try dsimp only at hSW)
                    go_simp
                    with_reducible rfl
                  (try simp only [glA, glB, glC, Act.put, glD, glE, glF])
                  refine wpAnyJ_take 12 (v := ?_) (by first | exact hF | exact wideFn) hh rfl (by kernel_rfl) (by kernel_rfl) (by kernel_rfl) (by kernel_rfl) rfl ?_ (by first | exact fun _ _ _ h => h | exact fun _ _ _ h => hQ2 _ _ _ _ _ h) ?_
                  rotate_left
                  · intro W hSW
                    simp only [glA, glB, glC]
                    (try dsimp only at hSW)
                    go_simp
                    with_reducible rfl
                  (try simp only [glA, glB, glC, Act.put, glD, glE, glF])
                  refine wpAnyJ_take 13 (v := ?_) (by first | exact hF | exact wideFn) hh rfl (by kernel_rfl) (by kernel_rfl) (by kernel_rfl) (by kernel_rfl) rfl ?_ (by first | exact fun _ _ _ h => h | exact fun _ _ _ h => hQ2 _ _ _ _ _ h) ?_
                  rotate_left
                  · intro W hSW
                    simp only [glA, glB, glC]
                    (try dsimp only at hSW)
                    go_simp
                    with_reducible rfl
                  (try simp only [glA, glB, glC, Act.put, glD, glE, glF])
                  refine wpAnyJ_take 14 (v := ?_) (by first | exact hF | exact wideFn) hh rfl (by kernel_rfl) (by kernel_rfl) (by kernel_rfl) (by kernel_rfl) rfl ?_ (by first | exact fun _ _ _ h => h | exact fun _ _ _ h => hQ2 _ _ _ _ _ h) ?_
                  rotate_left
                  · intro W hSW
                    simp only [glA, glB, glC]
                    (try dsimp only at hSW)
                    go_simp
                    with_reducible rfl
                  (try simp only [glA, glB, glC, Act.put, glD, glE, glF])
                  refine wpAnyJ_take 15 (v := ?_) (by first | exact hF | exact wideFn) hh rfl (by kernel_rfl) (by kernel_rfl) (by kernel_rfl) (by kernel_rfl) rfl ?_ (by first | exact fun _ _ _ h => h | exact fun _ _ _ h => hQ2 _ _ _ _ _ h) ?_
                  rotate_left
                  · intro W hSW
                    simp only [glA, glB, glC]
                    (try dsimp only at hSW)
                    go_simp
                    with_reducible rfl
                  (try simp only [glA, glB, glC, Act.put, glD, glE, glF])
                  refine wpAnyJ_take 16 (v := ?_) (by first | exact hF | exact wideFn) hh rfl (by kernel_rfl) (by kernel_rfl) (by kernel_rfl) (by kernel_rfl) rfl ?_ (by first | exact fun _ _ _ h => h | exact fun _ _ _ h => hQ2 _ _ _ _ _ h) ?_
                  rotate_left
                  · intro W hSW
                    simp only [glA, glB, glC]
                    (try dsimp only at hSW)
                    go_simp
                    with_reducible rfl
                  (try simp only [glA, glB, glC, Act.put, glD, glE, glF])
                  refine wpAnyJ_take 17 (v := ?_) (by first | exact hF | exact wideFn) hh rfl (by kernel_rfl) (by kernel_rfl) (by kernel_rfl) (by kernel_rfl) rfl ?_ (by first | exact fun _ _ _ h => h | exact fun _ _ _ h => hQ2 _ _ _ _ _ h) ?_
                  rotate_left
                  · intro W hSW
                    simp only [glA, glB, glC]
                    (try dsimp only at hSW)
                    go_simp
                    with_reducible rfl
                  (try simp only [glA, glB, glC, Act.put, glD, glE, glF])
                  refine wpAnyJ_take 18 (v := ?_) (by first | exact hF | exact wideFn) hh rfl (by kernel_rfl) (by kernel_rfl) (by kernel_rfl) (by kernel_rfl) rfl ?_ (by first | exact fun _ _ _ h => h | exact fun _ _ _ h => hQ2 _ _ _ _ _ h) ?_
                  rotate_left
                  · intro W hSW
                    simp only [glA, glB, glC]
                    (try dsimp only at hSW)
                    go_simp
                    with_reducible rfl
                  (try simp only [glA, glB, glC, Act.put, glD, glE, glF])
                  refine wpAnyJ_take 20 (v := ?_) (by first | exact hF | exact wideFn) hh rfl (by kernel_rfl) (by kernel_rfl) (by kernel_rfl) (by kernel_rfl) rfl ?_ (by first | exact fun _ _ _ h => h | exact fun _ _ _ h => hQ2 _ _ _ _ _ h) ?_
                  rotate_left
                  · intro W hSW
                    simp only [glA, glB, glC]
                    (try dsimp only at hSW)
                    go_simp
                    with_reducible rfl
                  (try simp only [glA, glB, glC, Act.put, glD, glE, glF])
                  refine wpAnyJ_take 21 (v := ?_) (by first | exact hF | exact wideFn) hh rfl (by kernel_rfl) (by kernel_rfl) (by kernel_rfl) (by kernel_rfl) rfl ?_ (by first | exact fun _ _ _ h => h | exact fun _ _ _ h => hQ2 _ _ _ _ _ h) ?_
                  rotate_left
                  · intro W hSW
                    simp only [glA, glB, glC]
                    (try dsimp only at hSW)
                    go_simp
                    with_reducible rfl
                  (try simp only [glA, glB, glC, Act.put, glD, glE, glF])
                  refine wpAnyJ_take 22 (v := ?_) (by first | exact hF | exact wideFn) hh rfl (by kernel_rfl) (by kernel_rfl) (by kernel_rfl) (by kernel_rfl) rfl ?_ (by first | exact fun _ _ _ h => h | exact fun _ _ _ h => hQ2 _ _ _ _ _ h) ?_
                  rotate_left
                  · intro W hSW
                    simp only [glA, glB, glC]
                    (try dsimp only at hSW)
                    go_simp
                    with_reducible rfl
                  (try simp only [glA, glB, glC, Act.put, glD, glE, glF])
                  refine wpAnyJ_take 23 (v := ?_) (by first | exact hF | exact wideFn) hh rfl (by kernel_rfl) (by kernel_rfl) (by kernel_rfl) (by kernel_rfl) rfl ?_ (by first | exact fun _ _ _ h => h | exact fun _ _ _ h => hQ2 _ _ _ _ _ h) ?_
                  rotate_left
                  · intro W hSW
                    simp only [glA, glB, glC]
                    (try dsimp only at hSW)
                    go_simp
                    with_reducible rfl
                  (try simp only [glA, glB, glC, Act.put, glD, glE, glF])
                  refine wpAnyJ_take 24 (v := ?_) (by first | exact hF | exact wideFn) hh rfl (by kernel_rfl) (by kernel_rfl) (by kernel_rfl) (by kernel_rfl) rfl ?_ (by first | exact fun _ _ _ h => h | exact fun _ _ _ h => hQ2 _ _ _ _ _ h) ?_
                  rotate_left
                  · intro W hSW
                    simp only [glA, glB, glC]
                    (try dsimp only at hSW)
                    go_simp
                    with_reducible rfl
                  (try simp only [glA, glB, glC, Act.put, glD, glE, glF])
                  refine wpAnyJ_take 25 (v := ?_) (by first | exact hF | exact wideFn) hh rfl (by kernel_rfl) (by kernel_rfl) (by kernel_rfl) (by kernel_rfl) rfl ?_ (by first | exact fun _ _ _ h => h | exact fun _ _ _ h => hQ2 _ _ _ _ _ h) ?_
                  rotate_left
                  · intro W hSW
                    simp only [glA, glB, glC]
                    (try dsimp only at hSW)
                    go_simp
                    with_reducible rfl
                  (try simp only [glA, glB, glC, Act.put, glD, glE, glF])
                  refine wpAnyJ_one 19 rfl (by kernel_rfl) (fun K hK => ?_)
                  simp only [glA, glB, glC]
                  go_simp
                  refine hK.out _ _ (fun _ => hh2) ?_
                  clear hK K
                  (try simp only [glA, glB, glC, Act.put, glD, glE, glF])
                  generalize (wd.alloc (.cells #[.int .i64 1, .int .i64 2, .int .i64 4, .int .i64 8, .int .i64 16] 3)) = we at hh2 HBF3 HBd3 HC2 ⊢
                  refine wpAnyJ_take 26 (v := ?_) (by first | exact hF | exact wideFn) hh2 rfl (by kernel_rfl) (by kernel_rfl) (by kernel_rfl) (by kernel_rfl) rfl ?_ (by first | exact fun _ _ _ h => h | exact fun _ _ _ h => hQ2 _ _ _ _ _ h) ?_
                  rotate_left
                  · intro W hSW
                    simp only [glA, glB, glC]
                    (try dsimp only at hSW)
                    go_simp
                    with_reducible rfl
                  (try simp only [glA, glB, glC, Act.put, glD, glE, glF])
                  refine wpAnyJ_one 27 rfl (by kernel_rfl) (fun K hK => ?_)
                  simp only [glA, glB, glC]
                  go_simp
                  refine hK.out _ _ (fun _ => hh2) ?_
                  clear hK K
                  (try simp only [glA, glB, glC, Act.put, glD, glE, glF])
                  by_cases q2 : (P : Int) ≤ ch
                  · have HNO : Hid (schB s = false) := hide (sch_no3 HJN.out HRR.out (by
                      rw [HRV.out]
                      exact all_take_no _ _ HMN.out (0, 0) (by rw [HTK.out, HV.out]; exact decide_eq_false (by omega))))
                    refine wpAnyJ_take 28 (v := ?_) (by first | exact hF | exact wideFn) hh2 rfl (by kernel_rfl) (by kernel_rfl) (by kernel_rfl) (by kernel_rfl) rfl ?_ (by first | exact fun _ _ _ h => h | exact fun _ _ _ h => hQ2 _ _ _ _ _ h) ?_
                    rotate_left
                    · intro W hSW
                      simp only [glA, glB, glC]
                      (try dsimp only at hSW)
                      go_simp
                      with_reducible rfl
                    (try simp only [glA, glB, glC, Act.put, glD, glE, glF])
                    refine wpAnyJ_take 29 (v := ?_) (by first | exact hF | exact wideFn) hh2 rfl (by kernel_rfl) (by kernel_rfl) (by kernel_rfl) (by kernel_rfl) rfl ?_ (by first | exact fun _ _ _ h => h | exact fun _ _ _ h => hQ2 _ _ _ _ _ h) ?_
                    rotate_left
                    · intro W hSW
                      simp only [glA, glB, glC]
                      (try dsimp only at hSW)
                      go_simp
                      with_reducible rfl
                    (try simp only [glA, glB, glC, Act.put, glD, glE, glF])
                    refine wpAnyJ_done (by kernel_rfl) ?_
                    go_wp2_with fail
                    go_ret
                    exact ⟨ret_bool (Eq.symm HNO.out), HBF3.out⟩
                  · have HX2 : Hid ((r.when_.take (m + 1)).all (tstB s.fs.length (evF s.fs)) = true) := hide (all_take_succ _ _ HMN.out (0, 0) (by rw [HTK.out, HV.out]; exact decide_eq_true (by omega)) HX.out)
                    refine wpAnyJ_take 28 (v := ?_) (by first | exact hF | exact wideFn) hh2 rfl (by kernel_rfl) (by kernel_rfl) (by kernel_rfl) (by kernel_rfl) rfl ?_ (by first | exact fun _ _ _ h => h | exact fun _ _ _ h => hQ2 _ _ _ _ _ h) ?_
                    rotate_left
                    · intro W hSW
                      simp only [glA, glB, glC]
                      (try dsimp only at hSW)
                      go_simp
                      with_reducible rfl
                    (try simp only [glA, glB, glC, Act.put, glD, glE, glF])
                    refine wpAnyJ_take 29 (v := ?_) (by first | exact hF | exact wideFn) hh2 rfl (by kernel_rfl) (by kernel_rfl) (by kernel_rfl) (by kernel_rfl) rfl ?_ (by first | exact fun _ _ _ h => h | exact fun _ _ _ h => hQ2 _ _ _ _ _ h) ?_
                    rotate_left
                    · intro W hSW
                      simp only [glA, glB, glC]
                      (try dsimp only at hSW)
                      go_simp
                      with_reducible rfl
                    (try simp only [glA, glB, glC, Act.put, glD, glE, glF])
                    refine wpAnyJ_done (by kernel_rfl) ?_
                    go_wp2_with fail
                    go_roundw
                    case rel => exact ⟨m + 1, by omega, by go_num, HX2, HBd3⟩
                    case measure => simp [intOf]; omega
                -- END5
              -- END4
            · obtain rfl : m = nt := by omega
              have hnl : ¬ (m : Int) < (m : Int) := by omega
              have hall : rlB s.fs.length s.q (evF s.fs) r = true := by
                rw [HRV.out]
                have h := HX.out
                rwa [List.take_of_length_le (by rw [HRN.out.1]; exact Nat.le_refl _)] at h
              have HR2 : Hid ((s.rs.take (j + 1)).all (rlB s.fs.length s.q (evF s.fs)) = true) := hide (all_take_succ _ _ HJN.out r0 (by rw [HRR.out]; exact hall) HR.out)
              clear hall
              go_wp2_with fail
              go_roundw
              case rel => exact ⟨j + 1, by omega, by go_num, HR2, HBX2⟩
              case measure => simp [intOf]; omega
          -- END3
        · obtain rfl : j = nr := by omega
          have hnl : ¬ (j : Int) < (j : Int) := by omega
          have HYES : Hid (schB s = true) := hide (sch_yes (by rw [HN.out.1, HN.out.2.1, HN.out.2.2]; exact HBD.out) HFS.out (by
            have h := HR.out
            rwa [List.take_of_length_le (by rw [HN.out.2.1]; exact Nat.le_refl _)] at h))
          go_wp2_with fail
          go_ret
          exact ⟨ret_bool (Eq.symm HYES.out), HBF.out⟩
end Go.Proofs.YtmpegkojencbjaaDoor
/- School: the law SchoolTells, walked. -/
namespace Go.Proofs.YtmpegkojencbjaaDoor
open List renaming getElem_toArray → glA, getElem_cons_zero → glB, getElem_cons_succ → glC, setIfInBounds_toArray → glD, set_cons_zero → glE, set_cons_succ → glF
open Go Go.RowKit Go.Shelf
set_option maxHeartbeats 40000000
set_option maxRecDepth 100000
/-- whether two schools can be compared -/
def cmB (s t : Sch) (q : Int) : Bool := decide (schB t = true ∧ (0 ≤ q ∧ q < s.q ∧ q < t.q) ∧ s.fs = t.fs)
/-- the first case of n in which they differ, as it is kept -/
def frF (s t : Sch) (q : Int) (n : Nat) : Int := if cmB s t q then (match dfK s t q n with | some k => (k : Int) | none => -1) else -1
theorem frF_zero (s t : Sch) (q : Int) : frF s t q 0 = -1 := by
  unfold frF
  split <;> rfl
theorem frF_no {s t : Sch} {q : Int} {n : Nat} (h : cmB s t q = false) : frF s t q n = -1 := by
  unfold frF
  rw [if_neg (by rw [h]; decide)]
theorem frF_keep {s t : Sch} {q : Int} {n : Nat} (h : ¬ frF s t q n < 0) : frF s t q (n + 1) = frF s t q n := by
  unfold frF at h ⊢
  by_cases hc : cmB s t q = true
  · rw [if_pos hc] at h ⊢
    rw [if_pos hc]
    show (match (match dfK s t q n with | some k => some k | none => if vdF s q n = vdF t q n then none else some n) with | some k => (k : Int) | none => -1) = _
    cases hk : dfK s t q n with
    | none => rw [hk] at h; exact absurd h (by decide)
    | some k => rfl
  · rw [if_neg hc] at h
    exact absurd h (by decide)
theorem frF_bd (s t : Sch) (q : Int) : ∀ n, -1 ≤ frF s t q n ∧ frF s t q n < (n : Int) := by
  intro n
  unfold frF
  split
  · rcases dfK_is (s := s) (t := t) (q := q) n with ⟨h, -⟩ | ⟨k, hk, h, -⟩ <;> rw [h] <;> dsimp only <;> omega
  · omega
theorem frF_step {s t : Sch} {q : Int} {n : Nat} (hc : cmB s t q = true) (h : frF s t q n < 0) : frF s t q (n + 1) = if vdF s q n = vdF t q n then -1 else (n : Int) := by
  unfold frF at h ⊢
  rw [if_pos hc] at h ⊢
  show (match (match dfK s t q n with | some k => some k | none => if vdF s q n = vdF t q n then none else some n) with | some k => (k : Int) | none => -1) = _
  cases hk : dfK s t q n with
  | none =>
    dsimp only
    by_cases e : vdF s q n = vdF t q n
    · rw [if_pos e, if_pos e]
    · rw [if_neg e, if_neg e]
  | some k => rw [hk] at h; dsimp only at h; omega
/-- what Differ returns, by what is kept -/
theorem frF_dfR {s t : Sch} {q : Int} (hs : schB s = true) (hc : cmB s t q = true) :
    (frF s t q (pr s.fs s.fs.length) = -1 ∧ dfR s t q = ([], 7)) ∨ ∃ k, k < pr s.fs s.fs.length ∧ frF s t q (pr s.fs s.fs.length) = (k : Nat) ∧ dfR s t q = (clL s.fs k, 0) := by
  have h := of_decide_eq_true hc
  obtain ⟨ht, ⟨h0, h1, h2⟩, hf⟩ := h
  have hb : (schB s && schB t) = true := by rw [hs, ht]; rfl
  have hq : 0 ≤ q ∧ q ≤ min s.q t.q - 1 := by omega
  unfold frF
  rw [if_pos hc]
  rcases dfK_is (s := s) (t := t) (q := q) (pr s.fs s.fs.length) with ⟨h3, -⟩ | ⟨k, hk, h3, -⟩
  · exact .inl ⟨by rw [h3], dfR_none hb hq hf h3⟩
  · exact .inr ⟨k, hk, by rw [h3], dfR_some hb hq hf h3⟩
theorem gpN_bd (s : Sch) (q z : Int) : ∀ n, 0 ≤ gpN s q z n ∧ gpN s q z n ≤ (n : Int)
  | 0 => ⟨Int.le_refl _, Int.le_refl _⟩
  | n + 1 => by
    have ih := gpN_bd s q z n
    show 0 ≤ gpN s q z n + _ ∧ gpN s q z n + _ ≤ _
    split <;> omega
theorem equal_same (A B : Option Addr) (c d n : Nat) (l : List Int) (w : World) (hn : l.length = n) (hl : l.length ≤ maxLen) (hA : LI w w.heap.size A l) (hB : LI w w.heap.size B l) :
    Calls Tryd.prog 26 #[.slice A n c, .slice B n d] w fun e w' => e = .returned (.bool true) ∧ Below w.heap.size w w' := by
  have h := equal_any A B c d l l w hl hA hB
  rw [decide_eq_true rfl, hn] at h
  exact h
theorem tells_any (d d' : Ad_) (s t : Sch) (q : Int) (w : World) (hz : ScZ s) (hz' : ScZ t) (hi : ScI s) (hi' : ScI t) (hd : ScR w w.heap.size d s) (hd' : ScR w w.heap.size d' t) :
    Calls Tryd.prog 8 #[scV d s, scV d' t, .int .i64 q] w fun e w' => e = .returned (.bool true) ∧ Below w.heap.size w w' := by
  have HZ := hide hz
  have HZ' := hide hz'
  have HI := hide hi
  have HI' := hide hi'
  obtain ⟨nf, hf⟩ : ∃ n, s.fs.length = n := ⟨_, rfl⟩
  obtain ⟨nr, hr⟩ : ∃ n, s.rs.length = n := ⟨_, rfl⟩
  obtain ⟨Q, hQ⟩ : ∃ n, s.q = n := ⟨_, rfl⟩
  obtain ⟨nf', hf'⟩ : ∃ n, t.fs.length = n := ⟨_, rfl⟩
  obtain ⟨nr', hr'⟩ : ∃ n, t.rs.length = n := ⟨_, rfl⟩
  obtain ⟨Q', hQ'⟩ : ∃ n, t.q = n := ⟨_, rfl⟩
  have HN := hide (And.intro hf (And.intro hr hQ))
  have HN' := hide (And.intro hf' (And.intro hr' hQ'))
  have es : scV d s = .agg #[.slice d.fa nf d.fc, .int .i64 Q, .slice d.ra nr d.rc] := by unfold scV; rw [hf, hr, hQ]
  have et : scV d' t = .agg #[.slice d'.fa nf' d'.fc, .int .i64 Q', .slice d'.ra nr' d'.rc] := by unfold scV; rw [hf', hr', hQ']
  rw [es, et]
  have k3 : Blk ((w.alloc (.cells #[.slice d.fa nf d.fc, .int .i64 Q, .slice d.ra nr d.rc] 47)).alloc (.cells #[.slice d'.fa nf' d'.fc, .int .i64 Q', .slice d'.ra nr' d'.rc] 47)) w.heap.size 47 #[.slice d.fa nf d.fc, .int .i64 Q, .slice d.ra nr d.rc] := (Blk.new w _ _).alloc _
  have k4 : Blk ((w.alloc (.cells #[.slice d.fa nf d.fc, .int .i64 Q, .slice d.ra nr d.rc] 47)).alloc (.cells #[.slice d'.fa nf' d'.fc, .int .i64 Q', .slice d'.ra nr' d'.rc] 47)) (w.heap.size + 1) 47 #[.slice d'.fa nf' d'.fc, .int .i64 Q', .slice d'.ra nr' d'.rc] := by simpa using Blk.new (w.alloc (.cells #[.slice d.fa nf d.fc, .int .i64 Q, .slice d.ra nr d.rc] 47)) 47 #[.slice d'.fa nf' d'.fc, .int .i64 Q', .slice d'.ra nr' d'.rc]
  have HB0 : Hid (Below w.heap.size w ((w.alloc (.cells #[.slice d.fa nf d.fc, .int .i64 Q, .slice d.ra nr d.rc] 47)).alloc (.cells #[.slice d'.fa nf' d'.fc, .int .i64 Q', .slice d'.ra nr' d'.rc] 47))) := hide (((Below.refl _ _).alloc (Nat.le_refl _) _).alloc (by simp) _)
  have HD := hide (hd.below HB0.out)
  have HD' := hide (hd'.below HB0.out)
  have HES := hide (And.intro es et)
  clear hd hd' hz hz' hi hi' hf hr hQ hf' hr' hQ' es et
  go_enter Tryd.func8, Tryd.ntmps8
  go_upto_region 1 with fail
  generalize ((w.alloc (.cells #[.slice d.fa nf d.fc, .int .i64 Q, .slice d.ra nr d.rc] 47)).alloc (.cells #[.slice d'.fa nf' d'.fc, .int .i64 Q', .slice d'.ra nr' d'.rc] 47)) = w1 at k3 k4 HB0 HD HD' ⊢
  obtain ⟨G, hG⟩ : ∃ x, w.heap.size = x := ⟨_, rfl⟩
  obtain ⟨G', hG'⟩ : ∃ x, G + 1 = x := ⟨_, rfl⟩
  rw [hG] at k3 k4 ⊢
  rw [hG'] at k4 ⊢
  have HSB : Hid (∀ W, Below w1.heap.size w1 W → ((W.cell? ⟨G, 0, none⟩ = some (.slice d.fa nf d.fc) ∧ W.cell? ⟨G, 1, none⟩ = some (.int .i64 Q) ∧ W.cell? ⟨G, 2, none⟩ = some (.slice d.ra nr d.rc)) ∧ (W.cell? ⟨G', 0, none⟩ = some (.slice d'.fa nf' d'.fc) ∧ W.cell? ⟨G', 1, none⟩ = some (.int .i64 Q') ∧ W.cell? ⟨G', 2, none⟩ = some (.slice d'.ra nr' d'.rc)))) := hide fun W h => by
    obtain ⟨-, q0, q1, q2, -⟩ := blk3 (k3.ext h)
    obtain ⟨-, p0, p1, p2, -⟩ := blk3 (k4.ext h)
    exact ⟨⟨q0, q1, q2⟩, p0, p1, p2⟩
  clear k3 k4 hG hG'
  have HGS : Hid (∀ W, Below w1.heap.size w1 W → Calls Tryd.prog 29 #[.agg #[.slice d.fa nf d.fc, .int .i64 Q, .slice d.ra nr d.rc]] W fun e w' => e = .returned (.bool (grB s)) ∧ Below W.heap.size W w') := hide fun W h => by
    have := great_any d s W (HD.out.below h) HZ.out
    rwa [HES.out.1] at this
  have HGT : Hid (∀ W, Below w1.heap.size w1 W → Calls Tryd.prog 29 #[.agg #[.slice d'.fa nf' d'.fc, .int .i64 Q', .slice d'.ra nr' d'.rc]] W fun e w' => e = .returned (.bool (grB t)) ∧ Below W.heap.size W w') := hide fun W h => by
    have := great_any d' t W (HD'.out.below h) HZ'.out
    rwa [HES.out.2] at this
  have B1 : Hid (Below w1.heap.size w1 w1) := hide (Below.refl _ _)
  obtain ⟨⟨x0, x1, x2⟩, y0, y1, y2⟩ := HSB.out _ B1.out
  rcases hgs : grB s with _ | _
  rotate_left
  · as_aux_lemma =>
    rw [hgs] at HGS
    clear hgs
    go_wp2_with fail
    refine (HGS.out w1 B1.out).mono ?_
    rintro e w2 ⟨rfl, hb⟩
    have B2 := hide (B1.out.trans (hb.mono B1.out.size))
    clear hb
    (clear x0 x1 x2 y0 y1 y2)
    obtain ⟨⟨x0, x1, x2⟩, y0, y1, y2⟩ := HSB.out _ B2.out
    go_wp2_with fail
    refine (known_any w2).mono ?_
    rintro e wz ⟨rfl, hbz⟩
    go_wp2_with fail
    go_ret
    exact ⟨rfl, HB0.out.trans ((B2.out.trans (hbz.mono B2.out.size)).mono HB0.out.size)⟩
  rw [hgs] at HGS
  rcases hgt : grB t with _ | _
  rotate_left
  · as_aux_lemma =>
    rw [hgt] at HGT
    clear hgs hgt
    go_wp2_with fail
    refine (HGS.out w1 B1.out).mono ?_
    rintro e w2 ⟨rfl, hb⟩
    have B2 := hide (B1.out.trans (hb.mono B1.out.size))
    clear hb
    (clear x0 x1 x2 y0 y1 y2)
    obtain ⟨⟨x0, x1, x2⟩, y0, y1, y2⟩ := HSB.out _ B2.out
    go_wp2_with fail
    refine (HGT.out w2 B2.out).mono ?_
    rintro e w3 ⟨rfl, hb⟩
    have B3 := hide (B2.out.trans (hb.mono B2.out.size))
    clear hb
    (clear x0 x1 x2 y0 y1 y2)
    obtain ⟨⟨x0, x1, x2⟩, y0, y1, y2⟩ := HSB.out _ B3.out
    go_wp2_with fail
    refine (known_any w3).mono ?_
    rintro e wz ⟨rfl, hbz⟩
    go_wp2_with fail
    go_ret
    exact ⟨rfl, HB0.out.trans ((B3.out.trans (hbz.mono B3.out.size)).mono HB0.out.size)⟩
  rw [hgt] at HGT
  obtain ⟨b1, b2, b3⟩ := grB_no hgs
  obtain ⟨b4, b5, b6⟩ := grB_no hgt
  have HCS : Hid (∀ W, Below w1.heap.size w1 W → Calls Tryd.prog 31 #[.agg #[.slice d.fa nf d.fc, .int .i64 Q, .slice d.ra nr d.rc]] W fun e w' => ∃ d1, e = .returned (scV d1 s) ∧ ScR w' w'.heap.size d1 s ∧ Below W.heap.size W w') := hide fun W h => by
    have := copied_any d s W (HD.out.below h) (by omega) (by omega) (fun r hr => by have := b3 r hr; omega)
    rwa [HES.out.1] at this
  have HCT : Hid (∀ W, Below w1.heap.size w1 W → Calls Tryd.prog 31 #[.agg #[.slice d'.fa nf' d'.fc, .int .i64 Q', .slice d'.ra nr' d'.rc]] W fun e w' => ∃ d1, e = .returned (scV d1 t) ∧ ScR w' w'.heap.size d1 t ∧ Below W.heap.size W w') := hide fun W h => by
    have := copied_any d' t W (HD'.out.below h) (by omega) (by omega) (fun r hr => by have := b6 r hr; omega)
    rwa [HES.out.2] at this
  have HSC : Hid (∀ W, Below w1.heap.size w1 W → Calls Tryd.prog 33 #[.agg #[.slice d.fa nf d.fc, .int .i64 Q, .slice d.ra nr d.rc]] W fun e w' => e = .returned (.bool (schB s)) ∧ Below W.heap.size W w') := hide fun W h => by
    have := refSchool_any d s W (HD.out.below h) HZ.out HI.out
    rwa [HES.out.1] at this
  have HTC : Hid (∀ W, Below w1.heap.size w1 W → Calls Tryd.prog 33 #[.agg #[.slice d'.fa nf' d'.fc, .int .i64 Q', .slice d'.ra nr' d'.rc]] W fun e w' => e = .returned (.bool (schB t)) ∧ Below W.heap.size W w') := hide fun W h => by
    have := refSchool_any d' t W (HD'.out.below h) HZ'.out HI'.out
    rwa [HES.out.2] at this
  obtain ⟨⟨g1, g2, g3⟩, hg⟩ : ∃ r, gpR s q = r := ⟨_, rfl⟩
  obtain ⟨⟨L, E⟩, hst⟩ : ∃ r, dfR s t q = r := ⟨_, rfl⟩
  have HGA := hide hg
  have HDF := hide hst
  have hL : L.length ≤ 1000 := by
    have h1 : (dfR s t q).1.length ≤ s.fs.length := by
      unfold dfR
      split
      · split
        · split
          · split
            · exact Nat.le_of_eq (clL_len _ _)
            · exact Nat.zero_le _
          · exact Nat.zero_le _
        · exact Nat.zero_le _
      · exact Nat.zero_le _
    rw [hst] at h1
    have h2 : L.length ≤ s.fs.length := h1
    omega
  have HL := hide hL
  have hnf7 : nf ≤ 7 := by rw [← HN.out.1]; exact b1
  have HNF := hide hnf7
  clear hgs hgt b1 b2 b3 b4 b5 b6 hg hst hL hnf7
  go_wp2_with fail
  refine (HGS.out w1 B1.out).mono ?_
  rintro e w2 ⟨rfl, hb⟩
  have B2 := hide (B1.out.trans (hb.mono B1.out.size))
  clear hb
  (clear x0 x1 x2 y0 y1 y2)
  obtain ⟨⟨x0, x1, x2⟩, y0, y1, y2⟩ := HSB.out _ B2.out
  go_wp2_with fail
  refine (HGT.out w2 B2.out).mono ?_
  rintro e w3 ⟨rfl, hb⟩
  have B3 := hide (B2.out.trans (hb.mono B2.out.size))
  clear hb
  (clear x0 x1 x2 y0 y1 y2)
  obtain ⟨⟨x0, x1, x2⟩, y0, y1, y2⟩ := HSB.out _ B3.out
  go_wp2_with fail
  refine (HCS.out w3 B3.out).mono ?_
  rintro e w4 ⟨dp1, rfl, hdp1, hbp1⟩
  have B4 := hide (B3.out.trans (hbp1.mono B3.out.size))
  have Dp1 := hide hdp1
  have Gp1 := hide hbp1
  clear hdp1 hbp1
  (clear x0 x1 x2 y0 y1 y2)
  obtain ⟨⟨x0, x1, x2⟩, y0, y1, y2⟩ := HSB.out _ B4.out
  have HGP := Gaps_any dp1 s q w4 Dp1.out HZ.out.nf HZ.out.nr
  rw [HGA.out] at HGP
  unfold GpPost at HGP
  dsimp only at HGP
  have HGP := hide HGP
  clear Dp1 Gp1
  go_wp2_with fail
  refine HGP.out.mono ?_
  rintro e w5 ⟨rfl, hb⟩
  have B5 := hide (B4.out.trans (hb.mono B4.out.size))
  (clear hb x0 x1 x2 y0 y1 y2 HGP)
  -- Differ
  go_upto_region 4 with fail
  have Bd := hide (B5.out.trans ((Below.refl w5.heap.size w5).drew.mono B5.out.size))
  refine wp_region_J (fun W : World => ((W.cell? ⟨G, 0, none⟩ = some (.slice d.fa nf d.fc) ∧ W.cell? ⟨G, 1, none⟩ = some (.int .i64 Q) ∧ W.cell? ⟨G, 2, none⟩ = some (.slice d.ra nr d.rc)) ∧ (W.cell? ⟨G', 0, none⟩ = some (.slice d'.fa nf' d'.fc) ∧ W.cell? ⟨G', 1, none⟩ = some (.int .i64 Q') ∧ W.cell? ⟨G', 2, none⟩ = some (.slice d'.ra nr' d'.rc)))) (by kernel_rfl) ?_
  generalize w5.drew = wd at Bd ⊢
  refine wpAnyJ_take 0 (v := ?_) (by first | exact hF | exact wideFn) (HSB.out _ Bd.out) rfl (by kernel_rfl) (by kernel_rfl) (by kernel_rfl) (by kernel_rfl) rfl ?_ (by first | exact fun _ _ _ h => h | exact fun _ _ _ h => hQ2 _ _ _ _ _ h) ?_
  rotate_left
  · intro W hSW
    simp only [glA, glB, glC]
    (try dsimp only at hSW)
    go_simp
    with_reducible rfl
  (try simp only [glA, glB, glC, Act.put, glD, glE, glF])
  refine wpAnyJ_take 2 (v := ?_) (by first | exact hF | exact wideFn) (HSB.out _ Bd.out) rfl (by kernel_rfl) (by kernel_rfl) (by kernel_rfl) (by kernel_rfl) rfl ?_ (by first | exact fun _ _ _ h => h | exact fun _ _ _ h => hQ2 _ _ _ _ _ h) ?_
  rotate_left
  · intro W hSW
    simp only [glA, glB, glC]
    (try dsimp only at hSW)
    go_simp
    with_reducible rfl
  (try simp only [glA, glB, glC, Act.put, glD, glE, glF])
  refine wpAnyJ_take 4 (v := ?_) (by first | exact hF | exact wideFn) (HSB.out _ Bd.out) rfl (by kernel_rfl) (by kernel_rfl) (by kernel_rfl) (by kernel_rfl) rfl ?_ (by first | exact fun _ _ _ h => h | exact fun _ _ _ h => hQ2 _ _ _ _ _ h) ?_
  rotate_left
  · intro W hSW
    simp only [glA, glB, glC]
    (try dsimp only at hSW)
    go_simp
    with_reducible rfl
  (try simp only [glA, glB, glC, Act.put, glD, glE, glF])
  refine wpAnyJ_one 1 rfl (by kernel_rfl) (fun K hK => ?_)
  simp only [glA, glB, glC]
  go_simp
  refine ⟨trivial, rfl, ?_⟩
  (with_reducible refine (callsIn_wide.2 (HCS.out wd Bd.out)).mono ?_)
  rintro e we ⟨d1, rfl, hd1, hb1⟩
  have Be := hide (Bd.out.trans (hb1.mono Bd.out.size))
  dsimp only
  refine hK.out _ _ (fun _ => HSB.out _ Be.out) ?_
  clear hK K
  (try simp only [glA, glB, glC, Act.put, glD, glE, glF])
  refine wpAnyJ_one 3 rfl (by kernel_rfl) (fun K hK => ?_)
  simp only [glA, glB, glC]
  go_simp
  refine ⟨trivial, rfl, ?_⟩
  (with_reducible refine (callsIn_wide.2 (HCT.out we Be.out)).mono ?_)
  rintro e wf ⟨d2, rfl, hd2, hb2⟩
  have Bf := hide (Be.out.trans (hb2.mono Be.out.size))
  dsimp only
  refine hK.out _ _ (fun _ => HSB.out _ Bf.out) ?_
  clear hK K
  (try simp only [glA, glB, glC, Act.put, glD, glE, glF])
  have HD2 := Differ_any d1 d2 s t q wf (hd1.below hb2) hd2 HZ.out.nf HZ.out.nr HZ'.out.nf HZ'.out.nr
  rw [HDF.out] at HD2
  unfold DfPost at HD2
  dsimp only at HD2
  refine wpAnyJ_one 5 rfl (by kernel_rfl) (fun K hK => ?_)
  simp only [glA, glB, glC]
  go_simp
  refine ⟨trivial, rfl, ?_⟩
  (with_reducible refine (callsIn_wide.2 HD2).mono ?_)
  rintro e w6 ⟨vl, rfl, hol, hb3⟩
  have B6 := hide (Bf.out.trans (hb3.mono Bf.out.size))
  dsimp only
  refine hK.out _ _ (fun _ => HSB.out _ B6.out) ?_
  clear hK K
  (try simp only [glA, glB, glC, Act.put, glD, glE, glF])
  refine wpAnyJ_take 6 (v := ?_) (by first | exact hF | exact wideFn) (HSB.out _ B6.out) rfl (by kernel_rfl) (by kernel_rfl) (by kernel_rfl) (by kernel_rfl) rfl ?_ (by first | exact fun _ _ _ h => h | exact fun _ _ _ h => hQ2 _ _ _ _ _ h) ?_
  rotate_left
  · intro W hSW
    simp only [glA, glB, glC]
    (try dsimp only at hSW)
    go_simp
    with_reducible rfl
  (try simp only [glA, glB, glC, Act.put, glD, glE, glF])
  refine wpAnyJ_take 7 (v := ?_) (by first | exact hF | exact wideFn) (HSB.out _ B6.out) rfl (by kernel_rfl) (by kernel_rfl) (by kernel_rfl) (by kernel_rfl) rfl ?_ (by first | exact fun _ _ _ h => h | exact fun _ _ _ h => hQ2 _ _ _ _ _ h) ?_
  rotate_left
  · intro W hSW
    simp only [glA, glB, glC]
    (try dsimp only at hSW)
    go_simp
    with_reducible rfl
  (try simp only [glA, glB, glC, Act.put, glD, glE, glF])
  refine wpAnyJ_take 8 (v := ?_) (by first | exact hF | exact wideFn) (HSB.out _ B6.out) rfl (by kernel_rfl) (by kernel_rfl) (by kernel_rfl) (by kernel_rfl) rfl ?_ (by first | exact fun _ _ _ h => h | exact fun _ _ _ h => hQ2 _ _ _ _ _ h) ?_
  rotate_left
  · intro W hSW
    simp only [glA, glB, glC]
    (try dsimp only at hSW)
    go_simp
    with_reducible rfl
  (try simp only [glA, glB, glC, Act.put, glD, glE, glF])
  refine wpAnyJ_take 9 (v := ?_) (by first | exact hF | exact wideFn) (HSB.out _ B6.out) rfl (by kernel_rfl) (by kernel_rfl) (by kernel_rfl) (by kernel_rfl) rfl ?_ (by first | exact fun _ _ _ h => h | exact fun _ _ _ h => hQ2 _ _ _ _ _ h) ?_
  rotate_left
  · intro W hSW
    simp only [glA, glB, glC]
    (try dsimp only at hSW)
    go_simp
    with_reducible rfl
  (try simp only [glA, glB, glC, Act.put, glD, glE, glF])
  refine wpAnyJ_take 10 (v := ?_) (by first | exact hF | exact wideFn) (HSB.out _ B6.out) rfl (by kernel_rfl) (by kernel_rfl) (by kernel_rfl) (by kernel_rfl) rfl ?_ (by first | exact fun _ _ _ h => h | exact fun _ _ _ h => hQ2 _ _ _ _ _ h) ?_
  rotate_left
  · intro W hSW
    simp only [glA, glB, glC]
    (try dsimp only at hSW)
    go_simp
    with_reducible rfl
  (try simp only [glA, glB, glC, Act.put, glD, glE, glF])
  refine wpAnyJ_done (by kernel_rfl) ?_
  obtain ⟨LA, lc, hvl⟩ := own_shape hol
  subst hvl
  obtain ⟨ln, hln⟩ : ∃ n, L.length = n := ⟨_, rfl⟩
  rw [hln]
  have HLN := hide hln
  have HLL : Hid (∀ W, Below w6.heap.size w6 W → LI W W.heap.size LA L) := hide fun W h => (OwnJ.li (OwnJ.ext hol h)).2
  clear hb1 hb2 hb3 hd1 hd2 HD2 Bd Be Bf hol hln
  obtain ⟨⟨x0, x1, x2⟩, y0, y1, y2⟩ := HSB.out _ B6.out
  rcases hs : schB s with _ | _
  · -- BEGIN4
    as_aux_lemma =>
    rw [hs] at HSC
    have e3 : dfR s t q = ([], 2) := by unfold dfR; rw [if_neg (by rw [hs]; simp)]
    rw [HDF.out] at e3
    injection e3 with e3 e4
    have e7 : ln = 0 := by rw [← HLN.out, e3]; rfl
    subst e4 e7
    clear e3 HLN HLL
    have e5 : gpR s q = (0, 0, 2) := by unfold gpR; rw [if_neg (by rw [hs]; decide)]
    rw [HGA.out] at e5
    injection e5 with e5 e6
    injection e6 with e6 e8
    subst e5 e6 e8
    clear hs
    go_wp2_with fail
    refine (HSC.out w6 B6.out).mono ?_
    rintro e w7 ⟨rfl, hb⟩
    have B7 := hide (B6.out.trans (hb.mono B6.out.size))
    clear hb
    (clear x0 x1 x2 y0 y1 y2)
    obtain ⟨⟨x0, x1, x2⟩, y0, y1, y2⟩ := HSB.out _ B7.out
    go_wp2_with fail
    refine (known_any w7).mono ?_
    rintro e wz ⟨rfl, hbz⟩
    go_wp2_with fail
    go_ret
    exact ⟨rfl, HB0.out.trans ((B7.out.trans (hbz.mono B7.out.size)).mono HB0.out.size)⟩
    -- END4
  rw [hs] at HSC
  -- BEGIN5
  have HS := hide hs
  have HOK := hide (schB_ok hs)
  have HCA : Hid (∀ W, Below w1.heap.size w1 W → Calls Tryd.prog 34 #[.agg #[.slice d.fa nf d.fc, .int .i64 Q, .slice d.ra nr d.rc]] W fun e w' => ∃ v, e = .returned v ∧ CsR w' W.heap.size v (pr s.fs s.fs.length) (clL s.fs) ∧ Below W.heap.size W w') := hide fun W h => by
    have := refCases_any d s W (HD.out.below h) HS.out
    rwa [HES.out.1] at this
  have HRS : Hid (∀ W, Below w1.heap.size w1 W → Calls Tryd.prog 35 #[.agg #[.slice d.fa nf d.fc, .int .i64 Q, .slice d.ra nr d.rc]] W fun e w' => ∃ v, e = .returned v ∧ (∃ b, TbB w' b v nr nr (spP s)) ∧ Below W.heap.size W w') := hide fun W h => by
    have := refSpecial_any d s W (HD.out.below h) HS.out HI.out
    rwa [HES.out.1, HN.out.2.1] at this
  have hpr := pr_bd HOK.out.fs HOK.out.nf5 (Nat.le_refl _)
  obtain ⟨N, hNN⟩ : ∃ x, pr s.fs s.fs.length = x := ⟨_, rfl⟩
  rw [hNN] at HCA hpr
  have HNN := hide hNN
  have C6 : Hid (Below w6.heap.size w6 w6) := hide (Below.refl _ _)
  clear hs hNN
  go_wp2_with fail
  refine (HSC.out w6 B6.out).mono ?_
  rintro e w7 ⟨rfl, hb⟩
  have B7 := hide (B6.out.trans (hb.mono B6.out.size))
  have C7 := hide (C6.out.trans (hb.mono C6.out.size))
  clear hb
  (clear x0 x1 x2 y0 y1 y2)
  obtain ⟨⟨x0, x1, x2⟩, y0, y1, y2⟩ := HSB.out _ B7.out
  -- the cases, and the special
  go_upto_region 7 with fail
  have Bd := hide (B7.out.trans ((Below.refl w7.heap.size w7).drew.mono B7.out.size))
  have Cd := hide (C7.out.trans ((Below.refl w7.heap.size w7).drew.mono C7.out.size))
  (clear x0 x1 x2 y0 y1 y2)
  refine wp_region_J (fun W : World => ((W.cell? ⟨G, 0, none⟩ = some (.slice d.fa nf d.fc) ∧ W.cell? ⟨G, 1, none⟩ = some (.int .i64 Q) ∧ W.cell? ⟨G, 2, none⟩ = some (.slice d.ra nr d.rc)) ∧ (W.cell? ⟨G', 0, none⟩ = some (.slice d'.fa nf' d'.fc) ∧ W.cell? ⟨G', 1, none⟩ = some (.int .i64 Q') ∧ W.cell? ⟨G', 2, none⟩ = some (.slice d'.ra nr' d'.rc)))) (by kernel_rfl) ?_
  generalize w7.drew = wd at Bd Cd ⊢
  refine wpAnyJ_take 0 (v := ?_) (by first | exact hF | exact wideFn) (HSB.out _ Bd.out) rfl (by kernel_rfl) (by kernel_rfl) (by kernel_rfl) (by kernel_rfl) rfl ?_ (by first | exact fun _ _ _ h => h | exact fun _ _ _ h => hQ2 _ _ _ _ _ h) ?_
  rotate_left
  · intro W hSW
    simp only [glA, glB, glC]
    (try dsimp only at hSW)
    go_simp
    with_reducible rfl
  (try simp only [glA, glB, glC, Act.put, glD, glE, glF])
  refine wpAnyJ_take 2 (v := ?_) (by first | exact hF | exact wideFn) (HSB.out _ Bd.out) rfl (by kernel_rfl) (by kernel_rfl) (by kernel_rfl) (by kernel_rfl) rfl ?_ (by first | exact fun _ _ _ h => h | exact fun _ _ _ h => hQ2 _ _ _ _ _ h) ?_
  rotate_left
  · intro W hSW
    simp only [glA, glB, glC]
    (try dsimp only at hSW)
    go_simp
    with_reducible rfl
  (try simp only [glA, glB, glC, Act.put, glD, glE, glF])
  refine wpAnyJ_one 1 rfl (by kernel_rfl) (fun K hK => ?_)
  simp only [glA, glB, glC]
  go_simp
  refine ⟨trivial, rfl, ?_⟩
  (with_reducible refine (callsIn_wide.2 (HCA.out wd Bd.out)).mono ?_)
  rintro e we ⟨vc, rfl, hcs, hb1⟩
  have Be := hide (Bd.out.trans (hb1.mono Bd.out.size))
  dsimp only
  refine hK.out _ _ (fun _ => HSB.out _ Be.out) ?_
  clear hK K
  (try simp only [glA, glB, glC, Act.put, glD, glE, glF])
  refine wpAnyJ_one 3 rfl (by kernel_rfl) (fun K hK => ?_)
  simp only [glA, glB, glC]
  go_simp
  refine ⟨trivial, rfl, ?_⟩
  (with_reducible refine (callsIn_wide.2 (HRS.out we Be.out)).mono ?_)
  rintro e w8 ⟨vt, rfl, htb, hb2⟩
  have B8 := hide (Be.out.trans (hb2.mono Be.out.size))
  dsimp only
  refine hK.out _ _ (fun _ => HSB.out _ B8.out) ?_
  clear hK K
  (try simp only [glA, glB, glC, Act.put, glD, glE, glF])
  refine wpAnyJ_take 4 (v := ?_) (by first | exact hF | exact wideFn) (HSB.out _ B8.out) rfl (by kernel_rfl) (by kernel_rfl) (by kernel_rfl) (by kernel_rfl) rfl ?_ (by first | exact fun _ _ _ h => h | exact fun _ _ _ h => hQ2 _ _ _ _ _ h) ?_
  rotate_left
  · intro W hSW
    simp only [glA, glB, glC]
    (try dsimp only at hSW)
    go_simp
    with_reducible rfl
  (try simp only [glA, glB, glC, Act.put, glD, glE, glF])
  refine wpAnyJ_take 5 (v := ?_) (by first | exact hF | exact wideFn) (HSB.out _ B8.out) rfl (by kernel_rfl) (by kernel_rfl) (by kernel_rfl) (by kernel_rfl) rfl ?_ (by first | exact fun _ _ _ h => h | exact fun _ _ _ h => hQ2 _ _ _ _ _ h) ?_
  rotate_left
  · intro W hSW
    simp only [glA, glB, glC]
    (try dsimp only at hSW)
    go_simp
    with_reducible rfl
  (try simp only [glA, glB, glC, Act.put, glD, glE, glF])
  refine wpAnyJ_take 6 (v := ?_) (by first | exact hF | exact wideFn) (HSB.out _ B8.out) rfl (by kernel_rfl) (by kernel_rfl) (by kernel_rfl) (by kernel_rfl) rfl ?_ (by first | exact fun _ _ _ h => h | exact fun _ _ _ h => hQ2 _ _ _ _ _ h) ?_
  rotate_left
  · intro W hSW
    simp only [glA, glB, glC]
    (try dsimp only at hSW)
    go_simp
    with_reducible rfl
  (try simp only [glA, glB, glC, Act.put, glD, glE, glF])
  refine wpAnyJ_done (by kernel_rfl) ?_
  have C8 := hide ((Cd.out.trans (hb1.mono Cd.out.size)).trans (hb2.mono (Nat.le_trans Cd.out.size hb1.size)))
  obtain ⟨CA, cc, rfl⟩ := hcs.shape
  obtain ⟨TA, tc, hvt⟩ := (htb.choose_spec).shape
  subst hvt
  have HCC : Hid (∀ W, Below w8.heap.size w8 W → CsR W wd.heap.size (.slice CA N cc) N (clL s.fs)) := hide fun W h => (hcs.ext hb2).ext h
  have HTB : Hid (∀ W, Below w8.heap.size w8 W → ∃ b, TbB W b (.slice TA nr tc) nr nr (spP s)) := hide fun W h => by
    obtain ⟨b, h2⟩ := htb
    exact ⟨b, h2.ext h⟩
  clear hcs htb hb1 hb2 Bd Cd Be HCA HGS HGT HCS HCT HSC HRS
  have E8 : Hid (Below w8.heap.size w8 w8) := hide (Below.refl _ _)
  obtain ⟨⟨x0, x1, x2⟩, y0, y1, y2⟩ := HSB.out _ B8.out
  -- BEGIN7
  -- is the other one valid, and can they be compared?
  obtain ⟨ot, hot⟩ : ∃ x, schB t = x := ⟨_, rfl⟩
  obtain ⟨cm, hcm⟩ : ∃ x, cmB s t q = x := ⟨_, rfl⟩
  have HOT := hide hot
  have HCM := hide hcm
  rw [hot] at HTC
  clear hot hcm
  go_wp2_with fail
  refine (HTC.out w8 B8.out).mono ?_
  rintro e w9 ⟨rfl, hb⟩
  have B9 := hide (B8.out.trans (hb.mono B8.out.size))
  have C9 := hide (C8.out.trans (hb.mono C8.out.size))
  have E9 := hide (E8.out.trans (hb.mono E8.out.size))
  clear hb
  (clear x0 x1 x2 y0 y1 y2)
  obtain ⟨⟨x0, x1, x2⟩, y0, y1, y2⟩ := HSB.out _ B9.out
  go_upto_region 9 with fail
  go_cut [16] (fun v w' => v = .bool cm ∧ Hid (Below w9.heap.size w9 w'))
  case first =>
   as_aux_lemma =>
    have hcv := HCM.out
    unfold cmB at hcv
    rw [HOT.out, HN.out.2.2, HN'.out.2.2] at hcv
    rcases ot with _ | _
    · have e : cm = false := by rw [← hcv]; exact decide_eq_false (fun h => absurd h.1 (by decide))
      subst e
      clear hcv
      go_wp2_with fail
      go_meet
      exact ⟨rfl, hide (Below.refl _ _)⟩
    by_cases h0 : 0 ≤ q
    rotate_left
    · have e : cm = false := by rw [← hcv]; exact decide_eq_false (fun h => absurd h.2.1.1 h0)
      subst e
      clear hcv
      go_wp2_with fail
      go_meet
      exact ⟨rfl, hide (Below.refl _ _)⟩
    by_cases h1 : q < Q
    rotate_left
    · have e : cm = false := by rw [← hcv]; exact decide_eq_false (fun h => absurd h.2.1.2.1 h1)
      subst e
      clear hcv
      go_wp2_with fail
      go_meet
      exact ⟨rfl, hide (Below.refl _ _)⟩
    by_cases h2 : q < Q'
    rotate_left
    · have e : cm = false := by rw [← hcv]; exact decide_eq_false (fun h => absurd h.2.1.2.2 h2)
      subst e
      clear hcv
      go_wp2_with fail
      go_meet
      exact ⟨rfl, hide (Below.refl _ _)⟩
    have HEQ := equal_any d.fa d'.fa d.fc d'.fc s.fs t.fs w9 HZ.out.nf (HD.out.below B9.out).fs (HD'.out.below B9.out).fs
    have e : decide (s.fs = t.fs) = cm := by
      rw [← hcv, decide_eq_decide]
      exact ⟨fun h => ⟨rfl, ⟨h0, h1, h2⟩, h⟩, fun h => h.2.2⟩
    rw [e, HN.out.1, HN'.out.1] at HEQ
    have HEQ := hide HEQ
    clear hcv e
    go_wp2_with fail
    refine HEQ.out.mono ?_
    rintro e wx ⟨rfl, hb⟩
    have HBX := hide hb
    clear hb
    go_wp2_with fail
    go_meet
    exact ⟨rfl, HBX⟩
  obtain ⟨rfl, HB9⟩ := hcut
  have Ba := hide (B9.out.trans (HB9.out.mono B9.out.size))
  have Ca := hide (C9.out.trans (HB9.out.mono C9.out.size))
  have Ea := hide (E9.out.trans (HB9.out.mono E9.out.size))
  clear HB9 x0 x1 x2 y0 y1 y2 B9 C9 E9
  -- BEGIN8
  go_upto_region 11 with fail
  have hba : Below wc.heap.size wc (wc.alloc (.cells #[] 66)) := (Below.refl _ _).alloc (Nat.le_refl _) _
  have Bb := hide (Ba.out.trans (hba.mono Ba.out.size))
  have Cb := hide (Ca.out.trans (hba.mono Ca.out.size))
  have Eb := hide (Ea.out.trans (hba.mono Ea.out.size))
  clear hba Ba Ca Ea
  generalize (wc.alloc (.cells #[] 66)) = wb at Bb Cb Eb ⊢
  obtain ⟨V0, hV0⟩ : ∃ x, Value.slice (some ⟨wc.heap.size, 0, none⟩) 0 0 = x := ⟨_, rfl⟩
  rw [hV0]
  clear hV0
  obtain ⟨⟨x0, x1, x2⟩, y0, y1, y2⟩ := HSB.out _ Bb.out
  -- BEGINa1
  go_upto_if 108 with fail
  -- BEGINa2
  go_cut [17] (fun v w' => Hid (Below wb.heap.size wb w') ∧ Hid (cm = true → ∃ A c, v = .slice A nr' c ∧ ∃ b, TbB w' b v nr' nr' (spP t)))
  case first =>
   -- BEGINa3
   as_aux_lemma =>
    rcases cm with _ | _
    · go_wp2_with fail
      go_meet
      exact ⟨hide (Below.refl _ _), hide (fun h => absurd h (by decide))⟩
    · have HRT := refSpecial_any d' t wb (HD'.out.below Bb.out) (of_decide_eq_true HCM.out).1 HI'.out
      rw [HES.out.2, HN'.out.2.1] at HRT
      replace HRT := hide HRT
      go_wp2_with fail
      refine HRT.out.mono ?_
      rintro e wx ⟨v, rfl, htb, hb⟩
      obtain ⟨VA, vc, hv⟩ := (htb.choose_spec).shape
      subst hv
      have HTT := hide htb
      have HBX := hide hb
      clear hb htb
      dsimp only
      go_wp2_with fail
      go_meet
      exact ⟨HBX, hide (fun _ => ⟨_, _, rfl, HTT.out⟩)⟩
   -- ENDa3
  obtain ⟨HBB, HTT⟩ := hcut
  have B := hide (Bb.out.trans (HBB.out.mono Bb.out.size))
  have C := hide (Cb.out.trans (HBB.out.mono Cb.out.size))
  have E_ := hide (Eb.out.trans (HBB.out.mono Eb.out.size))
  clear HBB x0 x1 x2 y0 y1 y2 Bb Cb Eb
  obtain ⟨wE, hwE⟩ : ∃ x, x = wc := ⟨_, rfl⟩
  rw [← hwE] at B C E_ HTT ⊢
  clear hwE
  obtain ⟨⟨x0, x1, x2⟩, y0, y1, y2⟩ := HSB.out _ B.out
  -- BEGIN9
  by_cases hin : 0 ≤ q ∧ q < Q
  rotate_left
  · have e5 : gpR s q = (0, 0, 3) := by unfold gpR; rw [if_pos HS.out, HN.out.2.2, if_neg (by omega)]
    rw [HGA.out] at e5
    injection e5 with e5 e6
    injection e6 with e6 e8
    subst e5 e6 e8
    have e3 : dfR s t q = if ot then ([], 3) else ([], 2) := by
      unfold dfR
      rw [HS.out, HOT.out, Bool.true_and, HN.out.2.2, HN'.out.2.2]
      rcases ot with _ | _
      · rw [if_neg (by decide), if_neg (by decide)]
      · rw [if_pos rfl, if_pos rfl, if_neg (by omega)]
    -- BEGIN6
    rcases (by omega : q < 0 ∨ (¬ q < 0 ∧ Q ≤ q)) with h | ⟨h, h2⟩ <;> rcases ot with _ | _
    all_goals
      as_aux_lemma =>
        clear hin
        simp only [if_true, Bool.false_eq_true, if_false] at e3
        rw [HDF.out] at e3
        injection e3 with e3 e4
        have e7 : ln = 0 := by rw [← HLN.out, e3]; rfl
        subst e4 e7
        clear e3 HLN HLL
        go_wp2_with fail
        refine (known_any wE).mono ?_
        rintro e wz ⟨rfl, hbz⟩
        go_wp2_with fail
        go_ret
        exact ⟨rfl, HB0.out.trans ((B.out.trans (hbz.mono B.out.size)).mono HB0.out.size)⟩
    -- END6
  obtain ⟨h0, h1⟩ := hin
  have h0' : ¬ q < 0 := by omega
  have h1' : ¬ Q ≤ q := by omega
  have e5 : gpR s q = (gpN s q 7 N, gpN s q 110 N, 0) := by unfold gpR; rw [if_pos HS.out, HN.out.2.2, if_pos (by omega), HNN.out]
  rw [HGA.out] at e5
  injection e5 with e5 e6
  injection e6 with e6 e8
  have HG7 := hide e5
  have HG1 := hide e6
  subst e8
  have hf0 : frF s t q 0 = -1 := frF_zero s t q
  have HF0 := hide hf0
  clear e5 e6 hf0 HGA
  go_wp2_with fail
  go_loopw [14, 18, 19, 20] (fun v14 v18 v19 v20 wr => ∃ k : Nat, k ≤ N ∧ v14 = .int .i64 (frF s t q k) ∧ v18 = .int .i64 (gpN s q 7 k) ∧ v19 = .int .i64 (gpN s q 110 k) ∧ v20 = .int .i64 k ∧ Hid (Below wE.heap.size wE wr)) (fun _ _ _ v20 _ => N - (intOf v20).toNat)
  case atStart => exact ⟨0, Nat.zero_le _, by rw [HF0.out], rfl, rfl, rfl, hide (Below.refl _ _)⟩
  case round =>
    obtain ⟨k, hk, rfl, rfl, rfl, rfl, HW⟩ := hrel
    have Br := hide (B.out.trans (HW.out.mono B.out.size))
    have Er := hide (E_.out.trans (HW.out.mono E_.out.size))
    have Cr := hide (C.out.trans (HW.out.mono C.out.size))
    clear x0 x1 x2 y0 y1 y2
    obtain ⟨⟨x0, x1, x2⟩, y0, y1, y2⟩ := HSB.out _ Br.out
    obtain ⟨fr, hfr⟩ : ∃ x, frF s t q k = x := ⟨_, rfl⟩
    obtain ⟨c7, hc7⟩ : ∃ x, gpN s q 7 k = x := ⟨_, rfl⟩
    obtain ⟨c1, hc1⟩ : ∃ x, gpN s q 110 k = x := ⟨_, rfl⟩
    have HFR := hide hfr
    have HC7 := hide hc7
    have HC1 := hide hc1
    have hb7 := gpN_bd s q 7 k
    have hb1 := gpN_bd s q 110 k
    have hbf := frF_bd s t q k
    rw [hfr] at hbf ⊢
    rw [hc7] at hb7 ⊢
    rw [hc1] at hb1 ⊢
    clear hfr hc7 hc1
    by_cases hkl : k < N
    · -- BEGIN1
      have hkl' : (k : Int) < (N : Int) := by omega
      have k0 : (0 : Int) ≤ (k : Int) := by omega
      have hstk : IntKind.i64.wrap ((k : Int) + 1) = ((k + 1 : Nat) : Int) := by rw [IntWalk.i64_in _ (by omega)]; omega
      have hw7 : IntKind.i64.wrap (c7 + 1) = c7 + 1 := IntWalk.i64_in _ (by omega)
      have hw1 : IntKind.i64.wrap (c1 + 1) = c1 + 1 := IntWalk.i64_in _ (by omega)
      obtain ⟨cg, CB, cb, e1, e2, e3, e4⟩ := (HCC.out _ Er.out).at_ hkl
      rw [clL_len, HN.out.1] at e3
      subst e1
      obtain ⟨⟨n, g, l⟩, hv⟩ : ∃ r, dcF s (stF s) (clL s.fs k) q = r := ⟨_, rfl⟩
      have hvd : vdF s q k = (n, g) := by unfold vdF; rw [hv]
      have HVD := hide hvd
      have HSK : Hid (∀ W, Below wr.heap.size wr W → (((W.cell? ⟨G, 0, none⟩ = some (.slice d.fa nf d.fc) ∧ W.cell? ⟨G, 1, none⟩ = some (.int .i64 Q) ∧ W.cell? ⟨G, 2, none⟩ = some (.slice d.ra nr d.rc)) ∧ (W.cell? ⟨G', 0, none⟩ = some (.slice d'.fa nf' d'.fc) ∧ W.cell? ⟨G', 1, none⟩ = some (.int .i64 Q') ∧ W.cell? ⟨G', 2, none⟩ = some (.slice d'.ra nr' d'.rc))) ∧ W.cell? ⟨cg, k, none⟩ = some (.slice CB nf cb))) := hide fun W h => ⟨HSB.out W (Br.out.trans (h.mono Br.out.size)), (h.cell (p := ⟨cg, k, none⟩) e2).trans e3⟩
      have HLI : Hid (∀ W, Below wr.heap.size wr W → LI W W.heap.size CB (clL s.fs k)) := hide fun W h => (ER.below e4 h (Nat.le_refl _)).more h.size
      have HRD : Hid (∀ W, Below wr.heap.size wr W → Calls Tryd.prog 36 #[.agg #[.slice d.fa nf d.fc, .int .i64 Q, .slice d.ra nr d.rc], .slice TA nr tc, .slice CB nf cb, .int .i64 q] W (fun e w' => ∃ v, e = .returned (.tuple #[.int .i64 n, v, .int .i64 g]) ∧ OwnJ w' W.heap.size v l ∧ Below W.heap.size W w')) := hide fun W h => by
        have := refDecide_any d s TA CB tc cb (clL s.fs k) q W (HD.out.below (Br.out.trans (h.mono Br.out.size))) HS.out HI.out (cl_ic HOK.out.fs k) (HLI.out W h) (by
          rw [HN.out.2.1]
          exact HTB.out W (Er.out.trans (h.mono Er.out.size)))
        rw [hv, HN.out.2.1, HN.out.1, HES.out.1] at this
        exact this
      clear e2 e3 e4 hv hvd
      go_upto_region 20 with fail
      have Wd := hide ((Below.refl wr.heap.size wr).drew)
      (clear x0 x1 x2 y0 y1 y2)
      refine wp_region_J (fun W : World => (((W.cell? ⟨G, 0, none⟩ = some (.slice d.fa nf d.fc) ∧ W.cell? ⟨G, 1, none⟩ = some (.int .i64 Q) ∧ W.cell? ⟨G, 2, none⟩ = some (.slice d.ra nr d.rc)) ∧ (W.cell? ⟨G', 0, none⟩ = some (.slice d'.fa nf' d'.fc) ∧ W.cell? ⟨G', 1, none⟩ = some (.int .i64 Q') ∧ W.cell? ⟨G', 2, none⟩ = some (.slice d'.ra nr' d'.rc))) ∧ W.cell? ⟨cg, k, none⟩ = some (.slice CB nf cb))) (by kernel_rfl) ?_
      generalize wr.drew = wd at Wd ⊢
      refine wpAnyJ_take 0 (v := ?_) (by first | exact hF | exact wideFn) (HSK.out _ Wd.out) rfl (by kernel_rfl) (by kernel_rfl) (by kernel_rfl) (by kernel_rfl) rfl ?_ (by first | exact fun _ _ _ h => h | exact fun _ _ _ h => hQ2 _ _ _ _ _ h) ?_
      rotate_left
      · intro W hSW
        simp only [glA, glB, glC]
        (try dsimp only at hSW)
        go_simp
        with_reducible rfl
      (try simp only [glA, glB, glC, Act.put, glD, glE, glF])
      refine wpAnyJ_take 1 (v := ?_) (by first | exact hF | exact wideFn) (HSK.out _ Wd.out) rfl (by kernel_rfl) (by kernel_rfl) (by kernel_rfl) (by kernel_rfl) rfl ?_ (by first | exact fun _ _ _ h => h | exact fun _ _ _ h => hQ2 _ _ _ _ _ h) ?_
      rotate_left
      · intro W hSW
        simp only [glA, glB, glC]
        (try dsimp only at hSW)
        go_simp
        with_reducible rfl
      (try simp only [glA, glB, glC, Act.put, glD, glE, glF])
      refine wpAnyJ_take 2 (v := ?_) (by first | exact hF | exact wideFn) (HSK.out _ Wd.out) rfl (by kernel_rfl) (by kernel_rfl) (by kernel_rfl) (by kernel_rfl) rfl ?_ (by first | exact fun _ _ _ h => h | exact fun _ _ _ h => hQ2 _ _ _ _ _ h) ?_
      rotate_left
      · intro W hSW
        simp only [glA, glB, glC]
        (try dsimp only at hSW)
        go_simp
        with_reducible rfl
      (try simp only [glA, glB, glC, Act.put, glD, glE, glF])
      refine wpAnyJ_take 3 (v := ?_) (by first | exact hF | exact wideFn) (HSK.out _ Wd.out) rfl (by kernel_rfl) (by kernel_rfl) (by kernel_rfl) (by kernel_rfl) rfl ?_ (by first | exact fun _ _ _ h => h | exact fun _ _ _ h => hQ2 _ _ _ _ _ h) ?_
      rotate_left
      · intro W hSW
        simp only [glA, glB, glC]
        (try dsimp only at hSW)
        go_simp
        with_reducible rfl
      (try simp only [glA, glB, glC, Act.put, glD, glE, glF])
      refine wpAnyJ_take 4 (v := ?_) (by first | exact hF | exact wideFn) (HSK.out _ Wd.out) rfl (by kernel_rfl) (by kernel_rfl) (by kernel_rfl) (by kernel_rfl) rfl ?_ (by first | exact fun _ _ _ h => h | exact fun _ _ _ h => hQ2 _ _ _ _ _ h) ?_
      rotate_left
      · intro W hSW
        simp only [glA, glB, glC]
        (try dsimp only at hSW)
        go_simp
        with_reducible rfl
      (try simp only [glA, glB, glC, Act.put, glD, glE, glF])
      refine wpAnyJ_take 5 (v := ?_) (by first | exact hF | exact wideFn) (HSK.out _ Wd.out) rfl (by kernel_rfl) (by kernel_rfl) (by kernel_rfl) (by kernel_rfl) rfl ?_ (by first | exact fun _ _ _ h => h | exact fun _ _ _ h => hQ2 _ _ _ _ _ h) ?_
      rotate_left
      · intro W hSW
        simp only [glA, glB, glC]
        (try dsimp only at hSW)
        go_simp
        with_reducible rfl
      (try simp only [glA, glB, glC, Act.put, glD, glE, glF])
      refine wpAnyJ_take 6 (v := ?_) (by first | exact hF | exact wideFn) (HSK.out _ Wd.out) rfl (by kernel_rfl) (by kernel_rfl) (by kernel_rfl) (by kernel_rfl) rfl ?_ (by first | exact fun _ _ _ h => h | exact fun _ _ _ h => hQ2 _ _ _ _ _ h) ?_
      rotate_left
      · intro W hSW
        simp only [glA, glB, glC]
        (try dsimp only at hSW)
        go_simp
        with_reducible rfl
      (try simp only [glA, glB, glC, Act.put, glD, glE, glF])
      refine wpAnyJ_one 7 rfl (by kernel_rfl) (fun K hK => ?_)
      simp only [glA, glB, glC]
      go_simp
      refine ⟨trivial, rfl, ?_⟩
      (with_reducible refine (callsIn_wide.2 (HRD.out wd Wd.out)).mono ?_)
      rintro e wx ⟨vb, rfl, hob, hb⟩
      have Wx := hide (Wd.out.trans (hb.mono Wd.out.size))
      dsimp only
      refine hK.out _ _ (fun _ => HSK.out _ Wx.out) ?_
      clear hK K
      (try simp only [glA, glB, glC, Act.put, glD, glE, glF])
      refine wpAnyJ_take 8 (v := ?_) (by first | exact hF | exact wideFn) (HSK.out _ Wx.out) rfl (by kernel_rfl) (by kernel_rfl) (by kernel_rfl) (by kernel_rfl) rfl ?_ (by first | exact fun _ _ _ h => h | exact fun _ _ _ h => hQ2 _ _ _ _ _ h) ?_
      rotate_left
      · intro W hSW
        simp only [glA, glB, glC]
        (try dsimp only at hSW)
        go_simp
        with_reducible rfl
      (try simp only [glA, glB, glC, Act.put, glD, glE, glF])
      refine wpAnyJ_take 9 (v := ?_) (by first | exact hF | exact wideFn) (HSK.out _ Wx.out) rfl (by kernel_rfl) (by kernel_rfl) (by kernel_rfl) (by kernel_rfl) rfl ?_ (by first | exact fun _ _ _ h => h | exact fun _ _ _ h => hQ2 _ _ _ _ _ h) ?_
      rotate_left
      · intro W hSW
        simp only [glA, glB, glC]
        (try dsimp only at hSW)
        go_simp
        with_reducible rfl
      (try simp only [glA, glB, glC, Act.put, glD, glE, glF])
      refine wpAnyJ_take 10 (v := ?_) (by first | exact hF | exact wideFn) (HSK.out _ Wx.out) rfl (by kernel_rfl) (by kernel_rfl) (by kernel_rfl) (by kernel_rfl) rfl ?_ (by first | exact fun _ _ _ h => h | exact fun _ _ _ h => hQ2 _ _ _ _ _ h) ?_
      rotate_left
      · intro W hSW
        simp only [glA, glB, glC]
        (try dsimp only at hSW)
        go_simp
        with_reducible rfl
      (try simp only [glA, glB, glC, Act.put, glD, glE, glF])
      refine wpAnyJ_take 11 (v := ?_) (by first | exact hF | exact wideFn) (HSK.out _ Wx.out) rfl (by kernel_rfl) (by kernel_rfl) (by kernel_rfl) (by kernel_rfl) rfl ?_ (by first | exact fun _ _ _ h => h | exact fun _ _ _ h => hQ2 _ _ _ _ _ h) ?_
      rotate_left
      · intro W hSW
        simp only [glA, glB, glC]
        (try dsimp only at hSW)
        go_simp
        with_reducible rfl
      (try simp only [glA, glB, glC, Act.put, glD, glE, glF])
      refine wpAnyJ_take 12 (v := ?_) (by first | exact hF | exact wideFn) (HSK.out _ Wx.out) rfl (by kernel_rfl) (by kernel_rfl) (by kernel_rfl) (by kernel_rfl) rfl ?_ (by first | exact fun _ _ _ h => h | exact fun _ _ _ h => hQ2 _ _ _ _ _ h) ?_
      rotate_left
      · intro W hSW
        simp only [glA, glB, glC]
        (try dsimp only at hSW)
        go_simp
        with_reducible rfl
      (try simp only [glA, glB, glC, Act.put, glD, glE, glF])
      refine wpAnyJ_take 13 (v := ?_) (by first | exact hF | exact wideFn) (HSK.out _ Wx.out) rfl (by kernel_rfl) (by kernel_rfl) (by kernel_rfl) (by kernel_rfl) rfl ?_ (by first | exact fun _ _ _ h => h | exact fun _ _ _ h => hQ2 _ _ _ _ _ h) ?_
      rotate_left
      · intro W hSW
        simp only [glA, glB, glC]
        (try dsimp only at hSW)
        go_simp
        with_reducible rfl
      (try simp only [glA, glB, glC, Act.put, glD, glE, glF])
      refine wpAnyJ_take 14 (v := ?_) (by first | exact hF | exact wideFn) (HSK.out _ Wx.out) rfl (by kernel_rfl) (by kernel_rfl) (by kernel_rfl) (by kernel_rfl) rfl ?_ (by first | exact fun _ _ _ h => h | exact fun _ _ _ h => hQ2 _ _ _ _ _ h) ?_
      rotate_left
      · intro W hSW
        simp only [glA, glB, glC]
        (try dsimp only at hSW)
        go_simp
        with_reducible rfl
      (try simp only [glA, glB, glC, Act.put, glD, glE, glF])
      refine wpAnyJ_done (by kernel_rfl) ?_
      clear hb hob Wd HRD
      obtain ⟨⟨⟨x0, x1, x2⟩, y0, y1, y2⟩, z0⟩ := HSK.out _ Wx.out
      go_upto_if 148 with fail
      go_cut [18] (fun v w' => v = .int .i64 (gpN s q 7 (k + 1)) ∧ w' = wx)
      case first =>
       as_aux_lemma =>
        have hn : gpN s q 7 (k + 1) = c7 + if g = 7 then 1 else 0 := by
          show gpN s q 7 k + _ = _
          rw [HC7.out, HVD.out]
        by_cases hg : g = 7
        · have e : (g == 7) = true := by rw [hg]; rfl
          rw [if_pos hg] at hn
          have HNN2 := hide hn
          clear hg hn
          go_wp2_with fail
          go_meet
          exact ⟨by rw [HNN2.out], rfl⟩
        · have e : (g == 7) = false := by rw [beq_eq_false_iff_ne]; exact hg
          rw [if_neg hg] at hn
          have HNN2 := hide hn
          clear hg hn
          go_wp2_with fail
          go_meet
          exact ⟨by rw [HNN2.out, Int.add_zero], rfl⟩
      obtain ⟨rfl, hw⟩ := hcut
      have hw := hw.symm
      subst hw
      go_upto_if 152 with fail
      go_cut [19] (fun v w' => v = .int .i64 (gpN s q 110 (k + 1)) ∧ w' = wx)
      case first =>
       as_aux_lemma =>
        have hn : gpN s q 110 (k + 1) = c1 + if g = 110 then 1 else 0 := by
          show gpN s q 110 k + _ = _
          rw [HC1.out, HVD.out]
        by_cases hg : g = 110
        · have e : (g == 110) = true := by rw [hg]; rfl
          rw [if_pos hg] at hn
          have HNN2 := hide hn
          clear hg hn
          go_wp2_with fail
          go_meet
          exact ⟨by rw [HNN2.out], rfl⟩
        · have e : (g == 110) = false := by rw [beq_eq_false_iff_ne]; exact hg
          rw [if_neg hg] at hn
          have HNN2 := hide hn
          clear hg hn
          go_wp2_with fail
          go_meet
          exact ⟨by rw [HNN2.out, Int.add_zero], rfl⟩
      obtain ⟨rfl, hw⟩ := hcut
      have hw := hw.symm
      subst hw
      obtain ⟨d7, hd7⟩ : ∃ x, gpN s q 7 (k + 1) = x := ⟨_, rfl⟩
      obtain ⟨d1, hd1⟩ : ∃ x, gpN s q 110 (k + 1) = x := ⟨_, rfl⟩
      rw [hd7, hd1]
      have HD7 := hide hd7
      have HD1 := hide hd1
      clear hd7 hd1 HC7 HC1
      have HWN := hide (HW.out.trans (Wx.out.mono HW.out.size))
      rcases cm with _ | _
      · as_aux_lemma =>
        have hfn : fr = -1 := by rw [← HFR.out]; exact frF_no HCM.out
        have HFN : Hid (frF s t q (k + 1) = -1) := hide (frF_no HCM.out)
        subst hfn
        go_wp2_with fail
        go_roundw
        case rel => exact ⟨k + 1, by omega, by rw [HFN.out], by rw [HD7.out], by rw [HD1.out], by go_num, HWN⟩
        case measure => simp [intOf]; omega
      by_cases hf : fr < 0
      rotate_left
      · as_aux_lemma =>
        have HFN : Hid (frF s t q (k + 1) = fr) := hide (by rw [← HFR.out]; exact frF_keep (by rw [HFR.out]; exact hf))
        go_wp2_with fail
        go_roundw
        case rel => exact ⟨k + 1, by omega, by rw [HFN.out], by rw [HD7.out], by rw [HD1.out], by go_num, HWN⟩
        case measure => simp [intOf]; omega
      · -- BEGIN2
        obtain ⟨ht2, -, hfe⟩ := of_decide_eq_true HCM.out
        have hfn : fr = -1 := by omega
        subst hfn
        obtain ⟨TA', tc', hvt, hbt⟩ := HTT.out rfl
        subst hvt
        have hnf : nf' = nf := by rw [← HN'.out.1, ← HN.out.1, hfe]
        obtain ⟨⟨n2, g2', l2⟩, hv2⟩ : ∃ r, dcF t (stF t) (clL s.fs k) q = r := ⟨_, rfl⟩
        have hvd2 : vdF t q k = (n2, g2') := by unfold vdF; rw [← hfe, hv2]
        have hstep := frF_step (n := k) HCM.out (by rw [HFR.out]; decide)
        rw [HVD.out, hvd2] at hstep
        have HST := hide hstep
        have HRD : Hid (∀ W, Below wr.heap.size wr W → Calls Tryd.prog 36 #[.agg #[.slice d'.fa nf' d'.fc, .int .i64 Q', .slice d'.ra nr' d'.rc], .slice TA' nr' tc', .slice CB nf cb, .int .i64 q] W (fun e w' => ∃ v, e = .returned (.tuple #[.int .i64 n2, v, .int .i64 g2']) ∧ OwnJ w' W.heap.size v l2 ∧ Below W.heap.size W w')) := hide fun W h => by
          have := refDecide_any d' t TA' CB tc' cb (clL s.fs k) q W (HD'.out.below (Br.out.trans (h.mono Br.out.size))) ht2 HI'.out (by rw [← hfe]; exact cl_ic HOK.out.fs k) (HLI.out W h) (by
            obtain ⟨b, hbt⟩ := hbt
            rw [HN'.out.2.1]
            exact ⟨b, hbt.ext (HW.out.trans (h.mono HW.out.size))⟩)
          rw [hv2, HN'.out.2.1, HES.out.2, show t.fs.length = nf from HN'.out.1.trans hnf] at this
          exact this
        clear hbt hv2 hvd2 hstep ht2 hfe hnf
        go_upto_region 26 with fail
        have Wd := hide (Wx.out.trans ((Below.refl wx.heap.size wx).drew.mono Wx.out.size))
        (clear x0 x1 x2 y0 y1 y2 z0)
        refine wp_region_J (fun W : World => (((W.cell? ⟨G, 0, none⟩ = some (.slice d.fa nf d.fc) ∧ W.cell? ⟨G, 1, none⟩ = some (.int .i64 Q) ∧ W.cell? ⟨G, 2, none⟩ = some (.slice d.ra nr d.rc)) ∧ (W.cell? ⟨G', 0, none⟩ = some (.slice d'.fa nf' d'.fc) ∧ W.cell? ⟨G', 1, none⟩ = some (.int .i64 Q') ∧ W.cell? ⟨G', 2, none⟩ = some (.slice d'.ra nr' d'.rc))) ∧ W.cell? ⟨cg, k, none⟩ = some (.slice CB nf cb))) (by kernel_rfl) ?_
        generalize wx.drew = wd at Wd ⊢
        refine wpAnyJ_take 0 (v := ?_) (by first | exact hF | exact wideFn) (HSK.out _ Wd.out) rfl (by kernel_rfl) (by kernel_rfl) (by kernel_rfl) (by kernel_rfl) rfl ?_ (by first | exact fun _ _ _ h => h | exact fun _ _ _ h => hQ2 _ _ _ _ _ h) ?_
        rotate_left
        · intro W hSW
          simp only [glA, glB, glC]
          (try dsimp only at hSW)
          go_simp
          with_reducible rfl
        (try simp only [glA, glB, glC, Act.put, glD, glE, glF])
        refine wpAnyJ_take 1 (v := ?_) (by first | exact hF | exact wideFn) (HSK.out _ Wd.out) rfl (by kernel_rfl) (by kernel_rfl) (by kernel_rfl) (by kernel_rfl) rfl ?_ (by first | exact fun _ _ _ h => h | exact fun _ _ _ h => hQ2 _ _ _ _ _ h) ?_
        rotate_left
        · intro W hSW
          simp only [glA, glB, glC]
          (try dsimp only at hSW)
          go_simp
          with_reducible rfl
        (try simp only [glA, glB, glC, Act.put, glD, glE, glF])
        refine wpAnyJ_take 2 (v := ?_) (by first | exact hF | exact wideFn) (HSK.out _ Wd.out) rfl (by kernel_rfl) (by kernel_rfl) (by kernel_rfl) (by kernel_rfl) rfl ?_ (by first | exact fun _ _ _ h => h | exact fun _ _ _ h => hQ2 _ _ _ _ _ h) ?_
        rotate_left
        · intro W hSW
          simp only [glA, glB, glC]
          (try dsimp only at hSW)
          go_simp
          with_reducible rfl
        (try simp only [glA, glB, glC, Act.put, glD, glE, glF])
        refine wpAnyJ_take 3 (v := ?_) (by first | exact hF | exact wideFn) (HSK.out _ Wd.out) rfl (by kernel_rfl) (by kernel_rfl) (by kernel_rfl) (by kernel_rfl) rfl ?_ (by first | exact fun _ _ _ h => h | exact fun _ _ _ h => hQ2 _ _ _ _ _ h) ?_
        rotate_left
        · intro W hSW
          simp only [glA, glB, glC]
          (try dsimp only at hSW)
          go_simp
          with_reducible rfl
        (try simp only [glA, glB, glC, Act.put, glD, glE, glF])
        refine wpAnyJ_take 4 (v := ?_) (by first | exact hF | exact wideFn) (HSK.out _ Wd.out) rfl (by kernel_rfl) (by kernel_rfl) (by kernel_rfl) (by kernel_rfl) rfl ?_ (by first | exact fun _ _ _ h => h | exact fun _ _ _ h => hQ2 _ _ _ _ _ h) ?_
        rotate_left
        · intro W hSW
          simp only [glA, glB, glC]
          (try dsimp only at hSW)
          go_simp
          with_reducible rfl
        (try simp only [glA, glB, glC, Act.put, glD, glE, glF])
        refine wpAnyJ_take 5 (v := ?_) (by first | exact hF | exact wideFn) (HSK.out _ Wd.out) rfl (by kernel_rfl) (by kernel_rfl) (by kernel_rfl) (by kernel_rfl) rfl ?_ (by first | exact fun _ _ _ h => h | exact fun _ _ _ h => hQ2 _ _ _ _ _ h) ?_
        rotate_left
        · intro W hSW
          simp only [glA, glB, glC]
          (try dsimp only at hSW)
          go_simp
          with_reducible rfl
        (try simp only [glA, glB, glC, Act.put, glD, glE, glF])
        refine wpAnyJ_take 6 (v := ?_) (by first | exact hF | exact wideFn) (HSK.out _ Wd.out) rfl (by kernel_rfl) (by kernel_rfl) (by kernel_rfl) (by kernel_rfl) rfl ?_ (by first | exact fun _ _ _ h => h | exact fun _ _ _ h => hQ2 _ _ _ _ _ h) ?_
        rotate_left
        · intro W hSW
          simp only [glA, glB, glC]
          (try dsimp only at hSW)
          go_simp
          with_reducible rfl
        (try simp only [glA, glB, glC, Act.put, glD, glE, glF])
        refine wpAnyJ_one 7 rfl (by kernel_rfl) (fun K hK => ?_)
        simp only [glA, glB, glC]
        go_simp
        refine ⟨trivial, rfl, ?_⟩
        (with_reducible refine (callsIn_wide.2 (HRD.out wd Wd.out)).mono ?_)
        rintro e wy ⟨vb2, rfl, hob, hb⟩
        have Wy := hide (Wd.out.trans (hb.mono Wd.out.size))
        dsimp only
        refine hK.out _ _ (fun _ => HSK.out _ Wy.out) ?_
        clear hK K
        (try simp only [glA, glB, glC, Act.put, glD, glE, glF])
        refine wpAnyJ_take 8 (v := ?_) (by first | exact hF | exact wideFn) (HSK.out _ Wy.out) rfl (by kernel_rfl) (by kernel_rfl) (by kernel_rfl) (by kernel_rfl) rfl ?_ (by first | exact fun _ _ _ h => h | exact fun _ _ _ h => hQ2 _ _ _ _ _ h) ?_
        rotate_left
        · intro W hSW
          simp only [glA, glB, glC]
          (try dsimp only at hSW)
          go_simp
          with_reducible rfl
        (try simp only [glA, glB, glC, Act.put, glD, glE, glF])
        refine wpAnyJ_take 9 (v := ?_) (by first | exact hF | exact wideFn) (HSK.out _ Wy.out) rfl (by kernel_rfl) (by kernel_rfl) (by kernel_rfl) (by kernel_rfl) rfl ?_ (by first | exact fun _ _ _ h => h | exact fun _ _ _ h => hQ2 _ _ _ _ _ h) ?_
        rotate_left
        · intro W hSW
          simp only [glA, glB, glC]
          (try dsimp only at hSW)
          go_simp
          with_reducible rfl
        (try simp only [glA, glB, glC, Act.put, glD, glE, glF])
        refine wpAnyJ_take 10 (v := ?_) (by first | exact hF | exact wideFn) (HSK.out _ Wy.out) rfl (by kernel_rfl) (by kernel_rfl) (by kernel_rfl) (by kernel_rfl) rfl ?_ (by first | exact fun _ _ _ h => h | exact fun _ _ _ h => hQ2 _ _ _ _ _ h) ?_
        rotate_left
        · intro W hSW
          simp only [glA, glB, glC]
          (try dsimp only at hSW)
          go_simp
          with_reducible rfl
        (try simp only [glA, glB, glC, Act.put, glD, glE, glF])
        refine wpAnyJ_take 11 (v := ?_) (by first | exact hF | exact wideFn) (HSK.out _ Wy.out) rfl (by kernel_rfl) (by kernel_rfl) (by kernel_rfl) (by kernel_rfl) rfl ?_ (by first | exact fun _ _ _ h => h | exact fun _ _ _ h => hQ2 _ _ _ _ _ h) ?_
        rotate_left
        · intro W hSW
          simp only [glA, glB, glC]
          (try dsimp only at hSW)
          go_simp
          with_reducible rfl
        (try simp only [glA, glB, glC, Act.put, glD, glE, glF])
        refine wpAnyJ_take 12 (v := ?_) (by first | exact hF | exact wideFn) (HSK.out _ Wy.out) rfl (by kernel_rfl) (by kernel_rfl) (by kernel_rfl) (by kernel_rfl) rfl ?_ (by first | exact fun _ _ _ h => h | exact fun _ _ _ h => hQ2 _ _ _ _ _ h) ?_
        rotate_left
        · intro W hSW
          simp only [glA, glB, glC]
          (try dsimp only at hSW)
          go_simp
          with_reducible rfl
        (try simp only [glA, glB, glC, Act.put, glD, glE, glF])
        refine wpAnyJ_take 13 (v := ?_) (by first | exact hF | exact wideFn) (HSK.out _ Wy.out) rfl (by kernel_rfl) (by kernel_rfl) (by kernel_rfl) (by kernel_rfl) rfl ?_ (by first | exact fun _ _ _ h => h | exact fun _ _ _ h => hQ2 _ _ _ _ _ h) ?_
        rotate_left
        · intro W hSW
          simp only [glA, glB, glC]
          (try dsimp only at hSW)
          go_simp
          with_reducible rfl
        (try simp only [glA, glB, glC, Act.put, glD, glE, glF])
        refine wpAnyJ_take 14 (v := ?_) (by first | exact hF | exact wideFn) (HSK.out _ Wy.out) rfl (by kernel_rfl) (by kernel_rfl) (by kernel_rfl) (by kernel_rfl) rfl ?_ (by first | exact fun _ _ _ h => h | exact fun _ _ _ h => hQ2 _ _ _ _ _ h) ?_
        rotate_left
        · intro W hSW
          simp only [glA, glB, glC]
          (try dsimp only at hSW)
          go_simp
          with_reducible rfl
        (try simp only [glA, glB, glC, Act.put, glD, glE, glF])
        refine wpAnyJ_done (by kernel_rfl) ?_
        clear hb hob Wd HRD HWN
        have HWN := hide (HW.out.trans (Wy.out.mono HW.out.size))
        obtain ⟨⟨⟨x0, x1, x2⟩, y0, y1, y2⟩, z0⟩ := HSK.out _ Wy.out
        by_cases hn : n2 = n
        rotate_left
        · as_aux_lemma =>
          have HFN : Hid (frF s t q (k + 1) = (k : Int)) := hide (by rw [HST.out, if_neg]; intro h; injection h with h; exact hn h.symm)
          go_wp2_with fail
          go_roundw
          case rel => exact ⟨k + 1, by omega, by rw [HFN.out], by rw [HD7.out], by rw [HD1.out], by go_num, HWN⟩
          case measure => simp [intOf]; omega
        subst hn
        by_cases hg : g = g2'
        rotate_left
        · as_aux_lemma =>
          have HFN : Hid (frF s t q (k + 1) = (k : Int)) := hide (by rw [HST.out, if_neg]; intro h; injection h with h h2; exact hg h2)
          go_wp2_with fail
          go_roundw
          case rel => exact ⟨k + 1, by omega, by rw [HFN.out], by rw [HD7.out], by rw [HD1.out], by go_num, HWN⟩
          case measure => simp [intOf]; omega
        · as_aux_lemma =>
          subst hg
          have HFN : Hid (frF s t q (k + 1) = -1) := hide (by rw [HST.out, if_pos rfl])
          go_wp2_with fail
          go_roundw
          case rel => exact ⟨k + 1, by omega, by rw [HFN.out], by rw [HD7.out], by rw [HD1.out], by go_num, HWN⟩
          case measure => simp [intOf]; omega
        -- END2
      -- END1
    · -- BEGIN3
      obtain rfl : k = N := by omega
      have hnl : ¬ (k : Int) < (k : Int) := by omega
      have q7 : g1 = c7 := by rw [HG7.out, HC7.out]
      have q1 : g2 = c1 := by rw [HG1.out, HC1.out]
      subst q7 q1
      clear HG7 HG1 HC7 HC1 HF0
      have hS := HS.out
      rcases ot with _ | _
      · as_aux_lemma =>
        have e3 : dfR s t q = ([], 2) := by unfold dfR; rw [HOT.out, if_neg (by simp)]
        rw [HDF.out] at e3
        injection e3 with e3 e4
        have e7 : ln = 0 := by rw [← HLN.out, e3]; rfl
        subst e4 e7
        clear e3 HLN HLL
        go_wp2_with fail
        refine (known_any wr).mono ?_
        rintro e wz ⟨rfl, hbz⟩
        go_wp2_with fail
        go_ret
        exact ⟨rfl, HB0.out.trans ((Br.out.trans (hbz.mono Br.out.size)).mono HB0.out.size)⟩
      by_cases h2 : q < Q'
      rotate_left
      · as_aux_lemma =>
        have h2' : Q' ≤ q := by omega
        have e3 : dfR s t q = ([], 3) := by
          unfold dfR
          rw [HS.out, HOT.out, HN.out.2.2, HN'.out.2.2, if_pos (by decide), if_neg (by omega)]
        rw [HDF.out] at e3
        injection e3 with e3 e4
        have e7 : ln = 0 := by rw [← HLN.out, e3]; rfl
        subst e4 e7
        clear e3 HLN HLL
        go_wp2_with fail
        refine (known_any wr).mono ?_
        rintro e wz ⟨rfl, hbz⟩
        go_wp2_with fail
        go_ret
        exact ⟨rfl, HB0.out.trans ((Br.out.trans (hbz.mono Br.out.size)).mono HB0.out.size)⟩
      have h2' : ¬ Q' ≤ q := by omega
      rcases cm with _ | _
      · as_aux_lemma =>
        have hcf := of_decide_eq_false HCM.out
        rw [HOT.out, HN.out.2.2, HN'.out.2.2] at hcf
        have hfs : ¬ s.fs = t.fs := fun h => hcf ⟨rfl, ⟨h0, h1, h2⟩, h⟩
        have e3 : dfR s t q = ([], 4) := by
          unfold dfR
          rw [HS.out, HOT.out, HN.out.2.2, HN'.out.2.2, if_pos (by decide), if_pos (by omega), if_neg hfs]
        clear hcf hfs
        rw [HDF.out] at e3
        injection e3 with e3 e4
        have e7 : ln = 0 := by rw [← HLN.out, e3]; rfl
        subst e4 e7
        clear e3 HLN HLL
        go_wp2_with fail
        refine (known_any wr).mono ?_
        rintro e wz ⟨rfl, hbz⟩
        go_wp2_with fail
        go_ret
        exact ⟨rfl, HB0.out.trans ((Br.out.trans (hbz.mono Br.out.size)).mono HB0.out.size)⟩
      rcases frF_dfR HS.out HCM.out with ⟨h3, e3⟩ | ⟨m, hm, h3, e3⟩
      · as_aux_lemma =>
        rw [HNN.out, HFR.out] at h3
        subst h3
        rw [HDF.out] at e3
        injection e3 with e3 e4
        have e7 : ln = 0 := by rw [← HLN.out, e3]; rfl
        subst e4 e7
        clear e3 HLN HLL
        go_wp2_with fail
        refine (known_any wr).mono ?_
        rintro e wz ⟨rfl, hbz⟩
        go_wp2_with fail
        go_ret
        exact ⟨rfl, HB0.out.trans ((Br.out.trans (hbz.mono Br.out.size)).mono HB0.out.size)⟩
      · as_aux_lemma =>
        rw [HNN.out] at h3 hm
        rw [HFR.out] at h3
        subst h3
        rw [HDF.out] at e3
        injection e3 with e3 e4
        subst e4
        have hlf : ln = nf := by rw [← HLN.out, e3, clL_len, HN.out.1]
        obtain rfl : nf = ln := hlf.symm
        have m0 : ¬ (m : Int) < 0 := by omega
        have m1 : (m : Int) < (k : Int) := by omega
        have m2 : (0 : Int) ≤ (m : Int) := by omega
        obtain ⟨cg, CB, cb, e1, e2, e6, e4⟩ := (HCC.out _ Er.out).at_ hm
        rw [clL_len, HN.out.1] at e6
        subst e1
        rw [← e3] at e4
        have HEQ := hide (equal_same LA CB lc cb nf L wr HLN.out (by have := HL.out; unfold maxLen; omega) (HLL.out _ Cr.out) e4)
        clear e3 e4 hm
        go_wp2_with fail
        refine HEQ.out.mono ?_
        rintro e wy ⟨rfl, hb⟩
        have By := hide (Br.out.trans (hb.mono Br.out.size))
        clear hb
        go_wp2_with fail
        refine (known_any wy).mono ?_
        rintro e wz ⟨rfl, hbz⟩
        go_wp2_with fail
        go_ret
        exact ⟨rfl, HB0.out.trans ((By.out.trans (hbz.mono By.out.size)).mono HB0.out.size)⟩
      -- END3
  -- END9
  -- ENDa2
  -- ENDa1
  -- END8
  -- END7
  -- END5
end Go.Proofs.YtmpegkojencbjaaDoor
/- How a law's statement follows from its walk; arguments opened as readings. -/
namespace Go.Proofs.YtmpegkojencbjaaDoor
open Go Go.RowKit Go.ChangeShapes Go.WideShapes Go.ChangeAt
set_option maxRecDepth 100000
theorem own_knob : ownKnob Tryd.prog.godebug = none := by kernel_rfl
theorem laidOut : laidOutB Tryd.prog = true := by kernel_rfl
section
variable {H : Type} {enc : TypeId × Value → H}
/-- arguments read behind the call as before, if below the heap's old size nothing has turned -/
theorem stay_all {W W' : World} (hb : Below W.heap.size W W') {sp : Nat → Bool} : ∀ {ts : List TypeId} {vs : List Value} {ds : List (DataW H)} {ps : List MemPlace},
    (∀ t ∈ ts, Tryd.prog.readableRec t = true ∧ t < Tryd.prog.types.size) → DataW.TrodAll enc Tryd.prog W 0 (fun _ => true) true ts vs ds ps → (∀ x ∈ ps, x.block < W.heap.size) → (∀ x ∈ ps, sp x.block = true) →
    DataW.TrodAll enc Tryd.prog W' 0 sp true ts vs ds ps
  | [], _, _, _, _, h, _, _ => by
    obtain ⟨rfl, rfl, rfl⟩ := trodAll_nil h
    exact trodAll_mk0
  | t :: ts, _, _, _, hr, h, hlt, hsp => by
    obtain ⟨v, vs, d, ds, p, q, rfl, rfl, rfl, h0, r0⟩ := trodAll_cons h
    have k := hr t (by simp)
    exact trodAll_cons_mk (WideElems.Trod_stays laidOut k.1 k.2 h0 (fun x hx => hb.same (hlt x (by simp [hx]))) (fun x hx => hsp x (by simp [hx])))
      (stay_all hb (fun t ht => hr t (by simp [ht])) r0 (fun x hx => hlt x (by simp [hx])) (fun x hx => hsp x (by simp [hx])))
/-- a law that returned true and turned nothing old -/
theorem law_post {f : Func} {s : ChangeSpec} {apart fresh handsOn again : Bool} {W W' : World} {args : Array Value} {ds gs : List (DataW H)} {before : List MemPlace}
    (hW : DataW.Whole enc Tryd.prog f.params.toList s.vars apart W args.toList ds gs before) (hb : Below W.heap.size W W')
    (hvs : s.vars = []) (hr1 : f.resultTypes = #[4])
    (hpar : f.params.toList.all (fun t => Tryd.prog.readableRec t && decide (t < Tryd.prog.types.size)) = true)
    (hfn : (s.fn H ds).results = [.lit (.bool true)] ∧ (s.fn H ds).args = ds ∧ (s.fn H ds).vars = []) :
    s.post enc Tryd.prog f apart fresh handsOn again W args (.bool true) W' := by
  have hW0 := hW
  have hlt : ∀ p ∈ before, p.block < W.heap.size := fun p hp => hW.lt p hp
  have hold : ∀ p ∈ before, (fun b => decide (b < W.heap.size)) p.block = true := fun p hp => by simpa using hlt p hp
  obtain ⟨p, q, hA, hV, rfl, hz, hn⟩ := hW
  rw [hvs] at hV
  obtain ⟨rfl, rfl⟩ := trodVars_none hV
  simp only [List.append_nil] at *
  have hk : ∀ t ∈ f.params.toList, Tryd.prog.readableRec t = true ∧ t < Tryd.prog.types.size := by
    intro t ht
    have := List.all_eq_true.1 hpar t ht
    simpa using this
  have hargs : ∀ sp : Nat → Bool, (∀ x ∈ p, sp x.block = true) → DataW.TrodAll enc Tryd.prog W' 0 sp true f.params.toList args.toList (s.fn H (ds ++ [])).args p := fun sp hsp => by
    rw [List.append_nil, hfn.2.1]; exact stay_all hb hk hA hlt hsp
  have hvars : ∀ sp : Nat → Bool, DataW.TrodVars enc Tryd.prog W' sp s.vars (s.fn H (ds ++ [])).vars [] := fun sp => by
    rw [hvs, List.append_nil, hfn.2.2]; exact rfl
  have hres : ∀ (b : Nat) (sp : Nat → Bool) (hd : Bool), DataW.TrodAll enc Tryd.prog W' b sp hd f.resultTypes.toList ((Value.bool true).resultList f.resultTypes.size) (s.fn H (ds ++ [])).results [] := fun b sp hd => by
    rw [List.append_nil, hfn.1, hr1]
    exact trodAll_cons_mk (shut_bool Tryd.underlying4 _) trodAll_mk0
  refine ⟨ds, [], p, [], p, [], hW0, hres _ _ _, hargs _ hold, hvars _, World.keptBut_mono (fun x hx => ⟨hx, Or.inr (by simpa using hx)⟩) (hb.frame (· ∈ p)), fun _ => ?_⟩
  refine ⟨ok_one hr1 rfl (okWide_bool_mk Tryd.underlying4 _), _, _, ([] ++ p) ++ [], ⟨[] ++ p, [], trodAll_append (hargs _ (fun _ _ => rfl)) (hres _ _ _), hvars (fun _ => true), rfl, ?_, ?_⟩, ?_⟩
  · intro b off hp
    have hin : MemPlace.cell b off ∈ p := by simpa using hp
    rw [hb.frozen (hlt _ hin)]
    exact hz b off hin
  · intro ha
    simpa using hn ha
  · intro x hx _
    simpa using hx
/-- a slice of structs of two cells: the readings of its elements -/
theorem open_pairs_c {W : World} {t e : TypeId} {f0 f1 : Field} {v : Value} {x : DataW H × List MemPlace} {fuel : Nat} (ht : Tryd.prog.underlying t = some (.slice e)) (he : Tryd.prog.underlying e = some (.struct #[f0, f1]))
    (ce : Tryd.prog.cellsOf e = 2) (o0 : f0.offset = 0) (o1 : f1.offset = 1) (c0 : Tryd.prog.cellsOf f0.type = 1) (c1 : Tryd.prog.cellsOf f1.type = 1)
    (h : DataW.trod enc Tryd.prog W 0 (fun _ => true) true fuel t [v] = some x) (hlt : ∀ y ∈ x.2, y.block < W.heap.size) :
    ∃ A n c V0 V1, v = .slice A n c ∧ n ≤ maxLen ∧ n ≤ c ∧ P2 W W.heap.size A n V0 V1 ∧ ∀ i, i < n → ∃ m x0 x1, DataW.trod enc Tryd.prog W 0 (fun _ => true) true m f0.type [V0 i] = some x0 ∧ DataW.trod enc Tryd.prog W 0 (fun _ => true) true m f1.type [V1 i] = some x1 ∧
      (∀ y ∈ x0.2, y.block < W.heap.size) ∧ (∀ y ∈ x1.2, y.block < W.heap.size) := by
  rcases Deep.open_slice_pairs ht he ce o0 o1 c0 c1 h with ⟨h1, -⟩ | ⟨a, len, cap, m, n, V0, V1, D0, D1, P0, P1, h1, hb, hl, hm, hmm, hx, hc⟩
  · injection h1 with h1
    subst h1
    exact ⟨none, 0, 0, fun _ => .nilIface, fun _ => .nilIface, rfl, by simp [maxLen], Nat.le_refl _, ER.nil _ _ _ _ _, fun i hi => absurd hi (by omega)⟩
  · injection h1 with h1
    subst h1
    simp only [if_true] at hmm
    subst hmm
    refine ⟨some a, len, m, V0, V1, rfl, by omega, hl, fun hn => ?_, fun i hi => ?_⟩
    · have h0 := (hc 0 (by omega)).1
      obtain ⟨b, off, spot⟩ := a
      have hsp : spot = none := by simpa [Addr.add] using World.cell?_spot h0
      subst hsp
      refine ⟨b, off, rfl, ?_, fun k i hk hi => ?_⟩
      · have hb1 := hlt (.cell b (off + 0)) (by
          rw [hx]
          exact List.mem_append_left _ (MemPlace.mem_row.2 ⟨0, by omega, rfl⟩))
        exact hb1
      · have hk2 := hc k (by omega)
        have q0 := hk2.1
        have q1 := hk2.2.1
        rw [add_lit'] at q0 q1
        rcases (by omega : i = 0 ∨ i = 1) with rfl | rfl
        · simpa using q0
        · simpa [Nat.add_assoc] using q1
    · have hi2 := hc i (by omega)
      refine ⟨n, _, _, hi2.2.2.1, hi2.2.2.2, fun y hy => hlt y ?_, fun y hy => hlt y ?_⟩
      · rw [hx]; exact List.mem_append_right _ (List.mem_flatMap.2 ⟨i, by simp; omega, List.mem_append_left _ hy⟩)
      · rw [hx]; exact List.mem_append_right _ (List.mem_flatMap.2 ⟨i, by simp; omega, List.mem_append_right _ hy⟩)
/-- a slice of ints -/
theorem open_ints_c {W : World} {t : TypeId} {v : Value} {x : DataW H × List MemPlace} {fuel : Nat} (ht : Tryd.prog.underlying t = some (.slice 3))
    (h : DataW.trod enc Tryd.prog W 0 (fun _ => true) true fuel t [v] = some x) (hlt : ∀ y ∈ x.2, y.block < W.heap.size) :
    ∃ A n c z, v = .slice A n c ∧ n ≤ maxLen ∧ n ≤ c ∧ IR W W.heap.size A n z ∧ ∀ i, i < n → -9223372036854775808 ≤ z i ∧ z i ≤ 9223372036854775807 := by
  rcases open_ints ht Tryd.underlying3 (by kernel_rfl) h with ⟨h1, -⟩ | ⟨a, len, cap, zs, h1, hb, hl, hm, hz, hx, hc, hwf⟩
  · injection h1 with h1
    subst h1
    exact ⟨none, 0, 0, fun _ => 0, rfl, by simp [maxLen], Nat.le_refl _, ER.nil _ _ _ _ _, fun i hi => absurd hi (by omega)⟩
  · injection h1 with h1
    subst h1
    simp only [if_true] at hz
    refine ⟨some a, len, cap, fun i => zs.getD i 0, rfl, by omega, hl, fun hn => ?_, fun i hi => ?_⟩
    · have h0 := hc 0 (by omega)
      obtain ⟨b, off, spot⟩ := a
      have hsp : spot = none := by simpa [Addr.add] using World.cell?_spot h0
      subst hsp
      refine ⟨b, off, rfl, ?_, fun k i hk hi => ?_⟩
      · have hb1 := hlt (.cell b (off + 0)) (by
          rw [hx]
          exact MemPlace.mem_row.2 ⟨0, by omega, rfl⟩)
        exact hb1
      · obtain rfl : i = 0 := by omega
        have := hc k (by omega)
        rw [add_lit'] at this
        simpa using this
    · have h1 : zs.getD i 0 ∈ zs := by
        rw [List.getD_eq_getElem?_getD, List.getElem?_eq_getElem (by omega)]
        exact List.getElem_mem _
      have := hwf _ h1
      simp only [Lit.wf, Bool.and_eq_true, decide_eq_true_eq] at this
      simpa [IntKind.min, IntKind.max, IntKind.signed, IntKind.bits] using this
theorem int_of_trod {W : World} {t : TypeId} {v : Value} {x : DataW H × List MemPlace} {fuel : Nat} (ht : Tryd.prog.underlying t = some (.int .i64)) (h : DataW.trod enc Tryd.prog W 0 (fun _ => true) true fuel t [v] = some x) :
    v = .int .i64 (intOf v) ∧ -9223372036854775808 ≤ intOf v ∧ intOf v ≤ 9223372036854775807 := by
  obtain ⟨z, hz, -, hw⟩ := DataW.trod_int ht h
  injection hz with hz
  subst hz
  simp only [Lit.wf, Bool.and_eq_true, decide_eq_true_eq] at hw
  exact ⟨rfl, by simpa [intOf, IntKind.min, IntKind.max, IntKind.signed, IntKind.bits] using hw⟩
theorem cells_slice {A : Option Addr} {n c : Nat} : (Value.slice A n c).cells.toList = [.slice A n c] := rfl
/-- a slice of structs of two ints -/
theorem open_pairs {r : Reach} {b0 : Nat} {W : World} {t e : TypeId} {f0 f1 : Field} {v : Value} {d : DataW H} {p : List MemPlace} (ht : Tryd.prog.underlying t = some (.slice e)) (he : Tryd.prog.underlying e = some (.struct #[f0, f1]))
    (ce : Tryd.prog.cellsOf e = 2) (o0 : f0.offset = 0) (o1 : f1.offset = 1) (c0 : Tryd.prog.cellsOf f0.type = 1) (c1 : Tryd.prog.cellsOf f1.type = 1)
    (k0 : Tryd.prog.underlying f0.type = some (.int .i64)) (k1 : Tryd.prog.underlying f1.type = some (.int .i64)) (hval : Value.okWide Tryd.prog W r b0 t v)
    (h : DataW.Trod enc Tryd.prog W 0 (fun _ => true) true t v d p) (hlt : ∀ x ∈ p, x.block < W.heap.size) :
    ∃ A n c x y, v = .slice A n c ∧ n ≤ maxLen ∧ n ≤ c ∧ PI W W.heap.size A n x y := by
  obtain ⟨fuel, h⟩ := h
  obtain ⟨A, n, c, rfl⟩ := okWide_slice ht hval
  rw [cells_slice] at h
  obtain ⟨A', n', c', V0, V1, h1, hn, hnc, hP, hV⟩ := open_pairs_c ht he ce o0 o1 c0 c1 h hlt
  injection h1 with h1 h2 h3
  subst h1 h2 h3
  refine ⟨A, n, c, fun i => intOf (V0 i), fun i => intOf (V1 i), rfl, hn, hnc, fun hn0 => ?_⟩
  obtain ⟨b, off, hA, hb, hc⟩ := hP hn0
  refine ⟨b, off, hA, hb, fun k i hk hi => ?_⟩
  obtain ⟨m, x0, x1, g0, g1, -, -⟩ := hV k hk
  rw [hc k i hk hi]
  rcases (by omega : i = 0 ∨ i = 1) with rfl | rfl
  · simpa using (int_of_trod k0 g0).1
  · simpa using (int_of_trod k1 g1).1
end
end Go.Proofs.YtmpegkojencbjaaDoor
