/- The law KilnLosses, walked: what is left and what is needed are what the reference says. -/
import Derived.Test.YtlhekifmkkgjlaaLc
import Derived.Test.YtlhekifmkkgjlaaLaw
set_option linter.unusedSimpArgs false
set_option linter.unusedVariables false
set_option linter.unnecessarySimpa false
namespace Go.Proofs.Ytlhekifmkkgjlaa
open Go Go.RowKit Go.Shelf
set_option maxHeartbeats 2000000
theorem info_stage : (Try.prog.info? 121).map (fun i => (i.zero, i.size, i.bytes)) = some (some (.agg #[.int .i64 0, .int .i64 0]), 2, 16) := by kernel_rfl
theorem cells_oneI (n : Nat) (x y : Nat → Int) : ∀ u ∈ cellsOf 2 n (fun k i => if i = 0 then Value.int .i64 (x k) else .int .i64 (y k)), u.oneCell' = true := by
  intro u hu
  simp only [cellsOf, List.mem_map] at hu
  obtain ⟨j, _, rfl⟩ := hu
  split <;> rfl
def StagesPost (n : Nat) (x y : Nat → Int) (w : World) (e : Ending) (w' : World) : Prop := ∃ A c, e = .returned (.slice A n c) ∧ PI w' w'.heap.size A n x y ∧ Below w.heap.size w w'
theorem stages_any (A : Option Addr) (n c : Nat) (x y : Nat → Int) (w : World) (hn : n ≤ 65536) (hR : PI w w.heap.size A n x y) :
    Calls Try.prog 15 #[.slice A n c] w (StagesPost n x y w) := by
  obtain ⟨i0, hi, hz0, hz1, hz2⟩ := info_parts info_stage
  have HR := hide hR
  clear hR
  go_enter Try.func15, Try.ntmps15
  go_wp2_with (at_builtin; refine wpList_append_any _ rfl (.tmp 3) (.tmp 4) _ rfl w.heap.size 121 i0 _ 2 16 Try.underlying22 hi hz0 hz1 hz2 rfl (by omega) (.slice (some ⟨w.heap.size, 0, none⟩) 0 0) 0 [] rfl (own_empty w _ 2) w.heap.size A n c (cellsOf 2 n fun k i => if i = 0 then .int .i64 (x k) else .int .i64 (y k)) rfl ((HR.out.below ((Below.refl _ _).alloc (Nat.le_refl _) _) (Nat.le_refl _)).reads (by omega)) (cells_oneI n x y) (by unfold maxLen; omega) (by omega) (by simp) ?_; intro v1 w1 hown1 hg1 hat1)
  have hB : Below w.heap.size w w1 := ((Below.refl _ _).alloc (Nat.le_refl _) _).grown hg1 (by simp) (by simp [Value.ownBlock])
  go_ret
  rw [Nat.zero_add, List.nil_append] at hown1
  obtain ⟨A', c', hv, hE, -⟩ := ER.of_own hown1 (by omega)
  exact ⟨A', c', by rw [← hv]; rfl, hE, hB⟩
theorem chk_of_rst {n : Int} {m : Nat} {bad : Bool} (h : rstE m bad ≠ 0) : chkE n m bad = rstE m bad := by
  unfold chkE rstE at *
  by_cases h1 : 10 < m <;> by_cases h2 : bad = true <;> simp_all
theorem chk_of_range {n : Int} {m : Nat} {bad : Bool} (h : rstE m bad = 0) (hn : ¬ (0 ≤ n ∧ n ≤ 1000000000)) : chkE n m bad = 3 := by
  unfold chkE rstE at *
  rw [if_neg hn]
  by_cases h1 : 10 < m <;> by_cases h2 : bad = true <;> simp_all
theorem chk_zero {n : Int} {m : Nat} {bad : Bool} (h : rstE m bad = 0) (hn : 0 ≤ n ∧ n ≤ 1000000000) : chkE n m bad = 0 := by
  unfold chkE rstE at *
  by_cases h1 : 10 < m <;> by_cases h2 : bad = true <;> simp_all
theorem losses_long (n : Int) (A : Option Addr) (m c : Nat) (w : World) (hm : 15 < m) : Calls Try.prog 3 #[.int .i64 n, .slice A m c] w fun e w' => e = .returned (.bool true) ∧ Below w.heap.size w w' := by
  have HK := hide known_any
  go_enter Try.func3, Try.ntmps3
  go_wp2_with fail
  refine (HK.out _).mono ?_
  rintro e w1 ⟨rfl, hb1⟩
  go_wp2_with fail
  go_ret
  exact ⟨rfl, hb1⟩
theorem losses_err (n : Int) (A : Option Addr) (m c : Nat) (x y : Nat → Int) (w : World) (hm : m ≤ 15) (hR : PI w w.heap.size A m x y) (he : chkE n m (anyTo (fun k => stB (x k) (y k)) m) ≠ 0) : Calls Try.prog 3 #[.int .i64 n, .slice A m c] w fun e w' => e = .returned (.bool true) ∧ Below w.heap.size w w' := by
  have HK := hide known_any
  have HST := hide (fun W c (hB : Below w.heap.size w W) => stages_any A m c x y W (by omega) ((hR.below hB (Nat.le_refl _)).more hB.size))
  have HRS := hide (fun W c (hB : Below w.heap.size w W) => refStages_any A m c x y W (by unfold maxLen; omega) ((hR.below hB (Nat.le_refl _)).more hB.size))
  have HLE := hide (fun W A c hR => left_err n A m c x y W (by unfold maxLen; omega) hR he)
  have HNE := hide (fun W A c hR => need_err n A m c x y W (by unfold maxLen; omega) hR he)
  have h15 : ¬ 15 < m := by omega
  by_cases hr : rstE m (anyTo (fun k => stB (x k) (y k)) m) = 0
  · have hn : ¬ (0 ≤ n ∧ n ≤ 1000000000) := fun hn => he (chk_zero hr hn)
    rw [chk_of_range hr hn] at HLE HNE
    rw [hr] at HRS
    clear he hr hR
    rcases (by omega : n < 0 ∨ 1000000000 < n) with h0 | h0
    all_goals
      have h1 : ¬ n < 0 ∨ n < 0 := by omega
      clear hn h1
      go_enter Try.func3, Try.ntmps3
      go_wp2_with fail
      refine (HST.out _ _ (Below.refl _ _)).mono ?_
      rintro e w1 ⟨A1, c1, rfl, hR1, hb1⟩
      have HR1 := hide hR1
      clear hR1
      go_wp2_with fail
      refine (HLE.out _ _ _ HR1.out).mono ?_
      rintro e w2 ⟨rfl, hb2⟩
      have B2 := hide (hb1.trans (hb2.mono hb1.size))
      clear hb1 hb2 HR1
      have B3 := hide (B2.out.alloc B2.out.size (.cells #[.int .i64 0, .int .i64 0] 25))
      have K3 := hide (Blk.new w2 25 #[.int .i64 0, .int .i64 0])
      go_wp2_with fail
      refine (HST.out _ _ B3.out).mono ?_
      rintro e w4 ⟨A4, c4, rfl, hR4, hb4⟩
      have HR4 := hide hR4
      clear hR4
      have B4 := hide (B3.out.trans (hb4.mono B3.out.size))
      have K4 := hide (K3.out.ext hb4)
      clear hb4
      go_wp2_with fail
      refine (HNE.out _ _ _ HR4.out).mono ?_
      rintro e w5 ⟨rfl, hb5⟩
      have B5 := hide (B4.out.trans (hb5.mono B4.out.size))
      have K5 := hide (K4.out.ext hb5)
      clear hb5 HR4
      go_wp2_with fail
      refine (HRS.out _ _ B5.out).mono ?_
      rintro e w6 ⟨rfl, hb6⟩
      have B6 := hide (B5.out.trans (hb6.mono B5.out.size))
      obtain ⟨z0, z1, z2, -, -⟩ := blk2 (K5.out.ext hb6)
      clear hb6
      go_wp2_with fail
      refine (HK.out _).mono ?_
      rintro e w7 ⟨rfl, hb7⟩
      go_wp2_with fail
      go_ret
      exact ⟨rfl, B6.out.trans (hb7.mono B6.out.size)⟩
  · rw [chk_of_rst hr] at HLE HNE
    generalize rstE m (anyTo (fun k => stB (x k) (y k)) m) = E at HLE HNE HRS hr
    have e1 : (E == 0) = false := by simpa using hr
    have e2 : (E != 0) = true := by simpa using hr
    clear he hr hR
    go_enter Try.func3, Try.ntmps3
    go_wp2_with fail
    refine (HST.out _ _ (Below.refl _ _)).mono ?_
    rintro e w1 ⟨A1, c1, rfl, hR1, hb1⟩
    have HR1 := hide hR1
    clear hR1
    go_wp2_with fail
    refine (HLE.out _ _ _ HR1.out).mono ?_
    rintro e w2 ⟨rfl, hb2⟩
    have B2 := hide (hb1.trans (hb2.mono hb1.size))
    clear hb1 hb2 HR1
    have B3 := hide (B2.out.alloc B2.out.size (.cells #[.int .i64 0, .int .i64 0] 25))
    have K3 := hide (Blk.new w2 25 #[.int .i64 0, .int .i64 0])
    go_wp2_with fail
    refine (HST.out _ _ B3.out).mono ?_
    rintro e w4 ⟨A4, c4, rfl, hR4, hb4⟩
    have HR4 := hide hR4
    clear hR4
    have B4 := hide (B3.out.trans (hb4.mono B3.out.size))
    have K4 := hide (K3.out.ext hb4)
    clear hb4
    go_wp2_with fail
    refine (HNE.out _ _ _ HR4.out).mono ?_
    rintro e w5 ⟨rfl, hb5⟩
    have B5 := hide (B4.out.trans (hb5.mono B4.out.size))
    have K5 := hide (K4.out.ext hb5)
    clear hb5 HR4
    go_wp2_with fail
    refine (HRS.out _ _ B5.out).mono ?_
    rintro e w6 ⟨rfl, hb6⟩
    have B6 := hide (B5.out.trans (hb6.mono B5.out.size))
    obtain ⟨z0, z1, z2, -, -⟩ := blk2 (K5.out.ext hb6)
    clear hb6
    go_wp2_with fail
    refine (HK.out _).mono ?_
    rintro e w7 ⟨rfl, hb7⟩
    go_wp2_with fail
    go_ret
    exact ⟨rfl, B6.out.trans (hb7.mono B6.out.size)⟩
theorem rst_zero {n : Int} {m : Nat} {bad : Bool} (h : chkE n m bad = 0) : rstE m bad = 0 := by
  unfold chkE rstE at *
  by_cases h1 : 10 < m <;> by_cases h2 : bad = true <;> simp_all
theorem losses_ok (n : Int) (A : Option Addr) (m c : Nat) (x y : Nat → Int) (w : World) (hm : m ≤ 15) (hR : PI w w.heap.size A m x y) (he : chkE n m (anyTo (fun k => stB (x k) (y k)) m) = 0) : Calls Try.prog 3 #[.int .i64 n, .slice A m c] w fun e w' => e = .returned (.bool true) ∧ Below w.heap.size w w' := by
  have HK := hide known_any
  have HST := hide (fun W c (hB : Below w.heap.size w W) => stages_any A m c x y W (by omega) ((hR.below hB (Nat.le_refl _)).more hB.size))
  have HRS := hide (fun W c (hB : Below w.heap.size w W) => refStages_any A m c x y W (by unfold maxLen; omega) ((hR.below hB (Nat.le_refl _)).more hB.size))
  obtain ⟨h10, hs, h0, h1⟩ := (chkE_zero _ _ _ _).1 he
  have HLE := hide (fun W A c hR => left_ok n A m c x y W h10 hR hs h0 h1)
  have HNE := hide (fun W A c hR => need_ok n A m c x y W h10 hR hs h0 h1)
  have HRN := hide (fun W (hB : Below w.heap.size w W) => refNeed_ok n A m c x y W h10 ((hR.below hB (Nat.le_refl _)).more hB.size) hs)
  have HRL := hide (fun W (hB : Below w.heap.size w W) => refLeft_any n A m c x y W (by unfold maxLen; omega) ((hR.below hB (Nat.le_refl _)).more hB.size) hs h0 (by omega))
  have h15 : ¬ 15 < m := by omega
  rw [rst_zero he] at HRS
  have n1 : ¬ n < 0 := by omega
  have n2 : ¬ 1000000000 < n := by omega
  have n3 : decide (n < 0) = false := decide_eq_false n1
  have n4 : decide (1000000000 < n) = false := decide_eq_false n2
  unfold NeedPost at HNE
  unfold RefNeedPost at HRN
  generalize hP : (fun i : Nat => decide (n ≤ aft y m i)) = P at HNE HRN
  generalize aft y m n = X at HLE HRL
  generalize aft x m n = Y at HLE HRL
  clear he hs hR hP n1 n2
  go_enter Try.func3, Try.ntmps3
  go_wp2_with fail
  refine (HST.out _ _ (Below.refl _ _)).mono ?_
  rintro e w1 ⟨A1, c1, rfl, hR1, hb1⟩
  have HR1 := hide hR1
  clear hR1
  go_wp2_with fail
  refine (HLE.out _ _ _ HR1.out).mono ?_
  rintro e w2 ⟨rfl, hb2⟩
  have B2 := hide (hb1.trans (hb2.mono hb1.size))
  clear hb1 hb2 HR1
  have B3 := hide (B2.out.alloc B2.out.size (.cells #[.int .i64 X, .int .i64 Y] 25))
  have K3 := hide (Blk.new w2 25 #[.int .i64 X, .int .i64 Y])
  go_wp2_with fail
  refine (HST.out _ _ B3.out).mono ?_
  rintro e w4 ⟨A4, c4, rfl, hR4, hb4⟩
  have HR4 := hide hR4
  clear hR4
  have B4 := hide (B3.out.trans (hb4.mono B3.out.size))
  have K4 := hide (K3.out.ext hb4)
  clear hb4
  go_wp2_with fail
  refine (HNE.out _ _ _ HR4.out).mono ?_
  rintro e w5 ⟨r, hL, rfl, hb5⟩
  have B5 := hide (B4.out.trans (hb5.mono B4.out.size))
  have K5 := hide (K4.out.ext hb5)
  have HL5 := hide hL
  clear hb5 HR4 hL
  by_cases hr : r ≤ 1000000000
  · simp only [if_pos hr]
    have HD := hide (decide_eq_true hr)
    clear hr
    go_wp2_with fail
    refine (HRS.out _ _ B5.out).mono ?_
    rintro e w6 ⟨rfl, hb6⟩
    have B6 := hide (B5.out.trans (hb6.mono B5.out.size))
    have K6 := hide (K5.out.ext hb6)
    clear hb6
    go_wp2_with fail
    refine (HRN.out _ B6.out).mono ?_
    rintro e w7 ⟨r2, hL2, rfl, hb7⟩
    obtain rfl : r = r2 := HL5.out.uniq hL2
    rw [HD.out]
    have B7 := hide (B6.out.trans (hb7.mono B6.out.size))
    have K7 := hide (K6.out.ext hb7)
    clear hb7 hL2 HL5 HD
    go_wp2_with fail
    obtain ⟨z0, z1, z2, -, -⟩ := blk2 K7.out
    have HH1 : Hid ((fun W : World => W.cell? ⟨w2.heap.size, 0, none⟩ = some (.int .i64 X) ∧ W.cell? ⟨w2.heap.size, 1, none⟩ = some (.int .i64 Y)) w7.drew) := ⟨z1, z2⟩
    refine wp_region_J (fun W : World => W.cell? ⟨w2.heap.size, 0, none⟩ = some (.int .i64 X) ∧ W.cell? ⟨w2.heap.size, 1, none⟩ = some (.int .i64 Y)) (by kernel_rfl) ?_
    refine wpAnyJ_take 0 (v := ?_) (by first | exact hF | exact wideFn) HH1.out rfl (by kernel_rfl) (by kernel_rfl) (by kernel_rfl) (by kernel_rfl) rfl ?_ (fun _ _ _ h => h) ?_
    rotate_left
    · intro W hSW
      simp only [List.getElem_toArray, List.getElem_cons_zero, List.getElem_cons_succ]
      (try dsimp only at hSW)
      go_simp
      with_reducible rfl
    (try simp only [List.getElem_toArray, List.getElem_cons_zero, List.getElem_cons_succ, Act.put, List.setIfInBounds_toArray, List.set_cons_zero, List.set_cons_succ])
    refine wpAnyJ_take 1 (v := ?_) (by first | exact hF | exact wideFn) HH1.out rfl (by kernel_rfl) (by kernel_rfl) (by kernel_rfl) (by kernel_rfl) rfl ?_ (fun _ _ _ h => h) ?_
    rotate_left
    · intro W hSW
      simp only [List.getElem_toArray, List.getElem_cons_zero, List.getElem_cons_succ]
      (try dsimp only at hSW)
      go_simp
      with_reducible rfl
    (try simp only [List.getElem_toArray, List.getElem_cons_zero, List.getElem_cons_succ, Act.put, List.setIfInBounds_toArray, List.set_cons_zero, List.set_cons_succ])
    refine wpAnyJ_take 2 (v := ?_) (by first | exact hF | exact wideFn) HH1.out rfl (by kernel_rfl) (by kernel_rfl) (by kernel_rfl) (by kernel_rfl) rfl ?_ (fun _ _ _ h => h) ?_
    rotate_left
    · intro W hSW
      simp only [List.getElem_toArray, List.getElem_cons_zero, List.getElem_cons_succ]
      (try dsimp only at hSW)
      go_simp
      with_reducible rfl
    (try simp only [List.getElem_toArray, List.getElem_cons_zero, List.getElem_cons_succ, Act.put, List.setIfInBounds_toArray, List.set_cons_zero, List.set_cons_succ])
    refine wpAnyJ_take 3 (v := ?_) (by first | exact hF | exact wideFn) HH1.out rfl (by kernel_rfl) (by kernel_rfl) (by kernel_rfl) (by kernel_rfl) rfl ?_ (fun _ _ _ h => h) ?_
    rotate_left
    · intro W hSW
      simp only [List.getElem_toArray, List.getElem_cons_zero, List.getElem_cons_succ]
      (try dsimp only at hSW)
      go_simp
      with_reducible rfl
    (try simp only [List.getElem_toArray, List.getElem_cons_zero, List.getElem_cons_succ, Act.put, List.setIfInBounds_toArray, List.set_cons_zero, List.set_cons_succ])
    refine wpAnyJ_take 4 (v := ?_) (by first | exact hF | exact wideFn) HH1.out rfl (by kernel_rfl) (by kernel_rfl) (by kernel_rfl) (by kernel_rfl) rfl ?_ (fun _ _ _ h => h) ?_
    rotate_left
    · intro W hSW
      simp only [List.getElem_toArray, List.getElem_cons_zero, List.getElem_cons_succ]
      (try dsimp only at hSW)
      go_simp
      with_reducible rfl
    (try simp only [List.getElem_toArray, List.getElem_cons_zero, List.getElem_cons_succ, Act.put, List.setIfInBounds_toArray, List.set_cons_zero, List.set_cons_succ])
    refine wpAnyJ_take 5 (v := ?_) (by first | exact hF | exact wideFn) HH1.out rfl (by kernel_rfl) (by kernel_rfl) (by kernel_rfl) (by kernel_rfl) rfl ?_ (fun _ _ _ h => h) ?_
    rotate_left
    · intro W hSW
      simp only [List.getElem_toArray, List.getElem_cons_zero, List.getElem_cons_succ]
      (try dsimp only at hSW)
      go_simp
      with_reducible rfl
    (try simp only [List.getElem_toArray, List.getElem_cons_zero, List.getElem_cons_succ, Act.put, List.setIfInBounds_toArray, List.set_cons_zero, List.set_cons_succ])
    refine wpAnyJ_one 6 rfl (by kernel_rfl) (fun K hK => ?_)
    simp only [List.getElem_toArray, List.getElem_cons_zero, List.getElem_cons_succ]
    go_simp
    refine ⟨trivial, rfl, ?_⟩
    refine (callsIn_wide.2 (HRL.out _ B7.out.drew)).mono ?_
    rintro e w8 ⟨rfl, hb8⟩
    have HH2 := hide (And.intro ((hb8.cell (p := ⟨w2.heap.size, 0, none⟩) z0).trans z1) ((hb8.cell (p := ⟨w2.heap.size, 1, none⟩) z0).trans z2))
    dsimp only
    refine hK.out _ _ (fun _ => HH2.out) ?_
    clear hK K
    (try simp only [List.getElem_toArray, List.getElem_cons_zero, List.getElem_cons_succ, Act.put, List.setIfInBounds_toArray, List.set_cons_zero, List.set_cons_succ])
    refine wpAnyJ_take 7 (v := ?_) (by first | exact hF | exact wideFn) HH2.out rfl (by kernel_rfl) (by kernel_rfl) (by kernel_rfl) (by kernel_rfl) rfl ?_ (fun _ _ _ h => h) ?_
    rotate_left
    · intro W hSW
      simp only [List.getElem_toArray, List.getElem_cons_zero, List.getElem_cons_succ]
      (try dsimp only at hSW)
      go_simp
      with_reducible rfl
    (try simp only [List.getElem_toArray, List.getElem_cons_zero, List.getElem_cons_succ, Act.put, List.setIfInBounds_toArray, List.set_cons_zero, List.set_cons_succ])
    refine wpAnyJ_take 8 (v := ?_) (by first | exact hF | exact wideFn) HH2.out rfl (by kernel_rfl) (by kernel_rfl) (by kernel_rfl) (by kernel_rfl) rfl ?_ (fun _ _ _ h => h) ?_
    rotate_left
    · intro W hSW
      simp only [List.getElem_toArray, List.getElem_cons_zero, List.getElem_cons_succ]
      (try dsimp only at hSW)
      go_simp
      with_reducible rfl
    (try simp only [List.getElem_toArray, List.getElem_cons_zero, List.getElem_cons_succ, Act.put, List.setIfInBounds_toArray, List.set_cons_zero, List.set_cons_succ])
    refine wpAnyJ_take 9 (v := ?_) (by first | exact hF | exact wideFn) HH2.out rfl (by kernel_rfl) (by kernel_rfl) (by kernel_rfl) (by kernel_rfl) rfl ?_ (fun _ _ _ h => h) ?_
    rotate_left
    · intro W hSW
      simp only [List.getElem_toArray, List.getElem_cons_zero, List.getElem_cons_succ]
      (try dsimp only at hSW)
      go_simp
      with_reducible rfl
    (try simp only [List.getElem_toArray, List.getElem_cons_zero, List.getElem_cons_succ, Act.put, List.setIfInBounds_toArray, List.set_cons_zero, List.set_cons_succ])
    refine wpAnyJ_take 10 (v := ?_) (by first | exact hF | exact wideFn) HH2.out rfl (by kernel_rfl) (by kernel_rfl) (by kernel_rfl) (by kernel_rfl) rfl ?_ (fun _ _ _ h => h) ?_
    rotate_left
    · intro W hSW
      simp only [List.getElem_toArray, List.getElem_cons_zero, List.getElem_cons_succ]
      (try dsimp only at hSW)
      go_simp
      with_reducible rfl
    (try simp only [List.getElem_toArray, List.getElem_cons_zero, List.getElem_cons_succ, Act.put, List.setIfInBounds_toArray, List.set_cons_zero, List.set_cons_succ])
    refine wpAnyJ_take 11 (v := ?_) (by first | exact hF | exact wideFn) HH2.out rfl (by kernel_rfl) (by kernel_rfl) (by kernel_rfl) (by kernel_rfl) rfl ?_ (fun _ _ _ h => h) ?_
    rotate_left
    · intro W hSW
      simp only [List.getElem_toArray, List.getElem_cons_zero, List.getElem_cons_succ]
      (try dsimp only at hSW)
      go_simp
      with_reducible rfl
    (try simp only [List.getElem_toArray, List.getElem_cons_zero, List.getElem_cons_succ, Act.put, List.setIfInBounds_toArray, List.set_cons_zero, List.set_cons_succ])
    refine wpAnyJ_take 12 (v := ?_) (by first | exact hF | exact wideFn) HH2.out rfl (by kernel_rfl) (by kernel_rfl) (by kernel_rfl) (by kernel_rfl) rfl ?_ (fun _ _ _ h => h) ?_
    rotate_left
    · intro W hSW
      simp only [List.getElem_toArray, List.getElem_cons_zero, List.getElem_cons_succ]
      (try dsimp only at hSW)
      go_simp
      with_reducible rfl
    (try simp only [List.getElem_toArray, List.getElem_cons_zero, List.getElem_cons_succ, Act.put, List.setIfInBounds_toArray, List.set_cons_zero, List.set_cons_succ])
    refine wpAnyJ_take 13 (v := ?_) (by first | exact hF | exact wideFn) HH2.out rfl (by kernel_rfl) (by kernel_rfl) (by kernel_rfl) (by kernel_rfl) rfl ?_ (fun _ _ _ h => h) ?_
    rotate_left
    · intro W hSW
      simp only [List.getElem_toArray, List.getElem_cons_zero, List.getElem_cons_succ]
      (try dsimp only at hSW)
      go_simp
      with_reducible rfl
    (try simp only [List.getElem_toArray, List.getElem_cons_zero, List.getElem_cons_succ, Act.put, List.setIfInBounds_toArray, List.set_cons_zero, List.set_cons_succ])
    refine wpAnyJ_take 14 (v := ?_) (by first | exact hF | exact wideFn) HH2.out rfl (by kernel_rfl) (by kernel_rfl) (by kernel_rfl) (by kernel_rfl) rfl ?_ (fun _ _ _ h => h) ?_
    rotate_left
    · intro W hSW
      simp only [List.getElem_toArray, List.getElem_cons_zero, List.getElem_cons_succ]
      (try dsimp only at hSW)
      go_simp
      with_reducible rfl
    (try simp only [List.getElem_toArray, List.getElem_cons_zero, List.getElem_cons_succ, Act.put, List.setIfInBounds_toArray, List.set_cons_zero, List.set_cons_succ])
    refine wpAnyJ_take 15 (v := ?_) (by first | exact hF | exact wideFn) HH2.out rfl (by kernel_rfl) (by kernel_rfl) (by kernel_rfl) (by kernel_rfl) rfl ?_ (fun _ _ _ h => h) ?_
    rotate_left
    · intro W hSW
      simp only [List.getElem_toArray, List.getElem_cons_zero, List.getElem_cons_succ]
      (try dsimp only at hSW)
      go_simp
      with_reducible rfl
    (try simp only [List.getElem_toArray, List.getElem_cons_zero, List.getElem_cons_succ, Act.put, List.setIfInBounds_toArray, List.set_cons_zero, List.set_cons_succ])
    refine wpAnyJ_take 16 (v := ?_) (by first | exact hF | exact wideFn) HH2.out rfl (by kernel_rfl) (by kernel_rfl) (by kernel_rfl) (by kernel_rfl) rfl ?_ (fun _ _ _ h => h) ?_
    rotate_left
    · intro W hSW
      simp only [List.getElem_toArray, List.getElem_cons_zero, List.getElem_cons_succ]
      (try dsimp only at hSW)
      go_simp
      with_reducible rfl
    (try simp only [List.getElem_toArray, List.getElem_cons_zero, List.getElem_cons_succ, Act.put, List.setIfInBounds_toArray, List.set_cons_zero, List.set_cons_succ])
    refine wpAnyJ_take 17 (v := ?_) (by first | exact hF | exact wideFn) HH2.out rfl (by kernel_rfl) (by kernel_rfl) (by kernel_rfl) (by kernel_rfl) rfl ?_ (fun _ _ _ h => h) ?_
    rotate_left
    · intro W hSW
      simp only [List.getElem_toArray, List.getElem_cons_zero, List.getElem_cons_succ]
      (try dsimp only at hSW)
      go_simp
      with_reducible rfl
    (try simp only [List.getElem_toArray, List.getElem_cons_zero, List.getElem_cons_succ, Act.put, List.setIfInBounds_toArray, List.set_cons_zero, List.set_cons_succ])
    refine wpAnyJ_take 18 (v := ?_) (by first | exact hF | exact wideFn) HH2.out rfl (by kernel_rfl) (by kernel_rfl) (by kernel_rfl) (by kernel_rfl) rfl ?_ (fun _ _ _ h => h) ?_
    rotate_left
    · intro W hSW
      simp only [List.getElem_toArray, List.getElem_cons_zero, List.getElem_cons_succ]
      (try dsimp only at hSW)
      go_simp
      with_reducible rfl
    (try simp only [List.getElem_toArray, List.getElem_cons_zero, List.getElem_cons_succ, Act.put, List.setIfInBounds_toArray, List.set_cons_zero, List.set_cons_succ])
    refine wpAnyJ_take 19 (v := ?_) (by first | exact hF | exact wideFn) HH2.out rfl (by kernel_rfl) (by kernel_rfl) (by kernel_rfl) (by kernel_rfl) rfl ?_ (fun _ _ _ h => h) ?_
    rotate_left
    · intro W hSW
      simp only [List.getElem_toArray, List.getElem_cons_zero, List.getElem_cons_succ]
      (try dsimp only at hSW)
      go_simp
      with_reducible rfl
    (try simp only [List.getElem_toArray, List.getElem_cons_zero, List.getElem_cons_succ, Act.put, List.setIfInBounds_toArray, List.set_cons_zero, List.set_cons_succ])
    refine wpAnyJ_take 20 (v := ?_) (by first | exact hF | exact wideFn) HH2.out rfl (by kernel_rfl) (by kernel_rfl) (by kernel_rfl) (by kernel_rfl) rfl ?_ (fun _ _ _ h => h) ?_
    rotate_left
    · intro W hSW
      simp only [List.getElem_toArray, List.getElem_cons_zero, List.getElem_cons_succ]
      (try dsimp only at hSW)
      go_simp
      with_reducible rfl
    (try simp only [List.getElem_toArray, List.getElem_cons_zero, List.getElem_cons_succ, Act.put, List.setIfInBounds_toArray, List.set_cons_zero, List.set_cons_succ])
    refine wpAnyJ_take 21 (v := ?_) (by first | exact hF | exact wideFn) HH2.out rfl (by kernel_rfl) (by kernel_rfl) (by kernel_rfl) (by kernel_rfl) rfl ?_ (fun _ _ _ h => h) ?_
    rotate_left
    · intro W hSW
      simp only [List.getElem_toArray, List.getElem_cons_zero, List.getElem_cons_succ]
      (try dsimp only at hSW)
      go_simp
      with_reducible rfl
    (try simp only [List.getElem_toArray, List.getElem_cons_zero, List.getElem_cons_succ, Act.put, List.setIfInBounds_toArray, List.set_cons_zero, List.set_cons_succ])
    refine wpAnyJ_take 22 (v := ?_) (by first | exact hF | exact wideFn) HH2.out rfl (by kernel_rfl) (by kernel_rfl) (by kernel_rfl) (by kernel_rfl) rfl ?_ (fun _ _ _ h => h) ?_
    rotate_left
    · intro W hSW
      simp only [List.getElem_toArray, List.getElem_cons_zero, List.getElem_cons_succ]
      (try dsimp only at hSW)
      go_simp
      with_reducible rfl
    (try simp only [List.getElem_toArray, List.getElem_cons_zero, List.getElem_cons_succ, Act.put, List.setIfInBounds_toArray, List.set_cons_zero, List.set_cons_succ])
    refine wpAnyJ_take 23 (v := ?_) (by first | exact hF | exact wideFn) HH2.out rfl (by kernel_rfl) (by kernel_rfl) (by kernel_rfl) (by kernel_rfl) rfl ?_ (fun _ _ _ h => h) ?_
    rotate_left
    · intro W hSW
      simp only [List.getElem_toArray, List.getElem_cons_zero, List.getElem_cons_succ]
      (try dsimp only at hSW)
      go_simp
      with_reducible rfl
    (try simp only [List.getElem_toArray, List.getElem_cons_zero, List.getElem_cons_succ, Act.put, List.setIfInBounds_toArray, List.set_cons_zero, List.set_cons_succ])
    refine wpAnyJ_take 24 (v := ?_) (by first | exact hF | exact wideFn) HH2.out rfl (by kernel_rfl) (by kernel_rfl) (by kernel_rfl) (by kernel_rfl) rfl ?_ (fun _ _ _ h => h) ?_
    rotate_left
    · intro W hSW
      simp only [List.getElem_toArray, List.getElem_cons_zero, List.getElem_cons_succ]
      (try dsimp only at hSW)
      go_simp
      with_reducible rfl
    (try simp only [List.getElem_toArray, List.getElem_cons_zero, List.getElem_cons_succ, Act.put, List.setIfInBounds_toArray, List.set_cons_zero, List.set_cons_succ])
    refine wpAnyJ_skip 25 (by first | exact hF | exact wideFn) HH2.out rfl (by kernel_rfl) (by kernel_rfl) (by kernel_rfl) (by kernel_rfl) rfl (fun _ _ _ h => h) ?_
    (try simp only [List.getElem_toArray, List.getElem_cons_zero, List.getElem_cons_succ, Act.put, List.setIfInBounds_toArray, List.set_cons_zero, List.set_cons_succ])
    refine wpAnyJ_skip 26 (by first | exact hF | exact wideFn) HH2.out rfl (by kernel_rfl) (by kernel_rfl) (by kernel_rfl) (by kernel_rfl) rfl (fun _ _ _ h => h) ?_
    (try simp only [List.getElem_toArray, List.getElem_cons_zero, List.getElem_cons_succ, Act.put, List.setIfInBounds_toArray, List.set_cons_zero, List.set_cons_succ])
    refine wpAnyJ_skip 27 (by first | exact hF | exact wideFn) HH2.out rfl (by kernel_rfl) (by kernel_rfl) (by kernel_rfl) (by kernel_rfl) rfl (fun _ _ _ h => h) ?_
    (try simp only [List.getElem_toArray, List.getElem_cons_zero, List.getElem_cons_succ, Act.put, List.setIfInBounds_toArray, List.set_cons_zero, List.set_cons_succ])
    refine wpAnyJ_skip 28 (by first | exact hF | exact wideFn) HH2.out rfl (by kernel_rfl) (by kernel_rfl) (by kernel_rfl) (by kernel_rfl) rfl (fun _ _ _ h => h) ?_
    (try simp only [List.getElem_toArray, List.getElem_cons_zero, List.getElem_cons_succ, Act.put, List.setIfInBounds_toArray, List.set_cons_zero, List.set_cons_succ])
    refine wpAnyJ_skip 29 (by first | exact hF | exact wideFn) HH2.out rfl (by kernel_rfl) (by kernel_rfl) (by kernel_rfl) (by kernel_rfl) rfl (fun _ _ _ h => h) ?_
    (try simp only [List.getElem_toArray, List.getElem_cons_zero, List.getElem_cons_succ, Act.put, List.setIfInBounds_toArray, List.set_cons_zero, List.set_cons_succ])
    refine wpAnyJ_skip 30 (by first | exact hF | exact wideFn) HH2.out rfl (by kernel_rfl) (by kernel_rfl) (by kernel_rfl) (by kernel_rfl) rfl (fun _ _ _ h => h) ?_
    (try simp only [List.getElem_toArray, List.getElem_cons_zero, List.getElem_cons_succ, Act.put, List.setIfInBounds_toArray, List.set_cons_zero, List.set_cons_succ])
    refine wpAnyJ_take 31 (v := ?_) (by first | exact hF | exact wideFn) HH2.out rfl (by kernel_rfl) (by kernel_rfl) (by kernel_rfl) (by kernel_rfl) rfl ?_ (fun _ _ _ h => h) ?_
    rotate_left
    · intro W hSW
      simp only [List.getElem_toArray, List.getElem_cons_zero, List.getElem_cons_succ]
      (try dsimp only at hSW)
      go_simp
      with_reducible rfl
    (try simp only [List.getElem_toArray, List.getElem_cons_zero, List.getElem_cons_succ, Act.put, List.setIfInBounds_toArray, List.set_cons_zero, List.set_cons_succ])
    refine wpAnyJ_take 32 (v := ?_) (by first | exact hF | exact wideFn) HH2.out rfl (by kernel_rfl) (by kernel_rfl) (by kernel_rfl) (by kernel_rfl) rfl ?_ (fun _ _ _ h => h) ?_
    rotate_left
    · intro W hSW
      simp only [List.getElem_toArray, List.getElem_cons_zero, List.getElem_cons_succ]
      (try dsimp only at hSW)
      go_simp
      with_reducible rfl
    (try simp only [List.getElem_toArray, List.getElem_cons_zero, List.getElem_cons_succ, Act.put, List.setIfInBounds_toArray, List.set_cons_zero, List.set_cons_succ])
    refine wpAnyJ_done (by kernel_rfl) ?_
    have B8 := hide (B7.out.drew.trans (hb8.mono B7.out.size))
    clear z0 z1 z2 hb8 HH1 HH2
    go_wp2_with fail
    refine (HK.out _).mono ?_
    rintro e w9 ⟨rfl, hb9⟩
    go_wp2_with fail
    go_ret
    exact ⟨rfl, B8.out.trans (hb9.mono B8.out.size)⟩
  · simp only [if_neg hr]
    have HD := hide (decide_eq_false hr)
    clear hr
    go_wp2_with fail
    refine (HRS.out _ _ B5.out).mono ?_
    rintro e w6 ⟨rfl, hb6⟩
    have B6 := hide (B5.out.trans (hb6.mono B5.out.size))
    have K6 := hide (K5.out.ext hb6)
    clear hb6
    go_wp2_with fail
    refine (HRN.out _ B6.out).mono ?_
    rintro e w7 ⟨r2, hL2, rfl, hb7⟩
    obtain rfl : r = r2 := HL5.out.uniq hL2
    rw [HD.out]
    have B7 := hide (B6.out.trans (hb7.mono B6.out.size))
    have K7 := hide (K6.out.ext hb7)
    clear hb7 hL2 HL5 HD
    go_wp2_with fail
    obtain ⟨z0, z1, z2, -, -⟩ := blk2 K7.out
    have HH1 : Hid ((fun W : World => W.cell? ⟨w2.heap.size, 0, none⟩ = some (.int .i64 X) ∧ W.cell? ⟨w2.heap.size, 1, none⟩ = some (.int .i64 Y)) w7.drew) := ⟨z1, z2⟩
    refine wp_region_J (fun W : World => W.cell? ⟨w2.heap.size, 0, none⟩ = some (.int .i64 X) ∧ W.cell? ⟨w2.heap.size, 1, none⟩ = some (.int .i64 Y)) (by kernel_rfl) ?_
    refine wpAnyJ_take 0 (v := ?_) (by first | exact hF | exact wideFn) HH1.out rfl (by kernel_rfl) (by kernel_rfl) (by kernel_rfl) (by kernel_rfl) rfl ?_ (fun _ _ _ h => h) ?_
    rotate_left
    · intro W hSW
      simp only [List.getElem_toArray, List.getElem_cons_zero, List.getElem_cons_succ]
      (try dsimp only at hSW)
      go_simp
      with_reducible rfl
    (try simp only [List.getElem_toArray, List.getElem_cons_zero, List.getElem_cons_succ, Act.put, List.setIfInBounds_toArray, List.set_cons_zero, List.set_cons_succ])
    refine wpAnyJ_take 1 (v := ?_) (by first | exact hF | exact wideFn) HH1.out rfl (by kernel_rfl) (by kernel_rfl) (by kernel_rfl) (by kernel_rfl) rfl ?_ (fun _ _ _ h => h) ?_
    rotate_left
    · intro W hSW
      simp only [List.getElem_toArray, List.getElem_cons_zero, List.getElem_cons_succ]
      (try dsimp only at hSW)
      go_simp
      with_reducible rfl
    (try simp only [List.getElem_toArray, List.getElem_cons_zero, List.getElem_cons_succ, Act.put, List.setIfInBounds_toArray, List.set_cons_zero, List.set_cons_succ])
    refine wpAnyJ_take 2 (v := ?_) (by first | exact hF | exact wideFn) HH1.out rfl (by kernel_rfl) (by kernel_rfl) (by kernel_rfl) (by kernel_rfl) rfl ?_ (fun _ _ _ h => h) ?_
    rotate_left
    · intro W hSW
      simp only [List.getElem_toArray, List.getElem_cons_zero, List.getElem_cons_succ]
      (try dsimp only at hSW)
      go_simp
      with_reducible rfl
    (try simp only [List.getElem_toArray, List.getElem_cons_zero, List.getElem_cons_succ, Act.put, List.setIfInBounds_toArray, List.set_cons_zero, List.set_cons_succ])
    refine wpAnyJ_take 3 (v := ?_) (by first | exact hF | exact wideFn) HH1.out rfl (by kernel_rfl) (by kernel_rfl) (by kernel_rfl) (by kernel_rfl) rfl ?_ (fun _ _ _ h => h) ?_
    rotate_left
    · intro W hSW
      simp only [List.getElem_toArray, List.getElem_cons_zero, List.getElem_cons_succ]
      (try dsimp only at hSW)
      go_simp
      with_reducible rfl
    (try simp only [List.getElem_toArray, List.getElem_cons_zero, List.getElem_cons_succ, Act.put, List.setIfInBounds_toArray, List.set_cons_zero, List.set_cons_succ])
    refine wpAnyJ_take 4 (v := ?_) (by first | exact hF | exact wideFn) HH1.out rfl (by kernel_rfl) (by kernel_rfl) (by kernel_rfl) (by kernel_rfl) rfl ?_ (fun _ _ _ h => h) ?_
    rotate_left
    · intro W hSW
      simp only [List.getElem_toArray, List.getElem_cons_zero, List.getElem_cons_succ]
      (try dsimp only at hSW)
      go_simp
      with_reducible rfl
    (try simp only [List.getElem_toArray, List.getElem_cons_zero, List.getElem_cons_succ, Act.put, List.setIfInBounds_toArray, List.set_cons_zero, List.set_cons_succ])
    refine wpAnyJ_take 5 (v := ?_) (by first | exact hF | exact wideFn) HH1.out rfl (by kernel_rfl) (by kernel_rfl) (by kernel_rfl) (by kernel_rfl) rfl ?_ (fun _ _ _ h => h) ?_
    rotate_left
    · intro W hSW
      simp only [List.getElem_toArray, List.getElem_cons_zero, List.getElem_cons_succ]
      (try dsimp only at hSW)
      go_simp
      with_reducible rfl
    (try simp only [List.getElem_toArray, List.getElem_cons_zero, List.getElem_cons_succ, Act.put, List.setIfInBounds_toArray, List.set_cons_zero, List.set_cons_succ])
    refine wpAnyJ_one 6 rfl (by kernel_rfl) (fun K hK => ?_)
    simp only [List.getElem_toArray, List.getElem_cons_zero, List.getElem_cons_succ]
    go_simp
    refine ⟨trivial, rfl, ?_⟩
    refine (callsIn_wide.2 (HRL.out _ B7.out.drew)).mono ?_
    rintro e w8 ⟨rfl, hb8⟩
    have HH2 := hide (And.intro ((hb8.cell (p := ⟨w2.heap.size, 0, none⟩) z0).trans z1) ((hb8.cell (p := ⟨w2.heap.size, 1, none⟩) z0).trans z2))
    dsimp only
    refine hK.out _ _ (fun _ => HH2.out) ?_
    clear hK K
    (try simp only [List.getElem_toArray, List.getElem_cons_zero, List.getElem_cons_succ, Act.put, List.setIfInBounds_toArray, List.set_cons_zero, List.set_cons_succ])
    refine wpAnyJ_take 7 (v := ?_) (by first | exact hF | exact wideFn) HH2.out rfl (by kernel_rfl) (by kernel_rfl) (by kernel_rfl) (by kernel_rfl) rfl ?_ (fun _ _ _ h => h) ?_
    rotate_left
    · intro W hSW
      simp only [List.getElem_toArray, List.getElem_cons_zero, List.getElem_cons_succ]
      (try dsimp only at hSW)
      go_simp
      with_reducible rfl
    (try simp only [List.getElem_toArray, List.getElem_cons_zero, List.getElem_cons_succ, Act.put, List.setIfInBounds_toArray, List.set_cons_zero, List.set_cons_succ])
    refine wpAnyJ_take 8 (v := ?_) (by first | exact hF | exact wideFn) HH2.out rfl (by kernel_rfl) (by kernel_rfl) (by kernel_rfl) (by kernel_rfl) rfl ?_ (fun _ _ _ h => h) ?_
    rotate_left
    · intro W hSW
      simp only [List.getElem_toArray, List.getElem_cons_zero, List.getElem_cons_succ]
      (try dsimp only at hSW)
      go_simp
      with_reducible rfl
    (try simp only [List.getElem_toArray, List.getElem_cons_zero, List.getElem_cons_succ, Act.put, List.setIfInBounds_toArray, List.set_cons_zero, List.set_cons_succ])
    refine wpAnyJ_take 9 (v := ?_) (by first | exact hF | exact wideFn) HH2.out rfl (by kernel_rfl) (by kernel_rfl) (by kernel_rfl) (by kernel_rfl) rfl ?_ (fun _ _ _ h => h) ?_
    rotate_left
    · intro W hSW
      simp only [List.getElem_toArray, List.getElem_cons_zero, List.getElem_cons_succ]
      (try dsimp only at hSW)
      go_simp
      with_reducible rfl
    (try simp only [List.getElem_toArray, List.getElem_cons_zero, List.getElem_cons_succ, Act.put, List.setIfInBounds_toArray, List.set_cons_zero, List.set_cons_succ])
    refine wpAnyJ_take 10 (v := ?_) (by first | exact hF | exact wideFn) HH2.out rfl (by kernel_rfl) (by kernel_rfl) (by kernel_rfl) (by kernel_rfl) rfl ?_ (fun _ _ _ h => h) ?_
    rotate_left
    · intro W hSW
      simp only [List.getElem_toArray, List.getElem_cons_zero, List.getElem_cons_succ]
      (try dsimp only at hSW)
      go_simp
      with_reducible rfl
    (try simp only [List.getElem_toArray, List.getElem_cons_zero, List.getElem_cons_succ, Act.put, List.setIfInBounds_toArray, List.set_cons_zero, List.set_cons_succ])
    refine wpAnyJ_take 11 (v := ?_) (by first | exact hF | exact wideFn) HH2.out rfl (by kernel_rfl) (by kernel_rfl) (by kernel_rfl) (by kernel_rfl) rfl ?_ (fun _ _ _ h => h) ?_
    rotate_left
    · intro W hSW
      simp only [List.getElem_toArray, List.getElem_cons_zero, List.getElem_cons_succ]
      (try dsimp only at hSW)
      go_simp
      with_reducible rfl
    (try simp only [List.getElem_toArray, List.getElem_cons_zero, List.getElem_cons_succ, Act.put, List.setIfInBounds_toArray, List.set_cons_zero, List.set_cons_succ])
    refine wpAnyJ_skip 12 (by first | exact hF | exact wideFn) HH2.out rfl (by kernel_rfl) (by kernel_rfl) (by kernel_rfl) (by kernel_rfl) rfl (fun _ _ _ h => h) ?_
    (try simp only [List.getElem_toArray, List.getElem_cons_zero, List.getElem_cons_succ, Act.put, List.setIfInBounds_toArray, List.set_cons_zero, List.set_cons_succ])
    refine wpAnyJ_skip 13 (by first | exact hF | exact wideFn) HH2.out rfl (by kernel_rfl) (by kernel_rfl) (by kernel_rfl) (by kernel_rfl) rfl (fun _ _ _ h => h) ?_
    (try simp only [List.getElem_toArray, List.getElem_cons_zero, List.getElem_cons_succ, Act.put, List.setIfInBounds_toArray, List.set_cons_zero, List.set_cons_succ])
    refine wpAnyJ_skip 14 (by first | exact hF | exact wideFn) HH2.out rfl (by kernel_rfl) (by kernel_rfl) (by kernel_rfl) (by kernel_rfl) rfl (fun _ _ _ h => h) ?_
    (try simp only [List.getElem_toArray, List.getElem_cons_zero, List.getElem_cons_succ, Act.put, List.setIfInBounds_toArray, List.set_cons_zero, List.set_cons_succ])
    refine wpAnyJ_skip 15 (by first | exact hF | exact wideFn) HH2.out rfl (by kernel_rfl) (by kernel_rfl) (by kernel_rfl) (by kernel_rfl) rfl (fun _ _ _ h => h) ?_
    (try simp only [List.getElem_toArray, List.getElem_cons_zero, List.getElem_cons_succ, Act.put, List.setIfInBounds_toArray, List.set_cons_zero, List.set_cons_succ])
    refine wpAnyJ_skip 16 (by first | exact hF | exact wideFn) HH2.out rfl (by kernel_rfl) (by kernel_rfl) (by kernel_rfl) (by kernel_rfl) rfl (fun _ _ _ h => h) ?_
    (try simp only [List.getElem_toArray, List.getElem_cons_zero, List.getElem_cons_succ, Act.put, List.setIfInBounds_toArray, List.set_cons_zero, List.set_cons_succ])
    refine wpAnyJ_skip 17 (by first | exact hF | exact wideFn) HH2.out rfl (by kernel_rfl) (by kernel_rfl) (by kernel_rfl) (by kernel_rfl) rfl (fun _ _ _ h => h) ?_
    (try simp only [List.getElem_toArray, List.getElem_cons_zero, List.getElem_cons_succ, Act.put, List.setIfInBounds_toArray, List.set_cons_zero, List.set_cons_succ])
    refine wpAnyJ_skip 18 (by first | exact hF | exact wideFn) HH2.out rfl (by kernel_rfl) (by kernel_rfl) (by kernel_rfl) (by kernel_rfl) rfl (fun _ _ _ h => h) ?_
    (try simp only [List.getElem_toArray, List.getElem_cons_zero, List.getElem_cons_succ, Act.put, List.setIfInBounds_toArray, List.set_cons_zero, List.set_cons_succ])
    refine wpAnyJ_take 19 (v := ?_) (by first | exact hF | exact wideFn) HH2.out rfl (by kernel_rfl) (by kernel_rfl) (by kernel_rfl) (by kernel_rfl) rfl ?_ (fun _ _ _ h => h) ?_
    rotate_left
    · intro W hSW
      simp only [List.getElem_toArray, List.getElem_cons_zero, List.getElem_cons_succ]
      (try dsimp only at hSW)
      go_simp
      with_reducible rfl
    (try simp only [List.getElem_toArray, List.getElem_cons_zero, List.getElem_cons_succ, Act.put, List.setIfInBounds_toArray, List.set_cons_zero, List.set_cons_succ])
    refine wpAnyJ_take 20 (v := ?_) (by first | exact hF | exact wideFn) HH2.out rfl (by kernel_rfl) (by kernel_rfl) (by kernel_rfl) (by kernel_rfl) rfl ?_ (fun _ _ _ h => h) ?_
    rotate_left
    · intro W hSW
      simp only [List.getElem_toArray, List.getElem_cons_zero, List.getElem_cons_succ]
      (try dsimp only at hSW)
      go_simp
      with_reducible rfl
    (try simp only [List.getElem_toArray, List.getElem_cons_zero, List.getElem_cons_succ, Act.put, List.setIfInBounds_toArray, List.set_cons_zero, List.set_cons_succ])
    refine wpAnyJ_take 21 (v := ?_) (by first | exact hF | exact wideFn) HH2.out rfl (by kernel_rfl) (by kernel_rfl) (by kernel_rfl) (by kernel_rfl) rfl ?_ (fun _ _ _ h => h) ?_
    rotate_left
    · intro W hSW
      simp only [List.getElem_toArray, List.getElem_cons_zero, List.getElem_cons_succ]
      (try dsimp only at hSW)
      go_simp
      with_reducible rfl
    (try simp only [List.getElem_toArray, List.getElem_cons_zero, List.getElem_cons_succ, Act.put, List.setIfInBounds_toArray, List.set_cons_zero, List.set_cons_succ])
    refine wpAnyJ_take 22 (v := ?_) (by first | exact hF | exact wideFn) HH2.out rfl (by kernel_rfl) (by kernel_rfl) (by kernel_rfl) (by kernel_rfl) rfl ?_ (fun _ _ _ h => h) ?_
    rotate_left
    · intro W hSW
      simp only [List.getElem_toArray, List.getElem_cons_zero, List.getElem_cons_succ]
      (try dsimp only at hSW)
      go_simp
      with_reducible rfl
    (try simp only [List.getElem_toArray, List.getElem_cons_zero, List.getElem_cons_succ, Act.put, List.setIfInBounds_toArray, List.set_cons_zero, List.set_cons_succ])
    refine wpAnyJ_take 23 (v := ?_) (by first | exact hF | exact wideFn) HH2.out rfl (by kernel_rfl) (by kernel_rfl) (by kernel_rfl) (by kernel_rfl) rfl ?_ (fun _ _ _ h => h) ?_
    rotate_left
    · intro W hSW
      simp only [List.getElem_toArray, List.getElem_cons_zero, List.getElem_cons_succ]
      (try dsimp only at hSW)
      go_simp
      with_reducible rfl
    (try simp only [List.getElem_toArray, List.getElem_cons_zero, List.getElem_cons_succ, Act.put, List.setIfInBounds_toArray, List.set_cons_zero, List.set_cons_succ])
    refine wpAnyJ_take 24 (v := ?_) (by first | exact hF | exact wideFn) HH2.out rfl (by kernel_rfl) (by kernel_rfl) (by kernel_rfl) (by kernel_rfl) rfl ?_ (fun _ _ _ h => h) ?_
    rotate_left
    · intro W hSW
      simp only [List.getElem_toArray, List.getElem_cons_zero, List.getElem_cons_succ]
      (try dsimp only at hSW)
      go_simp
      with_reducible rfl
    (try simp only [List.getElem_toArray, List.getElem_cons_zero, List.getElem_cons_succ, Act.put, List.setIfInBounds_toArray, List.set_cons_zero, List.set_cons_succ])
    refine wpAnyJ_take 25 (v := ?_) (by first | exact hF | exact wideFn) HH2.out rfl (by kernel_rfl) (by kernel_rfl) (by kernel_rfl) (by kernel_rfl) rfl ?_ (fun _ _ _ h => h) ?_
    rotate_left
    · intro W hSW
      simp only [List.getElem_toArray, List.getElem_cons_zero, List.getElem_cons_succ]
      (try dsimp only at hSW)
      go_simp
      with_reducible rfl
    (try simp only [List.getElem_toArray, List.getElem_cons_zero, List.getElem_cons_succ, Act.put, List.setIfInBounds_toArray, List.set_cons_zero, List.set_cons_succ])
    refine wpAnyJ_take 26 (v := ?_) (by first | exact hF | exact wideFn) HH2.out rfl (by kernel_rfl) (by kernel_rfl) (by kernel_rfl) (by kernel_rfl) rfl ?_ (fun _ _ _ h => h) ?_
    rotate_left
    · intro W hSW
      simp only [List.getElem_toArray, List.getElem_cons_zero, List.getElem_cons_succ]
      (try dsimp only at hSW)
      go_simp
      with_reducible rfl
    (try simp only [List.getElem_toArray, List.getElem_cons_zero, List.getElem_cons_succ, Act.put, List.setIfInBounds_toArray, List.set_cons_zero, List.set_cons_succ])
    refine wpAnyJ_take 27 (v := ?_) (by first | exact hF | exact wideFn) HH2.out rfl (by kernel_rfl) (by kernel_rfl) (by kernel_rfl) (by kernel_rfl) rfl ?_ (fun _ _ _ h => h) ?_
    rotate_left
    · intro W hSW
      simp only [List.getElem_toArray, List.getElem_cons_zero, List.getElem_cons_succ]
      (try dsimp only at hSW)
      go_simp
      with_reducible rfl
    (try simp only [List.getElem_toArray, List.getElem_cons_zero, List.getElem_cons_succ, Act.put, List.setIfInBounds_toArray, List.set_cons_zero, List.set_cons_succ])
    refine wpAnyJ_take 28 (v := ?_) (by first | exact hF | exact wideFn) HH2.out rfl (by kernel_rfl) (by kernel_rfl) (by kernel_rfl) (by kernel_rfl) rfl ?_ (fun _ _ _ h => h) ?_
    rotate_left
    · intro W hSW
      simp only [List.getElem_toArray, List.getElem_cons_zero, List.getElem_cons_succ]
      (try dsimp only at hSW)
      go_simp
      with_reducible rfl
    (try simp only [List.getElem_toArray, List.getElem_cons_zero, List.getElem_cons_succ, Act.put, List.setIfInBounds_toArray, List.set_cons_zero, List.set_cons_succ])
    refine wpAnyJ_take 29 (v := ?_) (by first | exact hF | exact wideFn) HH2.out rfl (by kernel_rfl) (by kernel_rfl) (by kernel_rfl) (by kernel_rfl) rfl ?_ (fun _ _ _ h => h) ?_
    rotate_left
    · intro W hSW
      simp only [List.getElem_toArray, List.getElem_cons_zero, List.getElem_cons_succ]
      (try dsimp only at hSW)
      go_simp
      with_reducible rfl
    (try simp only [List.getElem_toArray, List.getElem_cons_zero, List.getElem_cons_succ, Act.put, List.setIfInBounds_toArray, List.set_cons_zero, List.set_cons_succ])
    refine wpAnyJ_take 30 (v := ?_) (by first | exact hF | exact wideFn) HH2.out rfl (by kernel_rfl) (by kernel_rfl) (by kernel_rfl) (by kernel_rfl) rfl ?_ (fun _ _ _ h => h) ?_
    rotate_left
    · intro W hSW
      simp only [List.getElem_toArray, List.getElem_cons_zero, List.getElem_cons_succ]
      (try dsimp only at hSW)
      go_simp
      with_reducible rfl
    (try simp only [List.getElem_toArray, List.getElem_cons_zero, List.getElem_cons_succ, Act.put, List.setIfInBounds_toArray, List.set_cons_zero, List.set_cons_succ])
    refine wpAnyJ_take 31 (v := ?_) (by first | exact hF | exact wideFn) HH2.out rfl (by kernel_rfl) (by kernel_rfl) (by kernel_rfl) (by kernel_rfl) rfl ?_ (fun _ _ _ h => h) ?_
    rotate_left
    · intro W hSW
      simp only [List.getElem_toArray, List.getElem_cons_zero, List.getElem_cons_succ]
      (try dsimp only at hSW)
      go_simp
      with_reducible rfl
    (try simp only [List.getElem_toArray, List.getElem_cons_zero, List.getElem_cons_succ, Act.put, List.setIfInBounds_toArray, List.set_cons_zero, List.set_cons_succ])
    refine wpAnyJ_take 32 (v := ?_) (by first | exact hF | exact wideFn) HH2.out rfl (by kernel_rfl) (by kernel_rfl) (by kernel_rfl) (by kernel_rfl) rfl ?_ (fun _ _ _ h => h) ?_
    rotate_left
    · intro W hSW
      simp only [List.getElem_toArray, List.getElem_cons_zero, List.getElem_cons_succ]
      (try dsimp only at hSW)
      go_simp
      with_reducible rfl
    (try simp only [List.getElem_toArray, List.getElem_cons_zero, List.getElem_cons_succ, Act.put, List.setIfInBounds_toArray, List.set_cons_zero, List.set_cons_succ])
    refine wpAnyJ_done (by kernel_rfl) ?_
    have B8 := hide (B7.out.drew.trans (hb8.mono B7.out.size))
    clear z0 z1 z2 hb8 HH1 HH2
    go_wp2_with fail
    refine (HK.out _).mono ?_
    rintro e w9 ⟨rfl, hb9⟩
    go_wp2_with fail
    go_ret
    exact ⟨rfl, B8.out.trans (hb9.mono B8.out.size)⟩
end Go.Proofs.Ytlhekifmkkgjlaa
