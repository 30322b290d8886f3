/- Song: the reference's sunrises, dates and At, walked. -/
import Derived.Test.YtlkkkgpcjdemdaaDoorSongI
set_option linter.unusedSimpArgs false
set_option linter.unusedVariables false
set_option linter.unnecessarySimpa false
namespace Go.Proofs.YtlkkkgpcjdemdaaDoor
open Go Go.RowKit Go.Shelf
set_option maxHeartbeats 4000000
set_option maxRecDepth 100000
theorem refSun_any (m : Mo) (hm : m.ok) (n : Int) (h0 : 0 ≤ n) (h1 : n ≤ 4000000) (w : World) : Calls Tryd.prog 55 #[.agg #[.int .i64 m.ln, .int .i64 m.per, .int .i64 m.ph], .int .i64 n] w fun e w' => e = .returned (.int .i64 (ahF m n)) ∧ Below w.heap.size w w' := by
  have hb := ah_bd hm h0 h1
  obtain ⟨a1, a2, a3, a4, a5, a6, a7⟩ := hm
  obtain ⟨q, hq⟩ : ∃ q, n * m.ln = q := ⟨_, rfl⟩
  have e : ahF m n = (q + m.ph + m.per - 1) / m.per := by unfold ahF; rw [hq]
  rw [e]
  obtain ⟨l, p, h⟩ := m
  dsimp only at *
  rw [hq] at hb
  have w1 : IntKind.i64.wrap (n * l) = q := by rw [hq]; exact IntWalk.i64_in _ (by omega)
  clear e
  go_enter Tryd.func55, Tryd.ntmps55
  go_wp2_with fail
  go_ret
  refine ⟨ret_int ?_, (Below.refl _ _).alloc (Nat.le_refl _) _⟩
  first | rfl | (rw [hq])
theorem refDate_any (n : Int) (h0 : 0 ≤ n) (h1 : n ≤ 4000000) (w : World) : Calls Tryd.prog 29 #[.int .i64 n] w fun e w' => e = .returned (dayV n) ∧ Below w.heap.size w w' := by
  have e1 : (n / 15 % 2 == 1) = decide (15 ≤ n % 30) := by rw [Bool.eq_iff_iff, beq_iff_eq, decide_eq_true_iff]; omega
  have e2 : n % 15 + 1 = 1 + n % 15 := by omega
  unfold dayV
  rw [e1, e2]
  go_enter Tryd.func29, Tryd.ntmps29
  go_wp2_with fail
  refine ⟨rfl, .agg #[.int .i64 (n / 30), .bool (decide (15 ≤ n % 30)), .int .i64 (1 + n % 15)], by simp [results, Tryd.results29, go_sem], ?_⟩
  exact ⟨rfl, ((Below.refl _ _).alloc (Nat.le_refl _) _).alloc (by simp) _⟩
theorem mcell_lt {W : World} {p : Addr} {v : Value} (hc : W.cell? p = some v) : p.block < W.heap.size := by
  unfold World.cell? at hc
  rcases h : W.heap[p.block]? with _ | o
  · rw [h] at hc; cases hc
  · exact (Array.getElem?_eq_some_iff.1 h).1
theorem refAt_any (m : Mo) (hm : m.ok) (d : Int) (h0 : 0 ≤ d) (h1 : d ≤ 1000000) (w : World) : Calls Tryd.prog 28 #[.agg #[.int .i64 m.ln, .int .i64 m.per, .int .i64 m.ph], .int .i64 d] w fun e w' => e = .returned (.int .i64 (if snF m d < 0 then -1 else curF m d)) ∧ Below w.heap.size w w' := by
  have HS := hide (fun n (k0 : 0 ≤ n) (k1 : n ≤ 4000000) W => refSun_any m hm n k0 k1 W)
  have HA := hide (fun n => ah_cur hm n d)
  have hb := sn_bd hm h0 (by omega)
  have hbeg : ∃ b, begF m d = b := ⟨_, rfl⟩
  obtain ⟨b, hbg⟩ := hbeg
  have hb2 : d * m.per / m.ln ≤ 2000002 := by
    have h2 := hm.2.2.2.2.1
    have h3 := hm.2.2.1
    have h4 : d * m.per ≤ 1000000 * (2 * m.ln) := Int.le_trans (Int.mul_le_mul_of_nonneg_left h2 h0) (Int.mul_le_mul_of_nonneg_right (by omega) (by omega))
    have h5 := Int.ediv_le_ediv (show 0 < m.ln by omega) h4
    have h6 : 1000000 * (2 * m.ln) / m.ln = 2000000 := by rw [← Int.mul_assoc]; exact Int.mul_ediv_cancel _ (by omega)
    omega
  have hb3 : 0 ≤ d * m.per / m.ln := Int.ediv_nonneg hb.1 (by have := hm.2.2.1; omega)
  have hn := beg_none hm h0 (d := d)
  have hc := beg_cur hm (d := d)
  obtain ⟨c, hcu⟩ : ∃ c, curF m d = c := ⟨_, rfl⟩
  obtain ⟨q, hq⟩ : ∃ q, d * m.per = q := ⟨_, rfl⟩
  have hsn : snF m d = q - m.ph := by unfold snF; rw [hq]
  have hbe : b = max 0 (q / m.ln - 2) := by rw [← hbg, ← hq]; rfl
  have hb0 : 0 ≤ b := by omega
  rw [hcu] at HA
  rw [hbg, hcu] at hc
  rw [hbg] at hn
  rw [hcu]
  by_cases hs : snF m d < 0
  · rw [if_pos hs]
    obtain ⟨k1, k2⟩ := hn hs
    have hmx : q / m.ln - 2 ≤ 0 := by omega
    have hm1 := hm.1
    have hm2 := hm.2.1
    have hm3 := hm.2.2.1
    have hwq : IntKind.i64.wrap (d * m.per) = q := by rw [hq]; exact IntWalk.i64_in _ (by omega)
    have HS0 := hide (HS.out b hb0 (by omega))
    rw [k1] at HS0 k2
    obtain ⟨a, ha⟩ : ∃ a, ahF m 0 = a := ⟨_, rfl⟩
    rw [ha] at HS0 k2
    rw [hq] at hb hb2 hb3
    subst k1
    clear hm hn hc hbe hbg HS HA ha hs hsn hcu
    obtain ⟨l, p, h⟩ := m
    dsimp only at *
    have hmz : max 0 (q / l - 2) = 0 := by omega
    go_enter Tryd.func28, Tryd.ntmps28
    go_wp2_with fail
    (try rw [hmz])
    (with_reducible refine (HS0.out _).mono ?_)
    rintro e w1 ⟨rfl, hb1⟩
    go_wp2_with fail
    go_ret
    exact ⟨rfl, ((Below.refl w.heap.size w).alloc (Nat.le_refl _) _).trans (hb1.mono (by simp))⟩
  · rw [if_neg hs]
    obtain ⟨k1, k2⟩ := hc (by omega)
    have hm1 := hm.1
    have hm2 := hm.2.1
    have hm3 := hm.2.2.1
    have hwq : IntKind.i64.wrap (d * m.per) = q := by rw [hq]; exact IntWalk.i64_in _ (by omega)
    rw [hq] at hb hb2 hb3
    have hc0 : c ≤ 2000005 := by omega
    have HSB := hide (HS.out b hb0 (by omega))
    have hab := (HA.out b).2 k1
    obtain ⟨ab, hab2⟩ : ∃ a, ahF m b = a := ⟨_, rfl⟩
    rw [hab2] at HSB hab
    clear hm hn hc hbg hs hsn hcu hab2
    have HE : Hid (∀ v, v = c → Ending.returned (Value.int .i64 v) = .returned (.int .i64 c)) := hide (fun v h => by rw [h])
    have HB0 := hide ((Below.refl w.heap.size w).alloc (Nat.le_refl _) (.cells #[.int .i64 m.ln, .int .i64 m.per, .int .i64 m.ph] 47))
    by_cases hmx : q / m.ln - 2 ≤ 0
    · obtain rfl : b = 0 := by omega
      clear hbe
      obtain ⟨fn, hfn⟩ : ∃ fn, fn = ahF m := ⟨_, rfl⟩
      rw [← hfn] at HS HA
      clear hfn
      obtain ⟨l, p, h⟩ := m
      dsimp only at *
      have hmz : max 0 (q / l - 2) = 0 := by omega
      go_enter Tryd.func28, Tryd.ntmps28
      go_wp2_with fail
      (try rw [hmz])
      (with_reducible refine (HSB.out _).mono ?_)
      rintro e w1 ⟨rfl, hb1⟩
      have HB1 := hide (HB0.out.trans (hb1.mono HB0.out.size))
      obtain ⟨hc1, hf1⟩ := bcell hb1
      have hz := hb1.size
      have cm : w1.cell? ⟨w.heap.size, 0, none⟩ = some (.int .i64 l) ∧ w1.cell? ⟨w.heap.size, 1, none⟩ = some (.int .i64 p) ∧ w1.cell? ⟨w.heap.size, 2, none⟩ = some (.int .i64 h) := by
        have hk := (Blk.new w 47 #[.int .i64 l, .int .i64 p, .int .i64 h]).ext hb1
        obtain ⟨-, x0, x1, x2, -⟩ := blk3 hk
        exact ⟨x0, x1, x2⟩
      have HCM := hide cm
      clear cm hc1 hf1 hz hb1
      go_wp2_with fail
      go_loopw [5] (fun x wr => ∃ n : Int, x = .int .i64 n ∧ 0 ≤ n ∧ 0 ≤ n ∧ n ≤ c ∧ Hid (Below w.heap.size w wr) ∧ Hid (wr.cell? ⟨w.heap.size, 0, none⟩ = some (.int .i64 l) ∧ wr.cell? ⟨w.heap.size, 1, none⟩ = some (.int .i64 p) ∧ wr.cell? ⟨w.heap.size, 2, none⟩ = some (.int .i64 h))) (fun x _ => (c - intOf x).toNat)
      case atStart => exact ⟨0, rfl, Int.le_refl _, by omega, by omega, HB1, HCM⟩
      case round =>
        obtain ⟨n, rfl, hn0, hn1, hn2, HBr, HCr⟩ := hrel
        clear HB1 HCM HSB
        obtain ⟨x0, x1, x2⟩ := HCr.out
        have z0 := mcell_lt x0
        dsimp only at z0
        by_cases hlt : n + 1 ≤ c
        · have hfl := (HA.out (n + 1)).2 hlt
          have HS1 := hide (HS.out (n + 1) (by omega) (by omega))
          obtain ⟨a2, ha2⟩ : ∃ a, fn (n + 1) = a := ⟨_, rfl⟩
          rw [ha2] at HS1 hfl
          clear ha2 HS HE
          go_wp2_with fail
          (with_reducible refine (HS1.out _).mono ?_)
          rintro e w2 ⟨rfl, hb2⟩
          have HB2 := hide (HBr.out.trans (hb2.mono HBr.out.size))
          have HC2 := hide (And.intro ((hb2.cell (mcell_lt x0)).trans x0) (And.intro ((hb2.cell (mcell_lt x1)).trans x1) ((hb2.cell (mcell_lt x2)).trans x2)))
          clear hb2 HBr HCr x0 x1 x2
          go_wp2_with fail
          go_roundw
          case rel => exact ⟨n + 1, rfl, by omega, by omega, hlt, HB2, HC2⟩
          case measure => simp [intOf]; omega
        · have hfl : ¬ fn (n + 1) ≤ d := fun hh => hlt ((HA.out (n + 1)).1 hh)
          have HS1 := hide (HS.out (n + 1) (by omega) (by omega))
          obtain ⟨a2, ha2⟩ : ∃ a, fn (n + 1) = a := ⟨_, rfl⟩
          rw [ha2] at HS1 hfl
          obtain rfl : n = c := by omega
          clear ha2 HS HE
          go_wp2_with fail
          (with_reducible refine (HS1.out _).mono ?_)
          rintro e w2 ⟨rfl, hb2⟩
          have HB2 := hide (HBr.out.trans (hb2.mono HBr.out.size))
          go_wp2_with fail
          go_ret
          exact ⟨rfl, HB2.out⟩
    · obtain rfl : b = q / m.ln - 2 := by omega
      clear hbe
      obtain ⟨fn, hfn⟩ : ∃ fn, fn = ahF m := ⟨_, rfl⟩
      rw [← hfn] at HS HA
      clear hfn
      obtain ⟨l, p, h⟩ := m
      dsimp only at *
      have hmz : max 0 (q / l - 2) = q / l - 2 := by omega
      go_enter Tryd.func28, Tryd.ntmps28
      go_wp2_with fail
      (try rw [hmz])
      (with_reducible refine (HSB.out _).mono ?_)
      rintro e w1 ⟨rfl, hb1⟩
      have HB1 := hide (HB0.out.trans (hb1.mono HB0.out.size))
      obtain ⟨hc1, hf1⟩ := bcell hb1
      have hz := hb1.size
      have cm : w1.cell? ⟨w.heap.size, 0, none⟩ = some (.int .i64 l) ∧ w1.cell? ⟨w.heap.size, 1, none⟩ = some (.int .i64 p) ∧ w1.cell? ⟨w.heap.size, 2, none⟩ = some (.int .i64 h) := by
        have hk := (Blk.new w 47 #[.int .i64 l, .int .i64 p, .int .i64 h]).ext hb1
        obtain ⟨-, x0, x1, x2, -⟩ := blk3 hk
        exact ⟨x0, x1, x2⟩
      have HCM := hide cm
      clear cm hc1 hf1 hz hb1
      go_wp2_with fail
      go_loopw [5] (fun x wr => ∃ n : Int, x = .int .i64 n ∧ q / l - 2 ≤ n ∧ 0 ≤ n ∧ n ≤ c ∧ Hid (Below w.heap.size w wr) ∧ Hid (wr.cell? ⟨w.heap.size, 0, none⟩ = some (.int .i64 l) ∧ wr.cell? ⟨w.heap.size, 1, none⟩ = some (.int .i64 p) ∧ wr.cell? ⟨w.heap.size, 2, none⟩ = some (.int .i64 h))) (fun x _ => (c - intOf x).toNat)
      case atStart => exact ⟨q / l - 2, rfl, Int.le_refl _, by omega, by omega, HB1, HCM⟩
      case round =>
        obtain ⟨n, rfl, hn0, hn1, hn2, HBr, HCr⟩ := hrel
        clear HB1 HCM HSB
        obtain ⟨x0, x1, x2⟩ := HCr.out
        have z0 := mcell_lt x0
        dsimp only at z0
        by_cases hlt : n + 1 ≤ c
        · have hfl := (HA.out (n + 1)).2 hlt
          have HS1 := hide (HS.out (n + 1) (by omega) (by omega))
          obtain ⟨a2, ha2⟩ : ∃ a, fn (n + 1) = a := ⟨_, rfl⟩
          rw [ha2] at HS1 hfl
          clear ha2 HS HE
          go_wp2_with fail
          (with_reducible refine (HS1.out _).mono ?_)
          rintro e w2 ⟨rfl, hb2⟩
          have HB2 := hide (HBr.out.trans (hb2.mono HBr.out.size))
          have HC2 := hide (And.intro ((hb2.cell (mcell_lt x0)).trans x0) (And.intro ((hb2.cell (mcell_lt x1)).trans x1) ((hb2.cell (mcell_lt x2)).trans x2)))
          clear hb2 HBr HCr x0 x1 x2
          go_wp2_with fail
          go_roundw
          case rel => exact ⟨n + 1, rfl, by omega, by omega, hlt, HB2, HC2⟩
          case measure => simp [intOf]; omega
        · have hfl : ¬ fn (n + 1) ≤ d := fun hh => hlt ((HA.out (n + 1)).1 hh)
          have HS1 := hide (HS.out (n + 1) (by omega) (by omega))
          obtain ⟨a2, ha2⟩ : ∃ a, fn (n + 1) = a := ⟨_, rfl⟩
          rw [ha2] at HS1 hfl
          obtain rfl : n = c := by omega
          clear ha2 HS HE
          go_wp2_with fail
          (with_reducible refine (HS1.out _).mono ?_)
          rintro e w2 ⟨rfl, hb2⟩
          have HB2 := hide (HBr.out.trans (hb2.mono HBr.out.size))
          go_wp2_with fail
          go_ret
          exact ⟨rfl, HB2.out⟩
end Go.Proofs.YtlkkkgpcjdemdaaDoor
/- Song: the reference's Falls; the law of days, walked. -/
namespace Go.Proofs.YtlkkkgpcjdemdaaDoor
open List renaming getElem_toArray → glA, getElem_cons_zero → glB, getElem_cons_succ → glC, setIfInBounds_toArray → glD, set_cons_zero → glE, set_cons_succ → glF
open Go Go.RowKit Go.Shelf
set_option maxHeartbeats 4000000
set_option maxRecDepth 100000
theorem refFalls_any (m : Mo) (hm : m.ok) (n : Int) (h0 : 0 ≤ n) (h1 : n ≤ 3000000) (w : World) :
    Calls Tryd.prog 30 #[.agg #[.int .i64 m.ln, .int .i64 m.per, .int .i64 m.ph], .int .i64 n] w fun e w' => e = .returned (.tuple #[.int .i64 (flF m n).1, .int .i64 (flF m n).2]) ∧ Below w.heap.size w w' := by
  have HA := hide (fun W => refSun_any m hm n h0 (by omega) W)
  have HB := hide (fun W => refSun_any m hm (n + 1) (by omega) (by omega) W)
  have l1 := ah_lo hm h0 (by omega)
  have l2 := ah_lo hm (show 0 ≤ n + 1 by omega) (by omega)
  have u1 := ah_hi hm h0 (by omega)
  have u2 := ah_hi hm (show 0 ≤ n + 1 by omega) (by omega)
  unfold flF
  obtain ⟨f, hf⟩ : ∃ f, ahF m n = f := ⟨_, rfl⟩
  obtain ⟨k, hk⟩ : ∃ f, ahF m (n + 1) = f := ⟨_, rfl⟩
  rw [hf] at HA l1 u1 ⊢
  rw [hk] at HB l2 u2 ⊢
  clear hf hk hm
  obtain ⟨l, p, h⟩ := m
  dsimp only at HA HB ⊢
  have HB0 := hide ((Below.refl w.heap.size w).alloc (Nat.le_refl _) (.cells #[.int .i64 l, .int .i64 p, .int .i64 h] 47))
  have HK := hide (Blk.new w 47 #[.int .i64 l, .int .i64 p, .int .i64 h])
  have hw1 : IntKind.i64.wrap (n + 1) = n + 1 := IntWalk.i64_in _ (by omega)
  obtain ⟨R, hR⟩ : ∃ R : Ending, Ending.returned (.tuple #[.int .i64 (if k - f = 0 then (f - 1, (3 : Int)) else if k - f = 1 then (f, 1) else (f, 2)).1, .int .i64 (if k - f = 0 then (f - 1, (3 : Int)) else if k - f = 1 then (f, 1) else (f, 2)).2]) = R := ⟨_, rfl⟩
  rw [hR]
  have HR := hide hR
  clear hR
  go_enter Tryd.func30, Tryd.ntmps30
  go_upto_region 1 with fail
  obtain ⟨g, hg⟩ : ∃ g, w.heap.size = g := ⟨_, rfl⟩
  rw [hg] at HK ⊢
  have HG := hide hg
  clear hg
  refine wp_region_J (fun W : World => (W.cell? ⟨g, 0, none⟩ = some (.int .i64 l) ∧ W.cell? ⟨g, 1, none⟩ = some (.int .i64 p) ∧ W.cell? ⟨g, 2, none⟩ = some (.int .i64 h))) (by kernel_rfl) ?_
  have HB1 := hide (HB0.out.drew)
  have HK1 := hide (HK.out.ext (Below.refl _ _).drew)
  generalize (w.alloc (.cells #[.int .i64 l, .int .i64 p, .int .i64 h] 47)).drew = wd at HB1 HK1 ⊢
  have HS : Hid (∀ W, Blk W g 47 #[.int .i64 l, .int .i64 p, .int .i64 h] → (W.cell? ⟨g, 0, none⟩ = some (.int .i64 l) ∧ W.cell? ⟨g, 1, none⟩ = some (.int .i64 p) ∧ W.cell? ⟨g, 2, none⟩ = some (.int .i64 h))) := hide (fun W hk => by
    obtain ⟨-, x0, x1, x2, -⟩ := blk3 hk
    exact ⟨x0, x1, x2⟩)
  refine tk_start [0, 1, 3, 4, 5] ?_
  iterate 5
    refine tk_one (v := ?_) (by first | exact hF | exact wideFn) (HS.out _ HK1.out) rfl (by kernel_rfl) (by kernel_rfl) (by kernel_rfl) (by kernel_rfl) rfl ?_ (by first | exact fun _ _ _ h => h | exact fun _ _ _ h => hQ2 _ _ _ _ _ h) ?_
    rotate_left
    · intro W hSW
      simp only [glA, glB, glC]
      (try dsimp only at hSW)
      go_simp
      with_reducible rfl
    (try simp only [glA, glB, glC, Act.put, glD, glE, glF])
  refine tk_end ?_
  refine wpAnyJ_one 2 rfl (by kernel_rfl) (fun K hK => ?_)
  simp only [glA, glB, glC]
  go_simp
  refine ⟨trivial, rfl, ?_⟩
  refine (callsIn_wide.2 (HA.out wd)).mono ?_
  rintro e w2 ⟨rfl, hb2⟩
  have HB2 := hide (HB1.out.trans (hb2.mono HB1.out.size)); have HK2 := hide (HK1.out.ext hb2)
  dsimp only
  refine hK.out _ _ (fun _ => HS.out _ HK2.out) ?_
  clear hK K
  (try simp only [glA, glB, glC, Act.put, glD, glE, glF])
  refine wpAnyJ_one 6 rfl (by kernel_rfl) (fun K hK => ?_)
  simp only [glA, glB, glC]
  go_simp
  refine ⟨trivial, rfl, ?_⟩
  refine (callsIn_wide.2 (HB.out w2)).mono ?_
  rintro e w3 ⟨rfl, hb3⟩
  have HB3 := hide (HB2.out.trans (hb3.mono HB2.out.size)); have HK3 := hide (HK2.out.ext hb3)
  dsimp only
  refine hK.out _ _ (fun _ => HS.out _ HK3.out) ?_
  clear hK K
  (try simp only [glA, glB, glC, Act.put, glD, glE, glF])
  refine wpAnyJ_take 7 (v := ?_) (by first | exact hF | exact wideFn) (HS.out _ HK3.out) rfl (by kernel_rfl) (by kernel_rfl) (by kernel_rfl) (by kernel_rfl) rfl ?_ (by first | exact fun _ _ _ h => h | exact fun _ _ _ h => hQ2 _ _ _ _ _ h) ?_
  rotate_left
  · intro W hSW
    simp only [glA, glB, glC]
    (try dsimp only at hSW)
    go_simp
    with_reducible rfl
  (try simp only [glA, glB, glC, Act.put, glD, glE, glF])
  refine wpAnyJ_take 8 (v := ?_) (by first | exact hF | exact wideFn) (HS.out _ HK3.out) rfl (by kernel_rfl) (by kernel_rfl) (by kernel_rfl) (by kernel_rfl) rfl ?_ (by first | exact fun _ _ _ h => h | exact fun _ _ _ h => hQ2 _ _ _ _ _ h) ?_
  rotate_left
  · intro W hSW
    simp only [glA, glB, glC]
    (try dsimp only at hSW)
    go_simp
    with_reducible rfl
  (try simp only [glA, glB, glC, Act.put, glD, glE, glF])
  refine wpAnyJ_done (by kernel_rfl) ?_
  clear hb2 hb3
  by_cases c0 : k - f = 0
  · have c1 : (k - f == 0) = true := by rw [c0]; rfl
    have hR := HR.out
    rw [if_pos c0] at hR
    clear c0 HR
    go_wp2_with fail
    go_ret2
    exact ⟨hR, HB3.out⟩
  · have c1 : (k - f == 0) = false := by rw [beq_eq_false_iff_ne]; exact c0
    by_cases c2 : k - f = 1
    · have c3 : (k - f == 1) = true := by rw [c2]; rfl
      have hR := HR.out
      rw [if_neg c0, if_pos c2] at hR
      clear c0 c2 HR
      go_wp2_with fail
      go_ret2
      exact ⟨hR, HB3.out⟩
    · have c3 : (k - f == 1) = false := by rw [beq_eq_false_iff_ne]; exact c2
      have hR := HR.out
      rw [if_neg c0, if_neg c2] at hR
      clear c0 c2 HR
      go_wp2_with fail
      go_ret2
      exact ⟨hR, HB3.out⟩
end Go.Proofs.YtlkkkgpcjdemdaaDoor
/- Song: the law of days, walked. -/
namespace Go.Proofs.YtlkkkgpcjdemdaaDoor
open Go Go.RowKit Go.Shelf
set_option maxHeartbeats 8000000
set_option maxRecDepth 100000
theorem at_shape (m : Mo) (d : Int) : ∃ a b c n E, atR m d = (.agg #[.int .i64 a, .bool b, .int .i64 c], n, E) := by
  unfold atR zdV dayV
  split
  · split
    · split <;> exact ⟨_, _, _, _, _, rfl⟩
    · exact ⟨_, _, _, _, _, rfl⟩
  · exact ⟨_, _, _, _, _, rfl⟩
theorem cur_bd {m : Mo} (hm : m.ok) {d : Int} (h0 : 0 ≤ d) (h1 : d ≤ 1000000) (hs : 0 ≤ snF m d) : 0 ≤ curF m d ∧ curF m d ≤ 2000000 := by
  have h2 := hm.2.2.2.2.1
  have h3 := hm.2.2.1
  have h5 := hm.2.2.2.2.2.1
  unfold curF snF at *
  refine ⟨Int.ediv_nonneg hs (by omega), ?_⟩
  have h4 : d * m.per ≤ 1000000 * (2 * m.ln) := Int.le_trans (Int.mul_le_mul_of_nonneg_left h2 h0) (Int.mul_le_mul_of_nonneg_right (by omega) (by omega))
  have h6 := Int.ediv_le_ediv (show 0 < m.ln by omega) (show d * m.per - m.ph ≤ 1000000 * (2 * m.ln) by omega)
  have h7 : 1000000 * (2 * m.ln) / m.ln = 2000000 := by rw [← Int.mul_assoc]; exact Int.mul_ediv_cancel _ (by omega)
  omega
structure DyI (w W : World) (m : Mo) (g : Nat) (A : Int) (B : Bool) (C : Int) : Prop where
  b : Below w.heap.size w W
  m : Blk W w.heap.size 47 #[.int .i64 m.ln, .int .i64 m.per, .int .i64 m.ph]
  k : Blk W g 50 #[.int .i64 A, .bool B, .int .i64 C]
theorem DyI.ext {w W W' : World} {m : Mo} {g : Nat} {A : Int} {B : Bool} {C : Int} (h : DyI w W m g A B C) (hb : Below W.heap.size W W') : DyI w W' m g A B C :=
  ⟨h.b.trans (hb.mono h.b.size), h.m.ext hb, h.k.ext hb⟩
theorem days_any (m : Mo) (d n : Int) (w : World) (hM : ML w) : Calls Tryd.prog 5 #[.agg #[.int .i64 m.ln, .int .i64 m.per, .int .i64 m.ph], .int .i64 d, .int .i64 n] w fun e w' => e = .returned (.bool true) ∧ Below w.heap.size w w' := by
  have HCK := hide (fun W => checkMoon_any m W)
  have HAT := hide (fun W => at_any m d W)
  have HFL := hide (fun W => Falls_any m n W)
  have HRM := hide (fun W => refMoon_any m W)
  have HKN := hide (fun W (h : Below w.heap.size w W) => sknown_any W (hM.ext h))
  obtain ⟨A, B, C, N, E, hat⟩ := at_shape m d
  have HAE := hide hat
  rw [hat] at HAT
  dsimp only at HAT
  have B0 := hide ((Below.refl w.heap.size w).alloc (Nat.le_refl _) (.cells #[.int .i64 m.ln, .int .i64 m.per, .int .i64 m.ph] 47))
  have M0 := hide (Blk.new w 47 #[.int .i64 m.ln, .int .i64 m.per, .int .i64 m.ph])
  clear hat
  by_cases hm : m.ok
  rotate_left
  · obtain ⟨rfl, rfl, rfl, rfl, rfl⟩ : A = 0 ∧ B = false ∧ C = 0 ∧ N = 0 ∧ E = 2 := by
      have h := HAE.out
      unfold atR zdV at h
      rw [if_neg hm] at h
      simp at h
      obtain ⟨⟨h1, h2, h3⟩, h4, h5⟩ := h
      exact ⟨by omega, by first | exact h2.symm | exact h2, by omega, by omega, by omega⟩
    have hfs : fsF m n = (0, 0, 2) := by unfold fsF; rw [if_neg hm]
    rw [hfs] at HFL
    rw [moB_no hm] at HCK
    rw [moB_f hm] at HRM
    clear hfs hm hM HAE
    obtain ⟨l, p, h⟩ := m
    dsimp only at *
    go_enter Tryd.func5, Tryd.ntmps5
    go_wp2_with fail
    refine (HCK.out _).mono ?_
    rintro e w1 ⟨rfl, hb⟩
    have B1 := hide (B0.out.trans (hb.mono B0.out.size))
    have M1 := hide (M0.out.ext hb)
    obtain ⟨z0, c0, c1, c2, f0⟩ := blk3 M1.out
    clear hb
    go_wp2_with fail
    refine (HAT.out _).mono ?_
    rintro e w2 ⟨rfl, hb⟩
    clear z0 c0 c1 c2 f0
    have B2 := hide (B1.out.trans (hb.mono B1.out.size))
    have M2 := hide (M1.out.ext hb)
    obtain ⟨z0, c0, c1, c2, f0⟩ := blk3 M2.out
    clear hb
    go_wp2_with fail
    have KD := hide (Blk.new w2 50 #[.int .i64 0, .bool false, .int .i64 0])
    have hbn : Below w2.heap.size w2 (w2.alloc (.cells #[.int .i64 0, .bool false, .int .i64 0] 50)) := (Below.refl _ _).alloc (Nat.le_refl _) _
    obtain ⟨g, hg⟩ : ∃ g, w2.heap.size = g := ⟨_, rfl⟩
    have B3 := hide (B2.out.trans (hbn.mono B2.out.size))
    have M3 := hide (M2.out.ext hbn)
    rw [hg] at KD ⊢
    clear hg hbn z0 c0 c1 c2 f0
    generalize w2.alloc (.cells #[.int .i64 0, .bool false, .int .i64 0] 50) = w3 at KD B3 M3 ⊢
    refine (HFL.out _).mono ?_
    rintro e w4 ⟨rfl, hb⟩
    have B4 := hide (B3.out.trans (hb.mono B3.out.size))
    have K4 := hide (KD.out.ext hb)
    have M4 := hide (M3.out.ext hb)
    obtain ⟨z0, c0, c1, c2, f0⟩ := blk3 M4.out
    clear hb
    go_wp2_with fail
    refine (HRM.out _).mono ?_
    rintro e w5 ⟨rfl, hb⟩
    clear z0 c0 c1 c2 f0
    have B5 := hide (B4.out.trans (hb.mono B4.out.size))
    obtain ⟨z0, c0, c1, c2, f0⟩ := blk3 (K4.out.ext hb)
    clear hb
    go_wp2_with fail
    refine (HKN.out _ B5.out).mono ?_
    rintro e w6 ⟨rfl, hb⟩
    have B6 := hide (B5.out.trans (hb.mono B5.out.size))
    clear hb
    go_wp2_with fail
    go_ret
    exact ⟨rfl, B6.out⟩
  have HRA := hide (fun (h0 : 0 ≤ d) (h1 : d ≤ 1000000) W => refAt_any m hm d h0 h1 W)
  have HRD := hide (fun k (h0 : 0 ≤ k) (h1 : k ≤ 4000000) W => refDate_any k h0 h1 W)
  have HRF := hide (fun (h0 : 0 ≤ n) (h1 : n ≤ 1000000) W => refFalls_any m hm n h0 (by omega) W)
  have HFS : Hid (fsF m n = if tmB n then ((flF m n).1, (flF m n).2, 0) else (0, 0, 3)) := hide (by unfold fsF; rw [if_pos hm])
  obtain ⟨⟨f1', f2', f3'⟩, hfs⟩ : ∃ r, fsF m n = r := ⟨_, rfl⟩
  rw [hfs] at HFS HFL
  dsimp only at HFL
  rw [moB_yes hm] at HCK
  rw [moB_t hm] at HRM
  replace HAE := hide (by have h := HAE.out; unfold atR at h; rw [if_pos hm] at h; exact h)
  have HCB := hide (cur_bd hm (d := d))
  clear hfs hm hM
  go_enter Tryd.func5, Tryd.ntmps5
  go_wp2_with fail
  refine (HCK.out _).mono ?_
  rintro e w1 ⟨rfl, hb⟩
  have B1 := hide (B0.out.trans (hb.mono B0.out.size))
  have M1 := hide (M0.out.ext hb)
  obtain ⟨z0, c0, c1, c2, f0⟩ := blk3 M1.out
  clear hb
  go_wp2_with fail
  refine (HAT.out _).mono ?_
  rintro e w2 ⟨rfl, hb⟩
  clear z0 c0 c1 c2 f0
  have B2 := hide (B1.out.trans (hb.mono B1.out.size))
  have M2 := hide (M1.out.ext hb)
  obtain ⟨z0, c0, c1, c2, f0⟩ := blk3 M2.out
  clear hb
  go_wp2_with fail
  have KD := Blk.new w2 50 #[.int .i64 A, .bool B, .int .i64 C]
  have hbn : Below w2.heap.size w2 (w2.alloc (.cells #[.int .i64 A, .bool B, .int .i64 C] 50)) := (Below.refl _ _).alloc (Nat.le_refl _) _
  obtain ⟨g, hg⟩ : ∃ g, w2.heap.size = g := ⟨_, rfl⟩
  rw [hg] at KD ⊢
  have I3 : Hid (DyI w (w2.alloc (.cells #[.int .i64 A, .bool B, .int .i64 C] 50)) m g A B C) := hide ⟨B2.out.trans (hbn.mono B2.out.size), M2.out.ext hbn, KD⟩
  clear hg hbn z0 c0 c1 c2 f0 KD B0 B1 B2 M0 M1 M2
  generalize w2.alloc (.cells #[.int .i64 A, .bool B, .int .i64 C] 50) = w3 at I3 ⊢
  refine (HFL.out _).mono ?_
  rintro e w4 ⟨rfl, hb⟩
  have I4 := hide (I3.out.ext hb)
  clear hb
  have z1 := I4.out.m.lt
  have z2 := I4.out.k.lt
  obtain ⟨-, c0, c1, c2, f0⟩ := blk3 I4.out.m
  obtain ⟨-, k0, k1, k2, f1⟩ := blk3 I4.out.k
  go_wp2_with fail
  refine (HRM.out _).mono ?_
  rintro e w5 ⟨rfl, hb⟩
  have I5 := hide (I4.out.ext hb)
  clear hb
  clear z1 z2 c0 c1 c2 f0 k0 k1 k2 f1
  have z1 := I5.out.m.lt
  have z2 := I5.out.k.lt
  obtain ⟨-, c0, c1, c2, f0⟩ := blk3 I5.out.m
  obtain ⟨-, k0, k1, k2, f1⟩ := blk3 I5.out.k
  clear I3 I4 HCK HAT HFL HRM
  have HFN : Hid ((n < 0 ∨ 1000000 < n) → f1' = 0 ∧ f2' = 0 ∧ f3' = 3) := hide (fun h => by
    have h1 := HFS.out
    have h2 : tmB n = false := by rw [← Bool.not_eq_true, tm_iff]; omega
    rw [h2, if_neg Bool.false_ne_true] at h1
    injection h1 with h3 h4
    injection h4 with h4 h5
    exact ⟨h3, h4, h5⟩)
  have HFY : Hid (0 ≤ n → n ≤ 1000000 → f3' = 0 ∧ ∀ W, Calls Tryd.prog 30 #[.agg #[.int .i64 m.ln, .int .i64 m.per, .int .i64 m.ph], .int .i64 n] W fun e w' => e = .returned (.tuple #[.int .i64 f1', .int .i64 f2']) ∧ Below W.heap.size W w') := hide (fun h0 h1 => by
    have h2 := HFS.out
    rw [tm_iff.2 ⟨h0, h1⟩, if_pos rfl] at h2
    injection h2 with h3 h4
    injection h4 with h4 h5
    refine ⟨h5, fun W => ?_⟩
    rw [h3, h4]
    exact HRF.out h0 h1 W)
  have HDN : Hid ((d < 0 ∨ 1000000 < d) → A = 0 ∧ B = false ∧ C = 0 ∧ N = 0 ∧ E = 3) := hide (fun h => by
    have h1 := HAE.out
    have h2 : tmB d = false := by rw [← Bool.not_eq_true, tm_iff]; omega
    rw [h2, if_neg Bool.false_ne_true] at h1
    unfold zdV at h1
    simp at h1
    obtain ⟨⟨h1, h2, h3⟩, h4, h5⟩ := h1
    exact ⟨by omega, by first | exact h2.symm | exact h2, by omega, by omega, by omega⟩)
  have HDZ : Hid (0 ≤ d → d ≤ 1000000 → snF m d < 0 → (A = 0 ∧ B = false ∧ C = 0 ∧ N = 0 ∧ E = 7) ∧ ∀ W, Calls Tryd.prog 28 #[.agg #[.int .i64 m.ln, .int .i64 m.per, .int .i64 m.ph], .int .i64 d] W fun e w' => e = .returned (.int .i64 (-1)) ∧ Below W.heap.size W w') := hide (fun h0 h1 hs => by
    have h2 := HAE.out
    have h3 := HRA.out h0 h1
    rw [tm_iff.2 ⟨h0, h1⟩, if_pos rfl, if_pos hs] at h2
    rw [if_pos hs] at h3
    unfold zdV at h2
    simp at h2
    obtain ⟨⟨h4, h5, h6⟩, h7, h8⟩ := h2
    exact ⟨⟨by omega, by first | exact h5.symm | exact h5, by omega, by omega, by omega⟩, h3⟩)
  have HDC : Hid (0 ≤ d → d ≤ 1000000 → ¬ snF m d < 0 → E = 0 ∧ 0 ≤ N ∧ (∀ W, Calls Tryd.prog 28 #[.agg #[.int .i64 m.ln, .int .i64 m.per, .int .i64 m.ph], .int .i64 d] W fun e w' => e = .returned (.int .i64 N) ∧ Below W.heap.size W w') ∧
      ∀ W, Calls Tryd.prog 29 #[.int .i64 N] W fun e w' => e = .returned (.agg #[.int .i64 A, .bool B, .int .i64 C]) ∧ Below W.heap.size W w') := hide (fun h0 h1 hs => by
    have h2 := HAE.out
    have h3 := HRA.out h0 h1
    have h4 := HCB.out h0 h1 (by omega)
    rw [tm_iff.2 ⟨h0, h1⟩, if_pos rfl, if_neg hs] at h2
    rw [if_neg hs] at h3
    injection h2 with h5 h6
    injection h6 with h6 h7
    rw [h6] at h3 h4 h5
    refine ⟨h7.symm, h4.1, h3, fun W => ?_⟩
    rw [← h5]
    exact HRD.out N h4.1 (by omega) W)
  clear HFS HAE HRA HRD HRF HCB
  rcases (by omega : (d < 0 ∨ 1000000 < d) ∨ 0 ≤ d ∧ d ≤ 1000000) with hd | ⟨hd0, hd1⟩
  · obtain ⟨rfl, rfl, rfl, rfl, rfl⟩ := HDN.out hd
    clear HDN HDZ HDC
    rcases (by omega : (n < 0 ∨ 1000000 < n) ∨ 0 ≤ n ∧ n ≤ 1000000) with hn | ⟨hn0, hn1⟩
    · obtain ⟨rfl, rfl, rfl⟩ := HFN.out hn
      clear HFN HFY
      rcases hd with hd | hd <;> rcases hn with hn | hn
      · go_wp2_with fail
        refine (HKN.out _ I5.out.b).mono ?_
        rintro e w8 ⟨rfl, hb⟩
        have B8 := hide (I5.out.b.trans (hb.mono I5.out.b.size))
        clear hb
        go_wp2_with fail
        go_ret
        exact ⟨rfl, B8.out⟩
      · have hn2 : ¬ n < 0 := by omega
        go_wp2_with fail
        refine (HKN.out _ I5.out.b).mono ?_
        rintro e w8 ⟨rfl, hb⟩
        have B8 := hide (I5.out.b.trans (hb.mono I5.out.b.size))
        clear hb
        go_wp2_with fail
        go_ret
        exact ⟨rfl, B8.out⟩
      · have hd2 : ¬ d < 0 := by omega
        have hd3 : 0 ≤ d := by omega
        have hd4 : ¬ d ≤ 1000000 := by omega
        go_wp2_with fail
        refine (HKN.out _ I5.out.b).mono ?_
        rintro e w8 ⟨rfl, hb⟩
        have B8 := hide (I5.out.b.trans (hb.mono I5.out.b.size))
        clear hb
        go_wp2_with fail
        go_ret
        exact ⟨rfl, B8.out⟩
      · have hn2 : ¬ n < 0 := by omega
        have hd2 : ¬ d < 0 := by omega
        have hd3 : 0 ≤ d := by omega
        have hd4 : ¬ d ≤ 1000000 := by omega
        go_wp2_with fail
        refine (HKN.out _ I5.out.b).mono ?_
        rintro e w8 ⟨rfl, hb⟩
        have B8 := hide (I5.out.b.trans (hb.mono I5.out.b.size))
        clear hb
        go_wp2_with fail
        go_ret
        exact ⟨rfl, B8.out⟩
    · obtain ⟨rfl, HRF⟩ := HFY.out hn0 hn1
      replace HRF := hide HRF
      clear HFN HFY
      have hn2 : ¬ n < 0 := by omega
      have hn3 : ¬ 1000000 < n := by omega
      rcases hd with hd | hd
      · go_wp2_with fail
        refine (HRF.out _).mono ?_
        rintro e w7 ⟨rfl, hb⟩
        have I7 := hide (I5.out.ext hb)
        clear hb
        clear z1 z2 c0 c1 c2 f0 k0 k1 k2 f1
        go_wp2_with fail
        refine (HKN.out _ I7.out.b).mono ?_
        rintro e w8 ⟨rfl, hb⟩
        have B8 := hide (I7.out.b.trans (hb.mono I7.out.b.size))
        clear hb
        go_wp2_with fail
        go_ret
        exact ⟨rfl, B8.out⟩
      · have hd2 : ¬ d < 0 := by omega
        have hd3 : 0 ≤ d := by omega
        have hd4 : ¬ d ≤ 1000000 := by omega
        go_wp2_with fail
        refine (HRF.out _).mono ?_
        rintro e w7 ⟨rfl, hb⟩
        have I7 := hide (I5.out.ext hb)
        clear hb
        clear z1 z2 c0 c1 c2 f0 k0 k1 k2 f1
        go_wp2_with fail
        refine (HKN.out _ I7.out.b).mono ?_
        rintro e w8 ⟨rfl, hb⟩
        have B8 := hide (I7.out.b.trans (hb.mono I7.out.b.size))
        clear hb
        go_wp2_with fail
        go_ret
        exact ⟨rfl, B8.out⟩
  have hd2 : ¬ d < 0 := by omega
  have hd3 : ¬ 1000000 < d := by omega
  by_cases hs : snF m d < 0
  · obtain ⟨⟨rfl, rfl, rfl, rfl, rfl⟩, HRA⟩ := HDZ.out hd0 hd1 hs
    replace HRA := hide HRA
    clear HDN HDZ HDC hs
    go_wp2_with fail
    refine (HRA.out _).mono ?_
    rintro e w6 ⟨rfl, hb⟩
    have I6 := hide (I5.out.ext hb)
    clear hb I5
    clear z1 z2 c0 c1 c2 f0 k0 k1 k2 f1
    have z1 := I6.out.m.lt
    have z2 := I6.out.k.lt
    obtain ⟨-, c0, c1, c2, f0⟩ := blk3 I6.out.m
    obtain ⟨-, k0, k1, k2, f1⟩ := blk3 I6.out.k
    rcases (by omega : (n < 0 ∨ 1000000 < n) ∨ 0 ≤ n ∧ n ≤ 1000000) with hn | ⟨hn0, hn1⟩
    · obtain ⟨rfl, rfl, rfl⟩ := HFN.out hn
      clear HFN HFY
      rcases hn with hn | hn
      · go_wp2_with fail
        refine (HKN.out _ I6.out.b).mono ?_
        rintro e w8 ⟨rfl, hb⟩
        have B8 := hide (I6.out.b.trans (hb.mono I6.out.b.size))
        clear hb
        go_wp2_with fail
        go_ret
        exact ⟨rfl, B8.out⟩
      · have hn2 : ¬ n < 0 := by omega
        go_wp2_with fail
        refine (HKN.out _ I6.out.b).mono ?_
        rintro e w8 ⟨rfl, hb⟩
        have B8 := hide (I6.out.b.trans (hb.mono I6.out.b.size))
        clear hb
        go_wp2_with fail
        go_ret
        exact ⟨rfl, B8.out⟩
    · obtain ⟨rfl, HRF⟩ := HFY.out hn0 hn1
      replace HRF := hide HRF
      clear HFN HFY
      have hn2 : ¬ n < 0 := by omega
      have hn3 : ¬ 1000000 < n := by omega
      go_wp2_with fail
      refine (HRF.out _).mono ?_
      rintro e w7 ⟨rfl, hb⟩
      have I7 := hide (I6.out.ext hb)
      clear hb
      clear z1 z2 c0 c1 c2 f0 k0 k1 k2 f1
      go_wp2_with fail
      refine (HKN.out _ I7.out.b).mono ?_
      rintro e w8 ⟨rfl, hb⟩
      have B8 := hide (I7.out.b.trans (hb.mono I7.out.b.size))
      clear hb
      go_wp2_with fail
      go_ret
      exact ⟨rfl, B8.out⟩
  · obtain ⟨rfl, hN, HRA, HRD⟩ := HDC.out hd0 hd1 hs
    replace HRA := hide HRA
    replace HRD := hide HRD
    clear HDN HDZ HDC hs
    go_wp2_with fail
    refine (HRA.out _).mono ?_
    rintro e w6 ⟨rfl, hb⟩
    have I6 := hide (I5.out.ext hb)
    clear hb I5
    clear z1 z2 c0 c1 c2 f0 k0 k1 k2 f1
    have hN2 : ¬ N < 0 := by omega
    go_upto_region 17 with fail
    have I7 := hide (I6.out.ext (Below.refl w6.heap.size w6).drew)
    refine wp_region_J (fun W : World => W.cell? ⟨g, 0, none⟩ = some (.int .i64 A) ∧ W.cell? ⟨g, 1, none⟩ = some (.bool B) ∧ W.cell? ⟨g, 2, none⟩ = some (.int .i64 C)) (by kernel_rfl) ?_
    generalize w6.drew = wd at I7 ⊢
    have HSK : Hid (∀ W, DyI w W m g A B C → W.cell? ⟨g, 0, none⟩ = some (.int .i64 A) ∧ W.cell? ⟨g, 1, none⟩ = some (.bool B) ∧ W.cell? ⟨g, 2, none⟩ = some (.int .i64 C)) := hide (fun W h => by
      obtain ⟨-, k0, k1, k2, -⟩ := blk3 h.k
      exact ⟨k0, k1, k2⟩)
    refine tk_start [0, 1, 2, 3, 4, 5, 6, 7, 8, 9] ?_
    iterate 10
      refine tk_one (v := ?_) (by first | exact hF | exact wideFn) (HSK.out _ I7.out) rfl (by kernel_rfl) (by kernel_rfl) (by kernel_rfl) (by kernel_rfl) rfl ?_ (by first | exact fun _ _ _ h => h | exact fun _ _ _ h => hQ2 _ _ _ _ _ h) ?_
      rotate_left
      · intro W hSW
        simp only [List.getElem_toArray, List.getElem_cons_zero, List.getElem_cons_succ]
        (try dsimp only at hSW)
        go_simp
        with_reducible rfl
      (try simp only [List.getElem_toArray, List.getElem_cons_zero, List.getElem_cons_succ, Act.put, List.setIfInBounds_toArray, List.set_cons_zero, List.set_cons_succ])
    refine tk_end ?_
    refine wpAnyJ_one 10 rfl (by kernel_rfl) (fun K hK => ?_)
    simp only [List.getElem_toArray, List.getElem_cons_zero, List.getElem_cons_succ]
    go_simp
    refine ⟨trivial, rfl, ?_⟩
    refine (callsIn_wide.2 (HRD.out wd)).mono ?_
    rintro e w7 ⟨rfl, hb⟩
    have I8 := hide (I7.out.ext hb); clear hb
    dsimp only
    refine hK.out _ _ (fun _ => HSK.out _ I8.out) ?_
    clear hK K
    (try simp only [List.getElem_toArray, List.getElem_cons_zero, List.getElem_cons_succ, Act.put, List.setIfInBounds_toArray, List.set_cons_zero, List.set_cons_succ])
    refine tk_start [11, 12, 13] ?_
    iterate 3
      refine tk_one (v := ?_) (by first | exact hF | exact wideFn) (HSK.out _ I8.out) rfl (by kernel_rfl) (by kernel_rfl) (by kernel_rfl) (by kernel_rfl) rfl ?_ (by first | exact fun _ _ _ h => h | exact fun _ _ _ h => hQ2 _ _ _ _ _ h) ?_
      rotate_left
      · intro W hSW
        simp only [List.getElem_toArray, List.getElem_cons_zero, List.getElem_cons_succ]
        (try dsimp only at hSW)
        go_simp
        with_reducible rfl
      (try simp only [List.getElem_toArray, List.getElem_cons_zero, List.getElem_cons_succ, Act.put, List.setIfInBounds_toArray, List.set_cons_zero, List.set_cons_succ])
    refine tk_end ?_
    refine wpAnyJ_done (by kernel_rfl) ?_
    have z1 := I8.out.m.lt
    have z2 := I8.out.k.lt
    obtain ⟨-, c0, c1, c2, f0⟩ := blk3 I8.out.m
    obtain ⟨-, k0, k1, k2, f1⟩ := blk3 I8.out.k
    rcases (by omega : (n < 0 ∨ 1000000 < n) ∨ 0 ≤ n ∧ n ≤ 1000000) with hn | ⟨hn0, hn1⟩
    · obtain ⟨rfl, rfl, rfl⟩ := HFN.out hn
      clear HFN HFY
      rcases hn with hn | hn
      · go_wp2_with fail
        refine (HKN.out _ I8.out.b).mono ?_
        rintro e w8 ⟨rfl, hb⟩
        have B8 := hide (I8.out.b.trans (hb.mono I8.out.b.size))
        clear hb
        go_wp2_with fail
        go_ret
        exact ⟨rfl, B8.out⟩
      · have hn2 : ¬ n < 0 := by omega
        go_wp2_with fail
        refine (HKN.out _ I8.out.b).mono ?_
        rintro e w8 ⟨rfl, hb⟩
        have B8 := hide (I8.out.b.trans (hb.mono I8.out.b.size))
        clear hb
        go_wp2_with fail
        go_ret
        exact ⟨rfl, B8.out⟩
    · obtain ⟨rfl, HRF⟩ := HFY.out hn0 hn1
      replace HRF := hide HRF
      clear HFN HFY
      have hn2 : ¬ n < 0 := by omega
      have hn3 : ¬ 1000000 < n := by omega
      go_wp2_with fail
      refine (HRF.out _).mono ?_
      rintro e w7 ⟨rfl, hb⟩
      have I7 := hide (I8.out.ext hb)
      clear hb
      clear z1 z2 c0 c1 c2 f0 k0 k1 k2 f1
      go_wp2_with fail
      refine (HKN.out _ I7.out.b).mono ?_
      rintro e w8 ⟨rfl, hb⟩
      have B8 := hide (I7.out.b.trans (hb.mono I7.out.b.size))
      clear hb
      go_wp2_with fail
      go_ret
      exact ⟨rfl, B8.out⟩
end Go.Proofs.YtlkkkgpcjdemdaaDoor
