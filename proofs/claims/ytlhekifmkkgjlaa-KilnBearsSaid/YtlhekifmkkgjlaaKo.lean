/- Contracts of chapter 8 on loads: lowest terms, sums. -/
import Derived.Test.YtlhekifmkkgjlaaKn
set_option linter.unusedSimpArgs false
set_option linter.unusedVariables false
set_option linter.unnecessarySimpa false
namespace Go.Proofs.Ytlhekifmkkgjlaa
open Go Go.RowKit
set_option maxHeartbeats 1000000
theorem gcd_step (a b : Nat) : Nat.gcd b (a % b) = Nat.gcd a b := by rw [Nat.gcd_comm b (a % b), ← Nat.gcd_rec, Nat.gcd_comm]
/-- a load in lowest terms, and whether it is not too great -/
def lowP (n d : Nat) : Nat × Nat := (n / Nat.gcd n d, d / Nat.gcd n d)
def fitP (x : Nat × Nat) : Bool := decide (x.1 ≤ 1000000000) && decide (x.2 ≤ 1000000000)
def capP (x : Nat × Nat) : Nat × Nat := if fitP x then x else (0, 1)
def lowS (n d : Nat) : Nat × Nat := capP (lowP n d)
theorem capP_yes {x : Nat × Nat} (h : fitP x = true) : capP x = x := by simp [capP, h]
theorem capP_no {x : Nat × Nat} (h : fitP x = false) : capP x = (0, 1) := by simp [capP, h]
def ldV (x : Nat × Nat) : Value := .agg #[.int .i64 x.1, .int .i64 x.2]
def offW (w : World) (sc : Nat) (ok : Bool) : World := if ok then w else w.setCell ⟨sc, 0, none⟩ (.bool true)
theorem size_offW (w : World) (sc : Nat) (ok : Bool) : (offW w sc ok).heap.size = w.heap.size := by unfold offW; split <;> simp [size_set]
theorem offB {B : Nat} {w W : World} (h : Below B w W) (sc : Nat) (ok : Bool) : Below B (offW w sc ok) (offW W sc ok) := by
  unfold offW; split
  · exact h
  · exact setB h _ _
theorem lowest_core (n d sc G N D : Nat) (o : Bool) (w : World) (hn : n ≤ 4000000000000000000) (hd : d ≤ 4000000000000000000) (hG : Nat.gcd n d = G) (hN : n / G = N) (hD : d / G = D) (g0 : 0 < G) (hs : Blk w sc 176 #[.bool o]) :
    Calls Try.prog 108 #[.pointer (some ⟨sc, 0, none⟩), .int .i64 n, .int .i64 d] w fun e w' => e = .returned (ldV (capP (N, D))) ∧ Below w.heap.size (offW w sc (fitP (N, D))) w' := by
  have k0 := hide (Blk.new w 76 #[.int .i64 0, .int .i64 0])
  have q1 : N ≤ n := hN ▸ Nat.div_le_self _ _
  have q2 : D ≤ d := hD ▸ Nat.div_le_self _ _
  have x1 : (n : Int) / (G : Int) = (N : Int) := by rw [← hN]; rfl
  have x2 : (d : Int) / (G : Int) = (D : Int) := by rw [← hD]; rfl
  have w1 : wrap64 (N : Int) = N := IntWalk.wrap64_in _ (by omega)
  have w2 : wrap64 (D : Int) = D := IntWalk.wrap64_in _ (by omega)
  have X := hide (And.intro (And.intro x1 x2) (And.intro w1 w2))
  have HG := hide hG
  clear x1 x2 w1 w2 hN hD hG
  go_enter Try.func108, Try.ntmps108
  go_wp2_with fail
  go_loopw [7, 8] (fun i j wr => ∃ a b : Nat, i = .int .i64 a ∧ j = .int .i64 b ∧ a ≤ 4000000000000000000 ∧ b ≤ 4000000000000000000 ∧ Hid (Nat.gcd a b = G) ∧ Below (w.heap.size + 1) (w.alloc (.cells #[.int .i64 0, .int .i64 0] 76)) wr ∧ Hid (wr.heap.size = w.heap.size + 1)) (fun _ j _ => (intOf j).toNat)
  case atStart => exact ⟨n, d, rfl, rfl, hn, hd, HG, Below.refl _ _, hide (by simp)⟩
  case round =>
    obtain ⟨a, b, rfl, rfl, ha, hb, H, hB, HZ⟩ := hrel
    have hzz : w.heap.size < wr.heap.size := by have := HZ.out; omega
    rcases Nat.eq_zero_or_pos b with rfl | hb0
    · have ha' : a = G := by have := H.out; simpa using this
      subst ha'
      have g1 : ((a : Nat) : Int) ≠ 0 := by omega
      have g2 : (0 : Int) < ((a : Nat) : Int) := by omega
      go_wp2_with fail
      go_region
      simp only [X.out.1.1, X.out.1.2, X.out.2.1, X.out.2.2]
      have K1 := hide (k0.out.below hB (by omega))
      have hB0 : Below w.heap.size w wr := ((Below.refl _ _).alloc (Nat.le_refl _) _).trans (hB.mono (by omega))
      have S1 := hide (hs.ext hB0)
      have hsl : sc < w.heap.size := hs.lt
      obtain ⟨t0, t1, t2⟩ := blk1 S1.out
      clear hs k0
      obtain ⟨r0, r1, r2, r3, r4⟩ := blk2 K1.out
      by_cases f1 : N ≤ 1000000000
      · have u1 : ¬ (1000000000 : Int) < N := by omega
        by_cases f2 : D ≤ 1000000000
        · have fit := hide (show fitP (N, D) = true by simp [fitP, f1, f2])
          have u2 : ¬ (1000000000 : Int) < D := by omega
          go_wp2_with fail
          refine bodyPost_ret (v := ldV (N, D)) (by simp [results, Try.results108, go_sem, ldV, *]) rfl ⟨by rw [capP_yes fit.out], ?_⟩
          rw [fit.out]
          show Below w.heap.size w _
          exact ((set2B hB0 (Nat.le_refl _) _ _).alloc (by simp only [size_set]; omega) _).drew
        · have fit := hide (show fitP (N, D) = false by simp [fitP, f2])
          have u2 : (1000000000 : Int) < D := by omega
          go_wp2_with fail
          refine bodyPost_ret (v := ldV (0, 1)) (by simp [results, Try.results108, go_sem, ldV, *]) rfl ⟨by rw [capP_no fit.out], ?_⟩
          rw [fit.out]
          show Below w.heap.size (w.setCell ⟨sc, 0, none⟩ (.bool true)) _
          exact ((set2B (setB hB0 ⟨sc, 0, none⟩ (.bool true)) (Nat.le_refl _) _ _).alloc (by simp only [size_set]; omega) _).drew
      · have fit := hide (show fitP (N, D) = false by simp [fitP, f1])
        have u1 : (1000000000 : Int) < N := by omega
        go_wp2_with fail
        refine bodyPost_ret (v := ldV (0, 1)) (by simp [results, Try.results108, go_sem, ldV, *]) rfl ⟨by rw [capP_no fit.out], ?_⟩
        rw [fit.out]
        show Below w.heap.size (w.setCell ⟨sc, 0, none⟩ (.bool true)) _
        exact ((set2B (setB hB0 ⟨sc, 0, none⟩ (.bool true)) (Nat.le_refl _) _ _).alloc (by simp only [size_set]; omega) _).drew
    · have hb1 : ((b : Int) != 0) = true := by simp; omega
      have hb2 : (0 : Int) < (b : Int) := by omega
      have hm : a % b < b := Nat.mod_lt _ hb0
      have e1 : ((a : Int)).tmod (b : Int) = ((a % b : Nat) : Int) := by rw [Int.tmod_eq_emod_of_nonneg (by omega)]; rfl
      have e3 : IntKind.i64.wrap ((a % b : Nat) : Int) = ((a % b : Nat) : Int) := IntWalk.i64_in _ (by omega)
      go_wp2_with fail
      go_region
      clear e1 e3
      go_wp2_with fail
      go_roundw
      case rel => exact ⟨b, a % b, rfl, rfl, hb, by omega, hide (by rw [gcd_step]; exact H.out), hB.drew, HZ⟩
      case measure => simp [intOf]; omega
theorem lowest_any (a b : Int) (n d sc : Nat) (o : Bool) (w : World) (ha : a = (n : Int)) (hb : b = (d : Int)) (hn : n ≤ 4000000000000000000) (hd : d ≤ 4000000000000000000) (hd0 : 0 < d) (hs : Blk w sc 176 #[.bool o]) :
    Calls Try.prog 108 #[.pointer (some ⟨sc, 0, none⟩), .int .i64 a, .int .i64 b] w fun e w' => e = .returned (ldV (lowS n d)) ∧ Below w.heap.size (offW w sc (fitP (lowP n d))) w' := by
  subst ha hb
  exact lowest_core n d sc _ _ _ o w hn hd rfl rfl rfl (Nat.gcd_pos_of_pos_right _ hd0) hs
/-- a load that is not too great -/
def LdOk (x : Nat × Nat) : Prop := x.1 ≤ 1000000000 ∧ 1 ≤ x.2 ∧ x.2 ≤ 1000000000
theorem lowS_ok (n d : Nat) (h : 0 < d) : LdOk (lowS n d) := by
  unfold lowS
  rcases hf : fitP (lowP n d) with _ | _
  · rw [capP_no hf]; exact ⟨by simp, by simp, by simp⟩
  · rw [capP_yes hf]
    simp only [fitP, Bool.and_eq_true, decide_eq_true_eq] at hf
    exact ⟨hf.1, Nat.div_pos (Nat.le_of_dvd h (Nat.gcd_dvd_right _ _)) (Nat.gcd_pos_of_pos_right _ h), hf.2⟩
def addN (x y : Nat × Nat) : Nat := x.1 * y.2 + y.1 * x.2
def addD (x y : Nat × Nat) : Nat := x.2 * y.2
theorem mulN_bd {a b M N : Nat} (h1 : a ≤ M) (h2 : b ≤ N) : a * b ≤ M * N := Nat.mul_le_mul h1 h2
theorem add_any (x y : Nat × Nat) (sc : Nat) (o : Bool) (w : World) (hx : LdOk x) (hy : LdOk y) (hs : Blk w sc 176 #[.bool o]) :
    Calls Try.prog 107 #[.pointer (some ⟨sc, 0, none⟩), ldV x, ldV y] w fun e w' => e = .returned (ldV (lowS (addN x y) (addD x y))) ∧ Below w.heap.size (offW w sc (fitP (lowP (addN x y) (addD x y)))) w' := by
  obtain ⟨xn, xd⟩ := x
  obtain ⟨yn, yd⟩ := y
  obtain ⟨h1, h2, h3⟩ := hx
  obtain ⟨h4, h5, h6⟩ := hy
  simp only at h1 h2 h3 h4 h5 h6
  have m1 : xn * yd ≤ 1000000000 * 1000000000 := mulN_bd h1 h6
  have m2 : yn * xd ≤ 1000000000 * 1000000000 := mulN_bd h4 h3
  have m3 : xd * yd ≤ 1000000000 * 1000000000 := mulN_bd h3 h6
  have m4 : 0 < xd * yd := Nat.mul_pos h2 h5
  have i1 : (xn : Int) * (yd : Int) = ((xn * yd : Nat) : Int) := by simp
  have i2 : (yn : Int) * (xd : Int) = ((yn * xd : Nat) : Int) := by simp
  have i3 : (xd : Int) * (yd : Int) = ((xd * yd : Nat) : Int) := by simp
  have b1 : 0 ≤ (xn : Int) * (yd : Int) ∧ (xn : Int) * (yd : Int) ≤ 1000000000000000000 := by rw [i1]; omega
  have b2 : 0 ≤ (yn : Int) * (xd : Int) ∧ (yn : Int) * (xd : Int) ≤ 1000000000000000000 := by rw [i2]; omega
  have b3 : 0 ≤ (xd : Int) * (yd : Int) ∧ (xd : Int) * (yd : Int) ≤ 1000000000000000000 := by rw [i3]; omega
  have HC := hide (fun W (hB : Below w.heap.size w W) => lowest_any ((xn : Int) * (yd : Int) + (yn : Int) * (xd : Int)) ((xd : Int) * (yd : Int)) (addN (xn, xd) (yn, yd)) (addD (xn, xd) (yn, yd)) sc o W (by simp [addN]) (by simp [addD]) (by simp only [addN]; omega) (by simp only [addD]; omega) (by simp only [addD]; omega) (hs.ext hB))
  have hsl := hs.lt
  clear i1 i2 i3 m1 m2 m3 m4 hs
  unfold ldV
  generalize lowS (addN (xn, xd) (yn, yd)) (addD (xn, xd) (yn, yd)) = R at HC ⊢
  generalize fitP (lowP (addN (xn, xd) (yn, yd)) (addD (xn, xd) (yn, yd))) = ok at HC ⊢
  obtain ⟨rn, rd⟩ := R
  unfold ldV at HC
  have b0 : Below w.heap.size w (((w.alloc (.cells #[.int .i64 xn, .int .i64 xd] 76)).alloc (.cells #[.int .i64 yn, .int .i64 yd] 76)).alloc (.cells #[.int .i64 0, .int .i64 0] 76)) := (((Below.refl _ w).alloc (Nat.le_refl _) _).alloc (by simp) _).alloc (by simp only [World.size_alloc]; omega) _
  have k0 := Blk.new ((w.alloc (.cells #[.int .i64 xn, .int .i64 xd] 76)).alloc (.cells #[.int .i64 yn, .int .i64 yd] 76)) 76 #[.int .i64 0, .int .i64 0]
  simp only [World.size_alloc] at k0
  have B0 := hide b0
  have K0 := hide k0
  clear b0 k0
  go_enter Try.func107, Try.ntmps107
  go_wp2_with fail
  refine (HC.out _ B0.out).mono ?_
  rintro e w1 ⟨rfl, hb1⟩
  have K1 : Blk (offW (((w.alloc (.cells #[.int .i64 xn, .int .i64 xd] 76)).alloc (.cells #[.int .i64 yn, .int .i64 yd] 76)).alloc (.cells #[.int .i64 0, .int .i64 0] 76)) sc ok) (w.heap.size + 1 + 1) 76 #[.int .i64 0, .int .i64 0] := by
    unfold offW; split
    · exact K0.out
    · exact K0.out.far (p := ⟨sc, 0, none⟩) (by simp only []; omega) _
  obtain ⟨z1, r0, r1, r2, r3⟩ := blk2 (K1.below hb1 (by simp))
  clear K1
  go_wp2_with fail
  refine bodyPost_ret (v := .agg #[.int .i64 rn, .int .i64 rd]) (by simp [results, Try.results107, go_sem, *]) rfl ⟨rfl, ?_⟩
  have b9 := (offB B0.out sc ok).trans (hb1.mono (by simp only [World.size_alloc]; omega))
  exact set2B b9 (by omega) _ _
end Go.Proofs.Ytlhekifmkkgjlaa
