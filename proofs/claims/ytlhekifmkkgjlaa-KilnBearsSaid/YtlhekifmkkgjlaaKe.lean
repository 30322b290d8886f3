/- Contracts of chapter 8 on moulds. -/
import Derived.Test.YtlhekifmkkgjlaaKd
set_option linter.unusedSimpArgs false
set_option linter.unusedVariables false
set_option linter.unnecessarySimpa false
namespace Go.Proofs.Ytlhekifmkkgjlaa
open Go Go.RowKit
set_option maxHeartbeats 400000
def spB (lo hi a b : Int) : Bool := decide (a ≤ lo ∧ lo ≤ hi ∧ hi ≤ b)
theorem isSpread_any (lo hi a b : Int) (w : World) : Calls Try.prog 63 #[.agg #[.int .i64 lo, .int .i64 hi], .int .i64 a, .int .i64 b] w fun e w' => e = .returned (.bool (spB lo hi a b)) ∧ Below w.heap.size w w' := by
  go_enter Try.func63, Try.ntmps63
  go_wp2_with fail
  have b0 : Below w.heap.size w ((w.alloc (.cells #[.int .i64 lo, .int .i64 hi] 25)).alloc (.cells #[.int .i64 lo, .int .i64 hi] 3)) := ((Below.refl _ _).alloc (Nat.le_refl _) _).alloc (by simp) _
  refine (within_any a b _ 2 2 (fun k => if k = 0 then lo else hi) _ (by decide) ?_).mono ?_
  · simpa using IR.two (w.alloc (.cells #[.int .i64 lo, .int .i64 hi] 25)) lo hi 3
  rintro e w1 ⟨rfl, hb1⟩
  have hc0 : w1.cell? ⟨w.heap.size, 0, none⟩ = some (.int .i64 lo) := (hb1.cell (by simp; omega)).trans (by simp)
  have hc1 : w1.cell? ⟨w.heap.size, 1, none⟩ = some (.int .i64 hi) := (hb1.cell (by simp; omega)).trans (by simp)
  have hB := b0.trans (hb1.mono (by simp; omega))
  rcases hw : wiB a b (fun k => if k = 0 then lo else hi) 2 with _ | _
  · have hw' : ¬ (a ≤ lo ∧ lo ≤ hi ∧ hi ≤ b) := fun h => by
      have := (wiB_iff a b (fun k => if k = 0 then lo else hi) 2).2 (fun k hk => by rcases (by omega : k = 0 ∨ k = 1) with rfl | rfl <;> simp <;> omega)
      rw [hw] at this; cases this
    have HW := hide hw'; clear hw'
    clear hw
    go_wp2_with fail
    go_ret
    exact ⟨ret_bool (by rw [spB, decide_eq_false HW.out]), hB⟩
  · have h := (wiB_iff a b (fun k => if k = 0 then lo else hi) 2).1 hw
    have h0 := h 0 (by omega)
    have h1 := h 1 (by omega)
    simp at h0 h1
    clear hw h
    by_cases hlt : lo ≤ hi
    · go_wp2_with fail
      go_ret
      exact ⟨ret_bool (by rw [spB, decide_eq_true (by omega)]), hB⟩
    · go_wp2_with fail
      go_ret
      exact ⟨ret_bool (by rw [Bool.eq_iff_iff]; simp [spB]; omega), hB⟩
def clB (dl dh fl fh : Int) : Bool := spB dl dh 0 9999 && spB fl fh 0 9999
theorem clB_iff (dl dh fl fh : Int) : clB dl dh fl fh = true ↔ (0 ≤ dl ∧ dl ≤ dh ∧ dh ≤ 9999) ∧ (0 ≤ fl ∧ fl ≤ fh ∧ fh ≤ 9999) := by
  simp [clB, spB]
theorem isClay_any (dl dh fl fh : Int) (w : World) : Calls Try.prog 60 #[.agg #[.int .i64 dl, .int .i64 dh, .int .i64 fl, .int .i64 fh]] w fun e w' => e = .returned (.bool (clB dl dh fl fh)) ∧ Below w.heap.size w w' := by
  go_enter Try.func60, Try.ntmps60
  go_wp2_with fail
  refine (isSpread_any _ _ _ _ _).mono ?_
  rintro e w1 ⟨rfl, hb1⟩
  have hc0 : w1.cell? ⟨w.heap.size, 2, none⟩ = some (.int .i64 fl) := (hb1.cell (by simp)).trans (by simp)
  have hc1 : w1.cell? ⟨w.heap.size, 3, none⟩ = some (.int .i64 fh) := (hb1.cell (by simp)).trans (by simp)
  have hB := ((Below.refl _ _).alloc (Nat.le_refl _) (.cells #[.int .i64 dl, .int .i64 dh, .int .i64 fl, .int .i64 fh] 40)).trans (hb1.mono (by simp))
  rcases hs : spB dl dh 0 9999 with _ | _
  · have HS := hide hs; clear hs
    go_wp2_with fail
    go_ret
    exact ⟨ret_bool (by simp [clB, HS.out]), hB⟩
  · have HS := hide hs; clear hs
    go_wp2_with fail
    refine (isSpread_any _ _ _ _ _).mono ?_
    rintro e w2 ⟨rfl, hb2⟩
    go_wp2_with fail
    go_ret
    exact ⟨ret_bool (by simp [clB, HS.out]), hB.trans (hb2.mono hB.size)⟩
def keep (s d f : Int) : Int := s * (10000 - d) * (10000 - f)
theorem keep_bd {s d f M : Int} (h1 : 0 ≤ s) (h2 : s ≤ M) (h3 : 0 ≤ d) (h4 : d ≤ 10000) (h5 : 0 ≤ f) (h6 : f ≤ 10000) :
    (0 ≤ s * (10000 - d) ∧ s * (10000 - d) ≤ M * 10000) ∧ (0 ≤ keep s d f ∧ keep s d f ≤ M * 10000 * 10000) :=
  have a := mul_bd h1 h2 (b := 10000 - d) (N := 10000) (by omega) (by omega)
  ⟨a, mul_bd a.1 a.2 (by omega) (by omega)⟩
theorem keep_any (s d f : Int) (p : Nat) (w : World) (hc : w.cell? ⟨p, 0, none⟩ = some (.int .i64 s)) (h1 : 0 ≤ s) (h2 : s ≤ 2000000) (h3 : 0 ≤ d) (h4 : d ≤ 10000) (h5 : 0 ≤ f) (h6 : f ≤ 10000) :
    Calls Try.prog 101 #[.int .i64 d, .int .i64 f, .pointer (some ⟨p, 0, none⟩)] w fun e w' => e = .returned (.int .i64 (keep s d f)) ∧ w = w' := by
  obtain ⟨⟨a1, a2⟩, a3, a4⟩ := keep_bd h1 h2 h3 h4 h5 h6
  unfold keep at a3 a4
  go_enter Try.func101, Try.ntmps101
  go_wp2_with fail
  go_ret
  exact ⟨rfl, rfl⟩
def shLo (s dh fh : Int) : Int := keep s dh fh / 100000000
def shHi (s dl fl : Int) : Int := (keep s dl fl + 99999999) / 100000000
theorem shrunk_any (s dl dh fl fh : Int) (w : World) (h1 : 0 ≤ s) (h2 : s ≤ 2000000) (hcl : clB dl dh fl fh = true) :
    Calls Try.prog 62 #[.int .i64 s, .agg #[.int .i64 dl, .int .i64 dh, .int .i64 fl, .int .i64 fh]] w fun e w' => e = .returned (.agg #[.int .i64 (shLo s dh fh), .int .i64 (shHi s dl fl)]) ∧ Below w.heap.size w w' := by
  obtain ⟨⟨c1, c2, c3⟩, c4, c5, c6⟩ := (clB_iff _ _ _ _).1 hcl
  clear hcl
  obtain ⟨-, k1, k2⟩ := keep_bd h1 h2 (d := dh) (f := fh) (by omega) (by omega) (by omega) (by omega)
  obtain ⟨-, k3, k4⟩ := keep_bd h1 h2 (d := dl) (f := fl) (by omega) (by omega) (by omega) (by omega)
  go_enter Try.func62, Try.ntmps62
  go_wp2_with fail
  have b0 : Below w.heap.size w (((w.alloc (.cells #[.int .i64 s] 3)).alloc (.cells #[.int .i64 dl, .int .i64 dh, .int .i64 fl, .int .i64 fh] 40)).alloc (.cells #[.int .i64 0, .int .i64 0] 25)) := (((Below.refl _ _).alloc (Nat.le_refl _) _).alloc (by simp) _).alloc (by simp only [World.size_alloc]; omega) _
  generalize hW : (((w.alloc (.cells #[.int .i64 s] 3)).alloc (.cells #[.int .i64 dl, .int .i64 dh, .int .i64 fl, .int .i64 fh] 40)).alloc (.cells #[.int .i64 0, .int .i64 0] 25)) = W at b0 ⊢
  have q0 : W.heap.size = w.heap.size + 3 := by rw [← hW]; simp [go_sem]
  have q1 : W.cell? ⟨w.heap.size, 0, none⟩ = some (.int .i64 s) := by rw [← hW]; simp [go_sem]
  have q2 : W.cell? ⟨w.heap.size + 1, 0, none⟩ = some (.int .i64 dl) := by rw [← hW]; simp [go_sem]
  have q3 : W.cell? ⟨w.heap.size + 1, 1, none⟩ = some (.int .i64 dh) := by rw [← hW]; simp [go_sem]
  have q4 : W.cell? ⟨w.heap.size + 1, 2, none⟩ = some (.int .i64 fl) := by rw [← hW]; simp [go_sem]
  have q5 : W.cell? ⟨w.heap.size + 1, 3, none⟩ = some (.int .i64 fh) := by rw [← hW]; simp [go_sem]
  have q6 : W.cell? ⟨w.heap.size + 2, 0, none⟩ = some (.int .i64 0) := by rw [← hW]; simp [go_sem]
  have q7 : W.cell? ⟨w.heap.size + 2, 1, none⟩ = some (.int .i64 0) := by rw [← hW]; simp [go_sem]
  have q8 : W.frozen? ⟨w.heap.size + 2, 0, none⟩ = false := by rw [← hW]; simp [go_sem]
  have q9 : W.frozen? ⟨w.heap.size + 2, 1, none⟩ = false := by rw [← hW]; simp [go_sem]
  have zz : w.heap.size + 2 < W.heap.size := by omega
  have Q0 := hide q0
  have hne : w.heap.size ≠ w.heap.size + 1 + 1 := by omega
  have hne2 : w.heap.size + 1 + 1 ≠ w.heap.size := by omega
  have d1 : 0 ≤ keep s dh fh / 100000000 ∧ keep s dh fh / 100000000 ≤ 2000000 := by omega
  have d2 : 0 ≤ (keep s dl fl + 99999999) / 100000000 ∧ (keep s dl fl + 99999999) / 100000000 ≤ 2000001 := by omega
  have e1 : IntKind.i64.wrap (keep s dl fl + 100000000) = keep s dl fl + 100000000 := IntWalk.i64_in _ (by omega)
  have e2 : IntKind.i64.wrap (keep s dl fl + 100000000 - 1) = keep s dl fl + 99999999 := by rw [show keep s dl fl + 100000000 - 1 = keep s dl fl + 99999999 by omega]; exact IntWalk.i64_in _ (by omega)
  have e3 : (keep s dh fh).tdiv 100000000 = keep s dh fh / 100000000 := Int.tdiv_eq_ediv_of_nonneg k1
  have e4 : (keep s dl fl + 99999999).tdiv 100000000 = (keep s dl fl + 99999999) / 100000000 := Int.tdiv_eq_ediv_of_nonneg (by omega)
  have e5 : IntKind.i64.wrap (keep s dh fh / 100000000) = keep s dh fh / 100000000 := IntWalk.i64_in _ (by omega)
  have e6 : IntKind.i64.wrap ((keep s dl fl + 99999999) / 100000000) = (keep s dl fl + 99999999) / 100000000 := IntWalk.i64_in _ (by omega)
  clear hW q0
  go_region_held3 (fun w' => w'.cell? ⟨w.heap.size, 0, none⟩ = some (.int .i64 s) ∧ w'.cell? ⟨w.heap.size + 1, 0, none⟩ = some (.int .i64 dl) ∧ w'.cell? ⟨w.heap.size + 1, 1, none⟩ = some (.int .i64 dh) ∧ w'.cell? ⟨w.heap.size + 1, 2, none⟩ = some (.int .i64 fl) ∧ w'.cell? ⟨w.heap.size + 1, 3, none⟩ = some (.int .i64 fh)) (go_keep)
    ((go_at_call 101; refine (keep_any s _ _ _ _ ?_ h1 h2 ?_ ?_ ?_ ?_).mono ?_; (simp [*]); (omega); (omega); (omega); (omega); rintro e w' ⟨rfl, rfl⟩))
  go_wp2_with fail
  refine bodyPost_ret (v := .agg #[.int .i64 (shLo s dh fh), .int .i64 (shHi s dl fl)]) (by simp [results, Try.results62, go_sem, shLo, shHi, *]) rfl ⟨rfl, ?_⟩
  exact ((b0.setCell (p := ⟨w.heap.size + 1 + 1, 0, none⟩) (by simp only []; omega) _).setCell (p := ⟨w.heap.size + 1 + 1, 1, none⟩) (by simp only []; omega) _).drew
theorem keep_mono {s t d f : Int} (h : s ≤ t) (h3 : d ≤ 10000) (h5 : f ≤ 10000) : keep s d f ≤ keep t d f :=
  Int.mul_le_mul_of_nonneg_right (Int.mul_le_mul_of_nonneg_right h (by omega)) (by omega)
theorem shLo_mono {s t d f : Int} (h : s ≤ t) (h3 : d ≤ 10000) (h5 : f ≤ 10000) : shLo s d f ≤ shLo t d f := by
  have := keep_mono h h3 h5; unfold shLo; omega
theorem shHi_mono {s t d f : Int} (h : s ≤ t) (h3 : d ≤ 10000) (h5 : f ≤ 10000) : shHi s d f ≤ shHi t d f := by
  have := keep_mono h h3 h5; unfold shHi; omega
theorem moulds1_any (i : Nat) (dl dh fl fh wl wh : Int) (p q : Nat) (w : World) (h2 : i ≤ 1000000) (hcl : clB dl dh fl fh = true)
    (c0 : w.cell? ⟨p, 0, none⟩ = some (.int .i64 dl)) (c1 : w.cell? ⟨p, 1, none⟩ = some (.int .i64 dh)) (c2 : w.cell? ⟨p, 2, none⟩ = some (.int .i64 fl)) (c3 : w.cell? ⟨p, 3, none⟩ = some (.int .i64 fh))
    (c4 : w.cell? ⟨q, 0, none⟩ = some (.int .i64 wl)) (c5 : w.cell? ⟨q, 1, none⟩ = some (.int .i64 wh)) (hpl : p < w.heap.size) (hql : q < w.heap.size) :
    Calls Try.prog 64 #[.int .i64 i, .pointer (some ⟨p, 0, none⟩), .pointer (some ⟨q, 0, none⟩)] w fun e w' => e = .returned (.bool (decide (wl ≤ shLo ((i : Int) + 1) dh fh))) ∧ Below w.heap.size w w' := by
  have HC := hide (fun W => shrunk_any ((i : Int) + 1) dl dh fl fh W (by omega) (by omega) hcl)
  clear hcl
  have e0 : IntKind.i64.wrap ((i : Int) + 1) = (i : Int) + 1 := IntWalk.i64_in _ (by omega)
  go_enter Try.func64, Try.ntmps64
  go_wp2_with fail
  go_region_held3 (fun W => W.cell? ⟨p, 0, none⟩ = some (.int .i64 dl) ∧ W.cell? ⟨p, 1, none⟩ = some (.int .i64 dh) ∧ W.cell? ⟨p, 2, none⟩ = some (.int .i64 fl) ∧ W.cell? ⟨p, 3, none⟩ = some (.int .i64 fh) ∧ W.cell? ⟨q, 0, none⟩ = some (.int .i64 wl))
    (first | go_keep | exact ⟨(hb1.cell (p := ⟨p, 0, none⟩) hpl).trans c0, (hb1.cell (p := ⟨p, 1, none⟩) hpl).trans c1, (hb1.cell (p := ⟨p, 2, none⟩) hpl).trans c2, (hb1.cell (p := ⟨p, 3, none⟩) hpl).trans c3, (hb1.cell (p := ⟨q, 0, none⟩) hql).trans c4⟩)
    ((go_at_call 62; refine (HC.out _).mono ?_; rintro e w1 ⟨rfl, hb1⟩))
  go_wp2_with fail
  go_ret
  exact ⟨rfl, (Below.refl _ _).drew.trans hb1⟩
theorem moulds2_any (i : Nat) (dl dh fl fh wl wh : Int) (p q : Nat) (w : World) (h2 : i ≤ 1000000) (hcl : clB dl dh fl fh = true)
    (c0 : w.cell? ⟨p, 0, none⟩ = some (.int .i64 dl)) (c1 : w.cell? ⟨p, 1, none⟩ = some (.int .i64 dh)) (c2 : w.cell? ⟨p, 2, none⟩ = some (.int .i64 fl)) (c3 : w.cell? ⟨p, 3, none⟩ = some (.int .i64 fh))
    (c4 : w.cell? ⟨q, 0, none⟩ = some (.int .i64 wl)) (c5 : w.cell? ⟨q, 1, none⟩ = some (.int .i64 wh)) (hpl : p < w.heap.size) (hql : q < w.heap.size) :
    Calls Try.prog 65 #[.int .i64 i, .pointer (some ⟨p, 0, none⟩), .pointer (some ⟨q, 0, none⟩)] w fun e w' => e = .returned (.bool (decide (wh < shHi ((i : Int) + 1) dl fl))) ∧ Below w.heap.size w w' := by
  have HC := hide (fun W => shrunk_any ((i : Int) + 1) dl dh fl fh W (by omega) (by omega) hcl)
  clear hcl
  have e0 : IntKind.i64.wrap ((i : Int) + 1) = (i : Int) + 1 := IntWalk.i64_in _ (by omega)
  go_enter Try.func65, Try.ntmps65
  go_wp2_with fail
  go_region_held3 (fun W => W.cell? ⟨p, 0, none⟩ = some (.int .i64 dl) ∧ W.cell? ⟨p, 1, none⟩ = some (.int .i64 dh) ∧ W.cell? ⟨p, 2, none⟩ = some (.int .i64 fl) ∧ W.cell? ⟨p, 3, none⟩ = some (.int .i64 fh) ∧ W.cell? ⟨q, 1, none⟩ = some (.int .i64 wh))
    (first | go_keep | exact ⟨(hb1.cell (p := ⟨p, 0, none⟩) hpl).trans c0, (hb1.cell (p := ⟨p, 1, none⟩) hpl).trans c1, (hb1.cell (p := ⟨p, 2, none⟩) hpl).trans c2, (hb1.cell (p := ⟨p, 3, none⟩) hpl).trans c3, (hb1.cell (p := ⟨q, 1, none⟩) hql).trans c5⟩)
    ((go_at_call 62; refine (HC.out _).mono ?_; rintro e w1 ⟨rfl, hb1⟩))
  go_wp2_with fail
  go_ret
  exact ⟨rfl, (Below.refl _ _).drew.trans hb1⟩
end Go.Proofs.Ytlhekifmkkgjlaa
