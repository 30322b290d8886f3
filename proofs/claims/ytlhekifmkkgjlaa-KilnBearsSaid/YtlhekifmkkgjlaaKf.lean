/- Contracts of chapter 8 on moulds: Shrunk, Moulds and the reference. -/
import Derived.Test.YtlhekifmkkgjlaaKe
set_option linter.unusedSimpArgs false
set_option linter.unusedVariables false
set_option linter.unnecessarySimpa false
namespace Go.Proofs.Ytlhekifmkkgjlaa
open Go Go.RowKit
set_option maxHeartbeats 400000
theorem refClay_any (dl dh fl fh : Int) (w : World) : Calls Try.prog 22 #[.agg #[.int .i64 dl, .int .i64 dh, .int .i64 fl, .int .i64 fh]] w fun e w' => e = .returned (.bool (clB dl dh fl fh)) ∧ Below w.heap.size w w' := by
  have hd : dl < 0 ∨ (0 ≤ dl ∧ dh < dl) ∨ (0 ≤ dl ∧ dl ≤ dh ∧ 9999 < dh) ∨ (0 ≤ dl ∧ dl ≤ dh ∧ dh ≤ 9999 ∧ fl < 0) ∨ (0 ≤ dl ∧ dl ≤ dh ∧ dh ≤ 9999 ∧ 0 ≤ fl ∧ fh < fl) ∨ (0 ≤ dl ∧ dl ≤ dh ∧ dh ≤ 9999 ∧ 0 ≤ fl ∧ fl ≤ fh ∧ 9999 < fh) ∨ (0 ≤ dl ∧ dl ≤ dh ∧ dh ≤ 9999 ∧ 0 ≤ fl ∧ fl ≤ fh ∧ fh ≤ 9999) := by omega
  rcases hd with h | ⟨h1, h⟩ | ⟨h1, h2, h⟩ | ⟨h1, h2, h3, h⟩ | ⟨h1, h2, h3, h4, h⟩ | ⟨h1, h2, h3, h4, h5, h⟩ | ⟨h1, h2, h3, h4, h5, h⟩
  all_goals
    go_enter Try.func22, Try.ntmps22
    go_wp2_with fail
    go_ret
    refine ⟨ret_bool ?_, (Below.refl _ _).alloc (Nat.le_refl _) _⟩
    rw [Bool.eq_iff_iff, clB_iff]
    simp
    try omega
theorem refShrunk_any (s dl dh fl fh : Int) (w : World) (h1 : 0 ≤ s) (h2 : s ≤ 2000000) (hcl : clB dl dh fl fh = true) :
    Calls Try.prog 23 #[.int .i64 s, .agg #[.int .i64 dl, .int .i64 dh, .int .i64 fl, .int .i64 fh]] w fun e w' => e = .returned (.agg #[.int .i64 (shLo s dh fh), .int .i64 (shHi s dl fl)]) ∧ Below w.heap.size w w' := by
  obtain ⟨⟨c1, c2, c3⟩, c4, c5, c6⟩ := (clB_iff _ _ _ _).1 hcl
  clear hcl
  obtain ⟨⟨m1, m2⟩, k1, k2⟩ := keep_bd h1 h2 (d := dh) (f := fh) (by omega) (by omega) (by omega) (by omega)
  obtain ⟨⟨m3, m4⟩, k3, k4⟩ := keep_bd h1 h2 (d := dl) (f := fl) (by omega) (by omega) (by omega) (by omega)
  unfold keep at k1 k2 k3 k4
  go_enter Try.func23, Try.ntmps23
  go_wp2_with fail
  refine bodyPost_ret (v := .agg #[.int .i64 (shLo s dh fh), .int .i64 (shHi s dl fl)]) (by simp [results, Try.results23, go_sem, shLo, shHi, keep]) rfl ⟨rfl, ?_⟩
  exact ((Below.refl _ _).alloc (Nat.le_refl _) _).alloc (by simp) _
theorem Shrunk_err1 (s dl dh fl fh : Int) (w : World) (hcl : clB dl dh fl fh = false) :
    Calls Try.prog 20 #[.int .i64 s, .agg #[.int .i64 dl, .int .i64 dh, .int .i64 fl, .int .i64 fh]] w fun e w' => e = .returned (.tuple #[.agg #[.int .i64 0, .int .i64 0], .int .i64 2]) ∧ Below w.heap.size w w' := by
  have HC := hide (fun W => isClay_any dl dh fl fh W)
  rw [hcl] at HC
  clear hcl
  have b0 := ((Below.refl _ w).alloc (Nat.le_refl _) (.cells #[.int .i64 dl, .int .i64 dh, .int .i64 fl, .int .i64 fh] 40)).alloc (by simp) (.cells #[.int .i64 0, .int .i64 0] 25)
  have k0 := Blk.new (w.alloc (.cells #[.int .i64 dl, .int .i64 dh, .int .i64 fl, .int .i64 fh] 40)) 25 #[.int .i64 0, .int .i64 0]
  rw [World.size_alloc] at k0
  have B0 := hide b0
  have K0 := hide k0
  clear b0 k0
  go_enter Try.func20, Try.ntmps20
  go_wp2_with fail
  refine (HC.out _).mono ?_
  rintro e w1 ⟨rfl, hb1⟩
  have hB := B0.out.trans (hb1.mono (by simp only [World.size_alloc]; omega))
  obtain ⟨z1, r0, r1, r2, r3⟩ := blk2 (K0.out.ext hb1)
  go_wp2_with fail
  refine bodyPost_ret (v := .tuple #[.agg #[.int .i64 0, .int .i64 0], .int .i64 2]) (by simp [results, Try.results20, go_sem, *]) rfl ⟨rfl, ?_⟩
  exact set2B hB (by omega) _ _
theorem Shrunk_err2 (s dl dh fl fh : Int) (w : World) (hcl : clB dl dh fl fh = true) (hs : ¬ (1 ≤ s ∧ s ≤ 1000000)) :
    Calls Try.prog 20 #[.int .i64 s, .agg #[.int .i64 dl, .int .i64 dh, .int .i64 fl, .int .i64 fh]] w fun e w' => e = .returned (.tuple #[.agg #[.int .i64 0, .int .i64 0], .int .i64 3]) ∧ Below w.heap.size w w' := by
  have HC := hide (fun W => isClay_any dl dh fl fh W)
  rw [hcl] at HC
  clear hcl
  have HS := hide (decide_eq_false hs)
  clear hs
  have b0 := ((Below.refl _ w).alloc (Nat.le_refl _) (.cells #[.int .i64 dl, .int .i64 dh, .int .i64 fl, .int .i64 fh] 40)).alloc (by simp) (.cells #[.int .i64 0, .int .i64 0] 25)
  have k0 := Blk.new (w.alloc (.cells #[.int .i64 dl, .int .i64 dh, .int .i64 fl, .int .i64 fh] 40)) 25 #[.int .i64 0, .int .i64 0]
  rw [World.size_alloc] at k0
  have B0 := hide b0
  have K0 := hide k0
  clear b0 k0
  go_enter Try.func20, Try.ntmps20
  go_wp2_with fail
  refine (HC.out _).mono ?_
  rintro e w1 ⟨rfl, hb1⟩
  have hB := B0.out.trans (hb1.mono (by simp only [World.size_alloc]; omega))
  have K1 := hide (K0.out.ext hb1)
  go_wp2_with fail
  refine (within_any 1 1000000 _ 1 1 (fun _ => s) _ (by decide) ?_).mono ?_
  · simpa using IR.one w1 s 3
  rw [wiB_one, HS.out]
  rintro e w2 ⟨rfl, hb2⟩
  have hB2 := (hB.alloc hB.size _).trans (hb2.mono (by have := hB.size; simp only [World.size_alloc]; omega))
  obtain ⟨z1, r0, r1, r2, r3⟩ := blk2 ((K1.out.alloc _).ext hb2)
  go_wp2_with fail
  refine bodyPost_ret (v := .tuple #[.agg #[.int .i64 0, .int .i64 0], .int .i64 3]) (by simp [results, Try.results20, go_sem, *]) rfl ⟨rfl, ?_⟩
  exact set2B hB2 (by omega) _ _
theorem Shrunk_ok (s dl dh fl fh : Int) (w : World) (hcl : clB dl dh fl fh = true) (h1 : 1 ≤ s) (h2 : s ≤ 1000000) :
    Calls Try.prog 20 #[.int .i64 s, .agg #[.int .i64 dl, .int .i64 dh, .int .i64 fl, .int .i64 fh]] w fun e w' => e = .returned (.tuple #[.agg #[.int .i64 (shLo s dh fh), .int .i64 (shHi s dl fl)], .int .i64 0]) ∧ Below w.heap.size w w' := by
  have HC := hide (fun W => isClay_any dl dh fl fh W)
  have HD := hide (fun W => shrunk_any s dl dh fl fh W (by omega) (by omega) hcl)
  rw [hcl] at HC
  clear hcl
  have HS := hide (decide_eq_true (And.intro h1 h2))
  have b0 := ((Below.refl _ w).alloc (Nat.le_refl _) (.cells #[.int .i64 dl, .int .i64 dh, .int .i64 fl, .int .i64 fh] 40)).alloc (by simp) (.cells #[.int .i64 0, .int .i64 0] 25)
  have k0 := Blk.new (w.alloc (.cells #[.int .i64 dl, .int .i64 dh, .int .i64 fl, .int .i64 fh] 40)) 25 #[.int .i64 0, .int .i64 0]
  have c0 := (Blk.new w 40 #[.int .i64 dl, .int .i64 dh, .int .i64 fl, .int .i64 fh]).alloc (.cells #[.int .i64 0, .int .i64 0] 25)
  rw [World.size_alloc] at k0
  have B0 := hide b0
  have K0 := hide k0
  have C0 := hide c0
  clear b0 k0 c0
  go_enter Try.func20, Try.ntmps20
  go_wp2_with fail
  refine (HC.out _).mono ?_
  rintro e w1 ⟨rfl, hb1⟩
  have hB := B0.out.trans (hb1.mono (by simp only [World.size_alloc]; omega))
  have K1 := hide (K0.out.ext hb1)
  have C1 := hide (C0.out.ext hb1)
  go_wp2_with fail
  refine (within_any 1 1000000 _ 1 1 (fun _ => s) _ (by decide) ?_).mono ?_
  · simpa using IR.one w1 s 3
  rw [wiB_one, HS.out]
  rintro e w2 ⟨rfl, hb2⟩
  have hB2 := (hB.alloc hB.size _).trans (hb2.mono (by have := hB.size; simp only [World.size_alloc]; omega))
  have K2 := hide ((K1.out.alloc _).ext hb2)
  obtain ⟨z2, s0, s1, s2, s3⟩ := blk4 ((C1.out.alloc _).ext hb2)
  go_wp2_with fail
  refine (HD.out _).mono ?_
  rintro e w3 ⟨rfl, hb3⟩
  obtain ⟨z1, r0, r1, r2, r3⟩ := blk2 (K2.out.ext hb3)
  go_wp2_with fail
  refine bodyPost_ret (v := .tuple #[.agg #[.int .i64 (shLo s dh fh), .int .i64 (shHi s dl fl)], .int .i64 0]) (by simp [results, Try.results20, go_sem, *]) rfl ⟨rfl, ?_⟩
  exact set2B (hB2.trans (hb3.mono hB2.size)) (by omega) _ _
end Go.Proofs.Ytlhekifmkkgjlaa
