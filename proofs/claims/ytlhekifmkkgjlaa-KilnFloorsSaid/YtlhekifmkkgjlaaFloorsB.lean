/- Contracts of chapter 8 on moulds: Shrunk, Moulds and the reference. -/
import Derived.Test.YtlhekifmkkgjlaaFloorsA
import Derived.Deep.OwnRows
import Derived.RegionCalls
import Derived.RangeFuncNested
import Derived.RangeFuncBound
import Derived.RangeFuncCalls
import Derived.RangeFuncLeaves
import Derived.Shelf.Abstract
import Derived.Shelf.RegionOpen
import Derived.OwnWalkIn
import Derived.TacticsInMore
import Derived.LoopNIn
import Derived.LoopIn
import Derived.Laws.CopyOwn
import Derived.Deep.RegionLaw
set_option linter.unusedSimpArgs false
set_option linter.unusedVariables false
set_option linter.unnecessarySimpa false
namespace Go.Proofs.Ytlhekifmkkgjlaa
open Go Go.RowKit
set_option maxHeartbeats 400000
theorem refClay_any (dl dh fl fh : Int) (w : World) : Calls Try.prog 22 #[.agg #[.int .i64 dl, .int .i64 dh, .int .i64 fl, .int .i64 fh]] w fun e w' => e = .returned (.bool (clB dl dh fl fh)) ∧ Below w.heap.size w w' := by
  have hd : dl < 0 ∨ (0 ≤ dl ∧ dh < dl) ∨ (0 ≤ dl ∧ dl ≤ dh ∧ 9999 < dh) ∨ (0 ≤ dl ∧ dl ≤ dh ∧ dh ≤ 9999 ∧ fl < 0) ∨ (0 ≤ dl ∧ dl ≤ dh ∧ dh ≤ 9999 ∧ 0 ≤ fl ∧ fh < fl) ∨ (0 ≤ dl ∧ dl ≤ dh ∧ dh ≤ 9999 ∧ 0 ≤ fl ∧ fl ≤ fh ∧ 9999 < fh) ∨ (0 ≤ dl ∧ dl ≤ dh ∧ dh ≤ 9999 ∧ 0 ≤ fl ∧ fl ≤ fh ∧ fh ≤ 9999) := by omega
  rcases hd with h | ⟨h1, h⟩ | ⟨h1, h2, h⟩ | ⟨h1, h2, h3, h⟩ | ⟨h1, h2, h3, h4, h⟩ | ⟨h1, h2, h3, h4, h5, h⟩ | ⟨h1, h2, h3, h4, h5, h⟩
  all_goals
    go_enter Try.func22, Try.ntmps22
    go_wp2_with fail
    go_ret
    refine ⟨ret_bool ?_, (Below.refl _ _).alloc (Nat.le_refl _) _⟩
    rw [Bool.eq_iff_iff, clB_iff]
    simp
    try omega
theorem refShrunk_any (s dl dh fl fh : Int) (w : World) (h1 : 0 ≤ s) (h2 : s ≤ 2000000) (hcl : clB dl dh fl fh = true) :
    Calls Try.prog 23 #[.int .i64 s, .agg #[.int .i64 dl, .int .i64 dh, .int .i64 fl, .int .i64 fh]] w fun e w' => e = .returned (.agg #[.int .i64 (shLo s dh fh), .int .i64 (shHi s dl fl)]) ∧ Below w.heap.size w w' := by
  obtain ⟨⟨c1, c2, c3⟩, c4, c5, c6⟩ := (clB_iff _ _ _ _).1 hcl
  clear hcl
  obtain ⟨⟨m1, m2⟩, k1, k2⟩ := keep_bd h1 h2 (d := dh) (f := fh) (by omega) (by omega) (by omega) (by omega)
  obtain ⟨⟨m3, m4⟩, k3, k4⟩ := keep_bd h1 h2 (d := dl) (f := fl) (by omega) (by omega) (by omega) (by omega)
  unfold keep at k1 k2 k3 k4
  go_enter Try.func23, Try.ntmps23
  go_wp2_with fail
  refine bodyPost_ret (v := .agg #[.int .i64 (shLo s dh fh), .int .i64 (shHi s dl fl)]) (by simp [results, Try.results23, go_sem, shLo, shHi, keep]) rfl ⟨rfl, ?_⟩
  exact ((Below.refl _ _).alloc (Nat.le_refl _) _).alloc (by simp) _
theorem Shrunk_err1 (s dl dh fl fh : Int) (w : World) (hcl : clB dl dh fl fh = false) :
    Calls Try.prog 20 #[.int .i64 s, .agg #[.int .i64 dl, .int .i64 dh, .int .i64 fl, .int .i64 fh]] w fun e w' => e = .returned (.tuple #[.agg #[.int .i64 0, .int .i64 0], .int .i64 2]) ∧ Below w.heap.size w w' := by
  have HC := hide (fun W => isClay_any dl dh fl fh W)
  rw [hcl] at HC
  clear hcl
  have b0 := ((Below.refl _ w).alloc (Nat.le_refl _) (.cells #[.int .i64 dl, .int .i64 dh, .int .i64 fl, .int .i64 fh] 40)).alloc (by simp) (.cells #[.int .i64 0, .int .i64 0] 25)
  have k0 := Blk.new (w.alloc (.cells #[.int .i64 dl, .int .i64 dh, .int .i64 fl, .int .i64 fh] 40)) 25 #[.int .i64 0, .int .i64 0]
  rw [World.size_alloc] at k0
  have B0 := hide b0
  have K0 := hide k0
  clear b0 k0
  go_enter Try.func20, Try.ntmps20
  go_wp2_with fail
  refine (HC.out _).mono ?_
  rintro e w1 ⟨rfl, hb1⟩
  have hB := B0.out.trans (hb1.mono (by simp only [World.size_alloc]; omega))
  obtain ⟨z1, r0, r1, r2, r3⟩ := blk2 (K0.out.ext hb1)
  go_wp2_with fail
  refine bodyPost_ret (v := .tuple #[.agg #[.int .i64 0, .int .i64 0], .int .i64 2]) (by simp [results, Try.results20, go_sem, *]) rfl ⟨rfl, ?_⟩
  exact set2B hB (by omega) _ _
theorem Shrunk_err2 (s dl dh fl fh : Int) (w : World) (hcl : clB dl dh fl fh = true) (hs : ¬ (1 ≤ s ∧ s ≤ 1000000)) :
    Calls Try.prog 20 #[.int .i64 s, .agg #[.int .i64 dl, .int .i64 dh, .int .i64 fl, .int .i64 fh]] w fun e w' => e = .returned (.tuple #[.agg #[.int .i64 0, .int .i64 0], .int .i64 3]) ∧ Below w.heap.size w w' := by
  have HC := hide (fun W => isClay_any dl dh fl fh W)
  rw [hcl] at HC
  clear hcl
  have HS := hide (decide_eq_false hs)
  clear hs
  have b0 := ((Below.refl _ w).alloc (Nat.le_refl _) (.cells #[.int .i64 dl, .int .i64 dh, .int .i64 fl, .int .i64 fh] 40)).alloc (by simp) (.cells #[.int .i64 0, .int .i64 0] 25)
  have k0 := Blk.new (w.alloc (.cells #[.int .i64 dl, .int .i64 dh, .int .i64 fl, .int .i64 fh] 40)) 25 #[.int .i64 0, .int .i64 0]
  rw [World.size_alloc] at k0
  have B0 := hide b0
  have K0 := hide k0
  clear b0 k0
  go_enter Try.func20, Try.ntmps20
  go_wp2_with fail
  refine (HC.out _).mono ?_
  rintro e w1 ⟨rfl, hb1⟩
  have hB := B0.out.trans (hb1.mono (by simp only [World.size_alloc]; omega))
  have K1 := hide (K0.out.ext hb1)
  go_wp2_with fail
  refine (within_any 1 1000000 _ 1 1 (fun _ => s) _ (by decide) ?_).mono ?_
  · simpa using IR.one w1 s 3
  rw [wiB_one, HS.out]
  rintro e w2 ⟨rfl, hb2⟩
  have hB2 := (hB.alloc hB.size _).trans (hb2.mono (by have := hB.size; simp only [World.size_alloc]; omega))
  obtain ⟨z1, r0, r1, r2, r3⟩ := blk2 ((K1.out.alloc _).ext hb2)
  go_wp2_with fail
  refine bodyPost_ret (v := .tuple #[.agg #[.int .i64 0, .int .i64 0], .int .i64 3]) (by simp [results, Try.results20, go_sem, *]) rfl ⟨rfl, ?_⟩
  exact set2B hB2 (by omega) _ _
theorem Shrunk_ok (s dl dh fl fh : Int) (w : World) (hcl : clB dl dh fl fh = true) (h1 : 1 ≤ s) (h2 : s ≤ 1000000) :
    Calls Try.prog 20 #[.int .i64 s, .agg #[.int .i64 dl, .int .i64 dh, .int .i64 fl, .int .i64 fh]] w fun e w' => e = .returned (.tuple #[.agg #[.int .i64 (shLo s dh fh), .int .i64 (shHi s dl fl)], .int .i64 0]) ∧ Below w.heap.size w w' := by
  have HC := hide (fun W => isClay_any dl dh fl fh W)
  have HD := hide (fun W => shrunk_any s dl dh fl fh W (by omega) (by omega) hcl)
  rw [hcl] at HC
  clear hcl
  have HS := hide (decide_eq_true (And.intro h1 h2))
  have b0 := ((Below.refl _ w).alloc (Nat.le_refl _) (.cells #[.int .i64 dl, .int .i64 dh, .int .i64 fl, .int .i64 fh] 40)).alloc (by simp) (.cells #[.int .i64 0, .int .i64 0] 25)
  have k0 := Blk.new (w.alloc (.cells #[.int .i64 dl, .int .i64 dh, .int .i64 fl, .int .i64 fh] 40)) 25 #[.int .i64 0, .int .i64 0]
  have c0 := (Blk.new w 40 #[.int .i64 dl, .int .i64 dh, .int .i64 fl, .int .i64 fh]).alloc (.cells #[.int .i64 0, .int .i64 0] 25)
  rw [World.size_alloc] at k0
  have B0 := hide b0
  have K0 := hide k0
  have C0 := hide c0
  clear b0 k0 c0
  go_enter Try.func20, Try.ntmps20
  go_wp2_with fail
  refine (HC.out _).mono ?_
  rintro e w1 ⟨rfl, hb1⟩
  have hB := B0.out.trans (hb1.mono (by simp only [World.size_alloc]; omega))
  have K1 := hide (K0.out.ext hb1)
  have C1 := hide (C0.out.ext hb1)
  go_wp2_with fail
  refine (within_any 1 1000000 _ 1 1 (fun _ => s) _ (by decide) ?_).mono ?_
  · simpa using IR.one w1 s 3
  rw [wiB_one, HS.out]
  rintro e w2 ⟨rfl, hb2⟩
  have hB2 := (hB.alloc hB.size _).trans (hb2.mono (by have := hB.size; simp only [World.size_alloc]; omega))
  have K2 := hide ((K1.out.alloc _).ext hb2)
  obtain ⟨z2, s0, s1, s2, s3⟩ := blk4 ((C1.out.alloc _).ext hb2)
  go_wp2_with fail
  refine (HD.out _).mono ?_
  rintro e w3 ⟨rfl, hb3⟩
  obtain ⟨z1, r0, r1, r2, r3⟩ := blk2 (K2.out.ext hb3)
  go_wp2_with fail
  refine bodyPost_ret (v := .tuple #[.agg #[.int .i64 (shLo s dh fh), .int .i64 (shHi s dl fl)], .int .i64 0]) (by simp [results, Try.results20, go_sem, *]) rfl ⟨rfl, ?_⟩
  exact set2B (hB2.trans (hb3.mono hB2.size)) (by omega) _ _
end Go.Proofs.Ytlhekifmkkgjlaa
/- Contracts of chapter 8: Moulds and the reference's Moulds. -/
namespace Go.Proofs.Ytlhekifmkkgjlaa
open Go Go.RowKit
set_option maxHeartbeats 400000

theorem Moulds_err1 (wl wh dl dh fl fh : Int) (w : World) (hcl : clB dl dh fl fh = false) :
    Calls Try.prog 21 #[.agg #[.int .i64 wl, .int .i64 wh], .agg #[.int .i64 dl, .int .i64 dh, .int .i64 fl, .int .i64 fh]] w fun e w' => e = .returned (.tuple #[.agg #[.int .i64 0, .int .i64 0], .int .i64 2]) ∧ Below w.heap.size w w' := by
  have HC := hide (fun W => isClay_any dl dh fl fh W)
  rw [hcl] at HC
  clear hcl
  have b0 : Below w.heap.size w (((w.alloc (.cells #[.int .i64 wl, .int .i64 wh] 25)).alloc (.cells #[.int .i64 dl, .int .i64 dh, .int .i64 fl, .int .i64 fh] 40)).alloc (.cells #[.int .i64 0, .int .i64 0] 25)) := (((Below.refl _ w).alloc (Nat.le_refl _) _).alloc (by simp) _).alloc (by simp only [World.size_alloc]; omega) _
  have k0 := Blk.new ((w.alloc (.cells #[.int .i64 wl, .int .i64 wh] 25)).alloc (.cells #[.int .i64 dl, .int .i64 dh, .int .i64 fl, .int .i64 fh] 40)) 25 #[.int .i64 0, .int .i64 0]
  have s0 := ((Blk.new w 25 #[.int .i64 wl, .int .i64 wh]).alloc (.cells #[.int .i64 dl, .int .i64 dh, .int .i64 fl, .int .i64 fh] 40)).alloc (.cells #[.int .i64 0, .int .i64 0] 25)
  have c0 := (Blk.new (w.alloc (.cells #[.int .i64 wl, .int .i64 wh] 25)) 40 #[.int .i64 dl, .int .i64 dh, .int .i64 fl, .int .i64 fh]).alloc (.cells #[.int .i64 0, .int .i64 0] 25)
  simp only [World.size_alloc] at k0 c0 s0
  have B0 := hide b0
  have K0 := hide k0
  have C0 := hide c0
  have S0 := hide s0
  clear b0 k0 c0 s0
  go_enter Try.func21, Try.ntmps21
  go_wp2_with fail
  refine (HC.out _).mono ?_
  rintro e w1 ⟨rfl, hb1⟩
  have hB := B0.out.trans (hb1.mono (by simp only [World.size_alloc]; omega))
  obtain ⟨z1, r0, r1, r2, r3⟩ := blk2 (K0.out.ext hb1)
  go_wp2_with fail
  refine bodyPost_ret (v := .tuple #[.agg #[.int .i64 0, .int .i64 0], .int .i64 2]) (by simp [results, Try.results21, go_sem, *]) rfl ⟨rfl, ?_⟩
  exact set2B hB (by omega) _ _
theorem Moulds_err2 (wl wh dl dh fl fh : Int) (w : World) (hcl : clB dl dh fl fh = true) (hs : spB wl wh 0 1000000 = false) :
    Calls Try.prog 21 #[.agg #[.int .i64 wl, .int .i64 wh], .agg #[.int .i64 dl, .int .i64 dh, .int .i64 fl, .int .i64 fh]] w fun e w' => e = .returned (.tuple #[.agg #[.int .i64 0, .int .i64 0], .int .i64 3]) ∧ Below w.heap.size w w' := by
  have HC := hide (fun W => isClay_any dl dh fl fh W)
  have HS := hide (fun W => isSpread_any wl wh 0 1000000 W)
  rw [hcl] at HC
  rw [hs] at HS
  clear hcl hs
  have b0 : Below w.heap.size w (((w.alloc (.cells #[.int .i64 wl, .int .i64 wh] 25)).alloc (.cells #[.int .i64 dl, .int .i64 dh, .int .i64 fl, .int .i64 fh] 40)).alloc (.cells #[.int .i64 0, .int .i64 0] 25)) := (((Below.refl _ w).alloc (Nat.le_refl _) _).alloc (by simp) _).alloc (by simp only [World.size_alloc]; omega) _
  have k0 := Blk.new ((w.alloc (.cells #[.int .i64 wl, .int .i64 wh] 25)).alloc (.cells #[.int .i64 dl, .int .i64 dh, .int .i64 fl, .int .i64 fh] 40)) 25 #[.int .i64 0, .int .i64 0]
  have s0 := ((Blk.new w 25 #[.int .i64 wl, .int .i64 wh]).alloc (.cells #[.int .i64 dl, .int .i64 dh, .int .i64 fl, .int .i64 fh] 40)).alloc (.cells #[.int .i64 0, .int .i64 0] 25)
  have c0 := (Blk.new (w.alloc (.cells #[.int .i64 wl, .int .i64 wh] 25)) 40 #[.int .i64 dl, .int .i64 dh, .int .i64 fl, .int .i64 fh]).alloc (.cells #[.int .i64 0, .int .i64 0] 25)
  simp only [World.size_alloc] at k0 c0 s0
  have B0 := hide b0
  have K0 := hide k0
  have C0 := hide c0
  have S0 := hide s0
  clear b0 k0 c0 s0
  go_enter Try.func21, Try.ntmps21
  go_wp2_with fail
  refine (HC.out _).mono ?_
  rintro e w1 ⟨rfl, hb1⟩
  have hB := B0.out.trans (hb1.mono (by simp only [World.size_alloc]; omega))
  obtain ⟨y1, y2, y3, _, _⟩ := blk2 (S0.out.ext hb1)
  have K1 := hide (K0.out.ext hb1)
  go_wp2_with fail
  refine (HS.out _).mono ?_
  rintro e w2 ⟨rfl, hb2⟩
  have hB2 := hB.trans (hb2.mono hB.size)
  obtain ⟨z1, r0, r1, r2, r3⟩ := blk2 (K1.out.ext hb2)
  go_wp2_with fail
  refine bodyPost_ret (v := .tuple #[.agg #[.int .i64 0, .int .i64 0], .int .i64 3]) (by simp [results, Try.results21, go_sem, *]) rfl ⟨rfl, ?_⟩
  exact set2B hB2 (by omega) _ _
def mLo (wl dh fh : Int) (i : Nat) : Bool := decide (wl ≤ shLo ((i : Int) + 1) dh fh)
def mHi (wh dl fl : Int) (i : Nat) : Bool := decide (wh < shHi ((i : Int) + 1) dl fl)
def MouldsPost (wl wh dl dh fl fh : Int) (w : World) (e : Ending) (w' : World) : Prop :=
  ∃ a b : Nat, Least (mLo wl dh fh) 1000000 a ∧ Least (mHi wh dl fl) 1000000 b ∧ e = .returned (if a + 1 ≤ b then .tuple #[.agg #[.int .i64 ((a : Int) + 1), .int .i64 b], .int .i64 0] else .tuple #[.agg #[.int .i64 0, .int .i64 0], .int .i64 7]) ∧ Below w.heap.size w w'
theorem Moulds_ok (wl wh dl dh fl fh : Int) (w : World) (hcl : clB dl dh fl fh = true) (hs : spB wl wh 0 1000000 = true) :
    Calls Try.prog 21 #[.agg #[.int .i64 wl, .int .i64 wh], .agg #[.int .i64 dl, .int .i64 dh, .int .i64 fl, .int .i64 fh]] w (MouldsPost wl wh dl dh fl fh w) := by
  have HC := hide (fun W => isClay_any dl dh fl fh W)
  have HS := hide (fun W => isSpread_any wl wh 0 1000000 W)
  have H1 := hide (fun W i p q (h2 : i ≤ 1000000) c => moulds1_any i dl dh fl fh wl wh p q W h2 hcl c)
  have H2 := hide (fun W i p q (h2 : i ≤ 1000000) c => moulds2_any i dl dh fl fh wl wh p q W h2 hcl c)
  have HL := hide ((clB_iff _ _ _ _).1 hcl)
  rw [hcl] at HC
  rw [hs] at HS
  clear hcl hs
  have b0 : Below w.heap.size w (((w.alloc (.cells #[.int .i64 wl, .int .i64 wh] 25)).alloc (.cells #[.int .i64 dl, .int .i64 dh, .int .i64 fl, .int .i64 fh] 40)).alloc (.cells #[.int .i64 0, .int .i64 0] 25)) := (((Below.refl _ w).alloc (Nat.le_refl _) _).alloc (by simp) _).alloc (by simp only [World.size_alloc]; omega) _
  have k0 := Blk.new ((w.alloc (.cells #[.int .i64 wl, .int .i64 wh] 25)).alloc (.cells #[.int .i64 dl, .int .i64 dh, .int .i64 fl, .int .i64 fh] 40)) 25 #[.int .i64 0, .int .i64 0]
  have s0 := ((Blk.new w 25 #[.int .i64 wl, .int .i64 wh]).alloc (.cells #[.int .i64 dl, .int .i64 dh, .int .i64 fl, .int .i64 fh] 40)).alloc (.cells #[.int .i64 0, .int .i64 0] 25)
  have c0 := (Blk.new (w.alloc (.cells #[.int .i64 wl, .int .i64 wh] 25)) 40 #[.int .i64 dl, .int .i64 dh, .int .i64 fl, .int .i64 fh]).alloc (.cells #[.int .i64 0, .int .i64 0] 25)
  simp only [World.size_alloc] at k0 c0 s0
  have B0 := hide b0
  have K0 := hide k0
  have C0 := hide c0
  have S0 := hide s0
  clear b0 k0 c0 s0
  go_enter Try.func21, Try.ntmps21
  go_wp2_with fail
  refine (HC.out _).mono ?_
  rintro e w1 ⟨rfl, hb1⟩
  have hB := B0.out.trans (hb1.mono (by simp only [World.size_alloc]; omega))
  have S1 := hide (S0.out.ext hb1)
  have C1 := hide (C0.out.ext hb1)
  have K1 := hide (K0.out.ext hb1)
  obtain ⟨y1, y2, y3, _, _⟩ := blk2 S1.out
  go_wp2_with fail
  refine (HS.out _).mono ?_
  rintro e w2 ⟨rfl, hb2⟩
  have hB2 := hB.trans (hb2.mono hB.size)
  have S2 := hide (S1.out.ext hb2)
  have C2 := hide (C1.out.ext hb2)
  have K2 := hide (K1.out.ext hb2)
  clear y1 y2 y3
  go_wp2_with fail
  refine (search_any 64 #[.pointer (some ⟨w.heap.size + 1, 0, none⟩), .pointer (some ⟨w.heap.size, 0, none⟩)] (mLo wl dh fh) 1000000 _ (by omega) ?_ (enters_of Try.func64 (by kernel_rfl) rfl) ?_).mono ?_
  · intro i j hij _ h
    have := shLo_mono (s := (i : Int) + 1) (t := (j : Int) + 1) (d := dh) (f := fh) (by omega) (by have := HL.out; omega) (by have := HL.out; omega)
    simp only [mLo, decide_eq_true_eq] at *
    omega
  · intro W k hk hB
    obtain ⟨g1, g2, g3, _, _⟩ := blk2 (S2.out.ext hB)
    obtain ⟨g4, g5, g6, g7, g8⟩ := blk4 (C2.out.ext hB)
    exact H1.out W k _ _ (by omega) g5 g6 g7 g8 g2 g3 g4 g1
  rintro e w3 ⟨a, rfl, hL1, hb3⟩
  have HL1 := hide hL1
  have ha := hL1.1
  clear hL1
  have hB3 := hB2.trans (hb3.mono hB2.size)
  have S3 := hide (S2.out.ext hb3)
  have C3 := hide (C2.out.ext hb3)
  have K3 := hide (K2.out.ext hb3)
  go_wp2_with fail
  refine (search_any 65 #[.pointer (some ⟨w.heap.size + 1, 0, none⟩), .pointer (some ⟨w.heap.size, 0, none⟩)] (mHi wh dl fl) 1000000 _ (by omega) ?_ (enters_of Try.func65 (by kernel_rfl) rfl) ?_).mono ?_
  · intro i j hij _ h
    have := shHi_mono (s := (i : Int) + 1) (t := (j : Int) + 1) (d := dl) (f := fl) (by omega) (by have := HL.out; omega) (by have := HL.out; omega)
    simp only [mHi, decide_eq_true_eq] at *
    omega
  · intro W k hk hB
    obtain ⟨g1, g2, g3, _, _⟩ := blk2 (S3.out.ext hB)
    obtain ⟨g4, g5, g6, g7, g8⟩ := blk4 (C3.out.ext hB)
    exact H2.out W k _ _ (by omega) g5 g6 g7 g8 g2 g3 g4 g1
  rintro e w4 ⟨b, rfl, hL2, hb4⟩
  have HL2 := hide hL2
  have hbb := hL2.1
  clear hL2
  have hB4 := hB3.trans (hb4.mono hB3.size)
  obtain ⟨z1, r0, r1, r2, r3⟩ := blk2 (K3.out.ext hb4)
  by_cases hab : a + 1 ≤ b
  · have hab' : ¬ ((b : Int) < 1 + (a : Int)) := by omega
    go_wp2_with fail
    refine bodyPost_ret (v := .tuple #[.agg #[.int .i64 ((a : Int) + 1), .int .i64 b], .int .i64 0]) (by simp [results, Try.results21, go_sem, *]; omega) rfl ⟨a, b, HL1.out, HL2.out, by rw [if_pos hab], ?_⟩
    exact set2B hB4 (by omega) _ _
  · go_wp2_with fail
    refine bodyPost_ret (v := .tuple #[.agg #[.int .i64 0, .int .i64 0], .int .i64 7]) (by simp [results, Try.results21, go_sem, *]) rfl ⟨a, b, HL1.out, HL2.out, by rw [if_neg hab], ?_⟩
    exact set2B hB4 (by omega) _ _
def RefMouldsPost (wl wh dl dh fl fh : Int) (w : World) (e : Ending) (w' : World) : Prop :=
  ∃ a b : Nat, Least (mLo wl dh fh) 1000000 a ∧ Least (mHi wh dl fl) 1000000 b ∧ e = .returned (.tuple #[.agg #[.int .i64 ((a : Int) + 1), .int .i64 b], .bool (decide (a + 1 ≤ b))]) ∧ Below w.heap.size w w'
theorem refMoulds_ok (wl wh dl dh fl fh : Int) (w : World) (hcl : clB dl dh fl fh = true) :
    Calls Try.prog 24 #[.agg #[.int .i64 wl, .int .i64 wh], .agg #[.int .i64 dl, .int .i64 dh, .int .i64 fl, .int .i64 fh]] w (RefMouldsPost wl wh dl dh fl fh w) := by
  have HC := hide (fun W (s : Nat) (h : s ≤ 2000000) => refShrunk_any s dl dh fl fh W (by omega) (by omega) hcl)
  have HL := hide ((clB_iff _ _ _ _).1 hcl)
  clear hcl
  have b0 : Below w.heap.size w (((w.alloc (.cells #[.int .i64 wl, .int .i64 wh] 25)).alloc (.cells #[.int .i64 dl, .int .i64 dh, .int .i64 fl, .int .i64 fh] 40)).alloc (.cells #[.int .i64 0, .int .i64 0] 25)) := (((Below.refl _ w).alloc (Nat.le_refl _) _).alloc (by simp) _).alloc (by simp only [World.size_alloc]; omega) _
  have k0 := Blk.new ((w.alloc (.cells #[.int .i64 wl, .int .i64 wh] 25)).alloc (.cells #[.int .i64 dl, .int .i64 dh, .int .i64 fl, .int .i64 fh] 40)) 25 #[.int .i64 0, .int .i64 0]
  have s0 := ((Blk.new w 25 #[.int .i64 wl, .int .i64 wh]).alloc (.cells #[.int .i64 dl, .int .i64 dh, .int .i64 fl, .int .i64 fh] 40)).alloc (.cells #[.int .i64 0, .int .i64 0] 25)
  have c0 := (Blk.new (w.alloc (.cells #[.int .i64 wl, .int .i64 wh] 25)) 40 #[.int .i64 dl, .int .i64 dh, .int .i64 fl, .int .i64 fh]).alloc (.cells #[.int .i64 0, .int .i64 0] 25)
  simp only [World.size_alloc] at k0 c0 s0
  have B0 := hide b0
  have K0 := hide k0
  have C0 := hide c0
  have S0 := hide s0
  clear b0 k0 c0 s0
  go_enter Try.func24, Try.ntmps24
  go_wp2_with fail
  go_loopw [6, 7] (fun i j wr => ∃ a b : Nat, i = .int .i64 ((a : Int) + 1) ∧ j = .int .i64 ((b : Int) + 1) ∧ a ≤ b ∧ b ≤ 1000000 ∧ Hid ((∀ i : Nat, i < a → mLo wl dh fh i = false) ∧ (b < 1000000 → mLo wl dh fh b = true)) ∧ Hid (Blk wr w.heap.size 25 #[.int .i64 wl, .int .i64 wh]) ∧ Hid (Blk wr (w.heap.size + 1) 40 #[.int .i64 dl, .int .i64 dh, .int .i64 fl, .int .i64 fh]) ∧ Hid (Blk wr (w.heap.size + 1 + 1) 25 #[.int .i64 0, .int .i64 0]) ∧ Below w.heap.size w wr) (fun i j _ => (intOf j).toNat - (intOf i).toNat)
  case atStart => exact ⟨0, 1000000, rfl, rfl, by omega, by omega, hide ⟨fun i hi => absurd hi (by omega), fun h => absurd h (by omega)⟩, S0, C0, K0, B0.out⟩
  case round =>
    obtain ⟨a, b, rfl, rfl, hab, hbn, H, S1, C1, K1, hB⟩ := hrel
    obtain ⟨g1, g2, g3, _, _⟩ := blk2 S1.out
    obtain ⟨g4, g5, g6, g7, g8⟩ := blk4 C1.out
    by_cases hlt : a < b
    · obtain ⟨h, hh⟩ : ∃ h : Nat, h = (a + b) / 2 := ⟨_, rfl⟩
      have e1 : ((a : Int) + 1 + ((b : Int) + 1)) / 2 = (h : Int) + 1 := by omega
      have l1 : a ≤ h := by omega
      have l2 : h < b := by omega
      clear hh
      have E1 := hide e1
      clear e1
      go_wp2_with fail
      simp only [E1.out]
      cases hm : mLo wl dh fh h
      · have HM := hide hm
        have hd : decide (wl ≤ shLo ((h : Int) + 1) dh fh) = false := hm
        clear hm
        go_region_held3 (fun W => W.cell? ⟨w.heap.size + 1, 0, none⟩ = some (.int .i64 dl) ∧ W.cell? ⟨w.heap.size + 1, 1, none⟩ = some (.int .i64 dh) ∧ W.cell? ⟨w.heap.size + 1, 2, none⟩ = some (.int .i64 fl) ∧ W.cell? ⟨w.heap.size + 1, 3, none⟩ = some (.int .i64 fh) ∧ W.cell? ⟨w.heap.size, 0, none⟩ = some (.int .i64 wl)) (first | go_keep | exact ⟨(hb1.cell (p := ⟨w.heap.size + 1, 0, none⟩) g4).trans g5, (hb1.cell (p := ⟨w.heap.size + 1, 1, none⟩) g4).trans g6, (hb1.cell (p := ⟨w.heap.size + 1, 2, none⟩) g4).trans g7, (hb1.cell (p := ⟨w.heap.size + 1, 3, none⟩) g4).trans g8, (hb1.cell (p := ⟨w.heap.size, 0, none⟩) g1).trans g2⟩) ((go_at_call 23; refine (HC.out _ (h + 1) (by omega)).mono ?_; rintro e w1 ⟨rfl, hb1⟩))
        go_wp2_with fail
        go_roundw
        case rel =>
          refine ⟨h + 1, b, by go_num, rfl, by omega, by omega, hide ⟨fun i hi => ?_, H.out.2⟩, hide (S1.out.drew.ext hb1), hide (C1.out.drew.ext hb1), hide (K1.out.drew.ext hb1), hB.drew.trans (hb1.mono hB.size)⟩
          rcases hpi : mLo wl dh fh i with _ | _
          · rfl
          · have := shLo_mono (s := (i : Int) + 1) (t := (h : Int) + 1) (d := dh) (f := fh) (by omega) (by have := HL.out; omega) (by have := HL.out; omega)
            have h7 := HM.out
            simp only [mLo, decide_eq_true_eq, decide_eq_false_iff_not] at hpi h7
            omega
        case measure => simp [intOf]; omega
      · have HM := hide hm
        have hd : decide (wl ≤ shLo ((h : Int) + 1) dh fh) = true := hm
        clear hm
        go_region_held3 (fun W => W.cell? ⟨w.heap.size + 1, 0, none⟩ = some (.int .i64 dl) ∧ W.cell? ⟨w.heap.size + 1, 1, none⟩ = some (.int .i64 dh) ∧ W.cell? ⟨w.heap.size + 1, 2, none⟩ = some (.int .i64 fl) ∧ W.cell? ⟨w.heap.size + 1, 3, none⟩ = some (.int .i64 fh) ∧ W.cell? ⟨w.heap.size, 0, none⟩ = some (.int .i64 wl)) (first | go_keep | exact ⟨(hb1.cell (p := ⟨w.heap.size + 1, 0, none⟩) g4).trans g5, (hb1.cell (p := ⟨w.heap.size + 1, 1, none⟩) g4).trans g6, (hb1.cell (p := ⟨w.heap.size + 1, 2, none⟩) g4).trans g7, (hb1.cell (p := ⟨w.heap.size + 1, 3, none⟩) g4).trans g8, (hb1.cell (p := ⟨w.heap.size, 0, none⟩) g1).trans g2⟩) ((go_at_call 23; refine (HC.out _ (h + 1) (by omega)).mono ?_; rintro e w1 ⟨rfl, hb1⟩))
        go_wp2_with fail
        go_roundw
        case rel => exact ⟨a, h, rfl, by go_num, by omega, by omega, hide ⟨H.out.1, fun _ => HM.out⟩, hide (S1.out.drew.ext hb1), hide (C1.out.drew.ext hb1), hide (K1.out.drew.ext hb1), hB.drew.trans (hb1.mono hB.size)⟩
        case measure => simp [intOf]; omega
    · obtain rfl : a = b := by omega
      have HA : Hid (Least (mLo wl dh fh) 1000000 a) := hide ⟨by omega, H.out.1, H.out.2⟩
      clear H
      go_wp2_with fail
      obtain ⟨wo, rfl⟩ : ∃ wo : World, wo = wr := ⟨_, rfl⟩
      have S9 := hide S1.out
      clear S1 g1 g2 g3 g4 g5 g6 g7 g8
      go_loopw [6, 7] (fun i j wr => ∃ c b : Nat, i = .int .i64 c ∧ j = .int .i64 b ∧ c ≤ b ∧ b ≤ 1000000 ∧ Hid ((∀ i : Nat, i < c → mHi wh dl fl i = false) ∧ (b < 1000000 → mHi wh dl fl b = true)) ∧ Hid (Blk wr w.heap.size 25 #[.int .i64 wl, .int .i64 wh]) ∧ Hid (Blk wr (w.heap.size + 1) 40 #[.int .i64 dl, .int .i64 dh, .int .i64 fl, .int .i64 fh]) ∧ Hid (Blk wr (w.heap.size + 1 + 1) 25 #[.int .i64 0, .int .i64 0]) ∧ Below w.heap.size w wr) (fun i j _ => (intOf j).toNat - (intOf i).toNat)
      case atStart => exact ⟨0, 1000000, rfl, rfl, by omega, by omega, hide ⟨fun i hi => absurd hi (by omega), fun h => absurd h (by omega)⟩, S9, C1, K1, hB⟩
      case round =>
        clear hB C1 K1 S9
        obtain ⟨c, b, rfl, rfl, hcb, hbn2, H, S1, C1, K1, hB⟩ := hrel
        obtain ⟨g1, g2, g3, _, _⟩ := blk2 S1.out
        obtain ⟨g4, g5, g6, g7, g8⟩ := blk4 C1.out
        by_cases hlt2 : c < b
        · obtain ⟨h, hh⟩ : ∃ h : Nat, h = (c + b - 1) / 2 := ⟨_, rfl⟩
          have e1 : ((c : Int) + (b : Int) + 1) / 2 = (h : Int) + 1 := by omega
          have l1 : c ≤ h := by omega
          have l2 : h < b := by omega
          clear hh
          have E1 := hide e1
          clear e1
          go_wp2_with fail
          simp only [E1.out]
          cases hm : mHi wh dl fl h
          · have HM := hide hm
            have hd : decide (shHi ((h : Int) + 1) dl fl ≤ wh) = true := by
              have h7 := hm
              simp only [mHi, decide_eq_false_iff_not] at h7
              simp only [decide_eq_true_eq]
              omega
            clear hm
            go_region_held3 (fun W => W.cell? ⟨w.heap.size + 1, 0, none⟩ = some (.int .i64 dl) ∧ W.cell? ⟨w.heap.size + 1, 1, none⟩ = some (.int .i64 dh) ∧ W.cell? ⟨w.heap.size + 1, 2, none⟩ = some (.int .i64 fl) ∧ W.cell? ⟨w.heap.size + 1, 3, none⟩ = some (.int .i64 fh) ∧ W.cell? ⟨w.heap.size, 1, none⟩ = some (.int .i64 wh)) (first | go_keep | exact ⟨(hb1.cell (p := ⟨w.heap.size + 1, 0, none⟩) g4).trans g5, (hb1.cell (p := ⟨w.heap.size + 1, 1, none⟩) g4).trans g6, (hb1.cell (p := ⟨w.heap.size + 1, 2, none⟩) g4).trans g7, (hb1.cell (p := ⟨w.heap.size + 1, 3, none⟩) g4).trans g8, (hb1.cell (p := ⟨w.heap.size, 1, none⟩) g1).trans g3⟩) ((go_at_call 23; refine (HC.out _ (h + 1) (by omega)).mono ?_; rintro e w1 ⟨rfl, hb1⟩))
            go_wp2_with fail
            go_roundw
            case rel =>
              refine ⟨h + 1, b, by go_num, rfl, by omega, by omega, hide ⟨fun i hi => ?_, H.out.2⟩, hide (S1.out.drew.ext hb1), hide (C1.out.drew.ext hb1), hide (K1.out.drew.ext hb1), hB.drew.trans (hb1.mono hB.size)⟩
              rcases hpi : mHi wh dl fl i with _ | _
              · rfl
              · have := shHi_mono (s := (i : Int) + 1) (t := (h : Int) + 1) (d := dl) (f := fl) (by omega) (by have := HL.out; omega) (by have := HL.out; omega)
                have h7 := HM.out
                simp only [mHi, decide_eq_true_eq, decide_eq_false_iff_not] at hpi h7
                omega
            case measure => simp [intOf]; omega
          · have HM := hide hm
            have hd : decide (shHi ((h : Int) + 1) dl fl ≤ wh) = false := by
              have h7 := hm
              simp only [mHi, decide_eq_true_eq] at h7
              simp only [decide_eq_false_iff_not]
              omega
            clear hm
            go_region_held3 (fun W => W.cell? ⟨w.heap.size + 1, 0, none⟩ = some (.int .i64 dl) ∧ W.cell? ⟨w.heap.size + 1, 1, none⟩ = some (.int .i64 dh) ∧ W.cell? ⟨w.heap.size + 1, 2, none⟩ = some (.int .i64 fl) ∧ W.cell? ⟨w.heap.size + 1, 3, none⟩ = some (.int .i64 fh) ∧ W.cell? ⟨w.heap.size, 1, none⟩ = some (.int .i64 wh)) (first | go_keep | exact ⟨(hb1.cell (p := ⟨w.heap.size + 1, 0, none⟩) g4).trans g5, (hb1.cell (p := ⟨w.heap.size + 1, 1, none⟩) g4).trans g6, (hb1.cell (p := ⟨w.heap.size + 1, 2, none⟩) g4).trans g7, (hb1.cell (p := ⟨w.heap.size + 1, 3, none⟩) g4).trans g8, (hb1.cell (p := ⟨w.heap.size, 1, none⟩) g1).trans g3⟩) ((go_at_call 23; refine (HC.out _ (h + 1) (by omega)).mono ?_; rintro e w1 ⟨rfl, hb1⟩))
            go_wp2_with fail
            go_roundw
            case rel => exact ⟨c, h, rfl, by go_num, by omega, by omega, hide ⟨H.out.1, fun _ => HM.out⟩, hide (S1.out.drew.ext hb1), hide (C1.out.drew.ext hb1), hide (K1.out.drew.ext hb1), hB.drew.trans (hb1.mono hB.size)⟩
            case measure => simp [intOf]; omega
        · obtain rfl : c = b := by omega
          have HB : Hid (Least (mHi wh dl fl) 1000000 c) := hide ⟨by omega, H.out.1, H.out.2⟩
          clear H
          obtain ⟨z1, r0, r1, r2, r3⟩ := blk2 K1.out
          go_wp2_with fail
          refine bodyPost_ret (v := .tuple #[.agg #[.int .i64 ((a : Int) + 1), .int .i64 c], .bool (decide (a + 1 ≤ c))]) (by simp [results, Try.results24, go_sem, *]; omega) rfl ⟨a, c, HA.out, HB.out, rfl, ?_⟩
          exact set2B hB (by omega) _ _
end Go.Proofs.Ytlhekifmkkgjlaa
/- Contracts of chapter 8 on the book: what happens to one kind. -/
namespace Go.Proofs.Ytlhekifmkkgjlaa
open Go Go.RowKit
set_option maxHeartbeats 400000
theorem move_lt (n a : Int) (S o p q : Nat) (w : World) (h : w.cell? ⟨S, o, none⟩ = some (.int .i64 a)) (hn : a < n) :
    Calls Try.prog 85 #[.int .i64 n, .pointer (some ⟨S, o, none⟩), .pointer (some ⟨p, q, none⟩)] w fun e w' => e = .returned (.int .i64 9) ∧ w = w' := by
  go_enter Try.func85, Try.ntmps85
  go_wp2_with fail
  go_ret
  exact ⟨rfl, rfl⟩
theorem move_ok (n a b : Int) (S o q : Nat) (w : World) (h : w.cell? ⟨S, o, none⟩ = some (.int .i64 a)) (h' : w.cell? ⟨S, q, none⟩ = some (.int .i64 b)) (hf : ∀ i, w.frozen? ⟨S, i, none⟩ = false) (hoq : o ≠ q)
    (hn : n ≤ a) (h0 : 0 ≤ n) (h1 : a ≤ 2000000000) (h2 : 0 ≤ b) (h3 : b ≤ 2000000000) :
    Calls Try.prog 85 #[.int .i64 n, .pointer (some ⟨S, o, none⟩), .pointer (some ⟨S, q, none⟩)] w fun e w' => e = .returned (.int .i64 0) ∧ Below w.heap.size ((w.setCell ⟨S, o, none⟩ (.int .i64 (a - n))).setCell ⟨S, q, none⟩ (.int .i64 (b + n))) w' := by
  have f1 := hf o
  have f2 := hf q
  clear hf
  have hqo : q ≠ o := Ne.symm hoq
  go_enter Try.func85, Try.ntmps85
  go_wp2_with fail
  go_region
  all_goals
    go_wp2_with fail
    go_ret
    exact ⟨rfl, (Below.refl _ _).drew⟩
theorem moulded_any (a b c d e f g : Int) (w : World) (h0 : 0 ≤ a) (h1 : 0 ≤ b) (h2 : 0 ≤ c) (h3 : 0 ≤ d) (h4 : 0 ≤ e) (h5 : 0 ≤ f) (hs : a + b + c + d + e + f ≤ 1000000000) :
    Calls Try.prog 83 #[.agg #[.int .i64 a, .int .i64 b, .int .i64 c, .int .i64 d, .int .i64 e, .int .i64 f, .int .i64 g]] w fun en w' => en = .returned (.int .i64 (a + b + c + d + e + f)) ∧ Below w.heap.size w w' := by
  go_enter Try.func83, Try.ntmps83
  go_wp2_with fail
  go_ret
  exact ⟨rfl, (Below.refl _ _).alloc (Nat.le_refl _) _⟩
/-- the seven cells of a kind at o -/
def Kind7 (w : World) (S o : Nat) (a b c d e f g : Int) : Prop :=
  S < w.heap.size ∧ (∀ i, w.frozen? ⟨S, i, none⟩ = false) ∧ w.cell? ⟨S, o, none⟩ = some (.int .i64 a) ∧ w.cell? ⟨S, o + 1, none⟩ = some (.int .i64 b) ∧ w.cell? ⟨S, o + 2, none⟩ = some (.int .i64 c) ∧
  w.cell? ⟨S, o + 3, none⟩ = some (.int .i64 d) ∧ w.cell? ⟨S, o + 4, none⟩ = some (.int .i64 e) ∧ w.cell? ⟨S, o + 5, none⟩ = some (.int .i64 f) ∧ w.cell? ⟨S, o + 6, none⟩ = some (.int .i64 g)
theorem Kind7.below {w w' : World} {B S o : Nat} {a b c d e f g : Int} (h : Kind7 w S o a b c d e f g) (hb : Below B w w') (hS : S < B) : Kind7 w' S o a b c d e f g := by
  obtain ⟨h0, hf, h1, h2, h3, h4, h5, h6, h7⟩ := h
  exact ⟨Nat.lt_of_lt_of_le h0 hb.size, fun i => (hb.frozen (p := ⟨S, i, none⟩) hS).trans (hf i), (hb.cell (p := ⟨S, o, none⟩) hS).trans h1, (hb.cell (p := ⟨S, o + 1, none⟩) hS).trans h2, (hb.cell (p := ⟨S, o + 2, none⟩) hS).trans h3, (hb.cell (p := ⟨S, o + 3, none⟩) hS).trans h4, (hb.cell (p := ⟨S, o + 4, none⟩) hS).trans h5, (hb.cell (p := ⟨S, o + 5, none⟩) hS).trans h6, (hb.cell (p := ⟨S, o + 6, none⟩) hS).trans h7⟩
/-- the numbers of a kind are not below 0, and all together at most MaxBricks -/
def Ok7 (a b c d e f g : Int) : Prop := 0 ≤ a ∧ 0 ≤ b ∧ 0 ≤ c ∧ 0 ≤ d ∧ 0 ≤ e ∧ 0 ≤ f ∧ 0 ≤ g ∧ a + b + c + d + e + f ≤ 1000000000 ∧ g ≤ f
theorem mould1_full (a b c d e f g n : Int) (S o q : Nat) (w : World) (hk : Kind7 w S o a b c d e f g) (ho : Ok7 a b c d e f g) (hq : w.cell? ⟨q, 0, none⟩ = some (.int .i64 n)) (hql : q < w.heap.size) (hn : 0 ≤ n) (hn2 : n ≤ 1000000000)
    (hfull : 1000000000 < a + b + c + d + e + f + n) :
    Calls Try.prog 82 #[.pointer (some ⟨S, o, none⟩), .pointer (some ⟨q, 0, none⟩)] w fun en w' => en = .returned (.int .i64 8) ∧ Below w.heap.size w w' := by
  obtain ⟨h0, hf, h1, h2, h3, h4, h5, h6, h7⟩ := hk
  obtain ⟨o1, o2, o3, o4, o5, o6, o7, o8, o9⟩ := ho
  have HF := hide hf
  clear hf
  have t0 : IntKind.i64.wrap (a + b + c + d + e + f + n) = a + b + c + d + e + f + n := IntWalk.i64_in _ (by omega)
  go_enter Try.func82, Try.ntmps82
  go_wp2_with fail
  go_region_held3 (fun W => W.cell? ⟨S, o, none⟩ = some (.int .i64 a) ∧ W.cell? ⟨S, o + 1, none⟩ = some (.int .i64 b) ∧ W.cell? ⟨S, o + 2, none⟩ = some (.int .i64 c) ∧ W.cell? ⟨S, o + 3, none⟩ = some (.int .i64 d) ∧ W.cell? ⟨S, o + 4, none⟩ = some (.int .i64 e) ∧ W.cell? ⟨S, o + 5, none⟩ = some (.int .i64 f) ∧ W.cell? ⟨S, o + 6, none⟩ = some (.int .i64 g) ∧ W.cell? ⟨q, 0, none⟩ = some (.int .i64 n))
    (first | go_keep | exact ⟨(hb1.cell (p := ⟨S, o, none⟩) h0).trans h1, (hb1.cell (p := ⟨S, o + 1, none⟩) h0).trans h2, (hb1.cell (p := ⟨S, o + 2, none⟩) h0).trans h3, (hb1.cell (p := ⟨S, o + 3, none⟩) h0).trans h4, (hb1.cell (p := ⟨S, o + 4, none⟩) h0).trans h5, (hb1.cell (p := ⟨S, o + 5, none⟩) h0).trans h6, (hb1.cell (p := ⟨S, o + 6, none⟩) h0).trans h7, (hb1.cell (p := ⟨q, 0, none⟩) hql).trans hq⟩)
    ((go_at_call 83; refine (moulded_any a b c d e f g _ o1 o2 o3 o4 o5 o6 o8).mono ?_; rintro en w1 ⟨rfl, hb1⟩))
  clear t0
  go_wp2_with fail
  go_ret
  exact ⟨rfl, (Below.refl _ _).drew.trans hb1⟩
theorem mould1_ok (a b c d e f g n : Int) (S o q : Nat) (w : World) (hk : Kind7 w S o a b c d e f g) (ho : Ok7 a b c d e f g) (hq : w.cell? ⟨q, 0, none⟩ = some (.int .i64 n)) (hql : q < w.heap.size) (hn : 0 ≤ n) (hn2 : n ≤ 1000000000)
    (hfull : a + b + c + d + e + f + n ≤ 1000000000) :
    Calls Try.prog 82 #[.pointer (some ⟨S, o, none⟩), .pointer (some ⟨q, 0, none⟩)] w fun en w' => en = .returned (.int .i64 0) ∧ Below w.heap.size (w.setCell ⟨S, o, none⟩ (.int .i64 (a + n))) w' := by
  obtain ⟨h0, hf, h1, h2, h3, h4, h5, h6, h7⟩ := hk
  obtain ⟨o1, o2, o3, o4, o5, o6, o7, o8, o9⟩ := ho
  have hf0 := hf o
  clear hf
  have t0 : IntKind.i64.wrap (a + b + c + d + e + f + n) = a + b + c + d + e + f + n := IntWalk.i64_in _ (by omega)
  go_enter Try.func82, Try.ntmps82
  go_wp2_with fail
  go_region_held3 (fun W => W.cell? ⟨S, o, none⟩ = some (.int .i64 a) ∧ W.cell? ⟨S, o + 1, none⟩ = some (.int .i64 b) ∧ W.cell? ⟨S, o + 2, none⟩ = some (.int .i64 c) ∧ W.cell? ⟨S, o + 3, none⟩ = some (.int .i64 d) ∧ W.cell? ⟨S, o + 4, none⟩ = some (.int .i64 e) ∧ W.cell? ⟨S, o + 5, none⟩ = some (.int .i64 f) ∧ W.cell? ⟨S, o + 6, none⟩ = some (.int .i64 g) ∧ W.cell? ⟨q, 0, none⟩ = some (.int .i64 n))
    (first | go_keep | exact ⟨(hb1.cell (p := ⟨S, o, none⟩) h0).trans h1, (hb1.cell (p := ⟨S, o + 1, none⟩) h0).trans h2, (hb1.cell (p := ⟨S, o + 2, none⟩) h0).trans h3, (hb1.cell (p := ⟨S, o + 3, none⟩) h0).trans h4, (hb1.cell (p := ⟨S, o + 4, none⟩) h0).trans h5, (hb1.cell (p := ⟨S, o + 5, none⟩) h0).trans h6, (hb1.cell (p := ⟨S, o + 6, none⟩) h0).trans h7, (hb1.cell (p := ⟨q, 0, none⟩) hql).trans hq⟩)
    ((go_at_call 83; refine (moulded_any a b c d e f g _ o1 o2 o3 o4 o5 o6 o8).mono ?_; rintro en w1 ⟨rfl, hb1⟩))
  clear t0 h1 h2 h3 h4 h5 h6 h7 hq
  rename_i hHeld
  obtain ⟨h1, -, -, -, -, -, -, hq⟩ := hHeld
  have hf1 : w1.frozen? ⟨S, o, none⟩ = false := (hb1.frozen (p := ⟨S, o, none⟩) h0).trans hf0
  have hz : w.heap.size ≤ w1.heap.size := hb1.size
  go_wp2_with fail
  go_region
  all_goals
    go_wp2_with fail
    go_ret
    exact ⟨rfl, (setB ((Below.refl w.heap.size w).drew.trans hb1) ⟨S, o, none⟩ (.int .i64 (a + n))).drew⟩
end Go.Proofs.Ytlhekifmkkgjlaa
/- Contracts of chapter 8 on the book: change, and what is done with one kind. -/
namespace Go.Proofs.Ytlhekifmkkgjlaa
open Go Go.RowKit
set_option maxHeartbeats 400000
theorem blkB {w : World} {g : Nat} {t : TypeId} {a b c d : Value} (h : Blk w g t #[a, b, c, d]) : g < w.heap.size ∧ w.cell? ⟨g, 2, none⟩ = some c :=
  ⟨h.lt, by simpa using h.cell 2⟩
theorem has_any (b S n : Nat) (spv ov : Value) (room kind : Int) (w : World) (hb : Blk w b 148 #[spv, .int .i64 room, .slice (some ⟨S, 0, none⟩) n n, ov]) (hn : n ≤ 20) (hn0 : 1 ≤ n) :
    Calls Try.prog 86 #[.pointer (some ⟨b, 0, none⟩), .int .i64 kind] w fun e w' => e = .returned (.bool (decide (0 ≤ kind ∧ kind ≤ (n : Int) - 1))) ∧ Below w.heap.size w w' := by
  obtain ⟨-, c2⟩ := blkB hb
  clear hb
  go_enter Try.func86, Try.ntmps86
  go_wp2_with fail
  refine (within_any 0 ((n : Int) - 1) _ 1 1 (fun _ => kind) _ (by decide) ?_).mono ?_
  · simpa using IR.one w kind 3
  rw [wiB_one]
  rintro e w1 ⟨rfl, hb1⟩
  go_wp2_with fail
  go_ret
  exact ⟨ret_bool (by simp), ((Below.refl _ _).alloc (Nat.le_refl _) _).trans (hb1.mono (by simp only [World.size_alloc]; omega))⟩
theorem change_nil (kind n : Int) (fv : Value) (w : World) :
    Calls Try.prog 80 #[.pointer none, .int .i64 kind, .int .i64 n, fv] w fun e w' => e = .returned (.int .i64 1) ∧ Below w.heap.size w w' := by
  go_enter Try.func80, Try.ntmps80
  go_wp2_with fail
  go_ret
  exact ⟨rfl, Below.refl _ _⟩
theorem change_none (b S n : Nat) (spv ov : Value) (room kind m : Int) (fv : Value) (w : World) (hb : Blk w b 148 #[spv, .int .i64 room, .slice (some ⟨S, 0, none⟩) n n, ov]) (hn : n ≤ 20) (hn0 : 1 ≤ n) (hk : ¬ (0 ≤ kind ∧ kind ≤ (n : Int) - 1)) :
    Calls Try.prog 80 #[.pointer (some ⟨b, 0, none⟩), .int .i64 kind, .int .i64 m, fv] w fun e w' => e = .returned (.int .i64 7) ∧ Below w.heap.size w w' := by
  have HC := hide (fun W (h : Below w.heap.size w W) => has_any b S n spv ov room kind W (hb.ext h) hn hn0)
  rw [decide_eq_false hk] at HC
  clear hb hk
  go_enter Try.func80, Try.ntmps80
  go_wp2_with fail
  refine (HC.out _ (Below.refl _ _)).mono ?_
  rintro e w1 ⟨rfl, hb1⟩
  go_wp2_with fail
  go_ret
  exact ⟨rfl, hb1⟩
theorem change_range (b S n : Nat) (spv ov : Value) (room kind m : Int) (fv : Value) (w : World) (hb : Blk w b 148 #[spv, .int .i64 room, .slice (some ⟨S, 0, none⟩) n n, ov]) (hn : n ≤ 20) (hn0 : 1 ≤ n) (hk : 0 ≤ kind ∧ kind ≤ (n : Int) - 1) (hm : ¬ (0 ≤ m ∧ m ≤ 1000000000)) :
    Calls Try.prog 80 #[.pointer (some ⟨b, 0, none⟩), .int .i64 kind, .int .i64 m, fv] w fun e w' => e = .returned (.int .i64 3) ∧ Below w.heap.size w w' := by
  have HC := hide (fun W (h : Below w.heap.size w W) => has_any b S n spv ov room kind W (hb.ext h) hn hn0)
  rw [decide_eq_true hk] at HC
  have HD := hide (decide_eq_false hm)
  clear hb hk hm
  go_enter Try.func80, Try.ntmps80
  go_wp2_with fail
  refine (HC.out _ (Below.refl _ _)).mono ?_
  rintro e w1 ⟨rfl, hb1⟩
  go_wp2_with fail
  refine (within_any 0 1000000000 _ 1 1 (fun _ => m) _ (by decide) ?_).mono ?_
  · simpa using IR.one w1 m 3
  rw [wiB_one, HD.out]
  rintro e w2 ⟨rfl, hb2⟩
  go_wp2_with fail
  go_ret
  exact ⟨rfl, (hb1.alloc hb1.size _).trans (hb2.mono (by have := hb1.size; simp only [World.size_alloc]; omega))⟩
theorem change_ok (b S n k : Nat) (spv ov : Value) (room m v : Int) (g : FuncId) (lb : Array Value) (f : World → World) (w : World) (hb : Blk w b 148 #[spv, .int .i64 room, .slice (some ⟨S, 0, none⟩) n n, ov]) (hn : n ≤ 20) (hk : k < n) (h0 : 0 ≤ m) (h1 : m ≤ 1000000000)
    (eg : ∀ args w, (callFunc g args).run Try.prog w = .ok (.enter g args) w)
    (hf : ∀ W, Below w.heap.size w W → Below w.heap.size (f w) (f W))
    (hg : ∀ W, Below w.heap.size w W → Calls Try.prog g (#[.pointer (some ⟨S, k * 7, none⟩)] ++ lb) W fun e W' => e = .returned (.int .i64 v) ∧ Below W.heap.size (f W) W') :
    Calls Try.prog 80 #[.pointer (some ⟨b, 0, none⟩), .int .i64 k, .int .i64 m, .func (.func g) #[] lb] w fun e w' => e = .returned (.int .i64 v) ∧ Below w.heap.size (f w) w' := by
  have HC := hide (fun W (h : Below w.heap.size w W) => has_any b S n spv ov room k W (hb.ext h) hn (by omega))
  rw [decide_eq_true (by omega : 0 ≤ (k : Int) ∧ (k : Int) ≤ (n : Int) - 1)] at HC
  have HD := hide (decide_eq_true (And.intro h0 h1))
  have HB := hide hb
  have HF := hide hf
  have HG := hide hg
  clear hb hf hg
  go_enter Try.func80, Try.ntmps80
  go_wp2_with fail
  refine (HC.out _ (Below.refl _ _)).mono ?_
  rintro e w1 ⟨rfl, hb1⟩
  go_wp2_with fail
  refine (within_any 0 1000000000 _ 1 1 (fun _ => m) _ (by decide) ?_).mono ?_
  · simpa using IR.one w1 m 3
  rw [wiB_one, HD.out]
  rintro e w2 ⟨rfl, hb2⟩
  have hB2 : Below w.heap.size w w2 := (hb1.alloc hb1.size _).trans (hb2.mono (by have := hb1.size; simp only [World.size_alloc]; omega))
  obtain ⟨-, c2⟩ := blkB (HB.out.ext hB2)
  have i1 : (0 : Int) ≤ (k : Int) := by omega
  have i2 : (k : Int) < (n : Int) := by omega
  clear hb2
  go_wp2_with fail
  refine (HG.out _ hB2).mono ?_
  rintro e w3 ⟨rfl, hb3⟩
  go_wp2_with fail
  go_ret
  exact ⟨rfl, (HF.out _ hB2).trans (hb3.mono hB2.size)⟩
end Go.Proofs.Ytlhekifmkkgjlaa
/- Contracts of chapter 8 on the book: drying, laying, breaking, replacing, counting; a new book. -/
namespace Go.Proofs.Ytlhekifmkkgjlaa
open Go Go.RowKit
set_option maxHeartbeats 800000
def set7 (w : World) (q : Nat) (a b c d e f g : Int) : World :=
  ((((((w.setCell ⟨q, 0, none⟩ (.int .i64 a)).setCell ⟨q, 1, none⟩ (.int .i64 b)).setCell ⟨q, 2, none⟩ (.int .i64 c)).setCell ⟨q, 3, none⟩ (.int .i64 d)).setCell ⟨q, 4, none⟩ (.int .i64 e)).setCell ⟨q, 5, none⟩ (.int .i64 f)).setCell ⟨q, 6, none⟩ (.int .i64 g)
theorem count1_any (a b c d e f g : Int) (S o q : Nat) (t : TypeId) (x0 x1 x2 x3 x4 x5 x6 : Value) (w : World) (hk : Kind7 w S o a b c d e f g) (ho : Ok7 a b c d e f g) (hq : Blk w q t #[x0, x1, x2, x3, x4, x5, x6]) (hne : S ≠ q) :
    Calls Try.prog 81 #[.pointer (some ⟨S, o, none⟩), .pointer (some ⟨q, 0, none⟩)] w fun en w' => en = .returned (.int .i64 0) ∧ Below w.heap.size (set7 w q a b c d e f g) w' := by
  obtain ⟨h0, hf, h1, h2, h3, h4, h5, h6, h7⟩ := hk
  obtain ⟨o1, o2, o3, o4, o5, o6, o7, o8, o9⟩ := ho
  clear hf o1 o2 o3 o4 o5 o6 o7 o8 o9
  have hne' := Ne.symm hne
  have q0 := hq.cell 0
  have q1 := hq.cell 1
  have q2 := hq.cell 2
  have q3 := hq.cell 3
  have q4 := hq.cell 4
  have q5 := hq.cell 5
  have q6 := hq.cell 6
  have f0 := hq.frozen 0
  have f1 := hq.frozen 1
  have f2 := hq.frozen 2
  have f3 := hq.frozen 3
  have f4 := hq.frozen 4
  have f5 := hq.frozen 5
  have f6 := hq.frozen 6
  simp at q0 q1 q2 q3 q4 q5 q6
  clear hq
  go_enter Try.func81, Try.ntmps81
  go_wp2_with fail
  go_ret
  exact ⟨rfl, Below.refl _ _⟩
/-- three facts on a kind over one store into it -/
theorem dry1_arg (a b c d e f g : Int) (n br : Int) (S o p q : Nat) (w : World) (hk : Kind7 w S o a b c d e f g) (ho : Ok7 a b c d e f g) (hp : w.cell? ⟨p, 0, none⟩ = some (.int .i64 n)) (hq : w.cell? ⟨q, 0, none⟩ = some (.int .i64 br)) (hb : ¬ (0 ≤ br ∧ br ≤ n)) :
    Calls Try.prog 84 #[.pointer (some ⟨S, o, none⟩), .pointer (some ⟨p, 0, none⟩), .pointer (some ⟨q, 0, none⟩)] w fun en w' => en = .returned (.int .i64 2) ∧ Below w.heap.size w w' := by
  have HD := hide (decide_eq_false hb)
  clear hk ho hb
  go_enter Try.func84, Try.ntmps84
  go_wp2_with fail
  refine (within_any 0 n _ 1 1 (fun _ => br) _ (by decide) ?_).mono ?_
  · simpa using IR.one w br 3
  rw [wiB_one, HD.out]
  rintro en w1 ⟨rfl, hb1⟩
  go_wp2_with fail
  go_ret
  exact ⟨rfl, ((Below.refl _ _).alloc (Nat.le_refl _) _).trans (hb1.mono (by simp only [World.size_alloc]; omega))⟩
theorem dry1_state (a b c d e f g : Int) (n br : Int) (S o p q : Nat) (w : World) (hk : Kind7 w S o a b c d e f g) (ho : Ok7 a b c d e f g) (hp : w.cell? ⟨p, 0, none⟩ = some (.int .i64 n)) (hq : w.cell? ⟨q, 0, none⟩ = some (.int .i64 br)) (hpl : p < w.heap.size) (hb : 0 ≤ br ∧ br ≤ n) (hlt : a < n) :
    Calls Try.prog 84 #[.pointer (some ⟨S, o, none⟩), .pointer (some ⟨p, 0, none⟩), .pointer (some ⟨q, 0, none⟩)] w fun en w' => en = .returned (.int .i64 9) ∧ Below w.heap.size w w' := by
  have HD := hide (decide_eq_true hb)
  obtain ⟨h0, hf, h1, h2, h3, h4, h5, h6, h7⟩ := hk
  obtain ⟨o1, o2, o3, o4, o5, o6, o7, o8, o9⟩ := ho
  clear hf o1 o2 o3 o4 o5 o6 o7 o8 o9 hb h2 h3 h4 h5 h6 h7
  go_enter Try.func84, Try.ntmps84
  go_wp2_with fail
  refine (within_any 0 n _ 1 1 (fun _ => br) _ (by decide) ?_).mono ?_
  · simpa using IR.one w br 3
  rw [wiB_one, HD.out]
  rintro en w1 ⟨rfl, hb1⟩
  have hB : Below w.heap.size w w1 := ((Below.refl _ _).alloc (Nat.le_refl _) _).trans (hb1.mono (by simp only [World.size_alloc]; omega))
  have k1 : w1.cell? ⟨S, o, none⟩ = some (.int .i64 a) := (hB.cell (p := ⟨S, o, none⟩) h0).trans h1
  have k2 : w1.cell? ⟨p, 0, none⟩ = some (.int .i64 n) := (hB.cell (p := ⟨p, 0, none⟩) hpl).trans hp
  clear h1 hp hb1
  go_wp2_with fail
  go_region_held3 (fun W => W.cell? ⟨p, 0, none⟩ = some (.int .i64 n)) (first | go_keep | assumption) ((go_at_call 85; refine (move_lt n a S o S (o + 1) _ ?_ hlt).mono ?_; (simp [*]); rintro en w2 ⟨rfl, rfl⟩))
  go_wp2_with fail
  go_ret
  exact ⟨rfl, hB.drew⟩
def mv (w : World) (S o q : Nat) (u v : Int) : World := (w.setCell ⟨S, o, none⟩ (.int .i64 u)).setCell ⟨S, q, none⟩ (.int .i64 v)
theorem size_mv (w : World) (S o q : Nat) (u v : Int) : (mv w S o q u v).heap.size = w.heap.size := by simp [mv, size_set]
theorem mvB {B : Nat} {w W : World} (h : Below B w W) (S o q : Nat) (u v : Int) : Below B (mv w S o q u v) (mv W S o q u v) := setB (setB h _ _) _ _
theorem mv_cell {w : World} {S o q x : Nat} {u v : Int} {z : Value} (h : w.cell? ⟨S, x, none⟩ = some z) (h1 : x ≠ o) (h2 : x ≠ q) : (mv w S o q u v).cell? ⟨S, x, none⟩ = some z := by
  unfold mv
  rw [World.cell?_setCell_other _ _ _ _ (fun h => by injection h; omega), World.cell?_setCell_other _ _ _ _ (fun h => by injection h; omega)]
  exact h
theorem mv_far {w : World} {S o q p x : Nat} {u v : Int} (h1 : p ≠ S) : (mv w S o q u v).cell? ⟨p, x, none⟩ = w.cell? ⟨p, x, none⟩ := by
  unfold mv
  rw [World.cell?_setCell_other _ _ _ _ (fun h => by injection h; omega), World.cell?_setCell_other _ _ _ _ (fun h => by injection h; omega)]
theorem mv_frozen (w : World) (S o q : Nat) (u v : Int) (p : Addr) : (mv w S o q u v).frozen? p = w.frozen? p := by
  unfold mv
  rw [World.frozen?_setCell, World.frozen?_setCell]
theorem mv_snd {w : World} {S o q : Nat} {u v : Int} {z : Value} (h : w.cell? ⟨S, q, none⟩ = some z) (hoq : o ≠ q) : (mv w S o q u v).cell? ⟨S, q, none⟩ = some (.int .i64 v) := by
  unfold mv
  refine World.cell?_setCell_same' _ _ _ ?_
  rw [World.cell?_setCell_other _ _ _ _ (fun h => by injection h; omega), h]; rfl
theorem mv_fst {w : World} {S o q : Nat} {u v : Int} {z : Value} (h : w.cell? ⟨S, o, none⟩ = some z) (hoq : o ≠ q) : (mv w S o q u v).cell? ⟨S, o, none⟩ = some (.int .i64 u) := by
  unfold mv
  rw [World.cell?_setCell_other _ _ _ _ (fun h => by injection h; omega)]
  exact World.cell?_setCell_same' _ _ _ (by rw [h]; rfl)
theorem dry1_ok (a b c d e f g : Int) (n br : Int) (S o p q : Nat) (w : World) (hk : Kind7 w S o a b c d e f g) (ho : Ok7 a b c d e f g) (hp : w.cell? ⟨p, 0, none⟩ = some (.int .i64 n)) (hq : w.cell? ⟨q, 0, none⟩ = some (.int .i64 br)) (hpl : p < w.heap.size) (hql : q < w.heap.size) (hpS : p ≠ S) (hqS : q ≠ S) (hb : 0 ≤ br ∧ br ≤ n) (hlt : n ≤ a) :
    Calls Try.prog 84 #[.pointer (some ⟨S, o, none⟩), .pointer (some ⟨p, 0, none⟩), .pointer (some ⟨q, 0, none⟩)] w fun en w' => en = .returned (.int .i64 0) ∧
      Below w.heap.size (mv (mv w S o (o + 1) (a - n) (b + n)) S (o + 1) (o + 5) (b + n - br) (f + br)) w' := by
  have HD := hide (decide_eq_true hb)
  obtain ⟨h0, hf, h1, h2, h3, h4, h5, h6, h7⟩ := hk
  obtain ⟨o1, o2, o3, o4, o5, o6, o7, o8, o9⟩ := ho
  clear h3 h4 h5 h7
  have HF := hide hf
  clear hf
  go_enter Try.func84, Try.ntmps84
  go_wp2_with fail
  refine (within_any 0 n _ 1 1 (fun _ => br) _ (by decide) ?_).mono ?_
  · simpa using IR.one w br 3
  rw [wiB_one, HD.out]
  rintro en w1 ⟨rfl, hb1⟩
  have hB : Below w.heap.size w w1 := ((Below.refl _ _).alloc (Nat.le_refl _) _).trans (hb1.mono (by simp only [World.size_alloc]; omega))
  have k1 : w1.cell? ⟨S, o, none⟩ = some (.int .i64 a) := (hB.cell (p := ⟨S, o, none⟩) h0).trans h1
  have k2 : w1.cell? ⟨p, 0, none⟩ = some (.int .i64 n) := (hB.cell (p := ⟨p, 0, none⟩) hpl).trans hp
  have k3 : w1.cell? ⟨S, o + 1, none⟩ = some (.int .i64 b) := (hB.cell (p := ⟨S, o + 1, none⟩) h0).trans h2
  have k4 : w1.cell? ⟨q, 0, none⟩ = some (.int .i64 br) := (hB.cell (p := ⟨q, 0, none⟩) hql).trans hq
  have k5 : w1.cell? ⟨S, o + 5, none⟩ = some (.int .i64 f) := (hB.cell (p := ⟨S, o + 5, none⟩) h0).trans h6
  have k6 : ∀ i, w1.frozen? ⟨S, i, none⟩ = false := fun i => (hB.frozen (p := ⟨S, i, none⟩) h0).trans (HF.out i)
  have K6 := hide k6
  have z1 : S < w1.heap.size := Nat.lt_of_lt_of_le h0 hB.size
  have z2 : p < w1.heap.size := Nat.lt_of_lt_of_le hpl hB.size
  have z3 : q < w1.heap.size := Nat.lt_of_lt_of_le hql hB.size
  clear h1 h2 h6 hp hq hb1 k6
  have HM := hide (move_ok n a b S o (o + 1) w1.drew k1 k3 K6.out (by omega) hlt (by omega) (by omega) o2 (by omega))
  go_wp2_with fail
  go_region_held3 (fun W => W.cell? ⟨p, 0, none⟩ = some (.int .i64 n)) (first | go_keep | exact (hb2.cell (p := ⟨p, 0, none⟩) z2).trans ((mv_far hpS).trans k2)) ((go_at_call 85; refine HM.out.mono ?_; rintro en w2 ⟨rfl, hb2⟩))
  have hb2' : Below w1.heap.size (mv w1 S o (o + 1) (a - n) (b + n)) w2 := ⟨hb2.os, hb2.tape, hb2.output, hb2.size, hb2.block⟩
  have s2 : w1.heap.size ≤ w2.heap.size := by have := hb2'.size; rw [size_mv] at this; exact this
  have m3 : w2.cell? ⟨S, o + 1, none⟩ = some (.int .i64 (b + n)) := (hb2'.cell (p := ⟨S, o + 1, none⟩) z1).trans (mv_snd k3 (by omega))
  have m4 : w2.cell? ⟨q, 0, none⟩ = some (.int .i64 br) := (hb2'.cell (p := ⟨q, 0, none⟩) z3).trans ((mv_far hqS).trans k4)
  have m5 : w2.cell? ⟨S, o + 5, none⟩ = some (.int .i64 f) := (hb2'.cell (p := ⟨S, o + 5, none⟩) z1).trans (mv_cell k5 (by omega) (by omega))
  have M6 := hide (fun i => (hb2'.frozen (p := ⟨S, i, none⟩) z1).trans ((mv_frozen _ _ _ _ _ _ _).trans (K6.out i)))
  have HN := hide (move_ok br (b + n) f S (o + 1) (o + 5) w2.drew m3 m5 M6.out (by omega) (by omega) (by omega) (by omega) o6 (by omega))
  clear HM k1 k3 k5 hb2
  go_wp2_with fail
  go_region_held3 (fun W => W.cell? ⟨q, 0, none⟩ = some (.int .i64 br)) (first | go_keep | exact (hb3.cell (p := ⟨q, 0, none⟩) (Nat.lt_of_lt_of_le z3 s2)).trans ((mv_far hqS).trans m4)) ((go_at_call 85; refine HN.out.mono ?_; rintro en w3 ⟨rfl, hb3⟩))
  have hb3' : Below w2.heap.size (mv w2 S (o + 1) (o + 5) (b + n - br) (f + br)) w3 := ⟨hb3.os, hb3.tape, hb3.output, hb3.size, hb3.block⟩
  go_wp2_with fail
  go_ret
  exact ⟨rfl, (mvB ((mvB hB S o (o + 1) (a - n) (b + n)).trans (hb2'.mono hB.size)) S (o + 1) (o + 5) (b + n - br) (f + br)).trans (hb3'.mono (Nat.le_trans hB.size s2))⟩
end Go.Proofs.Ytlhekifmkkgjlaa
/- Contracts of chapter 8 on the book: a new book, Mould, Dry, Count. -/
namespace Go.Proofs.Ytlhekifmkkgjlaa
open Go Go.RowKit
set_option maxHeartbeats 800000
theorem run_make_rowN {P : Program} (t e : TypeId) (i : TypeInfo) (z : Value) (ht : P.underlying t = some (.slice e)) (hi : P.info? e = some i) (hz : i.zero = some z)
    (kl kc : IntKind) (n c : Nat) (hnc : n ≤ c) (hbytes : i.bytes * c ≤ 281474976710656) (h63 : c ≤ 9223372036854775807) (w : World) :
    (Instr.makeSlice t (.int kl (n : Int)) (.int kc (c : Int))).run P w = .ok (.slice (some ⟨w.heap.size, 0, none⟩) n c) (w.alloc (.cells (madeCells z.cells (c * i.size)) e)) := by
  have hb : (i.bytes : Int) * (c : Int) ≤ 281474976710656 := by
    have h : ((i.bytes * c : Nat) : Int) ≤ 281474976710656 := by omega
    rwa [Int.natCast_mul] at h
  have hr := run_make (P := P) w t e i z ht hi hz kl kc n c (by omega) (by omega) hb (by omega)
  simp only [Int.toNat_natCast] at hr
  exact hr
theorem info_int : (Try.prog.info? 3).map (fun i => (i.zero, i.size, i.bytes)) = some (some (.int .i64 0), 1, 8) := by kernel_rfl
theorem info_store : (Try.prog.info? 156).map (fun i => (i.zero, i.size, i.bytes)) = some (some (.agg #[.int .i64 0, .int .i64 0, .int .i64 0, .int .i64 0, .int .i64 0, .int .i64 0, .int .i64 0]), 7, 56) := by kernel_rfl
def IsRow (w w' : World) (n : Nat) (x : Nat → Int) (e : Ending) : Prop :=
  ∃ A c, e = .returned (.slice A n c) ∧ w'.ownsRow w.heap.size 3 1 (.slice A n c) n (cellsOf 1 n fun k _ => .int .i64 (x k))
theorem cells_one (n : Nat) (x : Nat → Int) : ∀ u ∈ cellsOf 1 n (fun k _ => Value.int .i64 (x k)), u.oneCell' = true := by
  intro u hu
  simp only [cellsOf, List.mem_map] at hu
  obtain ⟨j, _, rfl⟩ := hu
  rfl
/-- slices.Clone of ints -/
theorem clone_any (A : Option Addr) (n c : Nat) (x : Nat → Int) (w : World) (hn : n ≤ 65536) (hn0 : 0 < n) (hR : IR w w.heap.size A n x) :
    Calls Try.prog 75 #[.slice A n c] w fun e w' => IsRow w w' n x e ∧ Below w.heap.size w w' := by
  obtain ⟨i0, hi, hz0, hz1, hz2⟩ := info_parts info_int
  obtain ⟨b, off, rfl, hb, hc⟩ := hR hn0
  have HR := hide hR
  clear hR hc
  have hnil := fun (W : World) => Lib.run_eql_slice_nil (P := Try.prog) W 56 3 (some ⟨b, off, none⟩) n c 0 0 Try.underlying56
  go_enter Try.func75, Try.ntmps75
  go_wp2_with (at_builtin; refine wpList_append_any _ rfl (.tmp 5) (.tmp 6) _ rfl w.heap.size 3 i0 _ 1 8 Try.underlying56 hi hz0 hz1 hz2 rfl (by omega) (.slice (some ⟨w.heap.size, 0, none⟩) 0 0) 0 [] rfl (own_empty w _ 1) w.heap.size (some ⟨b, off, none⟩) n c (cellsOf 1 n fun k _ => .int .i64 (x k)) rfl ((HR.out.below ((Below.refl _ _).alloc (Nat.le_refl _) _) (Nat.le_refl _)).reads (by omega)) (cells_one n x) (by unfold maxLen; omega) (by omega) (by simp) ?_; intro v1 w1 hown1 hg1 hat1)
  have hB : Below w.heap.size w w1 := ((Below.refl _ _).alloc (Nat.le_refl _) _).grown hg1 (by simp) (by simp [Value.ownBlock])
  go_ret
  rw [Nat.zero_add, List.nil_append] at hown1
  obtain ⟨A', c', hv, -, -⟩ := ER.of_own hown1 (by omega)
  exact ⟨⟨A', c', by rw [← hv]; rfl, by rw [← hv]; exact hown1⟩, hB⟩
/-- how many bricks of a kind there are -/
structure Wa where
  (wet dry burning fired laid broken missing : Int)
def Wa.zero : Wa := ⟨0, 0, 0, 0, 0, 0, 0⟩
def KindW (w : World) (S o : Nat) (x : Wa) : Prop := Kind7 w S o x.wet x.dry x.burning x.fired x.laid x.broken x.missing
def OkW (x : Wa) : Prop := Ok7 x.wet x.dry x.burning x.fired x.laid x.broken x.missing
/-- the stores of n kinds in block S -/
def Stores (w : World) (S n : Nat) (ws : Nat → Wa) : Prop := (∃ cs : Array Value, Blk w S 156 cs) ∧ ∀ k, k < n → KindW w S (k * 7) (ws k)
/-- a book in block b -/
def BookAt (w : World) (base b S n : Nat) (sp : Nat → Int) (room : Int) (ws : Nat → Wa) (ov : Value) : Prop :=
  ∃ A c, Blk w b 148 #[.slice A n c, .int .i64 room, .slice (some ⟨S, 0, none⟩) n n, ov] ∧
    w.ownsRow base 3 1 (.slice A n c) n (cellsOf 1 n fun k _ => .int .i64 (sp k)) ∧ Stores w S n ws ∧ base ≤ S ∧ base ≤ b
theorem KindW.below {w w' : World} {B S o : Nat} {x : Wa} (h : KindW w S o x) (hb : Below B w w') (hS : S < B) : KindW w' S o x := Kind7.below h hb hS
theorem Stores.below {w w' : World} {B S n : Nat} {ws : Nat → Wa} (h : Stores w S n ws) (hb : Below B w w') (hS : S < B) : Stores w' S n ws := by
  obtain ⟨⟨cs, hc⟩, hk⟩ := h
  exact ⟨⟨cs, hc.below hb hS⟩, fun k hkn => (hk k hkn).below hb hS⟩
theorem Stores.lt {w : World} {S n : Nat} {ws : Nat → Wa} (h : Stores w S n ws) : S < w.heap.size := by
  obtain ⟨⟨cs, hc⟩, -⟩ := h
  exact hc.lt
theorem Stores.alloc {w : World} {S n : Nat} {ws : Nat → Wa} (h : Stores w S n ws) (o : Obj) : Stores (w.alloc o) S n ws :=
  h.below ((Below.refl w.heap.size w).alloc (Nat.le_refl _) o) h.lt
theorem ownMono {w : World} {base base' : Nat} {e : TypeId} {size n : Nat} {v : Value} {xs : List Value} (h : w.ownsRow base e size v n xs) (hb : base' ≤ base) : w.ownsRow base' e size v n xs := by
  obtain ⟨h1, h2⟩ := h
  refine ⟨h1, ?_⟩
  rcases h2 with h2 | ⟨g, cap, cur, hv, hg, hr⟩
  · exact .inl h2
  · exact .inr ⟨g, cap, cur, hv, by omega, hr⟩
def NewPost (n : Nat) (sp : Nat → Int) (room : Int) (w : World) (e : Ending) (w' : World) : Prop :=
  ∃ b S, e = .returned (.tuple #[.pointer (some ⟨b, 0, none⟩), .int .i64 0]) ∧ BookAt w' w.heap.size b S n sp room (fun _ => Wa.zero) (.slice none 0 0) ∧ Below w.heap.size w w'
theorem stores_made (w : World) (n : Nat) : Stores (w.alloc (.cells (madeCells #[.int .i64 0, .int .i64 0, .int .i64 0, .int .i64 0, .int .i64 0, .int .i64 0, .int .i64 0] (n * 7)) 156)) w.heap.size n (fun _ => Wa.zero) := by
  have hB := Blk.new w 156 (madeCells #[.int .i64 0, .int .i64 0, .int .i64 0, .int .i64 0, .int .i64 0, .int .i64 0, .int .i64 0] (n * 7))
  refine ⟨⟨_, hB⟩, fun k hk => ?_⟩
  have hc : ∀ i, i < n * 7 → (w.alloc (.cells (madeCells #[.int .i64 0, .int .i64 0, .int .i64 0, .int .i64 0, .int .i64 0, .int .i64 0, .int .i64 0] (n * 7)) 156)).cell? ⟨w.heap.size, i, none⟩ = some (.int .i64 0) := by
    intro i hi
    rw [hB.cell]
    have h7 : i % 7 < 7 := Nat.mod_lt _ (by omega)
    simp only [madeCells, Array.getElem?_map, Array.getElem?_range, hi, if_true, Option.map_some]
    congr 1
    rcases (by omega : i % 7 = 0 ∨ i % 7 = 1 ∨ i % 7 = 2 ∨ i % 7 = 3 ∨ i % 7 = 4 ∨ i % 7 = 5 ∨ i % 7 = 6) with h | h | h | h | h | h | h <;> simp [h]
  exact ⟨hB.lt, fun i => hB.frozen i, hc _ (by omega), hc _ (by omega), hc _ (by omega), hc _ (by omega), hc _ (by omega), hc _ (by omega), hc _ (by omega)⟩
def newOk (n : Nat) (sp : Nat → Int) (room : Int) : Bool := decide (1 ≤ n) && decide (n ≤ 20) && wiB 1 1000 sp n && decide (0 ≤ room ∧ room ≤ 1000000000)
theorem new_err (A : Option Addr) (n c : Nat) (sp : Nat → Int) (room : Int) (w : World) (hn : n ≤ 65536) (hR : IR w w.heap.size A n sp) (h : newOk n sp room = false) :
    Calls Try.prog 33 #[.slice A n c, .int .i64 room] w fun e w' => e = .returned (.tuple #[.pointer none, .int .i64 2]) ∧ Below w.heap.size w w' := by
  have HC := hide (fun W (h : Below w.heap.size w W) => within_any 1 1000 A n c sp W (by unfold maxLen; omega) ((hR.below h (Nat.le_refl _)).more h.size))
  clear hR
  rcases (by omega : n < 1 ∨ 20 < n ∨ (1 ≤ n ∧ n ≤ 20)) with h1 | h1 | ⟨h1, h2⟩
  · go_enter Try.func33, Try.ntmps33
    go_wp2_with fail
    go_ret2
    exact ⟨rfl, Below.refl _ _⟩
  · go_enter Try.func33, Try.ntmps33
    go_wp2_with fail
    go_ret2
    exact ⟨rfl, Below.refl _ _⟩
  · rcases hw : wiB 1 1000 sp n with _ | _
    · rw [hw] at HC
      clear h hw
      go_enter Try.func33, Try.ntmps33
      go_wp2_with fail
      refine (HC.out _ (Below.refl _ _)).mono ?_
      rintro e w1 ⟨rfl, hb1⟩
      go_wp2_with fail
      go_ret2
      exact ⟨rfl, hb1⟩
    · have h3 : ¬ (0 ≤ room ∧ room ≤ 1000000000) := by
        simp only [newOk, hw, h1, h2, decide_true, Bool.true_and, decide_eq_false_iff_not] at h
        exact h
      rw [hw] at HC
      have HD := hide (decide_eq_false h3)
      clear h hw h3
      go_enter Try.func33, Try.ntmps33
      go_wp2_with fail
      refine (HC.out _ (Below.refl _ _)).mono ?_
      rintro e w1 ⟨rfl, hb1⟩
      go_wp2_with fail
      refine (within_any 0 1000000000 _ 1 1 (fun _ => room) _ (by decide) ?_).mono ?_
      · simpa using IR.one w1 room 3
      rw [wiB_one, HD.out]
      rintro e w2 ⟨rfl, hb2⟩
      go_wp2_with fail
      go_ret2
      exact ⟨rfl, (hb1.alloc hb1.size _).trans (hb2.mono (by have := hb1.size; simp only [World.size_alloc]; omega))⟩
theorem new_ok (A : Option Addr) (n c : Nat) (sp : Nat → Int) (room : Int) (w : World) (hR : IR w w.heap.size A n sp) (h : newOk n sp room = true) :
    Calls Try.prog 33 #[.slice A n c, .int .i64 room] w (NewPost n sp room w) := by
  simp only [newOk, Bool.and_eq_true, decide_eq_true_eq] at h
  obtain ⟨⟨⟨h1, h2⟩, hw⟩, h3⟩ := h
  have HC := hide (fun W (h : Below w.heap.size w W) => within_any 1 1000 A n c sp W (by unfold maxLen; omega) ((hR.below h (Nat.le_refl _)).more h.size))
  rw [hw] at HC
  have HD := hide (decide_eq_true h3)
  have HE := hide (fun W (h : Below w.heap.size w W) => clone_any A n c sp W (by omega) (by omega) ((hR.below h (Nat.le_refl _)).more h.size))
  obtain ⟨i0, hi, hz0, hz1, hz2⟩ := info_parts info_store
  have HM := hide (fun W : World => run_make_rowN (P := Try.prog) 146 156 i0 _ Try.underlying146 hi hz0 .i64 .i64 n n (Nat.le_refl _) (by rw [hz2]; omega) (by omega) W)
  rw [hz1] at HM
  clear hR hw h3 hi hz0 hz1 hz2
  go_enter Try.func33, Try.ntmps33
  go_wp2_with fail
  refine (HC.out _ (Below.refl _ _)).mono ?_
  rintro e w1 ⟨rfl, hb1⟩
  go_wp2_with fail
  refine (within_any 0 1000000000 _ 1 1 (fun _ => room) _ (by decide) ?_).mono ?_
  · simpa using IR.one w1 room 3
  rw [wiB_one, HD.out]
  rintro e w2 ⟨rfl, hb2⟩
  have hB2 : Below w.heap.size w w2 := (hb1.alloc hb1.size _).trans (hb2.mono (by have := hb1.size; simp only [World.size_alloc]; omega))
  clear hb1 hb2
  go_wp2_with fail
  have hmk := HM.out
  go_region_with ((go_at_call 75; refine (HE.out _ ?_).mono ?_; (first | exact hB2.drew | exact (hB2.alloc hB2.size _).drew); rintro e w3 ⟨⟨A', c', rfl, hown⟩, hb3⟩))
  · go_wp2_with fail
    go_ret2
    have z2 : w2.heap.size ≤ w3.heap.size := hb3.size
    have z0 := hB2.size
    refine ⟨w3.heap.size + 1, w3.heap.size, rfl, ⟨A', c', ?_, (ownMono hown (by simpa using z0)).alloc _ |>.alloc _, ?_, by omega, by omega⟩, ((hB2.drew.trans (hb3.mono (by simpa using z0))).alloc (by omega) _).alloc (by simp only [World.size_alloc]; omega) _⟩
    · have := Blk.new (w3.alloc (.cells (madeCells #[.int .i64 0, .int .i64 0, .int .i64 0, .int .i64 0, .int .i64 0, .int .i64 0, .int .i64 0] (n * 7)) 156)) 148 #[.slice A' n c', .int .i64 room, .slice (some ⟨w3.heap.size, 0, none⟩) n n, .slice none 0 0]
      rw [World.size_alloc] at this
      exact this
    · exact Stores.alloc (stores_made w3 n) _
  · go_wp2_with fail
    go_ret2
    have z2 : w2.heap.size + 1 ≤ w3.heap.size := by have := hb3.size; simpa using this
    have z0 := hB2.size
    have hst : Stores w3 w2.heap.size n (fun _ => Wa.zero) := Stores.below (stores_made w2 n) (w' := w3) (B := w2.heap.size + 1) ⟨hb3.os, hb3.tape, hb3.output, hb3.size, fun k hk => hb3.block k (by simp only [World.size_alloc, World.drew]; simpa using hk)⟩ (by omega)
    refine ⟨w3.heap.size, w2.heap.size, rfl, ⟨A', c', Blk.new w3 _ _, (ownMono hown (by simp; omega)).alloc _, Stores.alloc hst _, by omega, by omega⟩, (((hB2.alloc z0 _).drew.trans (hb3.mono (by simp; omega))).alloc (by omega) _)⟩
end Go.Proofs.Ytlhekifmkkgjlaa
/- Contracts of chapter 8 on the book: Mould, Dry, Count of a valid kind. -/
namespace Go.Proofs.Ytlhekifmkkgjlaa
open Go Go.RowKit
set_option maxHeartbeats 800000
theorem mould_full (b S n k : Nat) (spv ov : Value) (room m : Int) (x : Wa) (w : World) (hb : Blk w b 148 #[spv, .int .i64 room, .slice (some ⟨S, 0, none⟩) n n, ov]) (hn : n ≤ 20) (hk : k < n) (hS : KindW w S (k * 7) x) (ho : OkW x) (h0 : 0 ≤ m) (h1 : m ≤ 1000000000) (hf : 1000000000 < x.wet + x.dry + x.burning + x.fired + x.laid + x.broken + m) :
    Calls Try.prog 38 #[.pointer (some ⟨b, 0, none⟩), .int .i64 k, .int .i64 m] w fun e w' => e = .returned (.int .i64 8) ∧ Below w.heap.size w w' := by
  have b0 : Below w.heap.size w (w.alloc (.cells #[.int .i64 m] 3)) := (Below.refl _ _).alloc (Nat.le_refl _) _
  have HC := hide (change_ok b S n k spv ov room m 8 82 #[.pointer (some ⟨w.heap.size, 0, none⟩)] id _ (hb.ext b0) hn hk h0 h1 (enters_of Try.func82 (by kernel_rfl) rfl) (fun W h => h) (fun W h => mould1_full _ _ _ _ _ _ _ m S (k * 7) w.heap.size W ((hS.below b0 hS.1).below h (by have := hS.1; simp only [World.size_alloc]; omega)) ho ((h.cell (by simp)).trans (by simp)) (by have := h.size; simp at this; omega) h0 h1 hf))
  have B0 := hide b0
  clear b0 hb hS
  go_enter Try.func38, Try.ntmps38
  go_wp2_with fail
  refine HC.out.mono ?_
  rintro e w1 ⟨rfl, hb1⟩
  go_wp2_with fail
  go_ret
  exact ⟨rfl, B0.out.trans (hb1.mono (by simp only [World.size_alloc]; omega))⟩
theorem mould_ok (b S n k : Nat) (spv ov : Value) (room m : Int) (x : Wa) (w : World) (hb : Blk w b 148 #[spv, .int .i64 room, .slice (some ⟨S, 0, none⟩) n n, ov]) (hn : n ≤ 20) (hk : k < n) (hS : KindW w S (k * 7) x) (ho : OkW x) (h0 : 0 ≤ m) (h1 : m ≤ 1000000000) (hf : x.wet + x.dry + x.burning + x.fired + x.laid + x.broken + m ≤ 1000000000) :
    Calls Try.prog 38 #[.pointer (some ⟨b, 0, none⟩), .int .i64 k, .int .i64 m] w fun e w' => e = .returned (.int .i64 0) ∧ Below w.heap.size (w.setCell ⟨S, k * 7, none⟩ (.int .i64 (x.wet + m))) w' := by
  have b0 : Below w.heap.size w (w.alloc (.cells #[.int .i64 m] 3)) := (Below.refl _ _).alloc (Nat.le_refl _) _
  have HC := hide (change_ok b S n k spv ov room m 0 82 #[.pointer (some ⟨w.heap.size, 0, none⟩)] (fun W => W.setCell ⟨S, k * 7, none⟩ (.int .i64 (x.wet + m))) _ (hb.ext b0) hn hk h0 h1 (enters_of Try.func82 (by kernel_rfl) rfl) (fun W h => setB h _ _) (fun W h => mould1_ok _ _ _ _ _ _ _ m S (k * 7) w.heap.size W ((hS.below b0 hS.1).below h (by have := hS.1; simp only [World.size_alloc]; omega)) ho ((h.cell (by simp)).trans (by simp)) (by have := h.size; simp at this; omega) h0 h1 hf))
  have B0 := hide b0
  clear b0 hb hS
  go_enter Try.func38, Try.ntmps38
  go_wp2_with fail
  refine HC.out.mono ?_
  rintro e w1 ⟨rfl, hb1⟩
  go_wp2_with fail
  go_ret
  exact ⟨rfl, (setB B0.out _ _).trans (hb1.mono (by simp only [World.size_alloc]; omega))⟩
theorem dry_arg (b S n k : Nat) (spv ov : Value) (room m : Int) (x : Wa) (w : World) (hb : Blk w b 148 #[spv, .int .i64 room, .slice (some ⟨S, 0, none⟩) n n, ov]) (hn : n ≤ 20) (hk : k < n) (hS : KindW w S (k * 7) x) (ho : OkW x) (br : Int) (h0 : 0 ≤ m) (h1 : m ≤ 1000000000) (hbr : ¬ (0 ≤ br ∧ br ≤ m)) :
    Calls Try.prog 39 #[.pointer (some ⟨b, 0, none⟩), .int .i64 k, .int .i64 m, .int .i64 br] w fun e w' => e = .returned (.int .i64 2) ∧ Below w.heap.size w w' := by
  have b0 : Below w.heap.size w ((w.alloc (.cells #[.int .i64 m] 3)).alloc (.cells #[.int .i64 br] 3)) := ((Below.refl _ _).alloc (Nat.le_refl _) _).alloc (by simp) _
  have q1 : ((w.alloc (.cells #[.int .i64 m] 3)).alloc (.cells #[.int .i64 br] 3)).heap.size = w.heap.size + 1 + 1 := by simp
  have HC := hide (change_ok b S n k spv ov room m 2 84 #[.pointer (some ⟨w.heap.size, 0, none⟩), .pointer (some ⟨w.heap.size + 1, 0, none⟩)] id _ (hb.ext b0) hn hk h0 h1 (enters_of Try.func84 (by kernel_rfl) rfl) ?_ (fun W h => dry1_arg _ _ _ _ _ _ _ m br S (k * 7) w.heap.size (w.heap.size + 1) W ((hS.below b0 hS.1).below h (by have := hS.1; omega)) ho ((h.cell (by simp; omega)).trans (by simp [go_sem])) ((h.cell (by simp)).trans (by simp [go_sem])) hbr))
  · have B0 := hide b0
    clear b0 hb hS q1
    go_enter Try.func39, Try.ntmps39
    go_wp2_with fail
    refine HC.out.mono ?_
    rintro e w1 ⟨rfl, hb1⟩
    go_wp2_with fail
    go_ret
    exact ⟨rfl, B0.out.trans (hb1.mono (by simp only [World.size_alloc]; omega))⟩
  · exact fun W h => h
theorem dry_state (b S n k : Nat) (spv ov : Value) (room m : Int) (x : Wa) (w : World) (hb : Blk w b 148 #[spv, .int .i64 room, .slice (some ⟨S, 0, none⟩) n n, ov]) (hn : n ≤ 20) (hk : k < n) (hS : KindW w S (k * 7) x) (ho : OkW x) (br : Int) (h0 : 0 ≤ m) (h1 : m ≤ 1000000000) (hbr : 0 ≤ br ∧ br ≤ m) (hlt : x.wet < m) :
    Calls Try.prog 39 #[.pointer (some ⟨b, 0, none⟩), .int .i64 k, .int .i64 m, .int .i64 br] w fun e w' => e = .returned (.int .i64 9) ∧ Below w.heap.size w w' := by
  have b0 : Below w.heap.size w ((w.alloc (.cells #[.int .i64 m] 3)).alloc (.cells #[.int .i64 br] 3)) := ((Below.refl _ _).alloc (Nat.le_refl _) _).alloc (by simp) _
  have q1 : ((w.alloc (.cells #[.int .i64 m] 3)).alloc (.cells #[.int .i64 br] 3)).heap.size = w.heap.size + 1 + 1 := by simp
  have HC := hide (change_ok b S n k spv ov room m 9 84 #[.pointer (some ⟨w.heap.size, 0, none⟩), .pointer (some ⟨w.heap.size + 1, 0, none⟩)] id _ (hb.ext b0) hn hk h0 h1 (enters_of Try.func84 (by kernel_rfl) rfl) ?_ (fun W h => dry1_state _ _ _ _ _ _ _ m br S (k * 7) w.heap.size (w.heap.size + 1) W ((hS.below b0 hS.1).below h (by have := hS.1; omega)) ho ((h.cell (by simp; omega)).trans (by simp [go_sem])) ((h.cell (by simp)).trans (by simp [go_sem])) (by have := h.size; omega) hbr hlt))
  · have B0 := hide b0
    clear b0 hb hS q1
    go_enter Try.func39, Try.ntmps39
    go_wp2_with fail
    refine HC.out.mono ?_
    rintro e w1 ⟨rfl, hb1⟩
    go_wp2_with fail
    go_ret
    exact ⟨rfl, B0.out.trans (hb1.mono (by simp only [World.size_alloc]; omega))⟩
  · exact fun W h => h
def dryF (S o : Nat) (x : Wa) (m br : Int) (W : World) : World := mv (mv W S o (o + 1) (x.wet - m) (x.dry + m)) S (o + 1) (o + 5) (x.dry + m - br) (x.broken + br)
theorem dryF_B {B S o : Nat} {x : Wa} {m br : Int} {w W : World} (h : Below B w W) : Below B (dryF S o x m br w) (dryF S o x m br W) := mvB (mvB h _ _ _ _ _) _ _ _ _ _
theorem dry_ok (b S n k : Nat) (spv ov : Value) (room m : Int) (x : Wa) (w : World) (hb : Blk w b 148 #[spv, .int .i64 room, .slice (some ⟨S, 0, none⟩) n n, ov]) (hn : n ≤ 20) (hk : k < n) (hS : KindW w S (k * 7) x) (ho : OkW x) (br : Int) (h0 : 0 ≤ m) (h1 : m ≤ 1000000000) (hbr : 0 ≤ br ∧ br ≤ m) (hlt : m ≤ x.wet) :
    Calls Try.prog 39 #[.pointer (some ⟨b, 0, none⟩), .int .i64 k, .int .i64 m, .int .i64 br] w fun e w' => e = .returned (.int .i64 0) ∧ Below w.heap.size (dryF S (k * 7) x m br w) w' := by
  have b0 : Below w.heap.size w ((w.alloc (.cells #[.int .i64 m] 3)).alloc (.cells #[.int .i64 br] 3)) := ((Below.refl _ _).alloc (Nat.le_refl _) _).alloc (by simp) _
  have q1 : ((w.alloc (.cells #[.int .i64 m] 3)).alloc (.cells #[.int .i64 br] 3)).heap.size = w.heap.size + 1 + 1 := by simp
  have HC := hide (change_ok b S n k spv ov room m 0 84 #[.pointer (some ⟨w.heap.size, 0, none⟩), .pointer (some ⟨w.heap.size + 1, 0, none⟩)] (dryF S (k * 7) x m br) _ (hb.ext b0) hn hk h0 h1 (enters_of Try.func84 (by kernel_rfl) rfl) ?_ (fun W h => dry1_ok _ _ _ _ _ _ _ m br S (k * 7) w.heap.size (w.heap.size + 1) W ((hS.below b0 hS.1).below h (by have := hS.1; omega)) ho ((h.cell (by simp; omega)).trans (by simp [go_sem])) ((h.cell (by simp)).trans (by simp [go_sem])) (by have := h.size; omega) (by have := h.size; omega) (by have := hS.1; omega) (by have := hS.1; omega) hbr hlt))
  · have B0 := hide b0
    clear b0 hb hS q1
    go_enter Try.func39, Try.ntmps39
    go_wp2_with fail
    refine HC.out.mono ?_
    rintro e w1 ⟨rfl, hb1⟩
    go_wp2_with fail
    go_ret
    exact ⟨rfl, (dryF_B B0.out).trans (hb1.mono (by simp only [World.size_alloc]; omega))⟩
  · exact fun W h => dryF_B h
def agg7 (x : Wa) : Value := .agg #[.int .i64 x.wet, .int .i64 x.dry, .int .i64 x.burning, .int .i64 x.fired, .int .i64 x.laid, .int .i64 x.broken, .int .i64 x.missing]
def set7W (q : Nat) (x : Wa) (W : World) : World := set7 W q x.wet x.dry x.burning x.fired x.laid x.broken x.missing
theorem set7B {B q : Nat} {x : Wa} {w W : World} (h : Below B w W) : Below B (set7W q x w) (set7W q x W) := setB (setB (setB (setB (setB (setB (setB h _ _) _ _) _ _) _ _) _ _) _ _) _ _
theorem set7_blk {w : World} {q : Nat} {t : TypeId} {a b c d e f g : Value} (h : Blk w q t #[a, b, c, d, e, f, g]) (x : Wa) :
    Blk (set7W q x w) q t #[.int .i64 x.wet, .int .i64 x.dry, .int .i64 x.burning, .int .i64 x.fired, .int .i64 x.laid, .int .i64 x.broken, .int .i64 x.missing] := by
  unfold set7W set7
  simpa using ((((((h.set_ 0 (.int .i64 x.wet)).set_ 1 (.int .i64 x.dry)).set_ 2 (.int .i64 x.burning)).set_ 3 (.int .i64 x.fired)).set_ 4 (.int .i64 x.laid)).set_ 5 (.int .i64 x.broken)).set_ 6 (.int .i64 x.missing)
theorem size_set7 (q : Nat) (x : Wa) (W : World) : (set7W q x W).heap.size = W.heap.size := by simp [set7W, set7, size_set]
theorem set7_new {B q : Nat} {x : Wa} {w W : World} (h : Below B w W) (hq : B ≤ q) : Below B w (set7W q x W) :=
  ((((((h.setCell (p := ⟨q, 0, none⟩) hq _).setCell (p := ⟨q, 1, none⟩) hq _).setCell (p := ⟨q, 2, none⟩) hq _).setCell (p := ⟨q, 3, none⟩) hq _).setCell (p := ⟨q, 4, none⟩) hq _).setCell (p := ⟨q, 5, none⟩) hq _).setCell (p := ⟨q, 6, none⟩) hq _
theorem count_ok (b S n k : Nat) (spv ov : Value) (room : Int) (x : Wa) (w : World) (hb : Blk w b 148 #[spv, .int .i64 room, .slice (some ⟨S, 0, none⟩) n n, ov]) (hn : n ≤ 20) (hk : k < n) (hS : KindW w S (k * 7) x) (ho : OkW x) :
    Calls Try.prog 37 #[.pointer (some ⟨b, 0, none⟩), .int .i64 k] w fun e w' => e = .returned (.tuple #[agg7 x, .int .i64 0]) ∧ Below w.heap.size w w' := by
  have b0 : Below w.heap.size w (w.alloc (.cells #[.int .i64 0, .int .i64 0, .int .i64 0, .int .i64 0, .int .i64 0, .int .i64 0, .int .i64 0] 94)) := (Below.refl _ _).alloc (Nat.le_refl _) _
  have k0 := Blk.new w 94 #[.int .i64 0, .int .i64 0, .int .i64 0, .int .i64 0, .int .i64 0, .int .i64 0, .int .i64 0]
  have HC := hide (change_ok b S n k spv ov room 0 0 81 #[.pointer (some ⟨w.heap.size, 0, none⟩)] (set7W w.heap.size x) _ (hb.ext b0) hn hk (by omega) (by omega) (enters_of Try.func81 (by kernel_rfl) rfl) (fun W h => set7B h) (fun W h => count1_any _ _ _ _ _ _ _ S (k * 7) w.heap.size _ _ _ _ _ _ _ _ W ((hS.below b0 hS.1).below h (by have := hS.1; simp only [World.size_alloc]; omega)) ho (k0.ext h) (by have := hS.1; omega)))
  have B0 := hide b0
  have K0 := hide (set7_blk k0 x)
  clear b0 hb hS k0
  go_enter Try.func37, Try.ntmps37
  go_wp2_with fail
  refine HC.out.mono ?_
  rintro e w1 ⟨rfl, hb1⟩
  have K1 := K0.out.below hb1 (by simp)
  have c0 := K1.cell 0
  have c1 := K1.cell 1
  have c2 := K1.cell 2
  have c3 := K1.cell 3
  have c4 := K1.cell 4
  have c5 := K1.cell 5
  have c6 := K1.cell 6
  have f0 := K1.frozen 0
  have f1 := K1.frozen 1
  have f2 := K1.frozen 2
  have f3 := K1.frozen 3
  have f4 := K1.frozen 4
  have f5 := K1.frozen 5
  have f6 := K1.frozen 6
  have hz := K1.lt
  simp at c0 c1 c2 c3 c4 c5 c6
  clear K1
  go_wp2_with fail
  refine bodyPost_ret (v := .tuple #[agg7 x, .int .i64 0]) (by simp [results, Try.results37, go_sem, agg7, *]) rfl ⟨rfl, ?_⟩
  exact set7_new (x := x) ((set7_new B0.out (Nat.le_refl _)).trans (hb1.mono (by simp only [World.size_alloc]; omega))) (Nat.le_refl _)
end Go.Proofs.Ytlhekifmkkgjlaa
/- Contracts of chapter 8 on stacks: the iterators over cells and bricks. -/
namespace Go.Proofs.Ytlhekifmkkgjlaa
open Go Go.RowKit Go.Shelf
attribute [local go_sem] Oper.semAt_some
set_option maxHeartbeats 1000000
/-- a stack: its floor, and of each tier where its cells and weights lie, how many, and what they are -/
structure Stk where
  (wd hg : Int)
  (A : Option Addr)
  (nt cap : Nat)
  (ca wa : Nat → Option Addr)
  (cn cc wn wc : Nat → Nat)
  (cf wf : Nat → Nat → Int)
def Stk.u (s : Stk) (k : Nat) : Value := .slice (s.ca k) (s.cn k) (s.cc k)
def Stk.v (s : Stk) (k : Nat) : Value := .slice (s.wa k) (s.wn k) (s.wc k)
def StkR (w : World) (B : Nat) (s : Stk) : Prop :=
  s.nt ≤ 1000000 ∧ P2 w B s.A s.nt s.u s.v ∧ ∀ k, k < s.nt → s.cn k ≤ 1000000 ∧ s.wn k ≤ 1000000 ∧ IR w B (s.ca k) (s.cn k) (s.cf k) ∧ IR w B (s.wa k) (s.wn k) (s.wf k)
theorem StkR.below {w w' : World} {B B' : Nat} {s : Stk} (h : StkR w B s) (hb : Below B' w w') (hB : B ≤ B') : StkR w' B s :=
  ⟨h.1, h.2.1.below hb hB, fun k hk => ⟨(h.2.2 k hk).1, (h.2.2 k hk).2.1, (h.2.2 k hk).2.2.1.below hb hB, (h.2.2 k hk).2.2.2.below hb hB⟩⟩
theorem StkR.more {w : World} {B B' : Nat} {s : Stk} (h : StkR w B s) (hB : B ≤ B') : StkR w B' s :=
  ⟨h.1, h.2.1.more hB, fun k hk => ⟨(h.2.2 k hk).1, (h.2.2 k hk).2.1, (h.2.2 k hk).2.2.1.more hB, (h.2.2 k hk).2.2.2.more hB⟩⟩
/-- a pile in a box -/
def PileB (w : World) (p : Nat) (s : Stk) : Prop := Blk w p 131 #[.int .i64 s.wd, .int .i64 s.hg, .slice s.A s.nt s.cap]
theorem PileB.c2 {w : World} {p : Nat} {s : Stk} (h : PileB w p s) : w.cell? ⟨p, 2, none⟩ = some (.slice s.A s.nt s.cap) := by
  have := Blk.cell h 2
  simpa using this
/-- the cells of a brick below n -/
def cellsTo (x : Nat → Int) (b : Int) (n : Nat) : List Nat := (List.range n).filter fun i => decide (x i = b)
theorem cellsTo_yes {x : Nat → Int} {b : Int} {n : Nat} (h : x n = b) : cellsTo x b (n + 1) = cellsTo x b n ++ [n] := by
  simp [cellsTo, List.range_succ, List.filter_append, h]
theorem cellsTo_no {x : Nat → Int} {b : Int} {n : Nat} (h : x n ≠ b) : cellsTo x b (n + 1) = cellsTo x b n := by
  simp [cellsTo, List.range_succ, List.filter_append, h]
theorem cellsTo_len (x : Nat → Int) (b : Int) (n : Nat) : (cellsTo x b n).length ≤ n := by
  have := List.length_filter_le (fun i => decide (x i = b)) (List.range n)
  simpa [cellsTo] using this
theorem cellsTo_prefix (x : Nat → Int) (b : Int) (k n : Nat) (h : k ≤ n) : cellsTo x b k <+: cellsTo x b n := by
  induction n with
  | zero => obtain rfl : k = 0 := by omega
            exact List.prefix_refl _
  | succ n ih =>
    rcases Nat.lt_or_ge k (n + 1) with hl | hl
    · refine (ih (by omega)).trans ?_
      by_cases hx : x n = b
      · rw [cellsTo_yes hx]; exact List.prefix_append _ _
      · rw [cellsTo_no hx]; exact List.prefix_refl _
    · obtain rfl : k = n + 1 := by omega
      exact List.prefix_refl _
theorem cellsTo_lt (x : Nat → Int) (b : Int) (k n : Nat) (h : k < n) (hx : x k = b) : (cellsTo x b k).length < (cellsTo x b n).length := by
  have h1 := (cellsTo_prefix x b (k + 1) n h).length_le
  rw [cellsTo_yes hx] at h1
  simp at h1
  omega
/-- what a round of a loop over cells keeps: all below n0, and the box q -/
def KpB (n0 q : Nat) (W W' : World) : Prop := Below n0 W W' ∧ W'.heap[q]? = W.heap[q]?
theorem KpB.trans {n0 q : Nat} {A B C : World} (h : KpB n0 q A B) (k : KpB n0 q B C) : KpB n0 q A C := ⟨h.1.trans k.1, k.2.trans h.2⟩
theorem KpB.refl (n0 q : Nat) (W : World) : KpB n0 q W W := ⟨Below.refl _ _, rfl⟩
theorem KpB.blk {n0 q : Nat} {A B : World} (h : KpB n0 q A B) {t : TypeId} {cs : Array Value} (k : Blk A q t cs) : Blk B q t cs := h.2.trans k
theorem KpB.putObj {w : World} {n0 q : Nat} (hn : n0 ≤ w.heap.size) (hq : q < w.heap.size) (W : World) (l : Nat) (o o' : Obj) (hl : w.heap.size ≤ l) (h : W.heap[l]? = some o) (_ : o.isCells = false) (_ : o.isWalk = false) : KpB n0 q W (W.putObj l o') :=
  ⟨belowK_b hn W l o o' hl h ‹_› ‹_›, World.putObj_heap_other (by omega)⟩
abbrev Cell (n : Nat) := { c : Nat // c < n }
/-- the closure of cells -/
theorem cells1_in (F : Fence) (n : Nat) (hF : ∀ f, F.fn f) (hro : F.round = none) (hn : 1 ≤ n) (l p q n0 t : Nat) (b : Int) (s : Stk) (J Jx : List (Cell (s.cn t)) → World → Prop) (W : World)
    (hp : PileB W p s) (hq : Blk W q 59 #[.int .i64 t, .int .i64 b]) (hs : StkR W n0 s) (ht : t < s.nt)
    (hY : ∀ pre (x : Cell (s.cn t)) W, J pre W → pre.length < (cellsTo (s.cf t) b (s.cn t)).length → YieldAt F (n - 1) Try.prog l #[.int .i64 x.1] W fun e W' =>
      (e = .returned (.bool true) ∧ J (pre ++ [x]) W' ∧ KpB n0 q W W') ∨ (e = .returned (.bool false) ∧ Jx (pre ++ [x]) W')) (h0 : J [] W) :
    CallsIn F n Try.prog 102 #[.func (.yield l) #[] #[], .pointer (some ⟨p, 0, none⟩), .pointer (some ⟨q, 0, none⟩)] W fun e W' => (∃ v, e = .returned v) ∧
      ((∃ ys : List (Cell (s.cn t)), ys.map (·.1) = cellsTo (s.cf t) b (s.cn t) ∧ J ys W') ∨ (∃ pre : List (Cell (s.cn t)), pre.map (·.1) <+: cellsTo (s.cf t) b (s.cn t) ∧ Jx pre W')) := by
  obtain ⟨g1, g2, g3, -, -⟩ := blk2 hq
  have g4 := hp.c2
  obtain ⟨tb, toff, hA, htb, hu, -⟩ := hs.2.1.at_ ht
  obtain ⟨m1, -, hI, -⟩ := hs.2.2 t ht
  have i1 : (0 : Int) ≤ (t : Int) := by omega
  have i2 : (t : Int) < (s.nt : Int) := by omega
  unfold Stk.u at hu
  rw [hA] at g4
  generalize s.ca t = CA at hu hI
  have HYY := hide hY
  have HQ := hide hq
  have HI := hide hI
  have H0 := hide h0
  clear hY hI h0 hs hA hp hq
  refine callsIn_of_wp Try.func102 rfl (hF _) ?_ hro
  simp only [Try.ntmps102, List.size_toArray, List.length_cons, List.length_nil, Nat.reduceAdd, Nat.reduceSub, Array.replicate_succ, Array.replicate_zero, List.push_toArray, List.append_toArray, List.nil_append, List.cons_append]
  gi_wp2_with fail
  gi_loopw [15] (fun i wr => ∃ (k : Nat) (ys : List (Cell (s.cn t))), k ≤ s.cn t ∧ i = .int .i64 k ∧ Hid (ys.map (·.1) = cellsTo (s.cf t) b k ∧ J ys wr) ∧ KpB n0 q W wr) (fun i _ => s.cn t - (intOf i).toNat)
  case atStart => exact ⟨0, [], Nat.zero_le _, rfl, hide ⟨rfl, H0.out⟩, KpB.refl _ _ _⟩
  case round =>
    obtain ⟨k, ys, hk, rfl, hJs, hnx⟩ := hrel
    have c3 : wr.cell? ⟨q, 1, none⟩ = some (.int .i64 b) := (blk2 (hnx.blk HQ.out)).2.2.1
    by_cases hlt : k < s.cn t
    · obtain ⟨cb, coff, rfl, hcb, hcc⟩ := (HI.out.below hnx.1 (Nat.le_refl _)).at_ hlt
      have j1 : (0 : Int) ≤ (k : Int) := by omega
      have j2 : (k : Int) < (s.cn t : Int) := by omega
      have j3 : s.cn t < 9223372036854775807 := by omega
      by_cases hx : s.cf t k = b
      · obtain ⟨fn, tmps, assign, body, hy, hR⟩ := HYY.out ys ⟨k, hlt⟩ wr hJs.out.2 (by
          have h1 := cellsTo_lt (s.cf t) b k _ hlt hx
          rwa [← hJs.out.1, List.length_map] at h1)
        dsimp only at hy
        have HX := hide hx
        have hxb : (s.cf t k == b) = true := by simpa using hx
        have HR := hide hR
        clear hx hR
        gi_wp2_with fail
        refine HR.out.mono ?_
        rintro e W3 (⟨rfl, hJ3, hk3⟩ | ⟨rfl, hJx3⟩)
        · have HJ3 := hide hJ3
          clear hJ3
          gi_wp2_with fail
          go_roundw
          case rel => exact ⟨k + 1, ys ++ [⟨k, hlt⟩], by omega, by go_num, hide ⟨by rw [cellsTo_yes HX.out, List.map_append, hJs.out.1]; rfl, HJ3.out⟩, hnx.trans hk3⟩
          case measure => simp [intOf]; omega
        · have HJ3 := hide hJx3
          clear hJx3
          gi_wp2_with fail
          refine bodyPost_ret (results_none rfl _ _ _) rfl ?_
          exact ⟨⟨_, rfl⟩, .inr ⟨_, by
            rw [List.map_append, hJs.out.1]
            have h9 := cellsTo_prefix (s.cf t) b (k + 1) (s.cn t) (by omega)
            rw [cellsTo_yes HX.out] at h9
            exact h9, HJ3.out⟩⟩
      · have HX := hide hx
        have hxb : (s.cf t k == b) = false := by simpa using hx
        clear hx
        gi_wp2_with fail
        go_roundw
        case rel => exact ⟨k + 1, ys, by omega, by go_num, hide ⟨by rw [cellsTo_no HX.out]; exact hJs.out.1, hJs.out.2⟩, hnx⟩
        case measure => simp [intOf]; omega
    · obtain rfl : k = s.cn t := by omega
      gi_wp2_with fail
      go_end0
      exact ⟨⟨_, rfl⟩, .inl ⟨ys, hJs.out.1, hJs.out.2⟩⟩
end Go.Proofs.Ytlhekifmkkgjlaa
/- Contracts of chapter 8 on stacks: covered, cells, rests. -/
namespace Go.Proofs.Ytlhekifmkkgjlaa
open Go Go.RowKit Go.Shelf
attribute [local go_sem] Oper.semAt_some
set_option maxHeartbeats 1000000
def covB (s : Stk) (t : Int) (c : Nat) : Bool := decide (t < 0) || (decide (t < s.nt) && decide (0 ≤ s.cf t.toNat c))
theorem covered_neg (s : Stk) (t : Int) (c : Int) (w : World) (ht : t < 0) :
    Calls Try.prog 94 #[.agg #[.int .i64 s.wd, .int .i64 s.hg, .slice s.A s.nt s.cap], .int .i64 t, .int .i64 c] w fun e w' => e = .returned (.bool true) ∧ Below w.heap.size w w' := by
  go_enter Try.func94, Try.ntmps94
  go_wp2_with fail
  go_ret
  exact ⟨rfl, (Below.refl _ _).alloc (Nat.le_refl _) _⟩
theorem covered_above (s : Stk) (t : Int) (c : Int) (w : World) (h0 : s.nt ≤ 1000000) (ht : s.nt ≤ t) :
    Calls Try.prog 94 #[.agg #[.int .i64 s.wd, .int .i64 s.hg, .slice s.A s.nt s.cap], .int .i64 t, .int .i64 c] w fun e w' => e = .returned (.bool false) ∧ Below w.heap.size w w' := by
  have h1 : ¬ t < 0 := by omega
  go_enter Try.func94, Try.ntmps94
  go_wp2_with fail
  go_ret
  exact ⟨rfl, (Below.refl _ _).alloc (Nat.le_refl _) _⟩
theorem covered_in (s : Stk) (t c : Nat) (w : World) (hs : StkR w w.heap.size s) (ht : t < s.nt) (hc : c < s.cn t) :
    Calls Try.prog 94 #[.agg #[.int .i64 s.wd, .int .i64 s.hg, .slice s.A s.nt s.cap], .int .i64 t, .int .i64 c] w fun e w' => e = .returned (.bool (decide (0 ≤ s.cf t c))) ∧ Below w.heap.size w w' := by
  obtain ⟨tb, toff, hA, htb, hu, -⟩ := hs.2.1.at_ ht
  obtain ⟨m1, -, hI, -⟩ := hs.2.2 t ht
  unfold Stk.u at hu
  obtain ⟨cb, coff, hca, hcb, hcc⟩ := hI.at_ hc
  rw [hca] at hu
  have m0 := hs.1
  clear hs hI hca
  rw [hA]
  clear hA
  have i1 : (0 : Int) ≤ (t : Int) := by omega
  have i2 : (t : Int) < (s.nt : Int) := by omega
  have i3 : (0 : Int) ≤ (c : Int) := by omega
  have i4 : (c : Int) < (s.cn t : Int) := by omega
  go_enter Try.func94, Try.ntmps94
  go_wp2_with fail
  go_ret
  exact ⟨rfl, (Below.refl _ _).alloc (Nat.le_refl _) _⟩
theorem covered_any (s : Stk) (t : Int) (c : Nat) (w : World) (hs : StkR w w.heap.size s) (hc : ∀ k : Nat, (k : Int) = t → k < s.nt → c < s.cn k) :
    Calls Try.prog 94 #[.agg #[.int .i64 s.wd, .int .i64 s.hg, .slice s.A s.nt s.cap], .int .i64 t, .int .i64 c] w fun e w' => e = .returned (.bool (covB s t c)) ∧ Below w.heap.size w w' := by
  rcases (by omega : t < 0 ∨ (s.nt : Int) ≤ t ∨ (0 ≤ t ∧ t < s.nt)) with h | h | ⟨h1, h2⟩
  · have : covB s t c = true := by simp [covB, h]
    rw [this]; exact covered_neg s t c w h
  · have : covB s t c = false := by
      have h3 : ¬ t < 0 := by omega
      have h4 : ¬ t < s.nt := by omega
      simp only [covB, decide_eq_false h3, decide_eq_false h4, Bool.false_and, Bool.or_false]
    rw [this]; exact covered_above s t c w hs.1 h
  · obtain ⟨k, rfl⟩ := Int.eq_ofNat_of_zero_le h1
    have : covB s k c = decide (0 ≤ s.cf k c) := by
      have h3 : ¬ (k : Int) < 0 := by omega
      simp only [covB, decide_eq_false h3, decide_eq_true h2, Bool.false_or, Bool.true_and, Int.toNat_natCast]
    rw [this]; exact covered_in s k c w hs (by omega) (hc k rfl (by omega))
theorem cells_any (s : Stk) (t b : Int) (w : World) :
    Calls Try.prog 69 #[.agg #[.int .i64 s.wd, .int .i64 s.hg, .slice s.A s.nt s.cap], .agg #[.int .i64 t, .int .i64 b]] w fun e w' => e = .returned (.func (.func 102) #[] #[.pointer (some ⟨w.heap.size, 0, none⟩), .pointer (some ⟨w.heap.size + 1, 0, none⟩)]) ∧ (w.alloc (.cells #[.int .i64 s.wd, .int .i64 s.hg, .slice s.A s.nt s.cap] 131)).alloc (.cells #[.int .i64 t, .int .i64 b] 59) = w' := by
  go_enter Try.func69, Try.ntmps69
  go_wp2_with fail
  go_ret
  exact ⟨rfl, rfl⟩
theorem cells_stops (F : Fence) (n : Nat) (hF : ∀ f, F.fn f) (hro : F.round = none) (hn : 1 ≤ n) (p q n0 t : Nat) (b : Int) (s : Stk) (w : World) (hp : PileB w p s) (hq : Blk w q 59 #[.int .i64 t, .int .i64 b]) (hn0 : n0 ≤ w.heap.size) (hs : StkR w n0 s) (ht : t < s.nt) :
    SeqStopsK F n Try.prog 102 #[.pointer (some ⟨p, 0, none⟩), .pointer (some ⟨q, 0, none⟩)] (fun x : Cell (s.cn t) => #[.int .i64 x.1]) (KpB n0 q) (fun ys => ys.map (·.1) = cellsTo (s.cf t) b (s.cn t)) (fun pre => pre.map (·.1) <+: cellsTo (s.cf t) b (s.cn t)) (cellsTo (s.cf t) b (s.cn t)).length w := fun l J Jx W hW _ _ hY h0 =>
  cells1_in F n hF hro hn l p q n0 t b s J Jx W (hp.ext hW) (hq.ext hW) (hs.below (hW.mono hn0) (Nat.le_refl _)) ht hY h0
theorem Blk.keptN {W W' : World} {g : Nat} {t : TypeId} {cs : Array Value} (h : Blk W g t cs) {row : Option Nat} (hg : W.grownBy W' row) (hr : ∀ r, row = some r → ∃ o : Obj, W.heap[r]? = some o ∧ o.isCells = false) : Blk W' g t cs :=
  h.grown hg (fun e => by
    obtain ⟨o, ho, hc⟩ := hr g e.symm
    unfold Blk at h
    rw [h] at ho
    cases ho; cases hc)
theorem ownN {W W' : World} {base : Nat} {e : TypeId} {size k : Nat} {v : Value} {xs : List Value} (h : W.ownsRow base e size v k xs) {row : Option Nat} (hg : W.grownBy W' row) (hr : ∀ r, row = some r → ∃ o : Obj, W.heap[r]? = some o ∧ o.isCells = false) : W'.ownsRow base e size v k xs := by
  obtain ⟨h1, h2⟩ := h
  refine ⟨h1, ?_⟩
  rcases h2 with h2 | ⟨g, cap, cur, hv, hg0, hh, hrest⟩
  · exact .inl h2
  · exact .inr ⟨g, cap, cur, hv, hg0, Blk.keptN (t := e) hh hg hr, hrest⟩
theorem keepsO {W W' : World} (h : Below W.heap.size W W') : KeepsOthers W W' := ⟨h.size, fun k o hk _ => by
  rcases Nat.lt_or_ge k W.heap.size with hl | hl
  · exact (h.block k hl).trans hk
  · rw [Array.getElem?_eq_none hl] at hk; cases hk⟩
theorem ownBelow {W W' : World} {base : Nat} {e : TypeId} {size k : Nat} {v : Value} {xs : List Value} (h : W.ownsRow base e size v k xs) (hb : Below W.heap.size W W') : W'.ownsRow base e size v k xs := by
  obtain ⟨h1, h2⟩ := h
  refine ⟨h1, ?_⟩
  rcases h2 with h2 | ⟨g, cap, cur, hv, hg0, hh, hrest⟩
  · exact .inl h2
  · exact .inr ⟨g, cap, cur, hv, hg0, Blk.ext (t := e) hh hb, hrest⟩
theorem own_shape {W : World} {base : Nat} {e : TypeId} {size k : Nat} {v : Value} {xs : List Value} (h : W.ownsRow base e size v k xs) : ∃ A c, v = .slice A k c := by
  rcases h.2 with ⟨rfl, rfl⟩ | ⟨g, cap, cur, rfl, _⟩
  · exact ⟨none, 0, rfl⟩
  · exact ⟨_, _, rfl⟩
def restL (s : Stk) (t : Nat) (b : Int) : List Nat := (cellsTo (s.cf t) b (s.cn t)).filter fun c => covB s ((t : Int) - 1) c
def iv' (c : Nat) : Value := .int .i64 c
def RestsPost (s : Stk) (t : Nat) (b : Int) (w : World) (e : Ending) (w' : World) : Prop :=
  ∃ v, e = .returned v ∧ w'.ownsRow w.heap.size 3 1 v (restL s t b).length ((restL s t b).map iv') ∧ Below w.heap.size w w'
theorem rests_any (s : Stk) (t : Nat) (b : Int) (w : World) (hs : StkR w w.heap.size s) (ht : t < s.nt) (hc : ∀ k, k < s.nt → s.cn k = s.cn t) :
    Calls Try.prog 104 #[.agg #[.int .i64 s.wd, .int .i64 s.hg, .slice s.A s.nt s.cap], .agg #[.int .i64 t, .int .i64 b]] w (RestsPost s t b w) := by
  refine (callsIn_wide (n := 9)).1 ?_
  obtain ⟨F, hFw⟩ : ∃ F : Fence, F = Fence.wide := ⟨_, rfl⟩
  rw [← hFw]
  have hF : ∀ f, F.fn f := by rw [hFw]; exact fun _ => trivial
  have hro : F.round = none := by rw [hFw]; rfl
  have hwd : ∀ {n f args w R}, Calls Try.prog f args w R → CallsIn F n Try.prog f args w R := by rw [hFw]; exact fun h => callsIn_wide.2 h
  clear hFw
  refine callsIn_of_wp_marks Try.func104 rfl (hF _) ?_ hro
  simp only [Try.ntmps104, List.size_toArray, List.length_cons, List.length_nil, Nat.reduceAdd, Nat.reduceSub, Array.replicate_succ, Array.replicate_zero, List.push_toArray, List.append_toArray, List.nil_append, List.cons_append]
  gi_wp2_with (gi_at_call 69; refine (hwd (cells_any s t b _)).mono ?_; rintro e w1 ⟨rfl, rfl⟩)
  have k0 : PileB (((((w.alloc (.cells #[.int .i64 s.wd, .int .i64 s.hg, .slice s.A s.nt s.cap] 131)).alloc (.cells #[.int .i64 t, .int .i64 b] 59)).alloc (.cells #[.slice none 0 0] 56)).alloc (.cells #[.int .i64 s.wd, .int .i64 s.hg, .slice s.A s.nt s.cap] 131)).alloc (.cells #[.int .i64 t, .int .i64 b] 59)) w.heap.size s := ((((Blk.new w _ _).alloc _).alloc _).alloc _).alloc _
  have k1 : Blk (((((w.alloc (.cells #[.int .i64 s.wd, .int .i64 s.hg, .slice s.A s.nt s.cap] 131)).alloc (.cells #[.int .i64 t, .int .i64 b] 59)).alloc (.cells #[.slice none 0 0] 56)).alloc (.cells #[.int .i64 s.wd, .int .i64 s.hg, .slice s.A s.nt s.cap] 131)).alloc (.cells #[.int .i64 t, .int .i64 b] 59)) (w.heap.size + 1) 59 #[.int .i64 t, .int .i64 b] := by simpa using (((Blk.new (w.alloc (.cells #[.int .i64 s.wd, .int .i64 s.hg, .slice s.A s.nt s.cap] 131)) _ _).alloc _).alloc _).alloc _
  have k2 : Blk (((((w.alloc (.cells #[.int .i64 s.wd, .int .i64 s.hg, .slice s.A s.nt s.cap] 131)).alloc (.cells #[.int .i64 t, .int .i64 b] 59)).alloc (.cells #[.slice none 0 0] 56)).alloc (.cells #[.int .i64 s.wd, .int .i64 s.hg, .slice s.A s.nt s.cap] 131)).alloc (.cells #[.int .i64 t, .int .i64 b] 59)) (w.heap.size + 1 + 1) 56 #[.slice none 0 0] := by simpa using ((Blk.new ((w.alloc (.cells #[.int .i64 s.wd, .int .i64 s.hg, .slice s.A s.nt s.cap] 131)).alloc (.cells #[.int .i64 t, .int .i64 b] 59)) 56 #[.slice none 0 0]).alloc _).alloc _
  have k3 : PileB (((((w.alloc (.cells #[.int .i64 s.wd, .int .i64 s.hg, .slice s.A s.nt s.cap] 131)).alloc (.cells #[.int .i64 t, .int .i64 b] 59)).alloc (.cells #[.slice none 0 0] 56)).alloc (.cells #[.int .i64 s.wd, .int .i64 s.hg, .slice s.A s.nt s.cap] 131)).alloc (.cells #[.int .i64 t, .int .i64 b] 59)) (w.heap.size + 1 + 1 + 1) s := by unfold PileB; simpa using (Blk.new (((w.alloc (.cells #[.int .i64 s.wd, .int .i64 s.hg, .slice s.A s.nt s.cap] 131)).alloc (.cells #[.int .i64 t, .int .i64 b] 59)).alloc (.cells #[.slice none 0 0] 56)) 131 #[.int .i64 s.wd, .int .i64 s.hg, .slice s.A s.nt s.cap]).alloc (.cells #[.int .i64 t, .int .i64 b] 59)
  have k4 : Blk (((((w.alloc (.cells #[.int .i64 s.wd, .int .i64 s.hg, .slice s.A s.nt s.cap] 131)).alloc (.cells #[.int .i64 t, .int .i64 b] 59)).alloc (.cells #[.slice none 0 0] 56)).alloc (.cells #[.int .i64 s.wd, .int .i64 s.hg, .slice s.A s.nt s.cap] 131)).alloc (.cells #[.int .i64 t, .int .i64 b] 59)) (w.heap.size + 1 + 1 + 1 + 1) 59 #[.int .i64 t, .int .i64 b] := by simpa using Blk.new ((((w.alloc (.cells #[.int .i64 s.wd, .int .i64 s.hg, .slice s.A s.nt s.cap] 131)).alloc (.cells #[.int .i64 t, .int .i64 b] 59)).alloc (.cells #[.slice none 0 0] 56)).alloc (.cells #[.int .i64 s.wd, .int .i64 s.hg, .slice s.A s.nt s.cap] 131)) 59 #[.int .i64 t, .int .i64 b]
  have k5 : (((((w.alloc (.cells #[.int .i64 s.wd, .int .i64 s.hg, .slice s.A s.nt s.cap] 131)).alloc (.cells #[.int .i64 t, .int .i64 b] 59)).alloc (.cells #[.slice none 0 0] 56)).alloc (.cells #[.int .i64 s.wd, .int .i64 s.hg, .slice s.A s.nt s.cap] 131)).alloc (.cells #[.int .i64 t, .int .i64 b] 59)).heap.size = w.heap.size + 5 := by simp
  have k6 : Below w.heap.size w (((((w.alloc (.cells #[.int .i64 s.wd, .int .i64 s.hg, .slice s.A s.nt s.cap] 131)).alloc (.cells #[.int .i64 t, .int .i64 b] 59)).alloc (.cells #[.slice none 0 0] 56)).alloc (.cells #[.int .i64 s.wd, .int .i64 s.hg, .slice s.A s.nt s.cap] 131)).alloc (.cells #[.int .i64 t, .int .i64 b] 59)) := (((((Below.refl _ _).alloc (Nat.le_refl _) _).alloc (by simp) _).alloc (by simp only [World.size_alloc]; omega) _).alloc (by simp only [World.size_alloc]; omega) _).alloc (by simp only [World.size_alloc]; omega) _
  generalize (((((w.alloc (.cells #[.int .i64 s.wd, .int .i64 s.hg, .slice s.A s.nt s.cap] 131)).alloc (.cells #[.int .i64 t, .int .i64 b] 59)).alloc (.cells #[.slice none 0 0] 56)).alloc (.cells #[.int .i64 s.wd, .int .i64 s.hg, .slice s.A s.nt s.cap] 131)).alloc (.cells #[.int .i64 t, .int .i64 b] 59)) = W0 at k0 k1 k2 k3 k4 k5 k6 ⊢
  have hst := cells_stops F (9 - 1) hF hro (by omega) (w.heap.size + 1 + 1 + 1) (w.heap.size + 1 + 1 + 1 + 1) w.heap.size t b s W0 k3 k4 (by omega) (hs.below k6 (Nat.le_refl _)) ht
  obtain ⟨i0, hi, hz0, hz1, hz2⟩ := info_parts info_int
  refine wpIn_rangeFunc_ownF hro (by omega) (gf := 102) (lb := #[.pointer (some ⟨w.heap.size + 1 + 1 + 1, 0, none⟩), .pointer (some ⟨w.heap.size + 1 + 1 + 1 + 1, 0, none⟩)]) rfl (hF _) (enters_of Try.func102 (by kernel_rfl) rfl)
    hst KpB.trans (KpB.putObj (by omega) (by omega)) (Below.refl _ _) (fun _ => rfl)
    (fun pre W => (∃ v, Blk W (w.heap.size + 1 + 1) 56 #[v] ∧ W.ownsRow w.heap.size 3 1 v ((pre.map (·.1)).filter fun c => covB s ((t : Int) - 1) c).length (((pre.map (·.1)).filter fun c => covB s ((t : Int) - 1) c).map iv')) ∧ PileB W w.heap.size s ∧ Blk W (w.heap.size + 1) 59 #[.int .i64 t, .int .i64 b] ∧ Blk W (w.heap.size + 1 + 1 + 1 + 1) 59 #[.int .i64 t, .int .i64 b] ∧ Below w.heap.size w W)
    (fun _ _ _ => False) ?hI (fun _ _ _ _ _ h _ _ => h) ⟨⟨_, k2, by simp, .inl ⟨rfl, rfl⟩⟩, k0, k1, k4, k6⟩
    (fun x => { tmps := #[.agg #[.int .i64 s.wd, .int .i64 s.hg, .slice s.A s.nt s.cap], .agg #[.int .i64 t, .int .i64 b], .pointer (some ⟨w.heap.size, 0, none⟩), .pointer (some ⟨w.heap.size + 1, 0, none⟩), .pointer (some ⟨w.heap.size + 1 + 1, 0, none⟩), .int .i64 x.1, .agg #[.int .i64 s.wd, .int .i64 s.hg, .slice s.A s.nt s.cap], .agg #[.int .i64 t, .int .i64 b], .func (.func 102) #[] #[.pointer (some ⟨w.heap.size + 1 + 1 + 1, 0, none⟩), .pointer (some ⟨w.heap.size + 1 + 1 + 1 + 1, 0, none⟩)], .int .i64 x.1, undef, undef, undef, undef, undef, undef, undef, undef, undef, undef, undef], defers := [] }) ?hassign ?hbody ?hdone ?hstop
  case hI =>
    rintro pre W W' row ⟨⟨v, h1, h2⟩, h3, h4, h5, h6⟩ hg hr
    have hr' := fun r e => (hr r e).2
    exact ⟨⟨v, h1.keptN hg hr', ownN h2 hg hr'⟩, h3.keptN hg hr', h4.keptN hg hr', h5.keptN hg hr', h6.trans ⟨hg.os, hg.tape, hg.output, hg.size, fun k hk => hg.block k (by have := h6.size; omega) (fun e => by have := (hr k e.symm).1; omega)⟩⟩
  case hassign =>
    intro l x W K hK
    gi_wp2
    exact hK
  case hbody =>
    rintro l pre x W ⟨⟨v, h1, h2⟩, h3, h4, h5, h6⟩ hlt
    obtain ⟨A, c, rfl⟩ := own_shape h2
    have c0 := Blk.cell h3 0
    have c1 := Blk.cell h3 1
    have c2 := Blk.cell h3 2
    simp at c0 c1 c2
    obtain ⟨d1, d2, d3, -, -⟩ := blk2 h4
    obtain ⟨e1, e2, e3⟩ := blk1 h1
    have z0 : w.heap.size < W.heap.size := Blk.lt h3
    have HC := hide (covered_any s ((t : Int) - 1) x.1 W ((hs.below h6 (Nat.le_refl _)).more h6.size) (fun k _ hkn => by rw [hc k hkn]; exact x.2))
    have P1 := hide h1
    have P2 := hide h2
    have P3 := hide h3
    have P4 := hide h4
    have P5 := hide h5
    have t1 : (t : Int) ≤ 1000000 := by have := hs.1; omega
    have t2 : (0 : Int) ≤ (t : Int) := by omega
    have HXL := hide x.2
    have HLT := hide hlt
    clear h1 h2 h3 h4 h5 hst k0 k1 k2 k3 k4 k5 k6 hlt
    rcases hcov : covB s ((t : Int) - 1) x.1 with _ | _
    · rw [hcov] at HC
      have HV := hide hcov
      clear hcov
      gi_wp2_with (gi_at_call 94; refine (CallsIn.inRound l (hwd HC.out)).mono ?_; rintro e w1 ⟨rfl, hb1⟩)
      refine ⟨keepsO hb1, ⟨hb1.mono h6.size, hb1.block _ P5.out.lt⟩, ⟨_, P1.out.ext hb1, ?_⟩, P3.out.ext hb1, P4.out.ext hb1, P5.out.ext hb1, h6.trans (hb1.mono h6.size)⟩
      rw [List.map_append, List.filter_append, List.map_cons, List.map_nil, List.filter_cons_of_neg (by simp [HV.out]), List.filter_nil, List.append_nil]
      exact ownBelow P2.out hb1
    · rw [hcov] at HC
      have HV := hide hcov
      clear hcov
      have hlen : ((pre.map (·.1)).filter fun c => covB s ((t : Int) - 1) c).length + 1 ≤ 1000000 := by
        have h1 := List.length_filter_le (fun c => covB s ((t : Int) - 1) c) (pre.map (·.1))
        have h2 := cellsTo_len (s.cf t) b (s.cn t)
        have h3 := (hs.2.2 t ht).1
        have h4 := HLT.out
        rw [List.length_map] at h1
        omega
      gi_wp2_with (first | (gi_at_call 94; refine (CallsIn.inRound l (hwd HC.out)).mono ?_; rintro e w1 ⟨rfl, hb1⟩; have P1' := hide (P1.out.ext hb1); obtain ⟨e1', e2', e3'⟩ := blk1 P1'.out; have hown1 := hide (ownBelow P2.out hb1); have hzw := hb1.size) | (gi_at_builtin; refine wpListIn_append_own _ rfl _ _ 56 rfl w.heap.size 3 i0 (.int .i64 0) 1 8 Try.underlying56 hi hz0 hz1 hz2 rfl (by decide) _ _ _ rfl (hown1.out.alloc _) ⟨w1.heap.size, 0, none⟩ 1 1 [.int .i64 x.1] rfl rfl (cell_one_new _ _ _) (by simp [Value.oneCell']) (by unfold maxLen; omega) (by omega) (by have := h6.size; simp; omega) ?_; intro v' w2 hown2 hgrow2 _; obtain ⟨A2, c2', rfl⟩ := own_shape hown2; obtain ⟨q1, q2, q3, q4, q5⟩ := Boxed.appended P1'.out (by decide) hown1.out (by have := h6.size; omega) (by omega) hown2 hgrow2; obtain ⟨e1'', e2'', e3''⟩ := blk1 (t := 56) q1))
      have hB1 := h6.trans (hb1.mono h6.size)
      have KB : ∀ g tt cs, tt ≠ 3 → g ≠ w.heap.size + 1 + 1 → Blk W g tt cs → Blk (w2.setCell ⟨w.heap.size + 1 + 1, 0, none⟩ (.slice A2 (((pre.map (·.1)).filter fun c => covB s ((t : Int) - 1) c).length + 1) c2')) g tt cs := fun g tt cs hne hg hb =>
        (((hb.ext hb1).alloc (.cells #[.int .i64 x.1] 3)).grown hgrow2 (fun e => own_blk_ne (hown1.out.alloc (.cells #[.int .i64 x.1] 3)) ((hb.ext hb1).alloc (.cells #[.int .i64 x.1] 3)) (Ne.symm hne) e.symm)).far (p := ⟨w.heap.size + 1 + 1, 0, none⟩) hg _
      refine ⟨(keepsO hb1).trans q4, ⟨(hb1.mono h6.size).trans q5, (KB _ _ _ (by decide) (by omega) P5.out).trans P5.out.symm⟩, ⟨_, q2, ?_⟩, KB _ _ _ (by decide) (by omega) P3.out, KB _ _ _ (by decide) (by omega) P4.out, KB _ _ _ (by decide) (by omega) P5.out, hB1.trans q5⟩
      rw [List.map_append, List.filter_append, List.map_cons, List.map_nil, List.filter_cons_of_pos (by simp [HV.out]), List.filter_nil, List.map_append, List.length_append]
      exact q3
  case hdone =>
    rintro D xs W hD hxs ⟨⟨v, h1, h2⟩, h3, h4, h5, h6⟩ hK
    rw [hxs] at h2
    obtain ⟨A, c, rfl⟩ := own_shape h2
    have P2 := hide h2
    obtain ⟨e1, e2, e3⟩ := blk1 h1
    have P1 := hide h1
    clear h1 h2 hst k0 k1 k2 k3 k4 k6 h3 h4 h5 hxs
    gi_wp2_with fail
    have hK' := (KeepsOthers.setCell W ⟨w.heap.size + 1 + 1, 0, none⟩ (.slice A ((cellsTo (s.cf t) b (s.cn t)).filter fun c => covB s ((t : Int) - 1) c).length c)).same D _ hK rfl
    refine ⟨by simp, .inl ⟨_, _, rfl, run_takeDeferred hK', ?_⟩⟩
    have hgp := grownBy_putObj' (W.setCell ⟨w.heap.size + 1 + 1, 0, none⟩ (.slice A ((cellsTo (s.cf t) b (s.cn t)).filter fun c => covB s ((t : Int) - 1) c).length c)) D (.deferred none)
    have hP : Blk (W.setCell ⟨w.heap.size + 1 + 1, 0, none⟩ (.slice A ((cellsTo (s.cf t) b (s.cn t)).filter fun c => covB s ((t : Int) - 1) c).length c)) (w.heap.size + 1 + 1) 56 #[.slice A ((cellsTo (s.cf t) b (s.cn t)).filter fun c => covB s ((t : Int) - 1) c).length c] := by simpa using P1.out.set_ 0 (.slice A ((cellsTo (s.cf t) b (s.cn t)).filter fun c => covB s ((t : Int) - 1) c).length c)
    obtain ⟨f1, f2, f3⟩ := blk1 (hP.keptN hgp (fun r e => by cases e; exact ⟨_, hK', rfl⟩))
    refine ⟨.slice A ((cellsTo (s.cf t) b (s.cn t)).filter fun c => covB s ((t : Int) - 1) c).length c, by simp [results, Try.results104, go_sem, f2], ?_⟩
    refine ⟨_, rfl, ownN (ownsRow_setCell_other P2.out (own_blk_ne P2.out P1.out (by decide)) _) hgp (fun r e => by cases e; exact ⟨_, hK', rfl⟩), (h6.setCell (by simp only []; omega) _).trans (belowK_b (w := w) (Nat.le_refl _) _ D _ _ (by omega) hK' rfl rfl)⟩
  case hstop =>
    rintro D c pre W hD hSp h hK
    exact h.elim
end Go.Proofs.Ytlhekifmkkgjlaa
/- Contracts of chapter 8 on loads: lowest terms, sums. -/
namespace Go.Proofs.Ytlhekifmkkgjlaa
open Go Go.RowKit
set_option maxHeartbeats 1000000
theorem gcd_step (a b : Nat) : Nat.gcd b (a % b) = Nat.gcd a b := by rw [Nat.gcd_comm b (a % b), ← Nat.gcd_rec, Nat.gcd_comm]
/-- a load in lowest terms, and whether it is not too great -/
def lowP (n d : Nat) : Nat × Nat := (n / Nat.gcd n d, d / Nat.gcd n d)
def fitP (x : Nat × Nat) : Bool := decide (x.1 ≤ 1000000000) && decide (x.2 ≤ 1000000000)
def capP (x : Nat × Nat) : Nat × Nat := if fitP x then x else (0, 1)
def lowS (n d : Nat) : Nat × Nat := capP (lowP n d)
theorem capP_yes {x : Nat × Nat} (h : fitP x = true) : capP x = x := by simp [capP, h]
theorem capP_no {x : Nat × Nat} (h : fitP x = false) : capP x = (0, 1) := by simp [capP, h]
def ldV (x : Nat × Nat) : Value := .agg #[.int .i64 x.1, .int .i64 x.2]
def offW (w : World) (sc : Nat) (ok : Bool) : World := if ok then w else w.setCell ⟨sc, 0, none⟩ (.bool true)
theorem size_offW (w : World) (sc : Nat) (ok : Bool) : (offW w sc ok).heap.size = w.heap.size := by unfold offW; split <;> simp [size_set]
theorem offB {B : Nat} {w W : World} (h : Below B w W) (sc : Nat) (ok : Bool) : Below B (offW w sc ok) (offW W sc ok) := by
  unfold offW; split
  · exact h
  · exact setB h _ _
theorem lowest_core (n d sc G N D : Nat) (o : Bool) (w : World) (hn : n ≤ 4000000000000000000) (hd : d ≤ 4000000000000000000) (hG : Nat.gcd n d = G) (hN : n / G = N) (hD : d / G = D) (g0 : 0 < G) (hs : Blk w sc 176 #[.bool o]) :
    Calls Try.prog 108 #[.pointer (some ⟨sc, 0, none⟩), .int .i64 n, .int .i64 d] w fun e w' => e = .returned (ldV (capP (N, D))) ∧ Below w.heap.size (offW w sc (fitP (N, D))) w' := by
  have k0 := hide (Blk.new w 76 #[.int .i64 0, .int .i64 0])
  have q1 : N ≤ n := hN ▸ Nat.div_le_self _ _
  have q2 : D ≤ d := hD ▸ Nat.div_le_self _ _
  have x1 : (n : Int) / (G : Int) = (N : Int) := by rw [← hN]; rfl
  have x2 : (d : Int) / (G : Int) = (D : Int) := by rw [← hD]; rfl
  have w1 : wrap64 (N : Int) = N := IntWalk.wrap64_in _ (by omega)
  have w2 : wrap64 (D : Int) = D := IntWalk.wrap64_in _ (by omega)
  have X := hide (And.intro (And.intro x1 x2) (And.intro w1 w2))
  have HG := hide hG
  clear x1 x2 w1 w2 hN hD hG
  go_enter Try.func108, Try.ntmps108
  go_wp2_with fail
  go_loopw [7, 8] (fun i j wr => ∃ a b : Nat, i = .int .i64 a ∧ j = .int .i64 b ∧ a ≤ 4000000000000000000 ∧ b ≤ 4000000000000000000 ∧ Hid (Nat.gcd a b = G) ∧ Below (w.heap.size + 1) (w.alloc (.cells #[.int .i64 0, .int .i64 0] 76)) wr ∧ Hid (wr.heap.size = w.heap.size + 1)) (fun _ j _ => (intOf j).toNat)
  case atStart => exact ⟨n, d, rfl, rfl, hn, hd, HG, Below.refl _ _, hide (by simp)⟩
  case round =>
    obtain ⟨a, b, rfl, rfl, ha, hb, H, hB, HZ⟩ := hrel
    have hzz : w.heap.size < wr.heap.size := by have := HZ.out; omega
    rcases Nat.eq_zero_or_pos b with rfl | hb0
    · have ha' : a = G := by have := H.out; simpa using this
      subst ha'
      have g1 : ((a : Nat) : Int) ≠ 0 := by omega
      have g2 : (0 : Int) < ((a : Nat) : Int) := by omega
      go_wp2_with fail
      go_region
      simp only [X.out.1.1, X.out.1.2, X.out.2.1, X.out.2.2]
      have K1 := hide (k0.out.below hB (by omega))
      have hB0 : Below w.heap.size w wr := ((Below.refl _ _).alloc (Nat.le_refl _) _).trans (hB.mono (by omega))
      have S1 := hide (hs.ext hB0)
      have hsl : sc < w.heap.size := hs.lt
      obtain ⟨t0, t1, t2⟩ := blk1 S1.out
      clear hs k0
      obtain ⟨r0, r1, r2, r3, r4⟩ := blk2 K1.out
      by_cases f1 : N ≤ 1000000000
      · have u1 : ¬ (1000000000 : Int) < N := by omega
        by_cases f2 : D ≤ 1000000000
        · have fit := hide (show fitP (N, D) = true by simp [fitP, f1, f2])
          have u2 : ¬ (1000000000 : Int) < D := by omega
          go_wp2_with fail
          refine bodyPost_ret (v := ldV (N, D)) (by simp [results, Try.results108, go_sem, ldV, *]) rfl ⟨by rw [capP_yes fit.out], ?_⟩
          rw [fit.out]
          show Below w.heap.size w _
          exact ((set2B hB0 (Nat.le_refl _) _ _).alloc (by simp only [size_set]; omega) _).drew
        · have fit := hide (show fitP (N, D) = false by simp [fitP, f2])
          have u2 : (1000000000 : Int) < D := by omega
          go_wp2_with fail
          refine bodyPost_ret (v := ldV (0, 1)) (by simp [results, Try.results108, go_sem, ldV, *]) rfl ⟨by rw [capP_no fit.out], ?_⟩
          rw [fit.out]
          show Below w.heap.size (w.setCell ⟨sc, 0, none⟩ (.bool true)) _
          exact ((set2B (setB hB0 ⟨sc, 0, none⟩ (.bool true)) (Nat.le_refl _) _ _).alloc (by simp only [size_set]; omega) _).drew
      · have fit := hide (show fitP (N, D) = false by simp [fitP, f1])
        have u1 : (1000000000 : Int) < N := by omega
        go_wp2_with fail
        refine bodyPost_ret (v := ldV (0, 1)) (by simp [results, Try.results108, go_sem, ldV, *]) rfl ⟨by rw [capP_no fit.out], ?_⟩
        rw [fit.out]
        show Below w.heap.size (w.setCell ⟨sc, 0, none⟩ (.bool true)) _
        exact ((set2B (setB hB0 ⟨sc, 0, none⟩ (.bool true)) (Nat.le_refl _) _ _).alloc (by simp only [size_set]; omega) _).drew
    · have hb1 : ((b : Int) != 0) = true := by simp; omega
      have hb2 : (0 : Int) < (b : Int) := by omega
      have hm : a % b < b := Nat.mod_lt _ hb0
      have e1 : ((a : Int)).tmod (b : Int) = ((a % b : Nat) : Int) := by rw [Int.tmod_eq_emod_of_nonneg (by omega)]; rfl
      have e3 : IntKind.i64.wrap ((a % b : Nat) : Int) = ((a % b : Nat) : Int) := IntWalk.i64_in _ (by omega)
      go_wp2_with fail
      go_region
      clear e1 e3
      go_wp2_with fail
      go_roundw
      case rel => exact ⟨b, a % b, rfl, rfl, hb, by omega, hide (by rw [gcd_step]; exact H.out), hB.drew, HZ⟩
      case measure => simp [intOf]; omega
theorem lowest_any (a b : Int) (n d sc : Nat) (o : Bool) (w : World) (ha : a = (n : Int)) (hb : b = (d : Int)) (hn : n ≤ 4000000000000000000) (hd : d ≤ 4000000000000000000) (hd0 : 0 < d) (hs : Blk w sc 176 #[.bool o]) :
    Calls Try.prog 108 #[.pointer (some ⟨sc, 0, none⟩), .int .i64 a, .int .i64 b] w fun e w' => e = .returned (ldV (lowS n d)) ∧ Below w.heap.size (offW w sc (fitP (lowP n d))) w' := by
  subst ha hb
  exact lowest_core n d sc _ _ _ o w hn hd rfl rfl rfl (Nat.gcd_pos_of_pos_right _ hd0) hs
/-- a load that is not too great -/
def LdOk (x : Nat × Nat) : Prop := x.1 ≤ 1000000000 ∧ 1 ≤ x.2 ∧ x.2 ≤ 1000000000
theorem lowS_ok (n d : Nat) (h : 0 < d) : LdOk (lowS n d) := by
  unfold lowS
  rcases hf : fitP (lowP n d) with _ | _
  · rw [capP_no hf]; exact ⟨by simp, by simp, by simp⟩
  · rw [capP_yes hf]
    simp only [fitP, Bool.and_eq_true, decide_eq_true_eq] at hf
    exact ⟨hf.1, Nat.div_pos (Nat.le_of_dvd h (Nat.gcd_dvd_right _ _)) (Nat.gcd_pos_of_pos_right _ h), hf.2⟩
def addN (x y : Nat × Nat) : Nat := x.1 * y.2 + y.1 * x.2
def addD (x y : Nat × Nat) : Nat := x.2 * y.2
theorem mulN_bd {a b M N : Nat} (h1 : a ≤ M) (h2 : b ≤ N) : a * b ≤ M * N := Nat.mul_le_mul h1 h2
theorem add_any (x y : Nat × Nat) (sc : Nat) (o : Bool) (w : World) (hx : LdOk x) (hy : LdOk y) (hs : Blk w sc 176 #[.bool o]) :
    Calls Try.prog 107 #[.pointer (some ⟨sc, 0, none⟩), ldV x, ldV y] w fun e w' => e = .returned (ldV (lowS (addN x y) (addD x y))) ∧ Below w.heap.size (offW w sc (fitP (lowP (addN x y) (addD x y)))) w' := by
  obtain ⟨xn, xd⟩ := x
  obtain ⟨yn, yd⟩ := y
  obtain ⟨h1, h2, h3⟩ := hx
  obtain ⟨h4, h5, h6⟩ := hy
  simp only at h1 h2 h3 h4 h5 h6
  have m1 : xn * yd ≤ 1000000000 * 1000000000 := mulN_bd h1 h6
  have m2 : yn * xd ≤ 1000000000 * 1000000000 := mulN_bd h4 h3
  have m3 : xd * yd ≤ 1000000000 * 1000000000 := mulN_bd h3 h6
  have m4 : 0 < xd * yd := Nat.mul_pos h2 h5
  have i1 : (xn : Int) * (yd : Int) = ((xn * yd : Nat) : Int) := by simp
  have i2 : (yn : Int) * (xd : Int) = ((yn * xd : Nat) : Int) := by simp
  have i3 : (xd : Int) * (yd : Int) = ((xd * yd : Nat) : Int) := by simp
  have b1 : 0 ≤ (xn : Int) * (yd : Int) ∧ (xn : Int) * (yd : Int) ≤ 1000000000000000000 := by rw [i1]; omega
  have b2 : 0 ≤ (yn : Int) * (xd : Int) ∧ (yn : Int) * (xd : Int) ≤ 1000000000000000000 := by rw [i2]; omega
  have b3 : 0 ≤ (xd : Int) * (yd : Int) ∧ (xd : Int) * (yd : Int) ≤ 1000000000000000000 := by rw [i3]; omega
  have HC := hide (fun W (hB : Below w.heap.size w W) => lowest_any ((xn : Int) * (yd : Int) + (yn : Int) * (xd : Int)) ((xd : Int) * (yd : Int)) (addN (xn, xd) (yn, yd)) (addD (xn, xd) (yn, yd)) sc o W (by simp [addN]) (by simp [addD]) (by simp only [addN]; omega) (by simp only [addD]; omega) (by simp only [addD]; omega) (hs.ext hB))
  have hsl := hs.lt
  clear i1 i2 i3 m1 m2 m3 m4 hs
  unfold ldV
  generalize lowS (addN (xn, xd) (yn, yd)) (addD (xn, xd) (yn, yd)) = R at HC ⊢
  generalize fitP (lowP (addN (xn, xd) (yn, yd)) (addD (xn, xd) (yn, yd))) = ok at HC ⊢
  obtain ⟨rn, rd⟩ := R
  unfold ldV at HC
  have b0 : Below w.heap.size w (((w.alloc (.cells #[.int .i64 xn, .int .i64 xd] 76)).alloc (.cells #[.int .i64 yn, .int .i64 yd] 76)).alloc (.cells #[.int .i64 0, .int .i64 0] 76)) := (((Below.refl _ w).alloc (Nat.le_refl _) _).alloc (by simp) _).alloc (by simp only [World.size_alloc]; omega) _
  have k0 := Blk.new ((w.alloc (.cells #[.int .i64 xn, .int .i64 xd] 76)).alloc (.cells #[.int .i64 yn, .int .i64 yd] 76)) 76 #[.int .i64 0, .int .i64 0]
  simp only [World.size_alloc] at k0
  have B0 := hide b0
  have K0 := hide k0
  clear b0 k0
  go_enter Try.func107, Try.ntmps107
  go_wp2_with fail
  refine (HC.out _ B0.out).mono ?_
  rintro e w1 ⟨rfl, hb1⟩
  have K1 : Blk (offW (((w.alloc (.cells #[.int .i64 xn, .int .i64 xd] 76)).alloc (.cells #[.int .i64 yn, .int .i64 yd] 76)).alloc (.cells #[.int .i64 0, .int .i64 0] 76)) sc ok) (w.heap.size + 1 + 1) 76 #[.int .i64 0, .int .i64 0] := by
    unfold offW; split
    · exact K0.out
    · exact K0.out.far (p := ⟨sc, 0, none⟩) (by simp only []; omega) _
  obtain ⟨z1, r0, r1, r2, r3⟩ := blk2 (K1.below hb1 (by simp))
  clear K1
  go_wp2_with fail
  refine bodyPost_ret (v := .agg #[.int .i64 rn, .int .i64 rd]) (by simp [results, Try.results107, go_sem, *]) rfl ⟨rfl, ?_⟩
  have b9 := (offB B0.out sc ok).trans (hb1.mono (by simp only [World.size_alloc]; omega))
  exact set2B b9 (by omega) _ _
end Go.Proofs.Ytlhekifmkkgjlaa
/- Contracts of chapter 8 on loads: no loads; the reference's lowest terms. -/
namespace Go.Proofs.Ytlhekifmkkgjlaa
open Go Go.RowKit
set_option maxHeartbeats 1000000
theorem mul64_one (y : Nat) (w : World) (hy : y ≤ 1000000) :
    Calls Try.prog 123 #[.int .u64 1, .int .u64 y] w fun e w' => e = .returned (.tuple #[.int .u64 0, .int .u64 y]) ∧ w = w' := by
  have e1 : bits .and .u64 1 4294967295 = 1 := by decide +kernel
  have e2 : bits .and .u64 (y : Int) 4294967295 = y := by
    have h := u64_and_nat y 4294967295 (by omega) (by omega)
    rw [show (4294967295 : Nat) = 2 ^ 32 - 1 by decide, Nat.and_two_pow_sub_one_eq_mod, Nat.mod_eq_of_lt (by omega)] at h
    exact h
  have e3 : (y : Int) / 4294967296 = 0 := by omega
  have e4 : IntKind.u64.wrap (y : Int) = y := by rw [IntKind.wrap_u64]; omega
  have e5 : IntKind.u64.wrap 0 = 0 := by decide +kernel
  have e6 : bits .and .u64 0 4294967295 = 0 := by decide +kernel
  have E := hide (And.intro e1 (And.intro e2 (And.intro e3 (And.intro e4 (And.intro e5 e6)))))
  clear e1 e2 e3 e4 e5 e6
  go_enter Try.func123, Try.ntmps123
  go_wp2_with fail
  go_ret2
  obtain ⟨e1, e2, e3, e4, e5, e6⟩ := E.out
  exact ⟨by simp [e1, e2, e3, e4, e5, e6], rfl⟩
theorem mul_one (y : Nat) (w : World) (hy : y ≤ 1000000) :
    Calls Try.prog 120 #[.int .u64 1, .int .u64 y] w fun e w' => e = .returned (.tuple #[.int .u64 0, .int .u64 y]) ∧ w = w' := by
  go_enter Try.func120, Try.ntmps120
  go_wp2_with (go_at_call 123; refine (mul64_one y _ hy).mono ?_; rintro e w' ⟨rfl, rfl⟩)
  go_ret2
  exact ⟨rfl, rfl⟩
theorem info_load : (Try.prog.info? 76).map (fun i => (i.zero, i.size, i.bytes)) = some (some (.agg #[.int .i64 0, .int .i64 0]), 2, 16) := by kernel_rfl
theorem size_load : (Try.prog.info? 76).map (·.size) = some 2 := by kernel_rfl
/-- a slice of loads that owns its row -/
def LdRow (w : World) (base : Nat) (v : Value) (n : Nat) (x : Nat → Nat × Nat) : Prop := w.ownsRow base 76 2 v n (cellsOf 2 n fun k i => if i = 0 then .int .i64 (x k).1 else .int .i64 (x k).2)
theorem run_copyN {P : Program} (w : World) (dT sT ty elem : TypeId) (sz : Nat) (g o dLen dCap : Nat) (a : Addr) (sLen sCap : Nat) (cur : Array Value) (t : TypeId) (cs : List Value)
    (hu : P.underlying dT = some (.slice elem)) (hs : (P.info? elem).map (·.size) = some sz)
    (hg : w.heap[g]? = some (.cells cur t (0, 0))) (hn : cs.length = Nat.min sLen dLen * sz)
    (hsrc : ∀ j v, cs[j]? = some v → w.cell? (a.add j) = some v) (hfit : o + cs.length ≤ cur.size) (h1 : ∀ v ∈ cs, v.oneCell' = true) :
    (Builtin.copy_ #[dT, sT] ty #[.slice (some ⟨g, o, none⟩) dLen dCap, .slice (some a) sLen sCap]).run P w =
      .ok (goInt (Nat.min sLen dLen)) (w.setRow g (cur.toList.take o ++ cs ++ cur.toList.drop (o + cs.length)).toArray) := by
  have hl := run_loadCells_list (P := P) w a cs hsrc
  have hst := run_storeCells_at P g o t cs 0 cur w hg (by simpa using hfit) h1
  cases hq : P.info? elem with
  | none => simp [hq] at hs
  | some i =>
    have hi : i.size = sz := by simpa [hq] using hs
    simp [Builtin.copy_, run_underlying hu, Builtin.lenOf, Builtin.firstCells, sizeOf, typeInfo, hq, hi, ← hn, hl, hst]
theorem wpList_copyN {P : Program} {w : World} {ops : Array Oper} {rest : List Oper} {o : Oper} {a : Act} {Q : Exit → Act → World → Prop} (hgd : o.guard = none) (d s : Operand) (dT sT : TypeId)
    (ho : o.op = .call { callee := .builtin .copy, args := #[d, s], argTypes := #[dT, sT] }) (elem : TypeId) (sz : Nat) (hu : P.underlying dT = some (.slice elem)) (hsz : (P.info? elem).map (·.size) = some sz)
    (g off dLen dCap : Nat) (ad : Addr) (sLen sCap : Nat) (hd : a.eval d = .slice (some ⟨g, off, none⟩) dLen dCap) (hs : a.eval s = .slice (some ad) sLen sCap)
    (cur : List Value) (t : TypeId) (hg : w.heap[g]? = some (.cells cur.toArray t (0, 0))) (cs : List Value) (q : Nat) (hq : Nat.min sLen dLen = q) (hn : cs.length = q * sz)
    (hsrc : ∀ j v, cs[j]? = some v → w.cell? (ad.add j) = some v) (hfit : off + cs.length ≤ cur.length) (h1 : ∀ v ∈ cs, v.oneCell' = true) (B : Nat) (w0 : World) (hb : Below B w0 w) (hBg : B ≤ g)
    (h : ∀ w', Hid (w'.heap[g]? = some (.cells (splice cur off cs).toArray t (0, 0))) → Below B w0 w' → wpList P ops Q rest (a.put o.dst (goInt q)) w') :
    wpList P ops Q (o :: rest) a w := by
  refine wpList_plain hgd fun K hK => ?_
  have hrun := run_copyN (P := P) w dT sT o.type elem sz g off dLen dCap ad sLen sCap cur.toArray t cs hu hsz hg (by rw [hq]; exact hn) hsrc (by simpa using hfit) h1
  unfold Oper.wp
  rw [hq] at hrun
  simp [execOp, ho, resolve, invoke, builtin, hd, hs, hrun, Result.andThen]
  exact hK _ _ (h _ (show _ = _ by simpa [splice] using setRow_heap w g _ _ t _ hg) (below_setRow hb hBg _))
theorem step_copyN {P : Program} {ops : Array Oper} {o : Oper} {a : Act} {w : World} {K : Act → World → Prop} {Q : Exit → Act → World → Prop} {E : Prop} (hgd : o.guard = none) (d s : Operand) (dT sT : TypeId)
    (ho : o.op = .call { callee := .builtin .copy, args := #[d, s], argTypes := #[dT, sT] }) (elem : TypeId) (sz : Nat) (hu : P.underlying dT = some (.slice elem)) (hsz : (P.info? elem).map (·.size) = some sz)
    (g off dLen dCap : Nat) (ad : Addr) (sLen sCap : Nat) (hd : a.eval d = .slice (some ⟨g, off, none⟩) dLen dCap) (hs : a.eval s = .slice (some ad) sLen sCap)
    (cur : List Value) (t : TypeId) (hg : w.heap[g]? = some (.cells cur.toArray t (0, 0))) (cs : List Value) (q : Nat) (hq : Nat.min sLen dLen = q) (hn : cs.length = q * sz)
    (hsrc : ∀ j v, cs[j]? = some v → w.cell? (ad.add j) = some v) (hfit : off + cs.length ≤ cur.length) (h1 : ∀ v ∈ cs, v.oneCell' = true) (B : Nat) (w0 : World) (hb : Below B w0 w) (hBg : B ≤ g)
    (h : ∀ w', Hid (w'.heap[g]? = some (.cells (splice cur off cs).toArray t (0, 0))) → Below B w0 w' → K (a.put o.dst (goInt q)) w') :
    if Region.wanted o (yielded ops a.tmps) = true then Oper.wp P o a w K Q else E := by
  have hw : Region.wanted o (yielded ops a.tmps) = true := by simp [Region.wanted, hgd]
  rw [if_pos hw]
  have hrun := run_copyN (P := P) w dT sT o.type elem sz g off dLen dCap ad sLen sCap cur.toArray t cs hu hsz hg (by rw [hq]; exact hn) hsrc (by simpa using hfit) h1
  unfold Oper.wp
  rw [hq] at hrun
  simp [execOp, ho, resolve, invoke, builtin, hd, hs, hrun, Result.andThen]
  exact h _ (show _ = _ by simpa [splice] using setRow_heap w g _ _ t _ hg) (below_setRow hb hBg _)
/-- the row of which the first m elements are set -/
def part (n m : Nat) : List Value := cellsOf 2 n fun k i => if i = 0 then .int .i64 0 else .int .i64 (if k < m then 1 else 0)
theorem part_len (n m : Nat) : (part n m).length = n * 2 := cellsOf_len ..
theorem part_get (n m j : Nat) (hj : j < n * 2) : (part n m)[j]? = some (.int .i64 (if j % 2 = 1 ∧ j / 2 < m then 1 else 0)) := by
  have h := cellsOf_get 2 n (fun k i => if i = 0 then Value.int .i64 0 else .int .i64 (if k < m then 1 else 0)) (j / 2) (j % 2) (by omega) (by omega)
  rw [show j / 2 * 2 + j % 2 = j by omega] at h
  rw [part, h]
  rcases Nat.mod_two_eq_zero_or_one j with e | e <;> simp [e]
theorem part_next (n m q : Nat) (hm : m ≤ n) (hq : q ≤ m) (hq2 : m + q ≤ n) : splice (part n m) (m * 2) ((part n m).take (q * 2)) = part n (m + q) := by
  apply List.ext_getElem?
  intro j
  have hl := part_len n m
  by_cases hj : j < n * 2
  · rw [part_get n (m + q) j hj]
    simp only [splice, List.getElem?_append, List.length_take, hl]
    by_cases h1 : j < m * 2
    · rw [if_pos (by omega), List.getElem?_take_of_lt h1, part_get n m j hj]
      congr 3
      simp only [eq_iff_iff]; omega
    · rw [if_neg (by omega)]
      by_cases h2 : j < m * 2 + q * 2
      · rw [if_pos (by omega), List.getElem?_take_of_lt (by omega), part_get n m _ (by omega)]
        congr 3
        simp only [eq_iff_iff]; omega
      · rw [if_neg (by omega), List.getElem?_drop, part_get n m _ (by omega)]
        congr 3
        simp only [eq_iff_iff]; omega
  · rw [List.getElem?_eq_none (by simp [splice, hl]; omega), List.getElem?_eq_none (by rw [part_len]; omega)]
theorem part_one (n m : Nat) : ∀ u ∈ part n m, u.oneCell' = true := by
  intro u hu
  obtain ⟨j, hj, e⟩ := List.getElem_of_mem hu
  have h := part_get n m j (by rw [← part_len n m]; exact hj)
  rw [List.getElem?_eq_getElem hj, e] at h
  injection h with h
  subst h; rfl
theorem part_made (n : Nat) : madeCells (Value.agg #[.int .i64 0, .int .i64 0]).cells (n * 2) = (part n 0).toArray := by
  apply Array.ext_getElem?
  intro j
  rw [show (part n 0).toArray[j]? = (part n 0)[j]? from List.getElem?_toArray ..]
  by_cases hj : j < n * 2
  · rw [part_get n 0 j hj]
    simp only [madeCells, Array.getElem?_map, Array.getElem?_range, hj, if_true, Option.map_some]
    rcases Nat.mod_two_eq_zero_or_one j with e | e <;> simp [Value.cells, e]
  · rw [List.getElem?_eq_none (l := part n 0) (by rw [part_len]; omega)]
    simp [madeCells, hj]
def RepPost (n : Nat) (w : World) (e : Ending) (w' : World) : Prop := ∃ v, e = .returned v ∧ LdRow w' w.heap.size v n (fun _ => (0, 1)) ∧ Below w.heap.size w w'
theorem part_row (w : World) (g n m : Nat) (hg : w.heap[g]? = some (.cells (part n m).toArray 76 (0, 0))) (q : Nat) :
    ∀ j v, ((part n m).take q)[j]? = some v → w.cell? ((⟨g, 0, none⟩ : Addr).add j) = some v := by
  intro j v h
  rw [List.getElem?_take] at h
  split at h
  · have hA : (⟨g, 0, none⟩ : Addr).add j = ⟨g, j, none⟩ := by unfold Addr.add; split <;> simp_all
    rw [hA]
    simp [World.cell?, hg, h]
  · simp at h
theorem part_full (n : Nat) : part n n = cellsOf 2 n fun k i => if i = 0 then .int .i64 ((((fun _ => (0, 1)) : Nat → Nat × Nat) k).1 : Nat) else .int .i64 ((((fun _ => (0, 1)) : Nat → Nat × Nat) k).2 : Nat) := by
  unfold part cellsOf
  apply List.map_congr_left
  intro j hj
  have h : j / 2 < n := by simp at hj; omega
  simp [h]
theorem part_own {w : World} {g n : Nat} (base : Nat) (hg : w.heap[g]? = some (.cells (part n n).toArray 76 (0, 0))) (hn : n ≤ 1000) (hb : base ≤ g) :
    LdRow w base (.slice (some ⟨g, 0, none⟩) n n) n (fun _ => (0, 1)) := by
  refine ⟨cellsOf_len .., .inr ⟨g, n, (part n n).toArray, rfl, hb, hg, Nat.le_refl _, Nat.le_trans hn (by decide), by simp [part_len], ?_⟩⟩
  rw [← part_full, List.take_of_length_le (by simp [part_len])]
theorem repeat_any (b n c : Nat) (w : World) (hn : n ≤ 1000) (hn0 : 1 ≤ n) (hb : Blk w b 76 #[.int .i64 0, .int .i64 1]) :
    Calls Try.prog 115 #[.slice (some ⟨b, 0, none⟩) 1 c, .int .i64 n] w (RepPost n w) := by
  obtain ⟨i0, hi, hz0, hz1, hz2⟩ := info_parts info_load
  have HM := hide (fun W : World => run_make_rowN (P := Try.prog) 65 76 i0 _ Try.underlying65 hi hz0 .i64 .i64 n n (Nat.le_refl _) (by rw [hz2]; omega) (by omega) W)
  rw [hz1, part_made] at HM
  have hb0 := hide hb
  obtain ⟨P0, hP0⟩ : ∃ P0, P0 = part n 0 := ⟨_, rfl⟩
  have HP := hide hP0
  rw [← hP0] at HM
  clear hP0 hb
  have hm1 : Nat.min 1 n = 1 := by simp [Nat.min_def]; omega
  have hB0 := hide (Blk.new w 76 P0.toArray)
  have hb1 := hide (hb0.out.alloc (.cells P0.toArray 76))
  have hm2 := hide hm1
  clear hi hz0 hz1 hz2 hm1
  go_enter Try.func115, Try.ntmps115
  go_wp2_with fail
  refine (mul_one n _ (by omega)).mono ?_
  rintro e w' ⟨rfl, rfl⟩
  have gl := HM.out w
  clear HM
  have g9 : ¬ ((9223372036854775807 : Int) < (n : Int)) := by omega
  have g8 : decide ((9223372036854775807 : Int) < (n : Int)) = false := by simp [g9]
  have g7 : IntKind.i64.wrap (n : Int) = n := by rw [IntKind.wrap_i64]; omega
  go_wp2_with (first | (refine wpList_copyN rfl (.tmp 31) (.tmp 32) _ _ rfl 76 2 Try.underlying65 size_load w.heap.size 0 n n ⟨b, 0, none⟩ 1 c rfl rfl P0 76 hB0.out [.int .i64 0, .int .i64 1] 1 hm2.out rfl ?_ ?_ ?_ w.heap.size w ?_ (Nat.le_refl _) ?_))
  · intro j v hj
    have hA : (⟨b, 0, none⟩ : Addr).add j = ⟨b, j, none⟩ := by unfold Addr.add; split <;> simp_all
    rw [hA, hb1.out.cell]
    simpa using hj
  · have := part_len n 0
    rw [HP.out, this]; simp; omega
  · intro v hv; simp at hv; rcases hv with rfl | rfl <;> rfl
  · exact (Below.refl _ _).alloc (Nat.le_refl _) _
  intro w2 hg2 hB2
  have hg3 : Hid (w2.heap[w.heap.size]? = some (.cells (part n 1).toArray 76 (0, 0))) := by
    have e : splice P0 0 [Value.int .i64 0, .int .i64 1] = part n 1 := by
      rw [HP.out]
      apply List.ext_getElem?
      intro j
      by_cases hj : j < n * 2
      · rw [part_get n 1 j hj]
        simp only [splice, List.take_zero, List.nil_append, List.getElem?_append]
        split
        · rename_i h2
          rcases (by simp at h2; omega : j = 0 ∨ j = 1) with rfl | rfl <;> simp
        · rename_i h2
          simp at h2
          have h3 : ¬ (j % 2 = 1 ∧ j / 2 < 1) := by omega
          rw [List.getElem?_drop, part_get n 0 _ (by simp; omega), if_neg h3, if_neg (by simp)]
      · rw [List.getElem?_eq_none (by simp [splice, part_len]; omega), List.getElem?_eq_none (by rw [part_len]; omega)]
    rw [← e]; exact hg2
  clear hg2 hB0 hb1 HP
  go_wp2_with fail
  go_loopw [8] (fun i wr => ∃ m : Nat, i = .int .i64 m ∧ 1 ≤ m ∧ m ≤ n ∧ Hid (wr.heap[w.heap.size]? = some (.cells (part n m).toArray 76 (0, 0))) ∧ Below w.heap.size w wr) (fun i _ => n - (intOf i).toNat)
  case atStart => exact ⟨1, rfl, Nat.le_refl _, hn0, hg3, hB2⟩
  case round =>
    obtain ⟨m, rfl, hm0, hm1, hg, hB⟩ := hrel
    rcases Nat.lt_or_ge m n with hlt | hge
    · have g1 : (m : Int) < (n : Int) := by omega
      have g2 : (0 : Int) ≤ (m : Int) := by omega
      have g3 : (m : Int) ≤ (n : Int) := by omega
      obtain ⟨q, hq⟩ : ∃ q, q = Nat.min m (n - m) := ⟨_, rfl⟩
      have hq1 : q ≤ m ∧ m + q ≤ n ∧ 0 < q := by rw [hq, show Nat.min m (n - m) = min m (n - m) from rfl, Nat.min_def]; split <;> omega
      have g4 : IntKind.i64.wrap ((m : Int) + (q : Int)) = ((m + q : Nat) : Int) := by rw [IntKind.wrap_i64]; omega
      have HQ := hide hq.symm
      have g5 : ¬ n = m := by omega
      clear hq
      go_wp2_with fail
      have hr : ∀ k, ∀ j v, ((part n m).take (q * 2))[j]? = some v → (wr.drewN k).cell? ((⟨w.heap.size, 0, none⟩ : Addr).add j) = some v := fun k => part_row (wr.drewN k) _ n m hg.out (q * 2)
      have hfit : m * 2 + ((part n m).take (q * 2)).length ≤ (part n m).length := by rw [List.length_take, part_len]; omega
      have hl : ((part n m).take (q * 2)).length = q * 2 := by rw [List.length_take, part_len]; omega
      have ho : ∀ u ∈ (part n m).take (q * 2), u.oneCell' = true := fun u hu => part_one n m u (List.mem_of_mem_take hu)
      have HR := hide (And.intro hr (And.intro hfit (And.intro hl ho)))
      clear hr hfit hl ho
      go_region_law (refine step_copyN rfl (.tmp 41) (.tmp 44) _ _ rfl 76 2 Try.underlying65 size_load w.heap.size (m * 2) (n - m) (n - m) ⟨w.heap.size, 0, none⟩ m n (by simp [Act.eval, Act.put, g5]) (by simp [Act.eval, Act.put]) (part n m) 76 hg.out ((part n m).take (q * 2)) q HQ.out HR.out.2.2.1 (HR.out.1 _) HR.out.2.1 HR.out.2.2.2 w.heap.size w (hB.trans (Below_dN (Below.refl _ _) _)) (Nat.le_refl _) ?_; intro w3 hg3 hB3)
      all_goals (
        have hg4 : Hid (w3.heap[w.heap.size]? = some (.cells (part n (m + q)).toArray 76 (0, 0))) := by
          rw [← part_next n m q hm1 hq1.1 hq1.2.1]; exact hg3
        clear HR HQ hg3 hg
        go_simp
        go_roundw
        case rel =>
          refine ⟨_, _, _, _, _, _, _, _, _, _, _, _, _, _, ?_, rfl⟩
          exact ⟨m + q, by simp, by omega, hq1.2.1, hg4, hB3⟩
        case measure => simp [intOf]; omega)
    · obtain rfl : m = n := by omega
      have g1 : ¬ (m : Int) < (m : Int) := by omega
      clear hm0 hge
      go_wp2_with fail
      go_ret
      exact ⟨_, rfl, part_own _ hg.out (by omega) (Nat.le_refl _), hB⟩
theorem nothing_any (n : Nat) (w : World) (hn : n ≤ 1000) (hn0 : 1 ≤ n) :
    Calls Try.prog 105 #[.int .i64 n] w (RepPost n w) := by
  have hb := hide (Blk.new w 76 #[.int .i64 0, .int .i64 1])
  have h2 : ∀ c, Calls Try.prog 115 #[.slice (some ⟨w.heap.size, 0, none⟩) 1 c, .int .i64 n] (w.alloc (.cells #[.int .i64 0, .int .i64 1] 76)) (RepPost n (w.alloc (.cells #[.int .i64 0, .int .i64 1] 76))) := fun c => repeat_any _ n c _ hn hn0 hb.out
  have H := hide h2
  clear h2
  go_enter Try.func105, Try.ntmps105
  go_wp2_with fail
  refine (H.out _).mono ?_
  rintro e w1 ⟨v, rfl, h1, h2⟩
  obtain ⟨g, c, rfl⟩ := own_shape h1
  go_wp2_with fail
  go_ret
  refine ⟨_, rfl, ownMono h1 (by simp), ?_⟩
  exact ((Below.refl _ _).alloc (Nat.le_refl _) _).trans (h2.mono (by simp))
end Go.Proofs.Ytlhekifmkkgjlaa
/- Contracts of chapter 8 on stacks: the bricks in order. -/
namespace Go.Proofs.Ytlhekifmkkgjlaa
open Go Go.RowKit Go.Shelf
attribute [local go_sem] Oper.semAt_some
set_option maxHeartbeats 1000000
/-- the bricks of the first k tiers, and of the next one the first j -/
def rowTo (k j : Nat) : List (Nat × Nat) := (List.range j).map fun i => (k, i)
def bricksTo (wn : Nat → Nat) (k : Nat) : List (Nat × Nat) := (List.range k).flatMap fun t => rowTo t (wn t)
theorem bricksTo_succ (wn : Nat → Nat) (k : Nat) : bricksTo wn (k + 1) = bricksTo wn k ++ rowTo k (wn k) := by
  simp [bricksTo, List.range_succ, List.flatMap_append]
theorem rowTo_succ (k j : Nat) : rowTo k (j + 1) = rowTo k j ++ [(k, j)] := by simp [rowTo, List.range_succ]
theorem rowTo_zero (k : Nat) : rowTo k 0 = [] := rfl
theorem rowTo_prefix (k : Nat) {j n : Nat} (h : j ≤ n) : rowTo k j <+: rowTo k n := by
  induction n with
  | zero => obtain rfl : j = 0 := by omega
            exact List.prefix_refl _
  | succ n ih =>
    rcases Nat.lt_or_ge j (n + 1) with hl | hl
    · rw [rowTo_succ]; exact (ih (by omega)).trans (List.prefix_append _ _)
    · obtain rfl : j = n + 1 := by omega
      exact List.prefix_refl _
theorem bricksTo_prefix (wn : Nat → Nat) {k n : Nat} (h : k ≤ n) : bricksTo wn k <+: bricksTo wn n := by
  induction n with
  | zero => obtain rfl : k = 0 := by omega
            exact List.prefix_refl _
  | succ n ih =>
    rcases Nat.lt_or_ge k (n + 1) with hl | hl
    · rw [bricksTo_succ]; exact (ih (by omega)).trans (List.prefix_append _ _)
    · obtain rfl : k = n + 1 := by omega
      exact List.prefix_refl _
theorem bricksTo_part (wn : Nat → Nat) {k j n : Nat} (hk : k < n) (hj : j ≤ wn k) : bricksTo wn k ++ rowTo k j <+: bricksTo wn n := by
  refine List.IsPrefix.trans ?_ (bricksTo_prefix wn (show k + 1 ≤ n from hk))
  rw [bricksTo_succ]
  exact List.prefix_append_right_inj _ |>.2 (rowTo_prefix k hj)
abbrev Brk (s : Stk) := { p : Nat × Nat // p.1 < s.nt ∧ p.2 < s.wn p.1 }
theorem bricks1_in (F : Fence) (n : Nat) (hF : ∀ f, F.fn f) (hro : F.round = none) (hn : 1 ≤ n) (l p n0 : Nat) (s : Stk) (J Jx : List (Brk s) → World → Prop) (W : World)
    (hp : PileB W p s) (hs : StkR W n0 s) (hn0 : n0 ≤ W.heap.size)
    (hY : ∀ pre (x : Brk s) W, J pre W → pre.length < (bricksTo s.wn s.nt).length → YieldAt F (n - 1) Try.prog l #[.agg #[.int .i64 x.1.1, .int .i64 x.1.2]] W fun e W' =>
      (e = .returned (.bool true) ∧ J (pre ++ [x]) W' ∧ Below n0 W W') ∨ (e = .returned (.bool false) ∧ Jx (pre ++ [x]) W')) (h0 : J [] W)
    (hal : ∀ pre W1 W', J pre W1 → Below n0 W W1 → Below W1.heap.size W1 W' → J pre W') :
    CallsIn F n Try.prog 111 #[.func (.yield l) #[] #[], .pointer (some ⟨p, 0, none⟩)] W fun e W' => (∃ v, e = .returned v) ∧
      ((∃ ys : List (Brk s), ys.map (·.1) = bricksTo s.wn s.nt ∧ J ys W') ∨ (∃ pre : List (Brk s), pre.map (·.1) <+: bricksTo s.wn s.nt ∧ Jx pre W')) := by
  have g4 := hp.c2
  have HYY := hide hY
  have H0 := hide h0
  have HS := hide hs
  have HAL := hide hal
  have hnt := hs.1
  rcases Nat.eq_zero_or_pos s.nt with hz | hpos
  · have hz0 : ¬ (0 : Int) < (s.nt : Int) := by omega
    have hbz : bricksTo s.wn s.nt = [] := by simp [hz, bricksTo]
    have HBZ := hide hbz
    clear hbz
    clear hY h0 hs hp hal
    refine callsIn_of_wp Try.func111 rfl (hF _) ?_ hro
    simp only [Try.ntmps111, List.size_toArray, List.length_cons, List.length_nil, Nat.reduceAdd, Nat.reduceSub, Array.replicate_succ, Array.replicate_zero, List.push_toArray, List.append_toArray, List.nil_append, List.cons_append]
    gi_wp2_with fail
    gi_loopw [10] (fun i wr => i = .int .i64 0 ∧ J [] wr) (fun _ _ => 0)
    case atStart => exact ⟨rfl, H0.out⟩
    case round =>
      obtain ⟨rfl, hJ⟩ := hrel
      gi_wp2_with fail
      go_end0
      exact ⟨⟨_, rfl⟩, .inl ⟨[], by rw [HBZ.out]; rfl, hJ⟩⟩
  · obtain ⟨tb, toff, hA, htb, -, -⟩ := hs.2.1.at_ hpos
    rw [hA] at g4
    have HA := hide hA
    clear hY h0 hs hp hal hA
    refine callsIn_of_wp Try.func111 rfl (hF _) ?_ hro
    simp only [Try.ntmps111, List.size_toArray, List.length_cons, List.length_nil, Nat.reduceAdd, Nat.reduceSub, Array.replicate_succ, Array.replicate_zero, List.push_toArray, List.append_toArray, List.nil_append, List.cons_append]
    gi_wp2_with fail
    gi_loopw [10] (fun i wr => ∃ (k : Nat) (ys : List (Brk s)), k ≤ s.nt ∧ i = .int .i64 k ∧ Hid (ys.map (·.1) = bricksTo s.wn k ∧ J ys wr) ∧ Below n0 W wr) (fun i _ => s.nt - (intOf i).toNat)
    case atStart => exact ⟨0, [], Nat.zero_le _, rfl, hide ⟨rfl, H0.out⟩, Below.refl _ _⟩
    case round =>
      obtain ⟨k, ys, hk, rfl, hJs, hnx⟩ := hrel
      by_cases hlt : k < s.nt
      · obtain ⟨tb', toff', hA', htb', hu, hv⟩ := (HS.out.below hnx (Nat.le_refl _)).2.1.at_ hlt
        rw [HA.out] at hA'
        cases hA'
        have hwn := (HS.out.2.2 k hlt).2.1
        have j1 : (0 : Int) ≤ (k : Int) := by omega
        have j2 : (k : Int) < (s.nt : Int) := by omega
        have hz9 : n0 ≤ wr.heap.size := by have := hnx.size; omega
        unfold Stk.u at hu
        unfold Stk.v at hv
        gi_wp2_with fail
        gi_loopw [18] (fun i wq => ∃ (j : Nat) (zs : List (Brk s)), j ≤ s.wn k ∧ i = .int .i64 j ∧ Hid (zs.map (·.1) = bricksTo s.wn k ++ rowTo k j ∧ J zs wq) ∧ Below n0 W wq) (fun i _ => s.wn k - (intOf i).toNat)
        case atStart => exact ⟨0, ys, Nat.zero_le _, rfl, hide ⟨by rw [hJs.out.1, rowTo_zero, List.append_nil], HAL.out ys wr _ hJs.out.2 hnx ((Below.refl _ _).alloc (Nat.le_refl _) _)⟩, hnx.alloc (by omega) _⟩
        case round =>
          obtain ⟨j, zs, hj, rfl, hJz, hnz⟩ := hrel
          have i1 : (0 : Int) ≤ (j : Int) := by omega
          by_cases hjl : j < s.wn k
          · have i2 : (j : Int) < (s.wn k : Int) := by omega
            obtain ⟨fn, tmps, assign, body, hy, hR⟩ := HYY.out zs ⟨(k, j), hlt, hjl⟩ wr hJz.out.2 (by
              have h1 := (bricksTo_part s.wn (k := k) (j := j + 1) hlt hjl).length_le
              rw [rowTo_succ, ← List.append_assoc, ← hJz.out.1, List.length_append, List.length_map] at h1
              simp at h1; omega)
            dsimp only at hy
            have HR := hide hR
            clear hR
            gi_wp2_with fail
            refine HR.out.mono ?_
            rintro e W3 (⟨rfl, hJ3, hk3⟩ | ⟨rfl, hJx3⟩)
            · have HJ3 := hide hJ3
              clear hJ3
              gi_wp2_with fail
              go_roundw
              case rel => exact ⟨j + 1, zs ++ [⟨(k, j), hlt, hjl⟩], by omega, by go_num, hide ⟨by rw [rowTo_succ, List.map_append, hJz.out.1, List.append_assoc]; rfl, HJ3.out⟩, hnz.trans hk3⟩
              case measure => simp [intOf]; omega
            · have HJ3 := hide hJx3
              clear hJx3
              gi_wp2_with fail
              refine bodyPost_ret (results_none rfl _ _ _) rfl ?_
              exact ⟨⟨_, rfl⟩, .inr ⟨_, by
                rw [List.map_append, hJz.out.1]
                have h9 := bricksTo_part s.wn (k := k) (j := j + 1) hlt hjl
                rw [rowTo_succ, ← List.append_assoc] at h9
                exact h9, HJ3.out⟩⟩
          · obtain rfl : j = s.wn k := by omega
            have j9 : ¬ (s.wn k : Int) < (s.wn k : Int) := by omega
            gi_wp2_with fail
            go_roundw
            case rel => exact ⟨k + 1, zs, by omega, by go_num, hide ⟨by rw [bricksTo_succ]; exact hJz.out.1, hJz.out.2⟩, hnz⟩
            case measure => simp [intOf]; omega
      · obtain rfl : k = s.nt := by omega
        have j9 : ¬ (s.nt : Int) < (s.nt : Int) := by omega
        gi_wp2_with fail
        go_end0
        exact ⟨⟨_, rfl⟩, .inl ⟨ys, hJs.out.1, hJs.out.2⟩⟩
theorem bricks_any (s : Stk) (w : World) :
    Calls Try.prog 93 #[.agg #[.int .i64 s.wd, .int .i64 s.hg, .slice s.A s.nt s.cap]] w fun e w' => e = .returned (.func (.func 111) #[] #[.pointer (some ⟨w.heap.size, 0, none⟩)]) ∧ w.alloc (.cells #[.int .i64 s.wd, .int .i64 s.hg, .slice s.A s.nt s.cap] 131) = w' := by
  go_enter Try.func93, Try.ntmps93
  go_wp2_with fail
  go_ret
  exact ⟨rfl, rfl⟩
theorem abides_below {β : Type} {B : Nat} {J : β → World → Prop} (h : AbidesFrom B J) (s : β) (W W' : World) (hs : J s W) (hb : Below W.heap.size W W') : J s W' :=
  h s W W' none hs ⟨hb.os, hb.tape, hb.output, hb.size, fun k hk _ => hb.block k hk⟩ (fun _ e => by cases e)
theorem bricks_stops (F : Fence) (n : Nat) (hF : ∀ f, F.fn f) (hro : F.round = none) (hn : 1 ≤ n) (p n0 : Nat) (s : Stk) (w : World) (hp : PileB w p s) (hn0 : n0 ≤ w.heap.size) (hs : StkR w n0 s) :
    SeqStopsK F n Try.prog 111 #[.pointer (some ⟨p, 0, none⟩)] (fun x : Brk s => #[.agg #[.int .i64 x.1.1, .int .i64 x.1.2]]) (Below n0) (fun ys => ys.map (·.1) = bricksTo s.wn s.nt) (fun pre => pre.map (·.1) <+: bricksTo s.wn s.nt) (bricksTo s.wn s.nt).length w := fun l J Jx W hW hJ _ hY h0 =>
  bricks1_in F n hF hro hn l p n0 s J Jx W (hp.ext hW) (hs.below (hW.mono hn0) (Nat.le_refl _)) (by have := hW.size; omega) hY h0 (fun pre W1 W' h _ hb => abides_below hJ pre W1 W' h hb)
end Go.Proofs.Ytlhekifmkkgjlaa
