/- Contracts of the reference of chapter 8 on losses. -/
import Derived.Test.YtlhekifmkkgjlaaKc
import Derived.BigRegion
set_option linter.unusedSimpArgs false
set_option linter.unusedVariables false
set_option linter.unnecessarySimpa false
namespace Go.Proofs.Ytlhekifmkkgjlaa
open Go Go.RowKit
set_option maxHeartbeats 400000
def rstE (m : Nat) (bad : Bool) : Int := if 10 < m then 5 else if bad = true then 2 else 0
theorem refStages_any (A : Option Addr) (m c : Nat) (x y : Nat → Int) (w : World) (hm : m ≤ maxLen) (hR : PI w w.heap.size A m x y) :
    Calls Try.prog 17 #[.slice A m c] w fun e w' => e = .returned (.int .i64 (rstE m (anyTo (fun k => stB (x k) (y k)) m))) ∧ Below w.heap.size w w' := by
  unfold maxLen at hm
  go_enter Try.func17, Try.ntmps17
  by_cases h10 : 10 < m
  · go_wp2_with fail
    go_ret
    exact ⟨ret_int (by simp [rstE, h10]), Below.refl _ _⟩
  go_wp2_with fail
  go_loopw [3] (fun i wr => ∃ k : Nat, k ≤ m ∧ i = .int .i64 k ∧ anyTo (fun k => stB (x k) (y k)) k = false ∧ Below w.heap.size w wr) (fun i _ => m - (intOf i).toNat)
  case atStart => exact ⟨0, Nat.zero_le _, rfl, rfl, Below.refl _ _⟩
  case round =>
    obtain ⟨k, hk, rfl, hx, hB⟩ := hrel
    have HX := hide hx; clear hx
    by_cases hlt : k < m
    · obtain ⟨b, off, rfl, hb, hc1, hc2⟩ := PI.at_ (hR.below hB (Nat.le_refl _)) hlt
      have i1 : (0 : Int) ≤ (k : Int) := by omega
      have i2 : (k : Int) < (m : Int) := by omega
      by_cases t1 : x k < 0
      · have d1 : decide (x k < 0) = true := by simpa using t1
        have hbad : stB (x k) (y k) = true := by simp [stB, t1]
        have HBAD := hide hbad; clear hbad
        go_wp2_with fail
        go_quiet (fail)
        go_wp2_with fail
        go_ret
        refine ⟨ret_int ?_, Below_dN hB _⟩
        have : anyTo (fun k => stB (x k) (y k)) m = true := (anyTo_iff _ _).2 ⟨k, hlt, HBAD.out⟩
        simp [rstE, h10, this]
      have d1 : decide (x k < 0) = false := by simpa using t1
      by_cases t2 : y k < x k
      · have d2 : decide (y k < x k) = true := by simpa using t2
        have hbad : stB (x k) (y k) = true := by simp [stB, t2]
        have HBAD := hide hbad; clear hbad
        go_wp2_with fail
        go_quiet (fail)
        go_wp2_with fail
        go_ret
        refine ⟨ret_int ?_, Below_dN hB _⟩
        have : anyTo (fun k => stB (x k) (y k)) m = true := (anyTo_iff _ _).2 ⟨k, hlt, HBAD.out⟩
        simp [rstE, h10, this]
      have d2 : decide (y k < x k) = false := by simpa using t2
      by_cases t3 : 10000 < y k
      · have d3 : decide (10000 < y k) = true := by simpa using t3
        have hbad : stB (x k) (y k) = true := by simp [stB, t3]
        have HBAD := hide hbad; clear hbad
        go_wp2_with fail
        go_quiet (fail)
        go_wp2_with fail
        go_ret
        refine ⟨ret_int ?_, Below_dN hB _⟩
        have : anyTo (fun k => stB (x k) (y k)) m = true := (anyTo_iff _ _).2 ⟨k, hlt, HBAD.out⟩
        simp [rstE, h10, this]
      have d3 : decide (10000 < y k) = false := by simpa using t3
      have hgood : stB (x k) (y k) = false := by simp only [stB, d1, d2, d3, Bool.or_false]
      have HG := hide hgood; clear hgood
      go_wp2_with fail
      go_quiet (fail)
      go_wp2_with fail
      go_roundw
      case rel => exact ⟨k + 1, by omega, by go_num, by simp [anyTo, HX.out, HG.out], Below_dN hB _⟩
      case measure => simp [intOf]; omega
    · obtain rfl : k = m := by omega
      go_wp2_with fail
      go_ret
      exact ⟨ret_int (by simp [rstE, h10, HX.out]), hB⟩
theorem refLeft_any (n : Int) (A : Option Addr) (m c : Nat) (x y : Nat → Int) (w : World) (hm : m ≤ maxLen) (hR : PI w w.heap.size A m x y) (hs : Stages m x y) (h0 : 0 ≤ n) (h1 : n ≤ 2000000000) :
    Calls Try.prog 19 #[.int .i64 n, .slice A m c] w fun e w' =>
      e = .returned (.agg #[.int .i64 (aft y m n), .int .i64 (aft x m n)]) ∧ Below w.heap.size w w' := by
  unfold maxLen at hm
  have HS := hide hs; clear hs
  go_enter Try.func19, Try.ntmps19
  go_wp2_with fail
  go_loopw [6] (fun i wr => ∃ k : Nat, k ≤ m ∧ i = .int .i64 k ∧ Hid (Blk wr (w.heap.size + 1) 25 #[.int .i64 (aft y k n), .int .i64 (aft x k n)]) ∧
     Hid (Blk wr w.heap.size 25 #[.int .i64 0, .int .i64 0]) ∧ Below w.heap.size w wr) (fun i _ => m - (intOf i).toNat)
  case atStart =>
    exact ⟨0, Nat.zero_le _, rfl, hide (by simpa [aft] using Blk.new (w.alloc (.cells #[.int .i64 0, .int .i64 0] 25)) 25 #[.int .i64 n, .int .i64 n]), hide ((Blk.new w _ _).alloc _), ((Below.refl _ _).alloc (Nat.le_refl _) _).alloc (by simp) _⟩
  case round =>
    obtain ⟨k, hk, rfl, hc, hc2, hB⟩ := hrel
    have q0 := hc.out.cell 0
    have q1 := hc.out.cell 1
    have q2 := hc.out.frozen 0
    have q3 := hc.out.frozen 1
    have zz : w.heap.size + 1 < wr.heap.size := hc.out.lt
    simp at q0 q1
    by_cases hlt : k < m
    · obtain ⟨b, off, rfl, hb, hd1, hd2⟩ := PI.at_ (hR.below hB (Nat.le_refl _)) hlt
      have i1 : (0 : Int) ≤ (k : Int) := by omega
      have i2 : (k : Int) < (m : Int) := by omega
      obtain ⟨s0, s1, s2⟩ := HS.out k hlt
      obtain ⟨b1, b2⟩ := aft_bd y n h0 k fun i hi => ⟨by have := HS.out i (by omega); omega, (HS.out i (by omega)).2.2⟩
      obtain ⟨b3, b4⟩ := aft_bd x n h0 k fun i hi => ⟨(HS.out i (by omega)).1, by have := HS.out i (by omega); omega⟩
      obtain ⟨b5, b6⟩ := aft_bd y n h0 (k + 1) fun i hi => ⟨by have := HS.out i (by omega); omega, (HS.out i (by omega)).2.2⟩
      obtain ⟨b7, b8⟩ := aft_bd x n h0 (k + 1) fun i hi => ⟨(HS.out i (by omega)).1, by have := HS.out i (by omega); omega⟩
      have h5 : 0 ≤ aft y k n * y k := Int.mul_nonneg b1 (by omega)
      have h6 : aft y k n * y k ≤ aft y k n * 10000 := Int.mul_le_mul_of_nonneg_left s2 b1
      have h7 : 0 ≤ aft x k n * x k := Int.mul_nonneg b3 (by omega)
      have h8 : aft x k n * x k ≤ aft x k n * 10000 := Int.mul_le_mul_of_nonneg_left (by omega) b3
      go_wp2_with fail
      go_region
      go_wp2_with fail
      go_region
      go_wp2_with fail
      go_roundw
      case rel =>
        refine ⟨k + 1, by omega, by go_num, hide ?_, hide ?_, ((hB.setCell (by simp) _).setCell (by simp) _).drew.drew⟩
        · exact (by simpa [aft] using ((hc.out.set_ 0 (.int .i64 (aft y k n - aft y k n * y k / 10000))).set_ 1 (.int .i64 (aft x k n - aft x k n * x k / 10000))).drew.drew)
        · exact ((hc2.out.far (p := ⟨w.heap.size + 1, 0, none⟩) (by simp) _).far (p := ⟨w.heap.size + 1, 1, none⟩) (by simp) _).drew.drew
      case measure => simp [intOf]; omega
    · obtain rfl : k = m := by omega
      have r0 := hc2.out.cell 0
      have r1 := hc2.out.cell 1
      have r2 := hc2.out.frozen 0
      have r3 := hc2.out.frozen 1
      simp at r0 r1
      have zz' : w.heap.size < wr.heap.size := by omega
      go_wp2_with fail
      refine bodyPost_ret (v := .agg #[.int .i64 (aft y k n), .int .i64 (aft x k n)]) (by simp [results, Try.results19, go_sem, *]) rfl ⟨rfl, ?_⟩
      exact (hB.setCell (Nat.le_refl _) _).setCell (Nat.le_refl _) _
@[go_sem] theorem field_spread0 (a b : Value) (w : World) : (Instr.field 25 (.agg #[a, b]) 0).run Try.prog w = .ok a w := by kernel_rfl
@[go_sem] theorem field_spread1 (a b : Value) (w : World) : (Instr.field 25 (.agg #[a, b]) 1).run Try.prog w = .ok b w := by kernel_rfl
def RefNeedPost (n : Int) (m : Nat) (y : Nat → Int) (w : World) (e : Ending) (w' : World) : Prop :=
  ∃ r : Nat, Least (fun i => decide (n ≤ aft y m i)) 1000000001 r ∧ e = .returned (.tuple #[.int .i64 r, .bool (decide (r ≤ 1000000000))]) ∧ Below w.heap.size w w'
theorem refNeed_ok (n : Int) (A : Option Addr) (m c : Nat) (x y : Nat → Int) (w : World) (hm : m ≤ 10) (hR : PI w w.heap.size A m x y) (hs : Stages m x y) :
    Calls Try.prog 18 #[.int .i64 n, .slice A m c] w (RefNeedPost n m y w) := by
  have hy : ∀ i, i < m → 0 ≤ y i ∧ y i ≤ 10000 := fun i hi => ⟨by have := hs i hi; omega, (hs i hi).2.2⟩
  have HY := hide hy
  clear hy
  have HC := hide (fun W (h : Nat) (hh : h ≤ 1000000001) (hB : Below w.heap.size w W) => refLeft_any h A m c x y W (by unfold maxLen; omega) ((hR.below hB (Nat.le_refl _)).more hB.size) hs (by omega) (by omega))
  clear hR hs
  go_enter Try.func18, Try.ntmps18
  go_wp2_with fail
  go_loopw [6, 7] (fun i j wr => ∃ a b : Nat, i = .int .i64 a ∧ j = .int .i64 b ∧ a ≤ b ∧ b ≤ 1000000001 ∧ Hid ((∀ i : Nat, i < a → aft y m i < n) ∧ (b < 1000000001 → n ≤ aft y m b)) ∧ Below w.heap.size w wr) (fun i j _ => (intOf j).toNat - (intOf i).toNat)
  case atStart => exact ⟨0, 1000000001, rfl, rfl, by omega, by omega, hide ⟨fun i hi => absurd hi (by omega), fun h => absurd h (by omega)⟩, Below.refl _ _⟩
  case round =>
    obtain ⟨a, b, rfl, rfl, hab, hbn, H, hB⟩ := hrel
    by_cases hlt : a < b
    · go_wp2_with fail
      obtain ⟨h, hh⟩ : ∃ h : Nat, h = (a + b) / 2 := ⟨_, rfl⟩
      have e1 : ((a : Int) + b) / 2 = (h : Int) := by omega
      have l1 : a ≤ h := by omega
      have l2 : h < b := by omega
      clear hh
      simp only [e1]
      clear e1
      refine (HC.out wr h (by omega) hB).mono ?_
      rintro e w1 ⟨rfl, hb1⟩
      by_cases hn : n ≤ aft y m h
      · have hd := decide_eq_true hn
        go_wp2_with fail
        go_roundw
        case rel => exact ⟨a, h, rfl, rfl, by omega, by omega, hide ⟨H.out.1, fun _ => hn⟩, hB.trans (hb1.mono hB.size)⟩
        case measure => simp [intOf]; omega
      · have hd := decide_eq_false hn
        go_wp2_with fail
        go_roundw
        case rel =>
          refine ⟨h + 1, b, by go_num, rfl, by omega, by omega, hide ⟨fun i hi => ?_, H.out.2⟩, hB.trans (hb1.mono hB.size)⟩
          have := aft_mono y m HY.out i h (by omega) (by omega)
          omega
        case measure => simp [intOf]; omega
    · obtain rfl : a = b := by omega
      go_wp2_with fail
      go_ret2
      exact ⟨a, ⟨by omega, fun i hi => by simpa using H.out.1 i hi, fun h => by simpa using H.out.2 h⟩, by simp; omega, hB⟩
end Go.Proofs.Ytlhekifmkkgjlaa
