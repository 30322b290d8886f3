/- Contracts of chapter 8: stages, what is left, what is needed. -/
import Derived.Test.YtlhekifmkkgjlaaKa
import Derived.Test.YtlhekifmkkgjlaaWords
set_option linter.unusedSimpArgs false
set_option linter.unusedVariables false
set_option linter.unnecessarySimpa false
namespace Go.Proofs.Ytlhekifmkkgjlaa
open Go Go.RowKit
set_option maxHeartbeats 400000
/-- a stage that is not valid -/
def stB (a b : Int) : Bool := decide (a < 0) || decide (b < a) || decide (10000 < b)
theorem stB_false (a b : Int) : stB a b = false ↔ 0 ≤ a ∧ a ≤ b ∧ b ≤ 10000 := by
  simp only [stB, Bool.or_eq_false_iff, decide_eq_false_iff_not]; omega
theorem check1_any (a b : Int) (w : World) : Calls Try.prog 98 #[.agg #[.int .i64 a, .int .i64 b]] w fun e w' => e = .returned (.bool (stB a b)) ∧ Below w.heap.size w w' := by
  go_enter Try.func98, Try.ntmps98
  go_wp2
  all_goals
    go_ret
    refine ⟨ret_bool ?_, (Below.refl _ _).alloc (Nat.le_refl _) _⟩
    simp [stB]; try omega
def chkE (n : Int) (m : Nat) (bad : Bool) : Int := if 10 < m then 5 else if bad = true then 2 else if 0 ≤ n ∧ n ≤ 1000000000 then 0 else 3
theorem wiB_one (a b v : Int) : wiB a b (fun _ => v) 1 = decide (a ≤ v ∧ v ≤ b) := by
  rw [Bool.eq_iff_iff, wiB_iff, decide_eq_true_eq]
  exact ⟨fun h => h 0 (by omega), fun h _ _ => h⟩
theorem check_any (n : Int) (A : Option Addr) (m c : Nat) (x y : Nat → Int) (w : World) (hm : m ≤ maxLen) (hR : P2 w w.heap.size A m (fun k => .int .i64 (x k)) (fun k => .int .i64 (y k))) :
    Calls Try.prog 54 #[.int .i64 n, .slice A m c] w fun e w' => e = .returned (.int .i64 (chkE n m (anyTo (fun k => stB (x k) (y k)) m))) ∧ Below w.heap.size w w' := by
  have H1 := hide (containsFunc_stage 98 #[] (fun k => stB (x k) (y k)) A m c _ _ w hm hR (enters_of Try.func98 (by kernel_rfl) rfl) (fun W k _ _ => check1_any _ _ _))
  clear hR
  unfold maxLen at hm
  generalize hbad : anyTo (fun k => stB (x k) (y k)) m = bad at H1 ⊢
  clear hbad
  go_enter Try.func54, Try.ntmps54
  by_cases h10 : 10 < m
  · go_wp2_with fail
    go_ret
    exact ⟨ret_int (by simp [chkE, h10]), Below.refl _ _⟩
  · go_wp2_with fail
    refine H1.out.mono ?_
    rintro e w1 ⟨rfl, hb1⟩
    cases bad
    · go_wp2_with fail
      refine (within_any 0 1000000000 _ 1 1 (fun _ => n) _ (by decide) ?_).mono ?_
      · simpa using IR.one w1 n 3
      rw [wiB_one]
      rintro e w2 ⟨rfl, hb2⟩
      by_cases hn : 0 ≤ n ∧ n ≤ 1000000000
      · have hd := decide_eq_true hn
        rw [hd]
        go_wp2_with fail
        go_ret
        exact ⟨ret_int (by simp [chkE, h10, hn]), (hb1.alloc hb1.size _).trans (hb2.mono (by simp; have := hb1.size; omega))⟩
      · have hd := decide_eq_false hn
        rw [hd]
        go_wp2_with fail
        go_ret
        exact ⟨ret_int (by simp [chkE, h10, hn]), (hb1.alloc hb1.size _).trans (hb2.mono (by simp; have := hb1.size; omega))⟩
    · go_wp2_with fail
      go_ret
      exact ⟨ret_int (by simp [chkE, h10]), hb1⟩
/-- what is left behind k stages with the shares sh -/
def aft (sh : Nat → Int) : Nat → Int → Int
  | 0, n => n
  | k + 1, n => aft sh k n - aft sh k n * sh k / 10000
theorem aft_bd (sh : Nat → Int) (n : Int) (h0 : 0 ≤ n) : ∀ k, (∀ i, i < k → 0 ≤ sh i ∧ sh i ≤ 10000) → 0 ≤ aft sh k n ∧ aft sh k n ≤ n
  | 0, _ => ⟨h0, Int.le_refl _⟩
  | k + 1, h => by
    obtain ⟨h1, h2⟩ := aft_bd sh n h0 k fun i hi => h i (by omega)
    obtain ⟨h3, h4⟩ := h k (by omega)
    unfold aft
    have h5 : 0 ≤ aft sh k n * sh k := Int.mul_nonneg h1 h3
    have h6 : aft sh k n * sh k ≤ aft sh k n * 10000 := Int.mul_le_mul_of_nonneg_left h4 h1
    omega
theorem after_any (g : FuncId) (sh : Nat → Int) (n : Int) (A : Option Addr) (m c : Nat) (x y : Nat → Int) (w : World) (hm : m ≤ maxLen) (h0 : 0 ≤ n) (h1 : n ≤ 2000000000)
    (hR : PI w w.heap.size A m x y) (hsh : ∀ i, i < m → 0 ≤ sh i ∧ sh i ≤ 10000)
    (eg : ∀ args w, (callFunc g args).run Try.prog w = .ok (.enter g args) w)
    (hp : ∀ W k, k < m → Below w.heap.size w W → Calls Try.prog g #[.agg #[.int .i64 (x k), .int .i64 (y k)]] W fun e W' => e = .returned (.int .i64 (sh k)) ∧ Below W.heap.size W W') :
    Calls Try.prog 55 #[.int .i64 n, .slice A m c, .func (.func g) #[] #[]] w fun e w' => e = .returned (.int .i64 (aft sh m n)) ∧ Below w.heap.size w w' := by
  unfold maxLen at hm
  have HP := hide hp; clear hp
  have HS := hide hsh; clear hsh
  go_enter Try.func55, Try.ntmps55
  go_wp2_with fail
  go_loopw [0, 11] (fun n' i wr => ∃ k : Nat, k ≤ m ∧ i = .int .i64 k ∧ n' = .int .i64 (aft sh k n) ∧ Below w.heap.size w wr) (fun _ i _ => m - (intOf i).toNat)
  case atStart => exact ⟨0, Nat.zero_le _, rfl, rfl, Below.refl _ _⟩
  case round =>
    obtain ⟨k, hk, rfl, rfl, hB⟩ := hrel
    obtain ⟨b1, b2⟩ := aft_bd sh n h0 k fun i hi => HS.out i (by omega)
    by_cases hlt : k < m
    · obtain ⟨b, off, rfl, hb, hc1, hc2⟩ := PI.at_ (hR.below hB (Nat.le_refl _)) hlt
      obtain ⟨s1, s2⟩ := HS.out k hlt
      obtain ⟨b3, b4⟩ := aft_bd sh n h0 (k + 1) fun i hi => HS.out i (by omega)
      have h5 : 0 ≤ aft sh k n * sh k := Int.mul_nonneg b1 s1
      have h6 : aft sh k n * sh k ≤ aft sh k n * 10000 := Int.mul_le_mul_of_nonneg_left s2 b1
      go_wp2_with fail
      refine (HP.out _ k hlt (hB.alloc hB.size _)).mono ?_
      rintro e w1 ⟨rfl, hb1⟩
      go_wp2_with fail
      go_roundw
      case rel => exact ⟨k + 1, by omega, by go_num, rfl, (hB.alloc hB.size _).trans (hb1.mono (by simp; have := hB.size; omega))⟩
      case measure => simp [intOf]; omega
    · obtain rfl : k = m := by omega
      go_wp2_with fail
      go_ret
      exact ⟨rfl, hB⟩
end Go.Proofs.Ytlhekifmkkgjlaa
