/- Contracts of small functions of chapter 8: the library's searches, within, moulds and losses. -/
import Derived.Test.YtlhekifmkkgjlaaBase
set_option linter.unusedSimpArgs false
set_option linter.unusedVariables false
set_option linter.unnecessarySimpa false
namespace Go.Proofs.Ytlhekifmkkgjlaa
open Go Go.RowKit
set_option maxHeartbeats 400000
theorem most_any (a b : Int) (w : World) : Calls Try.prog 56 #[.agg #[.int .i64 a, .int .i64 b]] w fun e w' => e = .returned (.int .i64 b) ∧ Below w.heap.size w w' := by
  go_enter Try.func56, Try.ntmps56
  go_wp2
  go_ret
  exact ⟨rfl, (Below.refl _ _).alloc (Nat.le_refl _) _⟩
theorem least_any (a b : Int) (w : World) : Calls Try.prog 57 #[.agg #[.int .i64 a, .int .i64 b]] w fun e w' => e = .returned (.int .i64 a) ∧ Below w.heap.size w w' := by
  go_enter Try.func57, Try.ntmps57
  go_wp2
  go_ret
  exact ⟨rfl, (Below.refl _ _).alloc (Nat.le_refl _) _⟩

theorem indexFunc_int (g : FuncId) (lb : Array Value) (p : Nat → Bool) (A : Option Addr) (n c : Nat) (x : Nat → Int) (w : World) (hn : n ≤ maxLen) (hR : IR w w.heap.size A n x)
    (eg : ∀ args w, (callFunc g args).run Try.prog w = .ok (.enter g args) w)
    (hp : ∀ W k, k < n → Below w.heap.size w W → Calls Try.prog g (#[.int .i64 (x k)] ++ lb) W fun e W' => e = .returned (.bool (p k)) ∧ Below W.heap.size W W') :
    Calls Try.prog 114 #[.slice A n c, .func (.func g) #[] lb] w fun e w' => e = .returned (.int .i64 (idx p n)) ∧ Below w.heap.size w w' := by
  unfold maxLen at hn
  have HP := hide hp; clear hp
  go_enter Try.func114, Try.ntmps114
  go_wp2
  go_loopw [8] (fun i wr => ∃ k : Nat, k ≤ n ∧ i = .int .i64 k ∧ idx p k = -1 ∧ Below w.heap.size w wr) (fun i _ => n - (intOf i).toNat)
  case atStart => exact ⟨0, Nat.zero_le _, rfl, rfl, Below.refl _ _⟩
  case round =>
    obtain ⟨k, hk, rfl, hx, hB⟩ := hrel
    have HX := hide hx; clear hx
    by_cases hlt : k < n
    · have hR' := (hR.below hB (Nat.le_refl _)).at_ hlt
      obtain ⟨b, off, rfl, hb, hR'⟩ := hR'
      have hc := hR'
      cases hpk : p k with
      | true =>
        have hpk' := hide hpk; clear hpk
        have H := HP.out wr k hlt hB
        rw [hpk'.out] at H
        have H' := hide H; clear H
        go_wp2_with ((with_reducible refine H'.out.mono ?_); rintro e w' ⟨rfl, hb1⟩)
        go_ret
        refine ⟨ret_int ?_, hB.trans (hb1.mono hB.size)⟩
        rw [idx_stable p (k+1) n (by simp [idx, HX.out, hpk'.out]) (by omega)]
        simp [idx, HX.out, hpk'.out]
      | false =>
        have hpk' := hide hpk; clear hpk
        have H := HP.out wr k hlt hB
        rw [hpk'.out] at H
        have H' := hide H; clear H
        go_wp2_with ((with_reducible refine H'.out.mono ?_); rintro e w' ⟨rfl, hb1⟩)
        go_roundw
        case rel => exact ⟨k + 1, by omega, by go_num, by simp [idx, HX.out, hpk'.out], hB.trans (hb1.mono hB.size)⟩
        case measure => simp [intOf]; omega
    · obtain rfl : k = n := by omega
      go_wp2
      go_ret
      exact ⟨ret_int HX.out.symm, hB⟩

theorem containsFunc_int (g : FuncId) (lb : Array Value) (p : Nat → Bool) (A : Option Addr) (n c : Nat) (x : Nat → Int) (w : World) (hn : n ≤ maxLen) (hR : IR w w.heap.size A n x)
    (eg : ∀ args w, (callFunc g args).run Try.prog w = .ok (.enter g args) w)
    (hp : ∀ W k, k < n → Below w.heap.size w W → Calls Try.prog g (#[.int .i64 (x k)] ++ lb) W fun e W' => e = .returned (.bool (p k)) ∧ Below W.heap.size W W') :
    Calls Try.prog 99 #[.slice A n c, .func (.func g) #[] lb] w fun e w' => e = .returned (.bool (anyTo p n)) ∧ Below w.heap.size w w' := by
  have H := hide (indexFunc_int g lb p A n c x w hn hR eg hp)
  clear hp hR hn eg
  go_enter Try.func99, Try.ntmps99
  go_wp2_with ((with_reducible refine H.out.mono ?_); rintro e w' ⟨rfl, hb1⟩)
  go_ret
  exact ⟨ret_bool (idx_any p n), hb1⟩

theorem indexFunc_stage (g : FuncId) (lb : Array Value) (p : Nat → Bool) (A : Option Addr) (n c : Nat) (u v : Nat → Value) (w : World) (hn : n ≤ maxLen) (hR : P2 w w.heap.size A n u v)
    (eg : ∀ args w, (callFunc g args).run Try.prog w = .ok (.enter g args) w)
    (hp : ∀ W k, k < n → Below w.heap.size w W → Calls Try.prog g (#[.agg #[u k, v k]] ++ lb) W fun e W' => e = .returned (.bool (p k)) ∧ Below W.heap.size W W') :
    Calls Try.prog 113 #[.slice A n c, .func (.func g) #[] lb] w fun e w' => e = .returned (.int .i64 (idx p n)) ∧ Below w.heap.size w w' := by
  unfold maxLen at hn
  have HP := hide hp; clear hp
  go_enter Try.func113, Try.ntmps113
  go_wp2
  go_loopw [8] (fun i wr => ∃ k : Nat, k ≤ n ∧ i = .int .i64 k ∧ idx p k = -1 ∧ Below w.heap.size w wr) (fun i _ => n - (intOf i).toNat)
  case atStart => exact ⟨0, Nat.zero_le _, rfl, rfl, Below.refl _ _⟩
  case round =>
    obtain ⟨k, hk, rfl, hx, hB⟩ := hrel
    have HX := hide hx; clear hx
    by_cases hlt : k < n
    · have hR' := (hR.below hB (Nat.le_refl _)).at_ hlt
      obtain ⟨b, off, rfl, hb, hR'⟩ := hR'
      obtain ⟨hc, hc2⟩ := hR'
      cases hpk : p k with
      | true =>
        have hpk' := hide hpk; clear hpk
        have H := HP.out wr k hlt hB
        rw [hpk'.out] at H
        have H' := hide H; clear H
        go_wp2_with ((with_reducible refine H'.out.mono ?_); rintro e w' ⟨rfl, hb1⟩)
        go_ret
        refine ⟨ret_int ?_, hB.trans (hb1.mono hB.size)⟩
        rw [idx_stable p (k+1) n (by simp [idx, HX.out, hpk'.out]) (by omega)]
        simp [idx, HX.out, hpk'.out]
      | false =>
        have hpk' := hide hpk; clear hpk
        have H := HP.out wr k hlt hB
        rw [hpk'.out] at H
        have H' := hide H; clear H
        go_wp2_with ((with_reducible refine H'.out.mono ?_); rintro e w' ⟨rfl, hb1⟩)
        go_roundw
        case rel => exact ⟨k + 1, by omega, by go_num, by simp [idx, HX.out, hpk'.out], hB.trans (hb1.mono hB.size)⟩
        case measure => simp [intOf]; omega
    · obtain rfl : k = n := by omega
      go_wp2
      go_ret
      exact ⟨ret_int HX.out.symm, hB⟩

theorem containsFunc_stage (g : FuncId) (lb : Array Value) (p : Nat → Bool) (A : Option Addr) (n c : Nat) (u v : Nat → Value) (w : World) (hn : n ≤ maxLen) (hR : P2 w w.heap.size A n u v)
    (eg : ∀ args w, (callFunc g args).run Try.prog w = .ok (.enter g args) w)
    (hp : ∀ W k, k < n → Below w.heap.size w W → Calls Try.prog g (#[.agg #[u k, v k]] ++ lb) W fun e W' => e = .returned (.bool (p k)) ∧ Below W.heap.size W W') :
    Calls Try.prog 97 #[.slice A n c, .func (.func g) #[] lb] w fun e w' => e = .returned (.bool (anyTo p n)) ∧ Below w.heap.size w w' := by
  have H := hide (indexFunc_stage g lb p A n c u v w hn hR eg hp)
  clear hp hR hn eg
  go_enter Try.func97, Try.ntmps97
  go_wp2_with ((with_reducible refine H.out.mono ?_); rintro e w' ⟨rfl, hb1⟩)
  go_ret
  exact ⟨ret_bool (idx_any p n), hb1⟩

theorem indexFunc_tier (g : FuncId) (lb : Array Value) (p : Nat → Bool) (A : Option Addr) (n c : Nat) (u v : Nat → Value) (w : World) (hn : n ≤ maxLen) (hR : P2 w w.heap.size A n u v)
    (eg : ∀ args w, (callFunc g args).run Try.prog w = .ok (.enter g args) w)
    (hp : ∀ W k, k < n → Below w.heap.size w W → Calls Try.prog g (#[.agg #[u k, v k]] ++ lb) W fun e W' => e = .returned (.bool (p k)) ∧ Below W.heap.size W W') :
    Calls Try.prog 109 #[.slice A n c, .func (.func g) #[] lb] w fun e w' => e = .returned (.int .i64 (idx p n)) ∧ Below w.heap.size w w' := by
  unfold maxLen at hn
  have HP := hide hp; clear hp
  go_enter Try.func109, Try.ntmps109
  go_wp2
  go_loopw [8] (fun i wr => ∃ k : Nat, k ≤ n ∧ i = .int .i64 k ∧ idx p k = -1 ∧ Below w.heap.size w wr) (fun i _ => n - (intOf i).toNat)
  case atStart => exact ⟨0, Nat.zero_le _, rfl, rfl, Below.refl _ _⟩
  case round =>
    obtain ⟨k, hk, rfl, hx, hB⟩ := hrel
    have HX := hide hx; clear hx
    by_cases hlt : k < n
    · have hR' := (hR.below hB (Nat.le_refl _)).at_ hlt
      obtain ⟨b, off, rfl, hb, hR'⟩ := hR'
      obtain ⟨hc, hc2⟩ := hR'
      cases hpk : p k with
      | true =>
        have hpk' := hide hpk; clear hpk
        have H := HP.out wr k hlt hB
        rw [hpk'.out] at H
        have H' := hide H; clear H
        go_wp2_with ((with_reducible refine H'.out.mono ?_); rintro e w' ⟨rfl, hb1⟩)
        go_ret
        refine ⟨ret_int ?_, hB.trans (hb1.mono hB.size)⟩
        rw [idx_stable p (k+1) n (by simp [idx, HX.out, hpk'.out]) (by omega)]
        simp [idx, HX.out, hpk'.out]
      | false =>
        have hpk' := hide hpk; clear hpk
        have H := HP.out wr k hlt hB
        rw [hpk'.out] at H
        have H' := hide H; clear H
        go_wp2_with ((with_reducible refine H'.out.mono ?_); rintro e w' ⟨rfl, hb1⟩)
        go_roundw
        case rel => exact ⟨k + 1, by omega, by go_num, by simp [idx, HX.out, hpk'.out], hB.trans (hb1.mono hB.size)⟩
        case measure => simp [intOf]; omega
    · obtain rfl : k = n := by omega
      go_wp2
      go_ret
      exact ⟨ret_int HX.out.symm, hB⟩

theorem containsFunc_tier (g : FuncId) (lb : Array Value) (p : Nat → Bool) (A : Option Addr) (n c : Nat) (u v : Nat → Value) (w : World) (hn : n ≤ maxLen) (hR : P2 w w.heap.size A n u v)
    (eg : ∀ args w, (callFunc g args).run Try.prog w = .ok (.enter g args) w)
    (hp : ∀ W k, k < n → Below w.heap.size w W → Calls Try.prog g (#[.agg #[u k, v k]] ++ lb) W fun e W' => e = .returned (.bool (p k)) ∧ Below W.heap.size W W') :
    Calls Try.prog 90 #[.slice A n c, .func (.func g) #[] lb] w fun e w' => e = .returned (.bool (anyTo p n)) ∧ Below w.heap.size w w' := by
  have H := hide (indexFunc_tier g lb p A n c u v w hn hR eg hp)
  clear hp hR hn eg
  go_enter Try.func90, Try.ntmps90
  go_wp2_with ((with_reducible refine H.out.mono ?_); rintro e w' ⟨rfl, hb1⟩)
  go_ret
  exact ⟨ret_bool (idx_any p n), hb1⟩

/-- within's test -/
theorem within1_any (v a b : Int) (p q : Nat) (w : World) (hp : w.cell? ⟨p, 0, none⟩ = some (.int .i64 a)) (hq : w.cell? ⟨q, 0, none⟩ = some (.int .i64 b)) :
    Calls Try.prog 100 #[.int .i64 v, .pointer (some ⟨p, 0, none⟩), .pointer (some ⟨q, 0, none⟩)] w fun e w' => e = .returned (.bool (outB a b v)) ∧ Below w.heap.size w w' := by
  go_enter Try.func100, Try.ntmps100
  go_wp2
  all_goals
    go_ret
    refine ⟨ret_bool ?_, Below.refl _ _⟩
    simp [outB]; try omega
def wiB (a b : Int) (x : Nat → Int) (n : Nat) : Bool := !anyTo (fun k => outB a b (x k)) n
theorem wiB_iff (a b : Int) (x : Nat → Int) (n : Nat) : wiB a b x n = true ↔ ∀ k, k < n → a ≤ x k ∧ x k ≤ b := by
  unfold wiB
  rw [Bool.not_eq_true', ← Bool.not_eq_true, anyTo_iff]
  constructor
  · intro h k hk
    rw [← outB_false]
    rcases hb : outB a b (x k) with _ | _
    · rfl
    · exact absurd ⟨k, hk, hb⟩ h
  · rintro h ⟨k, hk, h2⟩
    exact (outB_iff _ _ _).1 h2 (h k hk)
theorem within_any (a b : Int) (A : Option Addr) (n c : Nat) (x : Nat → Int) (w : World) (hn : n ≤ maxLen) (hR : IR w w.heap.size A n x) :
    Calls Try.prog 61 #[.int .i64 a, .int .i64 b, .slice A n c] w fun e w' => e = .returned (.bool (wiB a b x n)) ∧ Below w.heap.size w w' := by
  have hR' := hide hR; clear hR
  unfold maxLen at hn
  go_enter Try.func61, Try.ntmps61
  go_wp2_with fail
  refine (containsFunc_int 100 #[.pointer (some ⟨w.heap.size, 0, none⟩), .pointer (some ⟨w.heap.size + 1, 0, none⟩)] (fun k => outB a b (x k)) A n c x _ hn ?_ ?_ ?_).mono ?_
  · exact (hR'.out.below (((Below.refl _ _).alloc (Nat.le_refl _) _).alloc (by simp) _) (Nat.le_refl _)).more (by simp; omega)
  · exact enters_of Try.func100 (by kernel_rfl) rfl
  · intro W k _ hB
    refine within1_any _ _ _ _ _ _ ?_ ?_
    · rw [hB.cell (by simp; omega)]; simp
    · rw [hB.cell (by simp)]; simp
  rintro e w' ⟨rfl, hb1⟩
  go_wp2_with fail
  go_ret
  exact ⟨rfl, (((Below.refl _ _).alloc (Nat.le_refl _) _).alloc (by simp) _).trans (hb1.mono (by simp; omega))⟩
end Go.Proofs.Ytlhekifmkkgjlaa
