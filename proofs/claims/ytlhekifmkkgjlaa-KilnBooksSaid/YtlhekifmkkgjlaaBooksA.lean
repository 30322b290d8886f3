/- Words of this proof family: a slice that reads as a function of its cells; a function value that answers as a function of its argument. -/
import Derived.Test.YtlhekifmkkgjlaaChecked
import Derived.WalkKit
import Derived.WalkSpells
import Derived.WalkLawsBesides
import Derived.Lib.Hide
import Derived.Deep.QuietTactic
import Derived.BigQuiet
import Derived.IntWalk
import Derived.Deep.RegionHeld3
import Derived.StillTailTactics
import Derived.Shelf.Abstract
import Derived.Deep.AppendLies
import Derived.Deep.Draws
import Derived.Laws.OwnMore
import Derived.Maps.AppendAt
import Derived.RegionTactic
import Derived.OwnWalk
import Derived.BigRegion
import Derived.Deep.OwnRows
import Derived.RegionCalls
set_option linter.unusedSimpArgs false
set_option linter.unusedVariables false
set_option linter.unnecessarySimpa false
namespace Go.Proofs.Ytlhekifmkkgjlaa
open Go Go.RowKit

theorem hide {p : Prop} (h : p) : Hid p := h
theorem ret_int {k : IntKind} {a b : Int} (h : a = b) : Ending.returned (.int k a) = .returned (.int k b) := by rw [h]
theorem ret_bool {a b : Bool} (h : a = b) : Ending.returned (.bool a) = .returned (.bool b) := by rw [h]
theorem bcell {W w1 : World} {B : Nat} (hb : Below B W w1) : (∀ b o, b < B → w1.cell? ⟨b, o, none⟩ = W.cell? ⟨b, o, none⟩) ∧ (∀ b o, b < B → w1.frozen? ⟨b, o, none⟩ = W.frozen? ⟨b, o, none⟩) :=
  ⟨fun b o h => hb.cell (p := ⟨b, o, none⟩) h, fun b o h => hb.frozen (p := ⟨b, o, none⟩) h⟩
theorem Below_dN {B : Nat} {a w : World} (h : Below B a w) (n : Nat) : Below B a (w.drewN n) := ⟨h.os, h.tape, h.output, h.size, h.block⟩
theorem cell_new (w : World) (c : Array Value) (e : TypeId) (i : Nat) : (w.alloc (.cells c e)).cell? ⟨w.heap.size, i, none⟩ = c[i]? := by
  exact cell_of_row (w.alloc (.cells c e)) w.heap.size i c e (0, 0) (heap_alloc_new w _)

/-- m cells at A, below block B, read as f. -/
def VR (w : World) (B : Nat) (A : Option Addr) (m : Nat) (f : Nat → Value) : Prop :=
  0 < m → ∃ b off, A = some ⟨b, off, none⟩ ∧ b < B ∧ ∀ j, j < m → w.cell? ⟨b, off + j, none⟩ = some (f j)
section
variable {w w' : World} {B B' m n sz : Nat} {A : Option Addr} {f : Nat → Value}
theorem VR.below (h : VR w B A m f) (hb : Below B' w w') (hB : B ≤ B') : VR w' B A m f := fun hm => by
  obtain ⟨b, off, hA, hlt, hc⟩ := h hm
  exact ⟨b, off, hA, hlt, fun j hj => (hb.cell (p := ⟨b, off + j, none⟩) (by simp; omega)).trans (hc j hj)⟩
theorem VR.more (h : VR w B A m f) (hB : B ≤ B') : VR w B' A m f := fun hm => by
  obtain ⟨b, off, hA, hlt, hc⟩ := h hm
  exact ⟨b, off, hA, by omega, hc⟩
theorem VR.nil (w : World) (B : Nat) (A : Option Addr) (f : Nat → Value) : VR w B A 0 f := fun h => absurd h (by omega)
theorem VR.congr {g : Nat → Value} (h : VR w B A m f) (hg : ∀ j, j < m → f j = g j) : VR w B A m g := fun hm => by
  obtain ⟨b, off, hA, hlt, hc⟩ := h hm
  exact ⟨b, off, hA, hlt, fun j hj => by rw [hc j hj, hg j hj]⟩
end
/-- n elements of sz cells each; the i-th cell of the k-th is g k i. -/
def ER (w : World) (B : Nat) (sz : Nat) (A : Option Addr) (n : Nat) (g : Nat → Nat → Value) : Prop :=
  0 < n → ∃ b off, A = some ⟨b, off, none⟩ ∧ b < B ∧ ∀ k i, k < n → i < sz → w.cell? ⟨b, off + k * sz + i, none⟩ = some (g k i)
section
variable {w w' : World} {B B' n sz : Nat} {A : Option Addr} {g : Nat → Nat → Value}
theorem ER.below (h : ER w B sz A n g) (hb : Below B' w w') (hB : B ≤ B') : ER w' B sz A n g := fun hm => by
  obtain ⟨b, off, hA, hlt, hc⟩ := h hm
  exact ⟨b, off, hA, hlt, fun k i hk hi => (hb.cell (p := ⟨b, off + k * sz + i, none⟩) (by simp; omega)).trans (hc k i hk hi)⟩
theorem ER.more (h : ER w B sz A n g) (hB : B ≤ B') : ER w B' sz A n g := fun hm => by
  obtain ⟨b, off, hA, hlt, hc⟩ := h hm
  exact ⟨b, off, hA, by omega, hc⟩
theorem ER.nil (w : World) (B sz : Nat) (A : Option Addr) (g : Nat → Nat → Value) : ER w B sz A 0 g := fun h => absurd h (by omega)
end
abbrev iv (n : Int) : Value := .int .i64 n
/-- a slice of ints -/
def IR (w : World) (B : Nat) (A : Option Addr) (n : Nat) (x : Nat → Int) : Prop := ER w B 1 A n fun k _ => .int .i64 (x k)
theorem IR.at_ {w : World} {B n : Nat} {A : Option Addr} {x : Nat → Int} (h : IR w B A n x) {k : Nat} (hk : k < n) :
    ∃ b off, A = some ⟨b, off, none⟩ ∧ b < B ∧ w.cell? ⟨b, off + k, none⟩ = some (.int .i64 (x k)) := by
  obtain ⟨b, off, hA, hlt, hc⟩ := h (by omega)
  exact ⟨b, off, hA, hlt, by simpa using hc k 0 hk (by omega)⟩
theorem IR.below {w w' : World} {B B' n : Nat} {A : Option Addr} {x : Nat → Int} (h : IR w B A n x) (hb : Below B' w w') (hB : B ≤ B') : IR w' B A n x := ER.below h hb hB
theorem IR.more {w : World} {B B' n : Nat} {A : Option Addr} {x : Nat → Int} (h : IR w B A n x) (hB : B ≤ B') : IR w B' A n x := ER.more h hB
/-- a slice of structs of two cells -/
def P2 (w : World) (B : Nat) (A : Option Addr) (n : Nat) (u v : Nat → Value) : Prop := ER w B 2 A n fun k i => if i = 0 then u k else v k
theorem P2.at_ {w : World} {B n : Nat} {A : Option Addr} {u v : Nat → Value} (h : P2 w B A n u v) {k : Nat} (hk : k < n) :
    ∃ b off, A = some ⟨b, off, none⟩ ∧ b < B ∧ w.cell? ⟨b, off + k * 2, none⟩ = some (u k) ∧ w.cell? ⟨b, off + k * 2 + 1, none⟩ = some (v k) := by
  obtain ⟨b, off, hA, hlt, hc⟩ := h (by omega)
  exact ⟨b, off, hA, hlt, by simpa using hc k 0 hk (by omega), by simpa using hc k 1 hk (by omega)⟩
theorem P2.below {w w' : World} {B B' n : Nat} {A : Option Addr} {u v : Nat → Value} (h : P2 w B A n u v) (hb : Below B' w w') (hB : B ≤ B') : P2 w' B A n u v := ER.below h hb hB
theorem P2.more {w : World} {B B' n : Nat} {A : Option Addr} {u v : Nat → Value} (h : P2 w B A n u v) (hB : B ≤ B') : P2 w B' A n u v := ER.more h hB
/-- a slice of structs of two ints -/
abbrev PI (w : World) (B : Nat) (A : Option Addr) (n : Nat) (x y : Nat → Int) : Prop := P2 w B A n (fun k => .int .i64 (x k)) (fun k => .int .i64 (y k))
theorem PI.at_ {w : World} {B n : Nat} {A : Option Addr} {x y : Nat → Int} (h : PI w B A n x y) {k : Nat} (hk : k < n) :
    ∃ b off, A = some ⟨b, off, none⟩ ∧ b < B ∧ w.cell? ⟨b, off + k * 2, none⟩ = some (.int .i64 (x k)) ∧ w.cell? ⟨b, off + k * 2 + 1, none⟩ = some (.int .i64 (y k)) := P2.at_ h hk
theorem IR.one (w : World) (v : Int) (e : TypeId) : IR (w.alloc (.cells #[.int .i64 v] e)) (w.heap.size + 1) (some ⟨w.heap.size, 0, none⟩) 1 (fun _ => v) := fun _ =>
  ⟨w.heap.size, 0, rfl, by omega, fun k i hk hi => by
    obtain rfl : k = 0 := by omega
    obtain rfl : i = 0 := by omega
    simp⟩

theorem IR.two (w : World) (u v : Int) (e : TypeId) : IR (w.alloc (.cells #[.int .i64 u, .int .i64 v] e)) (w.heap.size + 1) (some ⟨w.heap.size, 0, none⟩) 2 (fun k => if k = 0 then u else v) := fun _ =>
  ⟨w.heap.size, 0, rfl, by omega, fun k i hk hi => by
    obtain rfl : i = 0 := by omega
    rcases (by omega : k = 0 ∨ k = 1) with rfl | rfl <;> simp⟩
theorem mul_bd {a b M N : Int} (h1 : 0 ≤ a) (h2 : a ≤ M) (h3 : 0 ≤ b) (h4 : b ≤ N) : 0 ≤ a * b ∧ a * b ≤ M * N :=
  ⟨Int.mul_nonneg h1 h3, Int.le_trans (Int.mul_le_mul_of_nonneg_left h4 h1) (Int.mul_le_mul_of_nonneg_right h2 (by omega))⟩

/-- the first place below n where p holds, or -1 -/
def idx (p : Nat → Bool) : Nat → Int
  | 0 => -1
  | k + 1 => if 0 ≤ idx p k then idx p k else if p k then k else -1
def anyTo (p : Nat → Bool) : Nat → Bool
  | 0 => false
  | k + 1 => anyTo p k || p k
theorem idx_stable (p : Nat → Bool) (k n : Nat) (h : 0 ≤ idx p k) (hkn : k ≤ n) : idx p n = idx p k := by
  induction n with
  | zero => obtain rfl : k = 0 := by omega
            rfl
  | succ n ih =>
    rcases Nat.lt_or_ge k (n + 1) with hl | hl
    · have := ih (by omega); simp only [idx, this, if_pos h]
    · obtain rfl : k = n + 1 := by omega
      rfl
theorem idx_any (p : Nat → Bool) (n : Nat) : decide (0 ≤ idx p n) = anyTo p n := by
  induction n with
  | zero => rfl
  | succ n ih =>
    unfold idx anyTo
    rw [← ih]
    by_cases h : 0 ≤ idx p n
    · simp [h]
    · cases hp : p n <;> simp [h]
theorem idx_lt (p : Nat → Bool) (n : Nat) : -1 ≤ idx p n ∧ idx p n < n := by
  induction n with
  | zero => simp [idx]
  | succ n ih =>
    unfold idx
    split
    · omega
    · split <;> omega
theorem anyTo_iff (p : Nat → Bool) (n : Nat) : anyTo p n = true ↔ ∃ k, k < n ∧ p k = true := by
  induction n with
  | zero => simp [anyTo]
  | succ n ih =>
    simp only [anyTo, Bool.or_eq_true, ih]
    constructor
    · rintro (⟨k, hk, h⟩ | h)
      · exact ⟨k, by omega, h⟩
      · exact ⟨n, by omega, h⟩
    · rintro ⟨k, hk, h⟩
      rcases Nat.lt_or_ge k n with hl | hl
      · exact .inl ⟨k, hl, h⟩
      · obtain rfl : k = n := by omega
        exact .inr h
/-- v lies outside of a .. b -/
def outB (a b v : Int) : Bool := decide (v < a) || decide (b < v)
theorem outB_iff (a b v : Int) : outB a b v = true ↔ ¬ (a ≤ v ∧ v ≤ b) := by simp only [outB, Bool.or_eq_true, decide_eq_true_eq]; omega
theorem outB_false (a b v : Int) : outB a b v = false ↔ (a ≤ v ∧ v ≤ b) := by simp only [outB, Bool.or_eq_false_iff, decide_eq_false_iff_not]; omega
end Go.Proofs.Ytlhekifmkkgjlaa
/- Contracts of small functions of chapter 8: the library's searches, within, moulds and losses. -/
namespace Go.Proofs.Ytlhekifmkkgjlaa
open Go Go.RowKit
set_option maxHeartbeats 400000
theorem most_any (a b : Int) (w : World) : Calls Try.prog 56 #[.agg #[.int .i64 a, .int .i64 b]] w fun e w' => e = .returned (.int .i64 b) ∧ Below w.heap.size w w' := by
  go_enter Try.func56, Try.ntmps56
  go_wp2
  go_ret
  exact ⟨rfl, (Below.refl _ _).alloc (Nat.le_refl _) _⟩
theorem least_any (a b : Int) (w : World) : Calls Try.prog 57 #[.agg #[.int .i64 a, .int .i64 b]] w fun e w' => e = .returned (.int .i64 a) ∧ Below w.heap.size w w' := by
  go_enter Try.func57, Try.ntmps57
  go_wp2
  go_ret
  exact ⟨rfl, (Below.refl _ _).alloc (Nat.le_refl _) _⟩

theorem indexFunc_int (g : FuncId) (lb : Array Value) (p : Nat → Bool) (A : Option Addr) (n c : Nat) (x : Nat → Int) (w : World) (hn : n ≤ maxLen) (hR : IR w w.heap.size A n x)
    (eg : ∀ args w, (callFunc g args).run Try.prog w = .ok (.enter g args) w)
    (hp : ∀ W k, k < n → Below w.heap.size w W → Calls Try.prog g (#[.int .i64 (x k)] ++ lb) W fun e W' => e = .returned (.bool (p k)) ∧ Below W.heap.size W W') :
    Calls Try.prog 114 #[.slice A n c, .func (.func g) #[] lb] w fun e w' => e = .returned (.int .i64 (idx p n)) ∧ Below w.heap.size w w' := by
  unfold maxLen at hn
  have HP := hide hp; clear hp
  go_enter Try.func114, Try.ntmps114
  go_wp2
  go_loopw [8] (fun i wr => ∃ k : Nat, k ≤ n ∧ i = .int .i64 k ∧ idx p k = -1 ∧ Below w.heap.size w wr) (fun i _ => n - (intOf i).toNat)
  case atStart => exact ⟨0, Nat.zero_le _, rfl, rfl, Below.refl _ _⟩
  case round =>
    obtain ⟨k, hk, rfl, hx, hB⟩ := hrel
    have HX := hide hx; clear hx
    by_cases hlt : k < n
    · have hR' := (hR.below hB (Nat.le_refl _)).at_ hlt
      obtain ⟨b, off, rfl, hb, hR'⟩ := hR'
      have hc := hR'
      cases hpk : p k with
      | true =>
        have hpk' := hide hpk; clear hpk
        have H := HP.out wr k hlt hB
        rw [hpk'.out] at H
        have H' := hide H; clear H
        go_wp2_with ((with_reducible refine H'.out.mono ?_); rintro e w' ⟨rfl, hb1⟩)
        go_ret
        refine ⟨ret_int ?_, hB.trans (hb1.mono hB.size)⟩
        rw [idx_stable p (k+1) n (by simp [idx, HX.out, hpk'.out]) (by omega)]
        simp [idx, HX.out, hpk'.out]
      | false =>
        have hpk' := hide hpk; clear hpk
        have H := HP.out wr k hlt hB
        rw [hpk'.out] at H
        have H' := hide H; clear H
        go_wp2_with ((with_reducible refine H'.out.mono ?_); rintro e w' ⟨rfl, hb1⟩)
        go_roundw
        case rel => exact ⟨k + 1, by omega, by go_num, by simp [idx, HX.out, hpk'.out], hB.trans (hb1.mono hB.size)⟩
        case measure => simp [intOf]; omega
    · obtain rfl : k = n := by omega
      go_wp2
      go_ret
      exact ⟨ret_int HX.out.symm, hB⟩

theorem containsFunc_int (g : FuncId) (lb : Array Value) (p : Nat → Bool) (A : Option Addr) (n c : Nat) (x : Nat → Int) (w : World) (hn : n ≤ maxLen) (hR : IR w w.heap.size A n x)
    (eg : ∀ args w, (callFunc g args).run Try.prog w = .ok (.enter g args) w)
    (hp : ∀ W k, k < n → Below w.heap.size w W → Calls Try.prog g (#[.int .i64 (x k)] ++ lb) W fun e W' => e = .returned (.bool (p k)) ∧ Below W.heap.size W W') :
    Calls Try.prog 99 #[.slice A n c, .func (.func g) #[] lb] w fun e w' => e = .returned (.bool (anyTo p n)) ∧ Below w.heap.size w w' := by
  have H := hide (indexFunc_int g lb p A n c x w hn hR eg hp)
  clear hp hR hn eg
  go_enter Try.func99, Try.ntmps99
  go_wp2_with ((with_reducible refine H.out.mono ?_); rintro e w' ⟨rfl, hb1⟩)
  go_ret
  exact ⟨ret_bool (idx_any p n), hb1⟩

theorem indexFunc_stage (g : FuncId) (lb : Array Value) (p : Nat → Bool) (A : Option Addr) (n c : Nat) (u v : Nat → Value) (w : World) (hn : n ≤ maxLen) (hR : P2 w w.heap.size A n u v)
    (eg : ∀ args w, (callFunc g args).run Try.prog w = .ok (.enter g args) w)
    (hp : ∀ W k, k < n → Below w.heap.size w W → Calls Try.prog g (#[.agg #[u k, v k]] ++ lb) W fun e W' => e = .returned (.bool (p k)) ∧ Below W.heap.size W W') :
    Calls Try.prog 113 #[.slice A n c, .func (.func g) #[] lb] w fun e w' => e = .returned (.int .i64 (idx p n)) ∧ Below w.heap.size w w' := by
  unfold maxLen at hn
  have HP := hide hp; clear hp
  go_enter Try.func113, Try.ntmps113
  go_wp2
  go_loopw [8] (fun i wr => ∃ k : Nat, k ≤ n ∧ i = .int .i64 k ∧ idx p k = -1 ∧ Below w.heap.size w wr) (fun i _ => n - (intOf i).toNat)
  case atStart => exact ⟨0, Nat.zero_le _, rfl, rfl, Below.refl _ _⟩
  case round =>
    obtain ⟨k, hk, rfl, hx, hB⟩ := hrel
    have HX := hide hx; clear hx
    by_cases hlt : k < n
    · have hR' := (hR.below hB (Nat.le_refl _)).at_ hlt
      obtain ⟨b, off, rfl, hb, hR'⟩ := hR'
      obtain ⟨hc, hc2⟩ := hR'
      cases hpk : p k with
      | true =>
        have hpk' := hide hpk; clear hpk
        have H := HP.out wr k hlt hB
        rw [hpk'.out] at H
        have H' := hide H; clear H
        go_wp2_with ((with_reducible refine H'.out.mono ?_); rintro e w' ⟨rfl, hb1⟩)
        go_ret
        refine ⟨ret_int ?_, hB.trans (hb1.mono hB.size)⟩
        rw [idx_stable p (k+1) n (by simp [idx, HX.out, hpk'.out]) (by omega)]
        simp [idx, HX.out, hpk'.out]
      | false =>
        have hpk' := hide hpk; clear hpk
        have H := HP.out wr k hlt hB
        rw [hpk'.out] at H
        have H' := hide H; clear H
        go_wp2_with ((with_reducible refine H'.out.mono ?_); rintro e w' ⟨rfl, hb1⟩)
        go_roundw
        case rel => exact ⟨k + 1, by omega, by go_num, by simp [idx, HX.out, hpk'.out], hB.trans (hb1.mono hB.size)⟩
        case measure => simp [intOf]; omega
    · obtain rfl : k = n := by omega
      go_wp2
      go_ret
      exact ⟨ret_int HX.out.symm, hB⟩

theorem containsFunc_stage (g : FuncId) (lb : Array Value) (p : Nat → Bool) (A : Option Addr) (n c : Nat) (u v : Nat → Value) (w : World) (hn : n ≤ maxLen) (hR : P2 w w.heap.size A n u v)
    (eg : ∀ args w, (callFunc g args).run Try.prog w = .ok (.enter g args) w)
    (hp : ∀ W k, k < n → Below w.heap.size w W → Calls Try.prog g (#[.agg #[u k, v k]] ++ lb) W fun e W' => e = .returned (.bool (p k)) ∧ Below W.heap.size W W') :
    Calls Try.prog 97 #[.slice A n c, .func (.func g) #[] lb] w fun e w' => e = .returned (.bool (anyTo p n)) ∧ Below w.heap.size w w' := by
  have H := hide (indexFunc_stage g lb p A n c u v w hn hR eg hp)
  clear hp hR hn eg
  go_enter Try.func97, Try.ntmps97
  go_wp2_with ((with_reducible refine H.out.mono ?_); rintro e w' ⟨rfl, hb1⟩)
  go_ret
  exact ⟨ret_bool (idx_any p n), hb1⟩

theorem indexFunc_tier (g : FuncId) (lb : Array Value) (p : Nat → Bool) (A : Option Addr) (n c : Nat) (u v : Nat → Value) (w : World) (hn : n ≤ maxLen) (hR : P2 w w.heap.size A n u v)
    (eg : ∀ args w, (callFunc g args).run Try.prog w = .ok (.enter g args) w)
    (hp : ∀ W k, k < n → Below w.heap.size w W → Calls Try.prog g (#[.agg #[u k, v k]] ++ lb) W fun e W' => e = .returned (.bool (p k)) ∧ Below W.heap.size W W') :
    Calls Try.prog 109 #[.slice A n c, .func (.func g) #[] lb] w fun e w' => e = .returned (.int .i64 (idx p n)) ∧ Below w.heap.size w w' := by
  unfold maxLen at hn
  have HP := hide hp; clear hp
  go_enter Try.func109, Try.ntmps109
  go_wp2
  go_loopw [8] (fun i wr => ∃ k : Nat, k ≤ n ∧ i = .int .i64 k ∧ idx p k = -1 ∧ Below w.heap.size w wr) (fun i _ => n - (intOf i).toNat)
  case atStart => exact ⟨0, Nat.zero_le _, rfl, rfl, Below.refl _ _⟩
  case round =>
    obtain ⟨k, hk, rfl, hx, hB⟩ := hrel
    have HX := hide hx; clear hx
    by_cases hlt : k < n
    · have hR' := (hR.below hB (Nat.le_refl _)).at_ hlt
      obtain ⟨b, off, rfl, hb, hR'⟩ := hR'
      obtain ⟨hc, hc2⟩ := hR'
      cases hpk : p k with
      | true =>
        have hpk' := hide hpk; clear hpk
        have H := HP.out wr k hlt hB
        rw [hpk'.out] at H
        have H' := hide H; clear H
        go_wp2_with ((with_reducible refine H'.out.mono ?_); rintro e w' ⟨rfl, hb1⟩)
        go_ret
        refine ⟨ret_int ?_, hB.trans (hb1.mono hB.size)⟩
        rw [idx_stable p (k+1) n (by simp [idx, HX.out, hpk'.out]) (by omega)]
        simp [idx, HX.out, hpk'.out]
      | false =>
        have hpk' := hide hpk; clear hpk
        have H := HP.out wr k hlt hB
        rw [hpk'.out] at H
        have H' := hide H; clear H
        go_wp2_with ((with_reducible refine H'.out.mono ?_); rintro e w' ⟨rfl, hb1⟩)
        go_roundw
        case rel => exact ⟨k + 1, by omega, by go_num, by simp [idx, HX.out, hpk'.out], hB.trans (hb1.mono hB.size)⟩
        case measure => simp [intOf]; omega
    · obtain rfl : k = n := by omega
      go_wp2
      go_ret
      exact ⟨ret_int HX.out.symm, hB⟩

theorem containsFunc_tier (g : FuncId) (lb : Array Value) (p : Nat → Bool) (A : Option Addr) (n c : Nat) (u v : Nat → Value) (w : World) (hn : n ≤ maxLen) (hR : P2 w w.heap.size A n u v)
    (eg : ∀ args w, (callFunc g args).run Try.prog w = .ok (.enter g args) w)
    (hp : ∀ W k, k < n → Below w.heap.size w W → Calls Try.prog g (#[.agg #[u k, v k]] ++ lb) W fun e W' => e = .returned (.bool (p k)) ∧ Below W.heap.size W W') :
    Calls Try.prog 90 #[.slice A n c, .func (.func g) #[] lb] w fun e w' => e = .returned (.bool (anyTo p n)) ∧ Below w.heap.size w w' := by
  have H := hide (indexFunc_tier g lb p A n c u v w hn hR eg hp)
  clear hp hR hn eg
  go_enter Try.func90, Try.ntmps90
  go_wp2_with ((with_reducible refine H.out.mono ?_); rintro e w' ⟨rfl, hb1⟩)
  go_ret
  exact ⟨ret_bool (idx_any p n), hb1⟩

/-- within's test -/
theorem within1_any (v a b : Int) (p q : Nat) (w : World) (hp : w.cell? ⟨p, 0, none⟩ = some (.int .i64 a)) (hq : w.cell? ⟨q, 0, none⟩ = some (.int .i64 b)) :
    Calls Try.prog 100 #[.int .i64 v, .pointer (some ⟨p, 0, none⟩), .pointer (some ⟨q, 0, none⟩)] w fun e w' => e = .returned (.bool (outB a b v)) ∧ Below w.heap.size w w' := by
  go_enter Try.func100, Try.ntmps100
  go_wp2
  all_goals
    go_ret
    refine ⟨ret_bool ?_, Below.refl _ _⟩
    simp [outB]; try omega
def wiB (a b : Int) (x : Nat → Int) (n : Nat) : Bool := !anyTo (fun k => outB a b (x k)) n
theorem wiB_iff (a b : Int) (x : Nat → Int) (n : Nat) : wiB a b x n = true ↔ ∀ k, k < n → a ≤ x k ∧ x k ≤ b := by
  unfold wiB
  rw [Bool.not_eq_true', ← Bool.not_eq_true, anyTo_iff]
  constructor
  · intro h k hk
    rw [← outB_false]
    rcases hb : outB a b (x k) with _ | _
    · rfl
    · exact absurd ⟨k, hk, hb⟩ h
  · rintro h ⟨k, hk, h2⟩
    exact (outB_iff _ _ _).1 h2 (h k hk)
theorem within_any (a b : Int) (A : Option Addr) (n c : Nat) (x : Nat → Int) (w : World) (hn : n ≤ maxLen) (hR : IR w w.heap.size A n x) :
    Calls Try.prog 61 #[.int .i64 a, .int .i64 b, .slice A n c] w fun e w' => e = .returned (.bool (wiB a b x n)) ∧ Below w.heap.size w w' := by
  have hR' := hide hR; clear hR
  unfold maxLen at hn
  go_enter Try.func61, Try.ntmps61
  go_wp2_with fail
  refine (containsFunc_int 100 #[.pointer (some ⟨w.heap.size, 0, none⟩), .pointer (some ⟨w.heap.size + 1, 0, none⟩)] (fun k => outB a b (x k)) A n c x _ hn ?_ ?_ ?_).mono ?_
  · exact (hR'.out.below (((Below.refl _ _).alloc (Nat.le_refl _) _).alloc (by simp) _) (Nat.le_refl _)).more (by simp; omega)
  · exact enters_of Try.func100 (by kernel_rfl) rfl
  · intro W k _ hB
    refine within1_any _ _ _ _ _ _ ?_ ?_
    · rw [hB.cell (by simp; omega)]; simp
    · rw [hB.cell (by simp)]; simp
  rintro e w' ⟨rfl, hb1⟩
  go_wp2_with fail
  go_ret
  exact ⟨rfl, (((Below.refl _ _).alloc (Nat.le_refl _) _).alloc (by simp) _).trans (hb1.mono (by simp; omega))⟩
end Go.Proofs.Ytlhekifmkkgjlaa
/- Words on memory, turned from the guide's blocks for copying: a slice that reads as a list of cells, a block known whole, append from any source; and their ties to this family's words. -/
namespace Go.Proofs.Ytlhekifmkkgjlaa
open Go Go.RowKit
theorem block_of_add (a : Addr) (n : Nat) : (a.add n).block = a.block := by unfold Addr.add; split <;> rfl
theorem add_of_add (a : Addr) (i j : Nat) : (a.add i).add j = a.add (i + j) := by
  unfold Addr.add
  by_cases hi : i = 0 <;> by_cases hj : j = 0 <;> simp [hi, hj, Nat.add_assoc]

def Reads (w : World) (B size : Nat) (A : Option Addr) (n : Nat) (xs : List Value) : Prop :=
  xs.length = n * size ∧ (0 < n → ∃ ad, A = some ad ∧ ad.block < B ∧ ∀ j u, xs[j]? = some u → w.cell? (ad.add j) = some u)

section
variable {w w' : World} {B B' size n : Nat} {A : Option Addr} {xs : List Value}
theorem Reads.none_ : Reads w B size A 0 [] := ⟨by simp, fun h => absurd h (by omega)⟩
theorem Reads.at_ {k : Nat} (h : Reads w B 1 A n xs) (hk : k < n) : ∃ ad u, A = some ad ∧ ad.block < B ∧ xs[k]? = some u ∧ w.cell? (ad.add k) = some u := by
  obtain ⟨ad, e, hb, hc⟩ := h.2 (by omega)
  have hl : k < xs.length := by have := h.1; omega
  exact ⟨ad, xs[k], e, hb, List.getElem?_eq_getElem hl, hc k _ (List.getElem?_eq_getElem hl)⟩
theorem Reads.keep (h : Reads w B size A n xs) (hk : ∀ p : Addr, p.block < B → w'.cell? p = w.cell? p) : Reads w' B size A n xs :=
  ⟨h.1, fun hn => by
    obtain ⟨ad, e, hb, hc⟩ := h.2 hn
    exact ⟨ad, e, hb, fun j u hu => (hk _ (by rw [block_of_add]; exact hb)).trans (hc j u hu)⟩⟩
theorem Reads.more (h : Reads w B size A n xs) (hB : B ≤ B') : Reads w B' size A n xs :=
  ⟨h.1, fun hn => by
    obtain ⟨ad, e, hb, hc⟩ := h.2 hn
    exact ⟨ad, e, by omega, hc⟩⟩
theorem Reads.below (h : Reads w B size A n xs) (hb : Below B w w') : Reads w' B size A n xs := h.keep fun _ hp => hb.cell hp
theorem Reads.drew (h : Reads w B size A n xs) : Reads w.drew B size A n xs := h
theorem Reads.drewN (h : Reads w B size A n xs) (k : Nat) : Reads (w.drewN k) B size A n xs := h
theorem Reads.alloc (h : Reads w B size A n xs) (hB : B ≤ w.heap.size) (o : Obj) : Reads (w.alloc o) B size A n xs := h.keep fun p hp => World.cell?_alloc_lt w o p (by omega)
theorem Reads.setCell (h : Reads w B size A n xs) {p : Addr} (hB : B ≤ p.block) (u : Value) : Reads (w.setCell p u) B size A n xs :=
  h.keep fun q hq => World.cell?_setCell_other w p q u (fun e => by subst e; omega)
theorem Reads.grown (h : Reads w B size A n xs) {row : Option Nat} (hg : w.grownBy w' row) (hB : B ≤ w.heap.size) (hr : ∀ g, row = some g → B ≤ g) : Reads w' B size A n xs :=
  h.keep fun p hp => World.cell?_of_block (hg.block p.block (by omega) (fun e => by have := hr _ e.symm; omega))
theorem Reads.cut (h : Reads w B size A n xs) {k cap : Nat} (hk : k ≤ n) (hc : n ≤ cap) :
    Reads w B size (if cap = k then A else A.map (·.add (k * size))) (n - k) (xs.drop (k * size)) := by
  refine ⟨by rw [List.length_drop, h.1, Nat.sub_mul], fun hn => ?_⟩
  obtain ⟨ad, rfl, hb, hcell⟩ := h.2 (by omega)
  rw [if_neg (by omega)]
  refine ⟨ad.add (k * size), rfl, by rw [block_of_add]; exact hb, fun j u hu => ?_⟩
  rw [add_of_add]
  exact hcell _ u (by rw [← hu, List.getElem?_drop])
theorem Reads.of_own {base : Nat} {e : TypeId} {c : Nat} (h : w.ownsRow base e size (.slice A n c) n xs) : Reads w w.heap.size size A n xs := by
  refine ⟨h.1, fun hn => ?_⟩
  obtain ⟨g, cap, hv, _, hlt⟩ := h.form hn
  have hA : A = some ⟨g, 0, none⟩ := by injection hv
  subst hA
  exact ⟨_, rfl, hlt, h.cells (g := g) rfl⟩
end
def Blk (w : World) (g : Nat) (t : TypeId) (cs : Array Value) : Prop := w.heap[g]? = some (.cells cs t (0, 0))

section
variable {w w' : World} {g : Nat} {t : TypeId} {cs : Array Value}
theorem Blk.lt (h : Blk w g t cs) : g < w.heap.size := by
  rcases Nat.lt_or_ge g w.heap.size with hlt | hge
  · exact hlt
  · unfold Blk at h; rw [Array.getElem?_eq_none hge] at h; cases h
theorem Blk.cell (h : Blk w g t cs) (i : Nat) : w.cell? ⟨g, i, none⟩ = cs[i]? := cell_of_row w g i cs t (0, 0) h
theorem Blk.frozen (h : Blk w g t cs) (i : Nat) : w.frozen? ⟨g, i, none⟩ = false := by
  unfold Blk at h
  simp [World.frozen?, h]
theorem Blk.new (w : World) (t : TypeId) (cs : Array Value) : Blk (w.alloc (.cells cs t)) w.heap.size t cs := heap_alloc_new w _
theorem Blk.drew (h : Blk w g t cs) : Blk w.drew g t cs := h
theorem Blk.drewN (h : Blk w g t cs) (n : Nat) : Blk (w.drewN n) g t cs := h
theorem Blk.alloc (h : Blk w g t cs) (o : Obj) : Blk (w.alloc o) g t cs := (Below.heap_alloc w o g h.lt).trans h
theorem Blk.set_ (h : Blk w g t cs) (i : Nat) (u : Value) : Blk (w.setCell ⟨g, i, none⟩ u) g t (cs.setIfInBounds i u) := by
  unfold Blk at h ⊢
  simp [World.setCell, Array.getElem?_modify, h]
theorem Blk.far (h : Blk w g t cs) {p : Addr} (hp : g ≠ p.block) (u : Value) : Blk (w.setCell p u) g t cs := (Below.heap_setCell w p u g hp).trans h
theorem Blk.below {B : Nat} (h : Blk w g t cs) (hb : Below B w w') (hg : g < B) : Blk w' g t cs := (hb.block g hg).trans h
theorem Blk.grown {row : Option Nat} (h : Blk w g t cs) (hb : w.grownBy w' row) (hg : some g ≠ row) : Blk w' g t cs := (hb.block g h.lt hg).trans h
theorem Blk.ne_ {g' : Nat} {t' : TypeId} {cs' : Array Value} (h : Blk w g t cs) (h' : Blk w g' t' cs') (hne : t ≠ t') : g ≠ g' := by
  rintro rfl
  unfold Blk at h h'
  rw [h] at h'
  injection h' with h'
  injection h' with _ ht
  exact hne ht
theorem own_blk_ne {base : Nat} {e : TypeId} {size n : Nat} {v : Value} {xs : List Value} (h : w.ownsRow base e size v n xs) (hg : Blk w g t cs) (hne : e ≠ t) : v.ownBlock ≠ some g := by
  rcases h.2 with ⟨rfl, _⟩ | ⟨g', cap, cur, rfl, _, hh, _⟩
  · simp [Value.ownBlock]
  · intro he
    have : g' = g := by simpa [Value.ownBlock] using he
    subst this
    exact Blk.ne_ (t := e) hh hg hne rfl
end
section
variable {P : Program} (w : World)

theorem run_append_of_nil (base : Nat) (t ty e : TypeId) (i : TypeInfo) (size : Nat) (ht : P.underlying t = some (.slice e)) (hi : P.info? e = some i)
    (v : Value) (n : Nat) (xs : List Value) (hown : w.ownsRow base e size v n xs) (c : Nat) : (Builtin.append_ #[t, t] ty #[v, .slice none 0 c]).run P w = .ok v w := by
  rcases hown.2 with ⟨rfl, rfl⟩ | ⟨g, cap, cur, rfl, _, _, hnc, _⟩
  · simp [Builtin.append_, run_underlying ht, sizeOf, typeInfo, hi, Builtin.lenOf, Builtin.firstCells]
  · simp [Builtin.append_, run_underlying ht, sizeOf, typeInfo, hi, Builtin.lenOf, Builtin.firstCells, hnc, storeCells]

theorem run_append_any (base : Nat) (t ty e : TypeId) (i : TypeInfo) (z : Value) (size bytes : Nat) (ht : P.underlying t = some (.slice e)) (hi : P.info? e = some i) (hz : i.zero = some z)
    (hsize : i.size = size) (hby : i.bytes = bytes) (hzs : z.cells.size = size) (hsz : 0 < size)
    (v : Value) (n : Nat) (xs : List Value) (hown : w.ownsRow base e size v n xs)
    (B : Nat) (A : Option Addr) (m c : Nat) (news : List Value) (hr : Reads w B size A m news) (h1 : ∀ u ∈ news, u.oneCell' = true)
    (h63 : n + m ≤ maxLen) (hbytes : (n + m) * bytes ≤ 140737488355328) (hbase : base ≤ w.heap.size) :
    ∃ v' w', (Builtin.append_ #[t, t] ty #[v, .slice A m c]).run P w = .ok v' w' ∧ w'.ownsRow base e size v' (n + m) (xs ++ news) ∧ w.grownBy w' v.ownBlock ∧
      (v'.ownBlock = v.ownBlock ∨ v'.ownBlock = some w.heap.size) := by
  rcases A with _ | ad
  · have hm : m = 0 := by
      rcases Nat.eq_zero_or_pos m with h0 | h0
      · exact h0
      · obtain ⟨ad, h, _⟩ := hr.2 h0
        cases h
    subst hm
    have hn : news = [] := List.eq_nil_of_length_eq_zero (by simpa using hr.1)
    subst hn
    exact ⟨v, w, run_append_of_nil w base t ty e i size ht hi v n xs hown c, by simpa using hown, World.grownBy.refl w _, .inl rfl⟩
  · have hcells : ∀ j u, news[j]? = some u → w.cell? (ad.add j) = some u := by
      intro j u hu
      rcases Nat.eq_zero_or_pos m with h0 | h0
      · subst h0
        have hn : news = [] := List.eq_nil_of_length_eq_zero (by simpa using hr.1)
        subst hn
        simp at hu
      · obtain ⟨ad', h, _, hc⟩ := hr.2 h0
        injection h with h
        subst h
        exact hc j u hu
    obtain ⟨v', w', hrun, h2, h3, _, h5⟩ := run_append_own_at (P := P) w base t ty e i z size bytes ht hi hz hsize hby hzs hsz v n xs hown ad m c news hr.1 hcells h1 h63 hbytes hbase
    exact ⟨v', w', hrun, h2, h3, h5⟩

theorem wp_append_any {o : Oper} {a : Act} {K : Act → World → Prop} {Q : Exit → Act → World → Prop} (s x : Operand) (t : TypeId)
    (ho : o.op = .call { callee := .builtin .append, args := #[s, x], argTypes := #[t, t] })
    (base : Nat) (e : TypeId) (i : TypeInfo) (z : Value) (size bytes : Nat) (ht : P.underlying t = some (.slice e)) (hi : P.info? e = some i) (hz : i.zero = some z)
    (hsize : i.size = size) (hby : i.bytes = bytes) (hzs : z.cells.size = size) (hsz : 0 < size)
    (v : Value) (n : Nat) (xs : List Value) (hs : a.eval s = v) (hown : w.ownsRow base e size v n xs)
    (B : Nat) (A : Option Addr) (m c : Nat) (news : List Value) (hx : a.eval x = .slice A m c) (hr : Reads w B size A m news) (h1 : ∀ u ∈ news, u.oneCell' = true)
    (h63 : n + m ≤ maxLen) (hbytes : (n + m) * bytes ≤ 140737488355328) (hbase : base ≤ w.heap.size)
    (h : ∀ v' w', w'.ownsRow base e size v' (n + m) (xs ++ news) → w.grownBy w' v.ownBlock → (v'.ownBlock = v.ownBlock ∨ v'.ownBlock = some w.heap.size) → K (a.put o.dst v') w') : o.wp P a w K Q := by
  obtain ⟨v', w', hrun, h2, h3, h4⟩ := run_append_any (P := P) w base t o.type e i z size bytes ht hi hz hsize hby hzs hsz v n xs hown B A m c news hr h1 h63 hbytes hbase
  unfold Oper.wp execOp
  simp only [ho, resolve, invoke, builtin, Sem.run_bind, Sem.run_pure, Result.andThen_ok, List.map_toArray, List.map_cons, List.map_nil, hs, hx, hrun]
  exact h v' w' h2 h3 h4

theorem wpList_append_any {ops : Array Oper} {rest : List Oper} {o : Oper} {a : Act} {Q : Exit → Act → World → Prop} (hgd : o.guard = none) (s x : Operand) (t : TypeId)
    (ho : o.op = .call { callee := .builtin .append, args := #[s, x], argTypes := #[t, t] })
    (base : Nat) (e : TypeId) (i : TypeInfo) (z : Value) (size bytes : Nat) (ht : P.underlying t = some (.slice e)) (hi : P.info? e = some i) (hz : i.zero = some z)
    (hsize : i.size = size) (hby : i.bytes = bytes) (hzs : z.cells.size = size) (hsz : 0 < size)
    (v : Value) (n : Nat) (xs : List Value) (hs : a.eval s = v) (hown : w.ownsRow base e size v n xs)
    (B : Nat) (A : Option Addr) (m c : Nat) (news : List Value) (hx : a.eval x = .slice A m c) (hr : Reads w B size A m news) (h1 : ∀ u ∈ news, u.oneCell' = true)
    (h63 : n + m ≤ maxLen) (hbytes : (n + m) * bytes ≤ 140737488355328) (hbase : base ≤ w.heap.size)
    (h : ∀ v' w', w'.ownsRow base e size v' (n + m) (xs ++ news) → w.grownBy w' v.ownBlock → (v'.ownBlock = v.ownBlock ∨ v'.ownBlock = some w.heap.size) → wpList P ops Q rest (a.put o.dst v') w') : wpList P ops Q (o :: rest) a w :=
  wpList_plain hgd fun _ hK => wp_append_any w s x t ho base e i z size bytes ht hi hz hsize hby hzs hsz v n xs hs hown B A m c news hx hr h1 h63 hbytes hbase fun v' w' h2 h3 h4 => hK _ _ (h v' w' h2 h3 h4)

theorem step_append_any {ops : Array Oper} {o : Oper} {a : Act} {K : Act → World → Prop} {Q : Exit → Act → World → Prop} {E : Prop} (hgd : o.guard = none) (s x : Operand) (t : TypeId)
    (ho : o.op = .call { callee := .builtin .append, args := #[s, x], argTypes := #[t, t] })
    (base : Nat) (e : TypeId) (i : TypeInfo) (z : Value) (size bytes : Nat) (ht : P.underlying t = some (.slice e)) (hi : P.info? e = some i) (hz : i.zero = some z)
    (hsize : i.size = size) (hby : i.bytes = bytes) (hzs : z.cells.size = size) (hsz : 0 < size)
    (v : Value) (n : Nat) (xs : List Value) (hs : a.eval s = v) (hown : w.ownsRow base e size v n xs)
    (B : Nat) (A : Option Addr) (m c : Nat) (news : List Value) (hx : a.eval x = .slice A m c) (hr : Reads w B size A m news) (h1 : ∀ u ∈ news, u.oneCell' = true)
    (h63 : n + m ≤ maxLen) (hbytes : (n + m) * bytes ≤ 140737488355328) (hbase : base ≤ w.heap.size)
    (h : ∀ v' w', w'.ownsRow base e size v' (n + m) (xs ++ news) → w.grownBy w' v.ownBlock → (v'.ownBlock = v.ownBlock ∨ v'.ownBlock = some w.heap.size) → K (a.put o.dst v') w') :
    if Region.wanted o (yielded ops a.tmps) = true then Oper.wp P o a w K Q else E := by
  have hw : Region.wanted o (yielded ops a.tmps) = true := by simp [Region.wanted, hgd]
  rw [if_pos hw]
  exact wp_append_any w s x t ho base e i z size bytes ht hi hz hsize hby hzs hsz v n xs hs hown B A m c news hx hr h1 h63 hbytes hbase h
end

/-- n elements of sz cells, written out -/
def cellsOf (sz n : Nat) (g : Nat → Nat → Value) : List Value := (List.range (n * sz)).map fun j => g (j / sz) (j % sz)
theorem cellsOf_len (sz n : Nat) (g : Nat → Nat → Value) : (cellsOf sz n g).length = n * sz := by simp [cellsOf]
theorem cellsOf_get (sz n : Nat) (g : Nat → Nat → Value) (k i : Nat) (hk : k < n) (hi : i < sz) : (cellsOf sz n g)[k * sz + i]? = some (g k i) := by
  have h1 : k * sz + i < n * sz := by
    have : (k + 1) * sz ≤ n * sz := Nat.mul_le_mul_right _ hk
    rw [Nat.succ_mul] at this; omega
  have h2 : (k * sz + i) / sz = k := by
    rw [Nat.add_comm, Nat.mul_comm k sz, Nat.add_mul_div_left _ _ (by omega), Nat.div_eq_of_lt hi]; omega
  have h3 : (k * sz + i) % sz = i := by rw [Nat.add_comm, Nat.add_mul_mod_self_right, Nat.mod_eq_of_lt hi]
  simp [cellsOf, h1, h2, h3]
theorem add_lit' (b off j : Nat) : (⟨b, off, none⟩ : Addr).add j = ⟨b, off + j, none⟩ := by unfold Addr.add; split <;> simp_all
theorem ER.reads {w : World} {B sz n : Nat} {A : Option Addr} {g : Nat → Nat → Value} (h : ER w B sz A n g) (hs : 0 < sz) : Reads w B sz A n (cellsOf sz n g) := by
  refine ⟨cellsOf_len _ _ _, fun hn => ?_⟩
  obtain ⟨b, off, rfl, hb, hc⟩ := h hn
  refine ⟨_, rfl, hb, fun j u hu => ?_⟩
  have hj : j < n * sz := by
    have := (List.getElem?_eq_some_iff.1 hu).1
    rwa [cellsOf_len] at this
  have hd : j / sz < n := Nat.div_lt_of_lt_mul (by rwa [Nat.mul_comm] at hj)
  have hm := Nat.mod_lt j hs
  have he : j = j / sz * sz + j % sz := by rw [Nat.mul_comm]; exact (Nat.div_add_mod j sz).symm
  have h1 := cellsOf_get sz n g _ _ hd hm
  rw [← he, hu] at h1
  rw [add_lit', h1, ← hc _ _ hd hm]
  congr 2
  omega
theorem ER.of_own {w : World} {base : Nat} {e : TypeId} {sz n : Nat} {v : Value} {g : Nat → Nat → Value} (h : w.ownsRow base e sz v n (cellsOf sz n g)) (hs : 0 < sz) :
    ∃ A c, v = .slice A n c ∧ ER w w.heap.size sz A n g ∧ n ≤ c := by
  rcases h.2 with ⟨rfl, rfl⟩ | ⟨b, cap, cur, rfl, _, hh, hnc, _⟩
  · exact ⟨none, 0, rfl, ER.nil _ _ _ _ _, Nat.le_refl _⟩
  · refine ⟨_, _, rfl, fun hn => ⟨b, 0, rfl, ?_, fun k i hk hi => ?_⟩, hnc⟩
    · rcases Nat.lt_or_ge b w.heap.size with hl | hl
      · exact hl
      · rw [Array.getElem?_eq_none hl] at hh; cases hh
    · have := h.cells (g := b) rfl (k * sz + i) _ (cellsOf_get sz n g k i hk hi)
      rw [add_lit'] at this
      simpa [Nat.add_assoc] using this
theorem own_empty (w : World) (e : TypeId) (sz : Nat) : (w.alloc (.cells #[] e)).ownsRow w.heap.size e sz (.slice (some ⟨w.heap.size, 0, none⟩) 0 0) 0 [] :=
  ⟨by simp, .inr ⟨w.heap.size, 0, #[], rfl, Nat.le_refl _, heap_alloc_new w _, Nat.le_refl _, Nat.zero_le _, by simp, by simp⟩⟩
theorem blk2 {w : World} {g : Nat} {t : TypeId} {a b : Value} (h : Blk w g t #[a, b]) : g < w.heap.size ∧ w.cell? ⟨g, 0, none⟩ = some a ∧ w.cell? ⟨g, 1, none⟩ = some b ∧ w.frozen? ⟨g, 0, none⟩ = false ∧ w.frozen? ⟨g, 1, none⟩ = false :=
  ⟨h.lt, by simpa using h.cell 0, by simpa using h.cell 1, h.frozen 0, h.frozen 1⟩
theorem blk1 {w : World} {g : Nat} {t : TypeId} {a : Value} (h : Blk w g t #[a]) : g < w.heap.size ∧ w.cell? ⟨g, 0, none⟩ = some a ∧ w.frozen? ⟨g, 0, none⟩ = false :=
  ⟨h.lt, by simpa using h.cell 0, h.frozen 0⟩
theorem blk4 {w : World} {g : Nat} {t : TypeId} {a b c d : Value} (h : Blk w g t #[a, b, c, d]) : g < w.heap.size ∧ w.cell? ⟨g, 0, none⟩ = some a ∧ w.cell? ⟨g, 1, none⟩ = some b ∧ w.cell? ⟨g, 2, none⟩ = some c ∧ w.cell? ⟨g, 3, none⟩ = some d :=
  ⟨h.lt, by simpa using h.cell 0, by simpa using h.cell 1, by simpa using h.cell 2, by simpa using h.cell 3⟩
theorem Blk.ext {w w' : World} {g : Nat} {t : TypeId} {cs : Array Value} (h : Blk w g t cs) (hb : Below w.heap.size w w') : Blk w' g t cs := h.below hb h.lt
theorem size_set (w : World) (p : Addr) (v : Value) : (w.setCell p v).heap.size = w.heap.size := by simp [World.setCell]
/-- what is alike below B stays so over the same store -/
theorem setB {B : Nat} {w W : World} (h : Below B w W) (p : Addr) (v : Value) : Below B (w.setCell p v) (W.setCell p v) := by
  refine ⟨h.os, h.tape, h.output, by simpa [size_set] using h.size, fun k hk => ?_⟩
  simp only [World.setCell, Array.getElem?_modify, h.block k hk]
/-- Below, behind a store into an old block of the frame's own -/
theorem Below_of_set {B : Nat} {a w w' : World} (h : Below B a w) {p : Addr} (hp : B ≤ p.block) (v : Value) (hB : B ≤ w.heap.size) (k : Below w.heap.size (w.setCell p v) w') : Below B a w' :=
  (h.setCell hp v).trans (k.mono hB)
/-- two stores into one struct of two cells -/
theorem set2B {B : Nat} {a w : World} (h : Below B a w) {g : Nat} (hg : B ≤ g) (u v : Value) : Below B a ((w.setCell ⟨g, 0, none⟩ u).setCell ⟨g, 1, none⟩ v) :=
  (h.setCell (p := ⟨g, 0, none⟩) hg u).setCell (p := ⟨g, 1, none⟩) hg v
end Go.Proofs.Ytlhekifmkkgjlaa
/- Contracts of chapter 8: stages, what is left, what is needed. -/
namespace Go.Proofs.Ytlhekifmkkgjlaa
open Go Go.RowKit
set_option maxHeartbeats 400000
/-- a stage that is not valid -/
def stB (a b : Int) : Bool := decide (a < 0) || decide (b < a) || decide (10000 < b)
theorem stB_false (a b : Int) : stB a b = false ↔ 0 ≤ a ∧ a ≤ b ∧ b ≤ 10000 := by
  simp only [stB, Bool.or_eq_false_iff, decide_eq_false_iff_not]; omega
theorem check1_any (a b : Int) (w : World) : Calls Try.prog 98 #[.agg #[.int .i64 a, .int .i64 b]] w fun e w' => e = .returned (.bool (stB a b)) ∧ Below w.heap.size w w' := by
  go_enter Try.func98, Try.ntmps98
  go_wp2
  all_goals
    go_ret
    refine ⟨ret_bool ?_, (Below.refl _ _).alloc (Nat.le_refl _) _⟩
    simp [stB]; try omega
def chkE (n : Int) (m : Nat) (bad : Bool) : Int := if 10 < m then 5 else if bad = true then 2 else if 0 ≤ n ∧ n ≤ 1000000000 then 0 else 3
theorem wiB_one (a b v : Int) : wiB a b (fun _ => v) 1 = decide (a ≤ v ∧ v ≤ b) := by
  rw [Bool.eq_iff_iff, wiB_iff, decide_eq_true_eq]
  exact ⟨fun h => h 0 (by omega), fun h _ _ => h⟩
theorem check_any (n : Int) (A : Option Addr) (m c : Nat) (x y : Nat → Int) (w : World) (hm : m ≤ maxLen) (hR : P2 w w.heap.size A m (fun k => .int .i64 (x k)) (fun k => .int .i64 (y k))) :
    Calls Try.prog 54 #[.int .i64 n, .slice A m c] w fun e w' => e = .returned (.int .i64 (chkE n m (anyTo (fun k => stB (x k) (y k)) m))) ∧ Below w.heap.size w w' := by
  have H1 := hide (containsFunc_stage 98 #[] (fun k => stB (x k) (y k)) A m c _ _ w hm hR (enters_of Try.func98 (by kernel_rfl) rfl) (fun W k _ _ => check1_any _ _ _))
  clear hR
  unfold maxLen at hm
  generalize hbad : anyTo (fun k => stB (x k) (y k)) m = bad at H1 ⊢
  clear hbad
  go_enter Try.func54, Try.ntmps54
  by_cases h10 : 10 < m
  · go_wp2_with fail
    go_ret
    exact ⟨ret_int (by simp [chkE, h10]), Below.refl _ _⟩
  · go_wp2_with fail
    refine H1.out.mono ?_
    rintro e w1 ⟨rfl, hb1⟩
    cases bad
    · go_wp2_with fail
      refine (within_any 0 1000000000 _ 1 1 (fun _ => n) _ (by decide) ?_).mono ?_
      · simpa using IR.one w1 n 3
      rw [wiB_one]
      rintro e w2 ⟨rfl, hb2⟩
      by_cases hn : 0 ≤ n ∧ n ≤ 1000000000
      · have hd := decide_eq_true hn
        rw [hd]
        go_wp2_with fail
        go_ret
        exact ⟨ret_int (by simp [chkE, h10, hn]), (hb1.alloc hb1.size _).trans (hb2.mono (by simp; have := hb1.size; omega))⟩
      · have hd := decide_eq_false hn
        rw [hd]
        go_wp2_with fail
        go_ret
        exact ⟨ret_int (by simp [chkE, h10, hn]), (hb1.alloc hb1.size _).trans (hb2.mono (by simp; have := hb1.size; omega))⟩
    · go_wp2_with fail
      go_ret
      exact ⟨ret_int (by simp [chkE, h10]), hb1⟩
/-- what is left behind k stages with the shares sh -/
def aft (sh : Nat → Int) : Nat → Int → Int
  | 0, n => n
  | k + 1, n => aft sh k n - aft sh k n * sh k / 10000
theorem aft_bd (sh : Nat → Int) (n : Int) (h0 : 0 ≤ n) : ∀ k, (∀ i, i < k → 0 ≤ sh i ∧ sh i ≤ 10000) → 0 ≤ aft sh k n ∧ aft sh k n ≤ n
  | 0, _ => ⟨h0, Int.le_refl _⟩
  | k + 1, h => by
    obtain ⟨h1, h2⟩ := aft_bd sh n h0 k fun i hi => h i (by omega)
    obtain ⟨h3, h4⟩ := h k (by omega)
    unfold aft
    have h5 : 0 ≤ aft sh k n * sh k := Int.mul_nonneg h1 h3
    have h6 : aft sh k n * sh k ≤ aft sh k n * 10000 := Int.mul_le_mul_of_nonneg_left h4 h1
    omega
theorem after_any (g : FuncId) (sh : Nat → Int) (n : Int) (A : Option Addr) (m c : Nat) (x y : Nat → Int) (w : World) (hm : m ≤ maxLen) (h0 : 0 ≤ n) (h1 : n ≤ 2000000000)
    (hR : PI w w.heap.size A m x y) (hsh : ∀ i, i < m → 0 ≤ sh i ∧ sh i ≤ 10000)
    (eg : ∀ args w, (callFunc g args).run Try.prog w = .ok (.enter g args) w)
    (hp : ∀ W k, k < m → Below w.heap.size w W → Calls Try.prog g #[.agg #[.int .i64 (x k), .int .i64 (y k)]] W fun e W' => e = .returned (.int .i64 (sh k)) ∧ Below W.heap.size W W') :
    Calls Try.prog 55 #[.int .i64 n, .slice A m c, .func (.func g) #[] #[]] w fun e w' => e = .returned (.int .i64 (aft sh m n)) ∧ Below w.heap.size w w' := by
  unfold maxLen at hm
  have HP := hide hp; clear hp
  have HS := hide hsh; clear hsh
  go_enter Try.func55, Try.ntmps55
  go_wp2_with fail
  go_loopw [0, 11] (fun n' i wr => ∃ k : Nat, k ≤ m ∧ i = .int .i64 k ∧ n' = .int .i64 (aft sh k n) ∧ Below w.heap.size w wr) (fun _ i _ => m - (intOf i).toNat)
  case atStart => exact ⟨0, Nat.zero_le _, rfl, rfl, Below.refl _ _⟩
  case round =>
    obtain ⟨k, hk, rfl, rfl, hB⟩ := hrel
    obtain ⟨b1, b2⟩ := aft_bd sh n h0 k fun i hi => HS.out i (by omega)
    by_cases hlt : k < m
    · obtain ⟨b, off, rfl, hb, hc1, hc2⟩ := PI.at_ (hR.below hB (Nat.le_refl _)) hlt
      obtain ⟨s1, s2⟩ := HS.out k hlt
      obtain ⟨b3, b4⟩ := aft_bd sh n h0 (k + 1) fun i hi => HS.out i (by omega)
      have h5 : 0 ≤ aft sh k n * sh k := Int.mul_nonneg b1 s1
      have h6 : aft sh k n * sh k ≤ aft sh k n * 10000 := Int.mul_le_mul_of_nonneg_left s2 b1
      go_wp2_with fail
      refine (HP.out _ k hlt (hB.alloc hB.size _)).mono ?_
      rintro e w1 ⟨rfl, hb1⟩
      go_wp2_with fail
      go_roundw
      case rel => exact ⟨k + 1, by omega, by go_num, rfl, (hB.alloc hB.size _).trans (hb1.mono (by simp; have := hB.size; omega))⟩
      case measure => simp [intOf]; omega
    · obtain rfl : k = m := by omega
      go_wp2_with fail
      go_ret
      exact ⟨rfl, hB⟩
end Go.Proofs.Ytlhekifmkkgjlaa
/- Contracts of chapter 8: the search by halving, Left and Need. -/
namespace Go.Proofs.Ytlhekifmkkgjlaa
open Go Go.RowKit
set_option maxHeartbeats 400000
/-- r is the least number below n where p holds, or n -/
def Least (p : Nat → Bool) (n r : Nat) : Prop := r ≤ n ∧ (∀ i, i < r → p i = false) ∧ (r < n → p r = true)
theorem Least.uniq {p : Nat → Bool} {n r s : Nat} (h : Least p n r) (k : Least p n s) : r = s := by
  obtain ⟨h1, h2, h3⟩ := h
  obtain ⟨k1, k2, k3⟩ := k
  rcases Nat.lt_trichotomy r s with hl | rfl | hl
  · have := h3 (by omega); rw [k2 r hl] at this; cases this
  · rfl
  · have := k3 (by omega); rw [h2 s hl] at this; cases this
def SearchPost (p : Nat → Bool) (n : Nat) (w : World) (e : Ending) (w' : World) : Prop := ∃ r : Nat, e = .returned (.int .i64 r) ∧ Least p n r ∧ Below w.heap.size w w'
theorem search_any (g : FuncId) (lb : Array Value) (p : Nat → Bool) (n : Nat) (w : World) (hn : n ≤ 2000000000) (mono : ∀ i j, i ≤ j → j < n → p i = true → p j = true)
    (eg : ∀ args w, (callFunc g args).run Try.prog w = .ok (.enter g args) w)
    (hp : ∀ W (k : Nat), k < n → Below w.heap.size w W → Calls Try.prog g (#[.int .i64 k] ++ lb) W fun e W' => e = .returned (.bool (p k)) ∧ Below W.heap.size W W') :
    Calls Try.prog 58 #[.int .i64 n, .func (.func g) #[] lb] w (SearchPost p n w) := by
  have HP := hide hp; clear hp
  have HM := hide mono; clear mono
  go_enter Try.func58, Try.ntmps58
  go_wp2_with fail
  go_loopw [5, 6] (fun i j wr => ∃ a b : Nat, i = .int .i64 a ∧ j = .int .i64 b ∧ a ≤ b ∧ b ≤ n ∧ Hid ((∀ i, i < a → p i = false) ∧ (b < n → p b = true)) ∧ Below w.heap.size w wr) (fun i j _ => (intOf j).toNat - (intOf i).toNat)
  case atStart => exact ⟨0, n, rfl, rfl, Nat.zero_le _, Nat.le_refl _, ⟨fun i hi => absurd hi (by omega), fun h => absurd h (by omega)⟩, Below.refl _ _⟩
  case round =>
    obtain ⟨a, b, rfl, rfl, hab, hbn, H, hB⟩ := hrel
    by_cases hlt : a < b
    · go_wp2_with fail
      obtain ⟨h, hh⟩ : ∃ h : Nat, h = (a + b) / 2 := ⟨_, rfl⟩
      have e1 : ((a : Int) + b) / 2 = (h : Int) := by omega
      have l1 : a ≤ h := by omega
      have l2 : h < b := by omega
      clear hh
      simp only [e1]
      clear e1
      cases hph : p h with
      | true =>
        have hph' := hide hph; clear hph
        have HC := hide (HP.out wr h (by omega) hB)
        rw [hph'.out] at HC
        refine HC.out.mono ?_
        rintro e w1 ⟨rfl, hb1⟩
        go_wp2_with fail
        go_roundw
        case rel => exact ⟨a, h, rfl, rfl, by omega, by omega, ⟨H.out.1, fun _ => hph'.out⟩, hB.trans (hb1.mono hB.size)⟩
        case measure => simp [intOf]; omega
      | false =>
        have hph' := hide hph; clear hph
        have HC := hide (HP.out wr h (by omega) hB)
        rw [hph'.out] at HC
        refine HC.out.mono ?_
        rintro e w1 ⟨rfl, hb1⟩
        go_wp2_with fail
        go_roundw
        case rel =>
          refine ⟨h + 1, b, by go_num, rfl, by omega, by omega, ⟨fun i hi => ?_, H.out.2⟩, hB.trans (hb1.mono hB.size)⟩
          rcases hpi : p i with _ | _
          · rfl
          · have := HM.out i h (by omega) (by omega) hpi
            rw [hph'.out] at this; cases this
        case measure => simp [intOf]; omega
    · obtain rfl : a = b := by omega
      go_wp2_with fail
      go_ret
      exact ⟨a, rfl, ⟨hbn, H.out.1, H.out.2⟩, hB⟩
theorem aft_mono (sh : Nat → Int) : ∀ k, (∀ i, i < k → 0 ≤ sh i ∧ sh i ≤ 10000) → ∀ a b : Int, 0 ≤ a → a ≤ b → aft sh k a ≤ aft sh k b
  | 0, _, a, b, _, h => h
  | k + 1, hs, a, b, h0, h => by
    have h1 := aft_mono sh k (fun i hi => hs i (by omega)) a b h0 h
    have h2 := (aft_bd sh a h0 k fun i hi => hs i (by omega)).1
    obtain ⟨s1, s2⟩ := hs k (by omega)
    unfold aft
    generalize aft sh k a = p at *
    generalize aft sh k b = q at *
    have h3 : q * sh k = p * sh k + (q - p) * sh k := by rw [← Int.add_mul]; congr 1; omega
    have h4 : (q - p) * sh k ≤ (q - p) * 10000 := Int.mul_le_mul_of_nonneg_left s2 (by omega)
    omega
theorem need1_any (n : Int) (i : Nat) (A : Option Addr) (m c : Nat) (x y : Nat → Int) (p q : Nat) (w : World) (hm : m ≤ maxLen) (h1 : i ≤ 2000000000)
    (hR : PI w w.heap.size A m x y) (hsh : ∀ i, i < m → 0 ≤ y i ∧ y i ≤ 10000)
    (hc : w.cell? ⟨p, 0, none⟩ = some (.slice A m c)) (hq : w.cell? ⟨q, 0, none⟩ = some (.int .i64 n)) (hpl : p < w.heap.size) (hql : q < w.heap.size) :
    Calls Try.prog 59 #[.int .i64 i, .pointer (some ⟨p, 0, none⟩), .pointer (some ⟨q, 0, none⟩)] w fun e w' => e = .returned (.bool (decide (n ≤ aft y m i))) ∧ Below w.heap.size w w' := by
  have HC := fun W (hB : Below w.heap.size w W) => after_any 56 y (i : Int) A m c x y W hm (by omega) (by omega) ((hR.below hB (Nat.le_refl _)).more hB.size) hsh (enters_of Try.func56 (by kernel_rfl) rfl) (fun W k _ _ => most_any _ _ _)
  have HC' := hide HC
  clear HC hR hsh
  go_enter Try.func59, Try.ntmps59
  go_wp2_with fail
  go_region_held3 (fun W => W.cell? ⟨p, 0, none⟩ = some (.slice A m c) ∧ W.cell? ⟨q, 0, none⟩ = some (.int .i64 n)) (first | go_keep | exact ⟨(hb1.cell (p := ⟨p, 0, none⟩) hpl).trans hc, (hb1.cell (p := ⟨q, 0, none⟩) hql).trans hq⟩) ((go_at_call 55; refine (HC'.out _ ((Below.refl _ _).drew)).mono ?_; rintro e w1 ⟨rfl, hb1⟩))
  go_wp2_with fail
  go_ret
  exact ⟨rfl, (Below.refl _ _).drew.trans hb1⟩
/-- stages that are valid -/
def Stages (m : Nat) (x y : Nat → Int) : Prop := ∀ i, i < m → 0 ≤ x i ∧ x i ≤ y i ∧ y i ≤ 10000
theorem stages_bad (m : Nat) (x y : Nat → Int) : anyTo (fun k => stB (x k) (y k)) m = false ↔ Stages m x y := by
  rw [← Bool.not_eq_true, anyTo_iff]
  constructor
  · intro h i hi
    rw [← stB_false]
    rcases hb : stB (x i) (y i) with _ | _
    · rfl
    · exact absurd ⟨i, hi, hb⟩ h
  · rintro h ⟨k, hk, h2⟩
    have := (stB_false _ _).2 (h k hk)
    rw [this] at h2; cases h2
theorem chkE_zero (n : Int) (m : Nat) (x y : Nat → Int) : chkE n m (anyTo (fun k => stB (x k) (y k)) m) = 0 ↔ m ≤ 10 ∧ Stages m x y ∧ 0 ≤ n ∧ n ≤ 1000000000 := by
  rw [← stages_bad]
  unfold chkE
  generalize anyTo (fun k => stB (x k) (y k)) m = b
  cases b <;> simp <;> (repeat' split) <;> simp_all <;> omega
theorem left_err (n : Int) (A : Option Addr) (m c : Nat) (x y : Nat → Int) (w : World) (hm : m ≤ maxLen) (hR : PI w w.heap.size A m x y)
    (he : chkE n m (anyTo (fun k => stB (x k) (y k)) m) ≠ 0) :
    Calls Try.prog 14 #[.int .i64 n, .slice A m c] w fun e w' =>
      e = .returned (.tuple #[.agg #[.int .i64 0, .int .i64 0], .int .i64 (chkE n m (anyTo (fun k => stB (x k) (y k)) m))]) ∧ Below w.heap.size w w' := by
  have HC := fun W (hB : Below w.heap.size w W) => check_any n A m c x y W hm ((hR.below hB (Nat.le_refl _)).more hB.size)
  have HC' := hide HC
  clear HC hR
  generalize chkE n m (anyTo (fun k => stB (x k) (y k)) m) = E at *
  have he' : (E != 0) = true := by simpa using he
  go_enter Try.func14, Try.ntmps14
  go_wp2_with fail
  refine (HC'.out _ ((Below.refl _ _).alloc (Nat.le_refl _) _)).mono ?_
  rintro e w1 ⟨rfl, hb1⟩
  have hz : w.heap.size + 1 ≤ w1.heap.size := by have := hb1.size; simpa using this
  have hc0 : w1.cell? ⟨w.heap.size, 0, none⟩ = some (.int .i64 0) := (hb1.cell (by simp)).trans (by simp)
  have hc1 : w1.cell? ⟨w.heap.size, 1, none⟩ = some (.int .i64 0) := (hb1.cell (by simp)).trans (by simp)
  have hf0 : w1.frozen? ⟨w.heap.size, 0, none⟩ = false := (hb1.frozen (by simp)).trans (by simp)
  have hf1 : w1.frozen? ⟨w.heap.size, 1, none⟩ = false := (hb1.frozen (by simp)).trans (by simp)
  go_wp2_with fail
  refine bodyPost_ret (v := .tuple #[.agg #[.int .i64 0, .int .i64 0], .int .i64 E]) (by simp [results, Try.results14, go_sem, *]) rfl ⟨rfl, ?_⟩
  exact ((((Below.refl _ _).alloc (Nat.le_refl _) _).trans (hb1.mono (by simp))).setCell (Nat.le_refl _) _).setCell (Nat.le_refl _) _
theorem left_ok (n : Int) (A : Option Addr) (m c : Nat) (x y : Nat → Int) (w : World) (hm : m ≤ 10) (hR : PI w w.heap.size A m x y) (hs : Stages m x y) (h0 : 0 ≤ n) (h1 : n ≤ 1000000000) :
    Calls Try.prog 14 #[.int .i64 n, .slice A m c] w fun e w' =>
      e = .returned (.tuple #[.agg #[.int .i64 (aft y m n), .int .i64 (aft x m n)], .int .i64 0]) ∧ Below w.heap.size w w' := by
  have hm' : m ≤ maxLen := by unfold maxLen; omega
  have hz0 : chkE n m (anyTo (fun k => stB (x k) (y k)) m) = 0 := (chkE_zero n m x y).2 ⟨hm, hs, h0, h1⟩
  have HC := hide (fun W (hB : Below w.heap.size w W) => check_any n A m c x y W hm' ((hR.below hB (Nat.le_refl _)).more hB.size))
  have HY := hide (fun W (hB : Below w.heap.size w W) => after_any 56 y n A m c x y W hm' h0 (by omega) ((hR.below hB (Nat.le_refl _)).more hB.size) (fun i hi => ⟨by have := hs i hi; omega, (hs i hi).2.2⟩) (enters_of Try.func56 (by kernel_rfl) rfl) (fun W k _ _ => most_any _ _ _))
  have HX := hide (fun W (hB : Below w.heap.size w W) => after_any 57 x n A m c x y W hm' h0 (by omega) ((hR.below hB (Nat.le_refl _)).more hB.size) (fun i hi => ⟨(hs i hi).1, by have := hs i hi; omega⟩) (enters_of Try.func57 (by kernel_rfl) rfl) (fun W k _ _ => least_any _ _ _))
  rw [hz0] at HC
  clear hR hs hz0 hm'
  go_enter Try.func14, Try.ntmps14
  go_wp2_with fail
  refine (HC.out _ ((Below.refl _ _).alloc (Nat.le_refl _) _)).mono ?_
  rintro e w1 ⟨rfl, hb1⟩
  have b1 : Below w.heap.size w w1 := ((Below.refl _ _).alloc (Nat.le_refl _) _).trans (hb1.mono (by simp))
  go_wp2_with fail
  refine (HY.out _ b1).mono ?_
  rintro e w2 ⟨rfl, hb2⟩
  have b2 : Below w.heap.size w w2 := b1.trans (hb2.mono b1.size)
  go_wp2_with fail
  refine (HX.out _ b2).mono ?_
  rintro e w3 ⟨rfl, hb3⟩
  have z1 : w.heap.size < w1.heap.size := by have := hb1.size; simp at this; omega
  have z2 : w.heap.size < w2.heap.size := by have := hb2.size; omega
  have z3 : w.heap.size < w3.heap.size := by have := hb3.size; omega
  have hc0 : w3.cell? ⟨w.heap.size, 0, none⟩ = some (.int .i64 0) := (hb3.cell z2).trans ((hb2.cell z1).trans ((hb1.cell (by simp)).trans (by simp)))
  have hc1 : w3.cell? ⟨w.heap.size, 1, none⟩ = some (.int .i64 0) := (hb3.cell z2).trans ((hb2.cell z1).trans ((hb1.cell (by simp)).trans (by simp)))
  have hf0 : w3.frozen? ⟨w.heap.size, 0, none⟩ = false := (hb3.frozen z2).trans ((hb2.frozen z1).trans ((hb1.frozen (by simp)).trans (by simp)))
  have hf1 : w3.frozen? ⟨w.heap.size, 1, none⟩ = false := (hb3.frozen z2).trans ((hb2.frozen z1).trans ((hb1.frozen (by simp)).trans (by simp)))
  go_wp2_with fail
  refine bodyPost_ret (v := .tuple #[.agg #[.int .i64 (aft y m n), .int .i64 (aft x m n)], .int .i64 0]) (by simp [results, Try.results14, go_sem, *]) rfl ⟨rfl, ?_⟩
  exact ((b2.trans (hb3.mono b2.size)).setCell (Nat.le_refl _) _).setCell (Nat.le_refl _) _
theorem need_err (n : Int) (A : Option Addr) (m c : Nat) (x y : Nat → Int) (w : World) (hm : m ≤ maxLen) (hR : PI w w.heap.size A m x y)
    (he : chkE n m (anyTo (fun k => stB (x k) (y k)) m) ≠ 0) :
    Calls Try.prog 16 #[.int .i64 n, .slice A m c] w fun e w' =>
      e = .returned (.tuple #[.int .i64 0, .int .i64 (chkE n m (anyTo (fun k => stB (x k) (y k)) m))]) ∧ Below w.heap.size w w' := by
  have HC := hide (fun W (hB : Below w.heap.size w W) => check_any n A m c x y W hm ((hR.below hB (Nat.le_refl _)).more hB.size))
  clear hR
  generalize chkE n m (anyTo (fun k => stB (x k) (y k)) m) = E at *
  have he' : (E != 0) = true := by simpa using he
  go_enter Try.func16, Try.ntmps16
  go_wp2_with fail
  refine (HC.out _ (((Below.refl _ _).alloc (Nat.le_refl _) _).alloc (by simp) _)).mono ?_
  rintro e w1 ⟨rfl, hb1⟩
  go_wp2_with fail
  go_ret2
  exact ⟨rfl, (((Below.refl _ _).alloc (Nat.le_refl _) _).alloc (by simp) _).trans (hb1.mono (by simp; omega))⟩
def NeedPost (n : Int) (m : Nat) (y : Nat → Int) (w : World) (e : Ending) (w' : World) : Prop :=
  ∃ r : Nat, Least (fun i => decide (n ≤ aft y m i)) 1000000001 r ∧ e = .returned (.tuple #[.int .i64 (if r ≤ 1000000000 then (r : Int) else 0), .int .i64 (if r ≤ 1000000000 then 0 else 7)]) ∧ Below w.heap.size w w'
theorem need_ok (n : Int) (A : Option Addr) (m c : Nat) (x y : Nat → Int) (w : World) (hm : m ≤ 10) (hR : PI w w.heap.size A m x y) (hs : Stages m x y) (h0 : 0 ≤ n) (h1 : n ≤ 1000000000) :
    Calls Try.prog 16 #[.int .i64 n, .slice A m c] w (NeedPost n m y w) := by
  have hm' : m ≤ maxLen := by unfold maxLen; omega
  have hy : ∀ i, i < m → 0 ≤ y i ∧ y i ≤ 10000 := fun i hi => ⟨by have := hs i hi; omega, (hs i hi).2.2⟩
  have hz0 : chkE n m (anyTo (fun k => stB (x k) (y k)) m) = 0 := (chkE_zero n m x y).2 ⟨hm, hs, h0, h1⟩
  have HC := hide (fun W (hB : Below w.heap.size w W) => check_any n A m c x y W hm' ((hR.below hB (Nat.le_refl _)).more hB.size))
  rw [hz0] at HC
  have HR := hide hR
  have HY := hide hy
  clear hR hs hz0 hm' hy
  go_enter Try.func16, Try.ntmps16
  go_wp2_with fail
  have b0 : Below w.heap.size w ((w.alloc (.cells #[.int .i64 n] 3)).alloc (.cells #[.slice A m c] 22)) := (((Below.refl _ _).alloc (Nat.le_refl _) _).alloc (by simp) _)
  refine (HC.out _ b0).mono ?_
  rintro e w1 ⟨rfl, hb1⟩
  have b1 : Below w.heap.size w w1 := b0.trans (hb1.mono (by simp; omega))
  have z1 : w.heap.size + 2 ≤ w1.heap.size := by have := hb1.size; simp at this; omega
  have hc0 : w1.cell? ⟨w.heap.size, 0, none⟩ = some (.int .i64 n) := ((hb1.cell (by simp; omega)).trans (by simp))
  have hc1 : w1.cell? ⟨w.heap.size + 1, 0, none⟩ = some (.slice A m c) := ((hb1.cell (by simp)).trans (by simp))
  clear b0
  go_wp2_with fail
  refine (search_any 59 #[.pointer (some ⟨w.heap.size + 1, 0, none⟩), .pointer (some ⟨w.heap.size, 0, none⟩)] (fun i => decide (n ≤ aft y m i)) 1000000001 _ (by omega) ?_ (enters_of Try.func59 (by kernel_rfl) rfl) ?_).mono ?_
  · intro i j hij _ h
    have := aft_mono y m HY.out i j (by omega) (by omega)
    simp only [decide_eq_true_eq] at *
    omega
  · intro W k hk hB
    exact need1_any n k A m c x y _ _ W (by unfold maxLen; omega) (by omega) ((HR.out.below (b1.trans (hB.mono b1.size)) (Nat.le_refl _)).more (b1.trans (hB.mono b1.size)).size) HY.out ((hB.cell (by simp; omega)).trans hc1) ((hB.cell (by simp; omega)).trans hc0) (by have := hB.size; omega) (by have := hB.size; omega)
  rintro e w2 ⟨r, rfl, hL, hb2⟩
  have HL := hide hL
  clear hL
  by_cases hr : r ≤ 1000000000
  · go_wp2_with fail
    go_ret2
    exact ⟨r, HL.out, by simp [hr], b1.trans (hb2.mono b1.size)⟩
  · go_wp2_with fail
    go_ret2
    exact ⟨r, HL.out, by simp [hr], b1.trans (hb2.mono b1.size)⟩
end Go.Proofs.Ytlhekifmkkgjlaa
/- Contracts of the reference of chapter 8 on losses. -/
namespace Go.Proofs.Ytlhekifmkkgjlaa
open Go Go.RowKit
set_option maxHeartbeats 400000
def rstE (m : Nat) (bad : Bool) : Int := if 10 < m then 5 else if bad = true then 2 else 0
theorem refStages_any (A : Option Addr) (m c : Nat) (x y : Nat → Int) (w : World) (hm : m ≤ maxLen) (hR : PI w w.heap.size A m x y) :
    Calls Try.prog 17 #[.slice A m c] w fun e w' => e = .returned (.int .i64 (rstE m (anyTo (fun k => stB (x k) (y k)) m))) ∧ Below w.heap.size w w' := by
  unfold maxLen at hm
  go_enter Try.func17, Try.ntmps17
  by_cases h10 : 10 < m
  · go_wp2_with fail
    go_ret
    exact ⟨ret_int (by simp [rstE, h10]), Below.refl _ _⟩
  go_wp2_with fail
  go_loopw [3] (fun i wr => ∃ k : Nat, k ≤ m ∧ i = .int .i64 k ∧ anyTo (fun k => stB (x k) (y k)) k = false ∧ Below w.heap.size w wr) (fun i _ => m - (intOf i).toNat)
  case atStart => exact ⟨0, Nat.zero_le _, rfl, rfl, Below.refl _ _⟩
  case round =>
    obtain ⟨k, hk, rfl, hx, hB⟩ := hrel
    have HX := hide hx; clear hx
    by_cases hlt : k < m
    · obtain ⟨b, off, rfl, hb, hc1, hc2⟩ := PI.at_ (hR.below hB (Nat.le_refl _)) hlt
      have i1 : (0 : Int) ≤ (k : Int) := by omega
      have i2 : (k : Int) < (m : Int) := by omega
      by_cases t1 : x k < 0
      · have d1 : decide (x k < 0) = true := by simpa using t1
        have hbad : stB (x k) (y k) = true := by simp [stB, t1]
        have HBAD := hide hbad; clear hbad
        go_wp2_with fail
        go_quiet (fail)
        go_wp2_with fail
        go_ret
        refine ⟨ret_int ?_, Below_dN hB _⟩
        have : anyTo (fun k => stB (x k) (y k)) m = true := (anyTo_iff _ _).2 ⟨k, hlt, HBAD.out⟩
        simp [rstE, h10, this]
      have d1 : decide (x k < 0) = false := by simpa using t1
      by_cases t2 : y k < x k
      · have d2 : decide (y k < x k) = true := by simpa using t2
        have hbad : stB (x k) (y k) = true := by simp [stB, t2]
        have HBAD := hide hbad; clear hbad
        go_wp2_with fail
        go_quiet (fail)
        go_wp2_with fail
        go_ret
        refine ⟨ret_int ?_, Below_dN hB _⟩
        have : anyTo (fun k => stB (x k) (y k)) m = true := (anyTo_iff _ _).2 ⟨k, hlt, HBAD.out⟩
        simp [rstE, h10, this]
      have d2 : decide (y k < x k) = false := by simpa using t2
      by_cases t3 : 10000 < y k
      · have d3 : decide (10000 < y k) = true := by simpa using t3
        have hbad : stB (x k) (y k) = true := by simp [stB, t3]
        have HBAD := hide hbad; clear hbad
        go_wp2_with fail
        go_quiet (fail)
        go_wp2_with fail
        go_ret
        refine ⟨ret_int ?_, Below_dN hB _⟩
        have : anyTo (fun k => stB (x k) (y k)) m = true := (anyTo_iff _ _).2 ⟨k, hlt, HBAD.out⟩
        simp [rstE, h10, this]
      have d3 : decide (10000 < y k) = false := by simpa using t3
      have hgood : stB (x k) (y k) = false := by simp only [stB, d1, d2, d3, Bool.or_false]
      have HG := hide hgood; clear hgood
      go_wp2_with fail
      go_quiet (fail)
      go_wp2_with fail
      go_roundw
      case rel => exact ⟨k + 1, by omega, by go_num, by simp [anyTo, HX.out, HG.out], Below_dN hB _⟩
      case measure => simp [intOf]; omega
    · obtain rfl : k = m := by omega
      go_wp2_with fail
      go_ret
      exact ⟨ret_int (by simp [rstE, h10, HX.out]), hB⟩
theorem refLeft_any (n : Int) (A : Option Addr) (m c : Nat) (x y : Nat → Int) (w : World) (hm : m ≤ maxLen) (hR : PI w w.heap.size A m x y) (hs : Stages m x y) (h0 : 0 ≤ n) (h1 : n ≤ 2000000000) :
    Calls Try.prog 19 #[.int .i64 n, .slice A m c] w fun e w' =>
      e = .returned (.agg #[.int .i64 (aft y m n), .int .i64 (aft x m n)]) ∧ Below w.heap.size w w' := by
  unfold maxLen at hm
  have HS := hide hs; clear hs
  go_enter Try.func19, Try.ntmps19
  go_wp2_with fail
  go_loopw [6] (fun i wr => ∃ k : Nat, k ≤ m ∧ i = .int .i64 k ∧ Hid (Blk wr (w.heap.size + 1) 25 #[.int .i64 (aft y k n), .int .i64 (aft x k n)]) ∧
     Hid (Blk wr w.heap.size 25 #[.int .i64 0, .int .i64 0]) ∧ Below w.heap.size w wr) (fun i _ => m - (intOf i).toNat)
  case atStart =>
    exact ⟨0, Nat.zero_le _, rfl, hide (by simpa [aft] using Blk.new (w.alloc (.cells #[.int .i64 0, .int .i64 0] 25)) 25 #[.int .i64 n, .int .i64 n]), hide ((Blk.new w _ _).alloc _), ((Below.refl _ _).alloc (Nat.le_refl _) _).alloc (by simp) _⟩
  case round =>
    obtain ⟨k, hk, rfl, hc, hc2, hB⟩ := hrel
    have q0 := hc.out.cell 0
    have q1 := hc.out.cell 1
    have q2 := hc.out.frozen 0
    have q3 := hc.out.frozen 1
    have zz : w.heap.size + 1 < wr.heap.size := hc.out.lt
    simp at q0 q1
    by_cases hlt : k < m
    · obtain ⟨b, off, rfl, hb, hd1, hd2⟩ := PI.at_ (hR.below hB (Nat.le_refl _)) hlt
      have i1 : (0 : Int) ≤ (k : Int) := by omega
      have i2 : (k : Int) < (m : Int) := by omega
      obtain ⟨s0, s1, s2⟩ := HS.out k hlt
      obtain ⟨b1, b2⟩ := aft_bd y n h0 k fun i hi => ⟨by have := HS.out i (by omega); omega, (HS.out i (by omega)).2.2⟩
      obtain ⟨b3, b4⟩ := aft_bd x n h0 k fun i hi => ⟨(HS.out i (by omega)).1, by have := HS.out i (by omega); omega⟩
      obtain ⟨b5, b6⟩ := aft_bd y n h0 (k + 1) fun i hi => ⟨by have := HS.out i (by omega); omega, (HS.out i (by omega)).2.2⟩
      obtain ⟨b7, b8⟩ := aft_bd x n h0 (k + 1) fun i hi => ⟨(HS.out i (by omega)).1, by have := HS.out i (by omega); omega⟩
      have h5 : 0 ≤ aft y k n * y k := Int.mul_nonneg b1 (by omega)
      have h6 : aft y k n * y k ≤ aft y k n * 10000 := Int.mul_le_mul_of_nonneg_left s2 b1
      have h7 : 0 ≤ aft x k n * x k := Int.mul_nonneg b3 (by omega)
      have h8 : aft x k n * x k ≤ aft x k n * 10000 := Int.mul_le_mul_of_nonneg_left (by omega) b3
      go_wp2_with fail
      go_region
      go_wp2_with fail
      go_region
      go_wp2_with fail
      go_roundw
      case rel =>
        refine ⟨k + 1, by omega, by go_num, hide ?_, hide ?_, ((hB.setCell (by simp) _).setCell (by simp) _).drew.drew⟩
        · exact (by simpa [aft] using ((hc.out.set_ 0 (.int .i64 (aft y k n - aft y k n * y k / 10000))).set_ 1 (.int .i64 (aft x k n - aft x k n * x k / 10000))).drew.drew)
        · exact ((hc2.out.far (p := ⟨w.heap.size + 1, 0, none⟩) (by simp) _).far (p := ⟨w.heap.size + 1, 1, none⟩) (by simp) _).drew.drew
      case measure => simp [intOf]; omega
    · obtain rfl : k = m := by omega
      have r0 := hc2.out.cell 0
      have r1 := hc2.out.cell 1
      have r2 := hc2.out.frozen 0
      have r3 := hc2.out.frozen 1
      simp at r0 r1
      have zz' : w.heap.size < wr.heap.size := by omega
      go_wp2_with fail
      refine bodyPost_ret (v := .agg #[.int .i64 (aft y k n), .int .i64 (aft x k n)]) (by simp [results, Try.results19, go_sem, *]) rfl ⟨rfl, ?_⟩
      exact (hB.setCell (Nat.le_refl _) _).setCell (Nat.le_refl _) _
@[go_sem] theorem field_spread0 (a b : Value) (w : World) : (Instr.field 25 (.agg #[a, b]) 0).run Try.prog w = .ok a w := by kernel_rfl
@[go_sem] theorem field_spread1 (a b : Value) (w : World) : (Instr.field 25 (.agg #[a, b]) 1).run Try.prog w = .ok b w := by kernel_rfl
def RefNeedPost (n : Int) (m : Nat) (y : Nat → Int) (w : World) (e : Ending) (w' : World) : Prop :=
  ∃ r : Nat, Least (fun i => decide (n ≤ aft y m i)) 1000000001 r ∧ e = .returned (.tuple #[.int .i64 r, .bool (decide (r ≤ 1000000000))]) ∧ Below w.heap.size w w'
theorem refNeed_ok (n : Int) (A : Option Addr) (m c : Nat) (x y : Nat → Int) (w : World) (hm : m ≤ 10) (hR : PI w w.heap.size A m x y) (hs : Stages m x y) :
    Calls Try.prog 18 #[.int .i64 n, .slice A m c] w (RefNeedPost n m y w) := by
  have hy : ∀ i, i < m → 0 ≤ y i ∧ y i ≤ 10000 := fun i hi => ⟨by have := hs i hi; omega, (hs i hi).2.2⟩
  have HY := hide hy
  clear hy
  have HC := hide (fun W (h : Nat) (hh : h ≤ 1000000001) (hB : Below w.heap.size w W) => refLeft_any h A m c x y W (by unfold maxLen; omega) ((hR.below hB (Nat.le_refl _)).more hB.size) hs (by omega) (by omega))
  clear hR hs
  go_enter Try.func18, Try.ntmps18
  go_wp2_with fail
  go_loopw [6, 7] (fun i j wr => ∃ a b : Nat, i = .int .i64 a ∧ j = .int .i64 b ∧ a ≤ b ∧ b ≤ 1000000001 ∧ Hid ((∀ i : Nat, i < a → aft y m i < n) ∧ (b < 1000000001 → n ≤ aft y m b)) ∧ Below w.heap.size w wr) (fun i j _ => (intOf j).toNat - (intOf i).toNat)
  case atStart => exact ⟨0, 1000000001, rfl, rfl, by omega, by omega, hide ⟨fun i hi => absurd hi (by omega), fun h => absurd h (by omega)⟩, Below.refl _ _⟩
  case round =>
    obtain ⟨a, b, rfl, rfl, hab, hbn, H, hB⟩ := hrel
    by_cases hlt : a < b
    · go_wp2_with fail
      obtain ⟨h, hh⟩ : ∃ h : Nat, h = (a + b) / 2 := ⟨_, rfl⟩
      have e1 : ((a : Int) + b) / 2 = (h : Int) := by omega
      have l1 : a ≤ h := by omega
      have l2 : h < b := by omega
      clear hh
      simp only [e1]
      clear e1
      refine (HC.out wr h (by omega) hB).mono ?_
      rintro e w1 ⟨rfl, hb1⟩
      by_cases hn : n ≤ aft y m h
      · have hd := decide_eq_true hn
        go_wp2_with fail
        go_roundw
        case rel => exact ⟨a, h, rfl, rfl, by omega, by omega, hide ⟨H.out.1, fun _ => hn⟩, hB.trans (hb1.mono hB.size)⟩
        case measure => simp [intOf]; omega
      · have hd := decide_eq_false hn
        go_wp2_with fail
        go_roundw
        case rel =>
          refine ⟨h + 1, b, by go_num, rfl, by omega, by omega, hide ⟨fun i hi => ?_, H.out.2⟩, hB.trans (hb1.mono hB.size)⟩
          have := aft_mono y m HY.out i h (by omega) (by omega)
          omega
        case measure => simp [intOf]; omega
    · obtain rfl : a = b := by omega
      go_wp2_with fail
      go_ret2
      exact ⟨a, ⟨by omega, fun i hi => by simpa using H.out.1 i hi, fun h => by simpa using H.out.2 h⟩, by simp; omega, hB⟩
end Go.Proofs.Ytlhekifmkkgjlaa
/- Contracts of chapter 8 on moulds. -/
namespace Go.Proofs.Ytlhekifmkkgjlaa
open Go Go.RowKit
set_option maxHeartbeats 400000
def spB (lo hi a b : Int) : Bool := decide (a ≤ lo ∧ lo ≤ hi ∧ hi ≤ b)
theorem isSpread_any (lo hi a b : Int) (w : World) : Calls Try.prog 63 #[.agg #[.int .i64 lo, .int .i64 hi], .int .i64 a, .int .i64 b] w fun e w' => e = .returned (.bool (spB lo hi a b)) ∧ Below w.heap.size w w' := by
  go_enter Try.func63, Try.ntmps63
  go_wp2_with fail
  have b0 : Below w.heap.size w ((w.alloc (.cells #[.int .i64 lo, .int .i64 hi] 25)).alloc (.cells #[.int .i64 lo, .int .i64 hi] 3)) := ((Below.refl _ _).alloc (Nat.le_refl _) _).alloc (by simp) _
  refine (within_any a b _ 2 2 (fun k => if k = 0 then lo else hi) _ (by decide) ?_).mono ?_
  · simpa using IR.two (w.alloc (.cells #[.int .i64 lo, .int .i64 hi] 25)) lo hi 3
  rintro e w1 ⟨rfl, hb1⟩
  have hc0 : w1.cell? ⟨w.heap.size, 0, none⟩ = some (.int .i64 lo) := (hb1.cell (by simp; omega)).trans (by simp)
  have hc1 : w1.cell? ⟨w.heap.size, 1, none⟩ = some (.int .i64 hi) := (hb1.cell (by simp; omega)).trans (by simp)
  have hB := b0.trans (hb1.mono (by simp; omega))
  rcases hw : wiB a b (fun k => if k = 0 then lo else hi) 2 with _ | _
  · have hw' : ¬ (a ≤ lo ∧ lo ≤ hi ∧ hi ≤ b) := fun h => by
      have := (wiB_iff a b (fun k => if k = 0 then lo else hi) 2).2 (fun k hk => by rcases (by omega : k = 0 ∨ k = 1) with rfl | rfl <;> simp <;> omega)
      rw [hw] at this; cases this
    have HW := hide hw'; clear hw'
    clear hw
    go_wp2_with fail
    go_ret
    exact ⟨ret_bool (by rw [spB, decide_eq_false HW.out]), hB⟩
  · have h := (wiB_iff a b (fun k => if k = 0 then lo else hi) 2).1 hw
    have h0 := h 0 (by omega)
    have h1 := h 1 (by omega)
    simp at h0 h1
    clear hw h
    by_cases hlt : lo ≤ hi
    · go_wp2_with fail
      go_ret
      exact ⟨ret_bool (by rw [spB, decide_eq_true (by omega)]), hB⟩
    · go_wp2_with fail
      go_ret
      exact ⟨ret_bool (by rw [Bool.eq_iff_iff]; simp [spB]; omega), hB⟩
def clB (dl dh fl fh : Int) : Bool := spB dl dh 0 9999 && spB fl fh 0 9999
theorem clB_iff (dl dh fl fh : Int) : clB dl dh fl fh = true ↔ (0 ≤ dl ∧ dl ≤ dh ∧ dh ≤ 9999) ∧ (0 ≤ fl ∧ fl ≤ fh ∧ fh ≤ 9999) := by
  simp [clB, spB]
theorem isClay_any (dl dh fl fh : Int) (w : World) : Calls Try.prog 60 #[.agg #[.int .i64 dl, .int .i64 dh, .int .i64 fl, .int .i64 fh]] w fun e w' => e = .returned (.bool (clB dl dh fl fh)) ∧ Below w.heap.size w w' := by
  go_enter Try.func60, Try.ntmps60
  go_wp2_with fail
  refine (isSpread_any _ _ _ _ _).mono ?_
  rintro e w1 ⟨rfl, hb1⟩
  have hc0 : w1.cell? ⟨w.heap.size, 2, none⟩ = some (.int .i64 fl) := (hb1.cell (by simp)).trans (by simp)
  have hc1 : w1.cell? ⟨w.heap.size, 3, none⟩ = some (.int .i64 fh) := (hb1.cell (by simp)).trans (by simp)
  have hB := ((Below.refl _ _).alloc (Nat.le_refl _) (.cells #[.int .i64 dl, .int .i64 dh, .int .i64 fl, .int .i64 fh] 40)).trans (hb1.mono (by simp))
  rcases hs : spB dl dh 0 9999 with _ | _
  · have HS := hide hs; clear hs
    go_wp2_with fail
    go_ret
    exact ⟨ret_bool (by simp [clB, HS.out]), hB⟩
  · have HS := hide hs; clear hs
    go_wp2_with fail
    refine (isSpread_any _ _ _ _ _).mono ?_
    rintro e w2 ⟨rfl, hb2⟩
    go_wp2_with fail
    go_ret
    exact ⟨ret_bool (by simp [clB, HS.out]), hB.trans (hb2.mono hB.size)⟩
def keep (s d f : Int) : Int := s * (10000 - d) * (10000 - f)
theorem keep_bd {s d f M : Int} (h1 : 0 ≤ s) (h2 : s ≤ M) (h3 : 0 ≤ d) (h4 : d ≤ 10000) (h5 : 0 ≤ f) (h6 : f ≤ 10000) :
    (0 ≤ s * (10000 - d) ∧ s * (10000 - d) ≤ M * 10000) ∧ (0 ≤ keep s d f ∧ keep s d f ≤ M * 10000 * 10000) :=
  have a := mul_bd h1 h2 (b := 10000 - d) (N := 10000) (by omega) (by omega)
  ⟨a, mul_bd a.1 a.2 (by omega) (by omega)⟩
theorem keep_any (s d f : Int) (p : Nat) (w : World) (hc : w.cell? ⟨p, 0, none⟩ = some (.int .i64 s)) (h1 : 0 ≤ s) (h2 : s ≤ 2000000) (h3 : 0 ≤ d) (h4 : d ≤ 10000) (h5 : 0 ≤ f) (h6 : f ≤ 10000) :
    Calls Try.prog 101 #[.int .i64 d, .int .i64 f, .pointer (some ⟨p, 0, none⟩)] w fun e w' => e = .returned (.int .i64 (keep s d f)) ∧ w = w' := by
  obtain ⟨⟨a1, a2⟩, a3, a4⟩ := keep_bd h1 h2 h3 h4 h5 h6
  unfold keep at a3 a4
  go_enter Try.func101, Try.ntmps101
  go_wp2_with fail
  go_ret
  exact ⟨rfl, rfl⟩
def shLo (s dh fh : Int) : Int := keep s dh fh / 100000000
def shHi (s dl fl : Int) : Int := (keep s dl fl + 99999999) / 100000000
theorem shrunk_any (s dl dh fl fh : Int) (w : World) (h1 : 0 ≤ s) (h2 : s ≤ 2000000) (hcl : clB dl dh fl fh = true) :
    Calls Try.prog 62 #[.int .i64 s, .agg #[.int .i64 dl, .int .i64 dh, .int .i64 fl, .int .i64 fh]] w fun e w' => e = .returned (.agg #[.int .i64 (shLo s dh fh), .int .i64 (shHi s dl fl)]) ∧ Below w.heap.size w w' := by
  obtain ⟨⟨c1, c2, c3⟩, c4, c5, c6⟩ := (clB_iff _ _ _ _).1 hcl
  clear hcl
  obtain ⟨-, k1, k2⟩ := keep_bd h1 h2 (d := dh) (f := fh) (by omega) (by omega) (by omega) (by omega)
  obtain ⟨-, k3, k4⟩ := keep_bd h1 h2 (d := dl) (f := fl) (by omega) (by omega) (by omega) (by omega)
  go_enter Try.func62, Try.ntmps62
  go_wp2_with fail
  have b0 : Below w.heap.size w (((w.alloc (.cells #[.int .i64 s] 3)).alloc (.cells #[.int .i64 dl, .int .i64 dh, .int .i64 fl, .int .i64 fh] 40)).alloc (.cells #[.int .i64 0, .int .i64 0] 25)) := (((Below.refl _ _).alloc (Nat.le_refl _) _).alloc (by simp) _).alloc (by simp only [World.size_alloc]; omega) _
  generalize hW : (((w.alloc (.cells #[.int .i64 s] 3)).alloc (.cells #[.int .i64 dl, .int .i64 dh, .int .i64 fl, .int .i64 fh] 40)).alloc (.cells #[.int .i64 0, .int .i64 0] 25)) = W at b0 ⊢
  have q0 : W.heap.size = w.heap.size + 3 := by rw [← hW]; simp [go_sem]
  have q1 : W.cell? ⟨w.heap.size, 0, none⟩ = some (.int .i64 s) := by rw [← hW]; simp [go_sem]
  have q2 : W.cell? ⟨w.heap.size + 1, 0, none⟩ = some (.int .i64 dl) := by rw [← hW]; simp [go_sem]
  have q3 : W.cell? ⟨w.heap.size + 1, 1, none⟩ = some (.int .i64 dh) := by rw [← hW]; simp [go_sem]
  have q4 : W.cell? ⟨w.heap.size + 1, 2, none⟩ = some (.int .i64 fl) := by rw [← hW]; simp [go_sem]
  have q5 : W.cell? ⟨w.heap.size + 1, 3, none⟩ = some (.int .i64 fh) := by rw [← hW]; simp [go_sem]
  have q6 : W.cell? ⟨w.heap.size + 2, 0, none⟩ = some (.int .i64 0) := by rw [← hW]; simp [go_sem]
  have q7 : W.cell? ⟨w.heap.size + 2, 1, none⟩ = some (.int .i64 0) := by rw [← hW]; simp [go_sem]
  have q8 : W.frozen? ⟨w.heap.size + 2, 0, none⟩ = false := by rw [← hW]; simp [go_sem]
  have q9 : W.frozen? ⟨w.heap.size + 2, 1, none⟩ = false := by rw [← hW]; simp [go_sem]
  have zz : w.heap.size + 2 < W.heap.size := by omega
  have Q0 := hide q0
  have hne : w.heap.size ≠ w.heap.size + 1 + 1 := by omega
  have hne2 : w.heap.size + 1 + 1 ≠ w.heap.size := by omega
  have d1 : 0 ≤ keep s dh fh / 100000000 ∧ keep s dh fh / 100000000 ≤ 2000000 := by omega
  have d2 : 0 ≤ (keep s dl fl + 99999999) / 100000000 ∧ (keep s dl fl + 99999999) / 100000000 ≤ 2000001 := by omega
  have e1 : IntKind.i64.wrap (keep s dl fl + 100000000) = keep s dl fl + 100000000 := IntWalk.i64_in _ (by omega)
  have e2 : IntKind.i64.wrap (keep s dl fl + 100000000 - 1) = keep s dl fl + 99999999 := by rw [show keep s dl fl + 100000000 - 1 = keep s dl fl + 99999999 by omega]; exact IntWalk.i64_in _ (by omega)
  have e3 : (keep s dh fh).tdiv 100000000 = keep s dh fh / 100000000 := Int.tdiv_eq_ediv_of_nonneg k1
  have e4 : (keep s dl fl + 99999999).tdiv 100000000 = (keep s dl fl + 99999999) / 100000000 := Int.tdiv_eq_ediv_of_nonneg (by omega)
  have e5 : IntKind.i64.wrap (keep s dh fh / 100000000) = keep s dh fh / 100000000 := IntWalk.i64_in _ (by omega)
  have e6 : IntKind.i64.wrap ((keep s dl fl + 99999999) / 100000000) = (keep s dl fl + 99999999) / 100000000 := IntWalk.i64_in _ (by omega)
  clear hW q0
  go_region_held3 (fun w' => w'.cell? ⟨w.heap.size, 0, none⟩ = some (.int .i64 s) ∧ w'.cell? ⟨w.heap.size + 1, 0, none⟩ = some (.int .i64 dl) ∧ w'.cell? ⟨w.heap.size + 1, 1, none⟩ = some (.int .i64 dh) ∧ w'.cell? ⟨w.heap.size + 1, 2, none⟩ = some (.int .i64 fl) ∧ w'.cell? ⟨w.heap.size + 1, 3, none⟩ = some (.int .i64 fh)) (go_keep)
    ((go_at_call 101; refine (keep_any s _ _ _ _ ?_ h1 h2 ?_ ?_ ?_ ?_).mono ?_; (simp [*]); (omega); (omega); (omega); (omega); rintro e w' ⟨rfl, rfl⟩))
  go_wp2_with fail
  refine bodyPost_ret (v := .agg #[.int .i64 (shLo s dh fh), .int .i64 (shHi s dl fl)]) (by simp [results, Try.results62, go_sem, shLo, shHi, *]) rfl ⟨rfl, ?_⟩
  exact ((b0.setCell (p := ⟨w.heap.size + 1 + 1, 0, none⟩) (by simp only []; omega) _).setCell (p := ⟨w.heap.size + 1 + 1, 1, none⟩) (by simp only []; omega) _).drew
theorem keep_mono {s t d f : Int} (h : s ≤ t) (h3 : d ≤ 10000) (h5 : f ≤ 10000) : keep s d f ≤ keep t d f :=
  Int.mul_le_mul_of_nonneg_right (Int.mul_le_mul_of_nonneg_right h (by omega)) (by omega)
theorem shLo_mono {s t d f : Int} (h : s ≤ t) (h3 : d ≤ 10000) (h5 : f ≤ 10000) : shLo s d f ≤ shLo t d f := by
  have := keep_mono h h3 h5; unfold shLo; omega
theorem shHi_mono {s t d f : Int} (h : s ≤ t) (h3 : d ≤ 10000) (h5 : f ≤ 10000) : shHi s d f ≤ shHi t d f := by
  have := keep_mono h h3 h5; unfold shHi; omega
theorem moulds1_any (i : Nat) (dl dh fl fh wl wh : Int) (p q : Nat) (w : World) (h2 : i ≤ 1000000) (hcl : clB dl dh fl fh = true)
    (c0 : w.cell? ⟨p, 0, none⟩ = some (.int .i64 dl)) (c1 : w.cell? ⟨p, 1, none⟩ = some (.int .i64 dh)) (c2 : w.cell? ⟨p, 2, none⟩ = some (.int .i64 fl)) (c3 : w.cell? ⟨p, 3, none⟩ = some (.int .i64 fh))
    (c4 : w.cell? ⟨q, 0, none⟩ = some (.int .i64 wl)) (c5 : w.cell? ⟨q, 1, none⟩ = some (.int .i64 wh)) (hpl : p < w.heap.size) (hql : q < w.heap.size) :
    Calls Try.prog 64 #[.int .i64 i, .pointer (some ⟨p, 0, none⟩), .pointer (some ⟨q, 0, none⟩)] w fun e w' => e = .returned (.bool (decide (wl ≤ shLo ((i : Int) + 1) dh fh))) ∧ Below w.heap.size w w' := by
  have HC := hide (fun W => shrunk_any ((i : Int) + 1) dl dh fl fh W (by omega) (by omega) hcl)
  clear hcl
  have e0 : IntKind.i64.wrap ((i : Int) + 1) = (i : Int) + 1 := IntWalk.i64_in _ (by omega)
  go_enter Try.func64, Try.ntmps64
  go_wp2_with fail
  go_region_held3 (fun W => W.cell? ⟨p, 0, none⟩ = some (.int .i64 dl) ∧ W.cell? ⟨p, 1, none⟩ = some (.int .i64 dh) ∧ W.cell? ⟨p, 2, none⟩ = some (.int .i64 fl) ∧ W.cell? ⟨p, 3, none⟩ = some (.int .i64 fh) ∧ W.cell? ⟨q, 0, none⟩ = some (.int .i64 wl))
    (first | go_keep | exact ⟨(hb1.cell (p := ⟨p, 0, none⟩) hpl).trans c0, (hb1.cell (p := ⟨p, 1, none⟩) hpl).trans c1, (hb1.cell (p := ⟨p, 2, none⟩) hpl).trans c2, (hb1.cell (p := ⟨p, 3, none⟩) hpl).trans c3, (hb1.cell (p := ⟨q, 0, none⟩) hql).trans c4⟩)
    ((go_at_call 62; refine (HC.out _).mono ?_; rintro e w1 ⟨rfl, hb1⟩))
  go_wp2_with fail
  go_ret
  exact ⟨rfl, (Below.refl _ _).drew.trans hb1⟩
theorem moulds2_any (i : Nat) (dl dh fl fh wl wh : Int) (p q : Nat) (w : World) (h2 : i ≤ 1000000) (hcl : clB dl dh fl fh = true)
    (c0 : w.cell? ⟨p, 0, none⟩ = some (.int .i64 dl)) (c1 : w.cell? ⟨p, 1, none⟩ = some (.int .i64 dh)) (c2 : w.cell? ⟨p, 2, none⟩ = some (.int .i64 fl)) (c3 : w.cell? ⟨p, 3, none⟩ = some (.int .i64 fh))
    (c4 : w.cell? ⟨q, 0, none⟩ = some (.int .i64 wl)) (c5 : w.cell? ⟨q, 1, none⟩ = some (.int .i64 wh)) (hpl : p < w.heap.size) (hql : q < w.heap.size) :
    Calls Try.prog 65 #[.int .i64 i, .pointer (some ⟨p, 0, none⟩), .pointer (some ⟨q, 0, none⟩)] w fun e w' => e = .returned (.bool (decide (wh < shHi ((i : Int) + 1) dl fl))) ∧ Below w.heap.size w w' := by
  have HC := hide (fun W => shrunk_any ((i : Int) + 1) dl dh fl fh W (by omega) (by omega) hcl)
  clear hcl
  have e0 : IntKind.i64.wrap ((i : Int) + 1) = (i : Int) + 1 := IntWalk.i64_in _ (by omega)
  go_enter Try.func65, Try.ntmps65
  go_wp2_with fail
  go_region_held3 (fun W => W.cell? ⟨p, 0, none⟩ = some (.int .i64 dl) ∧ W.cell? ⟨p, 1, none⟩ = some (.int .i64 dh) ∧ W.cell? ⟨p, 2, none⟩ = some (.int .i64 fl) ∧ W.cell? ⟨p, 3, none⟩ = some (.int .i64 fh) ∧ W.cell? ⟨q, 1, none⟩ = some (.int .i64 wh))
    (first | go_keep | exact ⟨(hb1.cell (p := ⟨p, 0, none⟩) hpl).trans c0, (hb1.cell (p := ⟨p, 1, none⟩) hpl).trans c1, (hb1.cell (p := ⟨p, 2, none⟩) hpl).trans c2, (hb1.cell (p := ⟨p, 3, none⟩) hpl).trans c3, (hb1.cell (p := ⟨q, 1, none⟩) hql).trans c5⟩)
    ((go_at_call 62; refine (HC.out _).mono ?_; rintro e w1 ⟨rfl, hb1⟩))
  go_wp2_with fail
  go_ret
  exact ⟨rfl, (Below.refl _ _).drew.trans hb1⟩
end Go.Proofs.Ytlhekifmkkgjlaa
/- Contracts of chapter 8 on moulds: Shrunk, Moulds and the reference. -/
namespace Go.Proofs.Ytlhekifmkkgjlaa
open Go Go.RowKit
set_option maxHeartbeats 400000
theorem refClay_any (dl dh fl fh : Int) (w : World) : Calls Try.prog 22 #[.agg #[.int .i64 dl, .int .i64 dh, .int .i64 fl, .int .i64 fh]] w fun e w' => e = .returned (.bool (clB dl dh fl fh)) ∧ Below w.heap.size w w' := by
  have hd : dl < 0 ∨ (0 ≤ dl ∧ dh < dl) ∨ (0 ≤ dl ∧ dl ≤ dh ∧ 9999 < dh) ∨ (0 ≤ dl ∧ dl ≤ dh ∧ dh ≤ 9999 ∧ fl < 0) ∨ (0 ≤ dl ∧ dl ≤ dh ∧ dh ≤ 9999 ∧ 0 ≤ fl ∧ fh < fl) ∨ (0 ≤ dl ∧ dl ≤ dh ∧ dh ≤ 9999 ∧ 0 ≤ fl ∧ fl ≤ fh ∧ 9999 < fh) ∨ (0 ≤ dl ∧ dl ≤ dh ∧ dh ≤ 9999 ∧ 0 ≤ fl ∧ fl ≤ fh ∧ fh ≤ 9999) := by omega
  rcases hd with h | ⟨h1, h⟩ | ⟨h1, h2, h⟩ | ⟨h1, h2, h3, h⟩ | ⟨h1, h2, h3, h4, h⟩ | ⟨h1, h2, h3, h4, h5, h⟩ | ⟨h1, h2, h3, h4, h5, h⟩
  all_goals
    go_enter Try.func22, Try.ntmps22
    go_wp2_with fail
    go_ret
    refine ⟨ret_bool ?_, (Below.refl _ _).alloc (Nat.le_refl _) _⟩
    rw [Bool.eq_iff_iff, clB_iff]
    simp
    try omega
theorem refShrunk_any (s dl dh fl fh : Int) (w : World) (h1 : 0 ≤ s) (h2 : s ≤ 2000000) (hcl : clB dl dh fl fh = true) :
    Calls Try.prog 23 #[.int .i64 s, .agg #[.int .i64 dl, .int .i64 dh, .int .i64 fl, .int .i64 fh]] w fun e w' => e = .returned (.agg #[.int .i64 (shLo s dh fh), .int .i64 (shHi s dl fl)]) ∧ Below w.heap.size w w' := by
  obtain ⟨⟨c1, c2, c3⟩, c4, c5, c6⟩ := (clB_iff _ _ _ _).1 hcl
  clear hcl
  obtain ⟨⟨m1, m2⟩, k1, k2⟩ := keep_bd h1 h2 (d := dh) (f := fh) (by omega) (by omega) (by omega) (by omega)
  obtain ⟨⟨m3, m4⟩, k3, k4⟩ := keep_bd h1 h2 (d := dl) (f := fl) (by omega) (by omega) (by omega) (by omega)
  unfold keep at k1 k2 k3 k4
  go_enter Try.func23, Try.ntmps23
  go_wp2_with fail
  refine bodyPost_ret (v := .agg #[.int .i64 (shLo s dh fh), .int .i64 (shHi s dl fl)]) (by simp [results, Try.results23, go_sem, shLo, shHi, keep]) rfl ⟨rfl, ?_⟩
  exact ((Below.refl _ _).alloc (Nat.le_refl _) _).alloc (by simp) _
theorem Shrunk_err1 (s dl dh fl fh : Int) (w : World) (hcl : clB dl dh fl fh = false) :
    Calls Try.prog 20 #[.int .i64 s, .agg #[.int .i64 dl, .int .i64 dh, .int .i64 fl, .int .i64 fh]] w fun e w' => e = .returned (.tuple #[.agg #[.int .i64 0, .int .i64 0], .int .i64 2]) ∧ Below w.heap.size w w' := by
  have HC := hide (fun W => isClay_any dl dh fl fh W)
  rw [hcl] at HC
  clear hcl
  have b0 := ((Below.refl _ w).alloc (Nat.le_refl _) (.cells #[.int .i64 dl, .int .i64 dh, .int .i64 fl, .int .i64 fh] 40)).alloc (by simp) (.cells #[.int .i64 0, .int .i64 0] 25)
  have k0 := Blk.new (w.alloc (.cells #[.int .i64 dl, .int .i64 dh, .int .i64 fl, .int .i64 fh] 40)) 25 #[.int .i64 0, .int .i64 0]
  rw [World.size_alloc] at k0
  have B0 := hide b0
  have K0 := hide k0
  clear b0 k0
  go_enter Try.func20, Try.ntmps20
  go_wp2_with fail
  refine (HC.out _).mono ?_
  rintro e w1 ⟨rfl, hb1⟩
  have hB := B0.out.trans (hb1.mono (by simp only [World.size_alloc]; omega))
  obtain ⟨z1, r0, r1, r2, r3⟩ := blk2 (K0.out.ext hb1)
  go_wp2_with fail
  refine bodyPost_ret (v := .tuple #[.agg #[.int .i64 0, .int .i64 0], .int .i64 2]) (by simp [results, Try.results20, go_sem, *]) rfl ⟨rfl, ?_⟩
  exact set2B hB (by omega) _ _
theorem Shrunk_err2 (s dl dh fl fh : Int) (w : World) (hcl : clB dl dh fl fh = true) (hs : ¬ (1 ≤ s ∧ s ≤ 1000000)) :
    Calls Try.prog 20 #[.int .i64 s, .agg #[.int .i64 dl, .int .i64 dh, .int .i64 fl, .int .i64 fh]] w fun e w' => e = .returned (.tuple #[.agg #[.int .i64 0, .int .i64 0], .int .i64 3]) ∧ Below w.heap.size w w' := by
  have HC := hide (fun W => isClay_any dl dh fl fh W)
  rw [hcl] at HC
  clear hcl
  have HS := hide (decide_eq_false hs)
  clear hs
  have b0 := ((Below.refl _ w).alloc (Nat.le_refl _) (.cells #[.int .i64 dl, .int .i64 dh, .int .i64 fl, .int .i64 fh] 40)).alloc (by simp) (.cells #[.int .i64 0, .int .i64 0] 25)
  have k0 := Blk.new (w.alloc (.cells #[.int .i64 dl, .int .i64 dh, .int .i64 fl, .int .i64 fh] 40)) 25 #[.int .i64 0, .int .i64 0]
  rw [World.size_alloc] at k0
  have B0 := hide b0
  have K0 := hide k0
  clear b0 k0
  go_enter Try.func20, Try.ntmps20
  go_wp2_with fail
  refine (HC.out _).mono ?_
  rintro e w1 ⟨rfl, hb1⟩
  have hB := B0.out.trans (hb1.mono (by simp only [World.size_alloc]; omega))
  have K1 := hide (K0.out.ext hb1)
  go_wp2_with fail
  refine (within_any 1 1000000 _ 1 1 (fun _ => s) _ (by decide) ?_).mono ?_
  · simpa using IR.one w1 s 3
  rw [wiB_one, HS.out]
  rintro e w2 ⟨rfl, hb2⟩
  have hB2 := (hB.alloc hB.size _).trans (hb2.mono (by have := hB.size; simp only [World.size_alloc]; omega))
  obtain ⟨z1, r0, r1, r2, r3⟩ := blk2 ((K1.out.alloc _).ext hb2)
  go_wp2_with fail
  refine bodyPost_ret (v := .tuple #[.agg #[.int .i64 0, .int .i64 0], .int .i64 3]) (by simp [results, Try.results20, go_sem, *]) rfl ⟨rfl, ?_⟩
  exact set2B hB2 (by omega) _ _
theorem Shrunk_ok (s dl dh fl fh : Int) (w : World) (hcl : clB dl dh fl fh = true) (h1 : 1 ≤ s) (h2 : s ≤ 1000000) :
    Calls Try.prog 20 #[.int .i64 s, .agg #[.int .i64 dl, .int .i64 dh, .int .i64 fl, .int .i64 fh]] w fun e w' => e = .returned (.tuple #[.agg #[.int .i64 (shLo s dh fh), .int .i64 (shHi s dl fl)], .int .i64 0]) ∧ Below w.heap.size w w' := by
  have HC := hide (fun W => isClay_any dl dh fl fh W)
  have HD := hide (fun W => shrunk_any s dl dh fl fh W (by omega) (by omega) hcl)
  rw [hcl] at HC
  clear hcl
  have HS := hide (decide_eq_true (And.intro h1 h2))
  have b0 := ((Below.refl _ w).alloc (Nat.le_refl _) (.cells #[.int .i64 dl, .int .i64 dh, .int .i64 fl, .int .i64 fh] 40)).alloc (by simp) (.cells #[.int .i64 0, .int .i64 0] 25)
  have k0 := Blk.new (w.alloc (.cells #[.int .i64 dl, .int .i64 dh, .int .i64 fl, .int .i64 fh] 40)) 25 #[.int .i64 0, .int .i64 0]
  have c0 := (Blk.new w 40 #[.int .i64 dl, .int .i64 dh, .int .i64 fl, .int .i64 fh]).alloc (.cells #[.int .i64 0, .int .i64 0] 25)
  rw [World.size_alloc] at k0
  have B0 := hide b0
  have K0 := hide k0
  have C0 := hide c0
  clear b0 k0 c0
  go_enter Try.func20, Try.ntmps20
  go_wp2_with fail
  refine (HC.out _).mono ?_
  rintro e w1 ⟨rfl, hb1⟩
  have hB := B0.out.trans (hb1.mono (by simp only [World.size_alloc]; omega))
  have K1 := hide (K0.out.ext hb1)
  have C1 := hide (C0.out.ext hb1)
  go_wp2_with fail
  refine (within_any 1 1000000 _ 1 1 (fun _ => s) _ (by decide) ?_).mono ?_
  · simpa using IR.one w1 s 3
  rw [wiB_one, HS.out]
  rintro e w2 ⟨rfl, hb2⟩
  have hB2 := (hB.alloc hB.size _).trans (hb2.mono (by have := hB.size; simp only [World.size_alloc]; omega))
  have K2 := hide ((K1.out.alloc _).ext hb2)
  obtain ⟨z2, s0, s1, s2, s3⟩ := blk4 ((C1.out.alloc _).ext hb2)
  go_wp2_with fail
  refine (HD.out _).mono ?_
  rintro e w3 ⟨rfl, hb3⟩
  obtain ⟨z1, r0, r1, r2, r3⟩ := blk2 (K2.out.ext hb3)
  go_wp2_with fail
  refine bodyPost_ret (v := .tuple #[.agg #[.int .i64 (shLo s dh fh), .int .i64 (shHi s dl fl)], .int .i64 0]) (by simp [results, Try.results20, go_sem, *]) rfl ⟨rfl, ?_⟩
  exact set2B (hB2.trans (hb3.mono hB2.size)) (by omega) _ _
end Go.Proofs.Ytlhekifmkkgjlaa
/- Contracts of chapter 8: Moulds and the reference's Moulds. -/
namespace Go.Proofs.Ytlhekifmkkgjlaa
open Go Go.RowKit
set_option maxHeartbeats 400000

theorem Moulds_err1 (wl wh dl dh fl fh : Int) (w : World) (hcl : clB dl dh fl fh = false) :
    Calls Try.prog 21 #[.agg #[.int .i64 wl, .int .i64 wh], .agg #[.int .i64 dl, .int .i64 dh, .int .i64 fl, .int .i64 fh]] w fun e w' => e = .returned (.tuple #[.agg #[.int .i64 0, .int .i64 0], .int .i64 2]) ∧ Below w.heap.size w w' := by
  have HC := hide (fun W => isClay_any dl dh fl fh W)
  rw [hcl] at HC
  clear hcl
  have b0 : Below w.heap.size w (((w.alloc (.cells #[.int .i64 wl, .int .i64 wh] 25)).alloc (.cells #[.int .i64 dl, .int .i64 dh, .int .i64 fl, .int .i64 fh] 40)).alloc (.cells #[.int .i64 0, .int .i64 0] 25)) := (((Below.refl _ w).alloc (Nat.le_refl _) _).alloc (by simp) _).alloc (by simp only [World.size_alloc]; omega) _
  have k0 := Blk.new ((w.alloc (.cells #[.int .i64 wl, .int .i64 wh] 25)).alloc (.cells #[.int .i64 dl, .int .i64 dh, .int .i64 fl, .int .i64 fh] 40)) 25 #[.int .i64 0, .int .i64 0]
  have s0 := ((Blk.new w 25 #[.int .i64 wl, .int .i64 wh]).alloc (.cells #[.int .i64 dl, .int .i64 dh, .int .i64 fl, .int .i64 fh] 40)).alloc (.cells #[.int .i64 0, .int .i64 0] 25)
  have c0 := (Blk.new (w.alloc (.cells #[.int .i64 wl, .int .i64 wh] 25)) 40 #[.int .i64 dl, .int .i64 dh, .int .i64 fl, .int .i64 fh]).alloc (.cells #[.int .i64 0, .int .i64 0] 25)
  simp only [World.size_alloc] at k0 c0 s0
  have B0 := hide b0
  have K0 := hide k0
  have C0 := hide c0
  have S0 := hide s0
  clear b0 k0 c0 s0
  go_enter Try.func21, Try.ntmps21
  go_wp2_with fail
  refine (HC.out _).mono ?_
  rintro e w1 ⟨rfl, hb1⟩
  have hB := B0.out.trans (hb1.mono (by simp only [World.size_alloc]; omega))
  obtain ⟨z1, r0, r1, r2, r3⟩ := blk2 (K0.out.ext hb1)
  go_wp2_with fail
  refine bodyPost_ret (v := .tuple #[.agg #[.int .i64 0, .int .i64 0], .int .i64 2]) (by simp [results, Try.results21, go_sem, *]) rfl ⟨rfl, ?_⟩
  exact set2B hB (by omega) _ _
theorem Moulds_err2 (wl wh dl dh fl fh : Int) (w : World) (hcl : clB dl dh fl fh = true) (hs : spB wl wh 0 1000000 = false) :
    Calls Try.prog 21 #[.agg #[.int .i64 wl, .int .i64 wh], .agg #[.int .i64 dl, .int .i64 dh, .int .i64 fl, .int .i64 fh]] w fun e w' => e = .returned (.tuple #[.agg #[.int .i64 0, .int .i64 0], .int .i64 3]) ∧ Below w.heap.size w w' := by
  have HC := hide (fun W => isClay_any dl dh fl fh W)
  have HS := hide (fun W => isSpread_any wl wh 0 1000000 W)
  rw [hcl] at HC
  rw [hs] at HS
  clear hcl hs
  have b0 : Below w.heap.size w (((w.alloc (.cells #[.int .i64 wl, .int .i64 wh] 25)).alloc (.cells #[.int .i64 dl, .int .i64 dh, .int .i64 fl, .int .i64 fh] 40)).alloc (.cells #[.int .i64 0, .int .i64 0] 25)) := (((Below.refl _ w).alloc (Nat.le_refl _) _).alloc (by simp) _).alloc (by simp only [World.size_alloc]; omega) _
  have k0 := Blk.new ((w.alloc (.cells #[.int .i64 wl, .int .i64 wh] 25)).alloc (.cells #[.int .i64 dl, .int .i64 dh, .int .i64 fl, .int .i64 fh] 40)) 25 #[.int .i64 0, .int .i64 0]
  have s0 := ((Blk.new w 25 #[.int .i64 wl, .int .i64 wh]).alloc (.cells #[.int .i64 dl, .int .i64 dh, .int .i64 fl, .int .i64 fh] 40)).alloc (.cells #[.int .i64 0, .int .i64 0] 25)
  have c0 := (Blk.new (w.alloc (.cells #[.int .i64 wl, .int .i64 wh] 25)) 40 #[.int .i64 dl, .int .i64 dh, .int .i64 fl, .int .i64 fh]).alloc (.cells #[.int .i64 0, .int .i64 0] 25)
  simp only [World.size_alloc] at k0 c0 s0
  have B0 := hide b0
  have K0 := hide k0
  have C0 := hide c0
  have S0 := hide s0
  clear b0 k0 c0 s0
  go_enter Try.func21, Try.ntmps21
  go_wp2_with fail
  refine (HC.out _).mono ?_
  rintro e w1 ⟨rfl, hb1⟩
  have hB := B0.out.trans (hb1.mono (by simp only [World.size_alloc]; omega))
  obtain ⟨y1, y2, y3, _, _⟩ := blk2 (S0.out.ext hb1)
  have K1 := hide (K0.out.ext hb1)
  go_wp2_with fail
  refine (HS.out _).mono ?_
  rintro e w2 ⟨rfl, hb2⟩
  have hB2 := hB.trans (hb2.mono hB.size)
  obtain ⟨z1, r0, r1, r2, r3⟩ := blk2 (K1.out.ext hb2)
  go_wp2_with fail
  refine bodyPost_ret (v := .tuple #[.agg #[.int .i64 0, .int .i64 0], .int .i64 3]) (by simp [results, Try.results21, go_sem, *]) rfl ⟨rfl, ?_⟩
  exact set2B hB2 (by omega) _ _
def mLo (wl dh fh : Int) (i : Nat) : Bool := decide (wl ≤ shLo ((i : Int) + 1) dh fh)
def mHi (wh dl fl : Int) (i : Nat) : Bool := decide (wh < shHi ((i : Int) + 1) dl fl)
def MouldsPost (wl wh dl dh fl fh : Int) (w : World) (e : Ending) (w' : World) : Prop :=
  ∃ a b : Nat, Least (mLo wl dh fh) 1000000 a ∧ Least (mHi wh dl fl) 1000000 b ∧ e = .returned (if a + 1 ≤ b then .tuple #[.agg #[.int .i64 ((a : Int) + 1), .int .i64 b], .int .i64 0] else .tuple #[.agg #[.int .i64 0, .int .i64 0], .int .i64 7]) ∧ Below w.heap.size w w'
theorem Moulds_ok (wl wh dl dh fl fh : Int) (w : World) (hcl : clB dl dh fl fh = true) (hs : spB wl wh 0 1000000 = true) :
    Calls Try.prog 21 #[.agg #[.int .i64 wl, .int .i64 wh], .agg #[.int .i64 dl, .int .i64 dh, .int .i64 fl, .int .i64 fh]] w (MouldsPost wl wh dl dh fl fh w) := by
  have HC := hide (fun W => isClay_any dl dh fl fh W)
  have HS := hide (fun W => isSpread_any wl wh 0 1000000 W)
  have H1 := hide (fun W i p q (h2 : i ≤ 1000000) c => moulds1_any i dl dh fl fh wl wh p q W h2 hcl c)
  have H2 := hide (fun W i p q (h2 : i ≤ 1000000) c => moulds2_any i dl dh fl fh wl wh p q W h2 hcl c)
  have HL := hide ((clB_iff _ _ _ _).1 hcl)
  rw [hcl] at HC
  rw [hs] at HS
  clear hcl hs
  have b0 : Below w.heap.size w (((w.alloc (.cells #[.int .i64 wl, .int .i64 wh] 25)).alloc (.cells #[.int .i64 dl, .int .i64 dh, .int .i64 fl, .int .i64 fh] 40)).alloc (.cells #[.int .i64 0, .int .i64 0] 25)) := (((Below.refl _ w).alloc (Nat.le_refl _) _).alloc (by simp) _).alloc (by simp only [World.size_alloc]; omega) _
  have k0 := Blk.new ((w.alloc (.cells #[.int .i64 wl, .int .i64 wh] 25)).alloc (.cells #[.int .i64 dl, .int .i64 dh, .int .i64 fl, .int .i64 fh] 40)) 25 #[.int .i64 0, .int .i64 0]
  have s0 := ((Blk.new w 25 #[.int .i64 wl, .int .i64 wh]).alloc (.cells #[.int .i64 dl, .int .i64 dh, .int .i64 fl, .int .i64 fh] 40)).alloc (.cells #[.int .i64 0, .int .i64 0] 25)
  have c0 := (Blk.new (w.alloc (.cells #[.int .i64 wl, .int .i64 wh] 25)) 40 #[.int .i64 dl, .int .i64 dh, .int .i64 fl, .int .i64 fh]).alloc (.cells #[.int .i64 0, .int .i64 0] 25)
  simp only [World.size_alloc] at k0 c0 s0
  have B0 := hide b0
  have K0 := hide k0
  have C0 := hide c0
  have S0 := hide s0
  clear b0 k0 c0 s0
  go_enter Try.func21, Try.ntmps21
  go_wp2_with fail
  refine (HC.out _).mono ?_
  rintro e w1 ⟨rfl, hb1⟩
  have hB := B0.out.trans (hb1.mono (by simp only [World.size_alloc]; omega))
  have S1 := hide (S0.out.ext hb1)
  have C1 := hide (C0.out.ext hb1)
  have K1 := hide (K0.out.ext hb1)
  obtain ⟨y1, y2, y3, _, _⟩ := blk2 S1.out
  go_wp2_with fail
  refine (HS.out _).mono ?_
  rintro e w2 ⟨rfl, hb2⟩
  have hB2 := hB.trans (hb2.mono hB.size)
  have S2 := hide (S1.out.ext hb2)
  have C2 := hide (C1.out.ext hb2)
  have K2 := hide (K1.out.ext hb2)
  clear y1 y2 y3
  go_wp2_with fail
  refine (search_any 64 #[.pointer (some ⟨w.heap.size + 1, 0, none⟩), .pointer (some ⟨w.heap.size, 0, none⟩)] (mLo wl dh fh) 1000000 _ (by omega) ?_ (enters_of Try.func64 (by kernel_rfl) rfl) ?_).mono ?_
  · intro i j hij _ h
    have := shLo_mono (s := (i : Int) + 1) (t := (j : Int) + 1) (d := dh) (f := fh) (by omega) (by have := HL.out; omega) (by have := HL.out; omega)
    simp only [mLo, decide_eq_true_eq] at *
    omega
  · intro W k hk hB
    obtain ⟨g1, g2, g3, _, _⟩ := blk2 (S2.out.ext hB)
    obtain ⟨g4, g5, g6, g7, g8⟩ := blk4 (C2.out.ext hB)
    exact H1.out W k _ _ (by omega) g5 g6 g7 g8 g2 g3 g4 g1
  rintro e w3 ⟨a, rfl, hL1, hb3⟩
  have HL1 := hide hL1
  have ha := hL1.1
  clear hL1
  have hB3 := hB2.trans (hb3.mono hB2.size)
  have S3 := hide (S2.out.ext hb3)
  have C3 := hide (C2.out.ext hb3)
  have K3 := hide (K2.out.ext hb3)
  go_wp2_with fail
  refine (search_any 65 #[.pointer (some ⟨w.heap.size + 1, 0, none⟩), .pointer (some ⟨w.heap.size, 0, none⟩)] (mHi wh dl fl) 1000000 _ (by omega) ?_ (enters_of Try.func65 (by kernel_rfl) rfl) ?_).mono ?_
  · intro i j hij _ h
    have := shHi_mono (s := (i : Int) + 1) (t := (j : Int) + 1) (d := dl) (f := fl) (by omega) (by have := HL.out; omega) (by have := HL.out; omega)
    simp only [mHi, decide_eq_true_eq] at *
    omega
  · intro W k hk hB
    obtain ⟨g1, g2, g3, _, _⟩ := blk2 (S3.out.ext hB)
    obtain ⟨g4, g5, g6, g7, g8⟩ := blk4 (C3.out.ext hB)
    exact H2.out W k _ _ (by omega) g5 g6 g7 g8 g2 g3 g4 g1
  rintro e w4 ⟨b, rfl, hL2, hb4⟩
  have HL2 := hide hL2
  have hbb := hL2.1
  clear hL2
  have hB4 := hB3.trans (hb4.mono hB3.size)
  obtain ⟨z1, r0, r1, r2, r3⟩ := blk2 (K3.out.ext hb4)
  by_cases hab : a + 1 ≤ b
  · have hab' : ¬ ((b : Int) < 1 + (a : Int)) := by omega
    go_wp2_with fail
    refine bodyPost_ret (v := .tuple #[.agg #[.int .i64 ((a : Int) + 1), .int .i64 b], .int .i64 0]) (by simp [results, Try.results21, go_sem, *]; omega) rfl ⟨a, b, HL1.out, HL2.out, by rw [if_pos hab], ?_⟩
    exact set2B hB4 (by omega) _ _
  · go_wp2_with fail
    refine bodyPost_ret (v := .tuple #[.agg #[.int .i64 0, .int .i64 0], .int .i64 7]) (by simp [results, Try.results21, go_sem, *]) rfl ⟨a, b, HL1.out, HL2.out, by rw [if_neg hab], ?_⟩
    exact set2B hB4 (by omega) _ _
def RefMouldsPost (wl wh dl dh fl fh : Int) (w : World) (e : Ending) (w' : World) : Prop :=
  ∃ a b : Nat, Least (mLo wl dh fh) 1000000 a ∧ Least (mHi wh dl fl) 1000000 b ∧ e = .returned (.tuple #[.agg #[.int .i64 ((a : Int) + 1), .int .i64 b], .bool (decide (a + 1 ≤ b))]) ∧ Below w.heap.size w w'
theorem refMoulds_ok (wl wh dl dh fl fh : Int) (w : World) (hcl : clB dl dh fl fh = true) :
    Calls Try.prog 24 #[.agg #[.int .i64 wl, .int .i64 wh], .agg #[.int .i64 dl, .int .i64 dh, .int .i64 fl, .int .i64 fh]] w (RefMouldsPost wl wh dl dh fl fh w) := by
  have HC := hide (fun W (s : Nat) (h : s ≤ 2000000) => refShrunk_any s dl dh fl fh W (by omega) (by omega) hcl)
  have HL := hide ((clB_iff _ _ _ _).1 hcl)
  clear hcl
  have b0 : Below w.heap.size w (((w.alloc (.cells #[.int .i64 wl, .int .i64 wh] 25)).alloc (.cells #[.int .i64 dl, .int .i64 dh, .int .i64 fl, .int .i64 fh] 40)).alloc (.cells #[.int .i64 0, .int .i64 0] 25)) := (((Below.refl _ w).alloc (Nat.le_refl _) _).alloc (by simp) _).alloc (by simp only [World.size_alloc]; omega) _
  have k0 := Blk.new ((w.alloc (.cells #[.int .i64 wl, .int .i64 wh] 25)).alloc (.cells #[.int .i64 dl, .int .i64 dh, .int .i64 fl, .int .i64 fh] 40)) 25 #[.int .i64 0, .int .i64 0]
  have s0 := ((Blk.new w 25 #[.int .i64 wl, .int .i64 wh]).alloc (.cells #[.int .i64 dl, .int .i64 dh, .int .i64 fl, .int .i64 fh] 40)).alloc (.cells #[.int .i64 0, .int .i64 0] 25)
  have c0 := (Blk.new (w.alloc (.cells #[.int .i64 wl, .int .i64 wh] 25)) 40 #[.int .i64 dl, .int .i64 dh, .int .i64 fl, .int .i64 fh]).alloc (.cells #[.int .i64 0, .int .i64 0] 25)
  simp only [World.size_alloc] at k0 c0 s0
  have B0 := hide b0
  have K0 := hide k0
  have C0 := hide c0
  have S0 := hide s0
  clear b0 k0 c0 s0
  go_enter Try.func24, Try.ntmps24
  go_wp2_with fail
  go_loopw [6, 7] (fun i j wr => ∃ a b : Nat, i = .int .i64 ((a : Int) + 1) ∧ j = .int .i64 ((b : Int) + 1) ∧ a ≤ b ∧ b ≤ 1000000 ∧ Hid ((∀ i : Nat, i < a → mLo wl dh fh i = false) ∧ (b < 1000000 → mLo wl dh fh b = true)) ∧ Hid (Blk wr w.heap.size 25 #[.int .i64 wl, .int .i64 wh]) ∧ Hid (Blk wr (w.heap.size + 1) 40 #[.int .i64 dl, .int .i64 dh, .int .i64 fl, .int .i64 fh]) ∧ Hid (Blk wr (w.heap.size + 1 + 1) 25 #[.int .i64 0, .int .i64 0]) ∧ Below w.heap.size w wr) (fun i j _ => (intOf j).toNat - (intOf i).toNat)
  case atStart => exact ⟨0, 1000000, rfl, rfl, by omega, by omega, hide ⟨fun i hi => absurd hi (by omega), fun h => absurd h (by omega)⟩, S0, C0, K0, B0.out⟩
  case round =>
    obtain ⟨a, b, rfl, rfl, hab, hbn, H, S1, C1, K1, hB⟩ := hrel
    obtain ⟨g1, g2, g3, _, _⟩ := blk2 S1.out
    obtain ⟨g4, g5, g6, g7, g8⟩ := blk4 C1.out
    by_cases hlt : a < b
    · obtain ⟨h, hh⟩ : ∃ h : Nat, h = (a + b) / 2 := ⟨_, rfl⟩
      have e1 : ((a : Int) + 1 + ((b : Int) + 1)) / 2 = (h : Int) + 1 := by omega
      have l1 : a ≤ h := by omega
      have l2 : h < b := by omega
      clear hh
      have E1 := hide e1
      clear e1
      go_wp2_with fail
      simp only [E1.out]
      cases hm : mLo wl dh fh h
      · have HM := hide hm
        have hd : decide (wl ≤ shLo ((h : Int) + 1) dh fh) = false := hm
        clear hm
        go_region_held3 (fun W => W.cell? ⟨w.heap.size + 1, 0, none⟩ = some (.int .i64 dl) ∧ W.cell? ⟨w.heap.size + 1, 1, none⟩ = some (.int .i64 dh) ∧ W.cell? ⟨w.heap.size + 1, 2, none⟩ = some (.int .i64 fl) ∧ W.cell? ⟨w.heap.size + 1, 3, none⟩ = some (.int .i64 fh) ∧ W.cell? ⟨w.heap.size, 0, none⟩ = some (.int .i64 wl)) (first | go_keep | exact ⟨(hb1.cell (p := ⟨w.heap.size + 1, 0, none⟩) g4).trans g5, (hb1.cell (p := ⟨w.heap.size + 1, 1, none⟩) g4).trans g6, (hb1.cell (p := ⟨w.heap.size + 1, 2, none⟩) g4).trans g7, (hb1.cell (p := ⟨w.heap.size + 1, 3, none⟩) g4).trans g8, (hb1.cell (p := ⟨w.heap.size, 0, none⟩) g1).trans g2⟩) ((go_at_call 23; refine (HC.out _ (h + 1) (by omega)).mono ?_; rintro e w1 ⟨rfl, hb1⟩))
        go_wp2_with fail
        go_roundw
        case rel =>
          refine ⟨h + 1, b, by go_num, rfl, by omega, by omega, hide ⟨fun i hi => ?_, H.out.2⟩, hide (S1.out.drew.ext hb1), hide (C1.out.drew.ext hb1), hide (K1.out.drew.ext hb1), hB.drew.trans (hb1.mono hB.size)⟩
          rcases hpi : mLo wl dh fh i with _ | _
          · rfl
          · have := shLo_mono (s := (i : Int) + 1) (t := (h : Int) + 1) (d := dh) (f := fh) (by omega) (by have := HL.out; omega) (by have := HL.out; omega)
            have h7 := HM.out
            simp only [mLo, decide_eq_true_eq, decide_eq_false_iff_not] at hpi h7
            omega
        case measure => simp [intOf]; omega
      · have HM := hide hm
        have hd : decide (wl ≤ shLo ((h : Int) + 1) dh fh) = true := hm
        clear hm
        go_region_held3 (fun W => W.cell? ⟨w.heap.size + 1, 0, none⟩ = some (.int .i64 dl) ∧ W.cell? ⟨w.heap.size + 1, 1, none⟩ = some (.int .i64 dh) ∧ W.cell? ⟨w.heap.size + 1, 2, none⟩ = some (.int .i64 fl) ∧ W.cell? ⟨w.heap.size + 1, 3, none⟩ = some (.int .i64 fh) ∧ W.cell? ⟨w.heap.size, 0, none⟩ = some (.int .i64 wl)) (first | go_keep | exact ⟨(hb1.cell (p := ⟨w.heap.size + 1, 0, none⟩) g4).trans g5, (hb1.cell (p := ⟨w.heap.size + 1, 1, none⟩) g4).trans g6, (hb1.cell (p := ⟨w.heap.size + 1, 2, none⟩) g4).trans g7, (hb1.cell (p := ⟨w.heap.size + 1, 3, none⟩) g4).trans g8, (hb1.cell (p := ⟨w.heap.size, 0, none⟩) g1).trans g2⟩) ((go_at_call 23; refine (HC.out _ (h + 1) (by omega)).mono ?_; rintro e w1 ⟨rfl, hb1⟩))
        go_wp2_with fail
        go_roundw
        case rel => exact ⟨a, h, rfl, by go_num, by omega, by omega, hide ⟨H.out.1, fun _ => HM.out⟩, hide (S1.out.drew.ext hb1), hide (C1.out.drew.ext hb1), hide (K1.out.drew.ext hb1), hB.drew.trans (hb1.mono hB.size)⟩
        case measure => simp [intOf]; omega
    · obtain rfl : a = b := by omega
      have HA : Hid (Least (mLo wl dh fh) 1000000 a) := hide ⟨by omega, H.out.1, H.out.2⟩
      clear H
      go_wp2_with fail
      obtain ⟨wo, rfl⟩ : ∃ wo : World, wo = wr := ⟨_, rfl⟩
      have S9 := hide S1.out
      clear S1 g1 g2 g3 g4 g5 g6 g7 g8
      go_loopw [6, 7] (fun i j wr => ∃ c b : Nat, i = .int .i64 c ∧ j = .int .i64 b ∧ c ≤ b ∧ b ≤ 1000000 ∧ Hid ((∀ i : Nat, i < c → mHi wh dl fl i = false) ∧ (b < 1000000 → mHi wh dl fl b = true)) ∧ Hid (Blk wr w.heap.size 25 #[.int .i64 wl, .int .i64 wh]) ∧ Hid (Blk wr (w.heap.size + 1) 40 #[.int .i64 dl, .int .i64 dh, .int .i64 fl, .int .i64 fh]) ∧ Hid (Blk wr (w.heap.size + 1 + 1) 25 #[.int .i64 0, .int .i64 0]) ∧ Below w.heap.size w wr) (fun i j _ => (intOf j).toNat - (intOf i).toNat)
      case atStart => exact ⟨0, 1000000, rfl, rfl, by omega, by omega, hide ⟨fun i hi => absurd hi (by omega), fun h => absurd h (by omega)⟩, S9, C1, K1, hB⟩
      case round =>
        clear hB C1 K1 S9
        obtain ⟨c, b, rfl, rfl, hcb, hbn2, H, S1, C1, K1, hB⟩ := hrel
        obtain ⟨g1, g2, g3, _, _⟩ := blk2 S1.out
        obtain ⟨g4, g5, g6, g7, g8⟩ := blk4 C1.out
        by_cases hlt2 : c < b
        · obtain ⟨h, hh⟩ : ∃ h : Nat, h = (c + b - 1) / 2 := ⟨_, rfl⟩
          have e1 : ((c : Int) + (b : Int) + 1) / 2 = (h : Int) + 1 := by omega
          have l1 : c ≤ h := by omega
          have l2 : h < b := by omega
          clear hh
          have E1 := hide e1
          clear e1
          go_wp2_with fail
          simp only [E1.out]
          cases hm : mHi wh dl fl h
          · have HM := hide hm
            have hd : decide (shHi ((h : Int) + 1) dl fl ≤ wh) = true := by
              have h7 := hm
              simp only [mHi, decide_eq_false_iff_not] at h7
              simp only [decide_eq_true_eq]
              omega
            clear hm
            go_region_held3 (fun W => W.cell? ⟨w.heap.size + 1, 0, none⟩ = some (.int .i64 dl) ∧ W.cell? ⟨w.heap.size + 1, 1, none⟩ = some (.int .i64 dh) ∧ W.cell? ⟨w.heap.size + 1, 2, none⟩ = some (.int .i64 fl) ∧ W.cell? ⟨w.heap.size + 1, 3, none⟩ = some (.int .i64 fh) ∧ W.cell? ⟨w.heap.size, 1, none⟩ = some (.int .i64 wh)) (first | go_keep | exact ⟨(hb1.cell (p := ⟨w.heap.size + 1, 0, none⟩) g4).trans g5, (hb1.cell (p := ⟨w.heap.size + 1, 1, none⟩) g4).trans g6, (hb1.cell (p := ⟨w.heap.size + 1, 2, none⟩) g4).trans g7, (hb1.cell (p := ⟨w.heap.size + 1, 3, none⟩) g4).trans g8, (hb1.cell (p := ⟨w.heap.size, 1, none⟩) g1).trans g3⟩) ((go_at_call 23; refine (HC.out _ (h + 1) (by omega)).mono ?_; rintro e w1 ⟨rfl, hb1⟩))
            go_wp2_with fail
            go_roundw
            case rel =>
              refine ⟨h + 1, b, by go_num, rfl, by omega, by omega, hide ⟨fun i hi => ?_, H.out.2⟩, hide (S1.out.drew.ext hb1), hide (C1.out.drew.ext hb1), hide (K1.out.drew.ext hb1), hB.drew.trans (hb1.mono hB.size)⟩
              rcases hpi : mHi wh dl fl i with _ | _
              · rfl
              · have := shHi_mono (s := (i : Int) + 1) (t := (h : Int) + 1) (d := dl) (f := fl) (by omega) (by have := HL.out; omega) (by have := HL.out; omega)
                have h7 := HM.out
                simp only [mHi, decide_eq_true_eq, decide_eq_false_iff_not] at hpi h7
                omega
            case measure => simp [intOf]; omega
          · have HM := hide hm
            have hd : decide (shHi ((h : Int) + 1) dl fl ≤ wh) = false := by
              have h7 := hm
              simp only [mHi, decide_eq_true_eq] at h7
              simp only [decide_eq_false_iff_not]
              omega
            clear hm
            go_region_held3 (fun W => W.cell? ⟨w.heap.size + 1, 0, none⟩ = some (.int .i64 dl) ∧ W.cell? ⟨w.heap.size + 1, 1, none⟩ = some (.int .i64 dh) ∧ W.cell? ⟨w.heap.size + 1, 2, none⟩ = some (.int .i64 fl) ∧ W.cell? ⟨w.heap.size + 1, 3, none⟩ = some (.int .i64 fh) ∧ W.cell? ⟨w.heap.size, 1, none⟩ = some (.int .i64 wh)) (first | go_keep | exact ⟨(hb1.cell (p := ⟨w.heap.size + 1, 0, none⟩) g4).trans g5, (hb1.cell (p := ⟨w.heap.size + 1, 1, none⟩) g4).trans g6, (hb1.cell (p := ⟨w.heap.size + 1, 2, none⟩) g4).trans g7, (hb1.cell (p := ⟨w.heap.size + 1, 3, none⟩) g4).trans g8, (hb1.cell (p := ⟨w.heap.size, 1, none⟩) g1).trans g3⟩) ((go_at_call 23; refine (HC.out _ (h + 1) (by omega)).mono ?_; rintro e w1 ⟨rfl, hb1⟩))
            go_wp2_with fail
            go_roundw
            case rel => exact ⟨c, h, rfl, by go_num, by omega, by omega, hide ⟨H.out.1, fun _ => HM.out⟩, hide (S1.out.drew.ext hb1), hide (C1.out.drew.ext hb1), hide (K1.out.drew.ext hb1), hB.drew.trans (hb1.mono hB.size)⟩
            case measure => simp [intOf]; omega
        · obtain rfl : c = b := by omega
          have HB : Hid (Least (mHi wh dl fl) 1000000 c) := hide ⟨by omega, H.out.1, H.out.2⟩
          clear H
          obtain ⟨z1, r0, r1, r2, r3⟩ := blk2 K1.out
          go_wp2_with fail
          refine bodyPost_ret (v := .tuple #[.agg #[.int .i64 ((a : Int) + 1), .int .i64 c], .bool (decide (a + 1 ≤ c))]) (by simp [results, Try.results24, go_sem, *]; omega) rfl ⟨a, c, HA.out, HB.out, rfl, ?_⟩
          exact set2B hB (by omega) _ _
end Go.Proofs.Ytlhekifmkkgjlaa
/- Contracts of chapter 8 on the book: what happens to one kind. -/
namespace Go.Proofs.Ytlhekifmkkgjlaa
open Go Go.RowKit
set_option maxHeartbeats 400000
theorem move_lt (n a : Int) (S o p q : Nat) (w : World) (h : w.cell? ⟨S, o, none⟩ = some (.int .i64 a)) (hn : a < n) :
    Calls Try.prog 85 #[.int .i64 n, .pointer (some ⟨S, o, none⟩), .pointer (some ⟨p, q, none⟩)] w fun e w' => e = .returned (.int .i64 9) ∧ w = w' := by
  go_enter Try.func85, Try.ntmps85
  go_wp2_with fail
  go_ret
  exact ⟨rfl, rfl⟩
theorem move_ok (n a b : Int) (S o q : Nat) (w : World) (h : w.cell? ⟨S, o, none⟩ = some (.int .i64 a)) (h' : w.cell? ⟨S, q, none⟩ = some (.int .i64 b)) (hf : ∀ i, w.frozen? ⟨S, i, none⟩ = false) (hoq : o ≠ q)
    (hn : n ≤ a) (h0 : 0 ≤ n) (h1 : a ≤ 2000000000) (h2 : 0 ≤ b) (h3 : b ≤ 2000000000) :
    Calls Try.prog 85 #[.int .i64 n, .pointer (some ⟨S, o, none⟩), .pointer (some ⟨S, q, none⟩)] w fun e w' => e = .returned (.int .i64 0) ∧ Below w.heap.size ((w.setCell ⟨S, o, none⟩ (.int .i64 (a - n))).setCell ⟨S, q, none⟩ (.int .i64 (b + n))) w' := by
  have f1 := hf o
  have f2 := hf q
  clear hf
  have hqo : q ≠ o := Ne.symm hoq
  go_enter Try.func85, Try.ntmps85
  go_wp2_with fail
  go_region
  all_goals
    go_wp2_with fail
    go_ret
    exact ⟨rfl, (Below.refl _ _).drew⟩
theorem moulded_any (a b c d e f g : Int) (w : World) (h0 : 0 ≤ a) (h1 : 0 ≤ b) (h2 : 0 ≤ c) (h3 : 0 ≤ d) (h4 : 0 ≤ e) (h5 : 0 ≤ f) (hs : a + b + c + d + e + f ≤ 1000000000) :
    Calls Try.prog 83 #[.agg #[.int .i64 a, .int .i64 b, .int .i64 c, .int .i64 d, .int .i64 e, .int .i64 f, .int .i64 g]] w fun en w' => en = .returned (.int .i64 (a + b + c + d + e + f)) ∧ Below w.heap.size w w' := by
  go_enter Try.func83, Try.ntmps83
  go_wp2_with fail
  go_ret
  exact ⟨rfl, (Below.refl _ _).alloc (Nat.le_refl _) _⟩
/-- the seven cells of a kind at o -/
def Kind7 (w : World) (S o : Nat) (a b c d e f g : Int) : Prop :=
  S < w.heap.size ∧ (∀ i, w.frozen? ⟨S, i, none⟩ = false) ∧ w.cell? ⟨S, o, none⟩ = some (.int .i64 a) ∧ w.cell? ⟨S, o + 1, none⟩ = some (.int .i64 b) ∧ w.cell? ⟨S, o + 2, none⟩ = some (.int .i64 c) ∧
  w.cell? ⟨S, o + 3, none⟩ = some (.int .i64 d) ∧ w.cell? ⟨S, o + 4, none⟩ = some (.int .i64 e) ∧ w.cell? ⟨S, o + 5, none⟩ = some (.int .i64 f) ∧ w.cell? ⟨S, o + 6, none⟩ = some (.int .i64 g)
theorem Kind7.below {w w' : World} {B S o : Nat} {a b c d e f g : Int} (h : Kind7 w S o a b c d e f g) (hb : Below B w w') (hS : S < B) : Kind7 w' S o a b c d e f g := by
  obtain ⟨h0, hf, h1, h2, h3, h4, h5, h6, h7⟩ := h
  exact ⟨Nat.lt_of_lt_of_le h0 hb.size, fun i => (hb.frozen (p := ⟨S, i, none⟩) hS).trans (hf i), (hb.cell (p := ⟨S, o, none⟩) hS).trans h1, (hb.cell (p := ⟨S, o + 1, none⟩) hS).trans h2, (hb.cell (p := ⟨S, o + 2, none⟩) hS).trans h3, (hb.cell (p := ⟨S, o + 3, none⟩) hS).trans h4, (hb.cell (p := ⟨S, o + 4, none⟩) hS).trans h5, (hb.cell (p := ⟨S, o + 5, none⟩) hS).trans h6, (hb.cell (p := ⟨S, o + 6, none⟩) hS).trans h7⟩
/-- the numbers of a kind are not below 0, and all together at most MaxBricks -/
def Ok7 (a b c d e f g : Int) : Prop := 0 ≤ a ∧ 0 ≤ b ∧ 0 ≤ c ∧ 0 ≤ d ∧ 0 ≤ e ∧ 0 ≤ f ∧ 0 ≤ g ∧ a + b + c + d + e + f ≤ 1000000000 ∧ g ≤ f
theorem mould1_full (a b c d e f g n : Int) (S o q : Nat) (w : World) (hk : Kind7 w S o a b c d e f g) (ho : Ok7 a b c d e f g) (hq : w.cell? ⟨q, 0, none⟩ = some (.int .i64 n)) (hql : q < w.heap.size) (hn : 0 ≤ n) (hn2 : n ≤ 1000000000)
    (hfull : 1000000000 < a + b + c + d + e + f + n) :
    Calls Try.prog 82 #[.pointer (some ⟨S, o, none⟩), .pointer (some ⟨q, 0, none⟩)] w fun en w' => en = .returned (.int .i64 8) ∧ Below w.heap.size w w' := by
  obtain ⟨h0, hf, h1, h2, h3, h4, h5, h6, h7⟩ := hk
  obtain ⟨o1, o2, o3, o4, o5, o6, o7, o8, o9⟩ := ho
  have HF := hide hf
  clear hf
  have t0 : IntKind.i64.wrap (a + b + c + d + e + f + n) = a + b + c + d + e + f + n := IntWalk.i64_in _ (by omega)
  go_enter Try.func82, Try.ntmps82
  go_wp2_with fail
  go_region_held3 (fun W => W.cell? ⟨S, o, none⟩ = some (.int .i64 a) ∧ W.cell? ⟨S, o + 1, none⟩ = some (.int .i64 b) ∧ W.cell? ⟨S, o + 2, none⟩ = some (.int .i64 c) ∧ W.cell? ⟨S, o + 3, none⟩ = some (.int .i64 d) ∧ W.cell? ⟨S, o + 4, none⟩ = some (.int .i64 e) ∧ W.cell? ⟨S, o + 5, none⟩ = some (.int .i64 f) ∧ W.cell? ⟨S, o + 6, none⟩ = some (.int .i64 g) ∧ W.cell? ⟨q, 0, none⟩ = some (.int .i64 n))
    (first | go_keep | exact ⟨(hb1.cell (p := ⟨S, o, none⟩) h0).trans h1, (hb1.cell (p := ⟨S, o + 1, none⟩) h0).trans h2, (hb1.cell (p := ⟨S, o + 2, none⟩) h0).trans h3, (hb1.cell (p := ⟨S, o + 3, none⟩) h0).trans h4, (hb1.cell (p := ⟨S, o + 4, none⟩) h0).trans h5, (hb1.cell (p := ⟨S, o + 5, none⟩) h0).trans h6, (hb1.cell (p := ⟨S, o + 6, none⟩) h0).trans h7, (hb1.cell (p := ⟨q, 0, none⟩) hql).trans hq⟩)
    ((go_at_call 83; refine (moulded_any a b c d e f g _ o1 o2 o3 o4 o5 o6 o8).mono ?_; rintro en w1 ⟨rfl, hb1⟩))
  clear t0
  go_wp2_with fail
  go_ret
  exact ⟨rfl, (Below.refl _ _).drew.trans hb1⟩
theorem mould1_ok (a b c d e f g n : Int) (S o q : Nat) (w : World) (hk : Kind7 w S o a b c d e f g) (ho : Ok7 a b c d e f g) (hq : w.cell? ⟨q, 0, none⟩ = some (.int .i64 n)) (hql : q < w.heap.size) (hn : 0 ≤ n) (hn2 : n ≤ 1000000000)
    (hfull : a + b + c + d + e + f + n ≤ 1000000000) :
    Calls Try.prog 82 #[.pointer (some ⟨S, o, none⟩), .pointer (some ⟨q, 0, none⟩)] w fun en w' => en = .returned (.int .i64 0) ∧ Below w.heap.size (w.setCell ⟨S, o, none⟩ (.int .i64 (a + n))) w' := by
  obtain ⟨h0, hf, h1, h2, h3, h4, h5, h6, h7⟩ := hk
  obtain ⟨o1, o2, o3, o4, o5, o6, o7, o8, o9⟩ := ho
  have hf0 := hf o
  clear hf
  have t0 : IntKind.i64.wrap (a + b + c + d + e + f + n) = a + b + c + d + e + f + n := IntWalk.i64_in _ (by omega)
  go_enter Try.func82, Try.ntmps82
  go_wp2_with fail
  go_region_held3 (fun W => W.cell? ⟨S, o, none⟩ = some (.int .i64 a) ∧ W.cell? ⟨S, o + 1, none⟩ = some (.int .i64 b) ∧ W.cell? ⟨S, o + 2, none⟩ = some (.int .i64 c) ∧ W.cell? ⟨S, o + 3, none⟩ = some (.int .i64 d) ∧ W.cell? ⟨S, o + 4, none⟩ = some (.int .i64 e) ∧ W.cell? ⟨S, o + 5, none⟩ = some (.int .i64 f) ∧ W.cell? ⟨S, o + 6, none⟩ = some (.int .i64 g) ∧ W.cell? ⟨q, 0, none⟩ = some (.int .i64 n))
    (first | go_keep | exact ⟨(hb1.cell (p := ⟨S, o, none⟩) h0).trans h1, (hb1.cell (p := ⟨S, o + 1, none⟩) h0).trans h2, (hb1.cell (p := ⟨S, o + 2, none⟩) h0).trans h3, (hb1.cell (p := ⟨S, o + 3, none⟩) h0).trans h4, (hb1.cell (p := ⟨S, o + 4, none⟩) h0).trans h5, (hb1.cell (p := ⟨S, o + 5, none⟩) h0).trans h6, (hb1.cell (p := ⟨S, o + 6, none⟩) h0).trans h7, (hb1.cell (p := ⟨q, 0, none⟩) hql).trans hq⟩)
    ((go_at_call 83; refine (moulded_any a b c d e f g _ o1 o2 o3 o4 o5 o6 o8).mono ?_; rintro en w1 ⟨rfl, hb1⟩))
  clear t0 h1 h2 h3 h4 h5 h6 h7 hq
  rename_i hHeld
  obtain ⟨h1, -, -, -, -, -, -, hq⟩ := hHeld
  have hf1 : w1.frozen? ⟨S, o, none⟩ = false := (hb1.frozen (p := ⟨S, o, none⟩) h0).trans hf0
  have hz : w.heap.size ≤ w1.heap.size := hb1.size
  go_wp2_with fail
  go_region
  all_goals
    go_wp2_with fail
    go_ret
    exact ⟨rfl, (setB ((Below.refl w.heap.size w).drew.trans hb1) ⟨S, o, none⟩ (.int .i64 (a + n))).drew⟩
end Go.Proofs.Ytlhekifmkkgjlaa
/- Contracts of chapter 8 on the book: change, and what is done with one kind. -/
namespace Go.Proofs.Ytlhekifmkkgjlaa
open Go Go.RowKit
set_option maxHeartbeats 400000
theorem blkB {w : World} {g : Nat} {t : TypeId} {a b c d : Value} (h : Blk w g t #[a, b, c, d]) : g < w.heap.size ∧ w.cell? ⟨g, 2, none⟩ = some c :=
  ⟨h.lt, by simpa using h.cell 2⟩
theorem has_any (b S n : Nat) (spv ov : Value) (room kind : Int) (w : World) (hb : Blk w b 148 #[spv, .int .i64 room, .slice (some ⟨S, 0, none⟩) n n, ov]) (hn : n ≤ 20) (hn0 : 1 ≤ n) :
    Calls Try.prog 86 #[.pointer (some ⟨b, 0, none⟩), .int .i64 kind] w fun e w' => e = .returned (.bool (decide (0 ≤ kind ∧ kind ≤ (n : Int) - 1))) ∧ Below w.heap.size w w' := by
  obtain ⟨-, c2⟩ := blkB hb
  clear hb
  go_enter Try.func86, Try.ntmps86
  go_wp2_with fail
  refine (within_any 0 ((n : Int) - 1) _ 1 1 (fun _ => kind) _ (by decide) ?_).mono ?_
  · simpa using IR.one w kind 3
  rw [wiB_one]
  rintro e w1 ⟨rfl, hb1⟩
  go_wp2_with fail
  go_ret
  exact ⟨ret_bool (by simp), ((Below.refl _ _).alloc (Nat.le_refl _) _).trans (hb1.mono (by simp only [World.size_alloc]; omega))⟩
theorem change_nil (kind n : Int) (fv : Value) (w : World) :
    Calls Try.prog 80 #[.pointer none, .int .i64 kind, .int .i64 n, fv] w fun e w' => e = .returned (.int .i64 1) ∧ Below w.heap.size w w' := by
  go_enter Try.func80, Try.ntmps80
  go_wp2_with fail
  go_ret
  exact ⟨rfl, Below.refl _ _⟩
theorem change_none (b S n : Nat) (spv ov : Value) (room kind m : Int) (fv : Value) (w : World) (hb : Blk w b 148 #[spv, .int .i64 room, .slice (some ⟨S, 0, none⟩) n n, ov]) (hn : n ≤ 20) (hn0 : 1 ≤ n) (hk : ¬ (0 ≤ kind ∧ kind ≤ (n : Int) - 1)) :
    Calls Try.prog 80 #[.pointer (some ⟨b, 0, none⟩), .int .i64 kind, .int .i64 m, fv] w fun e w' => e = .returned (.int .i64 7) ∧ Below w.heap.size w w' := by
  have HC := hide (fun W (h : Below w.heap.size w W) => has_any b S n spv ov room kind W (hb.ext h) hn hn0)
  rw [decide_eq_false hk] at HC
  clear hb hk
  go_enter Try.func80, Try.ntmps80
  go_wp2_with fail
  refine (HC.out _ (Below.refl _ _)).mono ?_
  rintro e w1 ⟨rfl, hb1⟩
  go_wp2_with fail
  go_ret
  exact ⟨rfl, hb1⟩
theorem change_range (b S n : Nat) (spv ov : Value) (room kind m : Int) (fv : Value) (w : World) (hb : Blk w b 148 #[spv, .int .i64 room, .slice (some ⟨S, 0, none⟩) n n, ov]) (hn : n ≤ 20) (hn0 : 1 ≤ n) (hk : 0 ≤ kind ∧ kind ≤ (n : Int) - 1) (hm : ¬ (0 ≤ m ∧ m ≤ 1000000000)) :
    Calls Try.prog 80 #[.pointer (some ⟨b, 0, none⟩), .int .i64 kind, .int .i64 m, fv] w fun e w' => e = .returned (.int .i64 3) ∧ Below w.heap.size w w' := by
  have HC := hide (fun W (h : Below w.heap.size w W) => has_any b S n spv ov room kind W (hb.ext h) hn hn0)
  rw [decide_eq_true hk] at HC
  have HD := hide (decide_eq_false hm)
  clear hb hk hm
  go_enter Try.func80, Try.ntmps80
  go_wp2_with fail
  refine (HC.out _ (Below.refl _ _)).mono ?_
  rintro e w1 ⟨rfl, hb1⟩
  go_wp2_with fail
  refine (within_any 0 1000000000 _ 1 1 (fun _ => m) _ (by decide) ?_).mono ?_
  · simpa using IR.one w1 m 3
  rw [wiB_one, HD.out]
  rintro e w2 ⟨rfl, hb2⟩
  go_wp2_with fail
  go_ret
  exact ⟨rfl, (hb1.alloc hb1.size _).trans (hb2.mono (by have := hb1.size; simp only [World.size_alloc]; omega))⟩
theorem change_ok (b S n k : Nat) (spv ov : Value) (room m v : Int) (g : FuncId) (lb : Array Value) (f : World → World) (w : World) (hb : Blk w b 148 #[spv, .int .i64 room, .slice (some ⟨S, 0, none⟩) n n, ov]) (hn : n ≤ 20) (hk : k < n) (h0 : 0 ≤ m) (h1 : m ≤ 1000000000)
    (eg : ∀ args w, (callFunc g args).run Try.prog w = .ok (.enter g args) w)
    (hf : ∀ W, Below w.heap.size w W → Below w.heap.size (f w) (f W))
    (hg : ∀ W, Below w.heap.size w W → Calls Try.prog g (#[.pointer (some ⟨S, k * 7, none⟩)] ++ lb) W fun e W' => e = .returned (.int .i64 v) ∧ Below W.heap.size (f W) W') :
    Calls Try.prog 80 #[.pointer (some ⟨b, 0, none⟩), .int .i64 k, .int .i64 m, .func (.func g) #[] lb] w fun e w' => e = .returned (.int .i64 v) ∧ Below w.heap.size (f w) w' := by
  have HC := hide (fun W (h : Below w.heap.size w W) => has_any b S n spv ov room k W (hb.ext h) hn (by omega))
  rw [decide_eq_true (by omega : 0 ≤ (k : Int) ∧ (k : Int) ≤ (n : Int) - 1)] at HC
  have HD := hide (decide_eq_true (And.intro h0 h1))
  have HB := hide hb
  have HF := hide hf
  have HG := hide hg
  clear hb hf hg
  go_enter Try.func80, Try.ntmps80
  go_wp2_with fail
  refine (HC.out _ (Below.refl _ _)).mono ?_
  rintro e w1 ⟨rfl, hb1⟩
  go_wp2_with fail
  refine (within_any 0 1000000000 _ 1 1 (fun _ => m) _ (by decide) ?_).mono ?_
  · simpa using IR.one w1 m 3
  rw [wiB_one, HD.out]
  rintro e w2 ⟨rfl, hb2⟩
  have hB2 : Below w.heap.size w w2 := (hb1.alloc hb1.size _).trans (hb2.mono (by have := hb1.size; simp only [World.size_alloc]; omega))
  obtain ⟨-, c2⟩ := blkB (HB.out.ext hB2)
  have i1 : (0 : Int) ≤ (k : Int) := by omega
  have i2 : (k : Int) < (n : Int) := by omega
  clear hb2
  go_wp2_with fail
  refine (HG.out _ hB2).mono ?_
  rintro e w3 ⟨rfl, hb3⟩
  go_wp2_with fail
  go_ret
  exact ⟨rfl, (HF.out _ hB2).trans (hb3.mono hB2.size)⟩
end Go.Proofs.Ytlhekifmkkgjlaa
/- Contracts of chapter 8 on the book: drying, laying, breaking, replacing, counting; a new book. -/
namespace Go.Proofs.Ytlhekifmkkgjlaa
open Go Go.RowKit
set_option maxHeartbeats 800000
def set7 (w : World) (q : Nat) (a b c d e f g : Int) : World :=
  ((((((w.setCell ⟨q, 0, none⟩ (.int .i64 a)).setCell ⟨q, 1, none⟩ (.int .i64 b)).setCell ⟨q, 2, none⟩ (.int .i64 c)).setCell ⟨q, 3, none⟩ (.int .i64 d)).setCell ⟨q, 4, none⟩ (.int .i64 e)).setCell ⟨q, 5, none⟩ (.int .i64 f)).setCell ⟨q, 6, none⟩ (.int .i64 g)
theorem count1_any (a b c d e f g : Int) (S o q : Nat) (t : TypeId) (x0 x1 x2 x3 x4 x5 x6 : Value) (w : World) (hk : Kind7 w S o a b c d e f g) (ho : Ok7 a b c d e f g) (hq : Blk w q t #[x0, x1, x2, x3, x4, x5, x6]) (hne : S ≠ q) :
    Calls Try.prog 81 #[.pointer (some ⟨S, o, none⟩), .pointer (some ⟨q, 0, none⟩)] w fun en w' => en = .returned (.int .i64 0) ∧ Below w.heap.size (set7 w q a b c d e f g) w' := by
  obtain ⟨h0, hf, h1, h2, h3, h4, h5, h6, h7⟩ := hk
  obtain ⟨o1, o2, o3, o4, o5, o6, o7, o8, o9⟩ := ho
  clear hf o1 o2 o3 o4 o5 o6 o7 o8 o9
  have hne' := Ne.symm hne
  have q0 := hq.cell 0
  have q1 := hq.cell 1
  have q2 := hq.cell 2
  have q3 := hq.cell 3
  have q4 := hq.cell 4
  have q5 := hq.cell 5
  have q6 := hq.cell 6
  have f0 := hq.frozen 0
  have f1 := hq.frozen 1
  have f2 := hq.frozen 2
  have f3 := hq.frozen 3
  have f4 := hq.frozen 4
  have f5 := hq.frozen 5
  have f6 := hq.frozen 6
  simp at q0 q1 q2 q3 q4 q5 q6
  clear hq
  go_enter Try.func81, Try.ntmps81
  go_wp2_with fail
  go_ret
  exact ⟨rfl, Below.refl _ _⟩
/-- three facts on a kind over one store into it -/
theorem dry1_arg (a b c d e f g : Int) (n br : Int) (S o p q : Nat) (w : World) (hk : Kind7 w S o a b c d e f g) (ho : Ok7 a b c d e f g) (hp : w.cell? ⟨p, 0, none⟩ = some (.int .i64 n)) (hq : w.cell? ⟨q, 0, none⟩ = some (.int .i64 br)) (hb : ¬ (0 ≤ br ∧ br ≤ n)) :
    Calls Try.prog 84 #[.pointer (some ⟨S, o, none⟩), .pointer (some ⟨p, 0, none⟩), .pointer (some ⟨q, 0, none⟩)] w fun en w' => en = .returned (.int .i64 2) ∧ Below w.heap.size w w' := by
  have HD := hide (decide_eq_false hb)
  clear hk ho hb
  go_enter Try.func84, Try.ntmps84
  go_wp2_with fail
  refine (within_any 0 n _ 1 1 (fun _ => br) _ (by decide) ?_).mono ?_
  · simpa using IR.one w br 3
  rw [wiB_one, HD.out]
  rintro en w1 ⟨rfl, hb1⟩
  go_wp2_with fail
  go_ret
  exact ⟨rfl, ((Below.refl _ _).alloc (Nat.le_refl _) _).trans (hb1.mono (by simp only [World.size_alloc]; omega))⟩
theorem dry1_state (a b c d e f g : Int) (n br : Int) (S o p q : Nat) (w : World) (hk : Kind7 w S o a b c d e f g) (ho : Ok7 a b c d e f g) (hp : w.cell? ⟨p, 0, none⟩ = some (.int .i64 n)) (hq : w.cell? ⟨q, 0, none⟩ = some (.int .i64 br)) (hpl : p < w.heap.size) (hb : 0 ≤ br ∧ br ≤ n) (hlt : a < n) :
    Calls Try.prog 84 #[.pointer (some ⟨S, o, none⟩), .pointer (some ⟨p, 0, none⟩), .pointer (some ⟨q, 0, none⟩)] w fun en w' => en = .returned (.int .i64 9) ∧ Below w.heap.size w w' := by
  have HD := hide (decide_eq_true hb)
  obtain ⟨h0, hf, h1, h2, h3, h4, h5, h6, h7⟩ := hk
  obtain ⟨o1, o2, o3, o4, o5, o6, o7, o8, o9⟩ := ho
  clear hf o1 o2 o3 o4 o5 o6 o7 o8 o9 hb h2 h3 h4 h5 h6 h7
  go_enter Try.func84, Try.ntmps84
  go_wp2_with fail
  refine (within_any 0 n _ 1 1 (fun _ => br) _ (by decide) ?_).mono ?_
  · simpa using IR.one w br 3
  rw [wiB_one, HD.out]
  rintro en w1 ⟨rfl, hb1⟩
  have hB : Below w.heap.size w w1 := ((Below.refl _ _).alloc (Nat.le_refl _) _).trans (hb1.mono (by simp only [World.size_alloc]; omega))
  have k1 : w1.cell? ⟨S, o, none⟩ = some (.int .i64 a) := (hB.cell (p := ⟨S, o, none⟩) h0).trans h1
  have k2 : w1.cell? ⟨p, 0, none⟩ = some (.int .i64 n) := (hB.cell (p := ⟨p, 0, none⟩) hpl).trans hp
  clear h1 hp hb1
  go_wp2_with fail
  go_region_held3 (fun W => W.cell? ⟨p, 0, none⟩ = some (.int .i64 n)) (first | go_keep | assumption) ((go_at_call 85; refine (move_lt n a S o S (o + 1) _ ?_ hlt).mono ?_; (simp [*]); rintro en w2 ⟨rfl, rfl⟩))
  go_wp2_with fail
  go_ret
  exact ⟨rfl, hB.drew⟩
def mv (w : World) (S o q : Nat) (u v : Int) : World := (w.setCell ⟨S, o, none⟩ (.int .i64 u)).setCell ⟨S, q, none⟩ (.int .i64 v)
theorem size_mv (w : World) (S o q : Nat) (u v : Int) : (mv w S o q u v).heap.size = w.heap.size := by simp [mv, size_set]
theorem mvB {B : Nat} {w W : World} (h : Below B w W) (S o q : Nat) (u v : Int) : Below B (mv w S o q u v) (mv W S o q u v) := setB (setB h _ _) _ _
theorem mv_cell {w : World} {S o q x : Nat} {u v : Int} {z : Value} (h : w.cell? ⟨S, x, none⟩ = some z) (h1 : x ≠ o) (h2 : x ≠ q) : (mv w S o q u v).cell? ⟨S, x, none⟩ = some z := by
  unfold mv
  rw [World.cell?_setCell_other _ _ _ _ (fun h => by injection h; omega), World.cell?_setCell_other _ _ _ _ (fun h => by injection h; omega)]
  exact h
theorem mv_far {w : World} {S o q p x : Nat} {u v : Int} (h1 : p ≠ S) : (mv w S o q u v).cell? ⟨p, x, none⟩ = w.cell? ⟨p, x, none⟩ := by
  unfold mv
  rw [World.cell?_setCell_other _ _ _ _ (fun h => by injection h; omega), World.cell?_setCell_other _ _ _ _ (fun h => by injection h; omega)]
theorem mv_frozen (w : World) (S o q : Nat) (u v : Int) (p : Addr) : (mv w S o q u v).frozen? p = w.frozen? p := by
  unfold mv
  rw [World.frozen?_setCell, World.frozen?_setCell]
theorem mv_snd {w : World} {S o q : Nat} {u v : Int} {z : Value} (h : w.cell? ⟨S, q, none⟩ = some z) (hoq : o ≠ q) : (mv w S o q u v).cell? ⟨S, q, none⟩ = some (.int .i64 v) := by
  unfold mv
  refine World.cell?_setCell_same' _ _ _ ?_
  rw [World.cell?_setCell_other _ _ _ _ (fun h => by injection h; omega), h]; rfl
theorem mv_fst {w : World} {S o q : Nat} {u v : Int} {z : Value} (h : w.cell? ⟨S, o, none⟩ = some z) (hoq : o ≠ q) : (mv w S o q u v).cell? ⟨S, o, none⟩ = some (.int .i64 u) := by
  unfold mv
  rw [World.cell?_setCell_other _ _ _ _ (fun h => by injection h; omega)]
  exact World.cell?_setCell_same' _ _ _ (by rw [h]; rfl)
theorem dry1_ok (a b c d e f g : Int) (n br : Int) (S o p q : Nat) (w : World) (hk : Kind7 w S o a b c d e f g) (ho : Ok7 a b c d e f g) (hp : w.cell? ⟨p, 0, none⟩ = some (.int .i64 n)) (hq : w.cell? ⟨q, 0, none⟩ = some (.int .i64 br)) (hpl : p < w.heap.size) (hql : q < w.heap.size) (hpS : p ≠ S) (hqS : q ≠ S) (hb : 0 ≤ br ∧ br ≤ n) (hlt : n ≤ a) :
    Calls Try.prog 84 #[.pointer (some ⟨S, o, none⟩), .pointer (some ⟨p, 0, none⟩), .pointer (some ⟨q, 0, none⟩)] w fun en w' => en = .returned (.int .i64 0) ∧
      Below w.heap.size (mv (mv w S o (o + 1) (a - n) (b + n)) S (o + 1) (o + 5) (b + n - br) (f + br)) w' := by
  have HD := hide (decide_eq_true hb)
  obtain ⟨h0, hf, h1, h2, h3, h4, h5, h6, h7⟩ := hk
  obtain ⟨o1, o2, o3, o4, o5, o6, o7, o8, o9⟩ := ho
  clear h3 h4 h5 h7
  have HF := hide hf
  clear hf
  go_enter Try.func84, Try.ntmps84
  go_wp2_with fail
  refine (within_any 0 n _ 1 1 (fun _ => br) _ (by decide) ?_).mono ?_
  · simpa using IR.one w br 3
  rw [wiB_one, HD.out]
  rintro en w1 ⟨rfl, hb1⟩
  have hB : Below w.heap.size w w1 := ((Below.refl _ _).alloc (Nat.le_refl _) _).trans (hb1.mono (by simp only [World.size_alloc]; omega))
  have k1 : w1.cell? ⟨S, o, none⟩ = some (.int .i64 a) := (hB.cell (p := ⟨S, o, none⟩) h0).trans h1
  have k2 : w1.cell? ⟨p, 0, none⟩ = some (.int .i64 n) := (hB.cell (p := ⟨p, 0, none⟩) hpl).trans hp
  have k3 : w1.cell? ⟨S, o + 1, none⟩ = some (.int .i64 b) := (hB.cell (p := ⟨S, o + 1, none⟩) h0).trans h2
  have k4 : w1.cell? ⟨q, 0, none⟩ = some (.int .i64 br) := (hB.cell (p := ⟨q, 0, none⟩) hql).trans hq
  have k5 : w1.cell? ⟨S, o + 5, none⟩ = some (.int .i64 f) := (hB.cell (p := ⟨S, o + 5, none⟩) h0).trans h6
  have k6 : ∀ i, w1.frozen? ⟨S, i, none⟩ = false := fun i => (hB.frozen (p := ⟨S, i, none⟩) h0).trans (HF.out i)
  have K6 := hide k6
  have z1 : S < w1.heap.size := Nat.lt_of_lt_of_le h0 hB.size
  have z2 : p < w1.heap.size := Nat.lt_of_lt_of_le hpl hB.size
  have z3 : q < w1.heap.size := Nat.lt_of_lt_of_le hql hB.size
  clear h1 h2 h6 hp hq hb1 k6
  have HM := hide (move_ok n a b S o (o + 1) w1.drew k1 k3 K6.out (by omega) hlt (by omega) (by omega) o2 (by omega))
  go_wp2_with fail
  go_region_held3 (fun W => W.cell? ⟨p, 0, none⟩ = some (.int .i64 n)) (first | go_keep | exact (hb2.cell (p := ⟨p, 0, none⟩) z2).trans ((mv_far hpS).trans k2)) ((go_at_call 85; refine HM.out.mono ?_; rintro en w2 ⟨rfl, hb2⟩))
  have hb2' : Below w1.heap.size (mv w1 S o (o + 1) (a - n) (b + n)) w2 := ⟨hb2.os, hb2.tape, hb2.output, hb2.size, hb2.block⟩
  have s2 : w1.heap.size ≤ w2.heap.size := by have := hb2'.size; rw [size_mv] at this; exact this
  have m3 : w2.cell? ⟨S, o + 1, none⟩ = some (.int .i64 (b + n)) := (hb2'.cell (p := ⟨S, o + 1, none⟩) z1).trans (mv_snd k3 (by omega))
  have m4 : w2.cell? ⟨q, 0, none⟩ = some (.int .i64 br) := (hb2'.cell (p := ⟨q, 0, none⟩) z3).trans ((mv_far hqS).trans k4)
  have m5 : w2.cell? ⟨S, o + 5, none⟩ = some (.int .i64 f) := (hb2'.cell (p := ⟨S, o + 5, none⟩) z1).trans (mv_cell k5 (by omega) (by omega))
  have M6 := hide (fun i => (hb2'.frozen (p := ⟨S, i, none⟩) z1).trans ((mv_frozen _ _ _ _ _ _ _).trans (K6.out i)))
  have HN := hide (move_ok br (b + n) f S (o + 1) (o + 5) w2.drew m3 m5 M6.out (by omega) (by omega) (by omega) (by omega) o6 (by omega))
  clear HM k1 k3 k5 hb2
  go_wp2_with fail
  go_region_held3 (fun W => W.cell? ⟨q, 0, none⟩ = some (.int .i64 br)) (first | go_keep | exact (hb3.cell (p := ⟨q, 0, none⟩) (Nat.lt_of_lt_of_le z3 s2)).trans ((mv_far hqS).trans m4)) ((go_at_call 85; refine HN.out.mono ?_; rintro en w3 ⟨rfl, hb3⟩))
  have hb3' : Below w2.heap.size (mv w2 S (o + 1) (o + 5) (b + n - br) (f + br)) w3 := ⟨hb3.os, hb3.tape, hb3.output, hb3.size, hb3.block⟩
  go_wp2_with fail
  go_ret
  exact ⟨rfl, (mvB ((mvB hB S o (o + 1) (a - n) (b + n)).trans (hb2'.mono hB.size)) S (o + 1) (o + 5) (b + n - br) (f + br)).trans (hb3'.mono (Nat.le_trans hB.size s2))⟩
end Go.Proofs.Ytlhekifmkkgjlaa
/- Contracts of chapter 8 on the book: a new book, Mould, Dry, Count. -/
namespace Go.Proofs.Ytlhekifmkkgjlaa
open Go Go.RowKit
set_option maxHeartbeats 800000
theorem run_make_rowN {P : Program} (t e : TypeId) (i : TypeInfo) (z : Value) (ht : P.underlying t = some (.slice e)) (hi : P.info? e = some i) (hz : i.zero = some z)
    (kl kc : IntKind) (n c : Nat) (hnc : n ≤ c) (hbytes : i.bytes * c ≤ 281474976710656) (h63 : c ≤ 9223372036854775807) (w : World) :
    (Instr.makeSlice t (.int kl (n : Int)) (.int kc (c : Int))).run P w = .ok (.slice (some ⟨w.heap.size, 0, none⟩) n c) (w.alloc (.cells (madeCells z.cells (c * i.size)) e)) := by
  have hb : (i.bytes : Int) * (c : Int) ≤ 281474976710656 := by
    have h : ((i.bytes * c : Nat) : Int) ≤ 281474976710656 := by omega
    rwa [Int.natCast_mul] at h
  have hr := run_make (P := P) w t e i z ht hi hz kl kc n c (by omega) (by omega) hb (by omega)
  simp only [Int.toNat_natCast] at hr
  exact hr
theorem info_int : (Try.prog.info? 3).map (fun i => (i.zero, i.size, i.bytes)) = some (some (.int .i64 0), 1, 8) := by kernel_rfl
theorem info_store : (Try.prog.info? 156).map (fun i => (i.zero, i.size, i.bytes)) = some (some (.agg #[.int .i64 0, .int .i64 0, .int .i64 0, .int .i64 0, .int .i64 0, .int .i64 0, .int .i64 0]), 7, 56) := by kernel_rfl
def IsRow (w w' : World) (n : Nat) (x : Nat → Int) (e : Ending) : Prop :=
  ∃ A c, e = .returned (.slice A n c) ∧ w'.ownsRow w.heap.size 3 1 (.slice A n c) n (cellsOf 1 n fun k _ => .int .i64 (x k))
theorem cells_one (n : Nat) (x : Nat → Int) : ∀ u ∈ cellsOf 1 n (fun k _ => Value.int .i64 (x k)), u.oneCell' = true := by
  intro u hu
  simp only [cellsOf, List.mem_map] at hu
  obtain ⟨j, _, rfl⟩ := hu
  rfl
/-- slices.Clone of ints -/
theorem clone_any (A : Option Addr) (n c : Nat) (x : Nat → Int) (w : World) (hn : n ≤ 65536) (hn0 : 0 < n) (hR : IR w w.heap.size A n x) :
    Calls Try.prog 75 #[.slice A n c] w fun e w' => IsRow w w' n x e ∧ Below w.heap.size w w' := by
  obtain ⟨i0, hi, hz0, hz1, hz2⟩ := info_parts info_int
  obtain ⟨b, off, rfl, hb, hc⟩ := hR hn0
  have HR := hide hR
  clear hR hc
  have hnil := fun (W : World) => Lib.run_eql_slice_nil (P := Try.prog) W 56 3 (some ⟨b, off, none⟩) n c 0 0 Try.underlying56
  go_enter Try.func75, Try.ntmps75
  go_wp2_with (at_builtin; refine wpList_append_any _ rfl (.tmp 5) (.tmp 6) _ rfl w.heap.size 3 i0 _ 1 8 Try.underlying56 hi hz0 hz1 hz2 rfl (by omega) (.slice (some ⟨w.heap.size, 0, none⟩) 0 0) 0 [] rfl (own_empty w _ 1) w.heap.size (some ⟨b, off, none⟩) n c (cellsOf 1 n fun k _ => .int .i64 (x k)) rfl ((HR.out.below ((Below.refl _ _).alloc (Nat.le_refl _) _) (Nat.le_refl _)).reads (by omega)) (cells_one n x) (by unfold maxLen; omega) (by omega) (by simp) ?_; intro v1 w1 hown1 hg1 hat1)
  have hB : Below w.heap.size w w1 := ((Below.refl _ _).alloc (Nat.le_refl _) _).grown hg1 (by simp) (by simp [Value.ownBlock])
  go_ret
  rw [Nat.zero_add, List.nil_append] at hown1
  obtain ⟨A', c', hv, -, -⟩ := ER.of_own hown1 (by omega)
  exact ⟨⟨A', c', by rw [← hv]; rfl, by rw [← hv]; exact hown1⟩, hB⟩
/-- how many bricks of a kind there are -/
structure Wa where
  (wet dry burning fired laid broken missing : Int)
def Wa.zero : Wa := ⟨0, 0, 0, 0, 0, 0, 0⟩
def KindW (w : World) (S o : Nat) (x : Wa) : Prop := Kind7 w S o x.wet x.dry x.burning x.fired x.laid x.broken x.missing
def OkW (x : Wa) : Prop := Ok7 x.wet x.dry x.burning x.fired x.laid x.broken x.missing
/-- the stores of n kinds in block S -/
def Stores (w : World) (S n : Nat) (ws : Nat → Wa) : Prop := (∃ cs : Array Value, Blk w S 156 cs) ∧ ∀ k, k < n → KindW w S (k * 7) (ws k)
/-- a book in block b -/
def BookAt (w : World) (base b S n : Nat) (sp : Nat → Int) (room : Int) (ws : Nat → Wa) (ov : Value) : Prop :=
  ∃ A c, Blk w b 148 #[.slice A n c, .int .i64 room, .slice (some ⟨S, 0, none⟩) n n, ov] ∧
    w.ownsRow base 3 1 (.slice A n c) n (cellsOf 1 n fun k _ => .int .i64 (sp k)) ∧ Stores w S n ws ∧ base ≤ S ∧ base ≤ b
theorem KindW.below {w w' : World} {B S o : Nat} {x : Wa} (h : KindW w S o x) (hb : Below B w w') (hS : S < B) : KindW w' S o x := Kind7.below h hb hS
theorem Stores.below {w w' : World} {B S n : Nat} {ws : Nat → Wa} (h : Stores w S n ws) (hb : Below B w w') (hS : S < B) : Stores w' S n ws := by
  obtain ⟨⟨cs, hc⟩, hk⟩ := h
  exact ⟨⟨cs, hc.below hb hS⟩, fun k hkn => (hk k hkn).below hb hS⟩
theorem Stores.lt {w : World} {S n : Nat} {ws : Nat → Wa} (h : Stores w S n ws) : S < w.heap.size := by
  obtain ⟨⟨cs, hc⟩, -⟩ := h
  exact hc.lt
theorem Stores.alloc {w : World} {S n : Nat} {ws : Nat → Wa} (h : Stores w S n ws) (o : Obj) : Stores (w.alloc o) S n ws :=
  h.below ((Below.refl w.heap.size w).alloc (Nat.le_refl _) o) h.lt
theorem ownMono {w : World} {base base' : Nat} {e : TypeId} {size n : Nat} {v : Value} {xs : List Value} (h : w.ownsRow base e size v n xs) (hb : base' ≤ base) : w.ownsRow base' e size v n xs := by
  obtain ⟨h1, h2⟩ := h
  refine ⟨h1, ?_⟩
  rcases h2 with h2 | ⟨g, cap, cur, hv, hg, hr⟩
  · exact .inl h2
  · exact .inr ⟨g, cap, cur, hv, by omega, hr⟩
def NewPost (n : Nat) (sp : Nat → Int) (room : Int) (w : World) (e : Ending) (w' : World) : Prop :=
  ∃ b S, e = .returned (.tuple #[.pointer (some ⟨b, 0, none⟩), .int .i64 0]) ∧ BookAt w' w.heap.size b S n sp room (fun _ => Wa.zero) (.slice none 0 0) ∧ Below w.heap.size w w'
theorem stores_made (w : World) (n : Nat) : Stores (w.alloc (.cells (madeCells #[.int .i64 0, .int .i64 0, .int .i64 0, .int .i64 0, .int .i64 0, .int .i64 0, .int .i64 0] (n * 7)) 156)) w.heap.size n (fun _ => Wa.zero) := by
  have hB := Blk.new w 156 (madeCells #[.int .i64 0, .int .i64 0, .int .i64 0, .int .i64 0, .int .i64 0, .int .i64 0, .int .i64 0] (n * 7))
  refine ⟨⟨_, hB⟩, fun k hk => ?_⟩
  have hc : ∀ i, i < n * 7 → (w.alloc (.cells (madeCells #[.int .i64 0, .int .i64 0, .int .i64 0, .int .i64 0, .int .i64 0, .int .i64 0, .int .i64 0] (n * 7)) 156)).cell? ⟨w.heap.size, i, none⟩ = some (.int .i64 0) := by
    intro i hi
    rw [hB.cell]
    have h7 : i % 7 < 7 := Nat.mod_lt _ (by omega)
    simp only [madeCells, Array.getElem?_map, Array.getElem?_range, hi, if_true, Option.map_some]
    congr 1
    rcases (by omega : i % 7 = 0 ∨ i % 7 = 1 ∨ i % 7 = 2 ∨ i % 7 = 3 ∨ i % 7 = 4 ∨ i % 7 = 5 ∨ i % 7 = 6) with h | h | h | h | h | h | h <;> simp [h]
  exact ⟨hB.lt, fun i => hB.frozen i, hc _ (by omega), hc _ (by omega), hc _ (by omega), hc _ (by omega), hc _ (by omega), hc _ (by omega), hc _ (by omega)⟩
def newOk (n : Nat) (sp : Nat → Int) (room : Int) : Bool := decide (1 ≤ n) && decide (n ≤ 20) && wiB 1 1000 sp n && decide (0 ≤ room ∧ room ≤ 1000000000)
theorem new_err (A : Option Addr) (n c : Nat) (sp : Nat → Int) (room : Int) (w : World) (hn : n ≤ 65536) (hR : IR w w.heap.size A n sp) (h : newOk n sp room = false) :
    Calls Try.prog 33 #[.slice A n c, .int .i64 room] w fun e w' => e = .returned (.tuple #[.pointer none, .int .i64 2]) ∧ Below w.heap.size w w' := by
  have HC := hide (fun W (h : Below w.heap.size w W) => within_any 1 1000 A n c sp W (by unfold maxLen; omega) ((hR.below h (Nat.le_refl _)).more h.size))
  clear hR
  rcases (by omega : n < 1 ∨ 20 < n ∨ (1 ≤ n ∧ n ≤ 20)) with h1 | h1 | ⟨h1, h2⟩
  · go_enter Try.func33, Try.ntmps33
    go_wp2_with fail
    go_ret2
    exact ⟨rfl, Below.refl _ _⟩
  · go_enter Try.func33, Try.ntmps33
    go_wp2_with fail
    go_ret2
    exact ⟨rfl, Below.refl _ _⟩
  · rcases hw : wiB 1 1000 sp n with _ | _
    · rw [hw] at HC
      clear h hw
      go_enter Try.func33, Try.ntmps33
      go_wp2_with fail
      refine (HC.out _ (Below.refl _ _)).mono ?_
      rintro e w1 ⟨rfl, hb1⟩
      go_wp2_with fail
      go_ret2
      exact ⟨rfl, hb1⟩
    · have h3 : ¬ (0 ≤ room ∧ room ≤ 1000000000) := by
        simp only [newOk, hw, h1, h2, decide_true, Bool.true_and, decide_eq_false_iff_not] at h
        exact h
      rw [hw] at HC
      have HD := hide (decide_eq_false h3)
      clear h hw h3
      go_enter Try.func33, Try.ntmps33
      go_wp2_with fail
      refine (HC.out _ (Below.refl _ _)).mono ?_
      rintro e w1 ⟨rfl, hb1⟩
      go_wp2_with fail
      refine (within_any 0 1000000000 _ 1 1 (fun _ => room) _ (by decide) ?_).mono ?_
      · simpa using IR.one w1 room 3
      rw [wiB_one, HD.out]
      rintro e w2 ⟨rfl, hb2⟩
      go_wp2_with fail
      go_ret2
      exact ⟨rfl, (hb1.alloc hb1.size _).trans (hb2.mono (by have := hb1.size; simp only [World.size_alloc]; omega))⟩
theorem new_ok (A : Option Addr) (n c : Nat) (sp : Nat → Int) (room : Int) (w : World) (hR : IR w w.heap.size A n sp) (h : newOk n sp room = true) :
    Calls Try.prog 33 #[.slice A n c, .int .i64 room] w (NewPost n sp room w) := by
  simp only [newOk, Bool.and_eq_true, decide_eq_true_eq] at h
  obtain ⟨⟨⟨h1, h2⟩, hw⟩, h3⟩ := h
  have HC := hide (fun W (h : Below w.heap.size w W) => within_any 1 1000 A n c sp W (by unfold maxLen; omega) ((hR.below h (Nat.le_refl _)).more h.size))
  rw [hw] at HC
  have HD := hide (decide_eq_true h3)
  have HE := hide (fun W (h : Below w.heap.size w W) => clone_any A n c sp W (by omega) (by omega) ((hR.below h (Nat.le_refl _)).more h.size))
  obtain ⟨i0, hi, hz0, hz1, hz2⟩ := info_parts info_store
  have HM := hide (fun W : World => run_make_rowN (P := Try.prog) 146 156 i0 _ Try.underlying146 hi hz0 .i64 .i64 n n (Nat.le_refl _) (by rw [hz2]; omega) (by omega) W)
  rw [hz1] at HM
  clear hR hw h3 hi hz0 hz1 hz2
  go_enter Try.func33, Try.ntmps33
  go_wp2_with fail
  refine (HC.out _ (Below.refl _ _)).mono ?_
  rintro e w1 ⟨rfl, hb1⟩
  go_wp2_with fail
  refine (within_any 0 1000000000 _ 1 1 (fun _ => room) _ (by decide) ?_).mono ?_
  · simpa using IR.one w1 room 3
  rw [wiB_one, HD.out]
  rintro e w2 ⟨rfl, hb2⟩
  have hB2 : Below w.heap.size w w2 := (hb1.alloc hb1.size _).trans (hb2.mono (by have := hb1.size; simp only [World.size_alloc]; omega))
  clear hb1 hb2
  go_wp2_with fail
  have hmk := HM.out
  go_region_with ((go_at_call 75; refine (HE.out _ ?_).mono ?_; (first | exact hB2.drew | exact (hB2.alloc hB2.size _).drew); rintro e w3 ⟨⟨A', c', rfl, hown⟩, hb3⟩))
  · go_wp2_with fail
    go_ret2
    have z2 : w2.heap.size ≤ w3.heap.size := hb3.size
    have z0 := hB2.size
    refine ⟨w3.heap.size + 1, w3.heap.size, rfl, ⟨A', c', ?_, (ownMono hown (by simpa using z0)).alloc _ |>.alloc _, ?_, by omega, by omega⟩, ((hB2.drew.trans (hb3.mono (by simpa using z0))).alloc (by omega) _).alloc (by simp only [World.size_alloc]; omega) _⟩
    · have := Blk.new (w3.alloc (.cells (madeCells #[.int .i64 0, .int .i64 0, .int .i64 0, .int .i64 0, .int .i64 0, .int .i64 0, .int .i64 0] (n * 7)) 156)) 148 #[.slice A' n c', .int .i64 room, .slice (some ⟨w3.heap.size, 0, none⟩) n n, .slice none 0 0]
      rw [World.size_alloc] at this
      exact this
    · exact Stores.alloc (stores_made w3 n) _
  · go_wp2_with fail
    go_ret2
    have z2 : w2.heap.size + 1 ≤ w3.heap.size := by have := hb3.size; simpa using this
    have z0 := hB2.size
    have hst : Stores w3 w2.heap.size n (fun _ => Wa.zero) := Stores.below (stores_made w2 n) (w' := w3) (B := w2.heap.size + 1) ⟨hb3.os, hb3.tape, hb3.output, hb3.size, fun k hk => hb3.block k (by simp only [World.size_alloc, World.drew]; simpa using hk)⟩ (by omega)
    refine ⟨w3.heap.size, w2.heap.size, rfl, ⟨A', c', Blk.new w3 _ _, (ownMono hown (by simp; omega)).alloc _, Stores.alloc hst _, by omega, by omega⟩, (((hB2.alloc z0 _).drew.trans (hb3.mono (by simp; omega))).alloc (by omega) _)⟩
end Go.Proofs.Ytlhekifmkkgjlaa
