/- Words of this proof family: a slice that reads as a function of its cells; a function value that answers as a function of its argument. -/
import Derived.Test.YtagjeeimglecnaaDoorChecked
import Derived.WalkKit
import Derived.WalkSpells
import Derived.WalkLawsBesides
import Derived.Lib.Hide
import Derived.Deep.QuietTactic
import Derived.BigQuiet
import Derived.IntWalk
import Derived.Deep.RegionHeld3
import Derived.StillTailTactics
import Derived.Shelf.Abstract
import Derived.Deep.AppendLies
import Derived.Deep.Draws
import Derived.Laws.OwnMore
import Derived.Maps.AppendAt
import Derived.RegionTactic
import Derived.OwnWalk
import Derived.Deep.OwnRows
import Derived.OrdersIn
import Derived.OrdersHeld
import Derived.RangeFuncCalls
import Derived.TacticsIn
import Derived.Deep.CutBlock
import Derived.Deep.DeepCutAuto
import Derived.RangeFuncBox
import Derived.RegionCalls
import Derived.Maps.Own
import Derived.Maps.Views
set_option linter.unusedSimpArgs false
set_option linter.unusedVariables false
set_option linter.unnecessarySimpa false
namespace Go.Proofs.YtagjeeimglecnaaDoor
open Go Go.RowKit

theorem hide {p : Prop} (h : p) : Hid p := h
theorem ret_int {k : IntKind} {a b : Int} (h : a = b) : Ending.returned (.int k a) = .returned (.int k b) := by rw [h]
theorem ret_bool {a b : Bool} (h : a = b) : Ending.returned (.bool a) = .returned (.bool b) := by rw [h]
theorem bcell {W w1 : World} {B : Nat} (hb : Below B W w1) : (∀ b o, b < B → w1.cell? ⟨b, o, none⟩ = W.cell? ⟨b, o, none⟩) ∧ (∀ b o, b < B → w1.frozen? ⟨b, o, none⟩ = W.frozen? ⟨b, o, none⟩) :=
  ⟨fun b o h => hb.cell (p := ⟨b, o, none⟩) h, fun b o h => hb.frozen (p := ⟨b, o, none⟩) h⟩
theorem Below_dN {B : Nat} {a w : World} (h : Below B a w) (n : Nat) : Below B a (w.drewN n) := ⟨h.os, h.tape, h.output, h.size, h.block⟩
theorem cell_new (w : World) (c : Array Value) (e : TypeId) (i : Nat) : (w.alloc (.cells c e)).cell? ⟨w.heap.size, i, none⟩ = c[i]? := by
  exact cell_of_row (w.alloc (.cells c e)) w.heap.size i c e (0, 0) (heap_alloc_new w _)

/-- m cells at A, below block B, read as f. -/
def VR (w : World) (B : Nat) (A : Option Addr) (m : Nat) (f : Nat → Value) : Prop :=
  0 < m → ∃ b off, A = some ⟨b, off, none⟩ ∧ b < B ∧ ∀ j, j < m → w.cell? ⟨b, off + j, none⟩ = some (f j)
section
variable {w w' : World} {B B' m n sz : Nat} {A : Option Addr} {f : Nat → Value}
theorem VR.below (h : VR w B A m f) (hb : Below B' w w') (hB : B ≤ B') : VR w' B A m f := fun hm => by
  obtain ⟨b, off, hA, hlt, hc⟩ := h hm
  exact ⟨b, off, hA, hlt, fun j hj => (hb.cell (p := ⟨b, off + j, none⟩) (by simp; omega)).trans (hc j hj)⟩
theorem VR.more (h : VR w B A m f) (hB : B ≤ B') : VR w B' A m f := fun hm => by
  obtain ⟨b, off, hA, hlt, hc⟩ := h hm
  exact ⟨b, off, hA, by omega, hc⟩
theorem VR.nil (w : World) (B : Nat) (A : Option Addr) (f : Nat → Value) : VR w B A 0 f := fun h => absurd h (by omega)
theorem VR.congr {g : Nat → Value} (h : VR w B A m f) (hg : ∀ j, j < m → f j = g j) : VR w B A m g := fun hm => by
  obtain ⟨b, off, hA, hlt, hc⟩ := h hm
  exact ⟨b, off, hA, hlt, fun j hj => by rw [hc j hj, hg j hj]⟩
end
/-- n elements of sz cells each; the i-th cell of the k-th is g k i. -/
def ER (w : World) (B : Nat) (sz : Nat) (A : Option Addr) (n : Nat) (g : Nat → Nat → Value) : Prop :=
  0 < n → ∃ b off, A = some ⟨b, off, none⟩ ∧ b < B ∧ ∀ k i, k < n → i < sz → w.cell? ⟨b, off + k * sz + i, none⟩ = some (g k i)
section
variable {w w' : World} {B B' n sz : Nat} {A : Option Addr} {g : Nat → Nat → Value}
theorem ER.below (h : ER w B sz A n g) (hb : Below B' w w') (hB : B ≤ B') : ER w' B sz A n g := fun hm => by
  obtain ⟨b, off, hA, hlt, hc⟩ := h hm
  exact ⟨b, off, hA, hlt, fun k i hk hi => (hb.cell (p := ⟨b, off + k * sz + i, none⟩) (by simp; omega)).trans (hc k i hk hi)⟩
theorem ER.more (h : ER w B sz A n g) (hB : B ≤ B') : ER w B' sz A n g := fun hm => by
  obtain ⟨b, off, hA, hlt, hc⟩ := h hm
  exact ⟨b, off, hA, by omega, hc⟩
theorem ER.nil (w : World) (B sz : Nat) (A : Option Addr) (g : Nat → Nat → Value) : ER w B sz A 0 g := fun h => absurd h (by omega)
end
abbrev iv (n : Int) : Value := .int .i64 n
/-- a slice of ints -/
def IR (w : World) (B : Nat) (A : Option Addr) (n : Nat) (x : Nat → Int) : Prop := ER w B 1 A n fun k _ => .int .i64 (x k)
theorem IR.at_ {w : World} {B n : Nat} {A : Option Addr} {x : Nat → Int} (h : IR w B A n x) {k : Nat} (hk : k < n) :
    ∃ b off, A = some ⟨b, off, none⟩ ∧ b < B ∧ w.cell? ⟨b, off + k, none⟩ = some (.int .i64 (x k)) := by
  obtain ⟨b, off, hA, hlt, hc⟩ := h (by omega)
  exact ⟨b, off, hA, hlt, by simpa using hc k 0 hk (by omega)⟩
theorem IR.below {w w' : World} {B B' n : Nat} {A : Option Addr} {x : Nat → Int} (h : IR w B A n x) (hb : Below B' w w') (hB : B ≤ B') : IR w' B A n x := ER.below h hb hB
theorem IR.more {w : World} {B B' n : Nat} {A : Option Addr} {x : Nat → Int} (h : IR w B A n x) (hB : B ≤ B') : IR w B' A n x := ER.more h hB
/-- a slice of structs of two cells -/
def P2 (w : World) (B : Nat) (A : Option Addr) (n : Nat) (u v : Nat → Value) : Prop := ER w B 2 A n fun k i => if i = 0 then u k else v k
theorem P2.at_ {w : World} {B n : Nat} {A : Option Addr} {u v : Nat → Value} (h : P2 w B A n u v) {k : Nat} (hk : k < n) :
    ∃ b off, A = some ⟨b, off, none⟩ ∧ b < B ∧ w.cell? ⟨b, off + k * 2, none⟩ = some (u k) ∧ w.cell? ⟨b, off + k * 2 + 1, none⟩ = some (v k) := by
  obtain ⟨b, off, hA, hlt, hc⟩ := h (by omega)
  exact ⟨b, off, hA, hlt, by simpa using hc k 0 hk (by omega), by simpa using hc k 1 hk (by omega)⟩
theorem P2.below {w w' : World} {B B' n : Nat} {A : Option Addr} {u v : Nat → Value} (h : P2 w B A n u v) (hb : Below B' w w') (hB : B ≤ B') : P2 w' B A n u v := ER.below h hb hB
theorem P2.more {w : World} {B B' n : Nat} {A : Option Addr} {u v : Nat → Value} (h : P2 w B A n u v) (hB : B ≤ B') : P2 w B' A n u v := ER.more h hB
/-- a slice of structs of two ints -/
abbrev PI (w : World) (B : Nat) (A : Option Addr) (n : Nat) (x y : Nat → Int) : Prop := P2 w B A n (fun k => .int .i64 (x k)) (fun k => .int .i64 (y k))
theorem PI.at_ {w : World} {B n : Nat} {A : Option Addr} {x y : Nat → Int} (h : PI w B A n x y) {k : Nat} (hk : k < n) :
    ∃ b off, A = some ⟨b, off, none⟩ ∧ b < B ∧ w.cell? ⟨b, off + k * 2, none⟩ = some (.int .i64 (x k)) ∧ w.cell? ⟨b, off + k * 2 + 1, none⟩ = some (.int .i64 (y k)) := P2.at_ h hk
theorem IR.one (w : World) (v : Int) (e : TypeId) : IR (w.alloc (.cells #[.int .i64 v] e)) (w.heap.size + 1) (some ⟨w.heap.size, 0, none⟩) 1 (fun _ => v) := fun _ =>
  ⟨w.heap.size, 0, rfl, by omega, fun k i hk hi => by
    obtain rfl : k = 0 := by omega
    obtain rfl : i = 0 := by omega
    simp⟩

theorem IR.two (w : World) (u v : Int) (e : TypeId) : IR (w.alloc (.cells #[.int .i64 u, .int .i64 v] e)) (w.heap.size + 1) (some ⟨w.heap.size, 0, none⟩) 2 (fun k => if k = 0 then u else v) := fun _ =>
  ⟨w.heap.size, 0, rfl, by omega, fun k i hk hi => by
    obtain rfl : i = 0 := by omega
    rcases (by omega : k = 0 ∨ k = 1) with rfl | rfl <;> simp⟩
theorem mul_bd {a b M N : Int} (h1 : 0 ≤ a) (h2 : a ≤ M) (h3 : 0 ≤ b) (h4 : b ≤ N) : 0 ≤ a * b ∧ a * b ≤ M * N :=
  ⟨Int.mul_nonneg h1 h3, Int.le_trans (Int.mul_le_mul_of_nonneg_left h4 h1) (Int.mul_le_mul_of_nonneg_right h2 (by omega))⟩

/-- the first place below n where p holds, or -1 -/
def idx (p : Nat → Bool) : Nat → Int
  | 0 => -1
  | k + 1 => if 0 ≤ idx p k then idx p k else if p k then k else -1
def anyTo (p : Nat → Bool) : Nat → Bool
  | 0 => false
  | k + 1 => anyTo p k || p k
theorem idx_stable (p : Nat → Bool) (k n : Nat) (h : 0 ≤ idx p k) (hkn : k ≤ n) : idx p n = idx p k := by
  induction n with
  | zero => obtain rfl : k = 0 := by omega
            rfl
  | succ n ih =>
    rcases Nat.lt_or_ge k (n + 1) with hl | hl
    · have := ih (by omega); simp only [idx, this, if_pos h]
    · obtain rfl : k = n + 1 := by omega
      rfl
theorem idx_any (p : Nat → Bool) (n : Nat) : decide (0 ≤ idx p n) = anyTo p n := by
  induction n with
  | zero => rfl
  | succ n ih =>
    unfold idx anyTo
    rw [← ih]
    by_cases h : 0 ≤ idx p n
    · simp [h]
    · cases hp : p n <;> simp [h]
theorem idx_lt (p : Nat → Bool) (n : Nat) : -1 ≤ idx p n ∧ idx p n < n := by
  induction n with
  | zero => simp [idx]
  | succ n ih =>
    unfold idx
    split
    · omega
    · split <;> omega
theorem anyTo_iff (p : Nat → Bool) (n : Nat) : anyTo p n = true ↔ ∃ k, k < n ∧ p k = true := by
  induction n with
  | zero => simp [anyTo]
  | succ n ih =>
    simp only [anyTo, Bool.or_eq_true, ih]
    constructor
    · rintro (⟨k, hk, h⟩ | h)
      · exact ⟨k, by omega, h⟩
      · exact ⟨n, by omega, h⟩
    · rintro ⟨k, hk, h⟩
      rcases Nat.lt_or_ge k n with hl | hl
      · exact .inl ⟨k, hl, h⟩
      · obtain rfl : k = n := by omega
        exact .inr h
/-- v lies outside of a .. b -/
def outB (a b v : Int) : Bool := decide (v < a) || decide (b < v)
theorem outB_iff (a b v : Int) : outB a b v = true ↔ ¬ (a ≤ v ∧ v ≤ b) := by simp only [outB, Bool.or_eq_true, decide_eq_true_eq]; omega
theorem outB_false (a b v : Int) : outB a b v = false ↔ (a ≤ v ∧ v ≤ b) := by simp only [outB, Bool.or_eq_false_iff, decide_eq_false_iff_not]; omega
end Go.Proofs.YtagjeeimglecnaaDoor
/- Split off XKa: words that hang on less of the program. -/
namespace Go.Proofs.YtagjeeimglecnaaDoor
open Go Go.RowKit
set_option maxHeartbeats 400000
theorem kindexFunc_int (g : FuncId) (lb : Array Value) (p : Nat → Bool) (A : Option Addr) (n c : Nat) (x : Nat → Int) (w : World) (hn : n ≤ maxLen) (hR : IR w w.heap.size A n x)
    (eg : ∀ args w, (callFunc g args).run Tryd.prog w = .ok (.enter g args) w)
    (hp : ∀ W k, k < n → Below w.heap.size w W → Calls Tryd.prog g (#[.int .i64 (x k)] ++ lb) W fun e W' => e = .returned (.bool (p k)) ∧ Below W.heap.size W W') :
    Calls Tryd.prog 61 #[.slice A n c, .func (.func g) #[] lb] w fun e w' => e = .returned (.int .i64 (idx p n)) ∧ Below w.heap.size w w' := by
  unfold maxLen at hn
  have HP := hide hp; clear hp
  go_enter Tryd.func61, Tryd.ntmps61
  go_wp2
  go_loopw [8] (fun i wr => ∃ k : Nat, k ≤ n ∧ i = .int .i64 k ∧ idx p k = -1 ∧ Below w.heap.size w wr) (fun i _ => n - (intOf i).toNat)
  case atStart => exact ⟨0, Nat.zero_le _, rfl, rfl, Below.refl _ _⟩
  case round =>
    obtain ⟨k, hk, rfl, hx, hB⟩ := hrel
    have HX := hide hx; clear hx
    by_cases hlt : k < n
    · have hR' := (hR.below hB (Nat.le_refl _)).at_ hlt
      obtain ⟨b, off, rfl, hb, hR'⟩ := hR'
      have hc := hR'
      cases hpk : p k with
      | true =>
        have hpk' := hide hpk; clear hpk
        have H := HP.out wr k hlt hB
        rw [hpk'.out] at H
        have H' := hide H; clear H
        go_wp2_with ((with_reducible refine H'.out.mono ?_); rintro e w' ⟨rfl, hb1⟩)
        go_ret
        refine ⟨ret_int ?_, hB.trans (hb1.mono hB.size)⟩
        rw [idx_stable p (k+1) n (by simp [idx, HX.out, hpk'.out]) (by omega)]
        simp [idx, HX.out, hpk'.out]
      | false =>
        have hpk' := hide hpk; clear hpk
        have H := HP.out wr k hlt hB
        rw [hpk'.out] at H
        have H' := hide H; clear H
        go_wp2_with ((with_reducible refine H'.out.mono ?_); rintro e w' ⟨rfl, hb1⟩)
        go_roundw
        case rel => exact ⟨k + 1, by omega, by go_num, by simp [idx, HX.out, hpk'.out], hB.trans (hb1.mono hB.size)⟩
        case measure => simp [intOf]; omega
    · obtain rfl : k = n := by omega
      go_wp2
      go_ret
      exact ⟨ret_int HX.out.symm, hB⟩

theorem kcontainsFunc_int (g : FuncId) (lb : Array Value) (p : Nat → Bool) (A : Option Addr) (n c : Nat) (x : Nat → Int) (w : World) (hn : n ≤ maxLen) (hR : IR w w.heap.size A n x)
    (eg : ∀ args w, (callFunc g args).run Tryd.prog w = .ok (.enter g args) w)
    (hp : ∀ W k, k < n → Below w.heap.size w W → Calls Tryd.prog g (#[.int .i64 (x k)] ++ lb) W fun e W' => e = .returned (.bool (p k)) ∧ Below W.heap.size W W') :
    Calls Tryd.prog 42 #[.slice A n c, .func (.func g) #[] lb] w fun e w' => e = .returned (.bool (anyTo p n)) ∧ Below w.heap.size w w' := by
  have H := hide (kindexFunc_int g lb p A n c x w hn hR eg hp)
  clear hp hR hn eg
  go_enter Tryd.func42, Tryd.ntmps42
  go_wp2_with ((with_reducible refine H.out.mono ?_); rintro e w' ⟨rfl, hb1⟩)
  go_ret
  exact ⟨ret_bool (idx_any p n), hb1⟩

/-- within's test -/
theorem within1_any (v a b : Int) (p q : Nat) (w : World) (hp : w.cell? ⟨p, 0, none⟩ = some (.int .i64 a)) (hq : w.cell? ⟨q, 0, none⟩ = some (.int .i64 b)) :
    Calls Tryd.prog 43 #[.int .i64 v, .pointer (some ⟨p, 0, none⟩), .pointer (some ⟨q, 0, none⟩)] w fun e w' => e = .returned (.bool (outB a b v)) ∧ Below w.heap.size w w' := by
  go_enter Tryd.func43, Tryd.ntmps43
  go_wp2
  all_goals
    go_ret
    refine ⟨ret_bool ?_, Below.refl _ _⟩
    simp [outB]; try omega
def wiB (a b : Int) (x : Nat → Int) (n : Nat) : Bool := !anyTo (fun k => outB a b (x k)) n
theorem wiB_iff (a b : Int) (x : Nat → Int) (n : Nat) : wiB a b x n = true ↔ ∀ k, k < n → a ≤ x k ∧ x k ≤ b := by
  unfold wiB
  rw [Bool.not_eq_true', ← Bool.not_eq_true, anyTo_iff]
  constructor
  · intro h k hk
    rw [← outB_false]
    rcases hb : outB a b (x k) with _ | _
    · rfl
    · exact absurd ⟨k, hk, hb⟩ h
  · rintro h ⟨k, hk, h2⟩
    exact (outB_iff _ _ _).1 h2 (h k hk)
theorem kwithin_any (a b : Int) (A : Option Addr) (n c : Nat) (x : Nat → Int) (w : World) (hn : n ≤ maxLen) (hR : IR w w.heap.size A n x) :
    Calls Tryd.prog 20 #[.int .i64 a, .int .i64 b, .slice A n c] w fun e w' => e = .returned (.bool (wiB a b x n)) ∧ Below w.heap.size w w' := by
  have hR' := hide hR; clear hR
  unfold maxLen at hn
  go_enter Tryd.func20, Tryd.ntmps20
  go_wp2_with fail
  refine (kcontainsFunc_int 43 #[.pointer (some ⟨w.heap.size, 0, none⟩), .pointer (some ⟨w.heap.size + 1, 0, none⟩)] (fun k => outB a b (x k)) A n c x _ hn ?_ ?_ ?_).mono ?_
  · exact (hR'.out.below (((Below.refl _ _).alloc (Nat.le_refl _) _).alloc (by simp) _) (Nat.le_refl _)).more (by simp; omega)
  · exact enters_of Tryd.func43 (by kernel_rfl) rfl
  · intro W k _ hB
    refine within1_any _ _ _ _ _ _ ?_ ?_
    · rw [hB.cell (by simp; omega)]; simp
    · rw [hB.cell (by simp)]; simp
  rintro e w' ⟨rfl, hb1⟩
  go_wp2_with fail
  go_ret
  exact ⟨rfl, (((Below.refl _ _).alloc (Nat.le_refl _) _).alloc (by simp) _).trans (hb1.mono (by simp; omega))⟩
theorem wiB_one (a b v : Int) : wiB a b (fun _ => v) 1 = decide (a ≤ v ∧ v ≤ b) := by
  rw [Bool.eq_iff_iff, wiB_iff, decide_eq_true_eq]
  exact ⟨fun h => h 0 (by omega), fun h _ _ => h⟩
end Go.Proofs.YtagjeeimglecnaaDoor
/- Words on memory, turned from the guide's blocks for copying: a slice that reads as a list of cells, a block known whole, append from any source; and their ties to this family's words. -/
namespace Go.Proofs.YtagjeeimglecnaaDoor
open Go Go.RowKit
theorem block_of_add (a : Addr) (n : Nat) : (a.add n).block = a.block := by unfold Addr.add; split <;> rfl
theorem add_of_add (a : Addr) (i j : Nat) : (a.add i).add j = a.add (i + j) := by
  unfold Addr.add
  by_cases hi : i = 0 <;> by_cases hj : j = 0 <;> simp [hi, hj, Nat.add_assoc]

def Reads (w : World) (B size : Nat) (A : Option Addr) (n : Nat) (xs : List Value) : Prop :=
  xs.length = n * size ∧ (0 < n → ∃ ad, A = some ad ∧ ad.block < B ∧ ∀ j u, xs[j]? = some u → w.cell? (ad.add j) = some u)

section
variable {w w' : World} {B B' size n : Nat} {A : Option Addr} {xs : List Value}
theorem Reads.none_ : Reads w B size A 0 [] := ⟨by simp, fun h => absurd h (by omega)⟩
theorem Reads.at_ {k : Nat} (h : Reads w B 1 A n xs) (hk : k < n) : ∃ ad u, A = some ad ∧ ad.block < B ∧ xs[k]? = some u ∧ w.cell? (ad.add k) = some u := by
  obtain ⟨ad, e, hb, hc⟩ := h.2 (by omega)
  have hl : k < xs.length := by have := h.1; omega
  exact ⟨ad, xs[k], e, hb, List.getElem?_eq_getElem hl, hc k _ (List.getElem?_eq_getElem hl)⟩
theorem Reads.keep (h : Reads w B size A n xs) (hk : ∀ p : Addr, p.block < B → w'.cell? p = w.cell? p) : Reads w' B size A n xs :=
  ⟨h.1, fun hn => by
    obtain ⟨ad, e, hb, hc⟩ := h.2 hn
    exact ⟨ad, e, hb, fun j u hu => (hk _ (by rw [block_of_add]; exact hb)).trans (hc j u hu)⟩⟩
theorem Reads.more (h : Reads w B size A n xs) (hB : B ≤ B') : Reads w B' size A n xs :=
  ⟨h.1, fun hn => by
    obtain ⟨ad, e, hb, hc⟩ := h.2 hn
    exact ⟨ad, e, by omega, hc⟩⟩
theorem Reads.below (h : Reads w B size A n xs) (hb : Below B w w') : Reads w' B size A n xs := h.keep fun _ hp => hb.cell hp
theorem Reads.drew (h : Reads w B size A n xs) : Reads w.drew B size A n xs := h
theorem Reads.drewN (h : Reads w B size A n xs) (k : Nat) : Reads (w.drewN k) B size A n xs := h
theorem Reads.alloc (h : Reads w B size A n xs) (hB : B ≤ w.heap.size) (o : Obj) : Reads (w.alloc o) B size A n xs := h.keep fun p hp => World.cell?_alloc_lt w o p (by omega)
theorem Reads.setCell (h : Reads w B size A n xs) {p : Addr} (hB : B ≤ p.block) (u : Value) : Reads (w.setCell p u) B size A n xs :=
  h.keep fun q hq => World.cell?_setCell_other w p q u (fun e => by subst e; omega)
theorem Reads.grown (h : Reads w B size A n xs) {row : Option Nat} (hg : w.grownBy w' row) (hB : B ≤ w.heap.size) (hr : ∀ g, row = some g → B ≤ g) : Reads w' B size A n xs :=
  h.keep fun p hp => World.cell?_of_block (hg.block p.block (by omega) (fun e => by have := hr _ e.symm; omega))
theorem Reads.cut (h : Reads w B size A n xs) {k cap : Nat} (hk : k ≤ n) (hc : n ≤ cap) :
    Reads w B size (if cap = k then A else A.map (·.add (k * size))) (n - k) (xs.drop (k * size)) := by
  refine ⟨by rw [List.length_drop, h.1, Nat.sub_mul], fun hn => ?_⟩
  obtain ⟨ad, rfl, hb, hcell⟩ := h.2 (by omega)
  rw [if_neg (by omega)]
  refine ⟨ad.add (k * size), rfl, by rw [block_of_add]; exact hb, fun j u hu => ?_⟩
  rw [add_of_add]
  exact hcell _ u (by rw [← hu, List.getElem?_drop])
theorem Reads.of_own {base : Nat} {e : TypeId} {c : Nat} (h : w.ownsRow base e size (.slice A n c) n xs) : Reads w w.heap.size size A n xs := by
  refine ⟨h.1, fun hn => ?_⟩
  obtain ⟨g, cap, hv, _, hlt⟩ := h.form hn
  have hA : A = some ⟨g, 0, none⟩ := by injection hv
  subst hA
  exact ⟨_, rfl, hlt, h.cells (g := g) rfl⟩
end
def Blk (w : World) (g : Nat) (t : TypeId) (cs : Array Value) : Prop := w.heap[g]? = some (.cells cs t (0, 0))

section
variable {w w' : World} {g : Nat} {t : TypeId} {cs : Array Value}
theorem Blk.lt (h : Blk w g t cs) : g < w.heap.size := by
  rcases Nat.lt_or_ge g w.heap.size with hlt | hge
  · exact hlt
  · unfold Blk at h; rw [Array.getElem?_eq_none hge] at h; cases h
theorem Blk.cell (h : Blk w g t cs) (i : Nat) : w.cell? ⟨g, i, none⟩ = cs[i]? := cell_of_row w g i cs t (0, 0) h
theorem Blk.frozen (h : Blk w g t cs) (i : Nat) : w.frozen? ⟨g, i, none⟩ = false := by
  unfold Blk at h
  simp [World.frozen?, h]
theorem Blk.new (w : World) (t : TypeId) (cs : Array Value) : Blk (w.alloc (.cells cs t)) w.heap.size t cs := heap_alloc_new w _
theorem Blk.drew (h : Blk w g t cs) : Blk w.drew g t cs := h
theorem Blk.drewN (h : Blk w g t cs) (n : Nat) : Blk (w.drewN n) g t cs := h
theorem Blk.alloc (h : Blk w g t cs) (o : Obj) : Blk (w.alloc o) g t cs := (Below.heap_alloc w o g h.lt).trans h
theorem Blk.set_ (h : Blk w g t cs) (i : Nat) (u : Value) : Blk (w.setCell ⟨g, i, none⟩ u) g t (cs.setIfInBounds i u) := by
  unfold Blk at h ⊢
  simp [World.setCell, Array.getElem?_modify, h]
theorem Blk.far (h : Blk w g t cs) {p : Addr} (hp : g ≠ p.block) (u : Value) : Blk (w.setCell p u) g t cs := (Below.heap_setCell w p u g hp).trans h
theorem Blk.below {B : Nat} (h : Blk w g t cs) (hb : Below B w w') (hg : g < B) : Blk w' g t cs := (hb.block g hg).trans h
theorem Blk.grown {row : Option Nat} (h : Blk w g t cs) (hb : w.grownBy w' row) (hg : some g ≠ row) : Blk w' g t cs := (hb.block g h.lt hg).trans h
theorem Blk.ne_ {g' : Nat} {t' : TypeId} {cs' : Array Value} (h : Blk w g t cs) (h' : Blk w g' t' cs') (hne : t ≠ t') : g ≠ g' := by
  rintro rfl
  unfold Blk at h h'
  rw [h] at h'
  injection h' with h'
  injection h' with _ ht
  exact hne ht
theorem own_blk_ne {base : Nat} {e : TypeId} {size n : Nat} {v : Value} {xs : List Value} (h : w.ownsRow base e size v n xs) (hg : Blk w g t cs) (hne : e ≠ t) : v.ownBlock ≠ some g := by
  rcases h.2 with ⟨rfl, _⟩ | ⟨g', cap, cur, rfl, _, hh, _⟩
  · simp [Value.ownBlock]
  · intro he
    have : g' = g := by simpa [Value.ownBlock] using he
    subst this
    exact Blk.ne_ (t := e) hh hg hne rfl
end
section
variable {P : Program} (w : World)

theorem run_append_of_nil (base : Nat) (t ty e : TypeId) (i : TypeInfo) (size : Nat) (ht : P.underlying t = some (.slice e)) (hi : P.info? e = some i)
    (v : Value) (n : Nat) (xs : List Value) (hown : w.ownsRow base e size v n xs) (c : Nat) : (Builtin.append_ #[t, t] ty #[v, .slice none 0 c]).run P w = .ok v w := by
  rcases hown.2 with ⟨rfl, rfl⟩ | ⟨g, cap, cur, rfl, _, _, hnc, _⟩
  · simp [Builtin.append_, run_underlying ht, sizeOf, typeInfo, hi, Builtin.lenOf, Builtin.firstCells]
  · simp [Builtin.append_, run_underlying ht, sizeOf, typeInfo, hi, Builtin.lenOf, Builtin.firstCells, hnc, storeCells]

theorem run_append_any (base : Nat) (t ty e : TypeId) (i : TypeInfo) (z : Value) (size bytes : Nat) (ht : P.underlying t = some (.slice e)) (hi : P.info? e = some i) (hz : i.zero = some z)
    (hsize : i.size = size) (hby : i.bytes = bytes) (hzs : z.cells.size = size) (hsz : 0 < size)
    (v : Value) (n : Nat) (xs : List Value) (hown : w.ownsRow base e size v n xs)
    (B : Nat) (A : Option Addr) (m c : Nat) (news : List Value) (hr : Reads w B size A m news) (h1 : ∀ u ∈ news, u.oneCell' = true)
    (h63 : n + m ≤ maxLen) (hbytes : (n + m) * bytes ≤ 140737488355328) (hbase : base ≤ w.heap.size) :
    ∃ v' w', (Builtin.append_ #[t, t] ty #[v, .slice A m c]).run P w = .ok v' w' ∧ w'.ownsRow base e size v' (n + m) (xs ++ news) ∧ w.grownBy w' v.ownBlock ∧
      (v'.ownBlock = v.ownBlock ∨ v'.ownBlock = some w.heap.size) := by
  rcases A with _ | ad
  · have hm : m = 0 := by
      rcases Nat.eq_zero_or_pos m with h0 | h0
      · exact h0
      · obtain ⟨ad, h, _⟩ := hr.2 h0
        cases h
    subst hm
    have hn : news = [] := List.eq_nil_of_length_eq_zero (by simpa using hr.1)
    subst hn
    exact ⟨v, w, run_append_of_nil w base t ty e i size ht hi v n xs hown c, by simpa using hown, World.grownBy.refl w _, .inl rfl⟩
  · have hcells : ∀ j u, news[j]? = some u → w.cell? (ad.add j) = some u := by
      intro j u hu
      rcases Nat.eq_zero_or_pos m with h0 | h0
      · subst h0
        have hn : news = [] := List.eq_nil_of_length_eq_zero (by simpa using hr.1)
        subst hn
        simp at hu
      · obtain ⟨ad', h, _, hc⟩ := hr.2 h0
        injection h with h
        subst h
        exact hc j u hu
    obtain ⟨v', w', hrun, h2, h3, _, h5⟩ := run_append_own_at (P := P) w base t ty e i z size bytes ht hi hz hsize hby hzs hsz v n xs hown ad m c news hr.1 hcells h1 h63 hbytes hbase
    exact ⟨v', w', hrun, h2, h3, h5⟩

theorem wp_append_any {o : Oper} {a : Act} {K : Act → World → Prop} {Q : Exit → Act → World → Prop} (s x : Operand) (t : TypeId)
    (ho : o.op = .call { callee := .builtin .append, args := #[s, x], argTypes := #[t, t] })
    (base : Nat) (e : TypeId) (i : TypeInfo) (z : Value) (size bytes : Nat) (ht : P.underlying t = some (.slice e)) (hi : P.info? e = some i) (hz : i.zero = some z)
    (hsize : i.size = size) (hby : i.bytes = bytes) (hzs : z.cells.size = size) (hsz : 0 < size)
    (v : Value) (n : Nat) (xs : List Value) (hs : a.eval s = v) (hown : w.ownsRow base e size v n xs)
    (B : Nat) (A : Option Addr) (m c : Nat) (news : List Value) (hx : a.eval x = .slice A m c) (hr : Reads w B size A m news) (h1 : ∀ u ∈ news, u.oneCell' = true)
    (h63 : n + m ≤ maxLen) (hbytes : (n + m) * bytes ≤ 140737488355328) (hbase : base ≤ w.heap.size)
    (h : ∀ v' w', w'.ownsRow base e size v' (n + m) (xs ++ news) → w.grownBy w' v.ownBlock → (v'.ownBlock = v.ownBlock ∨ v'.ownBlock = some w.heap.size) → K (a.put o.dst v') w') : o.wp P a w K Q := by
  obtain ⟨v', w', hrun, h2, h3, h4⟩ := run_append_any (P := P) w base t o.type e i z size bytes ht hi hz hsize hby hzs hsz v n xs hown B A m c news hr h1 h63 hbytes hbase
  unfold Oper.wp execOp
  simp only [ho, resolve, invoke, builtin, Sem.run_bind, Sem.run_pure, Result.andThen_ok, List.map_toArray, List.map_cons, List.map_nil, hs, hx, hrun]
  exact h v' w' h2 h3 h4

theorem wpList_append_any {ops : Array Oper} {rest : List Oper} {o : Oper} {a : Act} {Q : Exit → Act → World → Prop} (hgd : o.guard = none) (s x : Operand) (t : TypeId)
    (ho : o.op = .call { callee := .builtin .append, args := #[s, x], argTypes := #[t, t] })
    (base : Nat) (e : TypeId) (i : TypeInfo) (z : Value) (size bytes : Nat) (ht : P.underlying t = some (.slice e)) (hi : P.info? e = some i) (hz : i.zero = some z)
    (hsize : i.size = size) (hby : i.bytes = bytes) (hzs : z.cells.size = size) (hsz : 0 < size)
    (v : Value) (n : Nat) (xs : List Value) (hs : a.eval s = v) (hown : w.ownsRow base e size v n xs)
    (B : Nat) (A : Option Addr) (m c : Nat) (news : List Value) (hx : a.eval x = .slice A m c) (hr : Reads w B size A m news) (h1 : ∀ u ∈ news, u.oneCell' = true)
    (h63 : n + m ≤ maxLen) (hbytes : (n + m) * bytes ≤ 140737488355328) (hbase : base ≤ w.heap.size)
    (h : ∀ v' w', w'.ownsRow base e size v' (n + m) (xs ++ news) → w.grownBy w' v.ownBlock → (v'.ownBlock = v.ownBlock ∨ v'.ownBlock = some w.heap.size) → wpList P ops Q rest (a.put o.dst v') w') : wpList P ops Q (o :: rest) a w :=
  wpList_plain hgd fun _ hK => wp_append_any w s x t ho base e i z size bytes ht hi hz hsize hby hzs hsz v n xs hs hown B A m c news hx hr h1 h63 hbytes hbase fun v' w' h2 h3 h4 => hK _ _ (h v' w' h2 h3 h4)

theorem step_append_any {ops : Array Oper} {o : Oper} {a : Act} {K : Act → World → Prop} {Q : Exit → Act → World → Prop} {E : Prop} (hgd : o.guard = none) (s x : Operand) (t : TypeId)
    (ho : o.op = .call { callee := .builtin .append, args := #[s, x], argTypes := #[t, t] })
    (base : Nat) (e : TypeId) (i : TypeInfo) (z : Value) (size bytes : Nat) (ht : P.underlying t = some (.slice e)) (hi : P.info? e = some i) (hz : i.zero = some z)
    (hsize : i.size = size) (hby : i.bytes = bytes) (hzs : z.cells.size = size) (hsz : 0 < size)
    (v : Value) (n : Nat) (xs : List Value) (hs : a.eval s = v) (hown : w.ownsRow base e size v n xs)
    (B : Nat) (A : Option Addr) (m c : Nat) (news : List Value) (hx : a.eval x = .slice A m c) (hr : Reads w B size A m news) (h1 : ∀ u ∈ news, u.oneCell' = true)
    (h63 : n + m ≤ maxLen) (hbytes : (n + m) * bytes ≤ 140737488355328) (hbase : base ≤ w.heap.size)
    (h : ∀ v' w', w'.ownsRow base e size v' (n + m) (xs ++ news) → w.grownBy w' v.ownBlock → (v'.ownBlock = v.ownBlock ∨ v'.ownBlock = some w.heap.size) → K (a.put o.dst v') w') :
    if Region.wanted o (yielded ops a.tmps) = true then Oper.wp P o a w K Q else E := by
  have hw : Region.wanted o (yielded ops a.tmps) = true := by simp [Region.wanted, hgd]
  rw [if_pos hw]
  exact wp_append_any w s x t ho base e i z size bytes ht hi hz hsize hby hzs hsz v n xs hs hown B A m c news hx hr h1 h63 hbytes hbase h
end

/-- n elements of sz cells, written out -/
def cellsOf (sz n : Nat) (g : Nat → Nat → Value) : List Value := (List.range (n * sz)).map fun j => g (j / sz) (j % sz)
theorem cellsOf_len (sz n : Nat) (g : Nat → Nat → Value) : (cellsOf sz n g).length = n * sz := by simp [cellsOf]
theorem cellsOf_get (sz n : Nat) (g : Nat → Nat → Value) (k i : Nat) (hk : k < n) (hi : i < sz) : (cellsOf sz n g)[k * sz + i]? = some (g k i) := by
  have h1 : k * sz + i < n * sz := by
    have : (k + 1) * sz ≤ n * sz := Nat.mul_le_mul_right _ hk
    rw [Nat.succ_mul] at this; omega
  have h2 : (k * sz + i) / sz = k := by
    rw [Nat.add_comm, Nat.mul_comm k sz, Nat.add_mul_div_left _ _ (by omega), Nat.div_eq_of_lt hi]; omega
  have h3 : (k * sz + i) % sz = i := by rw [Nat.add_comm, Nat.add_mul_mod_self_right, Nat.mod_eq_of_lt hi]
  simp [cellsOf, h1, h2, h3]
theorem add_lit' (b off j : Nat) : (⟨b, off, none⟩ : Addr).add j = ⟨b, off + j, none⟩ := by unfold Addr.add; split <;> simp_all
theorem ER.reads {w : World} {B sz n : Nat} {A : Option Addr} {g : Nat → Nat → Value} (h : ER w B sz A n g) (hs : 0 < sz) : Reads w B sz A n (cellsOf sz n g) := by
  refine ⟨cellsOf_len _ _ _, fun hn => ?_⟩
  obtain ⟨b, off, rfl, hb, hc⟩ := h hn
  refine ⟨_, rfl, hb, fun j u hu => ?_⟩
  have hj : j < n * sz := by
    have := (List.getElem?_eq_some_iff.1 hu).1
    rwa [cellsOf_len] at this
  have hd : j / sz < n := Nat.div_lt_of_lt_mul (by rwa [Nat.mul_comm] at hj)
  have hm := Nat.mod_lt j hs
  have he : j = j / sz * sz + j % sz := by rw [Nat.mul_comm]; exact (Nat.div_add_mod j sz).symm
  have h1 := cellsOf_get sz n g _ _ hd hm
  rw [← he, hu] at h1
  rw [add_lit', h1, ← hc _ _ hd hm]
  congr 2
  omega
theorem ER.of_own {w : World} {base : Nat} {e : TypeId} {sz n : Nat} {v : Value} {g : Nat → Nat → Value} (h : w.ownsRow base e sz v n (cellsOf sz n g)) (hs : 0 < sz) :
    ∃ A c, v = .slice A n c ∧ ER w w.heap.size sz A n g ∧ n ≤ c := by
  rcases h.2 with ⟨rfl, rfl⟩ | ⟨b, cap, cur, rfl, _, hh, hnc, _⟩
  · exact ⟨none, 0, rfl, ER.nil _ _ _ _ _, Nat.le_refl _⟩
  · refine ⟨_, _, rfl, fun hn => ⟨b, 0, rfl, ?_, fun k i hk hi => ?_⟩, hnc⟩
    · rcases Nat.lt_or_ge b w.heap.size with hl | hl
      · exact hl
      · rw [Array.getElem?_eq_none hl] at hh; cases hh
    · have := h.cells (g := b) rfl (k * sz + i) _ (cellsOf_get sz n g k i hk hi)
      rw [add_lit'] at this
      simpa [Nat.add_assoc] using this
theorem own_empty (w : World) (e : TypeId) (sz : Nat) : (w.alloc (.cells #[] e)).ownsRow w.heap.size e sz (.slice (some ⟨w.heap.size, 0, none⟩) 0 0) 0 [] :=
  ⟨by simp, .inr ⟨w.heap.size, 0, #[], rfl, Nat.le_refl _, heap_alloc_new w _, Nat.le_refl _, Nat.zero_le _, by simp, by simp⟩⟩
theorem blk2 {w : World} {g : Nat} {t : TypeId} {a b : Value} (h : Blk w g t #[a, b]) : g < w.heap.size ∧ w.cell? ⟨g, 0, none⟩ = some a ∧ w.cell? ⟨g, 1, none⟩ = some b ∧ w.frozen? ⟨g, 0, none⟩ = false ∧ w.frozen? ⟨g, 1, none⟩ = false :=
  ⟨h.lt, by simpa using h.cell 0, by simpa using h.cell 1, h.frozen 0, h.frozen 1⟩
theorem blk1 {w : World} {g : Nat} {t : TypeId} {a : Value} (h : Blk w g t #[a]) : g < w.heap.size ∧ w.cell? ⟨g, 0, none⟩ = some a ∧ w.frozen? ⟨g, 0, none⟩ = false :=
  ⟨h.lt, by simpa using h.cell 0, h.frozen 0⟩
theorem blk4 {w : World} {g : Nat} {t : TypeId} {a b c d : Value} (h : Blk w g t #[a, b, c, d]) : g < w.heap.size ∧ w.cell? ⟨g, 0, none⟩ = some a ∧ w.cell? ⟨g, 1, none⟩ = some b ∧ w.cell? ⟨g, 2, none⟩ = some c ∧ w.cell? ⟨g, 3, none⟩ = some d :=
  ⟨h.lt, by simpa using h.cell 0, by simpa using h.cell 1, by simpa using h.cell 2, by simpa using h.cell 3⟩
theorem Blk.ext {w w' : World} {g : Nat} {t : TypeId} {cs : Array Value} (h : Blk w g t cs) (hb : Below w.heap.size w w') : Blk w' g t cs := h.below hb h.lt
theorem size_set (w : World) (p : Addr) (v : Value) : (w.setCell p v).heap.size = w.heap.size := by simp [World.setCell]
/-- what is alike below B stays so over the same store -/
theorem setB {B : Nat} {w W : World} (h : Below B w W) (p : Addr) (v : Value) : Below B (w.setCell p v) (W.setCell p v) := by
  refine ⟨h.os, h.tape, h.output, by simpa [size_set] using h.size, fun k hk => ?_⟩
  simp only [World.setCell, Array.getElem?_modify, h.block k hk]
/-- Below, behind a store into an old block of the frame's own -/
theorem Below_of_set {B : Nat} {a w w' : World} (h : Below B a w) {p : Addr} (hp : B ≤ p.block) (v : Value) (hB : B ≤ w.heap.size) (k : Below w.heap.size (w.setCell p v) w') : Below B a w' :=
  (h.setCell hp v).trans (k.mono hB)
/-- two stores into one struct of two cells -/
theorem set2B {B : Nat} {a w : World} (h : Below B a w) {g : Nat} (hg : B ≤ g) (u v : Value) : Below B a ((w.setCell ⟨g, 0, none⟩ u).setCell ⟨g, 1, none⟩ v) :=
  (h.setCell (p := ⟨g, 0, none⟩) hg u).setCell (p := ⟨g, 1, none⟩) hg v
end Go.Proofs.YtagjeeimglecnaaDoor
/- Contracts of chapter 8 on the book: what happens to one kind. -/
namespace Go.Proofs.YtagjeeimglecnaaDoor
open Go Go.RowKit
set_option maxHeartbeats 400000
theorem move_lt (n a : Int) (S o p q : Nat) (w : World) (h : w.cell? ⟨S, o, none⟩ = some (.int .i64 a)) (hn : a < n) :
    Calls Tryd.prog 28 #[.int .i64 n, .pointer (some ⟨S, o, none⟩), .pointer (some ⟨p, q, none⟩)] w fun e w' => e = .returned (.int .i64 9) ∧ w = w' := by
  go_enter Tryd.func28, Tryd.ntmps28
  go_wp2_with fail
  go_ret
  exact ⟨rfl, rfl⟩
theorem move_ok (n a b : Int) (S o q : Nat) (w : World) (h : w.cell? ⟨S, o, none⟩ = some (.int .i64 a)) (h' : w.cell? ⟨S, q, none⟩ = some (.int .i64 b)) (hf : ∀ i, w.frozen? ⟨S, i, none⟩ = false) (hoq : o ≠ q)
    (hn : n ≤ a) (h0 : 0 ≤ n) (h1 : a ≤ 2000000000) (h2 : 0 ≤ b) (h3 : b ≤ 2000000000) :
    Calls Tryd.prog 28 #[.int .i64 n, .pointer (some ⟨S, o, none⟩), .pointer (some ⟨S, q, none⟩)] w fun e w' => e = .returned (.int .i64 0) ∧ Below w.heap.size ((w.setCell ⟨S, o, none⟩ (.int .i64 (a - n))).setCell ⟨S, q, none⟩ (.int .i64 (b + n))) w' := by
  have f1 := hf o
  have f2 := hf q
  clear hf
  have hqo : q ≠ o := Ne.symm hoq
  go_enter Tryd.func28, Tryd.ntmps28
  go_wp2_with fail
  go_region
  all_goals
    go_wp2_with fail
    go_ret
    exact ⟨rfl, (Below.refl _ _).drew⟩
theorem moulded_any (a b c d e f g : Int) (w : World) (h0 : 0 ≤ a) (h1 : 0 ≤ b) (h2 : 0 ≤ c) (h3 : 0 ≤ d) (h4 : 0 ≤ e) (h5 : 0 ≤ f) (hs : a + b + c + d + e + f ≤ 1000000000) :
    Calls Tryd.prog 26 #[.agg #[.int .i64 a, .int .i64 b, .int .i64 c, .int .i64 d, .int .i64 e, .int .i64 f, .int .i64 g]] w fun en w' => en = .returned (.int .i64 (a + b + c + d + e + f)) ∧ Below w.heap.size w w' := by
  go_enter Tryd.func26, Tryd.ntmps26
  go_wp2_with fail
  go_ret
  exact ⟨rfl, (Below.refl _ _).alloc (Nat.le_refl _) _⟩
/-- the seven cells of a kind at o -/
def Kind7 (w : World) (S o : Nat) (a b c d e f g : Int) : Prop :=
  S < w.heap.size ∧ (∀ i, w.frozen? ⟨S, i, none⟩ = false) ∧ w.cell? ⟨S, o, none⟩ = some (.int .i64 a) ∧ w.cell? ⟨S, o + 1, none⟩ = some (.int .i64 b) ∧ w.cell? ⟨S, o + 2, none⟩ = some (.int .i64 c) ∧
  w.cell? ⟨S, o + 3, none⟩ = some (.int .i64 d) ∧ w.cell? ⟨S, o + 4, none⟩ = some (.int .i64 e) ∧ w.cell? ⟨S, o + 5, none⟩ = some (.int .i64 f) ∧ w.cell? ⟨S, o + 6, none⟩ = some (.int .i64 g)
theorem Kind7.below {w w' : World} {B S o : Nat} {a b c d e f g : Int} (h : Kind7 w S o a b c d e f g) (hb : Below B w w') (hS : S < B) : Kind7 w' S o a b c d e f g := by
  obtain ⟨h0, hf, h1, h2, h3, h4, h5, h6, h7⟩ := h
  exact ⟨Nat.lt_of_lt_of_le h0 hb.size, fun i => (hb.frozen (p := ⟨S, i, none⟩) hS).trans (hf i), (hb.cell (p := ⟨S, o, none⟩) hS).trans h1, (hb.cell (p := ⟨S, o + 1, none⟩) hS).trans h2, (hb.cell (p := ⟨S, o + 2, none⟩) hS).trans h3, (hb.cell (p := ⟨S, o + 3, none⟩) hS).trans h4, (hb.cell (p := ⟨S, o + 4, none⟩) hS).trans h5, (hb.cell (p := ⟨S, o + 5, none⟩) hS).trans h6, (hb.cell (p := ⟨S, o + 6, none⟩) hS).trans h7⟩
/-- the numbers of a kind are not below 0, and all together at most MaxBricks -/
def Ok7 (a b c d e f g : Int) : Prop := 0 ≤ a ∧ 0 ≤ b ∧ 0 ≤ c ∧ 0 ≤ d ∧ 0 ≤ e ∧ 0 ≤ f ∧ 0 ≤ g ∧ a + b + c + d + e + f ≤ 1000000000 ∧ g ≤ f
theorem mould1_full (a b c d e f g n : Int) (S o q : Nat) (w : World) (hk : Kind7 w S o a b c d e f g) (ho : Ok7 a b c d e f g) (hq : w.cell? ⟨q, 0, none⟩ = some (.int .i64 n)) (hql : q < w.heap.size) (hn : 0 ≤ n) (hn2 : n ≤ 1000000000)
    (hfull : 1000000000 < a + b + c + d + e + f + n) :
    Calls Tryd.prog 25 #[.pointer (some ⟨S, o, none⟩), .pointer (some ⟨q, 0, none⟩)] w fun en w' => en = .returned (.int .i64 8) ∧ Below w.heap.size w w' := by
  obtain ⟨h0, hf, h1, h2, h3, h4, h5, h6, h7⟩ := hk
  obtain ⟨o1, o2, o3, o4, o5, o6, o7, o8, o9⟩ := ho
  have HF := hide hf
  clear hf
  have t0 : IntKind.i64.wrap (a + b + c + d + e + f + n) = a + b + c + d + e + f + n := IntWalk.i64_in _ (by omega)
  go_enter Tryd.func25, Tryd.ntmps25
  go_wp2_with fail
  go_region_held3 (fun W => W.cell? ⟨S, o, none⟩ = some (.int .i64 a) ∧ W.cell? ⟨S, o + 1, none⟩ = some (.int .i64 b) ∧ W.cell? ⟨S, o + 2, none⟩ = some (.int .i64 c) ∧ W.cell? ⟨S, o + 3, none⟩ = some (.int .i64 d) ∧ W.cell? ⟨S, o + 4, none⟩ = some (.int .i64 e) ∧ W.cell? ⟨S, o + 5, none⟩ = some (.int .i64 f) ∧ W.cell? ⟨S, o + 6, none⟩ = some (.int .i64 g) ∧ W.cell? ⟨q, 0, none⟩ = some (.int .i64 n))
    (first | go_keep | exact ⟨(hb1.cell (p := ⟨S, o, none⟩) h0).trans h1, (hb1.cell (p := ⟨S, o + 1, none⟩) h0).trans h2, (hb1.cell (p := ⟨S, o + 2, none⟩) h0).trans h3, (hb1.cell (p := ⟨S, o + 3, none⟩) h0).trans h4, (hb1.cell (p := ⟨S, o + 4, none⟩) h0).trans h5, (hb1.cell (p := ⟨S, o + 5, none⟩) h0).trans h6, (hb1.cell (p := ⟨S, o + 6, none⟩) h0).trans h7, (hb1.cell (p := ⟨q, 0, none⟩) hql).trans hq⟩)
    ((go_at_call 26; refine (moulded_any a b c d e f g _ o1 o2 o3 o4 o5 o6 o8).mono ?_; rintro en w1 ⟨rfl, hb1⟩))
  clear t0
  go_wp2_with fail
  go_ret
  exact ⟨rfl, (Below.refl _ _).drew.trans hb1⟩
theorem mould1_ok (a b c d e f g n : Int) (S o q : Nat) (w : World) (hk : Kind7 w S o a b c d e f g) (ho : Ok7 a b c d e f g) (hq : w.cell? ⟨q, 0, none⟩ = some (.int .i64 n)) (hql : q < w.heap.size) (hn : 0 ≤ n) (hn2 : n ≤ 1000000000)
    (hfull : a + b + c + d + e + f + n ≤ 1000000000) :
    Calls Tryd.prog 25 #[.pointer (some ⟨S, o, none⟩), .pointer (some ⟨q, 0, none⟩)] w fun en w' => en = .returned (.int .i64 0) ∧ Below w.heap.size (w.setCell ⟨S, o, none⟩ (.int .i64 (a + n))) w' := by
  obtain ⟨h0, hf, h1, h2, h3, h4, h5, h6, h7⟩ := hk
  obtain ⟨o1, o2, o3, o4, o5, o6, o7, o8, o9⟩ := ho
  have hf0 := hf o
  clear hf
  have t0 : IntKind.i64.wrap (a + b + c + d + e + f + n) = a + b + c + d + e + f + n := IntWalk.i64_in _ (by omega)
  go_enter Tryd.func25, Tryd.ntmps25
  go_wp2_with fail
  go_region_held3 (fun W => W.cell? ⟨S, o, none⟩ = some (.int .i64 a) ∧ W.cell? ⟨S, o + 1, none⟩ = some (.int .i64 b) ∧ W.cell? ⟨S, o + 2, none⟩ = some (.int .i64 c) ∧ W.cell? ⟨S, o + 3, none⟩ = some (.int .i64 d) ∧ W.cell? ⟨S, o + 4, none⟩ = some (.int .i64 e) ∧ W.cell? ⟨S, o + 5, none⟩ = some (.int .i64 f) ∧ W.cell? ⟨S, o + 6, none⟩ = some (.int .i64 g) ∧ W.cell? ⟨q, 0, none⟩ = some (.int .i64 n))
    (first | go_keep | exact ⟨(hb1.cell (p := ⟨S, o, none⟩) h0).trans h1, (hb1.cell (p := ⟨S, o + 1, none⟩) h0).trans h2, (hb1.cell (p := ⟨S, o + 2, none⟩) h0).trans h3, (hb1.cell (p := ⟨S, o + 3, none⟩) h0).trans h4, (hb1.cell (p := ⟨S, o + 4, none⟩) h0).trans h5, (hb1.cell (p := ⟨S, o + 5, none⟩) h0).trans h6, (hb1.cell (p := ⟨S, o + 6, none⟩) h0).trans h7, (hb1.cell (p := ⟨q, 0, none⟩) hql).trans hq⟩)
    ((go_at_call 26; refine (moulded_any a b c d e f g _ o1 o2 o3 o4 o5 o6 o8).mono ?_; rintro en w1 ⟨rfl, hb1⟩))
  clear t0 h1 h2 h3 h4 h5 h6 h7 hq
  rename_i hHeld
  obtain ⟨h1, -, -, -, -, -, -, hq⟩ := hHeld
  have hf1 : w1.frozen? ⟨S, o, none⟩ = false := (hb1.frozen (p := ⟨S, o, none⟩) h0).trans hf0
  have hz : w.heap.size ≤ w1.heap.size := hb1.size
  go_wp2_with fail
  go_region
  all_goals
    go_wp2_with fail
    go_ret
    exact ⟨rfl, (setB ((Below.refl w.heap.size w).drew.trans hb1) ⟨S, o, none⟩ (.int .i64 (a + n))).drew⟩
end Go.Proofs.YtagjeeimglecnaaDoor
/- Contracts of chapter 8 on the book: change, and what is done with one kind. -/
namespace Go.Proofs.YtagjeeimglecnaaDoor
open Go Go.RowKit
set_option maxHeartbeats 400000
theorem blkB {w : World} {g : Nat} {t : TypeId} {a b c d : Value} (h : Blk w g t #[a, b, c, d]) : g < w.heap.size ∧ w.cell? ⟨g, 2, none⟩ = some c :=
  ⟨h.lt, by simpa using h.cell 2⟩
theorem khas_any (b S n : Nat) (spv ov : Value) (room kind : Int) (w : World) (hb : Blk w b 81 #[spv, .int .i64 room, .slice (some ⟨S, 0, none⟩) n n, ov]) (hn : n ≤ 20) (hn0 : 1 ≤ n) :
    Calls Tryd.prog 29 #[.pointer (some ⟨b, 0, none⟩), .int .i64 kind] w fun e w' => e = .returned (.bool (decide (0 ≤ kind ∧ kind ≤ (n : Int) - 1))) ∧ Below w.heap.size w w' := by
  obtain ⟨-, c2⟩ := blkB hb
  clear hb
  go_enter Tryd.func29, Tryd.ntmps29
  go_wp2_with fail
  refine (kwithin_any 0 ((n : Int) - 1) _ 1 1 (fun _ => kind) _ (by decide) ?_).mono ?_
  · simpa using IR.one w kind 3
  rw [wiB_one]
  rintro e w1 ⟨rfl, hb1⟩
  go_wp2_with fail
  go_ret
  exact ⟨ret_bool (by simp), ((Below.refl _ _).alloc (Nat.le_refl _) _).trans (hb1.mono (by simp only [World.size_alloc]; omega))⟩
theorem change_nil (kind n : Int) (fv : Value) (w : World) :
    Calls Tryd.prog 24 #[.pointer none, .int .i64 kind, .int .i64 n, fv] w fun e w' => e = .returned (.int .i64 1) ∧ Below w.heap.size w w' := by
  go_enter Tryd.func24, Tryd.ntmps24
  go_wp2_with fail
  go_ret
  exact ⟨rfl, Below.refl _ _⟩
theorem change_none (b S n : Nat) (spv ov : Value) (room kind m : Int) (fv : Value) (w : World) (hb : Blk w b 81 #[spv, .int .i64 room, .slice (some ⟨S, 0, none⟩) n n, ov]) (hn : n ≤ 20) (hn0 : 1 ≤ n) (hk : ¬ (0 ≤ kind ∧ kind ≤ (n : Int) - 1)) :
    Calls Tryd.prog 24 #[.pointer (some ⟨b, 0, none⟩), .int .i64 kind, .int .i64 m, fv] w fun e w' => e = .returned (.int .i64 7) ∧ Below w.heap.size w w' := by
  have HC := hide (fun W (h : Below w.heap.size w W) => khas_any b S n spv ov room kind W (hb.ext h) hn hn0)
  rw [decide_eq_false hk] at HC
  clear hb hk
  go_enter Tryd.func24, Tryd.ntmps24
  go_wp2_with fail
  refine (HC.out _ (Below.refl _ _)).mono ?_
  rintro e w1 ⟨rfl, hb1⟩
  go_wp2_with fail
  go_ret
  exact ⟨rfl, hb1⟩
theorem change_range (b S n : Nat) (spv ov : Value) (room kind m : Int) (fv : Value) (w : World) (hb : Blk w b 81 #[spv, .int .i64 room, .slice (some ⟨S, 0, none⟩) n n, ov]) (hn : n ≤ 20) (hn0 : 1 ≤ n) (hk : 0 ≤ kind ∧ kind ≤ (n : Int) - 1) (hm : ¬ (0 ≤ m ∧ m ≤ 1000000000)) :
    Calls Tryd.prog 24 #[.pointer (some ⟨b, 0, none⟩), .int .i64 kind, .int .i64 m, fv] w fun e w' => e = .returned (.int .i64 3) ∧ Below w.heap.size w w' := by
  have HC := hide (fun W (h : Below w.heap.size w W) => khas_any b S n spv ov room kind W (hb.ext h) hn hn0)
  rw [decide_eq_true hk] at HC
  have HD := hide (decide_eq_false hm)
  clear hb hk hm
  go_enter Tryd.func24, Tryd.ntmps24
  go_wp2_with fail
  refine (HC.out _ (Below.refl _ _)).mono ?_
  rintro e w1 ⟨rfl, hb1⟩
  go_wp2_with fail
  refine (kwithin_any 0 1000000000 _ 1 1 (fun _ => m) _ (by decide) ?_).mono ?_
  · simpa using IR.one w1 m 3
  rw [wiB_one, HD.out]
  rintro e w2 ⟨rfl, hb2⟩
  go_wp2_with fail
  go_ret
  exact ⟨rfl, (hb1.alloc hb1.size _).trans (hb2.mono (by have := hb1.size; simp only [World.size_alloc]; omega))⟩
theorem change_ok (b S n k : Nat) (spv ov : Value) (room m v : Int) (g : FuncId) (lb : Array Value) (f : World → World) (w : World) (hb : Blk w b 81 #[spv, .int .i64 room, .slice (some ⟨S, 0, none⟩) n n, ov]) (hn : n ≤ 20) (hk : k < n) (h0 : 0 ≤ m) (h1 : m ≤ 1000000000)
    (eg : ∀ args w, (callFunc g args).run Tryd.prog w = .ok (.enter g args) w)
    (hf : ∀ W, Below w.heap.size w W → Below w.heap.size (f w) (f W))
    (hg : ∀ W, Below w.heap.size w W → Calls Tryd.prog g (#[.pointer (some ⟨S, k * 7, none⟩)] ++ lb) W fun e W' => e = .returned (.int .i64 v) ∧ Below W.heap.size (f W) W') :
    Calls Tryd.prog 24 #[.pointer (some ⟨b, 0, none⟩), .int .i64 k, .int .i64 m, .func (.func g) #[] lb] w fun e w' => e = .returned (.int .i64 v) ∧ Below w.heap.size (f w) w' := by
  have HC := hide (fun W (h : Below w.heap.size w W) => khas_any b S n spv ov room k W (hb.ext h) hn (by omega))
  rw [decide_eq_true (by omega : 0 ≤ (k : Int) ∧ (k : Int) ≤ (n : Int) - 1)] at HC
  have HD := hide (decide_eq_true (And.intro h0 h1))
  have HB := hide hb
  have HF := hide hf
  have HG := hide hg
  clear hb hf hg
  go_enter Tryd.func24, Tryd.ntmps24
  go_wp2_with fail
  refine (HC.out _ (Below.refl _ _)).mono ?_
  rintro e w1 ⟨rfl, hb1⟩
  go_wp2_with fail
  refine (kwithin_any 0 1000000000 _ 1 1 (fun _ => m) _ (by decide) ?_).mono ?_
  · simpa using IR.one w1 m 3
  rw [wiB_one, HD.out]
  rintro e w2 ⟨rfl, hb2⟩
  have hB2 : Below w.heap.size w w2 := (hb1.alloc hb1.size _).trans (hb2.mono (by have := hb1.size; simp only [World.size_alloc]; omega))
  obtain ⟨-, c2⟩ := blkB (HB.out.ext hB2)
  have i1 : (0 : Int) ≤ (k : Int) := by omega
  have i2 : (k : Int) < (n : Int) := by omega
  clear hb2
  go_wp2_with fail
  refine (HG.out _ hB2).mono ?_
  rintro e w3 ⟨rfl, hb3⟩
  go_wp2_with fail
  go_ret
  exact ⟨rfl, (HF.out _ hB2).trans (hb3.mono hB2.size)⟩
end Go.Proofs.YtagjeeimglecnaaDoor
/- Contracts of chapter 8 on the book: drying, laying, breaking, replacing, counting; a new book. -/
namespace Go.Proofs.YtagjeeimglecnaaDoor
open Go Go.RowKit
set_option maxHeartbeats 800000
def set7 (w : World) (q : Nat) (a b c d e f g : Int) : World :=
  ((((((w.setCell ⟨q, 0, none⟩ (.int .i64 a)).setCell ⟨q, 1, none⟩ (.int .i64 b)).setCell ⟨q, 2, none⟩ (.int .i64 c)).setCell ⟨q, 3, none⟩ (.int .i64 d)).setCell ⟨q, 4, none⟩ (.int .i64 e)).setCell ⟨q, 5, none⟩ (.int .i64 f)).setCell ⟨q, 6, none⟩ (.int .i64 g)
theorem count1_any (a b c d e f g : Int) (S o q : Nat) (t : TypeId) (x0 x1 x2 x3 x4 x5 x6 : Value) (w : World) (hk : Kind7 w S o a b c d e f g) (ho : Ok7 a b c d e f g) (hq : Blk w q t #[x0, x1, x2, x3, x4, x5, x6]) (hne : S ≠ q) :
    Calls Tryd.prog 31 #[.pointer (some ⟨S, o, none⟩), .pointer (some ⟨q, 0, none⟩)] w fun en w' => en = .returned (.int .i64 0) ∧ Below w.heap.size (set7 w q a b c d e f g) w' := by
  obtain ⟨h0, hf, h1, h2, h3, h4, h5, h6, h7⟩ := hk
  obtain ⟨o1, o2, o3, o4, o5, o6, o7, o8, o9⟩ := ho
  clear hf o1 o2 o3 o4 o5 o6 o7 o8 o9
  have hne' := Ne.symm hne
  have q0 := hq.cell 0
  have q1 := hq.cell 1
  have q2 := hq.cell 2
  have q3 := hq.cell 3
  have q4 := hq.cell 4
  have q5 := hq.cell 5
  have q6 := hq.cell 6
  have f0 := hq.frozen 0
  have f1 := hq.frozen 1
  have f2 := hq.frozen 2
  have f3 := hq.frozen 3
  have f4 := hq.frozen 4
  have f5 := hq.frozen 5
  have f6 := hq.frozen 6
  simp at q0 q1 q2 q3 q4 q5 q6
  clear hq
  go_enter Tryd.func31, Tryd.ntmps31
  go_wp2_with fail
  go_ret
  exact ⟨rfl, Below.refl _ _⟩
/-- three facts on a kind over one store into it -/
theorem dry1_arg (a b c d e f g : Int) (n br : Int) (S o p q : Nat) (w : World) (hk : Kind7 w S o a b c d e f g) (ho : Ok7 a b c d e f g) (hp : w.cell? ⟨p, 0, none⟩ = some (.int .i64 n)) (hq : w.cell? ⟨q, 0, none⟩ = some (.int .i64 br)) (hb : ¬ (0 ≤ br ∧ br ≤ n)) :
    Calls Tryd.prog 27 #[.pointer (some ⟨S, o, none⟩), .pointer (some ⟨p, 0, none⟩), .pointer (some ⟨q, 0, none⟩)] w fun en w' => en = .returned (.int .i64 2) ∧ Below w.heap.size w w' := by
  have HD := hide (decide_eq_false hb)
  clear hk ho hb
  go_enter Tryd.func27, Tryd.ntmps27
  go_wp2_with fail
  refine (kwithin_any 0 n _ 1 1 (fun _ => br) _ (by decide) ?_).mono ?_
  · simpa using IR.one w br 3
  rw [wiB_one, HD.out]
  rintro en w1 ⟨rfl, hb1⟩
  go_wp2_with fail
  go_ret
  exact ⟨rfl, ((Below.refl _ _).alloc (Nat.le_refl _) _).trans (hb1.mono (by simp only [World.size_alloc]; omega))⟩
theorem dry1_state (a b c d e f g : Int) (n br : Int) (S o p q : Nat) (w : World) (hk : Kind7 w S o a b c d e f g) (ho : Ok7 a b c d e f g) (hp : w.cell? ⟨p, 0, none⟩ = some (.int .i64 n)) (hq : w.cell? ⟨q, 0, none⟩ = some (.int .i64 br)) (hpl : p < w.heap.size) (hb : 0 ≤ br ∧ br ≤ n) (hlt : a < n) :
    Calls Tryd.prog 27 #[.pointer (some ⟨S, o, none⟩), .pointer (some ⟨p, 0, none⟩), .pointer (some ⟨q, 0, none⟩)] w fun en w' => en = .returned (.int .i64 9) ∧ Below w.heap.size w w' := by
  have HD := hide (decide_eq_true hb)
  obtain ⟨h0, hf, h1, h2, h3, h4, h5, h6, h7⟩ := hk
  obtain ⟨o1, o2, o3, o4, o5, o6, o7, o8, o9⟩ := ho
  clear hf o1 o2 o3 o4 o5 o6 o7 o8 o9 hb h2 h3 h4 h5 h6 h7
  go_enter Tryd.func27, Tryd.ntmps27
  go_wp2_with fail
  refine (kwithin_any 0 n _ 1 1 (fun _ => br) _ (by decide) ?_).mono ?_
  · simpa using IR.one w br 3
  rw [wiB_one, HD.out]
  rintro en w1 ⟨rfl, hb1⟩
  have hB : Below w.heap.size w w1 := ((Below.refl _ _).alloc (Nat.le_refl _) _).trans (hb1.mono (by simp only [World.size_alloc]; omega))
  have k1 : w1.cell? ⟨S, o, none⟩ = some (.int .i64 a) := (hB.cell (p := ⟨S, o, none⟩) h0).trans h1
  have k2 : w1.cell? ⟨p, 0, none⟩ = some (.int .i64 n) := (hB.cell (p := ⟨p, 0, none⟩) hpl).trans hp
  clear h1 hp hb1
  go_wp2_with fail
  go_region_held3 (fun W => W.cell? ⟨p, 0, none⟩ = some (.int .i64 n)) (first | go_keep | assumption) ((go_at_call 28; refine (move_lt n a S o S (o + 1) _ ?_ hlt).mono ?_; (simp [*]); rintro en w2 ⟨rfl, rfl⟩))
  go_wp2_with fail
  go_ret
  exact ⟨rfl, hB.drew⟩
def mv (w : World) (S o q : Nat) (u v : Int) : World := (w.setCell ⟨S, o, none⟩ (.int .i64 u)).setCell ⟨S, q, none⟩ (.int .i64 v)
theorem size_mv (w : World) (S o q : Nat) (u v : Int) : (mv w S o q u v).heap.size = w.heap.size := by simp [mv, size_set]
theorem mvB {B : Nat} {w W : World} (h : Below B w W) (S o q : Nat) (u v : Int) : Below B (mv w S o q u v) (mv W S o q u v) := setB (setB h _ _) _ _
theorem mv_cell {w : World} {S o q x : Nat} {u v : Int} {z : Value} (h : w.cell? ⟨S, x, none⟩ = some z) (h1 : x ≠ o) (h2 : x ≠ q) : (mv w S o q u v).cell? ⟨S, x, none⟩ = some z := by
  unfold mv
  rw [World.cell?_setCell_other _ _ _ _ (fun h => by injection h; omega), World.cell?_setCell_other _ _ _ _ (fun h => by injection h; omega)]
  exact h
theorem mv_far {w : World} {S o q p x : Nat} {u v : Int} (h1 : p ≠ S) : (mv w S o q u v).cell? ⟨p, x, none⟩ = w.cell? ⟨p, x, none⟩ := by
  unfold mv
  rw [World.cell?_setCell_other _ _ _ _ (fun h => by injection h; omega), World.cell?_setCell_other _ _ _ _ (fun h => by injection h; omega)]
theorem mv_frozen (w : World) (S o q : Nat) (u v : Int) (p : Addr) : (mv w S o q u v).frozen? p = w.frozen? p := by
  unfold mv
  rw [World.frozen?_setCell, World.frozen?_setCell]
theorem mv_snd {w : World} {S o q : Nat} {u v : Int} {z : Value} (h : w.cell? ⟨S, q, none⟩ = some z) (hoq : o ≠ q) : (mv w S o q u v).cell? ⟨S, q, none⟩ = some (.int .i64 v) := by
  unfold mv
  refine World.cell?_setCell_same' _ _ _ ?_
  rw [World.cell?_setCell_other _ _ _ _ (fun h => by injection h; omega), h]; rfl
theorem mv_fst {w : World} {S o q : Nat} {u v : Int} {z : Value} (h : w.cell? ⟨S, o, none⟩ = some z) (hoq : o ≠ q) : (mv w S o q u v).cell? ⟨S, o, none⟩ = some (.int .i64 u) := by
  unfold mv
  rw [World.cell?_setCell_other _ _ _ _ (fun h => by injection h; omega)]
  exact World.cell?_setCell_same' _ _ _ (by rw [h]; rfl)
theorem dry1_ok (a b c d e f g : Int) (n br : Int) (S o p q : Nat) (w : World) (hk : Kind7 w S o a b c d e f g) (ho : Ok7 a b c d e f g) (hp : w.cell? ⟨p, 0, none⟩ = some (.int .i64 n)) (hq : w.cell? ⟨q, 0, none⟩ = some (.int .i64 br)) (hpl : p < w.heap.size) (hql : q < w.heap.size) (hpS : p ≠ S) (hqS : q ≠ S) (hb : 0 ≤ br ∧ br ≤ n) (hlt : n ≤ a) :
    Calls Tryd.prog 27 #[.pointer (some ⟨S, o, none⟩), .pointer (some ⟨p, 0, none⟩), .pointer (some ⟨q, 0, none⟩)] w fun en w' => en = .returned (.int .i64 0) ∧
      Below w.heap.size (mv (mv w S o (o + 1) (a - n) (b + n)) S (o + 1) (o + 5) (b + n - br) (f + br)) w' := by
  have HD := hide (decide_eq_true hb)
  obtain ⟨h0, hf, h1, h2, h3, h4, h5, h6, h7⟩ := hk
  obtain ⟨o1, o2, o3, o4, o5, o6, o7, o8, o9⟩ := ho
  clear h3 h4 h5 h7
  have HF := hide hf
  clear hf
  go_enter Tryd.func27, Tryd.ntmps27
  go_wp2_with fail
  refine (kwithin_any 0 n _ 1 1 (fun _ => br) _ (by decide) ?_).mono ?_
  · simpa using IR.one w br 3
  rw [wiB_one, HD.out]
  rintro en w1 ⟨rfl, hb1⟩
  have hB : Below w.heap.size w w1 := ((Below.refl _ _).alloc (Nat.le_refl _) _).trans (hb1.mono (by simp only [World.size_alloc]; omega))
  have k1 : w1.cell? ⟨S, o, none⟩ = some (.int .i64 a) := (hB.cell (p := ⟨S, o, none⟩) h0).trans h1
  have k2 : w1.cell? ⟨p, 0, none⟩ = some (.int .i64 n) := (hB.cell (p := ⟨p, 0, none⟩) hpl).trans hp
  have k3 : w1.cell? ⟨S, o + 1, none⟩ = some (.int .i64 b) := (hB.cell (p := ⟨S, o + 1, none⟩) h0).trans h2
  have k4 : w1.cell? ⟨q, 0, none⟩ = some (.int .i64 br) := (hB.cell (p := ⟨q, 0, none⟩) hql).trans hq
  have k5 : w1.cell? ⟨S, o + 5, none⟩ = some (.int .i64 f) := (hB.cell (p := ⟨S, o + 5, none⟩) h0).trans h6
  have k6 : ∀ i, w1.frozen? ⟨S, i, none⟩ = false := fun i => (hB.frozen (p := ⟨S, i, none⟩) h0).trans (HF.out i)
  have K6 := hide k6
  have z1 : S < w1.heap.size := Nat.lt_of_lt_of_le h0 hB.size
  have z2 : p < w1.heap.size := Nat.lt_of_lt_of_le hpl hB.size
  have z3 : q < w1.heap.size := Nat.lt_of_lt_of_le hql hB.size
  clear h1 h2 h6 hp hq hb1 k6
  have HM := hide (move_ok n a b S o (o + 1) w1.drew k1 k3 K6.out (by omega) hlt (by omega) (by omega) o2 (by omega))
  go_wp2_with fail
  go_region_held3 (fun W => W.cell? ⟨p, 0, none⟩ = some (.int .i64 n)) (first | go_keep | exact (hb2.cell (p := ⟨p, 0, none⟩) z2).trans ((mv_far hpS).trans k2)) ((go_at_call 28; refine HM.out.mono ?_; rintro en w2 ⟨rfl, hb2⟩))
  have hb2' : Below w1.heap.size (mv w1 S o (o + 1) (a - n) (b + n)) w2 := ⟨hb2.os, hb2.tape, hb2.output, hb2.size, hb2.block⟩
  have s2 : w1.heap.size ≤ w2.heap.size := by have := hb2'.size; rw [size_mv] at this; exact this
  have m3 : w2.cell? ⟨S, o + 1, none⟩ = some (.int .i64 (b + n)) := (hb2'.cell (p := ⟨S, o + 1, none⟩) z1).trans (mv_snd k3 (by omega))
  have m4 : w2.cell? ⟨q, 0, none⟩ = some (.int .i64 br) := (hb2'.cell (p := ⟨q, 0, none⟩) z3).trans ((mv_far hqS).trans k4)
  have m5 : w2.cell? ⟨S, o + 5, none⟩ = some (.int .i64 f) := (hb2'.cell (p := ⟨S, o + 5, none⟩) z1).trans (mv_cell k5 (by omega) (by omega))
  have M6 := hide (fun i => (hb2'.frozen (p := ⟨S, i, none⟩) z1).trans ((mv_frozen _ _ _ _ _ _ _).trans (K6.out i)))
  have HN := hide (move_ok br (b + n) f S (o + 1) (o + 5) w2.drew m3 m5 M6.out (by omega) (by omega) (by omega) (by omega) o6 (by omega))
  clear HM k1 k3 k5 hb2
  go_wp2_with fail
  go_region_held3 (fun W => W.cell? ⟨q, 0, none⟩ = some (.int .i64 br)) (first | go_keep | exact (hb3.cell (p := ⟨q, 0, none⟩) (Nat.lt_of_lt_of_le z3 s2)).trans ((mv_far hqS).trans m4)) ((go_at_call 28; refine HN.out.mono ?_; rintro en w3 ⟨rfl, hb3⟩))
  have hb3' : Below w2.heap.size (mv w2 S (o + 1) (o + 5) (b + n - br) (f + br)) w3 := ⟨hb3.os, hb3.tape, hb3.output, hb3.size, hb3.block⟩
  go_wp2_with fail
  go_ret
  exact ⟨rfl, (mvB ((mvB hB S o (o + 1) (a - n) (b + n)).trans (hb2'.mono hB.size)) S (o + 1) (o + 5) (b + n - br) (f + br)).trans (hb3'.mono (Nat.le_trans hB.size s2))⟩
end Go.Proofs.YtagjeeimglecnaaDoor
/- A region that draws its order, within a round of a range over a function: loads taken first, under one condition on the world. After the library's laws for activations (OrdersHeld, OrdersIn). -/
namespace Go.Proofs.YtagjeeimglecnaaDoor
open Go Go.RowKit
def noDef (ops : Array Oper) : Bool := ops.all fun o => match o.op with | .defer _ => false | _ => true
theorem noDef_spec {ops : Array Oper} (h : noDef ops = true) {j : Nat} {o : Oper} (hj : ops[j]? = some o) : ∀ c, o.op ≠ .defer c := by
  intro c hc
  obtain ⟨hlt, rfl⟩ := Array.getElem?_eq_some_iff.1 hj
  have := (Array.all_eq_true.1 h) j hlt
  rw [hc] at this
  simp at this
section
variable {F : Fence} {n : Nat} {P : Program} {ops : Array Oper} {Q : Exit → Act → World → Prop} {md : Region.Mode} {S : World → Prop}
theorem YieldsIf.wpOpIn {i : Nat} {o : Oper} {v : Value} {a : Act} (hfn : ∀ f, F.fn f) (hnd : noDef ops = true) (hi : ops[i]? = some o) (hy : YieldsIf P ops S o v a)
    {K : Act → World → Prop} {w : World} (hS : S w) (h : K (a.put o.dst v) w) : wpOpIn F n P ops Q i K a w := by
  unfold Go.wpOpIn
  simp only [hi]
  rcases hy with ⟨hw, hv⟩ | ⟨hw, rfl⟩
  · simp only [hw, if_true, Oper.wpIn, Oper.semAt_eq _ _ _ (noDef_spec hnd hi), hv w hS, Oper.uponIn]; exact ⟨fun f _ => hfn f, h⟩
  · simp only [hw, Bool.false_eq_true, if_false]; exact ⟨fun f _ => hfn f, h⟩
theorem wpOpIn_putJ {j : Nat} {oi oj : Oper} {v : Value} (hnd : noDef ops = true) (hj : ops[j]? = some oj) (hap : oi.apart ops oj = true)
    (hsi : ∀ cs b, oi.op ≠ .select cs b) (hsj : ∀ cs b, oj.op ≠ .select cs b)
    (hQ : ∀ c a w, Q (.panic c) (a.put oi.dst v) w → Q (.panic c) a w) {K : Act → World → Prop} {a : Act} {w : World} (hfn : ∀ f, F.fn f)
    (hy : YieldsIf P ops S oi v a) (h : wpOpIn F n P ops Q j K (a.put oi.dst v) w) :
    wpOpIn F n P ops Q j (fun a' w' => YieldsIf P ops S oi v a' ∧ K (a'.put oi.dst v) w') a w := by
  obtain ⟨h1, h2, h3⟩ := Oper.apart_spec hap
  have hdj := noDef_spec hnd hj
  have keep : ∀ (a : Act), YieldsIf P ops S oi v a → ∀ u, YieldsIf P ops S oi v (a.put oj.dst u) := fun a hy u =>
    hy.of_same (execOp_put oi hsi a oj.dst u h3) (wanted_put oi a oj.dst u h3)
  have keepD : ∀ d, YieldsIf P ops S oi v { a with defers := d :: a.defers } := fun d => hy.of_same rfl rfl
  unfold wpOpIn at *
  simp only [hj] at *
  rw [wanted_put oj a oi.dst v h1] at h
  split
  · rename_i hw
    simp only [hw, if_true] at h
    unfold Oper.wpIn at *
    refine ⟨fun f _ => hfn f, ?_⟩
    have h := h.2
    rw [Oper.semAt_eq _ _ _ hdj, execOp_put oj hsj a oi.dst v h1] at h
    rw [Oper.semAt_eq _ _ _ hdj]
    generalize (execOp a.eval oj).run P w = r at *
    cases r with
    | ok x w' =>
      cases x <;> simp only [Oper.uponIn] at h ⊢
      case value u => exact ⟨keep a hy u, by rw [← Act.put_comm a v u h2]; exact h⟩
      case skip => exact ⟨keep a hy _, by rw [← Act.put_comm a v undef h2]; exact h⟩
      case defer d =>
        refine ⟨keep _ (keepD d) _, ?_⟩
        rw [← Act.put_comm _ v undef h2, ← Act.put_defers]
        exact h
      case enter f args =>
        refine ⟨h.1, CallsIn.mono h.2 fun e w'' he => ?_⟩
        cases e with
        | returned u => exact ⟨keep a hy u, by rw [← Act.put_comm a v u h2]; exact he⟩
        | panicked c => exact hQ _ _ _ he
        | outgrown => exact he
      case row row args => exact ⟨h.1, RowsIn.mono h.2 fun u w'' he => ⟨keep a hy u, by rw [← Act.put_comm a v u h2]; exact he⟩⟩
      case round l f tmps assign body =>
        refine ⟨h.1, RoundIn.mono h.2 fun e w'' he => ?_⟩
        cases e with
        | returned u => exact ⟨keep a hy u, by rw [← Act.put_comm a v u h2]; exact he⟩
        | panicked c => exact hQ _ _ _ he
        | outgrown => exact he
    | halt x w' =>
      cases x <;> simp only [Oper.uponIn] at h ⊢
      case panic u => exact hQ _ _ _ h
  · rename_i hw
    simp only [hw] at h
    exact ⟨fun f _ => hfn f, keep a hy _, by rw [← Act.put_comm a v undef h2]; exact h.2⟩
/-- an operation whose value hangs on no world -/
def pureOp (o : Oper) : Bool := match o.op with | .move _ => true | .assign _ => true | .extract _ _ => true | _ => false
theorem pure_any {ev : Operand → Value} {o : Oper} {v : Value} {w : World} (hp : pureOp o = true) (h : (execOp ev o).run P w = .ok (.value v) w) (w' : World) : (execOp ev o).run P w' = .ok (.value v) w' := by
  unfold pureOp at hp
  unfold execOp at h ⊢
  split at hp
  · simp_all [Sem.run_pure]
  · simp_all [Sem.run_pure]
  · rename_i t ix he
    simp only [he, Instr.extract] at h ⊢
    split at h
    · split at h
      · rename_i u hu
        simp_all [Sem.run_pure, Sem.run_bind, Result.andThen_ok]
      · simp [stuck, Sem.run_bind, Sem.run_halt, Result.andThen_halt] at h
    · simp [stuck, Sem.run_bind, Sem.run_halt, Result.andThen_halt] at h
  · cases hp
/-- an operation that waits for all others, but for those whose value hangs on no world, and those that wait for it -/
def lastOp (md : Region.Mode) (ops : Array Oper) (j : Nat) : Bool := match ops[j]? with
  | none => false
  | some o => pureOp o || (List.range ops.size).all fun k => k == j || (o.after.any fun e => Region.binds md e && e.on == k) || match ops[k]? with
    | some ok => pureOp ok || ok.after.any fun e => Region.binds md e && e.on == j
    | none => true
theorem lastOp_no {i j : Nat} {oi oj : Oper} (hi : ops[i]? = some oi) (hj : ops[j]? = some oj) (hji : j ≠ i) (hnot : ∀ e ∈ oj.after, Region.binds md e = true → e.on ≠ i)
    (hp : pureOp oi = false) (hpj : pureOp oj = false) (hnot' : ∀ e ∈ oi.after, Region.binds md e = true → e.on ≠ j) : lastOp md ops j = false := by
  rw [← Bool.not_eq_true]
  intro h
  unfold lastOp at h
  rw [hj] at h
  replace h : (pureOp oj || _) = true := h
  rw [hpj, Bool.false_or] at h
  have hlt := (Array.getElem?_eq_some_iff.1 hi).1
  have h1 := List.all_eq_true.1 h i (by simpa using hlt)
  simp only [hi, hp, Bool.or_eq_true, beq_iff_eq, Bool.false_or] at h1
  rcases h1 with (h1 | h1) | h1
  · exact hji h1.symm
  · obtain ⟨k, hk, he⟩ := Array.any_eq_true.1 h1
    simp only [Bool.and_eq_true, beq_iff_eq] at he
    exact hnot _ (Array.getElem_mem hk) he.1 he.2
  · obtain ⟨k, hk, he⟩ := Array.any_eq_true.1 h1
    simp only [Bool.and_eq_true, beq_iff_eq] at he
    exact hnot' _ (Array.getElem_mem hk) he.1 he.2
theorem lastOp_pure {i : Nat} {oi : Oper} (hi : ops[i]? = some oi) (hp : pureOp oi = true) : lastOp md ops i = true := by
  unfold lastOp
  rw [hi]
  simp [hp]
/-- an operation whose value hangs on no world leaves the world as it is -/
theorem wpOpIn_pure {j : Nat} {oj : Oper} (hnd : noDef ops = true) (hj : ops[j]? = some oj) (hp : pureOp oj = true) {K : Act → World → Prop} {a : Act} {w : World} (h : wpOpIn F n P ops Q j K a w) :
    wpOpIn F n P ops Q j (fun a' w' => w' = w ∧ K a' w') a w := by
  unfold wpOpIn at h ⊢
  simp only [hj] at h ⊢
  split
  · rename_i hw
    simp only [hw, if_true] at h
    unfold Oper.wpIn at h ⊢
    refine ⟨h.1, ?_⟩
    have h := h.2
    rw [Oper.semAt_eq _ _ _ (noDef_spec hnd hj)] at h ⊢
    unfold pureOp at hp
    unfold execOp at h ⊢
    split at hp
    · rename_i x he
      simp only [he, Sem.run_pure, Oper.uponIn] at h ⊢
      exact ⟨trivial, h⟩
    · rename_i x he
      simp only [he, Sem.run_pure, Oper.uponIn] at h ⊢
      exact ⟨trivial, h⟩
    · rename_i t ix he
      simp only [he, Instr.extract] at h ⊢
      split at h
      · split at h
        · rename_i u hu
          simp only [Sem.run_pure, Sem.run_bind, Result.andThen_ok, Oper.uponIn] at h ⊢
          exact ⟨trivial, h⟩
        · simp [stuck, Sem.run_bind, Sem.run_halt, Result.andThen_halt, Oper.uponIn] at h
      · simp [stuck, Sem.run_bind, Sem.run_halt, Result.andThen_halt, Oper.uponIn] at h
    · cases hp
  · rename_i hw
    simp only [hw] at h
    exact ⟨h.1, trivial, h.2⟩
/-- whatever order is picked, and S holds behind every operation that is carried out, but for one that waits for all others -/
def wpAnyJ (F : Fence) (n : Nat) (P : Program) (md : Region.Mode) (ops : Array Oper) (Q : Exit → Act → World → Prop) (S : World → Prop) : Nat → Array Bool → Act → World → Prop
  | 0, listed, a, w => Region.ready md ops listed = [] ∧ Q .normal a w
  | fuel + 1, listed, a, w =>
    (Region.ready md ops listed = [] → Q .normal a w) ∧
    ∀ i ∈ Region.ready md ops listed, wpOpIn F n P ops Q i (fun a' w' => (lastOp md ops i = false → S w') ∧ wpAnyJ F n P md ops Q S fuel (listed.setIfInBounds i true) a' w') a w
theorem wpAnyIn_of_J : ∀ (fuel : Nat) (listed : Array Bool) (a : Act) (w : World), wpAnyJ F n P md ops Q S fuel listed a w → wpAnyIn F n P md ops Q fuel listed a w
  | 0, _, _, _, h => h
  | fuel + 1, _, _, _, h => ⟨h.1, fun i hi => wpOpIn_mono (fun a' w' h' => wpAnyIn_of_J fuel _ a' w' h'.2) (h.2 i hi)⟩
theorem wpAnyJ_first {S' : World → Prop} {i : Nat} {oi : Oper} {v : Value} (hfn : ∀ f, F.fn f) (hnd : noDef ops = true) (hi : ops[i]? = some oi) (hsel : ∀ (j : Nat) (o : Oper) cs b, ops[j]? = some o → o.op ≠ .select cs b)
    (hQ : ∀ c a w, Q (.panic c) (a.put oi.dst v) w → Q (.panic c) a w) (hS' : (pureOp oi = true ∧ ∀ w, S' w) ∨ (pureOp oi = false ∧ ∀ w, S w → S' w)) :
    ∀ (fuel : Nat) (listed : Array Bool) (a : Act) (w : World),
      (∀ j oj, ops[j]? = some oj → j ≠ i → listed.getD j true = false → (∀ e ∈ oj.after, Region.binds md e = true → e.on ≠ i) → oi.apart ops oj = true) →
      i ∈ Region.ready md ops listed → YieldsIf P ops S' oi v a → S' w → (lastOp md ops i = false → S w) →
      wpAnyJ F n P md ops Q S fuel (listed.setIfInBounds i true) (a.put oi.dst v) w → wpAnyJ F n P md ops Q S (fuel + 1) listed a w := by
  intro fuel
  induction fuel with
  | zero =>
    intro listed a w _ hr hy hS hS0 H
    refine ⟨fun h => (by rw [h] at hr; cases hr), fun j hj => ?_⟩
    by_cases hji : j = i
    · subst hji; exact YieldsIf.wpOpIn hfn hnd hi hy hS ⟨hS0, H⟩
    · have := ready_mono hj hji
      rw [H.1] at this
      cases this
  | succ fuel ih =>
    intro listed a w hfree hr hy hS hS0 H
    refine ⟨fun h => (by rw [h] at hr; cases hr), fun j hj => ?_⟩
    by_cases hji : j = i
    · subst hji; exact YieldsIf.wpOpIn hfn hnd hi hy hS ⟨hS0, H⟩
    · have h1 := H.2 j (ready_mono hj hji)
      obtain ⟨hjun, oj, hoj, hall⟩ := mem_ready.1 hj
      have hnot : ∀ e ∈ oj.after, Region.binds md e = true → e.on ≠ i := fun e he hb heq => by
        have h1 := hall e he hb
        have h0 := (mem_ready.1 hr).1
        rw [heq] at h1
        rcases Nat.lt_or_ge i listed.size with h' | h'
        · simp [h'] at h0 h1; rw [h0] at h1; cases h1
        · simp [Array.getElem?_eq_none h'] at h1
      have hnot' : ∀ e ∈ oi.after, Region.binds md e = true → e.on ≠ j := fun e he hb heq => by
        obtain ⟨-, oi', hoi', hall'⟩ := mem_ready.1 hr
        obtain rfl : oi = oi' := by rw [hi] at hoi'; injection hoi'
        have h1 := hall' e he hb
        rw [heq] at h1
        rcases Nat.lt_or_ge j listed.size with h' | h'
        · simp [h'] at hjun h1; rw [hjun] at h1; cases h1
        · simp [Array.getElem?_eq_none h'] at h1
      have h2 := wpOpIn_putJ hnd hoj (hfree j oj hoj hji hjun hnot) (fun cs b => hsel i oi cs b hi) (fun cs b => hsel j oj cs b hoj) hQ hfn hy h1
      have hfree' : ∀ k ok, ops[k]? = some ok → k ≠ i → (listed.setIfInBounds j true).getD k true = false →
          (∀ e ∈ ok.after, Region.binds md e = true → e.on ≠ i) → oi.apart ops ok = true := fun k ok hk hki hun hno => by
        refine hfree k ok hk hki ?_ hno
        by_cases hjk : j = k
        · subst hjk; exact hjun
        · rw [getD_set_ne true hjk] at hun; exact hun
      rcases hS' with ⟨hp, hS'⟩ | ⟨hp, hS'⟩
      · exact wpOpIn_mono (fun a' w' h3 => ⟨h3.2.1, ih (listed.setIfInBounds j true) a' w' hfree' (ready_mono hr (Ne.symm hji)) h3.1 (hS' w') (fun h => by rw [lastOp_pure hi hp] at h; cases h) (by rw [Array.setIfInBounds_comm _ _ hji]; exact h3.2.2)⟩) h2
      · rcases hpj : pureOp oj with _ | _
        · have hl := lastOp_no hi hoj hji hnot hp hpj hnot'
          exact wpOpIn_mono (fun a' w' h3 => ⟨h3.2.1, ih (listed.setIfInBounds j true) a' w' hfree' (ready_mono hr (Ne.symm hji)) h3.1 (hS' w' (h3.2.1 hl)) (fun _ => h3.2.1 hl) (by rw [Array.setIfInBounds_comm _ _ hji]; exact h3.2.2)⟩) h2
        · refine wpOpIn_mono (fun a' w' (h3 : w' = w ∧ YieldsIf P ops S' oi v a' ∧ _) => ⟨h3.2.2.1, ih (listed.setIfInBounds j true) a' w' hfree' (ready_mono hr (Ne.symm hji)) h3.2.1 (h3.1 ▸ hS) (fun h => h3.1 ▸ hS0 h) (by rw [Array.setIfInBounds_comm _ _ hji]; exact h3.2.2.2)⟩) (wpOpIn_pure hnd hoj hpj h2)
theorem wpAnyJ_take (i : Nat) {oi : Oper} {v : Value} {fuel : Nat} {listed : Array Bool} {a : Act} {w : World} (hfn : ∀ f, F.fn f) (hS : S w) (hi : ops[i]? = some oi) (hnd : noDef ops = true)
    (hs : Region.noSelect ops = true) (hf : Region.free md ops listed i = true) (hr : (Region.ready md ops listed).contains i = true)
    (hw : Region.wanted oi (yielded ops a.tmps) = true) (hy : ∀ w, S w → (execOp a.eval oi).run P w = .ok (.value v) w) (hQ : ∀ c a w, Q (.panic c) (a.put oi.dst v) w → Q (.panic c) a w)
    (h : wpAnyJ F n P md ops Q S fuel (listed.setIfInBounds i true) (a.put oi.dst v) w) : wpAnyJ F n P md ops Q S (fuel + 1) listed a w := by
  rcases hp : pureOp oi with _ | _
  · exact wpAnyJ_first hfn hnd hi (Region.noSelect_spec hs) hQ (.inr ⟨hp, fun _ h => h⟩) fuel listed a w (Region.free_spec hi hf) (by simpa using hr) (.inl ⟨hw, hy⟩) hS (fun _ => hS) h
  · exact wpAnyJ_first (S' := fun _ => True) hfn hnd hi (Region.noSelect_spec hs) hQ (.inl ⟨hp, fun _ => trivial⟩) fuel listed a w (Region.free_spec hi hf) (by simpa using hr) (.inl ⟨hw, fun w' _ => pure_any hp (hy w hS) w'⟩) trivial (fun _ => hS) h
/-- an operation whose value hangs on no world, behind the last store -/
theorem wpAnyJ_pure (i : Nat) {oi : Oper} {v : Value} {fuel : Nat} {listed : Array Bool} {a : Act} {w : World} (hfn : ∀ f, F.fn f) (hi : ops[i]? = some oi) (hnd : noDef ops = true)
    (hs : Region.noSelect ops = true) (hf : Region.free md ops listed i = true) (hr : (Region.ready md ops listed).contains i = true)
    (hw : Region.wanted oi (yielded ops a.tmps) = true) (hp : pureOp oi = true) (hy : (execOp a.eval oi).run P w = .ok (.value v) w) (hQ : ∀ c a w, Q (.panic c) (a.put oi.dst v) w → Q (.panic c) a w)
    (h : wpAnyJ F n P md ops Q S fuel (listed.setIfInBounds i true) (a.put oi.dst v) w) : wpAnyJ F n P md ops Q S (fuel + 1) listed a w :=
  wpAnyJ_first (S' := fun _ => True) hfn hnd hi (Region.noSelect_spec hs) hQ (.inl ⟨hp, fun _ => trivial⟩) fuel listed a w (Region.free_spec hi hf) (by simpa using hr) (.inl ⟨hw, fun w' _ => pure_any hp hy w'⟩) trivial (fun h => by rw [lastOp_pure hi hp] at h; cases h) h
/-- an operation that is not wanted -/
theorem wpAnyJ_skip (i : Nat) {oi : Oper} {fuel : Nat} {listed : Array Bool} {a : Act} {w : World} (hfn : ∀ f, F.fn f) (hS : S w) (hi : ops[i]? = some oi) (hnd : noDef ops = true)
    (hs : Region.noSelect ops = true) (hf : Region.free md ops listed i = true) (hr : (Region.ready md ops listed).contains i = true)
    (hw : Region.wanted oi (yielded ops a.tmps) = false) (hQ : ∀ c a w, Q (.panic c) (a.put oi.dst undef) w → Q (.panic c) a w)
    (h : wpAnyJ F n P md ops Q S fuel (listed.setIfInBounds i true) (a.put oi.dst undef) w) : wpAnyJ F n P md ops Q S (fuel + 1) listed a w := by
  rcases hp : pureOp oi with _ | _
  · exact wpAnyJ_first hfn hnd hi (Region.noSelect_spec hs) hQ (.inr ⟨hp, fun _ h => h⟩) fuel listed a w (Region.free_spec hi hf) (by simpa using hr) (.inr ⟨hw, rfl⟩) hS (fun _ => hS) h
  · exact wpAnyJ_first (S' := fun _ => True) hfn hnd hi (Region.noSelect_spec hs) hQ (.inl ⟨hp, fun _ => trivial⟩) fuel listed a w (Region.free_spec hi hf) (by simpa using hr) (.inr ⟨hw, rfl⟩) trivial (fun _ => hS) h
-- several loads, one after another
def Tk (_ : List Nat) (G : Prop) : Prop := G
theorem tk_start {G : Prop} (is : List Nat) (h : Tk is G) : G := h
theorem tk_end {G : Prop} (h : G) : Tk [] G := h
theorem tk_one {i : Nat} {is : List Nat} {oi : Oper} {v : Value} {fuel : Nat} {listed : Array Bool} {a : Act} {w : World} (hfn : ∀ f, F.fn f) (hS : S w) (hi : ops[i]? = some oi) (hnd : noDef ops = true)
    (hs : Region.noSelect ops = true) (hf : Region.free md ops listed i = true) (hr : (Region.ready md ops listed).contains i = true)
    (hw : Region.wanted oi (yielded ops a.tmps) = true) (hy : ∀ w, S w → (execOp a.eval oi).run P w = .ok (.value v) w) (hQ : ∀ c a w, Q (.panic c) (a.put oi.dst v) w → Q (.panic c) a w)
    (h : Tk is (wpAnyJ F n P md ops Q S fuel (listed.setIfInBounds i true) (a.put oi.dst v) w)) : Tk (i :: is) (wpAnyJ F n P md ops Q S (fuel + 1) listed a w) :=
  wpAnyJ_take i hfn hS hi hnd hs hf hr hw hy hQ h
theorem tk_skip {i : Nat} {is : List Nat} {oi : Oper} {fuel : Nat} {listed : Array Bool} {a : Act} {w : World} (hfn : ∀ f, F.fn f) (hS : S w) (hi : ops[i]? = some oi) (hnd : noDef ops = true)
    (hs : Region.noSelect ops = true) (hf : Region.free md ops listed i = true) (hr : (Region.ready md ops listed).contains i = true)
    (hw : Region.wanted oi (yielded ops a.tmps) = false) (hQ : ∀ c a w, Q (.panic c) (a.put oi.dst undef) w → Q (.panic c) a w)
    (h : Tk is (wpAnyJ F n P md ops Q S fuel (listed.setIfInBounds i true) (a.put oi.dst undef) w)) : Tk (i :: is) (wpAnyJ F n P md ops Q S (fuel + 1) listed a w) :=
  wpAnyJ_skip i hfn hS hi hnd hs hf hr hw hQ h
/-- one operation alone may come up: it is carried out -/
theorem wpAnyJ_one (i : Nat) {oi : Oper} {fuel : Nat} {listed : Array Bool} {a : Act} {w : World} (hi : ops[i]? = some oi) (hr : Region.ready md ops listed = [i])
    (h : ∀ K : Act → World → Prop, Hid (∀ a w, (lastOp md ops i = false → S w) → wpAnyJ F n P md ops Q S fuel (listed.setIfInBounds i true) a w → K a w) → if Region.wanted oi (yielded ops a.tmps) = true then oi.wpIn F n P a w K Q else (∀ f, oi.about P w a.eval = some f → F.fn f) ∧ K (a.put oi.dst undef) w) :
    wpAnyJ F n P md ops Q S (fuel + 1) listed a w := by
  refine ⟨fun h0 => (by rw [hr] at h0; cases h0), fun j hj => ?_⟩
  rw [hr] at hj
  obtain rfl := List.mem_singleton.1 hj
  have h1 := h (fun a' w' => (lastOp md ops j = false → S w') ∧ wpAnyJ F n P md ops Q S fuel (listed.setIfInBounds j true) a' w') (show Hid _ from fun a w h1 h2 => ⟨h1, h2⟩)
  unfold wpOpIn
  simp only [hi]
  exact h1
theorem wpAnyJ_done {fuel : Nat} {listed : Array Bool} {a : Act} {w : World} (hr : Region.ready md ops listed = []) (h : Q .normal a w) : wpAnyJ F n P md ops Q S fuel listed a w := by
  cases fuel with
  | zero => exact ⟨hr, h⟩
  | succ k => exact ⟨fun _ => h, by rw [hr]; simp⟩
theorem wpIn_region_J {id : Nat} {a : Act} {w : World} (S : World → Prop) (hm : P.follows .mixedOrders = true)
    (h : wpAnyJ F n P .any ops Q S ops.size (Array.replicate ops.size false) a w.drew) : (Code.region id ops true).wpIn F n P Q a w :=
  wpIn_region_any hm (wpAnyIn_of_J _ _ _ _ h)
theorem wideFn : ∀ f, Fence.wide.fn f := fun _ => trivial
/-- the same for an activation: no fence -/
theorem wp_region_J {id : Nat} {P : Program} {ops : Array Oper} {Q : Exit → Act → World → Prop} {a : Act} {w : World} (S : World → Prop) (hm : P.follows .mixedOrders = true)
    (h : wpAnyJ Fence.wide 0 P .any ops Q S ops.size (Array.replicate ops.size false) a w.drew) : (Code.region id ops true).wp P Q a w :=
  wpIn_wide.1 (wpIn_region_J S hm h)
theorem wpIn_append_run {o : Oper} {a : Act} {w w' : World} {K : Act → World → Prop} (s x : Operand) (t : TypeId) {v u r : Value} (hfn : ∀ f, F.fn f)
    (ho : o.op = .call { callee := .builtin .append, args := #[s, x], argTypes := #[t, t] }) (hs : a.eval s = v) (hx : a.eval x = u)
    (hrun : (Builtin.append_ #[t, t] o.type #[v, u]).run P w = .ok r w') (h : K (a.put o.dst r) w') : o.wpIn F n P a w K Q := by
  refine ⟨fun f _ => hfn f, ?_⟩
  rw [Oper.semAt_eq _ _ _ (fun c => by rw [ho]; simp)]
  unfold execOp
  simp only [ho, resolve, invoke, builtin, Sem.run_bind, Sem.run_pure, Result.andThen_ok, List.map_toArray, List.map_cons, List.map_nil, hs, hx, hrun]
  exact h
end
end Go.Proofs.YtagjeeimglecnaaDoor
/- Boxes known whole: what their cells hold. -/
namespace Go.Proofs.YtagjeeimglecnaaDoor
open Go Go.RowKit
section
variable {w : World} {p : Nat} {t : TypeId} {a b c d e f g : Value}
theorem bx1 (h : Blk w p t #[a]) : p < w.heap.size ∧ w.cell? ⟨p, 0, none⟩ = some a := ⟨h.lt, by rw [h.cell]; rfl⟩
theorem bx2 (h : Blk w p t #[a, b]) : p < w.heap.size ∧ w.cell? ⟨p, 0, none⟩ = some a ∧ w.cell? ⟨p, 1, none⟩ = some b := ⟨h.lt, by rw [h.cell]; rfl, by rw [h.cell]; rfl⟩
theorem bx3 (h : Blk w p t #[a, b, c]) : p < w.heap.size ∧ w.cell? ⟨p, 0, none⟩ = some a ∧ w.cell? ⟨p, 1, none⟩ = some b ∧ w.cell? ⟨p, 2, none⟩ = some c := ⟨h.lt, by rw [h.cell]; rfl, by rw [h.cell]; rfl, by rw [h.cell]; rfl⟩
theorem bx4 (h : Blk w p t #[a, b, c, d]) : p < w.heap.size ∧ w.cell? ⟨p, 0, none⟩ = some a ∧ w.cell? ⟨p, 1, none⟩ = some b ∧ w.cell? ⟨p, 2, none⟩ = some c ∧ w.cell? ⟨p, 3, none⟩ = some d :=
  ⟨h.lt, by rw [h.cell]; rfl, by rw [h.cell]; rfl, by rw [h.cell]; rfl, by rw [h.cell]; rfl⟩
theorem bx5 (h : Blk w p t #[a, b, c, d, e]) : p < w.heap.size ∧ w.cell? ⟨p, 0, none⟩ = some a ∧ w.cell? ⟨p, 1, none⟩ = some b ∧ w.cell? ⟨p, 2, none⟩ = some c ∧ w.cell? ⟨p, 3, none⟩ = some d ∧ w.cell? ⟨p, 4, none⟩ = some e :=
  ⟨h.lt, by rw [h.cell]; rfl, by rw [h.cell]; rfl, by rw [h.cell]; rfl, by rw [h.cell]; rfl, by rw [h.cell]; rfl⟩
theorem bx7 (h : Blk w p t #[a, b, c, d, e, f, g]) : p < w.heap.size ∧ w.cell? ⟨p, 0, none⟩ = some a ∧ w.cell? ⟨p, 1, none⟩ = some b ∧ w.cell? ⟨p, 2, none⟩ = some c ∧ w.cell? ⟨p, 3, none⟩ = some d ∧ w.cell? ⟨p, 4, none⟩ = some e ∧ w.cell? ⟨p, 5, none⟩ = some f ∧ w.cell? ⟨p, 6, none⟩ = some g :=
  ⟨h.lt, by rw [h.cell]; rfl, by rw [h.cell]; rfl, by rw [h.cell]; rfl, by rw [h.cell]; rfl, by rw [h.cell]; rfl, by rw [h.cell]; rfl, by rw [h.cell]; rfl⟩
end
section
variable {F : Fence} {n : Nat} {P : Program} {ops : Array Oper} {Q : Exit → Act → World → Prop} {md : Region.Mode} {S : World → Prop}
/-- one of two operations comes up -/
theorem wpAnyJ_two (i j : Nat) {oi oj : Oper} {fuel : Nat} {listed : Array Bool} {a : Act} {w : World} (hi : ops[i]? = some oi) (hj : ops[j]? = some oj) (hr : Region.ready md ops listed = [i, j])
    (h : ∀ K : Act → World → Prop, Hid (∀ a w, (lastOp md ops i = false → S w) → wpAnyJ F n P md ops Q S fuel (listed.setIfInBounds i true) a w → K a w) → if Region.wanted oi (yielded ops a.tmps) = true then oi.wpIn F n P a w K Q else (∀ f, oi.about P w a.eval = some f → F.fn f) ∧ K (a.put oi.dst undef) w)
    (h' : ∀ K : Act → World → Prop, Hid (∀ a w, (lastOp md ops j = false → S w) → wpAnyJ F n P md ops Q S fuel (listed.setIfInBounds j true) a w → K a w) → if Region.wanted oj (yielded ops a.tmps) = true then oj.wpIn F n P a w K Q else (∀ f, oj.about P w a.eval = some f → F.fn f) ∧ K (a.put oj.dst undef) w) :
    wpAnyJ F n P md ops Q S (fuel + 1) listed a w := by
  refine ⟨fun h0 => (by rw [hr] at h0; cases h0), fun k hk => ?_⟩
  rw [hr] at hk
  rcases List.mem_cons.1 hk with rfl | hk
  · have h1 := h (fun a' w' => (lastOp md ops k = false → S w') ∧ wpAnyJ F n P md ops Q S fuel (listed.setIfInBounds k true) a' w') (show Hid _ from fun a w h1 h2 => ⟨h1, h2⟩)
    unfold wpOpIn
    simp only [hi]
    exact h1
  · obtain rfl := List.mem_singleton.1 hk
    have h1 := h' (fun a' w' => (lastOp md ops k = false → S w') ∧ wpAnyJ F n P md ops Q S fuel (listed.setIfInBounds k true) a' w') (show Hid _ from fun a w h1 h2 => ⟨h1, h2⟩)
    unfold wpOpIn
    simp only [hj]
    exact h1
end
/-- a piece of code that ends normally, in one of the states that R tells; what follows is shown once -/
def OnlyNormal (R : Act → World → Prop) : Exit → Act → World → Prop
  | .normal, a, w => R a w
  | _, _, _ => False
theorem OnlyNormal.imp {R : Act → World → Prop} {Q : Exit → Act → World → Prop} (h2 : ∀ a' w', R a' w' → Q .normal a' w') : ∀ e a w, OnlyNormal R e a w → Q e a w := fun e a w h => by
  cases e with
  | normal => exact h2 a w h
  | _ => exact (h : False).elim
theorem wp_cut {P : Program} {c : Code} {Q : Exit → Act → World → Prop} {a : Act} {w : World} (R : Act → Act → World → Prop) (h1 : c.wp P (OnlyNormal (R a)) a w) (h2 : ∀ a' w', R a a' w' → Q .normal a' w') : c.wp P Q a w :=
  wp_mono h1 (OnlyNormal.imp h2)
theorem wpIn_cut {F : Fence} {n : Nat} {P : Program} {c : Code} {Q : Exit → Act → World → Prop} {a : Act} {w : World} (R : Act → Act → World → Prop) (h1 : c.wpIn F n P (OnlyNormal (R a)) a w) (h2 : ∀ a' w', R a a' w' → Q .normal a' w') : c.wpIn F n P Q a w :=
  Code.wpIn_mono (OnlyNormal.imp h2) h1
end Go.Proofs.YtagjeeimglecnaaDoor
/- A region that draws its order: loads taken first, each under a condition of its own. What an operation writes has to keep only the conditions of those that may still come behind it. -/
namespace Go.Proofs.YtagjeeimglecnaaDoor
open Go Go.RowKit
/-- may operation i come behind operation j, and does its value hang on the world -/
def needK (md : Region.Mode) (ops : Array Oper) (j i : Nat) : Bool := match ops[j]?, ops[i]? with
  | some oj, some oi => !(i == j) && !(oj.after.any fun e => Region.binds md e && e.on == i) && !pureOp oi && !(oi.after.any fun e => Region.binds md e && e.on == j)
  | _, _ => false
section
variable {F : Fence} {n : Nat} {P : Program} {ops : Array Oper} {Q : Exit → Act → World → Prop} {md : Region.Mode} {S : Nat → World → Prop}
theorem needK_yes {i j : Nat} {oi oj : Oper} (hi : ops[i]? = some oi) (hj : ops[j]? = some oj) (hji : j ≠ i) (hnot : ∀ e ∈ oj.after, Region.binds md e = true → e.on ≠ i) (hp : pureOp oi = false) (hnot' : ∀ e ∈ oi.after, Region.binds md e = true → e.on ≠ j) : needK md ops j i = true := by
  have no : ∀ (o : Oper) (k : Nat), (∀ e ∈ o.after, Region.binds md e = true → e.on ≠ k) → (o.after.any fun e => Region.binds md e && e.on == k) = false := fun o k h => by
    rw [← Bool.not_eq_true]
    intro h1
    obtain ⟨m, hm, he⟩ := Array.any_eq_true.1 h1
    simp only [Bool.and_eq_true, beq_iff_eq] at he
    exact h _ (Array.getElem_mem hm) he.1 he.2
  unfold needK
  simp only [hi, hj]
  rw [no oj i hnot, no oi j hnot', hp]
  simp [Ne.symm hji]
def wpAnyK (F : Fence) (n : Nat) (P : Program) (md : Region.Mode) (ops : Array Oper) (Q : Exit → Act → World → Prop) (S : Nat → World → Prop) : Nat → Array Bool → Act → World → Prop
  | 0, listed, a, w => Region.ready md ops listed = [] ∧ Q .normal a w
  | fuel + 1, listed, a, w =>
    (Region.ready md ops listed = [] → Q .normal a w) ∧
    ∀ i ∈ Region.ready md ops listed, wpOpIn F n P ops Q i (fun a' w' => (w' = w ∨ ∀ k, needK md ops i k = true → S k w') ∧ wpAnyK F n P md ops Q S fuel (listed.setIfInBounds i true) a' w') a w
theorem wpAnyIn_of_K : ∀ (fuel : Nat) (listed : Array Bool) (a : Act) (w : World), wpAnyK F n P md ops Q S fuel listed a w → wpAnyIn F n P md ops Q fuel listed a w
  | 0, _, _, _, h => h
  | fuel + 1, _, _, _, h => ⟨h.1, fun i hi => wpOpIn_mono (fun a' w' h' => wpAnyIn_of_K fuel _ a' w' h'.2) (h.2 i hi)⟩
theorem wpAnyK_first {S' : World → Prop} {i : Nat} {oi : Oper} {v : Value} (hfn : ∀ f, F.fn f) (hnd : noDef ops = true) (hi : ops[i]? = some oi) (hsel : ∀ (j : Nat) (o : Oper) cs b, ops[j]? = some o → o.op ≠ .select cs b)
    (hQ : ∀ c a w, Q (.panic c) (a.put oi.dst v) w → Q (.panic c) a w) (hS' : (pureOp oi = true ∧ ∀ w, S' w) ∨ (pureOp oi = false ∧ ∀ w, S i w → S' w)) :
    ∀ (fuel : Nat) (listed : Array Bool) (a : Act) (w : World),
      (∀ j oj, ops[j]? = some oj → j ≠ i → listed.getD j true = false → (∀ e ∈ oj.after, Region.binds md e = true → e.on ≠ i) → oi.apart ops oj = true) →
      i ∈ Region.ready md ops listed → YieldsIf P ops S' oi v a → S' w →
      wpAnyK F n P md ops Q S fuel (listed.setIfInBounds i true) (a.put oi.dst v) w → wpAnyK F n P md ops Q S (fuel + 1) listed a w := by
  intro fuel
  induction fuel with
  | zero =>
    intro listed a w _ hr hy hS H
    refine ⟨fun h => (by rw [h] at hr; cases hr), fun j hj => ?_⟩
    by_cases hji : j = i
    · subst hji; exact YieldsIf.wpOpIn hfn hnd hi hy hS ⟨.inl rfl, H⟩
    · have := ready_mono hj hji
      rw [H.1] at this
      cases this
  | succ fuel ih =>
    intro listed a w hfree hr hy hS H
    refine ⟨fun h => (by rw [h] at hr; cases hr), fun j hj => ?_⟩
    by_cases hji : j = i
    · subst hji; exact YieldsIf.wpOpIn hfn hnd hi hy hS ⟨.inl rfl, H⟩
    · have h1 := H.2 j (ready_mono hj hji)
      obtain ⟨hjun, oj, hoj, hall⟩ := mem_ready.1 hj
      have hnot : ∀ e ∈ oj.after, Region.binds md e = true → e.on ≠ i := fun e he hb heq => by
        have h1 := hall e he hb
        have h0 := (mem_ready.1 hr).1
        rw [heq] at h1
        rcases Nat.lt_or_ge i listed.size with h' | h'
        · simp [h'] at h0 h1; rw [h0] at h1; cases h1
        · simp [Array.getElem?_eq_none h'] at h1
      have hnot' : ∀ e ∈ oi.after, Region.binds md e = true → e.on ≠ j := fun e he hb heq => by
        obtain ⟨-, oi', hoi', hall'⟩ := mem_ready.1 hr
        obtain rfl : oi = oi' := by rw [hi] at hoi'; injection hoi'
        have h1 := hall' e he hb
        rw [heq] at h1
        rcases Nat.lt_or_ge j listed.size with h' | h'
        · simp [h'] at hjun h1; rw [hjun] at h1; cases h1
        · simp [Array.getElem?_eq_none h'] at h1
      have h2 := wpOpIn_putJ hnd hoj (hfree j oj hoj hji hjun hnot) (fun cs b => hsel i oi cs b hi) (fun cs b => hsel j oj cs b hoj) hQ hfn hy h1
      have hfree' : ∀ k ok, ops[k]? = some ok → k ≠ i → (listed.setIfInBounds j true).getD k true = false →
          (∀ e ∈ ok.after, Region.binds md e = true → e.on ≠ i) → oi.apart ops ok = true := fun k ok hk hki hun hno => by
        refine hfree k ok hk hki ?_ hno
        by_cases hjk : j = k
        · subst hjk; exact hjun
        · rw [getD_set_ne true hjk] at hun; exact hun
      refine wpOpIn_mono (fun a' w' h3 => ⟨h3.2.1, ih (listed.setIfInBounds j true) a' w' hfree' (ready_mono hr (Ne.symm hji)) h3.1 ?_ (by rw [Array.setIfInBounds_comm _ _ hji]; exact h3.2.2)⟩) h2
      rcases hS' with ⟨hp, hS'⟩ | ⟨hp, hS'⟩
      · exact hS' w'
      · rcases h3.2.1 with e | h4
        · rw [e]; exact hS
        · exact hS' w' (h4 i (needK_yes hi hoj hji hnot hp hnot'))
theorem wpAnyK_take (i : Nat) {oi : Oper} {v : Value} {fuel : Nat} {listed : Array Bool} {a : Act} {w : World} (hfn : ∀ f, F.fn f) (hS : S i w) (hi : ops[i]? = some oi) (hnd : noDef ops = true)
    (hs : Region.noSelect ops = true) (hf : Region.free md ops listed i = true) (hr : (Region.ready md ops listed).contains i = true)
    (hw : Region.wanted oi (yielded ops a.tmps) = true) (hy : ∀ w, S i w → (execOp a.eval oi).run P w = .ok (.value v) w) (hQ : ∀ c a w, Q (.panic c) (a.put oi.dst v) w → Q (.panic c) a w)
    (h : wpAnyK F n P md ops Q S fuel (listed.setIfInBounds i true) (a.put oi.dst v) w) : wpAnyK F n P md ops Q S (fuel + 1) listed a w := by
  rcases hp : pureOp oi with _ | _
  · exact wpAnyK_first hfn hnd hi (Region.noSelect_spec hs) hQ (.inr ⟨hp, fun _ h => h⟩) fuel listed a w (Region.free_spec hi hf) (by simpa using hr) (.inl ⟨hw, hy⟩) hS h
  · exact wpAnyK_first (S' := fun _ => True) hfn hnd hi (Region.noSelect_spec hs) hQ (.inl ⟨hp, fun _ => trivial⟩) fuel listed a w (Region.free_spec hi hf) (by simpa using hr) (.inl ⟨hw, fun w' _ => pure_any hp (hy w hS) w'⟩) trivial h
/-- one operation alone may come up: it is carried out -/
theorem wpAnyK_one (i : Nat) {oi : Oper} {fuel : Nat} {listed : Array Bool} {a : Act} {w : World} (hi : ops[i]? = some oi) (hr : Region.ready md ops listed = [i])
    (h : ∀ K : Act → World → Prop, Hid (∀ a' w', (w' = w ∨ ∀ k, needK md ops i k = true → S k w') → wpAnyK F n P md ops Q S fuel (listed.setIfInBounds i true) a' w' → K a' w') → if Region.wanted oi (yielded ops a.tmps) = true then oi.wpIn F n P a w K Q else (∀ f, oi.about P w a.eval = some f → F.fn f) ∧ K (a.put oi.dst undef) w) :
    wpAnyK F n P md ops Q S (fuel + 1) listed a w := by
  refine ⟨fun h0 => (by rw [hr] at h0; cases h0), fun j hj => ?_⟩
  rw [hr] at hj
  obtain rfl := List.mem_singleton.1 hj
  have h1 := h (fun a' w' => (w' = w ∨ ∀ k, needK md ops j k = true → S k w') ∧ wpAnyK F n P md ops Q S fuel (listed.setIfInBounds j true) a' w') (show Hid _ from fun a w h1 h2 => ⟨h1, h2⟩)
  unfold wpOpIn
  rw [hi]
  exact h1
theorem wpAnyK_two (i j : Nat) {oi oj : Oper} {fuel : Nat} {listed : Array Bool} {a : Act} {w : World} (hi : ops[i]? = some oi) (hj : ops[j]? = some oj) (hr : Region.ready md ops listed = [i, j])
    (h : ∀ K : Act → World → Prop, Hid (∀ a' w', (w' = w ∨ ∀ k, needK md ops i k = true → S k w') → wpAnyK F n P md ops Q S fuel (listed.setIfInBounds i true) a' w' → K a' w') → if Region.wanted oi (yielded ops a.tmps) = true then oi.wpIn F n P a w K Q else (∀ f, oi.about P w a.eval = some f → F.fn f) ∧ K (a.put oi.dst undef) w)
    (h' : ∀ K : Act → World → Prop, Hid (∀ a' w', (w' = w ∨ ∀ k, needK md ops j k = true → S k w') → wpAnyK F n P md ops Q S fuel (listed.setIfInBounds j true) a' w' → K a' w') → if Region.wanted oj (yielded ops a.tmps) = true then oj.wpIn F n P a w K Q else (∀ f, oj.about P w a.eval = some f → F.fn f) ∧ K (a.put oj.dst undef) w) :
    wpAnyK F n P md ops Q S (fuel + 1) listed a w := by
  refine ⟨fun h0 => (by rw [hr] at h0; cases h0), fun k hk => ?_⟩
  rw [hr] at hk
  rcases List.mem_cons.1 hk with rfl | hk
  · have h1 := h (fun a' w' => (w' = w ∨ ∀ m, needK md ops k m = true → S m w') ∧ wpAnyK F n P md ops Q S fuel (listed.setIfInBounds k true) a' w') (show Hid _ from fun a w h1 h2 => ⟨h1, h2⟩)
    unfold wpOpIn
    rw [hi]
    exact h1
  · obtain rfl := List.mem_singleton.1 hk
    have h1 := h' (fun a' w' => (w' = w ∨ ∀ m, needK md ops k m = true → S m w') ∧ wpAnyK F n P md ops Q S fuel (listed.setIfInBounds k true) a' w') (show Hid _ from fun a w h1 h2 => ⟨h1, h2⟩)
    unfold wpOpIn
    rw [hj]
    exact h1
theorem wpAnyK_done {fuel : Nat} {listed : Array Bool} {a : Act} {w : World} (hr : Region.ready md ops listed = []) (h : Q .normal a w) : wpAnyK F n P md ops Q S fuel listed a w := by
  cases fuel with
  | zero => exact ⟨hr, h⟩
  | succ k => exact ⟨fun _ => h, by rw [hr]; simp⟩
theorem wpIn_region_K {id : Nat} {a : Act} {w : World} (S : Nat → World → Prop) (hm : P.follows .mixedOrders = true)
    (h : wpAnyK F n P .any ops Q S ops.size (Array.replicate ops.size false) a w.drew) : (Code.region id ops true).wpIn F n P Q a w :=
  wpIn_region_any hm (wpAnyIn_of_K _ _ _ _ h)
theorem wp_region_K {id : Nat} {P : Program} {ops : Array Oper} {Q : Exit → Act → World → Prop} {a : Act} {w : World} (S : Nat → World → Prop) (hm : P.follows .mixedOrders = true)
    (h : wpAnyK Fence.wide 0 P .any ops Q S ops.size (Array.replicate ops.size false) a w.drew) : (Code.region id ops true).wp P Q a w :=
  wpIn_wide.1 (wpIn_region_K S hm h)
end
/-- the operations that an operation of a region may have ahead of others; decided -/
theorem needK_all {md : Region.Mode} {ops : Array Oper} {j : Nat} {S : Nat → World → Prop} {w : World} (l : List Nat) (h1 : ((List.range ops.size).filter fun k => needK md ops j k) = l) (h2 : ∀ k ∈ l, S k w) : ∀ k, needK md ops j k = true → S k w := fun k hk => by
  refine h2 k ?_
  rw [← h1, List.mem_filter]
  refine ⟨?_, hk⟩
  unfold needK at hk
  split at hk
  · rename_i oj oi h3 h4
    exact List.mem_range.2 (Array.getElem?_eq_some_iff.1 h4).1
  · cases hk
/-- two conditions: those of the list want A too -/
def pickS (l : List Nat) (A B : World → Prop) : Nat → World → Prop := fun i W => if l.contains i = true then A W ∧ B W else B W
theorem pickS_need {md : Region.Mode} {ops : Array Oper} {j : Nat} {l : List Nat} {A B : World → Prop} {w : World} (h : (l.all fun k => !needK md ops j k) = true) (hB : B w) : ∀ k, needK md ops j k = true → pickS l A B k w := fun k hk => by
  unfold pickS
  rcases e : l.contains k with _ | _
  · simp only [Bool.false_eq_true, if_false]; exact hB
  · have h1 := List.all_eq_true.1 h k (by simpa using e)
    rw [hk] at h1; cases h1
theorem pickS_all {md : Region.Mode} {ops : Array Oper} {j : Nat} {l : List Nat} {A B : World → Prop} {w : World} (hA : A w) (hB : B w) : ∀ k, needK md ops j k = true → pickS l A B k w := fun k hk => by
  unfold pickS
  split
  · exact ⟨hA, hB⟩
  · exact hB
theorem pickS_no {md : Region.Mode} {ops : Array Oper} {j : Nat} {S : Nat → World → Prop} {w : World} (h : ((List.range ops.size).all fun k => !needK md ops j k) = true) : ∀ k, needK md ops j k = true → S k w := fun k hk => by
  have h0 := hk
  unfold needK at hk
  split at hk
  · rename_i oj oi h3 h4
    have h1 := List.all_eq_true.1 h k (List.mem_range.2 (Array.getElem?_eq_some_iff.1 h4).1)
    rw [h0] at h1; cases h1
  · cases hk
end Go.Proofs.YtagjeeimglecnaaDoor
/- Words of this proof family that hang on no chapter: rows known whole, own rows, blocks. (Pulled out of the texts on chapter 8.) -/
namespace Go.Proofs.YtagjeeimglecnaaDoor
open Go Go.RowKit Go.Shelf
set_option maxRecDepth 100000
def upd {α : Type} (v : Nat → α) (t : Nat) (x : α) : Nat → α := fun k => if k = t then x else v k
theorem upd_same {α : Type} (v : Nat → α) (t : Nat) (x : α) : upd v t x t = x := by simp [upd]
theorem upd_ne {α : Type} (v : Nat → α) {t k : Nat} (x : α) (h : k ≠ t) : upd v t x k = v k := by simp [upd, h]
theorem upd_self {α : Type} (v : Nat → α) (t : Nat) : upd v t (v t) = v := by
  funext k
  unfold upd
  split
  · rename_i e; rw [e]
  · rfl
theorem upd_upd {α : Type} (v : Nat → α) (t : Nat) (a b : α) : upd (upd v t a) t b = upd v t b := by
  funext k; unfold upd; split <;> rfl
def rowV (n : Nat) (v : Nat → Value) : Array Value := ((List.range n).map v).toArray
theorem rowV_get (n : Nat) (v : Nat → Value) {k : Nat} (h : k < n) : (rowV n v)[k]? = some (v k) := by simp [rowV, h]
theorem rowV_set (n : Nat) (v : Nat → Value) (t : Nat) (x : Value) : (rowV n v).setIfInBounds t x = rowV n (upd v t x) := by
  apply Array.ext_getElem?
  intro k
  simp only [rowV, List.setIfInBounds_toArray, List.getElem?_toArray, List.getElem?_set, List.getElem?_map, List.length_map, List.length_range]
  by_cases hk : k < n
  · by_cases e : t = k
    · subst e; simp [hk, upd]
    · have e2 : ¬ k = t := fun h => e h.symm
      simp [hk, e, e2, upd]
  · by_cases e : t = k
    · subst e; simp [hk]
    · simp [hk, e]
theorem rowV_same (n : Nat) (v v' : Nat → Value) (h : ∀ k, k < n → v k = v' k) : rowV n v = rowV n v' := by
  unfold rowV
  congr 1
  exact List.map_congr_left (fun k hk => h k (by simpa using hk))
theorem run_make_rowN {P : Program} (t e : TypeId) (i : TypeInfo) (z : Value) (ht : P.underlying t = some (.slice e)) (hi : P.info? e = some i) (hz : i.zero = some z)
    (kl kc : IntKind) (n c : Nat) (hnc : n ≤ c) (hbytes : i.bytes * c ≤ 281474976710656) (h63 : c ≤ 9223372036854775807) (w : World) :
    (Instr.makeSlice t (.int kl (n : Int)) (.int kc (c : Int))).run P w = .ok (.slice (some ⟨w.heap.size, 0, none⟩) n c) (w.alloc (.cells (madeCells z.cells (c * i.size)) e)) := by
  have hb : (i.bytes : Int) * (c : Int) ≤ 281474976710656 := by
    have h : ((i.bytes * c : Nat) : Int) ≤ 281474976710656 := by omega
    rwa [Int.natCast_mul] at h
  have hr := run_make (P := P) w t e i z ht hi hz kl kc n c (by omega) (by omega) hb (by omega)
  simp only [Int.toNat_natCast] at hr
  exact hr
theorem rowV_made (n : Nat) : madeCells (Value.slice none 0 0).cells (n * 1) = rowV n (fun _ => .slice none 0 0) := by
  apply Array.ext_getElem?
  intro j
  simp only [rowV, madeCells, Array.getElem?_map, Array.getElem?_range, List.getElem?_toArray, List.getElem?_map, Nat.mul_one]
  by_cases hj : j < n
  · simp [hj, Value.cells, Nat.mod_one]
  · simp [hj]
theorem info_int : (Tryd.prog.info? 3).map (fun i => (i.zero, i.size, i.bytes)) = some (some (.int .i64 0), 1, 8) := by kernel_rfl
theorem own_shape {W : World} {base : Nat} {e : TypeId} {size k : Nat} {v : Value} {xs : List Value} (h : W.ownsRow base e size v k xs) : ∃ A c, v = .slice A k c := by
  rcases h.2 with ⟨rfl, rfl⟩ | ⟨g, cap, cur, rfl, _⟩
  · exact ⟨none, 0, rfl⟩
  · exact ⟨_, _, rfl⟩
theorem ownBelow {W W' : World} {base : Nat} {e : TypeId} {size k : Nat} {v : Value} {xs : List Value} (h : W.ownsRow base e size v k xs) (hb : Below W.heap.size W W') : W'.ownsRow base e size v k xs := by
  obtain ⟨h1, h2⟩ := h
  refine ⟨h1, ?_⟩
  rcases h2 with h2 | ⟨g, cap, cur, hv, hg0, hh, hrest⟩
  · exact .inl h2
  · exact .inr ⟨g, cap, cur, hv, hg0, Blk.ext (t := e) hh hb, hrest⟩
theorem Blk.keptN {W W' : World} {g : Nat} {t : TypeId} {cs : Array Value} (h : Blk W g t cs) {row : Option Nat} (hg : W.grownBy W' row) (hr : ∀ r, row = some r → ∃ o : Obj, W.heap[r]? = some o ∧ o.isCells = false) : Blk W' g t cs :=
  h.grown hg (fun e => by
    obtain ⟨o, ho, hc⟩ := hr g e.symm
    unfold Blk at h
    rw [h] at ho
    cases ho; cases hc)
theorem ownN {W W' : World} {base : Nat} {e : TypeId} {size k : Nat} {v : Value} {xs : List Value} (h : W.ownsRow base e size v k xs) {row : Option Nat} (hg : W.grownBy W' row) (hr : ∀ r, row = some r → ∃ o : Obj, W.heap[r]? = some o ∧ o.isCells = false) : W'.ownsRow base e size v k xs := by
  obtain ⟨h1, h2⟩ := h
  refine ⟨h1, ?_⟩
  rcases h2 with h2 | ⟨g, cap, cur, hv, hg0, hh, hrest⟩
  · exact .inl h2
  · exact .inr ⟨g, cap, cur, hv, hg0, Blk.keptN (t := e) hh hg hr, hrest⟩
theorem keepsO {W W' : World} (h : Below W.heap.size W W') : KeepsOthers W W' := ⟨h.size, fun k o hk _ => by
  rcases Nat.lt_or_ge k W.heap.size with hl | hl
  · exact (h.block k hl).trans hk
  · rw [Array.getElem?_eq_none hl] at hk; cases hk⟩
theorem ownMono {w : World} {base base' : Nat} {e : TypeId} {size n : Nat} {v : Value} {xs : List Value} (h : w.ownsRow base e size v n xs) (hb : base' ≤ base) : w.ownsRow base' e size v n xs := by
  obtain ⟨h1, h2⟩ := h
  refine ⟨h1, ?_⟩
  rcases h2 with h2 | ⟨g, cap, cur, hv, hg, hr⟩
  · exact .inl h2
  · exact .inr ⟨g, cap, cur, hv, by omega, hr⟩
theorem Blk.set2 {w : World} {g : Nat} {t : TypeId} {a b : Value} (h : Blk w g t #[a, b]) (u v : Value) : Blk ((w.setCell ⟨g, 0, none⟩ u).setCell ⟨g, 1, none⟩ v) g t #[u, v] := by
  simpa using (h.set_ 0 u).set_ 1 v
theorem blk3 {W : World} {g : Nat} {t : TypeId} {a b c : Value} (h : Blk W g t #[a, b, c]) :
    g < W.heap.size ∧ W.cell? ⟨g, 0, none⟩ = some a ∧ W.cell? ⟨g, 1, none⟩ = some b ∧ W.cell? ⟨g, 2, none⟩ = some c ∧ W.frozen? ⟨g, 0, none⟩ = false ∧ W.frozen? ⟨g, 1, none⟩ = false ∧ W.frozen? ⟨g, 2, none⟩ = false :=
  ⟨h.lt, by rw [h.cell]; rfl, by rw [h.cell]; rfl, by rw [h.cell]; rfl, h.frozen _, h.frozen _, h.frozen _⟩
theorem Blk.set3 {w : World} {g : Nat} {t : TypeId} {a b c : Value} (h : Blk w g t #[a, b, c]) (u v x : Value) : Blk (((w.setCell ⟨g, 0, none⟩ u).setCell ⟨g, 1, none⟩ v).setCell ⟨g, 2, none⟩ x) g t #[u, v, x] := by
  simpa using ((h.set_ 0 u).set_ 1 v).set_ 2 x
theorem set3B {B : Nat} {a w : World} (h : Below B a w) {g : Nat} (hg : B ≤ g) (u v x : Value) : Below B a (((w.setCell ⟨g, 0, none⟩ u).setCell ⟨g, 1, none⟩ v).setCell ⟨g, 2, none⟩ x) :=
  (set2B h hg u v).setCell (p := ⟨g, 2, none⟩) hg x
theorem grownBy_setC (W : World) (b i : Nat) (v : Value) : W.grownBy (W.setCell ⟨b, i, none⟩ v) (some b) :=
  ⟨rfl, rfl, rfl, by rw [size_set]; exact Nat.le_refl _, fun k _ hk => Below.heap_setCell _ _ _ k (fun e => hk (by rw [e]))⟩
theorem own_far {W W' : World} {base : Nat} {e : TypeId} {size k sc : Nat} {v : Value} {xs : List Value} (h : W.ownsRow base e size v k xs) (hg : W.grownBy W' (some sc)) (hs : sc < base) : W'.ownsRow base e size v k xs := by
  refine World.ownsRow.kept h hg ?_
  cases hv : v.ownBlock with
  | none => exact .inl rfl
  | some b => exact .inr (fun e => by
      have h1 := World.ownsRow.lt h b hv
      injection e with e
      omega)
theorem ER.kept {W W' : World} {sz n : Nat} {A : Option Addr} {f : Nat → Nat → Value} (h : ER W W.heap.size sz A n f) {r : Nat} (hg : W.grownBy W' (some r)) (hr : ∀ p, A = some p → p.block ≠ r) : ER W' W'.heap.size sz A n f := fun hn => by
  obtain ⟨b, o, e1, e2, e3⟩ := h hn
  refine ⟨b, o, e1, Nat.lt_of_lt_of_le e2 hg.size, fun k i hk hi => ?_⟩
  have hne := hr _ e1
  exact (World.cell?_of_block (hg.block b e2 (fun e => hne (by injection e)))).trans (e3 k i hk hi)
theorem rows_ne {w : World} {base base' : Nat} {e e' : TypeId} {sz sz' n n' : Nat} {v v' : Value} {xs xs' : List Value} (h : w.ownsRow base e sz v n xs) (h' : w.ownsRow base' e' sz' v' n' xs') (hne : e ≠ e') : v.ownBlock = none ∨ v.ownBlock ≠ v'.ownBlock := by
  rcases h'.2 with ⟨rfl, -⟩ | ⟨g, cap, cur, rfl, -, hg, -⟩
  · rcases h.2 with ⟨rfl, -⟩ | ⟨g', cap', cur', rfl, -⟩
    · exact .inl rfl
    · exact .inr (by simp [Value.ownBlock])
  · exact .inr (own_blk_ne h (show Blk w g e' cur from hg) hne)
theorem ints_one (n : Nat) (x : Nat → Int) : ∀ u ∈ cellsOf 1 n (fun i _ => Value.int .i64 (x i)), u.oneCell' = true := by
  intro u hu
  unfold cellsOf at hu
  obtain ⟨j, -, rfl⟩ := List.mem_map.1 hu
  rfl
theorem grownBy_setS {w w' : World} {S : Nat} (h : w.grownBy w' (some S)) (i : Nat) (v : Value) : w.grownBy (w'.setCell ⟨S, i, none⟩ v) (some S) :=
  ⟨h.os, h.tape, h.output, by rw [size_set]; exact h.size, fun j hj hne => (Below.heap_setCell _ _ _ j (fun e => hne (by rw [e]))).trans (h.block j hj hne)⟩
theorem wpList_append_run {P : Program} {w w' : World} {ops : Array Oper} {rest : List Oper} {o : Oper} {a : Act} {Q : Exit → Act → World → Prop} (hgd : o.guard = none) (s x : Operand) (t : TypeId) {v u r : Value}
    (ho : o.op = .call { callee := .builtin .append, args := #[s, x], argTypes := #[t, t] }) (hs : a.eval s = v) (hx : a.eval x = u)
    (hrun : (Builtin.append_ #[t, t] o.type #[v, u]).run P w = .ok r w') (h : wpList P ops Q rest (a.put o.dst r) w') : wpList P ops Q (o :: rest) a w :=
  wpList_plain hgd fun _ hK => by
    unfold Oper.wp execOp
    simp only [ho, resolve, invoke, builtin, Sem.run_bind, Sem.run_pure, Result.andThen_ok, List.map_toArray, List.map_cons, List.map_nil, hs, hx, hrun]
    exact hK _ _ h
theorem grown_none {W W' : World} (hb : Below W.heap.size W W') : W.grownBy W' none := ⟨hb.os, hb.tape, hb.output, hb.size, fun k hk _ => hb.block k hk⟩
end Go.Proofs.YtagjeeimglecnaaDoor
/- Contracts of chapter 8 on the book: a new book, Mould, Dry, Count. -/
namespace Go.Proofs.YtagjeeimglecnaaDoor
open Go Go.RowKit
set_option maxHeartbeats 800000
theorem info_store : (Tryd.prog.info? 95).map (fun i => (i.zero, i.size, i.bytes)) = some (some (.agg #[.int .i64 0, .int .i64 0, .int .i64 0, .int .i64 0, .int .i64 0, .int .i64 0, .int .i64 0]), 7, 56) := by kernel_rfl
def IsRow (w w' : World) (n : Nat) (x : Nat → Int) (e : Ending) : Prop :=
  ∃ A c, e = .returned (.slice A n c) ∧ w'.ownsRow w.heap.size 3 1 (.slice A n c) n (cellsOf 1 n fun k _ => .int .i64 (x k))
theorem cells_one (n : Nat) (x : Nat → Int) : ∀ u ∈ cellsOf 1 n (fun k _ => Value.int .i64 (x k)), u.oneCell' = true := by
  intro u hu
  simp only [cellsOf, List.mem_map] at hu
  obtain ⟨j, _, rfl⟩ := hu
  rfl
/-- slices.Clone of ints -/
theorem clone_any (A : Option Addr) (n c : Nat) (x : Nat → Int) (w : World) (hn : n ≤ 65536) (hn0 : 0 < n) (hR : IR w w.heap.size A n x) :
    Calls Tryd.prog 21 #[.slice A n c] w fun e w' => IsRow w w' n x e ∧ Below w.heap.size w w' := by
  obtain ⟨i0, hi, hz0, hz1, hz2⟩ := info_parts info_int
  obtain ⟨b, off, rfl, hb, hc⟩ := hR hn0
  have HR := hide hR
  clear hR hc
  have hnil := fun (W : World) => Lib.run_eql_slice_nil (P := Tryd.prog) W 34 3 (some ⟨b, off, none⟩) n c 0 0 Tryd.underlying34
  go_enter Tryd.func21, Tryd.ntmps21
  go_wp2_with (at_builtin; refine wpList_append_any _ rfl (.tmp 5) (.tmp 6) _ rfl w.heap.size 3 i0 _ 1 8 Tryd.underlying34 hi hz0 hz1 hz2 rfl (by omega) (.slice (some ⟨w.heap.size, 0, none⟩) 0 0) 0 [] rfl (own_empty w _ 1) w.heap.size (some ⟨b, off, none⟩) n c (cellsOf 1 n fun k _ => .int .i64 (x k)) rfl ((HR.out.below ((Below.refl _ _).alloc (Nat.le_refl _) _) (Nat.le_refl _)).reads (by omega)) (cells_one n x) (by unfold maxLen; omega) (by omega) (by simp) ?_; intro v1 w1 hown1 hg1 hat1)
  have hB : Below w.heap.size w w1 := ((Below.refl _ _).alloc (Nat.le_refl _) _).grown hg1 (by simp) (by simp [Value.ownBlock])
  go_ret
  rw [Nat.zero_add, List.nil_append] at hown1
  obtain ⟨A', c', hv, -, -⟩ := ER.of_own hown1 (by omega)
  exact ⟨⟨A', c', by rw [← hv]; rfl, by rw [← hv]; exact hown1⟩, hB⟩
/-- how many bricks of a kind there are -/
structure Wa where
  (wet dry burning fired laid broken missing : Int)
def Wa.zero : Wa := ⟨0, 0, 0, 0, 0, 0, 0⟩
def KindW (w : World) (S o : Nat) (x : Wa) : Prop := Kind7 w S o x.wet x.dry x.burning x.fired x.laid x.broken x.missing
def OkW (x : Wa) : Prop := Ok7 x.wet x.dry x.burning x.fired x.laid x.broken x.missing
/-- the stores of n kinds in block S -/
def Stores (w : World) (S n : Nat) (ws : Nat → Wa) : Prop := (∃ cs : Array Value, Blk w S 95 cs) ∧ ∀ k, k < n → KindW w S (k * 7) (ws k)
/-- a book in block b -/
def BookAt (w : World) (base b S n : Nat) (sp : Nat → Int) (room : Int) (ws : Nat → Wa) (ov : Value) : Prop :=
  ∃ A c, Blk w b 81 #[.slice A n c, .int .i64 room, .slice (some ⟨S, 0, none⟩) n n, ov] ∧
    w.ownsRow base 3 1 (.slice A n c) n (cellsOf 1 n fun k _ => .int .i64 (sp k)) ∧ Stores w S n ws ∧ base ≤ S ∧ base ≤ b
theorem KindW.below {w w' : World} {B S o : Nat} {x : Wa} (h : KindW w S o x) (hb : Below B w w') (hS : S < B) : KindW w' S o x := Kind7.below h hb hS
theorem Stores.below {w w' : World} {B S n : Nat} {ws : Nat → Wa} (h : Stores w S n ws) (hb : Below B w w') (hS : S < B) : Stores w' S n ws := by
  obtain ⟨⟨cs, hc⟩, hk⟩ := h
  exact ⟨⟨cs, hc.below hb hS⟩, fun k hkn => (hk k hkn).below hb hS⟩
theorem Stores.lt {w : World} {S n : Nat} {ws : Nat → Wa} (h : Stores w S n ws) : S < w.heap.size := by
  obtain ⟨⟨cs, hc⟩, -⟩ := h
  exact hc.lt
theorem Stores.alloc {w : World} {S n : Nat} {ws : Nat → Wa} (h : Stores w S n ws) (o : Obj) : Stores (w.alloc o) S n ws :=
  h.below ((Below.refl w.heap.size w).alloc (Nat.le_refl _) o) h.lt
def NewPost (n : Nat) (sp : Nat → Int) (room : Int) (w : World) (e : Ending) (w' : World) : Prop :=
  ∃ b S, e = .returned (.tuple #[.pointer (some ⟨b, 0, none⟩), .int .i64 0]) ∧ BookAt w' w.heap.size b S n sp room (fun _ => Wa.zero) (.slice none 0 0) ∧ Below w.heap.size w w'
theorem stores_made (w : World) (n : Nat) : Stores (w.alloc (.cells (madeCells #[.int .i64 0, .int .i64 0, .int .i64 0, .int .i64 0, .int .i64 0, .int .i64 0, .int .i64 0] (n * 7)) 95)) w.heap.size n (fun _ => Wa.zero) := by
  have hB := Blk.new w 95 (madeCells #[.int .i64 0, .int .i64 0, .int .i64 0, .int .i64 0, .int .i64 0, .int .i64 0, .int .i64 0] (n * 7))
  refine ⟨⟨_, hB⟩, fun k hk => ?_⟩
  have hc : ∀ i, i < n * 7 → (w.alloc (.cells (madeCells #[.int .i64 0, .int .i64 0, .int .i64 0, .int .i64 0, .int .i64 0, .int .i64 0, .int .i64 0] (n * 7)) 95)).cell? ⟨w.heap.size, i, none⟩ = some (.int .i64 0) := by
    intro i hi
    rw [hB.cell]
    have h7 : i % 7 < 7 := Nat.mod_lt _ (by omega)
    simp only [madeCells, Array.getElem?_map, Array.getElem?_range, hi, if_true, Option.map_some]
    congr 1
    rcases (by omega : i % 7 = 0 ∨ i % 7 = 1 ∨ i % 7 = 2 ∨ i % 7 = 3 ∨ i % 7 = 4 ∨ i % 7 = 5 ∨ i % 7 = 6) with h | h | h | h | h | h | h <;> simp [h]
  exact ⟨hB.lt, fun i => hB.frozen i, hc _ (by omega), hc _ (by omega), hc _ (by omega), hc _ (by omega), hc _ (by omega), hc _ (by omega), hc _ (by omega)⟩
def newOk (n : Nat) (sp : Nat → Int) (room : Int) : Bool := decide (1 ≤ n) && decide (n ≤ 20) && wiB 1 1000 sp n && decide (0 ≤ room ∧ room ≤ 1000000000)
theorem new_err (A : Option Addr) (n c : Nat) (sp : Nat → Int) (room : Int) (w : World) (hn : n ≤ 65536) (hR : IR w w.heap.size A n sp) (h : newOk n sp room = false) :
    Calls Tryd.prog 7 #[.slice A n c, .int .i64 room] w fun e w' => e = .returned (.tuple #[.pointer none, .int .i64 2]) ∧ Below w.heap.size w w' := by
  have HC := hide (fun W (h : Below w.heap.size w W) => kwithin_any 1 1000 A n c sp W (by unfold maxLen; omega) ((hR.below h (Nat.le_refl _)).more h.size))
  clear hR
  rcases (by omega : n < 1 ∨ 20 < n ∨ (1 ≤ n ∧ n ≤ 20)) with h1 | h1 | ⟨h1, h2⟩
  · go_enter Tryd.func7, Tryd.ntmps7
    go_wp2_with fail
    go_ret2
    exact ⟨rfl, Below.refl _ _⟩
  · go_enter Tryd.func7, Tryd.ntmps7
    go_wp2_with fail
    go_ret2
    exact ⟨rfl, Below.refl _ _⟩
  · rcases hw : wiB 1 1000 sp n with _ | _
    · rw [hw] at HC
      clear h hw
      go_enter Tryd.func7, Tryd.ntmps7
      go_wp2_with fail
      refine (HC.out _ (Below.refl _ _)).mono ?_
      rintro e w1 ⟨rfl, hb1⟩
      go_wp2_with fail
      go_ret2
      exact ⟨rfl, hb1⟩
    · have h3 : ¬ (0 ≤ room ∧ room ≤ 1000000000) := by
        simp only [newOk, hw, h1, h2, decide_true, Bool.true_and, decide_eq_false_iff_not] at h
        exact h
      rw [hw] at HC
      have HD := hide (decide_eq_false h3)
      clear h hw h3
      go_enter Tryd.func7, Tryd.ntmps7
      go_wp2_with fail
      refine (HC.out _ (Below.refl _ _)).mono ?_
      rintro e w1 ⟨rfl, hb1⟩
      go_wp2_with fail
      refine (kwithin_any 0 1000000000 _ 1 1 (fun _ => room) _ (by decide) ?_).mono ?_
      · simpa using IR.one w1 room 3
      rw [wiB_one, HD.out]
      rintro e w2 ⟨rfl, hb2⟩
      go_wp2_with fail
      go_ret2
      exact ⟨rfl, (hb1.alloc hb1.size _).trans (hb2.mono (by have := hb1.size; simp only [World.size_alloc]; omega))⟩
theorem new_ok (A : Option Addr) (n c : Nat) (sp : Nat → Int) (room : Int) (w : World) (hR : IR w w.heap.size A n sp) (h : newOk n sp room = true) :
    Calls Tryd.prog 7 #[.slice A n c, .int .i64 room] w (NewPost n sp room w) := by
  simp only [newOk, Bool.and_eq_true, decide_eq_true_eq] at h
  obtain ⟨⟨⟨h1, h2⟩, hw⟩, h3⟩ := h
  have HC := hide (fun W (h : Below w.heap.size w W) => kwithin_any 1 1000 A n c sp W (by unfold maxLen; omega) ((hR.below h (Nat.le_refl _)).more h.size))
  rw [hw] at HC
  have HD := hide (decide_eq_true h3)
  have HE := hide (fun W (h : Below w.heap.size w W) => clone_any A n c sp W (by omega) (by omega) ((hR.below h (Nat.le_refl _)).more h.size))
  obtain ⟨i0, hi, hz0, hz1, hz2⟩ := info_parts info_store
  have HM := hide (fun W : World => run_make_rowN (P := Tryd.prog) 79 95 i0 _ Tryd.underlying79 hi hz0 .i64 .i64 n n (Nat.le_refl _) (by rw [hz2]; omega) (by omega) W)
  rw [hz1] at HM
  clear hR hw h3 hi hz0 hz1 hz2
  go_enter Tryd.func7, Tryd.ntmps7
  go_wp2_with fail
  refine (HC.out _ (Below.refl _ _)).mono ?_
  rintro e w1 ⟨rfl, hb1⟩
  go_wp2_with fail
  refine (kwithin_any 0 1000000000 _ 1 1 (fun _ => room) _ (by decide) ?_).mono ?_
  · simpa using IR.one w1 room 3
  rw [wiB_one, HD.out]
  rintro e w2 ⟨rfl, hb2⟩
  have hB2 : Below w.heap.size w w2 := (hb1.alloc hb1.size _).trans (hb2.mono (by have := hb1.size; simp only [World.size_alloc]; omega))
  clear hb1 hb2
  go_wp2_with fail
  have hmk := HM.out
  go_region_with ((go_at_call 21; refine (HE.out _ ?_).mono ?_; (first | exact hB2.drew | exact (hB2.alloc hB2.size _).drew); rintro e w3 ⟨⟨A', c', rfl, hown⟩, hb3⟩))
  · go_wp2_with fail
    go_ret2
    have z2 : w2.heap.size ≤ w3.heap.size := hb3.size
    have z0 := hB2.size
    refine ⟨w3.heap.size + 1, w3.heap.size, rfl, ⟨A', c', ?_, (ownMono hown (by simpa using z0)).alloc _ |>.alloc _, ?_, by omega, by omega⟩, ((hB2.drew.trans (hb3.mono (by simpa using z0))).alloc (by omega) _).alloc (by simp only [World.size_alloc]; omega) _⟩
    · have := Blk.new (w3.alloc (.cells (madeCells #[.int .i64 0, .int .i64 0, .int .i64 0, .int .i64 0, .int .i64 0, .int .i64 0, .int .i64 0] (n * 7)) 95)) 81 #[.slice A' n c', .int .i64 room, .slice (some ⟨w3.heap.size, 0, none⟩) n n, .slice none 0 0]
      rw [World.size_alloc] at this
      exact this
    · exact Stores.alloc (stores_made w3 n) _
  · go_wp2_with fail
    go_ret2
    have z2 : w2.heap.size + 1 ≤ w3.heap.size := by have := hb3.size; simpa using this
    have z0 := hB2.size
    have hst : Stores w3 w2.heap.size n (fun _ => Wa.zero) := Stores.below (stores_made w2 n) (w' := w3) (B := w2.heap.size + 1) ⟨hb3.os, hb3.tape, hb3.output, hb3.size, fun k hk => hb3.block k (by simp only [World.size_alloc, World.drew]; simpa using hk)⟩ (by omega)
    refine ⟨w3.heap.size, w2.heap.size, rfl, ⟨A', c', Blk.new w3 _ _, (ownMono hown (by simp; omega)).alloc _, Stores.alloc hst _, by omega, by omega⟩, (((hB2.alloc z0 _).drew.trans (hb3.mono (by simp; omega))).alloc (by omega) _)⟩
end Go.Proofs.YtagjeeimglecnaaDoor
/- Contracts of chapter 8 on the book: Mould, Dry, Count of a valid kind. -/
namespace Go.Proofs.YtagjeeimglecnaaDoor
open Go Go.RowKit
set_option maxHeartbeats 800000
theorem mould_full (b S n k : Nat) (spv ov : Value) (room m : Int) (x : Wa) (w : World) (hb : Blk w b 81 #[spv, .int .i64 room, .slice (some ⟨S, 0, none⟩) n n, ov]) (hn : n ≤ 20) (hk : k < n) (hS : KindW w S (k * 7) x) (ho : OkW x) (h0 : 0 ≤ m) (h1 : m ≤ 1000000000) (hf : 1000000000 < x.wet + x.dry + x.burning + x.fired + x.laid + x.broken + m) :
    Calls Tryd.prog 9 #[.pointer (some ⟨b, 0, none⟩), .int .i64 k, .int .i64 m] w fun e w' => e = .returned (.int .i64 8) ∧ Below w.heap.size w w' := by
  have b0 : Below w.heap.size w (w.alloc (.cells #[.int .i64 m] 3)) := (Below.refl _ _).alloc (Nat.le_refl _) _
  have HC := hide (change_ok b S n k spv ov room m 8 25 #[.pointer (some ⟨w.heap.size, 0, none⟩)] id _ (hb.ext b0) hn hk h0 h1 (enters_of Tryd.func25 (by kernel_rfl) rfl) (fun W h => h) (fun W h => mould1_full _ _ _ _ _ _ _ m S (k * 7) w.heap.size W ((hS.below b0 hS.1).below h (by have := hS.1; simp only [World.size_alloc]; omega)) ho ((h.cell (by simp)).trans (by simp)) (by have := h.size; simp at this; omega) h0 h1 hf))
  have B0 := hide b0
  clear b0 hb hS
  go_enter Tryd.func9, Tryd.ntmps9
  go_wp2_with fail
  refine HC.out.mono ?_
  rintro e w1 ⟨rfl, hb1⟩
  go_wp2_with fail
  go_ret
  exact ⟨rfl, B0.out.trans (hb1.mono (by simp only [World.size_alloc]; omega))⟩
theorem mould_ok (b S n k : Nat) (spv ov : Value) (room m : Int) (x : Wa) (w : World) (hb : Blk w b 81 #[spv, .int .i64 room, .slice (some ⟨S, 0, none⟩) n n, ov]) (hn : n ≤ 20) (hk : k < n) (hS : KindW w S (k * 7) x) (ho : OkW x) (h0 : 0 ≤ m) (h1 : m ≤ 1000000000) (hf : x.wet + x.dry + x.burning + x.fired + x.laid + x.broken + m ≤ 1000000000) :
    Calls Tryd.prog 9 #[.pointer (some ⟨b, 0, none⟩), .int .i64 k, .int .i64 m] w fun e w' => e = .returned (.int .i64 0) ∧ Below w.heap.size (w.setCell ⟨S, k * 7, none⟩ (.int .i64 (x.wet + m))) w' := by
  have b0 : Below w.heap.size w (w.alloc (.cells #[.int .i64 m] 3)) := (Below.refl _ _).alloc (Nat.le_refl _) _
  have HC := hide (change_ok b S n k spv ov room m 0 25 #[.pointer (some ⟨w.heap.size, 0, none⟩)] (fun W => W.setCell ⟨S, k * 7, none⟩ (.int .i64 (x.wet + m))) _ (hb.ext b0) hn hk h0 h1 (enters_of Tryd.func25 (by kernel_rfl) rfl) (fun W h => setB h _ _) (fun W h => mould1_ok _ _ _ _ _ _ _ m S (k * 7) w.heap.size W ((hS.below b0 hS.1).below h (by have := hS.1; simp only [World.size_alloc]; omega)) ho ((h.cell (by simp)).trans (by simp)) (by have := h.size; simp at this; omega) h0 h1 hf))
  have B0 := hide b0
  clear b0 hb hS
  go_enter Tryd.func9, Tryd.ntmps9
  go_wp2_with fail
  refine HC.out.mono ?_
  rintro e w1 ⟨rfl, hb1⟩
  go_wp2_with fail
  go_ret
  exact ⟨rfl, (setB B0.out _ _).trans (hb1.mono (by simp only [World.size_alloc]; omega))⟩
theorem dry_arg (b S n k : Nat) (spv ov : Value) (room m : Int) (x : Wa) (w : World) (hb : Blk w b 81 #[spv, .int .i64 room, .slice (some ⟨S, 0, none⟩) n n, ov]) (hn : n ≤ 20) (hk : k < n) (hS : KindW w S (k * 7) x) (ho : OkW x) (br : Int) (h0 : 0 ≤ m) (h1 : m ≤ 1000000000) (hbr : ¬ (0 ≤ br ∧ br ≤ m)) :
    Calls Tryd.prog 10 #[.pointer (some ⟨b, 0, none⟩), .int .i64 k, .int .i64 m, .int .i64 br] w fun e w' => e = .returned (.int .i64 2) ∧ Below w.heap.size w w' := by
  have b0 : Below w.heap.size w ((w.alloc (.cells #[.int .i64 m] 3)).alloc (.cells #[.int .i64 br] 3)) := ((Below.refl _ _).alloc (Nat.le_refl _) _).alloc (by simp) _
  have q1 : ((w.alloc (.cells #[.int .i64 m] 3)).alloc (.cells #[.int .i64 br] 3)).heap.size = w.heap.size + 1 + 1 := by simp
  have HC := hide (change_ok b S n k spv ov room m 2 27 #[.pointer (some ⟨w.heap.size, 0, none⟩), .pointer (some ⟨w.heap.size + 1, 0, none⟩)] id _ (hb.ext b0) hn hk h0 h1 (enters_of Tryd.func27 (by kernel_rfl) rfl) ?_ (fun W h => dry1_arg _ _ _ _ _ _ _ m br S (k * 7) w.heap.size (w.heap.size + 1) W ((hS.below b0 hS.1).below h (by have := hS.1; omega)) ho ((h.cell (by simp; omega)).trans (by simp [go_sem])) ((h.cell (by simp)).trans (by simp [go_sem])) hbr))
  · have B0 := hide b0
    clear b0 hb hS q1
    go_enter Tryd.func10, Tryd.ntmps10
    go_wp2_with fail
    refine HC.out.mono ?_
    rintro e w1 ⟨rfl, hb1⟩
    go_wp2_with fail
    go_ret
    exact ⟨rfl, B0.out.trans (hb1.mono (by simp only [World.size_alloc]; omega))⟩
  · exact fun W h => h
theorem dry_state (b S n k : Nat) (spv ov : Value) (room m : Int) (x : Wa) (w : World) (hb : Blk w b 81 #[spv, .int .i64 room, .slice (some ⟨S, 0, none⟩) n n, ov]) (hn : n ≤ 20) (hk : k < n) (hS : KindW w S (k * 7) x) (ho : OkW x) (br : Int) (h0 : 0 ≤ m) (h1 : m ≤ 1000000000) (hbr : 0 ≤ br ∧ br ≤ m) (hlt : x.wet < m) :
    Calls Tryd.prog 10 #[.pointer (some ⟨b, 0, none⟩), .int .i64 k, .int .i64 m, .int .i64 br] w fun e w' => e = .returned (.int .i64 9) ∧ Below w.heap.size w w' := by
  have b0 : Below w.heap.size w ((w.alloc (.cells #[.int .i64 m] 3)).alloc (.cells #[.int .i64 br] 3)) := ((Below.refl _ _).alloc (Nat.le_refl _) _).alloc (by simp) _
  have q1 : ((w.alloc (.cells #[.int .i64 m] 3)).alloc (.cells #[.int .i64 br] 3)).heap.size = w.heap.size + 1 + 1 := by simp
  have HC := hide (change_ok b S n k spv ov room m 9 27 #[.pointer (some ⟨w.heap.size, 0, none⟩), .pointer (some ⟨w.heap.size + 1, 0, none⟩)] id _ (hb.ext b0) hn hk h0 h1 (enters_of Tryd.func27 (by kernel_rfl) rfl) ?_ (fun W h => dry1_state _ _ _ _ _ _ _ m br S (k * 7) w.heap.size (w.heap.size + 1) W ((hS.below b0 hS.1).below h (by have := hS.1; omega)) ho ((h.cell (by simp; omega)).trans (by simp [go_sem])) ((h.cell (by simp)).trans (by simp [go_sem])) (by have := h.size; omega) hbr hlt))
  · have B0 := hide b0
    clear b0 hb hS q1
    go_enter Tryd.func10, Tryd.ntmps10
    go_wp2_with fail
    refine HC.out.mono ?_
    rintro e w1 ⟨rfl, hb1⟩
    go_wp2_with fail
    go_ret
    exact ⟨rfl, B0.out.trans (hb1.mono (by simp only [World.size_alloc]; omega))⟩
  · exact fun W h => h
def dryF (S o : Nat) (x : Wa) (m br : Int) (W : World) : World := mv (mv W S o (o + 1) (x.wet - m) (x.dry + m)) S (o + 1) (o + 5) (x.dry + m - br) (x.broken + br)
theorem dryF_B {B S o : Nat} {x : Wa} {m br : Int} {w W : World} (h : Below B w W) : Below B (dryF S o x m br w) (dryF S o x m br W) := mvB (mvB h _ _ _ _ _) _ _ _ _ _
theorem dry_ok (b S n k : Nat) (spv ov : Value) (room m : Int) (x : Wa) (w : World) (hb : Blk w b 81 #[spv, .int .i64 room, .slice (some ⟨S, 0, none⟩) n n, ov]) (hn : n ≤ 20) (hk : k < n) (hS : KindW w S (k * 7) x) (ho : OkW x) (br : Int) (h0 : 0 ≤ m) (h1 : m ≤ 1000000000) (hbr : 0 ≤ br ∧ br ≤ m) (hlt : m ≤ x.wet) :
    Calls Tryd.prog 10 #[.pointer (some ⟨b, 0, none⟩), .int .i64 k, .int .i64 m, .int .i64 br] w fun e w' => e = .returned (.int .i64 0) ∧ Below w.heap.size (dryF S (k * 7) x m br w) w' := by
  have b0 : Below w.heap.size w ((w.alloc (.cells #[.int .i64 m] 3)).alloc (.cells #[.int .i64 br] 3)) := ((Below.refl _ _).alloc (Nat.le_refl _) _).alloc (by simp) _
  have q1 : ((w.alloc (.cells #[.int .i64 m] 3)).alloc (.cells #[.int .i64 br] 3)).heap.size = w.heap.size + 1 + 1 := by simp
  have HC := hide (change_ok b S n k spv ov room m 0 27 #[.pointer (some ⟨w.heap.size, 0, none⟩), .pointer (some ⟨w.heap.size + 1, 0, none⟩)] (dryF S (k * 7) x m br) _ (hb.ext b0) hn hk h0 h1 (enters_of Tryd.func27 (by kernel_rfl) rfl) ?_ (fun W h => dry1_ok _ _ _ _ _ _ _ m br S (k * 7) w.heap.size (w.heap.size + 1) W ((hS.below b0 hS.1).below h (by have := hS.1; omega)) ho ((h.cell (by simp; omega)).trans (by simp [go_sem])) ((h.cell (by simp)).trans (by simp [go_sem])) (by have := h.size; omega) (by have := h.size; omega) (by have := hS.1; omega) (by have := hS.1; omega) hbr hlt))
  · have B0 := hide b0
    clear b0 hb hS q1
    go_enter Tryd.func10, Tryd.ntmps10
    go_wp2_with fail
    refine HC.out.mono ?_
    rintro e w1 ⟨rfl, hb1⟩
    go_wp2_with fail
    go_ret
    exact ⟨rfl, (dryF_B B0.out).trans (hb1.mono (by simp only [World.size_alloc]; omega))⟩
  · exact fun W h => dryF_B h
def agg7 (x : Wa) : Value := .agg #[.int .i64 x.wet, .int .i64 x.dry, .int .i64 x.burning, .int .i64 x.fired, .int .i64 x.laid, .int .i64 x.broken, .int .i64 x.missing]
def set7W (q : Nat) (x : Wa) (W : World) : World := set7 W q x.wet x.dry x.burning x.fired x.laid x.broken x.missing
theorem set7B {B q : Nat} {x : Wa} {w W : World} (h : Below B w W) : Below B (set7W q x w) (set7W q x W) := setB (setB (setB (setB (setB (setB (setB h _ _) _ _) _ _) _ _) _ _) _ _) _ _
theorem set7_blk {w : World} {q : Nat} {t : TypeId} {a b c d e f g : Value} (h : Blk w q t #[a, b, c, d, e, f, g]) (x : Wa) :
    Blk (set7W q x w) q t #[.int .i64 x.wet, .int .i64 x.dry, .int .i64 x.burning, .int .i64 x.fired, .int .i64 x.laid, .int .i64 x.broken, .int .i64 x.missing] := by
  unfold set7W set7
  simpa using ((((((h.set_ 0 (.int .i64 x.wet)).set_ 1 (.int .i64 x.dry)).set_ 2 (.int .i64 x.burning)).set_ 3 (.int .i64 x.fired)).set_ 4 (.int .i64 x.laid)).set_ 5 (.int .i64 x.broken)).set_ 6 (.int .i64 x.missing)
theorem size_set7 (q : Nat) (x : Wa) (W : World) : (set7W q x W).heap.size = W.heap.size := by simp [set7W, set7, size_set]
theorem set7_new {B q : Nat} {x : Wa} {w W : World} (h : Below B w W) (hq : B ≤ q) : Below B w (set7W q x W) :=
  ((((((h.setCell (p := ⟨q, 0, none⟩) hq _).setCell (p := ⟨q, 1, none⟩) hq _).setCell (p := ⟨q, 2, none⟩) hq _).setCell (p := ⟨q, 3, none⟩) hq _).setCell (p := ⟨q, 4, none⟩) hq _).setCell (p := ⟨q, 5, none⟩) hq _).setCell (p := ⟨q, 6, none⟩) hq _
theorem count_ok (b S n k : Nat) (spv ov : Value) (room : Int) (x : Wa) (w : World) (hb : Blk w b 81 #[spv, .int .i64 room, .slice (some ⟨S, 0, none⟩) n n, ov]) (hn : n ≤ 20) (hk : k < n) (hS : KindW w S (k * 7) x) (ho : OkW x) :
    Calls Tryd.prog 14 #[.pointer (some ⟨b, 0, none⟩), .int .i64 k] w fun e w' => e = .returned (.tuple #[agg7 x, .int .i64 0]) ∧ Below w.heap.size w w' := by
  have b0 : Below w.heap.size w (w.alloc (.cells #[.int .i64 0, .int .i64 0, .int .i64 0, .int .i64 0, .int .i64 0, .int .i64 0, .int .i64 0] 47)) := (Below.refl _ _).alloc (Nat.le_refl _) _
  have k0 := Blk.new w 47 #[.int .i64 0, .int .i64 0, .int .i64 0, .int .i64 0, .int .i64 0, .int .i64 0, .int .i64 0]
  have HC := hide (change_ok b S n k spv ov room 0 0 31 #[.pointer (some ⟨w.heap.size, 0, none⟩)] (set7W w.heap.size x) _ (hb.ext b0) hn hk (by omega) (by omega) (enters_of Tryd.func31 (by kernel_rfl) rfl) (fun W h => set7B h) (fun W h => count1_any _ _ _ _ _ _ _ S (k * 7) w.heap.size _ _ _ _ _ _ _ _ W ((hS.below b0 hS.1).below h (by have := hS.1; simp only [World.size_alloc]; omega)) ho (k0.ext h) (by have := hS.1; omega)))
  have B0 := hide b0
  have K0 := hide (set7_blk k0 x)
  clear b0 hb hS k0
  go_enter Tryd.func14, Tryd.ntmps14
  go_wp2_with fail
  refine HC.out.mono ?_
  rintro e w1 ⟨rfl, hb1⟩
  have K1 := K0.out.below hb1 (by simp)
  have c0 := K1.cell 0
  have c1 := K1.cell 1
  have c2 := K1.cell 2
  have c3 := K1.cell 3
  have c4 := K1.cell 4
  have c5 := K1.cell 5
  have c6 := K1.cell 6
  have f0 := K1.frozen 0
  have f1 := K1.frozen 1
  have f2 := K1.frozen 2
  have f3 := K1.frozen 3
  have f4 := K1.frozen 4
  have f5 := K1.frozen 5
  have f6 := K1.frozen 6
  have hz := K1.lt
  simp at c0 c1 c2 c3 c4 c5 c6
  clear K1
  go_wp2_with fail
  refine bodyPost_ret (v := .tuple #[agg7 x, .int .i64 0]) (by simp [results, Tryd.results14, go_sem, agg7, *]) rfl ⟨rfl, ?_⟩
  exact set7_new (x := x) ((set7_new B0.out (Nat.le_refl _)).trans (hb1.mono (by simp only [World.size_alloc]; omega))) (Nat.le_refl _)
end Go.Proofs.YtagjeeimglecnaaDoor
/- Split off XMa: words that hang on less of the program. -/
namespace Go.Proofs.YtagjeeimglecnaaDoor
open List renaming getElem_toArray → glA, getElem_cons_zero → glB, getElem_cons_succ → glC, setIfInBounds_toArray → glD, set_cons_zero → glE, set_cons_succ → glF
open Go Go.RowKit
set_option maxHeartbeats 1000000
theorem lay1_state (a b c d e f g n : Int) (S o p : Nat) (w : World) (hk : Kind7 w S o a b c d e f g) (ho : Ok7 a b c d e f g) (hp : w.cell? ⟨p, 0, none⟩ = some (.int .i64 n)) (hpl : p < w.heap.size) (hpS : p ≠ S) (hn : 0 ≤ n) (hn2 : n ≤ 1000000000) (hlt : d < n) : Calls Tryd.prog 30 #[.pointer (some ⟨S, o, none⟩), .pointer (some ⟨p, 0, none⟩)] w fun en w' => en = .returned (.int .i64 9) ∧ Below w.heap.size w w' := by
  obtain ⟨h0, hf, h1, h2, h3, h4, h5, h6, h7⟩ := hk
  obtain ⟨o1, o2, o3, o4, o5, o6, o7, o8, o9⟩ := ho
  have HM := hide (move_lt n d S (o + 3) S (o + 4) w.drew h4 hlt)
  have HP : Hid (w.drew.cell? ⟨p, 0, none⟩ = some (.int .i64 n)) := hide hp
  clear hf h1 h2 h3 h4 h5 h6 h7 hp
  go_enter Tryd.func30, Tryd.ntmps30
  go_wp2_with fail
  refine wp_region_J (fun W : World => W.cell? ⟨p, 0, none⟩ = some (.int .i64 n)) (by kernel_rfl) ?_
  refine tk_start [0, 1, 2, 3, 4, 5, 6, 7, 8] ?_
  iterate 9
    refine tk_one (v := ?_) (by first | exact hF | exact wideFn) HP.out rfl (by kernel_rfl) (by kernel_rfl) (by kernel_rfl) (by kernel_rfl) rfl ?_ (by first | exact fun _ _ _ h => h | exact fun _ _ _ h => hQ2 _ _ _ _ _ h) ?_
    rotate_left
    · intro W hSW
      simp only [glA, glB, glC]
      (try dsimp only at hSW)
      go_simp
      with_reducible rfl
    (try simp only [glA, glB, glC, Act.put, glD, glE, glF])
  refine tk_end ?_
  refine wpAnyJ_one 9 rfl (by kernel_rfl) (fun K hK => ?_)
  simp only [glA, glB, glC]
  go_simp
  refine ⟨trivial, rfl, ?_⟩
  refine (callsIn_wide.2 HM.out).mono ?_
  rintro e w2 ⟨rfl, rfl⟩
  skip
  dsimp only
  refine hK.out _ _ (fun _ => HP.out) ?_
  clear hK K
  (try simp only [glA, glB, glC, Act.put, glD, glE, glF])
  refine wpAnyJ_take 10 (v := ?_) (by first | exact hF | exact wideFn) HP.out rfl (by kernel_rfl) (by kernel_rfl) (by kernel_rfl) (by kernel_rfl) rfl ?_ (by first | exact fun _ _ _ h => h | exact fun _ _ _ h => hQ2 _ _ _ _ _ h) ?_
  rotate_left
  · intro W hSW
    simp only [glA, glB, glC]
    (try dsimp only at hSW)
    go_simp
    with_reducible rfl
  (try simp only [glA, glB, glC, Act.put, glD, glE, glF])
  refine wpAnyJ_done (by kernel_rfl) ?_
  go_wp2_with fail
  go_ret
  exact ⟨rfl, (Below.refl _ _).drew⟩
theorem lay1_ok (a b c d e f g n : Int) (S o p : Nat) (w : World) (hk : Kind7 w S o a b c d e f g) (ho : Ok7 a b c d e f g) (hp : w.cell? ⟨p, 0, none⟩ = some (.int .i64 n)) (hpl : p < w.heap.size) (hpS : p ≠ S) (hn : 0 ≤ n) (hn2 : n ≤ 1000000000) (hlt : n ≤ d) : Calls Tryd.prog 30 #[.pointer (some ⟨S, o, none⟩), .pointer (some ⟨p, 0, none⟩)] w fun en w' => en = .returned (.int .i64 0) ∧ Below w.heap.size (mv w S (o + 3) (o + 4) (d - n) (e + n)) w' := by
  obtain ⟨h0, hf, h1, h2, h3, h4, h5, h6, h7⟩ := hk
  obtain ⟨o1, o2, o3, o4, o5, o6, o7, o8, o9⟩ := ho
  have HM := hide (move_ok n d e S (o + 3) (o + 4) w.drew h4 h5 hf (by omega) hlt hn (by omega) (by omega) (by omega))
  have HP : Hid (w.drew.cell? ⟨p, 0, none⟩ = some (.int .i64 n)) := hide hp
  have HQ : Hid (∀ W, Below w.heap.size (mv w S (o + 3) (o + 4) (d - n) (e + n)) W → W.cell? ⟨p, 0, none⟩ = some (.int .i64 n)) := hide (fun W h => (h.cell (p := ⟨p, 0, none⟩) hpl).trans ((mv_far hpS).trans hp))
  clear hf h1 h2 h3 h4 h5 h6 h7 hp
  go_enter Tryd.func30, Tryd.ntmps30
  go_wp2_with fail
  refine wp_region_J (fun W : World => W.cell? ⟨p, 0, none⟩ = some (.int .i64 n)) (by kernel_rfl) ?_
  refine tk_start [0, 1, 2, 3, 4, 5, 6, 7, 8] ?_
  iterate 9
    refine tk_one (v := ?_) (by first | exact hF | exact wideFn) HP.out rfl (by kernel_rfl) (by kernel_rfl) (by kernel_rfl) (by kernel_rfl) rfl ?_ (by first | exact fun _ _ _ h => h | exact fun _ _ _ h => hQ2 _ _ _ _ _ h) ?_
    rotate_left
    · intro W hSW
      simp only [glA, glB, glC]
      (try dsimp only at hSW)
      go_simp
      with_reducible rfl
    (try simp only [glA, glB, glC, Act.put, glD, glE, glF])
  refine tk_end ?_
  refine wpAnyJ_one 9 rfl (by kernel_rfl) (fun K hK => ?_)
  simp only [glA, glB, glC]
  go_simp
  refine ⟨trivial, rfl, ?_⟩
  refine (callsIn_wide.2 HM.out).mono ?_
  rintro e w2 ⟨rfl, hb2⟩
  have hb2' : Below w.heap.size (mv w S (o + 3) (o + 4) (d - n) (e + n)) w2 := ⟨hb2.os, hb2.tape, hb2.output, hb2.size, hb2.block⟩
  dsimp only
  refine hK.out _ _ (fun _ => HQ.out _ hb2') ?_
  clear hK K
  (try simp only [glA, glB, glC, Act.put, glD, glE, glF])
  refine wpAnyJ_take 10 (v := ?_) (by first | exact hF | exact wideFn) (HQ.out _ hb2') rfl (by kernel_rfl) (by kernel_rfl) (by kernel_rfl) (by kernel_rfl) rfl ?_ (by first | exact fun _ _ _ h => h | exact fun _ _ _ h => hQ2 _ _ _ _ _ h) ?_
  rotate_left
  · intro W hSW
    simp only [glA, glB, glC]
    (try dsimp only at hSW)
    go_simp
    with_reducible rfl
  (try simp only [glA, glB, glC, Act.put, glD, glE, glF])
  refine wpAnyJ_done (by kernel_rfl) ?_
  go_wp2_with fail
  go_ret
  exact ⟨rfl, hb2'⟩
end Go.Proofs.YtagjeeimglecnaaDoor
/- Split off XLb: words that hang on less of the program. -/
namespace Go.Proofs.YtagjeeimglecnaaDoor
open Go Go.RowKit Go.Shelf
set_option maxHeartbeats 1000000
def Wa.get (x : Wa) (i : Nat) : Int := if i = 0 then x.wet else if i = 1 then x.dry else if i = 2 then x.burning else if i = 3 then x.fired else if i = 4 then x.laid else if i = 5 then x.broken else x.missing
def Wa.put (x : Wa) (i : Nat) (v : Int) : Wa := if i = 0 then { x with wet := v } else if i = 1 then { x with dry := v } else if i = 2 then { x with burning := v } else if i = 3 then { x with fired := v } else if i = 4 then { x with laid := v } else if i = 5 then { x with broken := v } else { x with missing := v }
theorem Wa.get_put (x : Wa) {i j : Nat} (hi : i < 7) (hj : j < 7) (v : Int) : (x.put i v).get j = if j = i then v else x.get j := by
  rcases (by omega : i = 0 ∨ i = 1 ∨ i = 2 ∨ i = 3 ∨ i = 4 ∨ i = 5 ∨ i = 6) with rfl | rfl | rfl | rfl | rfl | rfl | rfl <;>
  rcases (by omega : j = 0 ∨ j = 1 ∨ j = 2 ∨ j = 3 ∨ j = 4 ∨ j = 5 ∨ j = 6) with rfl | rfl | rfl | rfl | rfl | rfl | rfl <;> rfl
theorem KindW_iff {w : World} {S o : Nat} {x : Wa} : KindW w S o x ↔ S < w.heap.size ∧ (∀ i, w.frozen? ⟨S, i, none⟩ = false) ∧ ∀ i, i < 7 → w.cell? ⟨S, o + i, none⟩ = some (.int .i64 (x.get i)) := by
  constructor
  · rintro ⟨h0, hf, h1, h2, h3, h4, h5, h6, h7⟩
    refine ⟨h0, hf, fun i hi => ?_⟩
    rcases (by omega : i = 0 ∨ i = 1 ∨ i = 2 ∨ i = 3 ∨ i = 4 ∨ i = 5 ∨ i = 6) with rfl | rfl | rfl | rfl | rfl | rfl | rfl
    · exact h1
    · exact h2
    · exact h3
    · exact h4
    · exact h5
    · exact h6
    · exact h7
  · rintro ⟨h0, hf, h⟩
    exact ⟨h0, hf, h 0 (by omega), h 1 (by omega), h 2 (by omega), h 3 (by omega), h 4 (by omega), h 5 (by omega), h 6 (by omega)⟩
theorem Stores.set {w : World} {S n : Nat} {ws : Nat → Wa} (h : Stores w S n ws) {k i : Nat} (hk : k < n) (hi : i < 7) (v : Int) :
    Stores (w.setCell ⟨S, k * 7 + i, none⟩ (.int .i64 v)) S n (upd ws k ((ws k).put i v)) := by
  obtain ⟨⟨cs, hc⟩, hK⟩ := h
  refine ⟨⟨_, hc.set_ _ _⟩, fun k' hk' => ?_⟩
  have h1 := KindW_iff.1 (hK k' hk')
  have h2 := KindW_iff.1 (hK k hk)
  refine KindW_iff.2 ⟨by rw [size_set]; exact h1.1, fun j => by rw [World.frozen?_setCell]; exact h1.2.1 j, fun j hj => ?_⟩
  by_cases e : k' = k
  · subst e
    rw [upd_same, Wa.get_put _ hi hj]
    by_cases ej : j = i
    · subst ej
      rw [if_pos rfl]
      exact World.cell?_setCell_same' _ _ _ (by rw [h2.2.2 j hj]; rfl)
    · rw [if_neg ej, World.cell?_setCell_other _ _ _ _ (fun h => by injection h; omega)]
      exact h1.2.2 j hj
  · rw [upd_ne _ _ e, World.cell?_setCell_other _ _ _ _ (fun h => by injection h; omega)]
    exact h1.2.2 j hj
theorem Stores.grown {w w' : World} {S n : Nat} {ws : Nat → Wa} (h : Stores w S n ws) {row : Option Nat} (hg : w.grownBy w' row) (hr : some S ≠ row) : Stores w' S n ws := by
  obtain ⟨⟨cs, hc⟩, hK⟩ := h
  have hc' := hc.grown hg hr
  refine ⟨⟨cs, hc'⟩, fun k hk => ?_⟩
  have h1 := KindW_iff.1 (hK k hk)
  refine KindW_iff.2 ⟨hc'.lt, fun j => hc'.frozen j, fun j hj => ?_⟩
  rw [hc'.cell, ← hc.cell]
  exact h1.2.2 j hj
theorem turn_of {w w1 w' : World} {S n : Nat} {ws : Nat → Wa} (hS : Stores w1 S n ws) (hg : w.grownBy w1 (some S)) (hz : w1.heap.size = w.heap.size) (hB : Below w.heap.size w1 w') : Stores w' S n ws ∧ w.grownBy w' (some S) := by
  rw [← hz] at hB
  exact ⟨hS.grown (grown_none hB) (by simp), hB.os.trans hg.os, hB.tape.trans hg.tape, hB.output.trans hg.output, Nat.le_trans (Nat.le_of_eq hz.symm) hB.size, fun j hj hne => (hB.block j (by omega)).trans (hg.block j hj hne)⟩
theorem Stores.same {w : World} {S n : Nat} {ws ws' : Nat → Wa} (h : Stores w S n ws) (e : ∀ k, k < n → ws k = ws' k) : Stores w S n ws' := ⟨h.1, fun k hk => e k hk ▸ h.2 k hk⟩
end Go.Proofs.YtagjeeimglecnaaDoor
/- Split off XMb: words that hang on less of the program. -/
namespace Go.Proofs.YtagjeeimglecnaaDoor
open Go Go.RowKit
set_option maxHeartbeats 1000000
theorem lay_state (b S n k : Nat) (spv ov : Value) (room m : Int) (x : Wa) (w : World) (hb : Blk w b 81 #[spv, .int .i64 room, .slice (some ⟨S, 0, none⟩) n n, ov]) (hn : n ≤ 20) (hk : k < n) (hS : KindW w S (k * 7) x) (ho : OkW x) (h0 : 0 ≤ m) (h1 : m ≤ 1000000000) (hlt : x.fired < m) : Calls Tryd.prog 13 #[.pointer (some ⟨b, 0, none⟩), .int .i64 k, .int .i64 m] w fun e w' => e = .returned (.int .i64 9) ∧ Below w.heap.size w w' := by
  have b0 : Below w.heap.size w (w.alloc (.cells #[.int .i64 m] 3)) := (Below.refl _ _).alloc (Nat.le_refl _) _
  have HC := hide (change_ok b S n k spv ov room m 9 30 #[.pointer (some ⟨w.heap.size, 0, none⟩)] id _ (hb.ext b0) hn hk h0 h1 (enters_of Tryd.func30 (by kernel_rfl) rfl) (fun W h => h) (fun W h => lay1_state _ _ _ _ _ _ _ m S (k * 7) w.heap.size W ((hS.below b0 hS.1).below h (by have := hS.1; simp only [World.size_alloc]; omega)) ho ((h.cell (by simp)).trans (by simp)) (by have := h.size; simp at this; omega) (by have := hS.1; omega) h0 h1 hlt))
  have B0 := hide b0
  clear b0 hb hS
  go_enter Tryd.func13, Tryd.ntmps13
  go_wp2_with fail
  refine HC.out.mono ?_
  rintro e w1 ⟨rfl, hb1⟩
  go_wp2_with fail
  go_ret
  exact ⟨rfl, B0.out.trans (hb1.mono (by simp only [World.size_alloc]; omega))⟩
def layF (S o : Nat) (x : Wa) (m : Int) (W : World) : World := mv W S (o + 3) (o + 4) (x.fired - m) (x.laid + m)
theorem layF_B {B S o : Nat} {x : Wa} {m : Int} {w W : World} (h : Below B w W) : Below B (layF S o x m w) (layF S o x m W) := mvB h _ _ _ _ _
theorem lay_ok (b S n k : Nat) (spv ov : Value) (room m : Int) (x : Wa) (w : World) (hb : Blk w b 81 #[spv, .int .i64 room, .slice (some ⟨S, 0, none⟩) n n, ov]) (hn : n ≤ 20) (hk : k < n) (hS : KindW w S (k * 7) x) (ho : OkW x) (h0 : 0 ≤ m) (h1 : m ≤ 1000000000) (hlt : m ≤ x.fired) : Calls Tryd.prog 13 #[.pointer (some ⟨b, 0, none⟩), .int .i64 k, .int .i64 m] w fun e w' => e = .returned (.int .i64 0) ∧ Below w.heap.size (layF S (k * 7) x m w) w' := by
  have b0 : Below w.heap.size w (w.alloc (.cells #[.int .i64 m] 3)) := (Below.refl _ _).alloc (Nat.le_refl _) _
  have HC := hide (change_ok b S n k spv ov room m 0 30 #[.pointer (some ⟨w.heap.size, 0, none⟩)] (layF S (k * 7) x m) _ (hb.ext b0) hn hk h0 h1 (enters_of Tryd.func30 (by kernel_rfl) rfl) (fun W h => layF_B h) (fun W h => lay1_ok _ _ _ _ _ _ _ m S (k * 7) w.heap.size W ((hS.below b0 hS.1).below h (by have := hS.1; simp only [World.size_alloc]; omega)) ho ((h.cell (by simp)).trans (by simp)) (by have := h.size; simp at this; omega) (by have := hS.1; omega) h0 h1 hlt))
  have B0 := hide b0
  clear b0 hb hS
  go_enter Tryd.func13, Tryd.ntmps13
  go_wp2_with fail
  refine HC.out.mono ?_
  rintro e w1 ⟨rfl, hb1⟩
  go_wp2_with fail
  go_ret
  exact ⟨rfl, (layF_B B0.out).trans (hb1.mono (by simp only [World.size_alloc]; omega))⟩
end Go.Proofs.YtagjeeimglecnaaDoor
/- A map[int]bool that a call keeps as a set. -/
namespace Go.Proofs.YtagjeeimglecnaaDoor
open Go Go.RowKit
set_option maxHeartbeats 1000000
set_option maxRecDepth 100000
/-- block b is a set of at most n numbers: those of which p is true -/
def SeenAt (w : World) (b n : Nat) (p : Int → Bool) : Prop :=
  ∃ D : DataW Unit, w.ownsMap Tryd.prog 3 (plainElem Tryd.prog 4) b n D ∧ Maps.IsMap D ∧ ∀ z, D.atKey (.int .i64 z) (.lit (.bool false)) = .lit (.bool (p z))
theorem SeenAt.lt {w : World} {b n : Nat} {p : Int → Bool} (h : SeenAt w b n p) : b < w.heap.size := by
  obtain ⟨D, h1, -⟩ := h
  exact h1.lt
theorem SeenAt.made (w : World) : SeenAt (w.alloc (.map #[] 0)) w.heap.size 0 (fun _ => false) :=
  ⟨.map [], World.ownsMap_made w _ _ _, Maps.isMap_empty, fun _ => rfl⟩
theorem SeenAt.kept {w w' : World} {b n : Nat} {p : Int → Bool} (h : SeenAt w b n p) {row : Option Nat} (hg : w.grownBy w' row) (hne : some b ≠ row) : SeenAt w' b n p := by
  obtain ⟨D, h1, h2, h3⟩ := h
  exact ⟨D, h1.kept hg hne, h2, h3⟩
theorem SeenAt.alloc {w : World} {b n : Nat} {p : Int → Bool} (h : SeenAt w b n p) (o : Obj) : SeenAt (w.alloc o) b n p := h.kept (World.grownBy_alloc w o none) (by simp)
theorem SeenAt.drew {w : World} {b n : Nat} {p : Int → Bool} (h : SeenAt w b n p) : SeenAt w.drew b n p := h
theorem SeenAt.ext {w w' : World} {b n : Nat} {p : Int → Bool} (h : SeenAt w b n p) (hb : Below w.heap.size w w') : SeenAt w' b n p := h.kept (grown_none hb) (by simp)
def inInt (z : Int) : Prop := -9223372036854775808 ≤ z ∧ z ≤ 9223372036854775807
theorem wf_inInt {z : Int} (h : inInt z) : (Lit.int .i64 z).wf = true := by
  simpa [Lit.wf, IntKind.min, IntKind.max, IntKind.signed, IntKind.bits, inInt] using h
theorem key_i64 {z : Int} (h : inInt z) : keyOf Tryd.prog 3 (.int .i64 z) = some (.int .i64 z) := Maps.keyOf_int_mk Tryd.underlying3 (wf_inInt h)
theorem seen_look {w : World} {b n : Nat} {p : Int → Bool} (h : SeenAt w b n p) {z : Int} (hz : inInt z) :
    (Instr.lookup 99 (.map (some b)) (.int .i64 z) false).run Tryd.prog w = .ok (.bool (p z)) w := by
  obtain ⟨D, h1, h2, h3⟩ := h
  obtain ⟨v, ps, hrun, hv⟩ := h1.lookup (t := 99) (e := 4) (z := .bool false) (zd := .lit (.bool false)) (zp := []) (Maps.int_keyed Tryd.underlying3) Tryd.underlying99 (by kernel_rfl) (plainElem_bool Tryd.underlying4 false) (key_i64 hz)
  rw [h3] at hv
  rw [hrun]
  have hk : v = .bool (p z) := by
    unfold plainElem at hv
    rw [Tryd.underlying4] at hv
    cases v <;> simp at hv
    rw [hv.1]
  rw [hk]
theorem seen_put {w : World} {b n : Nat} {p : Int → Bool} (h : SeenAt w b n p) (hn : n < maxLen) {z : Int} (hz : inInt z) :
    ∃ w', (Instr.mapUpdate 99 (.map (some b)) (.int .i64 z) (.bool true)).run Tryd.prog w = .ok () w' ∧ SeenAt w' b (n + 1) (fun x => decide (x = z) || p x) ∧ w.grownBy w' (some b) := by
  obtain ⟨D, h1, h2, h3⟩ := h
  obtain ⟨w', hrun, hown, hg⟩ := h1.update (t := 99) (e := 4) (val := .bool true) (Maps.int_keyed Tryd.underlying3) Tryd.underlying99 hn (key_i64 hz) (plainElem_bool Tryd.underlying4 true)
  refine ⟨w', hrun, ⟨_, hown, h2.put _ _, fun x => ?_⟩, hg⟩
  by_cases e : x = z
  · subst e
    rw [Maps.atKey_put_same h2 (by simp [WideAt.IsKeyLit])]
    simp
  · rw [Maps.atKey_put_other (fun h => e (by injection h)), h3]
    simp [e]
end Go.Proofs.YtagjeeimglecnaaDoor
