/- Words of this proof family: a slice that reads as a function of its cells; a function value that answers as a function of its argument. -/
import Derived.Test.YtlhekifmkkgjlaaChecked
import Derived.WalkKit
import Derived.WalkSpells
import Derived.WalkLawsBesides
import Derived.Lib.Hide
import Derived.Deep.QuietTactic
import Derived.BigQuiet
import Derived.IntWalk
import Derived.Deep.RegionHeld3
import Derived.StillTailTactics
import Derived.Shelf.Abstract
import Derived.Deep.AppendLies
import Derived.Deep.Draws
import Derived.Laws.OwnMore
import Derived.Maps.AppendAt
import Derived.RegionTactic
import Derived.OwnWalk
import Derived.OrdersIn
import Derived.OrdersHeld
import Derived.RangeFuncCalls
import Derived.TacticsIn
import Derived.BigRegion
set_option linter.unusedSimpArgs false
set_option linter.unusedVariables false
set_option linter.unnecessarySimpa false
namespace Go.Proofs.Ytlhekifmkkgjlaa
open Go Go.RowKit

theorem hide {p : Prop} (h : p) : Hid p := h
theorem ret_int {k : IntKind} {a b : Int} (h : a = b) : Ending.returned (.int k a) = .returned (.int k b) := by rw [h]
theorem ret_bool {a b : Bool} (h : a = b) : Ending.returned (.bool a) = .returned (.bool b) := by rw [h]
theorem bcell {W w1 : World} {B : Nat} (hb : Below B W w1) : (∀ b o, b < B → w1.cell? ⟨b, o, none⟩ = W.cell? ⟨b, o, none⟩) ∧ (∀ b o, b < B → w1.frozen? ⟨b, o, none⟩ = W.frozen? ⟨b, o, none⟩) :=
  ⟨fun b o h => hb.cell (p := ⟨b, o, none⟩) h, fun b o h => hb.frozen (p := ⟨b, o, none⟩) h⟩
theorem Below_dN {B : Nat} {a w : World} (h : Below B a w) (n : Nat) : Below B a (w.drewN n) := ⟨h.os, h.tape, h.output, h.size, h.block⟩
theorem cell_new (w : World) (c : Array Value) (e : TypeId) (i : Nat) : (w.alloc (.cells c e)).cell? ⟨w.heap.size, i, none⟩ = c[i]? := by
  exact cell_of_row (w.alloc (.cells c e)) w.heap.size i c e (0, 0) (heap_alloc_new w _)

/-- m cells at A, below block B, read as f. -/
def VR (w : World) (B : Nat) (A : Option Addr) (m : Nat) (f : Nat → Value) : Prop :=
  0 < m → ∃ b off, A = some ⟨b, off, none⟩ ∧ b < B ∧ ∀ j, j < m → w.cell? ⟨b, off + j, none⟩ = some (f j)
section
variable {w w' : World} {B B' m n sz : Nat} {A : Option Addr} {f : Nat → Value}
theorem VR.below (h : VR w B A m f) (hb : Below B' w w') (hB : B ≤ B') : VR w' B A m f := fun hm => by
  obtain ⟨b, off, hA, hlt, hc⟩ := h hm
  exact ⟨b, off, hA, hlt, fun j hj => (hb.cell (p := ⟨b, off + j, none⟩) (by simp; omega)).trans (hc j hj)⟩
theorem VR.more (h : VR w B A m f) (hB : B ≤ B') : VR w B' A m f := fun hm => by
  obtain ⟨b, off, hA, hlt, hc⟩ := h hm
  exact ⟨b, off, hA, by omega, hc⟩
theorem VR.nil (w : World) (B : Nat) (A : Option Addr) (f : Nat → Value) : VR w B A 0 f := fun h => absurd h (by omega)
theorem VR.congr {g : Nat → Value} (h : VR w B A m f) (hg : ∀ j, j < m → f j = g j) : VR w B A m g := fun hm => by
  obtain ⟨b, off, hA, hlt, hc⟩ := h hm
  exact ⟨b, off, hA, hlt, fun j hj => by rw [hc j hj, hg j hj]⟩
end
/-- n elements of sz cells each; the i-th cell of the k-th is g k i. -/
def ER (w : World) (B : Nat) (sz : Nat) (A : Option Addr) (n : Nat) (g : Nat → Nat → Value) : Prop :=
  0 < n → ∃ b off, A = some ⟨b, off, none⟩ ∧ b < B ∧ ∀ k i, k < n → i < sz → w.cell? ⟨b, off + k * sz + i, none⟩ = some (g k i)
section
variable {w w' : World} {B B' n sz : Nat} {A : Option Addr} {g : Nat → Nat → Value}
theorem ER.below (h : ER w B sz A n g) (hb : Below B' w w') (hB : B ≤ B') : ER w' B sz A n g := fun hm => by
  obtain ⟨b, off, hA, hlt, hc⟩ := h hm
  exact ⟨b, off, hA, hlt, fun k i hk hi => (hb.cell (p := ⟨b, off + k * sz + i, none⟩) (by simp; omega)).trans (hc k i hk hi)⟩
theorem ER.more (h : ER w B sz A n g) (hB : B ≤ B') : ER w B' sz A n g := fun hm => by
  obtain ⟨b, off, hA, hlt, hc⟩ := h hm
  exact ⟨b, off, hA, by omega, hc⟩
theorem ER.nil (w : World) (B sz : Nat) (A : Option Addr) (g : Nat → Nat → Value) : ER w B sz A 0 g := fun h => absurd h (by omega)
end
abbrev iv (n : Int) : Value := .int .i64 n
/-- a slice of ints -/
def IR (w : World) (B : Nat) (A : Option Addr) (n : Nat) (x : Nat → Int) : Prop := ER w B 1 A n fun k _ => .int .i64 (x k)
theorem IR.at_ {w : World} {B n : Nat} {A : Option Addr} {x : Nat → Int} (h : IR w B A n x) {k : Nat} (hk : k < n) :
    ∃ b off, A = some ⟨b, off, none⟩ ∧ b < B ∧ w.cell? ⟨b, off + k, none⟩ = some (.int .i64 (x k)) := by
  obtain ⟨b, off, hA, hlt, hc⟩ := h (by omega)
  exact ⟨b, off, hA, hlt, by simpa using hc k 0 hk (by omega)⟩
theorem IR.below {w w' : World} {B B' n : Nat} {A : Option Addr} {x : Nat → Int} (h : IR w B A n x) (hb : Below B' w w') (hB : B ≤ B') : IR w' B A n x := ER.below h hb hB
theorem IR.more {w : World} {B B' n : Nat} {A : Option Addr} {x : Nat → Int} (h : IR w B A n x) (hB : B ≤ B') : IR w B' A n x := ER.more h hB
/-- a slice of structs of two cells -/
def P2 (w : World) (B : Nat) (A : Option Addr) (n : Nat) (u v : Nat → Value) : Prop := ER w B 2 A n fun k i => if i = 0 then u k else v k
theorem P2.at_ {w : World} {B n : Nat} {A : Option Addr} {u v : Nat → Value} (h : P2 w B A n u v) {k : Nat} (hk : k < n) :
    ∃ b off, A = some ⟨b, off, none⟩ ∧ b < B ∧ w.cell? ⟨b, off + k * 2, none⟩ = some (u k) ∧ w.cell? ⟨b, off + k * 2 + 1, none⟩ = some (v k) := by
  obtain ⟨b, off, hA, hlt, hc⟩ := h (by omega)
  exact ⟨b, off, hA, hlt, by simpa using hc k 0 hk (by omega), by simpa using hc k 1 hk (by omega)⟩
theorem P2.below {w w' : World} {B B' n : Nat} {A : Option Addr} {u v : Nat → Value} (h : P2 w B A n u v) (hb : Below B' w w') (hB : B ≤ B') : P2 w' B A n u v := ER.below h hb hB
theorem P2.more {w : World} {B B' n : Nat} {A : Option Addr} {u v : Nat → Value} (h : P2 w B A n u v) (hB : B ≤ B') : P2 w B' A n u v := ER.more h hB
/-- a slice of structs of two ints -/
abbrev PI (w : World) (B : Nat) (A : Option Addr) (n : Nat) (x y : Nat → Int) : Prop := P2 w B A n (fun k => .int .i64 (x k)) (fun k => .int .i64 (y k))
theorem PI.at_ {w : World} {B n : Nat} {A : Option Addr} {x y : Nat → Int} (h : PI w B A n x y) {k : Nat} (hk : k < n) :
    ∃ b off, A = some ⟨b, off, none⟩ ∧ b < B ∧ w.cell? ⟨b, off + k * 2, none⟩ = some (.int .i64 (x k)) ∧ w.cell? ⟨b, off + k * 2 + 1, none⟩ = some (.int .i64 (y k)) := P2.at_ h hk
theorem IR.one (w : World) (v : Int) (e : TypeId) : IR (w.alloc (.cells #[.int .i64 v] e)) (w.heap.size + 1) (some ⟨w.heap.size, 0, none⟩) 1 (fun _ => v) := fun _ =>
  ⟨w.heap.size, 0, rfl, by omega, fun k i hk hi => by
    obtain rfl : k = 0 := by omega
    obtain rfl : i = 0 := by omega
    simp⟩

theorem IR.two (w : World) (u v : Int) (e : TypeId) : IR (w.alloc (.cells #[.int .i64 u, .int .i64 v] e)) (w.heap.size + 1) (some ⟨w.heap.size, 0, none⟩) 2 (fun k => if k = 0 then u else v) := fun _ =>
  ⟨w.heap.size, 0, rfl, by omega, fun k i hk hi => by
    obtain rfl : i = 0 := by omega
    rcases (by omega : k = 0 ∨ k = 1) with rfl | rfl <;> simp⟩
theorem mul_bd {a b M N : Int} (h1 : 0 ≤ a) (h2 : a ≤ M) (h3 : 0 ≤ b) (h4 : b ≤ N) : 0 ≤ a * b ∧ a * b ≤ M * N :=
  ⟨Int.mul_nonneg h1 h3, Int.le_trans (Int.mul_le_mul_of_nonneg_left h4 h1) (Int.mul_le_mul_of_nonneg_right h2 (by omega))⟩

/-- the first place below n where p holds, or -1 -/
def idx (p : Nat → Bool) : Nat → Int
  | 0 => -1
  | k + 1 => if 0 ≤ idx p k then idx p k else if p k then k else -1
def anyTo (p : Nat → Bool) : Nat → Bool
  | 0 => false
  | k + 1 => anyTo p k || p k
theorem idx_stable (p : Nat → Bool) (k n : Nat) (h : 0 ≤ idx p k) (hkn : k ≤ n) : idx p n = idx p k := by
  induction n with
  | zero => obtain rfl : k = 0 := by omega
            rfl
  | succ n ih =>
    rcases Nat.lt_or_ge k (n + 1) with hl | hl
    · have := ih (by omega); simp only [idx, this, if_pos h]
    · obtain rfl : k = n + 1 := by omega
      rfl
theorem idx_any (p : Nat → Bool) (n : Nat) : decide (0 ≤ idx p n) = anyTo p n := by
  induction n with
  | zero => rfl
  | succ n ih =>
    unfold idx anyTo
    rw [← ih]
    by_cases h : 0 ≤ idx p n
    · simp [h]
    · cases hp : p n <;> simp [h]
theorem idx_lt (p : Nat → Bool) (n : Nat) : -1 ≤ idx p n ∧ idx p n < n := by
  induction n with
  | zero => simp [idx]
  | succ n ih =>
    unfold idx
    split
    · omega
    · split <;> omega
theorem anyTo_iff (p : Nat → Bool) (n : Nat) : anyTo p n = true ↔ ∃ k, k < n ∧ p k = true := by
  induction n with
  | zero => simp [anyTo]
  | succ n ih =>
    simp only [anyTo, Bool.or_eq_true, ih]
    constructor
    · rintro (⟨k, hk, h⟩ | h)
      · exact ⟨k, by omega, h⟩
      · exact ⟨n, by omega, h⟩
    · rintro ⟨k, hk, h⟩
      rcases Nat.lt_or_ge k n with hl | hl
      · exact .inl ⟨k, hl, h⟩
      · obtain rfl : k = n := by omega
        exact .inr h
/-- v lies outside of a .. b -/
def outB (a b v : Int) : Bool := decide (v < a) || decide (b < v)
theorem outB_iff (a b v : Int) : outB a b v = true ↔ ¬ (a ≤ v ∧ v ≤ b) := by simp only [outB, Bool.or_eq_true, decide_eq_true_eq]; omega
theorem outB_false (a b v : Int) : outB a b v = false ↔ (a ≤ v ∧ v ≤ b) := by simp only [outB, Bool.or_eq_false_iff, decide_eq_false_iff_not]; omega
end Go.Proofs.Ytlhekifmkkgjlaa
/- Stable sorting, plain: segments of a row, a range swapped with another one, a rotation. -/
namespace Go.Proofs.Ytlhekifmkkgjlaa
section
variable {α : Type}
/-- what stands from a on, ahead of b -/
def seg (f : Nat → α) (a b : Nat) : List α := (List.range' a (b - a)).map f
theorem seg_append (f : Nat → α) {a m b : Nat} (h1 : a ≤ m) (h2 : m ≤ b) : seg f a m ++ seg f m b = seg f a b := by
  unfold seg
  rw [← List.map_append, show b - a = (m - a) + (b - m) by omega]
  have h : m = a + 1 * (m - a) := by omega
  have := List.range'_append (s := a) (m := m - a) (n := b - m) (step := 1)
  rw [← h] at this
  rw [this]
theorem mem_seg {f : Nat → α} {a b : Nat} {x : α} : x ∈ seg f a b ↔ ∃ i, a ≤ i ∧ i < b ∧ f i = x := by
  unfold seg
  simp only [List.mem_map, List.mem_range'_1]
  constructor
  · rintro ⟨i, ⟨h1, h2⟩, h3⟩; exact ⟨i, h1, by omega, h3⟩
  · rintro ⟨i, h1, h2, h3⟩; exact ⟨i, ⟨h1, by omega⟩, h3⟩
theorem seg_length (f : Nat → α) (a b : Nat) : (seg f a b).length = b - a := by simp [seg]
theorem seg_get (f : Nat → α) (a b i : Nat) (h : i < (seg f a b).length) : (seg f a b)[i] = f (a + i) := by
  simp [seg]
theorem seg_shift {f g : Nat → α} {a b n : Nat} (h : ∀ i, i < n → f (a + i) = g (b + i)) : seg f a (a + n) = seg g b (b + n) := by
  apply List.ext_getElem
  · rw [seg_length, seg_length]; omega
  · intro i h1 h2
    rw [seg_get, seg_get]
    rw [seg_length] at h1
    exact h i (by omega)
theorem seg_congr {f g : Nat → α} {a b : Nat} (h : ∀ i, a ≤ i → i < b → f i = g i) : seg f a b = seg g a b := by
  apply List.ext_getElem
  · rw [seg_length, seg_length]
  · intro i h1 h2
    rw [seg_get, seg_get]
    rw [seg_length] at h1
    exact h _ (by omega) (by omega)
theorem seg_nil (f : Nat → α) {a b : Nat} (h : b ≤ a) : seg f a b = [] := by
  apply List.eq_nil_of_length_eq_zero
  rw [seg_length]; omega
theorem seg_one (f : Nat → α) (a : Nat) : seg f a (a + 1) = [f a] := by simp [seg]
theorem pair_seg {R : α → α → Prop} {f : Nat → α} {a b : Nat} : (seg f a b).Pairwise R ↔ ∀ i j, a ≤ i → i < j → j < b → R (f i) (f j) := by
  rw [List.pairwise_iff_getElem]
  constructor
  · intro h i j h1 h2 h3
    have := h (i - a) (j - a) (by rw [seg_length]; omega) (by rw [seg_length]; omega) (by omega)
    rw [seg_get, seg_get] at this
    rwa [show a + (i - a) = i by omega, show a + (j - a) = j by omega] at this
  · intro h i j hi hj hij
    rw [seg_get, seg_get]
    rw [seg_length] at hi hj
    exact h _ _ (by omega) (by omega) (by omega)
/-- two elements change places -/
def swp (f : Nat → α) (i j : Nat) : Nat → α := fun k => if k = i then f j else if k = j then f i else f k
/-- n elements from a on change places with those from b on -/
def swapR (f : Nat → α) (a b n : Nat) : Nat → α := fun k => if a ≤ k ∧ k < a + n then f (k - a + b) else if b ≤ k ∧ k < b + n then f (k - b + a) else f k
theorem swapR_zero (f : Nat → α) (a b : Nat) : swapR f a b 0 = f := by
  funext k
  unfold swapR
  rw [if_neg (by omega), if_neg (by omega)]
theorem swapR_succ (f : Nat → α) {a b n : Nat} (h : a + n < b) : swapR f a b (n + 1) = swp (swapR f a b n) (a + n) (b + n) := by
  funext k
  unfold swp swapR
  by_cases e1 : k = a + n
  · subst e1
    rw [if_pos (by omega), if_pos rfl, if_neg (by omega), if_neg (by omega)]
    congr 1; omega
  · rw [if_neg e1]
    by_cases e2 : k = b + n
    · subst e2
      rw [if_neg (by omega), if_pos (by omega), if_pos rfl, if_neg (by omega), if_neg (by omega)]
      congr 1; omega
    · rw [if_neg e2]
      by_cases e3 : a ≤ k ∧ k < a + n
      · rw [if_pos (by omega), if_pos e3]
      · rw [if_neg (by omega), if_neg e3]
        by_cases e4 : b ≤ k ∧ k < b + n
        · rw [if_pos (by omega), if_pos e4]
        · rw [if_neg (by omega), if_neg e4]
/-- [a, m) and [m, b) change places -/
def rotF (f : Nat → α) (a m b : Nat) : Nat → α := fun k => if a ≤ k ∧ k < a + (b - m) then f (k + (m - a)) else if a + (b - m) ≤ k ∧ k < b then f (k - (b - m)) else f k
theorem rot_left (f : Nat → α) {m i j : Nat} (hi : i ≤ m) (h : j < i) : rotF (swapR f (m - i) m j) (m - (i - j)) m (m + j) = rotF f (m - i) m (m + j) := by
  funext k
  unfold rotF swapR
  repeat' split
  all_goals first | (exfalso; omega) | rfl | (congr 1; omega)
theorem rot_right (f : Nat → α) {m i j : Nat} (hi : i ≤ m) (h : i < j) : rotF (swapR f (m - i) (m + j - i) i) (m - i) m (m + (j - i)) = rotF f (m - i) m (m + j) := by
  funext k
  unfold rotF swapR
  repeat' split
  all_goals first | (exfalso; omega) | rfl | (congr 1; omega)
theorem rot_even (f : Nat → α) {m i : Nat} (hi : i ≤ m) : swapR f (m - i) m i = rotF f (m - i) m (m + i) := by
  funext k
  unfold rotF swapR
  repeat' split
  all_goals first | (exfalso; omega) | rfl | (congr 1; omega)
theorem rot_seg (f : Nat → α) {a m b : Nat} (h1 : a ≤ m) (h2 : m ≤ b) : seg (rotF f a m b) a (a + (b - m)) = seg f m b ∧ seg (rotF f a m b) (a + (b - m)) b = seg f a m := by
  constructor
  · have h := seg_shift (f := rotF f a m b) (g := f) (a := a) (b := m) (n := b - m) (fun i hi => by
      unfold rotF
      rw [if_pos (by omega)]; congr 1; omega)
    rwa [show m + (b - m) = b by omega] at h
  · have h := seg_shift (f := rotF f a m b) (g := f) (a := a + (b - m)) (b := a) (n := m - a) (fun i hi => by
      unfold rotF
      rw [if_neg (by omega), if_pos (by omega)]; congr 1; omega)
    rwa [show a + (b - m) + (m - a) = b by omega, show a + (m - a) = m by omega] at h
theorem rot_out (f : Nat → α) {a m b k : Nat} (h2 : m ≤ b) (hk : k < a ∨ b ≤ k) (h1 : a ≤ m) : rotF f a m b k = f k := by
  unfold rotF
  rw [if_neg (by omega), if_neg (by omega)]
end
end Go.Proofs.Ytlhekifmkkgjlaa
/- Stable sorting, plain: two sorted segments merged. -/
namespace Go.Proofs.Ytlhekifmkkgjlaa
/-- less: what is asked; lt: the order that is made, in which no two are alike (what less has to do with lt is said of the elements alone: Ahead) -/
structure Ord2 {α : Type} (less : α → α → Bool) (lt : α → α → Prop) : Prop where
  tr : ∀ x y z, lt x y → lt y z → lt x z
section
variable {α : Type} {less : α → α → Bool} {lt : α → α → Prop}
/-- x stood ahead of y -/
def Ahead (less : α → α → Bool) (lt : α → α → Prop) (x y : α) : Prop := (less y x = false → lt x y) ∧ (less y x = true → lt y x)
/-- nothing outside, and what stood inside, stands there still -/
def Keeps (f g : Nat → α) (a b : Nat) : Prop := (∀ k, k < a ∨ b ≤ k → g k = f k) ∧ (seg g a b).Perm (seg f a b)
theorem Keeps.refl (f : Nat → α) (a b : Nat) : Keeps f f a b := ⟨fun _ _ => rfl, .refl _⟩
theorem Keeps.trans {f g h : Nat → α} {a b : Nat} (h1 : Keeps f g a b) (h2 : Keeps g h a b) : Keeps f h a b := ⟨fun k hk => (h2.1 k hk).trans (h1.1 k hk), h2.2.trans h1.2⟩
theorem Keeps.wide {f g : Nat → α} {a b c d : Nat} (h : Keeps f g a b) (h1 : c ≤ a) (hab : a ≤ b) (h2 : b ≤ d) : Keeps f g c d := by
  refine ⟨fun k hk => h.1 k (by omega), ?_⟩
  rw [← seg_append g h1 (by omega), ← seg_append g hab h2, ← seg_append f h1 (by omega), ← seg_append f hab h2]
  rw [seg_congr (f := g) (g := f) (a := c) (b := a) (fun i _ hi => h.1 i (by omega)), seg_congr (f := g) (g := f) (a := b) (b := d) (fun i hi _ => h.1 i (by omega))]
  exact List.Perm.append_left _ (h.2.append_right _)
theorem Keeps.far {f g : Nat → α} {a b c d : Nat} (h : Keeps f g a b) (h1 : d ≤ a ∨ b ≤ c) : seg g c d = seg f c d := seg_congr fun i h2 h3 => h.1 i (by omega)
/-- ahead of a merge -/
structure MP (less : α → α → Bool) (lt : α → α → Prop) (f : Nat → α) (a m b : Nat) : Prop where
  am : a ≤ m
  mb : m ≤ b
  l : (seg f a m).Pairwise lt
  r : (seg f m b).Pairwise lt
  x : ∀ x ∈ seg f a m, ∀ y ∈ seg f m b, Ahead less lt x y
/-- behind a merge -/
def MQ (lt : α → α → Prop) (f g : Nat → α) (a b : Nat) : Prop := Keeps f g a b ∧ (seg g a b).Pairwise lt
theorem MP.done {f : Nat → α} {a m b : Nat} (h : MP less lt f a m b) (hm : m = a ∨ m = b) : MQ lt f f a b := by
  refine ⟨Keeps.refl _ _ _, ?_⟩
  rcases hm with rfl | rfl
  · exact h.r
  · exact h.l
theorem rot_keeps (f : Nat → α) {a s m e b : Nat} (h0 : a ≤ s) (h1 : s ≤ m) (h2 : m ≤ e) (h3 : e ≤ b) : Keeps f (rotF f s m e) a b := by
  refine Keeps.wide (a := s) (b := e) ⟨fun k hk => rot_out f h2 hk h1, ?_⟩ h0 (by omega) h3
  obtain ⟨p1, p2⟩ := rot_seg f h1 h2
  rw [← seg_append (rotF f s m e) (m := s + (e - m)) (by omega) (by omega), p1, p2, ← seg_append f h1 h2]
  exact List.perm_append_comm
/-- the segments behind a rotation -/
theorem rot_segs (f : Nat → α) {a s m e b mid : Nat} (h0 : a ≤ s) (h1 : s ≤ m) (h2 : m ≤ e) (h3 : e ≤ b) (hmid : mid = s + (e - m)) :
    seg (rotF f s m e) a s = seg f a s ∧ seg (rotF f s m e) s mid = seg f m e ∧ seg (rotF f s m e) mid e = seg f s m ∧ seg (rotF f s m e) e b = seg f e b := by
  subst hmid
  obtain ⟨p1, p2⟩ := rot_seg f h1 h2
  exact ⟨seg_congr fun i _ hi => rot_out f h2 (.inl hi) h1, p1, p2, seg_congr fun i hi _ => rot_out f h2 (.inr hi) h1⟩
theorem pair_le {R : α → α → Prop} {f : Nat → α} {a b : Nat} (h : (seg f a b).Pairwise R) {i j : Nat} (h1 : a ≤ i) (h2 : i < j) (h3 : j < b) : R (f i) (f j) := pair_seg.1 h i j h1 h2 h3
/-- behind the search, and the rotation -/
theorem MP.split (O : Ord2 less lt) {f : Nat → α} {a m b s e mid : Nat} (h : MP less lt f a m b) (h0 : a ≤ s) (h1 : s ≤ m) (h2 : m ≤ e) (h3 : e ≤ b) (hmid : mid = s + (e - m))
    (q1 : s < m → m < e → less (f (e - 1)) (f s) = true) (q2 : a < s → e < b → less (f e) (f (s - 1)) = false) :
    MP less lt (rotF f s m e) a s mid ∧ MP less lt (rotF f s m e) mid e b ∧ ∀ x ∈ seg (rotF f s m e) a mid, ∀ y ∈ seg (rotF f s m e) mid b, lt x y := by
  obtain ⟨p1, p2, p3, p4⟩ := rot_segs f h0 h1 h2 h3 hmid
  have hl := h.l
  have hr := h.r
  have sl : ∀ x, x ∈ seg f a s → x ∈ seg f a m := fun x hx => by obtain ⟨i, a1, a2, a3⟩ := mem_seg.1 hx; exact mem_seg.2 ⟨i, a1, by omega, a3⟩
  have sr : ∀ x, x ∈ seg f s m → x ∈ seg f a m := fun x hx => by obtain ⟨i, a1, a2, a3⟩ := mem_seg.1 hx; exact mem_seg.2 ⟨i, by omega, a2, a3⟩
  have el : ∀ x, x ∈ seg f m e → x ∈ seg f m b := fun x hx => by obtain ⟨i, a1, a2, a3⟩ := mem_seg.1 hx; exact mem_seg.2 ⟨i, a1, by omega, a3⟩
  have er : ∀ x, x ∈ seg f e b → x ∈ seg f m b := fun x hx => by obtain ⟨i, a1, a2, a3⟩ := mem_seg.1 hx; exact mem_seg.2 ⟨i, by omega, a2, a3⟩
  refine ⟨⟨h0, by omega, ?_, ?_, ?_⟩, ⟨by omega, h3, ?_, ?_, ?_⟩, ?_⟩
  · rw [p1]; exact pair_seg.2 fun i j a1 a2 a3 => pair_le hl a1 a2 (by omega)
  · rw [p2]; exact pair_seg.2 fun i j a1 a2 a3 => pair_le hr a1 a2 (by omega)
  · rw [p1, p2]; exact fun x hx y hy => h.x x (sl x hx) y (el y hy)
  · rw [p3]; exact pair_seg.2 fun i j a1 a2 a3 => pair_le hl (by omega) a2 a3
  · rw [p4]; exact pair_seg.2 fun i j a1 a2 a3 => pair_le hr (by omega) a2 a3
  · rw [p3, p4]; exact fun x hx y hy => h.x x (sr x hx) y (er y hy)
  · rw [← seg_append _ h0 (show s ≤ mid by omega), ← seg_append _ (show mid ≤ e by omega) h3, p1, p2, p3, p4]
    intro x hx y hy
    rw [List.mem_append] at hx hy
    rcases hx with hx | hx <;> rcases hy with hy | hy <;> obtain ⟨i, a1, a2, rfl⟩ := mem_seg.1 hx <;> obtain ⟨j, b1, b2, rfl⟩ := mem_seg.1 hy
    · exact pair_le hl a1 (by omega) b2
    · have c := (h.x _ (mem_seg.2 ⟨s - 1, by omega, by omega, rfl⟩) _ (mem_seg.2 ⟨e, by omega, by omega, rfl⟩)).1 (q2 (by omega) (by omega))
      have c1 : lt (f i) (f e) := by
        by_cases e1 : i = s - 1
        · rw [e1]; exact c
        · exact O.tr _ _ _ (pair_le hl a1 (show i < s - 1 by omega) (by omega)) c
      by_cases e2 : j = e
      · rw [e2]; exact c1
      · exact O.tr _ _ _ c1 (pair_le hr (show m ≤ e by omega) (by omega) b2)
    · have c := (h.x _ (mem_seg.2 ⟨s, by omega, by omega, rfl⟩) _ (mem_seg.2 ⟨e - 1, by omega, by omega, rfl⟩)).2 (q1 (by omega) (by omega))
      have c1 : lt (f i) (f s) := by
        by_cases e1 : i = e - 1
        · rw [e1]; exact c
        · exact O.tr _ _ _ (pair_le hr a1 (show i < e - 1 by omega) (by omega)) c
      by_cases e2 : j = s
      · rw [e2]; exact c1
      · exact O.tr _ _ _ c1 (pair_le hl (show a ≤ s by omega) (by omega) b2)
    · exact pair_le hr a1 (by omega) b2
/-- both halves are merged -/
theorem MQ.join {f g g1 g2 : Nat → α} {a mid b : Nat} (h1 : a ≤ mid) (h2 : mid ≤ b) (hk : Keeps f g a b) (hx : ∀ x ∈ seg g a mid, ∀ y ∈ seg g mid b, lt x y) (m1 : MQ lt g g1 a mid) (m2 : MQ lt g1 g2 mid b) : MQ lt f g2 a b := by
  have k1 : Keeps f g2 a b := (hk.trans (m1.1.wide (Nat.le_refl _) h1 h2)).trans (m2.1.wide h1 h2 (Nat.le_refl _))
  refine ⟨k1, ?_⟩
  rw [← seg_append _ h1 h2, List.pairwise_append]
  have e1 : seg g2 a mid = seg g1 a mid := m2.1.far (.inl (Nat.le_refl _))
  have e2 : seg g1 mid b = seg g mid b := m1.1.far (.inr (Nat.le_refl _))
  refine ⟨by rw [e1]; exact m1.2, m2.2, fun x h3 y h4 => ?_⟩
  rw [e1] at h3
  have h5 := m2.1.2.mem_iff.1 h4
  rw [e2] at h5
  exact hx x (m1.1.2.mem_iff.1 h3) y h5
/-- the right half, once the left one is merged -/
theorem MP.later {g g1 : Nat → α} {a mid m b : Nat} (h : MP less lt g mid m b) (m1 : MQ lt g g1 a mid) : MP less lt g1 mid m b := by
  have h1 := h.am
  have h2 := h.mb
  have e1 : seg g1 mid m = seg g mid m := m1.1.far (.inr (Nat.le_refl _))
  have e2 : seg g1 m b = seg g m b := m1.1.far (.inr h1)
  exact ⟨h1, h2, by rw [e1]; exact h.l, by rw [e2]; exact h.r, by rw [e1, e2]; exact h.x⟩
theorem four_sorted {A B C D : List α} (h1 : (A ++ B).Pairwise lt) (h2 : (C ++ D).Pairwise lt) (hAC : ∀ x ∈ A, ∀ y ∈ C, lt x y) (hAD : ∀ x ∈ A, ∀ y ∈ D, lt x y) (hCB : ∀ x ∈ C, ∀ y ∈ B, lt x y) (hBD : ∀ x ∈ B, ∀ y ∈ D, lt x y) :
    (A ++ (C ++ (B ++ D))).Pairwise lt := by
  rw [List.pairwise_append] at h1 h2
  rw [List.pairwise_append, List.pairwise_append, List.pairwise_append]
  refine ⟨h1.1, ⟨h2.1, ⟨h1.2.1, h2.2.1, hBD⟩, fun x hx y hy => ?_⟩, fun x hx y hy => ?_⟩
  · rcases List.mem_append.1 hy with h | h
    · exact hCB x hx y h
    · exact h2.2.2 x hx y h
  · rcases List.mem_append.1 hy with h | h
    · exact hAC x hx y h
    · rcases List.mem_append.1 h with h | h
      · exact h1.2.2 x hx y h
      · exact hAD x hx y h
/-- one element put into the right segment -/
theorem MP.left1 (O : Ord2 less lt) {f : Nat → α} {a b i : Nat} (h : MP less lt f a (a + 1) b) (h1 : a + 1 ≤ i) (h2 : i ≤ b) (q1 : a + 1 < i → less (f (i - 1)) (f a) = true) (q2 : i < b → less (f i) (f a) = false) : MQ lt f (rotF f a (a + 1) i) a b := by
  refine ⟨rot_keeps f (Nat.le_refl _) (by omega) h1 h2, ?_⟩
  obtain ⟨p1, p2, p3, p4⟩ := rot_segs f (a := a) (s := a) (m := a + 1) (e := i) (b := b) (mid := a + (i - (a + 1))) (Nat.le_refl _) (by omega) h1 h2 rfl
  have hr := h.r
  rw [← seg_append _ (show a ≤ a + (i - (a + 1)) by omega) (show a + (i - (a + 1)) ≤ b by omega), ← seg_append _ (show a + (i - (a + 1)) ≤ i by omega) h2, p2, p3, p4]
  have := four_sorted (lt := lt) (A := []) (B := seg f a (a + 1)) (C := seg f (a + 1) i) (D := seg f i b) (by simpa using h.l) (by rw [seg_append _ h1 h2]; exact hr) (by simp) (by simp) (fun x hx y hy => by
    obtain ⟨k, a1, a2, rfl⟩ := mem_seg.1 hx
    rw [seg_one] at hy
    obtain rfl := List.mem_singleton.1 hy
    have c := (h.x _ (mem_seg.2 ⟨a, by omega, by omega, rfl⟩) _ (mem_seg.2 ⟨i - 1, by omega, by omega, rfl⟩)).2 (q1 (by omega))
    by_cases e1 : k = i - 1
    · rw [e1]; exact c
    · exact O.tr _ _ _ (pair_le hr a1 (show k < i - 1 by omega) (by omega)) c) (fun x hx y hy => by
    obtain ⟨k, a1, a2, rfl⟩ := mem_seg.1 hy
    rw [seg_one] at hx
    obtain rfl := List.mem_singleton.1 hx
    have c := (h.x _ (mem_seg.2 ⟨a, by omega, by omega, rfl⟩) _ (mem_seg.2 ⟨i, by omega, by omega, rfl⟩)).1 (q2 (by omega))
    by_cases e1 : k = i
    · rw [e1]; exact c
    · exact O.tr _ _ _ c (pair_le hr h1 (by omega) a2))
  simpa using this
/-- one element put into the left segment -/
theorem MP.right1 (O : Ord2 less lt) {f : Nat → α} {a m i : Nat} (h : MP less lt f a m (m + 1)) (h1 : a ≤ i) (h2 : i ≤ m) (q1 : a < i → less (f m) (f (i - 1)) = false) (q2 : i < m → less (f m) (f i) = true) : MQ lt f (rotF f i m (m + 1)) a (m + 1) := by
  refine ⟨rot_keeps f h1 h2 (by omega) (Nat.le_refl _), ?_⟩
  obtain ⟨p1, p2, p3, p4⟩ := rot_segs f (a := a) (s := i) (m := m) (e := m + 1) (b := m + 1) (mid := i + (m + 1 - m)) h1 h2 (by omega) (Nat.le_refl _) rfl
  have hl := h.l
  rw [← seg_append _ h1 (show i ≤ m + 1 by omega), ← seg_append _ (show i ≤ i + (m + 1 - m) by omega) (show i + (m + 1 - m) ≤ m + 1 by omega), p1, p2, p3]
  have := four_sorted (lt := lt) (A := seg f a i) (B := seg f i m) (C := seg f m (m + 1)) (D := []) (by rw [seg_append _ h1 h2]; exact hl) (by simpa using h.r) (fun x hx y hy => by
    obtain ⟨k, a1, a2, rfl⟩ := mem_seg.1 hx
    rw [seg_one] at hy
    obtain rfl := List.mem_singleton.1 hy
    have c := (h.x _ (mem_seg.2 ⟨i - 1, by omega, by omega, rfl⟩) _ (mem_seg.2 ⟨m, by omega, by omega, rfl⟩)).1 (q1 (by omega))
    by_cases e1 : k = i - 1
    · rw [e1]; exact c
    · exact O.tr _ _ _ (pair_le hl a1 (show k < i - 1 by omega) (by omega)) c) (by simp) (fun x hx y hy => by
    obtain ⟨k, a1, a2, rfl⟩ := mem_seg.1 hy
    rw [seg_one] at hx
    obtain rfl := List.mem_singleton.1 hx
    have c := (h.x _ (mem_seg.2 ⟨i, by omega, by omega, rfl⟩) _ (mem_seg.2 ⟨m, by omega, by omega, rfl⟩)).2 (q2 (by omega))
    by_cases e1 : k = i
    · rw [e1]; exact c
    · exact O.tr _ _ _ c (pair_le hl h1 (by omega) a2)) (by simp)
  simpa using this
end
end Go.Proofs.Ytlhekifmkkgjlaa
/- Stable sorting, plain: insertion, blocks, rounds of merges. -/
namespace Go.Proofs.Ytlhekifmkkgjlaa
section
variable {α : Type} {less : α → α → Bool} {lt : α → α → Prop}
theorem rot_same (f : Nat → α) (a b : Nat) : rotF f a a b = f := by
  funext k
  unfold rotF
  repeat' split
  all_goals first | rfl | (congr 1; omega) | (exfalso; omega)
theorem rot_same' (f : Nat → α) (a b : Nat) : rotF f a b b = f := by
  funext k
  unfold rotF
  repeat' split
  all_goals first | rfl | (congr 1; omega) | (exfalso; omega)
/-- the element at i goes one place to the left -/
theorem swp_back (f : Nat → α) {i j : Nat} (h : j < i) : swp (rotF f (j + 1) i (i + 1)) (j + 1) j = rotF f j i (i + 1) := by
  funext k
  unfold swp rotF
  repeat' split
  all_goals first | (exfalso; omega) | rfl | (congr 1; omega)
/-- the element at a goes one place to the right -/
theorem swp_on (f : Nat → α) {a k : Nat} (h : a ≤ k) : swp (rotF f a (a + 1) (k + 1)) k (k + 1) = rotF f a (a + 1) (k + 2) := by
  funext i
  unfold swp rotF
  repeat' split
  all_goals first | (exfalso; omega) | rfl | (congr 1; omega)
theorem rot_at (f : Nat → α) {i j : Nat} (h : j ≤ i) : rotF f j i (i + 1) j = f i := by
  unfold rotF
  rw [if_pos (by omega)]; congr 1; omega
theorem rot_before (f : Nat → α) {i j k : Nat} (h : k < j) : rotF f j i (i + 1) k = f k := by
  unfold rotF
  rw [if_neg (by omega), if_neg (by omega)]
/-- an element is put in -/
theorem ins_step (O : Ord2 less lt) {f0 f : Nat → α} {a b i j : Nat} (h : MQ lt f0 f a i) (hp : ∀ x y, a ≤ x → x < y → y < b → Ahead less lt (f0 x) (f0 y)) (hi : i < b) (h1 : a ≤ j) (h2 : j ≤ i)
    (q1 : a < j → less (f i) (f (j - 1)) = false) (q2 : j < i → less (f i) (f j) = true) : MQ lt f0 (rotF f j i (i + 1)) a (i + 1) := by
  have hai : a ≤ i := by omega
  have e : f i = f0 i := h.1.1 i (.inr (Nat.le_refl _))
  have hm : MP less lt f a i (i + 1) := ⟨hai, by omega, h.2, by rw [seg_one]; exact List.pairwise_singleton _ _, fun x hx y hy => by
    rw [seg_one] at hy
    obtain rfl := List.mem_singleton.1 hy
    obtain ⟨k, k1, k2, rfl⟩ := mem_seg.1 (h.1.2.mem_iff.1 hx)
    rw [e]
    exact hp k i k1 k2 hi⟩
  have hq := hm.right1 O h1 h2 q1 q2
  exact ⟨(h.1.wide (Nat.le_refl _) hai (by omega)).trans hq.1, hq.2⟩
theorem ins_none (f : Nat → α) (a : Nat) : MQ lt f f a a := ⟨Keeps.refl _ _ _, by rw [seg_nil _ (Nat.le_refl _)]; exact List.Pairwise.nil⟩
theorem ins_one (f : Nat → α) (a : Nat) : MQ lt f f a (a + 1) := ⟨Keeps.refl _ _ _, by rw [seg_one]; exact List.pairwise_singleton _ _⟩
/-- what stands ahead of c stood ahead of what stands behind it -/
def Cut (less : α → α → Bool) (lt : α → α → Prop) (n : Nat) (f : Nat → α) (c : Nat) : Prop := ∀ x ∈ seg f 0 c, ∀ y ∈ seg f c n, Ahead less lt x y
theorem Cut.keep {n : Nat} {f g : Nat → α} {a b c : Nat} (h : Cut less lt n f c) (hk : Keeps f g a b) (hab : a ≤ b) (hb : b ≤ n) (hc : c ≤ a ∨ b ≤ c) (hcn : c ≤ n) : Cut less lt n g c := by
  have h1 : (seg g 0 c).Perm (seg f 0 c) := by
    rcases hc with h0 | h0
    · rw [hk.far (.inl h0)]
    · exact (hk.wide (Nat.zero_le _) hab h0).2
  have h2 : (seg g c n).Perm (seg f c n) := by
    rcases hc with h0 | h0
    · exact (hk.wide h0 hab hb).2
    · rw [hk.far (.inr h0)]
  exact fun x hx y hy => h x (h1.mem_iff.1 hx) y (h2.mem_iff.1 hy)
theorem Cut.start {n : Nat} {f : Nat → α} (hp : ∀ x y, x < y → y < n → Ahead less lt (f x) (f y)) (c : Nat) : Cut less lt n f c := fun x hx y hy => by
  obtain ⟨i, i1, i2, rfl⟩ := mem_seg.1 hx
  obtain ⟨j, j1, j2, rfl⟩ := mem_seg.1 hy
  exact hp i j (by omega) j2
theorem Cut.mp {n : Nat} {f : Nat → α} {a m b : Nat} (h : Cut less lt n f m) (h1 : a ≤ m) (h2 : m ≤ b) (h3 : b ≤ n) (hl : (seg f a m).Pairwise lt) (hr : (seg f m b).Pairwise lt) : MP less lt f a m b :=
  ⟨h1, h2, hl, hr, fun x hx y hy => by
    obtain ⟨i, i1, i2, rfl⟩ := mem_seg.1 hx
    obtain ⟨j, j1, j2, rfl⟩ := mem_seg.1 hy
    exact h _ (mem_seg.2 ⟨i, by omega, i2, rfl⟩) _ (mem_seg.2 ⟨j, j1, by omega, rfl⟩)⟩
/-- blocks of the size bs are sorted -/
structure BInv (less : α → α → Bool) (lt : α → α → Prop) (n : Nat) (f0 f : Nat → α) (bs : Nat) : Prop where
  keeps : Keeps f0 f 0 n
  sorted : ∀ s, (seg f (s * bs) (min (s * bs + bs) n)).Pairwise lt
  cut : ∀ s, s * bs ≤ n → Cut less lt n f (s * bs)
/-- blocks of 20 are sorted up to a -/
structure IInv (less : α → α → Bool) (lt : α → α → Prop) (n : Nat) (f0 f : Nat → α) (t : Nat) : Prop where
  keeps : Keeps f0 f 0 n
  sorted : ∀ s, s < t → (seg f (s * 20) (s * 20 + 20)).Pairwise lt
  rest : ∀ i, t * 20 ≤ i → f i = f0 i
  cut : ∀ s, s * 20 ≤ n → Cut less lt n f (s * 20)
theorem IInv.start {n : Nat} {f : Nat → α} (hp : ∀ x y, x < y → y < n → Ahead less lt (f x) (f y)) : IInv less lt n f f 0 :=
  ⟨Keeps.refl _ _ _, fun s hs => absurd hs (by omega), fun _ _ => rfl, fun s _ => Cut.start hp _⟩
theorem IInv.pre {n : Nat} {f0 f : Nat → α} {t : Nat} (h : IInv less lt n f0 f t) (hp : ∀ x y, x < y → y < n → Ahead less lt (f0 x) (f0 y)) : ∀ x y, t * 20 ≤ x → x < y → y < n → Ahead less lt (f x) (f y) := fun x y h1 h2 h3 => by
  rw [h.rest x h1, h.rest y (by omega)]
  exact hp x y h2 h3
theorem IInv.next {n : Nat} {f0 f g : Nat → α} {t : Nat} (h : IInv less lt n f0 f t) (hn : t * 20 + 20 ≤ n) (hq : MQ lt f g (t * 20) (t * 20 + 20)) : IInv less lt n f0 g (t + 1) := by
  refine ⟨h.keeps.trans (hq.1.wide (by omega) (by omega) hn), fun s hs => ?_, fun i hi => ?_, fun s hs => (h.cut s hs).keep hq.1 (by omega) hn (by omega) hs⟩
  · by_cases e : s = t
    · subst e; exact hq.2
    · rw [hq.1.far (.inl (by omega))]; exact h.sorted s (by omega)
  · rw [hq.1.1 i (.inr (by omega))]; exact h.rest i (by omega)
theorem IInv.done {n : Nat} {f0 f g : Nat → α} {t : Nat} (h : IInv less lt n f0 f t) (h1 : t * 20 ≤ n) (h2 : n < t * 20 + 20) (hq : MQ lt f g (t * 20) n) : BInv less lt n f0 g 20 := by
  refine ⟨h.keeps.trans (hq.1.wide (by omega) h1 (Nat.le_refl _)), fun s => ?_, fun s hs => (h.cut s hs).keep hq.1 h1 (Nat.le_refl _) (by omega) hs⟩
  by_cases e : s = t
  · subst e
    rw [show min (s * 20 + 20) n = n by omega]; exact hq.2
  · by_cases e2 : s < t
    · rw [show min (s * 20 + 20) n = s * 20 + 20 by omega, hq.1.far (.inl (by omega))]; exact h.sorted s e2
    · rw [seg_nil _ (by omega)]; exact List.Pairwise.nil
theorem BInv.done {n bs : Nat} {f0 f : Nat → α} (h : BInv less lt n f0 f bs) (hn : n ≤ bs) : MQ lt f0 f 0 n := by
  have := h.sorted 0
  rw [Nat.zero_mul, Nat.zero_add, show min bs n = n by omega] at this
  exact ⟨h.keeps, this⟩
/-- in a round of merges: two by two they are merged up to t -/
structure RInv (less : α → α → Bool) (lt : α → α → Prop) (n : Nat) (f0 f : Nat → α) (bs t : Nat) : Prop where
  keeps : Keeps f0 f 0 n
  big : ∀ s, s < t → (seg f (s * (2 * bs)) (s * (2 * bs) + 2 * bs)).Pairwise lt
  small : ∀ s, 2 * t ≤ s → (seg f (s * bs) (min (s * bs + bs) n)).Pairwise lt
  cut : ∀ s, s * (2 * bs) ≤ n → Cut less lt n f (s * (2 * bs))
  mid : ∀ s, 2 * t ≤ s → s * bs ≤ n → Cut less lt n f (s * bs)
theorem RInv.start {n bs : Nat} {f0 f : Nat → α} (h : BInv less lt n f0 f bs) : RInv less lt n f0 f bs 0 :=
  ⟨h.keeps, fun s hs => absurd hs (by omega), fun s _ => h.sorted s, fun s hs => by
    have e : s * (2 * bs) = (2 * s) * bs := by rw [Nat.mul_left_comm, Nat.mul_assoc]
    rw [e] at hs ⊢
    exact h.cut _ hs, fun s _ hs => h.cut s hs⟩
theorem mul2 (t bs : Nat) : (2 * t) * bs = t * (2 * bs) ∧ (2 * t + 1) * bs = t * (2 * bs) + bs ∧ (2 * t + 2) * bs = t * (2 * bs) + 2 * bs := by
  have e : (2 * t) * bs = t * (2 * bs) := by rw [Nat.mul_left_comm, Nat.mul_assoc]
  refine ⟨e, ?_, ?_⟩
  · rw [Nat.add_mul, e, Nat.one_mul]
  · rw [Nat.add_mul, e]
theorem mul_le' {s t : Nat} (k : Nat) (h : s ≤ t) : s * k ≤ t * k := Nat.mul_le_mul_right k h
theorem RInv.pair {n bs t : Nat} {f0 f : Nat → α} (h : RInv less lt n f0 f bs t) {b : Nat} (h1 : t * (2 * bs) + bs ≤ b) (h2 : b ≤ t * (2 * bs) + 2 * bs) (h3 : b ≤ n) (h4 : b = n ∨ b = t * (2 * bs) + 2 * bs) : MP less lt f (t * (2 * bs)) (t * (2 * bs) + bs) b := by
  obtain ⟨e1, e2, e3⟩ := mul2 t bs
  have c := h.mid (2 * t + 1) (by omega) (by omega)
  have s1 := h.small (2 * t) (Nat.le_refl _)
  have s2 := h.small (2 * t + 1) (by omega)
  rw [e1, show min (t * (2 * bs) + bs) n = t * (2 * bs) + bs by omega] at s1
  rw [e2] at c s2
  rw [show min (t * (2 * bs) + bs + bs) n = b by omega] at s2
  exact c.mp (by omega) h1 h3 s1 s2
theorem RInv.next {n bs t : Nat} {f0 f g : Nat → α} (h : RInv less lt n f0 f bs t) (hn : t * (2 * bs) + 2 * bs ≤ n) (hq : MQ lt f g (t * (2 * bs)) (t * (2 * bs) + 2 * bs)) : RInv less lt n f0 g bs (t + 1) := by
  obtain ⟨e1, e2, e3⟩ := mul2 t bs
  refine ⟨h.keeps.trans (hq.1.wide (by omega) (by omega) hn), fun s hs => ?_, fun s hs => ?_, fun s hs => (h.cut s hs).keep hq.1 (by omega) hn ?_ hs, fun s h1 hs => (h.mid s (by omega) hs).keep hq.1 (by omega) hn ?_ hs⟩
  · by_cases e : s = t
    · subst e; exact hq.2
    · have := mul_le' (2 * bs) (show s + 1 ≤ t by omega)
      rw [Nat.add_mul, Nat.one_mul] at this
      rw [hq.1.far (.inl this)]; exact h.big s (by omega)
  · have := mul_le' bs (show 2 * t + 2 ≤ s by omega)
    rw [hq.1.far (.inr (by omega))]; exact h.small s (by omega)
  · by_cases e : s ≤ t
    · exact .inl (mul_le' _ e)
    · have := mul_le' (2 * bs) (show t + 1 ≤ s by omega)
      rw [Nat.add_mul, Nat.one_mul] at this
      exact .inr this
  · have := mul_le' bs (show 2 * t + 2 ≤ s by omega)
    exact .inr (by omega)
theorem RInv.done {n bs t : Nat} {f0 f g : Nat → α} (h : RInv less lt n f0 f bs t) (h1 : t * (2 * bs) ≤ n) (h2 : n < t * (2 * bs) + 2 * bs) (hq : MQ lt f g (t * (2 * bs)) n) : BInv less lt n f0 g (2 * bs) := by
  refine ⟨h.keeps.trans (hq.1.wide (by omega) h1 (Nat.le_refl _)), fun s => ?_, fun s hs => (h.cut s hs).keep hq.1 h1 (Nat.le_refl _) ?_ hs⟩
  · by_cases e : s = t
    · subst e
      rw [show min (s * (2 * bs) + 2 * bs) n = n by omega]; exact hq.2
    · by_cases e2 : s < t
      · have := mul_le' (2 * bs) (show s + 1 ≤ t by omega)
        rw [Nat.add_mul, Nat.one_mul] at this
        rw [show min (s * (2 * bs) + 2 * bs) n = s * (2 * bs) + 2 * bs by omega, hq.1.far (.inl this)]; exact h.big s e2
      · have := mul_le' (2 * bs) (show t + 1 ≤ s by omega)
        rw [Nat.add_mul, Nat.one_mul] at this
        rw [seg_nil _ (by omega)]; exact List.Pairwise.nil
  · by_cases e : s ≤ t
    · exact .inl (mul_le' _ e)
    · have := mul_le' (2 * bs) (show t + 1 ≤ s by omega)
      rw [Nat.add_mul, Nat.one_mul] at this
      omega
/-- the last block of a round stands alone -/
theorem RInv.alone {n bs t : Nat} {f0 f : Nat → α} (h : RInv less lt n f0 f bs t) (h1 : n ≤ t * (2 * bs) + bs) : MQ lt f f (t * (2 * bs)) n := by
  obtain ⟨e1, e2, e3⟩ := mul2 t bs
  have s1 := h.small (2 * t) (Nat.le_refl _)
  rw [e1, show min (t * (2 * bs) + bs) n = n by omega] at s1
  exact ⟨Keeps.refl _ _ _, s1⟩
end
end Go.Proofs.Ytlhekifmkkgjlaa
/- Words on memory, turned from the guide's blocks for copying: a slice that reads as a list of cells, a block known whole, append from any source; and their ties to this family's words. -/
namespace Go.Proofs.Ytlhekifmkkgjlaa
open Go Go.RowKit
theorem block_of_add (a : Addr) (n : Nat) : (a.add n).block = a.block := by unfold Addr.add; split <;> rfl
theorem add_of_add (a : Addr) (i j : Nat) : (a.add i).add j = a.add (i + j) := by
  unfold Addr.add
  by_cases hi : i = 0 <;> by_cases hj : j = 0 <;> simp [hi, hj, Nat.add_assoc]

def Reads (w : World) (B size : Nat) (A : Option Addr) (n : Nat) (xs : List Value) : Prop :=
  xs.length = n * size ∧ (0 < n → ∃ ad, A = some ad ∧ ad.block < B ∧ ∀ j u, xs[j]? = some u → w.cell? (ad.add j) = some u)

section
variable {w w' : World} {B B' size n : Nat} {A : Option Addr} {xs : List Value}
theorem Reads.none_ : Reads w B size A 0 [] := ⟨by simp, fun h => absurd h (by omega)⟩
theorem Reads.at_ {k : Nat} (h : Reads w B 1 A n xs) (hk : k < n) : ∃ ad u, A = some ad ∧ ad.block < B ∧ xs[k]? = some u ∧ w.cell? (ad.add k) = some u := by
  obtain ⟨ad, e, hb, hc⟩ := h.2 (by omega)
  have hl : k < xs.length := by have := h.1; omega
  exact ⟨ad, xs[k], e, hb, List.getElem?_eq_getElem hl, hc k _ (List.getElem?_eq_getElem hl)⟩
theorem Reads.keep (h : Reads w B size A n xs) (hk : ∀ p : Addr, p.block < B → w'.cell? p = w.cell? p) : Reads w' B size A n xs :=
  ⟨h.1, fun hn => by
    obtain ⟨ad, e, hb, hc⟩ := h.2 hn
    exact ⟨ad, e, hb, fun j u hu => (hk _ (by rw [block_of_add]; exact hb)).trans (hc j u hu)⟩⟩
theorem Reads.more (h : Reads w B size A n xs) (hB : B ≤ B') : Reads w B' size A n xs :=
  ⟨h.1, fun hn => by
    obtain ⟨ad, e, hb, hc⟩ := h.2 hn
    exact ⟨ad, e, by omega, hc⟩⟩
theorem Reads.below (h : Reads w B size A n xs) (hb : Below B w w') : Reads w' B size A n xs := h.keep fun _ hp => hb.cell hp
theorem Reads.drew (h : Reads w B size A n xs) : Reads w.drew B size A n xs := h
theorem Reads.drewN (h : Reads w B size A n xs) (k : Nat) : Reads (w.drewN k) B size A n xs := h
theorem Reads.alloc (h : Reads w B size A n xs) (hB : B ≤ w.heap.size) (o : Obj) : Reads (w.alloc o) B size A n xs := h.keep fun p hp => World.cell?_alloc_lt w o p (by omega)
theorem Reads.setCell (h : Reads w B size A n xs) {p : Addr} (hB : B ≤ p.block) (u : Value) : Reads (w.setCell p u) B size A n xs :=
  h.keep fun q hq => World.cell?_setCell_other w p q u (fun e => by subst e; omega)
theorem Reads.grown (h : Reads w B size A n xs) {row : Option Nat} (hg : w.grownBy w' row) (hB : B ≤ w.heap.size) (hr : ∀ g, row = some g → B ≤ g) : Reads w' B size A n xs :=
  h.keep fun p hp => World.cell?_of_block (hg.block p.block (by omega) (fun e => by have := hr _ e.symm; omega))
theorem Reads.cut (h : Reads w B size A n xs) {k cap : Nat} (hk : k ≤ n) (hc : n ≤ cap) :
    Reads w B size (if cap = k then A else A.map (·.add (k * size))) (n - k) (xs.drop (k * size)) := by
  refine ⟨by rw [List.length_drop, h.1, Nat.sub_mul], fun hn => ?_⟩
  obtain ⟨ad, rfl, hb, hcell⟩ := h.2 (by omega)
  rw [if_neg (by omega)]
  refine ⟨ad.add (k * size), rfl, by rw [block_of_add]; exact hb, fun j u hu => ?_⟩
  rw [add_of_add]
  exact hcell _ u (by rw [← hu, List.getElem?_drop])
theorem Reads.of_own {base : Nat} {e : TypeId} {c : Nat} (h : w.ownsRow base e size (.slice A n c) n xs) : Reads w w.heap.size size A n xs := by
  refine ⟨h.1, fun hn => ?_⟩
  obtain ⟨g, cap, hv, _, hlt⟩ := h.form hn
  have hA : A = some ⟨g, 0, none⟩ := by injection hv
  subst hA
  exact ⟨_, rfl, hlt, h.cells (g := g) rfl⟩
end
def Blk (w : World) (g : Nat) (t : TypeId) (cs : Array Value) : Prop := w.heap[g]? = some (.cells cs t (0, 0))

section
variable {w w' : World} {g : Nat} {t : TypeId} {cs : Array Value}
theorem Blk.lt (h : Blk w g t cs) : g < w.heap.size := by
  rcases Nat.lt_or_ge g w.heap.size with hlt | hge
  · exact hlt
  · unfold Blk at h; rw [Array.getElem?_eq_none hge] at h; cases h
theorem Blk.cell (h : Blk w g t cs) (i : Nat) : w.cell? ⟨g, i, none⟩ = cs[i]? := cell_of_row w g i cs t (0, 0) h
theorem Blk.frozen (h : Blk w g t cs) (i : Nat) : w.frozen? ⟨g, i, none⟩ = false := by
  unfold Blk at h
  simp [World.frozen?, h]
theorem Blk.new (w : World) (t : TypeId) (cs : Array Value) : Blk (w.alloc (.cells cs t)) w.heap.size t cs := heap_alloc_new w _
theorem Blk.drew (h : Blk w g t cs) : Blk w.drew g t cs := h
theorem Blk.drewN (h : Blk w g t cs) (n : Nat) : Blk (w.drewN n) g t cs := h
theorem Blk.alloc (h : Blk w g t cs) (o : Obj) : Blk (w.alloc o) g t cs := (Below.heap_alloc w o g h.lt).trans h
theorem Blk.set_ (h : Blk w g t cs) (i : Nat) (u : Value) : Blk (w.setCell ⟨g, i, none⟩ u) g t (cs.setIfInBounds i u) := by
  unfold Blk at h ⊢
  simp [World.setCell, Array.getElem?_modify, h]
theorem Blk.far (h : Blk w g t cs) {p : Addr} (hp : g ≠ p.block) (u : Value) : Blk (w.setCell p u) g t cs := (Below.heap_setCell w p u g hp).trans h
theorem Blk.below {B : Nat} (h : Blk w g t cs) (hb : Below B w w') (hg : g < B) : Blk w' g t cs := (hb.block g hg).trans h
theorem Blk.grown {row : Option Nat} (h : Blk w g t cs) (hb : w.grownBy w' row) (hg : some g ≠ row) : Blk w' g t cs := (hb.block g h.lt hg).trans h
theorem Blk.ne_ {g' : Nat} {t' : TypeId} {cs' : Array Value} (h : Blk w g t cs) (h' : Blk w g' t' cs') (hne : t ≠ t') : g ≠ g' := by
  rintro rfl
  unfold Blk at h h'
  rw [h] at h'
  injection h' with h'
  injection h' with _ ht
  exact hne ht
theorem own_blk_ne {base : Nat} {e : TypeId} {size n : Nat} {v : Value} {xs : List Value} (h : w.ownsRow base e size v n xs) (hg : Blk w g t cs) (hne : e ≠ t) : v.ownBlock ≠ some g := by
  rcases h.2 with ⟨rfl, _⟩ | ⟨g', cap, cur, rfl, _, hh, _⟩
  · simp [Value.ownBlock]
  · intro he
    have : g' = g := by simpa [Value.ownBlock] using he
    subst this
    exact Blk.ne_ (t := e) hh hg hne rfl
end
section
variable {P : Program} (w : World)

theorem run_append_of_nil (base : Nat) (t ty e : TypeId) (i : TypeInfo) (size : Nat) (ht : P.underlying t = some (.slice e)) (hi : P.info? e = some i)
    (v : Value) (n : Nat) (xs : List Value) (hown : w.ownsRow base e size v n xs) (c : Nat) : (Builtin.append_ #[t, t] ty #[v, .slice none 0 c]).run P w = .ok v w := by
  rcases hown.2 with ⟨rfl, rfl⟩ | ⟨g, cap, cur, rfl, _, _, hnc, _⟩
  · simp [Builtin.append_, run_underlying ht, sizeOf, typeInfo, hi, Builtin.lenOf, Builtin.firstCells]
  · simp [Builtin.append_, run_underlying ht, sizeOf, typeInfo, hi, Builtin.lenOf, Builtin.firstCells, hnc, storeCells]

theorem run_append_any (base : Nat) (t ty e : TypeId) (i : TypeInfo) (z : Value) (size bytes : Nat) (ht : P.underlying t = some (.slice e)) (hi : P.info? e = some i) (hz : i.zero = some z)
    (hsize : i.size = size) (hby : i.bytes = bytes) (hzs : z.cells.size = size) (hsz : 0 < size)
    (v : Value) (n : Nat) (xs : List Value) (hown : w.ownsRow base e size v n xs)
    (B : Nat) (A : Option Addr) (m c : Nat) (news : List Value) (hr : Reads w B size A m news) (h1 : ∀ u ∈ news, u.oneCell' = true)
    (h63 : n + m ≤ maxLen) (hbytes : (n + m) * bytes ≤ 140737488355328) (hbase : base ≤ w.heap.size) :
    ∃ v' w', (Builtin.append_ #[t, t] ty #[v, .slice A m c]).run P w = .ok v' w' ∧ w'.ownsRow base e size v' (n + m) (xs ++ news) ∧ w.grownBy w' v.ownBlock ∧
      (v'.ownBlock = v.ownBlock ∨ v'.ownBlock = some w.heap.size) := by
  rcases A with _ | ad
  · have hm : m = 0 := by
      rcases Nat.eq_zero_or_pos m with h0 | h0
      · exact h0
      · obtain ⟨ad, h, _⟩ := hr.2 h0
        cases h
    subst hm
    have hn : news = [] := List.eq_nil_of_length_eq_zero (by simpa using hr.1)
    subst hn
    exact ⟨v, w, run_append_of_nil w base t ty e i size ht hi v n xs hown c, by simpa using hown, World.grownBy.refl w _, .inl rfl⟩
  · have hcells : ∀ j u, news[j]? = some u → w.cell? (ad.add j) = some u := by
      intro j u hu
      rcases Nat.eq_zero_or_pos m with h0 | h0
      · subst h0
        have hn : news = [] := List.eq_nil_of_length_eq_zero (by simpa using hr.1)
        subst hn
        simp at hu
      · obtain ⟨ad', h, _, hc⟩ := hr.2 h0
        injection h with h
        subst h
        exact hc j u hu
    obtain ⟨v', w', hrun, h2, h3, _, h5⟩ := run_append_own_at (P := P) w base t ty e i z size bytes ht hi hz hsize hby hzs hsz v n xs hown ad m c news hr.1 hcells h1 h63 hbytes hbase
    exact ⟨v', w', hrun, h2, h3, h5⟩

theorem wp_append_any {o : Oper} {a : Act} {K : Act → World → Prop} {Q : Exit → Act → World → Prop} (s x : Operand) (t : TypeId)
    (ho : o.op = .call { callee := .builtin .append, args := #[s, x], argTypes := #[t, t] })
    (base : Nat) (e : TypeId) (i : TypeInfo) (z : Value) (size bytes : Nat) (ht : P.underlying t = some (.slice e)) (hi : P.info? e = some i) (hz : i.zero = some z)
    (hsize : i.size = size) (hby : i.bytes = bytes) (hzs : z.cells.size = size) (hsz : 0 < size)
    (v : Value) (n : Nat) (xs : List Value) (hs : a.eval s = v) (hown : w.ownsRow base e size v n xs)
    (B : Nat) (A : Option Addr) (m c : Nat) (news : List Value) (hx : a.eval x = .slice A m c) (hr : Reads w B size A m news) (h1 : ∀ u ∈ news, u.oneCell' = true)
    (h63 : n + m ≤ maxLen) (hbytes : (n + m) * bytes ≤ 140737488355328) (hbase : base ≤ w.heap.size)
    (h : ∀ v' w', w'.ownsRow base e size v' (n + m) (xs ++ news) → w.grownBy w' v.ownBlock → (v'.ownBlock = v.ownBlock ∨ v'.ownBlock = some w.heap.size) → K (a.put o.dst v') w') : o.wp P a w K Q := by
  obtain ⟨v', w', hrun, h2, h3, h4⟩ := run_append_any (P := P) w base t o.type e i z size bytes ht hi hz hsize hby hzs hsz v n xs hown B A m c news hr h1 h63 hbytes hbase
  unfold Oper.wp execOp
  simp only [ho, resolve, invoke, builtin, Sem.run_bind, Sem.run_pure, Result.andThen_ok, List.map_toArray, List.map_cons, List.map_nil, hs, hx, hrun]
  exact h v' w' h2 h3 h4

theorem wpList_append_any {ops : Array Oper} {rest : List Oper} {o : Oper} {a : Act} {Q : Exit → Act → World → Prop} (hgd : o.guard = none) (s x : Operand) (t : TypeId)
    (ho : o.op = .call { callee := .builtin .append, args := #[s, x], argTypes := #[t, t] })
    (base : Nat) (e : TypeId) (i : TypeInfo) (z : Value) (size bytes : Nat) (ht : P.underlying t = some (.slice e)) (hi : P.info? e = some i) (hz : i.zero = some z)
    (hsize : i.size = size) (hby : i.bytes = bytes) (hzs : z.cells.size = size) (hsz : 0 < size)
    (v : Value) (n : Nat) (xs : List Value) (hs : a.eval s = v) (hown : w.ownsRow base e size v n xs)
    (B : Nat) (A : Option Addr) (m c : Nat) (news : List Value) (hx : a.eval x = .slice A m c) (hr : Reads w B size A m news) (h1 : ∀ u ∈ news, u.oneCell' = true)
    (h63 : n + m ≤ maxLen) (hbytes : (n + m) * bytes ≤ 140737488355328) (hbase : base ≤ w.heap.size)
    (h : ∀ v' w', w'.ownsRow base e size v' (n + m) (xs ++ news) → w.grownBy w' v.ownBlock → (v'.ownBlock = v.ownBlock ∨ v'.ownBlock = some w.heap.size) → wpList P ops Q rest (a.put o.dst v') w') : wpList P ops Q (o :: rest) a w :=
  wpList_plain hgd fun _ hK => wp_append_any w s x t ho base e i z size bytes ht hi hz hsize hby hzs hsz v n xs hs hown B A m c news hx hr h1 h63 hbytes hbase fun v' w' h2 h3 h4 => hK _ _ (h v' w' h2 h3 h4)

theorem step_append_any {ops : Array Oper} {o : Oper} {a : Act} {K : Act → World → Prop} {Q : Exit → Act → World → Prop} {E : Prop} (hgd : o.guard = none) (s x : Operand) (t : TypeId)
    (ho : o.op = .call { callee := .builtin .append, args := #[s, x], argTypes := #[t, t] })
    (base : Nat) (e : TypeId) (i : TypeInfo) (z : Value) (size bytes : Nat) (ht : P.underlying t = some (.slice e)) (hi : P.info? e = some i) (hz : i.zero = some z)
    (hsize : i.size = size) (hby : i.bytes = bytes) (hzs : z.cells.size = size) (hsz : 0 < size)
    (v : Value) (n : Nat) (xs : List Value) (hs : a.eval s = v) (hown : w.ownsRow base e size v n xs)
    (B : Nat) (A : Option Addr) (m c : Nat) (news : List Value) (hx : a.eval x = .slice A m c) (hr : Reads w B size A m news) (h1 : ∀ u ∈ news, u.oneCell' = true)
    (h63 : n + m ≤ maxLen) (hbytes : (n + m) * bytes ≤ 140737488355328) (hbase : base ≤ w.heap.size)
    (h : ∀ v' w', w'.ownsRow base e size v' (n + m) (xs ++ news) → w.grownBy w' v.ownBlock → (v'.ownBlock = v.ownBlock ∨ v'.ownBlock = some w.heap.size) → K (a.put o.dst v') w') :
    if Region.wanted o (yielded ops a.tmps) = true then Oper.wp P o a w K Q else E := by
  have hw : Region.wanted o (yielded ops a.tmps) = true := by simp [Region.wanted, hgd]
  rw [if_pos hw]
  exact wp_append_any w s x t ho base e i z size bytes ht hi hz hsize hby hzs hsz v n xs hs hown B A m c news hx hr h1 h63 hbytes hbase h
end

/-- n elements of sz cells, written out -/
def cellsOf (sz n : Nat) (g : Nat → Nat → Value) : List Value := (List.range (n * sz)).map fun j => g (j / sz) (j % sz)
theorem cellsOf_len (sz n : Nat) (g : Nat → Nat → Value) : (cellsOf sz n g).length = n * sz := by simp [cellsOf]
theorem cellsOf_get (sz n : Nat) (g : Nat → Nat → Value) (k i : Nat) (hk : k < n) (hi : i < sz) : (cellsOf sz n g)[k * sz + i]? = some (g k i) := by
  have h1 : k * sz + i < n * sz := by
    have : (k + 1) * sz ≤ n * sz := Nat.mul_le_mul_right _ hk
    rw [Nat.succ_mul] at this; omega
  have h2 : (k * sz + i) / sz = k := by
    rw [Nat.add_comm, Nat.mul_comm k sz, Nat.add_mul_div_left _ _ (by omega), Nat.div_eq_of_lt hi]; omega
  have h3 : (k * sz + i) % sz = i := by rw [Nat.add_comm, Nat.add_mul_mod_self_right, Nat.mod_eq_of_lt hi]
  simp [cellsOf, h1, h2, h3]
theorem add_lit' (b off j : Nat) : (⟨b, off, none⟩ : Addr).add j = ⟨b, off + j, none⟩ := by unfold Addr.add; split <;> simp_all
theorem ER.reads {w : World} {B sz n : Nat} {A : Option Addr} {g : Nat → Nat → Value} (h : ER w B sz A n g) (hs : 0 < sz) : Reads w B sz A n (cellsOf sz n g) := by
  refine ⟨cellsOf_len _ _ _, fun hn => ?_⟩
  obtain ⟨b, off, rfl, hb, hc⟩ := h hn
  refine ⟨_, rfl, hb, fun j u hu => ?_⟩
  have hj : j < n * sz := by
    have := (List.getElem?_eq_some_iff.1 hu).1
    rwa [cellsOf_len] at this
  have hd : j / sz < n := Nat.div_lt_of_lt_mul (by rwa [Nat.mul_comm] at hj)
  have hm := Nat.mod_lt j hs
  have he : j = j / sz * sz + j % sz := by rw [Nat.mul_comm]; exact (Nat.div_add_mod j sz).symm
  have h1 := cellsOf_get sz n g _ _ hd hm
  rw [← he, hu] at h1
  rw [add_lit', h1, ← hc _ _ hd hm]
  congr 2
  omega
theorem ER.of_own {w : World} {base : Nat} {e : TypeId} {sz n : Nat} {v : Value} {g : Nat → Nat → Value} (h : w.ownsRow base e sz v n (cellsOf sz n g)) (hs : 0 < sz) :
    ∃ A c, v = .slice A n c ∧ ER w w.heap.size sz A n g ∧ n ≤ c := by
  rcases h.2 with ⟨rfl, rfl⟩ | ⟨b, cap, cur, rfl, _, hh, hnc, _⟩
  · exact ⟨none, 0, rfl, ER.nil _ _ _ _ _, Nat.le_refl _⟩
  · refine ⟨_, _, rfl, fun hn => ⟨b, 0, rfl, ?_, fun k i hk hi => ?_⟩, hnc⟩
    · rcases Nat.lt_or_ge b w.heap.size with hl | hl
      · exact hl
      · rw [Array.getElem?_eq_none hl] at hh; cases hh
    · have := h.cells (g := b) rfl (k * sz + i) _ (cellsOf_get sz n g k i hk hi)
      rw [add_lit'] at this
      simpa [Nat.add_assoc] using this
theorem own_empty (w : World) (e : TypeId) (sz : Nat) : (w.alloc (.cells #[] e)).ownsRow w.heap.size e sz (.slice (some ⟨w.heap.size, 0, none⟩) 0 0) 0 [] :=
  ⟨by simp, .inr ⟨w.heap.size, 0, #[], rfl, Nat.le_refl _, heap_alloc_new w _, Nat.le_refl _, Nat.zero_le _, by simp, by simp⟩⟩
theorem blk2 {w : World} {g : Nat} {t : TypeId} {a b : Value} (h : Blk w g t #[a, b]) : g < w.heap.size ∧ w.cell? ⟨g, 0, none⟩ = some a ∧ w.cell? ⟨g, 1, none⟩ = some b ∧ w.frozen? ⟨g, 0, none⟩ = false ∧ w.frozen? ⟨g, 1, none⟩ = false :=
  ⟨h.lt, by simpa using h.cell 0, by simpa using h.cell 1, h.frozen 0, h.frozen 1⟩
theorem blk1 {w : World} {g : Nat} {t : TypeId} {a : Value} (h : Blk w g t #[a]) : g < w.heap.size ∧ w.cell? ⟨g, 0, none⟩ = some a ∧ w.frozen? ⟨g, 0, none⟩ = false :=
  ⟨h.lt, by simpa using h.cell 0, h.frozen 0⟩
theorem blk4 {w : World} {g : Nat} {t : TypeId} {a b c d : Value} (h : Blk w g t #[a, b, c, d]) : g < w.heap.size ∧ w.cell? ⟨g, 0, none⟩ = some a ∧ w.cell? ⟨g, 1, none⟩ = some b ∧ w.cell? ⟨g, 2, none⟩ = some c ∧ w.cell? ⟨g, 3, none⟩ = some d :=
  ⟨h.lt, by simpa using h.cell 0, by simpa using h.cell 1, by simpa using h.cell 2, by simpa using h.cell 3⟩
theorem Blk.ext {w w' : World} {g : Nat} {t : TypeId} {cs : Array Value} (h : Blk w g t cs) (hb : Below w.heap.size w w') : Blk w' g t cs := h.below hb h.lt
theorem size_set (w : World) (p : Addr) (v : Value) : (w.setCell p v).heap.size = w.heap.size := by simp [World.setCell]
/-- what is alike below B stays so over the same store -/
theorem setB {B : Nat} {w W : World} (h : Below B w W) (p : Addr) (v : Value) : Below B (w.setCell p v) (W.setCell p v) := by
  refine ⟨h.os, h.tape, h.output, by simpa [size_set] using h.size, fun k hk => ?_⟩
  simp only [World.setCell, Array.getElem?_modify, h.block k hk]
/-- Below, behind a store into an old block of the frame's own -/
theorem Below_of_set {B : Nat} {a w w' : World} (h : Below B a w) {p : Addr} (hp : B ≤ p.block) (v : Value) (hB : B ≤ w.heap.size) (k : Below w.heap.size (w.setCell p v) w') : Below B a w' :=
  (h.setCell hp v).trans (k.mono hB)
/-- two stores into one struct of two cells -/
theorem set2B {B : Nat} {a w : World} (h : Below B a w) {g : Nat} (hg : B ≤ g) (u v : Value) : Below B a ((w.setCell ⟨g, 0, none⟩ u).setCell ⟨g, 1, none⟩ v) :=
  (h.setCell (p := ⟨g, 0, none⟩) hg u).setCell (p := ⟨g, 1, none⟩) hg v
end Go.Proofs.Ytlhekifmkkgjlaa
/- A region that draws its order, within a round of a range over a function: loads taken first, under one condition on the world. After the library's laws for activations (OrdersHeld, OrdersIn). -/
namespace Go.Proofs.Ytlhekifmkkgjlaa
open Go Go.RowKit
def noDef (ops : Array Oper) : Bool := ops.all fun o => match o.op with | .defer _ => false | _ => true
theorem noDef_spec {ops : Array Oper} (h : noDef ops = true) {j : Nat} {o : Oper} (hj : ops[j]? = some o) : ∀ c, o.op ≠ .defer c := by
  intro c hc
  obtain ⟨hlt, rfl⟩ := Array.getElem?_eq_some_iff.1 hj
  have := (Array.all_eq_true.1 h) j hlt
  rw [hc] at this
  simp at this
section
variable {F : Fence} {n : Nat} {P : Program} {ops : Array Oper} {Q : Exit → Act → World → Prop} {md : Region.Mode} {S : World → Prop}
theorem YieldsIf.wpOpIn {i : Nat} {o : Oper} {v : Value} {a : Act} (hfn : ∀ f, F.fn f) (hnd : noDef ops = true) (hi : ops[i]? = some o) (hy : YieldsIf P ops S o v a)
    {K : Act → World → Prop} {w : World} (hS : S w) (h : K (a.put o.dst v) w) : wpOpIn F n P ops Q i K a w := by
  unfold Go.wpOpIn
  simp only [hi]
  rcases hy with ⟨hw, hv⟩ | ⟨hw, rfl⟩
  · simp only [hw, if_true, Oper.wpIn, Oper.semAt_eq _ _ _ (noDef_spec hnd hi), hv w hS, Oper.uponIn]; exact ⟨fun f _ => hfn f, h⟩
  · simp only [hw, Bool.false_eq_true, if_false]; exact ⟨fun f _ => hfn f, h⟩
theorem wpOpIn_putJ {j : Nat} {oi oj : Oper} {v : Value} (hnd : noDef ops = true) (hj : ops[j]? = some oj) (hap : oi.apart ops oj = true)
    (hsi : ∀ cs b, oi.op ≠ .select cs b) (hsj : ∀ cs b, oj.op ≠ .select cs b)
    (hQ : ∀ c a w, Q (.panic c) (a.put oi.dst v) w → Q (.panic c) a w) {K : Act → World → Prop} {a : Act} {w : World} (hfn : ∀ f, F.fn f)
    (hy : YieldsIf P ops S oi v a) (h : wpOpIn F n P ops Q j K (a.put oi.dst v) w) :
    wpOpIn F n P ops Q j (fun a' w' => YieldsIf P ops S oi v a' ∧ K (a'.put oi.dst v) w') a w := by
  obtain ⟨h1, h2, h3⟩ := Oper.apart_spec hap
  have hdj := noDef_spec hnd hj
  have keep : ∀ (a : Act), YieldsIf P ops S oi v a → ∀ u, YieldsIf P ops S oi v (a.put oj.dst u) := fun a hy u =>
    hy.of_same (execOp_put oi hsi a oj.dst u h3) (wanted_put oi a oj.dst u h3)
  have keepD : ∀ d, YieldsIf P ops S oi v { a with defers := d :: a.defers } := fun d => hy.of_same rfl rfl
  unfold wpOpIn at *
  simp only [hj] at *
  rw [wanted_put oj a oi.dst v h1] at h
  split
  · rename_i hw
    simp only [hw, if_true] at h
    unfold Oper.wpIn at *
    refine ⟨fun f _ => hfn f, ?_⟩
    have h := h.2
    rw [Oper.semAt_eq _ _ _ hdj, execOp_put oj hsj a oi.dst v h1] at h
    rw [Oper.semAt_eq _ _ _ hdj]
    generalize (execOp a.eval oj).run P w = r at *
    cases r with
    | ok x w' =>
      cases x <;> simp only [Oper.uponIn] at h ⊢
      case value u => exact ⟨keep a hy u, by rw [← Act.put_comm a v u h2]; exact h⟩
      case skip => exact ⟨keep a hy _, by rw [← Act.put_comm a v undef h2]; exact h⟩
      case defer d =>
        refine ⟨keep _ (keepD d) _, ?_⟩
        rw [← Act.put_comm _ v undef h2, ← Act.put_defers]
        exact h
      case enter f args =>
        refine ⟨h.1, CallsIn.mono h.2 fun e w'' he => ?_⟩
        cases e with
        | returned u => exact ⟨keep a hy u, by rw [← Act.put_comm a v u h2]; exact he⟩
        | panicked c => exact hQ _ _ _ he
        | outgrown => exact he
      case row row args => exact ⟨h.1, RowsIn.mono h.2 fun u w'' he => ⟨keep a hy u, by rw [← Act.put_comm a v u h2]; exact he⟩⟩
      case round l f tmps assign body =>
        refine ⟨h.1, RoundIn.mono h.2 fun e w'' he => ?_⟩
        cases e with
        | returned u => exact ⟨keep a hy u, by rw [← Act.put_comm a v u h2]; exact he⟩
        | panicked c => exact hQ _ _ _ he
        | outgrown => exact he
    | halt x w' =>
      cases x <;> simp only [Oper.uponIn] at h ⊢
      case panic u => exact hQ _ _ _ h
  · rename_i hw
    simp only [hw] at h
    exact ⟨fun f _ => hfn f, keep a hy _, by rw [← Act.put_comm a v undef h2]; exact h.2⟩
/-- an operation whose value hangs on no world -/
def pureOp (o : Oper) : Bool := match o.op with | .move _ => true | .assign _ => true | .extract _ _ => true | _ => false
theorem pure_any {ev : Operand → Value} {o : Oper} {v : Value} {w : World} (hp : pureOp o = true) (h : (execOp ev o).run P w = .ok (.value v) w) (w' : World) : (execOp ev o).run P w' = .ok (.value v) w' := by
  unfold pureOp at hp
  unfold execOp at h ⊢
  split at hp
  · simp_all [Sem.run_pure]
  · simp_all [Sem.run_pure]
  · rename_i t ix he
    simp only [he, Instr.extract] at h ⊢
    split at h
    · split at h
      · rename_i u hu
        simp_all [Sem.run_pure, Sem.run_bind, Result.andThen_ok]
      · simp [stuck, Sem.run_bind, Sem.run_halt, Result.andThen_halt] at h
    · simp [stuck, Sem.run_bind, Sem.run_halt, Result.andThen_halt] at h
  · cases hp
/-- an operation that waits for all others, but for those whose value hangs on no world, and those that wait for it -/
def lastOp (md : Region.Mode) (ops : Array Oper) (j : Nat) : Bool := match ops[j]? with
  | none => false
  | some o => pureOp o || (List.range ops.size).all fun k => k == j || (o.after.any fun e => Region.binds md e && e.on == k) || match ops[k]? with
    | some ok => pureOp ok || ok.after.any fun e => Region.binds md e && e.on == j
    | none => true
theorem lastOp_no {i j : Nat} {oi oj : Oper} (hi : ops[i]? = some oi) (hj : ops[j]? = some oj) (hji : j ≠ i) (hnot : ∀ e ∈ oj.after, Region.binds md e = true → e.on ≠ i)
    (hp : pureOp oi = false) (hpj : pureOp oj = false) (hnot' : ∀ e ∈ oi.after, Region.binds md e = true → e.on ≠ j) : lastOp md ops j = false := by
  rw [← Bool.not_eq_true]
  intro h
  unfold lastOp at h
  rw [hj] at h
  replace h : (pureOp oj || _) = true := h
  rw [hpj, Bool.false_or] at h
  have hlt := (Array.getElem?_eq_some_iff.1 hi).1
  have h1 := List.all_eq_true.1 h i (by simpa using hlt)
  simp only [hi, hp, Bool.or_eq_true, beq_iff_eq, Bool.false_or] at h1
  rcases h1 with (h1 | h1) | h1
  · exact hji h1.symm
  · obtain ⟨k, hk, he⟩ := Array.any_eq_true.1 h1
    simp only [Bool.and_eq_true, beq_iff_eq] at he
    exact hnot _ (Array.getElem_mem hk) he.1 he.2
  · obtain ⟨k, hk, he⟩ := Array.any_eq_true.1 h1
    simp only [Bool.and_eq_true, beq_iff_eq] at he
    exact hnot' _ (Array.getElem_mem hk) he.1 he.2
theorem lastOp_pure {i : Nat} {oi : Oper} (hi : ops[i]? = some oi) (hp : pureOp oi = true) : lastOp md ops i = true := by
  unfold lastOp
  rw [hi]
  simp [hp]
/-- an operation whose value hangs on no world leaves the world as it is -/
theorem wpOpIn_pure {j : Nat} {oj : Oper} (hnd : noDef ops = true) (hj : ops[j]? = some oj) (hp : pureOp oj = true) {K : Act → World → Prop} {a : Act} {w : World} (h : wpOpIn F n P ops Q j K a w) :
    wpOpIn F n P ops Q j (fun a' w' => w' = w ∧ K a' w') a w := by
  unfold wpOpIn at h ⊢
  simp only [hj] at h ⊢
  split
  · rename_i hw
    simp only [hw, if_true] at h
    unfold Oper.wpIn at h ⊢
    refine ⟨h.1, ?_⟩
    have h := h.2
    rw [Oper.semAt_eq _ _ _ (noDef_spec hnd hj)] at h ⊢
    unfold pureOp at hp
    unfold execOp at h ⊢
    split at hp
    · rename_i x he
      simp only [he, Sem.run_pure, Oper.uponIn] at h ⊢
      exact ⟨trivial, h⟩
    · rename_i x he
      simp only [he, Sem.run_pure, Oper.uponIn] at h ⊢
      exact ⟨trivial, h⟩
    · rename_i t ix he
      simp only [he, Instr.extract] at h ⊢
      split at h
      · split at h
        · rename_i u hu
          simp only [Sem.run_pure, Sem.run_bind, Result.andThen_ok, Oper.uponIn] at h ⊢
          exact ⟨trivial, h⟩
        · simp [stuck, Sem.run_bind, Sem.run_halt, Result.andThen_halt, Oper.uponIn] at h
      · simp [stuck, Sem.run_bind, Sem.run_halt, Result.andThen_halt, Oper.uponIn] at h
    · cases hp
  · rename_i hw
    simp only [hw] at h
    exact ⟨h.1, trivial, h.2⟩
/-- whatever order is picked, and S holds behind every operation that is carried out, but for one that waits for all others -/
def wpAnyJ (F : Fence) (n : Nat) (P : Program) (md : Region.Mode) (ops : Array Oper) (Q : Exit → Act → World → Prop) (S : World → Prop) : Nat → Array Bool → Act → World → Prop
  | 0, listed, a, w => Region.ready md ops listed = [] ∧ Q .normal a w
  | fuel + 1, listed, a, w =>
    (Region.ready md ops listed = [] → Q .normal a w) ∧
    ∀ i ∈ Region.ready md ops listed, wpOpIn F n P ops Q i (fun a' w' => (lastOp md ops i = false → S w') ∧ wpAnyJ F n P md ops Q S fuel (listed.setIfInBounds i true) a' w') a w
theorem wpAnyIn_of_J : ∀ (fuel : Nat) (listed : Array Bool) (a : Act) (w : World), wpAnyJ F n P md ops Q S fuel listed a w → wpAnyIn F n P md ops Q fuel listed a w
  | 0, _, _, _, h => h
  | fuel + 1, _, _, _, h => ⟨h.1, fun i hi => wpOpIn_mono (fun a' w' h' => wpAnyIn_of_J fuel _ a' w' h'.2) (h.2 i hi)⟩
theorem wpAnyJ_first {S' : World → Prop} {i : Nat} {oi : Oper} {v : Value} (hfn : ∀ f, F.fn f) (hnd : noDef ops = true) (hi : ops[i]? = some oi) (hsel : ∀ (j : Nat) (o : Oper) cs b, ops[j]? = some o → o.op ≠ .select cs b)
    (hQ : ∀ c a w, Q (.panic c) (a.put oi.dst v) w → Q (.panic c) a w) (hS' : (pureOp oi = true ∧ ∀ w, S' w) ∨ (pureOp oi = false ∧ ∀ w, S w → S' w)) :
    ∀ (fuel : Nat) (listed : Array Bool) (a : Act) (w : World),
      (∀ j oj, ops[j]? = some oj → j ≠ i → listed.getD j true = false → (∀ e ∈ oj.after, Region.binds md e = true → e.on ≠ i) → oi.apart ops oj = true) →
      i ∈ Region.ready md ops listed → YieldsIf P ops S' oi v a → S' w → (lastOp md ops i = false → S w) →
      wpAnyJ F n P md ops Q S fuel (listed.setIfInBounds i true) (a.put oi.dst v) w → wpAnyJ F n P md ops Q S (fuel + 1) listed a w := by
  intro fuel
  induction fuel with
  | zero =>
    intro listed a w _ hr hy hS hS0 H
    refine ⟨fun h => (by rw [h] at hr; cases hr), fun j hj => ?_⟩
    by_cases hji : j = i
    · subst hji; exact YieldsIf.wpOpIn hfn hnd hi hy hS ⟨hS0, H⟩
    · have := ready_mono hj hji
      rw [H.1] at this
      cases this
  | succ fuel ih =>
    intro listed a w hfree hr hy hS hS0 H
    refine ⟨fun h => (by rw [h] at hr; cases hr), fun j hj => ?_⟩
    by_cases hji : j = i
    · subst hji; exact YieldsIf.wpOpIn hfn hnd hi hy hS ⟨hS0, H⟩
    · have h1 := H.2 j (ready_mono hj hji)
      obtain ⟨hjun, oj, hoj, hall⟩ := mem_ready.1 hj
      have hnot : ∀ e ∈ oj.after, Region.binds md e = true → e.on ≠ i := fun e he hb heq => by
        have h1 := hall e he hb
        have h0 := (mem_ready.1 hr).1
        rw [heq] at h1
        rcases Nat.lt_or_ge i listed.size with h' | h'
        · simp [h'] at h0 h1; rw [h0] at h1; cases h1
        · simp [Array.getElem?_eq_none h'] at h1
      have hnot' : ∀ e ∈ oi.after, Region.binds md e = true → e.on ≠ j := fun e he hb heq => by
        obtain ⟨-, oi', hoi', hall'⟩ := mem_ready.1 hr
        obtain rfl : oi = oi' := by rw [hi] at hoi'; injection hoi'
        have h1 := hall' e he hb
        rw [heq] at h1
        rcases Nat.lt_or_ge j listed.size with h' | h'
        · simp [h'] at hjun h1; rw [hjun] at h1; cases h1
        · simp [Array.getElem?_eq_none h'] at h1
      have h2 := wpOpIn_putJ hnd hoj (hfree j oj hoj hji hjun hnot) (fun cs b => hsel i oi cs b hi) (fun cs b => hsel j oj cs b hoj) hQ hfn hy h1
      have hfree' : ∀ k ok, ops[k]? = some ok → k ≠ i → (listed.setIfInBounds j true).getD k true = false →
          (∀ e ∈ ok.after, Region.binds md e = true → e.on ≠ i) → oi.apart ops ok = true := fun k ok hk hki hun hno => by
        refine hfree k ok hk hki ?_ hno
        by_cases hjk : j = k
        · subst hjk; exact hjun
        · rw [getD_set_ne true hjk] at hun; exact hun
      rcases hS' with ⟨hp, hS'⟩ | ⟨hp, hS'⟩
      · exact wpOpIn_mono (fun a' w' h3 => ⟨h3.2.1, ih (listed.setIfInBounds j true) a' w' hfree' (ready_mono hr (Ne.symm hji)) h3.1 (hS' w') (fun h => by rw [lastOp_pure hi hp] at h; cases h) (by rw [Array.setIfInBounds_comm _ _ hji]; exact h3.2.2)⟩) h2
      · rcases hpj : pureOp oj with _ | _
        · have hl := lastOp_no hi hoj hji hnot hp hpj hnot'
          exact wpOpIn_mono (fun a' w' h3 => ⟨h3.2.1, ih (listed.setIfInBounds j true) a' w' hfree' (ready_mono hr (Ne.symm hji)) h3.1 (hS' w' (h3.2.1 hl)) (fun _ => h3.2.1 hl) (by rw [Array.setIfInBounds_comm _ _ hji]; exact h3.2.2)⟩) h2
        · refine wpOpIn_mono (fun a' w' (h3 : w' = w ∧ YieldsIf P ops S' oi v a' ∧ _) => ⟨h3.2.2.1, ih (listed.setIfInBounds j true) a' w' hfree' (ready_mono hr (Ne.symm hji)) h3.2.1 (h3.1 ▸ hS) (fun h => h3.1 ▸ hS0 h) (by rw [Array.setIfInBounds_comm _ _ hji]; exact h3.2.2.2)⟩) (wpOpIn_pure hnd hoj hpj h2)
theorem wpAnyJ_take (i : Nat) {oi : Oper} {v : Value} {fuel : Nat} {listed : Array Bool} {a : Act} {w : World} (hfn : ∀ f, F.fn f) (hS : S w) (hi : ops[i]? = some oi) (hnd : noDef ops = true)
    (hs : Region.noSelect ops = true) (hf : Region.free md ops listed i = true) (hr : (Region.ready md ops listed).contains i = true)
    (hw : Region.wanted oi (yielded ops a.tmps) = true) (hy : ∀ w, S w → (execOp a.eval oi).run P w = .ok (.value v) w) (hQ : ∀ c a w, Q (.panic c) (a.put oi.dst v) w → Q (.panic c) a w)
    (h : wpAnyJ F n P md ops Q S fuel (listed.setIfInBounds i true) (a.put oi.dst v) w) : wpAnyJ F n P md ops Q S (fuel + 1) listed a w := by
  rcases hp : pureOp oi with _ | _
  · exact wpAnyJ_first hfn hnd hi (Region.noSelect_spec hs) hQ (.inr ⟨hp, fun _ h => h⟩) fuel listed a w (Region.free_spec hi hf) (by simpa using hr) (.inl ⟨hw, hy⟩) hS (fun _ => hS) h
  · exact wpAnyJ_first (S' := fun _ => True) hfn hnd hi (Region.noSelect_spec hs) hQ (.inl ⟨hp, fun _ => trivial⟩) fuel listed a w (Region.free_spec hi hf) (by simpa using hr) (.inl ⟨hw, fun w' _ => pure_any hp (hy w hS) w'⟩) trivial (fun _ => hS) h
/-- an operation whose value hangs on no world, behind the last store -/
theorem wpAnyJ_pure (i : Nat) {oi : Oper} {v : Value} {fuel : Nat} {listed : Array Bool} {a : Act} {w : World} (hfn : ∀ f, F.fn f) (hi : ops[i]? = some oi) (hnd : noDef ops = true)
    (hs : Region.noSelect ops = true) (hf : Region.free md ops listed i = true) (hr : (Region.ready md ops listed).contains i = true)
    (hw : Region.wanted oi (yielded ops a.tmps) = true) (hp : pureOp oi = true) (hy : (execOp a.eval oi).run P w = .ok (.value v) w) (hQ : ∀ c a w, Q (.panic c) (a.put oi.dst v) w → Q (.panic c) a w)
    (h : wpAnyJ F n P md ops Q S fuel (listed.setIfInBounds i true) (a.put oi.dst v) w) : wpAnyJ F n P md ops Q S (fuel + 1) listed a w :=
  wpAnyJ_first (S' := fun _ => True) hfn hnd hi (Region.noSelect_spec hs) hQ (.inl ⟨hp, fun _ => trivial⟩) fuel listed a w (Region.free_spec hi hf) (by simpa using hr) (.inl ⟨hw, fun w' _ => pure_any hp hy w'⟩) trivial (fun h => by rw [lastOp_pure hi hp] at h; cases h) h
/-- an operation that is not wanted -/
theorem wpAnyJ_skip (i : Nat) {oi : Oper} {fuel : Nat} {listed : Array Bool} {a : Act} {w : World} (hfn : ∀ f, F.fn f) (hS : S w) (hi : ops[i]? = some oi) (hnd : noDef ops = true)
    (hs : Region.noSelect ops = true) (hf : Region.free md ops listed i = true) (hr : (Region.ready md ops listed).contains i = true)
    (hw : Region.wanted oi (yielded ops a.tmps) = false) (hQ : ∀ c a w, Q (.panic c) (a.put oi.dst undef) w → Q (.panic c) a w)
    (h : wpAnyJ F n P md ops Q S fuel (listed.setIfInBounds i true) (a.put oi.dst undef) w) : wpAnyJ F n P md ops Q S (fuel + 1) listed a w := by
  rcases hp : pureOp oi with _ | _
  · exact wpAnyJ_first hfn hnd hi (Region.noSelect_spec hs) hQ (.inr ⟨hp, fun _ h => h⟩) fuel listed a w (Region.free_spec hi hf) (by simpa using hr) (.inr ⟨hw, rfl⟩) hS (fun _ => hS) h
  · exact wpAnyJ_first (S' := fun _ => True) hfn hnd hi (Region.noSelect_spec hs) hQ (.inl ⟨hp, fun _ => trivial⟩) fuel listed a w (Region.free_spec hi hf) (by simpa using hr) (.inr ⟨hw, rfl⟩) trivial (fun _ => hS) h
/-- one operation alone may come up: it is carried out -/
theorem wpAnyJ_one (i : Nat) {oi : Oper} {fuel : Nat} {listed : Array Bool} {a : Act} {w : World} (hi : ops[i]? = some oi) (hr : Region.ready md ops listed = [i])
    (h : ∀ K : Act → World → Prop, Hid (∀ a w, (lastOp md ops i = false → S w) → wpAnyJ F n P md ops Q S fuel (listed.setIfInBounds i true) a w → K a w) → if Region.wanted oi (yielded ops a.tmps) = true then oi.wpIn F n P a w K Q else (∀ f, oi.about P w a.eval = some f → F.fn f) ∧ K (a.put oi.dst undef) w) :
    wpAnyJ F n P md ops Q S (fuel + 1) listed a w := by
  refine ⟨fun h0 => (by rw [hr] at h0; cases h0), fun j hj => ?_⟩
  rw [hr] at hj
  obtain rfl := List.mem_singleton.1 hj
  have h1 := h (fun a' w' => (lastOp md ops j = false → S w') ∧ wpAnyJ F n P md ops Q S fuel (listed.setIfInBounds j true) a' w') (show Hid _ from fun a w h1 h2 => ⟨h1, h2⟩)
  unfold wpOpIn
  simp only [hi]
  exact h1
theorem wpAnyJ_done {fuel : Nat} {listed : Array Bool} {a : Act} {w : World} (hr : Region.ready md ops listed = []) (h : Q .normal a w) : wpAnyJ F n P md ops Q S fuel listed a w := by
  cases fuel with
  | zero => exact ⟨hr, h⟩
  | succ k => exact ⟨fun _ => h, by rw [hr]; simp⟩
theorem wpIn_region_J {id : Nat} {a : Act} {w : World} (S : World → Prop) (hm : P.follows .mixedOrders = true)
    (h : wpAnyJ F n P .any ops Q S ops.size (Array.replicate ops.size false) a w.drew) : (Code.region id ops true).wpIn F n P Q a w :=
  wpIn_region_any hm (wpAnyIn_of_J _ _ _ _ h)
theorem wideFn : ∀ f, Fence.wide.fn f := fun _ => trivial
/-- the same for an activation: no fence -/
theorem wp_region_J {id : Nat} {P : Program} {ops : Array Oper} {Q : Exit → Act → World → Prop} {a : Act} {w : World} (S : World → Prop) (hm : P.follows .mixedOrders = true)
    (h : wpAnyJ Fence.wide 0 P .any ops Q S ops.size (Array.replicate ops.size false) a w.drew) : (Code.region id ops true).wp P Q a w :=
  wpIn_wide.1 (wpIn_region_J S hm h)
theorem wpIn_append_run {o : Oper} {a : Act} {w w' : World} {K : Act → World → Prop} (s x : Operand) (t : TypeId) {v u r : Value} (hfn : ∀ f, F.fn f)
    (ho : o.op = .call { callee := .builtin .append, args := #[s, x], argTypes := #[t, t] }) (hs : a.eval s = v) (hx : a.eval x = u)
    (hrun : (Builtin.append_ #[t, t] o.type #[v, u]).run P w = .ok r w') (h : K (a.put o.dst r) w') : o.wpIn F n P a w K Q := by
  refine ⟨fun f _ => hfn f, ?_⟩
  rw [Oper.semAt_eq _ _ _ (fun c => by rw [ho]; simp)]
  unfold execOp
  simp only [ho, resolve, invoke, builtin, Sem.run_bind, Sem.run_pure, Result.andThen_ok, List.map_toArray, List.map_cons, List.map_nil, hs, hx, hrun]
  exact h
end
end Go.Proofs.Ytlhekifmkkgjlaa
/- Boxes known whole: what their cells hold. -/
namespace Go.Proofs.Ytlhekifmkkgjlaa
open Go Go.RowKit
section
variable {w : World} {p : Nat} {t : TypeId} {a b c d e f g : Value}
theorem bx1 (h : Blk w p t #[a]) : p < w.heap.size ∧ w.cell? ⟨p, 0, none⟩ = some a := ⟨h.lt, by rw [h.cell]; rfl⟩
theorem bx2 (h : Blk w p t #[a, b]) : p < w.heap.size ∧ w.cell? ⟨p, 0, none⟩ = some a ∧ w.cell? ⟨p, 1, none⟩ = some b := ⟨h.lt, by rw [h.cell]; rfl, by rw [h.cell]; rfl⟩
theorem bx3 (h : Blk w p t #[a, b, c]) : p < w.heap.size ∧ w.cell? ⟨p, 0, none⟩ = some a ∧ w.cell? ⟨p, 1, none⟩ = some b ∧ w.cell? ⟨p, 2, none⟩ = some c := ⟨h.lt, by rw [h.cell]; rfl, by rw [h.cell]; rfl, by rw [h.cell]; rfl⟩
theorem bx4 (h : Blk w p t #[a, b, c, d]) : p < w.heap.size ∧ w.cell? ⟨p, 0, none⟩ = some a ∧ w.cell? ⟨p, 1, none⟩ = some b ∧ w.cell? ⟨p, 2, none⟩ = some c ∧ w.cell? ⟨p, 3, none⟩ = some d :=
  ⟨h.lt, by rw [h.cell]; rfl, by rw [h.cell]; rfl, by rw [h.cell]; rfl, by rw [h.cell]; rfl⟩
theorem bx5 (h : Blk w p t #[a, b, c, d, e]) : p < w.heap.size ∧ w.cell? ⟨p, 0, none⟩ = some a ∧ w.cell? ⟨p, 1, none⟩ = some b ∧ w.cell? ⟨p, 2, none⟩ = some c ∧ w.cell? ⟨p, 3, none⟩ = some d ∧ w.cell? ⟨p, 4, none⟩ = some e :=
  ⟨h.lt, by rw [h.cell]; rfl, by rw [h.cell]; rfl, by rw [h.cell]; rfl, by rw [h.cell]; rfl, by rw [h.cell]; rfl⟩
theorem bx7 (h : Blk w p t #[a, b, c, d, e, f, g]) : p < w.heap.size ∧ w.cell? ⟨p, 0, none⟩ = some a ∧ w.cell? ⟨p, 1, none⟩ = some b ∧ w.cell? ⟨p, 2, none⟩ = some c ∧ w.cell? ⟨p, 3, none⟩ = some d ∧ w.cell? ⟨p, 4, none⟩ = some e ∧ w.cell? ⟨p, 5, none⟩ = some f ∧ w.cell? ⟨p, 6, none⟩ = some g :=
  ⟨h.lt, by rw [h.cell]; rfl, by rw [h.cell]; rfl, by rw [h.cell]; rfl, by rw [h.cell]; rfl, by rw [h.cell]; rfl, by rw [h.cell]; rfl, by rw [h.cell]; rfl⟩
end
section
variable {F : Fence} {n : Nat} {P : Program} {ops : Array Oper} {Q : Exit → Act → World → Prop} {md : Region.Mode} {S : World → Prop}
/-- one of two operations comes up -/
theorem wpAnyJ_two (i j : Nat) {oi oj : Oper} {fuel : Nat} {listed : Array Bool} {a : Act} {w : World} (hi : ops[i]? = some oi) (hj : ops[j]? = some oj) (hr : Region.ready md ops listed = [i, j])
    (h : ∀ K : Act → World → Prop, Hid (∀ a w, (lastOp md ops i = false → S w) → wpAnyJ F n P md ops Q S fuel (listed.setIfInBounds i true) a w → K a w) → if Region.wanted oi (yielded ops a.tmps) = true then oi.wpIn F n P a w K Q else (∀ f, oi.about P w a.eval = some f → F.fn f) ∧ K (a.put oi.dst undef) w)
    (h' : ∀ K : Act → World → Prop, Hid (∀ a w, (lastOp md ops j = false → S w) → wpAnyJ F n P md ops Q S fuel (listed.setIfInBounds j true) a w → K a w) → if Region.wanted oj (yielded ops a.tmps) = true then oj.wpIn F n P a w K Q else (∀ f, oj.about P w a.eval = some f → F.fn f) ∧ K (a.put oj.dst undef) w) :
    wpAnyJ F n P md ops Q S (fuel + 1) listed a w := by
  refine ⟨fun h0 => (by rw [hr] at h0; cases h0), fun k hk => ?_⟩
  rw [hr] at hk
  rcases List.mem_cons.1 hk with rfl | hk
  · have h1 := h (fun a' w' => (lastOp md ops k = false → S w') ∧ wpAnyJ F n P md ops Q S fuel (listed.setIfInBounds k true) a' w') (show Hid _ from fun a w h1 h2 => ⟨h1, h2⟩)
    unfold wpOpIn
    simp only [hi]
    exact h1
  · obtain rfl := List.mem_singleton.1 hk
    have h1 := h' (fun a' w' => (lastOp md ops k = false → S w') ∧ wpAnyJ F n P md ops Q S fuel (listed.setIfInBounds k true) a' w') (show Hid _ from fun a w h1 h2 => ⟨h1, h2⟩)
    unfold wpOpIn
    simp only [hj]
    exact h1
end
/-- a piece of code that ends normally, in one of the states that R tells; what follows is shown once -/
def OnlyNormal (R : Act → World → Prop) : Exit → Act → World → Prop
  | .normal, a, w => R a w
  | _, _, _ => False
theorem OnlyNormal.imp {R : Act → World → Prop} {Q : Exit → Act → World → Prop} (h2 : ∀ a' w', R a' w' → Q .normal a' w') : ∀ e a w, OnlyNormal R e a w → Q e a w := fun e a w h => by
  cases e with
  | normal => exact h2 a w h
  | _ => exact (h : False).elim
theorem wp_cut {P : Program} {c : Code} {Q : Exit → Act → World → Prop} {a : Act} {w : World} (R : Act → Act → World → Prop) (h1 : c.wp P (OnlyNormal (R a)) a w) (h2 : ∀ a' w', R a a' w' → Q .normal a' w') : c.wp P Q a w :=
  wp_mono h1 (OnlyNormal.imp h2)
theorem wpIn_cut {F : Fence} {n : Nat} {P : Program} {c : Code} {Q : Exit → Act → World → Prop} {a : Act} {w : World} (R : Act → Act → World → Prop) (h1 : c.wpIn F n P (OnlyNormal (R a)) a w) (h2 : ∀ a' w', R a a' w' → Q .normal a' w') : c.wpIn F n P Q a w :=
  Code.wpIn_mono (OnlyNormal.imp h2) h1
end Go.Proofs.Ytlhekifmkkgjlaa
/- A region that draws its order: loads taken first, each under a condition of its own. What an operation writes has to keep only the conditions of those that may still come behind it. -/
namespace Go.Proofs.Ytlhekifmkkgjlaa
open Go Go.RowKit
/-- may operation i come behind operation j, and does its value hang on the world -/
def needK (md : Region.Mode) (ops : Array Oper) (j i : Nat) : Bool := match ops[j]?, ops[i]? with
  | some oj, some oi => !(i == j) && !(oj.after.any fun e => Region.binds md e && e.on == i) && !pureOp oi && !(oi.after.any fun e => Region.binds md e && e.on == j)
  | _, _ => false
section
variable {F : Fence} {n : Nat} {P : Program} {ops : Array Oper} {Q : Exit → Act → World → Prop} {md : Region.Mode} {S : Nat → World → Prop}
theorem needK_yes {i j : Nat} {oi oj : Oper} (hi : ops[i]? = some oi) (hj : ops[j]? = some oj) (hji : j ≠ i) (hnot : ∀ e ∈ oj.after, Region.binds md e = true → e.on ≠ i) (hp : pureOp oi = false) (hnot' : ∀ e ∈ oi.after, Region.binds md e = true → e.on ≠ j) : needK md ops j i = true := by
  have no : ∀ (o : Oper) (k : Nat), (∀ e ∈ o.after, Region.binds md e = true → e.on ≠ k) → (o.after.any fun e => Region.binds md e && e.on == k) = false := fun o k h => by
    rw [← Bool.not_eq_true]
    intro h1
    obtain ⟨m, hm, he⟩ := Array.any_eq_true.1 h1
    simp only [Bool.and_eq_true, beq_iff_eq] at he
    exact h _ (Array.getElem_mem hm) he.1 he.2
  unfold needK
  simp only [hi, hj]
  rw [no oj i hnot, no oi j hnot', hp]
  simp [Ne.symm hji]
def wpAnyK (F : Fence) (n : Nat) (P : Program) (md : Region.Mode) (ops : Array Oper) (Q : Exit → Act → World → Prop) (S : Nat → World → Prop) : Nat → Array Bool → Act → World → Prop
  | 0, listed, a, w => Region.ready md ops listed = [] ∧ Q .normal a w
  | fuel + 1, listed, a, w =>
    (Region.ready md ops listed = [] → Q .normal a w) ∧
    ∀ i ∈ Region.ready md ops listed, wpOpIn F n P ops Q i (fun a' w' => (w' = w ∨ ∀ k, needK md ops i k = true → S k w') ∧ wpAnyK F n P md ops Q S fuel (listed.setIfInBounds i true) a' w') a w
theorem wpAnyIn_of_K : ∀ (fuel : Nat) (listed : Array Bool) (a : Act) (w : World), wpAnyK F n P md ops Q S fuel listed a w → wpAnyIn F n P md ops Q fuel listed a w
  | 0, _, _, _, h => h
  | fuel + 1, _, _, _, h => ⟨h.1, fun i hi => wpOpIn_mono (fun a' w' h' => wpAnyIn_of_K fuel _ a' w' h'.2) (h.2 i hi)⟩
theorem wpAnyK_first {S' : World → Prop} {i : Nat} {oi : Oper} {v : Value} (hfn : ∀ f, F.fn f) (hnd : noDef ops = true) (hi : ops[i]? = some oi) (hsel : ∀ (j : Nat) (o : Oper) cs b, ops[j]? = some o → o.op ≠ .select cs b)
    (hQ : ∀ c a w, Q (.panic c) (a.put oi.dst v) w → Q (.panic c) a w) (hS' : (pureOp oi = true ∧ ∀ w, S' w) ∨ (pureOp oi = false ∧ ∀ w, S i w → S' w)) :
    ∀ (fuel : Nat) (listed : Array Bool) (a : Act) (w : World),
      (∀ j oj, ops[j]? = some oj → j ≠ i → listed.getD j true = false → (∀ e ∈ oj.after, Region.binds md e = true → e.on ≠ i) → oi.apart ops oj = true) →
      i ∈ Region.ready md ops listed → YieldsIf P ops S' oi v a → S' w →
      wpAnyK F n P md ops Q S fuel (listed.setIfInBounds i true) (a.put oi.dst v) w → wpAnyK F n P md ops Q S (fuel + 1) listed a w := by
  intro fuel
  induction fuel with
  | zero =>
    intro listed a w _ hr hy hS H
    refine ⟨fun h => (by rw [h] at hr; cases hr), fun j hj => ?_⟩
    by_cases hji : j = i
    · subst hji; exact YieldsIf.wpOpIn hfn hnd hi hy hS ⟨.inl rfl, H⟩
    · have := ready_mono hj hji
      rw [H.1] at this
      cases this
  | succ fuel ih =>
    intro listed a w hfree hr hy hS H
    refine ⟨fun h => (by rw [h] at hr; cases hr), fun j hj => ?_⟩
    by_cases hji : j = i
    · subst hji; exact YieldsIf.wpOpIn hfn hnd hi hy hS ⟨.inl rfl, H⟩
    · have h1 := H.2 j (ready_mono hj hji)
      obtain ⟨hjun, oj, hoj, hall⟩ := mem_ready.1 hj
      have hnot : ∀ e ∈ oj.after, Region.binds md e = true → e.on ≠ i := fun e he hb heq => by
        have h1 := hall e he hb
        have h0 := (mem_ready.1 hr).1
        rw [heq] at h1
        rcases Nat.lt_or_ge i listed.size with h' | h'
        · simp [h'] at h0 h1; rw [h0] at h1; cases h1
        · simp [Array.getElem?_eq_none h'] at h1
      have hnot' : ∀ e ∈ oi.after, Region.binds md e = true → e.on ≠ j := fun e he hb heq => by
        obtain ⟨-, oi', hoi', hall'⟩ := mem_ready.1 hr
        obtain rfl : oi = oi' := by rw [hi] at hoi'; injection hoi'
        have h1 := hall' e he hb
        rw [heq] at h1
        rcases Nat.lt_or_ge j listed.size with h' | h'
        · simp [h'] at hjun h1; rw [hjun] at h1; cases h1
        · simp [Array.getElem?_eq_none h'] at h1
      have h2 := wpOpIn_putJ hnd hoj (hfree j oj hoj hji hjun hnot) (fun cs b => hsel i oi cs b hi) (fun cs b => hsel j oj cs b hoj) hQ hfn hy h1
      have hfree' : ∀ k ok, ops[k]? = some ok → k ≠ i → (listed.setIfInBounds j true).getD k true = false →
          (∀ e ∈ ok.after, Region.binds md e = true → e.on ≠ i) → oi.apart ops ok = true := fun k ok hk hki hun hno => by
        refine hfree k ok hk hki ?_ hno
        by_cases hjk : j = k
        · subst hjk; exact hjun
        · rw [getD_set_ne true hjk] at hun; exact hun
      refine wpOpIn_mono (fun a' w' h3 => ⟨h3.2.1, ih (listed.setIfInBounds j true) a' w' hfree' (ready_mono hr (Ne.symm hji)) h3.1 ?_ (by rw [Array.setIfInBounds_comm _ _ hji]; exact h3.2.2)⟩) h2
      rcases hS' with ⟨hp, hS'⟩ | ⟨hp, hS'⟩
      · exact hS' w'
      · rcases h3.2.1 with e | h4
        · rw [e]; exact hS
        · exact hS' w' (h4 i (needK_yes hi hoj hji hnot hp hnot'))
theorem wpAnyK_take (i : Nat) {oi : Oper} {v : Value} {fuel : Nat} {listed : Array Bool} {a : Act} {w : World} (hfn : ∀ f, F.fn f) (hS : S i w) (hi : ops[i]? = some oi) (hnd : noDef ops = true)
    (hs : Region.noSelect ops = true) (hf : Region.free md ops listed i = true) (hr : (Region.ready md ops listed).contains i = true)
    (hw : Region.wanted oi (yielded ops a.tmps) = true) (hy : ∀ w, S i w → (execOp a.eval oi).run P w = .ok (.value v) w) (hQ : ∀ c a w, Q (.panic c) (a.put oi.dst v) w → Q (.panic c) a w)
    (h : wpAnyK F n P md ops Q S fuel (listed.setIfInBounds i true) (a.put oi.dst v) w) : wpAnyK F n P md ops Q S (fuel + 1) listed a w := by
  rcases hp : pureOp oi with _ | _
  · exact wpAnyK_first hfn hnd hi (Region.noSelect_spec hs) hQ (.inr ⟨hp, fun _ h => h⟩) fuel listed a w (Region.free_spec hi hf) (by simpa using hr) (.inl ⟨hw, hy⟩) hS h
  · exact wpAnyK_first (S' := fun _ => True) hfn hnd hi (Region.noSelect_spec hs) hQ (.inl ⟨hp, fun _ => trivial⟩) fuel listed a w (Region.free_spec hi hf) (by simpa using hr) (.inl ⟨hw, fun w' _ => pure_any hp (hy w hS) w'⟩) trivial h
/-- one operation alone may come up: it is carried out -/
theorem wpAnyK_one (i : Nat) {oi : Oper} {fuel : Nat} {listed : Array Bool} {a : Act} {w : World} (hi : ops[i]? = some oi) (hr : Region.ready md ops listed = [i])
    (h : ∀ K : Act → World → Prop, Hid (∀ a' w', (w' = w ∨ ∀ k, needK md ops i k = true → S k w') → wpAnyK F n P md ops Q S fuel (listed.setIfInBounds i true) a' w' → K a' w') → if Region.wanted oi (yielded ops a.tmps) = true then oi.wpIn F n P a w K Q else (∀ f, oi.about P w a.eval = some f → F.fn f) ∧ K (a.put oi.dst undef) w) :
    wpAnyK F n P md ops Q S (fuel + 1) listed a w := by
  refine ⟨fun h0 => (by rw [hr] at h0; cases h0), fun j hj => ?_⟩
  rw [hr] at hj
  obtain rfl := List.mem_singleton.1 hj
  have h1 := h (fun a' w' => (w' = w ∨ ∀ k, needK md ops j k = true → S k w') ∧ wpAnyK F n P md ops Q S fuel (listed.setIfInBounds j true) a' w') (show Hid _ from fun a w h1 h2 => ⟨h1, h2⟩)
  unfold wpOpIn
  rw [hi]
  exact h1
theorem wpAnyK_two (i j : Nat) {oi oj : Oper} {fuel : Nat} {listed : Array Bool} {a : Act} {w : World} (hi : ops[i]? = some oi) (hj : ops[j]? = some oj) (hr : Region.ready md ops listed = [i, j])
    (h : ∀ K : Act → World → Prop, Hid (∀ a' w', (w' = w ∨ ∀ k, needK md ops i k = true → S k w') → wpAnyK F n P md ops Q S fuel (listed.setIfInBounds i true) a' w' → K a' w') → if Region.wanted oi (yielded ops a.tmps) = true then oi.wpIn F n P a w K Q else (∀ f, oi.about P w a.eval = some f → F.fn f) ∧ K (a.put oi.dst undef) w)
    (h' : ∀ K : Act → World → Prop, Hid (∀ a' w', (w' = w ∨ ∀ k, needK md ops j k = true → S k w') → wpAnyK F n P md ops Q S fuel (listed.setIfInBounds j true) a' w' → K a' w') → if Region.wanted oj (yielded ops a.tmps) = true then oj.wpIn F n P a w K Q else (∀ f, oj.about P w a.eval = some f → F.fn f) ∧ K (a.put oj.dst undef) w) :
    wpAnyK F n P md ops Q S (fuel + 1) listed a w := by
  refine ⟨fun h0 => (by rw [hr] at h0; cases h0), fun k hk => ?_⟩
  rw [hr] at hk
  rcases List.mem_cons.1 hk with rfl | hk
  · have h1 := h (fun a' w' => (w' = w ∨ ∀ m, needK md ops k m = true → S m w') ∧ wpAnyK F n P md ops Q S fuel (listed.setIfInBounds k true) a' w') (show Hid _ from fun a w h1 h2 => ⟨h1, h2⟩)
    unfold wpOpIn
    rw [hi]
    exact h1
  · obtain rfl := List.mem_singleton.1 hk
    have h1 := h' (fun a' w' => (w' = w ∨ ∀ m, needK md ops k m = true → S m w') ∧ wpAnyK F n P md ops Q S fuel (listed.setIfInBounds k true) a' w') (show Hid _ from fun a w h1 h2 => ⟨h1, h2⟩)
    unfold wpOpIn
    rw [hj]
    exact h1
theorem wpAnyK_done {fuel : Nat} {listed : Array Bool} {a : Act} {w : World} (hr : Region.ready md ops listed = []) (h : Q .normal a w) : wpAnyK F n P md ops Q S fuel listed a w := by
  cases fuel with
  | zero => exact ⟨hr, h⟩
  | succ k => exact ⟨fun _ => h, by rw [hr]; simp⟩
theorem wpIn_region_K {id : Nat} {a : Act} {w : World} (S : Nat → World → Prop) (hm : P.follows .mixedOrders = true)
    (h : wpAnyK F n P .any ops Q S ops.size (Array.replicate ops.size false) a w.drew) : (Code.region id ops true).wpIn F n P Q a w :=
  wpIn_region_any hm (wpAnyIn_of_K _ _ _ _ h)
theorem wp_region_K {id : Nat} {P : Program} {ops : Array Oper} {Q : Exit → Act → World → Prop} {a : Act} {w : World} (S : Nat → World → Prop) (hm : P.follows .mixedOrders = true)
    (h : wpAnyK Fence.wide 0 P .any ops Q S ops.size (Array.replicate ops.size false) a w.drew) : (Code.region id ops true).wp P Q a w :=
  wpIn_wide.1 (wpIn_region_K S hm h)
end
/-- the operations that an operation of a region may have ahead of others; decided -/
theorem needK_all {md : Region.Mode} {ops : Array Oper} {j : Nat} {S : Nat → World → Prop} {w : World} (l : List Nat) (h1 : ((List.range ops.size).filter fun k => needK md ops j k) = l) (h2 : ∀ k ∈ l, S k w) : ∀ k, needK md ops j k = true → S k w := fun k hk => by
  refine h2 k ?_
  rw [← h1, List.mem_filter]
  refine ⟨?_, hk⟩
  unfold needK at hk
  split at hk
  · rename_i oj oi h3 h4
    exact List.mem_range.2 (Array.getElem?_eq_some_iff.1 h4).1
  · cases hk
/-- two conditions: those of the list want A too -/
def pickS (l : List Nat) (A B : World → Prop) : Nat → World → Prop := fun i W => if l.contains i = true then A W ∧ B W else B W
theorem pickS_need {md : Region.Mode} {ops : Array Oper} {j : Nat} {l : List Nat} {A B : World → Prop} {w : World} (h : (l.all fun k => !needK md ops j k) = true) (hB : B w) : ∀ k, needK md ops j k = true → pickS l A B k w := fun k hk => by
  unfold pickS
  rcases e : l.contains k with _ | _
  · simp only [Bool.false_eq_true, if_false]; exact hB
  · have h1 := List.all_eq_true.1 h k (by simpa using e)
    rw [hk] at h1; cases h1
theorem pickS_all {md : Region.Mode} {ops : Array Oper} {j : Nat} {l : List Nat} {A B : World → Prop} {w : World} (hA : A w) (hB : B w) : ∀ k, needK md ops j k = true → pickS l A B k w := fun k hk => by
  unfold pickS
  split
  · exact ⟨hA, hB⟩
  · exact hB
theorem pickS_no {md : Region.Mode} {ops : Array Oper} {j : Nat} {S : Nat → World → Prop} {w : World} (h : ((List.range ops.size).all fun k => !needK md ops j k) = true) : ∀ k, needK md ops j k = true → S k w := fun k hk => by
  have h0 := hk
  unfold needK at hk
  split at hk
  · rename_i oj oi h3 h4
    have h1 := List.all_eq_true.1 h k (List.mem_range.2 (Array.getElem?_eq_some_iff.1 h4).1)
    rw [h0] at h1; cases h1
  · cases hk
end Go.Proofs.Ytlhekifmkkgjlaa
/- Contracts of small functions of chapter 8: the library's searches, within, moulds and losses. -/
namespace Go.Proofs.Ytlhekifmkkgjlaa
open Go Go.RowKit
set_option maxHeartbeats 400000
theorem most_any (a b : Int) (w : World) : Calls Try.prog 56 #[.agg #[.int .i64 a, .int .i64 b]] w fun e w' => e = .returned (.int .i64 b) ∧ Below w.heap.size w w' := by
  go_enter Try.func56, Try.ntmps56
  go_wp2
  go_ret
  exact ⟨rfl, (Below.refl _ _).alloc (Nat.le_refl _) _⟩
theorem least_any (a b : Int) (w : World) : Calls Try.prog 57 #[.agg #[.int .i64 a, .int .i64 b]] w fun e w' => e = .returned (.int .i64 a) ∧ Below w.heap.size w w' := by
  go_enter Try.func57, Try.ntmps57
  go_wp2
  go_ret
  exact ⟨rfl, (Below.refl _ _).alloc (Nat.le_refl _) _⟩

theorem indexFunc_int (g : FuncId) (lb : Array Value) (p : Nat → Bool) (A : Option Addr) (n c : Nat) (x : Nat → Int) (w : World) (hn : n ≤ maxLen) (hR : IR w w.heap.size A n x)
    (eg : ∀ args w, (callFunc g args).run Try.prog w = .ok (.enter g args) w)
    (hp : ∀ W k, k < n → Below w.heap.size w W → Calls Try.prog g (#[.int .i64 (x k)] ++ lb) W fun e W' => e = .returned (.bool (p k)) ∧ Below W.heap.size W W') :
    Calls Try.prog 114 #[.slice A n c, .func (.func g) #[] lb] w fun e w' => e = .returned (.int .i64 (idx p n)) ∧ Below w.heap.size w w' := by
  unfold maxLen at hn
  have HP := hide hp; clear hp
  go_enter Try.func114, Try.ntmps114
  go_wp2
  go_loopw [8] (fun i wr => ∃ k : Nat, k ≤ n ∧ i = .int .i64 k ∧ idx p k = -1 ∧ Below w.heap.size w wr) (fun i _ => n - (intOf i).toNat)
  case atStart => exact ⟨0, Nat.zero_le _, rfl, rfl, Below.refl _ _⟩
  case round =>
    obtain ⟨k, hk, rfl, hx, hB⟩ := hrel
    have HX := hide hx; clear hx
    by_cases hlt : k < n
    · have hR' := (hR.below hB (Nat.le_refl _)).at_ hlt
      obtain ⟨b, off, rfl, hb, hR'⟩ := hR'
      have hc := hR'
      cases hpk : p k with
      | true =>
        have hpk' := hide hpk; clear hpk
        have H := HP.out wr k hlt hB
        rw [hpk'.out] at H
        have H' := hide H; clear H
        go_wp2_with ((with_reducible refine H'.out.mono ?_); rintro e w' ⟨rfl, hb1⟩)
        go_ret
        refine ⟨ret_int ?_, hB.trans (hb1.mono hB.size)⟩
        rw [idx_stable p (k+1) n (by simp [idx, HX.out, hpk'.out]) (by omega)]
        simp [idx, HX.out, hpk'.out]
      | false =>
        have hpk' := hide hpk; clear hpk
        have H := HP.out wr k hlt hB
        rw [hpk'.out] at H
        have H' := hide H; clear H
        go_wp2_with ((with_reducible refine H'.out.mono ?_); rintro e w' ⟨rfl, hb1⟩)
        go_roundw
        case rel => exact ⟨k + 1, by omega, by go_num, by simp [idx, HX.out, hpk'.out], hB.trans (hb1.mono hB.size)⟩
        case measure => simp [intOf]; omega
    · obtain rfl : k = n := by omega
      go_wp2
      go_ret
      exact ⟨ret_int HX.out.symm, hB⟩

theorem containsFunc_int (g : FuncId) (lb : Array Value) (p : Nat → Bool) (A : Option Addr) (n c : Nat) (x : Nat → Int) (w : World) (hn : n ≤ maxLen) (hR : IR w w.heap.size A n x)
    (eg : ∀ args w, (callFunc g args).run Try.prog w = .ok (.enter g args) w)
    (hp : ∀ W k, k < n → Below w.heap.size w W → Calls Try.prog g (#[.int .i64 (x k)] ++ lb) W fun e W' => e = .returned (.bool (p k)) ∧ Below W.heap.size W W') :
    Calls Try.prog 99 #[.slice A n c, .func (.func g) #[] lb] w fun e w' => e = .returned (.bool (anyTo p n)) ∧ Below w.heap.size w w' := by
  have H := hide (indexFunc_int g lb p A n c x w hn hR eg hp)
  clear hp hR hn eg
  go_enter Try.func99, Try.ntmps99
  go_wp2_with ((with_reducible refine H.out.mono ?_); rintro e w' ⟨rfl, hb1⟩)
  go_ret
  exact ⟨ret_bool (idx_any p n), hb1⟩

theorem indexFunc_stage (g : FuncId) (lb : Array Value) (p : Nat → Bool) (A : Option Addr) (n c : Nat) (u v : Nat → Value) (w : World) (hn : n ≤ maxLen) (hR : P2 w w.heap.size A n u v)
    (eg : ∀ args w, (callFunc g args).run Try.prog w = .ok (.enter g args) w)
    (hp : ∀ W k, k < n → Below w.heap.size w W → Calls Try.prog g (#[.agg #[u k, v k]] ++ lb) W fun e W' => e = .returned (.bool (p k)) ∧ Below W.heap.size W W') :
    Calls Try.prog 113 #[.slice A n c, .func (.func g) #[] lb] w fun e w' => e = .returned (.int .i64 (idx p n)) ∧ Below w.heap.size w w' := by
  unfold maxLen at hn
  have HP := hide hp; clear hp
  go_enter Try.func113, Try.ntmps113
  go_wp2
  go_loopw [8] (fun i wr => ∃ k : Nat, k ≤ n ∧ i = .int .i64 k ∧ idx p k = -1 ∧ Below w.heap.size w wr) (fun i _ => n - (intOf i).toNat)
  case atStart => exact ⟨0, Nat.zero_le _, rfl, rfl, Below.refl _ _⟩
  case round =>
    obtain ⟨k, hk, rfl, hx, hB⟩ := hrel
    have HX := hide hx; clear hx
    by_cases hlt : k < n
    · have hR' := (hR.below hB (Nat.le_refl _)).at_ hlt
      obtain ⟨b, off, rfl, hb, hR'⟩ := hR'
      obtain ⟨hc, hc2⟩ := hR'
      cases hpk : p k with
      | true =>
        have hpk' := hide hpk; clear hpk
        have H := HP.out wr k hlt hB
        rw [hpk'.out] at H
        have H' := hide H; clear H
        go_wp2_with ((with_reducible refine H'.out.mono ?_); rintro e w' ⟨rfl, hb1⟩)
        go_ret
        refine ⟨ret_int ?_, hB.trans (hb1.mono hB.size)⟩
        rw [idx_stable p (k+1) n (by simp [idx, HX.out, hpk'.out]) (by omega)]
        simp [idx, HX.out, hpk'.out]
      | false =>
        have hpk' := hide hpk; clear hpk
        have H := HP.out wr k hlt hB
        rw [hpk'.out] at H
        have H' := hide H; clear H
        go_wp2_with ((with_reducible refine H'.out.mono ?_); rintro e w' ⟨rfl, hb1⟩)
        go_roundw
        case rel => exact ⟨k + 1, by omega, by go_num, by simp [idx, HX.out, hpk'.out], hB.trans (hb1.mono hB.size)⟩
        case measure => simp [intOf]; omega
    · obtain rfl : k = n := by omega
      go_wp2
      go_ret
      exact ⟨ret_int HX.out.symm, hB⟩

theorem containsFunc_stage (g : FuncId) (lb : Array Value) (p : Nat → Bool) (A : Option Addr) (n c : Nat) (u v : Nat → Value) (w : World) (hn : n ≤ maxLen) (hR : P2 w w.heap.size A n u v)
    (eg : ∀ args w, (callFunc g args).run Try.prog w = .ok (.enter g args) w)
    (hp : ∀ W k, k < n → Below w.heap.size w W → Calls Try.prog g (#[.agg #[u k, v k]] ++ lb) W fun e W' => e = .returned (.bool (p k)) ∧ Below W.heap.size W W') :
    Calls Try.prog 97 #[.slice A n c, .func (.func g) #[] lb] w fun e w' => e = .returned (.bool (anyTo p n)) ∧ Below w.heap.size w w' := by
  have H := hide (indexFunc_stage g lb p A n c u v w hn hR eg hp)
  clear hp hR hn eg
  go_enter Try.func97, Try.ntmps97
  go_wp2_with ((with_reducible refine H.out.mono ?_); rintro e w' ⟨rfl, hb1⟩)
  go_ret
  exact ⟨ret_bool (idx_any p n), hb1⟩

theorem indexFunc_tier (g : FuncId) (lb : Array Value) (p : Nat → Bool) (A : Option Addr) (n c : Nat) (u v : Nat → Value) (w : World) (hn : n ≤ maxLen) (hR : P2 w w.heap.size A n u v)
    (eg : ∀ args w, (callFunc g args).run Try.prog w = .ok (.enter g args) w)
    (hp : ∀ W k, k < n → Below w.heap.size w W → Calls Try.prog g (#[.agg #[u k, v k]] ++ lb) W fun e W' => e = .returned (.bool (p k)) ∧ Below W.heap.size W W') :
    Calls Try.prog 109 #[.slice A n c, .func (.func g) #[] lb] w fun e w' => e = .returned (.int .i64 (idx p n)) ∧ Below w.heap.size w w' := by
  unfold maxLen at hn
  have HP := hide hp; clear hp
  go_enter Try.func109, Try.ntmps109
  go_wp2
  go_loopw [8] (fun i wr => ∃ k : Nat, k ≤ n ∧ i = .int .i64 k ∧ idx p k = -1 ∧ Below w.heap.size w wr) (fun i _ => n - (intOf i).toNat)
  case atStart => exact ⟨0, Nat.zero_le _, rfl, rfl, Below.refl _ _⟩
  case round =>
    obtain ⟨k, hk, rfl, hx, hB⟩ := hrel
    have HX := hide hx; clear hx
    by_cases hlt : k < n
    · have hR' := (hR.below hB (Nat.le_refl _)).at_ hlt
      obtain ⟨b, off, rfl, hb, hR'⟩ := hR'
      obtain ⟨hc, hc2⟩ := hR'
      cases hpk : p k with
      | true =>
        have hpk' := hide hpk; clear hpk
        have H := HP.out wr k hlt hB
        rw [hpk'.out] at H
        have H' := hide H; clear H
        go_wp2_with ((with_reducible refine H'.out.mono ?_); rintro e w' ⟨rfl, hb1⟩)
        go_ret
        refine ⟨ret_int ?_, hB.trans (hb1.mono hB.size)⟩
        rw [idx_stable p (k+1) n (by simp [idx, HX.out, hpk'.out]) (by omega)]
        simp [idx, HX.out, hpk'.out]
      | false =>
        have hpk' := hide hpk; clear hpk
        have H := HP.out wr k hlt hB
        rw [hpk'.out] at H
        have H' := hide H; clear H
        go_wp2_with ((with_reducible refine H'.out.mono ?_); rintro e w' ⟨rfl, hb1⟩)
        go_roundw
        case rel => exact ⟨k + 1, by omega, by go_num, by simp [idx, HX.out, hpk'.out], hB.trans (hb1.mono hB.size)⟩
        case measure => simp [intOf]; omega
    · obtain rfl : k = n := by omega
      go_wp2
      go_ret
      exact ⟨ret_int HX.out.symm, hB⟩

theorem containsFunc_tier (g : FuncId) (lb : Array Value) (p : Nat → Bool) (A : Option Addr) (n c : Nat) (u v : Nat → Value) (w : World) (hn : n ≤ maxLen) (hR : P2 w w.heap.size A n u v)
    (eg : ∀ args w, (callFunc g args).run Try.prog w = .ok (.enter g args) w)
    (hp : ∀ W k, k < n → Below w.heap.size w W → Calls Try.prog g (#[.agg #[u k, v k]] ++ lb) W fun e W' => e = .returned (.bool (p k)) ∧ Below W.heap.size W W') :
    Calls Try.prog 90 #[.slice A n c, .func (.func g) #[] lb] w fun e w' => e = .returned (.bool (anyTo p n)) ∧ Below w.heap.size w w' := by
  have H := hide (indexFunc_tier g lb p A n c u v w hn hR eg hp)
  clear hp hR hn eg
  go_enter Try.func90, Try.ntmps90
  go_wp2_with ((with_reducible refine H.out.mono ?_); rintro e w' ⟨rfl, hb1⟩)
  go_ret
  exact ⟨ret_bool (idx_any p n), hb1⟩

/-- within's test -/
theorem within1_any (v a b : Int) (p q : Nat) (w : World) (hp : w.cell? ⟨p, 0, none⟩ = some (.int .i64 a)) (hq : w.cell? ⟨q, 0, none⟩ = some (.int .i64 b)) :
    Calls Try.prog 100 #[.int .i64 v, .pointer (some ⟨p, 0, none⟩), .pointer (some ⟨q, 0, none⟩)] w fun e w' => e = .returned (.bool (outB a b v)) ∧ Below w.heap.size w w' := by
  go_enter Try.func100, Try.ntmps100
  go_wp2
  all_goals
    go_ret
    refine ⟨ret_bool ?_, Below.refl _ _⟩
    simp [outB]; try omega
def wiB (a b : Int) (x : Nat → Int) (n : Nat) : Bool := !anyTo (fun k => outB a b (x k)) n
theorem wiB_iff (a b : Int) (x : Nat → Int) (n : Nat) : wiB a b x n = true ↔ ∀ k, k < n → a ≤ x k ∧ x k ≤ b := by
  unfold wiB
  rw [Bool.not_eq_true', ← Bool.not_eq_true, anyTo_iff]
  constructor
  · intro h k hk
    rw [← outB_false]
    rcases hb : outB a b (x k) with _ | _
    · rfl
    · exact absurd ⟨k, hk, hb⟩ h
  · rintro h ⟨k, hk, h2⟩
    exact (outB_iff _ _ _).1 h2 (h k hk)
theorem within_any (a b : Int) (A : Option Addr) (n c : Nat) (x : Nat → Int) (w : World) (hn : n ≤ maxLen) (hR : IR w w.heap.size A n x) :
    Calls Try.prog 61 #[.int .i64 a, .int .i64 b, .slice A n c] w fun e w' => e = .returned (.bool (wiB a b x n)) ∧ Below w.heap.size w w' := by
  have hR' := hide hR; clear hR
  unfold maxLen at hn
  go_enter Try.func61, Try.ntmps61
  go_wp2_with fail
  refine (containsFunc_int 100 #[.pointer (some ⟨w.heap.size, 0, none⟩), .pointer (some ⟨w.heap.size + 1, 0, none⟩)] (fun k => outB a b (x k)) A n c x _ hn ?_ ?_ ?_).mono ?_
  · exact (hR'.out.below (((Below.refl _ _).alloc (Nat.le_refl _) _).alloc (by simp) _) (Nat.le_refl _)).more (by simp; omega)
  · exact enters_of Try.func100 (by kernel_rfl) rfl
  · intro W k _ hB
    refine within1_any _ _ _ _ _ _ ?_ ?_
    · rw [hB.cell (by simp; omega)]; simp
    · rw [hB.cell (by simp)]; simp
  rintro e w' ⟨rfl, hb1⟩
  go_wp2_with fail
  go_ret
  exact ⟨rfl, (((Below.refl _ _).alloc (Nat.le_refl _) _).alloc (by simp) _).trans (hb1.mono (by simp; omega))⟩
end Go.Proofs.Ytlhekifmkkgjlaa
/- Contracts of chapter 8: stages, what is left, what is needed. -/
namespace Go.Proofs.Ytlhekifmkkgjlaa
open Go Go.RowKit
set_option maxHeartbeats 400000
/-- a stage that is not valid -/
def stB (a b : Int) : Bool := decide (a < 0) || decide (b < a) || decide (10000 < b)
theorem stB_false (a b : Int) : stB a b = false ↔ 0 ≤ a ∧ a ≤ b ∧ b ≤ 10000 := by
  simp only [stB, Bool.or_eq_false_iff, decide_eq_false_iff_not]; omega
theorem check1_any (a b : Int) (w : World) : Calls Try.prog 98 #[.agg #[.int .i64 a, .int .i64 b]] w fun e w' => e = .returned (.bool (stB a b)) ∧ Below w.heap.size w w' := by
  go_enter Try.func98, Try.ntmps98
  go_wp2
  all_goals
    go_ret
    refine ⟨ret_bool ?_, (Below.refl _ _).alloc (Nat.le_refl _) _⟩
    simp [stB]; try omega
def chkE (n : Int) (m : Nat) (bad : Bool) : Int := if 10 < m then 5 else if bad = true then 2 else if 0 ≤ n ∧ n ≤ 1000000000 then 0 else 3
theorem wiB_one (a b v : Int) : wiB a b (fun _ => v) 1 = decide (a ≤ v ∧ v ≤ b) := by
  rw [Bool.eq_iff_iff, wiB_iff, decide_eq_true_eq]
  exact ⟨fun h => h 0 (by omega), fun h _ _ => h⟩
theorem check_any (n : Int) (A : Option Addr) (m c : Nat) (x y : Nat → Int) (w : World) (hm : m ≤ maxLen) (hR : P2 w w.heap.size A m (fun k => .int .i64 (x k)) (fun k => .int .i64 (y k))) :
    Calls Try.prog 54 #[.int .i64 n, .slice A m c] w fun e w' => e = .returned (.int .i64 (chkE n m (anyTo (fun k => stB (x k) (y k)) m))) ∧ Below w.heap.size w w' := by
  have H1 := hide (containsFunc_stage 98 #[] (fun k => stB (x k) (y k)) A m c _ _ w hm hR (enters_of Try.func98 (by kernel_rfl) rfl) (fun W k _ _ => check1_any _ _ _))
  clear hR
  unfold maxLen at hm
  generalize hbad : anyTo (fun k => stB (x k) (y k)) m = bad at H1 ⊢
  clear hbad
  go_enter Try.func54, Try.ntmps54
  by_cases h10 : 10 < m
  · go_wp2_with fail
    go_ret
    exact ⟨ret_int (by simp [chkE, h10]), Below.refl _ _⟩
  · go_wp2_with fail
    refine H1.out.mono ?_
    rintro e w1 ⟨rfl, hb1⟩
    cases bad
    · go_wp2_with fail
      refine (within_any 0 1000000000 _ 1 1 (fun _ => n) _ (by decide) ?_).mono ?_
      · simpa using IR.one w1 n 3
      rw [wiB_one]
      rintro e w2 ⟨rfl, hb2⟩
      by_cases hn : 0 ≤ n ∧ n ≤ 1000000000
      · have hd := decide_eq_true hn
        rw [hd]
        go_wp2_with fail
        go_ret
        exact ⟨ret_int (by simp [chkE, h10, hn]), (hb1.alloc hb1.size _).trans (hb2.mono (by simp; have := hb1.size; omega))⟩
      · have hd := decide_eq_false hn
        rw [hd]
        go_wp2_with fail
        go_ret
        exact ⟨ret_int (by simp [chkE, h10, hn]), (hb1.alloc hb1.size _).trans (hb2.mono (by simp; have := hb1.size; omega))⟩
    · go_wp2_with fail
      go_ret
      exact ⟨ret_int (by simp [chkE, h10]), hb1⟩
/-- what is left behind k stages with the shares sh -/
def aft (sh : Nat → Int) : Nat → Int → Int
  | 0, n => n
  | k + 1, n => aft sh k n - aft sh k n * sh k / 10000
theorem aft_bd (sh : Nat → Int) (n : Int) (h0 : 0 ≤ n) : ∀ k, (∀ i, i < k → 0 ≤ sh i ∧ sh i ≤ 10000) → 0 ≤ aft sh k n ∧ aft sh k n ≤ n
  | 0, _ => ⟨h0, Int.le_refl _⟩
  | k + 1, h => by
    obtain ⟨h1, h2⟩ := aft_bd sh n h0 k fun i hi => h i (by omega)
    obtain ⟨h3, h4⟩ := h k (by omega)
    unfold aft
    have h5 : 0 ≤ aft sh k n * sh k := Int.mul_nonneg h1 h3
    have h6 : aft sh k n * sh k ≤ aft sh k n * 10000 := Int.mul_le_mul_of_nonneg_left h4 h1
    omega
theorem after_any (g : FuncId) (sh : Nat → Int) (n : Int) (A : Option Addr) (m c : Nat) (x y : Nat → Int) (w : World) (hm : m ≤ maxLen) (h0 : 0 ≤ n) (h1 : n ≤ 2000000000)
    (hR : PI w w.heap.size A m x y) (hsh : ∀ i, i < m → 0 ≤ sh i ∧ sh i ≤ 10000)
    (eg : ∀ args w, (callFunc g args).run Try.prog w = .ok (.enter g args) w)
    (hp : ∀ W k, k < m → Below w.heap.size w W → Calls Try.prog g #[.agg #[.int .i64 (x k), .int .i64 (y k)]] W fun e W' => e = .returned (.int .i64 (sh k)) ∧ Below W.heap.size W W') :
    Calls Try.prog 55 #[.int .i64 n, .slice A m c, .func (.func g) #[] #[]] w fun e w' => e = .returned (.int .i64 (aft sh m n)) ∧ Below w.heap.size w w' := by
  unfold maxLen at hm
  have HP := hide hp; clear hp
  have HS := hide hsh; clear hsh
  go_enter Try.func55, Try.ntmps55
  go_wp2_with fail
  go_loopw [0, 11] (fun n' i wr => ∃ k : Nat, k ≤ m ∧ i = .int .i64 k ∧ n' = .int .i64 (aft sh k n) ∧ Below w.heap.size w wr) (fun _ i _ => m - (intOf i).toNat)
  case atStart => exact ⟨0, Nat.zero_le _, rfl, rfl, Below.refl _ _⟩
  case round =>
    obtain ⟨k, hk, rfl, rfl, hB⟩ := hrel
    obtain ⟨b1, b2⟩ := aft_bd sh n h0 k fun i hi => HS.out i (by omega)
    by_cases hlt : k < m
    · obtain ⟨b, off, rfl, hb, hc1, hc2⟩ := PI.at_ (hR.below hB (Nat.le_refl _)) hlt
      obtain ⟨s1, s2⟩ := HS.out k hlt
      obtain ⟨b3, b4⟩ := aft_bd sh n h0 (k + 1) fun i hi => HS.out i (by omega)
      have h5 : 0 ≤ aft sh k n * sh k := Int.mul_nonneg b1 s1
      have h6 : aft sh k n * sh k ≤ aft sh k n * 10000 := Int.mul_le_mul_of_nonneg_left s2 b1
      go_wp2_with fail
      refine (HP.out _ k hlt (hB.alloc hB.size _)).mono ?_
      rintro e w1 ⟨rfl, hb1⟩
      go_wp2_with fail
      go_roundw
      case rel => exact ⟨k + 1, by omega, by go_num, rfl, (hB.alloc hB.size _).trans (hb1.mono (by simp; have := hB.size; omega))⟩
      case measure => simp [intOf]; omega
    · obtain rfl : k = m := by omega
      go_wp2_with fail
      go_ret
      exact ⟨rfl, hB⟩
end Go.Proofs.Ytlhekifmkkgjlaa
/- Contracts of chapter 8: the search by halving, Left and Need. -/
namespace Go.Proofs.Ytlhekifmkkgjlaa
open Go Go.RowKit
set_option maxHeartbeats 400000
/-- r is the least number below n where p holds, or n -/
def Least (p : Nat → Bool) (n r : Nat) : Prop := r ≤ n ∧ (∀ i, i < r → p i = false) ∧ (r < n → p r = true)
theorem Least.uniq {p : Nat → Bool} {n r s : Nat} (h : Least p n r) (k : Least p n s) : r = s := by
  obtain ⟨h1, h2, h3⟩ := h
  obtain ⟨k1, k2, k3⟩ := k
  rcases Nat.lt_trichotomy r s with hl | rfl | hl
  · have := h3 (by omega); rw [k2 r hl] at this; cases this
  · rfl
  · have := k3 (by omega); rw [h2 s hl] at this; cases this
def SearchPost (p : Nat → Bool) (n : Nat) (w : World) (e : Ending) (w' : World) : Prop := ∃ r : Nat, e = .returned (.int .i64 r) ∧ Least p n r ∧ Below w.heap.size w w'
theorem search_any (g : FuncId) (lb : Array Value) (p : Nat → Bool) (n : Nat) (w : World) (hn : n ≤ 2000000000) (mono : ∀ i j, i ≤ j → j < n → p i = true → p j = true)
    (eg : ∀ args w, (callFunc g args).run Try.prog w = .ok (.enter g args) w)
    (hp : ∀ W (k : Nat), k < n → Below w.heap.size w W → Calls Try.prog g (#[.int .i64 k] ++ lb) W fun e W' => e = .returned (.bool (p k)) ∧ Below W.heap.size W W') :
    Calls Try.prog 58 #[.int .i64 n, .func (.func g) #[] lb] w (SearchPost p n w) := by
  have HP := hide hp; clear hp
  have HM := hide mono; clear mono
  go_enter Try.func58, Try.ntmps58
  go_wp2_with fail
  go_loopw [5, 6] (fun i j wr => ∃ a b : Nat, i = .int .i64 a ∧ j = .int .i64 b ∧ a ≤ b ∧ b ≤ n ∧ Hid ((∀ i, i < a → p i = false) ∧ (b < n → p b = true)) ∧ Below w.heap.size w wr) (fun i j _ => (intOf j).toNat - (intOf i).toNat)
  case atStart => exact ⟨0, n, rfl, rfl, Nat.zero_le _, Nat.le_refl _, ⟨fun i hi => absurd hi (by omega), fun h => absurd h (by omega)⟩, Below.refl _ _⟩
  case round =>
    obtain ⟨a, b, rfl, rfl, hab, hbn, H, hB⟩ := hrel
    by_cases hlt : a < b
    · go_wp2_with fail
      obtain ⟨h, hh⟩ : ∃ h : Nat, h = (a + b) / 2 := ⟨_, rfl⟩
      have e1 : ((a : Int) + b) / 2 = (h : Int) := by omega
      have l1 : a ≤ h := by omega
      have l2 : h < b := by omega
      clear hh
      simp only [e1]
      clear e1
      cases hph : p h with
      | true =>
        have hph' := hide hph; clear hph
        have HC := hide (HP.out wr h (by omega) hB)
        rw [hph'.out] at HC
        refine HC.out.mono ?_
        rintro e w1 ⟨rfl, hb1⟩
        go_wp2_with fail
        go_roundw
        case rel => exact ⟨a, h, rfl, rfl, by omega, by omega, ⟨H.out.1, fun _ => hph'.out⟩, hB.trans (hb1.mono hB.size)⟩
        case measure => simp [intOf]; omega
      | false =>
        have hph' := hide hph; clear hph
        have HC := hide (HP.out wr h (by omega) hB)
        rw [hph'.out] at HC
        refine HC.out.mono ?_
        rintro e w1 ⟨rfl, hb1⟩
        go_wp2_with fail
        go_roundw
        case rel =>
          refine ⟨h + 1, b, by go_num, rfl, by omega, by omega, ⟨fun i hi => ?_, H.out.2⟩, hB.trans (hb1.mono hB.size)⟩
          rcases hpi : p i with _ | _
          · rfl
          · have := HM.out i h (by omega) (by omega) hpi
            rw [hph'.out] at this; cases this
        case measure => simp [intOf]; omega
    · obtain rfl : a = b := by omega
      go_wp2_with fail
      go_ret
      exact ⟨a, rfl, ⟨hbn, H.out.1, H.out.2⟩, hB⟩
theorem aft_mono (sh : Nat → Int) : ∀ k, (∀ i, i < k → 0 ≤ sh i ∧ sh i ≤ 10000) → ∀ a b : Int, 0 ≤ a → a ≤ b → aft sh k a ≤ aft sh k b
  | 0, _, a, b, _, h => h
  | k + 1, hs, a, b, h0, h => by
    have h1 := aft_mono sh k (fun i hi => hs i (by omega)) a b h0 h
    have h2 := (aft_bd sh a h0 k fun i hi => hs i (by omega)).1
    obtain ⟨s1, s2⟩ := hs k (by omega)
    unfold aft
    generalize aft sh k a = p at *
    generalize aft sh k b = q at *
    have h3 : q * sh k = p * sh k + (q - p) * sh k := by rw [← Int.add_mul]; congr 1; omega
    have h4 : (q - p) * sh k ≤ (q - p) * 10000 := Int.mul_le_mul_of_nonneg_left s2 (by omega)
    omega
theorem need1_any (n : Int) (i : Nat) (A : Option Addr) (m c : Nat) (x y : Nat → Int) (p q : Nat) (w : World) (hm : m ≤ maxLen) (h1 : i ≤ 2000000000)
    (hR : PI w w.heap.size A m x y) (hsh : ∀ i, i < m → 0 ≤ y i ∧ y i ≤ 10000)
    (hc : w.cell? ⟨p, 0, none⟩ = some (.slice A m c)) (hq : w.cell? ⟨q, 0, none⟩ = some (.int .i64 n)) (hpl : p < w.heap.size) (hql : q < w.heap.size) :
    Calls Try.prog 59 #[.int .i64 i, .pointer (some ⟨p, 0, none⟩), .pointer (some ⟨q, 0, none⟩)] w fun e w' => e = .returned (.bool (decide (n ≤ aft y m i))) ∧ Below w.heap.size w w' := by
  have HC := fun W (hB : Below w.heap.size w W) => after_any 56 y (i : Int) A m c x y W hm (by omega) (by omega) ((hR.below hB (Nat.le_refl _)).more hB.size) hsh (enters_of Try.func56 (by kernel_rfl) rfl) (fun W k _ _ => most_any _ _ _)
  have HC' := hide HC
  clear HC hR hsh
  go_enter Try.func59, Try.ntmps59
  go_wp2_with fail
  go_region_held3 (fun W => W.cell? ⟨p, 0, none⟩ = some (.slice A m c) ∧ W.cell? ⟨q, 0, none⟩ = some (.int .i64 n)) (first | go_keep | exact ⟨(hb1.cell (p := ⟨p, 0, none⟩) hpl).trans hc, (hb1.cell (p := ⟨q, 0, none⟩) hql).trans hq⟩) ((go_at_call 55; refine (HC'.out _ ((Below.refl _ _).drew)).mono ?_; rintro e w1 ⟨rfl, hb1⟩))
  go_wp2_with fail
  go_ret
  exact ⟨rfl, (Below.refl _ _).drew.trans hb1⟩
/-- stages that are valid -/
def Stages (m : Nat) (x y : Nat → Int) : Prop := ∀ i, i < m → 0 ≤ x i ∧ x i ≤ y i ∧ y i ≤ 10000
theorem stages_bad (m : Nat) (x y : Nat → Int) : anyTo (fun k => stB (x k) (y k)) m = false ↔ Stages m x y := by
  rw [← Bool.not_eq_true, anyTo_iff]
  constructor
  · intro h i hi
    rw [← stB_false]
    rcases hb : stB (x i) (y i) with _ | _
    · rfl
    · exact absurd ⟨i, hi, hb⟩ h
  · rintro h ⟨k, hk, h2⟩
    have := (stB_false _ _).2 (h k hk)
    rw [this] at h2; cases h2
theorem chkE_zero (n : Int) (m : Nat) (x y : Nat → Int) : chkE n m (anyTo (fun k => stB (x k) (y k)) m) = 0 ↔ m ≤ 10 ∧ Stages m x y ∧ 0 ≤ n ∧ n ≤ 1000000000 := by
  rw [← stages_bad]
  unfold chkE
  generalize anyTo (fun k => stB (x k) (y k)) m = b
  cases b <;> simp <;> (repeat' split) <;> simp_all <;> omega
theorem left_err (n : Int) (A : Option Addr) (m c : Nat) (x y : Nat → Int) (w : World) (hm : m ≤ maxLen) (hR : PI w w.heap.size A m x y)
    (he : chkE n m (anyTo (fun k => stB (x k) (y k)) m) ≠ 0) :
    Calls Try.prog 14 #[.int .i64 n, .slice A m c] w fun e w' =>
      e = .returned (.tuple #[.agg #[.int .i64 0, .int .i64 0], .int .i64 (chkE n m (anyTo (fun k => stB (x k) (y k)) m))]) ∧ Below w.heap.size w w' := by
  have HC := fun W (hB : Below w.heap.size w W) => check_any n A m c x y W hm ((hR.below hB (Nat.le_refl _)).more hB.size)
  have HC' := hide HC
  clear HC hR
  generalize chkE n m (anyTo (fun k => stB (x k) (y k)) m) = E at *
  have he' : (E != 0) = true := by simpa using he
  go_enter Try.func14, Try.ntmps14
  go_wp2_with fail
  refine (HC'.out _ ((Below.refl _ _).alloc (Nat.le_refl _) _)).mono ?_
  rintro e w1 ⟨rfl, hb1⟩
  have hz : w.heap.size + 1 ≤ w1.heap.size := by have := hb1.size; simpa using this
  have hc0 : w1.cell? ⟨w.heap.size, 0, none⟩ = some (.int .i64 0) := (hb1.cell (by simp)).trans (by simp)
  have hc1 : w1.cell? ⟨w.heap.size, 1, none⟩ = some (.int .i64 0) := (hb1.cell (by simp)).trans (by simp)
  have hf0 : w1.frozen? ⟨w.heap.size, 0, none⟩ = false := (hb1.frozen (by simp)).trans (by simp)
  have hf1 : w1.frozen? ⟨w.heap.size, 1, none⟩ = false := (hb1.frozen (by simp)).trans (by simp)
  go_wp2_with fail
  refine bodyPost_ret (v := .tuple #[.agg #[.int .i64 0, .int .i64 0], .int .i64 E]) (by simp [results, Try.results14, go_sem, *]) rfl ⟨rfl, ?_⟩
  exact ((((Below.refl _ _).alloc (Nat.le_refl _) _).trans (hb1.mono (by simp))).setCell (Nat.le_refl _) _).setCell (Nat.le_refl _) _
theorem left_ok (n : Int) (A : Option Addr) (m c : Nat) (x y : Nat → Int) (w : World) (hm : m ≤ 10) (hR : PI w w.heap.size A m x y) (hs : Stages m x y) (h0 : 0 ≤ n) (h1 : n ≤ 1000000000) :
    Calls Try.prog 14 #[.int .i64 n, .slice A m c] w fun e w' =>
      e = .returned (.tuple #[.agg #[.int .i64 (aft y m n), .int .i64 (aft x m n)], .int .i64 0]) ∧ Below w.heap.size w w' := by
  have hm' : m ≤ maxLen := by unfold maxLen; omega
  have hz0 : chkE n m (anyTo (fun k => stB (x k) (y k)) m) = 0 := (chkE_zero n m x y).2 ⟨hm, hs, h0, h1⟩
  have HC := hide (fun W (hB : Below w.heap.size w W) => check_any n A m c x y W hm' ((hR.below hB (Nat.le_refl _)).more hB.size))
  have HY := hide (fun W (hB : Below w.heap.size w W) => after_any 56 y n A m c x y W hm' h0 (by omega) ((hR.below hB (Nat.le_refl _)).more hB.size) (fun i hi => ⟨by have := hs i hi; omega, (hs i hi).2.2⟩) (enters_of Try.func56 (by kernel_rfl) rfl) (fun W k _ _ => most_any _ _ _))
  have HX := hide (fun W (hB : Below w.heap.size w W) => after_any 57 x n A m c x y W hm' h0 (by omega) ((hR.below hB (Nat.le_refl _)).more hB.size) (fun i hi => ⟨(hs i hi).1, by have := hs i hi; omega⟩) (enters_of Try.func57 (by kernel_rfl) rfl) (fun W k _ _ => least_any _ _ _))
  rw [hz0] at HC
  clear hR hs hz0 hm'
  go_enter Try.func14, Try.ntmps14
  go_wp2_with fail
  refine (HC.out _ ((Below.refl _ _).alloc (Nat.le_refl _) _)).mono ?_
  rintro e w1 ⟨rfl, hb1⟩
  have b1 : Below w.heap.size w w1 := ((Below.refl _ _).alloc (Nat.le_refl _) _).trans (hb1.mono (by simp))
  go_wp2_with fail
  refine (HY.out _ b1).mono ?_
  rintro e w2 ⟨rfl, hb2⟩
  have b2 : Below w.heap.size w w2 := b1.trans (hb2.mono b1.size)
  go_wp2_with fail
  refine (HX.out _ b2).mono ?_
  rintro e w3 ⟨rfl, hb3⟩
  have z1 : w.heap.size < w1.heap.size := by have := hb1.size; simp at this; omega
  have z2 : w.heap.size < w2.heap.size := by have := hb2.size; omega
  have z3 : w.heap.size < w3.heap.size := by have := hb3.size; omega
  have hc0 : w3.cell? ⟨w.heap.size, 0, none⟩ = some (.int .i64 0) := (hb3.cell z2).trans ((hb2.cell z1).trans ((hb1.cell (by simp)).trans (by simp)))
  have hc1 : w3.cell? ⟨w.heap.size, 1, none⟩ = some (.int .i64 0) := (hb3.cell z2).trans ((hb2.cell z1).trans ((hb1.cell (by simp)).trans (by simp)))
  have hf0 : w3.frozen? ⟨w.heap.size, 0, none⟩ = false := (hb3.frozen z2).trans ((hb2.frozen z1).trans ((hb1.frozen (by simp)).trans (by simp)))
  have hf1 : w3.frozen? ⟨w.heap.size, 1, none⟩ = false := (hb3.frozen z2).trans ((hb2.frozen z1).trans ((hb1.frozen (by simp)).trans (by simp)))
  go_wp2_with fail
  refine bodyPost_ret (v := .tuple #[.agg #[.int .i64 (aft y m n), .int .i64 (aft x m n)], .int .i64 0]) (by simp [results, Try.results14, go_sem, *]) rfl ⟨rfl, ?_⟩
  exact ((b2.trans (hb3.mono b2.size)).setCell (Nat.le_refl _) _).setCell (Nat.le_refl _) _
theorem need_err (n : Int) (A : Option Addr) (m c : Nat) (x y : Nat → Int) (w : World) (hm : m ≤ maxLen) (hR : PI w w.heap.size A m x y)
    (he : chkE n m (anyTo (fun k => stB (x k) (y k)) m) ≠ 0) :
    Calls Try.prog 16 #[.int .i64 n, .slice A m c] w fun e w' =>
      e = .returned (.tuple #[.int .i64 0, .int .i64 (chkE n m (anyTo (fun k => stB (x k) (y k)) m))]) ∧ Below w.heap.size w w' := by
  have HC := hide (fun W (hB : Below w.heap.size w W) => check_any n A m c x y W hm ((hR.below hB (Nat.le_refl _)).more hB.size))
  clear hR
  generalize chkE n m (anyTo (fun k => stB (x k) (y k)) m) = E at *
  have he' : (E != 0) = true := by simpa using he
  go_enter Try.func16, Try.ntmps16
  go_wp2_with fail
  refine (HC.out _ (((Below.refl _ _).alloc (Nat.le_refl _) _).alloc (by simp) _)).mono ?_
  rintro e w1 ⟨rfl, hb1⟩
  go_wp2_with fail
  go_ret2
  exact ⟨rfl, (((Below.refl _ _).alloc (Nat.le_refl _) _).alloc (by simp) _).trans (hb1.mono (by simp; omega))⟩
def NeedPost (n : Int) (m : Nat) (y : Nat → Int) (w : World) (e : Ending) (w' : World) : Prop :=
  ∃ r : Nat, Least (fun i => decide (n ≤ aft y m i)) 1000000001 r ∧ e = .returned (.tuple #[.int .i64 (if r ≤ 1000000000 then (r : Int) else 0), .int .i64 (if r ≤ 1000000000 then 0 else 7)]) ∧ Below w.heap.size w w'
theorem need_ok (n : Int) (A : Option Addr) (m c : Nat) (x y : Nat → Int) (w : World) (hm : m ≤ 10) (hR : PI w w.heap.size A m x y) (hs : Stages m x y) (h0 : 0 ≤ n) (h1 : n ≤ 1000000000) :
    Calls Try.prog 16 #[.int .i64 n, .slice A m c] w (NeedPost n m y w) := by
  have hm' : m ≤ maxLen := by unfold maxLen; omega
  have hy : ∀ i, i < m → 0 ≤ y i ∧ y i ≤ 10000 := fun i hi => ⟨by have := hs i hi; omega, (hs i hi).2.2⟩
  have hz0 : chkE n m (anyTo (fun k => stB (x k) (y k)) m) = 0 := (chkE_zero n m x y).2 ⟨hm, hs, h0, h1⟩
  have HC := hide (fun W (hB : Below w.heap.size w W) => check_any n A m c x y W hm' ((hR.below hB (Nat.le_refl _)).more hB.size))
  rw [hz0] at HC
  have HR := hide hR
  have HY := hide hy
  clear hR hs hz0 hm' hy
  go_enter Try.func16, Try.ntmps16
  go_wp2_with fail
  have b0 : Below w.heap.size w ((w.alloc (.cells #[.int .i64 n] 3)).alloc (.cells #[.slice A m c] 22)) := (((Below.refl _ _).alloc (Nat.le_refl _) _).alloc (by simp) _)
  refine (HC.out _ b0).mono ?_
  rintro e w1 ⟨rfl, hb1⟩
  have b1 : Below w.heap.size w w1 := b0.trans (hb1.mono (by simp; omega))
  have z1 : w.heap.size + 2 ≤ w1.heap.size := by have := hb1.size; simp at this; omega
  have hc0 : w1.cell? ⟨w.heap.size, 0, none⟩ = some (.int .i64 n) := ((hb1.cell (by simp; omega)).trans (by simp))
  have hc1 : w1.cell? ⟨w.heap.size + 1, 0, none⟩ = some (.slice A m c) := ((hb1.cell (by simp)).trans (by simp))
  clear b0
  go_wp2_with fail
  refine (search_any 59 #[.pointer (some ⟨w.heap.size + 1, 0, none⟩), .pointer (some ⟨w.heap.size, 0, none⟩)] (fun i => decide (n ≤ aft y m i)) 1000000001 _ (by omega) ?_ (enters_of Try.func59 (by kernel_rfl) rfl) ?_).mono ?_
  · intro i j hij _ h
    have := aft_mono y m HY.out i j (by omega) (by omega)
    simp only [decide_eq_true_eq] at *
    omega
  · intro W k hk hB
    exact need1_any n k A m c x y _ _ W (by unfold maxLen; omega) (by omega) ((HR.out.below (b1.trans (hB.mono b1.size)) (Nat.le_refl _)).more (b1.trans (hB.mono b1.size)).size) HY.out ((hB.cell (by simp; omega)).trans hc1) ((hB.cell (by simp; omega)).trans hc0) (by have := hB.size; omega) (by have := hB.size; omega)
  rintro e w2 ⟨r, rfl, hL, hb2⟩
  have HL := hide hL
  clear hL
  by_cases hr : r ≤ 1000000000
  · go_wp2_with fail
    go_ret2
    exact ⟨r, HL.out, by simp [hr], b1.trans (hb2.mono b1.size)⟩
  · go_wp2_with fail
    go_ret2
    exact ⟨r, HL.out, by simp [hr], b1.trans (hb2.mono b1.size)⟩
end Go.Proofs.Ytlhekifmkkgjlaa
/- Contracts of the reference of chapter 8 on losses. -/
namespace Go.Proofs.Ytlhekifmkkgjlaa
open Go Go.RowKit
set_option maxHeartbeats 400000
def rstE (m : Nat) (bad : Bool) : Int := if 10 < m then 5 else if bad = true then 2 else 0
theorem refStages_any (A : Option Addr) (m c : Nat) (x y : Nat → Int) (w : World) (hm : m ≤ maxLen) (hR : PI w w.heap.size A m x y) :
    Calls Try.prog 17 #[.slice A m c] w fun e w' => e = .returned (.int .i64 (rstE m (anyTo (fun k => stB (x k) (y k)) m))) ∧ Below w.heap.size w w' := by
  unfold maxLen at hm
  go_enter Try.func17, Try.ntmps17
  by_cases h10 : 10 < m
  · go_wp2_with fail
    go_ret
    exact ⟨ret_int (by simp [rstE, h10]), Below.refl _ _⟩
  go_wp2_with fail
  go_loopw [3] (fun i wr => ∃ k : Nat, k ≤ m ∧ i = .int .i64 k ∧ anyTo (fun k => stB (x k) (y k)) k = false ∧ Below w.heap.size w wr) (fun i _ => m - (intOf i).toNat)
  case atStart => exact ⟨0, Nat.zero_le _, rfl, rfl, Below.refl _ _⟩
  case round =>
    obtain ⟨k, hk, rfl, hx, hB⟩ := hrel
    have HX := hide hx; clear hx
    by_cases hlt : k < m
    · obtain ⟨b, off, rfl, hb, hc1, hc2⟩ := PI.at_ (hR.below hB (Nat.le_refl _)) hlt
      have i1 : (0 : Int) ≤ (k : Int) := by omega
      have i2 : (k : Int) < (m : Int) := by omega
      by_cases t1 : x k < 0
      · have d1 : decide (x k < 0) = true := by simpa using t1
        have hbad : stB (x k) (y k) = true := by simp [stB, t1]
        have HBAD := hide hbad; clear hbad
        go_wp2_with fail
        go_quiet (fail)
        go_wp2_with fail
        go_ret
        refine ⟨ret_int ?_, Below_dN hB _⟩
        have : anyTo (fun k => stB (x k) (y k)) m = true := (anyTo_iff _ _).2 ⟨k, hlt, HBAD.out⟩
        simp [rstE, h10, this]
      have d1 : decide (x k < 0) = false := by simpa using t1
      by_cases t2 : y k < x k
      · have d2 : decide (y k < x k) = true := by simpa using t2
        have hbad : stB (x k) (y k) = true := by simp [stB, t2]
        have HBAD := hide hbad; clear hbad
        go_wp2_with fail
        go_quiet (fail)
        go_wp2_with fail
        go_ret
        refine ⟨ret_int ?_, Below_dN hB _⟩
        have : anyTo (fun k => stB (x k) (y k)) m = true := (anyTo_iff _ _).2 ⟨k, hlt, HBAD.out⟩
        simp [rstE, h10, this]
      have d2 : decide (y k < x k) = false := by simpa using t2
      by_cases t3 : 10000 < y k
      · have d3 : decide (10000 < y k) = true := by simpa using t3
        have hbad : stB (x k) (y k) = true := by simp [stB, t3]
        have HBAD := hide hbad; clear hbad
        go_wp2_with fail
        go_quiet (fail)
        go_wp2_with fail
        go_ret
        refine ⟨ret_int ?_, Below_dN hB _⟩
        have : anyTo (fun k => stB (x k) (y k)) m = true := (anyTo_iff _ _).2 ⟨k, hlt, HBAD.out⟩
        simp [rstE, h10, this]
      have d3 : decide (10000 < y k) = false := by simpa using t3
      have hgood : stB (x k) (y k) = false := by simp only [stB, d1, d2, d3, Bool.or_false]
      have HG := hide hgood; clear hgood
      go_wp2_with fail
      go_quiet (fail)
      go_wp2_with fail
      go_roundw
      case rel => exact ⟨k + 1, by omega, by go_num, by simp [anyTo, HX.out, HG.out], Below_dN hB _⟩
      case measure => simp [intOf]; omega
    · obtain rfl : k = m := by omega
      go_wp2_with fail
      go_ret
      exact ⟨ret_int (by simp [rstE, h10, HX.out]), hB⟩
theorem refLeft_any (n : Int) (A : Option Addr) (m c : Nat) (x y : Nat → Int) (w : World) (hm : m ≤ maxLen) (hR : PI w w.heap.size A m x y) (hs : Stages m x y) (h0 : 0 ≤ n) (h1 : n ≤ 2000000000) :
    Calls Try.prog 19 #[.int .i64 n, .slice A m c] w fun e w' =>
      e = .returned (.agg #[.int .i64 (aft y m n), .int .i64 (aft x m n)]) ∧ Below w.heap.size w w' := by
  unfold maxLen at hm
  have HS := hide hs; clear hs
  go_enter Try.func19, Try.ntmps19
  go_wp2_with fail
  go_loopw [6] (fun i wr => ∃ k : Nat, k ≤ m ∧ i = .int .i64 k ∧ Hid (Blk wr (w.heap.size + 1) 25 #[.int .i64 (aft y k n), .int .i64 (aft x k n)]) ∧
     Hid (Blk wr w.heap.size 25 #[.int .i64 0, .int .i64 0]) ∧ Below w.heap.size w wr) (fun i _ => m - (intOf i).toNat)
  case atStart =>
    exact ⟨0, Nat.zero_le _, rfl, hide (by simpa [aft] using Blk.new (w.alloc (.cells #[.int .i64 0, .int .i64 0] 25)) 25 #[.int .i64 n, .int .i64 n]), hide ((Blk.new w _ _).alloc _), ((Below.refl _ _).alloc (Nat.le_refl _) _).alloc (by simp) _⟩
  case round =>
    obtain ⟨k, hk, rfl, hc, hc2, hB⟩ := hrel
    have q0 := hc.out.cell 0
    have q1 := hc.out.cell 1
    have q2 := hc.out.frozen 0
    have q3 := hc.out.frozen 1
    have zz : w.heap.size + 1 < wr.heap.size := hc.out.lt
    simp at q0 q1
    by_cases hlt : k < m
    · obtain ⟨b, off, rfl, hb, hd1, hd2⟩ := PI.at_ (hR.below hB (Nat.le_refl _)) hlt
      have i1 : (0 : Int) ≤ (k : Int) := by omega
      have i2 : (k : Int) < (m : Int) := by omega
      obtain ⟨s0, s1, s2⟩ := HS.out k hlt
      obtain ⟨b1, b2⟩ := aft_bd y n h0 k fun i hi => ⟨by have := HS.out i (by omega); omega, (HS.out i (by omega)).2.2⟩
      obtain ⟨b3, b4⟩ := aft_bd x n h0 k fun i hi => ⟨(HS.out i (by omega)).1, by have := HS.out i (by omega); omega⟩
      obtain ⟨b5, b6⟩ := aft_bd y n h0 (k + 1) fun i hi => ⟨by have := HS.out i (by omega); omega, (HS.out i (by omega)).2.2⟩
      obtain ⟨b7, b8⟩ := aft_bd x n h0 (k + 1) fun i hi => ⟨(HS.out i (by omega)).1, by have := HS.out i (by omega); omega⟩
      have h5 : 0 ≤ aft y k n * y k := Int.mul_nonneg b1 (by omega)
      have h6 : aft y k n * y k ≤ aft y k n * 10000 := Int.mul_le_mul_of_nonneg_left s2 b1
      have h7 : 0 ≤ aft x k n * x k := Int.mul_nonneg b3 (by omega)
      have h8 : aft x k n * x k ≤ aft x k n * 10000 := Int.mul_le_mul_of_nonneg_left (by omega) b3
      go_wp2_with fail
      go_region
      go_wp2_with fail
      go_region
      go_wp2_with fail
      go_roundw
      case rel =>
        refine ⟨k + 1, by omega, by go_num, hide ?_, hide ?_, ((hB.setCell (by simp) _).setCell (by simp) _).drew.drew⟩
        · exact (by simpa [aft] using ((hc.out.set_ 0 (.int .i64 (aft y k n - aft y k n * y k / 10000))).set_ 1 (.int .i64 (aft x k n - aft x k n * x k / 10000))).drew.drew)
        · exact ((hc2.out.far (p := ⟨w.heap.size + 1, 0, none⟩) (by simp) _).far (p := ⟨w.heap.size + 1, 1, none⟩) (by simp) _).drew.drew
      case measure => simp [intOf]; omega
    · obtain rfl : k = m := by omega
      have r0 := hc2.out.cell 0
      have r1 := hc2.out.cell 1
      have r2 := hc2.out.frozen 0
      have r3 := hc2.out.frozen 1
      simp at r0 r1
      have zz' : w.heap.size < wr.heap.size := by omega
      go_wp2_with fail
      refine bodyPost_ret (v := .agg #[.int .i64 (aft y k n), .int .i64 (aft x k n)]) (by simp [results, Try.results19, go_sem, *]) rfl ⟨rfl, ?_⟩
      exact (hB.setCell (Nat.le_refl _) _).setCell (Nat.le_refl _) _
@[go_sem] theorem field_spread0 (a b : Value) (w : World) : (Instr.field 25 (.agg #[a, b]) 0).run Try.prog w = .ok a w := by kernel_rfl
@[go_sem] theorem field_spread1 (a b : Value) (w : World) : (Instr.field 25 (.agg #[a, b]) 1).run Try.prog w = .ok b w := by kernel_rfl
def RefNeedPost (n : Int) (m : Nat) (y : Nat → Int) (w : World) (e : Ending) (w' : World) : Prop :=
  ∃ r : Nat, Least (fun i => decide (n ≤ aft y m i)) 1000000001 r ∧ e = .returned (.tuple #[.int .i64 r, .bool (decide (r ≤ 1000000000))]) ∧ Below w.heap.size w w'
theorem refNeed_ok (n : Int) (A : Option Addr) (m c : Nat) (x y : Nat → Int) (w : World) (hm : m ≤ 10) (hR : PI w w.heap.size A m x y) (hs : Stages m x y) :
    Calls Try.prog 18 #[.int .i64 n, .slice A m c] w (RefNeedPost n m y w) := by
  have hy : ∀ i, i < m → 0 ≤ y i ∧ y i ≤ 10000 := fun i hi => ⟨by have := hs i hi; omega, (hs i hi).2.2⟩
  have HY := hide hy
  clear hy
  have HC := hide (fun W (h : Nat) (hh : h ≤ 1000000001) (hB : Below w.heap.size w W) => refLeft_any h A m c x y W (by unfold maxLen; omega) ((hR.below hB (Nat.le_refl _)).more hB.size) hs (by omega) (by omega))
  clear hR hs
  go_enter Try.func18, Try.ntmps18
  go_wp2_with fail
  go_loopw [6, 7] (fun i j wr => ∃ a b : Nat, i = .int .i64 a ∧ j = .int .i64 b ∧ a ≤ b ∧ b ≤ 1000000001 ∧ Hid ((∀ i : Nat, i < a → aft y m i < n) ∧ (b < 1000000001 → n ≤ aft y m b)) ∧ Below w.heap.size w wr) (fun i j _ => (intOf j).toNat - (intOf i).toNat)
  case atStart => exact ⟨0, 1000000001, rfl, rfl, by omega, by omega, hide ⟨fun i hi => absurd hi (by omega), fun h => absurd h (by omega)⟩, Below.refl _ _⟩
  case round =>
    obtain ⟨a, b, rfl, rfl, hab, hbn, H, hB⟩ := hrel
    by_cases hlt : a < b
    · go_wp2_with fail
      obtain ⟨h, hh⟩ : ∃ h : Nat, h = (a + b) / 2 := ⟨_, rfl⟩
      have e1 : ((a : Int) + b) / 2 = (h : Int) := by omega
      have l1 : a ≤ h := by omega
      have l2 : h < b := by omega
      clear hh
      simp only [e1]
      clear e1
      refine (HC.out wr h (by omega) hB).mono ?_
      rintro e w1 ⟨rfl, hb1⟩
      by_cases hn : n ≤ aft y m h
      · have hd := decide_eq_true hn
        go_wp2_with fail
        go_roundw
        case rel => exact ⟨a, h, rfl, rfl, by omega, by omega, hide ⟨H.out.1, fun _ => hn⟩, hB.trans (hb1.mono hB.size)⟩
        case measure => simp [intOf]; omega
      · have hd := decide_eq_false hn
        go_wp2_with fail
        go_roundw
        case rel =>
          refine ⟨h + 1, b, by go_num, rfl, by omega, by omega, hide ⟨fun i hi => ?_, H.out.2⟩, hB.trans (hb1.mono hB.size)⟩
          have := aft_mono y m HY.out i h (by omega) (by omega)
          omega
        case measure => simp [intOf]; omega
    · obtain rfl : a = b := by omega
      go_wp2_with fail
      go_ret2
      exact ⟨a, ⟨by omega, fun i hi => by simpa using H.out.1 i hi, fun h => by simpa using H.out.2 h⟩, by simp; omega, hB⟩
end Go.Proofs.Ytlhekifmkkgjlaa
/- Contracts of chapter 8 on moulds. -/
namespace Go.Proofs.Ytlhekifmkkgjlaa
open Go Go.RowKit
set_option maxHeartbeats 400000
def spB (lo hi a b : Int) : Bool := decide (a ≤ lo ∧ lo ≤ hi ∧ hi ≤ b)
theorem isSpread_any (lo hi a b : Int) (w : World) : Calls Try.prog 63 #[.agg #[.int .i64 lo, .int .i64 hi], .int .i64 a, .int .i64 b] w fun e w' => e = .returned (.bool (spB lo hi a b)) ∧ Below w.heap.size w w' := by
  go_enter Try.func63, Try.ntmps63
  go_wp2_with fail
  have b0 : Below w.heap.size w ((w.alloc (.cells #[.int .i64 lo, .int .i64 hi] 25)).alloc (.cells #[.int .i64 lo, .int .i64 hi] 3)) := ((Below.refl _ _).alloc (Nat.le_refl _) _).alloc (by simp) _
  refine (within_any a b _ 2 2 (fun k => if k = 0 then lo else hi) _ (by decide) ?_).mono ?_
  · simpa using IR.two (w.alloc (.cells #[.int .i64 lo, .int .i64 hi] 25)) lo hi 3
  rintro e w1 ⟨rfl, hb1⟩
  have hc0 : w1.cell? ⟨w.heap.size, 0, none⟩ = some (.int .i64 lo) := (hb1.cell (by simp; omega)).trans (by simp)
  have hc1 : w1.cell? ⟨w.heap.size, 1, none⟩ = some (.int .i64 hi) := (hb1.cell (by simp; omega)).trans (by simp)
  have hB := b0.trans (hb1.mono (by simp; omega))
  rcases hw : wiB a b (fun k => if k = 0 then lo else hi) 2 with _ | _
  · have hw' : ¬ (a ≤ lo ∧ lo ≤ hi ∧ hi ≤ b) := fun h => by
      have := (wiB_iff a b (fun k => if k = 0 then lo else hi) 2).2 (fun k hk => by rcases (by omega : k = 0 ∨ k = 1) with rfl | rfl <;> simp <;> omega)
      rw [hw] at this; cases this
    have HW := hide hw'; clear hw'
    clear hw
    go_wp2_with fail
    go_ret
    exact ⟨ret_bool (by rw [spB, decide_eq_false HW.out]), hB⟩
  · have h := (wiB_iff a b (fun k => if k = 0 then lo else hi) 2).1 hw
    have h0 := h 0 (by omega)
    have h1 := h 1 (by omega)
    simp at h0 h1
    clear hw h
    by_cases hlt : lo ≤ hi
    · go_wp2_with fail
      go_ret
      exact ⟨ret_bool (by rw [spB, decide_eq_true (by omega)]), hB⟩
    · go_wp2_with fail
      go_ret
      exact ⟨ret_bool (by rw [Bool.eq_iff_iff]; simp [spB]; omega), hB⟩
def clB (dl dh fl fh : Int) : Bool := spB dl dh 0 9999 && spB fl fh 0 9999
theorem clB_iff (dl dh fl fh : Int) : clB dl dh fl fh = true ↔ (0 ≤ dl ∧ dl ≤ dh ∧ dh ≤ 9999) ∧ (0 ≤ fl ∧ fl ≤ fh ∧ fh ≤ 9999) := by
  simp [clB, spB]
theorem isClay_any (dl dh fl fh : Int) (w : World) : Calls Try.prog 60 #[.agg #[.int .i64 dl, .int .i64 dh, .int .i64 fl, .int .i64 fh]] w fun e w' => e = .returned (.bool (clB dl dh fl fh)) ∧ Below w.heap.size w w' := by
  go_enter Try.func60, Try.ntmps60
  go_wp2_with fail
  refine (isSpread_any _ _ _ _ _).mono ?_
  rintro e w1 ⟨rfl, hb1⟩
  have hc0 : w1.cell? ⟨w.heap.size, 2, none⟩ = some (.int .i64 fl) := (hb1.cell (by simp)).trans (by simp)
  have hc1 : w1.cell? ⟨w.heap.size, 3, none⟩ = some (.int .i64 fh) := (hb1.cell (by simp)).trans (by simp)
  have hB := ((Below.refl _ _).alloc (Nat.le_refl _) (.cells #[.int .i64 dl, .int .i64 dh, .int .i64 fl, .int .i64 fh] 40)).trans (hb1.mono (by simp))
  rcases hs : spB dl dh 0 9999 with _ | _
  · have HS := hide hs; clear hs
    go_wp2_with fail
    go_ret
    exact ⟨ret_bool (by simp [clB, HS.out]), hB⟩
  · have HS := hide hs; clear hs
    go_wp2_with fail
    refine (isSpread_any _ _ _ _ _).mono ?_
    rintro e w2 ⟨rfl, hb2⟩
    go_wp2_with fail
    go_ret
    exact ⟨ret_bool (by simp [clB, HS.out]), hB.trans (hb2.mono hB.size)⟩
def keep (s d f : Int) : Int := s * (10000 - d) * (10000 - f)
theorem keep_bd {s d f M : Int} (h1 : 0 ≤ s) (h2 : s ≤ M) (h3 : 0 ≤ d) (h4 : d ≤ 10000) (h5 : 0 ≤ f) (h6 : f ≤ 10000) :
    (0 ≤ s * (10000 - d) ∧ s * (10000 - d) ≤ M * 10000) ∧ (0 ≤ keep s d f ∧ keep s d f ≤ M * 10000 * 10000) :=
  have a := mul_bd h1 h2 (b := 10000 - d) (N := 10000) (by omega) (by omega)
  ⟨a, mul_bd a.1 a.2 (by omega) (by omega)⟩
theorem keep_any (s d f : Int) (p : Nat) (w : World) (hc : w.cell? ⟨p, 0, none⟩ = some (.int .i64 s)) (h1 : 0 ≤ s) (h2 : s ≤ 2000000) (h3 : 0 ≤ d) (h4 : d ≤ 10000) (h5 : 0 ≤ f) (h6 : f ≤ 10000) :
    Calls Try.prog 101 #[.int .i64 d, .int .i64 f, .pointer (some ⟨p, 0, none⟩)] w fun e w' => e = .returned (.int .i64 (keep s d f)) ∧ w = w' := by
  obtain ⟨⟨a1, a2⟩, a3, a4⟩ := keep_bd h1 h2 h3 h4 h5 h6
  unfold keep at a3 a4
  go_enter Try.func101, Try.ntmps101
  go_wp2_with fail
  go_ret
  exact ⟨rfl, rfl⟩
def shLo (s dh fh : Int) : Int := keep s dh fh / 100000000
def shHi (s dl fl : Int) : Int := (keep s dl fl + 99999999) / 100000000
theorem shrunk_any (s dl dh fl fh : Int) (w : World) (h1 : 0 ≤ s) (h2 : s ≤ 2000000) (hcl : clB dl dh fl fh = true) :
    Calls Try.prog 62 #[.int .i64 s, .agg #[.int .i64 dl, .int .i64 dh, .int .i64 fl, .int .i64 fh]] w fun e w' => e = .returned (.agg #[.int .i64 (shLo s dh fh), .int .i64 (shHi s dl fl)]) ∧ Below w.heap.size w w' := by
  obtain ⟨⟨c1, c2, c3⟩, c4, c5, c6⟩ := (clB_iff _ _ _ _).1 hcl
  clear hcl
  obtain ⟨-, k1, k2⟩ := keep_bd h1 h2 (d := dh) (f := fh) (by omega) (by omega) (by omega) (by omega)
  obtain ⟨-, k3, k4⟩ := keep_bd h1 h2 (d := dl) (f := fl) (by omega) (by omega) (by omega) (by omega)
  go_enter Try.func62, Try.ntmps62
  go_wp2_with fail
  have b0 : Below w.heap.size w (((w.alloc (.cells #[.int .i64 s] 3)).alloc (.cells #[.int .i64 dl, .int .i64 dh, .int .i64 fl, .int .i64 fh] 40)).alloc (.cells #[.int .i64 0, .int .i64 0] 25)) := (((Below.refl _ _).alloc (Nat.le_refl _) _).alloc (by simp) _).alloc (by simp only [World.size_alloc]; omega) _
  generalize hW : (((w.alloc (.cells #[.int .i64 s] 3)).alloc (.cells #[.int .i64 dl, .int .i64 dh, .int .i64 fl, .int .i64 fh] 40)).alloc (.cells #[.int .i64 0, .int .i64 0] 25)) = W at b0 ⊢
  have q0 : W.heap.size = w.heap.size + 3 := by rw [← hW]; simp [go_sem]
  have q1 : W.cell? ⟨w.heap.size, 0, none⟩ = some (.int .i64 s) := by rw [← hW]; simp [go_sem]
  have q2 : W.cell? ⟨w.heap.size + 1, 0, none⟩ = some (.int .i64 dl) := by rw [← hW]; simp [go_sem]
  have q3 : W.cell? ⟨w.heap.size + 1, 1, none⟩ = some (.int .i64 dh) := by rw [← hW]; simp [go_sem]
  have q4 : W.cell? ⟨w.heap.size + 1, 2, none⟩ = some (.int .i64 fl) := by rw [← hW]; simp [go_sem]
  have q5 : W.cell? ⟨w.heap.size + 1, 3, none⟩ = some (.int .i64 fh) := by rw [← hW]; simp [go_sem]
  have q6 : W.cell? ⟨w.heap.size + 2, 0, none⟩ = some (.int .i64 0) := by rw [← hW]; simp [go_sem]
  have q7 : W.cell? ⟨w.heap.size + 2, 1, none⟩ = some (.int .i64 0) := by rw [← hW]; simp [go_sem]
  have q8 : W.frozen? ⟨w.heap.size + 2, 0, none⟩ = false := by rw [← hW]; simp [go_sem]
  have q9 : W.frozen? ⟨w.heap.size + 2, 1, none⟩ = false := by rw [← hW]; simp [go_sem]
  have zz : w.heap.size + 2 < W.heap.size := by omega
  have Q0 := hide q0
  have hne : w.heap.size ≠ w.heap.size + 1 + 1 := by omega
  have hne2 : w.heap.size + 1 + 1 ≠ w.heap.size := by omega
  have d1 : 0 ≤ keep s dh fh / 100000000 ∧ keep s dh fh / 100000000 ≤ 2000000 := by omega
  have d2 : 0 ≤ (keep s dl fl + 99999999) / 100000000 ∧ (keep s dl fl + 99999999) / 100000000 ≤ 2000001 := by omega
  have e1 : IntKind.i64.wrap (keep s dl fl + 100000000) = keep s dl fl + 100000000 := IntWalk.i64_in _ (by omega)
  have e2 : IntKind.i64.wrap (keep s dl fl + 100000000 - 1) = keep s dl fl + 99999999 := by rw [show keep s dl fl + 100000000 - 1 = keep s dl fl + 99999999 by omega]; exact IntWalk.i64_in _ (by omega)
  have e3 : (keep s dh fh).tdiv 100000000 = keep s dh fh / 100000000 := Int.tdiv_eq_ediv_of_nonneg k1
  have e4 : (keep s dl fl + 99999999).tdiv 100000000 = (keep s dl fl + 99999999) / 100000000 := Int.tdiv_eq_ediv_of_nonneg (by omega)
  have e5 : IntKind.i64.wrap (keep s dh fh / 100000000) = keep s dh fh / 100000000 := IntWalk.i64_in _ (by omega)
  have e6 : IntKind.i64.wrap ((keep s dl fl + 99999999) / 100000000) = (keep s dl fl + 99999999) / 100000000 := IntWalk.i64_in _ (by omega)
  clear hW q0
  go_region_held3 (fun w' => w'.cell? ⟨w.heap.size, 0, none⟩ = some (.int .i64 s) ∧ w'.cell? ⟨w.heap.size + 1, 0, none⟩ = some (.int .i64 dl) ∧ w'.cell? ⟨w.heap.size + 1, 1, none⟩ = some (.int .i64 dh) ∧ w'.cell? ⟨w.heap.size + 1, 2, none⟩ = some (.int .i64 fl) ∧ w'.cell? ⟨w.heap.size + 1, 3, none⟩ = some (.int .i64 fh)) (go_keep)
    ((go_at_call 101; refine (keep_any s _ _ _ _ ?_ h1 h2 ?_ ?_ ?_ ?_).mono ?_; (simp [*]); (omega); (omega); (omega); (omega); rintro e w' ⟨rfl, rfl⟩))
  go_wp2_with fail
  refine bodyPost_ret (v := .agg #[.int .i64 (shLo s dh fh), .int .i64 (shHi s dl fl)]) (by simp [results, Try.results62, go_sem, shLo, shHi, *]) rfl ⟨rfl, ?_⟩
  exact ((b0.setCell (p := ⟨w.heap.size + 1 + 1, 0, none⟩) (by simp only []; omega) _).setCell (p := ⟨w.heap.size + 1 + 1, 1, none⟩) (by simp only []; omega) _).drew
theorem keep_mono {s t d f : Int} (h : s ≤ t) (h3 : d ≤ 10000) (h5 : f ≤ 10000) : keep s d f ≤ keep t d f :=
  Int.mul_le_mul_of_nonneg_right (Int.mul_le_mul_of_nonneg_right h (by omega)) (by omega)
theorem shLo_mono {s t d f : Int} (h : s ≤ t) (h3 : d ≤ 10000) (h5 : f ≤ 10000) : shLo s d f ≤ shLo t d f := by
  have := keep_mono h h3 h5; unfold shLo; omega
theorem shHi_mono {s t d f : Int} (h : s ≤ t) (h3 : d ≤ 10000) (h5 : f ≤ 10000) : shHi s d f ≤ shHi t d f := by
  have := keep_mono h h3 h5; unfold shHi; omega
theorem moulds1_any (i : Nat) (dl dh fl fh wl wh : Int) (p q : Nat) (w : World) (h2 : i ≤ 1000000) (hcl : clB dl dh fl fh = true)
    (c0 : w.cell? ⟨p, 0, none⟩ = some (.int .i64 dl)) (c1 : w.cell? ⟨p, 1, none⟩ = some (.int .i64 dh)) (c2 : w.cell? ⟨p, 2, none⟩ = some (.int .i64 fl)) (c3 : w.cell? ⟨p, 3, none⟩ = some (.int .i64 fh))
    (c4 : w.cell? ⟨q, 0, none⟩ = some (.int .i64 wl)) (c5 : w.cell? ⟨q, 1, none⟩ = some (.int .i64 wh)) (hpl : p < w.heap.size) (hql : q < w.heap.size) :
    Calls Try.prog 64 #[.int .i64 i, .pointer (some ⟨p, 0, none⟩), .pointer (some ⟨q, 0, none⟩)] w fun e w' => e = .returned (.bool (decide (wl ≤ shLo ((i : Int) + 1) dh fh))) ∧ Below w.heap.size w w' := by
  have HC := hide (fun W => shrunk_any ((i : Int) + 1) dl dh fl fh W (by omega) (by omega) hcl)
  clear hcl
  have e0 : IntKind.i64.wrap ((i : Int) + 1) = (i : Int) + 1 := IntWalk.i64_in _ (by omega)
  go_enter Try.func64, Try.ntmps64
  go_wp2_with fail
  go_region_held3 (fun W => W.cell? ⟨p, 0, none⟩ = some (.int .i64 dl) ∧ W.cell? ⟨p, 1, none⟩ = some (.int .i64 dh) ∧ W.cell? ⟨p, 2, none⟩ = some (.int .i64 fl) ∧ W.cell? ⟨p, 3, none⟩ = some (.int .i64 fh) ∧ W.cell? ⟨q, 0, none⟩ = some (.int .i64 wl))
    (first | go_keep | exact ⟨(hb1.cell (p := ⟨p, 0, none⟩) hpl).trans c0, (hb1.cell (p := ⟨p, 1, none⟩) hpl).trans c1, (hb1.cell (p := ⟨p, 2, none⟩) hpl).trans c2, (hb1.cell (p := ⟨p, 3, none⟩) hpl).trans c3, (hb1.cell (p := ⟨q, 0, none⟩) hql).trans c4⟩)
    ((go_at_call 62; refine (HC.out _).mono ?_; rintro e w1 ⟨rfl, hb1⟩))
  go_wp2_with fail
  go_ret
  exact ⟨rfl, (Below.refl _ _).drew.trans hb1⟩
theorem moulds2_any (i : Nat) (dl dh fl fh wl wh : Int) (p q : Nat) (w : World) (h2 : i ≤ 1000000) (hcl : clB dl dh fl fh = true)
    (c0 : w.cell? ⟨p, 0, none⟩ = some (.int .i64 dl)) (c1 : w.cell? ⟨p, 1, none⟩ = some (.int .i64 dh)) (c2 : w.cell? ⟨p, 2, none⟩ = some (.int .i64 fl)) (c3 : w.cell? ⟨p, 3, none⟩ = some (.int .i64 fh))
    (c4 : w.cell? ⟨q, 0, none⟩ = some (.int .i64 wl)) (c5 : w.cell? ⟨q, 1, none⟩ = some (.int .i64 wh)) (hpl : p < w.heap.size) (hql : q < w.heap.size) :
    Calls Try.prog 65 #[.int .i64 i, .pointer (some ⟨p, 0, none⟩), .pointer (some ⟨q, 0, none⟩)] w fun e w' => e = .returned (.bool (decide (wh < shHi ((i : Int) + 1) dl fl))) ∧ Below w.heap.size w w' := by
  have HC := hide (fun W => shrunk_any ((i : Int) + 1) dl dh fl fh W (by omega) (by omega) hcl)
  clear hcl
  have e0 : IntKind.i64.wrap ((i : Int) + 1) = (i : Int) + 1 := IntWalk.i64_in _ (by omega)
  go_enter Try.func65, Try.ntmps65
  go_wp2_with fail
  go_region_held3 (fun W => W.cell? ⟨p, 0, none⟩ = some (.int .i64 dl) ∧ W.cell? ⟨p, 1, none⟩ = some (.int .i64 dh) ∧ W.cell? ⟨p, 2, none⟩ = some (.int .i64 fl) ∧ W.cell? ⟨p, 3, none⟩ = some (.int .i64 fh) ∧ W.cell? ⟨q, 1, none⟩ = some (.int .i64 wh))
    (first | go_keep | exact ⟨(hb1.cell (p := ⟨p, 0, none⟩) hpl).trans c0, (hb1.cell (p := ⟨p, 1, none⟩) hpl).trans c1, (hb1.cell (p := ⟨p, 2, none⟩) hpl).trans c2, (hb1.cell (p := ⟨p, 3, none⟩) hpl).trans c3, (hb1.cell (p := ⟨q, 1, none⟩) hql).trans c5⟩)
    ((go_at_call 62; refine (HC.out _).mono ?_; rintro e w1 ⟨rfl, hb1⟩))
  go_wp2_with fail
  go_ret
  exact ⟨rfl, (Below.refl _ _).drew.trans hb1⟩
end Go.Proofs.Ytlhekifmkkgjlaa
