/- Layings of library functions, in plain declarations (written by the kit's lay-plain.mjs). -/
import Derived.Shelf.Strings.SlTrimAscii
import Derived.Ground.NamesProg
import Derived.Test.YtcgdalabenflmaaDoorChecked
import Derived.WalkKit
import Derived.WalkSpells
import Derived.WalkLawsBesides
import Derived.Lib.Hide
import Derived.Deep.QuietTactic
import Derived.BigQuiet
import Derived.IntWalk
import Derived.Deep.RegionHeld3
import Derived.StillTailTactics
import Derived.Shelf.Abstract
import Derived.OrdersIn
import Derived.OrdersHeld
import Derived.RangeFuncCalls
import Derived.Deep.AppendLies
import Derived.Deep.Draws
import Derived.Laws.OwnMore
import Derived.Maps.AppendAt
import Derived.RegionTactic
import Derived.OwnWalk
import Derived.TacticsIn
import Derived.Deep.CutBlock
import Derived.Deep.DeepCutAuto
import Derived.RangeFuncBox
import Derived.Lib.AppendZeros
import Derived.Laws.BitsLemmas
import Derived.Lib.TrailingZeros
import Derived.RangeFuncWrites
import Derived.RangeFuncFrom
set_option linter.unusedSimpArgs false
set_option linter.unusedVariables false
set_option linter.unnecessarySimpa false
namespace Go.Proofs.YtcgdalabenflmaaDoor
open Go.Shelf
def lays160_ren : Go.Shelf.Ren := ⟨fun | 160 => 77 | 232 => 81 | 231 => 80 | 227 => 82 | 234 => 84 | 233 => 83 | 236 => 86 | 235 => 85 | 228 => 91 | 271 => 94 | 151 => 93 | 197 => 92 | 120 => 102 | 152 => 101 | 260 => 100 | 137 => 105 | 119 => 106 | 224 => 107 | 225 => 108 | 217 => 109 | 266 => 110 | n => n, fun | 9 => 9 | 4 => 4 | 3 => 3 | 5 => 5 | 117 => 141 | 116 => 140 | 0 => 0 | 124 => 144 | 21 => 21 | 105 => 152 | 46 => 137 | 119 => 162 | 139 => 165 | 138 => 164 | n => n, fun | 3 => 2 | 4 => 3 | n => n⟩
theorem lays160 : Go.Proofs.Lays.n160 Tryd.prog lays160_ren := {
  mixed := by kernel_rfl
  f119 := Tryd.func106.trans (congrArg some (by kernel_rfl))
  f120 := Tryd.func102.trans (congrArg some (by kernel_rfl))
  f137 := Tryd.func105.trans (congrArg some (by kernel_rfl))
  f151 := Tryd.func93.trans (congrArg some (by kernel_rfl))
  f152 := Tryd.func101.trans (congrArg some (by kernel_rfl))
  f160 := Tryd.func77.trans (congrArg some (by kernel_rfl))
  f197 := Tryd.func92.trans (congrArg some (by kernel_rfl))
  f217 := Tryd.func109.trans (congrArg some (by kernel_rfl))
  f224 := Tryd.func107.trans (congrArg some (by kernel_rfl))
  f225 := Tryd.func108.trans (congrArg some (by kernel_rfl))
  f227 := Tryd.func82.trans (congrArg some (by kernel_rfl))
  f228 := Tryd.func91.trans (congrArg some (by kernel_rfl))
  f231 := Tryd.func80.trans (congrArg some (by kernel_rfl))
  f232 := Tryd.func81.trans (congrArg some (by kernel_rfl))
  f233 := Tryd.func83.trans (congrArg some (by kernel_rfl))
  f234 := Tryd.func84.trans (congrArg some (by kernel_rfl))
  f235 := Tryd.func85.trans (congrArg some (by kernel_rfl))
  f236 := Tryd.func86.trans (congrArg some (by kernel_rfl))
  f260 := Tryd.func100.trans (congrArg some (by kernel_rfl))
  f266 := Tryd.func110.trans (congrArg some (by kernel_rfl))
  f271 := Tryd.func94.trans (congrArg some (by kernel_rfl))
  t0 := Tryd.underlying0
  a0 := Tryd.isAgg0
  z0 := Tryd.sizeOf0
  v0 := Tryd.zeroValue0
  t3 := Tryd.underlying3
  a3 := Tryd.isAgg3
  z3 := Tryd.sizeOf3
  v3 := Tryd.zeroValue3
  t4 := Tryd.underlying4
  a4 := Tryd.isAgg4
  z4 := Tryd.sizeOf4
  v4 := Tryd.zeroValue4
  t5 := Tryd.underlying5
  a5 := Tryd.isAgg5
  z5 := Tryd.sizeOf5
  v5 := Tryd.zeroValue5
  t9 := Tryd.underlying9
  a9 := Tryd.isAgg9
  z9 := Tryd.sizeOf9
  v9 := Tryd.zeroValue9
  t21 := Tryd.underlying21
  a21 := Tryd.isAgg21
  z21 := Tryd.sizeOf21
  v21 := Tryd.zeroValue21
  t46 := Tryd.underlying137
  a46 := Tryd.isAgg137
  z46 := Tryd.sizeOf137
  v46 := Tryd.zeroValue137
  t105 := Tryd.underlying152
  a105 := Tryd.isAgg152
  z105 := Tryd.sizeOf152
  v105 := Tryd.zeroValue152
  t116 := Tryd.underlying140
  a116 := Tryd.isAgg140
  z116 := Tryd.sizeOf140
  t117 := Tryd.underlying141
  a117 := Tryd.isAgg141
  z117 := Tryd.sizeOf141
  v117 := Tryd.zeroValue141
  t119 := Tryd.underlying162
  a119 := Tryd.isAgg162
  z119 := Tryd.sizeOf162
  t124 := Tryd.underlying144
  a124 := Tryd.isAgg144
  z124 := Tryd.sizeOf144
  v124 := Tryd.zeroValue144
  t138 := Tryd.underlying164
  a138 := Tryd.isAgg164
  z138 := Tryd.sizeOf164
  v138 := Tryd.zeroValue164
  t139 := Tryd.underlying165
  a139 := Tryd.isAgg165
  z139 := Tryd.sizeOf165
  v139 := Tryd.zeroValue165
  g3 := by kernel_rfl
  g4 := by kernel_rfl }
end Go.Proofs.YtcgdalabenflmaaDoor
/- Words of this proof family: a slice that reads as a function of its cells; a function value that answers as a function of its argument. -/
namespace Go.Proofs.YtcgdalabenflmaaDoor
open Go Go.RowKit

theorem hide {p : Prop} (h : p) : Hid p := h
theorem ret_int {k : IntKind} {a b : Int} (h : a = b) : Ending.returned (.int k a) = .returned (.int k b) := by rw [h]
theorem ret_bool {a b : Bool} (h : a = b) : Ending.returned (.bool a) = .returned (.bool b) := by rw [h]
theorem bcell {W w1 : World} {B : Nat} (hb : Below B W w1) : (∀ b o, b < B → w1.cell? ⟨b, o, none⟩ = W.cell? ⟨b, o, none⟩) ∧ (∀ b o, b < B → w1.frozen? ⟨b, o, none⟩ = W.frozen? ⟨b, o, none⟩) :=
  ⟨fun b o h => hb.cell (p := ⟨b, o, none⟩) h, fun b o h => hb.frozen (p := ⟨b, o, none⟩) h⟩
theorem Below_dN {B : Nat} {a w : World} (h : Below B a w) (n : Nat) : Below B a (w.drewN n) := ⟨h.os, h.tape, h.output, h.size, h.block⟩
theorem cell_new (w : World) (c : Array Value) (e : TypeId) (i : Nat) : (w.alloc (.cells c e)).cell? ⟨w.heap.size, i, none⟩ = c[i]? := by
  exact cell_of_row (w.alloc (.cells c e)) w.heap.size i c e (0, 0) (heap_alloc_new w _)

/-- m cells at A, below block B, read as f. -/
def VR (w : World) (B : Nat) (A : Option Addr) (m : Nat) (f : Nat → Value) : Prop :=
  0 < m → ∃ b off, A = some ⟨b, off, none⟩ ∧ b < B ∧ ∀ j, j < m → w.cell? ⟨b, off + j, none⟩ = some (f j)
section
variable {w w' : World} {B B' m n sz : Nat} {A : Option Addr} {f : Nat → Value}
theorem VR.below (h : VR w B A m f) (hb : Below B' w w') (hB : B ≤ B') : VR w' B A m f := fun hm => by
  obtain ⟨b, off, hA, hlt, hc⟩ := h hm
  exact ⟨b, off, hA, hlt, fun j hj => (hb.cell (p := ⟨b, off + j, none⟩) (by simp; omega)).trans (hc j hj)⟩
theorem VR.more (h : VR w B A m f) (hB : B ≤ B') : VR w B' A m f := fun hm => by
  obtain ⟨b, off, hA, hlt, hc⟩ := h hm
  exact ⟨b, off, hA, by omega, hc⟩
theorem VR.nil (w : World) (B : Nat) (A : Option Addr) (f : Nat → Value) : VR w B A 0 f := fun h => absurd h (by omega)
theorem VR.congr {g : Nat → Value} (h : VR w B A m f) (hg : ∀ j, j < m → f j = g j) : VR w B A m g := fun hm => by
  obtain ⟨b, off, hA, hlt, hc⟩ := h hm
  exact ⟨b, off, hA, hlt, fun j hj => by rw [hc j hj, hg j hj]⟩
end
/-- n elements of sz cells each; the i-th cell of the k-th is g k i. -/
def ER (w : World) (B : Nat) (sz : Nat) (A : Option Addr) (n : Nat) (g : Nat → Nat → Value) : Prop :=
  0 < n → ∃ b off, A = some ⟨b, off, none⟩ ∧ b < B ∧ ∀ k i, k < n → i < sz → w.cell? ⟨b, off + k * sz + i, none⟩ = some (g k i)
section
variable {w w' : World} {B B' n sz : Nat} {A : Option Addr} {g : Nat → Nat → Value}
theorem ER.below (h : ER w B sz A n g) (hb : Below B' w w') (hB : B ≤ B') : ER w' B sz A n g := fun hm => by
  obtain ⟨b, off, hA, hlt, hc⟩ := h hm
  exact ⟨b, off, hA, hlt, fun k i hk hi => (hb.cell (p := ⟨b, off + k * sz + i, none⟩) (by simp; omega)).trans (hc k i hk hi)⟩
theorem ER.more (h : ER w B sz A n g) (hB : B ≤ B') : ER w B' sz A n g := fun hm => by
  obtain ⟨b, off, hA, hlt, hc⟩ := h hm
  exact ⟨b, off, hA, by omega, hc⟩
theorem ER.nil (w : World) (B sz : Nat) (A : Option Addr) (g : Nat → Nat → Value) : ER w B sz A 0 g := fun h => absurd h (by omega)
end
abbrev iv (n : Int) : Value := .int .i64 n
/-- a slice of ints -/
def IR (w : World) (B : Nat) (A : Option Addr) (n : Nat) (x : Nat → Int) : Prop := ER w B 1 A n fun k _ => .int .i64 (x k)
theorem IR.at_ {w : World} {B n : Nat} {A : Option Addr} {x : Nat → Int} (h : IR w B A n x) {k : Nat} (hk : k < n) :
    ∃ b off, A = some ⟨b, off, none⟩ ∧ b < B ∧ w.cell? ⟨b, off + k, none⟩ = some (.int .i64 (x k)) := by
  obtain ⟨b, off, hA, hlt, hc⟩ := h (by omega)
  exact ⟨b, off, hA, hlt, by simpa using hc k 0 hk (by omega)⟩
theorem IR.below {w w' : World} {B B' n : Nat} {A : Option Addr} {x : Nat → Int} (h : IR w B A n x) (hb : Below B' w w') (hB : B ≤ B') : IR w' B A n x := ER.below h hb hB
theorem IR.more {w : World} {B B' n : Nat} {A : Option Addr} {x : Nat → Int} (h : IR w B A n x) (hB : B ≤ B') : IR w B' A n x := ER.more h hB
/-- a slice of structs of two cells -/
def P2 (w : World) (B : Nat) (A : Option Addr) (n : Nat) (u v : Nat → Value) : Prop := ER w B 2 A n fun k i => if i = 0 then u k else v k
theorem P2.at_ {w : World} {B n : Nat} {A : Option Addr} {u v : Nat → Value} (h : P2 w B A n u v) {k : Nat} (hk : k < n) :
    ∃ b off, A = some ⟨b, off, none⟩ ∧ b < B ∧ w.cell? ⟨b, off + k * 2, none⟩ = some (u k) ∧ w.cell? ⟨b, off + k * 2 + 1, none⟩ = some (v k) := by
  obtain ⟨b, off, hA, hlt, hc⟩ := h (by omega)
  exact ⟨b, off, hA, hlt, by simpa using hc k 0 hk (by omega), by simpa using hc k 1 hk (by omega)⟩
theorem P2.below {w w' : World} {B B' n : Nat} {A : Option Addr} {u v : Nat → Value} (h : P2 w B A n u v) (hb : Below B' w w') (hB : B ≤ B') : P2 w' B A n u v := ER.below h hb hB
theorem P2.more {w : World} {B B' n : Nat} {A : Option Addr} {u v : Nat → Value} (h : P2 w B A n u v) (hB : B ≤ B') : P2 w B' A n u v := ER.more h hB
/-- a slice of structs of two ints -/
abbrev PI (w : World) (B : Nat) (A : Option Addr) (n : Nat) (x y : Nat → Int) : Prop := P2 w B A n (fun k => .int .i64 (x k)) (fun k => .int .i64 (y k))
theorem PI.at_ {w : World} {B n : Nat} {A : Option Addr} {x y : Nat → Int} (h : PI w B A n x y) {k : Nat} (hk : k < n) :
    ∃ b off, A = some ⟨b, off, none⟩ ∧ b < B ∧ w.cell? ⟨b, off + k * 2, none⟩ = some (.int .i64 (x k)) ∧ w.cell? ⟨b, off + k * 2 + 1, none⟩ = some (.int .i64 (y k)) := P2.at_ h hk
theorem IR.one (w : World) (v : Int) (e : TypeId) : IR (w.alloc (.cells #[.int .i64 v] e)) (w.heap.size + 1) (some ⟨w.heap.size, 0, none⟩) 1 (fun _ => v) := fun _ =>
  ⟨w.heap.size, 0, rfl, by omega, fun k i hk hi => by
    obtain rfl : k = 0 := by omega
    obtain rfl : i = 0 := by omega
    simp⟩

theorem IR.two (w : World) (u v : Int) (e : TypeId) : IR (w.alloc (.cells #[.int .i64 u, .int .i64 v] e)) (w.heap.size + 1) (some ⟨w.heap.size, 0, none⟩) 2 (fun k => if k = 0 then u else v) := fun _ =>
  ⟨w.heap.size, 0, rfl, by omega, fun k i hk hi => by
    obtain rfl : i = 0 := by omega
    rcases (by omega : k = 0 ∨ k = 1) with rfl | rfl <;> simp⟩
theorem mul_bd {a b M N : Int} (h1 : 0 ≤ a) (h2 : a ≤ M) (h3 : 0 ≤ b) (h4 : b ≤ N) : 0 ≤ a * b ∧ a * b ≤ M * N :=
  ⟨Int.mul_nonneg h1 h3, Int.le_trans (Int.mul_le_mul_of_nonneg_left h4 h1) (Int.mul_le_mul_of_nonneg_right h2 (by omega))⟩

/-- the first place below n where p holds, or -1 -/
def idx (p : Nat → Bool) : Nat → Int
  | 0 => -1
  | k + 1 => if 0 ≤ idx p k then idx p k else if p k then k else -1
def anyTo (p : Nat → Bool) : Nat → Bool
  | 0 => false
  | k + 1 => anyTo p k || p k
theorem idx_stable (p : Nat → Bool) (k n : Nat) (h : 0 ≤ idx p k) (hkn : k ≤ n) : idx p n = idx p k := by
  induction n with
  | zero => obtain rfl : k = 0 := by omega
            rfl
  | succ n ih =>
    rcases Nat.lt_or_ge k (n + 1) with hl | hl
    · have := ih (by omega); simp only [idx, this, if_pos h]
    · obtain rfl : k = n + 1 := by omega
      rfl
theorem idx_any (p : Nat → Bool) (n : Nat) : decide (0 ≤ idx p n) = anyTo p n := by
  induction n with
  | zero => rfl
  | succ n ih =>
    unfold idx anyTo
    rw [← ih]
    by_cases h : 0 ≤ idx p n
    · simp [h]
    · cases hp : p n <;> simp [h]
theorem idx_lt (p : Nat → Bool) (n : Nat) : -1 ≤ idx p n ∧ idx p n < n := by
  induction n with
  | zero => simp [idx]
  | succ n ih =>
    unfold idx
    split
    · omega
    · split <;> omega
theorem anyTo_iff (p : Nat → Bool) (n : Nat) : anyTo p n = true ↔ ∃ k, k < n ∧ p k = true := by
  induction n with
  | zero => simp [anyTo]
  | succ n ih =>
    simp only [anyTo, Bool.or_eq_true, ih]
    constructor
    · rintro (⟨k, hk, h⟩ | h)
      · exact ⟨k, by omega, h⟩
      · exact ⟨n, by omega, h⟩
    · rintro ⟨k, hk, h⟩
      rcases Nat.lt_or_ge k n with hl | hl
      · exact .inl ⟨k, hl, h⟩
      · obtain rfl : k = n := by omega
        exact .inr h
/-- v lies outside of a .. b -/
def outB (a b v : Int) : Bool := decide (v < a) || decide (b < v)
theorem outB_iff (a b v : Int) : outB a b v = true ↔ ¬ (a ≤ v ∧ v ≤ b) := by simp only [outB, Bool.or_eq_true, decide_eq_true_eq]; omega
theorem outB_false (a b v : Int) : outB a b v = false ↔ (a ≤ v ∧ v ≤ b) := by simp only [outB, Bool.or_eq_false_iff, decide_eq_false_iff_not]; omega
end Go.Proofs.YtcgdalabenflmaaDoor
/- A region that draws its order, within a round of a range over a function: loads taken first, under one condition on the world. After the library's laws for activations (OrdersHeld, OrdersIn). -/
namespace Go.Proofs.YtcgdalabenflmaaDoor
open Go Go.RowKit
def noDef (ops : Array Oper) : Bool := ops.all fun o => match o.op with | .defer _ => false | _ => true
theorem noDef_spec {ops : Array Oper} (h : noDef ops = true) {j : Nat} {o : Oper} (hj : ops[j]? = some o) : ∀ c, o.op ≠ .defer c := by
  intro c hc
  obtain ⟨hlt, rfl⟩ := Array.getElem?_eq_some_iff.1 hj
  have := (Array.all_eq_true.1 h) j hlt
  rw [hc] at this
  simp at this
section
variable {F : Fence} {n : Nat} {P : Program} {ops : Array Oper} {Q : Exit → Act → World → Prop} {md : Region.Mode} {S : World → Prop}
theorem YieldsIf.wpOpIn {i : Nat} {o : Oper} {v : Value} {a : Act} (hfn : ∀ f, F.fn f) (hnd : noDef ops = true) (hi : ops[i]? = some o) (hy : YieldsIf P ops S o v a)
    {K : Act → World → Prop} {w : World} (hS : S w) (h : K (a.put o.dst v) w) : wpOpIn F n P ops Q i K a w := by
  unfold Go.wpOpIn
  simp only [hi]
  rcases hy with ⟨hw, hv⟩ | ⟨hw, rfl⟩
  · simp only [hw, if_true, Oper.wpIn, Oper.semAt_eq _ _ _ (noDef_spec hnd hi), hv w hS, Oper.uponIn]; exact ⟨fun f _ => hfn f, h⟩
  · simp only [hw, Bool.false_eq_true, if_false]; exact ⟨fun f _ => hfn f, h⟩
theorem wpOpIn_putJ {j : Nat} {oi oj : Oper} {v : Value} (hnd : noDef ops = true) (hj : ops[j]? = some oj) (hap : oi.apart ops oj = true)
    (hsi : ∀ cs b, oi.op ≠ .select cs b) (hsj : ∀ cs b, oj.op ≠ .select cs b)
    (hQ : ∀ c a w, Q (.panic c) (a.put oi.dst v) w → Q (.panic c) a w) {K : Act → World → Prop} {a : Act} {w : World} (hfn : ∀ f, F.fn f)
    (hy : YieldsIf P ops S oi v a) (h : wpOpIn F n P ops Q j K (a.put oi.dst v) w) :
    wpOpIn F n P ops Q j (fun a' w' => YieldsIf P ops S oi v a' ∧ K (a'.put oi.dst v) w') a w := by
  obtain ⟨h1, h2, h3⟩ := Oper.apart_spec hap
  have hdj := noDef_spec hnd hj
  have keep : ∀ (a : Act), YieldsIf P ops S oi v a → ∀ u, YieldsIf P ops S oi v (a.put oj.dst u) := fun a hy u =>
    hy.of_same (execOp_put oi hsi a oj.dst u h3) (wanted_put oi a oj.dst u h3)
  have keepD : ∀ d, YieldsIf P ops S oi v { a with defers := d :: a.defers } := fun d => hy.of_same rfl rfl
  unfold wpOpIn at *
  simp only [hj] at *
  rw [wanted_put oj a oi.dst v h1] at h
  split
  · rename_i hw
    simp only [hw, if_true] at h
    unfold Oper.wpIn at *
    refine ⟨fun f _ => hfn f, ?_⟩
    have h := h.2
    rw [Oper.semAt_eq _ _ _ hdj, execOp_put oj hsj a oi.dst v h1] at h
    rw [Oper.semAt_eq _ _ _ hdj]
    generalize (execOp a.eval oj).run P w = r at *
    cases r with
    | ok x w' =>
      cases x <;> simp only [Oper.uponIn] at h ⊢
      case value u => exact ⟨keep a hy u, by rw [← Act.put_comm a v u h2]; exact h⟩
      case skip => exact ⟨keep a hy _, by rw [← Act.put_comm a v undef h2]; exact h⟩
      case defer d =>
        refine ⟨keep _ (keepD d) _, ?_⟩
        rw [← Act.put_comm _ v undef h2, ← Act.put_defers]
        exact h
      case enter f args =>
        refine ⟨h.1, CallsIn.mono h.2 fun e w'' he => ?_⟩
        cases e with
        | returned u => exact ⟨keep a hy u, by rw [← Act.put_comm a v u h2]; exact he⟩
        | panicked c => exact hQ _ _ _ he
        | outgrown => exact he
      case row row args => exact ⟨h.1, RowsIn.mono h.2 fun u w'' he => ⟨keep a hy u, by rw [← Act.put_comm a v u h2]; exact he⟩⟩
      case round l f tmps assign body =>
        refine ⟨h.1, RoundIn.mono h.2 fun e w'' he => ?_⟩
        cases e with
        | returned u => exact ⟨keep a hy u, by rw [← Act.put_comm a v u h2]; exact he⟩
        | panicked c => exact hQ _ _ _ he
        | outgrown => exact he
    | halt x w' =>
      cases x <;> simp only [Oper.uponIn] at h ⊢
      case panic u => exact hQ _ _ _ h
  · rename_i hw
    simp only [hw] at h
    exact ⟨fun f _ => hfn f, keep a hy _, by rw [← Act.put_comm a v undef h2]; exact h.2⟩
/-- an operation whose value hangs on no world -/
def pureOp (o : Oper) : Bool := match o.op with | .move _ => true | .assign _ => true | .extract _ _ => true | _ => false
theorem pure_any {ev : Operand → Value} {o : Oper} {v : Value} {w : World} (hp : pureOp o = true) (h : (execOp ev o).run P w = .ok (.value v) w) (w' : World) : (execOp ev o).run P w' = .ok (.value v) w' := by
  unfold pureOp at hp
  unfold execOp at h ⊢
  split at hp
  · simp_all [Sem.run_pure]
  · simp_all [Sem.run_pure]
  · rename_i t ix he
    simp only [he, Instr.extract] at h ⊢
    split at h
    · split at h
      · rename_i u hu
        simp_all [Sem.run_pure, Sem.run_bind, Result.andThen_ok]
      · simp [stuck, Sem.run_bind, Sem.run_halt, Result.andThen_halt] at h
    · simp [stuck, Sem.run_bind, Sem.run_halt, Result.andThen_halt] at h
  · cases hp
/-- an operation that waits for all others, but for those whose value hangs on no world, and those that wait for it -/
def lastOp (md : Region.Mode) (ops : Array Oper) (j : Nat) : Bool := match ops[j]? with
  | none => false
  | some o => pureOp o || (List.range ops.size).all fun k => k == j || (o.after.any fun e => Region.binds md e && e.on == k) || match ops[k]? with
    | some ok => pureOp ok || ok.after.any fun e => Region.binds md e && e.on == j
    | none => true
theorem lastOp_no {i j : Nat} {oi oj : Oper} (hi : ops[i]? = some oi) (hj : ops[j]? = some oj) (hji : j ≠ i) (hnot : ∀ e ∈ oj.after, Region.binds md e = true → e.on ≠ i)
    (hp : pureOp oi = false) (hpj : pureOp oj = false) (hnot' : ∀ e ∈ oi.after, Region.binds md e = true → e.on ≠ j) : lastOp md ops j = false := by
  rw [← Bool.not_eq_true]
  intro h
  unfold lastOp at h
  rw [hj] at h
  replace h : (pureOp oj || _) = true := h
  rw [hpj, Bool.false_or] at h
  have hlt := (Array.getElem?_eq_some_iff.1 hi).1
  have h1 := List.all_eq_true.1 h i (by simpa using hlt)
  simp only [hi, hp, Bool.or_eq_true, beq_iff_eq, Bool.false_or] at h1
  rcases h1 with (h1 | h1) | h1
  · exact hji h1.symm
  · obtain ⟨k, hk, he⟩ := Array.any_eq_true.1 h1
    simp only [Bool.and_eq_true, beq_iff_eq] at he
    exact hnot _ (Array.getElem_mem hk) he.1 he.2
  · obtain ⟨k, hk, he⟩ := Array.any_eq_true.1 h1
    simp only [Bool.and_eq_true, beq_iff_eq] at he
    exact hnot' _ (Array.getElem_mem hk) he.1 he.2
theorem lastOp_pure {i : Nat} {oi : Oper} (hi : ops[i]? = some oi) (hp : pureOp oi = true) : lastOp md ops i = true := by
  unfold lastOp
  rw [hi]
  simp [hp]
/-- an operation whose value hangs on no world leaves the world as it is -/
theorem wpOpIn_pure {j : Nat} {oj : Oper} (hnd : noDef ops = true) (hj : ops[j]? = some oj) (hp : pureOp oj = true) {K : Act → World → Prop} {a : Act} {w : World} (h : wpOpIn F n P ops Q j K a w) :
    wpOpIn F n P ops Q j (fun a' w' => w' = w ∧ K a' w') a w := by
  unfold wpOpIn at h ⊢
  simp only [hj] at h ⊢
  split
  · rename_i hw
    simp only [hw, if_true] at h
    unfold Oper.wpIn at h ⊢
    refine ⟨h.1, ?_⟩
    have h := h.2
    rw [Oper.semAt_eq _ _ _ (noDef_spec hnd hj)] at h ⊢
    unfold pureOp at hp
    unfold execOp at h ⊢
    split at hp
    · rename_i x he
      simp only [he, Sem.run_pure, Oper.uponIn] at h ⊢
      exact ⟨trivial, h⟩
    · rename_i x he
      simp only [he, Sem.run_pure, Oper.uponIn] at h ⊢
      exact ⟨trivial, h⟩
    · rename_i t ix he
      simp only [he, Instr.extract] at h ⊢
      split at h
      · split at h
        · rename_i u hu
          simp only [Sem.run_pure, Sem.run_bind, Result.andThen_ok, Oper.uponIn] at h ⊢
          exact ⟨trivial, h⟩
        · simp [stuck, Sem.run_bind, Sem.run_halt, Result.andThen_halt, Oper.uponIn] at h
      · simp [stuck, Sem.run_bind, Sem.run_halt, Result.andThen_halt, Oper.uponIn] at h
    · cases hp
  · rename_i hw
    simp only [hw] at h
    exact ⟨h.1, trivial, h.2⟩
/-- whatever order is picked, and S holds behind every operation that is carried out, but for one that waits for all others -/
def wpAnyJ (F : Fence) (n : Nat) (P : Program) (md : Region.Mode) (ops : Array Oper) (Q : Exit → Act → World → Prop) (S : World → Prop) : Nat → Array Bool → Act → World → Prop
  | 0, listed, a, w => Region.ready md ops listed = [] ∧ Q .normal a w
  | fuel + 1, listed, a, w =>
    (Region.ready md ops listed = [] → Q .normal a w) ∧
    ∀ i ∈ Region.ready md ops listed, wpOpIn F n P ops Q i (fun a' w' => (lastOp md ops i = false → S w') ∧ wpAnyJ F n P md ops Q S fuel (listed.setIfInBounds i true) a' w') a w
theorem wpAnyIn_of_J : ∀ (fuel : Nat) (listed : Array Bool) (a : Act) (w : World), wpAnyJ F n P md ops Q S fuel listed a w → wpAnyIn F n P md ops Q fuel listed a w
  | 0, _, _, _, h => h
  | fuel + 1, _, _, _, h => ⟨h.1, fun i hi => wpOpIn_mono (fun a' w' h' => wpAnyIn_of_J fuel _ a' w' h'.2) (h.2 i hi)⟩
theorem wpAnyJ_first {S' : World → Prop} {i : Nat} {oi : Oper} {v : Value} (hfn : ∀ f, F.fn f) (hnd : noDef ops = true) (hi : ops[i]? = some oi) (hsel : ∀ (j : Nat) (o : Oper) cs b, ops[j]? = some o → o.op ≠ .select cs b)
    (hQ : ∀ c a w, Q (.panic c) (a.put oi.dst v) w → Q (.panic c) a w) (hS' : (pureOp oi = true ∧ ∀ w, S' w) ∨ (pureOp oi = false ∧ ∀ w, S w → S' w)) :
    ∀ (fuel : Nat) (listed : Array Bool) (a : Act) (w : World),
      (∀ j oj, ops[j]? = some oj → j ≠ i → listed.getD j true = false → (∀ e ∈ oj.after, Region.binds md e = true → e.on ≠ i) → oi.apart ops oj = true) →
      i ∈ Region.ready md ops listed → YieldsIf P ops S' oi v a → S' w → (lastOp md ops i = false → S w) →
      wpAnyJ F n P md ops Q S fuel (listed.setIfInBounds i true) (a.put oi.dst v) w → wpAnyJ F n P md ops Q S (fuel + 1) listed a w := by
  intro fuel
  induction fuel with
  | zero =>
    intro listed a w _ hr hy hS hS0 H
    refine ⟨fun h => (by rw [h] at hr; cases hr), fun j hj => ?_⟩
    by_cases hji : j = i
    · subst hji; exact YieldsIf.wpOpIn hfn hnd hi hy hS ⟨hS0, H⟩
    · have := ready_mono hj hji
      rw [H.1] at this
      cases this
  | succ fuel ih =>
    intro listed a w hfree hr hy hS hS0 H
    refine ⟨fun h => (by rw [h] at hr; cases hr), fun j hj => ?_⟩
    by_cases hji : j = i
    · subst hji; exact YieldsIf.wpOpIn hfn hnd hi hy hS ⟨hS0, H⟩
    · have h1 := H.2 j (ready_mono hj hji)
      obtain ⟨hjun, oj, hoj, hall⟩ := mem_ready.1 hj
      have hnot : ∀ e ∈ oj.after, Region.binds md e = true → e.on ≠ i := fun e he hb heq => by
        have h1 := hall e he hb
        have h0 := (mem_ready.1 hr).1
        rw [heq] at h1
        rcases Nat.lt_or_ge i listed.size with h' | h'
        · simp [h'] at h0 h1; rw [h0] at h1; cases h1
        · simp [Array.getElem?_eq_none h'] at h1
      have hnot' : ∀ e ∈ oi.after, Region.binds md e = true → e.on ≠ j := fun e he hb heq => by
        obtain ⟨-, oi', hoi', hall'⟩ := mem_ready.1 hr
        obtain rfl : oi = oi' := by rw [hi] at hoi'; injection hoi'
        have h1 := hall' e he hb
        rw [heq] at h1
        rcases Nat.lt_or_ge j listed.size with h' | h'
        · simp [h'] at hjun h1; rw [hjun] at h1; cases h1
        · simp [Array.getElem?_eq_none h'] at h1
      have h2 := wpOpIn_putJ hnd hoj (hfree j oj hoj hji hjun hnot) (fun cs b => hsel i oi cs b hi) (fun cs b => hsel j oj cs b hoj) hQ hfn hy h1
      have hfree' : ∀ k ok, ops[k]? = some ok → k ≠ i → (listed.setIfInBounds j true).getD k true = false →
          (∀ e ∈ ok.after, Region.binds md e = true → e.on ≠ i) → oi.apart ops ok = true := fun k ok hk hki hun hno => by
        refine hfree k ok hk hki ?_ hno
        by_cases hjk : j = k
        · subst hjk; exact hjun
        · rw [getD_set_ne true hjk] at hun; exact hun
      rcases hS' with ⟨hp, hS'⟩ | ⟨hp, hS'⟩
      · exact wpOpIn_mono (fun a' w' h3 => ⟨h3.2.1, ih (listed.setIfInBounds j true) a' w' hfree' (ready_mono hr (Ne.symm hji)) h3.1 (hS' w') (fun h => by rw [lastOp_pure hi hp] at h; cases h) (by rw [Array.setIfInBounds_comm _ _ hji]; exact h3.2.2)⟩) h2
      · rcases hpj : pureOp oj with _ | _
        · have hl := lastOp_no hi hoj hji hnot hp hpj hnot'
          exact wpOpIn_mono (fun a' w' h3 => ⟨h3.2.1, ih (listed.setIfInBounds j true) a' w' hfree' (ready_mono hr (Ne.symm hji)) h3.1 (hS' w' (h3.2.1 hl)) (fun _ => h3.2.1 hl) (by rw [Array.setIfInBounds_comm _ _ hji]; exact h3.2.2)⟩) h2
        · refine wpOpIn_mono (fun a' w' (h3 : w' = w ∧ YieldsIf P ops S' oi v a' ∧ _) => ⟨h3.2.2.1, ih (listed.setIfInBounds j true) a' w' hfree' (ready_mono hr (Ne.symm hji)) h3.2.1 (h3.1 ▸ hS) (fun h => h3.1 ▸ hS0 h) (by rw [Array.setIfInBounds_comm _ _ hji]; exact h3.2.2.2)⟩) (wpOpIn_pure hnd hoj hpj h2)
theorem wpAnyJ_take (i : Nat) {oi : Oper} {v : Value} {fuel : Nat} {listed : Array Bool} {a : Act} {w : World} (hfn : ∀ f, F.fn f) (hS : S w) (hi : ops[i]? = some oi) (hnd : noDef ops = true)
    (hs : Region.noSelect ops = true) (hf : Region.free md ops listed i = true) (hr : (Region.ready md ops listed).contains i = true)
    (hw : Region.wanted oi (yielded ops a.tmps) = true) (hy : ∀ w, S w → (execOp a.eval oi).run P w = .ok (.value v) w) (hQ : ∀ c a w, Q (.panic c) (a.put oi.dst v) w → Q (.panic c) a w)
    (h : wpAnyJ F n P md ops Q S fuel (listed.setIfInBounds i true) (a.put oi.dst v) w) : wpAnyJ F n P md ops Q S (fuel + 1) listed a w := by
  rcases hp : pureOp oi with _ | _
  · exact wpAnyJ_first hfn hnd hi (Region.noSelect_spec hs) hQ (.inr ⟨hp, fun _ h => h⟩) fuel listed a w (Region.free_spec hi hf) (by simpa using hr) (.inl ⟨hw, hy⟩) hS (fun _ => hS) h
  · exact wpAnyJ_first (S' := fun _ => True) hfn hnd hi (Region.noSelect_spec hs) hQ (.inl ⟨hp, fun _ => trivial⟩) fuel listed a w (Region.free_spec hi hf) (by simpa using hr) (.inl ⟨hw, fun w' _ => pure_any hp (hy w hS) w'⟩) trivial (fun _ => hS) h
/-- an operation whose value hangs on no world, behind the last store -/
theorem wpAnyJ_pure (i : Nat) {oi : Oper} {v : Value} {fuel : Nat} {listed : Array Bool} {a : Act} {w : World} (hfn : ∀ f, F.fn f) (hi : ops[i]? = some oi) (hnd : noDef ops = true)
    (hs : Region.noSelect ops = true) (hf : Region.free md ops listed i = true) (hr : (Region.ready md ops listed).contains i = true)
    (hw : Region.wanted oi (yielded ops a.tmps) = true) (hp : pureOp oi = true) (hy : (execOp a.eval oi).run P w = .ok (.value v) w) (hQ : ∀ c a w, Q (.panic c) (a.put oi.dst v) w → Q (.panic c) a w)
    (h : wpAnyJ F n P md ops Q S fuel (listed.setIfInBounds i true) (a.put oi.dst v) w) : wpAnyJ F n P md ops Q S (fuel + 1) listed a w :=
  wpAnyJ_first (S' := fun _ => True) hfn hnd hi (Region.noSelect_spec hs) hQ (.inl ⟨hp, fun _ => trivial⟩) fuel listed a w (Region.free_spec hi hf) (by simpa using hr) (.inl ⟨hw, fun w' _ => pure_any hp hy w'⟩) trivial (fun h => by rw [lastOp_pure hi hp] at h; cases h) h
/-- an operation that is not wanted -/
theorem wpAnyJ_skip (i : Nat) {oi : Oper} {fuel : Nat} {listed : Array Bool} {a : Act} {w : World} (hfn : ∀ f, F.fn f) (hS : S w) (hi : ops[i]? = some oi) (hnd : noDef ops = true)
    (hs : Region.noSelect ops = true) (hf : Region.free md ops listed i = true) (hr : (Region.ready md ops listed).contains i = true)
    (hw : Region.wanted oi (yielded ops a.tmps) = false) (hQ : ∀ c a w, Q (.panic c) (a.put oi.dst undef) w → Q (.panic c) a w)
    (h : wpAnyJ F n P md ops Q S fuel (listed.setIfInBounds i true) (a.put oi.dst undef) w) : wpAnyJ F n P md ops Q S (fuel + 1) listed a w := by
  rcases hp : pureOp oi with _ | _
  · exact wpAnyJ_first hfn hnd hi (Region.noSelect_spec hs) hQ (.inr ⟨hp, fun _ h => h⟩) fuel listed a w (Region.free_spec hi hf) (by simpa using hr) (.inr ⟨hw, rfl⟩) hS (fun _ => hS) h
  · exact wpAnyJ_first (S' := fun _ => True) hfn hnd hi (Region.noSelect_spec hs) hQ (.inl ⟨hp, fun _ => trivial⟩) fuel listed a w (Region.free_spec hi hf) (by simpa using hr) (.inr ⟨hw, rfl⟩) trivial (fun _ => hS) h
-- several loads, one after another
def Tk (_ : List Nat) (G : Prop) : Prop := G
theorem tk_start {G : Prop} (is : List Nat) (h : Tk is G) : G := h
theorem tk_end {G : Prop} (h : G) : Tk [] G := h
theorem tk_one {i : Nat} {is : List Nat} {oi : Oper} {v : Value} {fuel : Nat} {listed : Array Bool} {a : Act} {w : World} (hfn : ∀ f, F.fn f) (hS : S w) (hi : ops[i]? = some oi) (hnd : noDef ops = true)
    (hs : Region.noSelect ops = true) (hf : Region.free md ops listed i = true) (hr : (Region.ready md ops listed).contains i = true)
    (hw : Region.wanted oi (yielded ops a.tmps) = true) (hy : ∀ w, S w → (execOp a.eval oi).run P w = .ok (.value v) w) (hQ : ∀ c a w, Q (.panic c) (a.put oi.dst v) w → Q (.panic c) a w)
    (h : Tk is (wpAnyJ F n P md ops Q S fuel (listed.setIfInBounds i true) (a.put oi.dst v) w)) : Tk (i :: is) (wpAnyJ F n P md ops Q S (fuel + 1) listed a w) :=
  wpAnyJ_take i hfn hS hi hnd hs hf hr hw hy hQ h
theorem tk_skip {i : Nat} {is : List Nat} {oi : Oper} {fuel : Nat} {listed : Array Bool} {a : Act} {w : World} (hfn : ∀ f, F.fn f) (hS : S w) (hi : ops[i]? = some oi) (hnd : noDef ops = true)
    (hs : Region.noSelect ops = true) (hf : Region.free md ops listed i = true) (hr : (Region.ready md ops listed).contains i = true)
    (hw : Region.wanted oi (yielded ops a.tmps) = false) (hQ : ∀ c a w, Q (.panic c) (a.put oi.dst undef) w → Q (.panic c) a w)
    (h : Tk is (wpAnyJ F n P md ops Q S fuel (listed.setIfInBounds i true) (a.put oi.dst undef) w)) : Tk (i :: is) (wpAnyJ F n P md ops Q S (fuel + 1) listed a w) :=
  wpAnyJ_skip i hfn hS hi hnd hs hf hr hw hQ h
/-- one operation alone may come up: it is carried out -/
theorem wpAnyJ_one (i : Nat) {oi : Oper} {fuel : Nat} {listed : Array Bool} {a : Act} {w : World} (hi : ops[i]? = some oi) (hr : Region.ready md ops listed = [i])
    (h : ∀ K : Act → World → Prop, Hid (∀ a w, (lastOp md ops i = false → S w) → wpAnyJ F n P md ops Q S fuel (listed.setIfInBounds i true) a w → K a w) → if Region.wanted oi (yielded ops a.tmps) = true then oi.wpIn F n P a w K Q else (∀ f, oi.about P w a.eval = some f → F.fn f) ∧ K (a.put oi.dst undef) w) :
    wpAnyJ F n P md ops Q S (fuel + 1) listed a w := by
  refine ⟨fun h0 => (by rw [hr] at h0; cases h0), fun j hj => ?_⟩
  rw [hr] at hj
  obtain rfl := List.mem_singleton.1 hj
  have h1 := h (fun a' w' => (lastOp md ops j = false → S w') ∧ wpAnyJ F n P md ops Q S fuel (listed.setIfInBounds j true) a' w') (show Hid _ from fun a w h1 h2 => ⟨h1, h2⟩)
  unfold wpOpIn
  simp only [hi]
  exact h1
theorem wpAnyJ_done {fuel : Nat} {listed : Array Bool} {a : Act} {w : World} (hr : Region.ready md ops listed = []) (h : Q .normal a w) : wpAnyJ F n P md ops Q S fuel listed a w := by
  cases fuel with
  | zero => exact ⟨hr, h⟩
  | succ k => exact ⟨fun _ => h, by rw [hr]; simp⟩
theorem wpIn_region_J {id : Nat} {a : Act} {w : World} (S : World → Prop) (hm : P.follows .mixedOrders = true)
    (h : wpAnyJ F n P .any ops Q S ops.size (Array.replicate ops.size false) a w.drew) : (Code.region id ops true).wpIn F n P Q a w :=
  wpIn_region_any hm (wpAnyIn_of_J _ _ _ _ h)
theorem wideFn : ∀ f, Fence.wide.fn f := fun _ => trivial
/-- the same for an activation: no fence -/
theorem wp_region_J {id : Nat} {P : Program} {ops : Array Oper} {Q : Exit → Act → World → Prop} {a : Act} {w : World} (S : World → Prop) (hm : P.follows .mixedOrders = true)
    (h : wpAnyJ Fence.wide 0 P .any ops Q S ops.size (Array.replicate ops.size false) a w.drew) : (Code.region id ops true).wp P Q a w :=
  wpIn_wide.1 (wpIn_region_J S hm h)
theorem wpIn_append_run {o : Oper} {a : Act} {w w' : World} {K : Act → World → Prop} (s x : Operand) (t : TypeId) {v u r : Value} (hfn : ∀ f, F.fn f)
    (ho : o.op = .call { callee := .builtin .append, args := #[s, x], argTypes := #[t, t] }) (hs : a.eval s = v) (hx : a.eval x = u)
    (hrun : (Builtin.append_ #[t, t] o.type #[v, u]).run P w = .ok r w') (h : K (a.put o.dst r) w') : o.wpIn F n P a w K Q := by
  refine ⟨fun f _ => hfn f, ?_⟩
  rw [Oper.semAt_eq _ _ _ (fun c => by rw [ho]; simp)]
  unfold execOp
  simp only [ho, resolve, invoke, builtin, Sem.run_bind, Sem.run_pure, Result.andThen_ok, List.map_toArray, List.map_cons, List.map_nil, hs, hx, hrun]
  exact h
end
end Go.Proofs.YtcgdalabenflmaaDoor
/- Words on memory, turned from the guide's blocks for copying: a slice that reads as a list of cells, a block known whole, append from any source; and their ties to this family's words. -/
namespace Go.Proofs.YtcgdalabenflmaaDoor
open Go Go.RowKit
theorem block_of_add (a : Addr) (n : Nat) : (a.add n).block = a.block := by unfold Addr.add; split <;> rfl
theorem add_of_add (a : Addr) (i j : Nat) : (a.add i).add j = a.add (i + j) := by
  unfold Addr.add
  by_cases hi : i = 0 <;> by_cases hj : j = 0 <;> simp [hi, hj, Nat.add_assoc]

def Reads (w : World) (B size : Nat) (A : Option Addr) (n : Nat) (xs : List Value) : Prop :=
  xs.length = n * size ∧ (0 < n → ∃ ad, A = some ad ∧ ad.block < B ∧ ∀ j u, xs[j]? = some u → w.cell? (ad.add j) = some u)

section
variable {w w' : World} {B B' size n : Nat} {A : Option Addr} {xs : List Value}
theorem Reads.none_ : Reads w B size A 0 [] := ⟨by simp, fun h => absurd h (by omega)⟩
theorem Reads.at_ {k : Nat} (h : Reads w B 1 A n xs) (hk : k < n) : ∃ ad u, A = some ad ∧ ad.block < B ∧ xs[k]? = some u ∧ w.cell? (ad.add k) = some u := by
  obtain ⟨ad, e, hb, hc⟩ := h.2 (by omega)
  have hl : k < xs.length := by have := h.1; omega
  exact ⟨ad, xs[k], e, hb, List.getElem?_eq_getElem hl, hc k _ (List.getElem?_eq_getElem hl)⟩
theorem Reads.keep (h : Reads w B size A n xs) (hk : ∀ p : Addr, p.block < B → w'.cell? p = w.cell? p) : Reads w' B size A n xs :=
  ⟨h.1, fun hn => by
    obtain ⟨ad, e, hb, hc⟩ := h.2 hn
    exact ⟨ad, e, hb, fun j u hu => (hk _ (by rw [block_of_add]; exact hb)).trans (hc j u hu)⟩⟩
theorem Reads.more (h : Reads w B size A n xs) (hB : B ≤ B') : Reads w B' size A n xs :=
  ⟨h.1, fun hn => by
    obtain ⟨ad, e, hb, hc⟩ := h.2 hn
    exact ⟨ad, e, by omega, hc⟩⟩
theorem Reads.below (h : Reads w B size A n xs) (hb : Below B w w') : Reads w' B size A n xs := h.keep fun _ hp => hb.cell hp
theorem Reads.drew (h : Reads w B size A n xs) : Reads w.drew B size A n xs := h
theorem Reads.drewN (h : Reads w B size A n xs) (k : Nat) : Reads (w.drewN k) B size A n xs := h
theorem Reads.alloc (h : Reads w B size A n xs) (hB : B ≤ w.heap.size) (o : Obj) : Reads (w.alloc o) B size A n xs := h.keep fun p hp => World.cell?_alloc_lt w o p (by omega)
theorem Reads.setCell (h : Reads w B size A n xs) {p : Addr} (hB : B ≤ p.block) (u : Value) : Reads (w.setCell p u) B size A n xs :=
  h.keep fun q hq => World.cell?_setCell_other w p q u (fun e => by subst e; omega)
theorem Reads.grown (h : Reads w B size A n xs) {row : Option Nat} (hg : w.grownBy w' row) (hB : B ≤ w.heap.size) (hr : ∀ g, row = some g → B ≤ g) : Reads w' B size A n xs :=
  h.keep fun p hp => World.cell?_of_block (hg.block p.block (by omega) (fun e => by have := hr _ e.symm; omega))
theorem Reads.cut (h : Reads w B size A n xs) {k cap : Nat} (hk : k ≤ n) (hc : n ≤ cap) :
    Reads w B size (if cap = k then A else A.map (·.add (k * size))) (n - k) (xs.drop (k * size)) := by
  refine ⟨by rw [List.length_drop, h.1, Nat.sub_mul], fun hn => ?_⟩
  obtain ⟨ad, rfl, hb, hcell⟩ := h.2 (by omega)
  rw [if_neg (by omega)]
  refine ⟨ad.add (k * size), rfl, by rw [block_of_add]; exact hb, fun j u hu => ?_⟩
  rw [add_of_add]
  exact hcell _ u (by rw [← hu, List.getElem?_drop])
theorem Reads.of_own {base : Nat} {e : TypeId} {c : Nat} (h : w.ownsRow base e size (.slice A n c) n xs) : Reads w w.heap.size size A n xs := by
  refine ⟨h.1, fun hn => ?_⟩
  obtain ⟨g, cap, hv, _, hlt⟩ := h.form hn
  have hA : A = some ⟨g, 0, none⟩ := by injection hv
  subst hA
  exact ⟨_, rfl, hlt, h.cells (g := g) rfl⟩
end
def Blk (w : World) (g : Nat) (t : TypeId) (cs : Array Value) : Prop := w.heap[g]? = some (.cells cs t (0, 0))

section
variable {w w' : World} {g : Nat} {t : TypeId} {cs : Array Value}
theorem Blk.lt (h : Blk w g t cs) : g < w.heap.size := by
  rcases Nat.lt_or_ge g w.heap.size with hlt | hge
  · exact hlt
  · unfold Blk at h; rw [Array.getElem?_eq_none hge] at h; cases h
theorem Blk.cell (h : Blk w g t cs) (i : Nat) : w.cell? ⟨g, i, none⟩ = cs[i]? := cell_of_row w g i cs t (0, 0) h
theorem Blk.frozen (h : Blk w g t cs) (i : Nat) : w.frozen? ⟨g, i, none⟩ = false := by
  unfold Blk at h
  simp [World.frozen?, h]
theorem Blk.new (w : World) (t : TypeId) (cs : Array Value) : Blk (w.alloc (.cells cs t)) w.heap.size t cs := heap_alloc_new w _
theorem Blk.drew (h : Blk w g t cs) : Blk w.drew g t cs := h
theorem Blk.drewN (h : Blk w g t cs) (n : Nat) : Blk (w.drewN n) g t cs := h
theorem Blk.alloc (h : Blk w g t cs) (o : Obj) : Blk (w.alloc o) g t cs := (Below.heap_alloc w o g h.lt).trans h
theorem Blk.set_ (h : Blk w g t cs) (i : Nat) (u : Value) : Blk (w.setCell ⟨g, i, none⟩ u) g t (cs.setIfInBounds i u) := by
  unfold Blk at h ⊢
  simp [World.setCell, Array.getElem?_modify, h]
theorem Blk.far (h : Blk w g t cs) {p : Addr} (hp : g ≠ p.block) (u : Value) : Blk (w.setCell p u) g t cs := (Below.heap_setCell w p u g hp).trans h
theorem Blk.below {B : Nat} (h : Blk w g t cs) (hb : Below B w w') (hg : g < B) : Blk w' g t cs := (hb.block g hg).trans h
theorem Blk.grown {row : Option Nat} (h : Blk w g t cs) (hb : w.grownBy w' row) (hg : some g ≠ row) : Blk w' g t cs := (hb.block g h.lt hg).trans h
theorem Blk.ne_ {g' : Nat} {t' : TypeId} {cs' : Array Value} (h : Blk w g t cs) (h' : Blk w g' t' cs') (hne : t ≠ t') : g ≠ g' := by
  rintro rfl
  unfold Blk at h h'
  rw [h] at h'
  injection h' with h'
  injection h' with _ ht
  exact hne ht
theorem own_blk_ne {base : Nat} {e : TypeId} {size n : Nat} {v : Value} {xs : List Value} (h : w.ownsRow base e size v n xs) (hg : Blk w g t cs) (hne : e ≠ t) : v.ownBlock ≠ some g := by
  rcases h.2 with ⟨rfl, _⟩ | ⟨g', cap, cur, rfl, _, hh, _⟩
  · simp [Value.ownBlock]
  · intro he
    have : g' = g := by simpa [Value.ownBlock] using he
    subst this
    exact Blk.ne_ (t := e) hh hg hne rfl
end
section
variable {P : Program} (w : World)

theorem run_append_of_nil (base : Nat) (t ty e : TypeId) (i : TypeInfo) (size : Nat) (ht : P.underlying t = some (.slice e)) (hi : P.info? e = some i)
    (v : Value) (n : Nat) (xs : List Value) (hown : w.ownsRow base e size v n xs) (c : Nat) : (Builtin.append_ #[t, t] ty #[v, .slice none 0 c]).run P w = .ok v w := by
  rcases hown.2 with ⟨rfl, rfl⟩ | ⟨g, cap, cur, rfl, _, _, hnc, _⟩
  · simp [Builtin.append_, run_underlying ht, sizeOf, typeInfo, hi, Builtin.lenOf, Builtin.firstCells]
  · simp [Builtin.append_, run_underlying ht, sizeOf, typeInfo, hi, Builtin.lenOf, Builtin.firstCells, hnc, storeCells]

theorem run_append_any (base : Nat) (t ty e : TypeId) (i : TypeInfo) (z : Value) (size bytes : Nat) (ht : P.underlying t = some (.slice e)) (hi : P.info? e = some i) (hz : i.zero = some z)
    (hsize : i.size = size) (hby : i.bytes = bytes) (hzs : z.cells.size = size) (hsz : 0 < size)
    (v : Value) (n : Nat) (xs : List Value) (hown : w.ownsRow base e size v n xs)
    (B : Nat) (A : Option Addr) (m c : Nat) (news : List Value) (hr : Reads w B size A m news) (h1 : ∀ u ∈ news, u.oneCell' = true)
    (h63 : n + m ≤ maxLen) (hbytes : (n + m) * bytes ≤ 140737488355328) (hbase : base ≤ w.heap.size) :
    ∃ v' w', (Builtin.append_ #[t, t] ty #[v, .slice A m c]).run P w = .ok v' w' ∧ w'.ownsRow base e size v' (n + m) (xs ++ news) ∧ w.grownBy w' v.ownBlock ∧
      (v'.ownBlock = v.ownBlock ∨ v'.ownBlock = some w.heap.size) := by
  rcases A with _ | ad
  · have hm : m = 0 := by
      rcases Nat.eq_zero_or_pos m with h0 | h0
      · exact h0
      · obtain ⟨ad, h, _⟩ := hr.2 h0
        cases h
    subst hm
    have hn : news = [] := List.eq_nil_of_length_eq_zero (by simpa using hr.1)
    subst hn
    exact ⟨v, w, run_append_of_nil w base t ty e i size ht hi v n xs hown c, by simpa using hown, World.grownBy.refl w _, .inl rfl⟩
  · have hcells : ∀ j u, news[j]? = some u → w.cell? (ad.add j) = some u := by
      intro j u hu
      rcases Nat.eq_zero_or_pos m with h0 | h0
      · subst h0
        have hn : news = [] := List.eq_nil_of_length_eq_zero (by simpa using hr.1)
        subst hn
        simp at hu
      · obtain ⟨ad', h, _, hc⟩ := hr.2 h0
        injection h with h
        subst h
        exact hc j u hu
    obtain ⟨v', w', hrun, h2, h3, _, h5⟩ := run_append_own_at (P := P) w base t ty e i z size bytes ht hi hz hsize hby hzs hsz v n xs hown ad m c news hr.1 hcells h1 h63 hbytes hbase
    exact ⟨v', w', hrun, h2, h3, h5⟩

theorem wp_append_any {o : Oper} {a : Act} {K : Act → World → Prop} {Q : Exit → Act → World → Prop} (s x : Operand) (t : TypeId)
    (ho : o.op = .call { callee := .builtin .append, args := #[s, x], argTypes := #[t, t] })
    (base : Nat) (e : TypeId) (i : TypeInfo) (z : Value) (size bytes : Nat) (ht : P.underlying t = some (.slice e)) (hi : P.info? e = some i) (hz : i.zero = some z)
    (hsize : i.size = size) (hby : i.bytes = bytes) (hzs : z.cells.size = size) (hsz : 0 < size)
    (v : Value) (n : Nat) (xs : List Value) (hs : a.eval s = v) (hown : w.ownsRow base e size v n xs)
    (B : Nat) (A : Option Addr) (m c : Nat) (news : List Value) (hx : a.eval x = .slice A m c) (hr : Reads w B size A m news) (h1 : ∀ u ∈ news, u.oneCell' = true)
    (h63 : n + m ≤ maxLen) (hbytes : (n + m) * bytes ≤ 140737488355328) (hbase : base ≤ w.heap.size)
    (h : ∀ v' w', w'.ownsRow base e size v' (n + m) (xs ++ news) → w.grownBy w' v.ownBlock → (v'.ownBlock = v.ownBlock ∨ v'.ownBlock = some w.heap.size) → K (a.put o.dst v') w') : o.wp P a w K Q := by
  obtain ⟨v', w', hrun, h2, h3, h4⟩ := run_append_any (P := P) w base t o.type e i z size bytes ht hi hz hsize hby hzs hsz v n xs hown B A m c news hr h1 h63 hbytes hbase
  unfold Oper.wp execOp
  simp only [ho, resolve, invoke, builtin, Sem.run_bind, Sem.run_pure, Result.andThen_ok, List.map_toArray, List.map_cons, List.map_nil, hs, hx, hrun]
  exact h v' w' h2 h3 h4

theorem wpList_append_any {ops : Array Oper} {rest : List Oper} {o : Oper} {a : Act} {Q : Exit → Act → World → Prop} (hgd : o.guard = none) (s x : Operand) (t : TypeId)
    (ho : o.op = .call { callee := .builtin .append, args := #[s, x], argTypes := #[t, t] })
    (base : Nat) (e : TypeId) (i : TypeInfo) (z : Value) (size bytes : Nat) (ht : P.underlying t = some (.slice e)) (hi : P.info? e = some i) (hz : i.zero = some z)
    (hsize : i.size = size) (hby : i.bytes = bytes) (hzs : z.cells.size = size) (hsz : 0 < size)
    (v : Value) (n : Nat) (xs : List Value) (hs : a.eval s = v) (hown : w.ownsRow base e size v n xs)
    (B : Nat) (A : Option Addr) (m c : Nat) (news : List Value) (hx : a.eval x = .slice A m c) (hr : Reads w B size A m news) (h1 : ∀ u ∈ news, u.oneCell' = true)
    (h63 : n + m ≤ maxLen) (hbytes : (n + m) * bytes ≤ 140737488355328) (hbase : base ≤ w.heap.size)
    (h : ∀ v' w', w'.ownsRow base e size v' (n + m) (xs ++ news) → w.grownBy w' v.ownBlock → (v'.ownBlock = v.ownBlock ∨ v'.ownBlock = some w.heap.size) → wpList P ops Q rest (a.put o.dst v') w') : wpList P ops Q (o :: rest) a w :=
  wpList_plain hgd fun _ hK => wp_append_any w s x t ho base e i z size bytes ht hi hz hsize hby hzs hsz v n xs hs hown B A m c news hx hr h1 h63 hbytes hbase fun v' w' h2 h3 h4 => hK _ _ (h v' w' h2 h3 h4)

theorem step_append_any {ops : Array Oper} {o : Oper} {a : Act} {K : Act → World → Prop} {Q : Exit → Act → World → Prop} {E : Prop} (hgd : o.guard = none) (s x : Operand) (t : TypeId)
    (ho : o.op = .call { callee := .builtin .append, args := #[s, x], argTypes := #[t, t] })
    (base : Nat) (e : TypeId) (i : TypeInfo) (z : Value) (size bytes : Nat) (ht : P.underlying t = some (.slice e)) (hi : P.info? e = some i) (hz : i.zero = some z)
    (hsize : i.size = size) (hby : i.bytes = bytes) (hzs : z.cells.size = size) (hsz : 0 < size)
    (v : Value) (n : Nat) (xs : List Value) (hs : a.eval s = v) (hown : w.ownsRow base e size v n xs)
    (B : Nat) (A : Option Addr) (m c : Nat) (news : List Value) (hx : a.eval x = .slice A m c) (hr : Reads w B size A m news) (h1 : ∀ u ∈ news, u.oneCell' = true)
    (h63 : n + m ≤ maxLen) (hbytes : (n + m) * bytes ≤ 140737488355328) (hbase : base ≤ w.heap.size)
    (h : ∀ v' w', w'.ownsRow base e size v' (n + m) (xs ++ news) → w.grownBy w' v.ownBlock → (v'.ownBlock = v.ownBlock ∨ v'.ownBlock = some w.heap.size) → K (a.put o.dst v') w') :
    if Region.wanted o (yielded ops a.tmps) = true then Oper.wp P o a w K Q else E := by
  have hw : Region.wanted o (yielded ops a.tmps) = true := by simp [Region.wanted, hgd]
  rw [if_pos hw]
  exact wp_append_any w s x t ho base e i z size bytes ht hi hz hsize hby hzs hsz v n xs hs hown B A m c news hx hr h1 h63 hbytes hbase h
end

/-- n elements of sz cells, written out -/
def cellsOf (sz n : Nat) (g : Nat → Nat → Value) : List Value := (List.range (n * sz)).map fun j => g (j / sz) (j % sz)
theorem cellsOf_len (sz n : Nat) (g : Nat → Nat → Value) : (cellsOf sz n g).length = n * sz := by simp [cellsOf]
theorem cellsOf_get (sz n : Nat) (g : Nat → Nat → Value) (k i : Nat) (hk : k < n) (hi : i < sz) : (cellsOf sz n g)[k * sz + i]? = some (g k i) := by
  have h1 : k * sz + i < n * sz := by
    have : (k + 1) * sz ≤ n * sz := Nat.mul_le_mul_right _ hk
    rw [Nat.succ_mul] at this; omega
  have h2 : (k * sz + i) / sz = k := by
    rw [Nat.add_comm, Nat.mul_comm k sz, Nat.add_mul_div_left _ _ (by omega), Nat.div_eq_of_lt hi]; omega
  have h3 : (k * sz + i) % sz = i := by rw [Nat.add_comm, Nat.add_mul_mod_self_right, Nat.mod_eq_of_lt hi]
  simp [cellsOf, h1, h2, h3]
theorem add_lit' (b off j : Nat) : (⟨b, off, none⟩ : Addr).add j = ⟨b, off + j, none⟩ := by unfold Addr.add; split <;> simp_all
theorem ER.reads {w : World} {B sz n : Nat} {A : Option Addr} {g : Nat → Nat → Value} (h : ER w B sz A n g) (hs : 0 < sz) : Reads w B sz A n (cellsOf sz n g) := by
  refine ⟨cellsOf_len _ _ _, fun hn => ?_⟩
  obtain ⟨b, off, rfl, hb, hc⟩ := h hn
  refine ⟨_, rfl, hb, fun j u hu => ?_⟩
  have hj : j < n * sz := by
    have := (List.getElem?_eq_some_iff.1 hu).1
    rwa [cellsOf_len] at this
  have hd : j / sz < n := Nat.div_lt_of_lt_mul (by rwa [Nat.mul_comm] at hj)
  have hm := Nat.mod_lt j hs
  have he : j = j / sz * sz + j % sz := by rw [Nat.mul_comm]; exact (Nat.div_add_mod j sz).symm
  have h1 := cellsOf_get sz n g _ _ hd hm
  rw [← he, hu] at h1
  rw [add_lit', h1, ← hc _ _ hd hm]
  congr 2
  omega
theorem ER.of_own {w : World} {base : Nat} {e : TypeId} {sz n : Nat} {v : Value} {g : Nat → Nat → Value} (h : w.ownsRow base e sz v n (cellsOf sz n g)) (hs : 0 < sz) :
    ∃ A c, v = .slice A n c ∧ ER w w.heap.size sz A n g ∧ n ≤ c := by
  rcases h.2 with ⟨rfl, rfl⟩ | ⟨b, cap, cur, rfl, _, hh, hnc, _⟩
  · exact ⟨none, 0, rfl, ER.nil _ _ _ _ _, Nat.le_refl _⟩
  · refine ⟨_, _, rfl, fun hn => ⟨b, 0, rfl, ?_, fun k i hk hi => ?_⟩, hnc⟩
    · rcases Nat.lt_or_ge b w.heap.size with hl | hl
      · exact hl
      · rw [Array.getElem?_eq_none hl] at hh; cases hh
    · have := h.cells (g := b) rfl (k * sz + i) _ (cellsOf_get sz n g k i hk hi)
      rw [add_lit'] at this
      simpa [Nat.add_assoc] using this
theorem own_empty (w : World) (e : TypeId) (sz : Nat) : (w.alloc (.cells #[] e)).ownsRow w.heap.size e sz (.slice (some ⟨w.heap.size, 0, none⟩) 0 0) 0 [] :=
  ⟨by simp, .inr ⟨w.heap.size, 0, #[], rfl, Nat.le_refl _, heap_alloc_new w _, Nat.le_refl _, Nat.zero_le _, by simp, by simp⟩⟩
theorem blk2 {w : World} {g : Nat} {t : TypeId} {a b : Value} (h : Blk w g t #[a, b]) : g < w.heap.size ∧ w.cell? ⟨g, 0, none⟩ = some a ∧ w.cell? ⟨g, 1, none⟩ = some b ∧ w.frozen? ⟨g, 0, none⟩ = false ∧ w.frozen? ⟨g, 1, none⟩ = false :=
  ⟨h.lt, by simpa using h.cell 0, by simpa using h.cell 1, h.frozen 0, h.frozen 1⟩
theorem blk1 {w : World} {g : Nat} {t : TypeId} {a : Value} (h : Blk w g t #[a]) : g < w.heap.size ∧ w.cell? ⟨g, 0, none⟩ = some a ∧ w.frozen? ⟨g, 0, none⟩ = false :=
  ⟨h.lt, by simpa using h.cell 0, h.frozen 0⟩
theorem blk4 {w : World} {g : Nat} {t : TypeId} {a b c d : Value} (h : Blk w g t #[a, b, c, d]) : g < w.heap.size ∧ w.cell? ⟨g, 0, none⟩ = some a ∧ w.cell? ⟨g, 1, none⟩ = some b ∧ w.cell? ⟨g, 2, none⟩ = some c ∧ w.cell? ⟨g, 3, none⟩ = some d :=
  ⟨h.lt, by simpa using h.cell 0, by simpa using h.cell 1, by simpa using h.cell 2, by simpa using h.cell 3⟩
theorem Blk.ext {w w' : World} {g : Nat} {t : TypeId} {cs : Array Value} (h : Blk w g t cs) (hb : Below w.heap.size w w') : Blk w' g t cs := h.below hb h.lt
theorem size_set (w : World) (p : Addr) (v : Value) : (w.setCell p v).heap.size = w.heap.size := by simp [World.setCell]
/-- what is alike below B stays so over the same store -/
theorem setB {B : Nat} {w W : World} (h : Below B w W) (p : Addr) (v : Value) : Below B (w.setCell p v) (W.setCell p v) := by
  refine ⟨h.os, h.tape, h.output, by simpa [size_set] using h.size, fun k hk => ?_⟩
  simp only [World.setCell, Array.getElem?_modify, h.block k hk]
/-- Below, behind a store into an old block of the frame's own -/
theorem Below_of_set {B : Nat} {a w w' : World} (h : Below B a w) {p : Addr} (hp : B ≤ p.block) (v : Value) (hB : B ≤ w.heap.size) (k : Below w.heap.size (w.setCell p v) w') : Below B a w' :=
  (h.setCell hp v).trans (k.mono hB)
/-- two stores into one struct of two cells -/
theorem set2B {B : Nat} {a w : World} (h : Below B a w) {g : Nat} (hg : B ≤ g) (u v : Value) : Below B a ((w.setCell ⟨g, 0, none⟩ u).setCell ⟨g, 1, none⟩ v) :=
  (h.setCell (p := ⟨g, 0, none⟩) hg u).setCell (p := ⟨g, 1, none⟩) hg v
end Go.Proofs.YtcgdalabenflmaaDoor
/- Boxes known whole: what their cells hold. -/
namespace Go.Proofs.YtcgdalabenflmaaDoor
open Go Go.RowKit
section
variable {w : World} {p : Nat} {t : TypeId} {a b c d e f g : Value}
theorem bx1 (h : Blk w p t #[a]) : p < w.heap.size ∧ w.cell? ⟨p, 0, none⟩ = some a := ⟨h.lt, by rw [h.cell]; rfl⟩
theorem bx2 (h : Blk w p t #[a, b]) : p < w.heap.size ∧ w.cell? ⟨p, 0, none⟩ = some a ∧ w.cell? ⟨p, 1, none⟩ = some b := ⟨h.lt, by rw [h.cell]; rfl, by rw [h.cell]; rfl⟩
theorem bx3 (h : Blk w p t #[a, b, c]) : p < w.heap.size ∧ w.cell? ⟨p, 0, none⟩ = some a ∧ w.cell? ⟨p, 1, none⟩ = some b ∧ w.cell? ⟨p, 2, none⟩ = some c := ⟨h.lt, by rw [h.cell]; rfl, by rw [h.cell]; rfl, by rw [h.cell]; rfl⟩
theorem bx4 (h : Blk w p t #[a, b, c, d]) : p < w.heap.size ∧ w.cell? ⟨p, 0, none⟩ = some a ∧ w.cell? ⟨p, 1, none⟩ = some b ∧ w.cell? ⟨p, 2, none⟩ = some c ∧ w.cell? ⟨p, 3, none⟩ = some d :=
  ⟨h.lt, by rw [h.cell]; rfl, by rw [h.cell]; rfl, by rw [h.cell]; rfl, by rw [h.cell]; rfl⟩
theorem bx5 (h : Blk w p t #[a, b, c, d, e]) : p < w.heap.size ∧ w.cell? ⟨p, 0, none⟩ = some a ∧ w.cell? ⟨p, 1, none⟩ = some b ∧ w.cell? ⟨p, 2, none⟩ = some c ∧ w.cell? ⟨p, 3, none⟩ = some d ∧ w.cell? ⟨p, 4, none⟩ = some e :=
  ⟨h.lt, by rw [h.cell]; rfl, by rw [h.cell]; rfl, by rw [h.cell]; rfl, by rw [h.cell]; rfl, by rw [h.cell]; rfl⟩
theorem bx7 (h : Blk w p t #[a, b, c, d, e, f, g]) : p < w.heap.size ∧ w.cell? ⟨p, 0, none⟩ = some a ∧ w.cell? ⟨p, 1, none⟩ = some b ∧ w.cell? ⟨p, 2, none⟩ = some c ∧ w.cell? ⟨p, 3, none⟩ = some d ∧ w.cell? ⟨p, 4, none⟩ = some e ∧ w.cell? ⟨p, 5, none⟩ = some f ∧ w.cell? ⟨p, 6, none⟩ = some g :=
  ⟨h.lt, by rw [h.cell]; rfl, by rw [h.cell]; rfl, by rw [h.cell]; rfl, by rw [h.cell]; rfl, by rw [h.cell]; rfl, by rw [h.cell]; rfl, by rw [h.cell]; rfl⟩
end
section
variable {F : Fence} {n : Nat} {P : Program} {ops : Array Oper} {Q : Exit → Act → World → Prop} {md : Region.Mode} {S : World → Prop}
/-- one of two operations comes up -/
theorem wpAnyJ_two (i j : Nat) {oi oj : Oper} {fuel : Nat} {listed : Array Bool} {a : Act} {w : World} (hi : ops[i]? = some oi) (hj : ops[j]? = some oj) (hr : Region.ready md ops listed = [i, j])
    (h : ∀ K : Act → World → Prop, Hid (∀ a w, (lastOp md ops i = false → S w) → wpAnyJ F n P md ops Q S fuel (listed.setIfInBounds i true) a w → K a w) → if Region.wanted oi (yielded ops a.tmps) = true then oi.wpIn F n P a w K Q else (∀ f, oi.about P w a.eval = some f → F.fn f) ∧ K (a.put oi.dst undef) w)
    (h' : ∀ K : Act → World → Prop, Hid (∀ a w, (lastOp md ops j = false → S w) → wpAnyJ F n P md ops Q S fuel (listed.setIfInBounds j true) a w → K a w) → if Region.wanted oj (yielded ops a.tmps) = true then oj.wpIn F n P a w K Q else (∀ f, oj.about P w a.eval = some f → F.fn f) ∧ K (a.put oj.dst undef) w) :
    wpAnyJ F n P md ops Q S (fuel + 1) listed a w := by
  refine ⟨fun h0 => (by rw [hr] at h0; cases h0), fun k hk => ?_⟩
  rw [hr] at hk
  rcases List.mem_cons.1 hk with rfl | hk
  · have h1 := h (fun a' w' => (lastOp md ops k = false → S w') ∧ wpAnyJ F n P md ops Q S fuel (listed.setIfInBounds k true) a' w') (show Hid _ from fun a w h1 h2 => ⟨h1, h2⟩)
    unfold wpOpIn
    simp only [hi]
    exact h1
  · obtain rfl := List.mem_singleton.1 hk
    have h1 := h' (fun a' w' => (lastOp md ops k = false → S w') ∧ wpAnyJ F n P md ops Q S fuel (listed.setIfInBounds k true) a' w') (show Hid _ from fun a w h1 h2 => ⟨h1, h2⟩)
    unfold wpOpIn
    simp only [hj]
    exact h1
end
/-- a piece of code that ends normally, in one of the states that R tells; what follows is shown once -/
def OnlyNormal (R : Act → World → Prop) : Exit → Act → World → Prop
  | .normal, a, w => R a w
  | _, _, _ => False
theorem OnlyNormal.imp {R : Act → World → Prop} {Q : Exit → Act → World → Prop} (h2 : ∀ a' w', R a' w' → Q .normal a' w') : ∀ e a w, OnlyNormal R e a w → Q e a w := fun e a w h => by
  cases e with
  | normal => exact h2 a w h
  | _ => exact (h : False).elim
theorem wp_cut {P : Program} {c : Code} {Q : Exit → Act → World → Prop} {a : Act} {w : World} (R : Act → Act → World → Prop) (h1 : c.wp P (OnlyNormal (R a)) a w) (h2 : ∀ a' w', R a a' w' → Q .normal a' w') : c.wp P Q a w :=
  wp_mono h1 (OnlyNormal.imp h2)
theorem wpIn_cut {F : Fence} {n : Nat} {P : Program} {c : Code} {Q : Exit → Act → World → Prop} {a : Act} {w : World} (R : Act → Act → World → Prop) (h1 : c.wpIn F n P (OnlyNormal (R a)) a w) (h2 : ∀ a' w', R a a' w' → Q .normal a' w') : c.wpIn F n P Q a w :=
  Code.wpIn_mono (OnlyNormal.imp h2) h1
end Go.Proofs.YtcgdalabenflmaaDoor
/- A region that draws its order: loads taken first, each under a condition of its own. What an operation writes has to keep only the conditions of those that may still come behind it. -/
namespace Go.Proofs.YtcgdalabenflmaaDoor
open Go Go.RowKit
/-- may operation i come behind operation j, and does its value hang on the world -/
def needK (md : Region.Mode) (ops : Array Oper) (j i : Nat) : Bool := match ops[j]?, ops[i]? with
  | some oj, some oi => !(i == j) && !(oj.after.any fun e => Region.binds md e && e.on == i) && !pureOp oi && !(oi.after.any fun e => Region.binds md e && e.on == j)
  | _, _ => false
section
variable {F : Fence} {n : Nat} {P : Program} {ops : Array Oper} {Q : Exit → Act → World → Prop} {md : Region.Mode} {S : Nat → World → Prop}
theorem needK_yes {i j : Nat} {oi oj : Oper} (hi : ops[i]? = some oi) (hj : ops[j]? = some oj) (hji : j ≠ i) (hnot : ∀ e ∈ oj.after, Region.binds md e = true → e.on ≠ i) (hp : pureOp oi = false) (hnot' : ∀ e ∈ oi.after, Region.binds md e = true → e.on ≠ j) : needK md ops j i = true := by
  have no : ∀ (o : Oper) (k : Nat), (∀ e ∈ o.after, Region.binds md e = true → e.on ≠ k) → (o.after.any fun e => Region.binds md e && e.on == k) = false := fun o k h => by
    rw [← Bool.not_eq_true]
    intro h1
    obtain ⟨m, hm, he⟩ := Array.any_eq_true.1 h1
    simp only [Bool.and_eq_true, beq_iff_eq] at he
    exact h _ (Array.getElem_mem hm) he.1 he.2
  unfold needK
  simp only [hi, hj]
  rw [no oj i hnot, no oi j hnot', hp]
  simp [Ne.symm hji]
def wpAnyK (F : Fence) (n : Nat) (P : Program) (md : Region.Mode) (ops : Array Oper) (Q : Exit → Act → World → Prop) (S : Nat → World → Prop) : Nat → Array Bool → Act → World → Prop
  | 0, listed, a, w => Region.ready md ops listed = [] ∧ Q .normal a w
  | fuel + 1, listed, a, w =>
    (Region.ready md ops listed = [] → Q .normal a w) ∧
    ∀ i ∈ Region.ready md ops listed, wpOpIn F n P ops Q i (fun a' w' => (w' = w ∨ ∀ k, needK md ops i k = true → S k w') ∧ wpAnyK F n P md ops Q S fuel (listed.setIfInBounds i true) a' w') a w
theorem wpAnyIn_of_K : ∀ (fuel : Nat) (listed : Array Bool) (a : Act) (w : World), wpAnyK F n P md ops Q S fuel listed a w → wpAnyIn F n P md ops Q fuel listed a w
  | 0, _, _, _, h => h
  | fuel + 1, _, _, _, h => ⟨h.1, fun i hi => wpOpIn_mono (fun a' w' h' => wpAnyIn_of_K fuel _ a' w' h'.2) (h.2 i hi)⟩
theorem wpAnyK_first {S' : World → Prop} {i : Nat} {oi : Oper} {v : Value} (hfn : ∀ f, F.fn f) (hnd : noDef ops = true) (hi : ops[i]? = some oi) (hsel : ∀ (j : Nat) (o : Oper) cs b, ops[j]? = some o → o.op ≠ .select cs b)
    (hQ : ∀ c a w, Q (.panic c) (a.put oi.dst v) w → Q (.panic c) a w) (hS' : (pureOp oi = true ∧ ∀ w, S' w) ∨ (pureOp oi = false ∧ ∀ w, S i w → S' w)) :
    ∀ (fuel : Nat) (listed : Array Bool) (a : Act) (w : World),
      (∀ j oj, ops[j]? = some oj → j ≠ i → listed.getD j true = false → (∀ e ∈ oj.after, Region.binds md e = true → e.on ≠ i) → oi.apart ops oj = true) →
      i ∈ Region.ready md ops listed → YieldsIf P ops S' oi v a → S' w →
      wpAnyK F n P md ops Q S fuel (listed.setIfInBounds i true) (a.put oi.dst v) w → wpAnyK F n P md ops Q S (fuel + 1) listed a w := by
  intro fuel
  induction fuel with
  | zero =>
    intro listed a w _ hr hy hS H
    refine ⟨fun h => (by rw [h] at hr; cases hr), fun j hj => ?_⟩
    by_cases hji : j = i
    · subst hji; exact YieldsIf.wpOpIn hfn hnd hi hy hS ⟨.inl rfl, H⟩
    · have := ready_mono hj hji
      rw [H.1] at this
      cases this
  | succ fuel ih =>
    intro listed a w hfree hr hy hS H
    refine ⟨fun h => (by rw [h] at hr; cases hr), fun j hj => ?_⟩
    by_cases hji : j = i
    · subst hji; exact YieldsIf.wpOpIn hfn hnd hi hy hS ⟨.inl rfl, H⟩
    · have h1 := H.2 j (ready_mono hj hji)
      obtain ⟨hjun, oj, hoj, hall⟩ := mem_ready.1 hj
      have hnot : ∀ e ∈ oj.after, Region.binds md e = true → e.on ≠ i := fun e he hb heq => by
        have h1 := hall e he hb
        have h0 := (mem_ready.1 hr).1
        rw [heq] at h1
        rcases Nat.lt_or_ge i listed.size with h' | h'
        · simp [h'] at h0 h1; rw [h0] at h1; cases h1
        · simp [Array.getElem?_eq_none h'] at h1
      have hnot' : ∀ e ∈ oi.after, Region.binds md e = true → e.on ≠ j := fun e he hb heq => by
        obtain ⟨-, oi', hoi', hall'⟩ := mem_ready.1 hr
        obtain rfl : oi = oi' := by rw [hi] at hoi'; injection hoi'
        have h1 := hall' e he hb
        rw [heq] at h1
        rcases Nat.lt_or_ge j listed.size with h' | h'
        · simp [h'] at hjun h1; rw [hjun] at h1; cases h1
        · simp [Array.getElem?_eq_none h'] at h1
      have h2 := wpOpIn_putJ hnd hoj (hfree j oj hoj hji hjun hnot) (fun cs b => hsel i oi cs b hi) (fun cs b => hsel j oj cs b hoj) hQ hfn hy h1
      have hfree' : ∀ k ok, ops[k]? = some ok → k ≠ i → (listed.setIfInBounds j true).getD k true = false →
          (∀ e ∈ ok.after, Region.binds md e = true → e.on ≠ i) → oi.apart ops ok = true := fun k ok hk hki hun hno => by
        refine hfree k ok hk hki ?_ hno
        by_cases hjk : j = k
        · subst hjk; exact hjun
        · rw [getD_set_ne true hjk] at hun; exact hun
      refine wpOpIn_mono (fun a' w' h3 => ⟨h3.2.1, ih (listed.setIfInBounds j true) a' w' hfree' (ready_mono hr (Ne.symm hji)) h3.1 ?_ (by rw [Array.setIfInBounds_comm _ _ hji]; exact h3.2.2)⟩) h2
      rcases hS' with ⟨hp, hS'⟩ | ⟨hp, hS'⟩
      · exact hS' w'
      · rcases h3.2.1 with e | h4
        · rw [e]; exact hS
        · exact hS' w' (h4 i (needK_yes hi hoj hji hnot hp hnot'))
theorem wpAnyK_take (i : Nat) {oi : Oper} {v : Value} {fuel : Nat} {listed : Array Bool} {a : Act} {w : World} (hfn : ∀ f, F.fn f) (hS : S i w) (hi : ops[i]? = some oi) (hnd : noDef ops = true)
    (hs : Region.noSelect ops = true) (hf : Region.free md ops listed i = true) (hr : (Region.ready md ops listed).contains i = true)
    (hw : Region.wanted oi (yielded ops a.tmps) = true) (hy : ∀ w, S i w → (execOp a.eval oi).run P w = .ok (.value v) w) (hQ : ∀ c a w, Q (.panic c) (a.put oi.dst v) w → Q (.panic c) a w)
    (h : wpAnyK F n P md ops Q S fuel (listed.setIfInBounds i true) (a.put oi.dst v) w) : wpAnyK F n P md ops Q S (fuel + 1) listed a w := by
  rcases hp : pureOp oi with _ | _
  · exact wpAnyK_first hfn hnd hi (Region.noSelect_spec hs) hQ (.inr ⟨hp, fun _ h => h⟩) fuel listed a w (Region.free_spec hi hf) (by simpa using hr) (.inl ⟨hw, hy⟩) hS h
  · exact wpAnyK_first (S' := fun _ => True) hfn hnd hi (Region.noSelect_spec hs) hQ (.inl ⟨hp, fun _ => trivial⟩) fuel listed a w (Region.free_spec hi hf) (by simpa using hr) (.inl ⟨hw, fun w' _ => pure_any hp (hy w hS) w'⟩) trivial h
/-- one operation alone may come up: it is carried out -/
theorem wpAnyK_one (i : Nat) {oi : Oper} {fuel : Nat} {listed : Array Bool} {a : Act} {w : World} (hi : ops[i]? = some oi) (hr : Region.ready md ops listed = [i])
    (h : ∀ K : Act → World → Prop, Hid (∀ a' w', (w' = w ∨ ∀ k, needK md ops i k = true → S k w') → wpAnyK F n P md ops Q S fuel (listed.setIfInBounds i true) a' w' → K a' w') → if Region.wanted oi (yielded ops a.tmps) = true then oi.wpIn F n P a w K Q else (∀ f, oi.about P w a.eval = some f → F.fn f) ∧ K (a.put oi.dst undef) w) :
    wpAnyK F n P md ops Q S (fuel + 1) listed a w := by
  refine ⟨fun h0 => (by rw [hr] at h0; cases h0), fun j hj => ?_⟩
  rw [hr] at hj
  obtain rfl := List.mem_singleton.1 hj
  have h1 := h (fun a' w' => (w' = w ∨ ∀ k, needK md ops j k = true → S k w') ∧ wpAnyK F n P md ops Q S fuel (listed.setIfInBounds j true) a' w') (show Hid _ from fun a w h1 h2 => ⟨h1, h2⟩)
  unfold wpOpIn
  rw [hi]
  exact h1
theorem wpAnyK_two (i j : Nat) {oi oj : Oper} {fuel : Nat} {listed : Array Bool} {a : Act} {w : World} (hi : ops[i]? = some oi) (hj : ops[j]? = some oj) (hr : Region.ready md ops listed = [i, j])
    (h : ∀ K : Act → World → Prop, Hid (∀ a' w', (w' = w ∨ ∀ k, needK md ops i k = true → S k w') → wpAnyK F n P md ops Q S fuel (listed.setIfInBounds i true) a' w' → K a' w') → if Region.wanted oi (yielded ops a.tmps) = true then oi.wpIn F n P a w K Q else (∀ f, oi.about P w a.eval = some f → F.fn f) ∧ K (a.put oi.dst undef) w)
    (h' : ∀ K : Act → World → Prop, Hid (∀ a' w', (w' = w ∨ ∀ k, needK md ops j k = true → S k w') → wpAnyK F n P md ops Q S fuel (listed.setIfInBounds j true) a' w' → K a' w') → if Region.wanted oj (yielded ops a.tmps) = true then oj.wpIn F n P a w K Q else (∀ f, oj.about P w a.eval = some f → F.fn f) ∧ K (a.put oj.dst undef) w) :
    wpAnyK F n P md ops Q S (fuel + 1) listed a w := by
  refine ⟨fun h0 => (by rw [hr] at h0; cases h0), fun k hk => ?_⟩
  rw [hr] at hk
  rcases List.mem_cons.1 hk with rfl | hk
  · have h1 := h (fun a' w' => (w' = w ∨ ∀ m, needK md ops k m = true → S m w') ∧ wpAnyK F n P md ops Q S fuel (listed.setIfInBounds k true) a' w') (show Hid _ from fun a w h1 h2 => ⟨h1, h2⟩)
    unfold wpOpIn
    rw [hi]
    exact h1
  · obtain rfl := List.mem_singleton.1 hk
    have h1 := h' (fun a' w' => (w' = w ∨ ∀ m, needK md ops k m = true → S m w') ∧ wpAnyK F n P md ops Q S fuel (listed.setIfInBounds k true) a' w') (show Hid _ from fun a w h1 h2 => ⟨h1, h2⟩)
    unfold wpOpIn
    rw [hj]
    exact h1
theorem wpAnyK_done {fuel : Nat} {listed : Array Bool} {a : Act} {w : World} (hr : Region.ready md ops listed = []) (h : Q .normal a w) : wpAnyK F n P md ops Q S fuel listed a w := by
  cases fuel with
  | zero => exact ⟨hr, h⟩
  | succ k => exact ⟨fun _ => h, by rw [hr]; simp⟩
theorem wpIn_region_K {id : Nat} {a : Act} {w : World} (S : Nat → World → Prop) (hm : P.follows .mixedOrders = true)
    (h : wpAnyK F n P .any ops Q S ops.size (Array.replicate ops.size false) a w.drew) : (Code.region id ops true).wpIn F n P Q a w :=
  wpIn_region_any hm (wpAnyIn_of_K _ _ _ _ h)
theorem wp_region_K {id : Nat} {P : Program} {ops : Array Oper} {Q : Exit → Act → World → Prop} {a : Act} {w : World} (S : Nat → World → Prop) (hm : P.follows .mixedOrders = true)
    (h : wpAnyK Fence.wide 0 P .any ops Q S ops.size (Array.replicate ops.size false) a w.drew) : (Code.region id ops true).wp P Q a w :=
  wpIn_wide.1 (wpIn_region_K S hm h)
end
/-- the operations that an operation of a region may have ahead of others; decided -/
theorem needK_all {md : Region.Mode} {ops : Array Oper} {j : Nat} {S : Nat → World → Prop} {w : World} (l : List Nat) (h1 : ((List.range ops.size).filter fun k => needK md ops j k) = l) (h2 : ∀ k ∈ l, S k w) : ∀ k, needK md ops j k = true → S k w := fun k hk => by
  refine h2 k ?_
  rw [← h1, List.mem_filter]
  refine ⟨?_, hk⟩
  unfold needK at hk
  split at hk
  · rename_i oj oi h3 h4
    exact List.mem_range.2 (Array.getElem?_eq_some_iff.1 h4).1
  · cases hk
/-- two conditions: those of the list want A too -/
def pickS (l : List Nat) (A B : World → Prop) : Nat → World → Prop := fun i W => if l.contains i = true then A W ∧ B W else B W
theorem pickS_need {md : Region.Mode} {ops : Array Oper} {j : Nat} {l : List Nat} {A B : World → Prop} {w : World} (h : (l.all fun k => !needK md ops j k) = true) (hB : B w) : ∀ k, needK md ops j k = true → pickS l A B k w := fun k hk => by
  unfold pickS
  rcases e : l.contains k with _ | _
  · simp only [Bool.false_eq_true, if_false]; exact hB
  · have h1 := List.all_eq_true.1 h k (by simpa using e)
    rw [hk] at h1; cases h1
theorem pickS_all {md : Region.Mode} {ops : Array Oper} {j : Nat} {l : List Nat} {A B : World → Prop} {w : World} (hA : A w) (hB : B w) : ∀ k, needK md ops j k = true → pickS l A B k w := fun k hk => by
  unfold pickS
  split
  · exact ⟨hA, hB⟩
  · exact hB
theorem pickS_no {md : Region.Mode} {ops : Array Oper} {j : Nat} {S : Nat → World → Prop} {w : World} (h : ((List.range ops.size).all fun k => !needK md ops j k) = true) : ∀ k, needK md ops j k = true → S k w := fun k hk => by
  have h0 := hk
  unfold needK at hk
  split at hk
  · rename_i oj oi h3 h4
    have h1 := List.all_eq_true.1 h k (List.mem_range.2 (Array.getElem?_eq_some_iff.1 h4).1)
    rw [h0] at h1; cases h1
  · cases hk
end Go.Proofs.YtcgdalabenflmaaDoor
/- Words of this proof family that hang on no chapter: rows known whole, own rows, blocks. (Pulled out of the texts on chapter 8.) -/
namespace Go.Proofs.YtcgdalabenflmaaDoor
open Go Go.RowKit Go.Shelf
set_option maxRecDepth 100000
def upd {α : Type} (v : Nat → α) (t : Nat) (x : α) : Nat → α := fun k => if k = t then x else v k
theorem upd_same {α : Type} (v : Nat → α) (t : Nat) (x : α) : upd v t x t = x := by simp [upd]
theorem upd_ne {α : Type} (v : Nat → α) {t k : Nat} (x : α) (h : k ≠ t) : upd v t x k = v k := by simp [upd, h]
theorem upd_self {α : Type} (v : Nat → α) (t : Nat) : upd v t (v t) = v := by
  funext k
  unfold upd
  split
  · rename_i e; rw [e]
  · rfl
theorem upd_upd {α : Type} (v : Nat → α) (t : Nat) (a b : α) : upd (upd v t a) t b = upd v t b := by
  funext k; unfold upd; split <;> rfl
def rowV (n : Nat) (v : Nat → Value) : Array Value := ((List.range n).map v).toArray
theorem rowV_get (n : Nat) (v : Nat → Value) {k : Nat} (h : k < n) : (rowV n v)[k]? = some (v k) := by simp [rowV, h]
theorem rowV_set (n : Nat) (v : Nat → Value) (t : Nat) (x : Value) : (rowV n v).setIfInBounds t x = rowV n (upd v t x) := by
  apply Array.ext_getElem?
  intro k
  simp only [rowV, List.setIfInBounds_toArray, List.getElem?_toArray, List.getElem?_set, List.getElem?_map, List.length_map, List.length_range]
  by_cases hk : k < n
  · by_cases e : t = k
    · subst e; simp [hk, upd]
    · have e2 : ¬ k = t := fun h => e h.symm
      simp [hk, e, e2, upd]
  · by_cases e : t = k
    · subst e; simp [hk]
    · simp [hk, e]
theorem rowV_same (n : Nat) (v v' : Nat → Value) (h : ∀ k, k < n → v k = v' k) : rowV n v = rowV n v' := by
  unfold rowV
  congr 1
  exact List.map_congr_left (fun k hk => h k (by simpa using hk))
theorem run_make_rowN {P : Program} (t e : TypeId) (i : TypeInfo) (z : Value) (ht : P.underlying t = some (.slice e)) (hi : P.info? e = some i) (hz : i.zero = some z)
    (kl kc : IntKind) (n c : Nat) (hnc : n ≤ c) (hbytes : i.bytes * c ≤ 281474976710656) (h63 : c ≤ 9223372036854775807) (w : World) :
    (Instr.makeSlice t (.int kl (n : Int)) (.int kc (c : Int))).run P w = .ok (.slice (some ⟨w.heap.size, 0, none⟩) n c) (w.alloc (.cells (madeCells z.cells (c * i.size)) e)) := by
  have hb : (i.bytes : Int) * (c : Int) ≤ 281474976710656 := by
    have h : ((i.bytes * c : Nat) : Int) ≤ 281474976710656 := by omega
    rwa [Int.natCast_mul] at h
  have hr := run_make (P := P) w t e i z ht hi hz kl kc n c (by omega) (by omega) hb (by omega)
  simp only [Int.toNat_natCast] at hr
  exact hr
theorem rowV_made (n : Nat) : madeCells (Value.slice none 0 0).cells (n * 1) = rowV n (fun _ => .slice none 0 0) := by
  apply Array.ext_getElem?
  intro j
  simp only [rowV, madeCells, Array.getElem?_map, Array.getElem?_range, List.getElem?_toArray, List.getElem?_map, Nat.mul_one]
  by_cases hj : j < n
  · simp [hj, Value.cells, Nat.mod_one]
  · simp [hj]
theorem info_int : (Tryd.prog.info? 3).map (fun i => (i.zero, i.size, i.bytes)) = some (some (.int .i64 0), 1, 8) := by kernel_rfl
theorem own_shape {W : World} {base : Nat} {e : TypeId} {size k : Nat} {v : Value} {xs : List Value} (h : W.ownsRow base e size v k xs) : ∃ A c, v = .slice A k c := by
  rcases h.2 with ⟨rfl, rfl⟩ | ⟨g, cap, cur, rfl, _⟩
  · exact ⟨none, 0, rfl⟩
  · exact ⟨_, _, rfl⟩
theorem ownBelow {W W' : World} {base : Nat} {e : TypeId} {size k : Nat} {v : Value} {xs : List Value} (h : W.ownsRow base e size v k xs) (hb : Below W.heap.size W W') : W'.ownsRow base e size v k xs := by
  obtain ⟨h1, h2⟩ := h
  refine ⟨h1, ?_⟩
  rcases h2 with h2 | ⟨g, cap, cur, hv, hg0, hh, hrest⟩
  · exact .inl h2
  · exact .inr ⟨g, cap, cur, hv, hg0, Blk.ext (t := e) hh hb, hrest⟩
theorem Blk.keptN {W W' : World} {g : Nat} {t : TypeId} {cs : Array Value} (h : Blk W g t cs) {row : Option Nat} (hg : W.grownBy W' row) (hr : ∀ r, row = some r → ∃ o : Obj, W.heap[r]? = some o ∧ o.isCells = false) : Blk W' g t cs :=
  h.grown hg (fun e => by
    obtain ⟨o, ho, hc⟩ := hr g e.symm
    unfold Blk at h
    rw [h] at ho
    cases ho; cases hc)
theorem ownN {W W' : World} {base : Nat} {e : TypeId} {size k : Nat} {v : Value} {xs : List Value} (h : W.ownsRow base e size v k xs) {row : Option Nat} (hg : W.grownBy W' row) (hr : ∀ r, row = some r → ∃ o : Obj, W.heap[r]? = some o ∧ o.isCells = false) : W'.ownsRow base e size v k xs := by
  obtain ⟨h1, h2⟩ := h
  refine ⟨h1, ?_⟩
  rcases h2 with h2 | ⟨g, cap, cur, hv, hg0, hh, hrest⟩
  · exact .inl h2
  · exact .inr ⟨g, cap, cur, hv, hg0, Blk.keptN (t := e) hh hg hr, hrest⟩
theorem keepsO {W W' : World} (h : Below W.heap.size W W') : KeepsOthers W W' := ⟨h.size, fun k o hk _ => by
  rcases Nat.lt_or_ge k W.heap.size with hl | hl
  · exact (h.block k hl).trans hk
  · rw [Array.getElem?_eq_none hl] at hk; cases hk⟩
theorem ownMono {w : World} {base base' : Nat} {e : TypeId} {size n : Nat} {v : Value} {xs : List Value} (h : w.ownsRow base e size v n xs) (hb : base' ≤ base) : w.ownsRow base' e size v n xs := by
  obtain ⟨h1, h2⟩ := h
  refine ⟨h1, ?_⟩
  rcases h2 with h2 | ⟨g, cap, cur, hv, hg, hr⟩
  · exact .inl h2
  · exact .inr ⟨g, cap, cur, hv, by omega, hr⟩
theorem Blk.set2 {w : World} {g : Nat} {t : TypeId} {a b : Value} (h : Blk w g t #[a, b]) (u v : Value) : Blk ((w.setCell ⟨g, 0, none⟩ u).setCell ⟨g, 1, none⟩ v) g t #[u, v] := by
  simpa using (h.set_ 0 u).set_ 1 v
theorem blk3 {W : World} {g : Nat} {t : TypeId} {a b c : Value} (h : Blk W g t #[a, b, c]) :
    g < W.heap.size ∧ W.cell? ⟨g, 0, none⟩ = some a ∧ W.cell? ⟨g, 1, none⟩ = some b ∧ W.cell? ⟨g, 2, none⟩ = some c ∧ W.frozen? ⟨g, 0, none⟩ = false ∧ W.frozen? ⟨g, 1, none⟩ = false ∧ W.frozen? ⟨g, 2, none⟩ = false :=
  ⟨h.lt, by rw [h.cell]; rfl, by rw [h.cell]; rfl, by rw [h.cell]; rfl, h.frozen _, h.frozen _, h.frozen _⟩
theorem Blk.set3 {w : World} {g : Nat} {t : TypeId} {a b c : Value} (h : Blk w g t #[a, b, c]) (u v x : Value) : Blk (((w.setCell ⟨g, 0, none⟩ u).setCell ⟨g, 1, none⟩ v).setCell ⟨g, 2, none⟩ x) g t #[u, v, x] := by
  simpa using ((h.set_ 0 u).set_ 1 v).set_ 2 x
theorem set3B {B : Nat} {a w : World} (h : Below B a w) {g : Nat} (hg : B ≤ g) (u v x : Value) : Below B a (((w.setCell ⟨g, 0, none⟩ u).setCell ⟨g, 1, none⟩ v).setCell ⟨g, 2, none⟩ x) :=
  (set2B h hg u v).setCell (p := ⟨g, 2, none⟩) hg x
theorem grownBy_setC (W : World) (b i : Nat) (v : Value) : W.grownBy (W.setCell ⟨b, i, none⟩ v) (some b) :=
  ⟨rfl, rfl, rfl, by rw [size_set]; exact Nat.le_refl _, fun k _ hk => Below.heap_setCell _ _ _ k (fun e => hk (by rw [e]))⟩
theorem own_far {W W' : World} {base : Nat} {e : TypeId} {size k sc : Nat} {v : Value} {xs : List Value} (h : W.ownsRow base e size v k xs) (hg : W.grownBy W' (some sc)) (hs : sc < base) : W'.ownsRow base e size v k xs := by
  refine World.ownsRow.kept h hg ?_
  cases hv : v.ownBlock with
  | none => exact .inl rfl
  | some b => exact .inr (fun e => by
      have h1 := World.ownsRow.lt h b hv
      injection e with e
      omega)
theorem ER.kept {W W' : World} {sz n : Nat} {A : Option Addr} {f : Nat → Nat → Value} (h : ER W W.heap.size sz A n f) {r : Nat} (hg : W.grownBy W' (some r)) (hr : ∀ p, A = some p → p.block ≠ r) : ER W' W'.heap.size sz A n f := fun hn => by
  obtain ⟨b, o, e1, e2, e3⟩ := h hn
  refine ⟨b, o, e1, Nat.lt_of_lt_of_le e2 hg.size, fun k i hk hi => ?_⟩
  have hne := hr _ e1
  exact (World.cell?_of_block (hg.block b e2 (fun e => hne (by injection e)))).trans (e3 k i hk hi)
theorem rows_ne {w : World} {base base' : Nat} {e e' : TypeId} {sz sz' n n' : Nat} {v v' : Value} {xs xs' : List Value} (h : w.ownsRow base e sz v n xs) (h' : w.ownsRow base' e' sz' v' n' xs') (hne : e ≠ e') : v.ownBlock = none ∨ v.ownBlock ≠ v'.ownBlock := by
  rcases h'.2 with ⟨rfl, -⟩ | ⟨g, cap, cur, rfl, -, hg, -⟩
  · rcases h.2 with ⟨rfl, -⟩ | ⟨g', cap', cur', rfl, -⟩
    · exact .inl rfl
    · exact .inr (by simp [Value.ownBlock])
  · exact .inr (own_blk_ne h (show Blk w g e' cur from hg) hne)
theorem ints_one (n : Nat) (x : Nat → Int) : ∀ u ∈ cellsOf 1 n (fun i _ => Value.int .i64 (x i)), u.oneCell' = true := by
  intro u hu
  unfold cellsOf at hu
  obtain ⟨j, -, rfl⟩ := List.mem_map.1 hu
  rfl
theorem grownBy_setS {w w' : World} {S : Nat} (h : w.grownBy w' (some S)) (i : Nat) (v : Value) : w.grownBy (w'.setCell ⟨S, i, none⟩ v) (some S) :=
  ⟨h.os, h.tape, h.output, by rw [size_set]; exact h.size, fun j hj hne => (Below.heap_setCell _ _ _ j (fun e => hne (by rw [e]))).trans (h.block j hj hne)⟩
theorem wpList_append_run {P : Program} {w w' : World} {ops : Array Oper} {rest : List Oper} {o : Oper} {a : Act} {Q : Exit → Act → World → Prop} (hgd : o.guard = none) (s x : Operand) (t : TypeId) {v u r : Value}
    (ho : o.op = .call { callee := .builtin .append, args := #[s, x], argTypes := #[t, t] }) (hs : a.eval s = v) (hx : a.eval x = u)
    (hrun : (Builtin.append_ #[t, t] o.type #[v, u]).run P w = .ok r w') (h : wpList P ops Q rest (a.put o.dst r) w') : wpList P ops Q (o :: rest) a w :=
  wpList_plain hgd fun _ hK => by
    unfold Oper.wp execOp
    simp only [ho, resolve, invoke, builtin, Sem.run_bind, Sem.run_pure, Result.andThen_ok, List.map_toArray, List.map_cons, List.map_nil, hs, hx, hrun]
    exact hK _ _ h
end Go.Proofs.YtcgdalabenflmaaDoor
/- Words of this proof family that hang on no chapter: what stays beside a block that is written (KX); own lists lie apart. -/
namespace Go.Proofs.YtcgdalabenflmaaDoor
open Go Go.RowKit Go.Shelf
set_option maxHeartbeats 2000000
set_option maxRecDepth 100000
theorem run_append_none0 {P : Program} {w : World} {base : Nat} (t ty e : TypeId) (i : TypeInfo) (size : Nat) (ht : P.underlying t = some (.slice e)) (hi : P.info? e = some i)
    (v : Value) (n c : Nat) (xs : List Value) (hown : w.ownsRow base e size v n xs) :
    (Builtin.append_ #[t, t] ty #[v, .slice none 0 c]).run P w = .ok v w := by
  rcases hown.2 with ⟨rfl, rfl⟩ | ⟨g, cap, cur, rfl, _, _, hnc, _⟩
  · simp [Builtin.append_, run_underlying ht, sizeOf, typeInfo, hi, Builtin.lenOf, Builtin.firstCells]
  · simp [Builtin.append_, run_underlying ht, sizeOf, typeInfo, hi, Builtin.lenOf, Builtin.firstCells, hnc, storeCells]
/-- what stays where an editor writes: all but its own block and the block of its list -/
structure KX (w w' : World) (X : Nat) (row : Option Nat) : Prop where
  os : w'.os = w.os
  tape : w'.tape = w.tape
  output : w'.output = w.output
  size : w.heap.size ≤ w'.heap.size
  block : ∀ k, k < w.heap.size → k ≠ X → some k ≠ row → w'.heap[k]? = w.heap[k]?
theorem KX.refl (w : World) (X : Nat) (row : Option Nat) : KX w w X row := ⟨rfl, rfl, rfl, Nat.le_refl _, fun _ _ _ _ => rfl⟩
theorem KX.of_below {w w' : World} (X : Nat) (row : Option Nat) (h : Below w.heap.size w w') : KX w w' X row := ⟨h.os, h.tape, h.output, h.size, fun k hk _ _ => h.block k hk⟩
theorem KX.grown {w w1 w2 : World} {X : Nat} {row : Option Nat} (h : KX w w1 X row) (hg : w1.grownBy w2 row) : KX w w2 X row :=
  ⟨hg.os.trans h.os, hg.tape.trans h.tape, hg.output.trans h.output, Nat.le_trans h.size hg.size, fun k hk h1 h2 => (hg.block k (Nat.lt_of_lt_of_le hk h.size) h2).trans (h.block k hk h1 h2)⟩
theorem KX.set {w w1 : World} {X : Nat} {row : Option Nat} (h : KX w w1 X row) (i : Nat) (u : Value) : KX w (w1.setCell ⟨X, i, none⟩ u) X row := by
  have hb : Below X w1 (w1.setCell ⟨X, i, none⟩ u) := (Below.refl X w1).setCell (p := ⟨X, i, none⟩) (Nat.le_refl _) u
  exact ⟨hb.os.trans h.os, hb.tape.trans h.tape, hb.output.trans h.output, Nat.le_trans h.size hb.size, fun k hk h1 h2 => (Below.heap_setCell w1 ⟨X, i, none⟩ u k h1).trans (h.block k hk h1 h2)⟩
/-- one after another: the later list's block is the earlier one's, or new -/
theorem KX.trans {w w1 w2 : World} {X : Nat} {row row1 : Option Nat} (h : KX w w1 X row) (h2 : KX w1 w2 X row1) (hr : row1 = row ∨ ∀ k, row1 = some k → w.heap.size ≤ k) : KX w w2 X row :=
  ⟨h2.os.trans h.os, h2.tape.trans h.tape, h2.output.trans h.output, Nat.le_trans h.size h2.size, fun k hk h1 h3 => by
    refine (h2.block k (Nat.lt_of_lt_of_le hk h.size) h1 ?_).trans (h.block k hk h1 h3)
    rcases hr with rfl | hr
    · exact h3
    · intro e
      have := hr k e.symm
      omega⟩
theorem Blk.kx {w w' : World} {X : Nat} {row : Option Nat} {g : Nat} {t : TypeId} {cs : Array Value} (h : Blk w g t cs) (hk : KX w w' X row) (h1 : g ≠ X) (h2 : some g ≠ row) : Blk w' g t cs := (hk.block g h.lt h1 h2).trans h
/-- own lists of different types lie apart -/
theorem own_own_ne {w : World} {b1 b2 : Nat} {e1 e2 : TypeId} {s1 s2 n1 n2 : Nat} {v1 v2 : Value} {x1 x2 : List Value} (h1 : w.ownsRow b1 e1 s1 v1 n1 x1) (h2 : w.ownsRow b2 e2 s2 v2 n2 x2) (hne : e1 ≠ e2) :
    v1.ownBlock = none ∨ v1.ownBlock ≠ v2.ownBlock := by
  rcases h2.2 with ⟨rfl, -⟩ | ⟨g, cap, cur, rfl, -, hg, -⟩
  · cases hv : v1.ownBlock with
    | none => exact .inl rfl
    | some k => exact .inr (by simp [Value.ownBlock])
  · refine .inr (fun e => own_blk_ne h1 (g := g) (t := e2) (cs := cur) hg hne ?_)
    rw [e]; rfl
/-- an own list stays where an editor writes -/
theorem own_kx {w w' : World} {X : Nat} {row : Option Nat} {b n s : Nat} {t : TypeId} {v : Value} {xs : List Value} (h : w.ownsRow b t s v n xs) (hk : KX w w' X row) (h1 : v.ownBlock ≠ some X) (h2 : v.ownBlock = none ∨ v.ownBlock ≠ row) : w'.ownsRow b t s v n xs := by
  refine ⟨h.1, ?_⟩
  rcases h.2 with ⟨rfl, h0⟩ | ⟨g, cap, cur, rfl, hb, hg, h3⟩
  · exact .inl ⟨rfl, h0⟩
  · refine .inr ⟨g, cap, cur, rfl, hb, ?_, h3⟩
    have hlt := (World.ownsRow.lt h g rfl).2
    rw [hk.block g hlt (fun e => h1 (by rw [e]; rfl)) ?_]
    · exact hg
    · rcases h2 with h2 | h2
      · cases h2
      · exact h2
theorem none_or {v : Value} : v.ownBlock = none ∨ v.ownBlock ≠ none := by
  cases v.ownBlock with
  | none => exact .inl rfl
  | some k => exact .inr (by simp)
theorem blk_kx {W W' : World} {X g : Nat} {row : Option Nat} {t : TypeId} {cs : Array Value} (h : Blk W g t cs) (hk : KX W W' X row) (h1 : g ≠ X) (h2 : some g ≠ row) : Blk W' g t cs := (hk.block g h.lt h1 h2).trans h
theorem own_low {W : World} {b b' : Nat} {e : TypeId} {size n : Nat} {v : Value} {xs : List Value} (h : W.ownsRow b e size v n xs) (hb : b' ≤ b) : W.ownsRow b' e size v n xs := by
  refine ⟨h.1, ?_⟩
  rcases h.2 with h2 | ⟨g, cap, cur, h2, h3, h4⟩
  · exact .inl h2
  · exact .inr ⟨g, cap, cur, h2, Nat.le_trans hb h3, h4⟩
theorem own_grown {W W' : World} {b : Nat} {e : TypeId} {size n : Nat} {v : Value} {xs : List Value} {row : Option Nat} (h : W.ownsRow b e size v n xs) (hg : W.grownBy W' row) (h2 : v.ownBlock = none ∨ v.ownBlock ≠ row) : W'.ownsRow b e size v n xs :=
  own_kx h ((KX.refl W W.heap.size row).grown hg) (fun he => by
    have := (World.ownsRow.lt h W.heap.size he).2
    omega) h2
theorem ne_or {a b : Option Nat} (h : a = none ∨ b = none ∨ a ≠ b) : (a = none ∨ a ≠ b) ∧ (b = none ∨ b ≠ a) := by
  rcases h with h | h | h
  · subst h
    cases b with
    | none => exact ⟨.inl rfl, .inl rfl⟩
    | some b => exact ⟨.inl rfl, .inr (by simp)⟩
  · subst h
    cases a with
    | none => exact ⟨.inl rfl, .inl rfl⟩
    | some a => exact ⟨.inr (by simp), .inl rfl⟩
  · exact ⟨.inr h, .inr (fun e => h e.symm)⟩
end Go.Proofs.YtcgdalabenflmaaDoor
/- Words that hang on no chapter: lists of ints that are read; own lists of ints. -/
namespace Go.Proofs.YtcgdalabenflmaaDoor
open Go Go.RowKit Go.Shelf
set_option maxHeartbeats 2000000
set_option maxRecDepth 100000
theorem VR1.at_ {w : World} {B n : Nat} {A : Option Addr} {u : Nat → Value} (h : ER w B 1 A n fun k _ => u k) {k : Nat} (hk : k < n) :
    ∃ b off, A = some ⟨b, off, none⟩ ∧ b < B ∧ w.cell? ⟨b, off + k, none⟩ = some (u k) := by
  obtain ⟨b, off, hA, hlt, hc⟩ := h (by omega)
  exact ⟨b, off, hA, hlt, by simpa using hc k 0 hk (by omega)⟩
/-- a list of ints that is read -/
def LI (w : World) (B : Nat) (A : Option Addr) (l : List Int) : Prop := ER w B 1 A l.length fun k _ => .int .i64 (l.getD k 0)
theorem getD_allI {l m : List Int} (hl : l.length = m.length) (h : ∀ k, k < l.length → l.getD k 0 = m.getD k 0) : l = m := by
  apply List.ext_getElem hl
  intro k h1 h2
  have := h k h1
  rwa [List.getD_eq_getElem?_getD, List.getD_eq_getElem?_getD, List.getElem?_eq_getElem h1, List.getElem?_eq_getElem h2] at this
theorem info_int' : (Tryd.prog.info? 3).map (fun i => (i.zero, i.size, i.bytes)) = some (some (.int .i64 0), 1, 8) := by kernel_rfl
def intJ (l : List Int) : List Value := l.map (.int .i64)
theorem intJ_one (l : List Int) : ∀ u ∈ intJ l, u.oneCell' = true := by
  intro u hu
  obtain ⟨x, -, rfl⟩ := List.mem_map.1 hu
  rfl
theorem intJ_len (l : List Int) : (intJ l).length = l.length := by simp [intJ]
theorem intJ_append (l m : List Int) : intJ (l ++ m) = intJ l ++ intJ m := by simp [intJ]
/-- an own list of intJ -/
def OwnJ (W : World) (n0 : Nat) (v : Value) (l : List Int) : Prop := W.ownsRow n0 3 1 v l.length (intJ l)
theorem OwnJ.nil (W : World) (n0 : Nat) : OwnJ W n0 (.slice none 0 0) [] := ⟨rfl, .inl ⟨rfl, rfl⟩⟩
theorem OwnJ.ext {W W' : World} {n0 : Nat} {v : Value} {l : List Int} (h : OwnJ W n0 v l) (hb : Below W.heap.size W W') : OwnJ W' n0 v l := ownBelow h hb
theorem intJ_at (l : List Int) {k : Nat} (hk : k < l.length) : (intJ l)[k]? = some (.int .i64 (l.getD k 0)) := by
  unfold intJ
  rw [List.getElem?_map, List.getElem?_eq_getElem hk, List.getD_eq_getElem?_getD, List.getElem?_eq_getElem hk]; rfl
theorem OwnJ.pushes {W : World} {base : Nat} {v : Value} {l : List Int} (h : OwnJ W base v l) (A : Option Addr) (c : Nat) (m : List Int) (hA : LI W W.heap.size A m) (hl : l.length + m.length ≤ 1000000) (hb : base ≤ W.heap.size) :
    ∃ v' w', (Builtin.append_ #[48, 48] 48 #[v, .slice A m.length c]).run Tryd.prog W = .ok v' w' ∧ OwnJ w' base v' (l ++ m) ∧ W.grownBy w' v.ownBlock ∧ (v'.ownBlock = v.ownBlock ∨ v'.ownBlock = some W.heap.size) := by
  obtain ⟨i0, hi, hz0, hz1, hz2⟩ := info_parts info_int'
  cases A with
  | none =>
    have hm : m = [] := by
      rcases hm : m with _ | ⟨x, m⟩
      · rfl
      · exfalso
        obtain ⟨b, off, hA, -⟩ := hA (by rw [hm]; simp)
        cases hA
    subst hm
    refine ⟨v, W, run_append_none0 (P := Tryd.prog) _ _ 3 i0 1 Tryd.underlying48 hi v l.length c (intJ l) h, by simpa using h, World.grownBy.refl _ _, .inl rfl⟩
  | some a =>
    have hcells : ∀ j u, (intJ m)[j]? = some u → W.cell? (a.add j) = some u := by
      intro j u hj
      have hlt : j < m.length := by
        have := (List.getElem?_eq_some_iff.1 hj).1
        rwa [intJ_len] at this
      obtain ⟨b, off, hA', -, hc⟩ := VR1.at_ hA hlt
      injection hA' with hA'
      subst hA'
      rw [intJ_at m hlt] at hj
      have e4 : ((⟨b, off, none⟩ : Addr).add j) = ⟨b, off + j, none⟩ := by simp [Addr.add]
      rw [e4, ← hj]
      exact hc
    obtain ⟨v', w', hr, h2, h3, -, h4⟩ := run_append_own_at (P := Tryd.prog) (w := W) base 48 48 3 i0 _ 1 8 Tryd.underlying48 hi hz0 hz1 hz2 rfl (by decide) v l.length (intJ l) h
      a m.length c (intJ m) (by rw [intJ_len]; omega) hcells (intJ_one m) (by unfold maxLen; omega) (by omega) hb
    refine ⟨v', w', hr, ?_, h3, h4⟩
    unfold OwnJ
    rw [intJ_append, List.length_append]
    exact h2
theorem OwnJ.made0 (W : World) : OwnJ (W.alloc (.cells #[] 3)) W.heap.size (.slice (some ⟨W.heap.size, 0, none⟩) 0 0) [] :=
  World.ownsRow_made W #[] 0 (Nat.le_refl _) (by unfold maxLen; omega) rfl
theorem LI.one (W : World) (x : Int) : LI (W.alloc (.cells #[.int .i64 x] 3)) (W.alloc (.cells #[.int .i64 x] 3)).heap.size (some ⟨W.heap.size, 0, none⟩) [x] := fun _ => by
  refine ⟨W.heap.size, 0, rfl, by simp, fun k i hk hi => ?_⟩
  have hk : k = 0 := by simp at hk; exact hk
  obtain rfl := hk
  obtain rfl : i = 0 := by omega
  have h := (Blk.new W 3 #[.int .i64 x]).cell 0
  simpa using h
/-- an int is put behind an own list -/
theorem OwnJ.push {W : World} {base : Nat} {v : Value} {l : List Int} (h : OwnJ W base v l) (x : Int) (hl : l.length ≤ 100000) (hb : base ≤ W.heap.size) :
    ∃ v' w', (Builtin.append_ #[48, 48] 48 #[v, .slice (some ⟨W.heap.size, 0, none⟩) 1 1]).run Tryd.prog (W.alloc (.cells #[.int .i64 x] 3)) = .ok v' w' ∧ OwnJ w' base v' (l ++ [x]) ∧ (W.alloc (.cells #[.int .i64 x] 3)).grownBy w' v.ownBlock := by
  have hBA : Below W.heap.size W (W.alloc (.cells #[.int .i64 x] 3)) := (Below.refl _ _).alloc (Nat.le_refl _) _
  obtain ⟨v', w', hr, ho, hg, -⟩ := (h.ext hBA).pushes (some ⟨W.heap.size, 0, none⟩) 1 [x] (LI.one W x) (by simp; omega) (Nat.le_trans hb hBA.size)
  exact ⟨v', w', hr, ho, hg⟩
theorem OwnJ.li {W : World} {n0 : Nat} {A : Option Addr} {n c : Nat} {l : List Int} (h : OwnJ W n0 (.slice A n c) l) : n = l.length ∧ LI W W.heap.size A l := by
  obtain ⟨A', c', e⟩ := own_shape h
  injection e with e1 e2 e3
  subst e2
  refine ⟨rfl, fun hn => ?_⟩
  rcases h.2 with ⟨h1, h2⟩ | ⟨g, cap, cur, h1, h2, h3, h4, h5, h6, h7⟩
  · omega
  · injection h1 with hA
    subst hA
    have hg := (World.ownsRow.lt h g rfl).2
    refine ⟨g, 0, rfl, hg, fun k i hk hi => ?_⟩
    obtain rfl : i = 0 := by omega
    have hc := World.ownsRow.cells h (g := g) rfl k _ (intJ_at l hk)
    have e1 : ((⟨g, 0, none⟩ : Addr).add k) = ⟨g, 0 + k * 1 + 0, none⟩ := by simp [Addr.add]; omega
    rw [e1] at hc
    exact hc
end Go.Proofs.YtcgdalabenflmaaDoor
/- Words that hang on no chapter: small letters. -/
namespace Go.Proofs.YtcgdalabenflmaaDoor
open Go Go.RowKit Go.Shelf
set_option maxHeartbeats 2000000
set_option maxRecDepth 100000
abbrev Wd := ByteArray
def noW : Wd := ⟨#[]⟩
def azB : List UInt8 := [97, 98, 99, 100, 101, 102, 103, 104, 105, 106, 107, 108, 109, 110, 111, 112, 113, 114, 115, 116, 117, 118, 119, 120, 121, 122]
def lowerB (c : UInt8) : Bool := decide (97 ≤ c.toNat) && decide (c.toNat ≤ 122)
theorem az_iff (c : UInt8) : azB.contains c = lowerB c := by
  have h : ∀ n : Fin 256, azB.contains (UInt8.ofFin n) = lowerB (UInt8.ofFin n) := by decide
  exact h c.toFin
/-- a word -/
def wordB (s : ByteArray) : Bool := (decide (1 ≤ s.size) && decide (s.size ≤ 12)) && s.data.toList.all lowerB
theorem drop_all (p : UInt8 → Bool) : ∀ l : List UInt8, (l.dropWhile p).all p = l.all p
  | [] => rfl
  | x :: l => by
    rcases h : p x with _ | _
    · rw [List.dropWhile_cons_of_neg (by simp [h])]
    · rw [List.dropWhile_cons_of_pos h, drop_all p l, List.all_cons, h, Bool.true_and]
theorem drop_nil (p : UInt8 → Bool) : ∀ l : List UInt8, l.dropWhile p = [] ↔ l.all p = true
  | [] => by simp
  | x :: l => by
    rcases h : p x with _ | _
    · rw [List.dropWhile_cons_of_neg (by simp [h]), List.all_cons, h]; simp
    · rw [List.dropWhile_cons_of_pos h, drop_nil p l, List.all_cons, h, Bool.true_and]
theorem trimS_nil (l : List UInt8) : Go.Lib.trimS l azB = [] ↔ l.all lowerB = true := by
  have e : (fun c => azB.contains c) = lowerB := funext az_iff
  unfold Go.Lib.trimS Go.Lib.trimLeftS Go.Lib.trimRightS
  rw [e, drop_nil, List.all_reverse, drop_all, List.all_reverse]
theorem toList_data (s : ByteArray) : s.toList = s.data.toList := ByteArray.toList_eq s
theorem str_ne {x y : Wd} (h : x ≠ y) : (ByteArray.toList x == ByteArray.toList y) = false := by
  rw [toList_data, toList_data, beq_eq_false_iff_ne]
  intro e
  apply h
  cases x; cases y
  simp only [ByteArray.mk.injEq]
  exact Array.toList_inj.1 e
end Go.Proofs.YtcgdalabenflmaaDoor
/- Words that hang on no chapter: sets of small numbers as numbers of 16 bits. -/
namespace Go.Proofs.YtcgdalabenflmaaDoor
open Go Go.RowKit
set_option maxRecDepth 100000
/-- the set of the numbers below n of which p is true -/
def mkS (p : Nat → Bool) : Nat → Nat
  | 0 => 0
  | k + 1 => if p k then mkS p k ||| 2 ^ k else mkS p k
theorem mkS_lt (p : Nat → Bool) : ∀ n, mkS p n < 2 ^ n
  | 0 => by show 0 < 1; decide
  | n + 1 => by
    have ih := mkS_lt p n
    have h : 2 ^ n < 2 ^ (n + 1) := Nat.pow_lt_pow_right (by decide) (by omega)
    unfold mkS
    split
    · exact Nat.or_lt_two_pow (by omega) h
    · omega
theorem mkS_bit (p : Nat → Bool) : ∀ n i, (mkS p n).testBit i = (decide (i < n) && p i)
  | 0, i => by simp [mkS]
  | n + 1, i => by
    have ih := mkS_bit p n i
    unfold mkS
    by_cases hp : p n = true
    · rw [if_pos hp, Nat.testBit_or, ih, Nat.testBit_two_pow]
      by_cases h : i < n
      · have h1 : ¬ n = i := by omega
        simp [h, h1, show i < n + 1 by omega]
      · by_cases h2 : n = i
        · subst h2; simp [hp]
        · simp [h, h2, show ¬ i < n + 1 by omega]
    · rw [if_neg hp, ih]
      by_cases h : i < n
      · simp [h, show i < n + 1 by omega]
      · by_cases h2 : i = n
        · subst h2; simp [hp]
        · simp [h, show ¬ i < n + 1 by omega]
theorem bit_ge {s n i : Nat} (h : s < 2 ^ n) (hi : n ≤ i) : s.testBit i = false := Nat.testBit_lt_two_pow (Nat.lt_of_lt_of_le h (Nat.pow_le_pow_right (by decide) hi))
theorem mkS_self {s n : Nat} (h : s < 2 ^ n) : mkS s.testBit n = s := by
  refine Nat.eq_of_testBit_eq fun i => ?_
  rw [mkS_bit]
  by_cases hi : i < n
  · simp [hi]
  · rw [bit_ge h (by omega)]; simp
theorem mkS_congr {p q : Nat → Bool} : ∀ n, (∀ i, i < n → p i = q i) → mkS p n = mkS q n
  | 0, _ => rfl
  | n + 1, h => by
    unfold mkS
    rw [mkS_congr n fun i hi => h i (by omega), h n (by omega)]
theorem lt16 {s n : Nat} (h : s < 2 ^ n) (hn : n ≤ 16) : s < 65536 := Nat.lt_of_lt_of_le h (Nat.pow_le_pow_right (by decide) hn)
/-- what is in s and not in t -/
def anN (s t : Nat) : Nat := mkS (fun i => s.testBit i && !t.testBit i) 16
theorem anN_bit (s t i : Nat) (hs : s < 65536) : (anN s t).testBit i = (s.testBit i && !t.testBit i) := by
  unfold anN
  rw [mkS_bit]
  by_cases h : i < 16
  · simp [h]
  · rw [bit_ge (n := 16) hs (by omega)]; simp
theorem anN_lt (s t : Nat) : anN s t < 65536 := mkS_lt _ 16
theorem wrap16 {n : Nat} (h : n < 65536) : IntKind.u16.wrap (n : Int) = (n : Int) := by
  have hk : IntKind.u16.wrap (n : Int) = (n : Int) % 65536 := by simp [IntKind.wrap, IntKind.signed, IntKind.bits]
  rw [hk]; omega
theorem and16 {a b : Nat} (ha : a < 65536) (hb : b < 65536) : bits BinOp.and IntKind.u16 (a : Int) (b : Int) = ((a &&& b : Nat) : Int) :=
  (bits_nat .u16 16 (by decide) (fun n h0 h1 => by obtain ⟨m, rfl⟩ := Int.eq_ofNat_of_zero_le h0; exact wrap16 (by have : ((m : Int)) < 65536 := h1; omega)) a b ha hb).1
theorem or16 {a b : Nat} (ha : a < 65536) (hb : b < 65536) : bits BinOp.or IntKind.u16 (a : Int) (b : Int) = ((a ||| b : Nat) : Int) :=
  (bits_nat .u16 16 (by decide) (fun n h0 h1 => by obtain ⟨m, rfl⟩ := Int.eq_ofNat_of_zero_le h0; exact wrap16 (by have : ((m : Int)) < 65536 := h1; omega)) a b ha hb).2
theorem not16 {a b : Nat} (ha : a < 65536) (hb : b < 65536) : bits BinOp.andNot IntKind.u16 (a : Int) (b : Int) = ((anN a b : Nat) : Int) := by
  show IntKind.u16.wrap (((BitVec.ofInt 16 (a : Int) &&& ~~~ BitVec.ofInt 16 (b : Int)).toNat : Nat) : Int) = _
  have h1 : (BitVec.ofInt 16 (a : Int) &&& ~~~ BitVec.ofInt 16 (b : Int)).toNat = anN a b := by
    refine Nat.eq_of_testBit_eq fun i => ?_
    rw [anN_bit a b i ha, BitVec.testBit_toNat, BitVec.getLsbD_and, BitVec.getLsbD_not, BitVec.ofInt_natCast, BitVec.ofInt_natCast, ← BitVec.testBit_toNat, ← BitVec.testBit_toNat, BitVec.toNat_ofNat, BitVec.toNat_ofNat, Nat.mod_eq_of_lt ha, Nat.mod_eq_of_lt hb]
    by_cases hi : i < 16
    · simp [hi]
    · rw [bit_ge (n := 16) ha (by omega)]; simp
  rw [h1, wrap16 (anN_lt _ _)]
/-- the numbers of a set, in order -/
def elS (s : Nat) : List Nat := (List.range 16).filter s.testBit
theorem elS_mem {s i : Nat} (hs : s < 65536) : i ∈ elS s ↔ s.testBit i = true := by
  unfold elS
  rw [List.mem_filter, List.mem_range]
  constructor
  · exact fun h => h.2
  · intro h
    refine ⟨?_, h⟩
    rcases Nat.lt_or_ge i 16 with h2 | h2
    · exact h2
    · rw [bit_ge (n := 16) hs h2] at h; cases h
/-- the set of a list -/
def seL (l : List Int) : Nat := mkS (fun i => l.contains (i : Int)) 16
theorem seL_bit (l : List Int) (i : Nat) (hi : i < 16) : (seL l).testBit i = l.contains (i : Int) := by
  unfold seL
  rw [mkS_bit]
  simp [hi]
theorem seL_lt (l : List Int) : seL l < 65536 := mkS_lt _ 16
theorem eq_zero_iff {s : Nat} : s = 0 ↔ ∀ i, s.testBit i = false := by
  constructor
  · intro h i; rw [h]; exact Nat.zero_testBit i
  · intro h
    refine Nat.eq_of_testBit_eq fun i => ?_
    rw [h i, Nat.zero_testBit]
end Go.Proofs.YtcgdalabenflmaaDoor
/- Rite, plain: what a rite is, which deeds break which rule, what follows from a course (no program in sight). -/
namespace Go.Proofs.YtcgdalabenflmaaDoor
open Go Go.RowKit
set_option maxRecDepth 100000
/-- an act -/
structure Rac where
  nm : Wd
  nd : List Int
  ins : List Int
  at_ : Int
  fr : Int
  to_ : Int
  ex : Bool
/-- a rite -/
structure Rit where
  as_ : List Rac
  last : Int
  toil : Int
def ra0 : Rac := ⟨noW, [], [], 0, 0, 0, false⟩
def Rit.ac (r : Rit) (i : Nat) : Rac := r.as_.getD i ra0
def Rit.n (r : Rit) : Nat := r.as_.length
/-- strictly ascending numbers of other acts, behind one -/
def isLF (act acts : Int) : Int → List Int → Bool
  | _, [] => true
  | last, x :: l => if x ≤ last ∨ acts ≤ x ∨ x = act then false else isLF act acts x l
/-- whether an act is as it must be, for itself -/
def acB (r : Rit) (i : Nat) : Bool :=
  ((((((wordB (r.ac i).nm && (List.range i).all fun k => decide ((r.ac k).nm ≠ (r.ac i).nm)) && isLF i r.n (-1) (r.ac i).nd) && isLF i r.n (-1) (r.ac i).ins) && decide (-1 ≤ (r.ac i).at_ ∧ (r.ac i).at_ ≤ (r.n : Int) - 1)) && decide ((r.ac i).at_ ≠ (i : Int))) && decide (0 ≤ (r.ac i).fr ∧ (r.ac i).fr ≤ (r.ac i).to_ ∧ (r.ac i).to_ ≤ r.last))
/-- a substitute, an atonement -/
def subB (r : Rit) (k : Nat) : Bool := (List.range r.n).any fun i => (r.ac i).ins.contains (k : Int)
def atoB (r : Rit) (k : Nat) : Bool := (List.range r.n).any fun i => decide ((r.ac i).at_ = (k : Int))
def kiB (r : Rit) (i : Nat) : Bool := !(((subB r i || atoB r i) && !(r.ac i).ex) || (subB r i && atoB r i))
/-- whether numbers of a rite are as they must be -/
def szB (r : Rit) : Bool := decide (1 ≤ r.n ∧ r.n ≤ 10) && decide (0 ≤ r.last ∧ r.last ≤ 30) && decide (1 ≤ r.toil ∧ r.toil ≤ 4)
/-- whether a rite is valid -/
def riB (r : Rit) : Bool := (szB r && (List.range r.n).all (acB r)) && (List.range r.n).all (kiB r)
-- sets
def waS (r : Rit) (i : Nat) : Nat := mkS (fun k => decide (k = i) || (r.ac i).ins.contains (k : Int) || decide ((r.ac i).at_ = (k : Int))) 16
def reS (r : Rit) (k : Nat) : Nat := mkS (fun i => (r.ac i).ins.contains (k : Int)) r.n
def atS (r : Rit) (k : Nat) : Nat := mkS (fun i => decide ((r.ac i).at_ = (k : Int))) r.n
def muS (r : Rit) : Nat := mkS (fun i => !(r.ac i).ex) r.n
-- what is settled
def seB (r : Rit) (d : Nat) (i : Nat) : Bool := d.testBit i || (decide (0 ≤ (r.ac i).at_) && d.testBit (r.ac i).at_.toNat) || (r.ac i).ins.any fun x => d.testBit x.toNat
def seS (r : Rit) (d : Nat) : Nat := mkS (seB r d) r.n
def ouS (r : Rit) (day : Int) : Nat := mkS (fun i => decide ((r.ac i).to_ < day)) r.n
def foB (r : Rit) (d : Nat) (day : Int) (i : Nat) : Bool := !(r.ac i).ex && decide ((r.ac i).to_ < day) && !seB r d i
def foS (r : Rit) (d : Nat) (day : Int) : Nat := mkS (foB r d day) r.n
def neB (r : Rit) (d : Nat) (i : Nat) : Bool := (r.ac i).nd.all fun x => seB r d x.toNat
def usB (r : Rit) (d : Nat) (day : Int) (i : Nat) : Bool := (List.range r.n).any fun k => ((r.ac k).ins.contains (i : Int) && !seB r d k) || (decide ((r.ac k).at_ = (i : Int)) && foB r d day k)
/-- the first of the rules 2 to 6 that a deed breaks -/
def brF (r : Rit) (d : Nat) (day deeds act : Int) : Int :=
  if act < 0 ∨ (r.n : Int) ≤ act then 2
  else if d.testBit act.toNat || (!(r.ac act.toNat).ex && seB r d act.toNat) then 2
  else if day < (r.ac act.toNat).fr ∨ (r.ac act.toNat).to_ < day then 3
  else if !neB r d act.toNat then 4
  else if (r.ac act.toNat).ex && !usB r d day act.toNat then 5
  else if r.toil ≤ deeds then 6 else 0
/-- how far a course is -/
structure Mom where
  d : Nat
  day : Int
  de : Int
deriving DecidableEq
def m0 : Mom := ⟨0, 0, 0⟩
def Mom.on (m : Mom) (day : Int) : Mom := if day = m.day then m else ⟨m.d, day, 0⟩
def Mom.wi (m : Mom) (act : Nat) : Mom := ⟨m.d ||| 2 ^ act, m.day, m.de + 1⟩
/-- what follows from a course: the moment, the deed and the rule that it breaks -/
def folF (r : Rit) : Mom → List (Int × Int) → Nat → Mom × Int × Int
  | m, [], _ => (m, -1, 0)
  | m, x :: l, i =>
    if x.1 < m.day ∨ r.last < x.1 then (m, i, 1)
    else if brF r (m.on x.1).d (m.on x.1).day (m.on x.1).de x.2 ≠ 0 then (m.on x.1, i, brF r (m.on x.1).d (m.on x.1).day (m.on x.1).de x.2)
    else folF r ((m.on x.1).wi x.2.toNat) l (i + 1)
/-- whether all acts that must be are settled -/
def coB (r : Rit) (d : Nat) : Bool := (List.range r.n).all fun i => (r.ac i).ex || seB r d i
/-- the acts that can be done next -/
def neS (r : Rit) (m : Mom) : Nat := mkS (fun i => decide (brF r m.d m.day m.de i = 0)) r.n
-- the fewest deeds, by fuel; 11 if none do
def fwF (r : Rit) : Nat → Mom → Nat
  | 0, _ => 11
  | k + 1, m => if coB r m.d then 0 else (elS (neS r m)).foldl (fun b a => min b (1 + fwF r k (m.wi a))) (if m.day < r.last then fwF r k (m.on (m.day + 1)) else 11)
/-- how many acts are not done -/
def unN (r : Rit) (d : Nat) : Nat := ((List.range r.n).filter fun i => !d.testBit i).length
/-- what is left at a moment -/
def meN (r : Rit) (m : Mom) : Nat := (r.last - m.day).toNat + unN r m.d
def fwN (r : Rit) (m : Mom) : Nat := fwF r (meN r m + 1) m
theorem un_wi {r : Rit} {d i : Nat} (hi : i < r.n) (hd : d.testBit i = false) : unN r (d ||| 2 ^ i) + 1 = unN r d := by
  unfold unN
  have key : ∀ n, (((List.range n).filter fun k => !(d ||| 2 ^ i).testBit k).length + if i < n then 1 else 0) = ((List.range n).filter fun k => !d.testBit k).length := by
    intro n
    induction n with
    | zero => simp
    | succ n ih =>
      rw [List.range_succ, List.filter_append, List.filter_append, List.length_append, List.length_append, ← ih]
      have e : (d ||| 2 ^ i).testBit n = (d.testBit n || decide (i = n)) := by rw [Nat.testBit_or, Nat.testBit_two_pow]
      by_cases h : i = n
      · subst h
        simp [e, hd]
      · have e2 : (d ||| 2 ^ i).testBit n = d.testBit n := by rw [e]; simp [h]
        simp only [List.filter_cons, List.filter_nil, e2]
        by_cases h2 : i < n
        · rw [if_pos h2, if_pos (show i < n + 1 by omega)]; omega
        · rw [if_neg h2, if_neg (show ¬ i < n + 1 by omega)]; omega
  have := key r.n
  rw [if_pos hi] at this
  exact this
theorem br_undone {r : Rit} {d : Nat} {day de : Int} {i : Nat} (h : brF r d day de i = 0) : i < r.n ∧ d.testBit i = false := by
  unfold brF at h
  rw [Int.toNat_natCast] at h
  split at h
  · cases h
  · rename_i h1
    split at h
    · cases h
    · rename_i h2
      refine ⟨by omega, ?_⟩
      rcases hb : d.testBit i with _ | _
      · rfl
      · rw [hb] at h2; simp at h2
theorem neS_mem {r : Rit} {m : Mom} (hn : r.n ≤ 16) {i : Nat} : i ∈ elS (neS r m) ↔ brF r m.d m.day m.de i = 0 := by
  unfold neS
  rw [elS_mem (lt16 (mkS_lt _ _) hn)]
  rw [mkS_bit, Bool.and_eq_true, decide_eq_true_iff, decide_eq_true_iff]
  exact ⟨fun h => h.2, fun h => ⟨(br_undone h).1, h⟩⟩
theorem me_wi {r : Rit} {m : Mom} {i : Nat} (h : brF r m.d m.day m.de i = 0) : meN r (m.wi i) + 1 = meN r m := by
  obtain ⟨h1, h2⟩ := br_undone h
  have := un_wi h1 h2
  unfold meN
  show (r.last - m.day).toNat + unN r (m.d ||| 2 ^ i) + 1 = _
  omega
theorem me_on {r : Rit} {m : Mom} (h : m.day < r.last) : meN r (m.on (m.day + 1)) + 1 = meN r m := by
  unfold Mom.on
  rw [if_neg (by omega)]
  unfold meN
  dsimp only
  omega
theorem foldl_congr' {α β : Type} {f g : β → α → β} : ∀ (l : List α) (b : β), (∀ x ∈ l, ∀ b, f b x = g b x) → l.foldl f b = l.foldl g b
  | [], _, _ => rfl
  | x :: l, b, h => by
    show l.foldl f (f b x) = l.foldl g (g b x)
    rw [h x (by simp) b]
    exact foldl_congr' l _ fun y hy b => h y (by simp [hy]) b
theorem fwF_more {r : Rit} (hn : r.n ≤ 16) : ∀ (k : Nat) (m : Mom) (j : Nat), meN r m < k → k ≤ j → fwF r j m = fwF r k m
  | 0, _, _, h, _ => absurd h (by omega)
  | k + 1, m, j, h, hj => by
    obtain ⟨j, rfl⟩ : ∃ i, j = i + 1 := ⟨j - 1, by omega⟩
    unfold fwF
    by_cases hc : coB r m.d = true
    · rw [if_pos hc, if_pos hc]
    · rw [if_neg hc, if_neg hc]
      have e1 : (if m.day < r.last then fwF r j (m.on (m.day + 1)) else 11) = (if m.day < r.last then fwF r k (m.on (m.day + 1)) else 11) := by
        by_cases hd : m.day < r.last
        · rw [if_pos hd, if_pos hd, fwF_more hn k _ j (by have := me_on hd; omega) (by omega)]
        · rw [if_neg hd, if_neg hd]
      rw [e1]
      exact foldl_congr' _ _ fun x hx b => by
        rw [fwF_more hn k _ j (by have := me_wi ((neS_mem hn).1 hx); omega) (by omega)]
/-- the law of the fewest deeds -/
theorem fwN_eq {r : Rit} (hn : r.n ≤ 16) (m : Mom) :
    fwN r m = if coB r m.d then 0 else (elS (neS r m)).foldl (fun b a => min b (1 + fwN r (m.wi a))) (if m.day < r.last then fwN r (m.on (m.day + 1)) else 11) := by
  show fwF r (meN r m + 1) m = _
  unfold fwF
  by_cases hc : coB r m.d = true
  · rw [if_pos hc, if_pos hc]
  · rw [if_neg hc, if_neg hc]
    have e1 : (if m.day < r.last then fwF r (meN r m) (m.on (m.day + 1)) else 11) = (if m.day < r.last then fwN r (m.on (m.day + 1)) else 11) := by
      by_cases hd : m.day < r.last
      · rw [if_pos hd, if_pos hd]
        unfold fwN
        rw [me_on hd]
      · rw [if_neg hd, if_neg hd]
    rw [e1]
    exact foldl_congr' _ _ fun x hx b => by
      unfold fwN
      rw [me_wi ((neS_mem hn).1 hx)]
theorem foldl_min_le {α : Type} (f : α → Nat) : ∀ (l : List α) (b : Nat), l.foldl (fun b a => min b (f a)) b ≤ b
  | [], _ => Nat.le_refl _
  | x :: l, b => Nat.le_trans (foldl_min_le f l (min b (f x))) (Nat.min_le_left _ _)
theorem fwF_le (r : Rit) : ∀ (k : Nat) (m : Mom), fwF r k m ≤ 11
  | 0, _ => Nat.le_refl _
  | k + 1, m => by
    unfold fwF
    split
    · omega
    · refine Nat.le_trans (foldl_min_le _ _ _) ?_
      split
      · exact fwF_le r k _
      · omega
theorem fwN_le (r : Rit) (m : Mom) : fwN r m ≤ 11 := fwF_le r _ m
end Go.Proofs.YtcgdalabenflmaaDoor
/- Rite, plain: acts that can never be settled; the list of the fewest deeds. -/
namespace Go.Proofs.YtcgdalabenflmaaDoor
open Go Go.RowKit
set_option maxRecDepth 100000
-- hopeless
/-- whether a way of an act may still be gone, if the acts of X are lost -/
def canB (r : Rit) (day : Int) (X : Nat) (i : Nat) : Bool := (List.range r.n).any fun k => (waS r i).testBit k && (!decide ((r.ac k).to_ < day) && (r.ac k).nd.all fun x => !X.testBit x.toNat)
def SubS (X Y : Nat) : Prop := ∀ i, X.testBit i = true → Y.testBit i = true
/-- a set of acts of which none has a way -/
def StaS (r : Rit) (day : Int) (X : Nat) : Prop := ∀ i, X.testBit i = true → canB r day X i = false
/-- the greatest of these among the acts that are not settled -/
structure HoS (r : Rit) (d : Nat) (day : Int) (X : Nat) : Prop where
  sub : SubS X (anN (2 ^ r.n - 1) (seS r d))
  sta : StaS r day X
  top : ∀ Y, SubS Y (anN (2 ^ r.n - 1) (seS r d)) → StaS r day Y → SubS Y X
theorem subS_anti {X Y : Nat} (h : SubS X Y) (k : SubS Y X) : X = Y := by
  refine Nat.eq_of_testBit_eq fun i => ?_
  rw [Bool.eq_iff_iff]
  exact ⟨h i, k i⟩
theorem HoS.uniq {r : Rit} {d : Nat} {day : Int} {X Y : Nat} (h : HoS r d day X) (k : HoS r d day Y) : X = Y := subS_anti (k.top X h.sub h.sta) (h.top Y k.sub k.sta)
theorem can_mono {r : Rit} {day : Int} {X Y : Nat} (h : SubS Y X) {i : Nat} (hc : canB r day X i = true) : canB r day Y i = true := by
  unfold canB at hc ⊢
  obtain ⟨k, hk, h2⟩ := List.any_eq_true.1 hc
  rw [Bool.and_eq_true, Bool.and_eq_true] at h2
  refine List.any_eq_true.2 ⟨k, hk, ?_⟩
  rw [Bool.and_eq_true, Bool.and_eq_true]
  refine ⟨h2.1, h2.2.1, List.all_eq_true.2 fun x hx => ?_⟩
  have h3 := List.all_eq_true.1 h2.2.2 x hx
  rcases hb : Y.testBit x.toNat with _ | _
  · rfl
  · rw [h _ hb] at h3; cases h3
theorem subS_le {X Y : Nat} (h : SubS X Y) : X ≤ Y := by
  have e : X &&& Y = X := by
    refine Nat.eq_of_testBit_eq fun i => ?_
    rw [Nat.testBit_and]
    rcases hb : X.testBit i with _ | _
    · rfl
    · rw [h i hb]; rfl
  rw [← e]
  exact Nat.and_le_right
/-- one round: those that have a way are taken out -/
def hoS (r : Rit) (day : Int) (X : Nat) : Nat := mkS (fun i => X.testBit i && !canB r day X i) 16
theorem hoS_bit {r : Rit} {day : Int} {X : Nat} (hX : X < 65536) (i : Nat) : (hoS r day X).testBit i = (X.testBit i && !canB r day X i) := by
  unfold hoS
  rw [mkS_bit]
  by_cases h : i < 16
  · simp [h]
  · rw [bit_ge (n := 16) hX (by omega)]; simp
theorem hoS_sub {r : Rit} {day : Int} {X : Nat} (hX : X < 65536) : SubS (hoS r day X) X := fun i h => by
  rw [hoS_bit hX, Bool.and_eq_true] at h
  exact h.1
theorem hoS_top {r : Rit} {day : Int} {X Y : Nat} (hX : X < 65536) (h : SubS Y X) (hs : StaS r day Y) : SubS Y (hoS r day X) := fun i hi => by
  rw [hoS_bit hX, h i hi]
  rcases hc : canB r day X i with _ | _
  · rfl
  · have := can_mono h hc
    rw [hs i hi] at this; cases this
theorem hoS_fix {r : Rit} {day : Int} {X : Nat} (hX : X < 65536) (h : hoS r day X = X) : StaS r day X := fun i hi => by
  have h2 := hoS_bit (r := r) (day := day) hX i
  rw [h, hi, Bool.true_and] at h2
  rcases hc : canB r day X i with _ | _
  · rfl
  · rw [hc] at h2; cases h2
theorem hoS_less {r : Rit} {day : Int} {X : Nat} (hX : X < 65536) (h : hoS r day X ≠ X) : hoS r day X < X := by
  have := subS_le (hoS_sub (r := r) (day := day) hX)
  omega
-- repair
theorem foldl_min_cases {α : Type} (f : α → Nat) : ∀ (l : List α) (b : Nat), l.foldl (fun b a => min b (f a)) b = b ∨ ∃ x ∈ l, l.foldl (fun b a => min b (f a)) b = f x
  | [], _ => .inl rfl
  | x :: l, b => by
    show l.foldl (fun b a => min b (f a)) (min b (f x)) = b ∨ _
    rcases foldl_min_cases f l (min b (f x)) with h | ⟨y, hy, h⟩
    · rw [h]
      rcases Nat.le_total b (f x) with h2 | h2
      · exact .inl (Nat.min_eq_left h2)
      · refine .inr ⟨x, by simp, ?_⟩
        show l.foldl (fun b a => min b (f a)) (min b (f x)) = f x
        rw [h]
        exact Nat.min_eq_right h2
    · exact .inr ⟨y, by simp [hy], h⟩
theorem foldl_min_mem {α : Type} (f : α → Nat) : ∀ (l : List α) (b : Nat) (x : α), x ∈ l → l.foldl (fun b a => min b (f a)) b ≤ f x
  | x :: l, b, y, h => by
    show l.foldl (fun b a => min b (f a)) (min b (f x)) ≤ f y
    rcases List.mem_cons.1 h with rfl | h
    · exact Nat.le_trans (foldl_min_le f l _) (Nat.min_le_right _ _)
    · exact foldl_min_mem f l _ y h
theorem fw_zero {r : Rit} (hn : r.n ≤ 16) (m : Mom) : fwN r m = 0 ↔ coB r m.d = true := by
  rw [fwN_eq hn]
  by_cases hc : coB r m.d = true
  · rw [if_pos hc]; exact ⟨fun _ => hc, fun _ => rfl⟩
  · rw [if_neg hc]
    refine ⟨fun h => ?_, fun h => absurd h hc⟩
    exfalso
    rcases foldl_min_cases (fun a => 1 + fwN r (m.wi a)) (elS (neS r m)) (if m.day < r.last then fwN r (m.on (m.day + 1)) else 11) with h2 | ⟨x, -, h2⟩
    · rw [h2] at h
      by_cases hd : m.day < r.last
      · rw [if_pos hd] at h
        have h3 : ∀ (k : Nat) (m : Mom), meN r m ≤ k → coB r m.d ≠ true → fwN r m ≠ 0 := by
          intro k
          induction k with
          | zero =>
            intro m hm hc h
            rw [fwN_eq hn, if_neg hc] at h
            rcases foldl_min_cases (fun a => 1 + fwN r (m.wi a)) (elS (neS r m)) (if m.day < r.last then fwN r (m.on (m.day + 1)) else 11) with h2 | ⟨x, -, h2⟩
            · rw [h2] at h
              by_cases hd : m.day < r.last
              · have := me_on hd; omega
              · rw [if_neg hd] at h; cases h
            · rw [h2] at h; omega
          | succ k ih =>
            intro m hm hc h
            rw [fwN_eq hn, if_neg hc] at h
            rcases foldl_min_cases (fun a => 1 + fwN r (m.wi a)) (elS (neS r m)) (if m.day < r.last then fwN r (m.on (m.day + 1)) else 11) with h2 | ⟨x, -, h2⟩
            · rw [h2] at h
              by_cases hd : m.day < r.last
              · rw [if_pos hd] at h
                refine ih _ (by have := me_on hd; omega) ?_ h
                unfold Mom.on
                rw [if_neg (by omega)]
                exact hc
              · rw [if_neg hd] at h; cases h
            · rw [h2] at h; omega
        refine h3 _ (m.on (m.day + 1)) (Nat.le_refl _) ?_ h
        unfold Mom.on
        rw [if_neg (by omega)]
        exact hc
      · rw [if_neg hd] at h; cases h
    · rw [h2] at h; omega
/-- the next deed of the fewest, or the next day -/
theorem fw_step {r : Rit} (hn : r.n ≤ 16) {m : Mom} {v : Nat} (h : fwN r m = v) (h0 : 0 < v) (h1 : v < 11) :
    (∃ a ∈ elS (neS r m), fwN r (m.wi a) = v - 1) ∨ (m.day < r.last ∧ fwN r (m.on (m.day + 1)) = v) := by
  rw [fwN_eq hn] at h
  by_cases hc : coB r m.d = true
  · rw [if_pos hc] at h; omega
  · rw [if_neg hc] at h
    rcases foldl_min_cases (fun a => 1 + fwN r (m.wi a)) (elS (neS r m)) (if m.day < r.last then fwN r (m.on (m.day + 1)) else 11) with h2 | ⟨x, hx, h2⟩
    · rw [h2] at h
      by_cases hd : m.day < r.last
      · rw [if_pos hd] at h; exact .inr ⟨hd, h⟩
      · rw [if_neg hd] at h; omega
    · rw [h2] at h
      exact .inl ⟨x, hx, by omega⟩
/-- the list of the fewest deeds, by fuel -/
def rpF (r : Rit) : Nat → Mom → Nat → List (Int × Int)
  | 0, _, _ => []
  | k + 1, m, v => if v = 0 then [] else match (elS (neS r m)).find? fun a => decide (fwN r (m.wi a) = v - 1) with
    | none => rpF r k (m.on (m.day + 1)) v
    | some a => (m.day, (a : Int)) :: rpF r k (m.wi a) (v - 1)
def rpL (r : Rit) (m : Mom) (v : Nat) : List (Int × Int) := rpF r (meN r m + 1) m v
theorem rp_zero (r : Rit) (m : Mom) : rpL r m 0 = [] := rfl
theorem rp_some {r : Rit} (hn : r.n ≤ 16) {m : Mom} {v a : Nat} (h0 : 0 < v) (hf : (elS (neS r m)).find? (fun a => decide (fwN r (m.wi a) = v - 1)) = some a) :
    rpL r m v = (m.day, (a : Int)) :: rpL r (m.wi a) (v - 1) := by
  have hm : a ∈ elS (neS r m) := List.mem_of_find?_eq_some hf
  unfold rpL
  rw [me_wi ((neS_mem hn).1 hm)]
  show (if v = 0 then _ else _) = _
  rw [if_neg (by omega), hf]
theorem rp_none {r : Rit} {m : Mom} {v : Nat} (h0 : 0 < v) (hd : m.day < r.last) (hf : (elS (neS r m)).find? (fun a => decide (fwN r (m.wi a) = v - 1)) = none) :
    rpL r m v = rpL r (m.on (m.day + 1)) v := by
  unfold rpL
  rw [me_on hd]
  show (if v = 0 then _ else _) = _
  rw [if_neg (by omega), hf]
/-- finite numbers are no more than the acts that are not done -/
theorem fw_un {r : Rit} (hn : r.n ≤ 16) : ∀ (k : Nat) (m : Mom), meN r m ≤ k → fwN r m < 11 → fwN r m ≤ unN r m.d := by
  intro k
  induction k with
  | zero =>
    intro m hm h
    rcases Nat.eq_zero_or_pos (fwN r m) with h0 | h0
    · omega
    · rcases fw_step hn rfl h0 h with ⟨a, ha, -⟩ | ⟨hd, -⟩
      · have := me_wi ((neS_mem hn).1 ha); omega
      · have := me_on hd; omega
  | succ k ih =>
    intro m hm h
    rcases Nat.eq_zero_or_pos (fwN r m) with h0 | h0
    · omega
    · rcases fw_step hn rfl h0 h with ⟨a, ha, h2⟩ | ⟨hd, h2⟩
      · have h3 := me_wi ((neS_mem hn).1 ha)
        have h4 := ih (m.wi a) (by omega) (by omega)
        have h5 := br_undone ((neS_mem hn).1 ha)
        have h6 := un_wi h5.1 h5.2
        have h7 : unN r (m.wi a).d = unN r (m.d ||| 2 ^ a) := rfl
        omega
      · have h3 := me_on hd
        have h4 := ih (m.on (m.day + 1)) (by omega) (by omega)
        have h5 : (m.on (m.day + 1)).d = m.d := by unfold Mom.on; split <;> rfl
        rw [h5] at h4
        omega
theorem un_le (r : Rit) (d : Nat) : unN r d ≤ r.n := by
  unfold unN
  exact Nat.le_trans (List.length_filter_le _ _) (by simp)
theorem rp_len {r : Rit} (hn : r.n ≤ 16) : ∀ (k : Nat) (m : Mom) (v : Nat), meN r m ≤ k → fwN r m = v → v < 11 → (rpL r m v).length = v := by
  intro k
  induction k with
  | zero =>
    intro m v hm h h1
    rcases Nat.eq_zero_or_pos v with h0 | h0
    · subst h0; rfl
    · rcases fw_step hn h h0 h1 with ⟨a, ha, -⟩ | ⟨hd, -⟩
      · have := me_wi ((neS_mem hn).1 ha); omega
      · have := me_on hd; omega
  | succ k ih =>
    intro m v hm h h1
    rcases Nat.eq_zero_or_pos v with h0 | h0
    · subst h0; rfl
    · cases hf : (elS (neS r m)).find? (fun a => decide (fwN r (m.wi a) = v - 1)) with
      | some a =>
        have h2 : fwN r (m.wi a) = v - 1 := of_decide_eq_true (List.find?_some (p := fun a => decide (fwN r (m.wi a) = v - 1)) hf)
        have h3 := me_wi ((neS_mem hn).1 (List.mem_of_find?_eq_some hf))
        rw [rp_some hn h0 hf, List.length_cons, ih (m.wi a) (v - 1) (by omega) h2 (by omega)]
        omega
      | none =>
        rcases fw_step hn h h0 h1 with ⟨a, ha, h2⟩ | ⟨hd, h2⟩
        · have h3 := List.find?_eq_none.1 hf a ha
          simp [h2] at h3
        · rw [rp_none h0 hd hf]
          exact ih _ v (by have := me_on hd; omega) h2 h1
end Go.Proofs.YtcgdalabenflmaaDoor
/- Rite, plain: what is true of a valid rite; sets of a valid rite, bit by bit. -/
namespace Go.Proofs.YtcgdalabenflmaaDoor
open Go Go.RowKit
set_option maxRecDepth 100000
theorem isLF_iff (act acts : Int) : ∀ (l : List Int) (p : Int), isLF act acts p l = true ↔ ∀ i, i < l.length → (if i = 0 then p else l.getD (i - 1) 0) < l.getD i 0 ∧ l.getD i 0 < acts ∧ l.getD i 0 ≠ act
  | [], p => by simp [isLF]
  | x :: l, p => by
    unfold isLF
    by_cases h : x ≤ p ∨ acts ≤ x ∨ x = act
    · rw [if_pos h]
      refine ⟨fun h => (by cases h), fun h2 => ?_⟩
      have h3 := h2 0 (by simp)
      rw [if_pos rfl] at h3
      have e : (x :: l).getD 0 0 = x := rfl
      rw [e] at h3
      omega
    · rw [if_neg h, isLF_iff act acts l x]
      constructor
      · intro h2 i hi
        cases i with
        | zero => rw [if_pos rfl]; show p < x ∧ x < acts ∧ x ≠ act; omega
        | succ i =>
          have h3 := h2 i (by simpa using hi)
          rw [if_neg (by omega)]
          show (x :: l).getD i 0 < l.getD i 0 ∧ _
          cases i with
          | zero => rw [if_pos rfl] at h3; exact h3
          | succ i => rw [if_neg (by omega)] at h3; exact h3
      · intro h2 i hi
        have h3 := h2 (i + 1) (by simpa using hi)
        rw [if_neg (by omega)] at h3
        have h4 : (x :: l).getD i 0 < l.getD i 0 ∧ l.getD i 0 < acts ∧ l.getD i 0 ≠ act := h3
        cases i with
        | zero => rw [if_pos rfl]; exact h4
        | succ i => rw [if_neg (by omega)]; exact h4
theorem isLF_range {act acts : Int} : ∀ {l : List Int} {p : Int}, isLF act acts p l = true → ∀ x ∈ l, p < x ∧ x < acts ∧ x ≠ act
  | [], _, _, x, hx => by cases hx
  | y :: l, p, h, x, hx => by
    unfold isLF at h
    split at h
    · cases h
    · rename_i h1
      rcases List.mem_cons.1 hx with rfl | hx
      · omega
      · have := isLF_range h x hx
        omega
/-- what is true of a valid rite -/
structure RiOk (r : Rit) : Prop where
  n1 : 1 ≤ r.n
  n10 : r.n ≤ 10
  l0 : 0 ≤ r.last
  l30 : r.last ≤ 30
  t1 : 1 ≤ r.toil
  t4 : r.toil ≤ 4
  ac : ∀ i, i < r.n → acB r i = true
  ki : ∀ i, i < r.n → kiB r i = true
theorem riB_ok {r : Rit} (h : riB r = true) : RiOk r := by
  unfold riB szB at h
  simp only [Bool.and_eq_true, decide_eq_true_eq] at h
  obtain ⟨⟨⟨⟨h1, h2⟩, h3⟩, h4⟩, h5⟩ := h
  exact ⟨h1.1, h1.2, h2.1, h2.2, h3.1, h3.2, fun i hi => List.all_eq_true.1 h4 i (List.mem_range.2 hi), fun i hi => List.all_eq_true.1 h5 i (List.mem_range.2 hi)⟩
/-- what is true of an act of a valid rite -/
structure AcOk (r : Rit) (i : Nat) : Prop where
  nm : wordB (r.ac i).nm = true
  nd : ∀ x ∈ (r.ac i).nd, 0 ≤ x ∧ x < r.n ∧ x ≠ (i : Int)
  ins : ∀ x ∈ (r.ac i).ins, 0 ≤ x ∧ x < r.n ∧ x ≠ (i : Int)
  at0 : -1 ≤ (r.ac i).at_
  at1 : (r.ac i).at_ ≤ (r.n : Int) - 1
  ne : (r.ac i).at_ ≠ (i : Int)
  fr : 0 ≤ (r.ac i).fr
  ft : (r.ac i).fr ≤ (r.ac i).to_
  tl : (r.ac i).to_ ≤ r.last
  nms : ∀ k, k < i → (r.ac k).nm ≠ (r.ac i).nm
theorem acB_ok {r : Rit} {i : Nat} (h : acB r i = true) : AcOk r i := by
  unfold acB at h
  simp only [Bool.and_eq_true, decide_eq_true_eq] at h
  obtain ⟨⟨⟨⟨⟨⟨h1, h2⟩, h3⟩, h4⟩, h5⟩, h6⟩, h7⟩ := h
  refine ⟨h1, fun x hx => ?_, fun x hx => ?_, h5.1, h5.2, h6, h7.1, h7.2.1, h7.2.2, fun k hk => ?_⟩
  · have := isLF_range h3 x hx; omega
  · have := isLF_range h4 x hx; omega
  · have := List.all_eq_true.1 h2 k (List.mem_range.2 hk)
    exact of_decide_eq_true this
theorem RiOk.at_ {r : Rit} (h : RiOk r) {i : Nat} (hi : i < r.n) : AcOk r i := acB_ok (h.ac i hi)
theorem mem_at {l : List Int} {x : Int} (h : x ∈ l) : l.contains x = true := List.contains_iff_mem.2 h
/-- ways that are done: what settles an act -/
theorem wa_se {r : Rit} (hr : RiOk r) {i : Nat} (hi : i < r.n) (d : Nat) (hd : d < 65536) : (waS r i &&& d ≠ 0) ↔ seB r d i = true := by
  have ha := hr.at_ hi
  have h10 := hr.n10
  rw [← Bool.not_eq_false, ne_eq]
  refine not_congr ?_
  rw [eq_zero_iff]
  have hb : ∀ k, (waS r i &&& d).testBit k = ((decide (k = i) || (r.ac i).ins.contains (k : Int) || decide ((r.ac i).at_ = (k : Int))) && d.testBit k) := fun k => by
    rw [Nat.testBit_and]
    unfold waS
    rw [mkS_bit]
    by_cases hk : k < 16
    · simp [hk]
    · rw [bit_ge (n := 16) hd (by omega)]; simp
  constructor
  · intro h
    unfold seB
    rw [Bool.or_eq_false_iff, Bool.or_eq_false_iff]
    refine ⟨⟨?_, ?_⟩, ?_⟩
    · have h1 := h i
      rw [hb] at h1
      simpa using h1
    · rcases Classical.em (0 ≤ (r.ac i).at_) with h0 | h0
      · have h1 := h (r.ac i).at_.toNat
        rw [hb, Int.toNat_of_nonneg h0] at h1
        rw [decide_eq_true h0, Bool.true_and]
        simpa using h1
      · rw [decide_eq_false h0]; rfl
    · rw [List.any_eq_false]
      intro x hx
      have h1 := h x.toNat
      rw [hb, Int.toNat_of_nonneg (ha.ins x hx).1, mem_at hx] at h1
      simpa using h1
  · intro h k
    unfold seB at h
    rw [Bool.or_eq_false_iff, Bool.or_eq_false_iff] at h
    obtain ⟨⟨h1, h2⟩, h3⟩ := h
    rw [hb]
    rcases hk : d.testBit k with _ | _
    · simp
    · rw [Bool.and_true, Bool.or_eq_false_iff, Bool.or_eq_false_iff]
      refine ⟨⟨?_, ?_⟩, ?_⟩
      · rw [decide_eq_false_iff_not]
        rintro rfl
        rw [hk] at h1; cases h1
      · rcases hc : (r.ac i).ins.contains (k : Int) with _ | _
        · rfl
        · have := List.any_eq_false.1 h3 (k : Int) (List.contains_iff_mem.1 hc)
          rw [Int.toNat_natCast, hk] at this
          exact absurd rfl this
      · rw [decide_eq_false_iff_not]
        intro e
        rw [e, Int.toNat_natCast, hk, decide_eq_true (by omega)] at h2
        cases h2
theorem anN_zero {s t : Nat} (hs : s < 65536) : anN s t = 0 ↔ ∀ i, s.testBit i = true → t.testBit i = true := by
  rw [eq_zero_iff]
  constructor
  · intro h i hi
    have h1 := h i
    rw [anN_bit _ _ _ hs, hi] at h1
    simpa using h1
  · intro h i
    rw [anN_bit _ _ _ hs]
    rcases hi : s.testBit i with _ | _
    · rfl
    · rw [h i hi]; rfl
theorem and_zero {s t : Nat} : s &&& t = 0 ↔ ∀ i, s.testBit i = true → t.testBit i = false := by
  rw [eq_zero_iff]
  constructor
  · intro h i hi
    have h1 := h i
    rw [Nat.testBit_and, hi] at h1
    simpa using h1
  · intro h i
    rw [Nat.testBit_and]
    rcases hi : s.testBit i with _ | _
    · rfl
    · rw [h i hi]; rfl
theorem seS_bit (r : Rit) (d i : Nat) : (seS r d).testBit i = (decide (i < r.n) && seB r d i) := mkS_bit _ _ _
theorem seS_lt {r : Rit} (hr : RiOk r) (d : Nat) : seS r d < 65536 := lt16 (mkS_lt _ _) (by have := hr.n10; omega)
/-- what an act needs, settled -/
theorem ne_iff {r : Rit} (hr : RiOk r) {i : Nat} (hi : i < r.n) (d : Nat) : anN (seL (r.ac i).nd) (seS r d) = 0 ↔ neB r d i = true := by
  have ha := hr.at_ hi
  have h10 := hr.n10
  rw [anN_zero (seL_lt _)]
  unfold neB
  rw [List.all_eq_true]
  constructor
  · intro h x hx
    have h0 := ha.nd x hx
    have h1 := h x.toNat (by rw [seL_bit _ _ (by omega), Int.toNat_of_nonneg h0.1, mem_at hx])
    rw [seS_bit, Bool.and_eq_true] at h1
    exact h1.2
  · intro h k hk
    have hk16 : k < 16 := by
      rcases Nat.lt_or_ge k 16 with h2 | h2
      · exact h2
      · rw [bit_ge (n := 16) (seL_lt _) h2] at hk; cases hk
    rw [seL_bit _ _ hk16] at hk
    have hm := List.contains_iff_mem.1 hk
    have h0 := ha.nd _ hm
    have h1 := h _ hm
    rw [Int.toNat_natCast] at h1
    rw [seS_bit, h1, decide_eq_true (by omega)]
    rfl
theorem reS_bit (r : Rit) (k i : Nat) : (reS r k).testBit i = (decide (i < r.n) && (r.ac i).ins.contains (k : Int)) := mkS_bit _ _ _
theorem atS_bit (r : Rit) (k i : Nat) : (atS r k).testBit i = (decide (i < r.n) && decide ((r.ac i).at_ = (k : Int))) := mkS_bit _ _ _
theorem foS_bit (r : Rit) (d : Nat) (day : Int) (i : Nat) : (foS r d day).testBit i = (decide (i < r.n) && foB r d day i) := mkS_bit _ _ _
/-- of what use an extra act is -/
theorem us_iff {r : Rit} (hr : RiOk r) (d : Nat) (day : Int) (i : Nat) : (anN (reS r i) (seS r d) = 0 ∧ atS r i &&& foS r d day = 0) ↔ usB r d day i = false := by
  have h10 := hr.n10
  rw [anN_zero (lt16 (show reS r i < 2 ^ r.n from mkS_lt _ _) (by omega)), and_zero]
  unfold usB
  rw [List.any_eq_false]
  constructor
  · rintro ⟨h1, h2⟩ k hk
    have hk := List.mem_range.1 hk
    rw [Bool.not_eq_true, Bool.or_eq_false_iff]
    constructor
    · rcases hc : (r.ac k).ins.contains (i : Int) with _ | _
      · rfl
      · have h3 := h1 k (by rw [reS_bit, hc, decide_eq_true hk]; rfl)
        rw [seS_bit, Bool.and_eq_true] at h3
        rw [h3.2]; rfl
    · rcases hc : decide ((r.ac k).at_ = (i : Int)) with _ | _
      · rfl
      · have h3 := h2 k (by rw [atS_bit, hc, decide_eq_true hk]; rfl)
        rw [foS_bit, decide_eq_true hk] at h3
        simpa using h3
  · intro h
    constructor
    · intro k hk
      rw [reS_bit, Bool.and_eq_true] at hk
      have h1 := of_decide_eq_true hk.1
      have h2 := h k (List.mem_range.2 h1)
      rw [Bool.not_eq_true, Bool.or_eq_false_iff, hk.2] at h2
      rw [seS_bit, hk.1]
      simpa using h2.1
    · intro k hk
      rw [atS_bit, Bool.and_eq_true] at hk
      have h1 := of_decide_eq_true hk.1
      have h2 := h k (List.mem_range.2 h1)
      rw [Bool.not_eq_true, Bool.or_eq_false_iff, hk.2] at h2
      rw [foS_bit, hk.1]
      simpa using h2.2
/-- what is forgotten, as the program counts it -/
theorem fo_eq {r : Rit} (hr : RiOk r) (d : Nat) (day : Int) : anN (muS r &&& ouS r day) (seS r d) = foS r d day := by
  have h10 := hr.n10
  have hm : muS r < 65536 := lt16 (mkS_lt _ _) (by omega)
  refine Nat.eq_of_testBit_eq fun i => ?_
  rw [anN_bit _ _ _ (Nat.lt_of_le_of_lt Nat.and_le_left hm), Nat.testBit_and, foS_bit, seS_bit]
  unfold muS ouS foB
  rw [mkS_bit, mkS_bit]
  by_cases hi : i < r.n
  · simp [hi]
  · simp [hi]
/-- what is complete, as the program counts it -/
theorem co_iff {r : Rit} (hr : RiOk r) (d : Nat) : anN (muS r) (seS r d) = 0 ↔ coB r d = true := by
  have h10 := hr.n10
  have hm : muS r < 65536 := lt16 (mkS_lt _ _) (by omega)
  rw [anN_zero hm]
  unfold coB
  rw [List.all_eq_true]
  constructor
  · intro h i hi
    have hi := List.mem_range.1 hi
    rcases he : (r.ac i).ex with _ | _
    · have h1 := h i (by unfold muS; rw [mkS_bit, he, decide_eq_true hi]; rfl)
      rw [seS_bit, Bool.and_eq_true] at h1
      rw [h1.2]; rfl
    · rfl
  · intro h i hi
    unfold muS at hi
    rw [mkS_bit, Bool.and_eq_true] at hi
    have h1 := h i (List.mem_range.2 (of_decide_eq_true hi.1))
    have h2 : (r.ac i).ex = false := by simpa using hi.2
    rw [h2, Bool.false_or] at h1
    rw [seS_bit, hi.1, h1]; rfl
/-- substitutes and atonements, as sets -/
theorem sub_iff {r : Rit} (k : Nat) : reS r k ≠ 0 ↔ subB r k = true := by
  rw [← Bool.not_eq_false, ne_eq]
  refine not_congr ?_
  rw [eq_zero_iff]
  unfold subB
  rw [List.any_eq_false]
  constructor
  · intro h i hi
    have h1 := h i
    rw [reS_bit, decide_eq_true (List.mem_range.1 hi)] at h1
    simpa using h1
  · intro h i
    rw [reS_bit]
    by_cases hi : i < r.n
    · have h1 := h i (List.mem_range.2 hi)
      simp only [Bool.not_eq_true] at h1
      rw [h1, Bool.and_false]
    · rw [decide_eq_false hi]; rfl
theorem ato_iff {r : Rit} (k : Nat) : atS r k ≠ 0 ↔ atoB r k = true := by
  rw [← Bool.not_eq_false, ne_eq]
  refine not_congr ?_
  rw [eq_zero_iff]
  unfold atoB
  rw [List.any_eq_false]
  constructor
  · intro h i hi
    have h1 := h i
    rw [atS_bit, decide_eq_true (List.mem_range.1 hi)] at h1
    simpa using h1
  · intro h i
    rw [atS_bit]
    by_cases hi : i < r.n
    · have h1 := h i (List.mem_range.2 hi)
      simp only [Bool.not_eq_true] at h1
      rw [h1, Bool.and_false]
    · rw [decide_eq_false hi]; rfl
end Go.Proofs.YtcgdalabenflmaaDoor
/- Rite: small functions, walked: within, has, of, TrailingZeros16, isName, isList. -/
namespace Go.Proofs.YtcgdalabenflmaaDoor
open Go Go.RowKit Go.Shelf
set_option maxHeartbeats 4000000
set_option maxRecDepth 100000
theorem rwithin_any (n a b : Int) (w : World) : Calls Tryd.prog 62 #[.int .i64 n, .int .i64 a, .int .i64 b] w fun e w' => e = .returned (.bool (decide (a ≤ n) && decide (n ≤ b))) ∧ w = w' := by
  by_cases h1 : a ≤ n
  · by_cases h2 : n ≤ b
    · go_enter Tryd.func62, Tryd.ntmps62
      go_wp2_with fail
      go_ret
      exact ⟨ret_bool (by simp [h1, h2]), rfl⟩
    · go_enter Tryd.func62, Tryd.ntmps62
      go_wp2_with fail
      go_ret
      exact ⟨ret_bool (by simp [h1, h2]), rfl⟩
  · go_enter Tryd.func62, Tryd.ntmps62
    go_wp2_with fail
    go_ret
    exact ⟨ret_bool (by rw [decide_eq_false (show ¬ a ≤ n by omega)]; rfl), rfl⟩
theorem rname_any (s : ByteArray) (w : World) (hs : s.size ≤ maxLen) : Calls Tryd.prog 72 #[.string s] w fun e w' => e = .returned (.bool (wordB s)) ∧ Below w.heap.size w w' := by
  unfold maxLen at hs
  have HT := hide (fun (w : World) => Any.strings_Trim_laid lays160 (by kernel_rfl) s ⟨azB.toArray⟩ w (by omega) (by decide) (ascii_of_all (by decide)))
  obtain ⟨R, hR⟩ : ∃ R, Go.Lib.trimS s.data.toList azB = R := ⟨_, rfl⟩
  have hall : R = [] ↔ s.data.toList.all lowerB = true := by rw [← hR]; exact trimS_nil _
  have HW := hide (fun (w : World) => (by
    have h := rwithin_any s.size 1 12 w
    have e : (decide ((1 : Int) ≤ (s.size : Int)) && decide ((s.size : Int) ≤ 12)) = (decide (1 ≤ s.size) && decide (s.size ≤ 12)) := by
      rw [Bool.eq_iff_iff]; simp; omega
    rw [e] at h; exact h : Calls Tryd.prog 62 #[.int .i64 s.size, .int .i64 1, .int .i64 12] w fun e w' => e = .returned (.bool (decide (1 ≤ s.size) && decide (s.size ≤ 12))) ∧ w = w'))
  rw [hR] at HT
  unfold wordB
  have HALL := hide hall
  clear hall hR
  generalize (decide (1 ≤ s.size) && decide (s.size ≤ 12)) = b at HW ⊢
  rcases b with _ | _
  · go_enter Tryd.func72, Tryd.ntmps72
    go_wp2_with fail
    refine (HW.out _).mono ?_
    rintro e w2 ⟨rfl, rfl⟩
    go_wp2_with fail
    go_ret
    exact ⟨rfl, Below.refl _ _⟩
  · rcases R with _ | ⟨c, R⟩
    · have hv := HALL.out.1 rfl
      rw [hv]
      go_enter Tryd.func72, Tryd.ntmps72
      go_wp2_with fail
      refine (HW.out _).mono ?_
      rintro e w2 ⟨rfl, rfl⟩
      go_wp2_with fail
      refine (HT.out _).mono ?_
      rintro e w3 ⟨rfl, hb3⟩
      go_wp2_with fail
      go_ret
      exact ⟨rfl, hb3⟩
    · have hv : s.data.toList.all lowerB = false := by
        rw [← Bool.not_eq_true, ← HALL.out]; simp
      rw [hv]
      go_enter Tryd.func72, Tryd.ntmps72
      go_wp2_with fail
      refine (HW.out _).mono ?_
      rintro e w2 ⟨rfl, rfl⟩
      go_wp2_with fail
      refine (HT.out _).mono ?_
      rintro e w3 ⟨rfl, hb3⟩
      have hne : (ByteArray.toList (ByteArray.mk (c :: R).toArray) == ByteArray.toList (ByteArray.mk #[])) = false := str_ne (by simp)
      go_wp2_with fail
      go_ret
      exact ⟨rfl, hb3⟩
/-- the table of the library -/
def TB (w : World) : Prop := 0 < w.heap.size ∧ ∀ j, j < 32 → w.cell? ⟨0, j, none⟩ = some (.int .u8 (Lib.deBruijn32tab.getD j 0 : Nat))
theorem TB.ext {w w' : World} (h : TB w) (hb : Below w.heap.size w w') : TB w' := ⟨Nat.lt_of_lt_of_le h.1 hb.size, fun j hj => (hb.cell (p := ⟨0, j, none⟩) h.1).trans (h.2 j hj)⟩
theorem TB.of {w w' : World} {B : Nat} (h : TB w) (hB : w.heap.size ≤ B) (hb : Below B w w') : TB w' := h.ext (hb.mono hB)
theorem wrap32 {n : Nat} (h : n < 4294967296) : IntKind.u32.wrap (n : Int) = (n : Int) := by
  have hk : IntKind.u32.wrap (n : Int) = (n : Int) % 4294967296 := by simp [IntKind.wrap, IntKind.signed, IntKind.bits]
  rw [hk]; omega
theorem tz16_any (x : Nat) (w : World) (hx : x < 65536) (h0 : x ≠ 0) (hT : TB w) :
    Calls Tryd.prog 76 #[.int .u16 x] w fun e w' => e = .returned (.int .i64 (Lib.ctz 16 x : Nat)) ∧ w = w' := by
  obtain ⟨hlow, hk⟩ := Lib.lowest_bit 16 x h0 hx
  obtain ⟨hi, htab⟩ := Lib.deBruijn32_at (Lib.ctz 16 x) (by omega)
  have hcell := hT.2 _ hi
  rw [htab] at hcell
  have e1 : IntKind.u16.wrap (-(x : Int)) = ((65536 - x : Nat) : Int) := by
    have hk : IntKind.u16.wrap (-(x : Int)) = (-(x : Int)) % 65536 := by simp [IntKind.wrap, IntKind.signed, IntKind.bits]
    rw [hk]; omega
  have e2 : bits BinOp.and IntKind.u16 (x : Int) ((65536 - x : Nat) : Int) = ((2 ^ Lib.ctz 16 x : Nat) : Int) := by
    rw [and16 hx (by omega)]
    exact congrArg _ hlow
  generalize Lib.ctz 16 x = k at *
  have hp : 2 ^ k ≤ 2 ^ 15 := Nat.pow_le_pow_right (by decide) (by omega)
  obtain ⟨P, hP⟩ : ∃ P, 2 ^ k = P := ⟨_, rfl⟩
  rw [hP] at hp hi hcell e2
  have e3 : IntKind.u32.wrap (P : Int) = (P : Int) := wrap32 (by omega)
  have e4 : IntKind.u32.wrap ((P : Int) * 125613361) = ((P * 125613361 % 4294967296 : Nat) : Int) := by
    have hk : IntKind.u32.wrap ((P : Int) * 125613361) = ((P : Int) * 125613361) % 4294967296 := by simp [IntKind.wrap, IntKind.signed, IntKind.bits]
    rw [hk]; omega
  obtain ⟨Z, hZ⟩ : ∃ Z, P * 125613361 % 4294967296 = Z := ⟨_, rfl⟩
  rw [hZ] at hi hcell e4
  have e5 : ((Z : Int) / 134217728) = ((Z / 134217728 : Nat) : Int) := by omega
  obtain ⟨j, hj⟩ : ∃ j, Z / 134217728 = j := ⟨_, rfl⟩
  rw [hj] at hi hcell e5
  have e6 : IntKind.i64.wrap (k : Int) = (k : Int) := IntWalk.i64_in _ (by omega)
  have hx0 : ((x : Int) == 0) = false := by rw [beq_eq_false_iff_ne]; omega
  have i0 : (0 : Int) ≤ (j : Int) := by omega
  have i1 : (j : Int) < 32 := by omega
  clear hP hZ hj hlow htab hT h0
  go_enter Tryd.func76, Tryd.ntmps76
  go_wp2_with (simp only [e1, e2, e3, e4, e5])
  go_ret
  exact ⟨rfl, rfl⟩
end Go.Proofs.YtcgdalabenflmaaDoor
/- Rite: sets and moments, walked: has, of, list, isList, on, with. -/
namespace Go.Proofs.YtcgdalabenflmaaDoor
open Go Go.RowKit Go.Shelf
set_option maxHeartbeats 4000000
set_option maxRecDepth 100000
theorem has_any (s i : Nat) (w : World) (hs : s < 65536) (hi : i < 16) :
    Calls Tryd.prog 70 #[.int .u16 s, .int .i64 i] w fun e w' => e = .returned (.bool (s.testBit i)) ∧ w = w' := by
  have i0 : (0 : Int) ≤ (i : Int) := by omega
  have i1 : (i : Int) ≤ 64 := by omega
  have e1 : (s : Int) / 2 ^ i = ((s / 2 ^ i : Nat) : Int) := by rw [Int.natCast_ediv, Int.natCast_pow]; rfl
  have e2 : bits BinOp.and IntKind.u16 ((s / 2 ^ i : Nat) : Int) ((1 : Nat) : Int) = (((s / 2 ^ i) &&& 1 : Nat) : Int) := and16 (Nat.lt_of_le_of_lt (Nat.div_le_self _ _) hs) (by decide)
  have e3 : (bits BinOp.and IntKind.u16 ((s / 2 ^ i : Nat) : Int) 1 == 1) = s.testBit i := by
    rw [show (1 : Int) = ((1 : Nat) : Int) from rfl, e2, Nat.and_one_is_mod, Nat.testBit_eq_decide_div_mod_eq, Bool.eq_iff_iff]
    simp
    omega
  have E := hide (And.intro e1 e3)
  clear e1 e2 e3
  go_enter Tryd.func70, Tryd.ntmps70
  go_wp2_with fail
  go_ret
  exact ⟨ret_bool (by rw [E.out.1]; exact E.out.2), rfl⟩
theorem seL_step {l : List Int} {k i : Nat} (hk : k < l.length) (hx : l.getD k 0 = (i : Int)) (hi : i < 16) : seL (l.take (k + 1)) = seL (l.take k) ||| 2 ^ i := by
  refine Nat.eq_of_testBit_eq fun j => ?_
  rw [Nat.testBit_or, Nat.testBit_two_pow]
  by_cases hj : j < 16
  · rw [seL_bit _ _ hj, seL_bit _ _ hj]
    have e : l.take (k + 1) = l.take k ++ [(i : Int)] := by
      rw [List.take_succ_eq_append_getElem hk]
      rw [List.getD_eq_getElem?_getD, List.getElem?_eq_getElem hk] at hx
      simp only [Option.getD_some] at hx
      rw [hx]
    rw [e, Bool.eq_iff_iff]
    simp [List.contains_iff_mem]
    constructor
    · rintro (h | h)
      · exact .inl h
      · exact .inr (by omega)
    · rintro (h | h)
      · exact .inl h
      · exact .inr (by omega)
  · rw [bit_ge (n := 16) (seL_lt _) (by omega), bit_ge (n := 16) (seL_lt _) (by omega)]
    simp
    omega
theorem of_any (A : Option Addr) (c : Nat) (l : List Int) (w : World) (hl : l.length ≤ 1000000) (hA : LI w w.heap.size A l) (hx : ∀ x ∈ l, 0 ≤ x ∧ x < 16) :
    Calls Tryd.prog 68 #[.slice A l.length c] w fun e w' => e = .returned (.int .u16 (seL l : Nat)) ∧ w = w' := by
  have HA := hide hA
  have HX := hide hx
  obtain ⟨n, hn⟩ : ∃ n, l.length = n := ⟨_, rfl⟩
  have HN := hide hn
  rw [hn] at hl
  rw [hn]
  clear hA hx hn
  go_enter Tryd.func68, Tryd.ntmps68
  go_wp2_with fail
  go_loopw [2, 4, 7] (fun s _ i wr => ∃ k : Nat, k ≤ n ∧ i = .int .i64 k ∧ s = .int .u16 (seL (l.take k) : Nat) ∧ Hid (w = wr)) (fun _ _ i _ => n - (intOf i).toNat)
  case atStart => exact ⟨0, Nat.zero_le _, rfl, rfl, hide rfl⟩
  case round =>
    obtain ⟨k, hk, rfl, rfl, HW⟩ := hrel
    obtain rfl := HW.out
    have hst : IntKind.i64.wrap ((k : Int) + 1) = ((k + 1 : Nat) : Int) := by rw [IntWalk.i64_in _ (by omega)]; omega
    by_cases hlt : k < n
    · have hlt' : (k : Int) < (n : Int) := by omega
      obtain ⟨b, off, rfl, hb, hc⟩ := VR1.at_ HA.out (show k < l.length by rw [HN.out]; exact hlt)
      have hm : l.getD k 0 ∈ l := by
        have h1 : k < l.length := by rw [HN.out]; exact hlt
        rw [List.getD_eq_getElem?_getD, List.getElem?_eq_getElem h1]
        exact List.getElem_mem h1
      have hxx := HX.out _ hm
      obtain ⟨i, hi⟩ : ∃ i : Nat, l.getD k 0 = (i : Int) := ⟨(l.getD k 0).toNat, by omega⟩
      rw [hi] at hxx
      have HS := hide (seL_step (by rw [HN.out]; exact hlt) hi (by omega))
      replace hc : w.cell? ⟨b, off + k, none⟩ = some (.int .i64 (i : Int)) := by rw [← hi]; exact hc
      have hi16 : i < 16 := by omega
      have p0 : (0 : Int) ≤ (i : Int) := by omega
      have p1 : (i : Int) ≤ 64 := by omega
      have hp : 2 ^ i ≤ 2 ^ 15 := Nat.pow_le_pow_right (by decide) (by omega)
      obtain ⟨P, hP⟩ : ∃ P : Nat, 2 ^ i = P := ⟨_, rfl⟩
      have hPi : (2 : Int) ^ i = (P : Int) := by rw [← hP, Int.natCast_pow]; rfl
      rw [hP] at hp HS
      have p2 : IntKind.u16.wrap (1 * 2 ^ i) = (P : Int) := by rw [Int.one_mul, hPi]; exact wrap16 (by omega)
      have p3 : IntKind.u16.wrap (2 ^ i) = (P : Int) := by rw [hPi]; exact wrap16 (by omega)
      have p6 : IntKind.u16.wrap (P : Int) = (P : Int) := wrap16 (by omega)
      have p4 := or16 (seL_lt (l.take k)) (show P < 65536 by omega)
      have HP4 : Hid (bits BinOp.or IntKind.u16 (seL (l.take k) : Nat) (P : Nat) = ((seL (l.take (k + 1)) : Nat) : Int)) := hide (by rw [p4, HS.out])
      clear hm hxx hi hP p4 hp
      generalize seL (l.take k) = S at HP4 ⊢
      clear HS
      have p5 := HP4.out
      go_wp2_with fail
      go_roundw
      case rel => exact ⟨k + 1, by omega, by go_num, rfl, by first | exact hide rfl | exact hide trivial⟩
      case measure => simp [intOf]; omega
    · obtain rfl : k = n := by omega
      have hnl : ¬ (k : Int) < (k : Int) := by omega
      have HT : Hid (l.take k = l) := hide (by rw [← HN.out, List.take_length])
      go_wp2_with fail
      go_ret
      exact ⟨by first | rfl | (rw [HT.out]; rfl), rfl⟩
/-- of a number alone, laid for the call -/
theorem of1_any (i : Nat) (w : World) (hi : i < 16) :
    Calls Tryd.prog 68 #[.slice (some ⟨w.heap.size, 0, none⟩) 1 1] (w.alloc (.cells #[.int .i64 i] 3)) fun e w' => e = .returned (.int .u16 ((2 ^ i : Nat) : Int)) ∧ Below w.heap.size w w' := by
  refine (of_any (some ⟨w.heap.size, 0, none⟩) 1 [(i : Int)] _ (by simp) (LI.one w i) (fun x hx => by rw [List.mem_singleton.1 hx]; omega)).mono ?_
  rintro e w' ⟨rfl, rfl⟩
  refine ⟨?_, (Below.refl _ _).alloc (Nat.le_refl _) _⟩
  have h := seL_step (l := [(i : Int)]) (k := 0) (i := i) (by simp) rfl hi
  have h2 : seL [(i : Int)] = 2 ^ i := by
    have e1 : ([(i : Int)]).take (0 + 1) = [(i : Int)] := rfl
    have e2 : seL (([(i : Int)]).take 0) = 0 := rfl
    rw [e1, e2, Nat.zero_or] at h
    exact h
  rw [h2]
end Go.Proofs.YtcgdalabenflmaaDoor
/- Words that hang on no chapter: a range over an iterator that only yields the values of a list (a method value too), with a body that may write. -/
namespace Go.Proofs.YtcgdalabenflmaaDoor
open Go Go.RowKit
set_option maxHeartbeats 4000000
set_option maxRecDepth 100000
/-- what such an iterator's call does, at whatever yield -/
def SeqL {α : Type} (F : Fence) (n : Nat) (P : Program) (g : Nat) (fs lb : Array Value) (encs : α → Array Value) (R : World → Prop) (L : List α) (w : World) : Prop :=
  ∀ (l : Nat) (J Jx : List α → World → Prop) (W : World), Below w.heap.size w W → (∀ pre W, J pre W → R W) →
    (∀ pre x W1, pre ++ [x] <+: L → J pre W1 → YieldAt F (n - 1) P l (encs x) W1 fun e W' =>
      (e = .returned (.bool true) ∧ J (pre ++ [x]) W') ∨ (e = .returned (.bool false) ∧ Jx (pre ++ [x]) W')) →
    J [] W →
    CallsIn F n P g (fs ++ #[.func (.yield l) #[] #[]] ++ lb) W fun e W' => (∃ v, e = .returned v) ∧ (J L W' ∨ ∃ pre, pre <+: L ∧ Jx pre W')
variable {F : Fence} {n : Nat} {P : Program}
theorem wpIn_rangeFunc_list {α : Type} {g : Operand} {ps : Array Tmp} {assign body : Code} {Q : Exit → Act → World → Prop} {a : Act} {w : World}
    (hro : F.round = none) (h1 : 1 ≤ n) {gf : Nat} {fs lb : Array Value} (hg : a.eval g = .func (.func gf) fs lb) (hFg : F.fn gf) (eg : ∀ args w, (callFunc gf args).run P w = .ok (.enter gf args) w)
    {encs : α → Array Value} {R : World → Prop} {L : List α} {w0 : World} (hseq : SeqL F (n - 1) P gf fs lb encs R L w0)
    (hb0 : Below w0.heap.size w0 w) (hps : ∀ x, (encs x).size = ps.size)
    (I : List α → World → Prop) (Ix : Code → List α → World → Prop) (hI : OwnFrom w.heap.size I) (hIR : ∀ pre W, I pre W → R W) (hIx : ∀ c, OwnFrom w.heap.size (Ix c)) (h0 : I [] w) (a₁ : α → Act)
    (hassign : ∀ (l : Nat) (x : α) (W : World) (K : Act → World → Prop), K (a₁ x) W →
      assign.wpIn (F.inRound l) (n - 1 - 1) P (Exit.then K (fun _ _ _ => False)) { tmps := (ps.zip (encs x)).foldl (fun t (p, v) => t.setIfInBounds p v) a.tmps, defers := [] } W)
    (hbody : ∀ (l : Nat) (pre : List α) (x : α) (W : World), pre ++ [x] <+: L → I pre W → body.wpIn (F.inRound l) (n - 1 - 1) P (ownPostG w.heap.size (fun _ _ => True) I Ix (pre ++ [x]) W) (a₁ x) W)
    (hdone : ∀ (D : Nat) (W : World), w.heap.size ≤ D → I L W → W.heap[D]? = some (.deferred (some [])) → Q .normal { a with defers := { target := .collected D, args := #[] } :: a.defers } W)
    (hstop : ∀ (D : Nat) (c : Code) (pre : List α) (W : World), w.heap.size ≤ D → pre <+: L → Ix c pre W → W.heap[D]? = some (.deferred (some [])) → c.wpIn F n P Q { a with defers := { target := .collected D, args := #[] } :: a.defers } W) :
    (Code.rangeFunc g ps assign body).wpIn F n P Q a w := by
  refine wpIn_rangeFunc ?_
  intro fn hfn
  rw [hro]
  obtain ⟨rec, hrec⟩ : ∃ rec : LoopState → Option Code → Loop, rec = fun st pe => { state := st, pending := pe, fn, tmps := a.tmps, params := ps, assign, body, defers := w.heap.size } := ⟨_, rfl⟩
  obtain ⟨W1, hW1⟩ : ∃ W1, (w.alloc (.deferred (some []))).alloc (.loop (rec .ready none)) = W1 := ⟨_, rfl⟩
  have hsz : W1.heap.size = w.heap.size + 2 := by rw [← hW1]; simp
  have hL1 : W1.heap[w.heap.size + 1]? = some (.loop (rec .ready none)) := by
    rw [← hW1]; have := World.alloc_heap_new (w.alloc (.deferred (some []))) (.loop (rec .ready none)); rwa [World.size_alloc] at this
  have hK1 : W1.heap[w.heap.size]? = some (.deferred (some [])) := by
    rw [← hW1]; exact (Below.heap_alloc _ _ _ (by simp)).trans (World.alloc_heap_new w _)
  have hI1 : I [] W1 := by rw [← hW1]; exact hI.alloc _ (hI.alloc _ h0)
  have hb1 : Below w0.heap.size w0 W1 := by
    rw [← hW1]; exact hb0.trans ((((Below.refl _ w).alloc (Nat.le_refl _) _).alloc (by simp) _).mono hb0.size)
  have hup : ∀ {row : Option Nat}, (∀ r, row = some r → W1.heap.size ≤ r) → ∀ r, row = some r → w.heap.size ≤ r := fun hr r e => by have := hr r e; omega
  have hst : ∀ {A B : World} {row : Option Nat} {k : Nat} {o : Obj}, A.grownBy B row → (∀ r, row = some r → W1.heap.size ≤ r) → k < w.heap.size + 2 → A.heap[k]? = some o → B.heap[k]? = some o := fun {A B row k o} hg hr hk h => by
    refine (hg.block k ?_ (fun e => ?_)).trans h
    · rcases Nat.lt_or_ge k A.heap.size with hl | hl
      · exact hl
      · rw [Array.getElem?_eq_none hl] at h; cases h
    · have := hr k e.symm; omega
  refine ⟨w.heap.size + 1, [{ target := .collected w.heap.size, args := #[] }], W1, { target := .fn (.func gf) lb, args := fs ++ #[.func (.yield (w.heap.size + 1)) #[] #[]] }, W1, gf,
    fs ++ #[.func (.yield (w.heap.size + 1)) #[] #[]] ++ lb, W1, ?_, ?_, ?_, ?_, fun _ => h1, ?_⟩
  · rw [← hW1, hrec]; exact run_enterLoop_outer _ _ _ _ _
  · simp only [resolve, hg]
    simp [go_sem]
  · intro f' hf'; simp [Target.leads] at hf'; subst hf'; exact hFg
  · simp [invoke, go_sem, eg]
  · refine (hseq (w.heap.size + 1)
      (fun pre W => I pre W ∧ W.heap[w.heap.size + 1]? = some (.loop (rec .ready none)) ∧ W.heap[w.heap.size]? = some (.deferred (some [])))
      (fun pre W => ∃ c, Ix c pre W ∧ W.heap[w.heap.size + 1]? = some (.loop (rec .done (some c))) ∧ W.heap[w.heap.size]? = some (.deferred (some [])))
      W1 hb1
      (fun pre W h => hIR pre W h.1) ?_ ⟨hI1, hL1, hK1⟩).mono ?_
    · rintro pre x W hlen ⟨hi, hl, hk⟩
      have hlt : w.heap.size + 1 < W.heap.size := (Array.getElem?_eq_some_iff.1 hl).1
      have hy := run_yield (P := P) (args := encs x) hl (by rw [hrec]; exact hps x)
      rw [hrec] at hy
      refine ⟨fn, _, assign, body, hy, roundIn_of_wpIn hfn (hassign _ x W _ ⟨_, run_beginRound hl (by rw [hrec]), ?_⟩)⟩
      have hl2 : (W.putObj (w.heap.size + 1) (.loop { rec .ready none with state := .busy })).heap[w.heap.size + 1]? = some (.loop { rec .ready none with state := .busy }) := World.putObj_heap_same hlt
      have hk2 : (W.putObj (w.heap.size + 1) (.loop { rec .ready none with state := .busy })).heap[w.heap.size]? = some (.deferred (some [])) := (World.putObj_heap_other (by omega)).trans hk
      refine wpIn_mono (hbody _ pre x _ hlen (hI.putObj _ hi (by omega) hl rfl)) ?_
      have fin : ∀ (jump : Option Code) (W3 : World), KeepsFrom w.heap.size (W.putObj (w.heap.size + 1) (.loop { rec .ready none with state := .busy })) W3 →
          (Instr.endRound (w.heap.size + 1) jump).run P W3 = .ok (.bool jump.isNone) (W3.putObj (w.heap.size + 1) (.loop (rec (if jump.isNone then .ready else .done) jump))) ∧
          W3.heap[w.heap.size + 1]? = some (.loop { rec .ready none with state := .busy }) ∧
          (W3.putObj (w.heap.size + 1) (.loop (rec (if jump.isNone then .ready else .done) jump))).heap[w.heap.size + 1]? = some (.loop (rec (if jump.isNone then .ready else .done) jump)) ∧
          (W3.putObj (w.heap.size + 1) (.loop (rec (if jump.isNone then .ready else .done) jump))).heap[w.heap.size]? = some (.deferred (some [])) := fun jump W3 hk3 => by
        have hl3 := hk3.same _ _ (by omega) hl2 rfl
        have := run_endRound (P := P) jump hl3
        rw [hrec] at this ⊢
        exact ⟨this, by rw [hrec] at hl3; exact hl3, World.putObj_heap_same (Array.getElem?_eq_some_iff.1 hl3).1, (World.putObj_heap_other (by omega)).trans (hk3.same _ _ (Nat.le_refl _) hk2 rfl)⟩
      rintro e a3 W3 hp
      cases e with
      | normal =>
        obtain ⟨hk3, hkp3, hi3⟩ := hp
        obtain ⟨hr, hl3, hl4, hk4⟩ := fin none W3 hk3
        exact ⟨_, _, hr, .inl ⟨rfl, hI.putObj _ hi3 (by omega) hl3 rfl, hl4, hk4⟩⟩
      | ret =>
        obtain ⟨hk3, hi3⟩ := hp
        obtain ⟨hr, hl3, hl4, hk4⟩ := fin (some .ret) W3 hk3
        exact ⟨_, _, hr, .inr ⟨rfl, .ret, (hIx _).putObj _ hi3 (by omega) hl3 rfl, hl4, hk4⟩⟩
      | exit id =>
        obtain ⟨hk3, hi3⟩ := hp
        obtain ⟨hr, hl3, hl4, hk4⟩ := fin (some (.exit id)) W3 hk3
        exact ⟨_, _, hr, .inr ⟨rfl, .exit id, (hIx _).putObj _ hi3 (by omega) hl3 rfl, hl4, hk4⟩⟩
      | goto t =>
        obtain ⟨hk3, hi3⟩ := hp
        obtain ⟨hr, hl3, hl4, hk4⟩ := fin (some (.goto t)) W3 hk3
        exact ⟨_, _, hr, .inr ⟨rfl, .goto t, (hIx _).putObj _ hi3 (by omega) hl3 rfl, hl4, hk4⟩⟩
      | panic ch => exact hp.elim
      | outgrown => exact hp.elim
    · rintro e W2 ⟨⟨v, rfl⟩, (⟨hi, hl, hk⟩ | ⟨pre, hSp, c, hi, hl, hk⟩)⟩
      · exact ⟨none, _, by have := run_endLoop (P := P) hl (by rw [hrec]; simp); rw [hrec] at this; exact this, hdone _ _ (Nat.le_refl _) (hI.putObj _ hi (by omega) hl rfl) ((World.putObj_heap_other (by omega)).trans hk)⟩
      · exact ⟨some c, _, by have := run_endLoop (P := P) hl (by rw [hrec]; simp); rw [hrec] at this; exact this, hstop _ c pre _ (Nat.le_refl _) hSp ((hIx c).putObj _ hi (by omega) hl rfl) ((World.putObj_heap_other (by omega)).trans hk)⟩
theorem wpListIn_append_run {ops : Array Oper} {rest : List Oper} {Q : Exit → Act → World → Prop} {o : Oper} {a : Act} {w w' : World} (hfn : ∀ f, F.fn f) (hgd : o.guard = none) (s x : Operand) (t : TypeId) {v u r : Value}
    (ho : o.op = .call { callee := .builtin .append, args := #[s, x], argTypes := #[t, t] }) (hs : a.eval s = v) (hx : a.eval x = u)
    (hrun : (Builtin.append_ #[t, t] o.type #[v, u]).run P w = .ok r w') (h : wpListIn F n P ops Q rest (a.put o.dst r) w') : wpListIn F n P ops Q (o :: rest) a w :=
  wpListIn_plain hgd fun _ hK => wpIn_append_run s x t hfn ho hs hx hrun (hK _ _ h)
end Go.Proofs.YtcgdalabenflmaaDoor
