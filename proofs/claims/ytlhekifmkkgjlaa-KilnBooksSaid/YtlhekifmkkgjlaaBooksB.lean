/- Contracts of chapter 8 on the book: Mould, Dry, Count of a valid kind. -/
import Derived.Test.YtlhekifmkkgjlaaBooksA
import Derived.OrdersIn
import Derived.OrdersHeld
import Derived.RangeFuncCalls
import Derived.RangeFuncNested
import Derived.RangeFuncBound
import Derived.RangeFuncLeaves
import Derived.Shelf.Abstract
import Derived.Shelf.RegionOpen
import Derived.OwnWalkIn
import Derived.TacticsInMore
import Derived.LoopNIn
import Derived.LoopIn
import Derived.Laws.CopyOwn
import Derived.Deep.RegionLaw
set_option linter.unusedSimpArgs false
set_option linter.unusedVariables false
set_option linter.unnecessarySimpa false
namespace Go.Proofs.Ytlhekifmkkgjlaa
open Go Go.RowKit
set_option maxHeartbeats 800000
theorem mould_full (b S n k : Nat) (spv ov : Value) (room m : Int) (x : Wa) (w : World) (hb : Blk w b 148 #[spv, .int .i64 room, .slice (some ⟨S, 0, none⟩) n n, ov]) (hn : n ≤ 20) (hk : k < n) (hS : KindW w S (k * 7) x) (ho : OkW x) (h0 : 0 ≤ m) (h1 : m ≤ 1000000000) (hf : 1000000000 < x.wet + x.dry + x.burning + x.fired + x.laid + x.broken + m) :
    Calls Try.prog 38 #[.pointer (some ⟨b, 0, none⟩), .int .i64 k, .int .i64 m] w fun e w' => e = .returned (.int .i64 8) ∧ Below w.heap.size w w' := by
  have b0 : Below w.heap.size w (w.alloc (.cells #[.int .i64 m] 3)) := (Below.refl _ _).alloc (Nat.le_refl _) _
  have HC := hide (change_ok b S n k spv ov room m 8 82 #[.pointer (some ⟨w.heap.size, 0, none⟩)] id _ (hb.ext b0) hn hk h0 h1 (enters_of Try.func82 (by kernel_rfl) rfl) (fun W h => h) (fun W h => mould1_full _ _ _ _ _ _ _ m S (k * 7) w.heap.size W ((hS.below b0 hS.1).below h (by have := hS.1; simp only [World.size_alloc]; omega)) ho ((h.cell (by simp)).trans (by simp)) (by have := h.size; simp at this; omega) h0 h1 hf))
  have B0 := hide b0
  clear b0 hb hS
  go_enter Try.func38, Try.ntmps38
  go_wp2_with fail
  refine HC.out.mono ?_
  rintro e w1 ⟨rfl, hb1⟩
  go_wp2_with fail
  go_ret
  exact ⟨rfl, B0.out.trans (hb1.mono (by simp only [World.size_alloc]; omega))⟩
theorem mould_ok (b S n k : Nat) (spv ov : Value) (room m : Int) (x : Wa) (w : World) (hb : Blk w b 148 #[spv, .int .i64 room, .slice (some ⟨S, 0, none⟩) n n, ov]) (hn : n ≤ 20) (hk : k < n) (hS : KindW w S (k * 7) x) (ho : OkW x) (h0 : 0 ≤ m) (h1 : m ≤ 1000000000) (hf : x.wet + x.dry + x.burning + x.fired + x.laid + x.broken + m ≤ 1000000000) :
    Calls Try.prog 38 #[.pointer (some ⟨b, 0, none⟩), .int .i64 k, .int .i64 m] w fun e w' => e = .returned (.int .i64 0) ∧ Below w.heap.size (w.setCell ⟨S, k * 7, none⟩ (.int .i64 (x.wet + m))) w' := by
  have b0 : Below w.heap.size w (w.alloc (.cells #[.int .i64 m] 3)) := (Below.refl _ _).alloc (Nat.le_refl _) _
  have HC := hide (change_ok b S n k spv ov room m 0 82 #[.pointer (some ⟨w.heap.size, 0, none⟩)] (fun W => W.setCell ⟨S, k * 7, none⟩ (.int .i64 (x.wet + m))) _ (hb.ext b0) hn hk h0 h1 (enters_of Try.func82 (by kernel_rfl) rfl) (fun W h => setB h _ _) (fun W h => mould1_ok _ _ _ _ _ _ _ m S (k * 7) w.heap.size W ((hS.below b0 hS.1).below h (by have := hS.1; simp only [World.size_alloc]; omega)) ho ((h.cell (by simp)).trans (by simp)) (by have := h.size; simp at this; omega) h0 h1 hf))
  have B0 := hide b0
  clear b0 hb hS
  go_enter Try.func38, Try.ntmps38
  go_wp2_with fail
  refine HC.out.mono ?_
  rintro e w1 ⟨rfl, hb1⟩
  go_wp2_with fail
  go_ret
  exact ⟨rfl, (setB B0.out _ _).trans (hb1.mono (by simp only [World.size_alloc]; omega))⟩
theorem dry_arg (b S n k : Nat) (spv ov : Value) (room m : Int) (x : Wa) (w : World) (hb : Blk w b 148 #[spv, .int .i64 room, .slice (some ⟨S, 0, none⟩) n n, ov]) (hn : n ≤ 20) (hk : k < n) (hS : KindW w S (k * 7) x) (ho : OkW x) (br : Int) (h0 : 0 ≤ m) (h1 : m ≤ 1000000000) (hbr : ¬ (0 ≤ br ∧ br ≤ m)) :
    Calls Try.prog 39 #[.pointer (some ⟨b, 0, none⟩), .int .i64 k, .int .i64 m, .int .i64 br] w fun e w' => e = .returned (.int .i64 2) ∧ Below w.heap.size w w' := by
  have b0 : Below w.heap.size w ((w.alloc (.cells #[.int .i64 m] 3)).alloc (.cells #[.int .i64 br] 3)) := ((Below.refl _ _).alloc (Nat.le_refl _) _).alloc (by simp) _
  have q1 : ((w.alloc (.cells #[.int .i64 m] 3)).alloc (.cells #[.int .i64 br] 3)).heap.size = w.heap.size + 1 + 1 := by simp
  have HC := hide (change_ok b S n k spv ov room m 2 84 #[.pointer (some ⟨w.heap.size, 0, none⟩), .pointer (some ⟨w.heap.size + 1, 0, none⟩)] id _ (hb.ext b0) hn hk h0 h1 (enters_of Try.func84 (by kernel_rfl) rfl) ?_ (fun W h => dry1_arg _ _ _ _ _ _ _ m br S (k * 7) w.heap.size (w.heap.size + 1) W ((hS.below b0 hS.1).below h (by have := hS.1; omega)) ho ((h.cell (by simp; omega)).trans (by simp [go_sem])) ((h.cell (by simp)).trans (by simp [go_sem])) hbr))
  · have B0 := hide b0
    clear b0 hb hS q1
    go_enter Try.func39, Try.ntmps39
    go_wp2_with fail
    refine HC.out.mono ?_
    rintro e w1 ⟨rfl, hb1⟩
    go_wp2_with fail
    go_ret
    exact ⟨rfl, B0.out.trans (hb1.mono (by simp only [World.size_alloc]; omega))⟩
  · exact fun W h => h
theorem dry_state (b S n k : Nat) (spv ov : Value) (room m : Int) (x : Wa) (w : World) (hb : Blk w b 148 #[spv, .int .i64 room, .slice (some ⟨S, 0, none⟩) n n, ov]) (hn : n ≤ 20) (hk : k < n) (hS : KindW w S (k * 7) x) (ho : OkW x) (br : Int) (h0 : 0 ≤ m) (h1 : m ≤ 1000000000) (hbr : 0 ≤ br ∧ br ≤ m) (hlt : x.wet < m) :
    Calls Try.prog 39 #[.pointer (some ⟨b, 0, none⟩), .int .i64 k, .int .i64 m, .int .i64 br] w fun e w' => e = .returned (.int .i64 9) ∧ Below w.heap.size w w' := by
  have b0 : Below w.heap.size w ((w.alloc (.cells #[.int .i64 m] 3)).alloc (.cells #[.int .i64 br] 3)) := ((Below.refl _ _).alloc (Nat.le_refl _) _).alloc (by simp) _
  have q1 : ((w.alloc (.cells #[.int .i64 m] 3)).alloc (.cells #[.int .i64 br] 3)).heap.size = w.heap.size + 1 + 1 := by simp
  have HC := hide (change_ok b S n k spv ov room m 9 84 #[.pointer (some ⟨w.heap.size, 0, none⟩), .pointer (some ⟨w.heap.size + 1, 0, none⟩)] id _ (hb.ext b0) hn hk h0 h1 (enters_of Try.func84 (by kernel_rfl) rfl) ?_ (fun W h => dry1_state _ _ _ _ _ _ _ m br S (k * 7) w.heap.size (w.heap.size + 1) W ((hS.below b0 hS.1).below h (by have := hS.1; omega)) ho ((h.cell (by simp; omega)).trans (by simp [go_sem])) ((h.cell (by simp)).trans (by simp [go_sem])) (by have := h.size; omega) hbr hlt))
  · have B0 := hide b0
    clear b0 hb hS q1
    go_enter Try.func39, Try.ntmps39
    go_wp2_with fail
    refine HC.out.mono ?_
    rintro e w1 ⟨rfl, hb1⟩
    go_wp2_with fail
    go_ret
    exact ⟨rfl, B0.out.trans (hb1.mono (by simp only [World.size_alloc]; omega))⟩
  · exact fun W h => h
def dryF (S o : Nat) (x : Wa) (m br : Int) (W : World) : World := mv (mv W S o (o + 1) (x.wet - m) (x.dry + m)) S (o + 1) (o + 5) (x.dry + m - br) (x.broken + br)
theorem dryF_B {B S o : Nat} {x : Wa} {m br : Int} {w W : World} (h : Below B w W) : Below B (dryF S o x m br w) (dryF S o x m br W) := mvB (mvB h _ _ _ _ _) _ _ _ _ _
theorem dry_ok (b S n k : Nat) (spv ov : Value) (room m : Int) (x : Wa) (w : World) (hb : Blk w b 148 #[spv, .int .i64 room, .slice (some ⟨S, 0, none⟩) n n, ov]) (hn : n ≤ 20) (hk : k < n) (hS : KindW w S (k * 7) x) (ho : OkW x) (br : Int) (h0 : 0 ≤ m) (h1 : m ≤ 1000000000) (hbr : 0 ≤ br ∧ br ≤ m) (hlt : m ≤ x.wet) :
    Calls Try.prog 39 #[.pointer (some ⟨b, 0, none⟩), .int .i64 k, .int .i64 m, .int .i64 br] w fun e w' => e = .returned (.int .i64 0) ∧ Below w.heap.size (dryF S (k * 7) x m br w) w' := by
  have b0 : Below w.heap.size w ((w.alloc (.cells #[.int .i64 m] 3)).alloc (.cells #[.int .i64 br] 3)) := ((Below.refl _ _).alloc (Nat.le_refl _) _).alloc (by simp) _
  have q1 : ((w.alloc (.cells #[.int .i64 m] 3)).alloc (.cells #[.int .i64 br] 3)).heap.size = w.heap.size + 1 + 1 := by simp
  have HC := hide (change_ok b S n k spv ov room m 0 84 #[.pointer (some ⟨w.heap.size, 0, none⟩), .pointer (some ⟨w.heap.size + 1, 0, none⟩)] (dryF S (k * 7) x m br) _ (hb.ext b0) hn hk h0 h1 (enters_of Try.func84 (by kernel_rfl) rfl) ?_ (fun W h => dry1_ok _ _ _ _ _ _ _ m br S (k * 7) w.heap.size (w.heap.size + 1) W ((hS.below b0 hS.1).below h (by have := hS.1; omega)) ho ((h.cell (by simp; omega)).trans (by simp [go_sem])) ((h.cell (by simp)).trans (by simp [go_sem])) (by have := h.size; omega) (by have := h.size; omega) (by have := hS.1; omega) (by have := hS.1; omega) hbr hlt))
  · have B0 := hide b0
    clear b0 hb hS q1
    go_enter Try.func39, Try.ntmps39
    go_wp2_with fail
    refine HC.out.mono ?_
    rintro e w1 ⟨rfl, hb1⟩
    go_wp2_with fail
    go_ret
    exact ⟨rfl, (dryF_B B0.out).trans (hb1.mono (by simp only [World.size_alloc]; omega))⟩
  · exact fun W h => dryF_B h
def agg7 (x : Wa) : Value := .agg #[.int .i64 x.wet, .int .i64 x.dry, .int .i64 x.burning, .int .i64 x.fired, .int .i64 x.laid, .int .i64 x.broken, .int .i64 x.missing]
def set7W (q : Nat) (x : Wa) (W : World) : World := set7 W q x.wet x.dry x.burning x.fired x.laid x.broken x.missing
theorem set7B {B q : Nat} {x : Wa} {w W : World} (h : Below B w W) : Below B (set7W q x w) (set7W q x W) := setB (setB (setB (setB (setB (setB (setB h _ _) _ _) _ _) _ _) _ _) _ _) _ _
theorem set7_blk {w : World} {q : Nat} {t : TypeId} {a b c d e f g : Value} (h : Blk w q t #[a, b, c, d, e, f, g]) (x : Wa) :
    Blk (set7W q x w) q t #[.int .i64 x.wet, .int .i64 x.dry, .int .i64 x.burning, .int .i64 x.fired, .int .i64 x.laid, .int .i64 x.broken, .int .i64 x.missing] := by
  unfold set7W set7
  simpa using ((((((h.set_ 0 (.int .i64 x.wet)).set_ 1 (.int .i64 x.dry)).set_ 2 (.int .i64 x.burning)).set_ 3 (.int .i64 x.fired)).set_ 4 (.int .i64 x.laid)).set_ 5 (.int .i64 x.broken)).set_ 6 (.int .i64 x.missing)
theorem size_set7 (q : Nat) (x : Wa) (W : World) : (set7W q x W).heap.size = W.heap.size := by simp [set7W, set7, size_set]
theorem set7_new {B q : Nat} {x : Wa} {w W : World} (h : Below B w W) (hq : B ≤ q) : Below B w (set7W q x W) :=
  ((((((h.setCell (p := ⟨q, 0, none⟩) hq _).setCell (p := ⟨q, 1, none⟩) hq _).setCell (p := ⟨q, 2, none⟩) hq _).setCell (p := ⟨q, 3, none⟩) hq _).setCell (p := ⟨q, 4, none⟩) hq _).setCell (p := ⟨q, 5, none⟩) hq _).setCell (p := ⟨q, 6, none⟩) hq _
theorem count_ok (b S n k : Nat) (spv ov : Value) (room : Int) (x : Wa) (w : World) (hb : Blk w b 148 #[spv, .int .i64 room, .slice (some ⟨S, 0, none⟩) n n, ov]) (hn : n ≤ 20) (hk : k < n) (hS : KindW w S (k * 7) x) (ho : OkW x) :
    Calls Try.prog 37 #[.pointer (some ⟨b, 0, none⟩), .int .i64 k] w fun e w' => e = .returned (.tuple #[agg7 x, .int .i64 0]) ∧ Below w.heap.size w w' := by
  have b0 : Below w.heap.size w (w.alloc (.cells #[.int .i64 0, .int .i64 0, .int .i64 0, .int .i64 0, .int .i64 0, .int .i64 0, .int .i64 0] 94)) := (Below.refl _ _).alloc (Nat.le_refl _) _
  have k0 := Blk.new w 94 #[.int .i64 0, .int .i64 0, .int .i64 0, .int .i64 0, .int .i64 0, .int .i64 0, .int .i64 0]
  have HC := hide (change_ok b S n k spv ov room 0 0 81 #[.pointer (some ⟨w.heap.size, 0, none⟩)] (set7W w.heap.size x) _ (hb.ext b0) hn hk (by omega) (by omega) (enters_of Try.func81 (by kernel_rfl) rfl) (fun W h => set7B h) (fun W h => count1_any _ _ _ _ _ _ _ S (k * 7) w.heap.size _ _ _ _ _ _ _ _ W ((hS.below b0 hS.1).below h (by have := hS.1; simp only [World.size_alloc]; omega)) ho (k0.ext h) (by have := hS.1; omega)))
  have B0 := hide b0
  have K0 := hide (set7_blk k0 x)
  clear b0 hb hS k0
  go_enter Try.func37, Try.ntmps37
  go_wp2_with fail
  refine HC.out.mono ?_
  rintro e w1 ⟨rfl, hb1⟩
  have K1 := K0.out.below hb1 (by simp)
  have c0 := K1.cell 0
  have c1 := K1.cell 1
  have c2 := K1.cell 2
  have c3 := K1.cell 3
  have c4 := K1.cell 4
  have c5 := K1.cell 5
  have c6 := K1.cell 6
  have f0 := K1.frozen 0
  have f1 := K1.frozen 1
  have f2 := K1.frozen 2
  have f3 := K1.frozen 3
  have f4 := K1.frozen 4
  have f5 := K1.frozen 5
  have f6 := K1.frozen 6
  have hz := K1.lt
  simp at c0 c1 c2 c3 c4 c5 c6
  clear K1
  go_wp2_with fail
  refine bodyPost_ret (v := .tuple #[agg7 x, .int .i64 0]) (by simp [results, Try.results37, go_sem, agg7, *]) rfl ⟨rfl, ?_⟩
  exact set7_new (x := x) ((set7_new B0.out (Nat.le_refl _)).trans (hb1.mono (by simp only [World.size_alloc]; omega))) (Nat.le_refl _)
end Go.Proofs.Ytlhekifmkkgjlaa
/- A region that draws its order, within a round of a range over a function: loads taken first, under one condition on the world. After the library's laws for activations (OrdersHeld, OrdersIn). -/
namespace Go.Proofs.Ytlhekifmkkgjlaa
open Go Go.RowKit
def noDef (ops : Array Oper) : Bool := ops.all fun o => match o.op with | .defer _ => false | _ => true
theorem noDef_spec {ops : Array Oper} (h : noDef ops = true) {j : Nat} {o : Oper} (hj : ops[j]? = some o) : ∀ c, o.op ≠ .defer c := by
  intro c hc
  obtain ⟨hlt, rfl⟩ := Array.getElem?_eq_some_iff.1 hj
  have := (Array.all_eq_true.1 h) j hlt
  rw [hc] at this
  simp at this
section
variable {F : Fence} {n : Nat} {P : Program} {ops : Array Oper} {Q : Exit → Act → World → Prop} {md : Region.Mode} {S : World → Prop}
theorem YieldsIf.wpOpIn {i : Nat} {o : Oper} {v : Value} {a : Act} (hfn : ∀ f, F.fn f) (hnd : noDef ops = true) (hi : ops[i]? = some o) (hy : YieldsIf P ops S o v a)
    {K : Act → World → Prop} {w : World} (hS : S w) (h : K (a.put o.dst v) w) : wpOpIn F n P ops Q i K a w := by
  unfold Go.wpOpIn
  simp only [hi]
  rcases hy with ⟨hw, hv⟩ | ⟨hw, rfl⟩
  · simp only [hw, if_true, Oper.wpIn, Oper.semAt_eq _ _ _ (noDef_spec hnd hi), hv w hS, Oper.uponIn]; exact ⟨fun f _ => hfn f, h⟩
  · simp only [hw, Bool.false_eq_true, if_false]; exact ⟨fun f _ => hfn f, h⟩
theorem wpOpIn_putJ {j : Nat} {oi oj : Oper} {v : Value} (hnd : noDef ops = true) (hj : ops[j]? = some oj) (hap : oi.apart ops oj = true)
    (hsi : ∀ cs b, oi.op ≠ .select cs b) (hsj : ∀ cs b, oj.op ≠ .select cs b)
    (hQ : ∀ c a w, Q (.panic c) (a.put oi.dst v) w → Q (.panic c) a w) {K : Act → World → Prop} {a : Act} {w : World} (hfn : ∀ f, F.fn f)
    (hy : YieldsIf P ops S oi v a) (h : wpOpIn F n P ops Q j K (a.put oi.dst v) w) :
    wpOpIn F n P ops Q j (fun a' w' => YieldsIf P ops S oi v a' ∧ K (a'.put oi.dst v) w') a w := by
  obtain ⟨h1, h2, h3⟩ := Oper.apart_spec hap
  have hdj := noDef_spec hnd hj
  have keep : ∀ (a : Act), YieldsIf P ops S oi v a → ∀ u, YieldsIf P ops S oi v (a.put oj.dst u) := fun a hy u =>
    hy.of_same (execOp_put oi hsi a oj.dst u h3) (wanted_put oi a oj.dst u h3)
  have keepD : ∀ d, YieldsIf P ops S oi v { a with defers := d :: a.defers } := fun d => hy.of_same rfl rfl
  unfold wpOpIn at *
  simp only [hj] at *
  rw [wanted_put oj a oi.dst v h1] at h
  split
  · rename_i hw
    simp only [hw, if_true] at h
    unfold Oper.wpIn at *
    refine ⟨fun f _ => hfn f, ?_⟩
    have h := h.2
    rw [Oper.semAt_eq _ _ _ hdj, execOp_put oj hsj a oi.dst v h1] at h
    rw [Oper.semAt_eq _ _ _ hdj]
    generalize (execOp a.eval oj).run P w = r at *
    cases r with
    | ok x w' =>
      cases x <;> simp only [Oper.uponIn] at h ⊢
      case value u => exact ⟨keep a hy u, by rw [← Act.put_comm a v u h2]; exact h⟩
      case skip => exact ⟨keep a hy _, by rw [← Act.put_comm a v undef h2]; exact h⟩
      case defer d =>
        refine ⟨keep _ (keepD d) _, ?_⟩
        rw [← Act.put_comm _ v undef h2, ← Act.put_defers]
        exact h
      case enter f args =>
        refine ⟨h.1, CallsIn.mono h.2 fun e w'' he => ?_⟩
        cases e with
        | returned u => exact ⟨keep a hy u, by rw [← Act.put_comm a v u h2]; exact he⟩
        | panicked c => exact hQ _ _ _ he
        | outgrown => exact he
      case row row args => exact ⟨h.1, RowsIn.mono h.2 fun u w'' he => ⟨keep a hy u, by rw [← Act.put_comm a v u h2]; exact he⟩⟩
      case round l f tmps assign body =>
        refine ⟨h.1, RoundIn.mono h.2 fun e w'' he => ?_⟩
        cases e with
        | returned u => exact ⟨keep a hy u, by rw [← Act.put_comm a v u h2]; exact he⟩
        | panicked c => exact hQ _ _ _ he
        | outgrown => exact he
    | halt x w' =>
      cases x <;> simp only [Oper.uponIn] at h ⊢
      case panic u => exact hQ _ _ _ h
  · rename_i hw
    simp only [hw] at h
    exact ⟨fun f _ => hfn f, keep a hy _, by rw [← Act.put_comm a v undef h2]; exact h.2⟩
/-- an operation whose value hangs on no world -/
def pureOp (o : Oper) : Bool := match o.op with | .move _ => true | .assign _ => true | .extract _ _ => true | _ => false
theorem pure_any {ev : Operand → Value} {o : Oper} {v : Value} {w : World} (hp : pureOp o = true) (h : (execOp ev o).run P w = .ok (.value v) w) (w' : World) : (execOp ev o).run P w' = .ok (.value v) w' := by
  unfold pureOp at hp
  unfold execOp at h ⊢
  split at hp
  · simp_all [Sem.run_pure]
  · simp_all [Sem.run_pure]
  · rename_i t ix he
    simp only [he, Instr.extract] at h ⊢
    split at h
    · split at h
      · rename_i u hu
        simp_all [Sem.run_pure, Sem.run_bind, Result.andThen_ok]
      · simp [stuck, Sem.run_bind, Sem.run_halt, Result.andThen_halt] at h
    · simp [stuck, Sem.run_bind, Sem.run_halt, Result.andThen_halt] at h
  · cases hp
/-- an operation that waits for all others, but for those whose value hangs on no world, and those that wait for it -/
def lastOp (md : Region.Mode) (ops : Array Oper) (j : Nat) : Bool := match ops[j]? with
  | none => false
  | some o => pureOp o || (List.range ops.size).all fun k => k == j || (o.after.any fun e => Region.binds md e && e.on == k) || match ops[k]? with
    | some ok => pureOp ok || ok.after.any fun e => Region.binds md e && e.on == j
    | none => true
theorem lastOp_no {i j : Nat} {oi oj : Oper} (hi : ops[i]? = some oi) (hj : ops[j]? = some oj) (hji : j ≠ i) (hnot : ∀ e ∈ oj.after, Region.binds md e = true → e.on ≠ i)
    (hp : pureOp oi = false) (hpj : pureOp oj = false) (hnot' : ∀ e ∈ oi.after, Region.binds md e = true → e.on ≠ j) : lastOp md ops j = false := by
  rw [← Bool.not_eq_true]
  intro h
  unfold lastOp at h
  rw [hj] at h
  replace h : (pureOp oj || _) = true := h
  rw [hpj, Bool.false_or] at h
  have hlt := (Array.getElem?_eq_some_iff.1 hi).1
  have h1 := List.all_eq_true.1 h i (by simpa using hlt)
  simp only [hi, hp, Bool.or_eq_true, beq_iff_eq, Bool.false_or] at h1
  rcases h1 with (h1 | h1) | h1
  · exact hji h1.symm
  · obtain ⟨k, hk, he⟩ := Array.any_eq_true.1 h1
    simp only [Bool.and_eq_true, beq_iff_eq] at he
    exact hnot _ (Array.getElem_mem hk) he.1 he.2
  · obtain ⟨k, hk, he⟩ := Array.any_eq_true.1 h1
    simp only [Bool.and_eq_true, beq_iff_eq] at he
    exact hnot' _ (Array.getElem_mem hk) he.1 he.2
theorem lastOp_pure {i : Nat} {oi : Oper} (hi : ops[i]? = some oi) (hp : pureOp oi = true) : lastOp md ops i = true := by
  unfold lastOp
  rw [hi]
  simp [hp]
/-- an operation whose value hangs on no world leaves the world as it is -/
theorem wpOpIn_pure {j : Nat} {oj : Oper} (hnd : noDef ops = true) (hj : ops[j]? = some oj) (hp : pureOp oj = true) {K : Act → World → Prop} {a : Act} {w : World} (h : wpOpIn F n P ops Q j K a w) :
    wpOpIn F n P ops Q j (fun a' w' => w' = w ∧ K a' w') a w := by
  unfold wpOpIn at h ⊢
  simp only [hj] at h ⊢
  split
  · rename_i hw
    simp only [hw, if_true] at h
    unfold Oper.wpIn at h ⊢
    refine ⟨h.1, ?_⟩
    have h := h.2
    rw [Oper.semAt_eq _ _ _ (noDef_spec hnd hj)] at h ⊢
    unfold pureOp at hp
    unfold execOp at h ⊢
    split at hp
    · rename_i x he
      simp only [he, Sem.run_pure, Oper.uponIn] at h ⊢
      exact ⟨trivial, h⟩
    · rename_i x he
      simp only [he, Sem.run_pure, Oper.uponIn] at h ⊢
      exact ⟨trivial, h⟩
    · rename_i t ix he
      simp only [he, Instr.extract] at h ⊢
      split at h
      · split at h
        · rename_i u hu
          simp only [Sem.run_pure, Sem.run_bind, Result.andThen_ok, Oper.uponIn] at h ⊢
          exact ⟨trivial, h⟩
        · simp [stuck, Sem.run_bind, Sem.run_halt, Result.andThen_halt, Oper.uponIn] at h
      · simp [stuck, Sem.run_bind, Sem.run_halt, Result.andThen_halt, Oper.uponIn] at h
    · cases hp
  · rename_i hw
    simp only [hw] at h
    exact ⟨h.1, trivial, h.2⟩
/-- whatever order is picked, and S holds behind every operation that is carried out, but for one that waits for all others -/
def wpAnyJ (F : Fence) (n : Nat) (P : Program) (md : Region.Mode) (ops : Array Oper) (Q : Exit → Act → World → Prop) (S : World → Prop) : Nat → Array Bool → Act → World → Prop
  | 0, listed, a, w => Region.ready md ops listed = [] ∧ Q .normal a w
  | fuel + 1, listed, a, w =>
    (Region.ready md ops listed = [] → Q .normal a w) ∧
    ∀ i ∈ Region.ready md ops listed, wpOpIn F n P ops Q i (fun a' w' => (lastOp md ops i = false → S w') ∧ wpAnyJ F n P md ops Q S fuel (listed.setIfInBounds i true) a' w') a w
theorem wpAnyIn_of_J : ∀ (fuel : Nat) (listed : Array Bool) (a : Act) (w : World), wpAnyJ F n P md ops Q S fuel listed a w → wpAnyIn F n P md ops Q fuel listed a w
  | 0, _, _, _, h => h
  | fuel + 1, _, _, _, h => ⟨h.1, fun i hi => wpOpIn_mono (fun a' w' h' => wpAnyIn_of_J fuel _ a' w' h'.2) (h.2 i hi)⟩
theorem wpAnyJ_first {S' : World → Prop} {i : Nat} {oi : Oper} {v : Value} (hfn : ∀ f, F.fn f) (hnd : noDef ops = true) (hi : ops[i]? = some oi) (hsel : ∀ (j : Nat) (o : Oper) cs b, ops[j]? = some o → o.op ≠ .select cs b)
    (hQ : ∀ c a w, Q (.panic c) (a.put oi.dst v) w → Q (.panic c) a w) (hS' : (pureOp oi = true ∧ ∀ w, S' w) ∨ (pureOp oi = false ∧ ∀ w, S w → S' w)) :
    ∀ (fuel : Nat) (listed : Array Bool) (a : Act) (w : World),
      (∀ j oj, ops[j]? = some oj → j ≠ i → listed.getD j true = false → (∀ e ∈ oj.after, Region.binds md e = true → e.on ≠ i) → oi.apart ops oj = true) →
      i ∈ Region.ready md ops listed → YieldsIf P ops S' oi v a → S' w → (lastOp md ops i = false → S w) →
      wpAnyJ F n P md ops Q S fuel (listed.setIfInBounds i true) (a.put oi.dst v) w → wpAnyJ F n P md ops Q S (fuel + 1) listed a w := by
  intro fuel
  induction fuel with
  | zero =>
    intro listed a w _ hr hy hS hS0 H
    refine ⟨fun h => (by rw [h] at hr; cases hr), fun j hj => ?_⟩
    by_cases hji : j = i
    · subst hji; exact YieldsIf.wpOpIn hfn hnd hi hy hS ⟨hS0, H⟩
    · have := ready_mono hj hji
      rw [H.1] at this
      cases this
  | succ fuel ih =>
    intro listed a w hfree hr hy hS hS0 H
    refine ⟨fun h => (by rw [h] at hr; cases hr), fun j hj => ?_⟩
    by_cases hji : j = i
    · subst hji; exact YieldsIf.wpOpIn hfn hnd hi hy hS ⟨hS0, H⟩
    · have h1 := H.2 j (ready_mono hj hji)
      obtain ⟨hjun, oj, hoj, hall⟩ := mem_ready.1 hj
      have hnot : ∀ e ∈ oj.after, Region.binds md e = true → e.on ≠ i := fun e he hb heq => by
        have h1 := hall e he hb
        have h0 := (mem_ready.1 hr).1
        rw [heq] at h1
        rcases Nat.lt_or_ge i listed.size with h' | h'
        · simp [h'] at h0 h1; rw [h0] at h1; cases h1
        · simp [Array.getElem?_eq_none h'] at h1
      have hnot' : ∀ e ∈ oi.after, Region.binds md e = true → e.on ≠ j := fun e he hb heq => by
        obtain ⟨-, oi', hoi', hall'⟩ := mem_ready.1 hr
        obtain rfl : oi = oi' := by rw [hi] at hoi'; injection hoi'
        have h1 := hall' e he hb
        rw [heq] at h1
        rcases Nat.lt_or_ge j listed.size with h' | h'
        · simp [h'] at hjun h1; rw [hjun] at h1; cases h1
        · simp [Array.getElem?_eq_none h'] at h1
      have h2 := wpOpIn_putJ hnd hoj (hfree j oj hoj hji hjun hnot) (fun cs b => hsel i oi cs b hi) (fun cs b => hsel j oj cs b hoj) hQ hfn hy h1
      have hfree' : ∀ k ok, ops[k]? = some ok → k ≠ i → (listed.setIfInBounds j true).getD k true = false →
          (∀ e ∈ ok.after, Region.binds md e = true → e.on ≠ i) → oi.apart ops ok = true := fun k ok hk hki hun hno => by
        refine hfree k ok hk hki ?_ hno
        by_cases hjk : j = k
        · subst hjk; exact hjun
        · rw [getD_set_ne true hjk] at hun; exact hun
      rcases hS' with ⟨hp, hS'⟩ | ⟨hp, hS'⟩
      · exact wpOpIn_mono (fun a' w' h3 => ⟨h3.2.1, ih (listed.setIfInBounds j true) a' w' hfree' (ready_mono hr (Ne.symm hji)) h3.1 (hS' w') (fun h => by rw [lastOp_pure hi hp] at h; cases h) (by rw [Array.setIfInBounds_comm _ _ hji]; exact h3.2.2)⟩) h2
      · rcases hpj : pureOp oj with _ | _
        · have hl := lastOp_no hi hoj hji hnot hp hpj hnot'
          exact wpOpIn_mono (fun a' w' h3 => ⟨h3.2.1, ih (listed.setIfInBounds j true) a' w' hfree' (ready_mono hr (Ne.symm hji)) h3.1 (hS' w' (h3.2.1 hl)) (fun _ => h3.2.1 hl) (by rw [Array.setIfInBounds_comm _ _ hji]; exact h3.2.2)⟩) h2
        · refine wpOpIn_mono (fun a' w' (h3 : w' = w ∧ YieldsIf P ops S' oi v a' ∧ _) => ⟨h3.2.2.1, ih (listed.setIfInBounds j true) a' w' hfree' (ready_mono hr (Ne.symm hji)) h3.2.1 (h3.1 ▸ hS) (fun h => h3.1 ▸ hS0 h) (by rw [Array.setIfInBounds_comm _ _ hji]; exact h3.2.2.2)⟩) (wpOpIn_pure hnd hoj hpj h2)
theorem wpAnyJ_take (i : Nat) {oi : Oper} {v : Value} {fuel : Nat} {listed : Array Bool} {a : Act} {w : World} (hfn : ∀ f, F.fn f) (hS : S w) (hi : ops[i]? = some oi) (hnd : noDef ops = true)
    (hs : Region.noSelect ops = true) (hf : Region.free md ops listed i = true) (hr : (Region.ready md ops listed).contains i = true)
    (hw : Region.wanted oi (yielded ops a.tmps) = true) (hy : ∀ w, S w → (execOp a.eval oi).run P w = .ok (.value v) w) (hQ : ∀ c a w, Q (.panic c) (a.put oi.dst v) w → Q (.panic c) a w)
    (h : wpAnyJ F n P md ops Q S fuel (listed.setIfInBounds i true) (a.put oi.dst v) w) : wpAnyJ F n P md ops Q S (fuel + 1) listed a w := by
  rcases hp : pureOp oi with _ | _
  · exact wpAnyJ_first hfn hnd hi (Region.noSelect_spec hs) hQ (.inr ⟨hp, fun _ h => h⟩) fuel listed a w (Region.free_spec hi hf) (by simpa using hr) (.inl ⟨hw, hy⟩) hS (fun _ => hS) h
  · exact wpAnyJ_first (S' := fun _ => True) hfn hnd hi (Region.noSelect_spec hs) hQ (.inl ⟨hp, fun _ => trivial⟩) fuel listed a w (Region.free_spec hi hf) (by simpa using hr) (.inl ⟨hw, fun w' _ => pure_any hp (hy w hS) w'⟩) trivial (fun _ => hS) h
/-- an operation whose value hangs on no world, behind the last store -/
theorem wpAnyJ_pure (i : Nat) {oi : Oper} {v : Value} {fuel : Nat} {listed : Array Bool} {a : Act} {w : World} (hfn : ∀ f, F.fn f) (hi : ops[i]? = some oi) (hnd : noDef ops = true)
    (hs : Region.noSelect ops = true) (hf : Region.free md ops listed i = true) (hr : (Region.ready md ops listed).contains i = true)
    (hw : Region.wanted oi (yielded ops a.tmps) = true) (hp : pureOp oi = true) (hy : (execOp a.eval oi).run P w = .ok (.value v) w) (hQ : ∀ c a w, Q (.panic c) (a.put oi.dst v) w → Q (.panic c) a w)
    (h : wpAnyJ F n P md ops Q S fuel (listed.setIfInBounds i true) (a.put oi.dst v) w) : wpAnyJ F n P md ops Q S (fuel + 1) listed a w :=
  wpAnyJ_first (S' := fun _ => True) hfn hnd hi (Region.noSelect_spec hs) hQ (.inl ⟨hp, fun _ => trivial⟩) fuel listed a w (Region.free_spec hi hf) (by simpa using hr) (.inl ⟨hw, fun w' _ => pure_any hp hy w'⟩) trivial (fun h => by rw [lastOp_pure hi hp] at h; cases h) h
/-- an operation that is not wanted -/
theorem wpAnyJ_skip (i : Nat) {oi : Oper} {fuel : Nat} {listed : Array Bool} {a : Act} {w : World} (hfn : ∀ f, F.fn f) (hS : S w) (hi : ops[i]? = some oi) (hnd : noDef ops = true)
    (hs : Region.noSelect ops = true) (hf : Region.free md ops listed i = true) (hr : (Region.ready md ops listed).contains i = true)
    (hw : Region.wanted oi (yielded ops a.tmps) = false) (hQ : ∀ c a w, Q (.panic c) (a.put oi.dst undef) w → Q (.panic c) a w)
    (h : wpAnyJ F n P md ops Q S fuel (listed.setIfInBounds i true) (a.put oi.dst undef) w) : wpAnyJ F n P md ops Q S (fuel + 1) listed a w := by
  rcases hp : pureOp oi with _ | _
  · exact wpAnyJ_first hfn hnd hi (Region.noSelect_spec hs) hQ (.inr ⟨hp, fun _ h => h⟩) fuel listed a w (Region.free_spec hi hf) (by simpa using hr) (.inr ⟨hw, rfl⟩) hS (fun _ => hS) h
  · exact wpAnyJ_first (S' := fun _ => True) hfn hnd hi (Region.noSelect_spec hs) hQ (.inl ⟨hp, fun _ => trivial⟩) fuel listed a w (Region.free_spec hi hf) (by simpa using hr) (.inr ⟨hw, rfl⟩) trivial (fun _ => hS) h
/-- one operation alone may come up: it is carried out -/
theorem wpAnyJ_one (i : Nat) {oi : Oper} {fuel : Nat} {listed : Array Bool} {a : Act} {w : World} (hi : ops[i]? = some oi) (hr : Region.ready md ops listed = [i])
    (h : ∀ K : Act → World → Prop, Hid (∀ a w, (lastOp md ops i = false → S w) → wpAnyJ F n P md ops Q S fuel (listed.setIfInBounds i true) a w → K a w) → if Region.wanted oi (yielded ops a.tmps) = true then oi.wpIn F n P a w K Q else (∀ f, oi.about P w a.eval = some f → F.fn f) ∧ K (a.put oi.dst undef) w) :
    wpAnyJ F n P md ops Q S (fuel + 1) listed a w := by
  refine ⟨fun h0 => (by rw [hr] at h0; cases h0), fun j hj => ?_⟩
  rw [hr] at hj
  obtain rfl := List.mem_singleton.1 hj
  have h1 := h (fun a' w' => (lastOp md ops j = false → S w') ∧ wpAnyJ F n P md ops Q S fuel (listed.setIfInBounds j true) a' w') (show Hid _ from fun a w h1 h2 => ⟨h1, h2⟩)
  unfold wpOpIn
  simp only [hi]
  exact h1
theorem wpAnyJ_done {fuel : Nat} {listed : Array Bool} {a : Act} {w : World} (hr : Region.ready md ops listed = []) (h : Q .normal a w) : wpAnyJ F n P md ops Q S fuel listed a w := by
  cases fuel with
  | zero => exact ⟨hr, h⟩
  | succ k => exact ⟨fun _ => h, by rw [hr]; simp⟩
theorem wpIn_region_J {id : Nat} {a : Act} {w : World} (S : World → Prop) (hm : P.follows .mixedOrders = true)
    (h : wpAnyJ F n P .any ops Q S ops.size (Array.replicate ops.size false) a w.drew) : (Code.region id ops true).wpIn F n P Q a w :=
  wpIn_region_any hm (wpAnyIn_of_J _ _ _ _ h)
theorem wideFn : ∀ f, Fence.wide.fn f := fun _ => trivial
/-- the same for an activation: no fence -/
theorem wp_region_J {id : Nat} {P : Program} {ops : Array Oper} {Q : Exit → Act → World → Prop} {a : Act} {w : World} (S : World → Prop) (hm : P.follows .mixedOrders = true)
    (h : wpAnyJ Fence.wide 0 P .any ops Q S ops.size (Array.replicate ops.size false) a w.drew) : (Code.region id ops true).wp P Q a w :=
  wpIn_wide.1 (wpIn_region_J S hm h)
theorem wpIn_append_run {o : Oper} {a : Act} {w w' : World} {K : Act → World → Prop} (s x : Operand) (t : TypeId) {v u r : Value} (hfn : ∀ f, F.fn f)
    (ho : o.op = .call { callee := .builtin .append, args := #[s, x], argTypes := #[t, t] }) (hs : a.eval s = v) (hx : a.eval x = u)
    (hrun : (Builtin.append_ #[t, t] o.type #[v, u]).run P w = .ok r w') (h : K (a.put o.dst r) w') : o.wpIn F n P a w K Q := by
  refine ⟨fun f _ => hfn f, ?_⟩
  rw [Oper.semAt_eq _ _ _ (fun c => by rw [ho]; simp)]
  unfold execOp
  simp only [ho, resolve, invoke, builtin, Sem.run_bind, Sem.run_pure, Result.andThen_ok, List.map_toArray, List.map_cons, List.map_nil, hs, hx, hrun]
  exact h
end
end Go.Proofs.Ytlhekifmkkgjlaa
/- Contracts of chapter 8 on the book: laying, breaking, replacing. -/
namespace Go.Proofs.Ytlhekifmkkgjlaa
open Go Go.RowKit
set_option maxHeartbeats 1000000
theorem lay1_state (a b c d e f g n : Int) (S o p : Nat) (w : World) (hk : Kind7 w S o a b c d e f g) (ho : Ok7 a b c d e f g) (hp : w.cell? ⟨p, 0, none⟩ = some (.int .i64 n)) (hpl : p < w.heap.size) (hpS : p ≠ S) (hn : 0 ≤ n) (hn2 : n ≤ 1000000000) (hlt : d < n) : Calls Try.prog 87 #[.pointer (some ⟨S, o, none⟩), .pointer (some ⟨p, 0, none⟩)] w fun en w' => en = .returned (.int .i64 9) ∧ Below w.heap.size w w' := by
  obtain ⟨h0, hf, h1, h2, h3, h4, h5, h6, h7⟩ := hk
  obtain ⟨o1, o2, o3, o4, o5, o6, o7, o8, o9⟩ := ho
  have HM := hide (move_lt n d S (o + 3) S (o + 4) w.drew h4 hlt)
  have HP : Hid (w.drew.cell? ⟨p, 0, none⟩ = some (.int .i64 n)) := hide hp
  clear hf h1 h2 h3 h4 h5 h6 h7 hp
  go_enter Try.func87, Try.ntmps87
  go_wp2_with fail
  refine wp_region_J (fun W : World => W.cell? ⟨p, 0, none⟩ = some (.int .i64 n)) (by kernel_rfl) ?_
  refine wpAnyJ_take 0 (v := ?_) (by first | exact hF | exact wideFn) HP.out rfl (by kernel_rfl) (by kernel_rfl) (by kernel_rfl) (by kernel_rfl) rfl ?_ (by first | exact fun _ _ _ h => h | exact fun _ _ _ h => hQ2 _ _ _ _ _ h) ?_
  rotate_left
  · intro W hSW
    simp only [List.getElem_toArray, List.getElem_cons_zero, List.getElem_cons_succ]
    (try dsimp only at hSW)
    go_simp
    with_reducible rfl
  (try simp only [List.getElem_toArray, List.getElem_cons_zero, List.getElem_cons_succ, Act.put, List.setIfInBounds_toArray, List.set_cons_zero, List.set_cons_succ])
  refine wpAnyJ_take 1 (v := ?_) (by first | exact hF | exact wideFn) HP.out rfl (by kernel_rfl) (by kernel_rfl) (by kernel_rfl) (by kernel_rfl) rfl ?_ (by first | exact fun _ _ _ h => h | exact fun _ _ _ h => hQ2 _ _ _ _ _ h) ?_
  rotate_left
  · intro W hSW
    simp only [List.getElem_toArray, List.getElem_cons_zero, List.getElem_cons_succ]
    (try dsimp only at hSW)
    go_simp
    with_reducible rfl
  (try simp only [List.getElem_toArray, List.getElem_cons_zero, List.getElem_cons_succ, Act.put, List.setIfInBounds_toArray, List.set_cons_zero, List.set_cons_succ])
  refine wpAnyJ_take 2 (v := ?_) (by first | exact hF | exact wideFn) HP.out rfl (by kernel_rfl) (by kernel_rfl) (by kernel_rfl) (by kernel_rfl) rfl ?_ (by first | exact fun _ _ _ h => h | exact fun _ _ _ h => hQ2 _ _ _ _ _ h) ?_
  rotate_left
  · intro W hSW
    simp only [List.getElem_toArray, List.getElem_cons_zero, List.getElem_cons_succ]
    (try dsimp only at hSW)
    go_simp
    with_reducible rfl
  (try simp only [List.getElem_toArray, List.getElem_cons_zero, List.getElem_cons_succ, Act.put, List.setIfInBounds_toArray, List.set_cons_zero, List.set_cons_succ])
  refine wpAnyJ_take 3 (v := ?_) (by first | exact hF | exact wideFn) HP.out rfl (by kernel_rfl) (by kernel_rfl) (by kernel_rfl) (by kernel_rfl) rfl ?_ (by first | exact fun _ _ _ h => h | exact fun _ _ _ h => hQ2 _ _ _ _ _ h) ?_
  rotate_left
  · intro W hSW
    simp only [List.getElem_toArray, List.getElem_cons_zero, List.getElem_cons_succ]
    (try dsimp only at hSW)
    go_simp
    with_reducible rfl
  (try simp only [List.getElem_toArray, List.getElem_cons_zero, List.getElem_cons_succ, Act.put, List.setIfInBounds_toArray, List.set_cons_zero, List.set_cons_succ])
  refine wpAnyJ_take 4 (v := ?_) (by first | exact hF | exact wideFn) HP.out rfl (by kernel_rfl) (by kernel_rfl) (by kernel_rfl) (by kernel_rfl) rfl ?_ (by first | exact fun _ _ _ h => h | exact fun _ _ _ h => hQ2 _ _ _ _ _ h) ?_
  rotate_left
  · intro W hSW
    simp only [List.getElem_toArray, List.getElem_cons_zero, List.getElem_cons_succ]
    (try dsimp only at hSW)
    go_simp
    with_reducible rfl
  (try simp only [List.getElem_toArray, List.getElem_cons_zero, List.getElem_cons_succ, Act.put, List.setIfInBounds_toArray, List.set_cons_zero, List.set_cons_succ])
  refine wpAnyJ_take 5 (v := ?_) (by first | exact hF | exact wideFn) HP.out rfl (by kernel_rfl) (by kernel_rfl) (by kernel_rfl) (by kernel_rfl) rfl ?_ (by first | exact fun _ _ _ h => h | exact fun _ _ _ h => hQ2 _ _ _ _ _ h) ?_
  rotate_left
  · intro W hSW
    simp only [List.getElem_toArray, List.getElem_cons_zero, List.getElem_cons_succ]
    (try dsimp only at hSW)
    go_simp
    with_reducible rfl
  (try simp only [List.getElem_toArray, List.getElem_cons_zero, List.getElem_cons_succ, Act.put, List.setIfInBounds_toArray, List.set_cons_zero, List.set_cons_succ])
  refine wpAnyJ_take 6 (v := ?_) (by first | exact hF | exact wideFn) HP.out rfl (by kernel_rfl) (by kernel_rfl) (by kernel_rfl) (by kernel_rfl) rfl ?_ (by first | exact fun _ _ _ h => h | exact fun _ _ _ h => hQ2 _ _ _ _ _ h) ?_
  rotate_left
  · intro W hSW
    simp only [List.getElem_toArray, List.getElem_cons_zero, List.getElem_cons_succ]
    (try dsimp only at hSW)
    go_simp
    with_reducible rfl
  (try simp only [List.getElem_toArray, List.getElem_cons_zero, List.getElem_cons_succ, Act.put, List.setIfInBounds_toArray, List.set_cons_zero, List.set_cons_succ])
  refine wpAnyJ_take 7 (v := ?_) (by first | exact hF | exact wideFn) HP.out rfl (by kernel_rfl) (by kernel_rfl) (by kernel_rfl) (by kernel_rfl) rfl ?_ (by first | exact fun _ _ _ h => h | exact fun _ _ _ h => hQ2 _ _ _ _ _ h) ?_
  rotate_left
  · intro W hSW
    simp only [List.getElem_toArray, List.getElem_cons_zero, List.getElem_cons_succ]
    (try dsimp only at hSW)
    go_simp
    with_reducible rfl
  (try simp only [List.getElem_toArray, List.getElem_cons_zero, List.getElem_cons_succ, Act.put, List.setIfInBounds_toArray, List.set_cons_zero, List.set_cons_succ])
  refine wpAnyJ_take 8 (v := ?_) (by first | exact hF | exact wideFn) HP.out rfl (by kernel_rfl) (by kernel_rfl) (by kernel_rfl) (by kernel_rfl) rfl ?_ (by first | exact fun _ _ _ h => h | exact fun _ _ _ h => hQ2 _ _ _ _ _ h) ?_
  rotate_left
  · intro W hSW
    simp only [List.getElem_toArray, List.getElem_cons_zero, List.getElem_cons_succ]
    (try dsimp only at hSW)
    go_simp
    with_reducible rfl
  (try simp only [List.getElem_toArray, List.getElem_cons_zero, List.getElem_cons_succ, Act.put, List.setIfInBounds_toArray, List.set_cons_zero, List.set_cons_succ])
  refine wpAnyJ_one 9 rfl (by kernel_rfl) (fun K hK => ?_)
  simp only [List.getElem_toArray, List.getElem_cons_zero, List.getElem_cons_succ]
  go_simp
  refine ⟨trivial, rfl, ?_⟩
  refine (callsIn_wide.2 HM.out).mono ?_
  rintro e w2 ⟨rfl, rfl⟩
  skip
  dsimp only
  refine hK.out _ _ (fun _ => HP.out) ?_
  clear hK K
  (try simp only [List.getElem_toArray, List.getElem_cons_zero, List.getElem_cons_succ, Act.put, List.setIfInBounds_toArray, List.set_cons_zero, List.set_cons_succ])
  refine wpAnyJ_take 10 (v := ?_) (by first | exact hF | exact wideFn) HP.out rfl (by kernel_rfl) (by kernel_rfl) (by kernel_rfl) (by kernel_rfl) rfl ?_ (by first | exact fun _ _ _ h => h | exact fun _ _ _ h => hQ2 _ _ _ _ _ h) ?_
  rotate_left
  · intro W hSW
    simp only [List.getElem_toArray, List.getElem_cons_zero, List.getElem_cons_succ]
    (try dsimp only at hSW)
    go_simp
    with_reducible rfl
  (try simp only [List.getElem_toArray, List.getElem_cons_zero, List.getElem_cons_succ, Act.put, List.setIfInBounds_toArray, List.set_cons_zero, List.set_cons_succ])
  refine wpAnyJ_done (by kernel_rfl) ?_
  go_wp2_with fail
  go_ret
  exact ⟨rfl, (Below.refl _ _).drew⟩
theorem lay1_ok (a b c d e f g n : Int) (S o p : Nat) (w : World) (hk : Kind7 w S o a b c d e f g) (ho : Ok7 a b c d e f g) (hp : w.cell? ⟨p, 0, none⟩ = some (.int .i64 n)) (hpl : p < w.heap.size) (hpS : p ≠ S) (hn : 0 ≤ n) (hn2 : n ≤ 1000000000) (hlt : n ≤ d) : Calls Try.prog 87 #[.pointer (some ⟨S, o, none⟩), .pointer (some ⟨p, 0, none⟩)] w fun en w' => en = .returned (.int .i64 0) ∧ Below w.heap.size (mv w S (o + 3) (o + 4) (d - n) (e + n)) w' := by
  obtain ⟨h0, hf, h1, h2, h3, h4, h5, h6, h7⟩ := hk
  obtain ⟨o1, o2, o3, o4, o5, o6, o7, o8, o9⟩ := ho
  have HM := hide (move_ok n d e S (o + 3) (o + 4) w.drew h4 h5 hf (by omega) hlt hn (by omega) (by omega) (by omega))
  have HP : Hid (w.drew.cell? ⟨p, 0, none⟩ = some (.int .i64 n)) := hide hp
  have HQ : Hid (∀ W, Below w.heap.size (mv w S (o + 3) (o + 4) (d - n) (e + n)) W → W.cell? ⟨p, 0, none⟩ = some (.int .i64 n)) := hide (fun W h => (h.cell (p := ⟨p, 0, none⟩) hpl).trans ((mv_far hpS).trans hp))
  clear hf h1 h2 h3 h4 h5 h6 h7 hp
  go_enter Try.func87, Try.ntmps87
  go_wp2_with fail
  refine wp_region_J (fun W : World => W.cell? ⟨p, 0, none⟩ = some (.int .i64 n)) (by kernel_rfl) ?_
  refine wpAnyJ_take 0 (v := ?_) (by first | exact hF | exact wideFn) HP.out rfl (by kernel_rfl) (by kernel_rfl) (by kernel_rfl) (by kernel_rfl) rfl ?_ (by first | exact fun _ _ _ h => h | exact fun _ _ _ h => hQ2 _ _ _ _ _ h) ?_
  rotate_left
  · intro W hSW
    simp only [List.getElem_toArray, List.getElem_cons_zero, List.getElem_cons_succ]
    (try dsimp only at hSW)
    go_simp
    with_reducible rfl
  (try simp only [List.getElem_toArray, List.getElem_cons_zero, List.getElem_cons_succ, Act.put, List.setIfInBounds_toArray, List.set_cons_zero, List.set_cons_succ])
  refine wpAnyJ_take 1 (v := ?_) (by first | exact hF | exact wideFn) HP.out rfl (by kernel_rfl) (by kernel_rfl) (by kernel_rfl) (by kernel_rfl) rfl ?_ (by first | exact fun _ _ _ h => h | exact fun _ _ _ h => hQ2 _ _ _ _ _ h) ?_
  rotate_left
  · intro W hSW
    simp only [List.getElem_toArray, List.getElem_cons_zero, List.getElem_cons_succ]
    (try dsimp only at hSW)
    go_simp
    with_reducible rfl
  (try simp only [List.getElem_toArray, List.getElem_cons_zero, List.getElem_cons_succ, Act.put, List.setIfInBounds_toArray, List.set_cons_zero, List.set_cons_succ])
  refine wpAnyJ_take 2 (v := ?_) (by first | exact hF | exact wideFn) HP.out rfl (by kernel_rfl) (by kernel_rfl) (by kernel_rfl) (by kernel_rfl) rfl ?_ (by first | exact fun _ _ _ h => h | exact fun _ _ _ h => hQ2 _ _ _ _ _ h) ?_
  rotate_left
  · intro W hSW
    simp only [List.getElem_toArray, List.getElem_cons_zero, List.getElem_cons_succ]
    (try dsimp only at hSW)
    go_simp
    with_reducible rfl
  (try simp only [List.getElem_toArray, List.getElem_cons_zero, List.getElem_cons_succ, Act.put, List.setIfInBounds_toArray, List.set_cons_zero, List.set_cons_succ])
  refine wpAnyJ_take 3 (v := ?_) (by first | exact hF | exact wideFn) HP.out rfl (by kernel_rfl) (by kernel_rfl) (by kernel_rfl) (by kernel_rfl) rfl ?_ (by first | exact fun _ _ _ h => h | exact fun _ _ _ h => hQ2 _ _ _ _ _ h) ?_
  rotate_left
  · intro W hSW
    simp only [List.getElem_toArray, List.getElem_cons_zero, List.getElem_cons_succ]
    (try dsimp only at hSW)
    go_simp
    with_reducible rfl
  (try simp only [List.getElem_toArray, List.getElem_cons_zero, List.getElem_cons_succ, Act.put, List.setIfInBounds_toArray, List.set_cons_zero, List.set_cons_succ])
  refine wpAnyJ_take 4 (v := ?_) (by first | exact hF | exact wideFn) HP.out rfl (by kernel_rfl) (by kernel_rfl) (by kernel_rfl) (by kernel_rfl) rfl ?_ (by first | exact fun _ _ _ h => h | exact fun _ _ _ h => hQ2 _ _ _ _ _ h) ?_
  rotate_left
  · intro W hSW
    simp only [List.getElem_toArray, List.getElem_cons_zero, List.getElem_cons_succ]
    (try dsimp only at hSW)
    go_simp
    with_reducible rfl
  (try simp only [List.getElem_toArray, List.getElem_cons_zero, List.getElem_cons_succ, Act.put, List.setIfInBounds_toArray, List.set_cons_zero, List.set_cons_succ])
  refine wpAnyJ_take 5 (v := ?_) (by first | exact hF | exact wideFn) HP.out rfl (by kernel_rfl) (by kernel_rfl) (by kernel_rfl) (by kernel_rfl) rfl ?_ (by first | exact fun _ _ _ h => h | exact fun _ _ _ h => hQ2 _ _ _ _ _ h) ?_
  rotate_left
  · intro W hSW
    simp only [List.getElem_toArray, List.getElem_cons_zero, List.getElem_cons_succ]
    (try dsimp only at hSW)
    go_simp
    with_reducible rfl
  (try simp only [List.getElem_toArray, List.getElem_cons_zero, List.getElem_cons_succ, Act.put, List.setIfInBounds_toArray, List.set_cons_zero, List.set_cons_succ])
  refine wpAnyJ_take 6 (v := ?_) (by first | exact hF | exact wideFn) HP.out rfl (by kernel_rfl) (by kernel_rfl) (by kernel_rfl) (by kernel_rfl) rfl ?_ (by first | exact fun _ _ _ h => h | exact fun _ _ _ h => hQ2 _ _ _ _ _ h) ?_
  rotate_left
  · intro W hSW
    simp only [List.getElem_toArray, List.getElem_cons_zero, List.getElem_cons_succ]
    (try dsimp only at hSW)
    go_simp
    with_reducible rfl
  (try simp only [List.getElem_toArray, List.getElem_cons_zero, List.getElem_cons_succ, Act.put, List.setIfInBounds_toArray, List.set_cons_zero, List.set_cons_succ])
  refine wpAnyJ_take 7 (v := ?_) (by first | exact hF | exact wideFn) HP.out rfl (by kernel_rfl) (by kernel_rfl) (by kernel_rfl) (by kernel_rfl) rfl ?_ (by first | exact fun _ _ _ h => h | exact fun _ _ _ h => hQ2 _ _ _ _ _ h) ?_
  rotate_left
  · intro W hSW
    simp only [List.getElem_toArray, List.getElem_cons_zero, List.getElem_cons_succ]
    (try dsimp only at hSW)
    go_simp
    with_reducible rfl
  (try simp only [List.getElem_toArray, List.getElem_cons_zero, List.getElem_cons_succ, Act.put, List.setIfInBounds_toArray, List.set_cons_zero, List.set_cons_succ])
  refine wpAnyJ_take 8 (v := ?_) (by first | exact hF | exact wideFn) HP.out rfl (by kernel_rfl) (by kernel_rfl) (by kernel_rfl) (by kernel_rfl) rfl ?_ (by first | exact fun _ _ _ h => h | exact fun _ _ _ h => hQ2 _ _ _ _ _ h) ?_
  rotate_left
  · intro W hSW
    simp only [List.getElem_toArray, List.getElem_cons_zero, List.getElem_cons_succ]
    (try dsimp only at hSW)
    go_simp
    with_reducible rfl
  (try simp only [List.getElem_toArray, List.getElem_cons_zero, List.getElem_cons_succ, Act.put, List.setIfInBounds_toArray, List.set_cons_zero, List.set_cons_succ])
  refine wpAnyJ_one 9 rfl (by kernel_rfl) (fun K hK => ?_)
  simp only [List.getElem_toArray, List.getElem_cons_zero, List.getElem_cons_succ]
  go_simp
  refine ⟨trivial, rfl, ?_⟩
  refine (callsIn_wide.2 HM.out).mono ?_
  rintro e w2 ⟨rfl, hb2⟩
  have hb2' : Below w.heap.size (mv w S (o + 3) (o + 4) (d - n) (e + n)) w2 := ⟨hb2.os, hb2.tape, hb2.output, hb2.size, hb2.block⟩
  dsimp only
  refine hK.out _ _ (fun _ => HQ.out _ hb2') ?_
  clear hK K
  (try simp only [List.getElem_toArray, List.getElem_cons_zero, List.getElem_cons_succ, Act.put, List.setIfInBounds_toArray, List.set_cons_zero, List.set_cons_succ])
  refine wpAnyJ_take 10 (v := ?_) (by first | exact hF | exact wideFn) (HQ.out _ hb2') rfl (by kernel_rfl) (by kernel_rfl) (by kernel_rfl) (by kernel_rfl) rfl ?_ (by first | exact fun _ _ _ h => h | exact fun _ _ _ h => hQ2 _ _ _ _ _ h) ?_
  rotate_left
  · intro W hSW
    simp only [List.getElem_toArray, List.getElem_cons_zero, List.getElem_cons_succ]
    (try dsimp only at hSW)
    go_simp
    with_reducible rfl
  (try simp only [List.getElem_toArray, List.getElem_cons_zero, List.getElem_cons_succ, Act.put, List.setIfInBounds_toArray, List.set_cons_zero, List.set_cons_succ])
  refine wpAnyJ_done (by kernel_rfl) ?_
  go_wp2_with fail
  go_ret
  exact ⟨rfl, hb2'⟩
theorem break1_state (a b c d e f g n : Int) (S o p : Nat) (w : World) (hk : Kind7 w S o a b c d e f g) (ho : Ok7 a b c d e f g) (hp : w.cell? ⟨p, 0, none⟩ = some (.int .i64 n)) (hpl : p < w.heap.size) (hpS : p ≠ S) (hn : 0 ≤ n) (hn2 : n ≤ 1000000000) (hlt : e < n) : Calls Try.prog 88 #[.pointer (some ⟨S, o, none⟩), .pointer (some ⟨p, 0, none⟩)] w fun en w' => en = .returned (.int .i64 9) ∧ Below w.heap.size w w' := by
  obtain ⟨h0, hf, h1, h2, h3, h4, h5, h6, h7⟩ := hk
  obtain ⟨o1, o2, o3, o4, o5, o6, o7, o8, o9⟩ := ho
  have HM := hide (move_lt n e S (o + 4) S (o + 5) w.drew h5 hlt)
  have HP : Hid (w.drew.cell? ⟨p, 0, none⟩ = some (.int .i64 n)) := hide hp
  clear hf h1 h2 h3 h4 h5 h6 h7 hp
  go_enter Try.func88, Try.ntmps88
  go_wp2_with fail
  refine wp_region_J (fun W : World => W.cell? ⟨p, 0, none⟩ = some (.int .i64 n)) (by kernel_rfl) ?_
  refine wpAnyJ_take 0 (v := ?_) (by first | exact hF | exact wideFn) HP.out rfl (by kernel_rfl) (by kernel_rfl) (by kernel_rfl) (by kernel_rfl) rfl ?_ (by first | exact fun _ _ _ h => h | exact fun _ _ _ h => hQ2 _ _ _ _ _ h) ?_
  rotate_left
  · intro W hSW
    simp only [List.getElem_toArray, List.getElem_cons_zero, List.getElem_cons_succ]
    (try dsimp only at hSW)
    go_simp
    with_reducible rfl
  (try simp only [List.getElem_toArray, List.getElem_cons_zero, List.getElem_cons_succ, Act.put, List.setIfInBounds_toArray, List.set_cons_zero, List.set_cons_succ])
  refine wpAnyJ_take 1 (v := ?_) (by first | exact hF | exact wideFn) HP.out rfl (by kernel_rfl) (by kernel_rfl) (by kernel_rfl) (by kernel_rfl) rfl ?_ (by first | exact fun _ _ _ h => h | exact fun _ _ _ h => hQ2 _ _ _ _ _ h) ?_
  rotate_left
  · intro W hSW
    simp only [List.getElem_toArray, List.getElem_cons_zero, List.getElem_cons_succ]
    (try dsimp only at hSW)
    go_simp
    with_reducible rfl
  (try simp only [List.getElem_toArray, List.getElem_cons_zero, List.getElem_cons_succ, Act.put, List.setIfInBounds_toArray, List.set_cons_zero, List.set_cons_succ])
  refine wpAnyJ_take 2 (v := ?_) (by first | exact hF | exact wideFn) HP.out rfl (by kernel_rfl) (by kernel_rfl) (by kernel_rfl) (by kernel_rfl) rfl ?_ (by first | exact fun _ _ _ h => h | exact fun _ _ _ h => hQ2 _ _ _ _ _ h) ?_
  rotate_left
  · intro W hSW
    simp only [List.getElem_toArray, List.getElem_cons_zero, List.getElem_cons_succ]
    (try dsimp only at hSW)
    go_simp
    with_reducible rfl
  (try simp only [List.getElem_toArray, List.getElem_cons_zero, List.getElem_cons_succ, Act.put, List.setIfInBounds_toArray, List.set_cons_zero, List.set_cons_succ])
  refine wpAnyJ_take 3 (v := ?_) (by first | exact hF | exact wideFn) HP.out rfl (by kernel_rfl) (by kernel_rfl) (by kernel_rfl) (by kernel_rfl) rfl ?_ (by first | exact fun _ _ _ h => h | exact fun _ _ _ h => hQ2 _ _ _ _ _ h) ?_
  rotate_left
  · intro W hSW
    simp only [List.getElem_toArray, List.getElem_cons_zero, List.getElem_cons_succ]
    (try dsimp only at hSW)
    go_simp
    with_reducible rfl
  (try simp only [List.getElem_toArray, List.getElem_cons_zero, List.getElem_cons_succ, Act.put, List.setIfInBounds_toArray, List.set_cons_zero, List.set_cons_succ])
  refine wpAnyJ_take 4 (v := ?_) (by first | exact hF | exact wideFn) HP.out rfl (by kernel_rfl) (by kernel_rfl) (by kernel_rfl) (by kernel_rfl) rfl ?_ (by first | exact fun _ _ _ h => h | exact fun _ _ _ h => hQ2 _ _ _ _ _ h) ?_
  rotate_left
  · intro W hSW
    simp only [List.getElem_toArray, List.getElem_cons_zero, List.getElem_cons_succ]
    (try dsimp only at hSW)
    go_simp
    with_reducible rfl
  (try simp only [List.getElem_toArray, List.getElem_cons_zero, List.getElem_cons_succ, Act.put, List.setIfInBounds_toArray, List.set_cons_zero, List.set_cons_succ])
  refine wpAnyJ_take 5 (v := ?_) (by first | exact hF | exact wideFn) HP.out rfl (by kernel_rfl) (by kernel_rfl) (by kernel_rfl) (by kernel_rfl) rfl ?_ (by first | exact fun _ _ _ h => h | exact fun _ _ _ h => hQ2 _ _ _ _ _ h) ?_
  rotate_left
  · intro W hSW
    simp only [List.getElem_toArray, List.getElem_cons_zero, List.getElem_cons_succ]
    (try dsimp only at hSW)
    go_simp
    with_reducible rfl
  (try simp only [List.getElem_toArray, List.getElem_cons_zero, List.getElem_cons_succ, Act.put, List.setIfInBounds_toArray, List.set_cons_zero, List.set_cons_succ])
  refine wpAnyJ_take 6 (v := ?_) (by first | exact hF | exact wideFn) HP.out rfl (by kernel_rfl) (by kernel_rfl) (by kernel_rfl) (by kernel_rfl) rfl ?_ (by first | exact fun _ _ _ h => h | exact fun _ _ _ h => hQ2 _ _ _ _ _ h) ?_
  rotate_left
  · intro W hSW
    simp only [List.getElem_toArray, List.getElem_cons_zero, List.getElem_cons_succ]
    (try dsimp only at hSW)
    go_simp
    with_reducible rfl
  (try simp only [List.getElem_toArray, List.getElem_cons_zero, List.getElem_cons_succ, Act.put, List.setIfInBounds_toArray, List.set_cons_zero, List.set_cons_succ])
  refine wpAnyJ_take 7 (v := ?_) (by first | exact hF | exact wideFn) HP.out rfl (by kernel_rfl) (by kernel_rfl) (by kernel_rfl) (by kernel_rfl) rfl ?_ (by first | exact fun _ _ _ h => h | exact fun _ _ _ h => hQ2 _ _ _ _ _ h) ?_
  rotate_left
  · intro W hSW
    simp only [List.getElem_toArray, List.getElem_cons_zero, List.getElem_cons_succ]
    (try dsimp only at hSW)
    go_simp
    with_reducible rfl
  (try simp only [List.getElem_toArray, List.getElem_cons_zero, List.getElem_cons_succ, Act.put, List.setIfInBounds_toArray, List.set_cons_zero, List.set_cons_succ])
  refine wpAnyJ_take 8 (v := ?_) (by first | exact hF | exact wideFn) HP.out rfl (by kernel_rfl) (by kernel_rfl) (by kernel_rfl) (by kernel_rfl) rfl ?_ (by first | exact fun _ _ _ h => h | exact fun _ _ _ h => hQ2 _ _ _ _ _ h) ?_
  rotate_left
  · intro W hSW
    simp only [List.getElem_toArray, List.getElem_cons_zero, List.getElem_cons_succ]
    (try dsimp only at hSW)
    go_simp
    with_reducible rfl
  (try simp only [List.getElem_toArray, List.getElem_cons_zero, List.getElem_cons_succ, Act.put, List.setIfInBounds_toArray, List.set_cons_zero, List.set_cons_succ])
  refine wpAnyJ_one 9 rfl (by kernel_rfl) (fun K hK => ?_)
  simp only [List.getElem_toArray, List.getElem_cons_zero, List.getElem_cons_succ]
  go_simp
  refine ⟨trivial, rfl, ?_⟩
  refine (callsIn_wide.2 HM.out).mono ?_
  rintro e w2 ⟨rfl, rfl⟩
  skip
  dsimp only
  refine hK.out _ _ (fun _ => HP.out) ?_
  clear hK K
  (try simp only [List.getElem_toArray, List.getElem_cons_zero, List.getElem_cons_succ, Act.put, List.setIfInBounds_toArray, List.set_cons_zero, List.set_cons_succ])
  refine wpAnyJ_take 10 (v := ?_) (by first | exact hF | exact wideFn) HP.out rfl (by kernel_rfl) (by kernel_rfl) (by kernel_rfl) (by kernel_rfl) rfl ?_ (by first | exact fun _ _ _ h => h | exact fun _ _ _ h => hQ2 _ _ _ _ _ h) ?_
  rotate_left
  · intro W hSW
    simp only [List.getElem_toArray, List.getElem_cons_zero, List.getElem_cons_succ]
    (try dsimp only at hSW)
    go_simp
    with_reducible rfl
  (try simp only [List.getElem_toArray, List.getElem_cons_zero, List.getElem_cons_succ, Act.put, List.setIfInBounds_toArray, List.set_cons_zero, List.set_cons_succ])
  refine wpAnyJ_done (by kernel_rfl) ?_
  go_wp2_with fail
  go_ret
  exact ⟨rfl, (Below.refl _ _).drew⟩
theorem break1_ok (a b c d e f g n : Int) (S o p : Nat) (w : World) (hk : Kind7 w S o a b c d e f g) (ho : Ok7 a b c d e f g) (hp : w.cell? ⟨p, 0, none⟩ = some (.int .i64 n)) (hpl : p < w.heap.size) (hpS : p ≠ S) (hn : 0 ≤ n) (hn2 : n ≤ 1000000000) (hlt : n ≤ e) : Calls Try.prog 88 #[.pointer (some ⟨S, o, none⟩), .pointer (some ⟨p, 0, none⟩)] w fun en w' => en = .returned (.int .i64 0) ∧ Below w.heap.size ((mv w S (o + 4) (o + 5) (e - n) (f + n)).setCell ⟨S, o + 6, none⟩ (.int .i64 (g + n))) w' := by
  obtain ⟨h0, hf, h1, h2, h3, h4, h5, h6, h7⟩ := hk
  obtain ⟨o1, o2, o3, o4, o5, o6, o7, o8, o9⟩ := ho
  have HM := hide (move_ok n e f S (o + 4) (o + 5) w.drew h5 h6 hf (by omega) hlt hn (by omega) (by omega) (by omega))
  have HP : Hid (w.drew.cell? ⟨p, 0, none⟩ = some (.int .i64 n)) := hide hp
  have HQ : Hid (∀ W, Below w.heap.size (mv w S (o + 4) (o + 5) (e - n) (f + n)) W → W.cell? ⟨p, 0, none⟩ = some (.int .i64 n)) := hide (fun W h => (h.cell (p := ⟨p, 0, none⟩) hpl).trans ((mv_far hpS).trans hp))
  have HF := hide hf
  have G7 := hide h7
  clear hf h1 h2 h3 h4 h5 h6 h7 hp
  go_enter Try.func88, Try.ntmps88
  go_wp2_with fail
  refine wp_region_J (fun W : World => W.cell? ⟨p, 0, none⟩ = some (.int .i64 n)) (by kernel_rfl) ?_
  refine wpAnyJ_take 0 (v := ?_) (by first | exact hF | exact wideFn) HP.out rfl (by kernel_rfl) (by kernel_rfl) (by kernel_rfl) (by kernel_rfl) rfl ?_ (by first | exact fun _ _ _ h => h | exact fun _ _ _ h => hQ2 _ _ _ _ _ h) ?_
  rotate_left
  · intro W hSW
    simp only [List.getElem_toArray, List.getElem_cons_zero, List.getElem_cons_succ]
    (try dsimp only at hSW)
    go_simp
    with_reducible rfl
  (try simp only [List.getElem_toArray, List.getElem_cons_zero, List.getElem_cons_succ, Act.put, List.setIfInBounds_toArray, List.set_cons_zero, List.set_cons_succ])
  refine wpAnyJ_take 1 (v := ?_) (by first | exact hF | exact wideFn) HP.out rfl (by kernel_rfl) (by kernel_rfl) (by kernel_rfl) (by kernel_rfl) rfl ?_ (by first | exact fun _ _ _ h => h | exact fun _ _ _ h => hQ2 _ _ _ _ _ h) ?_
  rotate_left
  · intro W hSW
    simp only [List.getElem_toArray, List.getElem_cons_zero, List.getElem_cons_succ]
    (try dsimp only at hSW)
    go_simp
    with_reducible rfl
  (try simp only [List.getElem_toArray, List.getElem_cons_zero, List.getElem_cons_succ, Act.put, List.setIfInBounds_toArray, List.set_cons_zero, List.set_cons_succ])
  refine wpAnyJ_take 2 (v := ?_) (by first | exact hF | exact wideFn) HP.out rfl (by kernel_rfl) (by kernel_rfl) (by kernel_rfl) (by kernel_rfl) rfl ?_ (by first | exact fun _ _ _ h => h | exact fun _ _ _ h => hQ2 _ _ _ _ _ h) ?_
  rotate_left
  · intro W hSW
    simp only [List.getElem_toArray, List.getElem_cons_zero, List.getElem_cons_succ]
    (try dsimp only at hSW)
    go_simp
    with_reducible rfl
  (try simp only [List.getElem_toArray, List.getElem_cons_zero, List.getElem_cons_succ, Act.put, List.setIfInBounds_toArray, List.set_cons_zero, List.set_cons_succ])
  refine wpAnyJ_take 3 (v := ?_) (by first | exact hF | exact wideFn) HP.out rfl (by kernel_rfl) (by kernel_rfl) (by kernel_rfl) (by kernel_rfl) rfl ?_ (by first | exact fun _ _ _ h => h | exact fun _ _ _ h => hQ2 _ _ _ _ _ h) ?_
  rotate_left
  · intro W hSW
    simp only [List.getElem_toArray, List.getElem_cons_zero, List.getElem_cons_succ]
    (try dsimp only at hSW)
    go_simp
    with_reducible rfl
  (try simp only [List.getElem_toArray, List.getElem_cons_zero, List.getElem_cons_succ, Act.put, List.setIfInBounds_toArray, List.set_cons_zero, List.set_cons_succ])
  refine wpAnyJ_take 4 (v := ?_) (by first | exact hF | exact wideFn) HP.out rfl (by kernel_rfl) (by kernel_rfl) (by kernel_rfl) (by kernel_rfl) rfl ?_ (by first | exact fun _ _ _ h => h | exact fun _ _ _ h => hQ2 _ _ _ _ _ h) ?_
  rotate_left
  · intro W hSW
    simp only [List.getElem_toArray, List.getElem_cons_zero, List.getElem_cons_succ]
    (try dsimp only at hSW)
    go_simp
    with_reducible rfl
  (try simp only [List.getElem_toArray, List.getElem_cons_zero, List.getElem_cons_succ, Act.put, List.setIfInBounds_toArray, List.set_cons_zero, List.set_cons_succ])
  refine wpAnyJ_take 5 (v := ?_) (by first | exact hF | exact wideFn) HP.out rfl (by kernel_rfl) (by kernel_rfl) (by kernel_rfl) (by kernel_rfl) rfl ?_ (by first | exact fun _ _ _ h => h | exact fun _ _ _ h => hQ2 _ _ _ _ _ h) ?_
  rotate_left
  · intro W hSW
    simp only [List.getElem_toArray, List.getElem_cons_zero, List.getElem_cons_succ]
    (try dsimp only at hSW)
    go_simp
    with_reducible rfl
  (try simp only [List.getElem_toArray, List.getElem_cons_zero, List.getElem_cons_succ, Act.put, List.setIfInBounds_toArray, List.set_cons_zero, List.set_cons_succ])
  refine wpAnyJ_take 6 (v := ?_) (by first | exact hF | exact wideFn) HP.out rfl (by kernel_rfl) (by kernel_rfl) (by kernel_rfl) (by kernel_rfl) rfl ?_ (by first | exact fun _ _ _ h => h | exact fun _ _ _ h => hQ2 _ _ _ _ _ h) ?_
  rotate_left
  · intro W hSW
    simp only [List.getElem_toArray, List.getElem_cons_zero, List.getElem_cons_succ]
    (try dsimp only at hSW)
    go_simp
    with_reducible rfl
  (try simp only [List.getElem_toArray, List.getElem_cons_zero, List.getElem_cons_succ, Act.put, List.setIfInBounds_toArray, List.set_cons_zero, List.set_cons_succ])
  refine wpAnyJ_take 7 (v := ?_) (by first | exact hF | exact wideFn) HP.out rfl (by kernel_rfl) (by kernel_rfl) (by kernel_rfl) (by kernel_rfl) rfl ?_ (by first | exact fun _ _ _ h => h | exact fun _ _ _ h => hQ2 _ _ _ _ _ h) ?_
  rotate_left
  · intro W hSW
    simp only [List.getElem_toArray, List.getElem_cons_zero, List.getElem_cons_succ]
    (try dsimp only at hSW)
    go_simp
    with_reducible rfl
  (try simp only [List.getElem_toArray, List.getElem_cons_zero, List.getElem_cons_succ, Act.put, List.setIfInBounds_toArray, List.set_cons_zero, List.set_cons_succ])
  refine wpAnyJ_take 8 (v := ?_) (by first | exact hF | exact wideFn) HP.out rfl (by kernel_rfl) (by kernel_rfl) (by kernel_rfl) (by kernel_rfl) rfl ?_ (by first | exact fun _ _ _ h => h | exact fun _ _ _ h => hQ2 _ _ _ _ _ h) ?_
  rotate_left
  · intro W hSW
    simp only [List.getElem_toArray, List.getElem_cons_zero, List.getElem_cons_succ]
    (try dsimp only at hSW)
    go_simp
    with_reducible rfl
  (try simp only [List.getElem_toArray, List.getElem_cons_zero, List.getElem_cons_succ, Act.put, List.setIfInBounds_toArray, List.set_cons_zero, List.set_cons_succ])
  refine wpAnyJ_one 9 rfl (by kernel_rfl) (fun K hK => ?_)
  simp only [List.getElem_toArray, List.getElem_cons_zero, List.getElem_cons_succ]
  go_simp
  refine ⟨trivial, rfl, ?_⟩
  refine (callsIn_wide.2 HM.out).mono ?_
  rintro e w2 ⟨rfl, hb2⟩
  have hb2' : Below w.heap.size (mv w S (o + 4) (o + 5) (e - n) (f + n)) w2 := ⟨hb2.os, hb2.tape, hb2.output, hb2.size, hb2.block⟩
  dsimp only
  refine hK.out _ _ (fun _ => HQ.out _ hb2') ?_
  clear hK K
  (try simp only [List.getElem_toArray, List.getElem_cons_zero, List.getElem_cons_succ, Act.put, List.setIfInBounds_toArray, List.set_cons_zero, List.set_cons_succ])
  refine wpAnyJ_take 10 (v := ?_) (by first | exact hF | exact wideFn) (HQ.out _ hb2') rfl (by kernel_rfl) (by kernel_rfl) (by kernel_rfl) (by kernel_rfl) rfl ?_ (by first | exact fun _ _ _ h => h | exact fun _ _ _ h => hQ2 _ _ _ _ _ h) ?_
  rotate_left
  · intro W hSW
    simp only [List.getElem_toArray, List.getElem_cons_zero, List.getElem_cons_succ]
    (try dsimp only at hSW)
    go_simp
    with_reducible rfl
  (try simp only [List.getElem_toArray, List.getElem_cons_zero, List.getElem_cons_succ, Act.put, List.setIfInBounds_toArray, List.set_cons_zero, List.set_cons_succ])
  refine wpAnyJ_done (by kernel_rfl) ?_
  have m7 : w2.cell? ⟨S, o + 6, none⟩ = some (.int .i64 g) := (hb2'.cell (p := ⟨S, o + 6, none⟩) h0).trans (mv_cell G7.out (by omega) (by omega))
  have mp : w2.cell? ⟨p, 0, none⟩ = some (.int .i64 n) := HQ.out _ hb2'
  have mf : w2.frozen? ⟨S, o + 6, none⟩ = false := (hb2'.frozen (p := ⟨S, o + 6, none⟩) h0).trans ((mv_frozen _ _ _ _ _ _ _).trans (HF.out _))
  have ms : S < w2.heap.size := by have := hb2'.size; rw [size_mv] at this; omega
  go_wp2_with fail
  go_region
  all_goals
    go_wp2_with fail
    go_ret
    exact ⟨rfl, (setB hb2' _ _).drew⟩
theorem replace1_miss (a b c d e f g n : Int) (S o p : Nat) (w : World) (hk : Kind7 w S o a b c d e f g) (ho : Ok7 a b c d e f g) (hp : w.cell? ⟨p, 0, none⟩ = some (.int .i64 n)) (hpl : p < w.heap.size) (hpS : p ≠ S) (hn : 0 ≤ n) (hn2 : n ≤ 1000000000) (hlt : g < n) : Calls Try.prog 89 #[.pointer (some ⟨S, o, none⟩), .pointer (some ⟨p, 0, none⟩)] w fun en w' => en = .returned (.int .i64 9) ∧ Below w.heap.size w w' := by
  obtain ⟨h0, hf, h1, h2, h3, h4, h5, h6, h7⟩ := hk
  obtain ⟨o1, o2, o3, o4, o5, o6, o7, o8, o9⟩ := ho
  clear hf h1 h2 h3 h4 h5 h6
  have HG : Hid (w.drew.cell? ⟨p, 0, none⟩ = some (.int .i64 n) ∧ w.drew.cell? ⟨S, o + 6, none⟩ = some (.int .i64 g)) := hide ⟨hp, h7⟩
  go_enter Try.func89, Try.ntmps89
  go_wp2_with fail
  refine wp_region_J (fun W : World => W.cell? ⟨p, 0, none⟩ = some (.int .i64 n) ∧ W.cell? ⟨S, o + 6, none⟩ = some (.int .i64 g)) (by kernel_rfl) ?_
  clear h7 hp
  refine wpAnyJ_take 0 (v := ?_) (by first | exact hF | exact wideFn) HG.out rfl (by kernel_rfl) (by kernel_rfl) (by kernel_rfl) (by kernel_rfl) rfl ?_ (by first | exact fun _ _ _ h => h | exact fun _ _ _ h => hQ2 _ _ _ _ _ h) ?_
  rotate_left
  · intro W hSW
    simp only [List.getElem_toArray, List.getElem_cons_zero, List.getElem_cons_succ]
    (try dsimp only at hSW)
    go_simp
    with_reducible rfl
  (try simp only [List.getElem_toArray, List.getElem_cons_zero, List.getElem_cons_succ, Act.put, List.setIfInBounds_toArray, List.set_cons_zero, List.set_cons_succ])
  refine wpAnyJ_take 1 (v := ?_) (by first | exact hF | exact wideFn) HG.out rfl (by kernel_rfl) (by kernel_rfl) (by kernel_rfl) (by kernel_rfl) rfl ?_ (by first | exact fun _ _ _ h => h | exact fun _ _ _ h => hQ2 _ _ _ _ _ h) ?_
  rotate_left
  · intro W hSW
    simp only [List.getElem_toArray, List.getElem_cons_zero, List.getElem_cons_succ]
    (try dsimp only at hSW)
    go_simp
    with_reducible rfl
  (try simp only [List.getElem_toArray, List.getElem_cons_zero, List.getElem_cons_succ, Act.put, List.setIfInBounds_toArray, List.set_cons_zero, List.set_cons_succ])
  refine wpAnyJ_take 2 (v := ?_) (by first | exact hF | exact wideFn) HG.out rfl (by kernel_rfl) (by kernel_rfl) (by kernel_rfl) (by kernel_rfl) rfl ?_ (by first | exact fun _ _ _ h => h | exact fun _ _ _ h => hQ2 _ _ _ _ _ h) ?_
  rotate_left
  · intro W hSW
    simp only [List.getElem_toArray, List.getElem_cons_zero, List.getElem_cons_succ]
    (try dsimp only at hSW)
    go_simp
    with_reducible rfl
  (try simp only [List.getElem_toArray, List.getElem_cons_zero, List.getElem_cons_succ, Act.put, List.setIfInBounds_toArray, List.set_cons_zero, List.set_cons_succ])
  refine wpAnyJ_take 3 (v := ?_) (by first | exact hF | exact wideFn) HG.out rfl (by kernel_rfl) (by kernel_rfl) (by kernel_rfl) (by kernel_rfl) rfl ?_ (by first | exact fun _ _ _ h => h | exact fun _ _ _ h => hQ2 _ _ _ _ _ h) ?_
  rotate_left
  · intro W hSW
    simp only [List.getElem_toArray, List.getElem_cons_zero, List.getElem_cons_succ]
    (try dsimp only at hSW)
    go_simp
    with_reducible rfl
  (try simp only [List.getElem_toArray, List.getElem_cons_zero, List.getElem_cons_succ, Act.put, List.setIfInBounds_toArray, List.set_cons_zero, List.set_cons_succ])
  refine wpAnyJ_take 4 (v := ?_) (by first | exact hF | exact wideFn) HG.out rfl (by kernel_rfl) (by kernel_rfl) (by kernel_rfl) (by kernel_rfl) rfl ?_ (by first | exact fun _ _ _ h => h | exact fun _ _ _ h => hQ2 _ _ _ _ _ h) ?_
  rotate_left
  · intro W hSW
    simp only [List.getElem_toArray, List.getElem_cons_zero, List.getElem_cons_succ]
    (try dsimp only at hSW)
    go_simp
    with_reducible rfl
  (try simp only [List.getElem_toArray, List.getElem_cons_zero, List.getElem_cons_succ, Act.put, List.setIfInBounds_toArray, List.set_cons_zero, List.set_cons_succ])
  refine wpAnyJ_take 5 (v := ?_) (by first | exact hF | exact wideFn) HG.out rfl (by kernel_rfl) (by kernel_rfl) (by kernel_rfl) (by kernel_rfl) rfl ?_ (by first | exact fun _ _ _ h => h | exact fun _ _ _ h => hQ2 _ _ _ _ _ h) ?_
  rotate_left
  · intro W hSW
    simp only [List.getElem_toArray, List.getElem_cons_zero, List.getElem_cons_succ]
    (try dsimp only at hSW)
    go_simp
    with_reducible rfl
  (try simp only [List.getElem_toArray, List.getElem_cons_zero, List.getElem_cons_succ, Act.put, List.setIfInBounds_toArray, List.set_cons_zero, List.set_cons_succ])
  refine wpAnyJ_take 6 (v := ?_) (by first | exact hF | exact wideFn) HG.out rfl (by kernel_rfl) (by kernel_rfl) (by kernel_rfl) (by kernel_rfl) rfl ?_ (by first | exact fun _ _ _ h => h | exact fun _ _ _ h => hQ2 _ _ _ _ _ h) ?_
  rotate_left
  · intro W hSW
    simp only [List.getElem_toArray, List.getElem_cons_zero, List.getElem_cons_succ]
    (try dsimp only at hSW)
    go_simp
    with_reducible rfl
  (try simp only [List.getElem_toArray, List.getElem_cons_zero, List.getElem_cons_succ, Act.put, List.setIfInBounds_toArray, List.set_cons_zero, List.set_cons_succ])
  refine wpAnyJ_done (by kernel_rfl) ?_
  go_wp2_with fail
  go_ret
  exact ⟨rfl, (Below.refl _ _).drew⟩
theorem replace1_state (a b c d e f g n : Int) (S o p : Nat) (w : World) (hk : Kind7 w S o a b c d e f g) (ho : Ok7 a b c d e f g) (hp : w.cell? ⟨p, 0, none⟩ = some (.int .i64 n)) (hpl : p < w.heap.size) (hpS : p ≠ S) (hn : 0 ≤ n) (hn2 : n ≤ 1000000000) (hg : n ≤ g) (hlt : d < n) : Calls Try.prog 89 #[.pointer (some ⟨S, o, none⟩), .pointer (some ⟨p, 0, none⟩)] w fun en w' => en = .returned (.int .i64 9) ∧ Below w.heap.size w w' := by
  obtain ⟨h0, hf, h1, h2, h3, h4, h5, h6, h7⟩ := hk
  obtain ⟨o1, o2, o3, o4, o5, o6, o7, o8, o9⟩ := ho
  have HM := hide (move_lt n d S (o + 3) S (o + 4) w.drew.drew h4 hlt)
  have HP : Hid (w.drew.drew.cell? ⟨p, 0, none⟩ = some (.int .i64 n)) := hide hp
  clear hf h1 h2 h3 h4 h5 h6
  have HG : Hid (w.drew.cell? ⟨p, 0, none⟩ = some (.int .i64 n) ∧ w.drew.cell? ⟨S, o + 6, none⟩ = some (.int .i64 g)) := hide ⟨hp, h7⟩
  go_enter Try.func89, Try.ntmps89
  go_wp2_with fail
  refine wp_region_J (fun W : World => W.cell? ⟨p, 0, none⟩ = some (.int .i64 n) ∧ W.cell? ⟨S, o + 6, none⟩ = some (.int .i64 g)) (by kernel_rfl) ?_
  clear h7 hp
  refine wpAnyJ_take 0 (v := ?_) (by first | exact hF | exact wideFn) HG.out rfl (by kernel_rfl) (by kernel_rfl) (by kernel_rfl) (by kernel_rfl) rfl ?_ (by first | exact fun _ _ _ h => h | exact fun _ _ _ h => hQ2 _ _ _ _ _ h) ?_
  rotate_left
  · intro W hSW
    simp only [List.getElem_toArray, List.getElem_cons_zero, List.getElem_cons_succ]
    (try dsimp only at hSW)
    go_simp
    with_reducible rfl
  (try simp only [List.getElem_toArray, List.getElem_cons_zero, List.getElem_cons_succ, Act.put, List.setIfInBounds_toArray, List.set_cons_zero, List.set_cons_succ])
  refine wpAnyJ_take 1 (v := ?_) (by first | exact hF | exact wideFn) HG.out rfl (by kernel_rfl) (by kernel_rfl) (by kernel_rfl) (by kernel_rfl) rfl ?_ (by first | exact fun _ _ _ h => h | exact fun _ _ _ h => hQ2 _ _ _ _ _ h) ?_
  rotate_left
  · intro W hSW
    simp only [List.getElem_toArray, List.getElem_cons_zero, List.getElem_cons_succ]
    (try dsimp only at hSW)
    go_simp
    with_reducible rfl
  (try simp only [List.getElem_toArray, List.getElem_cons_zero, List.getElem_cons_succ, Act.put, List.setIfInBounds_toArray, List.set_cons_zero, List.set_cons_succ])
  refine wpAnyJ_take 2 (v := ?_) (by first | exact hF | exact wideFn) HG.out rfl (by kernel_rfl) (by kernel_rfl) (by kernel_rfl) (by kernel_rfl) rfl ?_ (by first | exact fun _ _ _ h => h | exact fun _ _ _ h => hQ2 _ _ _ _ _ h) ?_
  rotate_left
  · intro W hSW
    simp only [List.getElem_toArray, List.getElem_cons_zero, List.getElem_cons_succ]
    (try dsimp only at hSW)
    go_simp
    with_reducible rfl
  (try simp only [List.getElem_toArray, List.getElem_cons_zero, List.getElem_cons_succ, Act.put, List.setIfInBounds_toArray, List.set_cons_zero, List.set_cons_succ])
  refine wpAnyJ_take 3 (v := ?_) (by first | exact hF | exact wideFn) HG.out rfl (by kernel_rfl) (by kernel_rfl) (by kernel_rfl) (by kernel_rfl) rfl ?_ (by first | exact fun _ _ _ h => h | exact fun _ _ _ h => hQ2 _ _ _ _ _ h) ?_
  rotate_left
  · intro W hSW
    simp only [List.getElem_toArray, List.getElem_cons_zero, List.getElem_cons_succ]
    (try dsimp only at hSW)
    go_simp
    with_reducible rfl
  (try simp only [List.getElem_toArray, List.getElem_cons_zero, List.getElem_cons_succ, Act.put, List.setIfInBounds_toArray, List.set_cons_zero, List.set_cons_succ])
  refine wpAnyJ_take 4 (v := ?_) (by first | exact hF | exact wideFn) HG.out rfl (by kernel_rfl) (by kernel_rfl) (by kernel_rfl) (by kernel_rfl) rfl ?_ (by first | exact fun _ _ _ h => h | exact fun _ _ _ h => hQ2 _ _ _ _ _ h) ?_
  rotate_left
  · intro W hSW
    simp only [List.getElem_toArray, List.getElem_cons_zero, List.getElem_cons_succ]
    (try dsimp only at hSW)
    go_simp
    with_reducible rfl
  (try simp only [List.getElem_toArray, List.getElem_cons_zero, List.getElem_cons_succ, Act.put, List.setIfInBounds_toArray, List.set_cons_zero, List.set_cons_succ])
  refine wpAnyJ_take 5 (v := ?_) (by first | exact hF | exact wideFn) HG.out rfl (by kernel_rfl) (by kernel_rfl) (by kernel_rfl) (by kernel_rfl) rfl ?_ (by first | exact fun _ _ _ h => h | exact fun _ _ _ h => hQ2 _ _ _ _ _ h) ?_
  rotate_left
  · intro W hSW
    simp only [List.getElem_toArray, List.getElem_cons_zero, List.getElem_cons_succ]
    (try dsimp only at hSW)
    go_simp
    with_reducible rfl
  (try simp only [List.getElem_toArray, List.getElem_cons_zero, List.getElem_cons_succ, Act.put, List.setIfInBounds_toArray, List.set_cons_zero, List.set_cons_succ])
  refine wpAnyJ_take 6 (v := ?_) (by first | exact hF | exact wideFn) HG.out rfl (by kernel_rfl) (by kernel_rfl) (by kernel_rfl) (by kernel_rfl) rfl ?_ (by first | exact fun _ _ _ h => h | exact fun _ _ _ h => hQ2 _ _ _ _ _ h) ?_
  rotate_left
  · intro W hSW
    simp only [List.getElem_toArray, List.getElem_cons_zero, List.getElem_cons_succ]
    (try dsimp only at hSW)
    go_simp
    with_reducible rfl
  (try simp only [List.getElem_toArray, List.getElem_cons_zero, List.getElem_cons_succ, Act.put, List.setIfInBounds_toArray, List.set_cons_zero, List.set_cons_succ])
  refine wpAnyJ_done (by kernel_rfl) ?_
  go_wp2_with fail
  refine wp_region_J (fun W : World => W.cell? ⟨p, 0, none⟩ = some (.int .i64 n)) (by kernel_rfl) ?_
  refine wpAnyJ_take 0 (v := ?_) (by first | exact hF | exact wideFn) HP.out rfl (by kernel_rfl) (by kernel_rfl) (by kernel_rfl) (by kernel_rfl) rfl ?_ (by first | exact fun _ _ _ h => h | exact fun _ _ _ h => hQ2 _ _ _ _ _ h) ?_
  rotate_left
  · intro W hSW
    simp only [List.getElem_toArray, List.getElem_cons_zero, List.getElem_cons_succ]
    (try dsimp only at hSW)
    go_simp
    with_reducible rfl
  (try simp only [List.getElem_toArray, List.getElem_cons_zero, List.getElem_cons_succ, Act.put, List.setIfInBounds_toArray, List.set_cons_zero, List.set_cons_succ])
  refine wpAnyJ_take 1 (v := ?_) (by first | exact hF | exact wideFn) HP.out rfl (by kernel_rfl) (by kernel_rfl) (by kernel_rfl) (by kernel_rfl) rfl ?_ (by first | exact fun _ _ _ h => h | exact fun _ _ _ h => hQ2 _ _ _ _ _ h) ?_
  rotate_left
  · intro W hSW
    simp only [List.getElem_toArray, List.getElem_cons_zero, List.getElem_cons_succ]
    (try dsimp only at hSW)
    go_simp
    with_reducible rfl
  (try simp only [List.getElem_toArray, List.getElem_cons_zero, List.getElem_cons_succ, Act.put, List.setIfInBounds_toArray, List.set_cons_zero, List.set_cons_succ])
  refine wpAnyJ_take 2 (v := ?_) (by first | exact hF | exact wideFn) HP.out rfl (by kernel_rfl) (by kernel_rfl) (by kernel_rfl) (by kernel_rfl) rfl ?_ (by first | exact fun _ _ _ h => h | exact fun _ _ _ h => hQ2 _ _ _ _ _ h) ?_
  rotate_left
  · intro W hSW
    simp only [List.getElem_toArray, List.getElem_cons_zero, List.getElem_cons_succ]
    (try dsimp only at hSW)
    go_simp
    with_reducible rfl
  (try simp only [List.getElem_toArray, List.getElem_cons_zero, List.getElem_cons_succ, Act.put, List.setIfInBounds_toArray, List.set_cons_zero, List.set_cons_succ])
  refine wpAnyJ_take 3 (v := ?_) (by first | exact hF | exact wideFn) HP.out rfl (by kernel_rfl) (by kernel_rfl) (by kernel_rfl) (by kernel_rfl) rfl ?_ (by first | exact fun _ _ _ h => h | exact fun _ _ _ h => hQ2 _ _ _ _ _ h) ?_
  rotate_left
  · intro W hSW
    simp only [List.getElem_toArray, List.getElem_cons_zero, List.getElem_cons_succ]
    (try dsimp only at hSW)
    go_simp
    with_reducible rfl
  (try simp only [List.getElem_toArray, List.getElem_cons_zero, List.getElem_cons_succ, Act.put, List.setIfInBounds_toArray, List.set_cons_zero, List.set_cons_succ])
  refine wpAnyJ_take 4 (v := ?_) (by first | exact hF | exact wideFn) HP.out rfl (by kernel_rfl) (by kernel_rfl) (by kernel_rfl) (by kernel_rfl) rfl ?_ (by first | exact fun _ _ _ h => h | exact fun _ _ _ h => hQ2 _ _ _ _ _ h) ?_
  rotate_left
  · intro W hSW
    simp only [List.getElem_toArray, List.getElem_cons_zero, List.getElem_cons_succ]
    (try dsimp only at hSW)
    go_simp
    with_reducible rfl
  (try simp only [List.getElem_toArray, List.getElem_cons_zero, List.getElem_cons_succ, Act.put, List.setIfInBounds_toArray, List.set_cons_zero, List.set_cons_succ])
  refine wpAnyJ_take 5 (v := ?_) (by first | exact hF | exact wideFn) HP.out rfl (by kernel_rfl) (by kernel_rfl) (by kernel_rfl) (by kernel_rfl) rfl ?_ (by first | exact fun _ _ _ h => h | exact fun _ _ _ h => hQ2 _ _ _ _ _ h) ?_
  rotate_left
  · intro W hSW
    simp only [List.getElem_toArray, List.getElem_cons_zero, List.getElem_cons_succ]
    (try dsimp only at hSW)
    go_simp
    with_reducible rfl
  (try simp only [List.getElem_toArray, List.getElem_cons_zero, List.getElem_cons_succ, Act.put, List.setIfInBounds_toArray, List.set_cons_zero, List.set_cons_succ])
  refine wpAnyJ_take 6 (v := ?_) (by first | exact hF | exact wideFn) HP.out rfl (by kernel_rfl) (by kernel_rfl) (by kernel_rfl) (by kernel_rfl) rfl ?_ (by first | exact fun _ _ _ h => h | exact fun _ _ _ h => hQ2 _ _ _ _ _ h) ?_
  rotate_left
  · intro W hSW
    simp only [List.getElem_toArray, List.getElem_cons_zero, List.getElem_cons_succ]
    (try dsimp only at hSW)
    go_simp
    with_reducible rfl
  (try simp only [List.getElem_toArray, List.getElem_cons_zero, List.getElem_cons_succ, Act.put, List.setIfInBounds_toArray, List.set_cons_zero, List.set_cons_succ])
  refine wpAnyJ_take 7 (v := ?_) (by first | exact hF | exact wideFn) HP.out rfl (by kernel_rfl) (by kernel_rfl) (by kernel_rfl) (by kernel_rfl) rfl ?_ (by first | exact fun _ _ _ h => h | exact fun _ _ _ h => hQ2 _ _ _ _ _ h) ?_
  rotate_left
  · intro W hSW
    simp only [List.getElem_toArray, List.getElem_cons_zero, List.getElem_cons_succ]
    (try dsimp only at hSW)
    go_simp
    with_reducible rfl
  (try simp only [List.getElem_toArray, List.getElem_cons_zero, List.getElem_cons_succ, Act.put, List.setIfInBounds_toArray, List.set_cons_zero, List.set_cons_succ])
  refine wpAnyJ_take 8 (v := ?_) (by first | exact hF | exact wideFn) HP.out rfl (by kernel_rfl) (by kernel_rfl) (by kernel_rfl) (by kernel_rfl) rfl ?_ (by first | exact fun _ _ _ h => h | exact fun _ _ _ h => hQ2 _ _ _ _ _ h) ?_
  rotate_left
  · intro W hSW
    simp only [List.getElem_toArray, List.getElem_cons_zero, List.getElem_cons_succ]
    (try dsimp only at hSW)
    go_simp
    with_reducible rfl
  (try simp only [List.getElem_toArray, List.getElem_cons_zero, List.getElem_cons_succ, Act.put, List.setIfInBounds_toArray, List.set_cons_zero, List.set_cons_succ])
  refine wpAnyJ_one 9 rfl (by kernel_rfl) (fun K hK => ?_)
  simp only [List.getElem_toArray, List.getElem_cons_zero, List.getElem_cons_succ]
  go_simp
  refine ⟨trivial, rfl, ?_⟩
  refine (callsIn_wide.2 HM.out).mono ?_
  rintro e w2 ⟨rfl, rfl⟩
  skip
  dsimp only
  refine hK.out _ _ (fun _ => HP.out) ?_
  clear hK K
  (try simp only [List.getElem_toArray, List.getElem_cons_zero, List.getElem_cons_succ, Act.put, List.setIfInBounds_toArray, List.set_cons_zero, List.set_cons_succ])
  refine wpAnyJ_take 10 (v := ?_) (by first | exact hF | exact wideFn) HP.out rfl (by kernel_rfl) (by kernel_rfl) (by kernel_rfl) (by kernel_rfl) rfl ?_ (by first | exact fun _ _ _ h => h | exact fun _ _ _ h => hQ2 _ _ _ _ _ h) ?_
  rotate_left
  · intro W hSW
    simp only [List.getElem_toArray, List.getElem_cons_zero, List.getElem_cons_succ]
    (try dsimp only at hSW)
    go_simp
    with_reducible rfl
  (try simp only [List.getElem_toArray, List.getElem_cons_zero, List.getElem_cons_succ, Act.put, List.setIfInBounds_toArray, List.set_cons_zero, List.set_cons_succ])
  refine wpAnyJ_done (by kernel_rfl) ?_
  go_wp2_with fail
  go_ret
  exact ⟨rfl, (Below.refl _ _).drew.drew⟩
theorem replace1_ok (a b c d e f g n : Int) (S o p : Nat) (w : World) (hk : Kind7 w S o a b c d e f g) (ho : Ok7 a b c d e f g) (hp : w.cell? ⟨p, 0, none⟩ = some (.int .i64 n)) (hpl : p < w.heap.size) (hpS : p ≠ S) (hn : 0 ≤ n) (hn2 : n ≤ 1000000000) (hg : n ≤ g) (hlt : n ≤ d) : Calls Try.prog 89 #[.pointer (some ⟨S, o, none⟩), .pointer (some ⟨p, 0, none⟩)] w fun en w' => en = .returned (.int .i64 0) ∧ Below w.heap.size ((mv w S (o + 3) (o + 4) (d - n) (e + n)).setCell ⟨S, o + 6, none⟩ (.int .i64 (g - n))) w' := by
  obtain ⟨h0, hf, h1, h2, h3, h4, h5, h6, h7⟩ := hk
  obtain ⟨o1, o2, o3, o4, o5, o6, o7, o8, o9⟩ := ho
  have HM := hide (move_ok n d e S (o + 3) (o + 4) w.drew.drew h4 h5 hf (by omega) hlt hn (by omega) (by omega) (by omega))
  have HP : Hid (w.drew.drew.cell? ⟨p, 0, none⟩ = some (.int .i64 n)) := hide hp
  have HQ : Hid (∀ W, Below w.heap.size (mv w S (o + 3) (o + 4) (d - n) (e + n)) W → W.cell? ⟨p, 0, none⟩ = some (.int .i64 n)) := hide (fun W h => (h.cell (p := ⟨p, 0, none⟩) hpl).trans ((mv_far hpS).trans hp))
  have HF := hide hf
  have G7 := hide h7
  clear hf h1 h2 h3 h4 h5 h6
  have HG : Hid (w.drew.cell? ⟨p, 0, none⟩ = some (.int .i64 n) ∧ w.drew.cell? ⟨S, o + 6, none⟩ = some (.int .i64 g)) := hide ⟨hp, h7⟩
  go_enter Try.func89, Try.ntmps89
  go_wp2_with fail
  refine wp_region_J (fun W : World => W.cell? ⟨p, 0, none⟩ = some (.int .i64 n) ∧ W.cell? ⟨S, o + 6, none⟩ = some (.int .i64 g)) (by kernel_rfl) ?_
  clear h7 hp
  refine wpAnyJ_take 0 (v := ?_) (by first | exact hF | exact wideFn) HG.out rfl (by kernel_rfl) (by kernel_rfl) (by kernel_rfl) (by kernel_rfl) rfl ?_ (by first | exact fun _ _ _ h => h | exact fun _ _ _ h => hQ2 _ _ _ _ _ h) ?_
  rotate_left
  · intro W hSW
    simp only [List.getElem_toArray, List.getElem_cons_zero, List.getElem_cons_succ]
    (try dsimp only at hSW)
    go_simp
    with_reducible rfl
  (try simp only [List.getElem_toArray, List.getElem_cons_zero, List.getElem_cons_succ, Act.put, List.setIfInBounds_toArray, List.set_cons_zero, List.set_cons_succ])
  refine wpAnyJ_take 1 (v := ?_) (by first | exact hF | exact wideFn) HG.out rfl (by kernel_rfl) (by kernel_rfl) (by kernel_rfl) (by kernel_rfl) rfl ?_ (by first | exact fun _ _ _ h => h | exact fun _ _ _ h => hQ2 _ _ _ _ _ h) ?_
  rotate_left
  · intro W hSW
    simp only [List.getElem_toArray, List.getElem_cons_zero, List.getElem_cons_succ]
    (try dsimp only at hSW)
    go_simp
    with_reducible rfl
  (try simp only [List.getElem_toArray, List.getElem_cons_zero, List.getElem_cons_succ, Act.put, List.setIfInBounds_toArray, List.set_cons_zero, List.set_cons_succ])
  refine wpAnyJ_take 2 (v := ?_) (by first | exact hF | exact wideFn) HG.out rfl (by kernel_rfl) (by kernel_rfl) (by kernel_rfl) (by kernel_rfl) rfl ?_ (by first | exact fun _ _ _ h => h | exact fun _ _ _ h => hQ2 _ _ _ _ _ h) ?_
  rotate_left
  · intro W hSW
    simp only [List.getElem_toArray, List.getElem_cons_zero, List.getElem_cons_succ]
    (try dsimp only at hSW)
    go_simp
    with_reducible rfl
  (try simp only [List.getElem_toArray, List.getElem_cons_zero, List.getElem_cons_succ, Act.put, List.setIfInBounds_toArray, List.set_cons_zero, List.set_cons_succ])
  refine wpAnyJ_take 3 (v := ?_) (by first | exact hF | exact wideFn) HG.out rfl (by kernel_rfl) (by kernel_rfl) (by kernel_rfl) (by kernel_rfl) rfl ?_ (by first | exact fun _ _ _ h => h | exact fun _ _ _ h => hQ2 _ _ _ _ _ h) ?_
  rotate_left
  · intro W hSW
    simp only [List.getElem_toArray, List.getElem_cons_zero, List.getElem_cons_succ]
    (try dsimp only at hSW)
    go_simp
    with_reducible rfl
  (try simp only [List.getElem_toArray, List.getElem_cons_zero, List.getElem_cons_succ, Act.put, List.setIfInBounds_toArray, List.set_cons_zero, List.set_cons_succ])
  refine wpAnyJ_take 4 (v := ?_) (by first | exact hF | exact wideFn) HG.out rfl (by kernel_rfl) (by kernel_rfl) (by kernel_rfl) (by kernel_rfl) rfl ?_ (by first | exact fun _ _ _ h => h | exact fun _ _ _ h => hQ2 _ _ _ _ _ h) ?_
  rotate_left
  · intro W hSW
    simp only [List.getElem_toArray, List.getElem_cons_zero, List.getElem_cons_succ]
    (try dsimp only at hSW)
    go_simp
    with_reducible rfl
  (try simp only [List.getElem_toArray, List.getElem_cons_zero, List.getElem_cons_succ, Act.put, List.setIfInBounds_toArray, List.set_cons_zero, List.set_cons_succ])
  refine wpAnyJ_take 5 (v := ?_) (by first | exact hF | exact wideFn) HG.out rfl (by kernel_rfl) (by kernel_rfl) (by kernel_rfl) (by kernel_rfl) rfl ?_ (by first | exact fun _ _ _ h => h | exact fun _ _ _ h => hQ2 _ _ _ _ _ h) ?_
  rotate_left
  · intro W hSW
    simp only [List.getElem_toArray, List.getElem_cons_zero, List.getElem_cons_succ]
    (try dsimp only at hSW)
    go_simp
    with_reducible rfl
  (try simp only [List.getElem_toArray, List.getElem_cons_zero, List.getElem_cons_succ, Act.put, List.setIfInBounds_toArray, List.set_cons_zero, List.set_cons_succ])
  refine wpAnyJ_take 6 (v := ?_) (by first | exact hF | exact wideFn) HG.out rfl (by kernel_rfl) (by kernel_rfl) (by kernel_rfl) (by kernel_rfl) rfl ?_ (by first | exact fun _ _ _ h => h | exact fun _ _ _ h => hQ2 _ _ _ _ _ h) ?_
  rotate_left
  · intro W hSW
    simp only [List.getElem_toArray, List.getElem_cons_zero, List.getElem_cons_succ]
    (try dsimp only at hSW)
    go_simp
    with_reducible rfl
  (try simp only [List.getElem_toArray, List.getElem_cons_zero, List.getElem_cons_succ, Act.put, List.setIfInBounds_toArray, List.set_cons_zero, List.set_cons_succ])
  refine wpAnyJ_done (by kernel_rfl) ?_
  go_wp2_with fail
  refine wp_region_J (fun W : World => W.cell? ⟨p, 0, none⟩ = some (.int .i64 n)) (by kernel_rfl) ?_
  refine wpAnyJ_take 0 (v := ?_) (by first | exact hF | exact wideFn) HP.out rfl (by kernel_rfl) (by kernel_rfl) (by kernel_rfl) (by kernel_rfl) rfl ?_ (by first | exact fun _ _ _ h => h | exact fun _ _ _ h => hQ2 _ _ _ _ _ h) ?_
  rotate_left
  · intro W hSW
    simp only [List.getElem_toArray, List.getElem_cons_zero, List.getElem_cons_succ]
    (try dsimp only at hSW)
    go_simp
    with_reducible rfl
  (try simp only [List.getElem_toArray, List.getElem_cons_zero, List.getElem_cons_succ, Act.put, List.setIfInBounds_toArray, List.set_cons_zero, List.set_cons_succ])
  refine wpAnyJ_take 1 (v := ?_) (by first | exact hF | exact wideFn) HP.out rfl (by kernel_rfl) (by kernel_rfl) (by kernel_rfl) (by kernel_rfl) rfl ?_ (by first | exact fun _ _ _ h => h | exact fun _ _ _ h => hQ2 _ _ _ _ _ h) ?_
  rotate_left
  · intro W hSW
    simp only [List.getElem_toArray, List.getElem_cons_zero, List.getElem_cons_succ]
    (try dsimp only at hSW)
    go_simp
    with_reducible rfl
  (try simp only [List.getElem_toArray, List.getElem_cons_zero, List.getElem_cons_succ, Act.put, List.setIfInBounds_toArray, List.set_cons_zero, List.set_cons_succ])
  refine wpAnyJ_take 2 (v := ?_) (by first | exact hF | exact wideFn) HP.out rfl (by kernel_rfl) (by kernel_rfl) (by kernel_rfl) (by kernel_rfl) rfl ?_ (by first | exact fun _ _ _ h => h | exact fun _ _ _ h => hQ2 _ _ _ _ _ h) ?_
  rotate_left
  · intro W hSW
    simp only [List.getElem_toArray, List.getElem_cons_zero, List.getElem_cons_succ]
    (try dsimp only at hSW)
    go_simp
    with_reducible rfl
  (try simp only [List.getElem_toArray, List.getElem_cons_zero, List.getElem_cons_succ, Act.put, List.setIfInBounds_toArray, List.set_cons_zero, List.set_cons_succ])
  refine wpAnyJ_take 3 (v := ?_) (by first | exact hF | exact wideFn) HP.out rfl (by kernel_rfl) (by kernel_rfl) (by kernel_rfl) (by kernel_rfl) rfl ?_ (by first | exact fun _ _ _ h => h | exact fun _ _ _ h => hQ2 _ _ _ _ _ h) ?_
  rotate_left
  · intro W hSW
    simp only [List.getElem_toArray, List.getElem_cons_zero, List.getElem_cons_succ]
    (try dsimp only at hSW)
    go_simp
    with_reducible rfl
  (try simp only [List.getElem_toArray, List.getElem_cons_zero, List.getElem_cons_succ, Act.put, List.setIfInBounds_toArray, List.set_cons_zero, List.set_cons_succ])
  refine wpAnyJ_take 4 (v := ?_) (by first | exact hF | exact wideFn) HP.out rfl (by kernel_rfl) (by kernel_rfl) (by kernel_rfl) (by kernel_rfl) rfl ?_ (by first | exact fun _ _ _ h => h | exact fun _ _ _ h => hQ2 _ _ _ _ _ h) ?_
  rotate_left
  · intro W hSW
    simp only [List.getElem_toArray, List.getElem_cons_zero, List.getElem_cons_succ]
    (try dsimp only at hSW)
    go_simp
    with_reducible rfl
  (try simp only [List.getElem_toArray, List.getElem_cons_zero, List.getElem_cons_succ, Act.put, List.setIfInBounds_toArray, List.set_cons_zero, List.set_cons_succ])
  refine wpAnyJ_take 5 (v := ?_) (by first | exact hF | exact wideFn) HP.out rfl (by kernel_rfl) (by kernel_rfl) (by kernel_rfl) (by kernel_rfl) rfl ?_ (by first | exact fun _ _ _ h => h | exact fun _ _ _ h => hQ2 _ _ _ _ _ h) ?_
  rotate_left
  · intro W hSW
    simp only [List.getElem_toArray, List.getElem_cons_zero, List.getElem_cons_succ]
    (try dsimp only at hSW)
    go_simp
    with_reducible rfl
  (try simp only [List.getElem_toArray, List.getElem_cons_zero, List.getElem_cons_succ, Act.put, List.setIfInBounds_toArray, List.set_cons_zero, List.set_cons_succ])
  refine wpAnyJ_take 6 (v := ?_) (by first | exact hF | exact wideFn) HP.out rfl (by kernel_rfl) (by kernel_rfl) (by kernel_rfl) (by kernel_rfl) rfl ?_ (by first | exact fun _ _ _ h => h | exact fun _ _ _ h => hQ2 _ _ _ _ _ h) ?_
  rotate_left
  · intro W hSW
    simp only [List.getElem_toArray, List.getElem_cons_zero, List.getElem_cons_succ]
    (try dsimp only at hSW)
    go_simp
    with_reducible rfl
  (try simp only [List.getElem_toArray, List.getElem_cons_zero, List.getElem_cons_succ, Act.put, List.setIfInBounds_toArray, List.set_cons_zero, List.set_cons_succ])
  refine wpAnyJ_take 7 (v := ?_) (by first | exact hF | exact wideFn) HP.out rfl (by kernel_rfl) (by kernel_rfl) (by kernel_rfl) (by kernel_rfl) rfl ?_ (by first | exact fun _ _ _ h => h | exact fun _ _ _ h => hQ2 _ _ _ _ _ h) ?_
  rotate_left
  · intro W hSW
    simp only [List.getElem_toArray, List.getElem_cons_zero, List.getElem_cons_succ]
    (try dsimp only at hSW)
    go_simp
    with_reducible rfl
  (try simp only [List.getElem_toArray, List.getElem_cons_zero, List.getElem_cons_succ, Act.put, List.setIfInBounds_toArray, List.set_cons_zero, List.set_cons_succ])
  refine wpAnyJ_take 8 (v := ?_) (by first | exact hF | exact wideFn) HP.out rfl (by kernel_rfl) (by kernel_rfl) (by kernel_rfl) (by kernel_rfl) rfl ?_ (by first | exact fun _ _ _ h => h | exact fun _ _ _ h => hQ2 _ _ _ _ _ h) ?_
  rotate_left
  · intro W hSW
    simp only [List.getElem_toArray, List.getElem_cons_zero, List.getElem_cons_succ]
    (try dsimp only at hSW)
    go_simp
    with_reducible rfl
  (try simp only [List.getElem_toArray, List.getElem_cons_zero, List.getElem_cons_succ, Act.put, List.setIfInBounds_toArray, List.set_cons_zero, List.set_cons_succ])
  refine wpAnyJ_one 9 rfl (by kernel_rfl) (fun K hK => ?_)
  simp only [List.getElem_toArray, List.getElem_cons_zero, List.getElem_cons_succ]
  go_simp
  refine ⟨trivial, rfl, ?_⟩
  refine (callsIn_wide.2 HM.out).mono ?_
  rintro e w2 ⟨rfl, hb2⟩
  have hb2' : Below w.heap.size (mv w S (o + 3) (o + 4) (d - n) (e + n)) w2 := ⟨hb2.os, hb2.tape, hb2.output, hb2.size, hb2.block⟩
  dsimp only
  refine hK.out _ _ (fun _ => HQ.out _ hb2') ?_
  clear hK K
  (try simp only [List.getElem_toArray, List.getElem_cons_zero, List.getElem_cons_succ, Act.put, List.setIfInBounds_toArray, List.set_cons_zero, List.set_cons_succ])
  refine wpAnyJ_take 10 (v := ?_) (by first | exact hF | exact wideFn) (HQ.out _ hb2') rfl (by kernel_rfl) (by kernel_rfl) (by kernel_rfl) (by kernel_rfl) rfl ?_ (by first | exact fun _ _ _ h => h | exact fun _ _ _ h => hQ2 _ _ _ _ _ h) ?_
  rotate_left
  · intro W hSW
    simp only [List.getElem_toArray, List.getElem_cons_zero, List.getElem_cons_succ]
    (try dsimp only at hSW)
    go_simp
    with_reducible rfl
  (try simp only [List.getElem_toArray, List.getElem_cons_zero, List.getElem_cons_succ, Act.put, List.setIfInBounds_toArray, List.set_cons_zero, List.set_cons_succ])
  refine wpAnyJ_done (by kernel_rfl) ?_
  have m7 : w2.cell? ⟨S, o + 6, none⟩ = some (.int .i64 g) := (hb2'.cell (p := ⟨S, o + 6, none⟩) h0).trans (mv_cell G7.out (by omega) (by omega))
  have mp : w2.cell? ⟨p, 0, none⟩ = some (.int .i64 n) := HQ.out _ hb2'
  have mf : w2.frozen? ⟨S, o + 6, none⟩ = false := (hb2'.frozen (p := ⟨S, o + 6, none⟩) h0).trans ((mv_frozen _ _ _ _ _ _ _).trans (HF.out _))
  have ms : S < w2.heap.size := by have := hb2'.size; rw [size_mv] at this; omega
  go_wp2_with fail
  go_region
  all_goals
    go_wp2_with fail
    go_ret
    exact ⟨rfl, (setB hb2' _ _).drew⟩
end Go.Proofs.Ytlhekifmkkgjlaa
/- Contracts of chapter 8 on stacks: the iterators over cells and bricks. -/
namespace Go.Proofs.Ytlhekifmkkgjlaa
open Go Go.RowKit Go.Shelf
attribute [local go_sem] Oper.semAt_some
set_option maxHeartbeats 1000000
/-- a stack: its floor, and of each tier where its cells and weights lie, how many, and what they are -/
structure Stk where
  (wd hg : Int)
  (A : Option Addr)
  (nt cap : Nat)
  (ca wa : Nat → Option Addr)
  (cn cc wn wc : Nat → Nat)
  (cf wf : Nat → Nat → Int)
def Stk.u (s : Stk) (k : Nat) : Value := .slice (s.ca k) (s.cn k) (s.cc k)
def Stk.v (s : Stk) (k : Nat) : Value := .slice (s.wa k) (s.wn k) (s.wc k)
def StkR (w : World) (B : Nat) (s : Stk) : Prop :=
  s.nt ≤ 1000000 ∧ P2 w B s.A s.nt s.u s.v ∧ ∀ k, k < s.nt → s.cn k ≤ 1000000 ∧ s.wn k ≤ 1000000 ∧ IR w B (s.ca k) (s.cn k) (s.cf k) ∧ IR w B (s.wa k) (s.wn k) (s.wf k)
theorem StkR.below {w w' : World} {B B' : Nat} {s : Stk} (h : StkR w B s) (hb : Below B' w w') (hB : B ≤ B') : StkR w' B s :=
  ⟨h.1, h.2.1.below hb hB, fun k hk => ⟨(h.2.2 k hk).1, (h.2.2 k hk).2.1, (h.2.2 k hk).2.2.1.below hb hB, (h.2.2 k hk).2.2.2.below hb hB⟩⟩
theorem StkR.more {w : World} {B B' : Nat} {s : Stk} (h : StkR w B s) (hB : B ≤ B') : StkR w B' s :=
  ⟨h.1, h.2.1.more hB, fun k hk => ⟨(h.2.2 k hk).1, (h.2.2 k hk).2.1, (h.2.2 k hk).2.2.1.more hB, (h.2.2 k hk).2.2.2.more hB⟩⟩
/-- a pile in a box -/
def PileB (w : World) (p : Nat) (s : Stk) : Prop := Blk w p 131 #[.int .i64 s.wd, .int .i64 s.hg, .slice s.A s.nt s.cap]
theorem PileB.c2 {w : World} {p : Nat} {s : Stk} (h : PileB w p s) : w.cell? ⟨p, 2, none⟩ = some (.slice s.A s.nt s.cap) := by
  have := Blk.cell h 2
  simpa using this
/-- the cells of a brick below n -/
def cellsTo (x : Nat → Int) (b : Int) (n : Nat) : List Nat := (List.range n).filter fun i => decide (x i = b)
theorem cellsTo_yes {x : Nat → Int} {b : Int} {n : Nat} (h : x n = b) : cellsTo x b (n + 1) = cellsTo x b n ++ [n] := by
  simp [cellsTo, List.range_succ, List.filter_append, h]
theorem cellsTo_no {x : Nat → Int} {b : Int} {n : Nat} (h : x n ≠ b) : cellsTo x b (n + 1) = cellsTo x b n := by
  simp [cellsTo, List.range_succ, List.filter_append, h]
theorem cellsTo_len (x : Nat → Int) (b : Int) (n : Nat) : (cellsTo x b n).length ≤ n := by
  have := List.length_filter_le (fun i => decide (x i = b)) (List.range n)
  simpa [cellsTo] using this
theorem cellsTo_prefix (x : Nat → Int) (b : Int) (k n : Nat) (h : k ≤ n) : cellsTo x b k <+: cellsTo x b n := by
  induction n with
  | zero => obtain rfl : k = 0 := by omega
            exact List.prefix_refl _
  | succ n ih =>
    rcases Nat.lt_or_ge k (n + 1) with hl | hl
    · refine (ih (by omega)).trans ?_
      by_cases hx : x n = b
      · rw [cellsTo_yes hx]; exact List.prefix_append _ _
      · rw [cellsTo_no hx]; exact List.prefix_refl _
    · obtain rfl : k = n + 1 := by omega
      exact List.prefix_refl _
theorem cellsTo_lt (x : Nat → Int) (b : Int) (k n : Nat) (h : k < n) (hx : x k = b) : (cellsTo x b k).length < (cellsTo x b n).length := by
  have h1 := (cellsTo_prefix x b (k + 1) n h).length_le
  rw [cellsTo_yes hx] at h1
  simp at h1
  omega
/-- what a round of a loop over cells keeps: all below n0, and the box q -/
def KpB (n0 q : Nat) (W W' : World) : Prop := Below n0 W W' ∧ W'.heap[q]? = W.heap[q]?
theorem KpB.trans {n0 q : Nat} {A B C : World} (h : KpB n0 q A B) (k : KpB n0 q B C) : KpB n0 q A C := ⟨h.1.trans k.1, k.2.trans h.2⟩
theorem KpB.refl (n0 q : Nat) (W : World) : KpB n0 q W W := ⟨Below.refl _ _, rfl⟩
theorem KpB.blk {n0 q : Nat} {A B : World} (h : KpB n0 q A B) {t : TypeId} {cs : Array Value} (k : Blk A q t cs) : Blk B q t cs := h.2.trans k
theorem KpB.putObj {w : World} {n0 q : Nat} (hn : n0 ≤ w.heap.size) (hq : q < w.heap.size) (W : World) (l : Nat) (o o' : Obj) (hl : w.heap.size ≤ l) (h : W.heap[l]? = some o) (_ : o.isCells = false) (_ : o.isWalk = false) : KpB n0 q W (W.putObj l o') :=
  ⟨belowK_b hn W l o o' hl h ‹_› ‹_›, World.putObj_heap_other (by omega)⟩
abbrev Cell (n : Nat) := { c : Nat // c < n }
/-- the closure of cells -/
theorem cells1_in (F : Fence) (n : Nat) (hF : ∀ f, F.fn f) (hro : F.round = none) (hn : 1 ≤ n) (l p q n0 t : Nat) (b : Int) (s : Stk) (J Jx : List (Cell (s.cn t)) → World → Prop) (W : World)
    (hp : PileB W p s) (hq : Blk W q 59 #[.int .i64 t, .int .i64 b]) (hs : StkR W n0 s) (ht : t < s.nt)
    (hY : ∀ pre (x : Cell (s.cn t)) W, J pre W → pre.length < (cellsTo (s.cf t) b (s.cn t)).length → YieldAt F (n - 1) Try.prog l #[.int .i64 x.1] W fun e W' =>
      (e = .returned (.bool true) ∧ J (pre ++ [x]) W' ∧ KpB n0 q W W') ∨ (e = .returned (.bool false) ∧ Jx (pre ++ [x]) W')) (h0 : J [] W) :
    CallsIn F n Try.prog 102 #[.func (.yield l) #[] #[], .pointer (some ⟨p, 0, none⟩), .pointer (some ⟨q, 0, none⟩)] W fun e W' => (∃ v, e = .returned v) ∧
      ((∃ ys : List (Cell (s.cn t)), ys.map (·.1) = cellsTo (s.cf t) b (s.cn t) ∧ J ys W') ∨ (∃ pre : List (Cell (s.cn t)), pre.map (·.1) <+: cellsTo (s.cf t) b (s.cn t) ∧ Jx pre W')) := by
  obtain ⟨g1, g2, g3, -, -⟩ := blk2 hq
  have g4 := hp.c2
  obtain ⟨tb, toff, hA, htb, hu, -⟩ := hs.2.1.at_ ht
  obtain ⟨m1, -, hI, -⟩ := hs.2.2 t ht
  have i1 : (0 : Int) ≤ (t : Int) := by omega
  have i2 : (t : Int) < (s.nt : Int) := by omega
  unfold Stk.u at hu
  rw [hA] at g4
  generalize s.ca t = CA at hu hI
  have HYY := hide hY
  have HQ := hide hq
  have HI := hide hI
  have H0 := hide h0
  clear hY hI h0 hs hA hp hq
  refine callsIn_of_wp Try.func102 rfl (hF _) ?_ hro
  simp only [Try.ntmps102, List.size_toArray, List.length_cons, List.length_nil, Nat.reduceAdd, Nat.reduceSub, Array.replicate_succ, Array.replicate_zero, List.push_toArray, List.append_toArray, List.nil_append, List.cons_append]
  gi_wp2_with fail
  gi_loopw [15] (fun i wr => ∃ (k : Nat) (ys : List (Cell (s.cn t))), k ≤ s.cn t ∧ i = .int .i64 k ∧ Hid (ys.map (·.1) = cellsTo (s.cf t) b k ∧ J ys wr) ∧ KpB n0 q W wr) (fun i _ => s.cn t - (intOf i).toNat)
  case atStart => exact ⟨0, [], Nat.zero_le _, rfl, hide ⟨rfl, H0.out⟩, KpB.refl _ _ _⟩
  case round =>
    obtain ⟨k, ys, hk, rfl, hJs, hnx⟩ := hrel
    have c3 : wr.cell? ⟨q, 1, none⟩ = some (.int .i64 b) := (blk2 (hnx.blk HQ.out)).2.2.1
    by_cases hlt : k < s.cn t
    · obtain ⟨cb, coff, rfl, hcb, hcc⟩ := (HI.out.below hnx.1 (Nat.le_refl _)).at_ hlt
      have j1 : (0 : Int) ≤ (k : Int) := by omega
      have j2 : (k : Int) < (s.cn t : Int) := by omega
      have j3 : s.cn t < 9223372036854775807 := by omega
      by_cases hx : s.cf t k = b
      · obtain ⟨fn, tmps, assign, body, hy, hR⟩ := HYY.out ys ⟨k, hlt⟩ wr hJs.out.2 (by
          have h1 := cellsTo_lt (s.cf t) b k _ hlt hx
          rwa [← hJs.out.1, List.length_map] at h1)
        dsimp only at hy
        have HX := hide hx
        have hxb : (s.cf t k == b) = true := by simpa using hx
        have HR := hide hR
        clear hx hR
        gi_wp2_with fail
        refine HR.out.mono ?_
        rintro e W3 (⟨rfl, hJ3, hk3⟩ | ⟨rfl, hJx3⟩)
        · have HJ3 := hide hJ3
          clear hJ3
          gi_wp2_with fail
          go_roundw
          case rel => exact ⟨k + 1, ys ++ [⟨k, hlt⟩], by omega, by go_num, hide ⟨by rw [cellsTo_yes HX.out, List.map_append, hJs.out.1]; rfl, HJ3.out⟩, hnx.trans hk3⟩
          case measure => simp [intOf]; omega
        · have HJ3 := hide hJx3
          clear hJx3
          gi_wp2_with fail
          refine bodyPost_ret (results_none rfl _ _ _) rfl ?_
          exact ⟨⟨_, rfl⟩, .inr ⟨_, by
            rw [List.map_append, hJs.out.1]
            have h9 := cellsTo_prefix (s.cf t) b (k + 1) (s.cn t) (by omega)
            rw [cellsTo_yes HX.out] at h9
            exact h9, HJ3.out⟩⟩
      · have HX := hide hx
        have hxb : (s.cf t k == b) = false := by simpa using hx
        clear hx
        gi_wp2_with fail
        go_roundw
        case rel => exact ⟨k + 1, ys, by omega, by go_num, hide ⟨by rw [cellsTo_no HX.out]; exact hJs.out.1, hJs.out.2⟩, hnx⟩
        case measure => simp [intOf]; omega
    · obtain rfl : k = s.cn t := by omega
      gi_wp2_with fail
      go_end0
      exact ⟨⟨_, rfl⟩, .inl ⟨ys, hJs.out.1, hJs.out.2⟩⟩
end Go.Proofs.Ytlhekifmkkgjlaa
/- Contracts of chapter 8 on stacks: covered, cells, rests. -/
namespace Go.Proofs.Ytlhekifmkkgjlaa
open Go Go.RowKit Go.Shelf
attribute [local go_sem] Oper.semAt_some
set_option maxHeartbeats 1000000
def covB (s : Stk) (t : Int) (c : Nat) : Bool := decide (t < 0) || (decide (t < s.nt) && decide (0 ≤ s.cf t.toNat c))
theorem covered_neg (s : Stk) (t : Int) (c : Int) (w : World) (ht : t < 0) :
    Calls Try.prog 94 #[.agg #[.int .i64 s.wd, .int .i64 s.hg, .slice s.A s.nt s.cap], .int .i64 t, .int .i64 c] w fun e w' => e = .returned (.bool true) ∧ Below w.heap.size w w' := by
  go_enter Try.func94, Try.ntmps94
  go_wp2_with fail
  go_ret
  exact ⟨rfl, (Below.refl _ _).alloc (Nat.le_refl _) _⟩
theorem covered_above (s : Stk) (t : Int) (c : Int) (w : World) (h0 : s.nt ≤ 1000000) (ht : s.nt ≤ t) :
    Calls Try.prog 94 #[.agg #[.int .i64 s.wd, .int .i64 s.hg, .slice s.A s.nt s.cap], .int .i64 t, .int .i64 c] w fun e w' => e = .returned (.bool false) ∧ Below w.heap.size w w' := by
  have h1 : ¬ t < 0 := by omega
  go_enter Try.func94, Try.ntmps94
  go_wp2_with fail
  go_ret
  exact ⟨rfl, (Below.refl _ _).alloc (Nat.le_refl _) _⟩
theorem covered_in (s : Stk) (t c : Nat) (w : World) (hs : StkR w w.heap.size s) (ht : t < s.nt) (hc : c < s.cn t) :
    Calls Try.prog 94 #[.agg #[.int .i64 s.wd, .int .i64 s.hg, .slice s.A s.nt s.cap], .int .i64 t, .int .i64 c] w fun e w' => e = .returned (.bool (decide (0 ≤ s.cf t c))) ∧ Below w.heap.size w w' := by
  obtain ⟨tb, toff, hA, htb, hu, -⟩ := hs.2.1.at_ ht
  obtain ⟨m1, -, hI, -⟩ := hs.2.2 t ht
  unfold Stk.u at hu
  obtain ⟨cb, coff, hca, hcb, hcc⟩ := hI.at_ hc
  rw [hca] at hu
  have m0 := hs.1
  clear hs hI hca
  rw [hA]
  clear hA
  have i1 : (0 : Int) ≤ (t : Int) := by omega
  have i2 : (t : Int) < (s.nt : Int) := by omega
  have i3 : (0 : Int) ≤ (c : Int) := by omega
  have i4 : (c : Int) < (s.cn t : Int) := by omega
  go_enter Try.func94, Try.ntmps94
  go_wp2_with fail
  go_ret
  exact ⟨rfl, (Below.refl _ _).alloc (Nat.le_refl _) _⟩
theorem covered_any (s : Stk) (t : Int) (c : Nat) (w : World) (hs : StkR w w.heap.size s) (hc : ∀ k : Nat, (k : Int) = t → k < s.nt → c < s.cn k) :
    Calls Try.prog 94 #[.agg #[.int .i64 s.wd, .int .i64 s.hg, .slice s.A s.nt s.cap], .int .i64 t, .int .i64 c] w fun e w' => e = .returned (.bool (covB s t c)) ∧ Below w.heap.size w w' := by
  rcases (by omega : t < 0 ∨ (s.nt : Int) ≤ t ∨ (0 ≤ t ∧ t < s.nt)) with h | h | ⟨h1, h2⟩
  · have : covB s t c = true := by simp [covB, h]
    rw [this]; exact covered_neg s t c w h
  · have : covB s t c = false := by
      have h3 : ¬ t < 0 := by omega
      have h4 : ¬ t < s.nt := by omega
      simp only [covB, decide_eq_false h3, decide_eq_false h4, Bool.false_and, Bool.or_false]
    rw [this]; exact covered_above s t c w hs.1 h
  · obtain ⟨k, rfl⟩ := Int.eq_ofNat_of_zero_le h1
    have : covB s k c = decide (0 ≤ s.cf k c) := by
      have h3 : ¬ (k : Int) < 0 := by omega
      simp only [covB, decide_eq_false h3, decide_eq_true h2, Bool.false_or, Bool.true_and, Int.toNat_natCast]
    rw [this]; exact covered_in s k c w hs (by omega) (hc k rfl (by omega))
theorem cells_any (s : Stk) (t b : Int) (w : World) :
    Calls Try.prog 69 #[.agg #[.int .i64 s.wd, .int .i64 s.hg, .slice s.A s.nt s.cap], .agg #[.int .i64 t, .int .i64 b]] w fun e w' => e = .returned (.func (.func 102) #[] #[.pointer (some ⟨w.heap.size, 0, none⟩), .pointer (some ⟨w.heap.size + 1, 0, none⟩)]) ∧ (w.alloc (.cells #[.int .i64 s.wd, .int .i64 s.hg, .slice s.A s.nt s.cap] 131)).alloc (.cells #[.int .i64 t, .int .i64 b] 59) = w' := by
  go_enter Try.func69, Try.ntmps69
  go_wp2_with fail
  go_ret
  exact ⟨rfl, rfl⟩
theorem cells_stops (F : Fence) (n : Nat) (hF : ∀ f, F.fn f) (hro : F.round = none) (hn : 1 ≤ n) (p q n0 t : Nat) (b : Int) (s : Stk) (w : World) (hp : PileB w p s) (hq : Blk w q 59 #[.int .i64 t, .int .i64 b]) (hn0 : n0 ≤ w.heap.size) (hs : StkR w n0 s) (ht : t < s.nt) :
    SeqStopsK F n Try.prog 102 #[.pointer (some ⟨p, 0, none⟩), .pointer (some ⟨q, 0, none⟩)] (fun x : Cell (s.cn t) => #[.int .i64 x.1]) (KpB n0 q) (fun ys => ys.map (·.1) = cellsTo (s.cf t) b (s.cn t)) (fun pre => pre.map (·.1) <+: cellsTo (s.cf t) b (s.cn t)) (cellsTo (s.cf t) b (s.cn t)).length w := fun l J Jx W hW _ _ hY h0 =>
  cells1_in F n hF hro hn l p q n0 t b s J Jx W (hp.ext hW) (hq.ext hW) (hs.below (hW.mono hn0) (Nat.le_refl _)) ht hY h0
theorem Blk.keptN {W W' : World} {g : Nat} {t : TypeId} {cs : Array Value} (h : Blk W g t cs) {row : Option Nat} (hg : W.grownBy W' row) (hr : ∀ r, row = some r → ∃ o : Obj, W.heap[r]? = some o ∧ o.isCells = false) : Blk W' g t cs :=
  h.grown hg (fun e => by
    obtain ⟨o, ho, hc⟩ := hr g e.symm
    unfold Blk at h
    rw [h] at ho
    cases ho; cases hc)
theorem ownN {W W' : World} {base : Nat} {e : TypeId} {size k : Nat} {v : Value} {xs : List Value} (h : W.ownsRow base e size v k xs) {row : Option Nat} (hg : W.grownBy W' row) (hr : ∀ r, row = some r → ∃ o : Obj, W.heap[r]? = some o ∧ o.isCells = false) : W'.ownsRow base e size v k xs := by
  obtain ⟨h1, h2⟩ := h
  refine ⟨h1, ?_⟩
  rcases h2 with h2 | ⟨g, cap, cur, hv, hg0, hh, hrest⟩
  · exact .inl h2
  · exact .inr ⟨g, cap, cur, hv, hg0, Blk.keptN (t := e) hh hg hr, hrest⟩
theorem keepsO {W W' : World} (h : Below W.heap.size W W') : KeepsOthers W W' := ⟨h.size, fun k o hk _ => by
  rcases Nat.lt_or_ge k W.heap.size with hl | hl
  · exact (h.block k hl).trans hk
  · rw [Array.getElem?_eq_none hl] at hk; cases hk⟩
theorem ownBelow {W W' : World} {base : Nat} {e : TypeId} {size k : Nat} {v : Value} {xs : List Value} (h : W.ownsRow base e size v k xs) (hb : Below W.heap.size W W') : W'.ownsRow base e size v k xs := by
  obtain ⟨h1, h2⟩ := h
  refine ⟨h1, ?_⟩
  rcases h2 with h2 | ⟨g, cap, cur, hv, hg0, hh, hrest⟩
  · exact .inl h2
  · exact .inr ⟨g, cap, cur, hv, hg0, Blk.ext (t := e) hh hb, hrest⟩
theorem own_shape {W : World} {base : Nat} {e : TypeId} {size k : Nat} {v : Value} {xs : List Value} (h : W.ownsRow base e size v k xs) : ∃ A c, v = .slice A k c := by
  rcases h.2 with ⟨rfl, rfl⟩ | ⟨g, cap, cur, rfl, _⟩
  · exact ⟨none, 0, rfl⟩
  · exact ⟨_, _, rfl⟩
def restL (s : Stk) (t : Nat) (b : Int) : List Nat := (cellsTo (s.cf t) b (s.cn t)).filter fun c => covB s ((t : Int) - 1) c
def iv' (c : Nat) : Value := .int .i64 c
def RestsPost (s : Stk) (t : Nat) (b : Int) (w : World) (e : Ending) (w' : World) : Prop :=
  ∃ v, e = .returned v ∧ w'.ownsRow w.heap.size 3 1 v (restL s t b).length ((restL s t b).map iv') ∧ Below w.heap.size w w'
theorem rests_any (s : Stk) (t : Nat) (b : Int) (w : World) (hs : StkR w w.heap.size s) (ht : t < s.nt) (hc : ∀ k, k < s.nt → s.cn k = s.cn t) :
    Calls Try.prog 104 #[.agg #[.int .i64 s.wd, .int .i64 s.hg, .slice s.A s.nt s.cap], .agg #[.int .i64 t, .int .i64 b]] w (RestsPost s t b w) := by
  refine (callsIn_wide (n := 9)).1 ?_
  obtain ⟨F, hFw⟩ : ∃ F : Fence, F = Fence.wide := ⟨_, rfl⟩
  rw [← hFw]
  have hF : ∀ f, F.fn f := by rw [hFw]; exact fun _ => trivial
  have hro : F.round = none := by rw [hFw]; rfl
  have hwd : ∀ {n f args w R}, Calls Try.prog f args w R → CallsIn F n Try.prog f args w R := by rw [hFw]; exact fun h => callsIn_wide.2 h
  clear hFw
  refine callsIn_of_wp_marks Try.func104 rfl (hF _) ?_ hro
  simp only [Try.ntmps104, List.size_toArray, List.length_cons, List.length_nil, Nat.reduceAdd, Nat.reduceSub, Array.replicate_succ, Array.replicate_zero, List.push_toArray, List.append_toArray, List.nil_append, List.cons_append]
  gi_wp2_with (gi_at_call 69; refine (hwd (cells_any s t b _)).mono ?_; rintro e w1 ⟨rfl, rfl⟩)
  have k0 : PileB (((((w.alloc (.cells #[.int .i64 s.wd, .int .i64 s.hg, .slice s.A s.nt s.cap] 131)).alloc (.cells #[.int .i64 t, .int .i64 b] 59)).alloc (.cells #[.slice none 0 0] 56)).alloc (.cells #[.int .i64 s.wd, .int .i64 s.hg, .slice s.A s.nt s.cap] 131)).alloc (.cells #[.int .i64 t, .int .i64 b] 59)) w.heap.size s := ((((Blk.new w _ _).alloc _).alloc _).alloc _).alloc _
  have k1 : Blk (((((w.alloc (.cells #[.int .i64 s.wd, .int .i64 s.hg, .slice s.A s.nt s.cap] 131)).alloc (.cells #[.int .i64 t, .int .i64 b] 59)).alloc (.cells #[.slice none 0 0] 56)).alloc (.cells #[.int .i64 s.wd, .int .i64 s.hg, .slice s.A s.nt s.cap] 131)).alloc (.cells #[.int .i64 t, .int .i64 b] 59)) (w.heap.size + 1) 59 #[.int .i64 t, .int .i64 b] := by simpa using (((Blk.new (w.alloc (.cells #[.int .i64 s.wd, .int .i64 s.hg, .slice s.A s.nt s.cap] 131)) _ _).alloc _).alloc _).alloc _
  have k2 : Blk (((((w.alloc (.cells #[.int .i64 s.wd, .int .i64 s.hg, .slice s.A s.nt s.cap] 131)).alloc (.cells #[.int .i64 t, .int .i64 b] 59)).alloc (.cells #[.slice none 0 0] 56)).alloc (.cells #[.int .i64 s.wd, .int .i64 s.hg, .slice s.A s.nt s.cap] 131)).alloc (.cells #[.int .i64 t, .int .i64 b] 59)) (w.heap.size + 1 + 1) 56 #[.slice none 0 0] := by simpa using ((Blk.new ((w.alloc (.cells #[.int .i64 s.wd, .int .i64 s.hg, .slice s.A s.nt s.cap] 131)).alloc (.cells #[.int .i64 t, .int .i64 b] 59)) 56 #[.slice none 0 0]).alloc _).alloc _
  have k3 : PileB (((((w.alloc (.cells #[.int .i64 s.wd, .int .i64 s.hg, .slice s.A s.nt s.cap] 131)).alloc (.cells #[.int .i64 t, .int .i64 b] 59)).alloc (.cells #[.slice none 0 0] 56)).alloc (.cells #[.int .i64 s.wd, .int .i64 s.hg, .slice s.A s.nt s.cap] 131)).alloc (.cells #[.int .i64 t, .int .i64 b] 59)) (w.heap.size + 1 + 1 + 1) s := by unfold PileB; simpa using (Blk.new (((w.alloc (.cells #[.int .i64 s.wd, .int .i64 s.hg, .slice s.A s.nt s.cap] 131)).alloc (.cells #[.int .i64 t, .int .i64 b] 59)).alloc (.cells #[.slice none 0 0] 56)) 131 #[.int .i64 s.wd, .int .i64 s.hg, .slice s.A s.nt s.cap]).alloc (.cells #[.int .i64 t, .int .i64 b] 59)
  have k4 : Blk (((((w.alloc (.cells #[.int .i64 s.wd, .int .i64 s.hg, .slice s.A s.nt s.cap] 131)).alloc (.cells #[.int .i64 t, .int .i64 b] 59)).alloc (.cells #[.slice none 0 0] 56)).alloc (.cells #[.int .i64 s.wd, .int .i64 s.hg, .slice s.A s.nt s.cap] 131)).alloc (.cells #[.int .i64 t, .int .i64 b] 59)) (w.heap.size + 1 + 1 + 1 + 1) 59 #[.int .i64 t, .int .i64 b] := by simpa using Blk.new ((((w.alloc (.cells #[.int .i64 s.wd, .int .i64 s.hg, .slice s.A s.nt s.cap] 131)).alloc (.cells #[.int .i64 t, .int .i64 b] 59)).alloc (.cells #[.slice none 0 0] 56)).alloc (.cells #[.int .i64 s.wd, .int .i64 s.hg, .slice s.A s.nt s.cap] 131)) 59 #[.int .i64 t, .int .i64 b]
  have k5 : (((((w.alloc (.cells #[.int .i64 s.wd, .int .i64 s.hg, .slice s.A s.nt s.cap] 131)).alloc (.cells #[.int .i64 t, .int .i64 b] 59)).alloc (.cells #[.slice none 0 0] 56)).alloc (.cells #[.int .i64 s.wd, .int .i64 s.hg, .slice s.A s.nt s.cap] 131)).alloc (.cells #[.int .i64 t, .int .i64 b] 59)).heap.size = w.heap.size + 5 := by simp
  have k6 : Below w.heap.size w (((((w.alloc (.cells #[.int .i64 s.wd, .int .i64 s.hg, .slice s.A s.nt s.cap] 131)).alloc (.cells #[.int .i64 t, .int .i64 b] 59)).alloc (.cells #[.slice none 0 0] 56)).alloc (.cells #[.int .i64 s.wd, .int .i64 s.hg, .slice s.A s.nt s.cap] 131)).alloc (.cells #[.int .i64 t, .int .i64 b] 59)) := (((((Below.refl _ _).alloc (Nat.le_refl _) _).alloc (by simp) _).alloc (by simp only [World.size_alloc]; omega) _).alloc (by simp only [World.size_alloc]; omega) _).alloc (by simp only [World.size_alloc]; omega) _
  generalize (((((w.alloc (.cells #[.int .i64 s.wd, .int .i64 s.hg, .slice s.A s.nt s.cap] 131)).alloc (.cells #[.int .i64 t, .int .i64 b] 59)).alloc (.cells #[.slice none 0 0] 56)).alloc (.cells #[.int .i64 s.wd, .int .i64 s.hg, .slice s.A s.nt s.cap] 131)).alloc (.cells #[.int .i64 t, .int .i64 b] 59)) = W0 at k0 k1 k2 k3 k4 k5 k6 ⊢
  have hst := cells_stops F (9 - 1) hF hro (by omega) (w.heap.size + 1 + 1 + 1) (w.heap.size + 1 + 1 + 1 + 1) w.heap.size t b s W0 k3 k4 (by omega) (hs.below k6 (Nat.le_refl _)) ht
  obtain ⟨i0, hi, hz0, hz1, hz2⟩ := info_parts info_int
  refine wpIn_rangeFunc_ownF hro (by omega) (gf := 102) (lb := #[.pointer (some ⟨w.heap.size + 1 + 1 + 1, 0, none⟩), .pointer (some ⟨w.heap.size + 1 + 1 + 1 + 1, 0, none⟩)]) rfl (hF _) (enters_of Try.func102 (by kernel_rfl) rfl)
    hst KpB.trans (KpB.putObj (by omega) (by omega)) (Below.refl _ _) (fun _ => rfl)
    (fun pre W => (∃ v, Blk W (w.heap.size + 1 + 1) 56 #[v] ∧ W.ownsRow w.heap.size 3 1 v ((pre.map (·.1)).filter fun c => covB s ((t : Int) - 1) c).length (((pre.map (·.1)).filter fun c => covB s ((t : Int) - 1) c).map iv')) ∧ PileB W w.heap.size s ∧ Blk W (w.heap.size + 1) 59 #[.int .i64 t, .int .i64 b] ∧ Blk W (w.heap.size + 1 + 1 + 1 + 1) 59 #[.int .i64 t, .int .i64 b] ∧ Below w.heap.size w W)
    (fun _ _ _ => False) ?hI (fun _ _ _ _ _ h _ _ => h) ⟨⟨_, k2, by simp, .inl ⟨rfl, rfl⟩⟩, k0, k1, k4, k6⟩
    (fun x => { tmps := #[.agg #[.int .i64 s.wd, .int .i64 s.hg, .slice s.A s.nt s.cap], .agg #[.int .i64 t, .int .i64 b], .pointer (some ⟨w.heap.size, 0, none⟩), .pointer (some ⟨w.heap.size + 1, 0, none⟩), .pointer (some ⟨w.heap.size + 1 + 1, 0, none⟩), .int .i64 x.1, .agg #[.int .i64 s.wd, .int .i64 s.hg, .slice s.A s.nt s.cap], .agg #[.int .i64 t, .int .i64 b], .func (.func 102) #[] #[.pointer (some ⟨w.heap.size + 1 + 1 + 1, 0, none⟩), .pointer (some ⟨w.heap.size + 1 + 1 + 1 + 1, 0, none⟩)], .int .i64 x.1, undef, undef, undef, undef, undef, undef, undef, undef, undef, undef, undef], defers := [] }) ?hassign ?hbody ?hdone ?hstop
  case hI =>
    rintro pre W W' row ⟨⟨v, h1, h2⟩, h3, h4, h5, h6⟩ hg hr
    have hr' := fun r e => (hr r e).2
    exact ⟨⟨v, h1.keptN hg hr', ownN h2 hg hr'⟩, h3.keptN hg hr', h4.keptN hg hr', h5.keptN hg hr', h6.trans ⟨hg.os, hg.tape, hg.output, hg.size, fun k hk => hg.block k (by have := h6.size; omega) (fun e => by have := (hr k e.symm).1; omega)⟩⟩
  case hassign =>
    intro l x W K hK
    gi_wp2
    exact hK
  case hbody =>
    rintro l pre x W ⟨⟨v, h1, h2⟩, h3, h4, h5, h6⟩ hlt
    obtain ⟨A, c, rfl⟩ := own_shape h2
    have c0 := Blk.cell h3 0
    have c1 := Blk.cell h3 1
    have c2 := Blk.cell h3 2
    simp at c0 c1 c2
    obtain ⟨d1, d2, d3, -, -⟩ := blk2 h4
    obtain ⟨e1, e2, e3⟩ := blk1 h1
    have z0 : w.heap.size < W.heap.size := Blk.lt h3
    have HC := hide (covered_any s ((t : Int) - 1) x.1 W ((hs.below h6 (Nat.le_refl _)).more h6.size) (fun k _ hkn => by rw [hc k hkn]; exact x.2))
    have P1 := hide h1
    have P2 := hide h2
    have P3 := hide h3
    have P4 := hide h4
    have P5 := hide h5
    have t1 : (t : Int) ≤ 1000000 := by have := hs.1; omega
    have t2 : (0 : Int) ≤ (t : Int) := by omega
    have HXL := hide x.2
    have HLT := hide hlt
    clear h1 h2 h3 h4 h5 hst k0 k1 k2 k3 k4 k5 k6 hlt
    rcases hcov : covB s ((t : Int) - 1) x.1 with _ | _
    · rw [hcov] at HC
      have HV := hide hcov
      clear hcov
      gi_wp2_with (gi_at_call 94; refine (CallsIn.inRound l (hwd HC.out)).mono ?_; rintro e w1 ⟨rfl, hb1⟩)
      refine ⟨keepsO hb1, ⟨hb1.mono h6.size, hb1.block _ P5.out.lt⟩, ⟨_, P1.out.ext hb1, ?_⟩, P3.out.ext hb1, P4.out.ext hb1, P5.out.ext hb1, h6.trans (hb1.mono h6.size)⟩
      rw [List.map_append, List.filter_append, List.map_cons, List.map_nil, List.filter_cons_of_neg (by simp [HV.out]), List.filter_nil, List.append_nil]
      exact ownBelow P2.out hb1
    · rw [hcov] at HC
      have HV := hide hcov
      clear hcov
      have hlen : ((pre.map (·.1)).filter fun c => covB s ((t : Int) - 1) c).length + 1 ≤ 1000000 := by
        have h1 := List.length_filter_le (fun c => covB s ((t : Int) - 1) c) (pre.map (·.1))
        have h2 := cellsTo_len (s.cf t) b (s.cn t)
        have h3 := (hs.2.2 t ht).1
        have h4 := HLT.out
        rw [List.length_map] at h1
        omega
      gi_wp2_with (first | (gi_at_call 94; refine (CallsIn.inRound l (hwd HC.out)).mono ?_; rintro e w1 ⟨rfl, hb1⟩; have P1' := hide (P1.out.ext hb1); obtain ⟨e1', e2', e3'⟩ := blk1 P1'.out; have hown1 := hide (ownBelow P2.out hb1); have hzw := hb1.size) | (gi_at_builtin; refine wpListIn_append_own _ rfl _ _ 56 rfl w.heap.size 3 i0 (.int .i64 0) 1 8 Try.underlying56 hi hz0 hz1 hz2 rfl (by decide) _ _ _ rfl (hown1.out.alloc _) ⟨w1.heap.size, 0, none⟩ 1 1 [.int .i64 x.1] rfl rfl (cell_one_new _ _ _) (by simp [Value.oneCell']) (by unfold maxLen; omega) (by omega) (by have := h6.size; simp; omega) ?_; intro v' w2 hown2 hgrow2 _; obtain ⟨A2, c2', rfl⟩ := own_shape hown2; obtain ⟨q1, q2, q3, q4, q5⟩ := Boxed.appended P1'.out (by decide) hown1.out (by have := h6.size; omega) (by omega) hown2 hgrow2; obtain ⟨e1'', e2'', e3''⟩ := blk1 (t := 56) q1))
      have hB1 := h6.trans (hb1.mono h6.size)
      have KB : ∀ g tt cs, tt ≠ 3 → g ≠ w.heap.size + 1 + 1 → Blk W g tt cs → Blk (w2.setCell ⟨w.heap.size + 1 + 1, 0, none⟩ (.slice A2 (((pre.map (·.1)).filter fun c => covB s ((t : Int) - 1) c).length + 1) c2')) g tt cs := fun g tt cs hne hg hb =>
        (((hb.ext hb1).alloc (.cells #[.int .i64 x.1] 3)).grown hgrow2 (fun e => own_blk_ne (hown1.out.alloc (.cells #[.int .i64 x.1] 3)) ((hb.ext hb1).alloc (.cells #[.int .i64 x.1] 3)) (Ne.symm hne) e.symm)).far (p := ⟨w.heap.size + 1 + 1, 0, none⟩) hg _
      refine ⟨(keepsO hb1).trans q4, ⟨(hb1.mono h6.size).trans q5, (KB _ _ _ (by decide) (by omega) P5.out).trans P5.out.symm⟩, ⟨_, q2, ?_⟩, KB _ _ _ (by decide) (by omega) P3.out, KB _ _ _ (by decide) (by omega) P4.out, KB _ _ _ (by decide) (by omega) P5.out, hB1.trans q5⟩
      rw [List.map_append, List.filter_append, List.map_cons, List.map_nil, List.filter_cons_of_pos (by simp [HV.out]), List.filter_nil, List.map_append, List.length_append]
      exact q3
  case hdone =>
    rintro D xs W hD hxs ⟨⟨v, h1, h2⟩, h3, h4, h5, h6⟩ hK
    rw [hxs] at h2
    obtain ⟨A, c, rfl⟩ := own_shape h2
    have P2 := hide h2
    obtain ⟨e1, e2, e3⟩ := blk1 h1
    have P1 := hide h1
    clear h1 h2 hst k0 k1 k2 k3 k4 k6 h3 h4 h5 hxs
    gi_wp2_with fail
    have hK' := (KeepsOthers.setCell W ⟨w.heap.size + 1 + 1, 0, none⟩ (.slice A ((cellsTo (s.cf t) b (s.cn t)).filter fun c => covB s ((t : Int) - 1) c).length c)).same D _ hK rfl
    refine ⟨by simp, .inl ⟨_, _, rfl, run_takeDeferred hK', ?_⟩⟩
    have hgp := grownBy_putObj' (W.setCell ⟨w.heap.size + 1 + 1, 0, none⟩ (.slice A ((cellsTo (s.cf t) b (s.cn t)).filter fun c => covB s ((t : Int) - 1) c).length c)) D (.deferred none)
    have hP : Blk (W.setCell ⟨w.heap.size + 1 + 1, 0, none⟩ (.slice A ((cellsTo (s.cf t) b (s.cn t)).filter fun c => covB s ((t : Int) - 1) c).length c)) (w.heap.size + 1 + 1) 56 #[.slice A ((cellsTo (s.cf t) b (s.cn t)).filter fun c => covB s ((t : Int) - 1) c).length c] := by simpa using P1.out.set_ 0 (.slice A ((cellsTo (s.cf t) b (s.cn t)).filter fun c => covB s ((t : Int) - 1) c).length c)
    obtain ⟨f1, f2, f3⟩ := blk1 (hP.keptN hgp (fun r e => by cases e; exact ⟨_, hK', rfl⟩))
    refine ⟨.slice A ((cellsTo (s.cf t) b (s.cn t)).filter fun c => covB s ((t : Int) - 1) c).length c, by simp [results, Try.results104, go_sem, f2], ?_⟩
    refine ⟨_, rfl, ownN (ownsRow_setCell_other P2.out (own_blk_ne P2.out P1.out (by decide)) _) hgp (fun r e => by cases e; exact ⟨_, hK', rfl⟩), (h6.setCell (by simp only []; omega) _).trans (belowK_b (w := w) (Nat.le_refl _) _ D _ _ (by omega) hK' rfl rfl)⟩
  case hstop =>
    rintro D c pre W hD hSp h hK
    exact h.elim
end Go.Proofs.Ytlhekifmkkgjlaa
/- Contracts of chapter 8 on loads: lowest terms, sums. -/
namespace Go.Proofs.Ytlhekifmkkgjlaa
open Go Go.RowKit
set_option maxHeartbeats 1000000
theorem gcd_step (a b : Nat) : Nat.gcd b (a % b) = Nat.gcd a b := by rw [Nat.gcd_comm b (a % b), ← Nat.gcd_rec, Nat.gcd_comm]
/-- a load in lowest terms, and whether it is not too great -/
def lowP (n d : Nat) : Nat × Nat := (n / Nat.gcd n d, d / Nat.gcd n d)
def fitP (x : Nat × Nat) : Bool := decide (x.1 ≤ 1000000000) && decide (x.2 ≤ 1000000000)
def capP (x : Nat × Nat) : Nat × Nat := if fitP x then x else (0, 1)
def lowS (n d : Nat) : Nat × Nat := capP (lowP n d)
theorem capP_yes {x : Nat × Nat} (h : fitP x = true) : capP x = x := by simp [capP, h]
theorem capP_no {x : Nat × Nat} (h : fitP x = false) : capP x = (0, 1) := by simp [capP, h]
def ldV (x : Nat × Nat) : Value := .agg #[.int .i64 x.1, .int .i64 x.2]
def offW (w : World) (sc : Nat) (ok : Bool) : World := if ok then w else w.setCell ⟨sc, 0, none⟩ (.bool true)
theorem size_offW (w : World) (sc : Nat) (ok : Bool) : (offW w sc ok).heap.size = w.heap.size := by unfold offW; split <;> simp [size_set]
theorem offB {B : Nat} {w W : World} (h : Below B w W) (sc : Nat) (ok : Bool) : Below B (offW w sc ok) (offW W sc ok) := by
  unfold offW; split
  · exact h
  · exact setB h _ _
theorem lowest_core (n d sc G N D : Nat) (o : Bool) (w : World) (hn : n ≤ 4000000000000000000) (hd : d ≤ 4000000000000000000) (hG : Nat.gcd n d = G) (hN : n / G = N) (hD : d / G = D) (g0 : 0 < G) (hs : Blk w sc 176 #[.bool o]) :
    Calls Try.prog 108 #[.pointer (some ⟨sc, 0, none⟩), .int .i64 n, .int .i64 d] w fun e w' => e = .returned (ldV (capP (N, D))) ∧ Below w.heap.size (offW w sc (fitP (N, D))) w' := by
  have k0 := hide (Blk.new w 76 #[.int .i64 0, .int .i64 0])
  have q1 : N ≤ n := hN ▸ Nat.div_le_self _ _
  have q2 : D ≤ d := hD ▸ Nat.div_le_self _ _
  have x1 : (n : Int) / (G : Int) = (N : Int) := by rw [← hN]; rfl
  have x2 : (d : Int) / (G : Int) = (D : Int) := by rw [← hD]; rfl
  have w1 : wrap64 (N : Int) = N := IntWalk.wrap64_in _ (by omega)
  have w2 : wrap64 (D : Int) = D := IntWalk.wrap64_in _ (by omega)
  have X := hide (And.intro (And.intro x1 x2) (And.intro w1 w2))
  have HG := hide hG
  clear x1 x2 w1 w2 hN hD hG
  go_enter Try.func108, Try.ntmps108
  go_wp2_with fail
  go_loopw [7, 8] (fun i j wr => ∃ a b : Nat, i = .int .i64 a ∧ j = .int .i64 b ∧ a ≤ 4000000000000000000 ∧ b ≤ 4000000000000000000 ∧ Hid (Nat.gcd a b = G) ∧ Below (w.heap.size + 1) (w.alloc (.cells #[.int .i64 0, .int .i64 0] 76)) wr ∧ Hid (wr.heap.size = w.heap.size + 1)) (fun _ j _ => (intOf j).toNat)
  case atStart => exact ⟨n, d, rfl, rfl, hn, hd, HG, Below.refl _ _, hide (by simp)⟩
  case round =>
    obtain ⟨a, b, rfl, rfl, ha, hb, H, hB, HZ⟩ := hrel
    have hzz : w.heap.size < wr.heap.size := by have := HZ.out; omega
    rcases Nat.eq_zero_or_pos b with rfl | hb0
    · have ha' : a = G := by have := H.out; simpa using this
      subst ha'
      have g1 : ((a : Nat) : Int) ≠ 0 := by omega
      have g2 : (0 : Int) < ((a : Nat) : Int) := by omega
      go_wp2_with fail
      go_region
      simp only [X.out.1.1, X.out.1.2, X.out.2.1, X.out.2.2]
      have K1 := hide (k0.out.below hB (by omega))
      have hB0 : Below w.heap.size w wr := ((Below.refl _ _).alloc (Nat.le_refl _) _).trans (hB.mono (by omega))
      have S1 := hide (hs.ext hB0)
      have hsl : sc < w.heap.size := hs.lt
      obtain ⟨t0, t1, t2⟩ := blk1 S1.out
      clear hs k0
      obtain ⟨r0, r1, r2, r3, r4⟩ := blk2 K1.out
      by_cases f1 : N ≤ 1000000000
      · have u1 : ¬ (1000000000 : Int) < N := by omega
        by_cases f2 : D ≤ 1000000000
        · have fit := hide (show fitP (N, D) = true by simp [fitP, f1, f2])
          have u2 : ¬ (1000000000 : Int) < D := by omega
          go_wp2_with fail
          refine bodyPost_ret (v := ldV (N, D)) (by simp [results, Try.results108, go_sem, ldV, *]) rfl ⟨by rw [capP_yes fit.out], ?_⟩
          rw [fit.out]
          show Below w.heap.size w _
          exact ((set2B hB0 (Nat.le_refl _) _ _).alloc (by simp only [size_set]; omega) _).drew
        · have fit := hide (show fitP (N, D) = false by simp [fitP, f2])
          have u2 : (1000000000 : Int) < D := by omega
          go_wp2_with fail
          refine bodyPost_ret (v := ldV (0, 1)) (by simp [results, Try.results108, go_sem, ldV, *]) rfl ⟨by rw [capP_no fit.out], ?_⟩
          rw [fit.out]
          show Below w.heap.size (w.setCell ⟨sc, 0, none⟩ (.bool true)) _
          exact ((set2B (setB hB0 ⟨sc, 0, none⟩ (.bool true)) (Nat.le_refl _) _ _).alloc (by simp only [size_set]; omega) _).drew
      · have fit := hide (show fitP (N, D) = false by simp [fitP, f1])
        have u1 : (1000000000 : Int) < N := by omega
        go_wp2_with fail
        refine bodyPost_ret (v := ldV (0, 1)) (by simp [results, Try.results108, go_sem, ldV, *]) rfl ⟨by rw [capP_no fit.out], ?_⟩
        rw [fit.out]
        show Below w.heap.size (w.setCell ⟨sc, 0, none⟩ (.bool true)) _
        exact ((set2B (setB hB0 ⟨sc, 0, none⟩ (.bool true)) (Nat.le_refl _) _ _).alloc (by simp only [size_set]; omega) _).drew
    · have hb1 : ((b : Int) != 0) = true := by simp; omega
      have hb2 : (0 : Int) < (b : Int) := by omega
      have hm : a % b < b := Nat.mod_lt _ hb0
      have e1 : ((a : Int)).tmod (b : Int) = ((a % b : Nat) : Int) := by rw [Int.tmod_eq_emod_of_nonneg (by omega)]; rfl
      have e3 : IntKind.i64.wrap ((a % b : Nat) : Int) = ((a % b : Nat) : Int) := IntWalk.i64_in _ (by omega)
      go_wp2_with fail
      go_region
      clear e1 e3
      go_wp2_with fail
      go_roundw
      case rel => exact ⟨b, a % b, rfl, rfl, hb, by omega, hide (by rw [gcd_step]; exact H.out), hB.drew, HZ⟩
      case measure => simp [intOf]; omega
theorem lowest_any (a b : Int) (n d sc : Nat) (o : Bool) (w : World) (ha : a = (n : Int)) (hb : b = (d : Int)) (hn : n ≤ 4000000000000000000) (hd : d ≤ 4000000000000000000) (hd0 : 0 < d) (hs : Blk w sc 176 #[.bool o]) :
    Calls Try.prog 108 #[.pointer (some ⟨sc, 0, none⟩), .int .i64 a, .int .i64 b] w fun e w' => e = .returned (ldV (lowS n d)) ∧ Below w.heap.size (offW w sc (fitP (lowP n d))) w' := by
  subst ha hb
  exact lowest_core n d sc _ _ _ o w hn hd rfl rfl rfl (Nat.gcd_pos_of_pos_right _ hd0) hs
/-- a load that is not too great -/
def LdOk (x : Nat × Nat) : Prop := x.1 ≤ 1000000000 ∧ 1 ≤ x.2 ∧ x.2 ≤ 1000000000
theorem lowS_ok (n d : Nat) (h : 0 < d) : LdOk (lowS n d) := by
  unfold lowS
  rcases hf : fitP (lowP n d) with _ | _
  · rw [capP_no hf]; exact ⟨by simp, by simp, by simp⟩
  · rw [capP_yes hf]
    simp only [fitP, Bool.and_eq_true, decide_eq_true_eq] at hf
    exact ⟨hf.1, Nat.div_pos (Nat.le_of_dvd h (Nat.gcd_dvd_right _ _)) (Nat.gcd_pos_of_pos_right _ h), hf.2⟩
def addN (x y : Nat × Nat) : Nat := x.1 * y.2 + y.1 * x.2
def addD (x y : Nat × Nat) : Nat := x.2 * y.2
theorem mulN_bd {a b M N : Nat} (h1 : a ≤ M) (h2 : b ≤ N) : a * b ≤ M * N := Nat.mul_le_mul h1 h2
theorem add_any (x y : Nat × Nat) (sc : Nat) (o : Bool) (w : World) (hx : LdOk x) (hy : LdOk y) (hs : Blk w sc 176 #[.bool o]) :
    Calls Try.prog 107 #[.pointer (some ⟨sc, 0, none⟩), ldV x, ldV y] w fun e w' => e = .returned (ldV (lowS (addN x y) (addD x y))) ∧ Below w.heap.size (offW w sc (fitP (lowP (addN x y) (addD x y)))) w' := by
  obtain ⟨xn, xd⟩ := x
  obtain ⟨yn, yd⟩ := y
  obtain ⟨h1, h2, h3⟩ := hx
  obtain ⟨h4, h5, h6⟩ := hy
  simp only at h1 h2 h3 h4 h5 h6
  have m1 : xn * yd ≤ 1000000000 * 1000000000 := mulN_bd h1 h6
  have m2 : yn * xd ≤ 1000000000 * 1000000000 := mulN_bd h4 h3
  have m3 : xd * yd ≤ 1000000000 * 1000000000 := mulN_bd h3 h6
  have m4 : 0 < xd * yd := Nat.mul_pos h2 h5
  have i1 : (xn : Int) * (yd : Int) = ((xn * yd : Nat) : Int) := by simp
  have i2 : (yn : Int) * (xd : Int) = ((yn * xd : Nat) : Int) := by simp
  have i3 : (xd : Int) * (yd : Int) = ((xd * yd : Nat) : Int) := by simp
  have b1 : 0 ≤ (xn : Int) * (yd : Int) ∧ (xn : Int) * (yd : Int) ≤ 1000000000000000000 := by rw [i1]; omega
  have b2 : 0 ≤ (yn : Int) * (xd : Int) ∧ (yn : Int) * (xd : Int) ≤ 1000000000000000000 := by rw [i2]; omega
  have b3 : 0 ≤ (xd : Int) * (yd : Int) ∧ (xd : Int) * (yd : Int) ≤ 1000000000000000000 := by rw [i3]; omega
  have HC := hide (fun W (hB : Below w.heap.size w W) => lowest_any ((xn : Int) * (yd : Int) + (yn : Int) * (xd : Int)) ((xd : Int) * (yd : Int)) (addN (xn, xd) (yn, yd)) (addD (xn, xd) (yn, yd)) sc o W (by simp [addN]) (by simp [addD]) (by simp only [addN]; omega) (by simp only [addD]; omega) (by simp only [addD]; omega) (hs.ext hB))
  have hsl := hs.lt
  clear i1 i2 i3 m1 m2 m3 m4 hs
  unfold ldV
  generalize lowS (addN (xn, xd) (yn, yd)) (addD (xn, xd) (yn, yd)) = R at HC ⊢
  generalize fitP (lowP (addN (xn, xd) (yn, yd)) (addD (xn, xd) (yn, yd))) = ok at HC ⊢
  obtain ⟨rn, rd⟩ := R
  unfold ldV at HC
  have b0 : Below w.heap.size w (((w.alloc (.cells #[.int .i64 xn, .int .i64 xd] 76)).alloc (.cells #[.int .i64 yn, .int .i64 yd] 76)).alloc (.cells #[.int .i64 0, .int .i64 0] 76)) := (((Below.refl _ w).alloc (Nat.le_refl _) _).alloc (by simp) _).alloc (by simp only [World.size_alloc]; omega) _
  have k0 := Blk.new ((w.alloc (.cells #[.int .i64 xn, .int .i64 xd] 76)).alloc (.cells #[.int .i64 yn, .int .i64 yd] 76)) 76 #[.int .i64 0, .int .i64 0]
  simp only [World.size_alloc] at k0
  have B0 := hide b0
  have K0 := hide k0
  clear b0 k0
  go_enter Try.func107, Try.ntmps107
  go_wp2_with fail
  refine (HC.out _ B0.out).mono ?_
  rintro e w1 ⟨rfl, hb1⟩
  have K1 : Blk (offW (((w.alloc (.cells #[.int .i64 xn, .int .i64 xd] 76)).alloc (.cells #[.int .i64 yn, .int .i64 yd] 76)).alloc (.cells #[.int .i64 0, .int .i64 0] 76)) sc ok) (w.heap.size + 1 + 1) 76 #[.int .i64 0, .int .i64 0] := by
    unfold offW; split
    · exact K0.out
    · exact K0.out.far (p := ⟨sc, 0, none⟩) (by simp only []; omega) _
  obtain ⟨z1, r0, r1, r2, r3⟩ := blk2 (K1.below hb1 (by simp))
  clear K1
  go_wp2_with fail
  refine bodyPost_ret (v := .agg #[.int .i64 rn, .int .i64 rd]) (by simp [results, Try.results107, go_sem, *]) rfl ⟨rfl, ?_⟩
  have b9 := (offB B0.out sc ok).trans (hb1.mono (by simp only [World.size_alloc]; omega))
  exact set2B b9 (by omega) _ _
end Go.Proofs.Ytlhekifmkkgjlaa
/- Contracts of chapter 8 on loads: no loads; the reference's lowest terms. -/
namespace Go.Proofs.Ytlhekifmkkgjlaa
open Go Go.RowKit
set_option maxHeartbeats 1000000
theorem mul64_one (y : Nat) (w : World) (hy : y ≤ 1000000) :
    Calls Try.prog 123 #[.int .u64 1, .int .u64 y] w fun e w' => e = .returned (.tuple #[.int .u64 0, .int .u64 y]) ∧ w = w' := by
  have e1 : bits .and .u64 1 4294967295 = 1 := by decide +kernel
  have e2 : bits .and .u64 (y : Int) 4294967295 = y := by
    have h := u64_and_nat y 4294967295 (by omega) (by omega)
    rw [show (4294967295 : Nat) = 2 ^ 32 - 1 by decide, Nat.and_two_pow_sub_one_eq_mod, Nat.mod_eq_of_lt (by omega)] at h
    exact h
  have e3 : (y : Int) / 4294967296 = 0 := by omega
  have e4 : IntKind.u64.wrap (y : Int) = y := by rw [IntKind.wrap_u64]; omega
  have e5 : IntKind.u64.wrap 0 = 0 := by decide +kernel
  have e6 : bits .and .u64 0 4294967295 = 0 := by decide +kernel
  have E := hide (And.intro e1 (And.intro e2 (And.intro e3 (And.intro e4 (And.intro e5 e6)))))
  clear e1 e2 e3 e4 e5 e6
  go_enter Try.func123, Try.ntmps123
  go_wp2_with fail
  go_ret2
  obtain ⟨e1, e2, e3, e4, e5, e6⟩ := E.out
  exact ⟨by simp [e1, e2, e3, e4, e5, e6], rfl⟩
theorem mul_one (y : Nat) (w : World) (hy : y ≤ 1000000) :
    Calls Try.prog 120 #[.int .u64 1, .int .u64 y] w fun e w' => e = .returned (.tuple #[.int .u64 0, .int .u64 y]) ∧ w = w' := by
  go_enter Try.func120, Try.ntmps120
  go_wp2_with (go_at_call 123; refine (mul64_one y _ hy).mono ?_; rintro e w' ⟨rfl, rfl⟩)
  go_ret2
  exact ⟨rfl, rfl⟩
theorem info_load : (Try.prog.info? 76).map (fun i => (i.zero, i.size, i.bytes)) = some (some (.agg #[.int .i64 0, .int .i64 0]), 2, 16) := by kernel_rfl
theorem size_load : (Try.prog.info? 76).map (·.size) = some 2 := by kernel_rfl
/-- a slice of loads that owns its row -/
def LdRow (w : World) (base : Nat) (v : Value) (n : Nat) (x : Nat → Nat × Nat) : Prop := w.ownsRow base 76 2 v n (cellsOf 2 n fun k i => if i = 0 then .int .i64 (x k).1 else .int .i64 (x k).2)
theorem run_copyN {P : Program} (w : World) (dT sT ty elem : TypeId) (sz : Nat) (g o dLen dCap : Nat) (a : Addr) (sLen sCap : Nat) (cur : Array Value) (t : TypeId) (cs : List Value)
    (hu : P.underlying dT = some (.slice elem)) (hs : (P.info? elem).map (·.size) = some sz)
    (hg : w.heap[g]? = some (.cells cur t (0, 0))) (hn : cs.length = Nat.min sLen dLen * sz)
    (hsrc : ∀ j v, cs[j]? = some v → w.cell? (a.add j) = some v) (hfit : o + cs.length ≤ cur.size) (h1 : ∀ v ∈ cs, v.oneCell' = true) :
    (Builtin.copy_ #[dT, sT] ty #[.slice (some ⟨g, o, none⟩) dLen dCap, .slice (some a) sLen sCap]).run P w =
      .ok (goInt (Nat.min sLen dLen)) (w.setRow g (cur.toList.take o ++ cs ++ cur.toList.drop (o + cs.length)).toArray) := by
  have hl := run_loadCells_list (P := P) w a cs hsrc
  have hst := run_storeCells_at P g o t cs 0 cur w hg (by simpa using hfit) h1
  cases hq : P.info? elem with
  | none => simp [hq] at hs
  | some i =>
    have hi : i.size = sz := by simpa [hq] using hs
    simp [Builtin.copy_, run_underlying hu, Builtin.lenOf, Builtin.firstCells, sizeOf, typeInfo, hq, hi, ← hn, hl, hst]
theorem wpList_copyN {P : Program} {w : World} {ops : Array Oper} {rest : List Oper} {o : Oper} {a : Act} {Q : Exit → Act → World → Prop} (hgd : o.guard = none) (d s : Operand) (dT sT : TypeId)
    (ho : o.op = .call { callee := .builtin .copy, args := #[d, s], argTypes := #[dT, sT] }) (elem : TypeId) (sz : Nat) (hu : P.underlying dT = some (.slice elem)) (hsz : (P.info? elem).map (·.size) = some sz)
    (g off dLen dCap : Nat) (ad : Addr) (sLen sCap : Nat) (hd : a.eval d = .slice (some ⟨g, off, none⟩) dLen dCap) (hs : a.eval s = .slice (some ad) sLen sCap)
    (cur : List Value) (t : TypeId) (hg : w.heap[g]? = some (.cells cur.toArray t (0, 0))) (cs : List Value) (q : Nat) (hq : Nat.min sLen dLen = q) (hn : cs.length = q * sz)
    (hsrc : ∀ j v, cs[j]? = some v → w.cell? (ad.add j) = some v) (hfit : off + cs.length ≤ cur.length) (h1 : ∀ v ∈ cs, v.oneCell' = true) (B : Nat) (w0 : World) (hb : Below B w0 w) (hBg : B ≤ g)
    (h : ∀ w', Hid (w'.heap[g]? = some (.cells (splice cur off cs).toArray t (0, 0))) → Below B w0 w' → wpList P ops Q rest (a.put o.dst (goInt q)) w') :
    wpList P ops Q (o :: rest) a w := by
  refine wpList_plain hgd fun K hK => ?_
  have hrun := run_copyN (P := P) w dT sT o.type elem sz g off dLen dCap ad sLen sCap cur.toArray t cs hu hsz hg (by rw [hq]; exact hn) hsrc (by simpa using hfit) h1
  unfold Oper.wp
  rw [hq] at hrun
  simp [execOp, ho, resolve, invoke, builtin, hd, hs, hrun, Result.andThen]
  exact hK _ _ (h _ (show _ = _ by simpa [splice] using setRow_heap w g _ _ t _ hg) (below_setRow hb hBg _))
theorem step_copyN {P : Program} {ops : Array Oper} {o : Oper} {a : Act} {w : World} {K : Act → World → Prop} {Q : Exit → Act → World → Prop} {E : Prop} (hgd : o.guard = none) (d s : Operand) (dT sT : TypeId)
    (ho : o.op = .call { callee := .builtin .copy, args := #[d, s], argTypes := #[dT, sT] }) (elem : TypeId) (sz : Nat) (hu : P.underlying dT = some (.slice elem)) (hsz : (P.info? elem).map (·.size) = some sz)
    (g off dLen dCap : Nat) (ad : Addr) (sLen sCap : Nat) (hd : a.eval d = .slice (some ⟨g, off, none⟩) dLen dCap) (hs : a.eval s = .slice (some ad) sLen sCap)
    (cur : List Value) (t : TypeId) (hg : w.heap[g]? = some (.cells cur.toArray t (0, 0))) (cs : List Value) (q : Nat) (hq : Nat.min sLen dLen = q) (hn : cs.length = q * sz)
    (hsrc : ∀ j v, cs[j]? = some v → w.cell? (ad.add j) = some v) (hfit : off + cs.length ≤ cur.length) (h1 : ∀ v ∈ cs, v.oneCell' = true) (B : Nat) (w0 : World) (hb : Below B w0 w) (hBg : B ≤ g)
    (h : ∀ w', Hid (w'.heap[g]? = some (.cells (splice cur off cs).toArray t (0, 0))) → Below B w0 w' → K (a.put o.dst (goInt q)) w') :
    if Region.wanted o (yielded ops a.tmps) = true then Oper.wp P o a w K Q else E := by
  have hw : Region.wanted o (yielded ops a.tmps) = true := by simp [Region.wanted, hgd]
  rw [if_pos hw]
  have hrun := run_copyN (P := P) w dT sT o.type elem sz g off dLen dCap ad sLen sCap cur.toArray t cs hu hsz hg (by rw [hq]; exact hn) hsrc (by simpa using hfit) h1
  unfold Oper.wp
  rw [hq] at hrun
  simp [execOp, ho, resolve, invoke, builtin, hd, hs, hrun, Result.andThen]
  exact h _ (show _ = _ by simpa [splice] using setRow_heap w g _ _ t _ hg) (below_setRow hb hBg _)
/-- the row of which the first m elements are set -/
def part (n m : Nat) : List Value := cellsOf 2 n fun k i => if i = 0 then .int .i64 0 else .int .i64 (if k < m then 1 else 0)
theorem part_len (n m : Nat) : (part n m).length = n * 2 := cellsOf_len ..
theorem part_get (n m j : Nat) (hj : j < n * 2) : (part n m)[j]? = some (.int .i64 (if j % 2 = 1 ∧ j / 2 < m then 1 else 0)) := by
  have h := cellsOf_get 2 n (fun k i => if i = 0 then Value.int .i64 0 else .int .i64 (if k < m then 1 else 0)) (j / 2) (j % 2) (by omega) (by omega)
  rw [show j / 2 * 2 + j % 2 = j by omega] at h
  rw [part, h]
  rcases Nat.mod_two_eq_zero_or_one j with e | e <;> simp [e]
theorem part_next (n m q : Nat) (hm : m ≤ n) (hq : q ≤ m) (hq2 : m + q ≤ n) : splice (part n m) (m * 2) ((part n m).take (q * 2)) = part n (m + q) := by
  apply List.ext_getElem?
  intro j
  have hl := part_len n m
  by_cases hj : j < n * 2
  · rw [part_get n (m + q) j hj]
    simp only [splice, List.getElem?_append, List.length_take, hl]
    by_cases h1 : j < m * 2
    · rw [if_pos (by omega), List.getElem?_take_of_lt h1, part_get n m j hj]
      congr 3
      simp only [eq_iff_iff]; omega
    · rw [if_neg (by omega)]
      by_cases h2 : j < m * 2 + q * 2
      · rw [if_pos (by omega), List.getElem?_take_of_lt (by omega), part_get n m _ (by omega)]
        congr 3
        simp only [eq_iff_iff]; omega
      · rw [if_neg (by omega), List.getElem?_drop, part_get n m _ (by omega)]
        congr 3
        simp only [eq_iff_iff]; omega
  · rw [List.getElem?_eq_none (by simp [splice, hl]; omega), List.getElem?_eq_none (by rw [part_len]; omega)]
theorem part_one (n m : Nat) : ∀ u ∈ part n m, u.oneCell' = true := by
  intro u hu
  obtain ⟨j, hj, e⟩ := List.getElem_of_mem hu
  have h := part_get n m j (by rw [← part_len n m]; exact hj)
  rw [List.getElem?_eq_getElem hj, e] at h
  injection h with h
  subst h; rfl
theorem part_made (n : Nat) : madeCells (Value.agg #[.int .i64 0, .int .i64 0]).cells (n * 2) = (part n 0).toArray := by
  apply Array.ext_getElem?
  intro j
  rw [show (part n 0).toArray[j]? = (part n 0)[j]? from List.getElem?_toArray ..]
  by_cases hj : j < n * 2
  · rw [part_get n 0 j hj]
    simp only [madeCells, Array.getElem?_map, Array.getElem?_range, hj, if_true, Option.map_some]
    rcases Nat.mod_two_eq_zero_or_one j with e | e <;> simp [Value.cells, e]
  · rw [List.getElem?_eq_none (l := part n 0) (by rw [part_len]; omega)]
    simp [madeCells, hj]
def RepPost (n : Nat) (w : World) (e : Ending) (w' : World) : Prop := ∃ v, e = .returned v ∧ LdRow w' w.heap.size v n (fun _ => (0, 1)) ∧ Below w.heap.size w w'
theorem part_row (w : World) (g n m : Nat) (hg : w.heap[g]? = some (.cells (part n m).toArray 76 (0, 0))) (q : Nat) :
    ∀ j v, ((part n m).take q)[j]? = some v → w.cell? ((⟨g, 0, none⟩ : Addr).add j) = some v := by
  intro j v h
  rw [List.getElem?_take] at h
  split at h
  · have hA : (⟨g, 0, none⟩ : Addr).add j = ⟨g, j, none⟩ := by unfold Addr.add; split <;> simp_all
    rw [hA]
    simp [World.cell?, hg, h]
  · simp at h
theorem part_full (n : Nat) : part n n = cellsOf 2 n fun k i => if i = 0 then .int .i64 ((((fun _ => (0, 1)) : Nat → Nat × Nat) k).1 : Nat) else .int .i64 ((((fun _ => (0, 1)) : Nat → Nat × Nat) k).2 : Nat) := by
  unfold part cellsOf
  apply List.map_congr_left
  intro j hj
  have h : j / 2 < n := by simp at hj; omega
  simp [h]
theorem part_own {w : World} {g n : Nat} (base : Nat) (hg : w.heap[g]? = some (.cells (part n n).toArray 76 (0, 0))) (hn : n ≤ 1000) (hb : base ≤ g) :
    LdRow w base (.slice (some ⟨g, 0, none⟩) n n) n (fun _ => (0, 1)) := by
  refine ⟨cellsOf_len .., .inr ⟨g, n, (part n n).toArray, rfl, hb, hg, Nat.le_refl _, Nat.le_trans hn (by decide), by simp [part_len], ?_⟩⟩
  rw [← part_full, List.take_of_length_le (by simp [part_len])]
theorem repeat_any (b n c : Nat) (w : World) (hn : n ≤ 1000) (hn0 : 1 ≤ n) (hb : Blk w b 76 #[.int .i64 0, .int .i64 1]) :
    Calls Try.prog 115 #[.slice (some ⟨b, 0, none⟩) 1 c, .int .i64 n] w (RepPost n w) := by
  obtain ⟨i0, hi, hz0, hz1, hz2⟩ := info_parts info_load
  have HM := hide (fun W : World => run_make_rowN (P := Try.prog) 65 76 i0 _ Try.underlying65 hi hz0 .i64 .i64 n n (Nat.le_refl _) (by rw [hz2]; omega) (by omega) W)
  rw [hz1, part_made] at HM
  have hb0 := hide hb
  obtain ⟨P0, hP0⟩ : ∃ P0, P0 = part n 0 := ⟨_, rfl⟩
  have HP := hide hP0
  rw [← hP0] at HM
  clear hP0 hb
  have hm1 : Nat.min 1 n = 1 := by simp [Nat.min_def]; omega
  have hB0 := hide (Blk.new w 76 P0.toArray)
  have hb1 := hide (hb0.out.alloc (.cells P0.toArray 76))
  have hm2 := hide hm1
  clear hi hz0 hz1 hz2 hm1
  go_enter Try.func115, Try.ntmps115
  go_wp2_with fail
  refine (mul_one n _ (by omega)).mono ?_
  rintro e w' ⟨rfl, rfl⟩
  have gl := HM.out w
  clear HM
  have g9 : ¬ ((9223372036854775807 : Int) < (n : Int)) := by omega
  have g8 : decide ((9223372036854775807 : Int) < (n : Int)) = false := by simp [g9]
  have g7 : IntKind.i64.wrap (n : Int) = n := by rw [IntKind.wrap_i64]; omega
  go_wp2_with (first | (refine wpList_copyN rfl (.tmp 31) (.tmp 32) _ _ rfl 76 2 Try.underlying65 size_load w.heap.size 0 n n ⟨b, 0, none⟩ 1 c rfl rfl P0 76 hB0.out [.int .i64 0, .int .i64 1] 1 hm2.out rfl ?_ ?_ ?_ w.heap.size w ?_ (Nat.le_refl _) ?_))
  · intro j v hj
    have hA : (⟨b, 0, none⟩ : Addr).add j = ⟨b, j, none⟩ := by unfold Addr.add; split <;> simp_all
    rw [hA, hb1.out.cell]
    simpa using hj
  · have := part_len n 0
    rw [HP.out, this]; simp; omega
  · intro v hv; simp at hv; rcases hv with rfl | rfl <;> rfl
  · exact (Below.refl _ _).alloc (Nat.le_refl _) _
  intro w2 hg2 hB2
  have hg3 : Hid (w2.heap[w.heap.size]? = some (.cells (part n 1).toArray 76 (0, 0))) := by
    have e : splice P0 0 [Value.int .i64 0, .int .i64 1] = part n 1 := by
      rw [HP.out]
      apply List.ext_getElem?
      intro j
      by_cases hj : j < n * 2
      · rw [part_get n 1 j hj]
        simp only [splice, List.take_zero, List.nil_append, List.getElem?_append]
        split
        · rename_i h2
          rcases (by simp at h2; omega : j = 0 ∨ j = 1) with rfl | rfl <;> simp
        · rename_i h2
          simp at h2
          have h3 : ¬ (j % 2 = 1 ∧ j / 2 < 1) := by omega
          rw [List.getElem?_drop, part_get n 0 _ (by simp; omega), if_neg h3, if_neg (by simp)]
      · rw [List.getElem?_eq_none (by simp [splice, part_len]; omega), List.getElem?_eq_none (by rw [part_len]; omega)]
    rw [← e]; exact hg2
  clear hg2 hB0 hb1 HP
  go_wp2_with fail
  go_loopw [8] (fun i wr => ∃ m : Nat, i = .int .i64 m ∧ 1 ≤ m ∧ m ≤ n ∧ Hid (wr.heap[w.heap.size]? = some (.cells (part n m).toArray 76 (0, 0))) ∧ Below w.heap.size w wr) (fun i _ => n - (intOf i).toNat)
  case atStart => exact ⟨1, rfl, Nat.le_refl _, hn0, hg3, hB2⟩
  case round =>
    obtain ⟨m, rfl, hm0, hm1, hg, hB⟩ := hrel
    rcases Nat.lt_or_ge m n with hlt | hge
    · have g1 : (m : Int) < (n : Int) := by omega
      have g2 : (0 : Int) ≤ (m : Int) := by omega
      have g3 : (m : Int) ≤ (n : Int) := by omega
      obtain ⟨q, hq⟩ : ∃ q, q = Nat.min m (n - m) := ⟨_, rfl⟩
      have hq1 : q ≤ m ∧ m + q ≤ n ∧ 0 < q := by rw [hq, show Nat.min m (n - m) = min m (n - m) from rfl, Nat.min_def]; split <;> omega
      have g4 : IntKind.i64.wrap ((m : Int) + (q : Int)) = ((m + q : Nat) : Int) := by rw [IntKind.wrap_i64]; omega
      have HQ := hide hq.symm
      have g5 : ¬ n = m := by omega
      clear hq
      go_wp2_with fail
      have hr : ∀ k, ∀ j v, ((part n m).take (q * 2))[j]? = some v → (wr.drewN k).cell? ((⟨w.heap.size, 0, none⟩ : Addr).add j) = some v := fun k => part_row (wr.drewN k) _ n m hg.out (q * 2)
      have hfit : m * 2 + ((part n m).take (q * 2)).length ≤ (part n m).length := by rw [List.length_take, part_len]; omega
      have hl : ((part n m).take (q * 2)).length = q * 2 := by rw [List.length_take, part_len]; omega
      have ho : ∀ u ∈ (part n m).take (q * 2), u.oneCell' = true := fun u hu => part_one n m u (List.mem_of_mem_take hu)
      have HR := hide (And.intro hr (And.intro hfit (And.intro hl ho)))
      clear hr hfit hl ho
      go_region_law (refine step_copyN rfl (.tmp 41) (.tmp 44) _ _ rfl 76 2 Try.underlying65 size_load w.heap.size (m * 2) (n - m) (n - m) ⟨w.heap.size, 0, none⟩ m n (by simp [Act.eval, Act.put, g5]) (by simp [Act.eval, Act.put]) (part n m) 76 hg.out ((part n m).take (q * 2)) q HQ.out HR.out.2.2.1 (HR.out.1 _) HR.out.2.1 HR.out.2.2.2 w.heap.size w (hB.trans (Below_dN (Below.refl _ _) _)) (Nat.le_refl _) ?_; intro w3 hg3 hB3)
      all_goals (
        have hg4 : Hid (w3.heap[w.heap.size]? = some (.cells (part n (m + q)).toArray 76 (0, 0))) := by
          rw [← part_next n m q hm1 hq1.1 hq1.2.1]; exact hg3
        clear HR HQ hg3 hg
        go_simp
        go_roundw
        case rel =>
          refine ⟨_, _, _, _, _, _, _, _, _, _, _, _, _, _, ?_, rfl⟩
          exact ⟨m + q, by simp, by omega, hq1.2.1, hg4, hB3⟩
        case measure => simp [intOf]; omega)
    · obtain rfl : m = n := by omega
      have g1 : ¬ (m : Int) < (m : Int) := by omega
      clear hm0 hge
      go_wp2_with fail
      go_ret
      exact ⟨_, rfl, part_own _ hg.out (by omega) (Nat.le_refl _), hB⟩
theorem nothing_any (n : Nat) (w : World) (hn : n ≤ 1000) (hn0 : 1 ≤ n) :
    Calls Try.prog 105 #[.int .i64 n] w (RepPost n w) := by
  have hb := hide (Blk.new w 76 #[.int .i64 0, .int .i64 1])
  have h2 : ∀ c, Calls Try.prog 115 #[.slice (some ⟨w.heap.size, 0, none⟩) 1 c, .int .i64 n] (w.alloc (.cells #[.int .i64 0, .int .i64 1] 76)) (RepPost n (w.alloc (.cells #[.int .i64 0, .int .i64 1] 76))) := fun c => repeat_any _ n c _ hn hn0 hb.out
  have H := hide h2
  clear h2
  go_enter Try.func105, Try.ntmps105
  go_wp2_with fail
  refine (H.out _).mono ?_
  rintro e w1 ⟨v, rfl, h1, h2⟩
  obtain ⟨g, c, rfl⟩ := own_shape h1
  go_wp2_with fail
  go_ret
  refine ⟨_, rfl, ownMono h1 (by simp), ?_⟩
  exact ((Below.refl _ _).alloc (Nat.le_refl _) _).trans (h2.mono (by simp))
end Go.Proofs.Ytlhekifmkkgjlaa
