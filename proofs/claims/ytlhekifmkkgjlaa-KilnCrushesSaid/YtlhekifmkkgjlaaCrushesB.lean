/- Contracts of chapter 8 on the book: Mould, Dry, Count of a valid kind. -/
import Derived.Test.YtlhekifmkkgjlaaCrushesA
import Derived.RangeFuncNested
import Derived.RangeFuncBound
import Derived.RangeFuncCalls
import Derived.RangeFuncLeaves
import Derived.Shelf.Abstract
import Derived.Shelf.RegionOpen
import Derived.OwnWalkIn
import Derived.TacticsInMore
import Derived.LoopNIn
import Derived.LoopIn
import Derived.Laws.CopyOwn
import Derived.Deep.RegionLaw
set_option linter.unusedSimpArgs false
set_option linter.unusedVariables false
set_option linter.unnecessarySimpa false
namespace Go.Proofs.Ytlhekifmkkgjlaa
open Go Go.RowKit
set_option maxHeartbeats 800000
theorem mould_full (b S n k : Nat) (spv ov : Value) (room m : Int) (x : Wa) (w : World) (hb : Blk w b 148 #[spv, .int .i64 room, .slice (some ⟨S, 0, none⟩) n n, ov]) (hn : n ≤ 20) (hk : k < n) (hS : KindW w S (k * 7) x) (ho : OkW x) (h0 : 0 ≤ m) (h1 : m ≤ 1000000000) (hf : 1000000000 < x.wet + x.dry + x.burning + x.fired + x.laid + x.broken + m) :
    Calls Try.prog 38 #[.pointer (some ⟨b, 0, none⟩), .int .i64 k, .int .i64 m] w fun e w' => e = .returned (.int .i64 8) ∧ Below w.heap.size w w' := by
  have b0 : Below w.heap.size w (w.alloc (.cells #[.int .i64 m] 3)) := (Below.refl _ _).alloc (Nat.le_refl _) _
  have HC := hide (change_ok b S n k spv ov room m 8 82 #[.pointer (some ⟨w.heap.size, 0, none⟩)] id _ (hb.ext b0) hn hk h0 h1 (enters_of Try.func82 (by kernel_rfl) rfl) (fun W h => h) (fun W h => mould1_full _ _ _ _ _ _ _ m S (k * 7) w.heap.size W ((hS.below b0 hS.1).below h (by have := hS.1; simp only [World.size_alloc]; omega)) ho ((h.cell (by simp)).trans (by simp)) (by have := h.size; simp at this; omega) h0 h1 hf))
  have B0 := hide b0
  clear b0 hb hS
  go_enter Try.func38, Try.ntmps38
  go_wp2_with fail
  refine HC.out.mono ?_
  rintro e w1 ⟨rfl, hb1⟩
  go_wp2_with fail
  go_ret
  exact ⟨rfl, B0.out.trans (hb1.mono (by simp only [World.size_alloc]; omega))⟩
theorem mould_ok (b S n k : Nat) (spv ov : Value) (room m : Int) (x : Wa) (w : World) (hb : Blk w b 148 #[spv, .int .i64 room, .slice (some ⟨S, 0, none⟩) n n, ov]) (hn : n ≤ 20) (hk : k < n) (hS : KindW w S (k * 7) x) (ho : OkW x) (h0 : 0 ≤ m) (h1 : m ≤ 1000000000) (hf : x.wet + x.dry + x.burning + x.fired + x.laid + x.broken + m ≤ 1000000000) :
    Calls Try.prog 38 #[.pointer (some ⟨b, 0, none⟩), .int .i64 k, .int .i64 m] w fun e w' => e = .returned (.int .i64 0) ∧ Below w.heap.size (w.setCell ⟨S, k * 7, none⟩ (.int .i64 (x.wet + m))) w' := by
  have b0 : Below w.heap.size w (w.alloc (.cells #[.int .i64 m] 3)) := (Below.refl _ _).alloc (Nat.le_refl _) _
  have HC := hide (change_ok b S n k spv ov room m 0 82 #[.pointer (some ⟨w.heap.size, 0, none⟩)] (fun W => W.setCell ⟨S, k * 7, none⟩ (.int .i64 (x.wet + m))) _ (hb.ext b0) hn hk h0 h1 (enters_of Try.func82 (by kernel_rfl) rfl) (fun W h => setB h _ _) (fun W h => mould1_ok _ _ _ _ _ _ _ m S (k * 7) w.heap.size W ((hS.below b0 hS.1).below h (by have := hS.1; simp only [World.size_alloc]; omega)) ho ((h.cell (by simp)).trans (by simp)) (by have := h.size; simp at this; omega) h0 h1 hf))
  have B0 := hide b0
  clear b0 hb hS
  go_enter Try.func38, Try.ntmps38
  go_wp2_with fail
  refine HC.out.mono ?_
  rintro e w1 ⟨rfl, hb1⟩
  go_wp2_with fail
  go_ret
  exact ⟨rfl, (setB B0.out _ _).trans (hb1.mono (by simp only [World.size_alloc]; omega))⟩
theorem dry_arg (b S n k : Nat) (spv ov : Value) (room m : Int) (x : Wa) (w : World) (hb : Blk w b 148 #[spv, .int .i64 room, .slice (some ⟨S, 0, none⟩) n n, ov]) (hn : n ≤ 20) (hk : k < n) (hS : KindW w S (k * 7) x) (ho : OkW x) (br : Int) (h0 : 0 ≤ m) (h1 : m ≤ 1000000000) (hbr : ¬ (0 ≤ br ∧ br ≤ m)) :
    Calls Try.prog 39 #[.pointer (some ⟨b, 0, none⟩), .int .i64 k, .int .i64 m, .int .i64 br] w fun e w' => e = .returned (.int .i64 2) ∧ Below w.heap.size w w' := by
  have b0 : Below w.heap.size w ((w.alloc (.cells #[.int .i64 m] 3)).alloc (.cells #[.int .i64 br] 3)) := ((Below.refl _ _).alloc (Nat.le_refl _) _).alloc (by simp) _
  have q1 : ((w.alloc (.cells #[.int .i64 m] 3)).alloc (.cells #[.int .i64 br] 3)).heap.size = w.heap.size + 1 + 1 := by simp
  have HC := hide (change_ok b S n k spv ov room m 2 84 #[.pointer (some ⟨w.heap.size, 0, none⟩), .pointer (some ⟨w.heap.size + 1, 0, none⟩)] id _ (hb.ext b0) hn hk h0 h1 (enters_of Try.func84 (by kernel_rfl) rfl) ?_ (fun W h => dry1_arg _ _ _ _ _ _ _ m br S (k * 7) w.heap.size (w.heap.size + 1) W ((hS.below b0 hS.1).below h (by have := hS.1; omega)) ho ((h.cell (by simp; omega)).trans (by simp [go_sem])) ((h.cell (by simp)).trans (by simp [go_sem])) hbr))
  · have B0 := hide b0
    clear b0 hb hS q1
    go_enter Try.func39, Try.ntmps39
    go_wp2_with fail
    refine HC.out.mono ?_
    rintro e w1 ⟨rfl, hb1⟩
    go_wp2_with fail
    go_ret
    exact ⟨rfl, B0.out.trans (hb1.mono (by simp only [World.size_alloc]; omega))⟩
  · exact fun W h => h
theorem dry_state (b S n k : Nat) (spv ov : Value) (room m : Int) (x : Wa) (w : World) (hb : Blk w b 148 #[spv, .int .i64 room, .slice (some ⟨S, 0, none⟩) n n, ov]) (hn : n ≤ 20) (hk : k < n) (hS : KindW w S (k * 7) x) (ho : OkW x) (br : Int) (h0 : 0 ≤ m) (h1 : m ≤ 1000000000) (hbr : 0 ≤ br ∧ br ≤ m) (hlt : x.wet < m) :
    Calls Try.prog 39 #[.pointer (some ⟨b, 0, none⟩), .int .i64 k, .int .i64 m, .int .i64 br] w fun e w' => e = .returned (.int .i64 9) ∧ Below w.heap.size w w' := by
  have b0 : Below w.heap.size w ((w.alloc (.cells #[.int .i64 m] 3)).alloc (.cells #[.int .i64 br] 3)) := ((Below.refl _ _).alloc (Nat.le_refl _) _).alloc (by simp) _
  have q1 : ((w.alloc (.cells #[.int .i64 m] 3)).alloc (.cells #[.int .i64 br] 3)).heap.size = w.heap.size + 1 + 1 := by simp
  have HC := hide (change_ok b S n k spv ov room m 9 84 #[.pointer (some ⟨w.heap.size, 0, none⟩), .pointer (some ⟨w.heap.size + 1, 0, none⟩)] id _ (hb.ext b0) hn hk h0 h1 (enters_of Try.func84 (by kernel_rfl) rfl) ?_ (fun W h => dry1_state _ _ _ _ _ _ _ m br S (k * 7) w.heap.size (w.heap.size + 1) W ((hS.below b0 hS.1).below h (by have := hS.1; omega)) ho ((h.cell (by simp; omega)).trans (by simp [go_sem])) ((h.cell (by simp)).trans (by simp [go_sem])) (by have := h.size; omega) hbr hlt))
  · have B0 := hide b0
    clear b0 hb hS q1
    go_enter Try.func39, Try.ntmps39
    go_wp2_with fail
    refine HC.out.mono ?_
    rintro e w1 ⟨rfl, hb1⟩
    go_wp2_with fail
    go_ret
    exact ⟨rfl, B0.out.trans (hb1.mono (by simp only [World.size_alloc]; omega))⟩
  · exact fun W h => h
def dryF (S o : Nat) (x : Wa) (m br : Int) (W : World) : World := mv (mv W S o (o + 1) (x.wet - m) (x.dry + m)) S (o + 1) (o + 5) (x.dry + m - br) (x.broken + br)
theorem dryF_B {B S o : Nat} {x : Wa} {m br : Int} {w W : World} (h : Below B w W) : Below B (dryF S o x m br w) (dryF S o x m br W) := mvB (mvB h _ _ _ _ _) _ _ _ _ _
theorem dry_ok (b S n k : Nat) (spv ov : Value) (room m : Int) (x : Wa) (w : World) (hb : Blk w b 148 #[spv, .int .i64 room, .slice (some ⟨S, 0, none⟩) n n, ov]) (hn : n ≤ 20) (hk : k < n) (hS : KindW w S (k * 7) x) (ho : OkW x) (br : Int) (h0 : 0 ≤ m) (h1 : m ≤ 1000000000) (hbr : 0 ≤ br ∧ br ≤ m) (hlt : m ≤ x.wet) :
    Calls Try.prog 39 #[.pointer (some ⟨b, 0, none⟩), .int .i64 k, .int .i64 m, .int .i64 br] w fun e w' => e = .returned (.int .i64 0) ∧ Below w.heap.size (dryF S (k * 7) x m br w) w' := by
  have b0 : Below w.heap.size w ((w.alloc (.cells #[.int .i64 m] 3)).alloc (.cells #[.int .i64 br] 3)) := ((Below.refl _ _).alloc (Nat.le_refl _) _).alloc (by simp) _
  have q1 : ((w.alloc (.cells #[.int .i64 m] 3)).alloc (.cells #[.int .i64 br] 3)).heap.size = w.heap.size + 1 + 1 := by simp
  have HC := hide (change_ok b S n k spv ov room m 0 84 #[.pointer (some ⟨w.heap.size, 0, none⟩), .pointer (some ⟨w.heap.size + 1, 0, none⟩)] (dryF S (k * 7) x m br) _ (hb.ext b0) hn hk h0 h1 (enters_of Try.func84 (by kernel_rfl) rfl) ?_ (fun W h => dry1_ok _ _ _ _ _ _ _ m br S (k * 7) w.heap.size (w.heap.size + 1) W ((hS.below b0 hS.1).below h (by have := hS.1; omega)) ho ((h.cell (by simp; omega)).trans (by simp [go_sem])) ((h.cell (by simp)).trans (by simp [go_sem])) (by have := h.size; omega) (by have := h.size; omega) (by have := hS.1; omega) (by have := hS.1; omega) hbr hlt))
  · have B0 := hide b0
    clear b0 hb hS q1
    go_enter Try.func39, Try.ntmps39
    go_wp2_with fail
    refine HC.out.mono ?_
    rintro e w1 ⟨rfl, hb1⟩
    go_wp2_with fail
    go_ret
    exact ⟨rfl, (dryF_B B0.out).trans (hb1.mono (by simp only [World.size_alloc]; omega))⟩
  · exact fun W h => dryF_B h
def agg7 (x : Wa) : Value := .agg #[.int .i64 x.wet, .int .i64 x.dry, .int .i64 x.burning, .int .i64 x.fired, .int .i64 x.laid, .int .i64 x.broken, .int .i64 x.missing]
def set7W (q : Nat) (x : Wa) (W : World) : World := set7 W q x.wet x.dry x.burning x.fired x.laid x.broken x.missing
theorem set7B {B q : Nat} {x : Wa} {w W : World} (h : Below B w W) : Below B (set7W q x w) (set7W q x W) := setB (setB (setB (setB (setB (setB (setB h _ _) _ _) _ _) _ _) _ _) _ _) _ _
theorem set7_blk {w : World} {q : Nat} {t : TypeId} {a b c d e f g : Value} (h : Blk w q t #[a, b, c, d, e, f, g]) (x : Wa) :
    Blk (set7W q x w) q t #[.int .i64 x.wet, .int .i64 x.dry, .int .i64 x.burning, .int .i64 x.fired, .int .i64 x.laid, .int .i64 x.broken, .int .i64 x.missing] := by
  unfold set7W set7
  simpa using ((((((h.set_ 0 (.int .i64 x.wet)).set_ 1 (.int .i64 x.dry)).set_ 2 (.int .i64 x.burning)).set_ 3 (.int .i64 x.fired)).set_ 4 (.int .i64 x.laid)).set_ 5 (.int .i64 x.broken)).set_ 6 (.int .i64 x.missing)
theorem size_set7 (q : Nat) (x : Wa) (W : World) : (set7W q x W).heap.size = W.heap.size := by simp [set7W, set7, size_set]
theorem set7_new {B q : Nat} {x : Wa} {w W : World} (h : Below B w W) (hq : B ≤ q) : Below B w (set7W q x W) :=
  ((((((h.setCell (p := ⟨q, 0, none⟩) hq _).setCell (p := ⟨q, 1, none⟩) hq _).setCell (p := ⟨q, 2, none⟩) hq _).setCell (p := ⟨q, 3, none⟩) hq _).setCell (p := ⟨q, 4, none⟩) hq _).setCell (p := ⟨q, 5, none⟩) hq _).setCell (p := ⟨q, 6, none⟩) hq _
theorem count_ok (b S n k : Nat) (spv ov : Value) (room : Int) (x : Wa) (w : World) (hb : Blk w b 148 #[spv, .int .i64 room, .slice (some ⟨S, 0, none⟩) n n, ov]) (hn : n ≤ 20) (hk : k < n) (hS : KindW w S (k * 7) x) (ho : OkW x) :
    Calls Try.prog 37 #[.pointer (some ⟨b, 0, none⟩), .int .i64 k] w fun e w' => e = .returned (.tuple #[agg7 x, .int .i64 0]) ∧ Below w.heap.size w w' := by
  have b0 : Below w.heap.size w (w.alloc (.cells #[.int .i64 0, .int .i64 0, .int .i64 0, .int .i64 0, .int .i64 0, .int .i64 0, .int .i64 0] 94)) := (Below.refl _ _).alloc (Nat.le_refl _) _
  have k0 := Blk.new w 94 #[.int .i64 0, .int .i64 0, .int .i64 0, .int .i64 0, .int .i64 0, .int .i64 0, .int .i64 0]
  have HC := hide (change_ok b S n k spv ov room 0 0 81 #[.pointer (some ⟨w.heap.size, 0, none⟩)] (set7W w.heap.size x) _ (hb.ext b0) hn hk (by omega) (by omega) (enters_of Try.func81 (by kernel_rfl) rfl) (fun W h => set7B h) (fun W h => count1_any _ _ _ _ _ _ _ S (k * 7) w.heap.size _ _ _ _ _ _ _ _ W ((hS.below b0 hS.1).below h (by have := hS.1; simp only [World.size_alloc]; omega)) ho (k0.ext h) (by have := hS.1; omega)))
  have B0 := hide b0
  have K0 := hide (set7_blk k0 x)
  clear b0 hb hS k0
  go_enter Try.func37, Try.ntmps37
  go_wp2_with fail
  refine HC.out.mono ?_
  rintro e w1 ⟨rfl, hb1⟩
  have K1 := K0.out.below hb1 (by simp)
  have c0 := K1.cell 0
  have c1 := K1.cell 1
  have c2 := K1.cell 2
  have c3 := K1.cell 3
  have c4 := K1.cell 4
  have c5 := K1.cell 5
  have c6 := K1.cell 6
  have f0 := K1.frozen 0
  have f1 := K1.frozen 1
  have f2 := K1.frozen 2
  have f3 := K1.frozen 3
  have f4 := K1.frozen 4
  have f5 := K1.frozen 5
  have f6 := K1.frozen 6
  have hz := K1.lt
  simp at c0 c1 c2 c3 c4 c5 c6
  clear K1
  go_wp2_with fail
  refine bodyPost_ret (v := .tuple #[agg7 x, .int .i64 0]) (by simp [results, Try.results37, go_sem, agg7, *]) rfl ⟨rfl, ?_⟩
  exact set7_new (x := x) ((set7_new B0.out (Nat.le_refl _)).trans (hb1.mono (by simp only [World.size_alloc]; omega))) (Nat.le_refl _)
end Go.Proofs.Ytlhekifmkkgjlaa
/- Contracts of chapter 8 on stacks: the iterators over cells and bricks. -/
namespace Go.Proofs.Ytlhekifmkkgjlaa
open Go Go.RowKit Go.Shelf
attribute [local go_sem] Oper.semAt_some
set_option maxHeartbeats 1000000
/-- a stack: its floor, and of each tier where its cells and weights lie, how many, and what they are -/
structure Stk where
  (wd hg : Int)
  (A : Option Addr)
  (nt cap : Nat)
  (ca wa : Nat → Option Addr)
  (cn cc wn wc : Nat → Nat)
  (cf wf : Nat → Nat → Int)
def Stk.u (s : Stk) (k : Nat) : Value := .slice (s.ca k) (s.cn k) (s.cc k)
def Stk.v (s : Stk) (k : Nat) : Value := .slice (s.wa k) (s.wn k) (s.wc k)
def StkR (w : World) (B : Nat) (s : Stk) : Prop :=
  s.nt ≤ 1000000 ∧ P2 w B s.A s.nt s.u s.v ∧ ∀ k, k < s.nt → s.cn k ≤ 1000000 ∧ s.wn k ≤ 1000000 ∧ IR w B (s.ca k) (s.cn k) (s.cf k) ∧ IR w B (s.wa k) (s.wn k) (s.wf k)
theorem StkR.below {w w' : World} {B B' : Nat} {s : Stk} (h : StkR w B s) (hb : Below B' w w') (hB : B ≤ B') : StkR w' B s :=
  ⟨h.1, h.2.1.below hb hB, fun k hk => ⟨(h.2.2 k hk).1, (h.2.2 k hk).2.1, (h.2.2 k hk).2.2.1.below hb hB, (h.2.2 k hk).2.2.2.below hb hB⟩⟩
theorem StkR.more {w : World} {B B' : Nat} {s : Stk} (h : StkR w B s) (hB : B ≤ B') : StkR w B' s :=
  ⟨h.1, h.2.1.more hB, fun k hk => ⟨(h.2.2 k hk).1, (h.2.2 k hk).2.1, (h.2.2 k hk).2.2.1.more hB, (h.2.2 k hk).2.2.2.more hB⟩⟩
/-- a pile in a box -/
def PileB (w : World) (p : Nat) (s : Stk) : Prop := Blk w p 131 #[.int .i64 s.wd, .int .i64 s.hg, .slice s.A s.nt s.cap]
theorem PileB.c2 {w : World} {p : Nat} {s : Stk} (h : PileB w p s) : w.cell? ⟨p, 2, none⟩ = some (.slice s.A s.nt s.cap) := by
  have := Blk.cell h 2
  simpa using this
/-- the cells of a brick below n -/
def cellsTo (x : Nat → Int) (b : Int) (n : Nat) : List Nat := (List.range n).filter fun i => decide (x i = b)
theorem cellsTo_yes {x : Nat → Int} {b : Int} {n : Nat} (h : x n = b) : cellsTo x b (n + 1) = cellsTo x b n ++ [n] := by
  simp [cellsTo, List.range_succ, List.filter_append, h]
theorem cellsTo_no {x : Nat → Int} {b : Int} {n : Nat} (h : x n ≠ b) : cellsTo x b (n + 1) = cellsTo x b n := by
  simp [cellsTo, List.range_succ, List.filter_append, h]
theorem cellsTo_len (x : Nat → Int) (b : Int) (n : Nat) : (cellsTo x b n).length ≤ n := by
  have := List.length_filter_le (fun i => decide (x i = b)) (List.range n)
  simpa [cellsTo] using this
theorem cellsTo_prefix (x : Nat → Int) (b : Int) (k n : Nat) (h : k ≤ n) : cellsTo x b k <+: cellsTo x b n := by
  induction n with
  | zero => obtain rfl : k = 0 := by omega
            exact List.prefix_refl _
  | succ n ih =>
    rcases Nat.lt_or_ge k (n + 1) with hl | hl
    · refine (ih (by omega)).trans ?_
      by_cases hx : x n = b
      · rw [cellsTo_yes hx]; exact List.prefix_append _ _
      · rw [cellsTo_no hx]; exact List.prefix_refl _
    · obtain rfl : k = n + 1 := by omega
      exact List.prefix_refl _
theorem cellsTo_lt (x : Nat → Int) (b : Int) (k n : Nat) (h : k < n) (hx : x k = b) : (cellsTo x b k).length < (cellsTo x b n).length := by
  have h1 := (cellsTo_prefix x b (k + 1) n h).length_le
  rw [cellsTo_yes hx] at h1
  simp at h1
  omega
/-- what a round of a loop over cells keeps: all below n0, and the box q -/
def KpB (n0 q : Nat) (W W' : World) : Prop := Below n0 W W' ∧ W'.heap[q]? = W.heap[q]?
theorem KpB.trans {n0 q : Nat} {A B C : World} (h : KpB n0 q A B) (k : KpB n0 q B C) : KpB n0 q A C := ⟨h.1.trans k.1, k.2.trans h.2⟩
theorem KpB.refl (n0 q : Nat) (W : World) : KpB n0 q W W := ⟨Below.refl _ _, rfl⟩
theorem KpB.blk {n0 q : Nat} {A B : World} (h : KpB n0 q A B) {t : TypeId} {cs : Array Value} (k : Blk A q t cs) : Blk B q t cs := h.2.trans k
theorem KpB.putObj {w : World} {n0 q : Nat} (hn : n0 ≤ w.heap.size) (hq : q < w.heap.size) (W : World) (l : Nat) (o o' : Obj) (hl : w.heap.size ≤ l) (h : W.heap[l]? = some o) (_ : o.isCells = false) (_ : o.isWalk = false) : KpB n0 q W (W.putObj l o') :=
  ⟨belowK_b hn W l o o' hl h ‹_› ‹_›, World.putObj_heap_other (by omega)⟩
abbrev Cell (n : Nat) := { c : Nat // c < n }
/-- the closure of cells -/
theorem cells1_in (F : Fence) (n : Nat) (hF : ∀ f, F.fn f) (hro : F.round = none) (hn : 1 ≤ n) (l p q n0 t : Nat) (b : Int) (s : Stk) (J Jx : List (Cell (s.cn t)) → World → Prop) (W : World)
    (hp : PileB W p s) (hq : Blk W q 59 #[.int .i64 t, .int .i64 b]) (hs : StkR W n0 s) (ht : t < s.nt)
    (hY : ∀ pre (x : Cell (s.cn t)) W, J pre W → pre.length < (cellsTo (s.cf t) b (s.cn t)).length → YieldAt F (n - 1) Try.prog l #[.int .i64 x.1] W fun e W' =>
      (e = .returned (.bool true) ∧ J (pre ++ [x]) W' ∧ KpB n0 q W W') ∨ (e = .returned (.bool false) ∧ Jx (pre ++ [x]) W')) (h0 : J [] W) :
    CallsIn F n Try.prog 102 #[.func (.yield l) #[] #[], .pointer (some ⟨p, 0, none⟩), .pointer (some ⟨q, 0, none⟩)] W fun e W' => (∃ v, e = .returned v) ∧
      ((∃ ys : List (Cell (s.cn t)), ys.map (·.1) = cellsTo (s.cf t) b (s.cn t) ∧ J ys W') ∨ (∃ pre : List (Cell (s.cn t)), pre.map (·.1) <+: cellsTo (s.cf t) b (s.cn t) ∧ Jx pre W')) := by
  obtain ⟨g1, g2, g3, -, -⟩ := blk2 hq
  have g4 := hp.c2
  obtain ⟨tb, toff, hA, htb, hu, -⟩ := hs.2.1.at_ ht
  obtain ⟨m1, -, hI, -⟩ := hs.2.2 t ht
  have i1 : (0 : Int) ≤ (t : Int) := by omega
  have i2 : (t : Int) < (s.nt : Int) := by omega
  unfold Stk.u at hu
  rw [hA] at g4
  generalize s.ca t = CA at hu hI
  have HYY := hide hY
  have HQ := hide hq
  have HI := hide hI
  have H0 := hide h0
  clear hY hI h0 hs hA hp hq
  refine callsIn_of_wp Try.func102 rfl (hF _) ?_ hro
  simp only [Try.ntmps102, List.size_toArray, List.length_cons, List.length_nil, Nat.reduceAdd, Nat.reduceSub, Array.replicate_succ, Array.replicate_zero, List.push_toArray, List.append_toArray, List.nil_append, List.cons_append]
  gi_wp2_with fail
  gi_loopw [15] (fun i wr => ∃ (k : Nat) (ys : List (Cell (s.cn t))), k ≤ s.cn t ∧ i = .int .i64 k ∧ Hid (ys.map (·.1) = cellsTo (s.cf t) b k ∧ J ys wr) ∧ KpB n0 q W wr) (fun i _ => s.cn t - (intOf i).toNat)
  case atStart => exact ⟨0, [], Nat.zero_le _, rfl, hide ⟨rfl, H0.out⟩, KpB.refl _ _ _⟩
  case round =>
    obtain ⟨k, ys, hk, rfl, hJs, hnx⟩ := hrel
    have c3 : wr.cell? ⟨q, 1, none⟩ = some (.int .i64 b) := (blk2 (hnx.blk HQ.out)).2.2.1
    by_cases hlt : k < s.cn t
    · obtain ⟨cb, coff, rfl, hcb, hcc⟩ := (HI.out.below hnx.1 (Nat.le_refl _)).at_ hlt
      have j1 : (0 : Int) ≤ (k : Int) := by omega
      have j2 : (k : Int) < (s.cn t : Int) := by omega
      have j3 : s.cn t < 9223372036854775807 := by omega
      by_cases hx : s.cf t k = b
      · obtain ⟨fn, tmps, assign, body, hy, hR⟩ := HYY.out ys ⟨k, hlt⟩ wr hJs.out.2 (by
          have h1 := cellsTo_lt (s.cf t) b k _ hlt hx
          rwa [← hJs.out.1, List.length_map] at h1)
        dsimp only at hy
        have HX := hide hx
        have hxb : (s.cf t k == b) = true := by simpa using hx
        have HR := hide hR
        clear hx hR
        gi_wp2_with fail
        refine HR.out.mono ?_
        rintro e W3 (⟨rfl, hJ3, hk3⟩ | ⟨rfl, hJx3⟩)
        · have HJ3 := hide hJ3
          clear hJ3
          gi_wp2_with fail
          go_roundw
          case rel => exact ⟨k + 1, ys ++ [⟨k, hlt⟩], by omega, by go_num, hide ⟨by rw [cellsTo_yes HX.out, List.map_append, hJs.out.1]; rfl, HJ3.out⟩, hnx.trans hk3⟩
          case measure => simp [intOf]; omega
        · have HJ3 := hide hJx3
          clear hJx3
          gi_wp2_with fail
          refine bodyPost_ret (results_none rfl _ _ _) rfl ?_
          exact ⟨⟨_, rfl⟩, .inr ⟨_, by
            rw [List.map_append, hJs.out.1]
            have h9 := cellsTo_prefix (s.cf t) b (k + 1) (s.cn t) (by omega)
            rw [cellsTo_yes HX.out] at h9
            exact h9, HJ3.out⟩⟩
      · have HX := hide hx
        have hxb : (s.cf t k == b) = false := by simpa using hx
        clear hx
        gi_wp2_with fail
        go_roundw
        case rel => exact ⟨k + 1, ys, by omega, by go_num, hide ⟨by rw [cellsTo_no HX.out]; exact hJs.out.1, hJs.out.2⟩, hnx⟩
        case measure => simp [intOf]; omega
    · obtain rfl : k = s.cn t := by omega
      gi_wp2_with fail
      go_end0
      exact ⟨⟨_, rfl⟩, .inl ⟨ys, hJs.out.1, hJs.out.2⟩⟩
end Go.Proofs.Ytlhekifmkkgjlaa
/- Contracts of chapter 8 on stacks: covered, cells, rests. -/
namespace Go.Proofs.Ytlhekifmkkgjlaa
open Go Go.RowKit Go.Shelf
attribute [local go_sem] Oper.semAt_some
set_option maxHeartbeats 1000000
def covB (s : Stk) (t : Int) (c : Nat) : Bool := decide (t < 0) || (decide (t < s.nt) && decide (0 ≤ s.cf t.toNat c))
theorem covered_neg (s : Stk) (t : Int) (c : Int) (w : World) (ht : t < 0) :
    Calls Try.prog 94 #[.agg #[.int .i64 s.wd, .int .i64 s.hg, .slice s.A s.nt s.cap], .int .i64 t, .int .i64 c] w fun e w' => e = .returned (.bool true) ∧ Below w.heap.size w w' := by
  go_enter Try.func94, Try.ntmps94
  go_wp2_with fail
  go_ret
  exact ⟨rfl, (Below.refl _ _).alloc (Nat.le_refl _) _⟩
theorem covered_above (s : Stk) (t : Int) (c : Int) (w : World) (h0 : s.nt ≤ 1000000) (ht : s.nt ≤ t) :
    Calls Try.prog 94 #[.agg #[.int .i64 s.wd, .int .i64 s.hg, .slice s.A s.nt s.cap], .int .i64 t, .int .i64 c] w fun e w' => e = .returned (.bool false) ∧ Below w.heap.size w w' := by
  have h1 : ¬ t < 0 := by omega
  go_enter Try.func94, Try.ntmps94
  go_wp2_with fail
  go_ret
  exact ⟨rfl, (Below.refl _ _).alloc (Nat.le_refl _) _⟩
theorem covered_in (s : Stk) (t c : Nat) (w : World) (hs : StkR w w.heap.size s) (ht : t < s.nt) (hc : c < s.cn t) :
    Calls Try.prog 94 #[.agg #[.int .i64 s.wd, .int .i64 s.hg, .slice s.A s.nt s.cap], .int .i64 t, .int .i64 c] w fun e w' => e = .returned (.bool (decide (0 ≤ s.cf t c))) ∧ Below w.heap.size w w' := by
  obtain ⟨tb, toff, hA, htb, hu, -⟩ := hs.2.1.at_ ht
  obtain ⟨m1, -, hI, -⟩ := hs.2.2 t ht
  unfold Stk.u at hu
  obtain ⟨cb, coff, hca, hcb, hcc⟩ := hI.at_ hc
  rw [hca] at hu
  have m0 := hs.1
  clear hs hI hca
  rw [hA]
  clear hA
  have i1 : (0 : Int) ≤ (t : Int) := by omega
  have i2 : (t : Int) < (s.nt : Int) := by omega
  have i3 : (0 : Int) ≤ (c : Int) := by omega
  have i4 : (c : Int) < (s.cn t : Int) := by omega
  go_enter Try.func94, Try.ntmps94
  go_wp2_with fail
  go_ret
  exact ⟨rfl, (Below.refl _ _).alloc (Nat.le_refl _) _⟩
theorem covered_any (s : Stk) (t : Int) (c : Nat) (w : World) (hs : StkR w w.heap.size s) (hc : ∀ k : Nat, (k : Int) = t → k < s.nt → c < s.cn k) :
    Calls Try.prog 94 #[.agg #[.int .i64 s.wd, .int .i64 s.hg, .slice s.A s.nt s.cap], .int .i64 t, .int .i64 c] w fun e w' => e = .returned (.bool (covB s t c)) ∧ Below w.heap.size w w' := by
  rcases (by omega : t < 0 ∨ (s.nt : Int) ≤ t ∨ (0 ≤ t ∧ t < s.nt)) with h | h | ⟨h1, h2⟩
  · have : covB s t c = true := by simp [covB, h]
    rw [this]; exact covered_neg s t c w h
  · have : covB s t c = false := by
      have h3 : ¬ t < 0 := by omega
      have h4 : ¬ t < s.nt := by omega
      simp only [covB, decide_eq_false h3, decide_eq_false h4, Bool.false_and, Bool.or_false]
    rw [this]; exact covered_above s t c w hs.1 h
  · obtain ⟨k, rfl⟩ := Int.eq_ofNat_of_zero_le h1
    have : covB s k c = decide (0 ≤ s.cf k c) := by
      have h3 : ¬ (k : Int) < 0 := by omega
      simp only [covB, decide_eq_false h3, decide_eq_true h2, Bool.false_or, Bool.true_and, Int.toNat_natCast]
    rw [this]; exact covered_in s k c w hs (by omega) (hc k rfl (by omega))
theorem cells_any (s : Stk) (t b : Int) (w : World) :
    Calls Try.prog 69 #[.agg #[.int .i64 s.wd, .int .i64 s.hg, .slice s.A s.nt s.cap], .agg #[.int .i64 t, .int .i64 b]] w fun e w' => e = .returned (.func (.func 102) #[] #[.pointer (some ⟨w.heap.size, 0, none⟩), .pointer (some ⟨w.heap.size + 1, 0, none⟩)]) ∧ (w.alloc (.cells #[.int .i64 s.wd, .int .i64 s.hg, .slice s.A s.nt s.cap] 131)).alloc (.cells #[.int .i64 t, .int .i64 b] 59) = w' := by
  go_enter Try.func69, Try.ntmps69
  go_wp2_with fail
  go_ret
  exact ⟨rfl, rfl⟩
theorem cells_stops (F : Fence) (n : Nat) (hF : ∀ f, F.fn f) (hro : F.round = none) (hn : 1 ≤ n) (p q n0 t : Nat) (b : Int) (s : Stk) (w : World) (hp : PileB w p s) (hq : Blk w q 59 #[.int .i64 t, .int .i64 b]) (hn0 : n0 ≤ w.heap.size) (hs : StkR w n0 s) (ht : t < s.nt) :
    SeqStopsK F n Try.prog 102 #[.pointer (some ⟨p, 0, none⟩), .pointer (some ⟨q, 0, none⟩)] (fun x : Cell (s.cn t) => #[.int .i64 x.1]) (KpB n0 q) (fun ys => ys.map (·.1) = cellsTo (s.cf t) b (s.cn t)) (fun pre => pre.map (·.1) <+: cellsTo (s.cf t) b (s.cn t)) (cellsTo (s.cf t) b (s.cn t)).length w := fun l J Jx W hW _ _ hY h0 =>
  cells1_in F n hF hro hn l p q n0 t b s J Jx W (hp.ext hW) (hq.ext hW) (hs.below (hW.mono hn0) (Nat.le_refl _)) ht hY h0
theorem Blk.keptN {W W' : World} {g : Nat} {t : TypeId} {cs : Array Value} (h : Blk W g t cs) {row : Option Nat} (hg : W.grownBy W' row) (hr : ∀ r, row = some r → ∃ o : Obj, W.heap[r]? = some o ∧ o.isCells = false) : Blk W' g t cs :=
  h.grown hg (fun e => by
    obtain ⟨o, ho, hc⟩ := hr g e.symm
    unfold Blk at h
    rw [h] at ho
    cases ho; cases hc)
theorem ownN {W W' : World} {base : Nat} {e : TypeId} {size k : Nat} {v : Value} {xs : List Value} (h : W.ownsRow base e size v k xs) {row : Option Nat} (hg : W.grownBy W' row) (hr : ∀ r, row = some r → ∃ o : Obj, W.heap[r]? = some o ∧ o.isCells = false) : W'.ownsRow base e size v k xs := by
  obtain ⟨h1, h2⟩ := h
  refine ⟨h1, ?_⟩
  rcases h2 with h2 | ⟨g, cap, cur, hv, hg0, hh, hrest⟩
  · exact .inl h2
  · exact .inr ⟨g, cap, cur, hv, hg0, Blk.keptN (t := e) hh hg hr, hrest⟩
theorem keepsO {W W' : World} (h : Below W.heap.size W W') : KeepsOthers W W' := ⟨h.size, fun k o hk _ => by
  rcases Nat.lt_or_ge k W.heap.size with hl | hl
  · exact (h.block k hl).trans hk
  · rw [Array.getElem?_eq_none hl] at hk; cases hk⟩
theorem ownBelow {W W' : World} {base : Nat} {e : TypeId} {size k : Nat} {v : Value} {xs : List Value} (h : W.ownsRow base e size v k xs) (hb : Below W.heap.size W W') : W'.ownsRow base e size v k xs := by
  obtain ⟨h1, h2⟩ := h
  refine ⟨h1, ?_⟩
  rcases h2 with h2 | ⟨g, cap, cur, hv, hg0, hh, hrest⟩
  · exact .inl h2
  · exact .inr ⟨g, cap, cur, hv, hg0, Blk.ext (t := e) hh hb, hrest⟩
theorem own_shape {W : World} {base : Nat} {e : TypeId} {size k : Nat} {v : Value} {xs : List Value} (h : W.ownsRow base e size v k xs) : ∃ A c, v = .slice A k c := by
  rcases h.2 with ⟨rfl, rfl⟩ | ⟨g, cap, cur, rfl, _⟩
  · exact ⟨none, 0, rfl⟩
  · exact ⟨_, _, rfl⟩
def restL (s : Stk) (t : Nat) (b : Int) : List Nat := (cellsTo (s.cf t) b (s.cn t)).filter fun c => covB s ((t : Int) - 1) c
def iv' (c : Nat) : Value := .int .i64 c
def RestsPost (s : Stk) (t : Nat) (b : Int) (w : World) (e : Ending) (w' : World) : Prop :=
  ∃ v, e = .returned v ∧ w'.ownsRow w.heap.size 3 1 v (restL s t b).length ((restL s t b).map iv') ∧ Below w.heap.size w w'
theorem rests_any (s : Stk) (t : Nat) (b : Int) (w : World) (hs : StkR w w.heap.size s) (ht : t < s.nt) (hc : ∀ k, k < s.nt → s.cn k = s.cn t) :
    Calls Try.prog 104 #[.agg #[.int .i64 s.wd, .int .i64 s.hg, .slice s.A s.nt s.cap], .agg #[.int .i64 t, .int .i64 b]] w (RestsPost s t b w) := by
  refine (callsIn_wide (n := 9)).1 ?_
  obtain ⟨F, hFw⟩ : ∃ F : Fence, F = Fence.wide := ⟨_, rfl⟩
  rw [← hFw]
  have hF : ∀ f, F.fn f := by rw [hFw]; exact fun _ => trivial
  have hro : F.round = none := by rw [hFw]; rfl
  have hwd : ∀ {n f args w R}, Calls Try.prog f args w R → CallsIn F n Try.prog f args w R := by rw [hFw]; exact fun h => callsIn_wide.2 h
  clear hFw
  refine callsIn_of_wp_marks Try.func104 rfl (hF _) ?_ hro
  simp only [Try.ntmps104, List.size_toArray, List.length_cons, List.length_nil, Nat.reduceAdd, Nat.reduceSub, Array.replicate_succ, Array.replicate_zero, List.push_toArray, List.append_toArray, List.nil_append, List.cons_append]
  gi_wp2_with (gi_at_call 69; refine (hwd (cells_any s t b _)).mono ?_; rintro e w1 ⟨rfl, rfl⟩)
  have k0 : PileB (((((w.alloc (.cells #[.int .i64 s.wd, .int .i64 s.hg, .slice s.A s.nt s.cap] 131)).alloc (.cells #[.int .i64 t, .int .i64 b] 59)).alloc (.cells #[.slice none 0 0] 56)).alloc (.cells #[.int .i64 s.wd, .int .i64 s.hg, .slice s.A s.nt s.cap] 131)).alloc (.cells #[.int .i64 t, .int .i64 b] 59)) w.heap.size s := ((((Blk.new w _ _).alloc _).alloc _).alloc _).alloc _
  have k1 : Blk (((((w.alloc (.cells #[.int .i64 s.wd, .int .i64 s.hg, .slice s.A s.nt s.cap] 131)).alloc (.cells #[.int .i64 t, .int .i64 b] 59)).alloc (.cells #[.slice none 0 0] 56)).alloc (.cells #[.int .i64 s.wd, .int .i64 s.hg, .slice s.A s.nt s.cap] 131)).alloc (.cells #[.int .i64 t, .int .i64 b] 59)) (w.heap.size + 1) 59 #[.int .i64 t, .int .i64 b] := by simpa using (((Blk.new (w.alloc (.cells #[.int .i64 s.wd, .int .i64 s.hg, .slice s.A s.nt s.cap] 131)) _ _).alloc _).alloc _).alloc _
  have k2 : Blk (((((w.alloc (.cells #[.int .i64 s.wd, .int .i64 s.hg, .slice s.A s.nt s.cap] 131)).alloc (.cells #[.int .i64 t, .int .i64 b] 59)).alloc (.cells #[.slice none 0 0] 56)).alloc (.cells #[.int .i64 s.wd, .int .i64 s.hg, .slice s.A s.nt s.cap] 131)).alloc (.cells #[.int .i64 t, .int .i64 b] 59)) (w.heap.size + 1 + 1) 56 #[.slice none 0 0] := by simpa using ((Blk.new ((w.alloc (.cells #[.int .i64 s.wd, .int .i64 s.hg, .slice s.A s.nt s.cap] 131)).alloc (.cells #[.int .i64 t, .int .i64 b] 59)) 56 #[.slice none 0 0]).alloc _).alloc _
  have k3 : PileB (((((w.alloc (.cells #[.int .i64 s.wd, .int .i64 s.hg, .slice s.A s.nt s.cap] 131)).alloc (.cells #[.int .i64 t, .int .i64 b] 59)).alloc (.cells #[.slice none 0 0] 56)).alloc (.cells #[.int .i64 s.wd, .int .i64 s.hg, .slice s.A s.nt s.cap] 131)).alloc (.cells #[.int .i64 t, .int .i64 b] 59)) (w.heap.size + 1 + 1 + 1) s := by unfold PileB; simpa using (Blk.new (((w.alloc (.cells #[.int .i64 s.wd, .int .i64 s.hg, .slice s.A s.nt s.cap] 131)).alloc (.cells #[.int .i64 t, .int .i64 b] 59)).alloc (.cells #[.slice none 0 0] 56)) 131 #[.int .i64 s.wd, .int .i64 s.hg, .slice s.A s.nt s.cap]).alloc (.cells #[.int .i64 t, .int .i64 b] 59)
  have k4 : Blk (((((w.alloc (.cells #[.int .i64 s.wd, .int .i64 s.hg, .slice s.A s.nt s.cap] 131)).alloc (.cells #[.int .i64 t, .int .i64 b] 59)).alloc (.cells #[.slice none 0 0] 56)).alloc (.cells #[.int .i64 s.wd, .int .i64 s.hg, .slice s.A s.nt s.cap] 131)).alloc (.cells #[.int .i64 t, .int .i64 b] 59)) (w.heap.size + 1 + 1 + 1 + 1) 59 #[.int .i64 t, .int .i64 b] := by simpa using Blk.new ((((w.alloc (.cells #[.int .i64 s.wd, .int .i64 s.hg, .slice s.A s.nt s.cap] 131)).alloc (.cells #[.int .i64 t, .int .i64 b] 59)).alloc (.cells #[.slice none 0 0] 56)).alloc (.cells #[.int .i64 s.wd, .int .i64 s.hg, .slice s.A s.nt s.cap] 131)) 59 #[.int .i64 t, .int .i64 b]
  have k5 : (((((w.alloc (.cells #[.int .i64 s.wd, .int .i64 s.hg, .slice s.A s.nt s.cap] 131)).alloc (.cells #[.int .i64 t, .int .i64 b] 59)).alloc (.cells #[.slice none 0 0] 56)).alloc (.cells #[.int .i64 s.wd, .int .i64 s.hg, .slice s.A s.nt s.cap] 131)).alloc (.cells #[.int .i64 t, .int .i64 b] 59)).heap.size = w.heap.size + 5 := by simp
  have k6 : Below w.heap.size w (((((w.alloc (.cells #[.int .i64 s.wd, .int .i64 s.hg, .slice s.A s.nt s.cap] 131)).alloc (.cells #[.int .i64 t, .int .i64 b] 59)).alloc (.cells #[.slice none 0 0] 56)).alloc (.cells #[.int .i64 s.wd, .int .i64 s.hg, .slice s.A s.nt s.cap] 131)).alloc (.cells #[.int .i64 t, .int .i64 b] 59)) := (((((Below.refl _ _).alloc (Nat.le_refl _) _).alloc (by simp) _).alloc (by simp only [World.size_alloc]; omega) _).alloc (by simp only [World.size_alloc]; omega) _).alloc (by simp only [World.size_alloc]; omega) _
  generalize (((((w.alloc (.cells #[.int .i64 s.wd, .int .i64 s.hg, .slice s.A s.nt s.cap] 131)).alloc (.cells #[.int .i64 t, .int .i64 b] 59)).alloc (.cells #[.slice none 0 0] 56)).alloc (.cells #[.int .i64 s.wd, .int .i64 s.hg, .slice s.A s.nt s.cap] 131)).alloc (.cells #[.int .i64 t, .int .i64 b] 59)) = W0 at k0 k1 k2 k3 k4 k5 k6 ⊢
  have hst := cells_stops F (9 - 1) hF hro (by omega) (w.heap.size + 1 + 1 + 1) (w.heap.size + 1 + 1 + 1 + 1) w.heap.size t b s W0 k3 k4 (by omega) (hs.below k6 (Nat.le_refl _)) ht
  obtain ⟨i0, hi, hz0, hz1, hz2⟩ := info_parts info_int
  refine wpIn_rangeFunc_ownF hro (by omega) (gf := 102) (lb := #[.pointer (some ⟨w.heap.size + 1 + 1 + 1, 0, none⟩), .pointer (some ⟨w.heap.size + 1 + 1 + 1 + 1, 0, none⟩)]) rfl (hF _) (enters_of Try.func102 (by kernel_rfl) rfl)
    hst KpB.trans (KpB.putObj (by omega) (by omega)) (Below.refl _ _) (fun _ => rfl)
    (fun pre W => (∃ v, Blk W (w.heap.size + 1 + 1) 56 #[v] ∧ W.ownsRow w.heap.size 3 1 v ((pre.map (·.1)).filter fun c => covB s ((t : Int) - 1) c).length (((pre.map (·.1)).filter fun c => covB s ((t : Int) - 1) c).map iv')) ∧ PileB W w.heap.size s ∧ Blk W (w.heap.size + 1) 59 #[.int .i64 t, .int .i64 b] ∧ Blk W (w.heap.size + 1 + 1 + 1 + 1) 59 #[.int .i64 t, .int .i64 b] ∧ Below w.heap.size w W)
    (fun _ _ _ => False) ?hI (fun _ _ _ _ _ h _ _ => h) ⟨⟨_, k2, by simp, .inl ⟨rfl, rfl⟩⟩, k0, k1, k4, k6⟩
    (fun x => { tmps := #[.agg #[.int .i64 s.wd, .int .i64 s.hg, .slice s.A s.nt s.cap], .agg #[.int .i64 t, .int .i64 b], .pointer (some ⟨w.heap.size, 0, none⟩), .pointer (some ⟨w.heap.size + 1, 0, none⟩), .pointer (some ⟨w.heap.size + 1 + 1, 0, none⟩), .int .i64 x.1, .agg #[.int .i64 s.wd, .int .i64 s.hg, .slice s.A s.nt s.cap], .agg #[.int .i64 t, .int .i64 b], .func (.func 102) #[] #[.pointer (some ⟨w.heap.size + 1 + 1 + 1, 0, none⟩), .pointer (some ⟨w.heap.size + 1 + 1 + 1 + 1, 0, none⟩)], .int .i64 x.1, undef, undef, undef, undef, undef, undef, undef, undef, undef, undef, undef], defers := [] }) ?hassign ?hbody ?hdone ?hstop
  case hI =>
    rintro pre W W' row ⟨⟨v, h1, h2⟩, h3, h4, h5, h6⟩ hg hr
    have hr' := fun r e => (hr r e).2
    exact ⟨⟨v, h1.keptN hg hr', ownN h2 hg hr'⟩, h3.keptN hg hr', h4.keptN hg hr', h5.keptN hg hr', h6.trans ⟨hg.os, hg.tape, hg.output, hg.size, fun k hk => hg.block k (by have := h6.size; omega) (fun e => by have := (hr k e.symm).1; omega)⟩⟩
  case hassign =>
    intro l x W K hK
    gi_wp2
    exact hK
  case hbody =>
    rintro l pre x W ⟨⟨v, h1, h2⟩, h3, h4, h5, h6⟩ hlt
    obtain ⟨A, c, rfl⟩ := own_shape h2
    have c0 := Blk.cell h3 0
    have c1 := Blk.cell h3 1
    have c2 := Blk.cell h3 2
    simp at c0 c1 c2
    obtain ⟨d1, d2, d3, -, -⟩ := blk2 h4
    obtain ⟨e1, e2, e3⟩ := blk1 h1
    have z0 : w.heap.size < W.heap.size := Blk.lt h3
    have HC := hide (covered_any s ((t : Int) - 1) x.1 W ((hs.below h6 (Nat.le_refl _)).more h6.size) (fun k _ hkn => by rw [hc k hkn]; exact x.2))
    have P1 := hide h1
    have P2 := hide h2
    have P3 := hide h3
    have P4 := hide h4
    have P5 := hide h5
    have t1 : (t : Int) ≤ 1000000 := by have := hs.1; omega
    have t2 : (0 : Int) ≤ (t : Int) := by omega
    have HXL := hide x.2
    have HLT := hide hlt
    clear h1 h2 h3 h4 h5 hst k0 k1 k2 k3 k4 k5 k6 hlt
    rcases hcov : covB s ((t : Int) - 1) x.1 with _ | _
    · rw [hcov] at HC
      have HV := hide hcov
      clear hcov
      gi_wp2_with (gi_at_call 94; refine (CallsIn.inRound l (hwd HC.out)).mono ?_; rintro e w1 ⟨rfl, hb1⟩)
      refine ⟨keepsO hb1, ⟨hb1.mono h6.size, hb1.block _ P5.out.lt⟩, ⟨_, P1.out.ext hb1, ?_⟩, P3.out.ext hb1, P4.out.ext hb1, P5.out.ext hb1, h6.trans (hb1.mono h6.size)⟩
      rw [List.map_append, List.filter_append, List.map_cons, List.map_nil, List.filter_cons_of_neg (by simp [HV.out]), List.filter_nil, List.append_nil]
      exact ownBelow P2.out hb1
    · rw [hcov] at HC
      have HV := hide hcov
      clear hcov
      have hlen : ((pre.map (·.1)).filter fun c => covB s ((t : Int) - 1) c).length + 1 ≤ 1000000 := by
        have h1 := List.length_filter_le (fun c => covB s ((t : Int) - 1) c) (pre.map (·.1))
        have h2 := cellsTo_len (s.cf t) b (s.cn t)
        have h3 := (hs.2.2 t ht).1
        have h4 := HLT.out
        rw [List.length_map] at h1
        omega
      gi_wp2_with (first | (gi_at_call 94; refine (CallsIn.inRound l (hwd HC.out)).mono ?_; rintro e w1 ⟨rfl, hb1⟩; have P1' := hide (P1.out.ext hb1); obtain ⟨e1', e2', e3'⟩ := blk1 P1'.out; have hown1 := hide (ownBelow P2.out hb1); have hzw := hb1.size) | (gi_at_builtin; refine wpListIn_append_own _ rfl _ _ 56 rfl w.heap.size 3 i0 (.int .i64 0) 1 8 Try.underlying56 hi hz0 hz1 hz2 rfl (by decide) _ _ _ rfl (hown1.out.alloc _) ⟨w1.heap.size, 0, none⟩ 1 1 [.int .i64 x.1] rfl rfl (cell_one_new _ _ _) (by simp [Value.oneCell']) (by unfold maxLen; omega) (by omega) (by have := h6.size; simp; omega) ?_; intro v' w2 hown2 hgrow2 _; obtain ⟨A2, c2', rfl⟩ := own_shape hown2; obtain ⟨q1, q2, q3, q4, q5⟩ := Boxed.appended P1'.out (by decide) hown1.out (by have := h6.size; omega) (by omega) hown2 hgrow2; obtain ⟨e1'', e2'', e3''⟩ := blk1 (t := 56) q1))
      have hB1 := h6.trans (hb1.mono h6.size)
      have KB : ∀ g tt cs, tt ≠ 3 → g ≠ w.heap.size + 1 + 1 → Blk W g tt cs → Blk (w2.setCell ⟨w.heap.size + 1 + 1, 0, none⟩ (.slice A2 (((pre.map (·.1)).filter fun c => covB s ((t : Int) - 1) c).length + 1) c2')) g tt cs := fun g tt cs hne hg hb =>
        (((hb.ext hb1).alloc (.cells #[.int .i64 x.1] 3)).grown hgrow2 (fun e => own_blk_ne (hown1.out.alloc (.cells #[.int .i64 x.1] 3)) ((hb.ext hb1).alloc (.cells #[.int .i64 x.1] 3)) (Ne.symm hne) e.symm)).far (p := ⟨w.heap.size + 1 + 1, 0, none⟩) hg _
      refine ⟨(keepsO hb1).trans q4, ⟨(hb1.mono h6.size).trans q5, (KB _ _ _ (by decide) (by omega) P5.out).trans P5.out.symm⟩, ⟨_, q2, ?_⟩, KB _ _ _ (by decide) (by omega) P3.out, KB _ _ _ (by decide) (by omega) P4.out, KB _ _ _ (by decide) (by omega) P5.out, hB1.trans q5⟩
      rw [List.map_append, List.filter_append, List.map_cons, List.map_nil, List.filter_cons_of_pos (by simp [HV.out]), List.filter_nil, List.map_append, List.length_append]
      exact q3
  case hdone =>
    rintro D xs W hD hxs ⟨⟨v, h1, h2⟩, h3, h4, h5, h6⟩ hK
    rw [hxs] at h2
    obtain ⟨A, c, rfl⟩ := own_shape h2
    have P2 := hide h2
    obtain ⟨e1, e2, e3⟩ := blk1 h1
    have P1 := hide h1
    clear h1 h2 hst k0 k1 k2 k3 k4 k6 h3 h4 h5 hxs
    gi_wp2_with fail
    have hK' := (KeepsOthers.setCell W ⟨w.heap.size + 1 + 1, 0, none⟩ (.slice A ((cellsTo (s.cf t) b (s.cn t)).filter fun c => covB s ((t : Int) - 1) c).length c)).same D _ hK rfl
    refine ⟨by simp, .inl ⟨_, _, rfl, run_takeDeferred hK', ?_⟩⟩
    have hgp := grownBy_putObj' (W.setCell ⟨w.heap.size + 1 + 1, 0, none⟩ (.slice A ((cellsTo (s.cf t) b (s.cn t)).filter fun c => covB s ((t : Int) - 1) c).length c)) D (.deferred none)
    have hP : Blk (W.setCell ⟨w.heap.size + 1 + 1, 0, none⟩ (.slice A ((cellsTo (s.cf t) b (s.cn t)).filter fun c => covB s ((t : Int) - 1) c).length c)) (w.heap.size + 1 + 1) 56 #[.slice A ((cellsTo (s.cf t) b (s.cn t)).filter fun c => covB s ((t : Int) - 1) c).length c] := by simpa using P1.out.set_ 0 (.slice A ((cellsTo (s.cf t) b (s.cn t)).filter fun c => covB s ((t : Int) - 1) c).length c)
    obtain ⟨f1, f2, f3⟩ := blk1 (hP.keptN hgp (fun r e => by cases e; exact ⟨_, hK', rfl⟩))
    refine ⟨.slice A ((cellsTo (s.cf t) b (s.cn t)).filter fun c => covB s ((t : Int) - 1) c).length c, by simp [results, Try.results104, go_sem, f2], ?_⟩
    refine ⟨_, rfl, ownN (ownsRow_setCell_other P2.out (own_blk_ne P2.out P1.out (by decide)) _) hgp (fun r e => by cases e; exact ⟨_, hK', rfl⟩), (h6.setCell (by simp only []; omega) _).trans (belowK_b (w := w) (Nat.le_refl _) _ D _ _ (by omega) hK' rfl rfl)⟩
  case hstop =>
    rintro D c pre W hD hSp h hK
    exact h.elim
end Go.Proofs.Ytlhekifmkkgjlaa
/- Contracts of chapter 8 on loads: lowest terms, sums. -/
namespace Go.Proofs.Ytlhekifmkkgjlaa
open Go Go.RowKit
set_option maxHeartbeats 1000000
theorem gcd_step (a b : Nat) : Nat.gcd b (a % b) = Nat.gcd a b := by rw [Nat.gcd_comm b (a % b), ← Nat.gcd_rec, Nat.gcd_comm]
/-- a load in lowest terms, and whether it is not too great -/
def lowP (n d : Nat) : Nat × Nat := (n / Nat.gcd n d, d / Nat.gcd n d)
def fitP (x : Nat × Nat) : Bool := decide (x.1 ≤ 1000000000) && decide (x.2 ≤ 1000000000)
def capP (x : Nat × Nat) : Nat × Nat := if fitP x then x else (0, 1)
def lowS (n d : Nat) : Nat × Nat := capP (lowP n d)
theorem capP_yes {x : Nat × Nat} (h : fitP x = true) : capP x = x := by simp [capP, h]
theorem capP_no {x : Nat × Nat} (h : fitP x = false) : capP x = (0, 1) := by simp [capP, h]
def ldV (x : Nat × Nat) : Value := .agg #[.int .i64 x.1, .int .i64 x.2]
def offW (w : World) (sc : Nat) (ok : Bool) : World := if ok then w else w.setCell ⟨sc, 0, none⟩ (.bool true)
theorem size_offW (w : World) (sc : Nat) (ok : Bool) : (offW w sc ok).heap.size = w.heap.size := by unfold offW; split <;> simp [size_set]
theorem offB {B : Nat} {w W : World} (h : Below B w W) (sc : Nat) (ok : Bool) : Below B (offW w sc ok) (offW W sc ok) := by
  unfold offW; split
  · exact h
  · exact setB h _ _
theorem lowest_core (n d sc G N D : Nat) (o : Bool) (w : World) (hn : n ≤ 4000000000000000000) (hd : d ≤ 4000000000000000000) (hG : Nat.gcd n d = G) (hN : n / G = N) (hD : d / G = D) (g0 : 0 < G) (hs : Blk w sc 176 #[.bool o]) :
    Calls Try.prog 108 #[.pointer (some ⟨sc, 0, none⟩), .int .i64 n, .int .i64 d] w fun e w' => e = .returned (ldV (capP (N, D))) ∧ Below w.heap.size (offW w sc (fitP (N, D))) w' := by
  have k0 := hide (Blk.new w 76 #[.int .i64 0, .int .i64 0])
  have q1 : N ≤ n := hN ▸ Nat.div_le_self _ _
  have q2 : D ≤ d := hD ▸ Nat.div_le_self _ _
  have x1 : (n : Int) / (G : Int) = (N : Int) := by rw [← hN]; rfl
  have x2 : (d : Int) / (G : Int) = (D : Int) := by rw [← hD]; rfl
  have w1 : wrap64 (N : Int) = N := IntWalk.wrap64_in _ (by omega)
  have w2 : wrap64 (D : Int) = D := IntWalk.wrap64_in _ (by omega)
  have X := hide (And.intro (And.intro x1 x2) (And.intro w1 w2))
  have HG := hide hG
  clear x1 x2 w1 w2 hN hD hG
  go_enter Try.func108, Try.ntmps108
  go_wp2_with fail
  go_loopw [7, 8] (fun i j wr => ∃ a b : Nat, i = .int .i64 a ∧ j = .int .i64 b ∧ a ≤ 4000000000000000000 ∧ b ≤ 4000000000000000000 ∧ Hid (Nat.gcd a b = G) ∧ Below (w.heap.size + 1) (w.alloc (.cells #[.int .i64 0, .int .i64 0] 76)) wr ∧ Hid (wr.heap.size = w.heap.size + 1)) (fun _ j _ => (intOf j).toNat)
  case atStart => exact ⟨n, d, rfl, rfl, hn, hd, HG, Below.refl _ _, hide (by simp)⟩
  case round =>
    obtain ⟨a, b, rfl, rfl, ha, hb, H, hB, HZ⟩ := hrel
    have hzz : w.heap.size < wr.heap.size := by have := HZ.out; omega
    rcases Nat.eq_zero_or_pos b with rfl | hb0
    · have ha' : a = G := by have := H.out; simpa using this
      subst ha'
      have g1 : ((a : Nat) : Int) ≠ 0 := by omega
      have g2 : (0 : Int) < ((a : Nat) : Int) := by omega
      go_wp2_with fail
      go_region
      simp only [X.out.1.1, X.out.1.2, X.out.2.1, X.out.2.2]
      have K1 := hide (k0.out.below hB (by omega))
      have hB0 : Below w.heap.size w wr := ((Below.refl _ _).alloc (Nat.le_refl _) _).trans (hB.mono (by omega))
      have S1 := hide (hs.ext hB0)
      have hsl : sc < w.heap.size := hs.lt
      obtain ⟨t0, t1, t2⟩ := blk1 S1.out
      clear hs k0
      obtain ⟨r0, r1, r2, r3, r4⟩ := blk2 K1.out
      by_cases f1 : N ≤ 1000000000
      · have u1 : ¬ (1000000000 : Int) < N := by omega
        by_cases f2 : D ≤ 1000000000
        · have fit := hide (show fitP (N, D) = true by simp [fitP, f1, f2])
          have u2 : ¬ (1000000000 : Int) < D := by omega
          go_wp2_with fail
          refine bodyPost_ret (v := ldV (N, D)) (by simp [results, Try.results108, go_sem, ldV, *]) rfl ⟨by rw [capP_yes fit.out], ?_⟩
          rw [fit.out]
          show Below w.heap.size w _
          exact ((set2B hB0 (Nat.le_refl _) _ _).alloc (by simp only [size_set]; omega) _).drew
        · have fit := hide (show fitP (N, D) = false by simp [fitP, f2])
          have u2 : (1000000000 : Int) < D := by omega
          go_wp2_with fail
          refine bodyPost_ret (v := ldV (0, 1)) (by simp [results, Try.results108, go_sem, ldV, *]) rfl ⟨by rw [capP_no fit.out], ?_⟩
          rw [fit.out]
          show Below w.heap.size (w.setCell ⟨sc, 0, none⟩ (.bool true)) _
          exact ((set2B (setB hB0 ⟨sc, 0, none⟩ (.bool true)) (Nat.le_refl _) _ _).alloc (by simp only [size_set]; omega) _).drew
      · have fit := hide (show fitP (N, D) = false by simp [fitP, f1])
        have u1 : (1000000000 : Int) < N := by omega
        go_wp2_with fail
        refine bodyPost_ret (v := ldV (0, 1)) (by simp [results, Try.results108, go_sem, ldV, *]) rfl ⟨by rw [capP_no fit.out], ?_⟩
        rw [fit.out]
        show Below w.heap.size (w.setCell ⟨sc, 0, none⟩ (.bool true)) _
        exact ((set2B (setB hB0 ⟨sc, 0, none⟩ (.bool true)) (Nat.le_refl _) _ _).alloc (by simp only [size_set]; omega) _).drew
    · have hb1 : ((b : Int) != 0) = true := by simp; omega
      have hb2 : (0 : Int) < (b : Int) := by omega
      have hm : a % b < b := Nat.mod_lt _ hb0
      have e1 : ((a : Int)).tmod (b : Int) = ((a % b : Nat) : Int) := by rw [Int.tmod_eq_emod_of_nonneg (by omega)]; rfl
      have e3 : IntKind.i64.wrap ((a % b : Nat) : Int) = ((a % b : Nat) : Int) := IntWalk.i64_in _ (by omega)
      go_wp2_with fail
      go_region
      clear e1 e3
      go_wp2_with fail
      go_roundw
      case rel => exact ⟨b, a % b, rfl, rfl, hb, by omega, hide (by rw [gcd_step]; exact H.out), hB.drew, HZ⟩
      case measure => simp [intOf]; omega
theorem lowest_any (a b : Int) (n d sc : Nat) (o : Bool) (w : World) (ha : a = (n : Int)) (hb : b = (d : Int)) (hn : n ≤ 4000000000000000000) (hd : d ≤ 4000000000000000000) (hd0 : 0 < d) (hs : Blk w sc 176 #[.bool o]) :
    Calls Try.prog 108 #[.pointer (some ⟨sc, 0, none⟩), .int .i64 a, .int .i64 b] w fun e w' => e = .returned (ldV (lowS n d)) ∧ Below w.heap.size (offW w sc (fitP (lowP n d))) w' := by
  subst ha hb
  exact lowest_core n d sc _ _ _ o w hn hd rfl rfl rfl (Nat.gcd_pos_of_pos_right _ hd0) hs
/-- a load that is not too great -/
def LdOk (x : Nat × Nat) : Prop := x.1 ≤ 1000000000 ∧ 1 ≤ x.2 ∧ x.2 ≤ 1000000000
theorem lowS_ok (n d : Nat) (h : 0 < d) : LdOk (lowS n d) := by
  unfold lowS
  rcases hf : fitP (lowP n d) with _ | _
  · rw [capP_no hf]; exact ⟨by simp, by simp, by simp⟩
  · rw [capP_yes hf]
    simp only [fitP, Bool.and_eq_true, decide_eq_true_eq] at hf
    exact ⟨hf.1, Nat.div_pos (Nat.le_of_dvd h (Nat.gcd_dvd_right _ _)) (Nat.gcd_pos_of_pos_right _ h), hf.2⟩
def addN (x y : Nat × Nat) : Nat := x.1 * y.2 + y.1 * x.2
def addD (x y : Nat × Nat) : Nat := x.2 * y.2
theorem mulN_bd {a b M N : Nat} (h1 : a ≤ M) (h2 : b ≤ N) : a * b ≤ M * N := Nat.mul_le_mul h1 h2
theorem add_any (x y : Nat × Nat) (sc : Nat) (o : Bool) (w : World) (hx : LdOk x) (hy : LdOk y) (hs : Blk w sc 176 #[.bool o]) :
    Calls Try.prog 107 #[.pointer (some ⟨sc, 0, none⟩), ldV x, ldV y] w fun e w' => e = .returned (ldV (lowS (addN x y) (addD x y))) ∧ Below w.heap.size (offW w sc (fitP (lowP (addN x y) (addD x y)))) w' := by
  obtain ⟨xn, xd⟩ := x
  obtain ⟨yn, yd⟩ := y
  obtain ⟨h1, h2, h3⟩ := hx
  obtain ⟨h4, h5, h6⟩ := hy
  simp only at h1 h2 h3 h4 h5 h6
  have m1 : xn * yd ≤ 1000000000 * 1000000000 := mulN_bd h1 h6
  have m2 : yn * xd ≤ 1000000000 * 1000000000 := mulN_bd h4 h3
  have m3 : xd * yd ≤ 1000000000 * 1000000000 := mulN_bd h3 h6
  have m4 : 0 < xd * yd := Nat.mul_pos h2 h5
  have i1 : (xn : Int) * (yd : Int) = ((xn * yd : Nat) : Int) := by simp
  have i2 : (yn : Int) * (xd : Int) = ((yn * xd : Nat) : Int) := by simp
  have i3 : (xd : Int) * (yd : Int) = ((xd * yd : Nat) : Int) := by simp
  have b1 : 0 ≤ (xn : Int) * (yd : Int) ∧ (xn : Int) * (yd : Int) ≤ 1000000000000000000 := by rw [i1]; omega
  have b2 : 0 ≤ (yn : Int) * (xd : Int) ∧ (yn : Int) * (xd : Int) ≤ 1000000000000000000 := by rw [i2]; omega
  have b3 : 0 ≤ (xd : Int) * (yd : Int) ∧ (xd : Int) * (yd : Int) ≤ 1000000000000000000 := by rw [i3]; omega
  have HC := hide (fun W (hB : Below w.heap.size w W) => lowest_any ((xn : Int) * (yd : Int) + (yn : Int) * (xd : Int)) ((xd : Int) * (yd : Int)) (addN (xn, xd) (yn, yd)) (addD (xn, xd) (yn, yd)) sc o W (by simp [addN]) (by simp [addD]) (by simp only [addN]; omega) (by simp only [addD]; omega) (by simp only [addD]; omega) (hs.ext hB))
  have hsl := hs.lt
  clear i1 i2 i3 m1 m2 m3 m4 hs
  unfold ldV
  generalize lowS (addN (xn, xd) (yn, yd)) (addD (xn, xd) (yn, yd)) = R at HC ⊢
  generalize fitP (lowP (addN (xn, xd) (yn, yd)) (addD (xn, xd) (yn, yd))) = ok at HC ⊢
  obtain ⟨rn, rd⟩ := R
  unfold ldV at HC
  have b0 : Below w.heap.size w (((w.alloc (.cells #[.int .i64 xn, .int .i64 xd] 76)).alloc (.cells #[.int .i64 yn, .int .i64 yd] 76)).alloc (.cells #[.int .i64 0, .int .i64 0] 76)) := (((Below.refl _ w).alloc (Nat.le_refl _) _).alloc (by simp) _).alloc (by simp only [World.size_alloc]; omega) _
  have k0 := Blk.new ((w.alloc (.cells #[.int .i64 xn, .int .i64 xd] 76)).alloc (.cells #[.int .i64 yn, .int .i64 yd] 76)) 76 #[.int .i64 0, .int .i64 0]
  simp only [World.size_alloc] at k0
  have B0 := hide b0
  have K0 := hide k0
  clear b0 k0
  go_enter Try.func107, Try.ntmps107
  go_wp2_with fail
  refine (HC.out _ B0.out).mono ?_
  rintro e w1 ⟨rfl, hb1⟩
  have K1 : Blk (offW (((w.alloc (.cells #[.int .i64 xn, .int .i64 xd] 76)).alloc (.cells #[.int .i64 yn, .int .i64 yd] 76)).alloc (.cells #[.int .i64 0, .int .i64 0] 76)) sc ok) (w.heap.size + 1 + 1) 76 #[.int .i64 0, .int .i64 0] := by
    unfold offW; split
    · exact K0.out
    · exact K0.out.far (p := ⟨sc, 0, none⟩) (by simp only []; omega) _
  obtain ⟨z1, r0, r1, r2, r3⟩ := blk2 (K1.below hb1 (by simp))
  clear K1
  go_wp2_with fail
  refine bodyPost_ret (v := .agg #[.int .i64 rn, .int .i64 rd]) (by simp [results, Try.results107, go_sem, *]) rfl ⟨rfl, ?_⟩
  have b9 := (offB B0.out sc ok).trans (hb1.mono (by simp only [World.size_alloc]; omega))
  exact set2B b9 (by omega) _ _
end Go.Proofs.Ytlhekifmkkgjlaa
/- Contracts of chapter 8 on loads: no loads; the reference's lowest terms. -/
namespace Go.Proofs.Ytlhekifmkkgjlaa
open Go Go.RowKit
set_option maxHeartbeats 1000000
theorem mul64_one (y : Nat) (w : World) (hy : y ≤ 1000000) :
    Calls Try.prog 123 #[.int .u64 1, .int .u64 y] w fun e w' => e = .returned (.tuple #[.int .u64 0, .int .u64 y]) ∧ w = w' := by
  have e1 : bits .and .u64 1 4294967295 = 1 := by decide +kernel
  have e2 : bits .and .u64 (y : Int) 4294967295 = y := by
    have h := u64_and_nat y 4294967295 (by omega) (by omega)
    rw [show (4294967295 : Nat) = 2 ^ 32 - 1 by decide, Nat.and_two_pow_sub_one_eq_mod, Nat.mod_eq_of_lt (by omega)] at h
    exact h
  have e3 : (y : Int) / 4294967296 = 0 := by omega
  have e4 : IntKind.u64.wrap (y : Int) = y := by rw [IntKind.wrap_u64]; omega
  have e5 : IntKind.u64.wrap 0 = 0 := by decide +kernel
  have e6 : bits .and .u64 0 4294967295 = 0 := by decide +kernel
  have E := hide (And.intro e1 (And.intro e2 (And.intro e3 (And.intro e4 (And.intro e5 e6)))))
  clear e1 e2 e3 e4 e5 e6
  go_enter Try.func123, Try.ntmps123
  go_wp2_with fail
  go_ret2
  obtain ⟨e1, e2, e3, e4, e5, e6⟩ := E.out
  exact ⟨by simp [e1, e2, e3, e4, e5, e6], rfl⟩
theorem mul_one (y : Nat) (w : World) (hy : y ≤ 1000000) :
    Calls Try.prog 120 #[.int .u64 1, .int .u64 y] w fun e w' => e = .returned (.tuple #[.int .u64 0, .int .u64 y]) ∧ w = w' := by
  go_enter Try.func120, Try.ntmps120
  go_wp2_with (go_at_call 123; refine (mul64_one y _ hy).mono ?_; rintro e w' ⟨rfl, rfl⟩)
  go_ret2
  exact ⟨rfl, rfl⟩
theorem info_load : (Try.prog.info? 76).map (fun i => (i.zero, i.size, i.bytes)) = some (some (.agg #[.int .i64 0, .int .i64 0]), 2, 16) := by kernel_rfl
theorem size_load : (Try.prog.info? 76).map (·.size) = some 2 := by kernel_rfl
/-- a slice of loads that owns its row -/
def LdRow (w : World) (base : Nat) (v : Value) (n : Nat) (x : Nat → Nat × Nat) : Prop := w.ownsRow base 76 2 v n (cellsOf 2 n fun k i => if i = 0 then .int .i64 (x k).1 else .int .i64 (x k).2)
theorem run_copyN {P : Program} (w : World) (dT sT ty elem : TypeId) (sz : Nat) (g o dLen dCap : Nat) (a : Addr) (sLen sCap : Nat) (cur : Array Value) (t : TypeId) (cs : List Value)
    (hu : P.underlying dT = some (.slice elem)) (hs : (P.info? elem).map (·.size) = some sz)
    (hg : w.heap[g]? = some (.cells cur t (0, 0))) (hn : cs.length = Nat.min sLen dLen * sz)
    (hsrc : ∀ j v, cs[j]? = some v → w.cell? (a.add j) = some v) (hfit : o + cs.length ≤ cur.size) (h1 : ∀ v ∈ cs, v.oneCell' = true) :
    (Builtin.copy_ #[dT, sT] ty #[.slice (some ⟨g, o, none⟩) dLen dCap, .slice (some a) sLen sCap]).run P w =
      .ok (goInt (Nat.min sLen dLen)) (w.setRow g (cur.toList.take o ++ cs ++ cur.toList.drop (o + cs.length)).toArray) := by
  have hl := run_loadCells_list (P := P) w a cs hsrc
  have hst := run_storeCells_at P g o t cs 0 cur w hg (by simpa using hfit) h1
  cases hq : P.info? elem with
  | none => simp [hq] at hs
  | some i =>
    have hi : i.size = sz := by simpa [hq] using hs
    simp [Builtin.copy_, run_underlying hu, Builtin.lenOf, Builtin.firstCells, sizeOf, typeInfo, hq, hi, ← hn, hl, hst]
theorem wpList_copyN {P : Program} {w : World} {ops : Array Oper} {rest : List Oper} {o : Oper} {a : Act} {Q : Exit → Act → World → Prop} (hgd : o.guard = none) (d s : Operand) (dT sT : TypeId)
    (ho : o.op = .call { callee := .builtin .copy, args := #[d, s], argTypes := #[dT, sT] }) (elem : TypeId) (sz : Nat) (hu : P.underlying dT = some (.slice elem)) (hsz : (P.info? elem).map (·.size) = some sz)
    (g off dLen dCap : Nat) (ad : Addr) (sLen sCap : Nat) (hd : a.eval d = .slice (some ⟨g, off, none⟩) dLen dCap) (hs : a.eval s = .slice (some ad) sLen sCap)
    (cur : List Value) (t : TypeId) (hg : w.heap[g]? = some (.cells cur.toArray t (0, 0))) (cs : List Value) (q : Nat) (hq : Nat.min sLen dLen = q) (hn : cs.length = q * sz)
    (hsrc : ∀ j v, cs[j]? = some v → w.cell? (ad.add j) = some v) (hfit : off + cs.length ≤ cur.length) (h1 : ∀ v ∈ cs, v.oneCell' = true) (B : Nat) (w0 : World) (hb : Below B w0 w) (hBg : B ≤ g)
    (h : ∀ w', Hid (w'.heap[g]? = some (.cells (splice cur off cs).toArray t (0, 0))) → Below B w0 w' → wpList P ops Q rest (a.put o.dst (goInt q)) w') :
    wpList P ops Q (o :: rest) a w := by
  refine wpList_plain hgd fun K hK => ?_
  have hrun := run_copyN (P := P) w dT sT o.type elem sz g off dLen dCap ad sLen sCap cur.toArray t cs hu hsz hg (by rw [hq]; exact hn) hsrc (by simpa using hfit) h1
  unfold Oper.wp
  rw [hq] at hrun
  simp [execOp, ho, resolve, invoke, builtin, hd, hs, hrun, Result.andThen]
  exact hK _ _ (h _ (show _ = _ by simpa [splice] using setRow_heap w g _ _ t _ hg) (below_setRow hb hBg _))
theorem step_copyN {P : Program} {ops : Array Oper} {o : Oper} {a : Act} {w : World} {K : Act → World → Prop} {Q : Exit → Act → World → Prop} {E : Prop} (hgd : o.guard = none) (d s : Operand) (dT sT : TypeId)
    (ho : o.op = .call { callee := .builtin .copy, args := #[d, s], argTypes := #[dT, sT] }) (elem : TypeId) (sz : Nat) (hu : P.underlying dT = some (.slice elem)) (hsz : (P.info? elem).map (·.size) = some sz)
    (g off dLen dCap : Nat) (ad : Addr) (sLen sCap : Nat) (hd : a.eval d = .slice (some ⟨g, off, none⟩) dLen dCap) (hs : a.eval s = .slice (some ad) sLen sCap)
    (cur : List Value) (t : TypeId) (hg : w.heap[g]? = some (.cells cur.toArray t (0, 0))) (cs : List Value) (q : Nat) (hq : Nat.min sLen dLen = q) (hn : cs.length = q * sz)
    (hsrc : ∀ j v, cs[j]? = some v → w.cell? (ad.add j) = some v) (hfit : off + cs.length ≤ cur.length) (h1 : ∀ v ∈ cs, v.oneCell' = true) (B : Nat) (w0 : World) (hb : Below B w0 w) (hBg : B ≤ g)
    (h : ∀ w', Hid (w'.heap[g]? = some (.cells (splice cur off cs).toArray t (0, 0))) → Below B w0 w' → K (a.put o.dst (goInt q)) w') :
    if Region.wanted o (yielded ops a.tmps) = true then Oper.wp P o a w K Q else E := by
  have hw : Region.wanted o (yielded ops a.tmps) = true := by simp [Region.wanted, hgd]
  rw [if_pos hw]
  have hrun := run_copyN (P := P) w dT sT o.type elem sz g off dLen dCap ad sLen sCap cur.toArray t cs hu hsz hg (by rw [hq]; exact hn) hsrc (by simpa using hfit) h1
  unfold Oper.wp
  rw [hq] at hrun
  simp [execOp, ho, resolve, invoke, builtin, hd, hs, hrun, Result.andThen]
  exact h _ (show _ = _ by simpa [splice] using setRow_heap w g _ _ t _ hg) (below_setRow hb hBg _)
/-- the row of which the first m elements are set -/
def part (n m : Nat) : List Value := cellsOf 2 n fun k i => if i = 0 then .int .i64 0 else .int .i64 (if k < m then 1 else 0)
theorem part_len (n m : Nat) : (part n m).length = n * 2 := cellsOf_len ..
theorem part_get (n m j : Nat) (hj : j < n * 2) : (part n m)[j]? = some (.int .i64 (if j % 2 = 1 ∧ j / 2 < m then 1 else 0)) := by
  have h := cellsOf_get 2 n (fun k i => if i = 0 then Value.int .i64 0 else .int .i64 (if k < m then 1 else 0)) (j / 2) (j % 2) (by omega) (by omega)
  rw [show j / 2 * 2 + j % 2 = j by omega] at h
  rw [part, h]
  rcases Nat.mod_two_eq_zero_or_one j with e | e <;> simp [e]
theorem part_next (n m q : Nat) (hm : m ≤ n) (hq : q ≤ m) (hq2 : m + q ≤ n) : splice (part n m) (m * 2) ((part n m).take (q * 2)) = part n (m + q) := by
  apply List.ext_getElem?
  intro j
  have hl := part_len n m
  by_cases hj : j < n * 2
  · rw [part_get n (m + q) j hj]
    simp only [splice, List.getElem?_append, List.length_take, hl]
    by_cases h1 : j < m * 2
    · rw [if_pos (by omega), List.getElem?_take_of_lt h1, part_get n m j hj]
      congr 3
      simp only [eq_iff_iff]; omega
    · rw [if_neg (by omega)]
      by_cases h2 : j < m * 2 + q * 2
      · rw [if_pos (by omega), List.getElem?_take_of_lt (by omega), part_get n m _ (by omega)]
        congr 3
        simp only [eq_iff_iff]; omega
      · rw [if_neg (by omega), List.getElem?_drop, part_get n m _ (by omega)]
        congr 3
        simp only [eq_iff_iff]; omega
  · rw [List.getElem?_eq_none (by simp [splice, hl]; omega), List.getElem?_eq_none (by rw [part_len]; omega)]
theorem part_one (n m : Nat) : ∀ u ∈ part n m, u.oneCell' = true := by
  intro u hu
  obtain ⟨j, hj, e⟩ := List.getElem_of_mem hu
  have h := part_get n m j (by rw [← part_len n m]; exact hj)
  rw [List.getElem?_eq_getElem hj, e] at h
  injection h with h
  subst h; rfl
theorem part_made (n : Nat) : madeCells (Value.agg #[.int .i64 0, .int .i64 0]).cells (n * 2) = (part n 0).toArray := by
  apply Array.ext_getElem?
  intro j
  rw [show (part n 0).toArray[j]? = (part n 0)[j]? from List.getElem?_toArray ..]
  by_cases hj : j < n * 2
  · rw [part_get n 0 j hj]
    simp only [madeCells, Array.getElem?_map, Array.getElem?_range, hj, if_true, Option.map_some]
    rcases Nat.mod_two_eq_zero_or_one j with e | e <;> simp [Value.cells, e]
  · rw [List.getElem?_eq_none (l := part n 0) (by rw [part_len]; omega)]
    simp [madeCells, hj]
def RepPost (n : Nat) (w : World) (e : Ending) (w' : World) : Prop := ∃ v, e = .returned v ∧ LdRow w' w.heap.size v n (fun _ => (0, 1)) ∧ Below w.heap.size w w'
theorem part_row (w : World) (g n m : Nat) (hg : w.heap[g]? = some (.cells (part n m).toArray 76 (0, 0))) (q : Nat) :
    ∀ j v, ((part n m).take q)[j]? = some v → w.cell? ((⟨g, 0, none⟩ : Addr).add j) = some v := by
  intro j v h
  rw [List.getElem?_take] at h
  split at h
  · have hA : (⟨g, 0, none⟩ : Addr).add j = ⟨g, j, none⟩ := by unfold Addr.add; split <;> simp_all
    rw [hA]
    simp [World.cell?, hg, h]
  · simp at h
theorem part_full (n : Nat) : part n n = cellsOf 2 n fun k i => if i = 0 then .int .i64 ((((fun _ => (0, 1)) : Nat → Nat × Nat) k).1 : Nat) else .int .i64 ((((fun _ => (0, 1)) : Nat → Nat × Nat) k).2 : Nat) := by
  unfold part cellsOf
  apply List.map_congr_left
  intro j hj
  have h : j / 2 < n := by simp at hj; omega
  simp [h]
theorem part_own {w : World} {g n : Nat} (base : Nat) (hg : w.heap[g]? = some (.cells (part n n).toArray 76 (0, 0))) (hn : n ≤ 1000) (hb : base ≤ g) :
    LdRow w base (.slice (some ⟨g, 0, none⟩) n n) n (fun _ => (0, 1)) := by
  refine ⟨cellsOf_len .., .inr ⟨g, n, (part n n).toArray, rfl, hb, hg, Nat.le_refl _, Nat.le_trans hn (by decide), by simp [part_len], ?_⟩⟩
  rw [← part_full, List.take_of_length_le (by simp [part_len])]
theorem repeat_any (b n c : Nat) (w : World) (hn : n ≤ 1000) (hn0 : 1 ≤ n) (hb : Blk w b 76 #[.int .i64 0, .int .i64 1]) :
    Calls Try.prog 115 #[.slice (some ⟨b, 0, none⟩) 1 c, .int .i64 n] w (RepPost n w) := by
  obtain ⟨i0, hi, hz0, hz1, hz2⟩ := info_parts info_load
  have HM := hide (fun W : World => run_make_rowN (P := Try.prog) 65 76 i0 _ Try.underlying65 hi hz0 .i64 .i64 n n (Nat.le_refl _) (by rw [hz2]; omega) (by omega) W)
  rw [hz1, part_made] at HM
  have hb0 := hide hb
  obtain ⟨P0, hP0⟩ : ∃ P0, P0 = part n 0 := ⟨_, rfl⟩
  have HP := hide hP0
  rw [← hP0] at HM
  clear hP0 hb
  have hm1 : Nat.min 1 n = 1 := by simp [Nat.min_def]; omega
  have hB0 := hide (Blk.new w 76 P0.toArray)
  have hb1 := hide (hb0.out.alloc (.cells P0.toArray 76))
  have hm2 := hide hm1
  clear hi hz0 hz1 hz2 hm1
  go_enter Try.func115, Try.ntmps115
  go_wp2_with fail
  refine (mul_one n _ (by omega)).mono ?_
  rintro e w' ⟨rfl, rfl⟩
  have gl := HM.out w
  clear HM
  have g9 : ¬ ((9223372036854775807 : Int) < (n : Int)) := by omega
  have g8 : decide ((9223372036854775807 : Int) < (n : Int)) = false := by simp [g9]
  have g7 : IntKind.i64.wrap (n : Int) = n := by rw [IntKind.wrap_i64]; omega
  go_wp2_with (first | (refine wpList_copyN rfl (.tmp 31) (.tmp 32) _ _ rfl 76 2 Try.underlying65 size_load w.heap.size 0 n n ⟨b, 0, none⟩ 1 c rfl rfl P0 76 hB0.out [.int .i64 0, .int .i64 1] 1 hm2.out rfl ?_ ?_ ?_ w.heap.size w ?_ (Nat.le_refl _) ?_))
  · intro j v hj
    have hA : (⟨b, 0, none⟩ : Addr).add j = ⟨b, j, none⟩ := by unfold Addr.add; split <;> simp_all
    rw [hA, hb1.out.cell]
    simpa using hj
  · have := part_len n 0
    rw [HP.out, this]; simp; omega
  · intro v hv; simp at hv; rcases hv with rfl | rfl <;> rfl
  · exact (Below.refl _ _).alloc (Nat.le_refl _) _
  intro w2 hg2 hB2
  have hg3 : Hid (w2.heap[w.heap.size]? = some (.cells (part n 1).toArray 76 (0, 0))) := by
    have e : splice P0 0 [Value.int .i64 0, .int .i64 1] = part n 1 := by
      rw [HP.out]
      apply List.ext_getElem?
      intro j
      by_cases hj : j < n * 2
      · rw [part_get n 1 j hj]
        simp only [splice, List.take_zero, List.nil_append, List.getElem?_append]
        split
        · rename_i h2
          rcases (by simp at h2; omega : j = 0 ∨ j = 1) with rfl | rfl <;> simp
        · rename_i h2
          simp at h2
          have h3 : ¬ (j % 2 = 1 ∧ j / 2 < 1) := by omega
          rw [List.getElem?_drop, part_get n 0 _ (by simp; omega), if_neg h3, if_neg (by simp)]
      · rw [List.getElem?_eq_none (by simp [splice, part_len]; omega), List.getElem?_eq_none (by rw [part_len]; omega)]
    rw [← e]; exact hg2
  clear hg2 hB0 hb1 HP
  go_wp2_with fail
  go_loopw [8] (fun i wr => ∃ m : Nat, i = .int .i64 m ∧ 1 ≤ m ∧ m ≤ n ∧ Hid (wr.heap[w.heap.size]? = some (.cells (part n m).toArray 76 (0, 0))) ∧ Below w.heap.size w wr) (fun i _ => n - (intOf i).toNat)
  case atStart => exact ⟨1, rfl, Nat.le_refl _, hn0, hg3, hB2⟩
  case round =>
    obtain ⟨m, rfl, hm0, hm1, hg, hB⟩ := hrel
    rcases Nat.lt_or_ge m n with hlt | hge
    · have g1 : (m : Int) < (n : Int) := by omega
      have g2 : (0 : Int) ≤ (m : Int) := by omega
      have g3 : (m : Int) ≤ (n : Int) := by omega
      obtain ⟨q, hq⟩ : ∃ q, q = Nat.min m (n - m) := ⟨_, rfl⟩
      have hq1 : q ≤ m ∧ m + q ≤ n ∧ 0 < q := by rw [hq, show Nat.min m (n - m) = min m (n - m) from rfl, Nat.min_def]; split <;> omega
      have g4 : IntKind.i64.wrap ((m : Int) + (q : Int)) = ((m + q : Nat) : Int) := by rw [IntKind.wrap_i64]; omega
      have HQ := hide hq.symm
      have g5 : ¬ n = m := by omega
      clear hq
      go_wp2_with fail
      have hr : ∀ k, ∀ j v, ((part n m).take (q * 2))[j]? = some v → (wr.drewN k).cell? ((⟨w.heap.size, 0, none⟩ : Addr).add j) = some v := fun k => part_row (wr.drewN k) _ n m hg.out (q * 2)
      have hfit : m * 2 + ((part n m).take (q * 2)).length ≤ (part n m).length := by rw [List.length_take, part_len]; omega
      have hl : ((part n m).take (q * 2)).length = q * 2 := by rw [List.length_take, part_len]; omega
      have ho : ∀ u ∈ (part n m).take (q * 2), u.oneCell' = true := fun u hu => part_one n m u (List.mem_of_mem_take hu)
      have HR := hide (And.intro hr (And.intro hfit (And.intro hl ho)))
      clear hr hfit hl ho
      go_region_law (refine step_copyN rfl (.tmp 41) (.tmp 44) _ _ rfl 76 2 Try.underlying65 size_load w.heap.size (m * 2) (n - m) (n - m) ⟨w.heap.size, 0, none⟩ m n (by simp [Act.eval, Act.put, g5]) (by simp [Act.eval, Act.put]) (part n m) 76 hg.out ((part n m).take (q * 2)) q HQ.out HR.out.2.2.1 (HR.out.1 _) HR.out.2.1 HR.out.2.2.2 w.heap.size w (hB.trans (Below_dN (Below.refl _ _) _)) (Nat.le_refl _) ?_; intro w3 hg3 hB3)
      all_goals (
        have hg4 : Hid (w3.heap[w.heap.size]? = some (.cells (part n (m + q)).toArray 76 (0, 0))) := by
          rw [← part_next n m q hm1 hq1.1 hq1.2.1]; exact hg3
        clear HR HQ hg3 hg
        go_simp
        go_roundw
        case rel =>
          refine ⟨_, _, _, _, _, _, _, _, _, _, _, _, _, _, ?_, rfl⟩
          exact ⟨m + q, by simp, by omega, hq1.2.1, hg4, hB3⟩
        case measure => simp [intOf]; omega)
    · obtain rfl : m = n := by omega
      have g1 : ¬ (m : Int) < (m : Int) := by omega
      clear hm0 hge
      go_wp2_with fail
      go_ret
      exact ⟨_, rfl, part_own _ hg.out (by omega) (Nat.le_refl _), hB⟩
theorem nothing_any (n : Nat) (w : World) (hn : n ≤ 1000) (hn0 : 1 ≤ n) :
    Calls Try.prog 105 #[.int .i64 n] w (RepPost n w) := by
  have hb := hide (Blk.new w 76 #[.int .i64 0, .int .i64 1])
  have h2 : ∀ c, Calls Try.prog 115 #[.slice (some ⟨w.heap.size, 0, none⟩) 1 c, .int .i64 n] (w.alloc (.cells #[.int .i64 0, .int .i64 1] 76)) (RepPost n (w.alloc (.cells #[.int .i64 0, .int .i64 1] 76))) := fun c => repeat_any _ n c _ hn hn0 hb.out
  have H := hide h2
  clear h2
  go_enter Try.func105, Try.ntmps105
  go_wp2_with fail
  refine (H.out _).mono ?_
  rintro e w1 ⟨v, rfl, h1, h2⟩
  obtain ⟨g, c, rfl⟩ := own_shape h1
  go_wp2_with fail
  go_ret
  refine ⟨_, rfl, ownMono h1 (by simp), ?_⟩
  exact ((Below.refl _ _).alloc (Nat.le_refl _) _).trans (h2.mono (by simp))
end Go.Proofs.Ytlhekifmkkgjlaa
/- Contracts of chapter 8 on stacks: the bricks in order. -/
namespace Go.Proofs.Ytlhekifmkkgjlaa
open Go Go.RowKit Go.Shelf
attribute [local go_sem] Oper.semAt_some
set_option maxHeartbeats 1000000
/-- the bricks of the first k tiers, and of the next one the first j -/
def rowTo (k j : Nat) : List (Nat × Nat) := (List.range j).map fun i => (k, i)
def bricksTo (wn : Nat → Nat) (k : Nat) : List (Nat × Nat) := (List.range k).flatMap fun t => rowTo t (wn t)
theorem bricksTo_succ (wn : Nat → Nat) (k : Nat) : bricksTo wn (k + 1) = bricksTo wn k ++ rowTo k (wn k) := by
  simp [bricksTo, List.range_succ, List.flatMap_append]
theorem rowTo_succ (k j : Nat) : rowTo k (j + 1) = rowTo k j ++ [(k, j)] := by simp [rowTo, List.range_succ]
theorem rowTo_zero (k : Nat) : rowTo k 0 = [] := rfl
theorem rowTo_prefix (k : Nat) {j n : Nat} (h : j ≤ n) : rowTo k j <+: rowTo k n := by
  induction n with
  | zero => obtain rfl : j = 0 := by omega
            exact List.prefix_refl _
  | succ n ih =>
    rcases Nat.lt_or_ge j (n + 1) with hl | hl
    · rw [rowTo_succ]; exact (ih (by omega)).trans (List.prefix_append _ _)
    · obtain rfl : j = n + 1 := by omega
      exact List.prefix_refl _
theorem bricksTo_prefix (wn : Nat → Nat) {k n : Nat} (h : k ≤ n) : bricksTo wn k <+: bricksTo wn n := by
  induction n with
  | zero => obtain rfl : k = 0 := by omega
            exact List.prefix_refl _
  | succ n ih =>
    rcases Nat.lt_or_ge k (n + 1) with hl | hl
    · rw [bricksTo_succ]; exact (ih (by omega)).trans (List.prefix_append _ _)
    · obtain rfl : k = n + 1 := by omega
      exact List.prefix_refl _
theorem bricksTo_part (wn : Nat → Nat) {k j n : Nat} (hk : k < n) (hj : j ≤ wn k) : bricksTo wn k ++ rowTo k j <+: bricksTo wn n := by
  refine List.IsPrefix.trans ?_ (bricksTo_prefix wn (show k + 1 ≤ n from hk))
  rw [bricksTo_succ]
  exact List.prefix_append_right_inj _ |>.2 (rowTo_prefix k hj)
abbrev Brk (s : Stk) := { p : Nat × Nat // p.1 < s.nt ∧ p.2 < s.wn p.1 }
theorem bricks1_in (F : Fence) (n : Nat) (hF : ∀ f, F.fn f) (hro : F.round = none) (hn : 1 ≤ n) (l p n0 : Nat) (s : Stk) (J Jx : List (Brk s) → World → Prop) (W : World)
    (hp : PileB W p s) (hs : StkR W n0 s) (hn0 : n0 ≤ W.heap.size)
    (hY : ∀ pre (x : Brk s) W, J pre W → pre.length < (bricksTo s.wn s.nt).length → YieldAt F (n - 1) Try.prog l #[.agg #[.int .i64 x.1.1, .int .i64 x.1.2]] W fun e W' =>
      (e = .returned (.bool true) ∧ J (pre ++ [x]) W' ∧ Below n0 W W') ∨ (e = .returned (.bool false) ∧ Jx (pre ++ [x]) W')) (h0 : J [] W)
    (hal : ∀ pre W1 W', J pre W1 → Below n0 W W1 → Below W1.heap.size W1 W' → J pre W') :
    CallsIn F n Try.prog 111 #[.func (.yield l) #[] #[], .pointer (some ⟨p, 0, none⟩)] W fun e W' => (∃ v, e = .returned v) ∧
      ((∃ ys : List (Brk s), ys.map (·.1) = bricksTo s.wn s.nt ∧ J ys W') ∨ (∃ pre : List (Brk s), pre.map (·.1) <+: bricksTo s.wn s.nt ∧ Jx pre W')) := by
  have g4 := hp.c2
  have HYY := hide hY
  have H0 := hide h0
  have HS := hide hs
  have HAL := hide hal
  have hnt := hs.1
  rcases Nat.eq_zero_or_pos s.nt with hz | hpos
  · have hz0 : ¬ (0 : Int) < (s.nt : Int) := by omega
    have hbz : bricksTo s.wn s.nt = [] := by simp [hz, bricksTo]
    have HBZ := hide hbz
    clear hbz
    clear hY h0 hs hp hal
    refine callsIn_of_wp Try.func111 rfl (hF _) ?_ hro
    simp only [Try.ntmps111, List.size_toArray, List.length_cons, List.length_nil, Nat.reduceAdd, Nat.reduceSub, Array.replicate_succ, Array.replicate_zero, List.push_toArray, List.append_toArray, List.nil_append, List.cons_append]
    gi_wp2_with fail
    gi_loopw [10] (fun i wr => i = .int .i64 0 ∧ J [] wr) (fun _ _ => 0)
    case atStart => exact ⟨rfl, H0.out⟩
    case round =>
      obtain ⟨rfl, hJ⟩ := hrel
      gi_wp2_with fail
      go_end0
      exact ⟨⟨_, rfl⟩, .inl ⟨[], by rw [HBZ.out]; rfl, hJ⟩⟩
  · obtain ⟨tb, toff, hA, htb, -, -⟩ := hs.2.1.at_ hpos
    rw [hA] at g4
    have HA := hide hA
    clear hY h0 hs hp hal hA
    refine callsIn_of_wp Try.func111 rfl (hF _) ?_ hro
    simp only [Try.ntmps111, List.size_toArray, List.length_cons, List.length_nil, Nat.reduceAdd, Nat.reduceSub, Array.replicate_succ, Array.replicate_zero, List.push_toArray, List.append_toArray, List.nil_append, List.cons_append]
    gi_wp2_with fail
    gi_loopw [10] (fun i wr => ∃ (k : Nat) (ys : List (Brk s)), k ≤ s.nt ∧ i = .int .i64 k ∧ Hid (ys.map (·.1) = bricksTo s.wn k ∧ J ys wr) ∧ Below n0 W wr) (fun i _ => s.nt - (intOf i).toNat)
    case atStart => exact ⟨0, [], Nat.zero_le _, rfl, hide ⟨rfl, H0.out⟩, Below.refl _ _⟩
    case round =>
      obtain ⟨k, ys, hk, rfl, hJs, hnx⟩ := hrel
      by_cases hlt : k < s.nt
      · obtain ⟨tb', toff', hA', htb', hu, hv⟩ := (HS.out.below hnx (Nat.le_refl _)).2.1.at_ hlt
        rw [HA.out] at hA'
        cases hA'
        have hwn := (HS.out.2.2 k hlt).2.1
        have j1 : (0 : Int) ≤ (k : Int) := by omega
        have j2 : (k : Int) < (s.nt : Int) := by omega
        have hz9 : n0 ≤ wr.heap.size := by have := hnx.size; omega
        unfold Stk.u at hu
        unfold Stk.v at hv
        gi_wp2_with fail
        gi_loopw [18] (fun i wq => ∃ (j : Nat) (zs : List (Brk s)), j ≤ s.wn k ∧ i = .int .i64 j ∧ Hid (zs.map (·.1) = bricksTo s.wn k ++ rowTo k j ∧ J zs wq) ∧ Below n0 W wq) (fun i _ => s.wn k - (intOf i).toNat)
        case atStart => exact ⟨0, ys, Nat.zero_le _, rfl, hide ⟨by rw [hJs.out.1, rowTo_zero, List.append_nil], HAL.out ys wr _ hJs.out.2 hnx ((Below.refl _ _).alloc (Nat.le_refl _) _)⟩, hnx.alloc (by omega) _⟩
        case round =>
          obtain ⟨j, zs, hj, rfl, hJz, hnz⟩ := hrel
          have i1 : (0 : Int) ≤ (j : Int) := by omega
          by_cases hjl : j < s.wn k
          · have i2 : (j : Int) < (s.wn k : Int) := by omega
            obtain ⟨fn, tmps, assign, body, hy, hR⟩ := HYY.out zs ⟨(k, j), hlt, hjl⟩ wr hJz.out.2 (by
              have h1 := (bricksTo_part s.wn (k := k) (j := j + 1) hlt hjl).length_le
              rw [rowTo_succ, ← List.append_assoc, ← hJz.out.1, List.length_append, List.length_map] at h1
              simp at h1; omega)
            dsimp only at hy
            have HR := hide hR
            clear hR
            gi_wp2_with fail
            refine HR.out.mono ?_
            rintro e W3 (⟨rfl, hJ3, hk3⟩ | ⟨rfl, hJx3⟩)
            · have HJ3 := hide hJ3
              clear hJ3
              gi_wp2_with fail
              go_roundw
              case rel => exact ⟨j + 1, zs ++ [⟨(k, j), hlt, hjl⟩], by omega, by go_num, hide ⟨by rw [rowTo_succ, List.map_append, hJz.out.1, List.append_assoc]; rfl, HJ3.out⟩, hnz.trans hk3⟩
              case measure => simp [intOf]; omega
            · have HJ3 := hide hJx3
              clear hJx3
              gi_wp2_with fail
              refine bodyPost_ret (results_none rfl _ _ _) rfl ?_
              exact ⟨⟨_, rfl⟩, .inr ⟨_, by
                rw [List.map_append, hJz.out.1]
                have h9 := bricksTo_part s.wn (k := k) (j := j + 1) hlt hjl
                rw [rowTo_succ, ← List.append_assoc] at h9
                exact h9, HJ3.out⟩⟩
          · obtain rfl : j = s.wn k := by omega
            have j9 : ¬ (s.wn k : Int) < (s.wn k : Int) := by omega
            gi_wp2_with fail
            go_roundw
            case rel => exact ⟨k + 1, zs, by omega, by go_num, hide ⟨by rw [bricksTo_succ]; exact hJz.out.1, hJz.out.2⟩, hnz⟩
            case measure => simp [intOf]; omega
      · obtain rfl : k = s.nt := by omega
        have j9 : ¬ (s.nt : Int) < (s.nt : Int) := by omega
        gi_wp2_with fail
        go_end0
        exact ⟨⟨_, rfl⟩, .inl ⟨ys, hJs.out.1, hJs.out.2⟩⟩
theorem bricks_any (s : Stk) (w : World) :
    Calls Try.prog 93 #[.agg #[.int .i64 s.wd, .int .i64 s.hg, .slice s.A s.nt s.cap]] w fun e w' => e = .returned (.func (.func 111) #[] #[.pointer (some ⟨w.heap.size, 0, none⟩)]) ∧ w.alloc (.cells #[.int .i64 s.wd, .int .i64 s.hg, .slice s.A s.nt s.cap] 131) = w' := by
  go_enter Try.func93, Try.ntmps93
  go_wp2_with fail
  go_ret
  exact ⟨rfl, rfl⟩
theorem abides_below {β : Type} {B : Nat} {J : β → World → Prop} (h : AbidesFrom B J) (s : β) (W W' : World) (hs : J s W) (hb : Below W.heap.size W W') : J s W' :=
  h s W W' none hs ⟨hb.os, hb.tape, hb.output, hb.size, fun k hk _ => hb.block k hk⟩ (fun _ e => by cases e)
theorem bricks_stops (F : Fence) (n : Nat) (hF : ∀ f, F.fn f) (hro : F.round = none) (hn : 1 ≤ n) (p n0 : Nat) (s : Stk) (w : World) (hp : PileB w p s) (hn0 : n0 ≤ w.heap.size) (hs : StkR w n0 s) :
    SeqStopsK F n Try.prog 111 #[.pointer (some ⟨p, 0, none⟩)] (fun x : Brk s => #[.agg #[.int .i64 x.1.1, .int .i64 x.1.2]]) (Below n0) (fun ys => ys.map (·.1) = bricksTo s.wn s.nt) (fun pre => pre.map (·.1) <+: bricksTo s.wn s.nt) (bricksTo s.wn s.nt).length w := fun l J Jx W hW hJ _ hY h0 =>
  bricks1_in F n hF hro hn l p n0 s J Jx W (hp.ext hW) (hs.below (hW.mono hn0) (Nat.le_refl _)) (by have := hW.size; omega) hY h0 (fun pre W1 W' h _ hb => abides_below hJ pre W1 W' h hb)
end Go.Proofs.Ytlhekifmkkgjlaa
/- Contracts of chapter 8 on stacks: the first brick of a kind. -/
namespace Go.Proofs.Ytlhekifmkkgjlaa
open Go Go.RowKit Go.Shelf
attribute [local go_sem] Oper.semAt_some
set_option maxHeartbeats 1000000
theorem Blk.set2 {w : World} {g : Nat} {t : TypeId} {a b : Value} (h : Blk w g t #[a, b]) (u v : Value) : Blk ((w.setCell ⟨g, 0, none⟩ u).setCell ⟨g, 1, none⟩ v) g t #[u, v] := by
  simpa using (h.set_ 0 u).set_ 1 v
def firstOf (p : Nat → Nat → Bool) (l : List (Nat × Nat)) : Int × Int := match l.find? fun x => p x.1 x.2 with
  | some x => ((x.1 : Int), (x.2 : Int))
  | none => (-1, -1)
def brV (x : Int × Int) : Value := .agg #[.int .i64 x.1, .int .i64 x.2]
theorem firstOf_none {p : Nat → Nat → Bool} {l : List (Nat × Nat)} (h : ∀ x ∈ l, p x.1 x.2 = false) : firstOf p l = (-1, -1) := by
  have : (l.find? fun x => p x.1 x.2) = none := by rw [List.find?_eq_none]; intro x hx; simp [h x hx]
  simp [firstOf, this]
theorem firstOf_some {p : Nat → Nat → Bool} {l pre : List (Nat × Nat)} {x : Nat × Nat} (h : pre ++ [x] <+: l) (hp : ∀ y ∈ pre, p y.1 y.2 = false) (hx : p x.1 x.2 = true) : firstOf p l = ((x.1 : Int), (x.2 : Int)) := by
  obtain ⟨r, rfl⟩ := h
  have h1 : (pre.find? fun x => p x.1 x.2) = none := by rw [List.find?_eq_none]; intro y hy; simp [hp y hy]
  have h2 : ((pre ++ [x] ++ r).find? fun x => p x.1 x.2) = some x := by
    rw [List.append_assoc, List.find?_append, h1]; simp [hx]
  simp only [firstOf]; rw [h2]
theorem first_any (g : FuncId) (lb : Array Value) (p : Nat → Nat → Bool) (s : Stk) (w : World) (hs : StkR w w.heap.size s)
    (eg : ∀ args w, (callFunc g args).run Try.prog w = .ok (.enter g args) w)
    (hp : ∀ W (x : Brk s), Below w.heap.size w W → Calls Try.prog g (#[.agg #[.int .i64 x.1.1, .int .i64 x.1.2]] ++ lb) W fun e W' => e = .returned (.bool (p x.1.1 x.1.2)) ∧ Below W.heap.size W W') :
    Calls Try.prog 67 #[.agg #[.int .i64 s.wd, .int .i64 s.hg, .slice s.A s.nt s.cap], .func (.func g) #[] lb] w fun e w' => e = .returned (brV (firstOf p (bricksTo s.wn s.nt))) ∧ Below w.heap.size w w' := by
  refine (callsIn_wide (n := 9)).1 ?_
  obtain ⟨F, hFw⟩ : ∃ F : Fence, F = Fence.wide := ⟨_, rfl⟩
  rw [← hFw]
  have hF : ∀ f, F.fn f := by rw [hFw]; exact fun _ => trivial
  have hro : F.round = none := by rw [hFw]; rfl
  have hwd : ∀ {n f args w R}, Calls Try.prog f args w R → CallsIn F n Try.prog f args w R := by rw [hFw]; exact fun h => callsIn_wide.2 h
  have HP := hide hp
  clear hFw hp
  refine callsIn_of_wp_marks Try.func67 rfl (hF _) ?_ hro
  simp only [Try.ntmps67, List.size_toArray, List.length_cons, List.length_nil, Nat.reduceAdd, Nat.reduceSub, Array.replicate_succ, Array.replicate_zero, List.push_toArray, List.append_toArray, List.nil_append, List.cons_append]
  gi_wp2_with (gi_at_call 93; refine (hwd (bricks_any s _)).mono ?_; rintro e w1 ⟨rfl, rfl⟩)
  have k1 : Blk ((((w.alloc (.cells #[.int .i64 s.wd, .int .i64 s.hg, .slice s.A s.nt s.cap] 131)).alloc (.cells #[.func (.func g) #[] lb] 137)).alloc (.cells #[.int .i64 0, .int .i64 0] 59)).alloc (.cells #[.int .i64 s.wd, .int .i64 s.hg, .slice s.A s.nt s.cap] 131)) (w.heap.size + 1) 137 #[.func (.func g) #[] lb] := by simpa using ((Blk.new (w.alloc (.cells #[.int .i64 s.wd, .int .i64 s.hg, .slice s.A s.nt s.cap] 131)) 137 #[.func (.func g) #[] lb]).alloc _).alloc _
  have k2 : Blk ((((w.alloc (.cells #[.int .i64 s.wd, .int .i64 s.hg, .slice s.A s.nt s.cap] 131)).alloc (.cells #[.func (.func g) #[] lb] 137)).alloc (.cells #[.int .i64 0, .int .i64 0] 59)).alloc (.cells #[.int .i64 s.wd, .int .i64 s.hg, .slice s.A s.nt s.cap] 131)) (w.heap.size + 1 + 1) 59 #[.int .i64 0, .int .i64 0] := by simpa using (Blk.new ((w.alloc (.cells #[.int .i64 s.wd, .int .i64 s.hg, .slice s.A s.nt s.cap] 131)).alloc (.cells #[.func (.func g) #[] lb] 137)) 59 #[.int .i64 0, .int .i64 0]).alloc (.cells #[.int .i64 s.wd, .int .i64 s.hg, .slice s.A s.nt s.cap] 131)
  have k3 : PileB ((((w.alloc (.cells #[.int .i64 s.wd, .int .i64 s.hg, .slice s.A s.nt s.cap] 131)).alloc (.cells #[.func (.func g) #[] lb] 137)).alloc (.cells #[.int .i64 0, .int .i64 0] 59)).alloc (.cells #[.int .i64 s.wd, .int .i64 s.hg, .slice s.A s.nt s.cap] 131)) (w.heap.size + 1 + 1 + 1) s := by unfold PileB; simpa using Blk.new (((w.alloc (.cells #[.int .i64 s.wd, .int .i64 s.hg, .slice s.A s.nt s.cap] 131)).alloc (.cells #[.func (.func g) #[] lb] 137)).alloc (.cells #[.int .i64 0, .int .i64 0] 59)) 131 #[.int .i64 s.wd, .int .i64 s.hg, .slice s.A s.nt s.cap]
  have k5 : ((((w.alloc (.cells #[.int .i64 s.wd, .int .i64 s.hg, .slice s.A s.nt s.cap] 131)).alloc (.cells #[.func (.func g) #[] lb] 137)).alloc (.cells #[.int .i64 0, .int .i64 0] 59)).alloc (.cells #[.int .i64 s.wd, .int .i64 s.hg, .slice s.A s.nt s.cap] 131)).heap.size = w.heap.size + 4 := by simp
  have k6 : Below w.heap.size w ((((w.alloc (.cells #[.int .i64 s.wd, .int .i64 s.hg, .slice s.A s.nt s.cap] 131)).alloc (.cells #[.func (.func g) #[] lb] 137)).alloc (.cells #[.int .i64 0, .int .i64 0] 59)).alloc (.cells #[.int .i64 s.wd, .int .i64 s.hg, .slice s.A s.nt s.cap] 131)) := ((((Below.refl _ _).alloc (Nat.le_refl _) _).alloc (by simp) _).alloc (by simp only [World.size_alloc]; omega) _).alloc (by simp only [World.size_alloc]; omega) _
  generalize ((((w.alloc (.cells #[.int .i64 s.wd, .int .i64 s.hg, .slice s.A s.nt s.cap] 131)).alloc (.cells #[.func (.func g) #[] lb] 137)).alloc (.cells #[.int .i64 0, .int .i64 0] 59)).alloc (.cells #[.int .i64 s.wd, .int .i64 s.hg, .slice s.A s.nt s.cap] 131)) = W0 at k1 k2 k3 k5 k6 ⊢
  have hst := bricks_stops F (9 - 1) hF hro (by omega) (w.heap.size + 1 + 1 + 1) w.heap.size s W0 k3 (by omega) (hs.below k6 (Nat.le_refl _))
  refine wpIn_rangeFunc_ownH hro (by omega) (gf := 111) (lb := #[.pointer (some ⟨w.heap.size + 1 + 1 + 1, 0, none⟩)]) rfl (hF _) (enters_of Try.func111 (by kernel_rfl) rfl)
    hst Below.trans (fun W l o o' hl h hc hk => belowK_b (by omega) W l o o' hl h hc hk) (Below.refl _ _) (fun _ => rfl)
    (fun pre W => (∀ y ∈ pre.map (·.1), p y.1 y.2 = false) ∧ Blk W (w.heap.size + 1) 137 #[.func (.func g) #[] lb] ∧ Blk W (w.heap.size + 1 + 1) 59 #[.int .i64 0, .int .i64 0] ∧ Below w.heap.size w W)
    (fun c pre W => c = .ret ∧ ∃ (pre' : List (Brk s)) (x : Brk s), pre = pre' ++ [x] ∧ (∀ y ∈ pre'.map (·.1), p y.1 y.2 = false) ∧ p x.1.1 x.1.2 = true ∧ Blk W (w.heap.size + 1 + 1) 59 #[.int .i64 x.1.1, .int .i64 x.1.2] ∧ Below w.heap.size w W)
    ?hI ?hIx ⟨by simp, k1, k2, k6⟩
    (fun x a' W => ∃ b, w.heap.size + 3 ≤ b ∧ Blk W b 59 #[.int .i64 x.1.1, .int .i64 x.1.2] ∧ a' = { tmps := #[.agg #[.int .i64 s.wd, .int .i64 s.hg, .slice s.A s.nt s.cap], .func (.func g) #[] lb, .pointer (some ⟨w.heap.size, 0, none⟩), .pointer (some ⟨w.heap.size + 1, 0, none⟩), .pointer (some ⟨w.heap.size + 1 + 1, 0, none⟩), .pointer (some ⟨b, 0, none⟩), .agg #[.int .i64 s.wd, .int .i64 s.hg, .slice s.A s.nt s.cap], .func (.func 111) #[] #[.pointer (some ⟨w.heap.size + 1 + 1 + 1, 0, none⟩)], .agg #[.int .i64 x.1.1, .int .i64 x.1.2], undef, undef, undef, undef, undef], defers := [] })
    ?hAx ?hassign ?hbody ?hdone ?hstop
  case hI =>
    rintro pre W W' row ⟨h1, h2, h3, h6⟩ hg hr
    have hr' := fun r e => (hr r e).2
    exact ⟨h1, h2.keptN hg hr', h3.keptN hg hr', h6.trans ⟨hg.os, hg.tape, hg.output, hg.size, fun k hk => hg.block k (by have := h6.size; omega) (fun e => by have := (hr k e.symm).1; omega)⟩⟩
  case hIx =>
    rintro c pre W W' row ⟨h0, pre', x, h1, h2, h3, h4, h6⟩ hg hr
    have hr' := fun r e => (hr r e).2
    exact ⟨h0, pre', x, h1, h2, h3, h4.keptN hg hr', h6.trans ⟨hg.os, hg.tape, hg.output, hg.size, fun k hk => hg.block k (by have := h6.size; omega) (fun e => by have := (hr k e.symm).1; omega)⟩⟩
  case hAx =>
    rintro x a' _ W W' row ⟨b, h1, h2, h3⟩ hg hr
    exact ⟨b, h1, h2.keptN hg (fun r e => (hr r e).2), h3⟩
  case hassign =>
    rintro l pre x W K ⟨h1, h2, h3, h6⟩ hK
    have z0 := h3.lt
    gi_wp2
    have hb := (Below.refl W.heap.size W).alloc (Nat.le_refl _) (.cells #[.int .i64 x.1.1, .int .i64 x.1.2] 59)
    refine hK _ _ ((keepsO hb).from _) (hb.mono h6.size) ⟨h1, h2.ext hb, h3.ext hb, h6.trans (hb.mono h6.size)⟩ ⟨W.heap.size, z0, Blk.new _ _ _, rfl⟩
  case hbody =>
    rintro l pre x a' W hl hlr ⟨h1, h2, h3, h6⟩ ⟨b, hb4, hb, rfl⟩ hlt
    obtain ⟨d1, d2, d3, -, -⟩ := blk2 hb
    obtain ⟨e1, e2, e3⟩ := blk1 h2
    obtain ⟨f1, f2, f3, f4, f5⟩ := blk2 h3
    have HC := hide (HP.out W x h6)
    have P1 := hide h1
    have P2 := hide h2
    have P3 := hide h3
    have PB := hide hb
    clear h1 h2 h3 hb hst k1 k2 k3 k5 k6 hlr
    rcases hpx : p x.1.1 x.1.2 with _ | _
    · rw [hpx] at HC
      have HX := hide hpx
      clear hpx
      gi_wp2_with ((with_reducible refine (CallsIn.inRound l (hwd HC.out)).mono ?_); rintro e w1 ⟨rfl, hb1⟩)
      refine ⟨(keepsO hb1).from _, hb1.mono h6.size, ?_, P2.out.ext hb1, P3.out.ext hb1, h6.trans (hb1.mono h6.size)⟩
      intro y hy
      rw [List.map_append, List.mem_append] at hy
      rcases hy with hy | hy
      · exact P1.out y hy
      · simp at hy; rw [hy]; exact HX.out
    · rw [hpx] at HC
      have HX := hide hpx
      clear hpx
      gi_wp2_with (first | ((with_reducible refine (CallsIn.inRound l (hwd HC.out)).mono ?_); rintro e w1 ⟨rfl, hb1⟩; obtain ⟨d1', d2', d3', -, -⟩ := blk2 (PB.out.ext hb1); obtain ⟨f1', f2', f3', f4', f5'⟩ := blk2 (P3.out.ext hb1)))
      refine ⟨(((keepsO hb1).trans (KeepsOthers.setCell _ _ _)).trans (KeepsOthers.setCell _ _ _)).from _, rfl, pre, x, rfl, P1.out, HX.out, (P3.out.ext hb1).set2 _ _, ?_⟩
      exact set2B (h6.trans (hb1.mono h6.size)) (by omega) _ _
  case hdone =>
    rintro D xs W hD hxs ⟨h1, h2, h3, h6⟩ hK
    rw [hxs] at h1
    have HV := hide (firstOf_none h1)
    obtain ⟨f1, f2, f3, f4, f5⟩ := blk2 h3
    have P3 := hide h3
    clear h1 h2 h3 hst k1 k2 k3 k6 hxs
    gi_wp2_with fail
    have hK' := ((KeepsOthers.setCell W ⟨w.heap.size + 1 + 1, 0, none⟩ (.int .i64 (-1))).trans (KeepsOthers.setCell _ ⟨w.heap.size + 1 + 1, 1, none⟩ (.int .i64 (-1)))).same D _ hK rfl
    have hP := P3.out.set2 (.int .i64 (-1)) (.int .i64 (-1))
    have hB := set2B h6 (show w.heap.size ≤ w.heap.size + 1 + 1 by omega) (.int .i64 (-1)) (.int .i64 (-1))
    generalize (W.setCell ⟨w.heap.size + 1 + 1, 0, none⟩ (.int .i64 (-1))).setCell ⟨w.heap.size + 1 + 1, 1, none⟩ (.int .i64 (-1)) = W5 at hK' hP hB ⊢
    refine ⟨by simp, .inl ⟨_, _, rfl, run_takeDeferred hK', ?_⟩⟩
    have hgp := grownBy_putObj' W5 D (.deferred none)
    obtain ⟨g1, g2, g3, -, -⟩ := blk2 (hP.keptN hgp (fun r e => by cases e; exact ⟨_, hK', rfl⟩))
    refine ⟨.agg #[.int .i64 (-1), .int .i64 (-1)], by simp [results, Try.results67, go_sem, g2, g3], ?_⟩
    exact ⟨by rw [HV.out]; rfl, hB.trans (belowK_b (w := w) (Nat.le_refl _) _ D _ _ (by omega) hK' rfl rfl)⟩
  case hstop =>
    rintro D c pre W hD hSp ⟨rfl, pre', x, rfl, h2, h3, h4, h6⟩ hK
    rw [List.map_append] at hSp
    have HV := hide (firstOf_some hSp h2 h3)
    have P3 := hide h4
    clear h2 h3 h4 hst k1 k2 k3 k6 hSp
    gi_wp2_with fail
    refine ⟨by simp, .inl ⟨_, _, rfl, run_takeDeferred hK, ?_⟩⟩
    have hgp := grownBy_putObj' W D (.deferred none)
    obtain ⟨g1, g2, g3, -, -⟩ := blk2 (P3.out.keptN hgp (fun r e => by cases e; exact ⟨_, hK, rfl⟩))
    refine ⟨.agg #[.int .i64 x.1.1, .int .i64 x.1.2], by simp [results, Try.results67, go_sem, g2, g3], ?_⟩
    exact ⟨by rw [HV.out]; rfl, h6.trans (belowK_b (w := w) (Nat.le_refl _) _ D _ _ (by omega) hK rfl rfl)⟩
end Go.Proofs.Ytlhekifmkkgjlaa
/- Contracts of chapter 8 on stacks: a brick that hangs. -/
namespace Go.Proofs.Ytlhekifmkkgjlaa
open Go Go.RowKit Go.Shelf
attribute [local go_sem] Oper.semAt_some
set_option maxHeartbeats 1000000
def hangP (s : Stk) (t i : Nat) : Bool := decide ((restL s t i).length = 0)
def hangF (s : Stk) : Int × Int := firstOf (hangP s) (bricksTo s.wn s.nt)
theorem hangs1_any (p : Nat) (s : Stk) (x : Brk s) (w : World) (hp : PileB w p s) (hs : StkR w w.heap.size s) (hc : ∀ k, k < s.nt → s.cn k = s.cn x.1.1) :
    Calls Try.prog 103 #[.agg #[.int .i64 x.1.1, .int .i64 x.1.2], .pointer (some ⟨p, 0, none⟩)] w fun e w' => e = .returned (.bool (hangP s x.1.1 x.1.2)) ∧ Below w.heap.size w w' := by
  have hb := (Below.refl w.heap.size w).alloc (Nat.le_refl _) (.cells #[.int .i64 x.1.1, .int .i64 x.1.2] 59)
  have HC := hide (rests_any s x.1.1 x.1.2 (w.alloc (.cells #[.int .i64 x.1.1, .int .i64 x.1.2] 59)) ((hs.below hb (Nat.le_refl _)).more (by simp)) x.2.1 hc)
  have c0 := Blk.cell hp 0
  have c1 := Blk.cell hp 1
  have c2 := Blk.cell hp 2
  simp at c0 c1 c2
  have z0 := Blk.lt hp
  have HB := hide hb
  clear hs hc hp hb
  go_enter Try.func103, Try.ntmps103
  go_wp2_with fail
  refine HC.out.mono ?_
  rintro e w1 ⟨v, rfl, hown, hb1⟩
  obtain ⟨A, c, rfl⟩ := own_shape hown
  have HO := hide hown
  clear hown
  go_wp2_with fail
  go_ret
  refine ⟨?_, HB.out.trans (hb1.mono (by simp))⟩
  have e : (((restL s x.1.1 x.1.2).length : Int) == 0) = hangP s x.1.1 x.1.2 := by rw [Bool.eq_iff_iff]; simp [hangP]
  rw [← e]
  rfl
theorem hangs_any (s : Stk) (m : Nat) (w : World) (hs : StkR w w.heap.size s) (hc : ∀ k, k < s.nt → s.cn k = m) :
    Calls Try.prog 73 #[.agg #[.int .i64 s.wd, .int .i64 s.hg, .slice s.A s.nt s.cap]] w fun e w' => e = .returned (brV (hangF s)) ∧ Below w.heap.size w w' := by
  have hb := ((Below.refl w.heap.size w).alloc (Nat.le_refl _) (.cells #[.int .i64 s.wd, .int .i64 s.hg, .slice s.A s.nt s.cap] 131)).alloc (by simp) (.cells #[.int .i64 0, .int .i64 0] 59)
  have hp : PileB (w.alloc (.cells #[.int .i64 s.wd, .int .i64 s.hg, .slice s.A s.nt s.cap] 131)) w.heap.size s := Blk.new _ _ _
  have HC := hide (first_any 103 #[.pointer (some ⟨w.heap.size, 0, none⟩)] (hangP s) s ((w.alloc (.cells #[.int .i64 s.wd, .int .i64 s.hg, .slice s.A s.nt s.cap] 131)).alloc (.cells #[.int .i64 0, .int .i64 0] 59)) ((hs.below hb (Nat.le_refl _)).more (by simp only [World.size_alloc]; omega)) (enters_of Try.func103 (by kernel_rfl) rfl)
    (fun W x hW => hangs1_any w.heap.size s x W (Blk.ext (Blk.alloc hp _) hW) ((hs.below (hb.trans (hW.mono (by simp only [World.size_alloc]; omega))) (Nat.le_refl _)).more (by have := hW.size; have := hb.size; omega)) (fun k hk => by rw [hc k hk, hc _ x.2.1])))
  have HB := hide hb
  have k2 := Blk.new (w.alloc (.cells #[.int .i64 s.wd, .int .i64 s.hg, .slice s.A s.nt s.cap] 131)) 59 #[.int .i64 0, .int .i64 0]
  have K2 := hide k2
  unfold hangF
  generalize firstOf (hangP s) (bricksTo s.wn s.nt) = R at HC ⊢
  unfold brV at HC ⊢
  clear hs hc hb hp k2
  go_enter Try.func73, Try.ntmps73
  go_wp2_with fail
  refine HC.out.mono ?_
  rintro e w1 ⟨rfl, hb1⟩
  obtain ⟨g1, g2, g3, g4, g5⟩ := blk2 (K2.out.ext hb1)
  simp only [World.size_alloc] at g1 g2 g3 g4 g5
  go_wp2_with fail
  have hP := (K2.out.ext hb1).set2 (.int .i64 R.1) (.int .i64 R.2)
  simp only [World.size_alloc] at hP
  obtain ⟨f1, f2, f3, f4, f5⟩ := blk2 hP
  refine bodyPost_ret (v := .agg #[.int .i64 R.1, .int .i64 R.2]) (by simp [results, Try.results73, go_sem, *]) rfl ⟨rfl, ?_⟩
  exact set2B (HB.out.trans (hb1.mono (by simp only [World.size_alloc]; omega))) (by omega) _ _
end Go.Proofs.Ytlhekifmkkgjlaa
/- Contracts of chapter 8 on stacks: tiers, the check of a stack. -/
namespace Go.Proofs.Ytlhekifmkkgjlaa
open Go Go.RowKit Go.Shelf
set_option maxHeartbeats 1000000
theorem index_any (v : Int) (A : Option Addr) (n c : Nat) (x : Nat → Int) (w : World) (hn : n ≤ 1000000) (hR : IR w w.heap.size A n x) :
    Calls Try.prog 117 #[.slice A n c, .int .i64 v] w fun e w' => e = .returned (.int .i64 (idx (fun k => x k == v) n)) ∧ w' = w := by
  have HR := hide hR
  clear hR
  go_enter Try.func117, Try.ntmps117
  go_wp2_with fail
  go_loopw [8] (fun i wr => ∃ k : Nat, k ≤ n ∧ i = .int .i64 k ∧ Hid (idx (fun k => x k == v) k = -1) ∧ Hid (wr = w)) (fun i _ => n - (intOf i).toNat)
  case atStart => exact ⟨0, Nat.zero_le _, rfl, hide rfl, hide rfl⟩
  case round =>
    obtain ⟨k, hk, rfl, HX, HW⟩ := hrel
    obtain rfl := HW.out
    by_cases hlt : k < n
    · obtain ⟨b, off, rfl, hb, hc⟩ := HR.out.at_ hlt
      have i1 : (0 : Int) ≤ (k : Int) := by omega
      have i2 : (k : Int) < (n : Int) := by omega
      by_cases hx : x k = v
      · have h1 : (v == x k) = true := by simp [hx]
        have h2 : idx (fun k => x k == v) n = k := by
          have h3 : idx (fun k => x k == v) (k + 1) = k := by simp [idx, HX.out, hx]
          rw [idx_stable _ (k + 1) n (by rw [h3]; omega) (by omega), h3]
        have H2 := hide h2
        clear h2 hx
        go_wp2_with fail
        go_ret
        exact ⟨ret_int H2.out.symm, rfl⟩
      · have h1 : (v == x k) = false := by simp; exact fun e => hx e.symm
        have h2 : idx (fun k => x k == v) (k + 1) = -1 := by simp [idx, HX.out, hx]
        have H2 := hide h2
        clear h2 hx
        go_wp2_with fail
        go_roundw
        case rel => exact ⟨k + 1, by omega, by go_num, H2, trivial⟩
        case measure => simp [intOf]; omega
    · obtain rfl : k = n := by omega
      have i2 : ¬ (k : Int) < (k : Int) := by omega
      go_wp2_with fail
      go_ret
      exact ⟨ret_int HX.out.symm, rfl⟩
theorem contains_any (v : Int) (A : Option Addr) (n c : Nat) (x : Nat → Int) (w : World) (hn : n ≤ 1000000) (hR : IR w w.heap.size A n x) :
    Calls Try.prog 110 #[.slice A n c, .int .i64 v] w fun e w' => e = .returned (.bool (anyTo (fun k => x k == v) n)) ∧ w' = w := by
  have H := hide (index_any v A n c x w hn hR)
  rw [← idx_any]
  generalize idx (fun k => x k == v) n = R at H ⊢
  clear hR
  go_enter Try.func110, Try.ntmps110
  go_wp2_with fail
  refine H.out.mono ?_
  rintro e w1 ⟨rfl, rfl⟩
  go_wp2_with fail
  go_ret
  exact ⟨rfl, rfl⟩
/-- whether every brick of a tier has a cell -/
def allB (cn wn : Nat) (cf : Nat → Int) : Bool := !anyTo (fun i => !anyTo (fun k => cf k == (i : Int)) cn) wn
def tierB (m : Int) (cn wn : Nat) (cf wf : Nat → Int) : Bool :=
  decide ((cn : Int) = m) && (decide ((wn : Int) ≤ m) && (wiB 0 1000 wf wn && (wiB (-1) ((wn : Int) - 1) cf cn && allB cn wn cf)))
theorem isTier_any (m : Int) (ca wa : Option Addr) (cn cc wn wc : Nat) (cf wf : Nat → Int) (w : World) (h1 : cn ≤ 1000000) (h2 : wn ≤ 1000000) (hc : IR w w.heap.size ca cn cf) (hw : IR w w.heap.size wa wn wf) :
    Calls Try.prog 92 #[.agg #[.slice ca cn cc, .slice wa wn wc], .int .i64 m] w fun e w' => e = .returned (.bool (tierB m cn wn cf wf)) ∧ Below w.heap.size w w' := by
  have hb := (Below.refl w.heap.size w).alloc (Nat.le_refl _) (.cells #[.slice ca cn cc, .slice wa wn wc] 72)
  have HB := hide hb
  have HC := hide hc
  have HW := hide hw
  have K0 := hide (Blk.new w 72 #[.slice ca cn cc, .slice wa wn wc])
  have H3 := hide (fun W (hB : Below w.heap.size w W) => within_any 0 1000 wa wn wc wf W (by unfold maxLen; omega) ((HW.out.below hB (Nat.le_refl _)).more hB.size))
  have H4 := hide (fun W (hB : Below w.heap.size w W) => within_any (-1) ((wn : Int) - 1) ca cn cc cf W (by unfold maxLen; omega) ((HC.out.below hB (Nat.le_refl _)).more hB.size))
  clear hc hw hb
  unfold tierB
  by_cases g1 : (cn : Int) = m
  · subst g1
    by_cases g2 : (wn : Int) ≤ (cn : Int)
    · have g3 : ¬ (cn : Int) < (wn : Int) := by omega
      rw [decide_eq_true g2, decide_eq_true (rfl : (cn : Int) = (cn : Int)), Bool.true_and, Bool.true_and]
      rcases hv : wiB 0 1000 wf wn with _ | _
      · rw [hv] at H3
        rw [Bool.false_and]
        clear hv
        go_enter Try.func92, Try.ntmps92
        go_wp2_with fail
        refine (H3.out _ HB.out).mono ?_
        rintro e w1 ⟨rfl, hb1⟩
        go_wp2_with fail
        go_ret
        exact ⟨rfl, HB.out.trans (hb1.mono (by simp))⟩
      · rw [hv] at H3
        rw [Bool.true_and]
        clear hv
        rcases hv : wiB (-1) ((wn : Int) - 1) cf cn with _ | _
        · rw [hv] at H4
          rw [Bool.false_and]
          clear hv
          go_enter Try.func92, Try.ntmps92
          go_wp2_with fail
          refine (H3.out _ HB.out).mono ?_
          rintro e w1 ⟨rfl, hb1⟩
          have hB1 := HB.out.trans (hb1.mono (by simp))
          obtain ⟨z1, z2, z3, -, -⟩ := blk2 (K0.out.ext hb1)
          go_wp2_with fail
          refine (H4.out _ hB1).mono ?_
          rintro e w2 ⟨rfl, hb2⟩
          go_wp2_with fail
          go_ret
          exact ⟨rfl, hB1.trans (hb2.mono hB1.size)⟩
        · rw [hv] at H4
          rw [Bool.true_and]
          unfold allB
          clear hv
          go_enter Try.func92, Try.ntmps92
          go_wp2_with fail
          refine (H3.out _ HB.out).mono ?_
          rintro e w1 ⟨rfl, hb1⟩
          have hB1 := HB.out.trans (hb1.mono (by simp))
          have K1 := hide (K0.out.ext hb1)
          obtain ⟨z1, z2, z3, -, -⟩ := blk2 K1.out
          go_wp2_with fail
          refine (H4.out _ hB1).mono ?_
          rintro e w2 ⟨rfl, hb2⟩
          have hB2 := hB1.trans (hb2.mono hB1.size)
          have K2 := hide (K1.out.ext hb2)
          obtain ⟨y1, y2, y3, -, -⟩ := blk2 K2.out
          clear hb1 hb2 H3 H4 K0 K1
          go_wp2_with fail
          go_loopw [37] (fun i wr => ∃ k : Nat, k ≤ wn ∧ i = .int .i64 k ∧ Hid (anyTo (fun i => !anyTo (fun k => cf k == (i : Int)) cn) k = false) ∧ Hid (Blk wr w.heap.size 72 #[.slice ca cn cc, .slice wa wn wc]) ∧ Below w.heap.size w wr) (fun i _ => wn - (intOf i).toNat)
          case atStart => exact ⟨0, Nat.zero_le _, rfl, hide rfl, K2, hB2⟩
          case round =>
            obtain ⟨k, hk, rfl, HX, KR, hBr⟩ := hrel
            by_cases hlt : k < wn
            · have i1 : (0 : Int) ≤ (k : Int) := by omega
              have i2 : (k : Int) < (wn : Int) := by omega
              obtain ⟨x1, x2, x3, -, -⟩ := blk2 KR.out
              have HI := hide (contains_any (k : Int) ca cn cc cf wr h1 ((HC.out.below hBr (Nat.le_refl _)).more hBr.size))
              rcases hv : anyTo (fun j => cf j == (k : Int)) cn with _ | _
              · rw [hv] at HI
                have h5 : (!anyTo (fun i => !anyTo (fun k => cf k == (i : Int)) cn) wn) = false := by
                  rw [Bool.not_eq_false', anyTo_iff]
                  exact ⟨k, hlt, by rw [hv]; rfl⟩
                have H5 := hide h5.symm
                clear hv h5
                go_wp2_with fail
                refine HI.out.mono ?_
                rintro e w3 ⟨rfl, rfl⟩
                go_wp2_with fail
                go_ret
                exact ⟨ret_bool H5.out, hBr⟩
              · rw [hv] at HI
                have h5 : anyTo (fun i => !anyTo (fun k => cf k == (i : Int)) cn) (k + 1) = false := by
                  rw [show anyTo (fun i => !anyTo (fun k => cf k == (i : Int)) cn) (k + 1) = (anyTo (fun i => !anyTo (fun k => cf k == (i : Int)) cn) k || !anyTo (fun j => cf j == (k : Int)) cn) from rfl, HX.out, hv]; rfl
                have H5 := hide h5
                clear hv h5
                go_wp2_with fail
                refine HI.out.mono ?_
                rintro e w3 ⟨rfl, rfl⟩
                go_wp2_with fail
                go_roundw
                case rel => exact ⟨k + 1, by omega, by go_num, H5, KR, hBr⟩
                case measure => simp [intOf]; omega
            · obtain rfl : k = wn := by omega
              have i2 : ¬ (k : Int) < (k : Int) := by omega
              go_wp2_with fail
              go_ret
              exact ⟨ret_bool (by rw [HX.out]; rfl), hBr⟩
    · rw [decide_eq_false g2, decide_eq_true (rfl : (cn : Int) = (cn : Int)), Bool.true_and, Bool.false_and]
      have g3 : (cn : Int) < (wn : Int) := by omega
      go_enter Try.func92, Try.ntmps92
      go_wp2_with fail
      go_ret
      exact ⟨rfl, HB.out⟩
  · rw [decide_eq_false g1, Bool.false_and]
    have g3 : ((cn : Int) != m) = true := by simp [g1]
    go_enter Try.func92, Try.ntmps92
    go_wp2_with fail
    go_ret
    exact ⟨rfl, HB.out⟩
end Go.Proofs.Ytlhekifmkkgjlaa
/- Contracts of chapter 8 on stacks: the check of a stack; a pile. -/
namespace Go.Proofs.Ytlhekifmkkgjlaa
open Go Go.RowKit Go.Shelf
set_option maxHeartbeats 1000000
def dimB (s : Stk) : Bool := wiB 1 12 (fun k => if k = 0 then s.wd else s.hg) 2
theorem dimB_iff (s : Stk) : dimB s = true ↔ (1 ≤ s.wd ∧ s.wd ≤ 12) ∧ (1 ≤ s.hg ∧ s.hg ≤ 12) := by
  unfold dimB
  rw [wiB_iff]
  constructor
  · intro h; exact ⟨by simpa using h 0 (by omega), by simpa using h 1 (by omega)⟩
  · intro h k hk
    rcases (by omega : k = 0 ∨ k = 1) with rfl | rfl
    · simpa using h.1
    · simpa using h.2
def tiB (s : Stk) (k : Nat) : Bool := !tierB (s.wd * s.hg) (s.cn k) (s.wn k) (s.cf k) (s.wf k)
def stackB (s : Stk) : Bool := dimB s && (decide (s.nt ≤ 10) && !anyTo (tiB s) s.nt)
def stkE (s : Stk) : Int := if stackB s then 0 else 2
theorem stkE_no {s : Stk} (h : stackB s = false) : stkE s = 2 := by simp [stkE, h]
theorem stkE_ok {s : Stk} (h : stackB s = true) : stkE s = 0 := by simp [stkE, h]
theorem stackB_iff (s : Stk) : stackB s = true ↔ ((1 ≤ s.wd ∧ s.wd ≤ 12) ∧ (1 ≤ s.hg ∧ s.hg ≤ 12)) ∧ s.nt ≤ 10 ∧ ∀ k, k < s.nt → tierB (s.wd * s.hg) (s.cn k) (s.wn k) (s.cf k) (s.wf k) = true := by
  unfold stackB
  rw [Bool.and_eq_true, Bool.and_eq_true, dimB_iff, decide_eq_true_eq, Bool.not_eq_true', ← Bool.not_eq_true, anyTo_iff]
  constructor
  · rintro ⟨h1, h2, h3⟩
    refine ⟨h1, h2, fun k hk => ?_⟩
    rcases hb : tierB (s.wd * s.hg) (s.cn k) (s.wn k) (s.cf k) (s.wf k) with _ | _
    · exact absurd ⟨k, hk, by simp [tiB, hb]⟩ h3
    · rfl
  · rintro ⟨h1, h2, h3⟩
    refine ⟨h1, h2, ?_⟩
    rintro ⟨k, hk, h4⟩
    simp [tiB, h3 k hk] at h4
theorem check1s_any (p : Nat) (s : Stk) (k : Nat) (w : World) (hd : dimB s = true) (hp : Blk w p 55 #[.int .i64 s.wd, .int .i64 s.hg, .slice s.A s.nt s.cap]) (hs : StkR w w.heap.size s) (hk : k < s.nt) :
    Calls Try.prog 91 #[.agg #[s.u k, s.v k], .pointer (some ⟨p, 0, none⟩)] w fun e w' => e = .returned (.bool (tiB s k)) ∧ Below w.heap.size w w' := by
  have hb := (Below.refl w.heap.size w).alloc (Nat.le_refl _) (.cells #[s.u k, s.v k] 72)
  obtain ⟨m1, m2, hI, hJ⟩ := hs.2.2 k hk
  have HC := hide (isTier_any (s.wd * s.hg) (s.ca k) (s.wa k) (s.cn k) (s.cc k) (s.wn k) (s.wc k) (s.cf k) (s.wf k) (w.alloc (.cells #[s.u k, s.v k] 72)) m1 m2 ((hI.below hb (Nat.le_refl _)).more (by simp)) ((hJ.below hb (Nat.le_refl _)).more (by simp)))
  have HT : tiB s k = !tierB (s.wd * s.hg) (s.cn k) (s.wn k) (s.cf k) (s.wf k) := rfl
  rw [HT]
  clear HT
  generalize tierB (s.wd * s.hg) (s.cn k) (s.wn k) (s.cf k) (s.wf k) = R at HC ⊢
  have c0 := Blk.cell hp 0
  have c1 := Blk.cell hp 1
  simp at c0 c1
  have z0 := Blk.lt hp
  rw [dimB_iff] at hd
  have mb := mul_bd (a := s.wd) (b := s.hg) (M := 12) (N := 12) (by omega) (by omega) (by omega) (by omega)
  have HB := hide hb
  unfold Stk.u Stk.v at *
  clear hs hp hb hI hJ
  have w1 : IntKind.i64.wrap (s.wd * s.hg) = s.wd * s.hg := IntWalk.i64_in _ (by omega)
  go_enter Try.func91, Try.ntmps91
  go_wp2_with fail
  refine HC.out.mono ?_
  rintro e w1 ⟨rfl, hb1⟩
  go_wp2_with fail
  go_ret
  exact ⟨rfl, HB.out.trans (hb1.mono (by simp))⟩
theorem CheckStack_any (s : Stk) (w : World) (hs : StkR w w.heap.size s) :
    Calls Try.prog 45 #[.agg #[.int .i64 s.wd, .int .i64 s.hg, .slice s.A s.nt s.cap]] w fun e w' => e = .returned (.int .i64 (stkE s)) ∧ Below w.heap.size w w' := by
  have hb := ((Below.refl w.heap.size w).alloc (Nat.le_refl _) (.cells #[.int .i64 s.wd, .int .i64 s.hg, .slice s.A s.nt s.cap] 55)).alloc (by simp) (.cells #[.int .i64 s.wd, .int .i64 s.hg] 3)
  have hI : IR ((w.alloc (.cells #[.int .i64 s.wd, .int .i64 s.hg, .slice s.A s.nt s.cap] 55)).alloc (.cells #[.int .i64 s.wd, .int .i64 s.hg] 3)) ((w.alloc (.cells #[.int .i64 s.wd, .int .i64 s.hg, .slice s.A s.nt s.cap] 55)).alloc (.cells #[.int .i64 s.wd, .int .i64 s.hg] 3)).heap.size (some ⟨(w.alloc (.cells #[.int .i64 s.wd, .int .i64 s.hg, .slice s.A s.nt s.cap] 55)).heap.size, 0, none⟩) 2 (fun k => if k = 0 then s.wd else s.hg) := by
    simpa using IR.two (w.alloc (.cells #[.int .i64 s.wd, .int .i64 s.hg, .slice s.A s.nt s.cap] 55)) s.wd s.hg 3
  have HC := hide (within_any 1 12 _ 2 2 _ _ (by decide) hI)
  have hD : wiB 1 12 (fun k => if k = 0 then s.wd else s.hg) 2 = dimB s := rfl
  rw [hD, World.size_alloc] at HC
  clear hI hD
  have hp : Blk ((w.alloc (.cells #[.int .i64 s.wd, .int .i64 s.hg, .slice s.A s.nt s.cap] 55)).alloc (.cells #[.int .i64 s.wd, .int .i64 s.hg] 3)) w.heap.size 55 #[.int .i64 s.wd, .int .i64 s.hg, .slice s.A s.nt s.cap] := (Blk.new _ _ _).alloc _
  have HP := hide hp
  have HB := hide hb
  have HS := hide hs
  have hn1 := hs.1
  clear hs hp hb
  rcases hd : dimB s with _ | _
  · rw [hd] at HC
    have HE := hide (stkE_no (s := s) (by unfold stackB; rw [hd]; rfl)).symm
    clear hd
    go_enter Try.func45, Try.ntmps45
    go_wp2_with fail
    refine HC.out.mono ?_
    rintro e w1 ⟨rfl, hb1⟩
    go_wp2_with fail
    go_ret
    exact ⟨ret_int HE.out, HB.out.trans (hb1.mono (by simp only [World.size_alloc]; omega))⟩
  · rw [hd] at HC
    by_cases hn : s.nt ≤ 10
    · have i1 : ¬ (10 : Int) < (s.nt : Int) := by omega
      have HT := hide (fun W (hB : Below w.heap.size w W) (hP : Blk W w.heap.size 55 #[.int .i64 s.wd, .int .i64 s.hg, .slice s.A s.nt s.cap]) => containsFunc_tier 91 #[.pointer (some ⟨w.heap.size, 0, none⟩)] (tiB s) s.A s.nt s.cap s.u s.v W (by unfold maxLen; omega) ((HS.out.2.1.below hB (Nat.le_refl _)).more hB.size)
        (enters_of Try.func91 (by kernel_rfl) rfl) (fun W' k hk hW => check1s_any w.heap.size s k W' hd (Blk.ext hP hW) ((HS.out.below (hB.trans (hW.mono hB.size)) (Nat.le_refl _)).more (by have := hW.size; have := hB.size; omega)) hk))
      have HE : stkE s = if anyTo (tiB s) s.nt then 2 else 0 := by
        unfold stkE stackB
        rw [hd, decide_eq_true hn]
        cases anyTo (tiB s) s.nt <;> rfl
      have HE2 := hide HE
      clear HE hd
      rcases ha : anyTo (tiB s) s.nt with _ | _
      · rw [ha] at HT HE2
        clear ha
        go_enter Try.func45, Try.ntmps45
        go_wp2_with fail
        refine HC.out.mono ?_
        rintro e w1 ⟨rfl, hb1⟩
        have K1 := hide (HP.out.ext hb1)
        have hB1 := HB.out.trans (hb1.mono (by simp only [World.size_alloc]; omega))
        have c2 := Blk.cell K1.out 2
        simp at c2
        have z0 := Blk.lt K1.out
        go_wp2_with fail
        refine (HT.out _ hB1 K1.out).mono ?_
        rintro e w2 ⟨rfl, hb2⟩
        go_wp2_with fail
        go_ret
        exact ⟨ret_int HE2.out.symm, hB1.trans (hb2.mono hB1.size)⟩
      · rw [ha] at HT HE2
        clear ha
        go_enter Try.func45, Try.ntmps45
        go_wp2_with fail
        refine HC.out.mono ?_
        rintro e w1 ⟨rfl, hb1⟩
        have K1 := hide (HP.out.ext hb1)
        have hB1 := HB.out.trans (hb1.mono (by simp only [World.size_alloc]; omega))
        have c2 := Blk.cell K1.out 2
        simp at c2
        have z0 := Blk.lt K1.out
        go_wp2_with fail
        refine (HT.out _ hB1 K1.out).mono ?_
        rintro e w2 ⟨rfl, hb2⟩
        go_wp2_with fail
        go_ret
        exact ⟨ret_int HE2.out.symm, hB1.trans (hb2.mono hB1.size)⟩
    · have i1 : (10 : Int) < (s.nt : Int) := by omega
      have HE := hide (stkE_no (s := s) (by unfold stackB; rw [decide_eq_false hn]; simp)).symm
      clear hd
      go_enter Try.func45, Try.ntmps45
      go_wp2_with fail
      refine HC.out.mono ?_
      rintro e w1 ⟨rfl, hb1⟩
      have K1 := hide (HP.out.ext hb1)
      have c2 := Blk.cell K1.out 2
      simp at c2
      have z0 := Blk.lt K1.out
      go_wp2_with fail
      go_ret
      exact ⟨ret_int HE.out, HB.out.trans (hb1.mono (by simp only [World.size_alloc]; omega))⟩
theorem blk3 {W : World} {g : Nat} {t : TypeId} {a b c : Value} (h : Blk W g t #[a, b, c]) :
    g < W.heap.size ∧ W.cell? ⟨g, 0, none⟩ = some a ∧ W.cell? ⟨g, 1, none⟩ = some b ∧ W.cell? ⟨g, 2, none⟩ = some c ∧ W.frozen? ⟨g, 0, none⟩ = false ∧ W.frozen? ⟨g, 1, none⟩ = false ∧ W.frozen? ⟨g, 2, none⟩ = false :=
  ⟨h.lt, by rw [h.cell]; rfl, by rw [h.cell]; rfl, by rw [h.cell]; rfl, h.frozen _, h.frozen _, h.frozen _⟩
theorem Blk.set3 {w : World} {g : Nat} {t : TypeId} {a b c : Value} (h : Blk w g t #[a, b, c]) (u v x : Value) : Blk (((w.setCell ⟨g, 0, none⟩ u).setCell ⟨g, 1, none⟩ v).setCell ⟨g, 2, none⟩ x) g t #[u, v, x] := by
  simpa using ((h.set_ 0 u).set_ 1 v).set_ 2 x
theorem set3B {B : Nat} {a w : World} (h : Below B a w) {g : Nat} (hg : B ≤ g) (u v x : Value) : Below B a (((w.setCell ⟨g, 0, none⟩ u).setCell ⟨g, 1, none⟩ v).setCell ⟨g, 2, none⟩ x) :=
  (set2B h hg u v).setCell (p := ⟨g, 2, none⟩) hg x
theorem newPile_any (s : Stk) (w : World) (hs : StkR w w.heap.size s) :
    Calls Try.prog 66 #[.agg #[.int .i64 s.wd, .int .i64 s.hg, .slice s.A s.nt s.cap]] w fun e w' => e = .returned (.tuple #[.agg #[.int .i64 s.wd, .int .i64 s.hg, .slice s.A s.nt s.cap], .int .i64 (stkE s)]) ∧ Below w.heap.size w w' := by
  have HS := hide hs
  clear hs
  have HC := hide (fun W (hB : Below w.heap.size w W) => CheckStack_any s W ((HS.out.below hB (Nat.le_refl _)).more hB.size))
  generalize stkE s = E at HC ⊢
  have hB : Below w.heap.size w ((w.alloc (.cells #[.int .i64 s.wd, .int .i64 s.hg, .slice s.A s.nt s.cap] 55)).alloc (.cells #[.int .i64 0, .int .i64 0, .slice none 0 0] 131)) := ((Below.refl _ _).alloc (Nat.le_refl _) _).alloc (by simp) _
  have h1 : Blk ((w.alloc (.cells #[.int .i64 s.wd, .int .i64 s.hg, .slice s.A s.nt s.cap] 55)).alloc (.cells #[.int .i64 0, .int .i64 0, .slice none 0 0] 131)) w.heap.size 55 #[.int .i64 s.wd, .int .i64 s.hg, .slice s.A s.nt s.cap] := (Blk.new w _ _).alloc _
  have h2 : Blk ((w.alloc (.cells #[.int .i64 s.wd, .int .i64 s.hg, .slice s.A s.nt s.cap] 55)).alloc (.cells #[.int .i64 0, .int .i64 0, .slice none 0 0] 131)) (w.heap.size + 1) 131 #[.int .i64 0, .int .i64 0, .slice none 0 0] := by simpa using Blk.new (w.alloc (.cells #[.int .i64 s.wd, .int .i64 s.hg, .slice s.A s.nt s.cap] 55)) 131 #[.int .i64 0, .int .i64 0, .slice none 0 0]
  have H0 := hide hB
  have H1 := hide h1
  have H2 := hide h2
  have hz : ((w.alloc (.cells #[.int .i64 s.wd, .int .i64 s.hg, .slice s.A s.nt s.cap] 55)).alloc (.cells #[.int .i64 0, .int .i64 0, .slice none 0 0] 131)).heap.size = w.heap.size + 2 := by simp
  have HZ := hide hz
  clear hB h1 h2 hz
  go_enter Try.func66, Try.ntmps66
  go_wp2_with fail
  generalize ((w.alloc (.cells #[.int .i64 s.wd, .int .i64 s.hg, .slice s.A s.nt s.cap] 55)).alloc (.cells #[.int .i64 0, .int .i64 0, .slice none 0 0] 131)) = W0 at H0 H1 H2 HZ ⊢
  obtain ⟨a0, a1, a2, a3, -, -, -⟩ := blk3 H1.out
  have z0 := HZ.out
  go_region_held3 (fun W => W.cell? ⟨w.heap.size, 0, none⟩ = some (.int .i64 s.wd) ∧ W.cell? ⟨w.heap.size, 1, none⟩ = some (.int .i64 s.hg) ∧ W.cell? ⟨w.heap.size, 2, none⟩ = some (.slice s.A s.nt s.cap)) (first | go_keep | exact ⟨(hb3.cell (p := ⟨w.heap.size, 0, none⟩) a0).trans a1, (hb3.cell (p := ⟨w.heap.size, 1, none⟩) a0).trans a2, (hb3.cell (p := ⟨w.heap.size, 2, none⟩) a0).trans a3⟩) ((go_at_call 45; refine (HC.out _ ?_).mono ?_; (exact Below_dN H0.out _); rintro e w3 ⟨rfl, hb3⟩; have K3 := hide ((H2.out.drewN _).ext hb3); obtain ⟨b0, b1, b2, b3, b4, b5, b6⟩ := blk3 K3.out))
  obtain ⟨f0, f1, f2, f3, -, -, -⟩ := blk3 (K3.out.set3 (.int .i64 s.wd) (.int .i64 s.hg) (.slice s.A s.nt s.cap))
  have hB3 := set3B (B := w.heap.size) (H0.out.trans (((Below.refl W0.heap.size W0).trans (show Below W0.heap.size W0 w3 from ⟨hb3.os, hb3.tape, hb3.output, hb3.size, fun k hk => hb3.block k (by simpa using hk)⟩)).mono (by omega))) (show w.heap.size ≤ w.heap.size + 1 by omega) (.int .i64 s.wd) (.int .i64 s.hg) (.slice s.A s.nt s.cap)
  go_wp2_with fail
  refine bodyPost_ret (v := .tuple #[.agg #[.int .i64 s.wd, .int .i64 s.hg, .slice s.A s.nt s.cap], .int .i64 E]) (by simp [results, Try.results66, go_sem, f1, f2, f3]) rfl ⟨rfl, hB3⟩
end Go.Proofs.Ytlhekifmkkgjlaa
/- Contracts of chapter 8 on stacks: tiers from the top. -/
namespace Go.Proofs.Ytlhekifmkkgjlaa
open Go Go.RowKit Go.Shelf
attribute [local go_sem] Oper.semAt_some
set_option maxHeartbeats 1000000
/-- the numbers below n, from the top down to r -/
def backTo (n r : Nat) : List Nat := (List.range (n - r)).map fun i => n - 1 - i
theorem backTo_top (n : Nat) : backTo n n = [] := by simp [backTo]
theorem backTo_succ {n r : Nat} (h : r < n) : backTo n r = backTo n (r + 1) ++ [r] := by
  unfold backTo
  rw [show n - r = (n - (r + 1)) + 1 by omega, List.range_succ, List.map_append]
  simp
  omega
theorem backTo_len (n r : Nat) : (backTo n r).length = n - r := by simp [backTo]
theorem backTo_prefix (n : Nat) {r : Nat} (h : r ≤ n) : backTo n r <+: backTo n 0 := by
  induction r with
  | zero => exact List.prefix_refl _
  | succ r ih =>
    refine List.IsPrefix.trans ?_ (ih (by omega))
    rw [backTo_succ (show r < n by omega)]
    exact List.prefix_append _ _
abbrev Tie (s : Stk) := { k : Nat // k < s.nt }
theorem back1_in (F : Fence) (n : Nat) (hF : ∀ f, F.fn f) (hro : F.round = none) (hn : 1 ≤ n) (l q n0 : Nat) (s : Stk) (J Jx : List (Tie s) → World → Prop) (W : World)
    (hq : Blk W q 53 #[.slice s.A s.nt s.cap]) (hs : StkR W n0 s)
    (hY : ∀ pre (x : Tie s) W, J pre W → pre.length < s.nt → YieldAt F (n - 1) Try.prog l #[.int .i64 x.1, .agg #[s.u x.1, s.v x.1]] W fun e W' =>
      (e = .returned (.bool true) ∧ J (pre ++ [x]) W' ∧ KpB n0 q W W') ∨ (e = .returned (.bool false) ∧ Jx (pre ++ [x]) W')) (h0 : J [] W) :
    CallsIn F n Try.prog 116 #[.func (.yield l) #[] #[], .pointer (some ⟨q, 0, none⟩)] W fun e W' => (∃ v, e = .returned v) ∧
      ((∃ ys : List (Tie s), ys.map (·.1) = backTo s.nt 0 ∧ J ys W') ∨ (∃ pre : List (Tie s), pre.map (·.1) <+: backTo s.nt 0 ∧ Jx pre W')) := by
  obtain ⟨g1, g2, g3⟩ := blk1 hq
  have HYY := hide hY
  have H0 := hide h0
  have HS := hide hs
  have HQ := hide hq
  have hnt := hs.1
  clear hY h0 hs hq
  refine callsIn_of_wp Try.func116 rfl (hF _) ?_ hro
  simp only [Try.ntmps116, List.size_toArray, List.length_cons, List.length_nil, Nat.reduceAdd, Nat.reduceSub, Array.replicate_succ, Array.replicate_zero, List.push_toArray, List.append_toArray, List.nil_append, List.cons_append]
  gi_wp2_with fail
  gi_loopw [3] (fun i wr => ∃ (v : Int) (r : Nat) (ys : List (Tie s)), i = .int .i64 v ∧ v = (r : Int) - 1 ∧ r ≤ s.nt ∧ Hid (ys.map (·.1) = backTo s.nt r ∧ J ys wr) ∧ KpB n0 q W wr) (fun i _ => (intOf i + 1).toNat)
  case atStart => exact ⟨_, s.nt, [], rfl, rfl, Nat.le_refl _, hide ⟨by rw [backTo_top]; rfl, H0.out⟩, KpB.refl _ _ _⟩
  case round =>
    obtain ⟨v, r, ys, rfl, hv, hr, hJs, hnx⟩ := hrel
    rcases Nat.eq_zero_or_pos r with rfl | hpos
    · obtain rfl : v = -1 := by omega
      clear hv
      gi_wp2_with fail
      go_end0
      exact ⟨⟨_, rfl⟩, .inl ⟨ys, hJs.out.1, hJs.out.2⟩⟩
    · obtain ⟨k, rfl⟩ : ∃ k, r = k + 1 := ⟨r - 1, by omega⟩
      obtain rfl : v = (k : Int) := by omega
      clear hv
      obtain ⟨tb, toff, hA, htb, hu, hv2⟩ := (HS.out.below hnx.1 (Nat.le_refl _)).2.1.at_ (show k < s.nt by omega)
      obtain ⟨c0, c1, c2⟩ := blk1 (hnx.blk HQ.out)
      rw [hA] at c1
      have i1 : (0 : Int) ≤ (k : Int) := by omega
      have i2 : (k : Int) < (s.nt : Int) := by omega
      obtain ⟨fn, tmps, assign, body, hy, hR⟩ := HYY.out ys ⟨k, by omega⟩ wr hJs.out.2 (by
        have h1 := congrArg List.length hJs.out.1
        rw [List.length_map, backTo_len] at h1
        omega)
      dsimp only at hy
      have HR := hide hR
      clear hR hA
      unfold Stk.u at hu hy
      unfold Stk.v at hv2 hy
      gi_wp2_with fail
      refine HR.out.mono ?_
      rintro e W3 (⟨rfl, hJ3, hk3⟩ | ⟨rfl, hJx3⟩)
      · have HJ3 := hide hJ3
        clear hJ3
        gi_wp2_with fail
        go_roundw
        case rel => exact ⟨_, k, ys ++ [⟨k, by omega⟩], rfl, by omega, by omega, hide ⟨by rw [backTo_succ (show k < s.nt by omega), List.map_append, hJs.out.1]; rfl, HJ3.out⟩, hnx.trans hk3⟩
        case measure => simp [intOf]
      · have HJ3 := hide hJx3
        clear hJx3
        gi_wp2_with fail
        refine bodyPost_ret (results_none rfl _ _ _) rfl ?_
        exact ⟨⟨_, rfl⟩, .inr ⟨_, by
          rw [List.map_append, hJs.out.1]
          have h9 := backTo_prefix s.nt (r := k) (by omega)
          rw [backTo_succ (show k < s.nt by omega)] at h9
          exact h9, HJ3.out⟩⟩
theorem back_any (A : Option Addr) (n c : Nat) (w : World) :
    Calls Try.prog 106 #[.slice A n c] w fun e w' => e = .returned (.func (.func 116) #[] #[.pointer (some ⟨w.heap.size, 0, none⟩)]) ∧ w.alloc (.cells #[.slice A n c] 53) = w' := by
  go_enter Try.func106, Try.ntmps106
  go_wp2_with fail
  go_ret
  exact ⟨rfl, rfl⟩
theorem back_stops (F : Fence) (n : Nat) (hF : ∀ f, F.fn f) (hro : F.round = none) (hn : 1 ≤ n) (q n0 : Nat) (s : Stk) (w : World) (hq : Blk w q 53 #[.slice s.A s.nt s.cap]) (hn0 : n0 ≤ w.heap.size) (hs : StkR w n0 s) :
    SeqStopsK F n Try.prog 116 #[.pointer (some ⟨q, 0, none⟩)] (fun x : Tie s => #[.int .i64 x.1, .agg #[s.u x.1, s.v x.1]]) (KpB n0 q) (fun ys => ys.map (·.1) = backTo s.nt 0) (fun pre => pre.map (·.1) <+: backTo s.nt 0) s.nt w := fun l J Jx W hW _ _ hY h0 =>
  back1_in F n hF hro hn l q n0 s J Jx W (hq.ext hW) (hs.below (hW.mono hn0) (Nat.le_refl _)) hY h0
end Go.Proofs.Ytlhekifmkkgjlaa
/- The rows of loads that a pile's walk keeps: what they hold, and that they lie apart. -/
namespace Go.Proofs.Ytlhekifmkkgjlaa
open Go Go.RowKit Go.Shelf
set_option maxHeartbeats 1000000
def cellsL (l : List (Nat × Nat)) : List Value := l.flatMap fun x => [.int .i64 x.1, .int .i64 x.2]
theorem cellsL_nil : cellsL [] = [] := rfl
theorem cellsL_cons (x : Nat × Nat) (l : List (Nat × Nat)) : cellsL (x :: l) = .int .i64 x.1 :: .int .i64 x.2 :: cellsL l := rfl
theorem cellsL_append (l m : List (Nat × Nat)) : cellsL (l ++ m) = cellsL l ++ cellsL m := by simp [cellsL, List.flatMap_append]
theorem cellsL_len (l : List (Nat × Nat)) : (cellsL l).length = l.length * 2 := by
  induction l with
  | nil => rfl
  | cons x l ih => rw [cellsL_cons]; simp [ih]; omega
theorem cellsL_get (l : List (Nat × Nat)) (c : Nat) (h : c < l.length) : (cellsL l)[c * 2]? = some (.int .i64 (l.getD c (0, 1)).1) ∧ (cellsL l)[c * 2 + 1]? = some (.int .i64 (l.getD c (0, 1)).2) := by
  induction l generalizing c with
  | nil => simp at h
  | cons x l ih =>
    rw [cellsL_cons]
    cases c with
    | zero => simp
    | succ c =>
      have := ih c (by simpa using h)
      rw [show (c + 1) * 2 = c * 2 + 1 + 1 by omega]
      simpa using this
theorem cellsL_set (l : List (Nat × Nat)) (c : Nat) (x : Nat × Nat) : cellsL (l.set c x) = ((cellsL l).set (c * 2) (.int .i64 x.1)).set (c * 2 + 1) (.int .i64 x.2) := by
  induction l generalizing c with
  | nil => simp [cellsL_nil]
  | cons y l ih =>
    cases c with
    | zero => simp [cellsL_cons]
    | succ c =>
      rw [List.set_cons_succ, cellsL_cons, cellsL_cons, ih, show (c + 1) * 2 = c * 2 + 1 + 1 by omega]
      simp
theorem cellsL_one (l : List (Nat × Nat)) : ∀ u ∈ cellsL l, u.oneCell' = true := by
  induction l with
  | nil => simp [cellsL_nil]
  | cons x l ih =>
    rw [cellsL_cons]
    intro u hu
    simp at hu
    rcases hu with rfl | rfl | hu
    · rfl
    · rfl
    · exact ih u hu
/-- a slice of loads that owns its row -/
def OwnL (W : World) (n0 : Nat) (v : Value) (l : List (Nat × Nat)) : Prop := W.ownsRow n0 76 2 v l.length (cellsL l)
theorem OwnL.nil (W : World) (n0 : Nat) : OwnL W n0 (.slice none 0 0) [] := ⟨rfl, .inl ⟨rfl, rfl⟩⟩
theorem OwnL.shape {W : World} {n0 : Nat} {v : Value} {l : List (Nat × Nat)} (h : OwnL W n0 v l) : ∃ A c, v = .slice A l.length c := own_shape h
theorem OwnL.lt {W : World} {n0 g : Nat} {v : Value} {l : List (Nat × Nat)} (h : OwnL W n0 v l) (hv : v.ownBlock = some g) : n0 ≤ g ∧ g < W.heap.size := World.ownsRow.lt h g hv
theorem OwnL.at_ {W : World} {n0 : Nat} {v : Value} {l : List (Nat × Nat)} (h : OwnL W n0 v l) {c : Nat} (hc : c < l.length) :
    ∃ g cap, v = .slice (some ⟨g, 0, none⟩) l.length cap ∧ v.ownBlock = some g ∧ g < W.heap.size ∧ W.cell? ⟨g, c * 2, none⟩ = some (.int .i64 (l.getD c (0, 1)).1) ∧ W.cell? ⟨g, c * 2 + 1, none⟩ = some (.int .i64 (l.getD c (0, 1)).2) ∧
      W.frozen? ⟨g, c * 2, none⟩ = false ∧ W.frozen? ⟨g, c * 2 + 1, none⟩ = false := by
  obtain ⟨h1, h2⟩ := h
  rcases h2 with ⟨-, h0⟩ | ⟨g, cap, cur, rfl, hb, hg, hn, hm, hs, ht⟩
  · omega
  · have hB : Blk W g 76 cur := hg
    have hget : ∀ j u, j < l.length * 2 → (cellsL l)[j]? = some u → W.cell? ⟨g, j, none⟩ = some u := by
      intro j u hj hu
      rw [hB.cell, ← Array.getElem?_toList]
      rw [← ht, List.getElem?_take_of_lt hj] at hu
      exact hu
    obtain ⟨g1, g2⟩ := cellsL_get l c hc
    exact ⟨g, cap, rfl, rfl, hB.lt, hget _ _ (by omega) g1, hget _ _ (by omega) g2, hB.frozen _, hB.frozen _⟩
theorem OwnL.kept {W W' : World} {n0 : Nat} {v : Value} {l : List (Nat × Nat)} (h : OwnL W n0 v l) {row : Option Nat} (hg : W.grownBy W' row) (hr : ∀ g, row = some g → v.ownBlock ≠ some g) : OwnL W' n0 v l := by
  refine World.ownsRow.kept h hg ?_
  cases hv : v.ownBlock with
  | none => exact .inl rfl
  | some b => exact .inr (fun e => hr b e.symm hv)
theorem OwnL.set {W : World} {n0 g c cap : Nat} {l : List (Nat × Nat)} (h : OwnL W n0 (.slice (some ⟨g, 0, none⟩) l.length cap) l) (x : Nat × Nat) (hc : c < l.length) :
    OwnL ((W.setCell ⟨g, c * 2, none⟩ (.int .i64 x.1)).setCell ⟨g, c * 2 + 1, none⟩ (.int .i64 x.2)) n0 (.slice (some ⟨g, 0, none⟩) l.length cap) (l.set c x) := by
  obtain ⟨h1, h2⟩ := h
  rcases h2 with ⟨h2, -⟩ | ⟨g', cap', cur, hv, hb, hg, hn, hm, hs, ht⟩
  · cases h2
  · cases hv
    have hB : Blk W g 76 cur := hg
    have hB2 := (hB.set_ (c * 2) (.int .i64 x.1)).set_ (c * 2 + 1) (.int .i64 x.2)
    refine ⟨by rw [cellsL_len], .inr ⟨g, cap, _, by rw [List.length_set], hb, hB2, by rw [List.length_set]; exact hn, hm, by simpa using hs, ?_⟩⟩
    rw [cellsL_set, ← ht, List.length_set]
    simp only [Array.toList_setIfInBounds, List.take_set]
def upd {α : Type} (v : Nat → α) (t : Nat) (x : α) : Nat → α := fun k => if k = t then x else v k
theorem upd_same {α : Type} (v : Nat → α) (t : Nat) (x : α) : upd v t x t = x := by simp [upd]
theorem upd_ne {α : Type} (v : Nat → α) {t k : Nat} (x : α) (h : k ≠ t) : upd v t x k = v k := by simp [upd, h]
theorem OwnL.other {W : World} {n0 : Nat} {v : Value} {l : List (Nat × Nat)} {g : Nat} {t : TypeId} {cs : Array Value} (h : OwnL W n0 v l) (hB : Blk W g t cs) (hne : 76 ≠ t) : v.ownBlock ≠ some g := own_blk_ne h hB hne
theorem grown_none {W W' : World} (hb : Below W.heap.size W W') : W.grownBy W' none := ⟨hb.os, hb.tape, hb.output, hb.size, fun k hk _ => hb.block k hk⟩
def rowV (n : Nat) (v : Nat → Value) : Array Value := ((List.range n).map v).toArray
theorem rowV_get (n : Nat) (v : Nat → Value) {k : Nat} (h : k < n) : (rowV n v)[k]? = some (v k) := by simp [rowV, h]
theorem rowV_set (n : Nat) (v : Nat → Value) (t : Nat) (x : Value) : (rowV n v).setIfInBounds t x = rowV n (upd v t x) := by
  apply Array.ext_getElem?
  intro k
  simp only [rowV, List.setIfInBounds_toArray, List.getElem?_toArray, List.getElem?_set, List.getElem?_map, List.length_map, List.length_range]
  by_cases hk : k < n
  · by_cases e : t = k
    · subst e; simp [hk, upd]
    · have e2 : ¬ k = t := fun h => e h.symm
      simp [hk, e, e2, upd]
  · by_cases e : t = k
    · subst e; simp [hk]
    · simp [hk, e]
theorem rowV_same (n : Nat) (v v' : Nat → Value) (h : ∀ k, k < n → v k = v' k) : rowV n v = rowV n v' := by
  unfold rowV
  congr 1
  exact List.map_congr_left (fun k hk => h k (by simpa using hk))
/-- the boxes and rows of a pile's walk: z: the heap's size before it; rows below nt: the tiers' loads; row nt: the loads on the floor; row nt + 1: those on the next floor -/
structure LI (w W : World) (z b6 qb : Nat) (s : Stk) (N : Nat) (v : Nat → Value) (L : Nat → List (Nat × Nat)) (ok : Bool) (r : Nat → Value) (o : Value) : Prop where
  below : Below z w W
  pile : PileB W z s
  outb : Blk W (z + 1) 64 #[.slice (some ⟨z + 3, 0, none⟩) s.nt s.nt]
  sc : Blk W (z + 1 + 1) 176 #[.bool (!ok)]
  row : Blk W (z + 3) 65 (rowV s.nt r)
  onb : Blk W b6 65 #[o]
  qbx : Blk W qb 53 #[.slice s.A s.nt s.cap]
  own : ∀ k, k < N → OwnL W z (v k) (L k)
  sep : ∀ j k g, j < N → k < N → j ≠ k → (v j).ownBlock = some g → (v k).ownBlock ≠ some g
  okl : ∀ k, k < N → ∀ x ∈ L k, LdOk x
  hb : z + 3 < b6 ∧ b6 < qb
/-- a block that is none of these -/
def Far (z b6 qb N : Nat) (v : Nat → Value) (g : Nat) : Prop := z + 3 < g ∧ g ≠ b6 ∧ g ≠ qb ∧ ∀ k, k < N → (v k).ownBlock ≠ some g
theorem grownBy_setC (W : World) (b i : Nat) (v : Value) : W.grownBy (W.setCell ⟨b, i, none⟩ v) (some b) :=
  ⟨rfl, rfl, rfl, by rw [size_set]; exact Nat.le_refl _, fun k _ hk => Below.heap_setCell _ _ _ k (fun e => hk (by rw [e]))⟩
theorem upd_self {α : Type} (v : Nat → α) (t : Nat) : upd v t (v t) = v := by
  funext k
  unfold upd
  split
  · rename_i e; rw [e]
  · rfl
section
variable {w W W' : World} {z b6 qb N : Nat} {s : Stk} {v : Nat → Value} {L : Nat → List (Nat × Nat)} {ok : Bool} {r : Nat → Value} {o : Value}
theorem LI.kept (h : LI w W z b6 qb s N v L ok r o) {row : Option Nat} (hg : W.grownBy W' row) (hr : ∀ g, row = some g → Far z b6 qb N v g) : LI w W' z b6 qb s N v L ok r o := by
  have hh := h.hb
  have hne : ∀ k, k = z ∨ k = z + 1 ∨ k = z + 2 ∨ k = z + 3 ∨ k = b6 ∨ k = qb → some k ≠ row := by
    intro k hk e
    obtain ⟨f1, f2, f3, -⟩ := hr k e.symm
    omega
  refine ⟨?_, Blk.grown h.pile hg (hne _ (by omega)), h.outb.grown hg (hne _ (by omega)), h.sc.grown hg (hne _ (by omega)), h.row.grown hg (hne _ (by omega)), h.onb.grown hg (hne _ (by omega)), h.qbx.grown hg (hne _ (by omega)), ?_, h.sep, h.okl, h.hb⟩
  · refine h.below.trans ⟨hg.os, hg.tape, hg.output, hg.size, fun k hk => hg.block k (by have := Blk.lt h.pile; omega) (fun e => ?_)⟩
    have := (hr k e.symm).1; omega
  · intro k hk
    exact (h.own k hk).kept hg (fun g e => (hr g e).2.2.2 k hk)
theorem LI.ext (h : LI w W z b6 qb s N v L ok r o) (hb : Below W.heap.size W W') : LI w W' z b6 qb s N v L ok r o := h.kept (grown_none hb) (fun _ e => by cases e)
theorem LI.far (h : LI w W z b6 qb s N v L ok r o) {g : Nat} (hg : W.heap.size ≤ g) : Far z b6 qb N v g := by
  have h1 := h.row.lt
  have h2 := h.onb.lt
  have h3 := h.qbx.lt
  exact ⟨by omega, by omega, by omega, fun k hk e => by have := ((h.own k hk).lt e).2; omega⟩
theorem LI.typed (h : LI w W z b6 qb s N v L ok r o) {g : Nat} {t : TypeId} {cs : Array Value} (hB : Blk W g t cs) (hz : z + 3 < g) (h1 : t ≠ 65) (h2 : t ≠ 53) (h3 : t ≠ 76) : Far z b6 qb N v g :=
  ⟨hz, hB.ne_ h.onb h1, hB.ne_ h.qbx h2, fun k hk => (h.own k hk).other hB h3.symm⟩
theorem LI.set (h : LI w W z b6 qb s N v L ok r o) {g : Nat} (hf : Far z b6 qb N v g) (i : Nat) (u : Value) : LI w (W.setCell ⟨g, i, none⟩ u) z b6 qb s N v L ok r o :=
  h.kept (row := some g) (grownBy_setC W g i u) (fun g' e => by cases e; exact hf)
/-- the scale -/
theorem LI.scale (h : LI w W z b6 qb s N v L ok r o) (k : Bool) : LI w (offW W (z + 1 + 1) k) z b6 qb s N v L (ok && k) r o := by
  have hh := h.hb
  cases k with
  | true => rw [Bool.and_true]; exact h
  | false =>
    have hg := grownBy_setC W (z + 1 + 1) 0 (.bool true)
    refine ⟨h.below.setCell (p := ⟨z + 1 + 1, 0, none⟩) (by simp only []; omega) _, Blk.far h.pile (p := ⟨z + 1 + 1, 0, none⟩) (by simp only []; omega) _, h.outb.far (p := ⟨z + 1 + 1, 0, none⟩) (by simp only []; omega) _, ?_, h.row.far (p := ⟨z + 1 + 1, 0, none⟩) (by simp only []; omega) _, h.onb.far (p := ⟨z + 1 + 1, 0, none⟩) (by simp only []; omega) _, h.qbx.far (p := ⟨z + 1 + 1, 0, none⟩) (by simp only []; omega) _, ?_, h.sep, h.okl, h.hb⟩
    · show Blk (W.setCell ⟨z + 1 + 1, 0, none⟩ (.bool true)) (z + 1 + 1) 176 #[.bool (!(ok && false))]
      simpa using h.sc.set_ 0 (.bool true)
    · intro k hk
      exact (h.own k hk).kept hg (fun g e => by cases e; exact (h.own k hk).other h.sc (by decide))
theorem LI.scaled (h : LI w W z b6 qb s N v L ok r o) (k : Bool) (hb : Below W.heap.size (offW W (z + 1 + 1) k) W') : LI w W' z b6 qb s N v L (ok && k) r o :=
  (h.scale k).ext (by rw [size_offW]; exact hb)
/-- one row turned -/
theorem LI.turn (h : LI w W z b6 qb s N v L ok r o) {k0 : Nat} (hk : k0 < N) (hg : W.grownBy W' (v k0).ownBlock) {x : Value} {l : List (Nat × Nat)} (hown : OwnL W' z x l)
    (hx : ∀ g, x.ownBlock = some g → (v k0).ownBlock = some g ∨ W.heap.size ≤ g) (hok : ∀ y ∈ l, LdOk y) : LI w W' z b6 qb s N (upd v k0 x) (upd L k0 l) ok r o := by
  have hh := h.hb
  have ho := h.own k0 hk
  have hne : ∀ {k : Nat} {t : TypeId} {cs : Array Value}, Blk W k t cs → 76 ≠ t → some k ≠ (v k0).ownBlock := fun hB ht e => ho.other hB ht e.symm
  refine ⟨?_, Blk.grown h.pile hg (hne h.pile (by decide)), h.outb.grown hg (hne h.outb (by decide)), h.sc.grown hg (hne h.sc (by decide)), h.row.grown hg (hne h.row (by decide)), h.onb.grown hg (hne h.onb (by decide)), h.qbx.grown hg (hne h.qbx (by decide)), ?_, ?_, ?_, h.hb⟩
  · refine h.below.trans ⟨hg.os, hg.tape, hg.output, hg.size, fun k hk' => hg.block k (by have := Blk.lt h.pile; omega) (fun e => ?_)⟩
    have := (ho.lt e.symm).1; omega
  · intro k hkN
    by_cases e : k = k0
    · subst e; rw [upd_same, upd_same]; exact hown
    · rw [upd_ne _ _ e, upd_ne _ _ e]
      exact (h.own k hkN).kept hg (fun g eg => h.sep k0 k g hk hkN (fun e' => e e'.symm) eg)
  · intro j k g hj hkN hjk hjg
    by_cases ej : j = k0
    · subst ej
      rw [upd_same] at hjg
      rw [upd_ne _ _ (fun e => hjk e.symm)]
      rcases hx g hjg with h1 | h1
      · exact h.sep j k g hj hkN hjk h1
      · intro e; have := ((h.own k hkN).lt e).2; omega
    · rw [upd_ne _ _ ej] at hjg
      by_cases ek : k = k0
      · subst ek
        rw [upd_same]
        intro e
        rcases hx g e with h1 | h1
        · exact h.sep j k g hj hkN hjk hjg h1
        · have := ((h.own j hj).lt hjg).2; omega
      · rw [upd_ne _ _ ek]; exact h.sep j k g hj hkN hjk hjg
  · intro k hkN y hy
    by_cases e : k = k0
    · subst e; rw [upd_same] at hy; exact hok y hy
    · rw [upd_ne _ _ e] at hy; exact h.okl k hkN y hy
/-- a row more -/
theorem LI.more (h : LI w W z b6 qb s N v L ok r o) (hb : Below W.heap.size W W') {x : Value} {l : List (Nat × Nat)} (hown : OwnL W' W.heap.size x l) (hok : ∀ y ∈ l, LdOk y) : LI w W' z b6 qb s (N + 1) (upd v N x) (upd L N l) ok r o := by
  have h' := h.ext hb
  have hz := Blk.lt h.pile
  refine ⟨h'.below, h'.pile, h'.outb, h'.sc, h'.row, h'.onb, h'.qbx, ?_, ?_, ?_, h.hb⟩
  · intro k hk
    by_cases e : k = N
    · subst e; rw [upd_same, upd_same]; exact ownMono hown (by omega)
    · rw [upd_ne _ _ e, upd_ne _ _ e]; exact h'.own k (by omega)
  · intro j k g hj hk hjk hjg
    by_cases ej : j = N
    · subst ej
      rw [upd_same] at hjg
      rw [upd_ne _ _ (fun e => hjk e.symm)]
      intro e
      have h1 := (hown.lt hjg).1
      have h2 := ((h.own k (by omega)).lt e).2
      omega
    · rw [upd_ne _ _ ej] at hjg
      by_cases ek : k = N
      · subst ek
        rw [upd_same]
        intro e
        have h1 := (hown.lt e).1
        have h2 := ((h.own j (by omega)).lt hjg).2
        omega
      · rw [upd_ne _ _ ek]; exact h.sep j k g (by omega) (by omega) hjk hjg
  · intro k hk y hy
    by_cases e : k = N
    · subst e; rw [upd_same] at hy; exact hok y hy
    · rw [upd_ne _ _ e] at hy; exact h.okl k (by omega) y hy
/-- a store into the row of rows -/
theorem LI.setRow (h : LI w W z b6 qb s N v L ok r o) (t : Nat) (x : Value) : LI w (W.setCell ⟨z + 3, t, none⟩ x) z b6 qb s N v L ok (upd r t x) o := by
  have hh := h.hb
  have hg := grownBy_setC W (z + 3) t x
  refine ⟨h.below.setCell (p := ⟨z + 3, t, none⟩) (by simp only []; omega) _, Blk.far h.pile (p := ⟨z + 3, t, none⟩) (by simp only []; omega) _, h.outb.far (p := ⟨z + 3, t, none⟩) (by simp only []; omega) _, h.sc.far (p := ⟨z + 3, t, none⟩) (by simp only []; omega) _, ?_, h.onb.far (p := ⟨z + 3, t, none⟩) (by simp only []; omega) _, h.qbx.far (p := ⟨z + 3, t, none⟩) (by simp only []; omega) _, ?_, h.sep, h.okl, h.hb⟩
  · have := h.row.set_ t x
    rwa [rowV_set] at this
  · intro k hk
    exact (h.own k hk).kept hg (fun g e => by cases e; exact (h.own k hk).other h.row (by decide))
/-- a store into the floor's box -/
theorem LI.setOn (h : LI w W z b6 qb s N v L ok r o) (x : Value) : LI w (W.setCell ⟨b6, 0, none⟩ x) z b6 qb s N v L ok r x := by
  have hh := h.hb
  have hg := grownBy_setC W b6 0 x
  refine ⟨h.below.setCell (p := ⟨b6, 0, none⟩) (by simp only []; omega) _, Blk.far h.pile (p := ⟨b6, 0, none⟩) (by simp only []; omega) _, h.outb.far (p := ⟨b6, 0, none⟩) (by simp only []; omega) _, h.sc.far (p := ⟨b6, 0, none⟩) (by simp only []; omega) _, h.row.far (p := ⟨b6, 0, none⟩) (by simp only []; omega) _, ?_, h.qbx.far (p := ⟨b6, 0, none⟩) (by simp only []; omega) _, ?_, h.sep, h.okl, h.hb⟩
  · simpa using h.onb.set_ 0 x
  · intro k hk
    exact (h.own k hk).kept hg (fun g e => by cases e; exact (h.own k hk).other h.onb (by decide))
/-- the last row takes the place of the one before it -/
theorem LI.drop (h : LI w W z b6 qb s (N + 2) v L ok r o) : LI w W z b6 qb s (N + 1) (upd v N (v (N + 1))) (upd L N (L (N + 1))) ok r o := by
  refine ⟨h.below, h.pile, h.outb, h.sc, h.row, h.onb, h.qbx, ?_, ?_, ?_, h.hb⟩
  · intro k hk
    by_cases e : k = N
    · subst e; rw [upd_same, upd_same]; exact h.own _ (by omega)
    · rw [upd_ne _ _ e, upd_ne _ _ e]; exact h.own k (by omega)
  · intro j k g hj hk hjk hjg
    by_cases ej : j = N
    · subst ej
      rw [upd_same] at hjg
      rw [upd_ne _ _ (fun e => hjk e.symm)]
      exact h.sep _ k g (by omega) (by omega) (by omega) hjg
    · rw [upd_ne _ _ ej] at hjg
      by_cases ek : k = N
      · subst ek; rw [upd_same]; exact h.sep j _ g (by omega) (by omega) (by omega) hjg
      · rw [upd_ne _ _ ek]; exact h.sep j k g (by omega) (by omega) hjk hjg
  · intro k hk y hy
    by_cases e : k = N
    · subst e; rw [upd_same] at hy; exact h.okl _ (by omega) y hy
    · rw [upd_ne _ _ e] at hy; exact h.okl k (by omega) y hy
end
end Go.Proofs.Ytlhekifmkkgjlaa
