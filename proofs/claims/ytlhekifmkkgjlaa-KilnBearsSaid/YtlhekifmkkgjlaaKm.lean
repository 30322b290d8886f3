/- Contracts of chapter 8 on stacks: the iterators over cells and bricks. -/
import Derived.Test.YtlhekifmkkgjlaaKl
import Derived.RangeFuncNested
import Derived.RangeFuncBound
import Derived.RangeFuncCalls
import Derived.RangeFuncLeaves
import Derived.Shelf.Abstract
import Derived.Shelf.RegionOpen
import Derived.OwnWalkIn
import Derived.TacticsInMore
import Derived.LoopNIn
import Derived.LoopIn
set_option linter.unusedSimpArgs false
set_option linter.unusedVariables false
set_option linter.unnecessarySimpa false
namespace Go.Proofs.Ytlhekifmkkgjlaa
open Go Go.RowKit Go.Shelf
attribute [local go_sem] Oper.semAt_some
set_option maxHeartbeats 1000000
/-- a stack: its floor, and of each tier where its cells and weights lie, how many, and what they are -/
structure Stk where
  (wd hg : Int)
  (A : Option Addr)
  (nt cap : Nat)
  (ca wa : Nat → Option Addr)
  (cn cc wn wc : Nat → Nat)
  (cf wf : Nat → Nat → Int)
def Stk.u (s : Stk) (k : Nat) : Value := .slice (s.ca k) (s.cn k) (s.cc k)
def Stk.v (s : Stk) (k : Nat) : Value := .slice (s.wa k) (s.wn k) (s.wc k)
def StkR (w : World) (B : Nat) (s : Stk) : Prop :=
  s.nt ≤ 1000000 ∧ P2 w B s.A s.nt s.u s.v ∧ ∀ k, k < s.nt → s.cn k ≤ 1000000 ∧ s.wn k ≤ 1000000 ∧ IR w B (s.ca k) (s.cn k) (s.cf k) ∧ IR w B (s.wa k) (s.wn k) (s.wf k)
theorem StkR.below {w w' : World} {B B' : Nat} {s : Stk} (h : StkR w B s) (hb : Below B' w w') (hB : B ≤ B') : StkR w' B s :=
  ⟨h.1, h.2.1.below hb hB, fun k hk => ⟨(h.2.2 k hk).1, (h.2.2 k hk).2.1, (h.2.2 k hk).2.2.1.below hb hB, (h.2.2 k hk).2.2.2.below hb hB⟩⟩
theorem StkR.more {w : World} {B B' : Nat} {s : Stk} (h : StkR w B s) (hB : B ≤ B') : StkR w B' s :=
  ⟨h.1, h.2.1.more hB, fun k hk => ⟨(h.2.2 k hk).1, (h.2.2 k hk).2.1, (h.2.2 k hk).2.2.1.more hB, (h.2.2 k hk).2.2.2.more hB⟩⟩
/-- a pile in a box -/
def PileB (w : World) (p : Nat) (s : Stk) : Prop := Blk w p 131 #[.int .i64 s.wd, .int .i64 s.hg, .slice s.A s.nt s.cap]
theorem PileB.c2 {w : World} {p : Nat} {s : Stk} (h : PileB w p s) : w.cell? ⟨p, 2, none⟩ = some (.slice s.A s.nt s.cap) := by
  have := Blk.cell h 2
  simpa using this
/-- the cells of a brick below n -/
def cellsTo (x : Nat → Int) (b : Int) (n : Nat) : List Nat := (List.range n).filter fun i => decide (x i = b)
theorem cellsTo_yes {x : Nat → Int} {b : Int} {n : Nat} (h : x n = b) : cellsTo x b (n + 1) = cellsTo x b n ++ [n] := by
  simp [cellsTo, List.range_succ, List.filter_append, h]
theorem cellsTo_no {x : Nat → Int} {b : Int} {n : Nat} (h : x n ≠ b) : cellsTo x b (n + 1) = cellsTo x b n := by
  simp [cellsTo, List.range_succ, List.filter_append, h]
theorem cellsTo_len (x : Nat → Int) (b : Int) (n : Nat) : (cellsTo x b n).length ≤ n := by
  have := List.length_filter_le (fun i => decide (x i = b)) (List.range n)
  simpa [cellsTo] using this
theorem cellsTo_prefix (x : Nat → Int) (b : Int) (k n : Nat) (h : k ≤ n) : cellsTo x b k <+: cellsTo x b n := by
  induction n with
  | zero => obtain rfl : k = 0 := by omega
            exact List.prefix_refl _
  | succ n ih =>
    rcases Nat.lt_or_ge k (n + 1) with hl | hl
    · refine (ih (by omega)).trans ?_
      by_cases hx : x n = b
      · rw [cellsTo_yes hx]; exact List.prefix_append _ _
      · rw [cellsTo_no hx]; exact List.prefix_refl _
    · obtain rfl : k = n + 1 := by omega
      exact List.prefix_refl _
theorem cellsTo_lt (x : Nat → Int) (b : Int) (k n : Nat) (h : k < n) (hx : x k = b) : (cellsTo x b k).length < (cellsTo x b n).length := by
  have h1 := (cellsTo_prefix x b (k + 1) n h).length_le
  rw [cellsTo_yes hx] at h1
  simp at h1
  omega
/-- what a round of a loop over cells keeps: all below n0, and the box q -/
def KpB (n0 q : Nat) (W W' : World) : Prop := Below n0 W W' ∧ W'.heap[q]? = W.heap[q]?
theorem KpB.trans {n0 q : Nat} {A B C : World} (h : KpB n0 q A B) (k : KpB n0 q B C) : KpB n0 q A C := ⟨h.1.trans k.1, k.2.trans h.2⟩
theorem KpB.refl (n0 q : Nat) (W : World) : KpB n0 q W W := ⟨Below.refl _ _, rfl⟩
theorem KpB.blk {n0 q : Nat} {A B : World} (h : KpB n0 q A B) {t : TypeId} {cs : Array Value} (k : Blk A q t cs) : Blk B q t cs := h.2.trans k
theorem KpB.putObj {w : World} {n0 q : Nat} (hn : n0 ≤ w.heap.size) (hq : q < w.heap.size) (W : World) (l : Nat) (o o' : Obj) (hl : w.heap.size ≤ l) (h : W.heap[l]? = some o) (_ : o.isCells = false) (_ : o.isWalk = false) : KpB n0 q W (W.putObj l o') :=
  ⟨belowK_b hn W l o o' hl h ‹_› ‹_›, World.putObj_heap_other (by omega)⟩
abbrev Cell (n : Nat) := { c : Nat // c < n }
/-- the closure of cells -/
theorem cells1_in (F : Fence) (n : Nat) (hF : ∀ f, F.fn f) (hro : F.round = none) (hn : 1 ≤ n) (l p q n0 t : Nat) (b : Int) (s : Stk) (J Jx : List (Cell (s.cn t)) → World → Prop) (W : World)
    (hp : PileB W p s) (hq : Blk W q 59 #[.int .i64 t, .int .i64 b]) (hs : StkR W n0 s) (ht : t < s.nt)
    (hY : ∀ pre (x : Cell (s.cn t)) W, J pre W → pre.length < (cellsTo (s.cf t) b (s.cn t)).length → YieldAt F (n - 1) Try.prog l #[.int .i64 x.1] W fun e W' =>
      (e = .returned (.bool true) ∧ J (pre ++ [x]) W' ∧ KpB n0 q W W') ∨ (e = .returned (.bool false) ∧ Jx (pre ++ [x]) W')) (h0 : J [] W) :
    CallsIn F n Try.prog 102 #[.func (.yield l) #[] #[], .pointer (some ⟨p, 0, none⟩), .pointer (some ⟨q, 0, none⟩)] W fun e W' => (∃ v, e = .returned v) ∧
      ((∃ ys : List (Cell (s.cn t)), ys.map (·.1) = cellsTo (s.cf t) b (s.cn t) ∧ J ys W') ∨ (∃ pre : List (Cell (s.cn t)), pre.map (·.1) <+: cellsTo (s.cf t) b (s.cn t) ∧ Jx pre W')) := by
  obtain ⟨g1, g2, g3, -, -⟩ := blk2 hq
  have g4 := hp.c2
  obtain ⟨tb, toff, hA, htb, hu, -⟩ := hs.2.1.at_ ht
  obtain ⟨m1, -, hI, -⟩ := hs.2.2 t ht
  have i1 : (0 : Int) ≤ (t : Int) := by omega
  have i2 : (t : Int) < (s.nt : Int) := by omega
  unfold Stk.u at hu
  rw [hA] at g4
  generalize s.ca t = CA at hu hI
  have HYY := hide hY
  have HQ := hide hq
  have HI := hide hI
  have H0 := hide h0
  clear hY hI h0 hs hA hp hq
  refine callsIn_of_wp Try.func102 rfl (hF _) ?_ hro
  simp only [Try.ntmps102, List.size_toArray, List.length_cons, List.length_nil, Nat.reduceAdd, Nat.reduceSub, Array.replicate_succ, Array.replicate_zero, List.push_toArray, List.append_toArray, List.nil_append, List.cons_append]
  gi_wp2_with fail
  gi_loopw [15] (fun i wr => ∃ (k : Nat) (ys : List (Cell (s.cn t))), k ≤ s.cn t ∧ i = .int .i64 k ∧ Hid (ys.map (·.1) = cellsTo (s.cf t) b k ∧ J ys wr) ∧ KpB n0 q W wr) (fun i _ => s.cn t - (intOf i).toNat)
  case atStart => exact ⟨0, [], Nat.zero_le _, rfl, hide ⟨rfl, H0.out⟩, KpB.refl _ _ _⟩
  case round =>
    obtain ⟨k, ys, hk, rfl, hJs, hnx⟩ := hrel
    have c3 : wr.cell? ⟨q, 1, none⟩ = some (.int .i64 b) := (blk2 (hnx.blk HQ.out)).2.2.1
    by_cases hlt : k < s.cn t
    · obtain ⟨cb, coff, rfl, hcb, hcc⟩ := (HI.out.below hnx.1 (Nat.le_refl _)).at_ hlt
      have j1 : (0 : Int) ≤ (k : Int) := by omega
      have j2 : (k : Int) < (s.cn t : Int) := by omega
      have j3 : s.cn t < 9223372036854775807 := by omega
      by_cases hx : s.cf t k = b
      · obtain ⟨fn, tmps, assign, body, hy, hR⟩ := HYY.out ys ⟨k, hlt⟩ wr hJs.out.2 (by
          have h1 := cellsTo_lt (s.cf t) b k _ hlt hx
          rwa [← hJs.out.1, List.length_map] at h1)
        dsimp only at hy
        have HX := hide hx
        have hxb : (s.cf t k == b) = true := by simpa using hx
        have HR := hide hR
        clear hx hR
        gi_wp2_with fail
        refine HR.out.mono ?_
        rintro e W3 (⟨rfl, hJ3, hk3⟩ | ⟨rfl, hJx3⟩)
        · have HJ3 := hide hJ3
          clear hJ3
          gi_wp2_with fail
          go_roundw
          case rel => exact ⟨k + 1, ys ++ [⟨k, hlt⟩], by omega, by go_num, hide ⟨by rw [cellsTo_yes HX.out, List.map_append, hJs.out.1]; rfl, HJ3.out⟩, hnx.trans hk3⟩
          case measure => simp [intOf]; omega
        · have HJ3 := hide hJx3
          clear hJx3
          gi_wp2_with fail
          refine bodyPost_ret (results_none rfl _ _ _) rfl ?_
          exact ⟨⟨_, rfl⟩, .inr ⟨_, by
            rw [List.map_append, hJs.out.1]
            have h9 := cellsTo_prefix (s.cf t) b (k + 1) (s.cn t) (by omega)
            rw [cellsTo_yes HX.out] at h9
            exact h9, HJ3.out⟩⟩
      · have HX := hide hx
        have hxb : (s.cf t k == b) = false := by simpa using hx
        clear hx
        gi_wp2_with fail
        go_roundw
        case rel => exact ⟨k + 1, ys, by omega, by go_num, hide ⟨by rw [cellsTo_no HX.out]; exact hJs.out.1, hJs.out.2⟩, hnx⟩
        case measure => simp [intOf]; omega
    · obtain rfl : k = s.cn t := by omega
      gi_wp2_with fail
      go_end0
      exact ⟨⟨_, rfl⟩, .inl ⟨ys, hJs.out.1, hJs.out.2⟩⟩
end Go.Proofs.Ytlhekifmkkgjlaa
