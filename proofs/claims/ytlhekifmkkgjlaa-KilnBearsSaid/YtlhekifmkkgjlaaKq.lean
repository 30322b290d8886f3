/- Contracts of chapter 8 on stacks: the bricks in order. -/
import Derived.Test.YtlhekifmkkgjlaaKp
set_option linter.unusedSimpArgs false
set_option linter.unusedVariables false
set_option linter.unnecessarySimpa false
namespace Go.Proofs.Ytlhekifmkkgjlaa
open Go Go.RowKit Go.Shelf
attribute [local go_sem] Oper.semAt_some
set_option maxHeartbeats 1000000
/-- the bricks of the first k tiers, and of the next one the first j -/
def rowTo (k j : Nat) : List (Nat × Nat) := (List.range j).map fun i => (k, i)
def bricksTo (wn : Nat → Nat) (k : Nat) : List (Nat × Nat) := (List.range k).flatMap fun t => rowTo t (wn t)
theorem bricksTo_succ (wn : Nat → Nat) (k : Nat) : bricksTo wn (k + 1) = bricksTo wn k ++ rowTo k (wn k) := by
  simp [bricksTo, List.range_succ, List.flatMap_append]
theorem rowTo_succ (k j : Nat) : rowTo k (j + 1) = rowTo k j ++ [(k, j)] := by simp [rowTo, List.range_succ]
theorem rowTo_zero (k : Nat) : rowTo k 0 = [] := rfl
theorem rowTo_prefix (k : Nat) {j n : Nat} (h : j ≤ n) : rowTo k j <+: rowTo k n := by
  induction n with
  | zero => obtain rfl : j = 0 := by omega
            exact List.prefix_refl _
  | succ n ih =>
    rcases Nat.lt_or_ge j (n + 1) with hl | hl
    · rw [rowTo_succ]; exact (ih (by omega)).trans (List.prefix_append _ _)
    · obtain rfl : j = n + 1 := by omega
      exact List.prefix_refl _
theorem bricksTo_prefix (wn : Nat → Nat) {k n : Nat} (h : k ≤ n) : bricksTo wn k <+: bricksTo wn n := by
  induction n with
  | zero => obtain rfl : k = 0 := by omega
            exact List.prefix_refl _
  | succ n ih =>
    rcases Nat.lt_or_ge k (n + 1) with hl | hl
    · rw [bricksTo_succ]; exact (ih (by omega)).trans (List.prefix_append _ _)
    · obtain rfl : k = n + 1 := by omega
      exact List.prefix_refl _
theorem bricksTo_part (wn : Nat → Nat) {k j n : Nat} (hk : k < n) (hj : j ≤ wn k) : bricksTo wn k ++ rowTo k j <+: bricksTo wn n := by
  refine List.IsPrefix.trans ?_ (bricksTo_prefix wn (show k + 1 ≤ n from hk))
  rw [bricksTo_succ]
  exact List.prefix_append_right_inj _ |>.2 (rowTo_prefix k hj)
abbrev Brk (s : Stk) := { p : Nat × Nat // p.1 < s.nt ∧ p.2 < s.wn p.1 }
theorem bricks1_in (F : Fence) (n : Nat) (hF : ∀ f, F.fn f) (hro : F.round = none) (hn : 1 ≤ n) (l p n0 : Nat) (s : Stk) (J Jx : List (Brk s) → World → Prop) (W : World)
    (hp : PileB W p s) (hs : StkR W n0 s) (hn0 : n0 ≤ W.heap.size)
    (hY : ∀ pre (x : Brk s) W, J pre W → pre.length < (bricksTo s.wn s.nt).length → YieldAt F (n - 1) Try.prog l #[.agg #[.int .i64 x.1.1, .int .i64 x.1.2]] W fun e W' =>
      (e = .returned (.bool true) ∧ J (pre ++ [x]) W' ∧ Below n0 W W') ∨ (e = .returned (.bool false) ∧ Jx (pre ++ [x]) W')) (h0 : J [] W)
    (hal : ∀ pre W1 W', J pre W1 → Below n0 W W1 → Below W1.heap.size W1 W' → J pre W') :
    CallsIn F n Try.prog 111 #[.func (.yield l) #[] #[], .pointer (some ⟨p, 0, none⟩)] W fun e W' => (∃ v, e = .returned v) ∧
      ((∃ ys : List (Brk s), ys.map (·.1) = bricksTo s.wn s.nt ∧ J ys W') ∨ (∃ pre : List (Brk s), pre.map (·.1) <+: bricksTo s.wn s.nt ∧ Jx pre W')) := by
  have g4 := hp.c2
  have HYY := hide hY
  have H0 := hide h0
  have HS := hide hs
  have HAL := hide hal
  have hnt := hs.1
  rcases Nat.eq_zero_or_pos s.nt with hz | hpos
  · have hz0 : ¬ (0 : Int) < (s.nt : Int) := by omega
    have hbz : bricksTo s.wn s.nt = [] := by simp [hz, bricksTo]
    have HBZ := hide hbz
    clear hbz
    clear hY h0 hs hp hal
    refine callsIn_of_wp Try.func111 rfl (hF _) ?_ hro
    simp only [Try.ntmps111, List.size_toArray, List.length_cons, List.length_nil, Nat.reduceAdd, Nat.reduceSub, Array.replicate_succ, Array.replicate_zero, List.push_toArray, List.append_toArray, List.nil_append, List.cons_append]
    gi_wp2_with fail
    gi_loopw [10] (fun i wr => i = .int .i64 0 ∧ J [] wr) (fun _ _ => 0)
    case atStart => exact ⟨rfl, H0.out⟩
    case round =>
      obtain ⟨rfl, hJ⟩ := hrel
      gi_wp2_with fail
      go_end0
      exact ⟨⟨_, rfl⟩, .inl ⟨[], by rw [HBZ.out]; rfl, hJ⟩⟩
  · obtain ⟨tb, toff, hA, htb, -, -⟩ := hs.2.1.at_ hpos
    rw [hA] at g4
    have HA := hide hA
    clear hY h0 hs hp hal hA
    refine callsIn_of_wp Try.func111 rfl (hF _) ?_ hro
    simp only [Try.ntmps111, List.size_toArray, List.length_cons, List.length_nil, Nat.reduceAdd, Nat.reduceSub, Array.replicate_succ, Array.replicate_zero, List.push_toArray, List.append_toArray, List.nil_append, List.cons_append]
    gi_wp2_with fail
    gi_loopw [10] (fun i wr => ∃ (k : Nat) (ys : List (Brk s)), k ≤ s.nt ∧ i = .int .i64 k ∧ Hid (ys.map (·.1) = bricksTo s.wn k ∧ J ys wr) ∧ Below n0 W wr) (fun i _ => s.nt - (intOf i).toNat)
    case atStart => exact ⟨0, [], Nat.zero_le _, rfl, hide ⟨rfl, H0.out⟩, Below.refl _ _⟩
    case round =>
      obtain ⟨k, ys, hk, rfl, hJs, hnx⟩ := hrel
      by_cases hlt : k < s.nt
      · obtain ⟨tb', toff', hA', htb', hu, hv⟩ := (HS.out.below hnx (Nat.le_refl _)).2.1.at_ hlt
        rw [HA.out] at hA'
        cases hA'
        have hwn := (HS.out.2.2 k hlt).2.1
        have j1 : (0 : Int) ≤ (k : Int) := by omega
        have j2 : (k : Int) < (s.nt : Int) := by omega
        have hz9 : n0 ≤ wr.heap.size := by have := hnx.size; omega
        unfold Stk.u at hu
        unfold Stk.v at hv
        gi_wp2_with fail
        gi_loopw [18] (fun i wq => ∃ (j : Nat) (zs : List (Brk s)), j ≤ s.wn k ∧ i = .int .i64 j ∧ Hid (zs.map (·.1) = bricksTo s.wn k ++ rowTo k j ∧ J zs wq) ∧ Below n0 W wq) (fun i _ => s.wn k - (intOf i).toNat)
        case atStart => exact ⟨0, ys, Nat.zero_le _, rfl, hide ⟨by rw [hJs.out.1, rowTo_zero, List.append_nil], HAL.out ys wr _ hJs.out.2 hnx ((Below.refl _ _).alloc (Nat.le_refl _) _)⟩, hnx.alloc (by omega) _⟩
        case round =>
          obtain ⟨j, zs, hj, rfl, hJz, hnz⟩ := hrel
          have i1 : (0 : Int) ≤ (j : Int) := by omega
          by_cases hjl : j < s.wn k
          · have i2 : (j : Int) < (s.wn k : Int) := by omega
            obtain ⟨fn, tmps, assign, body, hy, hR⟩ := HYY.out zs ⟨(k, j), hlt, hjl⟩ wr hJz.out.2 (by
              have h1 := (bricksTo_part s.wn (k := k) (j := j + 1) hlt hjl).length_le
              rw [rowTo_succ, ← List.append_assoc, ← hJz.out.1, List.length_append, List.length_map] at h1
              simp at h1; omega)
            dsimp only at hy
            have HR := hide hR
            clear hR
            gi_wp2_with fail
            refine HR.out.mono ?_
            rintro e W3 (⟨rfl, hJ3, hk3⟩ | ⟨rfl, hJx3⟩)
            · have HJ3 := hide hJ3
              clear hJ3
              gi_wp2_with fail
              go_roundw
              case rel => exact ⟨j + 1, zs ++ [⟨(k, j), hlt, hjl⟩], by omega, by go_num, hide ⟨by rw [rowTo_succ, List.map_append, hJz.out.1, List.append_assoc]; rfl, HJ3.out⟩, hnz.trans hk3⟩
              case measure => simp [intOf]; omega
            · have HJ3 := hide hJx3
              clear hJx3
              gi_wp2_with fail
              refine bodyPost_ret (results_none rfl _ _ _) rfl ?_
              exact ⟨⟨_, rfl⟩, .inr ⟨_, by
                rw [List.map_append, hJz.out.1]
                have h9 := bricksTo_part s.wn (k := k) (j := j + 1) hlt hjl
                rw [rowTo_succ, ← List.append_assoc] at h9
                exact h9, HJ3.out⟩⟩
          · obtain rfl : j = s.wn k := by omega
            have j9 : ¬ (s.wn k : Int) < (s.wn k : Int) := by omega
            gi_wp2_with fail
            go_roundw
            case rel => exact ⟨k + 1, zs, by omega, by go_num, hide ⟨by rw [bricksTo_succ]; exact hJz.out.1, hJz.out.2⟩, hnz⟩
            case measure => simp [intOf]; omega
      · obtain rfl : k = s.nt := by omega
        have j9 : ¬ (s.nt : Int) < (s.nt : Int) := by omega
        gi_wp2_with fail
        go_end0
        exact ⟨⟨_, rfl⟩, .inl ⟨ys, hJs.out.1, hJs.out.2⟩⟩
theorem bricks_any (s : Stk) (w : World) :
    Calls Try.prog 93 #[.agg #[.int .i64 s.wd, .int .i64 s.hg, .slice s.A s.nt s.cap]] w fun e w' => e = .returned (.func (.func 111) #[] #[.pointer (some ⟨w.heap.size, 0, none⟩)]) ∧ w.alloc (.cells #[.int .i64 s.wd, .int .i64 s.hg, .slice s.A s.nt s.cap] 131) = w' := by
  go_enter Try.func93, Try.ntmps93
  go_wp2_with fail
  go_ret
  exact ⟨rfl, rfl⟩
theorem abides_below {β : Type} {B : Nat} {J : β → World → Prop} (h : AbidesFrom B J) (s : β) (W W' : World) (hs : J s W) (hb : Below W.heap.size W W') : J s W' :=
  h s W W' none hs ⟨hb.os, hb.tape, hb.output, hb.size, fun k hk _ => hb.block k hk⟩ (fun _ e => by cases e)
theorem bricks_stops (F : Fence) (n : Nat) (hF : ∀ f, F.fn f) (hro : F.round = none) (hn : 1 ≤ n) (p n0 : Nat) (s : Stk) (w : World) (hp : PileB w p s) (hn0 : n0 ≤ w.heap.size) (hs : StkR w n0 s) :
    SeqStopsK F n Try.prog 111 #[.pointer (some ⟨p, 0, none⟩)] (fun x : Brk s => #[.agg #[.int .i64 x.1.1, .int .i64 x.1.2]]) (Below n0) (fun ys => ys.map (·.1) = bricksTo s.wn s.nt) (fun pre => pre.map (·.1) <+: bricksTo s.wn s.nt) (bricksTo s.wn s.nt).length w := fun l J Jx W hW hJ _ hY h0 =>
  bricks1_in F n hF hro hn l p n0 s J Jx W (hp.ext hW) (hs.below (hW.mono hn0) (Nat.le_refl _)) (by have := hW.size; omega) hY h0 (fun pre W1 W' h _ hb => abides_below hJ pre W1 W' h hb)
end Go.Proofs.Ytlhekifmkkgjlaa
