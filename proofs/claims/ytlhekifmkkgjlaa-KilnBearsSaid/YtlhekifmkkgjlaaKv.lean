/- Contracts of chapter 8 on stacks: tiers from the top. -/
import Derived.Test.YtlhekifmkkgjlaaKu
set_option linter.unusedSimpArgs false
set_option linter.unusedVariables false
set_option linter.unnecessarySimpa false
namespace Go.Proofs.Ytlhekifmkkgjlaa
open Go Go.RowKit Go.Shelf
attribute [local go_sem] Oper.semAt_some
set_option maxHeartbeats 1000000
/-- the numbers below n, from the top down to r -/
def backTo (n r : Nat) : List Nat := (List.range (n - r)).map fun i => n - 1 - i
theorem backTo_top (n : Nat) : backTo n n = [] := by simp [backTo]
theorem backTo_succ {n r : Nat} (h : r < n) : backTo n r = backTo n (r + 1) ++ [r] := by
  unfold backTo
  rw [show n - r = (n - (r + 1)) + 1 by omega, List.range_succ, List.map_append]
  simp
  omega
theorem backTo_len (n r : Nat) : (backTo n r).length = n - r := by simp [backTo]
theorem backTo_prefix (n : Nat) {r : Nat} (h : r ≤ n) : backTo n r <+: backTo n 0 := by
  induction r with
  | zero => exact List.prefix_refl _
  | succ r ih =>
    refine List.IsPrefix.trans ?_ (ih (by omega))
    rw [backTo_succ (show r < n by omega)]
    exact List.prefix_append _ _
abbrev Tie (s : Stk) := { k : Nat // k < s.nt }
theorem back1_in (F : Fence) (n : Nat) (hF : ∀ f, F.fn f) (hro : F.round = none) (hn : 1 ≤ n) (l q n0 : Nat) (s : Stk) (J Jx : List (Tie s) → World → Prop) (W : World)
    (hq : Blk W q 53 #[.slice s.A s.nt s.cap]) (hs : StkR W n0 s)
    (hY : ∀ pre (x : Tie s) W, J pre W → pre.length < s.nt → YieldAt F (n - 1) Try.prog l #[.int .i64 x.1, .agg #[s.u x.1, s.v x.1]] W fun e W' =>
      (e = .returned (.bool true) ∧ J (pre ++ [x]) W' ∧ KpB n0 q W W') ∨ (e = .returned (.bool false) ∧ Jx (pre ++ [x]) W')) (h0 : J [] W) :
    CallsIn F n Try.prog 116 #[.func (.yield l) #[] #[], .pointer (some ⟨q, 0, none⟩)] W fun e W' => (∃ v, e = .returned v) ∧
      ((∃ ys : List (Tie s), ys.map (·.1) = backTo s.nt 0 ∧ J ys W') ∨ (∃ pre : List (Tie s), pre.map (·.1) <+: backTo s.nt 0 ∧ Jx pre W')) := by
  obtain ⟨g1, g2, g3⟩ := blk1 hq
  have HYY := hide hY
  have H0 := hide h0
  have HS := hide hs
  have HQ := hide hq
  have hnt := hs.1
  clear hY h0 hs hq
  refine callsIn_of_wp Try.func116 rfl (hF _) ?_ hro
  simp only [Try.ntmps116, List.size_toArray, List.length_cons, List.length_nil, Nat.reduceAdd, Nat.reduceSub, Array.replicate_succ, Array.replicate_zero, List.push_toArray, List.append_toArray, List.nil_append, List.cons_append]
  gi_wp2_with fail
  gi_loopw [3] (fun i wr => ∃ (v : Int) (r : Nat) (ys : List (Tie s)), i = .int .i64 v ∧ v = (r : Int) - 1 ∧ r ≤ s.nt ∧ Hid (ys.map (·.1) = backTo s.nt r ∧ J ys wr) ∧ KpB n0 q W wr) (fun i _ => (intOf i + 1).toNat)
  case atStart => exact ⟨_, s.nt, [], rfl, rfl, Nat.le_refl _, hide ⟨by rw [backTo_top]; rfl, H0.out⟩, KpB.refl _ _ _⟩
  case round =>
    obtain ⟨v, r, ys, rfl, hv, hr, hJs, hnx⟩ := hrel
    rcases Nat.eq_zero_or_pos r with rfl | hpos
    · obtain rfl : v = -1 := by omega
      clear hv
      gi_wp2_with fail
      go_end0
      exact ⟨⟨_, rfl⟩, .inl ⟨ys, hJs.out.1, hJs.out.2⟩⟩
    · obtain ⟨k, rfl⟩ : ∃ k, r = k + 1 := ⟨r - 1, by omega⟩
      obtain rfl : v = (k : Int) := by omega
      clear hv
      obtain ⟨tb, toff, hA, htb, hu, hv2⟩ := (HS.out.below hnx.1 (Nat.le_refl _)).2.1.at_ (show k < s.nt by omega)
      obtain ⟨c0, c1, c2⟩ := blk1 (hnx.blk HQ.out)
      rw [hA] at c1
      have i1 : (0 : Int) ≤ (k : Int) := by omega
      have i2 : (k : Int) < (s.nt : Int) := by omega
      obtain ⟨fn, tmps, assign, body, hy, hR⟩ := HYY.out ys ⟨k, by omega⟩ wr hJs.out.2 (by
        have h1 := congrArg List.length hJs.out.1
        rw [List.length_map, backTo_len] at h1
        omega)
      dsimp only at hy
      have HR := hide hR
      clear hR hA
      unfold Stk.u at hu hy
      unfold Stk.v at hv2 hy
      gi_wp2_with fail
      refine HR.out.mono ?_
      rintro e W3 (⟨rfl, hJ3, hk3⟩ | ⟨rfl, hJx3⟩)
      · have HJ3 := hide hJ3
        clear hJ3
        gi_wp2_with fail
        go_roundw
        case rel => exact ⟨_, k, ys ++ [⟨k, by omega⟩], rfl, by omega, by omega, hide ⟨by rw [backTo_succ (show k < s.nt by omega), List.map_append, hJs.out.1]; rfl, HJ3.out⟩, hnx.trans hk3⟩
        case measure => simp [intOf]
      · have HJ3 := hide hJx3
        clear hJx3
        gi_wp2_with fail
        refine bodyPost_ret (results_none rfl _ _ _) rfl ?_
        exact ⟨⟨_, rfl⟩, .inr ⟨_, by
          rw [List.map_append, hJs.out.1]
          have h9 := backTo_prefix s.nt (r := k) (by omega)
          rw [backTo_succ (show k < s.nt by omega)] at h9
          exact h9, HJ3.out⟩⟩
theorem back_any (A : Option Addr) (n c : Nat) (w : World) :
    Calls Try.prog 106 #[.slice A n c] w fun e w' => e = .returned (.func (.func 116) #[] #[.pointer (some ⟨w.heap.size, 0, none⟩)]) ∧ w.alloc (.cells #[.slice A n c] 53) = w' := by
  go_enter Try.func106, Try.ntmps106
  go_wp2_with fail
  go_ret
  exact ⟨rfl, rfl⟩
theorem back_stops (F : Fence) (n : Nat) (hF : ∀ f, F.fn f) (hro : F.round = none) (hn : 1 ≤ n) (q n0 : Nat) (s : Stk) (w : World) (hq : Blk w q 53 #[.slice s.A s.nt s.cap]) (hn0 : n0 ≤ w.heap.size) (hs : StkR w n0 s) :
    SeqStopsK F n Try.prog 116 #[.pointer (some ⟨q, 0, none⟩)] (fun x : Tie s => #[.int .i64 x.1, .agg #[s.u x.1, s.v x.1]]) (KpB n0 q) (fun ys => ys.map (·.1) = backTo s.nt 0) (fun pre => pre.map (·.1) <+: backTo s.nt 0) s.nt w := fun l J Jx W hW _ _ hY h0 =>
  back1_in F n hF hro hn l q n0 s J Jx W (hq.ext hW) (hs.below (hW.mono hn0) (Nat.le_refl _)) hY h0
end Go.Proofs.Ytlhekifmkkgjlaa
