/- Contracts of chapter 8 on stacks: tiers, the check of a stack. -/
import Derived.Test.YtlhekifmkkgjlaaKs
set_option linter.unusedSimpArgs false
set_option linter.unusedVariables false
set_option linter.unnecessarySimpa false
namespace Go.Proofs.Ytlhekifmkkgjlaa
open Go Go.RowKit Go.Shelf
set_option maxHeartbeats 1000000
theorem index_any (v : Int) (A : Option Addr) (n c : Nat) (x : Nat → Int) (w : World) (hn : n ≤ 1000000) (hR : IR w w.heap.size A n x) :
    Calls Try.prog 117 #[.slice A n c, .int .i64 v] w fun e w' => e = .returned (.int .i64 (idx (fun k => x k == v) n)) ∧ w' = w := by
  have HR := hide hR
  clear hR
  go_enter Try.func117, Try.ntmps117
  go_wp2_with fail
  go_loopw [8] (fun i wr => ∃ k : Nat, k ≤ n ∧ i = .int .i64 k ∧ Hid (idx (fun k => x k == v) k = -1) ∧ Hid (wr = w)) (fun i _ => n - (intOf i).toNat)
  case atStart => exact ⟨0, Nat.zero_le _, rfl, hide rfl, hide rfl⟩
  case round =>
    obtain ⟨k, hk, rfl, HX, HW⟩ := hrel
    obtain rfl := HW.out
    by_cases hlt : k < n
    · obtain ⟨b, off, rfl, hb, hc⟩ := HR.out.at_ hlt
      have i1 : (0 : Int) ≤ (k : Int) := by omega
      have i2 : (k : Int) < (n : Int) := by omega
      by_cases hx : x k = v
      · have h1 : (v == x k) = true := by simp [hx]
        have h2 : idx (fun k => x k == v) n = k := by
          have h3 : idx (fun k => x k == v) (k + 1) = k := by simp [idx, HX.out, hx]
          rw [idx_stable _ (k + 1) n (by rw [h3]; omega) (by omega), h3]
        have H2 := hide h2
        clear h2 hx
        go_wp2_with fail
        go_ret
        exact ⟨ret_int H2.out.symm, rfl⟩
      · have h1 : (v == x k) = false := by simp; exact fun e => hx e.symm
        have h2 : idx (fun k => x k == v) (k + 1) = -1 := by simp [idx, HX.out, hx]
        have H2 := hide h2
        clear h2 hx
        go_wp2_with fail
        go_roundw
        case rel => exact ⟨k + 1, by omega, by go_num, H2, trivial⟩
        case measure => simp [intOf]; omega
    · obtain rfl : k = n := by omega
      have i2 : ¬ (k : Int) < (k : Int) := by omega
      go_wp2_with fail
      go_ret
      exact ⟨ret_int HX.out.symm, rfl⟩
theorem contains_any (v : Int) (A : Option Addr) (n c : Nat) (x : Nat → Int) (w : World) (hn : n ≤ 1000000) (hR : IR w w.heap.size A n x) :
    Calls Try.prog 110 #[.slice A n c, .int .i64 v] w fun e w' => e = .returned (.bool (anyTo (fun k => x k == v) n)) ∧ w' = w := by
  have H := hide (index_any v A n c x w hn hR)
  rw [← idx_any]
  generalize idx (fun k => x k == v) n = R at H ⊢
  clear hR
  go_enter Try.func110, Try.ntmps110
  go_wp2_with fail
  refine H.out.mono ?_
  rintro e w1 ⟨rfl, rfl⟩
  go_wp2_with fail
  go_ret
  exact ⟨rfl, rfl⟩
/-- whether every brick of a tier has a cell -/
def allB (cn wn : Nat) (cf : Nat → Int) : Bool := !anyTo (fun i => !anyTo (fun k => cf k == (i : Int)) cn) wn
def tierB (m : Int) (cn wn : Nat) (cf wf : Nat → Int) : Bool :=
  decide ((cn : Int) = m) && (decide ((wn : Int) ≤ m) && (wiB 0 1000 wf wn && (wiB (-1) ((wn : Int) - 1) cf cn && allB cn wn cf)))
theorem isTier_any (m : Int) (ca wa : Option Addr) (cn cc wn wc : Nat) (cf wf : Nat → Int) (w : World) (h1 : cn ≤ 1000000) (h2 : wn ≤ 1000000) (hc : IR w w.heap.size ca cn cf) (hw : IR w w.heap.size wa wn wf) :
    Calls Try.prog 92 #[.agg #[.slice ca cn cc, .slice wa wn wc], .int .i64 m] w fun e w' => e = .returned (.bool (tierB m cn wn cf wf)) ∧ Below w.heap.size w w' := by
  have hb := (Below.refl w.heap.size w).alloc (Nat.le_refl _) (.cells #[.slice ca cn cc, .slice wa wn wc] 72)
  have HB := hide hb
  have HC := hide hc
  have HW := hide hw
  have K0 := hide (Blk.new w 72 #[.slice ca cn cc, .slice wa wn wc])
  have H3 := hide (fun W (hB : Below w.heap.size w W) => within_any 0 1000 wa wn wc wf W (by unfold maxLen; omega) ((HW.out.below hB (Nat.le_refl _)).more hB.size))
  have H4 := hide (fun W (hB : Below w.heap.size w W) => within_any (-1) ((wn : Int) - 1) ca cn cc cf W (by unfold maxLen; omega) ((HC.out.below hB (Nat.le_refl _)).more hB.size))
  clear hc hw hb
  unfold tierB
  by_cases g1 : (cn : Int) = m
  · subst g1
    by_cases g2 : (wn : Int) ≤ (cn : Int)
    · have g3 : ¬ (cn : Int) < (wn : Int) := by omega
      rw [decide_eq_true g2, decide_eq_true (rfl : (cn : Int) = (cn : Int)), Bool.true_and, Bool.true_and]
      rcases hv : wiB 0 1000 wf wn with _ | _
      · rw [hv] at H3
        rw [Bool.false_and]
        clear hv
        go_enter Try.func92, Try.ntmps92
        go_wp2_with fail
        refine (H3.out _ HB.out).mono ?_
        rintro e w1 ⟨rfl, hb1⟩
        go_wp2_with fail
        go_ret
        exact ⟨rfl, HB.out.trans (hb1.mono (by simp))⟩
      · rw [hv] at H3
        rw [Bool.true_and]
        clear hv
        rcases hv : wiB (-1) ((wn : Int) - 1) cf cn with _ | _
        · rw [hv] at H4
          rw [Bool.false_and]
          clear hv
          go_enter Try.func92, Try.ntmps92
          go_wp2_with fail
          refine (H3.out _ HB.out).mono ?_
          rintro e w1 ⟨rfl, hb1⟩
          have hB1 := HB.out.trans (hb1.mono (by simp))
          obtain ⟨z1, z2, z3, -, -⟩ := blk2 (K0.out.ext hb1)
          go_wp2_with fail
          refine (H4.out _ hB1).mono ?_
          rintro e w2 ⟨rfl, hb2⟩
          go_wp2_with fail
          go_ret
          exact ⟨rfl, hB1.trans (hb2.mono hB1.size)⟩
        · rw [hv] at H4
          rw [Bool.true_and]
          unfold allB
          clear hv
          go_enter Try.func92, Try.ntmps92
          go_wp2_with fail
          refine (H3.out _ HB.out).mono ?_
          rintro e w1 ⟨rfl, hb1⟩
          have hB1 := HB.out.trans (hb1.mono (by simp))
          have K1 := hide (K0.out.ext hb1)
          obtain ⟨z1, z2, z3, -, -⟩ := blk2 K1.out
          go_wp2_with fail
          refine (H4.out _ hB1).mono ?_
          rintro e w2 ⟨rfl, hb2⟩
          have hB2 := hB1.trans (hb2.mono hB1.size)
          have K2 := hide (K1.out.ext hb2)
          obtain ⟨y1, y2, y3, -, -⟩ := blk2 K2.out
          clear hb1 hb2 H3 H4 K0 K1
          go_wp2_with fail
          go_loopw [37] (fun i wr => ∃ k : Nat, k ≤ wn ∧ i = .int .i64 k ∧ Hid (anyTo (fun i => !anyTo (fun k => cf k == (i : Int)) cn) k = false) ∧ Hid (Blk wr w.heap.size 72 #[.slice ca cn cc, .slice wa wn wc]) ∧ Below w.heap.size w wr) (fun i _ => wn - (intOf i).toNat)
          case atStart => exact ⟨0, Nat.zero_le _, rfl, hide rfl, K2, hB2⟩
          case round =>
            obtain ⟨k, hk, rfl, HX, KR, hBr⟩ := hrel
            by_cases hlt : k < wn
            · have i1 : (0 : Int) ≤ (k : Int) := by omega
              have i2 : (k : Int) < (wn : Int) := by omega
              obtain ⟨x1, x2, x3, -, -⟩ := blk2 KR.out
              have HI := hide (contains_any (k : Int) ca cn cc cf wr h1 ((HC.out.below hBr (Nat.le_refl _)).more hBr.size))
              rcases hv : anyTo (fun j => cf j == (k : Int)) cn with _ | _
              · rw [hv] at HI
                have h5 : (!anyTo (fun i => !anyTo (fun k => cf k == (i : Int)) cn) wn) = false := by
                  rw [Bool.not_eq_false', anyTo_iff]
                  exact ⟨k, hlt, by rw [hv]; rfl⟩
                have H5 := hide h5.symm
                clear hv h5
                go_wp2_with fail
                refine HI.out.mono ?_
                rintro e w3 ⟨rfl, rfl⟩
                go_wp2_with fail
                go_ret
                exact ⟨ret_bool H5.out, hBr⟩
              · rw [hv] at HI
                have h5 : anyTo (fun i => !anyTo (fun k => cf k == (i : Int)) cn) (k + 1) = false := by
                  rw [show anyTo (fun i => !anyTo (fun k => cf k == (i : Int)) cn) (k + 1) = (anyTo (fun i => !anyTo (fun k => cf k == (i : Int)) cn) k || !anyTo (fun j => cf j == (k : Int)) cn) from rfl, HX.out, hv]; rfl
                have H5 := hide h5
                clear hv h5
                go_wp2_with fail
                refine HI.out.mono ?_
                rintro e w3 ⟨rfl, rfl⟩
                go_wp2_with fail
                go_roundw
                case rel => exact ⟨k + 1, by omega, by go_num, H5, KR, hBr⟩
                case measure => simp [intOf]; omega
            · obtain rfl : k = wn := by omega
              have i2 : ¬ (k : Int) < (k : Int) := by omega
              go_wp2_with fail
              go_ret
              exact ⟨ret_bool (by rw [HX.out]; rfl), hBr⟩
    · rw [decide_eq_false g2, decide_eq_true (rfl : (cn : Int) = (cn : Int)), Bool.true_and, Bool.false_and]
      have g3 : (cn : Int) < (wn : Int) := by omega
      go_enter Try.func92, Try.ntmps92
      go_wp2_with fail
      go_ret
      exact ⟨rfl, HB.out⟩
  · rw [decide_eq_false g1, Bool.false_and]
    have g3 : ((cn : Int) != m) = true := by simp [g1]
    go_enter Try.func92, Try.ntmps92
    go_wp2_with fail
    go_ret
    exact ⟨rfl, HB.out⟩
end Go.Proofs.Ytlhekifmkkgjlaa
