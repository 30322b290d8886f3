/- Chapter 8: is a stack large; a copy of a stack. -/
import Derived.Test.YtlhekifmkkgjlaaKz
import Derived.Test.YtlhekifmkkgjlaaBoxes
set_option linter.unusedSimpArgs false
set_option linter.unusedVariables false
set_option linter.unnecessarySimpa false
namespace Go.Proofs.Ytlhekifmkkgjlaa
open Go Go.RowKit Go.Shelf
set_option maxHeartbeats 4000000
set_option maxRecDepth 100000
/-- the tiers of a stack, whatever their lengths -/
def StkV (w : World) (s : Stk) : Prop := s.nt ≤ maxLen ∧ P2 w w.heap.size s.A s.nt s.u s.v ∧ ∀ k, k < s.nt → s.cn k ≤ maxLen ∧ s.wn k ≤ maxLen
def bigB (s : Stk) (M : Nat) (k : Nat) : Bool := decide (M < s.cn k) || decide (M < s.wn k)
def largeB (s : Stk) : Bool := anyTo (bigB s 150) s.nt || decide (12 < s.nt)
theorem large_any (s : Stk) (w : World) (hs : StkV w s) : Calls Try.prog 25 #[.agg #[.int .i64 s.wd, .int .i64 s.hg, .slice s.A s.nt s.cap]] w fun e w' => e = .returned (.bool (largeB s)) ∧ Below w.heap.size w w' := by
  have HS := hide hs
  have hn := hs.1
  unfold maxLen at hn
  have HB := hide ((Below.refl w.heap.size w).alloc (Nat.le_refl _) (.cells #[.int .i64 s.wd, .int .i64 s.hg, .slice s.A s.nt s.cap] 55))
  have KS := hide (Blk.new w 55 #[.int .i64 s.wd, .int .i64 s.hg, .slice s.A s.nt s.cap])
  clear hs
  go_enter Try.func25, Try.ntmps25
  go_wp2_with fail
  generalize (w.alloc (.cells #[.int .i64 s.wd, .int .i64 s.hg, .slice s.A s.nt s.cap] 55)) = W1 at HB KS ⊢
  obtain ⟨a0, a1, a2, a3, a4, a5, a6⟩ := blk3 KS.out
  go_loop [3] (fun i => ∃ k : Nat, i = .int .i64 k ∧ k ≤ s.nt ∧ Hid (anyTo (bigB s 150) k = false)) (fun i => s.nt - (intOf i).toNat)
  case atStart => exact ⟨0, rfl, by omega, hide rfl⟩
  case round =>
    obtain ⟨k, rfl, hk, HN⟩ := hrel
    by_cases hlt : k < s.nt
    · obtain ⟨tb, toff, hA, htb, hu, hv⟩ := P2.at_ (HS.out.2.1.below HB.out (Nat.le_refl _)) hlt
      obtain ⟨l1, l2⟩ := HS.out.2.2 k hlt
      unfold maxLen at l1 l2
      rw [hA] at a3
      have i1 : (0 : Int) ≤ (k : Int) := by omega
      have i2 : (k : Int) < (s.nt : Int) := by omega
      unfold Stk.u at hu
      unfold Stk.v at hv
      have hbig : bigB s 150 k = true → largeB s = true := fun h => by
        unfold largeB
        rw [(anyTo_iff _ _).2 ⟨k, hlt, h⟩, Bool.true_or]
      have HBG := hide hbig
      clear hbig
      by_cases c1 : 150 < s.cn k
      · have c1' : (150 : Int) < (s.cn k : Int) := by omega
        have HX := hide c1
        clear c1
        go_wp2_with fail
        go_ret
        exact ⟨by rw [HBG.out (by unfold bigB; rw [decide_eq_true HX.out, Bool.true_or])]; rfl, HB.out⟩
      · have c1' : ¬ (150 : Int) < (s.cn k : Int) := by omega
        by_cases c2 : 150 < s.wn k
        · have c2' : (150 : Int) < (s.wn k : Int) := by omega
          have HX := hide c2
          clear c1 c2
          go_wp2_with fail
          go_ret
          exact ⟨by rw [HBG.out (by unfold bigB; rw [decide_eq_true HX.out, Bool.or_true])]; rfl, HB.out⟩
        · have c2' : ¬ (150 : Int) < (s.wn k : Int) := by omega
          have HX : Hid (bigB s 150 k = false) := hide (by unfold bigB; rw [decide_eq_false c1, decide_eq_false c2]; rfl)
          clear c1 c2
          go_wp2_with fail
          go_round
          case rel => exact ⟨k + 1, by go_num, by omega, hide (by show (anyTo (bigB s 150) k || bigB s 150 k) = false; rw [HN.out, HX.out]; rfl)⟩
          case measure => simp [intOf]; omega
    · obtain rfl : k = s.nt := by omega
      have HL : Hid (largeB s = decide ((12 : Int) < (s.nt : Int))) := hide (by unfold largeB; rw [HN.out, Bool.false_or, Bool.eq_iff_iff]; simp; omega)
      go_wp2_with fail
      go_ret
      exact ⟨by rw [HL.out]; rfl, HB.out⟩
end Go.Proofs.Ytlhekifmkkgjlaa
