/- The law KilnBears, its guards. -/
import Derived.Test.YtlhekifmkkgjlaaNb
import Derived.Test.YtlhekifmkkgjlaaNf
import Derived.Test.YtlhekifmkkgjlaaNq
import Derived.Test.YtlhekifmkkgjlaaLc
set_option linter.unusedSimpArgs false
set_option linter.unusedVariables false
set_option linter.unnecessarySimpa false
namespace Go.Proofs.Ytlhekifmkkgjlaa
open Go Go.RowKit Go.Shelf
set_option maxHeartbeats 4000000
set_option maxRecDepth 100000
theorem bears_guard (s : Stk) (UA : Option Addr) (un uc : Nat) (w : World) (hs : StkV w s) (hun : un ≤ maxLen) (hg : anyTo (bigB s 36) s.nt = true ∨ 8 < s.nt ∨ un ≠ s.nt) : Calls Try.prog 8 #[.agg #[.int .i64 s.wd, .int .i64 s.hg, .slice s.A s.nt s.cap], .slice UA un uc] w fun e w' => e = .returned (.bool true) ∧ Below w.heap.size w w' := by
  have HK := hide known_any
  have HS := hide hs
  have HG := hide hg
  have hn := hs.1
  unfold maxLen at hn hun
  have HB := hide ((Below.refl w.heap.size w).alloc (Nat.le_refl _) (.cells #[.int .i64 s.wd, .int .i64 s.hg, .slice s.A s.nt s.cap] 55))
  have KS := hide (Blk.new w 55 #[.int .i64 s.wd, .int .i64 s.hg, .slice s.A s.nt s.cap])
  clear hs hg
  go_enter Try.func8, Try.ntmps8
  go_wp2_with fail
  generalize (w.alloc (.cells #[.int .i64 s.wd, .int .i64 s.hg, .slice s.A s.nt s.cap] 55)) = W1 at HB KS ⊢
  obtain ⟨a0, a1, a2, a3, a4, a5, a6⟩ := blk3 KS.out
  go_loop [5] (fun i => ∃ k : Nat, i = .int .i64 k ∧ k ≤ s.nt ∧ Hid (anyTo (bigB s 36) k = false)) (fun i => s.nt - (intOf i).toNat)
  case atStart => exact ⟨0, rfl, by omega, hide rfl⟩
  case round =>
    obtain ⟨k, rfl, hk, HN⟩ := hrel
    by_cases hlt : k < s.nt
    · obtain ⟨tb, toff, hA, htb, hu, hv⟩ := P2.at_ (HS.out.2.1.below HB.out (Nat.le_refl _)) hlt
      obtain ⟨l1, l2⟩ := HS.out.2.2 k hlt
      unfold maxLen at l1 l2
      rw [hA] at a3
      have i1 : (0 : Int) ≤ (k : Int) := by omega
      have i2 : (k : Int) < (s.nt : Int) := by omega
      unfold Stk.u at hu
      unfold Stk.v at hv
      by_cases c1 : 36 < s.cn k
      · have c1' : (36 : Int) < (s.cn k : Int) := by omega
        clear c1
        go_wp2_with fail
        refine (HK.out _).mono ?_
        rintro e w2 ⟨rfl, hb2⟩
        go_wp2_with fail
        go_ret
        exact ⟨rfl, HB.out.trans (hb2.mono HB.out.size)⟩
      · have c1' : ¬ (36 : Int) < (s.cn k : Int) := by omega
        by_cases c2 : 36 < s.wn k
        · have c2' : (36 : Int) < (s.wn k : Int) := by omega
          clear c1 c2
          go_wp2_with fail
          refine (HK.out _).mono ?_
          rintro e w2 ⟨rfl, hb2⟩
          go_wp2_with fail
          go_ret
          exact ⟨rfl, HB.out.trans (hb2.mono HB.out.size)⟩
        · have c2' : ¬ (36 : Int) < (s.wn k : Int) := by omega
          have HX : Hid (bigB s 36 k = false) := hide (by unfold bigB; rw [decide_eq_false c1, decide_eq_false c2]; rfl)
          clear c1 c2
          go_wp2_with fail
          go_round
          case rel => exact ⟨k + 1, by go_num, by omega, hide (by show (anyTo (bigB s 36) k || bigB s 36 k) = false; rw [HN.out, HX.out]; rfl)⟩
          case measure => simp [intOf]; omega
    · obtain rfl : k = s.nt := by omega
      have hg2 : 8 < s.nt ∨ un ≠ s.nt := by
        rcases HG.out with h | h
        · rw [HN.out] at h; cases h
        · exact h
      by_cases c8 : 8 < s.nt
      · have c8' : (8 : Int) < (s.nt : Int) := by omega
        clear hg2 c8
        go_wp2_with fail
        refine (HK.out _).mono ?_
        rintro e w2 ⟨rfl, hb2⟩
        go_wp2_with fail
        go_ret
        exact ⟨rfl, HB.out.trans (hb2.mono HB.out.size)⟩
      · have c8' : ¬ (8 : Int) < (s.nt : Int) := by omega
        have cn' : ((un : Int) != (s.nt : Int)) = true := by simp; omega
        clear hg2 c8
        go_wp2_with fail
        refine (HK.out _).mono ?_
        rintro e w2 ⟨rfl, hb2⟩
        go_wp2_with fail
        go_ret
        exact ⟨rfl, HB.out.trans (hb2.mono HB.out.size)⟩
theorem at_same (s : Stk) (A : Option Addr) (c : Nat) (ca wa : Nat → Option Addr) (cc wc : Nat → Nat) : stackB (s.at A c ca wa cc wc) = stackB s ∧ hangF (s.at A c ca wa cc wc) = hangF s ∧ LoadsB (s.at A c ca wa cc wc) = LoadsB s ∧ LoadsL (s.at A c ca wa cc wc) = LoadsL s ∧ crushP (s.at A c ca wa cc wc) = crushP s := ⟨rfl, rfl, rfl, rfl, rfl⟩
end Go.Proofs.Ytlhekifmkkgjlaa
