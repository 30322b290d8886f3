/- The law KilnBears: a stack that is refused. -/
import Derived.Test.YtlhekifmkkgjlaaNr
set_option linter.unusedSimpArgs false
set_option linter.unusedVariables false
set_option linter.unnecessarySimpa false
namespace Go.Proofs.Ytlhekifmkkgjlaa
open Go Go.RowKit Go.Shelf
set_option maxHeartbeats 4000000
set_option maxRecDepth 100000
theorem no_big {s : Stk} {M : Nat} (hb : ∀ k, k < s.nt → s.cn k ≤ M ∧ s.wn k ≤ M) : ∀ k, k < s.nt → ¬ (M : Int) < (s.cn k : Int) ∧ ¬ (M : Int) < (s.wn k : Int) := fun k hk => by
  have := hb k hk; omega
theorem Loads_err {s : Stk} (h : ¬ (stackB s = true ∧ (hangF s).1 < 0 ∧ LoadsB s = true)) : ∃ E : Int, E ≠ 0 ∧ ∀ (s' : Stk) (W : World), StkR W W.heap.size s' → stackB s' = stackB s → hangF s' = hangF s → LoadsB s' = LoadsB s →
    Calls Try.prog 32 #[.agg #[.int .i64 s'.wd, .int .i64 s'.hg, .slice s'.A s'.nt s'.cap]] W fun e w' => e = .returned (.tuple #[.slice none 0 0, .slice none 0 0, .int .i64 E]) ∧ Below W.heap.size W w' := by
  rcases h1 : stackB s with _ | _
  · exact ⟨2, by omega, fun s' W hs e1 _ _ => Loads_arg s' W hs e1⟩
  · by_cases h2 : (hangF s).1 < 0
    · rcases h3 : LoadsB s with _ | _
      · exact ⟨10, by omega, fun s' W hs e1 e2 e3 => Loads_over s' W hs e1 (by rw [e2]; exact h2) e3⟩
      · exact absurd ⟨h1, h2, h3⟩ h
    · exact ⟨80, by omega, fun s' W hs e1 e2 _ => Loads_falls s' W hs e1 (by rw [e2]; omega)⟩
theorem bears_err (s : Stk) (UA : Option Addr) (uc : Nat) (w : World) (hs : StkR w w.heap.size s) (hnt : s.nt ≤ 8) (hb : ∀ k, k < s.nt → s.cn k ≤ 36 ∧ s.wn k ≤ 36) (h : ¬ (stackB s = true ∧ (hangF s).1 < 0 ∧ LoadsB s = true)) : Calls Try.prog 8 #[.agg #[.int .i64 s.wd, .int .i64 s.hg, .slice s.A s.nt s.cap], .slice UA s.nt uc] w fun e w' => e = .returned (.bool true) ∧ Below w.heap.size w w' := by
  obtain ⟨E, hE, hL⟩ := Loads_err h
  have hE2 : (E != 0) = true := by simpa using hE
  have HK := hide known_any
  have HL := hide hL
  have HSS := hide hs
  have HBB := hide hb
  have HB := hide ((Below.refl w.heap.size w).alloc (Nat.le_refl _) (.cells #[.int .i64 s.wd, .int .i64 s.hg, .slice s.A s.nt s.cap] 55))
  have KS := hide (Blk.new w 55 #[.int .i64 s.wd, .int .i64 s.hg, .slice s.A s.nt s.cap])
  clear hs hb hL hE h
  go_enter Try.func8, Try.ntmps8
  go_wp2_with fail
  generalize (w.alloc (.cells #[.int .i64 s.wd, .int .i64 s.hg, .slice s.A s.nt s.cap] 55)) = W1 at HB KS ⊢
  obtain ⟨a0, a1, a2, a3, a4, a5, a6⟩ := blk3 KS.out
  go_loop [5] (fun i => ∃ k : Nat, i = .int .i64 k ∧ k ≤ s.nt) (fun i => s.nt - (intOf i).toNat)
  case atStart => exact ⟨0, rfl, by omega⟩
  case round =>
    obtain ⟨k, rfl, hk⟩ := hrel
    by_cases hlt : k < s.nt
    · obtain ⟨tb, toff, hA, htb, hu, hv⟩ := P2.at_ (HSS.out.2.1.below HB.out (Nat.le_refl _)) hlt
      rw [hA] at a3
      have i1 : (0 : Int) ≤ (k : Int) := by omega
      have i2 : (k : Int) < (s.nt : Int) := by omega
      obtain ⟨b1, b2⟩ := no_big HBB.out k hlt
      obtain ⟨b3, b4⟩ := HBB.out k hlt
      have b1' : ¬ (36 : Int) < (s.cn k : Int) := b1
      have b2' : ¬ (36 : Int) < (s.wn k : Int) := b2
      unfold Stk.u at hu
      unfold Stk.v at hv
      go_wp2_with fail
      go_round
      case rel => exact ⟨k + 1, by go_num, by omega⟩
      case measure => simp [intOf]; omega
    · obtain rfl : k = s.nt := by omega
      have c8' : ¬ (8 : Int) < (s.nt : Int) := by omega
      go_wp2_with fail
      refine (own_any s _ ((HSS.out.below HB.out (Nat.le_refl _)).more HB.out.size) (by omega) (fun k hk => by have := HBB.out k hk; omega)).mono ?_
      rintro e w2 ⟨A, c, ca, wa, cc, wc, rfl, hs2, hb2⟩
      have HS2 := hide hs2
      have HB2 := hide (HB.out.trans (hb2.mono HB.out.size))
      clear hb2 hs2
      go_wp2_with fail
      refine (HL.out (s.at A c ca wa cc wc) _ HS2.out rfl rfl rfl).mono ?_
      rintro e w3 ⟨rfl, hb3⟩
      have HB3 := hide (HB2.out.trans (hb3.mono HB2.out.size))
      clear hb3
      go_wp2_with fail
      refine (HK.out _).mono ?_
      rintro e w4 ⟨rfl, hb4⟩
      go_wp2_with fail
      go_ret
      exact ⟨rfl, HB3.out.trans (hb4.mono HB3.out.size)⟩
end Go.Proofs.Ytlhekifmkkgjlaa
