/- The law KilnBears: its cases joined. -/
import Derived.Test.YtlhekifmkkgjlaaNu
import Derived.Test.YtlhekifmkkgjlaaOpens4
set_option linter.unusedSimpArgs false
set_option linter.unusedVariables false
set_option linter.unnecessarySimpa false
namespace Go.Proofs.Ytlhekifmkkgjlaa
open Go Go.RowKit Go.Shelf
theorem bears_law (s : Stk) (UA : Option Addr) (un uc : Nat) (v : Nat → Int) (w : World) (hq : StkQ w s) (hun : un ≤ maxLen) (hu : ER w w.heap.size 1 UA un (fun k _ => .int .u16 (v k))) (hv : ∀ k, k < un → 0 ≤ v k ∧ v k ≤ 65535) :
    Calls Try.prog 8 #[.agg #[.int .i64 s.wd, .int .i64 s.hg, .slice s.A s.nt s.cap], .slice UA un uc] w fun e w' => e = .returned (.bool true) ∧ Below w.heap.size w w' := by
  by_cases hg : anyTo (bigB s 36) s.nt = true ∨ 8 < s.nt ∨ un ≠ s.nt
  · exact bears_guard s UA un uc w hq.loose hun hg
  · have hn : s.nt ≤ 8 := by omega
    have hb : ∀ k, k < s.nt → s.cn k ≤ 36 ∧ s.wn k ≤ 36 := fun k hk => by
      apply Classical.byContradiction
      intro h
      refine hg (.inl ((anyTo_iff _ _).2 ⟨k, hk, ?_⟩))
      unfold bigB
      rw [Bool.or_eq_true, decide_eq_true_eq, decide_eq_true_eq]
      omega
    obtain rfl : un = s.nt := by omega
    have hs := hq.tight (by omega) (fun k hk => by have := hb k hk; omega)
    by_cases h : stackB s = true ∧ (hangF s).1 < 0 ∧ LoadsB s = true
    · exact bears_main s UA uc v w hs hu hv hn hb h.1 h.2.1 h.2.2
    · exact bears_err s UA uc w hs hn hb h
end Go.Proofs.Ytlhekifmkkgjlaa
