/- Contracts of chapter 8 on stacks: a brick that hangs. -/
import Derived.Test.YtlhekifmkkgjlaaKr
set_option linter.unusedSimpArgs false
set_option linter.unusedVariables false
set_option linter.unnecessarySimpa false
namespace Go.Proofs.Ytlhekifmkkgjlaa
open Go Go.RowKit Go.Shelf
attribute [local go_sem] Oper.semAt_some
set_option maxHeartbeats 1000000
def hangP (s : Stk) (t i : Nat) : Bool := decide ((restL s t i).length = 0)
def hangF (s : Stk) : Int × Int := firstOf (hangP s) (bricksTo s.wn s.nt)
theorem hangs1_any (p : Nat) (s : Stk) (x : Brk s) (w : World) (hp : PileB w p s) (hs : StkR w w.heap.size s) (hc : ∀ k, k < s.nt → s.cn k = s.cn x.1.1) :
    Calls Try.prog 103 #[.agg #[.int .i64 x.1.1, .int .i64 x.1.2], .pointer (some ⟨p, 0, none⟩)] w fun e w' => e = .returned (.bool (hangP s x.1.1 x.1.2)) ∧ Below w.heap.size w w' := by
  have hb := (Below.refl w.heap.size w).alloc (Nat.le_refl _) (.cells #[.int .i64 x.1.1, .int .i64 x.1.2] 59)
  have HC := hide (rests_any s x.1.1 x.1.2 (w.alloc (.cells #[.int .i64 x.1.1, .int .i64 x.1.2] 59)) ((hs.below hb (Nat.le_refl _)).more (by simp)) x.2.1 hc)
  have c0 := Blk.cell hp 0
  have c1 := Blk.cell hp 1
  have c2 := Blk.cell hp 2
  simp at c0 c1 c2
  have z0 := Blk.lt hp
  have HB := hide hb
  clear hs hc hp hb
  go_enter Try.func103, Try.ntmps103
  go_wp2_with fail
  refine HC.out.mono ?_
  rintro e w1 ⟨v, rfl, hown, hb1⟩
  obtain ⟨A, c, rfl⟩ := own_shape hown
  have HO := hide hown
  clear hown
  go_wp2_with fail
  go_ret
  refine ⟨?_, HB.out.trans (hb1.mono (by simp))⟩
  have e : (((restL s x.1.1 x.1.2).length : Int) == 0) = hangP s x.1.1 x.1.2 := by rw [Bool.eq_iff_iff]; simp [hangP]
  rw [← e]
  rfl
theorem hangs_any (s : Stk) (m : Nat) (w : World) (hs : StkR w w.heap.size s) (hc : ∀ k, k < s.nt → s.cn k = m) :
    Calls Try.prog 73 #[.agg #[.int .i64 s.wd, .int .i64 s.hg, .slice s.A s.nt s.cap]] w fun e w' => e = .returned (brV (hangF s)) ∧ Below w.heap.size w w' := by
  have hb := ((Below.refl w.heap.size w).alloc (Nat.le_refl _) (.cells #[.int .i64 s.wd, .int .i64 s.hg, .slice s.A s.nt s.cap] 131)).alloc (by simp) (.cells #[.int .i64 0, .int .i64 0] 59)
  have hp : PileB (w.alloc (.cells #[.int .i64 s.wd, .int .i64 s.hg, .slice s.A s.nt s.cap] 131)) w.heap.size s := Blk.new _ _ _
  have HC := hide (first_any 103 #[.pointer (some ⟨w.heap.size, 0, none⟩)] (hangP s) s ((w.alloc (.cells #[.int .i64 s.wd, .int .i64 s.hg, .slice s.A s.nt s.cap] 131)).alloc (.cells #[.int .i64 0, .int .i64 0] 59)) ((hs.below hb (Nat.le_refl _)).more (by simp only [World.size_alloc]; omega)) (enters_of Try.func103 (by kernel_rfl) rfl)
    (fun W x hW => hangs1_any w.heap.size s x W (Blk.ext (Blk.alloc hp _) hW) ((hs.below (hb.trans (hW.mono (by simp only [World.size_alloc]; omega))) (Nat.le_refl _)).more (by have := hW.size; have := hb.size; omega)) (fun k hk => by rw [hc k hk, hc _ x.2.1])))
  have HB := hide hb
  have k2 := Blk.new (w.alloc (.cells #[.int .i64 s.wd, .int .i64 s.hg, .slice s.A s.nt s.cap] 131)) 59 #[.int .i64 0, .int .i64 0]
  have K2 := hide k2
  unfold hangF
  generalize firstOf (hangP s) (bricksTo s.wn s.nt) = R at HC ⊢
  unfold brV at HC ⊢
  clear hs hc hb hp k2
  go_enter Try.func73, Try.ntmps73
  go_wp2_with fail
  refine HC.out.mono ?_
  rintro e w1 ⟨rfl, hb1⟩
  obtain ⟨g1, g2, g3, g4, g5⟩ := blk2 (K2.out.ext hb1)
  simp only [World.size_alloc] at g1 g2 g3 g4 g5
  go_wp2_with fail
  have hP := (K2.out.ext hb1).set2 (.int .i64 R.1) (.int .i64 R.2)
  simp only [World.size_alloc] at hP
  obtain ⟨f1, f2, f3, f4, f5⟩ := blk2 hP
  refine bodyPost_ret (v := .agg #[.int .i64 R.1, .int .i64 R.2]) (by simp [results, Try.results73, go_sem, *]) rfl ⟨rfl, ?_⟩
  exact set2B (HB.out.trans (hb1.mono (by simp only [World.size_alloc]; omega))) (by omega) _ _
end Go.Proofs.Ytlhekifmkkgjlaa
