/- Chapter 8: Crushed. -/
import Derived.Test.YtlhekifmkkgjlaaCrushesC
import Derived.Test.YtlhekifmkkgjlaaRows
import Derived.ProofKit
import Derived.OpenShut
import Derived.Carry
import Derived.ChangeSame
import Derived.Deep.SlicePairs
import Derived.ChangeSlices
import Derived.Deep.CutBlock
import Derived.Deep.DeepCutAuto
set_option linter.unusedSimpArgs false
set_option linter.unusedVariables false
set_option linter.unnecessarySimpa false
namespace Go.Proofs.Ytlhekifmkkgjlaa
open Go Go.RowKit Go.Shelf
set_option maxHeartbeats 4000000
set_option maxRecDepth 100000
theorem Crushed_arg (BA : Option Addr) (bn bc : Nat) (be : Nat → Int) (s : Stk) (w : World) (hs : StkR w w.heap.size s) (hbe : IR w w.heap.size BA bn be) (hbn : bn ≤ 1000000) (h : stackB s = false) : Calls Try.prog 26 #[.agg #[.int .i64 s.wd, .int .i64 s.hg, .slice s.A s.nt s.cap], .slice BA bn bc] w fun e w' => e = .returned (.tuple #[.agg #[.int .i64 0, .int .i64 0], .int .i64 2]) ∧ Below w.heap.size w w' := by
  have he := stkE_no h
  have HB := hide ((((Below.refl w.heap.size w).alloc (Nat.le_refl _) (.cells #[.int .i64 s.wd, .int .i64 s.hg, .slice s.A s.nt s.cap] 55)).alloc (by simp) (.cells #[.slice BA bn bc] 56)).alloc (by simp only [World.size_alloc]; omega) (.cells #[.int .i64 0, .int .i64 0] 59))
  have KS := hide (((Blk.new w 55 #[.int .i64 s.wd, .int .i64 s.hg, .slice s.A s.nt s.cap]).alloc (.cells #[.slice BA bn bc] 56)).alloc (.cells #[.int .i64 0, .int .i64 0] 59))
  have KB := hide (show Blk (((w.alloc (.cells #[.int .i64 s.wd, .int .i64 s.hg, .slice s.A s.nt s.cap] 55)).alloc (.cells #[.slice BA bn bc] 56)).alloc (.cells #[.int .i64 0, .int .i64 0] 59)) (w.heap.size + 1) 56 #[.slice BA bn bc] from by simpa using (Blk.new (w.alloc (.cells #[.int .i64 s.wd, .int .i64 s.hg, .slice s.A s.nt s.cap] 55)) 56 #[.slice BA bn bc]).alloc (.cells #[.int .i64 0, .int .i64 0] 59))
  have KK := hide (show Blk (((w.alloc (.cells #[.int .i64 s.wd, .int .i64 s.hg, .slice s.A s.nt s.cap] 55)).alloc (.cells #[.slice BA bn bc] 56)).alloc (.cells #[.int .i64 0, .int .i64 0] 59)) (w.heap.size + 1 + 1) 59 #[.int .i64 0, .int .i64 0] from by simpa using Blk.new ((w.alloc (.cells #[.int .i64 s.wd, .int .i64 s.hg, .slice s.A s.nt s.cap] 55)).alloc (.cells #[.slice BA bn bc] 56)) 59 #[.int .i64 0, .int .i64 0])
  have HSS := hide hs
  have HBE := hide hbe
  clear hs hbe
  go_enter Try.func26, Try.ntmps26
  go_wp2_with fail
  generalize (((w.alloc (.cells #[.int .i64 s.wd, .int .i64 s.hg, .slice s.A s.nt s.cap] 55)).alloc (.cells #[.slice BA bn bc] 56)).alloc (.cells #[.int .i64 0, .int .i64 0] 59)) = W3 at HB KS KB KK ⊢
  refine (newPile_any s _ ((HSS.out.below HB.out (Nat.le_refl _)).more HB.out.size)).mono ?_
  rintro e w1 ⟨rfl, hb1⟩
  have HB1 := hide (HB.out.trans (hb1.mono HB.out.size))
  have KS1 := hide (KS.out.ext hb1)
  have KB1 := hide (KB.out.ext hb1)
  have KK1 := hide (KK.out.ext hb1)
  obtain ⟨a0, a1, a2, a3, a4, a5, a6⟩ := blk3 KS1.out
  obtain ⟨b0, b1, b2⟩ := blk1 KB1.out
  obtain ⟨c0, c1, c2, c3, c4⟩ := blk2 KK1.out
  clear hb1 KS KB KK HB
  rw [he]
  clear he h
  go_wp2_with fail
  refine bodyPost_ret (v := .tuple #[.agg #[.int .i64 0, .int .i64 0], .int .i64 2]) (by simp [results, Try.results26, go_sem, *]) rfl ⟨rfl, ?_⟩
  exact (set2B HB1.out (by omega) _ _).alloc (by have := HB1.out.size; simp [size_set]; omega) _
theorem Crushed_form (BA : Option Addr) (bn bc : Nat) (be : Nat → Int) (s : Stk) (w : World) (hs : StkR w w.heap.size s) (hbe : IR w w.heap.size BA bn be) (hbn : bn ≤ 1000000) (h : stackB s = true) (hf : bn ≠ s.nt) : Calls Try.prog 26 #[.agg #[.int .i64 s.wd, .int .i64 s.hg, .slice s.A s.nt s.cap], .slice BA bn bc] w fun e w' => e = .returned (.tuple #[.agg #[.int .i64 0, .int .i64 0], .int .i64 4]) ∧ Below w.heap.size w w' := by
  have he := stkE_ok h
  have hn := hs.1
  have HB := hide ((((Below.refl w.heap.size w).alloc (Nat.le_refl _) (.cells #[.int .i64 s.wd, .int .i64 s.hg, .slice s.A s.nt s.cap] 55)).alloc (by simp) (.cells #[.slice BA bn bc] 56)).alloc (by simp only [World.size_alloc]; omega) (.cells #[.int .i64 0, .int .i64 0] 59))
  have KS := hide (((Blk.new w 55 #[.int .i64 s.wd, .int .i64 s.hg, .slice s.A s.nt s.cap]).alloc (.cells #[.slice BA bn bc] 56)).alloc (.cells #[.int .i64 0, .int .i64 0] 59))
  have KB := hide (show Blk (((w.alloc (.cells #[.int .i64 s.wd, .int .i64 s.hg, .slice s.A s.nt s.cap] 55)).alloc (.cells #[.slice BA bn bc] 56)).alloc (.cells #[.int .i64 0, .int .i64 0] 59)) (w.heap.size + 1) 56 #[.slice BA bn bc] from by simpa using (Blk.new (w.alloc (.cells #[.int .i64 s.wd, .int .i64 s.hg, .slice s.A s.nt s.cap] 55)) 56 #[.slice BA bn bc]).alloc (.cells #[.int .i64 0, .int .i64 0] 59))
  have KK := hide (show Blk (((w.alloc (.cells #[.int .i64 s.wd, .int .i64 s.hg, .slice s.A s.nt s.cap] 55)).alloc (.cells #[.slice BA bn bc] 56)).alloc (.cells #[.int .i64 0, .int .i64 0] 59)) (w.heap.size + 1 + 1) 59 #[.int .i64 0, .int .i64 0] from by simpa using Blk.new ((w.alloc (.cells #[.int .i64 s.wd, .int .i64 s.hg, .slice s.A s.nt s.cap] 55)).alloc (.cells #[.slice BA bn bc] 56)) 59 #[.int .i64 0, .int .i64 0])
  have HSS := hide hs
  have HBE := hide hbe
  clear hs hbe
  go_enter Try.func26, Try.ntmps26
  go_wp2_with fail
  generalize (((w.alloc (.cells #[.int .i64 s.wd, .int .i64 s.hg, .slice s.A s.nt s.cap] 55)).alloc (.cells #[.slice BA bn bc] 56)).alloc (.cells #[.int .i64 0, .int .i64 0] 59)) = W3 at HB KS KB KK ⊢
  refine (newPile_any s _ ((HSS.out.below HB.out (Nat.le_refl _)).more HB.out.size)).mono ?_
  rintro e w1 ⟨rfl, hb1⟩
  have HB1 := hide (HB.out.trans (hb1.mono HB.out.size))
  have KS1 := hide (KS.out.ext hb1)
  have KB1 := hide (KB.out.ext hb1)
  have KK1 := hide (KK.out.ext hb1)
  obtain ⟨a0, a1, a2, a3, a4, a5, a6⟩ := blk3 KS1.out
  obtain ⟨b0, b1, b2⟩ := blk1 KB1.out
  obtain ⟨c0, c1, c2, c3, c4⟩ := blk2 KK1.out
  clear hb1 KS KB KK HB
  rw [he]
  clear he h
  have hf2 : ((bn : Int) != (s.nt : Int)) = true := by simp; omega
  have hf3 : ¬ (bn : Int) = (s.nt : Int) := by omega
  go_wp2_with fail
  refine bodyPost_ret (v := .tuple #[.agg #[.int .i64 0, .int .i64 0], .int .i64 4]) (by simp [results, Try.results26, go_sem, *]) rfl ⟨rfl, ?_⟩
  exact (set2B HB1.out (by omega) _ _).alloc (by have := HB1.out.size; simp [size_set]; omega) _
theorem Crushed_range (BA : Option Addr) (bn bc : Nat) (be : Nat → Int) (s : Stk) (w : World) (hs : StkR w w.heap.size s) (hbe : IR w w.heap.size BA bn be) (hbn : bn ≤ 1000000) (h : stackB s = true) (hf : bn = s.nt) (hr : wiB 0 1000000 be bn = false) : Calls Try.prog 26 #[.agg #[.int .i64 s.wd, .int .i64 s.hg, .slice s.A s.nt s.cap], .slice BA bn bc] w fun e w' => e = .returned (.tuple #[.agg #[.int .i64 0, .int .i64 0], .int .i64 3]) ∧ Below w.heap.size w w' := by
  have he := stkE_ok h
  have hn := hs.1
  have HFN := hide hf
  clear hf
  have HB := hide ((((Below.refl w.heap.size w).alloc (Nat.le_refl _) (.cells #[.int .i64 s.wd, .int .i64 s.hg, .slice s.A s.nt s.cap] 55)).alloc (by simp) (.cells #[.slice BA bn bc] 56)).alloc (by simp only [World.size_alloc]; omega) (.cells #[.int .i64 0, .int .i64 0] 59))
  have KS := hide (((Blk.new w 55 #[.int .i64 s.wd, .int .i64 s.hg, .slice s.A s.nt s.cap]).alloc (.cells #[.slice BA bn bc] 56)).alloc (.cells #[.int .i64 0, .int .i64 0] 59))
  have KB := hide (show Blk (((w.alloc (.cells #[.int .i64 s.wd, .int .i64 s.hg, .slice s.A s.nt s.cap] 55)).alloc (.cells #[.slice BA bn bc] 56)).alloc (.cells #[.int .i64 0, .int .i64 0] 59)) (w.heap.size + 1) 56 #[.slice BA bn bc] from by simpa using (Blk.new (w.alloc (.cells #[.int .i64 s.wd, .int .i64 s.hg, .slice s.A s.nt s.cap] 55)) 56 #[.slice BA bn bc]).alloc (.cells #[.int .i64 0, .int .i64 0] 59))
  have KK := hide (show Blk (((w.alloc (.cells #[.int .i64 s.wd, .int .i64 s.hg, .slice s.A s.nt s.cap] 55)).alloc (.cells #[.slice BA bn bc] 56)).alloc (.cells #[.int .i64 0, .int .i64 0] 59)) (w.heap.size + 1 + 1) 59 #[.int .i64 0, .int .i64 0] from by simpa using Blk.new ((w.alloc (.cells #[.int .i64 s.wd, .int .i64 s.hg, .slice s.A s.nt s.cap] 55)).alloc (.cells #[.slice BA bn bc] 56)) 59 #[.int .i64 0, .int .i64 0])
  have HSS := hide hs
  have HBE := hide hbe
  clear hs hbe
  go_enter Try.func26, Try.ntmps26
  go_wp2_with fail
  generalize (((w.alloc (.cells #[.int .i64 s.wd, .int .i64 s.hg, .slice s.A s.nt s.cap] 55)).alloc (.cells #[.slice BA bn bc] 56)).alloc (.cells #[.int .i64 0, .int .i64 0] 59)) = W3 at HB KS KB KK ⊢
  refine (newPile_any s _ ((HSS.out.below HB.out (Nat.le_refl _)).more HB.out.size)).mono ?_
  rintro e w1 ⟨rfl, hb1⟩
  have HB1 := hide (HB.out.trans (hb1.mono HB.out.size))
  have KS1 := hide (KS.out.ext hb1)
  have KB1 := hide (KB.out.ext hb1)
  have KK1 := hide (KK.out.ext hb1)
  obtain ⟨a0, a1, a2, a3, a4, a5, a6⟩ := blk3 KS1.out
  obtain ⟨b0, b1, b2⟩ := blk1 KB1.out
  obtain ⟨c0, c1, c2, c3, c4⟩ := blk2 KK1.out
  clear hb1 KS KB KK HB
  rw [he]
  clear he h
  have hf2 : ((bn : Int) != (s.nt : Int)) = false := by simp [HFN.out]
  have HR := hide (fun W (hb : Below w.heap.size w W) => within_any 0 1000000 BA bn bc be W (by unfold maxLen; omega) ((HBE.out.below hb (Nat.le_refl _)).more hb.size))
  rw [hr] at HR
  clear hr
  go_wp2_with fail
  refine (HR.out _ (HB1.out.alloc HB1.out.size _)).mono ?_
  rintro e w2 ⟨rfl, hb2⟩
  have HB2 := hide ((HB1.out.alloc HB1.out.size (.cells #[.int .i64 s.wd, .int .i64 s.hg, .slice s.A s.nt s.cap] 131)).trans (hb2.mono (by have := HB1.out.size; simp only [World.size_alloc]; omega)))
  have KS2 := hide ((KS1.out.alloc (.cells #[.int .i64 s.wd, .int .i64 s.hg, .slice s.A s.nt s.cap] 131)).ext hb2)
  have KB2 := hide ((KB1.out.alloc (.cells #[.int .i64 s.wd, .int .i64 s.hg, .slice s.A s.nt s.cap] 131)).ext hb2)
  have KK2 := hide ((KK1.out.alloc (.cells #[.int .i64 s.wd, .int .i64 s.hg, .slice s.A s.nt s.cap] 131)).ext hb2)
  have KP2 := hide (Blk.ext (Blk.new w1 131 #[.int .i64 s.wd, .int .i64 s.hg, .slice s.A s.nt s.cap]) hb2)
  clear hb2 a0 a1 a2 a3 a4 a5 a6 b0 b1 b2 c0 c1 c2 c3 c4
  obtain ⟨a0, a1, a2, a3, a4, a5, a6⟩ := blk3 KS2.out
  obtain ⟨b0, b1, b2⟩ := blk1 KB2.out
  obtain ⟨c0, c1, c2, c3, c4⟩ := blk2 KK2.out
  go_wp2_with fail
  refine bodyPost_ret (v := .tuple #[.agg #[.int .i64 0, .int .i64 0], .int .i64 3]) (by simp [results, Try.results26, go_sem, *]) rfl ⟨rfl, ?_⟩
  exact set2B HB2.out (by omega) _ _
theorem Crushed_loads (BA : Option Addr) (bn bc : Nat) (be : Nat → Int) (s : Stk) (w : World) (hs : StkR w w.heap.size s) (hbe : IR w w.heap.size BA bn be) (hbn : bn ≤ 1000000) (E : Int) (hE : E ≠ 0) (h : stackB s = true) (hf : bn = s.nt) (hr : wiB 0 1000000 be bn = true)
    (hl : ∀ W, Below w.heap.size w W → Calls Try.prog 32 #[.agg #[.int .i64 s.wd, .int .i64 s.hg, .slice s.A s.nt s.cap]] W fun e w' => e = .returned (.tuple #[.slice none 0 0, .slice none 0 0, .int .i64 E]) ∧ Below W.heap.size W w') : Calls Try.prog 26 #[.agg #[.int .i64 s.wd, .int .i64 s.hg, .slice s.A s.nt s.cap], .slice BA bn bc] w fun e w' => e = .returned (.tuple #[.agg #[.int .i64 0, .int .i64 0], .int .i64 E]) ∧ Below w.heap.size w w' := by
  have he := stkE_ok h
  have hn := hs.1
  have HFN := hide hf
  clear hf
  have HL := hide hl
  clear hl
  have HB := hide ((((Below.refl w.heap.size w).alloc (Nat.le_refl _) (.cells #[.int .i64 s.wd, .int .i64 s.hg, .slice s.A s.nt s.cap] 55)).alloc (by simp) (.cells #[.slice BA bn bc] 56)).alloc (by simp only [World.size_alloc]; omega) (.cells #[.int .i64 0, .int .i64 0] 59))
  have KS := hide (((Blk.new w 55 #[.int .i64 s.wd, .int .i64 s.hg, .slice s.A s.nt s.cap]).alloc (.cells #[.slice BA bn bc] 56)).alloc (.cells #[.int .i64 0, .int .i64 0] 59))
  have KB := hide (show Blk (((w.alloc (.cells #[.int .i64 s.wd, .int .i64 s.hg, .slice s.A s.nt s.cap] 55)).alloc (.cells #[.slice BA bn bc] 56)).alloc (.cells #[.int .i64 0, .int .i64 0] 59)) (w.heap.size + 1) 56 #[.slice BA bn bc] from by simpa using (Blk.new (w.alloc (.cells #[.int .i64 s.wd, .int .i64 s.hg, .slice s.A s.nt s.cap] 55)) 56 #[.slice BA bn bc]).alloc (.cells #[.int .i64 0, .int .i64 0] 59))
  have KK := hide (show Blk (((w.alloc (.cells #[.int .i64 s.wd, .int .i64 s.hg, .slice s.A s.nt s.cap] 55)).alloc (.cells #[.slice BA bn bc] 56)).alloc (.cells #[.int .i64 0, .int .i64 0] 59)) (w.heap.size + 1 + 1) 59 #[.int .i64 0, .int .i64 0] from by simpa using Blk.new ((w.alloc (.cells #[.int .i64 s.wd, .int .i64 s.hg, .slice s.A s.nt s.cap] 55)).alloc (.cells #[.slice BA bn bc] 56)) 59 #[.int .i64 0, .int .i64 0])
  have HSS := hide hs
  have HBE := hide hbe
  clear hs hbe
  go_enter Try.func26, Try.ntmps26
  go_wp2_with fail
  generalize (((w.alloc (.cells #[.int .i64 s.wd, .int .i64 s.hg, .slice s.A s.nt s.cap] 55)).alloc (.cells #[.slice BA bn bc] 56)).alloc (.cells #[.int .i64 0, .int .i64 0] 59)) = W3 at HB KS KB KK ⊢
  refine (newPile_any s _ ((HSS.out.below HB.out (Nat.le_refl _)).more HB.out.size)).mono ?_
  rintro e w1 ⟨rfl, hb1⟩
  have HB1 := hide (HB.out.trans (hb1.mono HB.out.size))
  have KS1 := hide (KS.out.ext hb1)
  have KB1 := hide (KB.out.ext hb1)
  have KK1 := hide (KK.out.ext hb1)
  obtain ⟨a0, a1, a2, a3, a4, a5, a6⟩ := blk3 KS1.out
  obtain ⟨b0, b1, b2⟩ := blk1 KB1.out
  obtain ⟨c0, c1, c2, c3, c4⟩ := blk2 KK1.out
  clear hb1 KS KB KK HB
  rw [he]
  clear he h
  have hf2 : ((bn : Int) != (s.nt : Int)) = false := by simp [HFN.out]
  have hE2 : (E != 0) = true := by simpa using hE
  have HR := hide (fun W (hb : Below w.heap.size w W) => within_any 0 1000000 BA bn bc be W (by unfold maxLen; omega) ((HBE.out.below hb (Nat.le_refl _)).more hb.size))
  rw [hr] at HR
  clear hr
  go_wp2_with fail
  refine (HR.out _ (HB1.out.alloc HB1.out.size _)).mono ?_
  rintro e w2 ⟨rfl, hb2⟩
  have HB2 := hide ((HB1.out.alloc HB1.out.size (.cells #[.int .i64 s.wd, .int .i64 s.hg, .slice s.A s.nt s.cap] 131)).trans (hb2.mono (by have := HB1.out.size; simp only [World.size_alloc]; omega)))
  have KS2 := hide ((KS1.out.alloc (.cells #[.int .i64 s.wd, .int .i64 s.hg, .slice s.A s.nt s.cap] 131)).ext hb2)
  have KB2 := hide ((KB1.out.alloc (.cells #[.int .i64 s.wd, .int .i64 s.hg, .slice s.A s.nt s.cap] 131)).ext hb2)
  have KK2 := hide ((KK1.out.alloc (.cells #[.int .i64 s.wd, .int .i64 s.hg, .slice s.A s.nt s.cap] 131)).ext hb2)
  have KP2 := hide (Blk.ext (Blk.new w1 131 #[.int .i64 s.wd, .int .i64 s.hg, .slice s.A s.nt s.cap]) hb2)
  clear hb2 a0 a1 a2 a3 a4 a5 a6 b0 b1 b2 c0 c1 c2 c3 c4
  obtain ⟨a0, a1, a2, a3, a4, a5, a6⟩ := blk3 KS2.out
  obtain ⟨b0, b1, b2⟩ := blk1 KB2.out
  obtain ⟨c0, c1, c2, c3, c4⟩ := blk2 KK2.out
  go_wp2_with fail
  refine (HL.out _ HB2.out).mono ?_
  rintro e w3 ⟨rfl, hb3⟩
  have HB3 := hide (HB2.out.trans (hb3.mono HB2.out.size))
  have KK3 := hide (KK2.out.ext hb3)
  clear hb3 a0 a1 a2 a3 a4 a5 a6 b0 b1 b2 c0 c1 c2 c3 c4
  obtain ⟨c0, c1, c2, c3, c4⟩ := blk2 KK3.out
  go_wp2_with fail
  refine bodyPost_ret (v := .tuple #[.agg #[.int .i64 0, .int .i64 0], .int .i64 E]) (by simp [results, Try.results26, go_sem, *]) rfl ⟨rfl, ?_⟩
  exact (set2B HB3.out (by omega) _ _).alloc (by have := HB3.out.size; simp [size_set]; omega) _
theorem Crushed_ok (BA : Option Addr) (bn bc : Nat) (be : Nat → Int) (s : Stk) (w : World) (hs : StkR w w.heap.size s) (hbe : IR w w.heap.size BA bn be) (hbn : bn ≤ 1000000) (h : stackB s = true) (hf : bn = s.nt) (hr : wiB 0 1000000 be bn = true) (hh : (hangF s).1 < 0) (ho : LoadsB s = true) :
    Calls Try.prog 26 #[.agg #[.int .i64 s.wd, .int .i64 s.hg, .slice s.A s.nt s.cap], .slice BA bn bc] w fun e w' => e = .returned (.tuple #[brV (firstOf (crushP s be) (bricksTo s.wn s.nt)), .int .i64 0]) ∧ Below w.heap.size w w' := by
  have he := stkE_ok h
  have hn := hs.1
  have HFN := hide hf
  clear hf
  have HL := hide (fun W (hb : Below w.heap.size w W) => Loads_ok s W ((hs.below hb (Nat.le_refl _)).more hb.size) h hh ho)
  have HH := hide hh
  have HST := hide h
  clear hh ho
  have HB := hide ((((Below.refl w.heap.size w).alloc (Nat.le_refl _) (.cells #[.int .i64 s.wd, .int .i64 s.hg, .slice s.A s.nt s.cap] 55)).alloc (by simp) (.cells #[.slice BA bn bc] 56)).alloc (by simp only [World.size_alloc]; omega) (.cells #[.int .i64 0, .int .i64 0] 59))
  have KS := hide (((Blk.new w 55 #[.int .i64 s.wd, .int .i64 s.hg, .slice s.A s.nt s.cap]).alloc (.cells #[.slice BA bn bc] 56)).alloc (.cells #[.int .i64 0, .int .i64 0] 59))
  have KB := hide (show Blk (((w.alloc (.cells #[.int .i64 s.wd, .int .i64 s.hg, .slice s.A s.nt s.cap] 55)).alloc (.cells #[.slice BA bn bc] 56)).alloc (.cells #[.int .i64 0, .int .i64 0] 59)) (w.heap.size + 1) 56 #[.slice BA bn bc] from by simpa using (Blk.new (w.alloc (.cells #[.int .i64 s.wd, .int .i64 s.hg, .slice s.A s.nt s.cap] 55)) 56 #[.slice BA bn bc]).alloc (.cells #[.int .i64 0, .int .i64 0] 59))
  have KK := hide (show Blk (((w.alloc (.cells #[.int .i64 s.wd, .int .i64 s.hg, .slice s.A s.nt s.cap] 55)).alloc (.cells #[.slice BA bn bc] 56)).alloc (.cells #[.int .i64 0, .int .i64 0] 59)) (w.heap.size + 1 + 1) 59 #[.int .i64 0, .int .i64 0] from by simpa using Blk.new ((w.alloc (.cells #[.int .i64 s.wd, .int .i64 s.hg, .slice s.A s.nt s.cap] 55)).alloc (.cells #[.slice BA bn bc] 56)) 59 #[.int .i64 0, .int .i64 0])
  have HSS := hide hs
  have HBE := hide hbe
  clear hs hbe
  go_enter Try.func26, Try.ntmps26
  go_wp2_with fail
  generalize (((w.alloc (.cells #[.int .i64 s.wd, .int .i64 s.hg, .slice s.A s.nt s.cap] 55)).alloc (.cells #[.slice BA bn bc] 56)).alloc (.cells #[.int .i64 0, .int .i64 0] 59)) = W3 at HB KS KB KK ⊢
  refine (newPile_any s _ ((HSS.out.below HB.out (Nat.le_refl _)).more HB.out.size)).mono ?_
  rintro e w1 ⟨rfl, hb1⟩
  have HB1 := hide (HB.out.trans (hb1.mono HB.out.size))
  have KS1 := hide (KS.out.ext hb1)
  have KB1 := hide (KB.out.ext hb1)
  have KK1 := hide (KK.out.ext hb1)
  obtain ⟨a0, a1, a2, a3, a4, a5, a6⟩ := blk3 KS1.out
  obtain ⟨b0, b1, b2⟩ := blk1 KB1.out
  obtain ⟨c0, c1, c2, c3, c4⟩ := blk2 KK1.out
  clear hb1 KS KB KK HB
  rw [he]
  clear he h
  have hf2 : ((bn : Int) != (s.nt : Int)) = false := by simp [HFN.out]
  have HR := hide (fun W (hb : Below w.heap.size w W) => within_any 0 1000000 BA bn bc be W (by unfold maxLen; omega) ((HBE.out.below hb (Nat.le_refl _)).more hb.size))
  rw [hr] at HR
  have HWI := hide hr
  clear hr
  go_wp2_with fail
  refine (HR.out _ (HB1.out.alloc HB1.out.size _)).mono ?_
  rintro e w2 ⟨rfl, hb2⟩
  have HB2 := hide ((HB1.out.alloc HB1.out.size (.cells #[.int .i64 s.wd, .int .i64 s.hg, .slice s.A s.nt s.cap] 131)).trans (hb2.mono (by have := HB1.out.size; simp only [World.size_alloc]; omega)))
  have KS2 := hide ((KS1.out.alloc (.cells #[.int .i64 s.wd, .int .i64 s.hg, .slice s.A s.nt s.cap] 131)).ext hb2)
  have KB2 := hide ((KB1.out.alloc (.cells #[.int .i64 s.wd, .int .i64 s.hg, .slice s.A s.nt s.cap] 131)).ext hb2)
  have KK2 := hide ((KK1.out.alloc (.cells #[.int .i64 s.wd, .int .i64 s.hg, .slice s.A s.nt s.cap] 131)).ext hb2)
  have KP2 := hide (Blk.ext (Blk.new w1 131 #[.int .i64 s.wd, .int .i64 s.hg, .slice s.A s.nt s.cap]) hb2)
  clear hb2 a0 a1 a2 a3 a4 a5 a6 b0 b1 b2 c0 c1 c2 c3 c4
  obtain ⟨a0, a1, a2, a3, a4, a5, a6⟩ := blk3 KS2.out
  obtain ⟨b0, b1, b2⟩ := blk1 KB2.out
  obtain ⟨c0, c1, c2, c3, c4⟩ := blk2 KK2.out
  go_wp2_with fail
  refine (HL.out _ HB2.out).mono ?_
  rintro e w3 ⟨z, v, hz, rfl, hb3, hrow, hown⟩
  have HB3 := hide (HB2.out.trans (hb3.mono HB2.out.size))
  have KK3 := hide (KK2.out.ext hb3)
  have KB3 := hide (KB2.out.ext hb3)
  have KP3 := hide (Blk.ext KP2.out hb3)
  have HRW := hide hrow
  have HOW := hide hown
  have hz3 := hrow.lt
  clear hb3 hrow hown a0 a1 a2 a3 a4 a5 a6 b0 b1 b2 c0 c1 c2 c3 c4
  obtain ⟨q0, q1, q2, q3, q4, q5, q6⟩ := blk3 KP3.out
  go_wp2_with fail
  have HBZ := hide (HB3.out.alloc HB3.out.size (.cells #[.slice (some ⟨z + 3, 0, none⟩) s.nt s.nt] 64))
  have KL := hide (Blk.new w3 64 #[.slice (some ⟨z + 3, 0, none⟩) s.nt s.nt])
  have KPZ := hide (KP3.out.alloc (.cells #[.slice (some ⟨z + 3, 0, none⟩) s.nt s.nt] 64))
  have KBZ := hide (KB3.out.alloc (.cells #[.slice (some ⟨z + 3, 0, none⟩) s.nt s.nt] 64))
  have KKZ := hide (KK3.out.alloc (.cells #[.slice (some ⟨z + 3, 0, none⟩) s.nt s.nt] 64))
  have HRZ := hide (HRW.out.alloc (.cells #[.slice (some ⟨z + 3, 0, none⟩) s.nt s.nt] 64))
  have HOZ := hide (fun k (hk : k ≤ s.nt) => World.ownsRow.alloc (HOW.out k hk) (.cells #[.slice (some ⟨z + 3, 0, none⟩) s.nt s.nt] 64))
  have hzz : w3.heap.size < (w3.alloc (.cells #[.slice (some ⟨z + 3, 0, none⟩) s.nt s.nt] 64)).heap.size := by simp
  generalize (w3.alloc (.cells #[.slice (some ⟨z + 3, 0, none⟩) s.nt s.nt] 64)) = w4 at HBZ KL KPZ KBZ KKZ HRZ HOZ hzz ⊢
  refine (first_any 68 #[.pointer (some ⟨w3.heap.size, 0, none⟩), .pointer (some ⟨w1.heap.size, 0, none⟩), .pointer (some ⟨w.heap.size + 1, 0, none⟩)] (crushP s be) s w4 ((HSS.out.below HBZ.out (Nat.le_refl _)).more HBZ.out.size) (enters_of Try.func68 (by kernel_rfl) rfl) (fun W x hW => ?_)).mono ?_
  · obtain ⟨⟨t, i⟩, ht, hi⟩ := x
    dsimp only at ht hi
    have hWb := HBZ.out.trans (hW.mono HBZ.out.size)
    have hlen := LoadsL_len ht
    obtain ⟨g, cap, hv, hob, hg, x1, x2, -, -⟩ := OwnL.at_ (HOZ.out t (by omega)) (c := i) (by rw [hlen]; exact hi)
    have hokx : LdOk ((LoadsL s t).getD i (0, 1)) := getD_ok (LoadsL_ok HH.out (by omega)) i
    have hbb := (wiB_iff _ _ _ _).1 HWI.out t (by rw [HFN.out]; exact ht)
    have hrw : W.cell? ⟨z + 3, t, none⟩ = some (.slice (some ⟨g, 0, none⟩) (LoadsL s t).length cap) := by
      rw [(HRZ.out.ext hW).cell, rowV_get _ _ ht, hv]
    have hcn : s.cn t ≤ 144 := by
      have h1 := stack_cn HST.out t ht
      have h2 := (stackB_iff s).1 HST.out
      have h3 := mul_bd (a := s.wd) (b := s.hg) (M := 12) (N := 12) (by omega) (by omega) (by omega) (by omega)
      omega
    exact crushed1_any w3.heap.size w1.heap.size (w.heap.size + 1) (z + 3) g 0 (LoadsL s t).length cap BA bn bc be s t i ((LoadsL s t).getD i (0, 1)) W ht (by rw [hlen]; exact hi)
      (by rw [hlen]; exact (HSS.out.2.2 t ht).2.1) (KL.out.ext hW) (Blk.ext KPZ.out hW) (KBZ.out.ext hW) ((HSS.out.below hWb (Nat.le_refl _)).more hWb.size) (by have := hW.size; have := HRZ.out.lt; omega) (by have := hW.size; omega)
      hrw ((hW.cell (p := ⟨g, 0 + i * 2, none⟩) hg).trans (by simpa using x1)) ((hW.cell (p := ⟨g, 0 + i * 2 + 1, none⟩) hg).trans (by simpa using x2)) hokx
      ((HBE.out.below hWb (Nat.le_refl _)).more hWb.size) (by rw [HFN.out]; exact ht) hbn hbb.1 hbb.2 hcn
  · generalize hRR : firstOf (crushP s be) (bricksTo s.wn s.nt) = R
    have HRR := hide hRR
    clear hRR
    unfold brV
    rintro e w5 ⟨rfl, hb5⟩
    have HB5 := hide (HBZ.out.trans (hb5.mono HBZ.out.size))
    have K5 := hide (KKZ.out.ext hb5)
    clear hb5 q0 q1 q2 q3 q4 q5 q6
    obtain ⟨c0, c1, c2, c3, c4⟩ := blk2 K5.out
    go_wp2_with fail
    have hP := K5.out.set2 (.int .i64 R.1) (.int .i64 R.2)
    obtain ⟨f1, f2, f3, f4, f5⟩ := blk2 hP
    refine bodyPost_ret (v := .tuple #[.agg #[.int .i64 R.1, .int .i64 R.2], .int .i64 0]) (by simp [results, Try.results26, go_sem, *]) rfl ⟨by rw [HRR.out]; rfl, ?_⟩
    exact set2B HB5.out (by omega) _ _
end Go.Proofs.Ytlhekifmkkgjlaa
/- The law KilnCrushes: what Crushed answers, whatever its arguments. -/
namespace Go.Proofs.Ytlhekifmkkgjlaa
open Go Go.RowKit Go.Shelf
set_option maxRecDepth 100000
def crE (s : Stk) (bn : Nat) (be : Nat → Int) : Int :=
  if stackB s = false then 2 else if bn ≠ s.nt then 4 else if wiB 0 1000000 be bn = false then 3 else if 0 ≤ (hangF s).1 then 80 else if LoadsB s = false then 10 else 0
def crB (s : Stk) (bn : Nat) (be : Nat → Int) : Int × Int := if crE s bn be = 0 then firstOf (crushP s be) (bricksTo s.wn s.nt) else (0, 0)
theorem crushed_all (BA : Option Addr) (bn bc : Nat) (be : Nat → Int) (s : Stk) (w : World) (hs : StkR w w.heap.size s) (hbe : IR w w.heap.size BA bn be) (hbn : bn ≤ 1000000) :
    Calls Try.prog 26 #[.agg #[.int .i64 s.wd, .int .i64 s.hg, .slice s.A s.nt s.cap], .slice BA bn bc] w fun e w' => e = .returned (.tuple #[brV (crB s bn be), .int .i64 (crE s bn be)]) ∧ Below w.heap.size w w' := by
  have no : ∀ E : Int, E ≠ 0 → crE s bn be = E → crB s bn be = (0, 0) := fun E h1 h2 => by unfold crB; rw [if_neg (by omega)]
  rcases h1 : stackB s with _ | _
  · have hE : crE s bn be = 2 := by unfold crE; rw [if_pos h1]
    rw [no _ (by omega) hE, hE]
    exact Crushed_arg BA bn bc be s w hs hbe hbn h1
  · by_cases h2 : bn = s.nt
    · rcases h3 : wiB 0 1000000 be bn with _ | _
      · have hE : crE s bn be = 3 := by unfold crE; rw [h1, if_neg (by simp), if_neg (by omega), if_pos h3]
        rw [no _ (by omega) hE, hE]
        exact Crushed_range BA bn bc be s w hs hbe hbn h1 h2 h3
      · by_cases h4 : 0 ≤ (hangF s).1
        · have hE : crE s bn be = 80 := by unfold crE; rw [h1, if_neg (by simp), if_neg (by omega), h3, if_neg (by simp), if_pos h4]
          rw [no _ (by omega) hE, hE]
          exact Crushed_loads BA bn bc be s w hs hbe hbn 80 (by omega) h1 h2 h3 (fun W hb => Loads_falls s W ((hs.below hb (Nat.le_refl _)).more hb.size) h1 h4)
        · rcases h5 : LoadsB s with _ | _
          · have hE : crE s bn be = 10 := by unfold crE; rw [h1, if_neg (by simp), if_neg (by omega), h3, if_neg (by simp), if_neg h4, if_pos h5]
            rw [no _ (by omega) hE, hE]
            exact Crushed_loads BA bn bc be s w hs hbe hbn 10 (by omega) h1 h2 h3 (fun W hb => Loads_over s W ((hs.below hb (Nat.le_refl _)).more hb.size) h1 (by omega) h5)
          · have hE : crE s bn be = 0 := by unfold crE; rw [h1, if_neg (by simp), if_neg (by omega), h3, if_neg (by simp), if_neg h4, h5, if_neg (by simp)]
            have hB : crB s bn be = firstOf (crushP s be) (bricksTo s.wn s.nt) := by unfold crB; rw [if_pos hE]
            rw [hE, hB]
            exact Crushed_ok BA bn bc be s w hs hbe hbn h1 h2 h3 (by omega) h5
    · have hE : crE s bn be = 4 := by unfold crE; rw [h1, if_neg (by simp), if_pos h2]
      rw [no _ (by omega) hE, hE]
      exact Crushed_form BA bn bc be s w hs hbe hbn h1 h2
end Go.Proofs.Ytlhekifmkkgjlaa
/- Chapter 8: is a stack large; a copy of a stack. -/
namespace Go.Proofs.Ytlhekifmkkgjlaa
open Go Go.RowKit Go.Shelf
set_option maxHeartbeats 4000000
set_option maxRecDepth 100000
/-- the tiers of a stack, whatever their lengths -/
def StkV (w : World) (s : Stk) : Prop := s.nt ≤ maxLen ∧ P2 w w.heap.size s.A s.nt s.u s.v ∧ ∀ k, k < s.nt → s.cn k ≤ maxLen ∧ s.wn k ≤ maxLen
def bigB (s : Stk) (M : Nat) (k : Nat) : Bool := decide (M < s.cn k) || decide (M < s.wn k)
def largeB (s : Stk) : Bool := anyTo (bigB s 150) s.nt || decide (12 < s.nt)
theorem large_any (s : Stk) (w : World) (hs : StkV w s) : Calls Try.prog 25 #[.agg #[.int .i64 s.wd, .int .i64 s.hg, .slice s.A s.nt s.cap]] w fun e w' => e = .returned (.bool (largeB s)) ∧ Below w.heap.size w w' := by
  have HS := hide hs
  have hn := hs.1
  unfold maxLen at hn
  have HB := hide ((Below.refl w.heap.size w).alloc (Nat.le_refl _) (.cells #[.int .i64 s.wd, .int .i64 s.hg, .slice s.A s.nt s.cap] 55))
  have KS := hide (Blk.new w 55 #[.int .i64 s.wd, .int .i64 s.hg, .slice s.A s.nt s.cap])
  clear hs
  go_enter Try.func25, Try.ntmps25
  go_wp2_with fail
  generalize (w.alloc (.cells #[.int .i64 s.wd, .int .i64 s.hg, .slice s.A s.nt s.cap] 55)) = W1 at HB KS ⊢
  obtain ⟨a0, a1, a2, a3, a4, a5, a6⟩ := blk3 KS.out
  go_loop [3] (fun i => ∃ k : Nat, i = .int .i64 k ∧ k ≤ s.nt ∧ Hid (anyTo (bigB s 150) k = false)) (fun i => s.nt - (intOf i).toNat)
  case atStart => exact ⟨0, rfl, by omega, hide rfl⟩
  case round =>
    obtain ⟨k, rfl, hk, HN⟩ := hrel
    by_cases hlt : k < s.nt
    · obtain ⟨tb, toff, hA, htb, hu, hv⟩ := P2.at_ (HS.out.2.1.below HB.out (Nat.le_refl _)) hlt
      obtain ⟨l1, l2⟩ := HS.out.2.2 k hlt
      unfold maxLen at l1 l2
      rw [hA] at a3
      have i1 : (0 : Int) ≤ (k : Int) := by omega
      have i2 : (k : Int) < (s.nt : Int) := by omega
      unfold Stk.u at hu
      unfold Stk.v at hv
      have hbig : bigB s 150 k = true → largeB s = true := fun h => by
        unfold largeB
        rw [(anyTo_iff _ _).2 ⟨k, hlt, h⟩, Bool.true_or]
      have HBG := hide hbig
      clear hbig
      by_cases c1 : 150 < s.cn k
      · have c1' : (150 : Int) < (s.cn k : Int) := by omega
        have HX := hide c1
        clear c1
        go_wp2_with fail
        go_ret
        exact ⟨by rw [HBG.out (by unfold bigB; rw [decide_eq_true HX.out, Bool.true_or])]; rfl, HB.out⟩
      · have c1' : ¬ (150 : Int) < (s.cn k : Int) := by omega
        by_cases c2 : 150 < s.wn k
        · have c2' : (150 : Int) < (s.wn k : Int) := by omega
          have HX := hide c2
          clear c1 c2
          go_wp2_with fail
          go_ret
          exact ⟨by rw [HBG.out (by unfold bigB; rw [decide_eq_true HX.out, Bool.or_true])]; rfl, HB.out⟩
        · have c2' : ¬ (150 : Int) < (s.wn k : Int) := by omega
          have HX : Hid (bigB s 150 k = false) := hide (by unfold bigB; rw [decide_eq_false c1, decide_eq_false c2]; rfl)
          clear c1 c2
          go_wp2_with fail
          go_round
          case rel => exact ⟨k + 1, by go_num, by omega, hide (by show (anyTo (bigB s 150) k || bigB s 150 k) = false; rw [HN.out, HX.out]; rfl)⟩
          case measure => simp [intOf]; omega
    · obtain rfl : k = s.nt := by omega
      have HL : Hid (largeB s = decide ((12 : Int) < (s.nt : Int))) := hide (by unfold largeB; rw [HN.out, Bool.false_or, Bool.eq_iff_iff]; simp; omega)
      go_wp2_with fail
      go_ret
      exact ⟨by rw [HL.out]; rfl, HB.out⟩
end Go.Proofs.Ytlhekifmkkgjlaa
/- How a law's statement follows from its walk; arguments opened as readings. -/
namespace Go.Proofs.Ytlhekifmkkgjlaa
open Go Go.RowKit Go.ChangeShapes Go.WideShapes Go.ChangeAt
set_option maxRecDepth 100000
theorem own_knob : ownKnob Try.prog.godebug = none := by kernel_rfl
theorem laidOut : laidOutB Try.prog = true := by kernel_rfl
section
variable {H : Type} {enc : TypeId × Value → H}
/-- arguments read behind the call as before, if below the heap's old size nothing has turned -/
theorem stay_all {W W' : World} (hb : Below W.heap.size W W') {sp : Nat → Bool} : ∀ {ts : List TypeId} {vs : List Value} {ds : List (DataW H)} {ps : List MemPlace},
    (∀ t ∈ ts, Try.prog.readableRec t = true ∧ t < Try.prog.types.size) → DataW.TrodAll enc Try.prog W 0 (fun _ => true) true ts vs ds ps → (∀ x ∈ ps, x.block < W.heap.size) → (∀ x ∈ ps, sp x.block = true) →
    DataW.TrodAll enc Try.prog W' 0 sp true ts vs ds ps
  | [], _, _, _, _, h, _, _ => by
    obtain ⟨rfl, rfl, rfl⟩ := trodAll_nil h
    exact trodAll_mk0
  | t :: ts, _, _, _, hr, h, hlt, hsp => by
    obtain ⟨v, vs, d, ds, p, q, rfl, rfl, rfl, h0, r0⟩ := trodAll_cons h
    have k := hr t (by simp)
    exact trodAll_cons_mk (WideElems.Trod_stays laidOut k.1 k.2 h0 (fun x hx => hb.same (hlt x (by simp [hx]))) (fun x hx => hsp x (by simp [hx])))
      (stay_all hb (fun t ht => hr t (by simp [ht])) r0 (fun x hx => hlt x (by simp [hx])) (fun x hx => hsp x (by simp [hx])))
/-- a law that returned true and turned nothing old -/
theorem law_post {f : Func} {s : ChangeSpec} {apart fresh handsOn again : Bool} {W W' : World} {args : Array Value} {ds gs : List (DataW H)} {before : List MemPlace}
    (hW : DataW.Whole enc Try.prog f.params.toList s.vars apart W args.toList ds gs before) (hb : Below W.heap.size W W')
    (hvs : s.vars = []) (hr1 : f.resultTypes = #[4])
    (hpar : f.params.toList.all (fun t => Try.prog.readableRec t && decide (t < Try.prog.types.size)) = true)
    (hfn : (s.fn H ds).results = [.lit (.bool true)] ∧ (s.fn H ds).args = ds ∧ (s.fn H ds).vars = []) :
    s.post enc Try.prog f apart fresh handsOn again W args (.bool true) W' := by
  have hW0 := hW
  have hlt : ∀ p ∈ before, p.block < W.heap.size := fun p hp => hW.lt p hp
  have hold : ∀ p ∈ before, (fun b => decide (b < W.heap.size)) p.block = true := fun p hp => by simpa using hlt p hp
  obtain ⟨p, q, hA, hV, rfl, hz, hn⟩ := hW
  rw [hvs] at hV
  obtain ⟨rfl, rfl⟩ := trodVars_none hV
  simp only [List.append_nil] at *
  have hk : ∀ t ∈ f.params.toList, Try.prog.readableRec t = true ∧ t < Try.prog.types.size := by
    intro t ht
    have := List.all_eq_true.1 hpar t ht
    simpa using this
  have hargs : ∀ sp : Nat → Bool, (∀ x ∈ p, sp x.block = true) → DataW.TrodAll enc Try.prog W' 0 sp true f.params.toList args.toList (s.fn H (ds ++ [])).args p := fun sp hsp => by
    rw [List.append_nil, hfn.2.1]; exact stay_all hb hk hA hlt hsp
  have hvars : ∀ sp : Nat → Bool, DataW.TrodVars enc Try.prog W' sp s.vars (s.fn H (ds ++ [])).vars [] := fun sp => by
    rw [hvs, List.append_nil, hfn.2.2]; exact rfl
  have hres : ∀ (b : Nat) (sp : Nat → Bool) (hd : Bool), DataW.TrodAll enc Try.prog W' b sp hd f.resultTypes.toList ((Value.bool true).resultList f.resultTypes.size) (s.fn H (ds ++ [])).results [] := fun b sp hd => by
    rw [List.append_nil, hfn.1, hr1]
    exact trodAll_cons_mk (shut_bool Try.underlying4 _) trodAll_mk0
  refine ⟨ds, [], p, [], p, [], hW0, hres _ _ _, hargs _ hold, hvars _, World.keptBut_mono (fun x hx => ⟨hx, Or.inr (by simpa using hx)⟩) (hb.frame (· ∈ p)), fun _ => ?_⟩
  refine ⟨ok_one hr1 rfl (okWide_bool_mk Try.underlying4 _), _, _, ([] ++ p) ++ [], ⟨[] ++ p, [], trodAll_append (hargs _ (fun _ _ => rfl)) (hres _ _ _), hvars (fun _ => true), rfl, ?_, ?_⟩, ?_⟩
  · intro b off hp
    have hin : MemPlace.cell b off ∈ p := by simpa using hp
    rw [hb.frozen (hlt _ hin)]
    exact hz b off hin
  · intro ha
    simpa using hn ha
  · intro x hx _
    simpa using hx
/-- a slice of structs of two cells: the readings of its elements -/
theorem open_pairs_c {W : World} {t e : TypeId} {f0 f1 : Field} {v : Value} {x : DataW H × List MemPlace} {fuel : Nat} (ht : Try.prog.underlying t = some (.slice e)) (he : Try.prog.underlying e = some (.struct #[f0, f1]))
    (ce : Try.prog.cellsOf e = 2) (o0 : f0.offset = 0) (o1 : f1.offset = 1) (c0 : Try.prog.cellsOf f0.type = 1) (c1 : Try.prog.cellsOf f1.type = 1)
    (h : DataW.trod enc Try.prog W 0 (fun _ => true) true fuel t [v] = some x) (hlt : ∀ y ∈ x.2, y.block < W.heap.size) :
    ∃ A n c V0 V1, v = .slice A n c ∧ n ≤ maxLen ∧ n ≤ c ∧ P2 W W.heap.size A n V0 V1 ∧ ∀ i, i < n → ∃ m x0 x1, DataW.trod enc Try.prog W 0 (fun _ => true) true m f0.type [V0 i] = some x0 ∧ DataW.trod enc Try.prog W 0 (fun _ => true) true m f1.type [V1 i] = some x1 ∧
      (∀ y ∈ x0.2, y.block < W.heap.size) ∧ (∀ y ∈ x1.2, y.block < W.heap.size) := by
  rcases Deep.open_slice_pairs ht he ce o0 o1 c0 c1 h with ⟨h1, -⟩ | ⟨a, len, cap, m, n, V0, V1, D0, D1, P0, P1, h1, hb, hl, hm, hmm, hx, hc⟩
  · injection h1 with h1
    subst h1
    exact ⟨none, 0, 0, fun _ => .nilIface, fun _ => .nilIface, rfl, by simp [maxLen], Nat.le_refl _, ER.nil _ _ _ _ _, fun i hi => absurd hi (by omega)⟩
  · injection h1 with h1
    subst h1
    simp only [if_true] at hmm
    subst hmm
    refine ⟨some a, len, m, V0, V1, rfl, by omega, hl, fun hn => ?_, fun i hi => ?_⟩
    · have h0 := (hc 0 (by omega)).1
      obtain ⟨b, off, spot⟩ := a
      have hsp : spot = none := by simpa [Addr.add] using World.cell?_spot h0
      subst hsp
      refine ⟨b, off, rfl, ?_, fun k i hk hi => ?_⟩
      · have hb1 := hlt (.cell b (off + 0)) (by
          rw [hx]
          exact List.mem_append_left _ (MemPlace.mem_row.2 ⟨0, by omega, rfl⟩))
        exact hb1
      · have hk2 := hc k (by omega)
        have q0 := hk2.1
        have q1 := hk2.2.1
        rw [add_lit'] at q0 q1
        rcases (by omega : i = 0 ∨ i = 1) with rfl | rfl
        · simpa using q0
        · simpa [Nat.add_assoc] using q1
    · have hi2 := hc i (by omega)
      refine ⟨n, _, _, hi2.2.2.1, hi2.2.2.2, fun y hy => hlt y ?_, fun y hy => hlt y ?_⟩
      · rw [hx]; exact List.mem_append_right _ (List.mem_flatMap.2 ⟨i, by simp; omega, List.mem_append_left _ hy⟩)
      · rw [hx]; exact List.mem_append_right _ (List.mem_flatMap.2 ⟨i, by simp; omega, List.mem_append_right _ hy⟩)
/-- a slice of ints -/
theorem open_ints_c {W : World} {t : TypeId} {v : Value} {x : DataW H × List MemPlace} {fuel : Nat} (ht : Try.prog.underlying t = some (.slice 3))
    (h : DataW.trod enc Try.prog W 0 (fun _ => true) true fuel t [v] = some x) (hlt : ∀ y ∈ x.2, y.block < W.heap.size) :
    ∃ A n c z, v = .slice A n c ∧ n ≤ maxLen ∧ n ≤ c ∧ IR W W.heap.size A n z ∧ ∀ i, i < n → -9223372036854775808 ≤ z i ∧ z i ≤ 9223372036854775807 := by
  rcases open_ints ht Try.underlying3 (by kernel_rfl) h with ⟨h1, -⟩ | ⟨a, len, cap, zs, h1, hb, hl, hm, hz, hx, hc, hwf⟩
  · injection h1 with h1
    subst h1
    exact ⟨none, 0, 0, fun _ => 0, rfl, by simp [maxLen], Nat.le_refl _, ER.nil _ _ _ _ _, fun i hi => absurd hi (by omega)⟩
  · injection h1 with h1
    subst h1
    simp only [if_true] at hz
    refine ⟨some a, len, cap, fun i => zs.getD i 0, rfl, by omega, hl, fun hn => ?_, fun i hi => ?_⟩
    · have h0 := hc 0 (by omega)
      obtain ⟨b, off, spot⟩ := a
      have hsp : spot = none := by simpa [Addr.add] using World.cell?_spot h0
      subst hsp
      refine ⟨b, off, rfl, ?_, fun k i hk hi => ?_⟩
      · have hb1 := hlt (.cell b (off + 0)) (by
          rw [hx]
          exact MemPlace.mem_row.2 ⟨0, by omega, rfl⟩)
        exact hb1
      · obtain rfl : i = 0 := by omega
        have := hc k (by omega)
        rw [add_lit'] at this
        simpa using this
    · have h1 : zs.getD i 0 ∈ zs := by
        rw [List.getD_eq_getElem?_getD, List.getElem?_eq_getElem (by omega)]
        exact List.getElem_mem _
      have := hwf _ h1
      simp only [Lit.wf, Bool.and_eq_true, decide_eq_true_eq] at this
      simpa [IntKind.min, IntKind.max, IntKind.signed, IntKind.bits] using this
theorem int_of_trod {W : World} {t : TypeId} {v : Value} {x : DataW H × List MemPlace} {fuel : Nat} (ht : Try.prog.underlying t = some (.int .i64)) (h : DataW.trod enc Try.prog W 0 (fun _ => true) true fuel t [v] = some x) :
    v = .int .i64 (intOf v) ∧ -9223372036854775808 ≤ intOf v ∧ intOf v ≤ 9223372036854775807 := by
  obtain ⟨z, hz, -, hw⟩ := DataW.trod_int ht h
  injection hz with hz
  subst hz
  simp only [Lit.wf, Bool.and_eq_true, decide_eq_true_eq] at hw
  exact ⟨rfl, by simpa [intOf, IntKind.min, IntKind.max, IntKind.signed, IntKind.bits] using hw⟩
theorem cells_slice {A : Option Addr} {n c : Nat} : (Value.slice A n c).cells.toList = [.slice A n c] := rfl
/-- a slice of structs of two ints -/
theorem open_pairs {r : Reach} {b0 : Nat} {W : World} {t e : TypeId} {f0 f1 : Field} {v : Value} {d : DataW H} {p : List MemPlace} (ht : Try.prog.underlying t = some (.slice e)) (he : Try.prog.underlying e = some (.struct #[f0, f1]))
    (ce : Try.prog.cellsOf e = 2) (o0 : f0.offset = 0) (o1 : f1.offset = 1) (c0 : Try.prog.cellsOf f0.type = 1) (c1 : Try.prog.cellsOf f1.type = 1)
    (k0 : Try.prog.underlying f0.type = some (.int .i64)) (k1 : Try.prog.underlying f1.type = some (.int .i64)) (hval : Value.okWide Try.prog W r b0 t v)
    (h : DataW.Trod enc Try.prog W 0 (fun _ => true) true t v d p) (hlt : ∀ x ∈ p, x.block < W.heap.size) :
    ∃ A n c x y, v = .slice A n c ∧ n ≤ maxLen ∧ n ≤ c ∧ PI W W.heap.size A n x y := by
  obtain ⟨fuel, h⟩ := h
  obtain ⟨A, n, c, rfl⟩ := okWide_slice ht hval
  rw [cells_slice] at h
  obtain ⟨A', n', c', V0, V1, h1, hn, hnc, hP, hV⟩ := open_pairs_c ht he ce o0 o1 c0 c1 h hlt
  injection h1 with h1 h2 h3
  subst h1 h2 h3
  refine ⟨A, n, c, fun i => intOf (V0 i), fun i => intOf (V1 i), rfl, hn, hnc, fun hn0 => ?_⟩
  obtain ⟨b, off, hA, hb, hc⟩ := hP hn0
  refine ⟨b, off, hA, hb, fun k i hk hi => ?_⟩
  obtain ⟨m, x0, x1, g0, g1, -, -⟩ := hV k hk
  rw [hc k i hk hi]
  rcases (by omega : i = 0 ∨ i = 1) with rfl | rfl
  · simpa using (int_of_trod k0 g0).1
  · simpa using (int_of_trod k1 g1).1
end
end Go.Proofs.Ytlhekifmkkgjlaa
/- Chapter 8's known calls: the stack of the document's example, and what single calls return. -/
namespace Go.Proofs.Ytlhekifmkkgjlaa
open Go Go.RowKit Go.Shelf
set_option maxHeartbeats 1000000
def twoS (z : Nat) : Stk where
  wd := 2
  hg := 1
  A := some ⟨z + 5, 0, none⟩
  nt := 2
  cap := 2
  ca := fun k => if k = 0 then some ⟨z + 1, 0, none⟩ else some ⟨z + 3, 0, none⟩
  wa := fun k => if k = 0 then some ⟨z + 2, 0, none⟩ else some ⟨z + 4, 0, none⟩
  cn := fun _ => 2
  cc := fun _ => 2
  wn := fun k => if k = 0 then 2 else 1
  wc := fun k => if k = 0 then 2 else 1
  cf := fun k i => if k = 0 then i else 0
  wf := fun k i => if k = 0 then (if i = 0 then 3 else 5) else 4
theorem IR.of_blk {w : World} {B g n : Nat} {t : TypeId} {cs : Array Value} {x : Nat → Int} (h : Blk w g t cs) (hg : g < B) (hx : ∀ k, k < n → cs[k]? = some (.int .i64 (x k))) : IR w B (some ⟨g, 0, none⟩) n x := fun _ =>
  ⟨g, 0, rfl, hg, fun k i hk hi => by
    obtain rfl : i = 0 := by omega
    rw [show (0 : Nat) + k * 1 + 0 = k by omega, h.cell, hx k hk]⟩
theorem two_read (w : World) : StkR ((((((w.alloc (.cells #[.int .i64 2, .int .i64 1, .slice (some ⟨w.heap.size + 1 + 1 + 1 + 1 + 1, 0, none⟩) 2 2] 55)).alloc (.cells #[.int .i64 0, .int .i64 1] 3)).alloc (.cells #[.int .i64 3, .int .i64 5] 3)).alloc (.cells #[.int .i64 0, .int .i64 0] 3)).alloc (.cells #[.int .i64 4] 3)).alloc (.cells #[.slice (some ⟨w.heap.size + 1, 0, none⟩) 2 2, .slice (some ⟨w.heap.size + 1 + 1, 0, none⟩) 2 2, .slice (some ⟨w.heap.size + 1 + 1 + 1, 0, none⟩) 2 2, .slice (some ⟨w.heap.size + 1 + 1 + 1 + 1, 0, none⟩) 1 1] 72)) (w.heap.size + 6) (twoS w.heap.size) := by
  have b1 : Blk ((((((w.alloc (.cells #[.int .i64 2, .int .i64 1, .slice (some ⟨w.heap.size + 1 + 1 + 1 + 1 + 1, 0, none⟩) 2 2] 55)).alloc (.cells #[.int .i64 0, .int .i64 1] 3)).alloc (.cells #[.int .i64 3, .int .i64 5] 3)).alloc (.cells #[.int .i64 0, .int .i64 0] 3)).alloc (.cells #[.int .i64 4] 3)).alloc (.cells #[.slice (some ⟨w.heap.size + 1, 0, none⟩) 2 2, .slice (some ⟨w.heap.size + 1 + 1, 0, none⟩) 2 2, .slice (some ⟨w.heap.size + 1 + 1 + 1, 0, none⟩) 2 2, .slice (some ⟨w.heap.size + 1 + 1 + 1 + 1, 0, none⟩) 1 1] 72)) (w.heap.size + 1) 3 #[.int .i64 0, .int .i64 1] := by simpa using ((((Blk.new (w.alloc _) 3 #[.int .i64 0, .int .i64 1]).alloc _).alloc _).alloc _).alloc _
  have b2 : Blk ((((((w.alloc (.cells #[.int .i64 2, .int .i64 1, .slice (some ⟨w.heap.size + 1 + 1 + 1 + 1 + 1, 0, none⟩) 2 2] 55)).alloc (.cells #[.int .i64 0, .int .i64 1] 3)).alloc (.cells #[.int .i64 3, .int .i64 5] 3)).alloc (.cells #[.int .i64 0, .int .i64 0] 3)).alloc (.cells #[.int .i64 4] 3)).alloc (.cells #[.slice (some ⟨w.heap.size + 1, 0, none⟩) 2 2, .slice (some ⟨w.heap.size + 1 + 1, 0, none⟩) 2 2, .slice (some ⟨w.heap.size + 1 + 1 + 1, 0, none⟩) 2 2, .slice (some ⟨w.heap.size + 1 + 1 + 1 + 1, 0, none⟩) 1 1] 72)) (w.heap.size + 2) 3 #[.int .i64 3, .int .i64 5] := by simpa using (((Blk.new ((w.alloc _).alloc _) 3 #[.int .i64 3, .int .i64 5]).alloc _).alloc _).alloc _
  have b3 : Blk ((((((w.alloc (.cells #[.int .i64 2, .int .i64 1, .slice (some ⟨w.heap.size + 1 + 1 + 1 + 1 + 1, 0, none⟩) 2 2] 55)).alloc (.cells #[.int .i64 0, .int .i64 1] 3)).alloc (.cells #[.int .i64 3, .int .i64 5] 3)).alloc (.cells #[.int .i64 0, .int .i64 0] 3)).alloc (.cells #[.int .i64 4] 3)).alloc (.cells #[.slice (some ⟨w.heap.size + 1, 0, none⟩) 2 2, .slice (some ⟨w.heap.size + 1 + 1, 0, none⟩) 2 2, .slice (some ⟨w.heap.size + 1 + 1 + 1, 0, none⟩) 2 2, .slice (some ⟨w.heap.size + 1 + 1 + 1 + 1, 0, none⟩) 1 1] 72)) (w.heap.size + 3) 3 #[.int .i64 0, .int .i64 0] := by simpa using ((Blk.new (((w.alloc _).alloc _).alloc _) 3 #[.int .i64 0, .int .i64 0]).alloc _).alloc _
  have b4 : Blk ((((((w.alloc (.cells #[.int .i64 2, .int .i64 1, .slice (some ⟨w.heap.size + 1 + 1 + 1 + 1 + 1, 0, none⟩) 2 2] 55)).alloc (.cells #[.int .i64 0, .int .i64 1] 3)).alloc (.cells #[.int .i64 3, .int .i64 5] 3)).alloc (.cells #[.int .i64 0, .int .i64 0] 3)).alloc (.cells #[.int .i64 4] 3)).alloc (.cells #[.slice (some ⟨w.heap.size + 1, 0, none⟩) 2 2, .slice (some ⟨w.heap.size + 1 + 1, 0, none⟩) 2 2, .slice (some ⟨w.heap.size + 1 + 1 + 1, 0, none⟩) 2 2, .slice (some ⟨w.heap.size + 1 + 1 + 1 + 1, 0, none⟩) 1 1] 72)) (w.heap.size + 4) 3 #[.int .i64 4] := by simpa using (Blk.new ((((w.alloc _).alloc _).alloc _).alloc _) 3 #[.int .i64 4]).alloc _
  have b5 : Blk ((((((w.alloc (.cells #[.int .i64 2, .int .i64 1, .slice (some ⟨w.heap.size + 1 + 1 + 1 + 1 + 1, 0, none⟩) 2 2] 55)).alloc (.cells #[.int .i64 0, .int .i64 1] 3)).alloc (.cells #[.int .i64 3, .int .i64 5] 3)).alloc (.cells #[.int .i64 0, .int .i64 0] 3)).alloc (.cells #[.int .i64 4] 3)).alloc (.cells #[.slice (some ⟨w.heap.size + 1, 0, none⟩) 2 2, .slice (some ⟨w.heap.size + 1 + 1, 0, none⟩) 2 2, .slice (some ⟨w.heap.size + 1 + 1 + 1, 0, none⟩) 2 2, .slice (some ⟨w.heap.size + 1 + 1 + 1 + 1, 0, none⟩) 1 1] 72)) (w.heap.size + 5) 72 #[.slice (some ⟨w.heap.size + 1, 0, none⟩) 2 2, .slice (some ⟨w.heap.size + 1 + 1, 0, none⟩) 2 2, .slice (some ⟨w.heap.size + 1 + 1 + 1, 0, none⟩) 2 2, .slice (some ⟨w.heap.size + 1 + 1 + 1 + 1, 0, none⟩) 1 1] := by
    simpa using Blk.new (((((w.alloc _).alloc _).alloc _).alloc _).alloc _) 72 #[.slice (some ⟨w.heap.size + 1, 0, none⟩) 2 2, .slice (some ⟨w.heap.size + 1 + 1, 0, none⟩) 2 2, .slice (some ⟨w.heap.size + 1 + 1 + 1, 0, none⟩) 2 2, .slice (some ⟨w.heap.size + 1 + 1 + 1 + 1, 0, none⟩) 1 1]
  generalize ((((((w.alloc (.cells #[.int .i64 2, .int .i64 1, .slice (some ⟨w.heap.size + 1 + 1 + 1 + 1 + 1, 0, none⟩) 2 2] 55)).alloc (.cells #[.int .i64 0, .int .i64 1] 3)).alloc (.cells #[.int .i64 3, .int .i64 5] 3)).alloc (.cells #[.int .i64 0, .int .i64 0] 3)).alloc (.cells #[.int .i64 4] 3)).alloc (.cells #[.slice (some ⟨w.heap.size + 1, 0, none⟩) 2 2, .slice (some ⟨w.heap.size + 1 + 1, 0, none⟩) 2 2, .slice (some ⟨w.heap.size + 1 + 1 + 1, 0, none⟩) 2 2, .slice (some ⟨w.heap.size + 1 + 1 + 1 + 1, 0, none⟩) 1 1] 72)) = W at *
  refine ⟨by simp [twoS], fun _ => ⟨w.heap.size + 5, 0, rfl, by omega, fun k i hk hi => ?_⟩, fun k hk => ?_⟩
  · have hk' : k < 2 := hk
    rcases (by omega : k = 0 ∨ k = 1) with rfl | rfl
    · rcases (by omega : i = 0 ∨ i = 1) with rfl | rfl
      · exact b5.cell 0
      · exact b5.cell 1
    · rcases (by omega : i = 0 ∨ i = 1) with rfl | rfl
      · exact b5.cell 2
      · exact b5.cell 3
  · have hk' : k < 2 := hk
    rcases (by omega : k = 0 ∨ k = 1) with rfl | rfl
    · refine ⟨by simp [twoS], by simp [twoS], IR.of_blk b1 (by omega) fun j hj => ?_, IR.of_blk b2 (by omega) fun j hj => ?_⟩
      · have hj' : j < 2 := hj
        rcases (by omega : j = 0 ∨ j = 1) with rfl | rfl <;> rfl
      · have hj' : j < 2 := hj
        rcases (by omega : j = 0 ∨ j = 1) with rfl | rfl <;> rfl
    · refine ⟨by simp [twoS], by simp [twoS], IR.of_blk b3 (by omega) fun j hj => ?_, IR.of_blk b4 (by omega) fun j hj => ?_⟩
      · have hj' : j < 2 := hj
        rcases (by omega : j = 0 ∨ j = 1) with rfl | rfl <;> rfl
      · have hj' : j < 1 := hj
        obtain rfl : j = 0 := by omega
        rfl
def TwoPost (w : World) (e : Ending) (w' : World) : Prop :=
  e = .returned (.agg #[.int .i64 2, .int .i64 1, .slice (some ⟨w.heap.size + 5, 0, none⟩) 2 2]) ∧ StkR w' w'.heap.size (twoS w.heap.size) ∧ Below w.heap.size w w'
theorem two_any (w : World) : Calls Try.prog 53 #[] w (TwoPost w) := by
  have hB : Below w.heap.size w ((((((w.alloc (.cells #[.int .i64 2, .int .i64 1, .slice (some ⟨w.heap.size + 1 + 1 + 1 + 1 + 1, 0, none⟩) 2 2] 55)).alloc (.cells #[.int .i64 0, .int .i64 1] 3)).alloc (.cells #[.int .i64 3, .int .i64 5] 3)).alloc (.cells #[.int .i64 0, .int .i64 0] 3)).alloc (.cells #[.int .i64 4] 3)).alloc (.cells #[.slice (some ⟨w.heap.size + 1, 0, none⟩) 2 2, .slice (some ⟨w.heap.size + 1 + 1, 0, none⟩) 2 2, .slice (some ⟨w.heap.size + 1 + 1 + 1, 0, none⟩) 2 2, .slice (some ⟨w.heap.size + 1 + 1 + 1 + 1, 0, none⟩) 1 1] 72)) := (((((((Below.refl _ w).alloc (Nat.le_refl _) _).alloc (by simp) _).alloc (by simp only [World.size_alloc]; omega) _).alloc (by simp only [World.size_alloc]; omega) _).alloc (by simp only [World.size_alloc]; omega) _)).alloc (by simp only [World.size_alloc]; omega) _
  have HP := hide (And.intro ((two_read w).more (B' := ((((((w.alloc (.cells #[.int .i64 2, .int .i64 1, .slice (some ⟨w.heap.size + 1 + 1 + 1 + 1 + 1, 0, none⟩) 2 2] 55)).alloc (.cells #[.int .i64 0, .int .i64 1] 3)).alloc (.cells #[.int .i64 3, .int .i64 5] 3)).alloc (.cells #[.int .i64 0, .int .i64 0] 3)).alloc (.cells #[.int .i64 4] 3)).alloc (.cells #[.slice (some ⟨w.heap.size + 1, 0, none⟩) 2 2, .slice (some ⟨w.heap.size + 1 + 1, 0, none⟩) 2 2, .slice (some ⟨w.heap.size + 1 + 1 + 1, 0, none⟩) 2 2, .slice (some ⟨w.heap.size + 1 + 1 + 1 + 1, 0, none⟩) 1 1] 72)).heap.size) (by simp)) hB)
  clear hB
  go_enter Try.func53, Try.ntmps53
  go_wp2_with fail
  refine bodyPost_ret (v := .agg #[.int .i64 2, .int .i64 1, .slice (some ⟨w.heap.size + 5, 0, none⟩) 2 2]) (by simp [results, Try.results53, go_sem]) rfl ⟨rfl, HP.out.1, HP.out.2⟩
theorem two_stack (z : Nat) : stackB (twoS z) = true := by rfl
theorem two_hangs (z : Nat) : hangF (twoS z) = (-1, -1) := by rfl
theorem two_loadsB (z : Nat) : LoadsB (twoS z) = true := by kernel_rfl
theorem two_loads0 (z : Nat) : LoadsL (twoS z) 0 = [(2, 1), (2, 1)] := by kernel_rfl
theorem two_loads1 (z : Nat) : LoadsL (twoS z) 1 = [(0, 1)] := by kernel_rfl
theorem two_loads2 (z : Nat) : LoadsL (twoS z) 2 = [(5, 1), (7, 1)] := by kernel_rfl
theorem least_of {p : Nat → Bool} {n r : Nat} (mono : ∀ i j, i ≤ j → j < n → p i = true → p j = true) (hr : r < n) (h1 : p r = true) (h0 : 0 < r → p (r - 1) = false) : Least p n r := by
  refine ⟨by omega, fun i hi => ?_, fun _ => h1⟩
  rcases hpi : p i with _ | _
  · rfl
  · have := mono i (r - 1) (by omega) (by omega) hpi
    rw [h0 (by omega)] at this; cases this
theorem known_moulds (w : World) : Calls Try.prog 21 #[.agg #[.int .i64 900, .int .i64 940], .agg #[.int .i64 500, .int .i64 600, .int .i64 100, .int .i64 200]] w fun e w' =>
    e = .returned (.tuple #[.agg #[.int .i64 977, .int .i64 999], .int .i64 0]) ∧ Below w.heap.size w w' := by
  refine (Moulds_ok 900 940 500 600 100 200 w (by decide) (by decide)).mono ?_
  rintro e w' ⟨a, b, h1, h2, rfl, hb⟩
  have e1 : a = 976 := h1.uniq (least_of (fun i j hij _ h => by
    have := shLo_mono (s := (i : Int) + 1) (t := (j : Int) + 1) (d := 600) (f := 200) (by omega) (by omega) (by omega)
    simp only [mLo, decide_eq_true_eq] at *
    omega) (by omega) (by decide) (fun _ => by decide))
  have e2 : b = 999 := h2.uniq (least_of (fun i j hij _ h => by
    have := shHi_mono (s := (i : Int) + 1) (t := (j : Int) + 1) (d := 500) (f := 100) (by omega) (by omega) (by omega)
    simp only [mHi, decide_eq_true_eq] at *
    omega) (by omega) (by decide) (fun _ => by decide))
  subst e1 e2
  exact ⟨rfl, hb⟩
theorem known_need (A : Option Addr) (c : Nat) (w : World) (hR : PI w w.heap.size A 2 (fun _ => 500) (fun _ => 1000)) :
    Calls Try.prog 16 #[.int .i64 81, .slice A 2 c] w fun e w' => e = .returned (.tuple #[.int .i64 98, .int .i64 0]) ∧ Below w.heap.size w w' := by
  refine (need_ok 81 A 2 c _ _ w (by omega) hR (fun i _ => ⟨by omega, by omega, by omega⟩) (by omega) (by omega)).mono ?_
  rintro e w' ⟨r, h1, rfl, hb⟩
  have e1 : r = 98 := h1.uniq (least_of (fun i j hij _ h => by
    have := aft_mono (fun _ => 1000) 2 (fun i _ => ⟨by omega, by omega⟩) i j (by omega) (by omega)
    simp only [decide_eq_true_eq] at *
    omega) (by omega) (by decide) (fun _ => by decide))
  subst e1
  exact ⟨rfl, hb⟩
end Go.Proofs.Ytlhekifmkkgjlaa
/- Chapter 8: the stores of a book, one number set; known calls on a book. -/
namespace Go.Proofs.Ytlhekifmkkgjlaa
open Go Go.RowKit Go.Shelf
set_option maxHeartbeats 1000000
def Wa.get (x : Wa) (i : Nat) : Int := if i = 0 then x.wet else if i = 1 then x.dry else if i = 2 then x.burning else if i = 3 then x.fired else if i = 4 then x.laid else if i = 5 then x.broken else x.missing
def Wa.put (x : Wa) (i : Nat) (v : Int) : Wa := if i = 0 then { x with wet := v } else if i = 1 then { x with dry := v } else if i = 2 then { x with burning := v } else if i = 3 then { x with fired := v } else if i = 4 then { x with laid := v } else if i = 5 then { x with broken := v } else { x with missing := v }
theorem Wa.get_put (x : Wa) {i j : Nat} (hi : i < 7) (hj : j < 7) (v : Int) : (x.put i v).get j = if j = i then v else x.get j := by
  rcases (by omega : i = 0 ∨ i = 1 ∨ i = 2 ∨ i = 3 ∨ i = 4 ∨ i = 5 ∨ i = 6) with rfl | rfl | rfl | rfl | rfl | rfl | rfl <;>
  rcases (by omega : j = 0 ∨ j = 1 ∨ j = 2 ∨ j = 3 ∨ j = 4 ∨ j = 5 ∨ j = 6) with rfl | rfl | rfl | rfl | rfl | rfl | rfl <;> rfl
theorem KindW_iff {w : World} {S o : Nat} {x : Wa} : KindW w S o x ↔ S < w.heap.size ∧ (∀ i, w.frozen? ⟨S, i, none⟩ = false) ∧ ∀ i, i < 7 → w.cell? ⟨S, o + i, none⟩ = some (.int .i64 (x.get i)) := by
  constructor
  · rintro ⟨h0, hf, h1, h2, h3, h4, h5, h6, h7⟩
    refine ⟨h0, hf, fun i hi => ?_⟩
    rcases (by omega : i = 0 ∨ i = 1 ∨ i = 2 ∨ i = 3 ∨ i = 4 ∨ i = 5 ∨ i = 6) with rfl | rfl | rfl | rfl | rfl | rfl | rfl
    · exact h1
    · exact h2
    · exact h3
    · exact h4
    · exact h5
    · exact h6
    · exact h7
  · rintro ⟨h0, hf, h⟩
    exact ⟨h0, hf, h 0 (by omega), h 1 (by omega), h 2 (by omega), h 3 (by omega), h 4 (by omega), h 5 (by omega), h 6 (by omega)⟩
theorem Stores.set {w : World} {S n : Nat} {ws : Nat → Wa} (h : Stores w S n ws) {k i : Nat} (hk : k < n) (hi : i < 7) (v : Int) :
    Stores (w.setCell ⟨S, k * 7 + i, none⟩ (.int .i64 v)) S n (upd ws k ((ws k).put i v)) := by
  obtain ⟨⟨cs, hc⟩, hK⟩ := h
  refine ⟨⟨_, hc.set_ _ _⟩, fun k' hk' => ?_⟩
  have h1 := KindW_iff.1 (hK k' hk')
  have h2 := KindW_iff.1 (hK k hk)
  refine KindW_iff.2 ⟨by rw [size_set]; exact h1.1, fun j => by rw [World.frozen?_setCell]; exact h1.2.1 j, fun j hj => ?_⟩
  by_cases e : k' = k
  · subst e
    rw [upd_same, Wa.get_put _ hi hj]
    by_cases ej : j = i
    · subst ej
      rw [if_pos rfl]
      exact World.cell?_setCell_same' _ _ _ (by rw [h2.2.2 j hj]; rfl)
    · rw [if_neg ej, World.cell?_setCell_other _ _ _ _ (fun h => by injection h; omega)]
      exact h1.2.2 j hj
  · rw [upd_ne _ _ e, World.cell?_setCell_other _ _ _ _ (fun h => by injection h; omega)]
    exact h1.2.2 j hj
theorem Stores.grown {w w' : World} {S n : Nat} {ws : Nat → Wa} (h : Stores w S n ws) {row : Option Nat} (hg : w.grownBy w' row) (hr : some S ≠ row) : Stores w' S n ws := by
  obtain ⟨⟨cs, hc⟩, hK⟩ := h
  have hc' := hc.grown hg hr
  refine ⟨⟨cs, hc'⟩, fun k hk => ?_⟩
  have h1 := KindW_iff.1 (hK k hk)
  refine KindW_iff.2 ⟨hc'.lt, fun j => hc'.frozen j, fun j hj => ?_⟩
  rw [hc'.cell, ← hc.cell]
  exact h1.2.2 j hj
theorem turn_of {w w1 w' : World} {S n : Nat} {ws : Nat → Wa} (hS : Stores w1 S n ws) (hg : w.grownBy w1 (some S)) (hz : w1.heap.size = w.heap.size) (hB : Below w.heap.size w1 w') : Stores w' S n ws ∧ w.grownBy w' (some S) := by
  rw [← hz] at hB
  exact ⟨hS.grown (grown_none hB) (by simp), hB.os.trans hg.os, hB.tape.trans hg.tape, hB.output.trans hg.output, Nat.le_trans (Nat.le_of_eq hz.symm) hB.size, fun j hj hne => (hB.block j (by omega)).trans (hg.block j hj hne)⟩
theorem Stores.same {w : World} {S n : Nat} {ws ws' : Nat → Wa} (h : Stores w S n ws) (e : ∀ k, k < n → ws k = ws' k) : Stores w S n ws' := ⟨h.1, fun k hk => e k hk ▸ h.2 k hk⟩
theorem grownBy_setS {w w' : World} {S : Nat} (h : w.grownBy w' (some S)) (i : Nat) (v : Value) : w.grownBy (w'.setCell ⟨S, i, none⟩ v) (some S) :=
  ⟨h.os, h.tape, h.output, by rw [size_set]; exact h.size, fun j hj hne => (Below.heap_setCell _ _ _ j (fun e => hne (by rw [e]))).trans (h.block j hj hne)⟩
theorem known_mould (b S : Nat) (spv ov : Value) (room : Int) (w : World) (hb : Blk w b 148 #[spv, .int .i64 room, .slice (some ⟨S, 0, none⟩) 1 1, ov]) (hS : Stores w S 1 (fun _ => Wa.zero)) :
    Calls Try.prog 38 #[.pointer (some ⟨b, 0, none⟩), .int .i64 0, .int .i64 10] w fun e w' => e = .returned (.int .i64 0) ∧ Blk w' b 148 #[spv, .int .i64 room, .slice (some ⟨S, 0, none⟩) 1 1, ov] ∧ Stores w' S 1 (fun _ => ⟨10, 0, 0, 0, 0, 0, 0⟩) ∧ w.grownBy w' (some S) := by
  obtain ⟨cs, hcs⟩ := hS.1
  have hbS : some b ≠ some S := fun e => hb.ne_ hcs (by decide) (by injection e)
  refine (mould_ok b S 1 0 spv ov room 10 Wa.zero w hb (by omega) (by omega) (hS.2 0 (by omega)) ⟨by decide, by decide, by decide, by decide, by decide, by decide, by decide, by decide, by decide⟩ (by omega) (by omega) (by decide)).mono ?_
  rintro e w' ⟨rfl, hB⟩
  have hS1 := hS.set (k := 0) (i := 0) (by omega) (by omega) 10
  have hS' : Stores _ S 1 (fun _ => ⟨10, 0, 0, 0, 0, 0, 0⟩) := hS1.same fun k (hk : k < 1) => by
    obtain rfl : k = 0 := by omega
    rfl
  obtain ⟨h1, h2⟩ := turn_of hS' (grownBy_setS (World.grownBy.refl w _) _ _) (size_set _ _ _) hB
  exact ⟨rfl, hb.grown h2 hbS, h1, h2⟩
theorem known_dry (b S : Nat) (spv ov : Value) (room : Int) (w : World) (hb : Blk w b 148 #[spv, .int .i64 room, .slice (some ⟨S, 0, none⟩) 1 1, ov]) (hS : Stores w S 1 (fun _ => ⟨10, 0, 0, 0, 0, 0, 0⟩)) :
    Calls Try.prog 39 #[.pointer (some ⟨b, 0, none⟩), .int .i64 0, .int .i64 8, .int .i64 1] w fun e w' => e = .returned (.int .i64 0) ∧ Blk w' b 148 #[spv, .int .i64 room, .slice (some ⟨S, 0, none⟩) 1 1, ov] ∧ Stores w' S 1 (fun _ => ⟨2, 7, 0, 0, 0, 1, 0⟩) ∧ w.grownBy w' (some S) := by
  obtain ⟨cs, hcs⟩ := hS.1
  have hbS : some b ≠ some S := fun e => hb.ne_ hcs (by decide) (by injection e)
  refine (dry_ok b S 1 0 spv ov room 8 ⟨10, 0, 0, 0, 0, 0, 0⟩ w hb (by omega) (by omega) (hS.2 0 (by omega)) ⟨by decide, by decide, by decide, by decide, by decide, by decide, by decide, by decide, by decide⟩ 1 (by omega) (by omega) (by omega) (by decide)).mono ?_
  rintro e w' ⟨rfl, hB⟩
  have hS1 := (((hS.set (k := 0) (i := 0) (by omega) (by omega) 2).set (k := 0) (i := 1) (by omega) (by omega) 8).set (k := 0) (i := 1) (by omega) (by omega) 7).set (k := 0) (i := 5) (by omega) (by omega) 1
  have hS' : Stores _ S 1 (fun _ => ⟨2, 7, 0, 0, 0, 1, 0⟩) := hS1.same fun k (hk : k < 1) => by
    obtain rfl : k = 0 := by omega
    rfl
  obtain ⟨h1, h2⟩ := turn_of hS' (grownBy_setS (grownBy_setS (grownBy_setS (grownBy_setS (World.grownBy.refl w _) _ _) _ _) _ _) _ _) (by simp only [size_set]) hB
  exact ⟨rfl, hb.grown h2 hbS, h1, h2⟩
end Go.Proofs.Ytlhekifmkkgjlaa
/- Chapter 8: a copy of a stack. -/
namespace Go.Proofs.Ytlhekifmkkgjlaa
open Go Go.RowKit Go.Shelf
set_option maxHeartbeats 4000000
set_option maxRecDepth 100000
theorem info_tier : (Try.prog.info? 72).map (fun i => (i.zero, i.size, i.bytes)) = some (some (.agg #[.slice none 0 0, .slice none 0 0]), 2, 48) := by kernel_rfl
theorem rows_ne {w : World} {base base' : Nat} {e e' : TypeId} {sz sz' n n' : Nat} {v v' : Value} {xs xs' : List Value} (h : w.ownsRow base e sz v n xs) (h' : w.ownsRow base' e' sz' v' n' xs') (hne : e ≠ e') : v.ownBlock = none ∨ v.ownBlock ≠ v'.ownBlock := by
  rcases h'.2 with ⟨rfl, -⟩ | ⟨g, cap, cur, rfl, -, hg, -⟩
  · rcases h.2 with ⟨rfl, -⟩ | ⟨g', cap', cur', rfl, -⟩
    · exact .inl rfl
    · exact .inr (by simp [Value.ownBlock])
  · exact .inr (own_blk_ne h (show Blk w g e' cur from hg) hne)
def tierV (s : Stk) (ca wa : Nat → Option Addr) (cc wc : Nat → Nat) (j i : Nat) : Value := if i = 0 then .slice (ca j) (s.cn j) (cc j) else .slice (wa j) (s.wn j) (wc j)
def rowI (w : World) (base : Nat) (A : Option Addr) (n c : Nat) (x : Nat → Int) : Prop := w.ownsRow base 3 1 (.slice A n c) n (cellsOf 1 n fun i _ => .int .i64 (x i))
theorem rowI.kept {w w' : World} {base n c : Nat} {A : Option Addr} {x : Nat → Int} {row : Option Nat} (h : rowI w base A n c x) (hg : w.grownBy w' row) (hne : (Value.slice A n c).ownBlock = none ∨ (Value.slice A n c).ownBlock ≠ row) : rowI w' base A n c x := World.ownsRow.kept h hg hne
theorem rowI.ext {w w' : World} {base n c : Nat} {A : Option Addr} {x : Nat → Int} (h : rowI w base A n c x) (hb : Below w.heap.size w w') : rowI w' base A n c x := ownBelow h hb
theorem rowI.ir {w : World} {base n c : Nat} {A : Option Addr} {x : Nat → Int} (h : rowI w base A n c x) : IR w w.heap.size A n x := by
  obtain ⟨A', c', hv, hE, -⟩ := ER.of_own h (by omega)
  injection hv with h1 h2 h3
  subst h1
  exact hE
/-- k tiers copied into v -/
structure OwnRel (w : World) (s : Stk) (k : Nat) (v : Value) (ca wa : Nat → Option Addr) (cc wc : Nat → Nat) (wr : World) : Prop where
  below : Below w.heap.size w wr
  bx : Blk wr w.heap.size 55 #[.int .i64 s.wd, .int .i64 s.hg, .slice s.A s.nt s.cap]
  rb : Blk wr (w.heap.size + 1) 55 #[.int .i64 0, .int .i64 0, .slice none 0 0]
  own : wr.ownsRow w.heap.size 72 2 v k (cellsOf 2 k (tierV s ca wa cc wc))
  rows : ∀ j, j < k → rowI wr w.heap.size (ca j) (s.cn j) (cc j) (s.cf j) ∧ rowI wr w.heap.size (wa j) (s.wn j) (wc j) (s.wf j)
theorem OwnRel.ext {w wr w' : World} {s : Stk} {k : Nat} {v : Value} {ca wa : Nat → Option Addr} {cc wc : Nat → Nat} (h : OwnRel w s k v ca wa cc wc wr) (hb : Below wr.heap.size wr w') : OwnRel w s k v ca wa cc wc w' :=
  ⟨h.below.trans (hb.mono h.below.size), h.bx.ext hb, h.rb.ext hb, ownBelow h.own hb, fun j hj => ⟨(h.rows j hj).1.ext hb, (h.rows j hj).2.ext hb⟩⟩
theorem cellsOf_two (n : Nat) (g : Nat → Nat → Value) : cellsOf 2 (n + 1) g = cellsOf 2 n g ++ [g n 0, g n 1] := by
  unfold cellsOf
  rw [show (n + 1) * 2 = n * 2 + 1 + 1 by omega, List.range_succ, List.range_succ, List.map_append, List.map_append, List.append_assoc]
  congr 1
  simp only [List.map_cons, List.map_nil, List.cons_append, List.nil_append]
  rw [show n * 2 / 2 = n by omega, show n * 2 % 2 = 0 by omega, show (n * 2 + 1) / 2 = n by omega, show (n * 2 + 1) % 2 = 1 by omega]
theorem cellsOf_same {sz n : Nat} {g g' : Nat → Nat → Value} (h : ∀ j i, j < n → i < sz → g j i = g' j i) (hs : 0 < sz) : cellsOf sz n g = cellsOf sz n g' := by
  unfold cellsOf
  refine List.map_congr_left fun j hj => h _ _ ?_ (Nat.mod_lt _ hs)
  have := List.mem_range.1 hj
  exact (Nat.div_lt_iff_lt_mul hs).2 this
theorem OwnRel.step {w wr w2 w3 : World} {s : Stk} {k : Nat} {v v' : Value} {ca wa : Nat → Option Addr} {cc wc : Nat → Nat} {A B : Option Addr} {c d : Nat} (h : OwnRel w s k v ca wa cc wc wr) (hb : Below wr.heap.size wr w2)
    (hA : rowI w2 w.heap.size A (s.cn k) c (s.cf k)) (hB : rowI w2 w.heap.size B (s.wn k) d (s.wf k)) (hg : w2.grownBy w3 v.ownBlock)
    (ho : w3.ownsRow w.heap.size 72 2 v' (k + 1) (cellsOf 2 k (tierV s ca wa cc wc) ++ [.slice A (s.cn k) c, .slice B (s.wn k) d])) :
    OwnRel w s (k + 1) v' (upd ca k A) (upd wa k B) (upd cc k c) (upd wc k d) w3 := by
  have h2 := h.ext hb
  have hlt : ∀ j, v.ownBlock = some j → w.heap.size ≤ j := fun j hj => (h2.own.lt j hj).1
  refine ⟨h2.below.grown hg h2.below.size hlt, h2.bx.grown hg (fun e => own_blk_ne h2.own h2.bx (by decide) e.symm), h2.rb.grown hg (fun e => own_blk_ne h2.own h2.rb (by decide) e.symm), ?_, fun j hj => ?_⟩
  · rw [cellsOf_two, cellsOf_same (g := tierV s (upd ca k A) (upd wa k B) (upd cc k c) (upd wc k d)) (g' := tierV s ca wa cc wc) (fun j i hj hi => by unfold tierV; rw [upd_ne _ _ (by omega), upd_ne _ _ (by omega), upd_ne _ _ (by omega), upd_ne _ _ (by omega)]) (by omega)]
    have e0 : tierV s (upd ca k A) (upd wa k B) (upd cc k c) (upd wc k d) k 0 = .slice A (s.cn k) c := by unfold tierV; rw [if_pos rfl, upd_same, upd_same]
    have e1 : tierV s (upd ca k A) (upd wa k B) (upd cc k c) (upd wc k d) k 1 = .slice B (s.wn k) d := by unfold tierV; rw [if_neg (by omega), upd_same, upd_same]
    rw [e0, e1]
    exact ho
  · by_cases e : j = k
    · subst e
      simp only [upd_same]
      exact ⟨hA.kept hg (rows_ne hA h2.own (by decide)), hB.kept hg (rows_ne hB h2.own (by decide))⟩
    · rw [upd_ne _ _ e, upd_ne _ _ e, upd_ne _ _ e, upd_ne _ _ e]
      obtain ⟨r1, r2⟩ := h2.rows j (by omega)
      exact ⟨r1.kept hg (rows_ne r1 h2.own (by decide)), r2.kept hg (rows_ne r2 h2.own (by decide))⟩
def Stk.at (s : Stk) (A : Option Addr) (c : Nat) (ca wa : Nat → Option Addr) (cc wc : Nat → Nat) : Stk := { s with A := A, cap := c, ca := ca, wa := wa, cc := cc, wc := wc }
def OwnPost (s : Stk) (w : World) (e : Ending) (w' : World) : Prop :=
  ∃ A c ca wa cc wc, e = .returned (.agg #[.int .i64 s.wd, .int .i64 s.hg, .slice A s.nt c]) ∧ StkR w' w'.heap.size (s.at A c ca wa cc wc) ∧ Below w.heap.size w w'
theorem OwnRel.stk {w wr : World} {s : Stk} {A : Option Addr} {c : Nat} {ca wa : Nat → Option Addr} {cc wc : Nat → Nat} (h : OwnRel w s s.nt (.slice A s.nt c) ca wa cc wc wr) (hs : StkR w w.heap.size s) : StkR wr wr.heap.size (s.at A c ca wa cc wc) := by
  obtain ⟨A', c', hv, hE, -⟩ := ER.of_own h.own (by omega)
  injection hv with h1 h2 h3
  subst h1 h3
  exact ⟨hs.1, hE, fun k hk => ⟨(hs.2.2 k hk).1, (hs.2.2 k hk).2.1, (h.rows k hk).1.ir, (h.rows k hk).2.ir⟩⟩
/-- the two boxes are written at the end -/
theorem OwnRel.shut {w wr : World} {s : Stk} {A : Option Addr} {c : Nat} {ca wa : Nat → Option Addr} {cc wc : Nat → Nat} (h : OwnRel w s s.nt (.slice A s.nt c) ca wa cc wc wr) (a b d e : Value) :
    Below w.heap.size w ((((wr.setCell ⟨w.heap.size, 2, none⟩ a).setCell ⟨w.heap.size + 1, 0, none⟩ b).setCell ⟨w.heap.size + 1, 1, none⟩ d).setCell ⟨w.heap.size + 1, 2, none⟩ e) ∧ (StkR w w.heap.size s →
    StkR ((((wr.setCell ⟨w.heap.size, 2, none⟩ a).setCell ⟨w.heap.size + 1, 0, none⟩ b).setCell ⟨w.heap.size + 1, 1, none⟩ d).setCell ⟨w.heap.size + 1, 2, none⟩ e) ((((wr.setCell ⟨w.heap.size, 2, none⟩ a).setCell ⟨w.heap.size + 1, 0, none⟩ b).setCell ⟨w.heap.size + 1, 1, none⟩ d).setCell ⟨w.heap.size + 1, 2, none⟩ e).heap.size (s.at A c ca wa cc wc)) := by
  have hb : Below w.heap.size w ((((wr.setCell ⟨w.heap.size, 2, none⟩ a).setCell ⟨w.heap.size + 1, 0, none⟩ b).setCell ⟨w.heap.size + 1, 1, none⟩ d).setCell ⟨w.heap.size + 1, 2, none⟩ e) :=
    (((h.below.setCell (p := ⟨w.heap.size, 2, none⟩) (Nat.le_refl _) _).setCell (p := ⟨w.heap.size + 1, 0, none⟩) (by show w.heap.size ≤ w.heap.size + 1; omega) _).setCell (p := ⟨w.heap.size + 1, 1, none⟩) (by show w.heap.size ≤ w.heap.size + 1; omega) _).setCell (p := ⟨w.heap.size + 1, 2, none⟩) (by show w.heap.size ≤ w.heap.size + 1; omega) _
  refine ⟨hb, fun hs => ?_⟩
  have g1 := grownBy_setC wr w.heap.size 2 a
  have hr : ∀ j, j < s.nt → rowI (wr.setCell ⟨w.heap.size, 2, none⟩ a) w.heap.size (ca j) (s.cn j) (cc j) (s.cf j) ∧ rowI (wr.setCell ⟨w.heap.size, 2, none⟩ a) w.heap.size (wa j) (s.wn j) (wc j) (s.wf j) := fun j hj => ⟨(h.rows j hj).1.kept g1 (.inr (own_blk_ne (h.rows j hj).1 h.bx (by decide))), (h.rows j hj).2.kept g1 (.inr (own_blk_ne (h.rows j hj).2 h.bx (by decide)))⟩
  have ho := World.ownsRow.kept h.own g1 (.inr (own_blk_ne h.own h.bx (by decide)))
  have hrb : Blk (wr.setCell ⟨w.heap.size, 2, none⟩ a) (w.heap.size + 1) 55 #[.int .i64 0, .int .i64 0, .slice none 0 0] := h.rb.far (by show w.heap.size + 1 ≠ w.heap.size; omega) _
  generalize wr.setCell ⟨w.heap.size, 2, none⟩ a = w1 at hb hr ho hrb ⊢
  have g2 := grownBy_setS (grownBy_setS (grownBy_setS (World.grownBy.refl w1 (some (w.heap.size + 1))) 0 b) 1 d) 2 e
  generalize ((w1.setCell ⟨w.heap.size + 1, 0, none⟩ b).setCell ⟨w.heap.size + 1, 1, none⟩ d).setCell ⟨w.heap.size + 1, 2, none⟩ e = w2 at hb g2 ⊢
  have ho2 := ho.kept g2 (.inr (own_blk_ne ho hrb (by decide)))
  obtain ⟨A', c', hv, hE, -⟩ := ER.of_own ho2 (by omega)
  injection hv with h1 h2 h3
  subst h1 h3
  exact ⟨hs.1, hE, fun k hk => ⟨(hs.2.2 k hk).1, (hs.2.2 k hk).2.1, rowI.ir ((hr k hk).1.kept g2 (.inr (own_blk_ne (hr k hk).1 hrb (by decide)))), rowI.ir ((hr k hk).2.kept g2 (.inr (own_blk_ne (hr k hk).2 hrb (by decide))))⟩⟩
end Go.Proofs.Ytlhekifmkkgjlaa
/- Chapter 8: a copy of a stack, walked. -/
namespace Go.Proofs.Ytlhekifmkkgjlaa
open Go Go.RowKit Go.Shelf
set_option maxHeartbeats 4000000
set_option maxRecDepth 100000
theorem ints_one (n : Nat) (x : Nat → Int) : ∀ u ∈ cellsOf 1 n (fun i _ => Value.int .i64 (x i)), u.oneCell' = true := by
  intro u hu
  unfold cellsOf at hu
  obtain ⟨j, -, rfl⟩ := List.mem_map.1 hu
  rfl
theorem tier_read (w : World) (a b : Value) (e : TypeId) : Reads (w.alloc (.cells #[a, b] e)) (w.heap.size + 1) 2 (some ⟨w.heap.size, 0, none⟩) 1 [a, b] := by
  have h : ER (w.alloc (.cells #[a, b] e)) (w.heap.size + 1) 2 (some ⟨w.heap.size, 0, none⟩) 1 (fun _ i => if i = 0 then a else b) := fun _ => ⟨w.heap.size, 0, rfl, by omega, fun k i hk hi => by
    obtain rfl : k = 0 := by omega
    obtain ⟨-, z1, z2⟩ := bx2 (Blk.new w e #[a, b])
    rcases (by omega : i = 0 ∨ i = 1) with rfl | rfl
    · simpa using z1
    · simpa using z2⟩
  have h2 := h.reads (by omega)
  have e2 : cellsOf 2 1 (fun _ i => if i = 0 then a else b) = [a, b] := by
    simp [cellsOf, List.range_succ]
  rw [e2] at h2
  exact h2
theorem own_any (s : Stk) (w : World) (hs : StkR w w.heap.size s) (hn : s.nt ≤ 65536) (hm : ∀ k, k < s.nt → s.cn k ≤ 65536 ∧ s.wn k ≤ 65536) : Calls Try.prog 27 #[.agg #[.int .i64 s.wd, .int .i64 s.hg, .slice s.A s.nt s.cap]] w (OwnPost s w) := by
  have HSS := hide hs
  have HM := hide hm
  obtain ⟨i0, hi, hz0, hz1, hz2⟩ := info_parts info_int
  obtain ⟨t0, hti, htz0, htz1, htz2⟩ := info_parts info_tier
  have HI := hide (show _ ∧ _ ∧ _ ∧ _ from ⟨hi, hz0, hz1, hz2⟩)
  have HT := hide (show _ ∧ _ ∧ _ ∧ _ from ⟨hti, htz0, htz1, htz2⟩)
  clear hs hm hi hz0 hz1 hz2 hti htz0 htz1 htz2
  go_enter Try.func27, Try.ntmps27
  go_wp2_with fail
  have HR0 : Hid (OwnRel w s 0 (.slice (some ⟨w.heap.size + 1 + 1, 0, none⟩) 0 0) (fun _ => none) (fun _ => none) (fun _ => 0) (fun _ => 0) (((w.alloc (.cells #[.int .i64 s.wd, .int .i64 s.hg, .slice s.A s.nt s.cap] 55)).alloc (.cells #[.int .i64 0, .int .i64 0, .slice none 0 0] 55)).alloc (.cells #[] 72))) := hide ⟨(((Below.refl _ _).alloc (Nat.le_refl _) _).alloc (by simp) _).alloc (by simp only [World.size_alloc]; omega) _, ((Blk.new w _ _).alloc _).alloc _, by simpa using (Blk.new (w.alloc (.cells #[.int .i64 s.wd, .int .i64 s.hg, .slice s.A s.nt s.cap] 55)) 55 #[.int .i64 0, .int .i64 0, .slice none 0 0]).alloc (.cells #[] 72),
    by
      have h := own_empty ((w.alloc (.cells #[.int .i64 s.wd, .int .i64 s.hg, .slice s.A s.nt s.cap] 55)).alloc (.cells #[.int .i64 0, .int .i64 0, .slice none 0 0] 55)) 72 2
      simp only [World.size_alloc] at h
      exact ownMono h (by omega), fun j hj => absurd hj (by omega)⟩
  generalize (((w.alloc (.cells #[.int .i64 s.wd, .int .i64 s.hg, .slice s.A s.nt s.cap] 55)).alloc (.cells #[.int .i64 0, .int .i64 0, .slice none 0 0] 55)).alloc (.cells #[] 72)) = W0 at HR0 ⊢
  go_loopw [3, 4] (fun v i wr => ∃ k : Nat, i = .int .i64 k ∧ k ≤ s.nt ∧ ∃ ca wa cc wc, Hid (OwnRel w s k v ca wa cc wc wr)) (fun _ i _ => s.nt - (intOf i).toNat)
  case atStart => exact ⟨0, rfl, by omega, _, _, _, _, HR0⟩
  case round =>
    obtain ⟨k, rfl, hk, ca, wa, cc, wc, HR⟩ := hrel
    obtain ⟨a0, a1, a2, a3, -, -, -⟩ := blk3 HR.out.bx
    by_cases hlt : k < s.nt
    · obtain ⟨tb, toff, hA, htb, hu, hv⟩ := P2.at_ (HSS.out.2.1) hlt
      obtain ⟨l1, l2⟩ := HM.out k hlt
      obtain ⟨-, -, hIc, hIw⟩ := HSS.out.2.2 k hlt
      have HIC := hide (fun W (h : Below w.heap.size w W) => (hIc.below h (Nat.le_refl _)).more h.size)
      have HIW := hide (fun W (h : Below w.heap.size w W) => (hIw.below h (Nat.le_refl _)).more h.size)
      unfold Stk.u at hu
      unfold Stk.v at hv
      rw [hA] at a3
      have HS : Hid (∀ W, Below w.heap.size w W → Blk W w.heap.size 55 #[.int .i64 s.wd, .int .i64 s.hg, .slice s.A s.nt s.cap] → W.cell? ⟨w.heap.size, 2, none⟩ = some (.slice (some ⟨tb, toff, none⟩) s.nt s.cap) ∧ W.cell? ⟨tb, toff + k * 2, none⟩ = some (.slice (s.ca k) (s.cn k) (s.cc k)) ∧ W.cell? ⟨tb, toff + k * 2 + 1, none⟩ = some (.slice (s.wa k) (s.wn k) (s.wc k))) := hide (fun W hb hB => by
        obtain ⟨-, -, -, h3, -, -, -⟩ := blk3 hB
        rw [hA] at h3
        exact ⟨h3, (hb.cell (p := ⟨tb, toff + k * 2, none⟩) htb).trans hu, (hb.cell (p := ⟨tb, toff + k * 2 + 1, none⟩) htb).trans hv⟩)
      have i1 : (0 : Int) ≤ (k : Int) := by omega
      have i2 : (k : Int) < (s.nt : Int) := by omega
      obtain ⟨vA, vc, rfl⟩ := own_shape HR.out.own
      clear hu hv hA hIc hIw
      go_upto_block 1 with fail
      go_cut [3] (fun v' wq => ∃ ca' wa' cc' wc', Hid (OwnRel w s (k + 1) v' ca' wa' cc' wc' wq))
      case first =>
        have HRd := hide (HR.out.ext (Below.refl _ _).drew)
        have HSB : Hid (∀ W, Below wr.heap.size wr W → W.cell? ⟨w.heap.size, 2, none⟩ = some (.slice (some ⟨tb, toff, none⟩) s.nt s.cap) ∧ W.cell? ⟨tb, toff + k * 2, none⟩ = some (.slice (s.ca k) (s.cn k) (s.cc k)) ∧ W.cell? ⟨tb, toff + k * 2 + 1, none⟩ = some (.slice (s.wa k) (s.wn k) (s.wc k))) := hide (fun W h => HS.out W (HR.out.below.trans (h.mono HR.out.below.size)) (HR.out.bx.ext h))
        have Bd := hide (Below.refl wr.heap.size wr).drew
        clear a0 a1 a2 a3
        go_wp2_with fail
        refine wp_region_J (fun W : World => W.cell? ⟨w.heap.size, 2, none⟩ = some (.slice (some ⟨tb, toff, none⟩) s.nt s.cap) ∧ W.cell? ⟨tb, toff + k * 2, none⟩ = some (.slice (s.ca k) (s.cn k) (s.cc k)) ∧ W.cell? ⟨tb, toff + k * 2 + 1, none⟩ = some (.slice (s.wa k) (s.wn k) (s.wc k))) (by kernel_rfl) ?_
        refine wpAnyJ_take 0 (v := ?_) (by first | exact hF | exact wideFn) (HSB.out _ Bd.out) rfl (by kernel_rfl) (by kernel_rfl) (by kernel_rfl) (by kernel_rfl) rfl ?_ (by first | exact fun _ _ _ h => h | exact fun _ _ _ h => hQ2 _ _ _ _ _ h) ?_
        rotate_left
        · intro W hSW
          simp only [List.getElem_toArray, List.getElem_cons_zero, List.getElem_cons_succ]
          (try dsimp only at hSW)
          go_simp
          with_reducible rfl
        (try simp only [List.getElem_toArray, List.getElem_cons_zero, List.getElem_cons_succ, Act.put, List.setIfInBounds_toArray, List.set_cons_zero, List.set_cons_succ])
        refine wpAnyJ_take 2 (v := ?_) (by first | exact hF | exact wideFn) (HSB.out _ Bd.out) rfl (by kernel_rfl) (by kernel_rfl) (by kernel_rfl) (by kernel_rfl) rfl ?_ (by first | exact fun _ _ _ h => h | exact fun _ _ _ h => hQ2 _ _ _ _ _ h) ?_
        rotate_left
        · intro W hSW
          simp only [List.getElem_toArray, List.getElem_cons_zero, List.getElem_cons_succ]
          (try dsimp only at hSW)
          go_simp
          with_reducible rfl
        (try simp only [List.getElem_toArray, List.getElem_cons_zero, List.getElem_cons_succ, Act.put, List.setIfInBounds_toArray, List.set_cons_zero, List.set_cons_succ])
        refine wpAnyJ_take 3 (v := ?_) (by first | exact hF | exact wideFn) (HSB.out _ Bd.out) rfl (by kernel_rfl) (by kernel_rfl) (by kernel_rfl) (by kernel_rfl) rfl ?_ (by first | exact fun _ _ _ h => h | exact fun _ _ _ h => hQ2 _ _ _ _ _ h) ?_
        rotate_left
        · intro W hSW
          simp only [List.getElem_toArray, List.getElem_cons_zero, List.getElem_cons_succ]
          (try dsimp only at hSW)
          go_simp
          with_reducible rfl
        (try simp only [List.getElem_toArray, List.getElem_cons_zero, List.getElem_cons_succ, Act.put, List.setIfInBounds_toArray, List.set_cons_zero, List.set_cons_succ])
        refine wpAnyJ_take 4 (v := ?_) (by first | exact hF | exact wideFn) (HSB.out _ Bd.out) rfl (by kernel_rfl) (by kernel_rfl) (by kernel_rfl) (by kernel_rfl) rfl ?_ (by first | exact fun _ _ _ h => h | exact fun _ _ _ h => hQ2 _ _ _ _ _ h) ?_
        rotate_left
        · intro W hSW
          simp only [List.getElem_toArray, List.getElem_cons_zero, List.getElem_cons_succ]
          (try dsimp only at hSW)
          go_simp
          with_reducible rfl
        (try simp only [List.getElem_toArray, List.getElem_cons_zero, List.getElem_cons_succ, Act.put, List.setIfInBounds_toArray, List.set_cons_zero, List.set_cons_succ])
        refine wpAnyJ_take 5 (v := ?_) (by first | exact hF | exact wideFn) (HSB.out _ Bd.out) rfl (by kernel_rfl) (by kernel_rfl) (by kernel_rfl) (by kernel_rfl) rfl ?_ (by first | exact fun _ _ _ h => h | exact fun _ _ _ h => hQ2 _ _ _ _ _ h) ?_
        rotate_left
        · intro W hSW
          simp only [List.getElem_toArray, List.getElem_cons_zero, List.getElem_cons_succ]
          (try dsimp only at hSW)
          go_simp
          with_reducible rfl
        (try simp only [List.getElem_toArray, List.getElem_cons_zero, List.getElem_cons_succ, Act.put, List.setIfInBounds_toArray, List.set_cons_zero, List.set_cons_succ])
        refine wpAnyJ_take 6 (v := ?_) (by first | exact hF | exact wideFn) (HSB.out _ Bd.out) rfl (by kernel_rfl) (by kernel_rfl) (by kernel_rfl) (by kernel_rfl) rfl ?_ (by first | exact fun _ _ _ h => h | exact fun _ _ _ h => hQ2 _ _ _ _ _ h) ?_
        rotate_left
        · intro W hSW
          simp only [List.getElem_toArray, List.getElem_cons_zero, List.getElem_cons_succ]
          (try dsimp only at hSW)
          go_simp
          with_reducible rfl
        (try simp only [List.getElem_toArray, List.getElem_cons_zero, List.getElem_cons_succ, Act.put, List.setIfInBounds_toArray, List.set_cons_zero, List.set_cons_succ])
        refine wpAnyJ_take 7 (v := ?_) (by first | exact hF | exact wideFn) (HSB.out _ Bd.out) rfl (by kernel_rfl) (by kernel_rfl) (by kernel_rfl) (by kernel_rfl) rfl ?_ (by first | exact fun _ _ _ h => h | exact fun _ _ _ h => hQ2 _ _ _ _ _ h) ?_
        rotate_left
        · intro W hSW
          simp only [List.getElem_toArray, List.getElem_cons_zero, List.getElem_cons_succ]
          (try dsimp only at hSW)
          go_simp
          with_reducible rfl
        (try simp only [List.getElem_toArray, List.getElem_cons_zero, List.getElem_cons_succ, Act.put, List.setIfInBounds_toArray, List.set_cons_zero, List.set_cons_succ])
        refine wpAnyJ_take 10 (v := ?_) (by first | exact hF | exact wideFn) (HSB.out _ Bd.out) rfl (by kernel_rfl) (by kernel_rfl) (by kernel_rfl) (by kernel_rfl) rfl ?_ (by first | exact fun _ _ _ h => h | exact fun _ _ _ h => hQ2 _ _ _ _ _ h) ?_
        rotate_left
        · intro W hSW
          simp only [List.getElem_toArray, List.getElem_cons_zero, List.getElem_cons_succ]
          (try dsimp only at hSW)
          go_simp
          with_reducible rfl
        (try simp only [List.getElem_toArray, List.getElem_cons_zero, List.getElem_cons_succ, Act.put, List.setIfInBounds_toArray, List.set_cons_zero, List.set_cons_succ])
        refine wpAnyJ_take 11 (v := ?_) (by first | exact hF | exact wideFn) (HSB.out _ Bd.out) rfl (by kernel_rfl) (by kernel_rfl) (by kernel_rfl) (by kernel_rfl) rfl ?_ (by first | exact fun _ _ _ h => h | exact fun _ _ _ h => hQ2 _ _ _ _ _ h) ?_
        rotate_left
        · intro W hSW
          simp only [List.getElem_toArray, List.getElem_cons_zero, List.getElem_cons_succ]
          (try dsimp only at hSW)
          go_simp
          with_reducible rfl
        (try simp only [List.getElem_toArray, List.getElem_cons_zero, List.getElem_cons_succ, Act.put, List.setIfInBounds_toArray, List.set_cons_zero, List.set_cons_succ])
        refine wpAnyJ_take 12 (v := ?_) (by first | exact hF | exact wideFn) (HSB.out _ Bd.out) rfl (by kernel_rfl) (by kernel_rfl) (by kernel_rfl) (by kernel_rfl) rfl ?_ (by first | exact fun _ _ _ h => h | exact fun _ _ _ h => hQ2 _ _ _ _ _ h) ?_
        rotate_left
        · intro W hSW
          simp only [List.getElem_toArray, List.getElem_cons_zero, List.getElem_cons_succ]
          (try dsimp only at hSW)
          go_simp
          with_reducible rfl
        (try simp only [List.getElem_toArray, List.getElem_cons_zero, List.getElem_cons_succ, Act.put, List.setIfInBounds_toArray, List.set_cons_zero, List.set_cons_succ])
        refine wpAnyJ_take 13 (v := ?_) (by first | exact hF | exact wideFn) (HSB.out _ Bd.out) rfl (by kernel_rfl) (by kernel_rfl) (by kernel_rfl) (by kernel_rfl) rfl ?_ (by first | exact fun _ _ _ h => h | exact fun _ _ _ h => hQ2 _ _ _ _ _ h) ?_
        rotate_left
        · intro W hSW
          simp only [List.getElem_toArray, List.getElem_cons_zero, List.getElem_cons_succ]
          (try dsimp only at hSW)
          go_simp
          with_reducible rfl
        (try simp only [List.getElem_toArray, List.getElem_cons_zero, List.getElem_cons_succ, Act.put, List.setIfInBounds_toArray, List.set_cons_zero, List.set_cons_succ])
        refine wpAnyJ_take 14 (v := ?_) (by first | exact hF | exact wideFn) (HSB.out _ Bd.out) rfl (by kernel_rfl) (by kernel_rfl) (by kernel_rfl) (by kernel_rfl) rfl ?_ (by first | exact fun _ _ _ h => h | exact fun _ _ _ h => hQ2 _ _ _ _ _ h) ?_
        rotate_left
        · intro W hSW
          simp only [List.getElem_toArray, List.getElem_cons_zero, List.getElem_cons_succ]
          (try dsimp only at hSW)
          go_simp
          with_reducible rfl
        (try simp only [List.getElem_toArray, List.getElem_cons_zero, List.getElem_cons_succ, Act.put, List.setIfInBounds_toArray, List.set_cons_zero, List.set_cons_succ])
        refine wpAnyJ_take 15 (v := ?_) (by first | exact hF | exact wideFn) (HSB.out _ Bd.out) rfl (by kernel_rfl) (by kernel_rfl) (by kernel_rfl) (by kernel_rfl) rfl ?_ (by first | exact fun _ _ _ h => h | exact fun _ _ _ h => hQ2 _ _ _ _ _ h) ?_
        rotate_left
        · intro W hSW
          simp only [List.getElem_toArray, List.getElem_cons_zero, List.getElem_cons_succ]
          (try dsimp only at hSW)
          go_simp
          with_reducible rfl
        (try simp only [List.getElem_toArray, List.getElem_cons_zero, List.getElem_cons_succ, Act.put, List.setIfInBounds_toArray, List.set_cons_zero, List.set_cons_succ])
        generalize wr.drew = wd at HRd Bd ⊢
        have hzd : w.heap.size + 1 + 1 ≤ wd.heap.size := by have := HRd.out.rb.lt; omega
        have hwd : wr.heap.size ≤ wd.heap.size := Bd.out.size
        have HSW := hide (fun W (h : Below wd.heap.size wd W) => HSB.out W (Bd.out.trans (h.mono hwd)))
        clear HSB HR
        refine wpAnyJ_two 1 9 rfl rfl (by kernel_rfl) (fun K hK => ?_) (fun K hK => ?_)
        · have hB1 : Below wd.heap.size wd (wd.alloc (.cells #[] 3)) := (Below.refl _ _).alloc (Nat.le_refl _) _
          simp only [List.getElem_toArray, List.getElem_cons_zero, List.getElem_cons_succ]
          go_simp
          refine hK.out _ _ (fun _ => HSW.out _ hB1) ?_
          clear hK K
          (try simp only [List.getElem_toArray, List.getElem_cons_zero, List.getElem_cons_succ, Act.put, List.setIfInBounds_toArray, List.set_cons_zero, List.set_cons_succ])
          refine wpAnyJ_two 8 9 rfl rfl (by kernel_rfl) (fun K hK => ?_) (fun K hK => ?_)
          · obtain ⟨v8, w8, hrun8, hown8, hg8, -⟩ := run_append_any (P := Try.prog) (wd.alloc (.cells #[] 3)) w.heap.size 56 56 3 i0 _ 1 8 Try.underlying56 HI.out.1 HI.out.2.1 HI.out.2.2.1 HI.out.2.2.2 rfl (by omega) (.slice (some ⟨wd.heap.size, 0, none⟩) 0 0) 0 [] (ownMono (own_empty wd 3 1) (show w.heap.size ≤ wd.heap.size by omega)) _ (s.ca k) (s.cn k) (s.cc k) (cellsOf 1 (s.cn k) fun i _ => .int .i64 (s.cf k i)) (ER.reads (HIC.out _ (HRd.out.below.trans (hB1.mono HRd.out.below.size))) (by omega)) (ints_one _ _) (by unfold maxLen; omega) (by omega) (by simp; omega)
            have hB8 : Below wd.heap.size wd w8 := hB1.grown hg8 (by simp) (by simp [Value.ownBlock])
            rw [Nat.zero_add, List.nil_append] at hown8
            obtain ⟨A8, c8, rfl⟩ := own_shape hown8
            rw [if_pos (by rfl)]
            refine wpIn_append_run (.tmp 14) (.tmp 20) 56 wideFn rfl rfl rfl hrun8 ?_
            refine hK.out _ _ (fun _ => (HSW.out _ hB8)) ?_
            clear hK K
            (try simp only [List.getElem_toArray, List.getElem_cons_zero, List.getElem_cons_succ, Act.put, List.setIfInBounds_toArray, List.set_cons_zero, List.set_cons_succ])
            refine wpAnyJ_one 9 rfl (by kernel_rfl) (fun K hK => ?_)
            have hB3 : Below wd.heap.size wd (w8.alloc (.cells #[] 3)) := hB8.alloc hB8.size _
            simp only [List.getElem_toArray, List.getElem_cons_zero, List.getElem_cons_succ]
            go_simp
            refine hK.out _ _ (fun _ => HSW.out _ hB3) ?_
            clear hK K
            (try simp only [List.getElem_toArray, List.getElem_cons_zero, List.getElem_cons_succ, Act.put, List.setIfInBounds_toArray, List.set_cons_zero, List.set_cons_succ])
            have hr21 : rowI (w8.alloc (.cells #[] 3)) w.heap.size A8 (s.cn k) c8 (s.cf k) := World.ownsRow.alloc hown8 _
            have hr22 := ownMono (own_empty w8 3 1) (show w.heap.size ≤ w8.heap.size by have := hB8.size; omega)
            have hne : (Value.slice A8 (s.cn k) c8).ownBlock ≠ some w8.heap.size := fun e => by have := (hown8.lt _ e).2; omega
            refine wpAnyJ_one 16 rfl (by kernel_rfl) (fun K hK => ?_)
            obtain ⟨v16, w16, hrun16, hown16, hg16, -⟩ := run_append_any (P := Try.prog) (w8.alloc (.cells #[] 3)) w.heap.size 56 56 3 i0 _ 1 8 Try.underlying56 HI.out.1 HI.out.2.1 HI.out.2.2.1 HI.out.2.2.2 rfl (by omega) (.slice (some ⟨w8.heap.size, 0, none⟩) 0 0) 0 [] hr22 _ (s.wa k) (s.wn k) (s.wc k) (cellsOf 1 (s.wn k) fun i _ => .int .i64 (s.wf k i)) (ER.reads (HIW.out _ (HRd.out.below.trans (hB3.mono HRd.out.below.size))) (by omega)) (ints_one _ _) (by unfold maxLen; omega) (by omega) (by have := hB3.size; omega)
            have hB16 : Below wd.heap.size wd w16 := hB3.grown hg16 hB3.size (by have := hB8.size; simp [Value.ownBlock] <;> omega)
            rw [Nat.zero_add, List.nil_append] at hown16
            obtain ⟨A16, c16, rfl⟩ := own_shape hown16
            rw [if_pos (by rfl)]
            refine wpIn_append_run (.tmp 22) (.tmp 28) 56 wideFn rfl rfl rfl hrun16 ?_
            refine hK.out _ _ (fun _ => (HSW.out _ hB16)) ?_
            clear hK K
            (try simp only [List.getElem_toArray, List.getElem_cons_zero, List.getElem_cons_succ, Act.put, List.setIfInBounds_toArray, List.set_cons_zero, List.set_cons_succ])
            have hr21b := hr21.kept hg16 (.inr hne)
            refine wpAnyJ_take 17 (v := ?_) (by first | exact hF | exact wideFn) (HSW.out _ hB16) rfl (by kernel_rfl) (by kernel_rfl) (by kernel_rfl) (by kernel_rfl) rfl ?_ (by first | exact fun _ _ _ h => h | exact fun _ _ _ h => hQ2 _ _ _ _ _ h) ?_
            rotate_left
            · intro W hSW
              simp only [List.getElem_toArray, List.getElem_cons_zero, List.getElem_cons_succ]
              (try dsimp only at hSW)
              go_simp
              with_reducible rfl
            (try simp only [List.getElem_toArray, List.getElem_cons_zero, List.getElem_cons_succ, Act.put, List.setIfInBounds_toArray, List.set_cons_zero, List.set_cons_succ])
            refine wpAnyJ_one 18 rfl (by kernel_rfl) (fun K hK => ?_)
            have hB18 : Below wd.heap.size wd (w16.alloc (.cells #[.slice A8 (s.cn k) c8, .slice A16 (s.wn k) c16] 72)) := hB16.alloc hB16.size _
            simp only [List.getElem_toArray, List.getElem_cons_zero, List.getElem_cons_succ]
            go_simp
            refine hK.out _ _ (fun _ => HSW.out _ hB18) ?_
            clear hK K
            (try simp only [List.getElem_toArray, List.getElem_cons_zero, List.getElem_cons_succ, Act.put, List.setIfInBounds_toArray, List.set_cons_zero, List.set_cons_succ])
            refine wpAnyJ_one 19 rfl (by kernel_rfl) (fun K hK => ?_)
            have ho16 := ownBelow HRd.out.own hB16
            obtain ⟨v19, w19, hrun19, hown19, hg19, -⟩ := run_append_any (P := Try.prog) (w16.alloc (.cells #[.slice A8 (s.cn k) c8, .slice A16 (s.wn k) c16] 72)) w.heap.size 53 53 72 t0 _ 2 48 Try.underlying53 HT.out.1 HT.out.2.1 HT.out.2.2.1 HT.out.2.2.2 rfl (by omega) _ k _ (World.ownsRow.alloc ho16 _) (w16.heap.size + 1) (some ⟨w16.heap.size, 0, none⟩) 1 1 [.slice A8 (s.cn k) c8, .slice A16 (s.wn k) c16] (tier_read w16 _ _ _) (by intro u hu; simp at hu; rcases hu with rfl | rfl <;> rfl) (by unfold maxLen; omega) (by omega) (by have := hB16.size; simp; omega)
            have HN := hide (HRd.out.step hB16 hr21b hown16 ((World.grownBy_alloc w16 (.cells #[.slice A8 (s.cn k) c8, .slice A16 (s.wn k) c16] 72) _).trans hg19) hown19)
            rw [if_pos (by rfl)]
            refine wpIn_append_run (.tmp 13) (.tmp 31) 53 wideFn rfl rfl rfl hrun19 ?_
            refine hK.out _ _ (fun _ => HS.out _ HN.out.below HN.out.bx) ?_
            clear hK K
            (try simp only [List.getElem_toArray, List.getElem_cons_zero, List.getElem_cons_succ, Act.put, List.setIfInBounds_toArray, List.set_cons_zero, List.set_cons_succ])
            refine wpAnyJ_one 20 rfl (by kernel_rfl) (fun K hK => ?_)
            simp only [List.getElem_toArray, List.getElem_cons_zero, List.getElem_cons_succ]
            go_simp
            refine hK.out _ _ (fun h => absurd h (by rw [show lastOp _ _ _ = true from by kernel_rfl]; simp)) ?_
            clear hK K
            (try simp only [List.getElem_toArray, List.getElem_cons_zero, List.getElem_cons_succ, Act.put, List.setIfInBounds_toArray, List.set_cons_zero, List.set_cons_succ])
            refine wpAnyJ_done (by kernel_rfl) ?_
            go_wp2_with fail
            go_meet
            exact ⟨_, _, _, _, HN⟩
          · have hB2 : Below wd.heap.size wd ((wd.alloc (.cells #[] 3)).alloc (.cells #[] 3)) := hB1.alloc (by simp) _
            simp only [List.getElem_toArray, List.getElem_cons_zero, List.getElem_cons_succ]
            go_simp
            refine hK.out _ _ (fun _ => HSW.out _ hB2) ?_
            clear hK K
            (try simp only [List.getElem_toArray, List.getElem_cons_zero, List.getElem_cons_succ, Act.put, List.setIfInBounds_toArray, List.set_cons_zero, List.set_cons_succ])
            refine wpAnyJ_one 8 rfl (by kernel_rfl) (fun K hK => ?_)
            obtain ⟨v8, w8, hrun8, hown8, hg8, hob8⟩ := run_append_any (P := Try.prog) ((wd.alloc (.cells #[] 3)).alloc (.cells #[] 3)) w.heap.size 56 56 3 i0 _ 1 8 Try.underlying56 HI.out.1 HI.out.2.1 HI.out.2.2.1 HI.out.2.2.2 rfl (by omega) (.slice (some ⟨wd.heap.size, 0, none⟩) 0 0) 0 [] ((ownMono (own_empty wd 3 1) (show w.heap.size ≤ wd.heap.size by omega)).alloc _) _ (s.ca k) (s.cn k) (s.cc k) (cellsOf 1 (s.cn k) fun i _ => .int .i64 (s.cf k i)) (ER.reads (HIC.out _ (HRd.out.below.trans (hB2.mono HRd.out.below.size))) (by omega)) (ints_one _ _) (by unfold maxLen; omega) (by omega) (by simp; omega)
            have hB8 : Below wd.heap.size wd w8 := hB2.grown hg8 (by simp <;> omega) (by simp [Value.ownBlock] <;> omega)
            rw [Nat.zero_add, List.nil_append] at hown8
            obtain ⟨A8, c8, rfl⟩ := own_shape hown8
            rw [if_pos (by rfl)]
            refine wpIn_append_run (.tmp 14) (.tmp 20) 56 wideFn rfl rfl rfl hrun8 ?_
            refine hK.out _ _ (fun _ => (HSW.out _ hB8)) ?_
            clear hK K
            (try simp only [List.getElem_toArray, List.getElem_cons_zero, List.getElem_cons_succ, Act.put, List.setIfInBounds_toArray, List.set_cons_zero, List.set_cons_succ])
            have hr22 : w8.ownsRow w.heap.size 3 1 (.slice (some ⟨wd.heap.size + 1, 0, none⟩) 0 0) 0 [] := World.ownsRow.kept (by simpa using ownMono (own_empty (wd.alloc (.cells #[] 3)) 3 1) (show w.heap.size ≤ (wd.alloc (.cells #[] 3)).heap.size by simp; omega)) hg8 (.inr (by simp [Value.ownBlock]))
            have hne : (Value.slice A8 (s.cn k) c8).ownBlock ≠ some (wd.heap.size + 1) := fun e => by
              rcases hob8 with h | h <;> rw [h] at e <;> simp [Value.ownBlock] at e <;> omega
            have hB3 := hB8
            have hr21 : rowI w8 w.heap.size A8 (s.cn k) c8 (s.cf k) := hown8
            refine wpAnyJ_one 16 rfl (by kernel_rfl) (fun K hK => ?_)
            obtain ⟨v16, w16, hrun16, hown16, hg16, -⟩ := run_append_any (P := Try.prog) w8 w.heap.size 56 56 3 i0 _ 1 8 Try.underlying56 HI.out.1 HI.out.2.1 HI.out.2.2.1 HI.out.2.2.2 rfl (by omega) (.slice (some ⟨(wd.heap.size + 1), 0, none⟩) 0 0) 0 [] hr22 _ (s.wa k) (s.wn k) (s.wc k) (cellsOf 1 (s.wn k) fun i _ => .int .i64 (s.wf k i)) (ER.reads (HIW.out _ (HRd.out.below.trans (hB3.mono HRd.out.below.size))) (by omega)) (ints_one _ _) (by unfold maxLen; omega) (by omega) (by have := hB3.size; omega)
            have hB16 : Below wd.heap.size wd w16 := hB3.grown hg16 hB3.size (by have := hB8.size; simp [Value.ownBlock] <;> omega)
            rw [Nat.zero_add, List.nil_append] at hown16
            obtain ⟨A16, c16, rfl⟩ := own_shape hown16
            rw [if_pos (by rfl)]
            refine wpIn_append_run (.tmp 22) (.tmp 28) 56 wideFn rfl rfl rfl hrun16 ?_
            refine hK.out _ _ (fun _ => (HSW.out _ hB16)) ?_
            clear hK K
            (try simp only [List.getElem_toArray, List.getElem_cons_zero, List.getElem_cons_succ, Act.put, List.setIfInBounds_toArray, List.set_cons_zero, List.set_cons_succ])
            have hr21b := hr21.kept hg16 (.inr hne)
            refine wpAnyJ_take 17 (v := ?_) (by first | exact hF | exact wideFn) (HSW.out _ hB16) rfl (by kernel_rfl) (by kernel_rfl) (by kernel_rfl) (by kernel_rfl) rfl ?_ (by first | exact fun _ _ _ h => h | exact fun _ _ _ h => hQ2 _ _ _ _ _ h) ?_
            rotate_left
            · intro W hSW
              simp only [List.getElem_toArray, List.getElem_cons_zero, List.getElem_cons_succ]
              (try dsimp only at hSW)
              go_simp
              with_reducible rfl
            (try simp only [List.getElem_toArray, List.getElem_cons_zero, List.getElem_cons_succ, Act.put, List.setIfInBounds_toArray, List.set_cons_zero, List.set_cons_succ])
            refine wpAnyJ_one 18 rfl (by kernel_rfl) (fun K hK => ?_)
            have hB18 : Below wd.heap.size wd (w16.alloc (.cells #[.slice A8 (s.cn k) c8, .slice A16 (s.wn k) c16] 72)) := hB16.alloc hB16.size _
            simp only [List.getElem_toArray, List.getElem_cons_zero, List.getElem_cons_succ]
            go_simp
            refine hK.out _ _ (fun _ => HSW.out _ hB18) ?_
            clear hK K
            (try simp only [List.getElem_toArray, List.getElem_cons_zero, List.getElem_cons_succ, Act.put, List.setIfInBounds_toArray, List.set_cons_zero, List.set_cons_succ])
            refine wpAnyJ_one 19 rfl (by kernel_rfl) (fun K hK => ?_)
            have ho16 := ownBelow HRd.out.own hB16
            obtain ⟨v19, w19, hrun19, hown19, hg19, -⟩ := run_append_any (P := Try.prog) (w16.alloc (.cells #[.slice A8 (s.cn k) c8, .slice A16 (s.wn k) c16] 72)) w.heap.size 53 53 72 t0 _ 2 48 Try.underlying53 HT.out.1 HT.out.2.1 HT.out.2.2.1 HT.out.2.2.2 rfl (by omega) _ k _ (World.ownsRow.alloc ho16 _) (w16.heap.size + 1) (some ⟨w16.heap.size, 0, none⟩) 1 1 [.slice A8 (s.cn k) c8, .slice A16 (s.wn k) c16] (tier_read w16 _ _ _) (by intro u hu; simp at hu; rcases hu with rfl | rfl <;> rfl) (by unfold maxLen; omega) (by omega) (by have := hB16.size; simp; omega)
            have HN := hide (HRd.out.step hB16 hr21b hown16 ((World.grownBy_alloc w16 (.cells #[.slice A8 (s.cn k) c8, .slice A16 (s.wn k) c16] 72) _).trans hg19) hown19)
            rw [if_pos (by rfl)]
            refine wpIn_append_run (.tmp 13) (.tmp 31) 53 wideFn rfl rfl rfl hrun19 ?_
            refine hK.out _ _ (fun _ => HS.out _ HN.out.below HN.out.bx) ?_
            clear hK K
            (try simp only [List.getElem_toArray, List.getElem_cons_zero, List.getElem_cons_succ, Act.put, List.setIfInBounds_toArray, List.set_cons_zero, List.set_cons_succ])
            refine wpAnyJ_one 20 rfl (by kernel_rfl) (fun K hK => ?_)
            simp only [List.getElem_toArray, List.getElem_cons_zero, List.getElem_cons_succ]
            go_simp
            refine hK.out _ _ (fun h => absurd h (by rw [show lastOp _ _ _ = true from by kernel_rfl]; simp)) ?_
            clear hK K
            (try simp only [List.getElem_toArray, List.getElem_cons_zero, List.getElem_cons_succ, Act.put, List.setIfInBounds_toArray, List.set_cons_zero, List.set_cons_succ])
            refine wpAnyJ_done (by kernel_rfl) ?_
            go_wp2_with fail
            go_meet
            exact ⟨_, _, _, _, HN⟩
        · have hB1 : Below wd.heap.size wd (wd.alloc (.cells #[] 3)) := (Below.refl _ _).alloc (Nat.le_refl _) _
          simp only [List.getElem_toArray, List.getElem_cons_zero, List.getElem_cons_succ]
          go_simp
          refine hK.out _ _ (fun _ => HSW.out _ hB1) ?_
          clear hK K
          (try simp only [List.getElem_toArray, List.getElem_cons_zero, List.getElem_cons_succ, Act.put, List.setIfInBounds_toArray, List.set_cons_zero, List.set_cons_succ])
          refine wpAnyJ_one 1 rfl (by kernel_rfl) (fun K hK => ?_)
          have hB2 : Below wd.heap.size wd ((wd.alloc (.cells #[] 3)).alloc (.cells #[] 3)) := hB1.alloc (by simp) _
          simp only [List.getElem_toArray, List.getElem_cons_zero, List.getElem_cons_succ]
          go_simp
          refine hK.out _ _ (fun _ => HSW.out _ hB2) ?_
          clear hK K
          (try simp only [List.getElem_toArray, List.getElem_cons_zero, List.getElem_cons_succ, Act.put, List.setIfInBounds_toArray, List.set_cons_zero, List.set_cons_succ])
          refine wpAnyJ_one 8 rfl (by kernel_rfl) (fun K hK => ?_)
          obtain ⟨v8, w8, hrun8, hown8, hg8, hob8⟩ := run_append_any (P := Try.prog) ((wd.alloc (.cells #[] 3)).alloc (.cells #[] 3)) w.heap.size 56 56 3 i0 _ 1 8 Try.underlying56 HI.out.1 HI.out.2.1 HI.out.2.2.1 HI.out.2.2.2 rfl (by omega) (.slice (some ⟨(wd.heap.size + 1), 0, none⟩) 0 0) 0 [] (by simpa using ownMono (own_empty (wd.alloc (.cells #[] 3)) 3 1) (show w.heap.size ≤ (wd.alloc (.cells #[] 3)).heap.size by simp; omega)) _ (s.ca k) (s.cn k) (s.cc k) (cellsOf 1 (s.cn k) fun i _ => .int .i64 (s.cf k i)) (ER.reads (HIC.out _ (HRd.out.below.trans (hB2.mono HRd.out.below.size))) (by omega)) (ints_one _ _) (by unfold maxLen; omega) (by omega) (by simp; omega)
          have hB8 : Below wd.heap.size wd w8 := hB2.grown hg8 (by simp <;> omega) (by simp [Value.ownBlock] <;> omega)
          rw [Nat.zero_add, List.nil_append] at hown8
          obtain ⟨A8, c8, rfl⟩ := own_shape hown8
          rw [if_pos (by rfl)]
          refine wpIn_append_run (.tmp 14) (.tmp 20) 56 wideFn rfl rfl rfl hrun8 ?_
          refine hK.out _ _ (fun _ => (HSW.out _ hB8)) ?_
          clear hK K
          (try simp only [List.getElem_toArray, List.getElem_cons_zero, List.getElem_cons_succ, Act.put, List.setIfInBounds_toArray, List.set_cons_zero, List.set_cons_succ])
          have hr22 : w8.ownsRow w.heap.size 3 1 (.slice (some ⟨wd.heap.size, 0, none⟩) 0 0) 0 [] := World.ownsRow.kept ((ownMono (own_empty wd 3 1) (show w.heap.size ≤ wd.heap.size by omega)).alloc _) hg8 (.inr (by simp [Value.ownBlock]))
          have hne : (Value.slice A8 (s.cn k) c8).ownBlock ≠ some wd.heap.size := fun e => by
            rcases hob8 with h | h <;> rw [h] at e <;> simp [Value.ownBlock] at e <;> omega
          have hB3 := hB8
          have hr21 : rowI w8 w.heap.size A8 (s.cn k) c8 (s.cf k) := hown8
          refine wpAnyJ_one 16 rfl (by kernel_rfl) (fun K hK => ?_)
          obtain ⟨v16, w16, hrun16, hown16, hg16, -⟩ := run_append_any (P := Try.prog) w8 w.heap.size 56 56 3 i0 _ 1 8 Try.underlying56 HI.out.1 HI.out.2.1 HI.out.2.2.1 HI.out.2.2.2 rfl (by omega) (.slice (some ⟨wd.heap.size, 0, none⟩) 0 0) 0 [] hr22 _ (s.wa k) (s.wn k) (s.wc k) (cellsOf 1 (s.wn k) fun i _ => .int .i64 (s.wf k i)) (ER.reads (HIW.out _ (HRd.out.below.trans (hB3.mono HRd.out.below.size))) (by omega)) (ints_one _ _) (by unfold maxLen; omega) (by omega) (by have := hB3.size; omega)
          have hB16 : Below wd.heap.size wd w16 := hB3.grown hg16 hB3.size (by have := hB8.size; simp [Value.ownBlock] <;> omega)
          rw [Nat.zero_add, List.nil_append] at hown16
          obtain ⟨A16, c16, rfl⟩ := own_shape hown16
          rw [if_pos (by rfl)]
          refine wpIn_append_run (.tmp 22) (.tmp 28) 56 wideFn rfl rfl rfl hrun16 ?_
          refine hK.out _ _ (fun _ => (HSW.out _ hB16)) ?_
          clear hK K
          (try simp only [List.getElem_toArray, List.getElem_cons_zero, List.getElem_cons_succ, Act.put, List.setIfInBounds_toArray, List.set_cons_zero, List.set_cons_succ])
          have hr21b := hr21.kept hg16 (.inr hne)
          refine wpAnyJ_take 17 (v := ?_) (by first | exact hF | exact wideFn) (HSW.out _ hB16) rfl (by kernel_rfl) (by kernel_rfl) (by kernel_rfl) (by kernel_rfl) rfl ?_ (by first | exact fun _ _ _ h => h | exact fun _ _ _ h => hQ2 _ _ _ _ _ h) ?_
          rotate_left
          · intro W hSW
            simp only [List.getElem_toArray, List.getElem_cons_zero, List.getElem_cons_succ]
            (try dsimp only at hSW)
            go_simp
            with_reducible rfl
          (try simp only [List.getElem_toArray, List.getElem_cons_zero, List.getElem_cons_succ, Act.put, List.setIfInBounds_toArray, List.set_cons_zero, List.set_cons_succ])
          refine wpAnyJ_one 18 rfl (by kernel_rfl) (fun K hK => ?_)
          have hB18 : Below wd.heap.size wd (w16.alloc (.cells #[.slice A8 (s.cn k) c8, .slice A16 (s.wn k) c16] 72)) := hB16.alloc hB16.size _
          simp only [List.getElem_toArray, List.getElem_cons_zero, List.getElem_cons_succ]
          go_simp
          refine hK.out _ _ (fun _ => HSW.out _ hB18) ?_
          clear hK K
          (try simp only [List.getElem_toArray, List.getElem_cons_zero, List.getElem_cons_succ, Act.put, List.setIfInBounds_toArray, List.set_cons_zero, List.set_cons_succ])
          refine wpAnyJ_one 19 rfl (by kernel_rfl) (fun K hK => ?_)
          have ho16 := ownBelow HRd.out.own hB16
          obtain ⟨v19, w19, hrun19, hown19, hg19, -⟩ := run_append_any (P := Try.prog) (w16.alloc (.cells #[.slice A8 (s.cn k) c8, .slice A16 (s.wn k) c16] 72)) w.heap.size 53 53 72 t0 _ 2 48 Try.underlying53 HT.out.1 HT.out.2.1 HT.out.2.2.1 HT.out.2.2.2 rfl (by omega) _ k _ (World.ownsRow.alloc ho16 _) (w16.heap.size + 1) (some ⟨w16.heap.size, 0, none⟩) 1 1 [.slice A8 (s.cn k) c8, .slice A16 (s.wn k) c16] (tier_read w16 _ _ _) (by intro u hu; simp at hu; rcases hu with rfl | rfl <;> rfl) (by unfold maxLen; omega) (by omega) (by have := hB16.size; simp; omega)
          have HN := hide (HRd.out.step hB16 hr21b hown16 ((World.grownBy_alloc w16 (.cells #[.slice A8 (s.cn k) c8, .slice A16 (s.wn k) c16] 72) _).trans hg19) hown19)
          rw [if_pos (by rfl)]
          refine wpIn_append_run (.tmp 13) (.tmp 31) 53 wideFn rfl rfl rfl hrun19 ?_
          refine hK.out _ _ (fun _ => HS.out _ HN.out.below HN.out.bx) ?_
          clear hK K
          (try simp only [List.getElem_toArray, List.getElem_cons_zero, List.getElem_cons_succ, Act.put, List.setIfInBounds_toArray, List.set_cons_zero, List.set_cons_succ])
          refine wpAnyJ_one 20 rfl (by kernel_rfl) (fun K hK => ?_)
          simp only [List.getElem_toArray, List.getElem_cons_zero, List.getElem_cons_succ]
          go_simp
          refine hK.out _ _ (fun h => absurd h (by rw [show lastOp _ _ _ = true from by kernel_rfl]; simp)) ?_
          clear hK K
          (try simp only [List.getElem_toArray, List.getElem_cons_zero, List.getElem_cons_succ, Act.put, List.setIfInBounds_toArray, List.set_cons_zero, List.set_cons_succ])
          refine wpAnyJ_done (by kernel_rfl) ?_
          go_wp2_with fail
          go_meet
          exact ⟨_, _, _, _, HN⟩
      case rest =>
        obtain ⟨ca', wa', cc', wc', HN⟩ := hcut
        go_wp2_with fail
        go_roundw
        case rel => exact ⟨k + 1, by go_num, by omega, ca', wa', cc', wc', HN⟩
        case measure => simp [intOf]; omega
    · obtain rfl : k = s.nt := by omega
      obtain ⟨vA, vc, rfl⟩ := own_shape HR.out.own
      obtain ⟨b0, b1, b2, b3, b4, b5, b6⟩ := blk3 HR.out.rb
      obtain ⟨-, -, -, -, a4, a5, a6⟩ := blk3 HR.out.bx
      go_wp2_with fail
      refine bodyPost_ret (v := .agg #[.int .i64 s.wd, .int .i64 s.hg, .slice vA s.nt vc]) (by simp [results, Try.results27, go_sem, *]) rfl ⟨vA, vc, ca, wa, cc, wc, rfl, ?_, ?_⟩
      · exact (HR.out.shut _ _ _ _).2 HSS.out
      · exact (HR.out.shut _ _ _ _).1
end Go.Proofs.Ytlhekifmkkgjlaa
/- Chapter 8, the reference: in, Rests. -/
namespace Go.Proofs.Ytlhekifmkkgjlaa
open Go Go.RowKit Go.Shelf
set_option maxHeartbeats 4000000
set_option maxRecDepth 100000
def inB (n a b : Int) : Bool := decide (a ≤ n) && decide (n ≤ b)
theorem refIn_any (n a b : Int) (w : World) : Calls Try.prog 70 #[.int .i64 n, .int .i64 a, .int .i64 b] w fun e w' => e = .returned (.bool (inB n a b)) ∧ w = w' := by
  by_cases h1 : a ≤ n
  · go_enter Try.func70, Try.ntmps70
    go_wp2_with fail
    go_ret
    exact ⟨by simp [inB, h1], rfl⟩
  · have hx : inB n a b = false := by simp [inB, h1]
    have HX := hide hx
    clear hx
    go_enter Try.func70, Try.ntmps70
    go_wp2_with fail
    go_ret
    exact ⟨by rw [HX.out]; rfl, rfl⟩
/-- the cells below k on which a brick rests -/
def restTo (s : Stk) (t : Nat) (b : Int) (k : Nat) : List Nat := (cellsTo (s.cf t) b k).filter fun c => covB s ((t : Int) - 1) c
theorem restTo_all (s : Stk) (t : Nat) (b : Int) : restTo s t b (s.cn t) = restL s t b := rfl
theorem restTo_no {s : Stk} {t : Nat} {b : Int} {k : Nat} (h : s.cf t k ≠ b) : restTo s t b (k + 1) = restTo s t b k := by unfold restTo; rw [cellsTo_no h]
theorem restTo_off {s : Stk} {t : Nat} {b : Int} {k : Nat} (h : s.cf t k = b) (hc : covB s ((t : Int) - 1) k = false) : restTo s t b (k + 1) = restTo s t b k := by
  unfold restTo; rw [cellsTo_yes h, List.filter_append, List.filter_cons_of_neg (by simp [hc]), List.filter_nil, List.append_nil]
theorem restTo_on {s : Stk} {t : Nat} {b : Int} {k : Nat} (h : s.cf t k = b) (hc : covB s ((t : Int) - 1) k = true) : restTo s t b (k + 1) = restTo s t b k ++ [k] := by
  unfold restTo; rw [cellsTo_yes h, List.filter_append, List.filter_cons_of_pos (by simp [hc]), List.filter_nil]
theorem restTo_len (s : Stk) (t : Nat) (b : Int) (k : Nat) : (restTo s t b k).length ≤ k := Nat.le_trans (List.length_filter_le _ _) (cellsTo_len _ _ _)
def RestInv (w : World) (s : Stk) (t : Nat) (b : Int) (k : Nat) (v : Value) (wr : World) : Prop :=
  Below w.heap.size w wr ∧ Blk wr w.heap.size 55 #[.int .i64 s.wd, .int .i64 s.hg, .slice s.A s.nt s.cap] ∧ wr.ownsRow w.heap.size 3 1 v (restTo s t b k).length ((restTo s t b k).map iv')
theorem RestInv.push {w wr w2 : World} {s : Stk} {t : Nat} {b : Int} {k : Nat} {v v' : Value} (h : RestInv w s t b k v wr) (he : restTo s t b (k + 1) = restTo s t b k ++ [k]) (hg : (wr.alloc (.cells #[.int .i64 k] 3)).grownBy w2 v.ownBlock)
    (ho : w2.ownsRow w.heap.size 3 1 v' ((restTo s t b k).length + 1) ((restTo s t b k).map iv' ++ [.int .i64 k])) : RestInv w s t b (k + 1) v' w2 := by
  obtain ⟨h1, h2, h3⟩ := h
  have h4 := World.ownsRow.alloc h3 (.cells #[.int .i64 k] 3)
  have h5 := h2.alloc (.cells #[.int .i64 k] 3)
  refine ⟨(h1.alloc h1.size _).grown hg (by have := h1.size; simp; omega) (fun j hj => (h3.lt j hj).1), h5.grown hg (fun e => own_blk_ne h4 h5 (by decide) e.symm), ?_⟩
  rw [he, List.length_append, List.map_append]
  exact ho
theorem refRests_any (s : Stk) (t : Nat) (b : Int) (w : World) (hs : StkR w w.heap.size s) (ht : t < s.nt) (hc : ∀ k, k < s.nt → s.cn k = s.cn t) :
    Calls Try.prog 71 #[.agg #[.int .i64 s.wd, .int .i64 s.hg, .slice s.A s.nt s.cap], .int .i64 t, .int .i64 b] w (RestsPost s t b w) := by
  obtain ⟨i0, hi, hz0, hz1, hz2⟩ := info_parts info_int
  have HI := hide (show _ ∧ _ ∧ _ ∧ _ from ⟨hi, hz0, hz1, hz2⟩)
  obtain ⟨tb, toff, hA, htb, hu, -⟩ := P2.at_ hs.2.1 ht
  obtain ⟨m1, -, hI, -⟩ := hs.2.2 t ht
  have m0 := hs.1
  unfold Stk.u at hu
  have HII := hide hI
  have HSS := hide hs
  have HCC := hide hc
  have HU := hide hu
  have HAA := hide hA
  have i1 : (0 : Int) ≤ (t : Int) := by omega
  have i2 : (t : Int) < (s.nt : Int) := by omega
  clear hi hz0 hz1 hz2 hs hc hI hu hA
  go_enter Try.func71, Try.ntmps71
  go_wp2_with fail
  have HR0 : Hid (RestInv w s t b 0 (.slice (some ⟨w.heap.size + 1, 0, none⟩) 0 0) ((w.alloc (.cells #[.int .i64 s.wd, .int .i64 s.hg, .slice s.A s.nt s.cap] 55)).alloc (.cells #[] 3))) := hide ⟨((Below.refl _ _).alloc (Nat.le_refl _) _).alloc (by simp) _, (Blk.new w _ _).alloc _, by
    have h := own_empty (w.alloc (.cells #[.int .i64 s.wd, .int .i64 s.hg, .slice s.A s.nt s.cap] 55)) 3 1
    simp only [World.size_alloc] at h
    exact ownMono h (by omega)⟩
  generalize ((w.alloc (.cells #[.int .i64 s.wd, .int .i64 s.hg, .slice s.A s.nt s.cap] 55)).alloc (.cells #[] 3)) = W0 at HR0 ⊢
  go_loopw [7, 8] (fun v i wr => ∃ k : Nat, i = .int .i64 k ∧ k ≤ s.cn t ∧ Hid (RestInv w s t b k v wr)) (fun _ i _ => s.cn t - (intOf i).toNat)
  case atStart => exact ⟨0, rfl, by omega, HR0⟩
  case round =>
    obtain ⟨k, rfl, hk, HR⟩ := hrel
    obtain ⟨a0, a1, a2, a3, -, -, -⟩ := blk3 HR.out.2.1
    rw [HAA.out] at a3
    have u1 := (HR.out.1.cell (p := ⟨tb, toff + t * 2, none⟩) htb).trans HU.out
    have l1 := restTo_len s t b k
    by_cases hlt : k < s.cn t
    · obtain ⟨cb, coff, hca, hcb, hcc⟩ := (HII.out.below HR.out.1 (Nat.le_refl _)).at_ hlt
      rw [hca] at u1
      have j1 : (0 : Int) ≤ (k : Int) := by omega
      have j2 : (k : Int) < (s.cn t : Int) := by omega
      obtain ⟨vA, vc, rfl⟩ := own_shape HR.out.2.2
      by_cases hx : s.cf t k = b
      · have HX := hide hx
        have hxb : (s.cf t k == b) = true := by simpa using hx
        clear hx
        by_cases ht0 : t = 0
        · have HV : Hid (covB s ((t : Int) - 1) k = true) := hide (by unfold covB; rw [decide_eq_true (by omega), Bool.true_or])
          have ht1 : ((t : Int) == 0) = true := by simp [ht0]
          clear ht0
          go_wp2_with (at_builtin; refine wpList_append_own _ rfl _ _ 56 rfl w.heap.size 3 i0 (.int .i64 0) 1 8 Try.underlying56 HI.out.1 HI.out.2.1 HI.out.2.2.1 HI.out.2.2.2 rfl (by decide) _ _ _ rfl (HR.out.2.2.alloc _) ⟨wr.heap.size, 0, none⟩ 1 1 [.int .i64 k] rfl rfl (cell_one_new _ _ _) (by simp [Value.oneCell']) (by unfold maxLen; omega) (by omega) (by have := HR.out.1.size; simp; omega) ?_; intro v2 w2 hown2 hg2 _; have HN := hide (HR.out.push (restTo_on HX.out HV.out) hg2 hown2); clear hown2 hg2)
          go_roundw
          case rel => exact ⟨k + 1, by go_num, by omega, HN⟩
          case measure => simp [intOf]; omega
        · have ht1 : ((t : Int) == 0) = false := by simp; omega
          obtain ⟨tb2, toff2, hA2, htb2, hu2, -⟩ := P2.at_ HSS.out.2.1 (show t - 1 < s.nt by omega)
          obtain ⟨-, -, hI2, -⟩ := HSS.out.2.2 (t - 1) (by omega)
          rw [HAA.out] at hA2
          injection hA2 with hA2
          injection hA2 with hA2 hA3
          subst hA2 hA3
          unfold Stk.u at hu2
          obtain ⟨cb2, coff2, hca2, hcb2, hcc2⟩ := (hI2.below HR.out.1 (Nat.le_refl _)).at_ (show k < s.cn (t - 1) by rw [HCC.out _ (by omega)]; exact hlt)
          have u2 := (HR.out.1.cell (p := ⟨tb, toff + (t - 1) * 2, none⟩) htb2).trans hu2
          rw [hca2, HCC.out (t - 1) (by omega)] at u2
          have ht3 : ((t : Int) - 1).toNat = t - 1 := by omega
          have ht4 : (0 : Int) ≤ (t : Int) - 1 := by omega
          have hcv : covB s ((t : Int) - 1) k = decide (0 ≤ s.cf (t - 1) k) := by
            unfold covB; rw [decide_eq_false (by omega), decide_eq_true (by omega), Bool.false_or, Bool.true_and, ht3]
          by_cases hcov : 0 ≤ s.cf (t - 1) k
          · have HV : Hid (covB s ((t : Int) - 1) k = true) := hide (by rw [hcv]; exact decide_eq_true hcov)
            clear hcv hu2 hI2 ht0
            go_wp2_with (at_builtin; refine wpList_append_own _ rfl _ _ 56 rfl w.heap.size 3 i0 (.int .i64 0) 1 8 Try.underlying56 HI.out.1 HI.out.2.1 HI.out.2.2.1 HI.out.2.2.2 rfl (by decide) _ _ _ rfl (HR.out.2.2.alloc _) ⟨wr.heap.size, 0, none⟩ 1 1 [.int .i64 k] rfl rfl (cell_one_new _ _ _) (by simp [Value.oneCell']) (by unfold maxLen; omega) (by omega) (by have := HR.out.1.size; simp; omega) ?_; intro v2 w2 hown2 hg2 _; have HN := hide (HR.out.push (restTo_on HX.out HV.out) hg2 hown2); clear hown2 hg2)
            go_roundw
            case rel => exact ⟨k + 1, by go_num, by omega, HN⟩
            case measure => simp [intOf]; omega
          · have HV : Hid (covB s ((t : Int) - 1) k = false) := hide (by rw [hcv]; exact decide_eq_false hcov)
            clear hcv hu2 hI2 ht0
            have HN : Hid (RestInv w s t b (k + 1) (.slice vA (restTo s t b k).length vc) wr) := hide ⟨HR.out.1, HR.out.2.1, by rw [restTo_off HX.out HV.out]; exact HR.out.2.2⟩
            go_wp2_with fail
            go_roundw
            case rel => exact ⟨k + 1, by go_num, by omega, HN⟩
            case measure => simp [intOf]; omega
      · have HX := hide hx
        have hxb : (s.cf t k == b) = false := by simpa using hx
        clear hx
        have HN : Hid (RestInv w s t b (k + 1) (.slice vA (restTo s t b k).length vc) wr) := hide ⟨HR.out.1, HR.out.2.1, by rw [restTo_no HX.out]; exact HR.out.2.2⟩
        go_wp2_with fail
        go_roundw
        case rel => exact ⟨k + 1, by go_num, by omega, HN⟩
        case measure => simp [intOf]; omega
    · obtain rfl : k = s.cn t := by omega
      obtain ⟨vA, vc, rfl⟩ := own_shape HR.out.2.2
      go_wp2_with fail
      go_ret
      exact ⟨_, rfl, by have h := HR.out.2.2; rw [restTo_all] at h; exact h, HR.out.1⟩
end Go.Proofs.Ytlhekifmkkgjlaa
/- Chapter 8, the reference: Stack. -/
namespace Go.Proofs.Ytlhekifmkkgjlaa
open Go Go.RowKit Go.Shelf
set_option maxHeartbeats 8000000
set_option maxRecDepth 100000
theorem info_bool : (Try.prog.info? 4).map (fun i => (i.zero, i.size, i.bytes)) = some (some (.bool false), 1, 1) := by kernel_rfl
theorem rowV_bools (n : Nat) : madeCells (Value.bool false).cells (n * 1) = rowV n (fun _ => .bool false) := by
  apply Array.ext_getElem?
  intro j
  simp only [rowV, madeCells, Array.getElem?_map, Array.getElem?_range, List.getElem?_toArray, List.getElem?_map, Nat.mul_one]
  by_cases hj : j < n
  · simp [hj, Value.cells, Nat.mod_one]
  · simp [hj]
def hasTo (x : Nat → Int) (i b : Nat) : Bool := anyTo (fun c => x c == (b : Int)) i
theorem stack_no {s : Stk} (h : ¬ (((1 ≤ s.wd ∧ s.wd ≤ 12) ∧ (1 ≤ s.hg ∧ s.hg ≤ 12)) ∧ s.nt ≤ 10 ∧ ∀ k, k < s.nt → tierB (s.wd * s.hg) (s.cn k) (s.wn k) (s.cf k) (s.wf k) = true)) : stackB s = false := by
  rcases e : stackB s with _ | _
  · rfl
  · exact absurd ((stackB_iff s).1 e) h
theorem inB_iff (n a b : Int) : inB n a b = true ↔ a ≤ n ∧ n ≤ b := by simp [inB]
theorem inB_no {n a b : Int} (h : inB n a b = false) : ¬ (a ≤ n ∧ n ≤ b) := fun e => by rw [(inB_iff n a b).2 e] at h; cases h
theorem hasTo_succ (x : Nat → Int) (j b : Nat) : hasTo x (j + 1) b = (hasTo x j b || (x j == (b : Int))) := rfl
theorem has_on {w : World} {g n j q : Nat} {t : TypeId} {x : Nat → Int} (h : Blk w g t (rowV n fun b => .bool (hasTo x j b))) (hq : x j = (q : Int)) : Blk (w.setCell ⟨g, q, none⟩ (.bool true)) g t (rowV n fun b => .bool (hasTo x (j + 1) b)) := by
  have h1 := h.set_ q (.bool true)
  rw [rowV_set] at h1
  rw [rowV_same n _ (upd (fun b => Value.bool (hasTo x j b)) q (.bool true)) (fun b _ => by
    rw [hasTo_succ, hq]
    by_cases e : b = q
    · subst e; rw [upd_same]; simp
    · rw [upd_ne _ _ e]
      have : ((q : Int) == (b : Int)) = false := by simp; omega
      rw [this, Bool.or_false])]
  exact h1
theorem has_off {w : World} {g n j : Nat} {t : TypeId} {x : Nat → Int} (h : Blk w g t (rowV n fun b => .bool (hasTo x j b))) (hq : x j < 0) : Blk w g t (rowV n fun b => .bool (hasTo x (j + 1) b)) := by
  rw [rowV_same n _ (fun b => Value.bool (hasTo x j b)) (fun b _ => by
    rw [hasTo_succ]
    have : (x j == (b : Int)) = false := by simp; omega
    rw [this, Bool.or_false])]
  exact h
theorem has_all {cn wn : Nat} {x : Nat → Int} {b : Nat} (h : allB cn wn x = true) (hb : b < wn) (hh : hasTo x cn b = false) : False := by
  unfold allB at h
  rw [Bool.not_eq_true', ← Bool.not_eq_true, anyTo_iff] at h
  exact h ⟨b, hb, by unfold hasTo at hh; rw [hh]; rfl⟩
theorem tier_yes {m : Int} {cn wn : Nat} {x y : Nat → Int} (h1 : (cn : Int) = m) (h2 : (wn : Int) ≤ m) (h3 : ∀ b, b < wn → 0 ≤ y b ∧ y b ≤ 1000) (h4 : ∀ c, c < cn → -1 ≤ x c ∧ x c ≤ (wn : Int) - 1) (h5 : ∀ b, b < wn → hasTo x cn b = true) : tierB m cn wn x y = true := by
  unfold tierB
  simp only [Bool.and_eq_true, decide_eq_true_eq, wiB_iff]
  refine ⟨h1, h2, h3, h4, ?_⟩
  unfold allB
  rw [Bool.not_eq_true', ← Bool.not_eq_true, anyTo_iff]
  rintro ⟨b, hb, h6⟩
  have := h5 b hb
  unfold hasTo at this
  rw [this] at h6
  cases h6
def StackInv (w : World) (s : Stk) (wr : World) : Prop := Below w.heap.size w wr ∧ Blk wr w.heap.size 55 #[.int .i64 s.wd, .int .i64 s.hg, .slice s.A s.nt s.cap]
theorem StackInv.ext {w wr w' : World} {s : Stk} (h : StackInv w s wr) (hb : Below wr.heap.size wr w') : StackInv w s w' := ⟨h.1.trans (hb.mono h.1.size), h.2.ext hb⟩
theorem refStack_any (s : Stk) (w : World) (hs : StkR w w.heap.size s) : Calls Try.prog 28 #[.agg #[.int .i64 s.wd, .int .i64 s.hg, .slice s.A s.nt s.cap]] w fun e w' => e = .returned (.bool (stackB s)) ∧ Below w.heap.size w w' := by
  have m0 := hs.1
  have HSS := hide hs
  obtain ⟨i0, hi, hz0, hz1, hz2⟩ := info_parts info_bool
  have HGL := hide (fun (n : Nat) (hn : n ≤ 1000000) (W : World) => (show _ from by
    have gl := run_make_rowN (P := Try.prog) 139 4 i0 _ Try.underlying139 hi hz0 .i64 .i64 n n (Nat.le_refl _) (by rw [hz2]; omega) (by omega) W
    rw [hz1, rowV_bools] at gl
    exact gl : (Instr.makeSlice 139 (.int .i64 (n : Int)) (.int .i64 (n : Int))).run Try.prog W = .ok (.slice (some ⟨W.heap.size, 0, none⟩) n n) (W.alloc (.cells (rowV n (fun _ => .bool false)) 4))))
  have HR0 : Hid (StackInv w s (w.alloc (.cells #[.int .i64 s.wd, .int .i64 s.hg, .slice s.A s.nt s.cap] 55))) := hide ⟨(Below.refl _ _).alloc (Nat.le_refl _) _, Blk.new w _ _⟩
  clear hs hi hz0 hz1 hz2
  rcases hd1 : inB s.wd 1 12 with _ | _
  · have HX : Hid (stackB s = false) := hide (stack_no fun e => inB_no hd1 e.1.1)
    go_enter Try.func28, Try.ntmps28
    go_wp2_with ((with_reducible refine (refIn_any _ _ _ _).mono ?_); rintro e w' ⟨rfl, rfl⟩)
    go_ret
    exact ⟨by rw [HX.out]; rfl, HR0.out.1⟩
  rcases hd2 : inB s.hg 1 12 with _ | _
  · have HX : Hid (stackB s = false) := hide (stack_no fun e => inB_no hd2 e.1.2)
    go_enter Try.func28, Try.ntmps28
    go_wp2_with ((with_reducible refine (refIn_any _ _ _ _).mono ?_); rintro e w' ⟨rfl, rfl⟩)
    go_ret
    exact ⟨by rw [HX.out]; rfl, HR0.out.1⟩
  by_cases hd3 : 10 < s.nt
  · have HX : Hid (stackB s = false) := hide (stack_no fun e => by omega)
    have hd4 : (10 : Int) < (s.nt : Int) := by omega
    go_enter Try.func28, Try.ntmps28
    go_wp2_with ((with_reducible refine (refIn_any _ _ _ _).mono ?_); rintro e w' ⟨rfl, rfl⟩)
    go_ret
    exact ⟨by rw [HX.out]; rfl, HR0.out.1⟩
  have hd4 : ¬ (10 : Int) < (s.nt : Int) := by omega
  obtain ⟨w1, w2⟩ := (inB_iff _ _ _).1 hd1
  obtain ⟨g1, g2⟩ := (inB_iff _ _ _).1 hd2
  have hmb := mul_bd (a := s.wd) (b := s.hg) (M := 12) (N := 12) (by omega) (by omega) (by omega) (by omega)
  have hw0 : IntKind.i64.wrap (s.wd * s.hg) = s.wd * s.hg := IntWalk.i64_in _ (by omega)
  go_enter Try.func28, Try.ntmps28
  go_wp2_with ((with_reducible refine (refIn_any _ _ _ _).mono ?_); rintro e w' ⟨rfl, rfl⟩)
  generalize (w.alloc (.cells #[.int .i64 s.wd, .int .i64 s.hg, .slice s.A s.nt s.cap] 55)) = W1 at HR0 ⊢
  clear hd1 hd2
  go_loopw [3] (fun i wr => ∃ k : Nat, i = .int .i64 k ∧ k ≤ s.nt ∧ Hid (∀ t, t < k → tierB (s.wd * s.hg) (s.cn t) (s.wn t) (s.cf t) (s.wf t) = true) ∧ Hid (StackInv w s wr)) (fun i _ => s.nt - (intOf i).toNat)
  case atStart => exact ⟨0, rfl, by omega, hide (fun t h => absurd h (by omega)), HR0⟩
  case round =>
    obtain ⟨k, rfl, hk, HT, HR⟩ := hrel
    obtain ⟨a0, a1, a2, a3, -, -, -⟩ := blk3 HR.out.2
    by_cases hlt : k < s.nt
    · obtain ⟨tb, toff, hA, htb, hu, hv⟩ := P2.at_ (HSS.out.2.1.below HR.out.1 (Nat.le_refl _)) hlt
      obtain ⟨l1, l2, hIc, hIw⟩ := HSS.out.2.2 k hlt
      have HIC := hide hIc
      have HIW := hide hIw
      unfold Stk.u at hu
      unfold Stk.v at hv
      rw [hA] at a3
      have i1 : (0 : Int) ≤ (k : Int) := by omega
      have i2 : (k : Int) < (s.nt : Int) := by omega
      clear hIc hIw hA
      go_upto_region 7 with fail
      have KT := hide (Blk.new wr 72 #[.slice (s.ca k) (s.cn k) (s.cc k), .slice (s.wa k) (s.wn k) (s.wc k)])
      have HRa := hide (HR.out.ext ((Below.refl _ wr).alloc (Nat.le_refl _) (.cells #[.slice (s.ca k) (s.cn k) (s.cc k), .slice (s.wa k) (s.wn k) (s.wc k)] 72)))
      clear a0 a1 a2 a3 hu hv HR
      generalize (wr.alloc (.cells #[.slice (s.ca k) (s.cn k) (s.cc k), .slice (s.wa k) (s.wn k) (s.wc k)] 72)) = wa at KT HRa ⊢
      generalize wr.heap.size = g at KT ⊢
      obtain ⟨b0, b1, b2, b3, -, -, -⟩ := blk3 HRa.out.2
      obtain ⟨t0, t1, t2⟩ := bx2 KT.out
      by_cases hcn : (s.cn k : Int) = s.wd * s.hg
      · by_cases hwn : s.wn k ≤ s.cn k
        · have hcn2 : ((s.cn k : Int) != s.wd * s.hg) = false := by simp [hcn]
          have hwn2 : ¬ (s.cn k : Int) < (s.wn k : Int) := by omega
          have hgl := HGL.out (s.wn k) l2 wa
          have HCN := hide hcn
          clear hcn
          go_wp2_with fail
          clear hgl b0 b1 b2 b3 t0 t1 t2
          have HRb := hide (HRa.out.ext ((Below.refl _ wa).alloc (Nat.le_refl _) (.cells (rowV (s.wn k) fun _ => .bool false) 4)))
          have KTb := hide (KT.out.alloc (.cells (rowV (s.wn k) fun _ => .bool false) 4))
          have KH := hide (Blk.new wa 4 (rowV (s.wn k) fun _ => .bool false))
          have hhg : g ≠ wa.heap.size := by have := KT.out.lt; omega
          have hhw : w.heap.size < wa.heap.size := by have := HRa.out.2.lt; omega
          clear HRa KT
          generalize (wa.alloc (.cells (rowV (s.wn k) fun _ => .bool false) 4)) = wb at HRb KTb KH ⊢
          generalize wa.heap.size = hb at KH hhg hhw ⊢
          obtain ⟨wo, hwo⟩ : ∃ wo : World, wo = wr := ⟨_, rfl⟩
          go_loopw [6] (fun i wr => ∃ j : Nat, i = .int .i64 j ∧ j ≤ s.cn k ∧ Hid (∀ c, c < j → -1 ≤ s.cf k c ∧ s.cf k c ≤ (s.wn k : Int) - 1) ∧ Hid (StackInv w s wr) ∧ Hid (Blk wr g 72 #[.slice (s.ca k) (s.cn k) (s.cc k), .slice (s.wa k) (s.wn k) (s.wc k)]) ∧ Hid (Blk wr hb 4 (rowV (s.wn k) fun b => .bool (hasTo (s.cf k) j b)))) (fun i _ => s.cn k - (intOf i).toNat)
          case atStart => exact ⟨0, rfl, by omega, hide (fun c h => absurd h (by omega)), HRb, KTb, KH⟩
          case round =>
            obtain ⟨j, rfl, hj, HCF, HRc, KTc, KHc⟩ := hrel
            obtain ⟨t0, t1, t2⟩ := bx2 KTc.out
            by_cases hlt2 : j < s.cn k
            · obtain ⟨cb, coff, hca, hcb, hcc⟩ := (HIC.out.below HRc.out.1 (Nat.le_refl _)).at_ hlt2
              rw [hca] at t1
              have HCA := hide hca
              clear hca
              have j1 : (0 : Int) ≤ (j : Int) := by omega
              have j2 : (j : Int) < (s.cn k : Int) := by omega
              have hww : IntKind.i64.wrap ((s.wn k : Int) - 1) = (s.wn k : Int) - 1 := IntWalk.i64_in _ (by omega)
              go_wp2_with fail
              have hHeld : wr.drew.cell? ⟨g, 0, none⟩ = some (.slice (some ⟨cb, coff, none⟩) (s.cn k) (s.cc k)) ∧ wr.drew.cell? ⟨g, 1, none⟩ = some (.slice (s.wa k) (s.wn k) (s.wc k)) ∧ wr.drew.cell? ⟨cb, coff + j, none⟩ = some (.int .i64 (s.cf k j)) := ⟨t1, t2, hcc⟩
              refine wp_region_J (fun W : World => W.cell? ⟨g, 0, none⟩ = some (.slice (some ⟨cb, coff, none⟩) (s.cn k) (s.cc k)) ∧ W.cell? ⟨g, 1, none⟩ = some (.slice (s.wa k) (s.wn k) (s.wc k)) ∧ W.cell? ⟨cb, coff + j, none⟩ = some (.int .i64 (s.cf k j))) (by kernel_rfl) ?_
              rcases hin : inB (s.cf k j) (-1) ((s.wn k : Int) - 1) with _ | _
              · have HX : Hid (stackB s = false) := hide (stack_no fun e => by have := e.2.2 k hlt; simp only [tierB, Bool.and_eq_true, decide_eq_true_eq, wiB_iff] at this; exact inB_no hin (this.2.2.2.1 j hlt2))
                refine wpAnyJ_take 0 (v := ?_) (by first | exact hF | exact wideFn) hHeld rfl (by kernel_rfl) (by kernel_rfl) (by kernel_rfl) (by kernel_rfl) rfl ?_ (by first | exact fun _ _ _ h => h | exact fun _ _ _ h => hQ2 _ _ _ _ _ h) ?_
                rotate_left
                · intro W hSW
                  simp only [List.getElem_toArray, List.getElem_cons_zero, List.getElem_cons_succ]
                  (try dsimp only at hSW)
                  go_simp
                  with_reducible rfl
                (try simp only [List.getElem_toArray, List.getElem_cons_zero, List.getElem_cons_succ, Act.put, List.setIfInBounds_toArray, List.set_cons_zero, List.set_cons_succ])
                refine wpAnyJ_take 1 (v := ?_) (by first | exact hF | exact wideFn) hHeld rfl (by kernel_rfl) (by kernel_rfl) (by kernel_rfl) (by kernel_rfl) rfl ?_ (by first | exact fun _ _ _ h => h | exact fun _ _ _ h => hQ2 _ _ _ _ _ h) ?_
                rotate_left
                · intro W hSW
                  simp only [List.getElem_toArray, List.getElem_cons_zero, List.getElem_cons_succ]
                  (try dsimp only at hSW)
                  go_simp
                  with_reducible rfl
                (try simp only [List.getElem_toArray, List.getElem_cons_zero, List.getElem_cons_succ, Act.put, List.setIfInBounds_toArray, List.set_cons_zero, List.set_cons_succ])
                refine wpAnyJ_take 2 (v := ?_) (by first | exact hF | exact wideFn) hHeld rfl (by kernel_rfl) (by kernel_rfl) (by kernel_rfl) (by kernel_rfl) rfl ?_ (by first | exact fun _ _ _ h => h | exact fun _ _ _ h => hQ2 _ _ _ _ _ h) ?_
                rotate_left
                · intro W hSW
                  simp only [List.getElem_toArray, List.getElem_cons_zero, List.getElem_cons_succ]
                  (try dsimp only at hSW)
                  go_simp
                  with_reducible rfl
                (try simp only [List.getElem_toArray, List.getElem_cons_zero, List.getElem_cons_succ, Act.put, List.setIfInBounds_toArray, List.set_cons_zero, List.set_cons_succ])
                refine wpAnyJ_take 3 (v := ?_) (by first | exact hF | exact wideFn) hHeld rfl (by kernel_rfl) (by kernel_rfl) (by kernel_rfl) (by kernel_rfl) rfl ?_ (by first | exact fun _ _ _ h => h | exact fun _ _ _ h => hQ2 _ _ _ _ _ h) ?_
                rotate_left
                · intro W hSW
                  simp only [List.getElem_toArray, List.getElem_cons_zero, List.getElem_cons_succ]
                  (try dsimp only at hSW)
                  go_simp
                  with_reducible rfl
                (try simp only [List.getElem_toArray, List.getElem_cons_zero, List.getElem_cons_succ, Act.put, List.setIfInBounds_toArray, List.set_cons_zero, List.set_cons_succ])
                refine wpAnyJ_take 4 (v := ?_) (by first | exact hF | exact wideFn) hHeld rfl (by kernel_rfl) (by kernel_rfl) (by kernel_rfl) (by kernel_rfl) rfl ?_ (by first | exact fun _ _ _ h => h | exact fun _ _ _ h => hQ2 _ _ _ _ _ h) ?_
                rotate_left
                · intro W hSW
                  simp only [List.getElem_toArray, List.getElem_cons_zero, List.getElem_cons_succ]
                  (try dsimp only at hSW)
                  go_simp
                  with_reducible rfl
                (try simp only [List.getElem_toArray, List.getElem_cons_zero, List.getElem_cons_succ, Act.put, List.setIfInBounds_toArray, List.set_cons_zero, List.set_cons_succ])
                refine wpAnyJ_take 5 (v := ?_) (by first | exact hF | exact wideFn) hHeld rfl (by kernel_rfl) (by kernel_rfl) (by kernel_rfl) (by kernel_rfl) rfl ?_ (by first | exact fun _ _ _ h => h | exact fun _ _ _ h => hQ2 _ _ _ _ _ h) ?_
                rotate_left
                · intro W hSW
                  simp only [List.getElem_toArray, List.getElem_cons_zero, List.getElem_cons_succ]
                  (try dsimp only at hSW)
                  go_simp
                  with_reducible rfl
                (try simp only [List.getElem_toArray, List.getElem_cons_zero, List.getElem_cons_succ, Act.put, List.setIfInBounds_toArray, List.set_cons_zero, List.set_cons_succ])
                refine wpAnyJ_take 6 (v := ?_) (by first | exact hF | exact wideFn) hHeld rfl (by kernel_rfl) (by kernel_rfl) (by kernel_rfl) (by kernel_rfl) rfl ?_ (by first | exact fun _ _ _ h => h | exact fun _ _ _ h => hQ2 _ _ _ _ _ h) ?_
                rotate_left
                · intro W hSW
                  simp only [List.getElem_toArray, List.getElem_cons_zero, List.getElem_cons_succ]
                  (try dsimp only at hSW)
                  go_simp
                  with_reducible rfl
                (try simp only [List.getElem_toArray, List.getElem_cons_zero, List.getElem_cons_succ, Act.put, List.setIfInBounds_toArray, List.set_cons_zero, List.set_cons_succ])
                refine wpAnyJ_take 7 (v := ?_) (by first | exact hF | exact wideFn) hHeld rfl (by kernel_rfl) (by kernel_rfl) (by kernel_rfl) (by kernel_rfl) rfl ?_ (by first | exact fun _ _ _ h => h | exact fun _ _ _ h => hQ2 _ _ _ _ _ h) ?_
                rotate_left
                · intro W hSW
                  simp only [List.getElem_toArray, List.getElem_cons_zero, List.getElem_cons_succ]
                  (try dsimp only at hSW)
                  go_simp
                  with_reducible rfl
                (try simp only [List.getElem_toArray, List.getElem_cons_zero, List.getElem_cons_succ, Act.put, List.setIfInBounds_toArray, List.set_cons_zero, List.set_cons_succ])
                refine wpAnyJ_take 8 (v := ?_) (by first | exact hF | exact wideFn) hHeld rfl (by kernel_rfl) (by kernel_rfl) (by kernel_rfl) (by kernel_rfl) rfl ?_ (by first | exact fun _ _ _ h => h | exact fun _ _ _ h => hQ2 _ _ _ _ _ h) ?_
                rotate_left
                · intro W hSW
                  simp only [List.getElem_toArray, List.getElem_cons_zero, List.getElem_cons_succ]
                  (try dsimp only at hSW)
                  go_simp
                  with_reducible rfl
                (try simp only [List.getElem_toArray, List.getElem_cons_zero, List.getElem_cons_succ, Act.put, List.setIfInBounds_toArray, List.set_cons_zero, List.set_cons_succ])
                refine wpAnyJ_one 9 rfl (by kernel_rfl) (fun K hK => ?_)
                simp only [List.getElem_toArray, List.getElem_cons_zero, List.getElem_cons_succ]
                go_simp
                refine ⟨trivial, rfl, ?_⟩
                refine (callsIn_wide.2 (refIn_any (s.cf k j) (-1) ((s.wn k : Int) - 1) _)).mono ?_
                rintro e w' ⟨rfl, rfl⟩
                skip
                dsimp only
                refine hK.out _ _ (fun _ => hHeld) ?_
                clear hK K
                (try simp only [List.getElem_toArray, List.getElem_cons_zero, List.getElem_cons_succ, Act.put, List.setIfInBounds_toArray, List.set_cons_zero, List.set_cons_succ])
                refine wpAnyJ_take 10 (v := ?_) (by first | exact hF | exact wideFn) hHeld rfl (by kernel_rfl) (by kernel_rfl) (by kernel_rfl) (by kernel_rfl) rfl ?_ (by first | exact fun _ _ _ h => h | exact fun _ _ _ h => hQ2 _ _ _ _ _ h) ?_
                rotate_left
                · intro W hSW
                  simp only [List.getElem_toArray, List.getElem_cons_zero, List.getElem_cons_succ]
                  (try dsimp only at hSW)
                  go_simp
                  with_reducible rfl
                (try simp only [List.getElem_toArray, List.getElem_cons_zero, List.getElem_cons_succ, Act.put, List.setIfInBounds_toArray, List.set_cons_zero, List.set_cons_succ])
                refine wpAnyJ_done (by kernel_rfl) ?_
                go_wp2_with fail
                go_ret
                exact ⟨by rw [HX.out]; rfl, HRc.out.1.drew⟩
              · have hin2 := (inB_iff _ _ _).1 hin
                refine wpAnyJ_take 0 (v := ?_) (by first | exact hF | exact wideFn) hHeld rfl (by kernel_rfl) (by kernel_rfl) (by kernel_rfl) (by kernel_rfl) rfl ?_ (by first | exact fun _ _ _ h => h | exact fun _ _ _ h => hQ2 _ _ _ _ _ h) ?_
                rotate_left
                · intro W hSW
                  simp only [List.getElem_toArray, List.getElem_cons_zero, List.getElem_cons_succ]
                  (try dsimp only at hSW)
                  go_simp
                  with_reducible rfl
                (try simp only [List.getElem_toArray, List.getElem_cons_zero, List.getElem_cons_succ, Act.put, List.setIfInBounds_toArray, List.set_cons_zero, List.set_cons_succ])
                refine wpAnyJ_take 1 (v := ?_) (by first | exact hF | exact wideFn) hHeld rfl (by kernel_rfl) (by kernel_rfl) (by kernel_rfl) (by kernel_rfl) rfl ?_ (by first | exact fun _ _ _ h => h | exact fun _ _ _ h => hQ2 _ _ _ _ _ h) ?_
                rotate_left
                · intro W hSW
                  simp only [List.getElem_toArray, List.getElem_cons_zero, List.getElem_cons_succ]
                  (try dsimp only at hSW)
                  go_simp
                  with_reducible rfl
                (try simp only [List.getElem_toArray, List.getElem_cons_zero, List.getElem_cons_succ, Act.put, List.setIfInBounds_toArray, List.set_cons_zero, List.set_cons_succ])
                refine wpAnyJ_take 2 (v := ?_) (by first | exact hF | exact wideFn) hHeld rfl (by kernel_rfl) (by kernel_rfl) (by kernel_rfl) (by kernel_rfl) rfl ?_ (by first | exact fun _ _ _ h => h | exact fun _ _ _ h => hQ2 _ _ _ _ _ h) ?_
                rotate_left
                · intro W hSW
                  simp only [List.getElem_toArray, List.getElem_cons_zero, List.getElem_cons_succ]
                  (try dsimp only at hSW)
                  go_simp
                  with_reducible rfl
                (try simp only [List.getElem_toArray, List.getElem_cons_zero, List.getElem_cons_succ, Act.put, List.setIfInBounds_toArray, List.set_cons_zero, List.set_cons_succ])
                refine wpAnyJ_take 3 (v := ?_) (by first | exact hF | exact wideFn) hHeld rfl (by kernel_rfl) (by kernel_rfl) (by kernel_rfl) (by kernel_rfl) rfl ?_ (by first | exact fun _ _ _ h => h | exact fun _ _ _ h => hQ2 _ _ _ _ _ h) ?_
                rotate_left
                · intro W hSW
                  simp only [List.getElem_toArray, List.getElem_cons_zero, List.getElem_cons_succ]
                  (try dsimp only at hSW)
                  go_simp
                  with_reducible rfl
                (try simp only [List.getElem_toArray, List.getElem_cons_zero, List.getElem_cons_succ, Act.put, List.setIfInBounds_toArray, List.set_cons_zero, List.set_cons_succ])
                refine wpAnyJ_take 4 (v := ?_) (by first | exact hF | exact wideFn) hHeld rfl (by kernel_rfl) (by kernel_rfl) (by kernel_rfl) (by kernel_rfl) rfl ?_ (by first | exact fun _ _ _ h => h | exact fun _ _ _ h => hQ2 _ _ _ _ _ h) ?_
                rotate_left
                · intro W hSW
                  simp only [List.getElem_toArray, List.getElem_cons_zero, List.getElem_cons_succ]
                  (try dsimp only at hSW)
                  go_simp
                  with_reducible rfl
                (try simp only [List.getElem_toArray, List.getElem_cons_zero, List.getElem_cons_succ, Act.put, List.setIfInBounds_toArray, List.set_cons_zero, List.set_cons_succ])
                refine wpAnyJ_take 5 (v := ?_) (by first | exact hF | exact wideFn) hHeld rfl (by kernel_rfl) (by kernel_rfl) (by kernel_rfl) (by kernel_rfl) rfl ?_ (by first | exact fun _ _ _ h => h | exact fun _ _ _ h => hQ2 _ _ _ _ _ h) ?_
                rotate_left
                · intro W hSW
                  simp only [List.getElem_toArray, List.getElem_cons_zero, List.getElem_cons_succ]
                  (try dsimp only at hSW)
                  go_simp
                  with_reducible rfl
                (try simp only [List.getElem_toArray, List.getElem_cons_zero, List.getElem_cons_succ, Act.put, List.setIfInBounds_toArray, List.set_cons_zero, List.set_cons_succ])
                refine wpAnyJ_take 6 (v := ?_) (by first | exact hF | exact wideFn) hHeld rfl (by kernel_rfl) (by kernel_rfl) (by kernel_rfl) (by kernel_rfl) rfl ?_ (by first | exact fun _ _ _ h => h | exact fun _ _ _ h => hQ2 _ _ _ _ _ h) ?_
                rotate_left
                · intro W hSW
                  simp only [List.getElem_toArray, List.getElem_cons_zero, List.getElem_cons_succ]
                  (try dsimp only at hSW)
                  go_simp
                  with_reducible rfl
                (try simp only [List.getElem_toArray, List.getElem_cons_zero, List.getElem_cons_succ, Act.put, List.setIfInBounds_toArray, List.set_cons_zero, List.set_cons_succ])
                refine wpAnyJ_take 7 (v := ?_) (by first | exact hF | exact wideFn) hHeld rfl (by kernel_rfl) (by kernel_rfl) (by kernel_rfl) (by kernel_rfl) rfl ?_ (by first | exact fun _ _ _ h => h | exact fun _ _ _ h => hQ2 _ _ _ _ _ h) ?_
                rotate_left
                · intro W hSW
                  simp only [List.getElem_toArray, List.getElem_cons_zero, List.getElem_cons_succ]
                  (try dsimp only at hSW)
                  go_simp
                  with_reducible rfl
                (try simp only [List.getElem_toArray, List.getElem_cons_zero, List.getElem_cons_succ, Act.put, List.setIfInBounds_toArray, List.set_cons_zero, List.set_cons_succ])
                refine wpAnyJ_take 8 (v := ?_) (by first | exact hF | exact wideFn) hHeld rfl (by kernel_rfl) (by kernel_rfl) (by kernel_rfl) (by kernel_rfl) rfl ?_ (by first | exact fun _ _ _ h => h | exact fun _ _ _ h => hQ2 _ _ _ _ _ h) ?_
                rotate_left
                · intro W hSW
                  simp only [List.getElem_toArray, List.getElem_cons_zero, List.getElem_cons_succ]
                  (try dsimp only at hSW)
                  go_simp
                  with_reducible rfl
                (try simp only [List.getElem_toArray, List.getElem_cons_zero, List.getElem_cons_succ, Act.put, List.setIfInBounds_toArray, List.set_cons_zero, List.set_cons_succ])
                refine wpAnyJ_one 9 rfl (by kernel_rfl) (fun K hK => ?_)
                simp only [List.getElem_toArray, List.getElem_cons_zero, List.getElem_cons_succ]
                go_simp
                refine ⟨trivial, rfl, ?_⟩
                refine (callsIn_wide.2 (refIn_any (s.cf k j) (-1) ((s.wn k : Int) - 1) _)).mono ?_
                rintro e w' ⟨rfl, rfl⟩
                skip
                dsimp only
                refine hK.out _ _ (fun _ => hHeld) ?_
                clear hK K
                (try simp only [List.getElem_toArray, List.getElem_cons_zero, List.getElem_cons_succ, Act.put, List.setIfInBounds_toArray, List.set_cons_zero, List.set_cons_succ])
                refine wpAnyJ_take 10 (v := ?_) (by first | exact hF | exact wideFn) hHeld rfl (by kernel_rfl) (by kernel_rfl) (by kernel_rfl) (by kernel_rfl) rfl ?_ (by first | exact fun _ _ _ h => h | exact fun _ _ _ h => hQ2 _ _ _ _ _ h) ?_
                rotate_left
                · intro W hSW
                  simp only [List.getElem_toArray, List.getElem_cons_zero, List.getElem_cons_succ]
                  (try dsimp only at hSW)
                  go_simp
                  with_reducible rfl
                (try simp only [List.getElem_toArray, List.getElem_cons_zero, List.getElem_cons_succ, Act.put, List.setIfInBounds_toArray, List.set_cons_zero, List.set_cons_succ])
                refine wpAnyJ_done (by kernel_rfl) ?_
                have HRd := hide (HRc.out.ext (Below.refl _ _).drew)
                have KTd := hide KTc.out.drew
                have KHd := hide KHc.out.drew
                have HCFn : Hid (∀ c, c < j + 1 → -1 ≤ s.cf k c ∧ s.cf k c ≤ (s.wn k : Int) - 1) := hide (fun c hc => by
                  by_cases e : c = j
                  · subst e; exact hin2
                  · exact HCF.out c (by omega))
                have hcc2 : wr.drew.cell? ⟨cb, coff + j, none⟩ = some (.int .i64 (s.cf k j)) := hcc
                clear hHeld hin hww
                generalize wr.drew = wd at HRd KTd KHd hcc2 ⊢
                obtain ⟨t0, t1', t2'⟩ := bx2 KTd.out
                rw [HCA.out] at t1'
                by_cases hneg : 0 ≤ s.cf k j
                · obtain ⟨q, hq⟩ := Int.eq_ofNat_of_zero_le hneg
                  have HQ := hide hq
                  rw [hq] at hcc2
                  have hqn : q < s.wn k := by omega
                  have q1 : (0 : Int) ≤ (q : Int) := by omega
                  have q2 : (q : Int) < (s.wn k : Int) := by omega
                  have hqc : wd.cell? ⟨hb, q, none⟩ = some (.bool (hasTo (s.cf k) j q)) := by rw [KHd.out.cell, rowV_get _ _ hqn]
                  have hqf := KHd.out.frozen q
                  have hql := KHd.out.lt
                  clear hneg hq hcc hin2 t1 t2
                  go_wp2_with fail
                  go_roundw
                  case rel => exact ⟨j + 1, by go_num, by omega, HCFn, hide ⟨HRd.out.1.setCell (p := ⟨hb, q, none⟩) (by show w.heap.size ≤ hb; omega) _, HRd.out.2.far (p := ⟨hb, q, none⟩) (by show w.heap.size ≠ hb; omega) _⟩, hide (KTd.out.far (p := ⟨hb, q, none⟩) hhg _), hide (has_on KHd.out HQ.out)⟩
                  case measure => simp [intOf]; omega
                · have hcc3 : s.cf k j < 0 := by omega
                  clear hcc hin2 t1 t2
                  go_wp2_with fail
                  go_roundw
                  case rel => exact ⟨j + 1, by go_num, by omega, HCFn, HRd, KTd, hide (has_off KHd.out hcc3)⟩
                  case measure => simp [intOf]; omega
            · obtain rfl : j = s.cn k := by omega
              go_wp2_with fail
              go_loopw [7] (fun i wr => ∃ j : Nat, i = .int .i64 j ∧ j ≤ s.wn k ∧ Hid (∀ b, b < j → hasTo (s.cf k) (s.cn k) b = true ∧ 0 ≤ s.wf k b ∧ s.wf k b ≤ 1000) ∧ Hid (StackInv w s wr) ∧ Hid (Blk wr g 72 #[.slice (s.ca k) (s.cn k) (s.cc k), .slice (s.wa k) (s.wn k) (s.wc k)]) ∧ Hid (Blk wr hb 4 (rowV (s.wn k) fun b => .bool (hasTo (s.cf k) (s.cn k) b)))) (fun i _ => s.wn k - (intOf i).toNat)
              case atStart => exact ⟨0, rfl, by omega, hide (fun c h => absurd h (by omega)), HRc, KTc, KHc⟩
              case round =>
                obtain ⟨j, rfl, hj, HWF, HRe, KTe, KHe⟩ := hrel
                obtain ⟨t0', t1', t2'⟩ := bx2 KTe.out
                by_cases hlt3 : j < s.wn k
                · obtain ⟨eb, eoff, hwa, heb, hec⟩ := (HIW.out.below HRe.out.1 (Nat.le_refl _)).at_ hlt3
                  rw [hwa] at t2'
                  clear hwa
                  have j1 : (0 : Int) ≤ (j : Int) := by omega
                  have j2 : (j : Int) < (s.wn k : Int) := by omega
                  have hqc : wr.cell? ⟨hb, j, none⟩ = some (.bool (hasTo (s.cf k) (s.cn k) j)) := by rw [KHe.out.cell, rowV_get _ _ hlt3]
                  rcases hh : hasTo (s.cf k) (s.cn k) j with _ | _
                  · rw [hh] at hqc
                    have HX : Hid (stackB s = false) := hide (stack_no fun e => by have := e.2.2 k hlt; simp only [tierB, Bool.and_eq_true, decide_eq_true_eq] at this; exact has_all this.2.2.2.2 hlt3 hh)
                    clear hh
                    go_wp2_with fail
                    go_ret
                    exact ⟨by rw [HX.out]; rfl, HRe.out.1⟩
                  · rw [hh] at hqc
                    rcases hin : inB (s.wf k j) 0 1000 with _ | _
                    · have HX : Hid (stackB s = false) := hide (stack_no fun e => by have := e.2.2 k hlt; simp only [tierB, Bool.and_eq_true, decide_eq_true_eq, wiB_iff] at this; exact inB_no hin (this.2.2.1 j hlt3))
                      clear hh
                      go_wp2_with ((with_reducible refine (refIn_any _ _ _ _).mono ?_); rintro e w' ⟨rfl, rfl⟩)
                      go_ret
                      exact ⟨by rw [HX.out]; rfl, HRe.out.1⟩
                    · have hin2 := (inB_iff _ _ _).1 hin
                      have HWFn : Hid (∀ b, b < j + 1 → hasTo (s.cf k) (s.cn k) b = true ∧ 0 ≤ s.wf k b ∧ s.wf k b ≤ 1000) := hide (fun b hb => by
                        by_cases e : b = j
                        · subst e; exact ⟨hh, hin2⟩
                        · exact HWF.out b (by omega))
                      clear hh hin2
                      go_wp2_with ((with_reducible refine (refIn_any _ _ _ _).mono ?_); rintro e w' ⟨rfl, rfl⟩)
                      go_roundw
                      case rel => exact ⟨j + 1, by go_num, by omega, HWFn, HRe, KTe, KHe⟩
                      case measure => simp [intOf]; omega
                · obtain rfl : j = s.wn k := by omega
                  have HTn : Hid (∀ t, t < k + 1 → tierB (s.wd * s.hg) (s.cn t) (s.wn t) (s.cf t) (s.wf t) = true) := hide (fun t ht => by
                    by_cases e : t = k
                    · subst e
                      exact tier_yes HCN.out (by have := HCN.out; omega) (fun b hb => (HWF.out b hb).2) HCF.out (fun b hb => (HWF.out b hb).1)
                    · exact HT.out t (by omega))
                  go_wp2_with fail
                  go_roundw
                  case rel => exact ⟨k + 1, by go_num, by omega, HTn, HRe⟩
                  case measure => simp [intOf]; omega
        · have hcn2 : ((s.cn k : Int) != s.wd * s.hg) = false := by simp [hcn]
          have hwn2 : (s.cn k : Int) < (s.wn k : Int) := by omega
          have HX : Hid (stackB s = false) := hide (stack_no fun e => by have := e.2.2 k hlt; simp only [tierB, Bool.and_eq_true, decide_eq_true_eq] at this; omega)
          clear hcn
          go_wp2_with fail
          go_ret
          exact ⟨by rw [HX.out]; rfl, HRa.out.1⟩
      · have hcn2 : ((s.cn k : Int) != s.wd * s.hg) = true := by simp [hcn]
        have HX : Hid (stackB s = false) := hide (stack_no fun e => by have := e.2.2 k hlt; simp only [tierB, Bool.and_eq_true, decide_eq_true_eq] at this; omega)
        clear hcn
        go_wp2_with fail
        go_ret
        exact ⟨by rw [HX.out]; rfl, HRa.out.1⟩
    · obtain rfl : k = s.nt := by omega
      have HX : Hid (stackB s = true) := hide ((stackB_iff s).2 ⟨⟨⟨w1, w2⟩, ⟨g1, g2⟩⟩, by omega, HT.out⟩)
      go_wp2_with fail
      go_ret
      exact ⟨by rw [HX.out]; rfl, HR.out.1⟩
end Go.Proofs.Ytlhekifmkkgjlaa
