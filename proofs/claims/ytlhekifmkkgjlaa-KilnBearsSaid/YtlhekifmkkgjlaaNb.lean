/- Chapter 8: Crushed. -/
import Derived.Test.YtlhekifmkkgjlaaNa
import Derived.Test.YtlhekifmkkgjlaaNc
set_option linter.unusedSimpArgs false
set_option linter.unusedVariables false
set_option linter.unnecessarySimpa false
namespace Go.Proofs.Ytlhekifmkkgjlaa
open Go Go.RowKit Go.Shelf
set_option maxHeartbeats 4000000
set_option maxRecDepth 100000
theorem Crushed_arg (BA : Option Addr) (bn bc : Nat) (be : Nat → Int) (s : Stk) (w : World) (hs : StkR w w.heap.size s) (hbe : IR w w.heap.size BA bn be) (hbn : bn ≤ 1000000) (h : stackB s = false) : Calls Try.prog 26 #[.agg #[.int .i64 s.wd, .int .i64 s.hg, .slice s.A s.nt s.cap], .slice BA bn bc] w fun e w' => e = .returned (.tuple #[.agg #[.int .i64 0, .int .i64 0], .int .i64 2]) ∧ Below w.heap.size w w' := by
  have he := stkE_no h
  have HB := hide ((((Below.refl w.heap.size w).alloc (Nat.le_refl _) (.cells #[.int .i64 s.wd, .int .i64 s.hg, .slice s.A s.nt s.cap] 55)).alloc (by simp) (.cells #[.slice BA bn bc] 56)).alloc (by simp only [World.size_alloc]; omega) (.cells #[.int .i64 0, .int .i64 0] 59))
  have KS := hide (((Blk.new w 55 #[.int .i64 s.wd, .int .i64 s.hg, .slice s.A s.nt s.cap]).alloc (.cells #[.slice BA bn bc] 56)).alloc (.cells #[.int .i64 0, .int .i64 0] 59))
  have KB := hide (show Blk (((w.alloc (.cells #[.int .i64 s.wd, .int .i64 s.hg, .slice s.A s.nt s.cap] 55)).alloc (.cells #[.slice BA bn bc] 56)).alloc (.cells #[.int .i64 0, .int .i64 0] 59)) (w.heap.size + 1) 56 #[.slice BA bn bc] from by simpa using (Blk.new (w.alloc (.cells #[.int .i64 s.wd, .int .i64 s.hg, .slice s.A s.nt s.cap] 55)) 56 #[.slice BA bn bc]).alloc (.cells #[.int .i64 0, .int .i64 0] 59))
  have KK := hide (show Blk (((w.alloc (.cells #[.int .i64 s.wd, .int .i64 s.hg, .slice s.A s.nt s.cap] 55)).alloc (.cells #[.slice BA bn bc] 56)).alloc (.cells #[.int .i64 0, .int .i64 0] 59)) (w.heap.size + 1 + 1) 59 #[.int .i64 0, .int .i64 0] from by simpa using Blk.new ((w.alloc (.cells #[.int .i64 s.wd, .int .i64 s.hg, .slice s.A s.nt s.cap] 55)).alloc (.cells #[.slice BA bn bc] 56)) 59 #[.int .i64 0, .int .i64 0])
  have HSS := hide hs
  have HBE := hide hbe
  clear hs hbe
  go_enter Try.func26, Try.ntmps26
  go_wp2_with fail
  generalize (((w.alloc (.cells #[.int .i64 s.wd, .int .i64 s.hg, .slice s.A s.nt s.cap] 55)).alloc (.cells #[.slice BA bn bc] 56)).alloc (.cells #[.int .i64 0, .int .i64 0] 59)) = W3 at HB KS KB KK ⊢
  refine (newPile_any s _ ((HSS.out.below HB.out (Nat.le_refl _)).more HB.out.size)).mono ?_
  rintro e w1 ⟨rfl, hb1⟩
  have HB1 := hide (HB.out.trans (hb1.mono HB.out.size))
  have KS1 := hide (KS.out.ext hb1)
  have KB1 := hide (KB.out.ext hb1)
  have KK1 := hide (KK.out.ext hb1)
  obtain ⟨a0, a1, a2, a3, a4, a5, a6⟩ := blk3 KS1.out
  obtain ⟨b0, b1, b2⟩ := blk1 KB1.out
  obtain ⟨c0, c1, c2, c3, c4⟩ := blk2 KK1.out
  clear hb1 KS KB KK HB
  rw [he]
  clear he h
  go_wp2_with fail
  refine bodyPost_ret (v := .tuple #[.agg #[.int .i64 0, .int .i64 0], .int .i64 2]) (by simp [results, Try.results26, go_sem, *]) rfl ⟨rfl, ?_⟩
  exact (set2B HB1.out (by omega) _ _).alloc (by have := HB1.out.size; simp [size_set]; omega) _
theorem Crushed_form (BA : Option Addr) (bn bc : Nat) (be : Nat → Int) (s : Stk) (w : World) (hs : StkR w w.heap.size s) (hbe : IR w w.heap.size BA bn be) (hbn : bn ≤ 1000000) (h : stackB s = true) (hf : bn ≠ s.nt) : Calls Try.prog 26 #[.agg #[.int .i64 s.wd, .int .i64 s.hg, .slice s.A s.nt s.cap], .slice BA bn bc] w fun e w' => e = .returned (.tuple #[.agg #[.int .i64 0, .int .i64 0], .int .i64 4]) ∧ Below w.heap.size w w' := by
  have he := stkE_ok h
  have hn := hs.1
  have HB := hide ((((Below.refl w.heap.size w).alloc (Nat.le_refl _) (.cells #[.int .i64 s.wd, .int .i64 s.hg, .slice s.A s.nt s.cap] 55)).alloc (by simp) (.cells #[.slice BA bn bc] 56)).alloc (by simp only [World.size_alloc]; omega) (.cells #[.int .i64 0, .int .i64 0] 59))
  have KS := hide (((Blk.new w 55 #[.int .i64 s.wd, .int .i64 s.hg, .slice s.A s.nt s.cap]).alloc (.cells #[.slice BA bn bc] 56)).alloc (.cells #[.int .i64 0, .int .i64 0] 59))
  have KB := hide (show Blk (((w.alloc (.cells #[.int .i64 s.wd, .int .i64 s.hg, .slice s.A s.nt s.cap] 55)).alloc (.cells #[.slice BA bn bc] 56)).alloc (.cells #[.int .i64 0, .int .i64 0] 59)) (w.heap.size + 1) 56 #[.slice BA bn bc] from by simpa using (Blk.new (w.alloc (.cells #[.int .i64 s.wd, .int .i64 s.hg, .slice s.A s.nt s.cap] 55)) 56 #[.slice BA bn bc]).alloc (.cells #[.int .i64 0, .int .i64 0] 59))
  have KK := hide (show Blk (((w.alloc (.cells #[.int .i64 s.wd, .int .i64 s.hg, .slice s.A s.nt s.cap] 55)).alloc (.cells #[.slice BA bn bc] 56)).alloc (.cells #[.int .i64 0, .int .i64 0] 59)) (w.heap.size + 1 + 1) 59 #[.int .i64 0, .int .i64 0] from by simpa using Blk.new ((w.alloc (.cells #[.int .i64 s.wd, .int .i64 s.hg, .slice s.A s.nt s.cap] 55)).alloc (.cells #[.slice BA bn bc] 56)) 59 #[.int .i64 0, .int .i64 0])
  have HSS := hide hs
  have HBE := hide hbe
  clear hs hbe
  go_enter Try.func26, Try.ntmps26
  go_wp2_with fail
  generalize (((w.alloc (.cells #[.int .i64 s.wd, .int .i64 s.hg, .slice s.A s.nt s.cap] 55)).alloc (.cells #[.slice BA bn bc] 56)).alloc (.cells #[.int .i64 0, .int .i64 0] 59)) = W3 at HB KS KB KK ⊢
  refine (newPile_any s _ ((HSS.out.below HB.out (Nat.le_refl _)).more HB.out.size)).mono ?_
  rintro e w1 ⟨rfl, hb1⟩
  have HB1 := hide (HB.out.trans (hb1.mono HB.out.size))
  have KS1 := hide (KS.out.ext hb1)
  have KB1 := hide (KB.out.ext hb1)
  have KK1 := hide (KK.out.ext hb1)
  obtain ⟨a0, a1, a2, a3, a4, a5, a6⟩ := blk3 KS1.out
  obtain ⟨b0, b1, b2⟩ := blk1 KB1.out
  obtain ⟨c0, c1, c2, c3, c4⟩ := blk2 KK1.out
  clear hb1 KS KB KK HB
  rw [he]
  clear he h
  have hf2 : ((bn : Int) != (s.nt : Int)) = true := by simp; omega
  have hf3 : ¬ (bn : Int) = (s.nt : Int) := by omega
  go_wp2_with fail
  refine bodyPost_ret (v := .tuple #[.agg #[.int .i64 0, .int .i64 0], .int .i64 4]) (by simp [results, Try.results26, go_sem, *]) rfl ⟨rfl, ?_⟩
  exact (set2B HB1.out (by omega) _ _).alloc (by have := HB1.out.size; simp [size_set]; omega) _
theorem Crushed_range (BA : Option Addr) (bn bc : Nat) (be : Nat → Int) (s : Stk) (w : World) (hs : StkR w w.heap.size s) (hbe : IR w w.heap.size BA bn be) (hbn : bn ≤ 1000000) (h : stackB s = true) (hf : bn = s.nt) (hr : wiB 0 1000000 be bn = false) : Calls Try.prog 26 #[.agg #[.int .i64 s.wd, .int .i64 s.hg, .slice s.A s.nt s.cap], .slice BA bn bc] w fun e w' => e = .returned (.tuple #[.agg #[.int .i64 0, .int .i64 0], .int .i64 3]) ∧ Below w.heap.size w w' := by
  have he := stkE_ok h
  have hn := hs.1
  have HFN := hide hf
  clear hf
  have HB := hide ((((Below.refl w.heap.size w).alloc (Nat.le_refl _) (.cells #[.int .i64 s.wd, .int .i64 s.hg, .slice s.A s.nt s.cap] 55)).alloc (by simp) (.cells #[.slice BA bn bc] 56)).alloc (by simp only [World.size_alloc]; omega) (.cells #[.int .i64 0, .int .i64 0] 59))
  have KS := hide (((Blk.new w 55 #[.int .i64 s.wd, .int .i64 s.hg, .slice s.A s.nt s.cap]).alloc (.cells #[.slice BA bn bc] 56)).alloc (.cells #[.int .i64 0, .int .i64 0] 59))
  have KB := hide (show Blk (((w.alloc (.cells #[.int .i64 s.wd, .int .i64 s.hg, .slice s.A s.nt s.cap] 55)).alloc (.cells #[.slice BA bn bc] 56)).alloc (.cells #[.int .i64 0, .int .i64 0] 59)) (w.heap.size + 1) 56 #[.slice BA bn bc] from by simpa using (Blk.new (w.alloc (.cells #[.int .i64 s.wd, .int .i64 s.hg, .slice s.A s.nt s.cap] 55)) 56 #[.slice BA bn bc]).alloc (.cells #[.int .i64 0, .int .i64 0] 59))
  have KK := hide (show Blk (((w.alloc (.cells #[.int .i64 s.wd, .int .i64 s.hg, .slice s.A s.nt s.cap] 55)).alloc (.cells #[.slice BA bn bc] 56)).alloc (.cells #[.int .i64 0, .int .i64 0] 59)) (w.heap.size + 1 + 1) 59 #[.int .i64 0, .int .i64 0] from by simpa using Blk.new ((w.alloc (.cells #[.int .i64 s.wd, .int .i64 s.hg, .slice s.A s.nt s.cap] 55)).alloc (.cells #[.slice BA bn bc] 56)) 59 #[.int .i64 0, .int .i64 0])
  have HSS := hide hs
  have HBE := hide hbe
  clear hs hbe
  go_enter Try.func26, Try.ntmps26
  go_wp2_with fail
  generalize (((w.alloc (.cells #[.int .i64 s.wd, .int .i64 s.hg, .slice s.A s.nt s.cap] 55)).alloc (.cells #[.slice BA bn bc] 56)).alloc (.cells #[.int .i64 0, .int .i64 0] 59)) = W3 at HB KS KB KK ⊢
  refine (newPile_any s _ ((HSS.out.below HB.out (Nat.le_refl _)).more HB.out.size)).mono ?_
  rintro e w1 ⟨rfl, hb1⟩
  have HB1 := hide (HB.out.trans (hb1.mono HB.out.size))
  have KS1 := hide (KS.out.ext hb1)
  have KB1 := hide (KB.out.ext hb1)
  have KK1 := hide (KK.out.ext hb1)
  obtain ⟨a0, a1, a2, a3, a4, a5, a6⟩ := blk3 KS1.out
  obtain ⟨b0, b1, b2⟩ := blk1 KB1.out
  obtain ⟨c0, c1, c2, c3, c4⟩ := blk2 KK1.out
  clear hb1 KS KB KK HB
  rw [he]
  clear he h
  have hf2 : ((bn : Int) != (s.nt : Int)) = false := by simp [HFN.out]
  have HR := hide (fun W (hb : Below w.heap.size w W) => within_any 0 1000000 BA bn bc be W (by unfold maxLen; omega) ((HBE.out.below hb (Nat.le_refl _)).more hb.size))
  rw [hr] at HR
  clear hr
  go_wp2_with fail
  refine (HR.out _ (HB1.out.alloc HB1.out.size _)).mono ?_
  rintro e w2 ⟨rfl, hb2⟩
  have HB2 := hide ((HB1.out.alloc HB1.out.size (.cells #[.int .i64 s.wd, .int .i64 s.hg, .slice s.A s.nt s.cap] 131)).trans (hb2.mono (by have := HB1.out.size; simp only [World.size_alloc]; omega)))
  have KS2 := hide ((KS1.out.alloc (.cells #[.int .i64 s.wd, .int .i64 s.hg, .slice s.A s.nt s.cap] 131)).ext hb2)
  have KB2 := hide ((KB1.out.alloc (.cells #[.int .i64 s.wd, .int .i64 s.hg, .slice s.A s.nt s.cap] 131)).ext hb2)
  have KK2 := hide ((KK1.out.alloc (.cells #[.int .i64 s.wd, .int .i64 s.hg, .slice s.A s.nt s.cap] 131)).ext hb2)
  have KP2 := hide (Blk.ext (Blk.new w1 131 #[.int .i64 s.wd, .int .i64 s.hg, .slice s.A s.nt s.cap]) hb2)
  clear hb2 a0 a1 a2 a3 a4 a5 a6 b0 b1 b2 c0 c1 c2 c3 c4
  obtain ⟨a0, a1, a2, a3, a4, a5, a6⟩ := blk3 KS2.out
  obtain ⟨b0, b1, b2⟩ := blk1 KB2.out
  obtain ⟨c0, c1, c2, c3, c4⟩ := blk2 KK2.out
  go_wp2_with fail
  refine bodyPost_ret (v := .tuple #[.agg #[.int .i64 0, .int .i64 0], .int .i64 3]) (by simp [results, Try.results26, go_sem, *]) rfl ⟨rfl, ?_⟩
  exact set2B HB2.out (by omega) _ _
theorem Crushed_loads (BA : Option Addr) (bn bc : Nat) (be : Nat → Int) (s : Stk) (w : World) (hs : StkR w w.heap.size s) (hbe : IR w w.heap.size BA bn be) (hbn : bn ≤ 1000000) (E : Int) (hE : E ≠ 0) (h : stackB s = true) (hf : bn = s.nt) (hr : wiB 0 1000000 be bn = true)
    (hl : ∀ W, Below w.heap.size w W → Calls Try.prog 32 #[.agg #[.int .i64 s.wd, .int .i64 s.hg, .slice s.A s.nt s.cap]] W fun e w' => e = .returned (.tuple #[.slice none 0 0, .slice none 0 0, .int .i64 E]) ∧ Below W.heap.size W w') : Calls Try.prog 26 #[.agg #[.int .i64 s.wd, .int .i64 s.hg, .slice s.A s.nt s.cap], .slice BA bn bc] w fun e w' => e = .returned (.tuple #[.agg #[.int .i64 0, .int .i64 0], .int .i64 E]) ∧ Below w.heap.size w w' := by
  have he := stkE_ok h
  have hn := hs.1
  have HFN := hide hf
  clear hf
  have HL := hide hl
  clear hl
  have HB := hide ((((Below.refl w.heap.size w).alloc (Nat.le_refl _) (.cells #[.int .i64 s.wd, .int .i64 s.hg, .slice s.A s.nt s.cap] 55)).alloc (by simp) (.cells #[.slice BA bn bc] 56)).alloc (by simp only [World.size_alloc]; omega) (.cells #[.int .i64 0, .int .i64 0] 59))
  have KS := hide (((Blk.new w 55 #[.int .i64 s.wd, .int .i64 s.hg, .slice s.A s.nt s.cap]).alloc (.cells #[.slice BA bn bc] 56)).alloc (.cells #[.int .i64 0, .int .i64 0] 59))
  have KB := hide (show Blk (((w.alloc (.cells #[.int .i64 s.wd, .int .i64 s.hg, .slice s.A s.nt s.cap] 55)).alloc (.cells #[.slice BA bn bc] 56)).alloc (.cells #[.int .i64 0, .int .i64 0] 59)) (w.heap.size + 1) 56 #[.slice BA bn bc] from by simpa using (Blk.new (w.alloc (.cells #[.int .i64 s.wd, .int .i64 s.hg, .slice s.A s.nt s.cap] 55)) 56 #[.slice BA bn bc]).alloc (.cells #[.int .i64 0, .int .i64 0] 59))
  have KK := hide (show Blk (((w.alloc (.cells #[.int .i64 s.wd, .int .i64 s.hg, .slice s.A s.nt s.cap] 55)).alloc (.cells #[.slice BA bn bc] 56)).alloc (.cells #[.int .i64 0, .int .i64 0] 59)) (w.heap.size + 1 + 1) 59 #[.int .i64 0, .int .i64 0] from by simpa using Blk.new ((w.alloc (.cells #[.int .i64 s.wd, .int .i64 s.hg, .slice s.A s.nt s.cap] 55)).alloc (.cells #[.slice BA bn bc] 56)) 59 #[.int .i64 0, .int .i64 0])
  have HSS := hide hs
  have HBE := hide hbe
  clear hs hbe
  go_enter Try.func26, Try.ntmps26
  go_wp2_with fail
  generalize (((w.alloc (.cells #[.int .i64 s.wd, .int .i64 s.hg, .slice s.A s.nt s.cap] 55)).alloc (.cells #[.slice BA bn bc] 56)).alloc (.cells #[.int .i64 0, .int .i64 0] 59)) = W3 at HB KS KB KK ⊢
  refine (newPile_any s _ ((HSS.out.below HB.out (Nat.le_refl _)).more HB.out.size)).mono ?_
  rintro e w1 ⟨rfl, hb1⟩
  have HB1 := hide (HB.out.trans (hb1.mono HB.out.size))
  have KS1 := hide (KS.out.ext hb1)
  have KB1 := hide (KB.out.ext hb1)
  have KK1 := hide (KK.out.ext hb1)
  obtain ⟨a0, a1, a2, a3, a4, a5, a6⟩ := blk3 KS1.out
  obtain ⟨b0, b1, b2⟩ := blk1 KB1.out
  obtain ⟨c0, c1, c2, c3, c4⟩ := blk2 KK1.out
  clear hb1 KS KB KK HB
  rw [he]
  clear he h
  have hf2 : ((bn : Int) != (s.nt : Int)) = false := by simp [HFN.out]
  have hE2 : (E != 0) = true := by simpa using hE
  have HR := hide (fun W (hb : Below w.heap.size w W) => within_any 0 1000000 BA bn bc be W (by unfold maxLen; omega) ((HBE.out.below hb (Nat.le_refl _)).more hb.size))
  rw [hr] at HR
  clear hr
  go_wp2_with fail
  refine (HR.out _ (HB1.out.alloc HB1.out.size _)).mono ?_
  rintro e w2 ⟨rfl, hb2⟩
  have HB2 := hide ((HB1.out.alloc HB1.out.size (.cells #[.int .i64 s.wd, .int .i64 s.hg, .slice s.A s.nt s.cap] 131)).trans (hb2.mono (by have := HB1.out.size; simp only [World.size_alloc]; omega)))
  have KS2 := hide ((KS1.out.alloc (.cells #[.int .i64 s.wd, .int .i64 s.hg, .slice s.A s.nt s.cap] 131)).ext hb2)
  have KB2 := hide ((KB1.out.alloc (.cells #[.int .i64 s.wd, .int .i64 s.hg, .slice s.A s.nt s.cap] 131)).ext hb2)
  have KK2 := hide ((KK1.out.alloc (.cells #[.int .i64 s.wd, .int .i64 s.hg, .slice s.A s.nt s.cap] 131)).ext hb2)
  have KP2 := hide (Blk.ext (Blk.new w1 131 #[.int .i64 s.wd, .int .i64 s.hg, .slice s.A s.nt s.cap]) hb2)
  clear hb2 a0 a1 a2 a3 a4 a5 a6 b0 b1 b2 c0 c1 c2 c3 c4
  obtain ⟨a0, a1, a2, a3, a4, a5, a6⟩ := blk3 KS2.out
  obtain ⟨b0, b1, b2⟩ := blk1 KB2.out
  obtain ⟨c0, c1, c2, c3, c4⟩ := blk2 KK2.out
  go_wp2_with fail
  refine (HL.out _ HB2.out).mono ?_
  rintro e w3 ⟨rfl, hb3⟩
  have HB3 := hide (HB2.out.trans (hb3.mono HB2.out.size))
  have KK3 := hide (KK2.out.ext hb3)
  clear hb3 a0 a1 a2 a3 a4 a5 a6 b0 b1 b2 c0 c1 c2 c3 c4
  obtain ⟨c0, c1, c2, c3, c4⟩ := blk2 KK3.out
  go_wp2_with fail
  refine bodyPost_ret (v := .tuple #[.agg #[.int .i64 0, .int .i64 0], .int .i64 E]) (by simp [results, Try.results26, go_sem, *]) rfl ⟨rfl, ?_⟩
  exact (set2B HB3.out (by omega) _ _).alloc (by have := HB3.out.size; simp [size_set]; omega) _
theorem Crushed_ok (BA : Option Addr) (bn bc : Nat) (be : Nat → Int) (s : Stk) (w : World) (hs : StkR w w.heap.size s) (hbe : IR w w.heap.size BA bn be) (hbn : bn ≤ 1000000) (h : stackB s = true) (hf : bn = s.nt) (hr : wiB 0 1000000 be bn = true) (hh : (hangF s).1 < 0) (ho : LoadsB s = true) :
    Calls Try.prog 26 #[.agg #[.int .i64 s.wd, .int .i64 s.hg, .slice s.A s.nt s.cap], .slice BA bn bc] w fun e w' => e = .returned (.tuple #[brV (firstOf (crushP s be) (bricksTo s.wn s.nt)), .int .i64 0]) ∧ Below w.heap.size w w' := by
  have he := stkE_ok h
  have hn := hs.1
  have HFN := hide hf
  clear hf
  have HL := hide (fun W (hb : Below w.heap.size w W) => Loads_ok s W ((hs.below hb (Nat.le_refl _)).more hb.size) h hh ho)
  have HH := hide hh
  have HST := hide h
  clear hh ho
  have HB := hide ((((Below.refl w.heap.size w).alloc (Nat.le_refl _) (.cells #[.int .i64 s.wd, .int .i64 s.hg, .slice s.A s.nt s.cap] 55)).alloc (by simp) (.cells #[.slice BA bn bc] 56)).alloc (by simp only [World.size_alloc]; omega) (.cells #[.int .i64 0, .int .i64 0] 59))
  have KS := hide (((Blk.new w 55 #[.int .i64 s.wd, .int .i64 s.hg, .slice s.A s.nt s.cap]).alloc (.cells #[.slice BA bn bc] 56)).alloc (.cells #[.int .i64 0, .int .i64 0] 59))
  have KB := hide (show Blk (((w.alloc (.cells #[.int .i64 s.wd, .int .i64 s.hg, .slice s.A s.nt s.cap] 55)).alloc (.cells #[.slice BA bn bc] 56)).alloc (.cells #[.int .i64 0, .int .i64 0] 59)) (w.heap.size + 1) 56 #[.slice BA bn bc] from by simpa using (Blk.new (w.alloc (.cells #[.int .i64 s.wd, .int .i64 s.hg, .slice s.A s.nt s.cap] 55)) 56 #[.slice BA bn bc]).alloc (.cells #[.int .i64 0, .int .i64 0] 59))
  have KK := hide (show Blk (((w.alloc (.cells #[.int .i64 s.wd, .int .i64 s.hg, .slice s.A s.nt s.cap] 55)).alloc (.cells #[.slice BA bn bc] 56)).alloc (.cells #[.int .i64 0, .int .i64 0] 59)) (w.heap.size + 1 + 1) 59 #[.int .i64 0, .int .i64 0] from by simpa using Blk.new ((w.alloc (.cells #[.int .i64 s.wd, .int .i64 s.hg, .slice s.A s.nt s.cap] 55)).alloc (.cells #[.slice BA bn bc] 56)) 59 #[.int .i64 0, .int .i64 0])
  have HSS := hide hs
  have HBE := hide hbe
  clear hs hbe
  go_enter Try.func26, Try.ntmps26
  go_wp2_with fail
  generalize (((w.alloc (.cells #[.int .i64 s.wd, .int .i64 s.hg, .slice s.A s.nt s.cap] 55)).alloc (.cells #[.slice BA bn bc] 56)).alloc (.cells #[.int .i64 0, .int .i64 0] 59)) = W3 at HB KS KB KK ⊢
  refine (newPile_any s _ ((HSS.out.below HB.out (Nat.le_refl _)).more HB.out.size)).mono ?_
  rintro e w1 ⟨rfl, hb1⟩
  have HB1 := hide (HB.out.trans (hb1.mono HB.out.size))
  have KS1 := hide (KS.out.ext hb1)
  have KB1 := hide (KB.out.ext hb1)
  have KK1 := hide (KK.out.ext hb1)
  obtain ⟨a0, a1, a2, a3, a4, a5, a6⟩ := blk3 KS1.out
  obtain ⟨b0, b1, b2⟩ := blk1 KB1.out
  obtain ⟨c0, c1, c2, c3, c4⟩ := blk2 KK1.out
  clear hb1 KS KB KK HB
  rw [he]
  clear he h
  have hf2 : ((bn : Int) != (s.nt : Int)) = false := by simp [HFN.out]
  have HR := hide (fun W (hb : Below w.heap.size w W) => within_any 0 1000000 BA bn bc be W (by unfold maxLen; omega) ((HBE.out.below hb (Nat.le_refl _)).more hb.size))
  rw [hr] at HR
  have HWI := hide hr
  clear hr
  go_wp2_with fail
  refine (HR.out _ (HB1.out.alloc HB1.out.size _)).mono ?_
  rintro e w2 ⟨rfl, hb2⟩
  have HB2 := hide ((HB1.out.alloc HB1.out.size (.cells #[.int .i64 s.wd, .int .i64 s.hg, .slice s.A s.nt s.cap] 131)).trans (hb2.mono (by have := HB1.out.size; simp only [World.size_alloc]; omega)))
  have KS2 := hide ((KS1.out.alloc (.cells #[.int .i64 s.wd, .int .i64 s.hg, .slice s.A s.nt s.cap] 131)).ext hb2)
  have KB2 := hide ((KB1.out.alloc (.cells #[.int .i64 s.wd, .int .i64 s.hg, .slice s.A s.nt s.cap] 131)).ext hb2)
  have KK2 := hide ((KK1.out.alloc (.cells #[.int .i64 s.wd, .int .i64 s.hg, .slice s.A s.nt s.cap] 131)).ext hb2)
  have KP2 := hide (Blk.ext (Blk.new w1 131 #[.int .i64 s.wd, .int .i64 s.hg, .slice s.A s.nt s.cap]) hb2)
  clear hb2 a0 a1 a2 a3 a4 a5 a6 b0 b1 b2 c0 c1 c2 c3 c4
  obtain ⟨a0, a1, a2, a3, a4, a5, a6⟩ := blk3 KS2.out
  obtain ⟨b0, b1, b2⟩ := blk1 KB2.out
  obtain ⟨c0, c1, c2, c3, c4⟩ := blk2 KK2.out
  go_wp2_with fail
  refine (HL.out _ HB2.out).mono ?_
  rintro e w3 ⟨z, v, hz, rfl, hb3, hrow, hown⟩
  have HB3 := hide (HB2.out.trans (hb3.mono HB2.out.size))
  have KK3 := hide (KK2.out.ext hb3)
  have KB3 := hide (KB2.out.ext hb3)
  have KP3 := hide (Blk.ext KP2.out hb3)
  have HRW := hide hrow
  have HOW := hide hown
  have hz3 := hrow.lt
  clear hb3 hrow hown a0 a1 a2 a3 a4 a5 a6 b0 b1 b2 c0 c1 c2 c3 c4
  obtain ⟨q0, q1, q2, q3, q4, q5, q6⟩ := blk3 KP3.out
  go_wp2_with fail
  have HBZ := hide (HB3.out.alloc HB3.out.size (.cells #[.slice (some ⟨z + 3, 0, none⟩) s.nt s.nt] 64))
  have KL := hide (Blk.new w3 64 #[.slice (some ⟨z + 3, 0, none⟩) s.nt s.nt])
  have KPZ := hide (KP3.out.alloc (.cells #[.slice (some ⟨z + 3, 0, none⟩) s.nt s.nt] 64))
  have KBZ := hide (KB3.out.alloc (.cells #[.slice (some ⟨z + 3, 0, none⟩) s.nt s.nt] 64))
  have KKZ := hide (KK3.out.alloc (.cells #[.slice (some ⟨z + 3, 0, none⟩) s.nt s.nt] 64))
  have HRZ := hide (HRW.out.alloc (.cells #[.slice (some ⟨z + 3, 0, none⟩) s.nt s.nt] 64))
  have HOZ := hide (fun k (hk : k ≤ s.nt) => World.ownsRow.alloc (HOW.out k hk) (.cells #[.slice (some ⟨z + 3, 0, none⟩) s.nt s.nt] 64))
  have hzz : w3.heap.size < (w3.alloc (.cells #[.slice (some ⟨z + 3, 0, none⟩) s.nt s.nt] 64)).heap.size := by simp
  generalize (w3.alloc (.cells #[.slice (some ⟨z + 3, 0, none⟩) s.nt s.nt] 64)) = w4 at HBZ KL KPZ KBZ KKZ HRZ HOZ hzz ⊢
  refine (first_any 68 #[.pointer (some ⟨w3.heap.size, 0, none⟩), .pointer (some ⟨w1.heap.size, 0, none⟩), .pointer (some ⟨w.heap.size + 1, 0, none⟩)] (crushP s be) s w4 ((HSS.out.below HBZ.out (Nat.le_refl _)).more HBZ.out.size) (enters_of Try.func68 (by kernel_rfl) rfl) (fun W x hW => ?_)).mono ?_
  · obtain ⟨⟨t, i⟩, ht, hi⟩ := x
    dsimp only at ht hi
    have hWb := HBZ.out.trans (hW.mono HBZ.out.size)
    have hlen := LoadsL_len ht
    obtain ⟨g, cap, hv, hob, hg, x1, x2, -, -⟩ := OwnL.at_ (HOZ.out t (by omega)) (c := i) (by rw [hlen]; exact hi)
    have hokx : LdOk ((LoadsL s t).getD i (0, 1)) := getD_ok (LoadsL_ok HH.out (by omega)) i
    have hbb := (wiB_iff _ _ _ _).1 HWI.out t (by rw [HFN.out]; exact ht)
    have hrw : W.cell? ⟨z + 3, t, none⟩ = some (.slice (some ⟨g, 0, none⟩) (LoadsL s t).length cap) := by
      rw [(HRZ.out.ext hW).cell, rowV_get _ _ ht, hv]
    have hcn : s.cn t ≤ 144 := by
      have h1 := stack_cn HST.out t ht
      have h2 := (stackB_iff s).1 HST.out
      have h3 := mul_bd (a := s.wd) (b := s.hg) (M := 12) (N := 12) (by omega) (by omega) (by omega) (by omega)
      omega
    exact crushed1_any w3.heap.size w1.heap.size (w.heap.size + 1) (z + 3) g 0 (LoadsL s t).length cap BA bn bc be s t i ((LoadsL s t).getD i (0, 1)) W ht (by rw [hlen]; exact hi)
      (by rw [hlen]; exact (HSS.out.2.2 t ht).2.1) (KL.out.ext hW) (Blk.ext KPZ.out hW) (KBZ.out.ext hW) ((HSS.out.below hWb (Nat.le_refl _)).more hWb.size) (by have := hW.size; have := HRZ.out.lt; omega) (by have := hW.size; omega)
      hrw ((hW.cell (p := ⟨g, 0 + i * 2, none⟩) hg).trans (by simpa using x1)) ((hW.cell (p := ⟨g, 0 + i * 2 + 1, none⟩) hg).trans (by simpa using x2)) hokx
      ((HBE.out.below hWb (Nat.le_refl _)).more hWb.size) (by rw [HFN.out]; exact ht) hbn hbb.1 hbb.2 hcn
  · generalize hRR : firstOf (crushP s be) (bricksTo s.wn s.nt) = R
    have HRR := hide hRR
    clear hRR
    unfold brV
    rintro e w5 ⟨rfl, hb5⟩
    have HB5 := hide (HBZ.out.trans (hb5.mono HBZ.out.size))
    have K5 := hide (KKZ.out.ext hb5)
    clear hb5 q0 q1 q2 q3 q4 q5 q6
    obtain ⟨c0, c1, c2, c3, c4⟩ := blk2 K5.out
    go_wp2_with fail
    have hP := K5.out.set2 (.int .i64 R.1) (.int .i64 R.2)
    obtain ⟨f1, f2, f3, f4, f5⟩ := blk2 hP
    refine bodyPost_ret (v := .tuple #[.agg #[.int .i64 R.1, .int .i64 R.2], .int .i64 0]) (by simp [results, Try.results26, go_sem, *]) rfl ⟨by rw [HRR.out]; rfl, ?_⟩
    exact set2B HB5.out (by omega) _ _
end Go.Proofs.Ytlhekifmkkgjlaa
