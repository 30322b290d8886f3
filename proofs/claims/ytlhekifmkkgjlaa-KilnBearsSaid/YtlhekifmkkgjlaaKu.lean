/- Contracts of chapter 8 on stacks: the check of a stack; a pile. -/
import Derived.Test.YtlhekifmkkgjlaaKt
set_option linter.unusedSimpArgs false
set_option linter.unusedVariables false
set_option linter.unnecessarySimpa false
namespace Go.Proofs.Ytlhekifmkkgjlaa
open Go Go.RowKit Go.Shelf
set_option maxHeartbeats 1000000
def dimB (s : Stk) : Bool := wiB 1 12 (fun k => if k = 0 then s.wd else s.hg) 2
theorem dimB_iff (s : Stk) : dimB s = true ↔ (1 ≤ s.wd ∧ s.wd ≤ 12) ∧ (1 ≤ s.hg ∧ s.hg ≤ 12) := by
  unfold dimB
  rw [wiB_iff]
  constructor
  · intro h; exact ⟨by simpa using h 0 (by omega), by simpa using h 1 (by omega)⟩
  · intro h k hk
    rcases (by omega : k = 0 ∨ k = 1) with rfl | rfl
    · simpa using h.1
    · simpa using h.2
def tiB (s : Stk) (k : Nat) : Bool := !tierB (s.wd * s.hg) (s.cn k) (s.wn k) (s.cf k) (s.wf k)
def stackB (s : Stk) : Bool := dimB s && (decide (s.nt ≤ 10) && !anyTo (tiB s) s.nt)
def stkE (s : Stk) : Int := if stackB s then 0 else 2
theorem stkE_no {s : Stk} (h : stackB s = false) : stkE s = 2 := by simp [stkE, h]
theorem stkE_ok {s : Stk} (h : stackB s = true) : stkE s = 0 := by simp [stkE, h]
theorem stackB_iff (s : Stk) : stackB s = true ↔ ((1 ≤ s.wd ∧ s.wd ≤ 12) ∧ (1 ≤ s.hg ∧ s.hg ≤ 12)) ∧ s.nt ≤ 10 ∧ ∀ k, k < s.nt → tierB (s.wd * s.hg) (s.cn k) (s.wn k) (s.cf k) (s.wf k) = true := by
  unfold stackB
  rw [Bool.and_eq_true, Bool.and_eq_true, dimB_iff, decide_eq_true_eq, Bool.not_eq_true', ← Bool.not_eq_true, anyTo_iff]
  constructor
  · rintro ⟨h1, h2, h3⟩
    refine ⟨h1, h2, fun k hk => ?_⟩
    rcases hb : tierB (s.wd * s.hg) (s.cn k) (s.wn k) (s.cf k) (s.wf k) with _ | _
    · exact absurd ⟨k, hk, by simp [tiB, hb]⟩ h3
    · rfl
  · rintro ⟨h1, h2, h3⟩
    refine ⟨h1, h2, ?_⟩
    rintro ⟨k, hk, h4⟩
    simp [tiB, h3 k hk] at h4
theorem check1s_any (p : Nat) (s : Stk) (k : Nat) (w : World) (hd : dimB s = true) (hp : Blk w p 55 #[.int .i64 s.wd, .int .i64 s.hg, .slice s.A s.nt s.cap]) (hs : StkR w w.heap.size s) (hk : k < s.nt) :
    Calls Try.prog 91 #[.agg #[s.u k, s.v k], .pointer (some ⟨p, 0, none⟩)] w fun e w' => e = .returned (.bool (tiB s k)) ∧ Below w.heap.size w w' := by
  have hb := (Below.refl w.heap.size w).alloc (Nat.le_refl _) (.cells #[s.u k, s.v k] 72)
  obtain ⟨m1, m2, hI, hJ⟩ := hs.2.2 k hk
  have HC := hide (isTier_any (s.wd * s.hg) (s.ca k) (s.wa k) (s.cn k) (s.cc k) (s.wn k) (s.wc k) (s.cf k) (s.wf k) (w.alloc (.cells #[s.u k, s.v k] 72)) m1 m2 ((hI.below hb (Nat.le_refl _)).more (by simp)) ((hJ.below hb (Nat.le_refl _)).more (by simp)))
  have HT : tiB s k = !tierB (s.wd * s.hg) (s.cn k) (s.wn k) (s.cf k) (s.wf k) := rfl
  rw [HT]
  clear HT
  generalize tierB (s.wd * s.hg) (s.cn k) (s.wn k) (s.cf k) (s.wf k) = R at HC ⊢
  have c0 := Blk.cell hp 0
  have c1 := Blk.cell hp 1
  simp at c0 c1
  have z0 := Blk.lt hp
  rw [dimB_iff] at hd
  have mb := mul_bd (a := s.wd) (b := s.hg) (M := 12) (N := 12) (by omega) (by omega) (by omega) (by omega)
  have HB := hide hb
  unfold Stk.u Stk.v at *
  clear hs hp hb hI hJ
  have w1 : IntKind.i64.wrap (s.wd * s.hg) = s.wd * s.hg := IntWalk.i64_in _ (by omega)
  go_enter Try.func91, Try.ntmps91
  go_wp2_with fail
  refine HC.out.mono ?_
  rintro e w1 ⟨rfl, hb1⟩
  go_wp2_with fail
  go_ret
  exact ⟨rfl, HB.out.trans (hb1.mono (by simp))⟩
theorem CheckStack_any (s : Stk) (w : World) (hs : StkR w w.heap.size s) :
    Calls Try.prog 45 #[.agg #[.int .i64 s.wd, .int .i64 s.hg, .slice s.A s.nt s.cap]] w fun e w' => e = .returned (.int .i64 (stkE s)) ∧ Below w.heap.size w w' := by
  have hb := ((Below.refl w.heap.size w).alloc (Nat.le_refl _) (.cells #[.int .i64 s.wd, .int .i64 s.hg, .slice s.A s.nt s.cap] 55)).alloc (by simp) (.cells #[.int .i64 s.wd, .int .i64 s.hg] 3)
  have hI : IR ((w.alloc (.cells #[.int .i64 s.wd, .int .i64 s.hg, .slice s.A s.nt s.cap] 55)).alloc (.cells #[.int .i64 s.wd, .int .i64 s.hg] 3)) ((w.alloc (.cells #[.int .i64 s.wd, .int .i64 s.hg, .slice s.A s.nt s.cap] 55)).alloc (.cells #[.int .i64 s.wd, .int .i64 s.hg] 3)).heap.size (some ⟨(w.alloc (.cells #[.int .i64 s.wd, .int .i64 s.hg, .slice s.A s.nt s.cap] 55)).heap.size, 0, none⟩) 2 (fun k => if k = 0 then s.wd else s.hg) := by
    simpa using IR.two (w.alloc (.cells #[.int .i64 s.wd, .int .i64 s.hg, .slice s.A s.nt s.cap] 55)) s.wd s.hg 3
  have HC := hide (within_any 1 12 _ 2 2 _ _ (by decide) hI)
  have hD : wiB 1 12 (fun k => if k = 0 then s.wd else s.hg) 2 = dimB s := rfl
  rw [hD, World.size_alloc] at HC
  clear hI hD
  have hp : Blk ((w.alloc (.cells #[.int .i64 s.wd, .int .i64 s.hg, .slice s.A s.nt s.cap] 55)).alloc (.cells #[.int .i64 s.wd, .int .i64 s.hg] 3)) w.heap.size 55 #[.int .i64 s.wd, .int .i64 s.hg, .slice s.A s.nt s.cap] := (Blk.new _ _ _).alloc _
  have HP := hide hp
  have HB := hide hb
  have HS := hide hs
  have hn1 := hs.1
  clear hs hp hb
  rcases hd : dimB s with _ | _
  · rw [hd] at HC
    have HE := hide (stkE_no (s := s) (by unfold stackB; rw [hd]; rfl)).symm
    clear hd
    go_enter Try.func45, Try.ntmps45
    go_wp2_with fail
    refine HC.out.mono ?_
    rintro e w1 ⟨rfl, hb1⟩
    go_wp2_with fail
    go_ret
    exact ⟨ret_int HE.out, HB.out.trans (hb1.mono (by simp only [World.size_alloc]; omega))⟩
  · rw [hd] at HC
    by_cases hn : s.nt ≤ 10
    · have i1 : ¬ (10 : Int) < (s.nt : Int) := by omega
      have HT := hide (fun W (hB : Below w.heap.size w W) (hP : Blk W w.heap.size 55 #[.int .i64 s.wd, .int .i64 s.hg, .slice s.A s.nt s.cap]) => containsFunc_tier 91 #[.pointer (some ⟨w.heap.size, 0, none⟩)] (tiB s) s.A s.nt s.cap s.u s.v W (by unfold maxLen; omega) ((HS.out.2.1.below hB (Nat.le_refl _)).more hB.size)
        (enters_of Try.func91 (by kernel_rfl) rfl) (fun W' k hk hW => check1s_any w.heap.size s k W' hd (Blk.ext hP hW) ((HS.out.below (hB.trans (hW.mono hB.size)) (Nat.le_refl _)).more (by have := hW.size; have := hB.size; omega)) hk))
      have HE : stkE s = if anyTo (tiB s) s.nt then 2 else 0 := by
        unfold stkE stackB
        rw [hd, decide_eq_true hn]
        cases anyTo (tiB s) s.nt <;> rfl
      have HE2 := hide HE
      clear HE hd
      rcases ha : anyTo (tiB s) s.nt with _ | _
      · rw [ha] at HT HE2
        clear ha
        go_enter Try.func45, Try.ntmps45
        go_wp2_with fail
        refine HC.out.mono ?_
        rintro e w1 ⟨rfl, hb1⟩
        have K1 := hide (HP.out.ext hb1)
        have hB1 := HB.out.trans (hb1.mono (by simp only [World.size_alloc]; omega))
        have c2 := Blk.cell K1.out 2
        simp at c2
        have z0 := Blk.lt K1.out
        go_wp2_with fail
        refine (HT.out _ hB1 K1.out).mono ?_
        rintro e w2 ⟨rfl, hb2⟩
        go_wp2_with fail
        go_ret
        exact ⟨ret_int HE2.out.symm, hB1.trans (hb2.mono hB1.size)⟩
      · rw [ha] at HT HE2
        clear ha
        go_enter Try.func45, Try.ntmps45
        go_wp2_with fail
        refine HC.out.mono ?_
        rintro e w1 ⟨rfl, hb1⟩
        have K1 := hide (HP.out.ext hb1)
        have hB1 := HB.out.trans (hb1.mono (by simp only [World.size_alloc]; omega))
        have c2 := Blk.cell K1.out 2
        simp at c2
        have z0 := Blk.lt K1.out
        go_wp2_with fail
        refine (HT.out _ hB1 K1.out).mono ?_
        rintro e w2 ⟨rfl, hb2⟩
        go_wp2_with fail
        go_ret
        exact ⟨ret_int HE2.out.symm, hB1.trans (hb2.mono hB1.size)⟩
    · have i1 : (10 : Int) < (s.nt : Int) := by omega
      have HE := hide (stkE_no (s := s) (by unfold stackB; rw [decide_eq_false hn]; simp)).symm
      clear hd
      go_enter Try.func45, Try.ntmps45
      go_wp2_with fail
      refine HC.out.mono ?_
      rintro e w1 ⟨rfl, hb1⟩
      have K1 := hide (HP.out.ext hb1)
      have c2 := Blk.cell K1.out 2
      simp at c2
      have z0 := Blk.lt K1.out
      go_wp2_with fail
      go_ret
      exact ⟨ret_int HE.out, HB.out.trans (hb1.mono (by simp only [World.size_alloc]; omega))⟩
theorem blk3 {W : World} {g : Nat} {t : TypeId} {a b c : Value} (h : Blk W g t #[a, b, c]) :
    g < W.heap.size ∧ W.cell? ⟨g, 0, none⟩ = some a ∧ W.cell? ⟨g, 1, none⟩ = some b ∧ W.cell? ⟨g, 2, none⟩ = some c ∧ W.frozen? ⟨g, 0, none⟩ = false ∧ W.frozen? ⟨g, 1, none⟩ = false ∧ W.frozen? ⟨g, 2, none⟩ = false :=
  ⟨h.lt, by rw [h.cell]; rfl, by rw [h.cell]; rfl, by rw [h.cell]; rfl, h.frozen _, h.frozen _, h.frozen _⟩
theorem Blk.set3 {w : World} {g : Nat} {t : TypeId} {a b c : Value} (h : Blk w g t #[a, b, c]) (u v x : Value) : Blk (((w.setCell ⟨g, 0, none⟩ u).setCell ⟨g, 1, none⟩ v).setCell ⟨g, 2, none⟩ x) g t #[u, v, x] := by
  simpa using ((h.set_ 0 u).set_ 1 v).set_ 2 x
theorem set3B {B : Nat} {a w : World} (h : Below B a w) {g : Nat} (hg : B ≤ g) (u v x : Value) : Below B a (((w.setCell ⟨g, 0, none⟩ u).setCell ⟨g, 1, none⟩ v).setCell ⟨g, 2, none⟩ x) :=
  (set2B h hg u v).setCell (p := ⟨g, 2, none⟩) hg x
theorem newPile_any (s : Stk) (w : World) (hs : StkR w w.heap.size s) :
    Calls Try.prog 66 #[.agg #[.int .i64 s.wd, .int .i64 s.hg, .slice s.A s.nt s.cap]] w fun e w' => e = .returned (.tuple #[.agg #[.int .i64 s.wd, .int .i64 s.hg, .slice s.A s.nt s.cap], .int .i64 (stkE s)]) ∧ Below w.heap.size w w' := by
  have HS := hide hs
  clear hs
  have HC := hide (fun W (hB : Below w.heap.size w W) => CheckStack_any s W ((HS.out.below hB (Nat.le_refl _)).more hB.size))
  generalize stkE s = E at HC ⊢
  have hB : Below w.heap.size w ((w.alloc (.cells #[.int .i64 s.wd, .int .i64 s.hg, .slice s.A s.nt s.cap] 55)).alloc (.cells #[.int .i64 0, .int .i64 0, .slice none 0 0] 131)) := ((Below.refl _ _).alloc (Nat.le_refl _) _).alloc (by simp) _
  have h1 : Blk ((w.alloc (.cells #[.int .i64 s.wd, .int .i64 s.hg, .slice s.A s.nt s.cap] 55)).alloc (.cells #[.int .i64 0, .int .i64 0, .slice none 0 0] 131)) w.heap.size 55 #[.int .i64 s.wd, .int .i64 s.hg, .slice s.A s.nt s.cap] := (Blk.new w _ _).alloc _
  have h2 : Blk ((w.alloc (.cells #[.int .i64 s.wd, .int .i64 s.hg, .slice s.A s.nt s.cap] 55)).alloc (.cells #[.int .i64 0, .int .i64 0, .slice none 0 0] 131)) (w.heap.size + 1) 131 #[.int .i64 0, .int .i64 0, .slice none 0 0] := by simpa using Blk.new (w.alloc (.cells #[.int .i64 s.wd, .int .i64 s.hg, .slice s.A s.nt s.cap] 55)) 131 #[.int .i64 0, .int .i64 0, .slice none 0 0]
  have H0 := hide hB
  have H1 := hide h1
  have H2 := hide h2
  have hz : ((w.alloc (.cells #[.int .i64 s.wd, .int .i64 s.hg, .slice s.A s.nt s.cap] 55)).alloc (.cells #[.int .i64 0, .int .i64 0, .slice none 0 0] 131)).heap.size = w.heap.size + 2 := by simp
  have HZ := hide hz
  clear hB h1 h2 hz
  go_enter Try.func66, Try.ntmps66
  go_wp2_with fail
  generalize ((w.alloc (.cells #[.int .i64 s.wd, .int .i64 s.hg, .slice s.A s.nt s.cap] 55)).alloc (.cells #[.int .i64 0, .int .i64 0, .slice none 0 0] 131)) = W0 at H0 H1 H2 HZ ⊢
  obtain ⟨a0, a1, a2, a3, -, -, -⟩ := blk3 H1.out
  have z0 := HZ.out
  go_region_held3 (fun W => W.cell? ⟨w.heap.size, 0, none⟩ = some (.int .i64 s.wd) ∧ W.cell? ⟨w.heap.size, 1, none⟩ = some (.int .i64 s.hg) ∧ W.cell? ⟨w.heap.size, 2, none⟩ = some (.slice s.A s.nt s.cap)) (first | go_keep | exact ⟨(hb3.cell (p := ⟨w.heap.size, 0, none⟩) a0).trans a1, (hb3.cell (p := ⟨w.heap.size, 1, none⟩) a0).trans a2, (hb3.cell (p := ⟨w.heap.size, 2, none⟩) a0).trans a3⟩) ((go_at_call 45; refine (HC.out _ ?_).mono ?_; (exact Below_dN H0.out _); rintro e w3 ⟨rfl, hb3⟩; have K3 := hide ((H2.out.drewN _).ext hb3); obtain ⟨b0, b1, b2, b3, b4, b5, b6⟩ := blk3 K3.out))
  obtain ⟨f0, f1, f2, f3, -, -, -⟩ := blk3 (K3.out.set3 (.int .i64 s.wd) (.int .i64 s.hg) (.slice s.A s.nt s.cap))
  have hB3 := set3B (B := w.heap.size) (H0.out.trans (((Below.refl W0.heap.size W0).trans (show Below W0.heap.size W0 w3 from ⟨hb3.os, hb3.tape, hb3.output, hb3.size, fun k hk => hb3.block k (by simpa using hk)⟩)).mono (by omega))) (show w.heap.size ≤ w.heap.size + 1 by omega) (.int .i64 s.wd) (.int .i64 s.hg) (.slice s.A s.nt s.cap)
  go_wp2_with fail
  refine bodyPost_ret (v := .tuple #[.agg #[.int .i64 s.wd, .int .i64 s.hg, .slice s.A s.nt s.cap], .int .i64 E]) (by simp [results, Try.results66, go_sem, f1, f2, f3]) rfl ⟨rfl, hB3⟩
end Go.Proofs.Ytlhekifmkkgjlaa
