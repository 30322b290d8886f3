/- Chapter 8's known calls: the stack of the document's example, and what single calls return. -/
import Derived.Test.YtlhekifmkkgjlaaKz
set_option linter.unusedSimpArgs false
set_option linter.unusedVariables false
set_option linter.unnecessarySimpa false
namespace Go.Proofs.Ytlhekifmkkgjlaa
open Go Go.RowKit Go.Shelf
set_option maxHeartbeats 1000000
def twoS (z : Nat) : Stk where
  wd := 2
  hg := 1
  A := some ⟨z + 5, 0, none⟩
  nt := 2
  cap := 2
  ca := fun k => if k = 0 then some ⟨z + 1, 0, none⟩ else some ⟨z + 3, 0, none⟩
  wa := fun k => if k = 0 then some ⟨z + 2, 0, none⟩ else some ⟨z + 4, 0, none⟩
  cn := fun _ => 2
  cc := fun _ => 2
  wn := fun k => if k = 0 then 2 else 1
  wc := fun k => if k = 0 then 2 else 1
  cf := fun k i => if k = 0 then i else 0
  wf := fun k i => if k = 0 then (if i = 0 then 3 else 5) else 4
theorem IR.of_blk {w : World} {B g n : Nat} {t : TypeId} {cs : Array Value} {x : Nat → Int} (h : Blk w g t cs) (hg : g < B) (hx : ∀ k, k < n → cs[k]? = some (.int .i64 (x k))) : IR w B (some ⟨g, 0, none⟩) n x := fun _ =>
  ⟨g, 0, rfl, hg, fun k i hk hi => by
    obtain rfl : i = 0 := by omega
    rw [show (0 : Nat) + k * 1 + 0 = k by omega, h.cell, hx k hk]⟩
theorem two_read (w : World) : StkR ((((((w.alloc (.cells #[.int .i64 2, .int .i64 1, .slice (some ⟨w.heap.size + 1 + 1 + 1 + 1 + 1, 0, none⟩) 2 2] 55)).alloc (.cells #[.int .i64 0, .int .i64 1] 3)).alloc (.cells #[.int .i64 3, .int .i64 5] 3)).alloc (.cells #[.int .i64 0, .int .i64 0] 3)).alloc (.cells #[.int .i64 4] 3)).alloc (.cells #[.slice (some ⟨w.heap.size + 1, 0, none⟩) 2 2, .slice (some ⟨w.heap.size + 1 + 1, 0, none⟩) 2 2, .slice (some ⟨w.heap.size + 1 + 1 + 1, 0, none⟩) 2 2, .slice (some ⟨w.heap.size + 1 + 1 + 1 + 1, 0, none⟩) 1 1] 72)) (w.heap.size + 6) (twoS w.heap.size) := by
  have b1 : Blk ((((((w.alloc (.cells #[.int .i64 2, .int .i64 1, .slice (some ⟨w.heap.size + 1 + 1 + 1 + 1 + 1, 0, none⟩) 2 2] 55)).alloc (.cells #[.int .i64 0, .int .i64 1] 3)).alloc (.cells #[.int .i64 3, .int .i64 5] 3)).alloc (.cells #[.int .i64 0, .int .i64 0] 3)).alloc (.cells #[.int .i64 4] 3)).alloc (.cells #[.slice (some ⟨w.heap.size + 1, 0, none⟩) 2 2, .slice (some ⟨w.heap.size + 1 + 1, 0, none⟩) 2 2, .slice (some ⟨w.heap.size + 1 + 1 + 1, 0, none⟩) 2 2, .slice (some ⟨w.heap.size + 1 + 1 + 1 + 1, 0, none⟩) 1 1] 72)) (w.heap.size + 1) 3 #[.int .i64 0, .int .i64 1] := by simpa using ((((Blk.new (w.alloc _) 3 #[.int .i64 0, .int .i64 1]).alloc _).alloc _).alloc _).alloc _
  have b2 : Blk ((((((w.alloc (.cells #[.int .i64 2, .int .i64 1, .slice (some ⟨w.heap.size + 1 + 1 + 1 + 1 + 1, 0, none⟩) 2 2] 55)).alloc (.cells #[.int .i64 0, .int .i64 1] 3)).alloc (.cells #[.int .i64 3, .int .i64 5] 3)).alloc (.cells #[.int .i64 0, .int .i64 0] 3)).alloc (.cells #[.int .i64 4] 3)).alloc (.cells #[.slice (some ⟨w.heap.size + 1, 0, none⟩) 2 2, .slice (some ⟨w.heap.size + 1 + 1, 0, none⟩) 2 2, .slice (some ⟨w.heap.size + 1 + 1 + 1, 0, none⟩) 2 2, .slice (some ⟨w.heap.size + 1 + 1 + 1 + 1, 0, none⟩) 1 1] 72)) (w.heap.size + 2) 3 #[.int .i64 3, .int .i64 5] := by simpa using (((Blk.new ((w.alloc _).alloc _) 3 #[.int .i64 3, .int .i64 5]).alloc _).alloc _).alloc _
  have b3 : Blk ((((((w.alloc (.cells #[.int .i64 2, .int .i64 1, .slice (some ⟨w.heap.size + 1 + 1 + 1 + 1 + 1, 0, none⟩) 2 2] 55)).alloc (.cells #[.int .i64 0, .int .i64 1] 3)).alloc (.cells #[.int .i64 3, .int .i64 5] 3)).alloc (.cells #[.int .i64 0, .int .i64 0] 3)).alloc (.cells #[.int .i64 4] 3)).alloc (.cells #[.slice (some ⟨w.heap.size + 1, 0, none⟩) 2 2, .slice (some ⟨w.heap.size + 1 + 1, 0, none⟩) 2 2, .slice (some ⟨w.heap.size + 1 + 1 + 1, 0, none⟩) 2 2, .slice (some ⟨w.heap.size + 1 + 1 + 1 + 1, 0, none⟩) 1 1] 72)) (w.heap.size + 3) 3 #[.int .i64 0, .int .i64 0] := by simpa using ((Blk.new (((w.alloc _).alloc _).alloc _) 3 #[.int .i64 0, .int .i64 0]).alloc _).alloc _
  have b4 : Blk ((((((w.alloc (.cells #[.int .i64 2, .int .i64 1, .slice (some ⟨w.heap.size + 1 + 1 + 1 + 1 + 1, 0, none⟩) 2 2] 55)).alloc (.cells #[.int .i64 0, .int .i64 1] 3)).alloc (.cells #[.int .i64 3, .int .i64 5] 3)).alloc (.cells #[.int .i64 0, .int .i64 0] 3)).alloc (.cells #[.int .i64 4] 3)).alloc (.cells #[.slice (some ⟨w.heap.size + 1, 0, none⟩) 2 2, .slice (some ⟨w.heap.size + 1 + 1, 0, none⟩) 2 2, .slice (some ⟨w.heap.size + 1 + 1 + 1, 0, none⟩) 2 2, .slice (some ⟨w.heap.size + 1 + 1 + 1 + 1, 0, none⟩) 1 1] 72)) (w.heap.size + 4) 3 #[.int .i64 4] := by simpa using (Blk.new ((((w.alloc _).alloc _).alloc _).alloc _) 3 #[.int .i64 4]).alloc _
  have b5 : Blk ((((((w.alloc (.cells #[.int .i64 2, .int .i64 1, .slice (some ⟨w.heap.size + 1 + 1 + 1 + 1 + 1, 0, none⟩) 2 2] 55)).alloc (.cells #[.int .i64 0, .int .i64 1] 3)).alloc (.cells #[.int .i64 3, .int .i64 5] 3)).alloc (.cells #[.int .i64 0, .int .i64 0] 3)).alloc (.cells #[.int .i64 4] 3)).alloc (.cells #[.slice (some ⟨w.heap.size + 1, 0, none⟩) 2 2, .slice (some ⟨w.heap.size + 1 + 1, 0, none⟩) 2 2, .slice (some ⟨w.heap.size + 1 + 1 + 1, 0, none⟩) 2 2, .slice (some ⟨w.heap.size + 1 + 1 + 1 + 1, 0, none⟩) 1 1] 72)) (w.heap.size + 5) 72 #[.slice (some ⟨w.heap.size + 1, 0, none⟩) 2 2, .slice (some ⟨w.heap.size + 1 + 1, 0, none⟩) 2 2, .slice (some ⟨w.heap.size + 1 + 1 + 1, 0, none⟩) 2 2, .slice (some ⟨w.heap.size + 1 + 1 + 1 + 1, 0, none⟩) 1 1] := by
    simpa using Blk.new (((((w.alloc _).alloc _).alloc _).alloc _).alloc _) 72 #[.slice (some ⟨w.heap.size + 1, 0, none⟩) 2 2, .slice (some ⟨w.heap.size + 1 + 1, 0, none⟩) 2 2, .slice (some ⟨w.heap.size + 1 + 1 + 1, 0, none⟩) 2 2, .slice (some ⟨w.heap.size + 1 + 1 + 1 + 1, 0, none⟩) 1 1]
  generalize ((((((w.alloc (.cells #[.int .i64 2, .int .i64 1, .slice (some ⟨w.heap.size + 1 + 1 + 1 + 1 + 1, 0, none⟩) 2 2] 55)).alloc (.cells #[.int .i64 0, .int .i64 1] 3)).alloc (.cells #[.int .i64 3, .int .i64 5] 3)).alloc (.cells #[.int .i64 0, .int .i64 0] 3)).alloc (.cells #[.int .i64 4] 3)).alloc (.cells #[.slice (some ⟨w.heap.size + 1, 0, none⟩) 2 2, .slice (some ⟨w.heap.size + 1 + 1, 0, none⟩) 2 2, .slice (some ⟨w.heap.size + 1 + 1 + 1, 0, none⟩) 2 2, .slice (some ⟨w.heap.size + 1 + 1 + 1 + 1, 0, none⟩) 1 1] 72)) = W at *
  refine ⟨by simp [twoS], fun _ => ⟨w.heap.size + 5, 0, rfl, by omega, fun k i hk hi => ?_⟩, fun k hk => ?_⟩
  · have hk' : k < 2 := hk
    rcases (by omega : k = 0 ∨ k = 1) with rfl | rfl
    · rcases (by omega : i = 0 ∨ i = 1) with rfl | rfl
      · exact b5.cell 0
      · exact b5.cell 1
    · rcases (by omega : i = 0 ∨ i = 1) with rfl | rfl
      · exact b5.cell 2
      · exact b5.cell 3
  · have hk' : k < 2 := hk
    rcases (by omega : k = 0 ∨ k = 1) with rfl | rfl
    · refine ⟨by simp [twoS], by simp [twoS], IR.of_blk b1 (by omega) fun j hj => ?_, IR.of_blk b2 (by omega) fun j hj => ?_⟩
      · have hj' : j < 2 := hj
        rcases (by omega : j = 0 ∨ j = 1) with rfl | rfl <;> rfl
      · have hj' : j < 2 := hj
        rcases (by omega : j = 0 ∨ j = 1) with rfl | rfl <;> rfl
    · refine ⟨by simp [twoS], by simp [twoS], IR.of_blk b3 (by omega) fun j hj => ?_, IR.of_blk b4 (by omega) fun j hj => ?_⟩
      · have hj' : j < 2 := hj
        rcases (by omega : j = 0 ∨ j = 1) with rfl | rfl <;> rfl
      · have hj' : j < 1 := hj
        obtain rfl : j = 0 := by omega
        rfl
def TwoPost (w : World) (e : Ending) (w' : World) : Prop :=
  e = .returned (.agg #[.int .i64 2, .int .i64 1, .slice (some ⟨w.heap.size + 5, 0, none⟩) 2 2]) ∧ StkR w' w'.heap.size (twoS w.heap.size) ∧ Below w.heap.size w w'
theorem two_any (w : World) : Calls Try.prog 53 #[] w (TwoPost w) := by
  have hB : Below w.heap.size w ((((((w.alloc (.cells #[.int .i64 2, .int .i64 1, .slice (some ⟨w.heap.size + 1 + 1 + 1 + 1 + 1, 0, none⟩) 2 2] 55)).alloc (.cells #[.int .i64 0, .int .i64 1] 3)).alloc (.cells #[.int .i64 3, .int .i64 5] 3)).alloc (.cells #[.int .i64 0, .int .i64 0] 3)).alloc (.cells #[.int .i64 4] 3)).alloc (.cells #[.slice (some ⟨w.heap.size + 1, 0, none⟩) 2 2, .slice (some ⟨w.heap.size + 1 + 1, 0, none⟩) 2 2, .slice (some ⟨w.heap.size + 1 + 1 + 1, 0, none⟩) 2 2, .slice (some ⟨w.heap.size + 1 + 1 + 1 + 1, 0, none⟩) 1 1] 72)) := (((((((Below.refl _ w).alloc (Nat.le_refl _) _).alloc (by simp) _).alloc (by simp only [World.size_alloc]; omega) _).alloc (by simp only [World.size_alloc]; omega) _).alloc (by simp only [World.size_alloc]; omega) _)).alloc (by simp only [World.size_alloc]; omega) _
  have HP := hide (And.intro ((two_read w).more (B' := ((((((w.alloc (.cells #[.int .i64 2, .int .i64 1, .slice (some ⟨w.heap.size + 1 + 1 + 1 + 1 + 1, 0, none⟩) 2 2] 55)).alloc (.cells #[.int .i64 0, .int .i64 1] 3)).alloc (.cells #[.int .i64 3, .int .i64 5] 3)).alloc (.cells #[.int .i64 0, .int .i64 0] 3)).alloc (.cells #[.int .i64 4] 3)).alloc (.cells #[.slice (some ⟨w.heap.size + 1, 0, none⟩) 2 2, .slice (some ⟨w.heap.size + 1 + 1, 0, none⟩) 2 2, .slice (some ⟨w.heap.size + 1 + 1 + 1, 0, none⟩) 2 2, .slice (some ⟨w.heap.size + 1 + 1 + 1 + 1, 0, none⟩) 1 1] 72)).heap.size) (by simp)) hB)
  clear hB
  go_enter Try.func53, Try.ntmps53
  go_wp2_with fail
  refine bodyPost_ret (v := .agg #[.int .i64 2, .int .i64 1, .slice (some ⟨w.heap.size + 5, 0, none⟩) 2 2]) (by simp [results, Try.results53, go_sem]) rfl ⟨rfl, HP.out.1, HP.out.2⟩
theorem two_stack (z : Nat) : stackB (twoS z) = true := by rfl
theorem two_hangs (z : Nat) : hangF (twoS z) = (-1, -1) := by rfl
theorem two_loadsB (z : Nat) : LoadsB (twoS z) = true := by kernel_rfl
theorem two_loads0 (z : Nat) : LoadsL (twoS z) 0 = [(2, 1), (2, 1)] := by kernel_rfl
theorem two_loads1 (z : Nat) : LoadsL (twoS z) 1 = [(0, 1)] := by kernel_rfl
theorem two_loads2 (z : Nat) : LoadsL (twoS z) 2 = [(5, 1), (7, 1)] := by kernel_rfl
theorem least_of {p : Nat → Bool} {n r : Nat} (mono : ∀ i j, i ≤ j → j < n → p i = true → p j = true) (hr : r < n) (h1 : p r = true) (h0 : 0 < r → p (r - 1) = false) : Least p n r := by
  refine ⟨by omega, fun i hi => ?_, fun _ => h1⟩
  rcases hpi : p i with _ | _
  · rfl
  · have := mono i (r - 1) (by omega) (by omega) hpi
    rw [h0 (by omega)] at this; cases this
theorem known_moulds (w : World) : Calls Try.prog 21 #[.agg #[.int .i64 900, .int .i64 940], .agg #[.int .i64 500, .int .i64 600, .int .i64 100, .int .i64 200]] w fun e w' =>
    e = .returned (.tuple #[.agg #[.int .i64 977, .int .i64 999], .int .i64 0]) ∧ Below w.heap.size w w' := by
  refine (Moulds_ok 900 940 500 600 100 200 w (by decide) (by decide)).mono ?_
  rintro e w' ⟨a, b, h1, h2, rfl, hb⟩
  have e1 : a = 976 := h1.uniq (least_of (fun i j hij _ h => by
    have := shLo_mono (s := (i : Int) + 1) (t := (j : Int) + 1) (d := 600) (f := 200) (by omega) (by omega) (by omega)
    simp only [mLo, decide_eq_true_eq] at *
    omega) (by omega) (by decide) (fun _ => by decide))
  have e2 : b = 999 := h2.uniq (least_of (fun i j hij _ h => by
    have := shHi_mono (s := (i : Int) + 1) (t := (j : Int) + 1) (d := 500) (f := 100) (by omega) (by omega) (by omega)
    simp only [mHi, decide_eq_true_eq] at *
    omega) (by omega) (by decide) (fun _ => by decide))
  subst e1 e2
  exact ⟨rfl, hb⟩
theorem known_need (A : Option Addr) (c : Nat) (w : World) (hR : PI w w.heap.size A 2 (fun _ => 500) (fun _ => 1000)) :
    Calls Try.prog 16 #[.int .i64 81, .slice A 2 c] w fun e w' => e = .returned (.tuple #[.int .i64 98, .int .i64 0]) ∧ Below w.heap.size w w' := by
  refine (need_ok 81 A 2 c _ _ w (by omega) hR (fun i _ => ⟨by omega, by omega, by omega⟩) (by omega) (by omega)).mono ?_
  rintro e w' ⟨r, h1, rfl, hb⟩
  have e1 : r = 98 := h1.uniq (least_of (fun i j hij _ h => by
    have := aft_mono (fun _ => 1000) 2 (fun i _ => ⟨by omega, by omega⟩) i j (by omega) (by omega)
    simp only [decide_eq_true_eq] at *
    omega) (by omega) (by decide) (fun _ => by decide))
  subst e1
  exact ⟨rfl, hb⟩
end Go.Proofs.Ytlhekifmkkgjlaa
