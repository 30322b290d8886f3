/- Chapter 8's known calls: the stack of the document's example, and what single calls return. -/
import Derived.Test.YtlhekifmkkgjlaaFloorsC
import Derived.Deep.CutBlock
import Derived.Deep.DeepCutAuto
set_option linter.unusedSimpArgs false
set_option linter.unusedVariables false
set_option linter.unnecessarySimpa false
namespace Go.Proofs.Ytlhekifmkkgjlaa
open Go Go.RowKit Go.Shelf
set_option maxHeartbeats 1000000
def twoS (z : Nat) : Stk where
  wd := 2
  hg := 1
  A := some ⟨z + 5, 0, none⟩
  nt := 2
  cap := 2
  ca := fun k => if k = 0 then some ⟨z + 1, 0, none⟩ else some ⟨z + 3, 0, none⟩
  wa := fun k => if k = 0 then some ⟨z + 2, 0, none⟩ else some ⟨z + 4, 0, none⟩
  cn := fun _ => 2
  cc := fun _ => 2
  wn := fun k => if k = 0 then 2 else 1
  wc := fun k => if k = 0 then 2 else 1
  cf := fun k i => if k = 0 then i else 0
  wf := fun k i => if k = 0 then (if i = 0 then 3 else 5) else 4
theorem IR.of_blk {w : World} {B g n : Nat} {t : TypeId} {cs : Array Value} {x : Nat → Int} (h : Blk w g t cs) (hg : g < B) (hx : ∀ k, k < n → cs[k]? = some (.int .i64 (x k))) : IR w B (some ⟨g, 0, none⟩) n x := fun _ =>
  ⟨g, 0, rfl, hg, fun k i hk hi => by
    obtain rfl : i = 0 := by omega
    rw [show (0 : Nat) + k * 1 + 0 = k by omega, h.cell, hx k hk]⟩
theorem two_read (w : World) : StkR ((((((w.alloc (.cells #[.int .i64 2, .int .i64 1, .slice (some ⟨w.heap.size + 1 + 1 + 1 + 1 + 1, 0, none⟩) 2 2] 55)).alloc (.cells #[.int .i64 0, .int .i64 1] 3)).alloc (.cells #[.int .i64 3, .int .i64 5] 3)).alloc (.cells #[.int .i64 0, .int .i64 0] 3)).alloc (.cells #[.int .i64 4] 3)).alloc (.cells #[.slice (some ⟨w.heap.size + 1, 0, none⟩) 2 2, .slice (some ⟨w.heap.size + 1 + 1, 0, none⟩) 2 2, .slice (some ⟨w.heap.size + 1 + 1 + 1, 0, none⟩) 2 2, .slice (some ⟨w.heap.size + 1 + 1 + 1 + 1, 0, none⟩) 1 1] 72)) (w.heap.size + 6) (twoS w.heap.size) := by
  have b1 : Blk ((((((w.alloc (.cells #[.int .i64 2, .int .i64 1, .slice (some ⟨w.heap.size + 1 + 1 + 1 + 1 + 1, 0, none⟩) 2 2] 55)).alloc (.cells #[.int .i64 0, .int .i64 1] 3)).alloc (.cells #[.int .i64 3, .int .i64 5] 3)).alloc (.cells #[.int .i64 0, .int .i64 0] 3)).alloc (.cells #[.int .i64 4] 3)).alloc (.cells #[.slice (some ⟨w.heap.size + 1, 0, none⟩) 2 2, .slice (some ⟨w.heap.size + 1 + 1, 0, none⟩) 2 2, .slice (some ⟨w.heap.size + 1 + 1 + 1, 0, none⟩) 2 2, .slice (some ⟨w.heap.size + 1 + 1 + 1 + 1, 0, none⟩) 1 1] 72)) (w.heap.size + 1) 3 #[.int .i64 0, .int .i64 1] := by simpa using ((((Blk.new (w.alloc _) 3 #[.int .i64 0, .int .i64 1]).alloc _).alloc _).alloc _).alloc _
  have b2 : Blk ((((((w.alloc (.cells #[.int .i64 2, .int .i64 1, .slice (some ⟨w.heap.size + 1 + 1 + 1 + 1 + 1, 0, none⟩) 2 2] 55)).alloc (.cells #[.int .i64 0, .int .i64 1] 3)).alloc (.cells #[.int .i64 3, .int .i64 5] 3)).alloc (.cells #[.int .i64 0, .int .i64 0] 3)).alloc (.cells #[.int .i64 4] 3)).alloc (.cells #[.slice (some ⟨w.heap.size + 1, 0, none⟩) 2 2, .slice (some ⟨w.heap.size + 1 + 1, 0, none⟩) 2 2, .slice (some ⟨w.heap.size + 1 + 1 + 1, 0, none⟩) 2 2, .slice (some ⟨w.heap.size + 1 + 1 + 1 + 1, 0, none⟩) 1 1] 72)) (w.heap.size + 2) 3 #[.int .i64 3, .int .i64 5] := by simpa using (((Blk.new ((w.alloc _).alloc _) 3 #[.int .i64 3, .int .i64 5]).alloc _).alloc _).alloc _
  have b3 : Blk ((((((w.alloc (.cells #[.int .i64 2, .int .i64 1, .slice (some ⟨w.heap.size + 1 + 1 + 1 + 1 + 1, 0, none⟩) 2 2] 55)).alloc (.cells #[.int .i64 0, .int .i64 1] 3)).alloc (.cells #[.int .i64 3, .int .i64 5] 3)).alloc (.cells #[.int .i64 0, .int .i64 0] 3)).alloc (.cells #[.int .i64 4] 3)).alloc (.cells #[.slice (some ⟨w.heap.size + 1, 0, none⟩) 2 2, .slice (some ⟨w.heap.size + 1 + 1, 0, none⟩) 2 2, .slice (some ⟨w.heap.size + 1 + 1 + 1, 0, none⟩) 2 2, .slice (some ⟨w.heap.size + 1 + 1 + 1 + 1, 0, none⟩) 1 1] 72)) (w.heap.size + 3) 3 #[.int .i64 0, .int .i64 0] := by simpa using ((Blk.new (((w.alloc _).alloc _).alloc _) 3 #[.int .i64 0, .int .i64 0]).alloc _).alloc _
  have b4 : Blk ((((((w.alloc (.cells #[.int .i64 2, .int .i64 1, .slice (some ⟨w.heap.size + 1 + 1 + 1 + 1 + 1, 0, none⟩) 2 2] 55)).alloc (.cells #[.int .i64 0, .int .i64 1] 3)).alloc (.cells #[.int .i64 3, .int .i64 5] 3)).alloc (.cells #[.int .i64 0, .int .i64 0] 3)).alloc (.cells #[.int .i64 4] 3)).alloc (.cells #[.slice (some ⟨w.heap.size + 1, 0, none⟩) 2 2, .slice (some ⟨w.heap.size + 1 + 1, 0, none⟩) 2 2, .slice (some ⟨w.heap.size + 1 + 1 + 1, 0, none⟩) 2 2, .slice (some ⟨w.heap.size + 1 + 1 + 1 + 1, 0, none⟩) 1 1] 72)) (w.heap.size + 4) 3 #[.int .i64 4] := by simpa using (Blk.new ((((w.alloc _).alloc _).alloc _).alloc _) 3 #[.int .i64 4]).alloc _
  have b5 : Blk ((((((w.alloc (.cells #[.int .i64 2, .int .i64 1, .slice (some ⟨w.heap.size + 1 + 1 + 1 + 1 + 1, 0, none⟩) 2 2] 55)).alloc (.cells #[.int .i64 0, .int .i64 1] 3)).alloc (.cells #[.int .i64 3, .int .i64 5] 3)).alloc (.cells #[.int .i64 0, .int .i64 0] 3)).alloc (.cells #[.int .i64 4] 3)).alloc (.cells #[.slice (some ⟨w.heap.size + 1, 0, none⟩) 2 2, .slice (some ⟨w.heap.size + 1 + 1, 0, none⟩) 2 2, .slice (some ⟨w.heap.size + 1 + 1 + 1, 0, none⟩) 2 2, .slice (some ⟨w.heap.size + 1 + 1 + 1 + 1, 0, none⟩) 1 1] 72)) (w.heap.size + 5) 72 #[.slice (some ⟨w.heap.size + 1, 0, none⟩) 2 2, .slice (some ⟨w.heap.size + 1 + 1, 0, none⟩) 2 2, .slice (some ⟨w.heap.size + 1 + 1 + 1, 0, none⟩) 2 2, .slice (some ⟨w.heap.size + 1 + 1 + 1 + 1, 0, none⟩) 1 1] := by
    simpa using Blk.new (((((w.alloc _).alloc _).alloc _).alloc _).alloc _) 72 #[.slice (some ⟨w.heap.size + 1, 0, none⟩) 2 2, .slice (some ⟨w.heap.size + 1 + 1, 0, none⟩) 2 2, .slice (some ⟨w.heap.size + 1 + 1 + 1, 0, none⟩) 2 2, .slice (some ⟨w.heap.size + 1 + 1 + 1 + 1, 0, none⟩) 1 1]
  generalize ((((((w.alloc (.cells #[.int .i64 2, .int .i64 1, .slice (some ⟨w.heap.size + 1 + 1 + 1 + 1 + 1, 0, none⟩) 2 2] 55)).alloc (.cells #[.int .i64 0, .int .i64 1] 3)).alloc (.cells #[.int .i64 3, .int .i64 5] 3)).alloc (.cells #[.int .i64 0, .int .i64 0] 3)).alloc (.cells #[.int .i64 4] 3)).alloc (.cells #[.slice (some ⟨w.heap.size + 1, 0, none⟩) 2 2, .slice (some ⟨w.heap.size + 1 + 1, 0, none⟩) 2 2, .slice (some ⟨w.heap.size + 1 + 1 + 1, 0, none⟩) 2 2, .slice (some ⟨w.heap.size + 1 + 1 + 1 + 1, 0, none⟩) 1 1] 72)) = W at *
  refine ⟨by simp [twoS], fun _ => ⟨w.heap.size + 5, 0, rfl, by omega, fun k i hk hi => ?_⟩, fun k hk => ?_⟩
  · have hk' : k < 2 := hk
    rcases (by omega : k = 0 ∨ k = 1) with rfl | rfl
    · rcases (by omega : i = 0 ∨ i = 1) with rfl | rfl
      · exact b5.cell 0
      · exact b5.cell 1
    · rcases (by omega : i = 0 ∨ i = 1) with rfl | rfl
      · exact b5.cell 2
      · exact b5.cell 3
  · have hk' : k < 2 := hk
    rcases (by omega : k = 0 ∨ k = 1) with rfl | rfl
    · refine ⟨by simp [twoS], by simp [twoS], IR.of_blk b1 (by omega) fun j hj => ?_, IR.of_blk b2 (by omega) fun j hj => ?_⟩
      · have hj' : j < 2 := hj
        rcases (by omega : j = 0 ∨ j = 1) with rfl | rfl <;> rfl
      · have hj' : j < 2 := hj
        rcases (by omega : j = 0 ∨ j = 1) with rfl | rfl <;> rfl
    · refine ⟨by simp [twoS], by simp [twoS], IR.of_blk b3 (by omega) fun j hj => ?_, IR.of_blk b4 (by omega) fun j hj => ?_⟩
      · have hj' : j < 2 := hj
        rcases (by omega : j = 0 ∨ j = 1) with rfl | rfl <;> rfl
      · have hj' : j < 1 := hj
        obtain rfl : j = 0 := by omega
        rfl
def TwoPost (w : World) (e : Ending) (w' : World) : Prop :=
  e = .returned (.agg #[.int .i64 2, .int .i64 1, .slice (some ⟨w.heap.size + 5, 0, none⟩) 2 2]) ∧ StkR w' w'.heap.size (twoS w.heap.size) ∧ Below w.heap.size w w'
theorem two_any (w : World) : Calls Try.prog 53 #[] w (TwoPost w) := by
  have hB : Below w.heap.size w ((((((w.alloc (.cells #[.int .i64 2, .int .i64 1, .slice (some ⟨w.heap.size + 1 + 1 + 1 + 1 + 1, 0, none⟩) 2 2] 55)).alloc (.cells #[.int .i64 0, .int .i64 1] 3)).alloc (.cells #[.int .i64 3, .int .i64 5] 3)).alloc (.cells #[.int .i64 0, .int .i64 0] 3)).alloc (.cells #[.int .i64 4] 3)).alloc (.cells #[.slice (some ⟨w.heap.size + 1, 0, none⟩) 2 2, .slice (some ⟨w.heap.size + 1 + 1, 0, none⟩) 2 2, .slice (some ⟨w.heap.size + 1 + 1 + 1, 0, none⟩) 2 2, .slice (some ⟨w.heap.size + 1 + 1 + 1 + 1, 0, none⟩) 1 1] 72)) := (((((((Below.refl _ w).alloc (Nat.le_refl _) _).alloc (by simp) _).alloc (by simp only [World.size_alloc]; omega) _).alloc (by simp only [World.size_alloc]; omega) _).alloc (by simp only [World.size_alloc]; omega) _)).alloc (by simp only [World.size_alloc]; omega) _
  have HP := hide (And.intro ((two_read w).more (B' := ((((((w.alloc (.cells #[.int .i64 2, .int .i64 1, .slice (some ⟨w.heap.size + 1 + 1 + 1 + 1 + 1, 0, none⟩) 2 2] 55)).alloc (.cells #[.int .i64 0, .int .i64 1] 3)).alloc (.cells #[.int .i64 3, .int .i64 5] 3)).alloc (.cells #[.int .i64 0, .int .i64 0] 3)).alloc (.cells #[.int .i64 4] 3)).alloc (.cells #[.slice (some ⟨w.heap.size + 1, 0, none⟩) 2 2, .slice (some ⟨w.heap.size + 1 + 1, 0, none⟩) 2 2, .slice (some ⟨w.heap.size + 1 + 1 + 1, 0, none⟩) 2 2, .slice (some ⟨w.heap.size + 1 + 1 + 1 + 1, 0, none⟩) 1 1] 72)).heap.size) (by simp)) hB)
  clear hB
  go_enter Try.func53, Try.ntmps53
  go_wp2_with fail
  refine bodyPost_ret (v := .agg #[.int .i64 2, .int .i64 1, .slice (some ⟨w.heap.size + 5, 0, none⟩) 2 2]) (by simp [results, Try.results53, go_sem]) rfl ⟨rfl, HP.out.1, HP.out.2⟩
theorem two_stack (z : Nat) : stackB (twoS z) = true := by rfl
theorem two_hangs (z : Nat) : hangF (twoS z) = (-1, -1) := by rfl
theorem two_loadsB (z : Nat) : LoadsB (twoS z) = true := by kernel_rfl
theorem two_loads0 (z : Nat) : LoadsL (twoS z) 0 = [(2, 1), (2, 1)] := by kernel_rfl
theorem two_loads1 (z : Nat) : LoadsL (twoS z) 1 = [(0, 1)] := by kernel_rfl
theorem two_loads2 (z : Nat) : LoadsL (twoS z) 2 = [(5, 1), (7, 1)] := by kernel_rfl
theorem least_of {p : Nat → Bool} {n r : Nat} (mono : ∀ i j, i ≤ j → j < n → p i = true → p j = true) (hr : r < n) (h1 : p r = true) (h0 : 0 < r → p (r - 1) = false) : Least p n r := by
  refine ⟨by omega, fun i hi => ?_, fun _ => h1⟩
  rcases hpi : p i with _ | _
  · rfl
  · have := mono i (r - 1) (by omega) (by omega) hpi
    rw [h0 (by omega)] at this; cases this
theorem known_moulds (w : World) : Calls Try.prog 21 #[.agg #[.int .i64 900, .int .i64 940], .agg #[.int .i64 500, .int .i64 600, .int .i64 100, .int .i64 200]] w fun e w' =>
    e = .returned (.tuple #[.agg #[.int .i64 977, .int .i64 999], .int .i64 0]) ∧ Below w.heap.size w w' := by
  refine (Moulds_ok 900 940 500 600 100 200 w (by decide) (by decide)).mono ?_
  rintro e w' ⟨a, b, h1, h2, rfl, hb⟩
  have e1 : a = 976 := h1.uniq (least_of (fun i j hij _ h => by
    have := shLo_mono (s := (i : Int) + 1) (t := (j : Int) + 1) (d := 600) (f := 200) (by omega) (by omega) (by omega)
    simp only [mLo, decide_eq_true_eq] at *
    omega) (by omega) (by decide) (fun _ => by decide))
  have e2 : b = 999 := h2.uniq (least_of (fun i j hij _ h => by
    have := shHi_mono (s := (i : Int) + 1) (t := (j : Int) + 1) (d := 500) (f := 100) (by omega) (by omega) (by omega)
    simp only [mHi, decide_eq_true_eq] at *
    omega) (by omega) (by decide) (fun _ => by decide))
  subst e1 e2
  exact ⟨rfl, hb⟩
theorem known_need (A : Option Addr) (c : Nat) (w : World) (hR : PI w w.heap.size A 2 (fun _ => 500) (fun _ => 1000)) :
    Calls Try.prog 16 #[.int .i64 81, .slice A 2 c] w fun e w' => e = .returned (.tuple #[.int .i64 98, .int .i64 0]) ∧ Below w.heap.size w w' := by
  refine (need_ok 81 A 2 c _ _ w (by omega) hR (fun i _ => ⟨by omega, by omega, by omega⟩) (by omega) (by omega)).mono ?_
  rintro e w' ⟨r, h1, rfl, hb⟩
  have e1 : r = 98 := h1.uniq (least_of (fun i j hij _ h => by
    have := aft_mono (fun _ => 1000) 2 (fun i _ => ⟨by omega, by omega⟩) i j (by omega) (by omega)
    simp only [decide_eq_true_eq] at *
    omega) (by omega) (by decide) (fun _ => by decide))
  subst e1
  exact ⟨rfl, hb⟩
end Go.Proofs.Ytlhekifmkkgjlaa
/- Chapter 8: the stores of a book, one number set; known calls on a book. -/
namespace Go.Proofs.Ytlhekifmkkgjlaa
open Go Go.RowKit Go.Shelf
set_option maxHeartbeats 1000000
def Wa.get (x : Wa) (i : Nat) : Int := if i = 0 then x.wet else if i = 1 then x.dry else if i = 2 then x.burning else if i = 3 then x.fired else if i = 4 then x.laid else if i = 5 then x.broken else x.missing
def Wa.put (x : Wa) (i : Nat) (v : Int) : Wa := if i = 0 then { x with wet := v } else if i = 1 then { x with dry := v } else if i = 2 then { x with burning := v } else if i = 3 then { x with fired := v } else if i = 4 then { x with laid := v } else if i = 5 then { x with broken := v } else { x with missing := v }
theorem Wa.get_put (x : Wa) {i j : Nat} (hi : i < 7) (hj : j < 7) (v : Int) : (x.put i v).get j = if j = i then v else x.get j := by
  rcases (by omega : i = 0 ∨ i = 1 ∨ i = 2 ∨ i = 3 ∨ i = 4 ∨ i = 5 ∨ i = 6) with rfl | rfl | rfl | rfl | rfl | rfl | rfl <;>
  rcases (by omega : j = 0 ∨ j = 1 ∨ j = 2 ∨ j = 3 ∨ j = 4 ∨ j = 5 ∨ j = 6) with rfl | rfl | rfl | rfl | rfl | rfl | rfl <;> rfl
theorem KindW_iff {w : World} {S o : Nat} {x : Wa} : KindW w S o x ↔ S < w.heap.size ∧ (∀ i, w.frozen? ⟨S, i, none⟩ = false) ∧ ∀ i, i < 7 → w.cell? ⟨S, o + i, none⟩ = some (.int .i64 (x.get i)) := by
  constructor
  · rintro ⟨h0, hf, h1, h2, h3, h4, h5, h6, h7⟩
    refine ⟨h0, hf, fun i hi => ?_⟩
    rcases (by omega : i = 0 ∨ i = 1 ∨ i = 2 ∨ i = 3 ∨ i = 4 ∨ i = 5 ∨ i = 6) with rfl | rfl | rfl | rfl | rfl | rfl | rfl
    · exact h1
    · exact h2
    · exact h3
    · exact h4
    · exact h5
    · exact h6
    · exact h7
  · rintro ⟨h0, hf, h⟩
    exact ⟨h0, hf, h 0 (by omega), h 1 (by omega), h 2 (by omega), h 3 (by omega), h 4 (by omega), h 5 (by omega), h 6 (by omega)⟩
theorem Stores.set {w : World} {S n : Nat} {ws : Nat → Wa} (h : Stores w S n ws) {k i : Nat} (hk : k < n) (hi : i < 7) (v : Int) :
    Stores (w.setCell ⟨S, k * 7 + i, none⟩ (.int .i64 v)) S n (upd ws k ((ws k).put i v)) := by
  obtain ⟨⟨cs, hc⟩, hK⟩ := h
  refine ⟨⟨_, hc.set_ _ _⟩, fun k' hk' => ?_⟩
  have h1 := KindW_iff.1 (hK k' hk')
  have h2 := KindW_iff.1 (hK k hk)
  refine KindW_iff.2 ⟨by rw [size_set]; exact h1.1, fun j => by rw [World.frozen?_setCell]; exact h1.2.1 j, fun j hj => ?_⟩
  by_cases e : k' = k
  · subst e
    rw [upd_same, Wa.get_put _ hi hj]
    by_cases ej : j = i
    · subst ej
      rw [if_pos rfl]
      exact World.cell?_setCell_same' _ _ _ (by rw [h2.2.2 j hj]; rfl)
    · rw [if_neg ej, World.cell?_setCell_other _ _ _ _ (fun h => by injection h; omega)]
      exact h1.2.2 j hj
  · rw [upd_ne _ _ e, World.cell?_setCell_other _ _ _ _ (fun h => by injection h; omega)]
    exact h1.2.2 j hj
theorem Stores.grown {w w' : World} {S n : Nat} {ws : Nat → Wa} (h : Stores w S n ws) {row : Option Nat} (hg : w.grownBy w' row) (hr : some S ≠ row) : Stores w' S n ws := by
  obtain ⟨⟨cs, hc⟩, hK⟩ := h
  have hc' := hc.grown hg hr
  refine ⟨⟨cs, hc'⟩, fun k hk => ?_⟩
  have h1 := KindW_iff.1 (hK k hk)
  refine KindW_iff.2 ⟨hc'.lt, fun j => hc'.frozen j, fun j hj => ?_⟩
  rw [hc'.cell, ← hc.cell]
  exact h1.2.2 j hj
theorem turn_of {w w1 w' : World} {S n : Nat} {ws : Nat → Wa} (hS : Stores w1 S n ws) (hg : w.grownBy w1 (some S)) (hz : w1.heap.size = w.heap.size) (hB : Below w.heap.size w1 w') : Stores w' S n ws ∧ w.grownBy w' (some S) := by
  rw [← hz] at hB
  exact ⟨hS.grown (grown_none hB) (by simp), hB.os.trans hg.os, hB.tape.trans hg.tape, hB.output.trans hg.output, Nat.le_trans (Nat.le_of_eq hz.symm) hB.size, fun j hj hne => (hB.block j (by omega)).trans (hg.block j hj hne)⟩
theorem Stores.same {w : World} {S n : Nat} {ws ws' : Nat → Wa} (h : Stores w S n ws) (e : ∀ k, k < n → ws k = ws' k) : Stores w S n ws' := ⟨h.1, fun k hk => e k hk ▸ h.2 k hk⟩
theorem grownBy_setS {w w' : World} {S : Nat} (h : w.grownBy w' (some S)) (i : Nat) (v : Value) : w.grownBy (w'.setCell ⟨S, i, none⟩ v) (some S) :=
  ⟨h.os, h.tape, h.output, by rw [size_set]; exact h.size, fun j hj hne => (Below.heap_setCell _ _ _ j (fun e => hne (by rw [e]))).trans (h.block j hj hne)⟩
theorem known_mould (b S : Nat) (spv ov : Value) (room : Int) (w : World) (hb : Blk w b 148 #[spv, .int .i64 room, .slice (some ⟨S, 0, none⟩) 1 1, ov]) (hS : Stores w S 1 (fun _ => Wa.zero)) :
    Calls Try.prog 38 #[.pointer (some ⟨b, 0, none⟩), .int .i64 0, .int .i64 10] w fun e w' => e = .returned (.int .i64 0) ∧ Blk w' b 148 #[spv, .int .i64 room, .slice (some ⟨S, 0, none⟩) 1 1, ov] ∧ Stores w' S 1 (fun _ => ⟨10, 0, 0, 0, 0, 0, 0⟩) ∧ w.grownBy w' (some S) := by
  obtain ⟨cs, hcs⟩ := hS.1
  have hbS : some b ≠ some S := fun e => hb.ne_ hcs (by decide) (by injection e)
  refine (mould_ok b S 1 0 spv ov room 10 Wa.zero w hb (by omega) (by omega) (hS.2 0 (by omega)) ⟨by decide, by decide, by decide, by decide, by decide, by decide, by decide, by decide, by decide⟩ (by omega) (by omega) (by decide)).mono ?_
  rintro e w' ⟨rfl, hB⟩
  have hS1 := hS.set (k := 0) (i := 0) (by omega) (by omega) 10
  have hS' : Stores _ S 1 (fun _ => ⟨10, 0, 0, 0, 0, 0, 0⟩) := hS1.same fun k (hk : k < 1) => by
    obtain rfl : k = 0 := by omega
    rfl
  obtain ⟨h1, h2⟩ := turn_of hS' (grownBy_setS (World.grownBy.refl w _) _ _) (size_set _ _ _) hB
  exact ⟨rfl, hb.grown h2 hbS, h1, h2⟩
theorem known_dry (b S : Nat) (spv ov : Value) (room : Int) (w : World) (hb : Blk w b 148 #[spv, .int .i64 room, .slice (some ⟨S, 0, none⟩) 1 1, ov]) (hS : Stores w S 1 (fun _ => ⟨10, 0, 0, 0, 0, 0, 0⟩)) :
    Calls Try.prog 39 #[.pointer (some ⟨b, 0, none⟩), .int .i64 0, .int .i64 8, .int .i64 1] w fun e w' => e = .returned (.int .i64 0) ∧ Blk w' b 148 #[spv, .int .i64 room, .slice (some ⟨S, 0, none⟩) 1 1, ov] ∧ Stores w' S 1 (fun _ => ⟨2, 7, 0, 0, 0, 1, 0⟩) ∧ w.grownBy w' (some S) := by
  obtain ⟨cs, hcs⟩ := hS.1
  have hbS : some b ≠ some S := fun e => hb.ne_ hcs (by decide) (by injection e)
  refine (dry_ok b S 1 0 spv ov room 8 ⟨10, 0, 0, 0, 0, 0, 0⟩ w hb (by omega) (by omega) (hS.2 0 (by omega)) ⟨by decide, by decide, by decide, by decide, by decide, by decide, by decide, by decide, by decide⟩ 1 (by omega) (by omega) (by omega) (by decide)).mono ?_
  rintro e w' ⟨rfl, hB⟩
  have hS1 := (((hS.set (k := 0) (i := 0) (by omega) (by omega) 2).set (k := 0) (i := 1) (by omega) (by omega) 8).set (k := 0) (i := 1) (by omega) (by omega) 7).set (k := 0) (i := 5) (by omega) (by omega) 1
  have hS' : Stores _ S 1 (fun _ => ⟨2, 7, 0, 0, 0, 1, 0⟩) := hS1.same fun k (hk : k < 1) => by
    obtain rfl : k = 0 := by omega
    rfl
  obtain ⟨h1, h2⟩ := turn_of hS' (grownBy_setS (grownBy_setS (grownBy_setS (grownBy_setS (World.grownBy.refl w _) _ _) _ _) _ _) _ _) (by simp only [size_set]) hB
  exact ⟨rfl, hb.grown h2 hbS, h1, h2⟩
end Go.Proofs.Ytlhekifmkkgjlaa
/- Stable sorting, walked: the closure of Free, a range swapped with another one. -/
namespace Go.Proofs.Ytlhekifmkkgjlaa
open Go Go.RowKit Go.Shelf
set_option maxHeartbeats 2000000
set_option maxRecDepth 100000
/-- what the closure of Free asks -/
def bkLess (x y : Int × Int) : Bool := decide (wrap64 (y.1 - x.1) < 0)
theorem free1_any (x y : Int × Int) (w : World) : Calls Try.prog 96 #[.agg #[.int .i64 x.1, .int .i64 x.2], .agg #[.int .i64 y.1, .int .i64 y.2]] w fun e w' => e = .returned (.int .i64 (wrap64 (y.1 - x.1))) ∧ Below w.heap.size w w' := by
  go_enter Try.func96, Try.ntmps96
  go_wp2_with fail
  go_ret
  exact ⟨rfl, ((Below.refl _ _).alloc (Nat.le_refl _) _).alloc (by simp) _⟩
/-- a row of bricks in a block of its own -/
structure SBR (w : World) (g n : Nat) (f : Nat → Int × Int) : Prop where
  blk : ∃ cs, Blk w g 59 cs
  cells : ∀ k, k < n → w.cell? ⟨g, k * 2, none⟩ = some (.int .i64 (f k).1) ∧ w.cell? ⟨g, k * 2 + 1, none⟩ = some (.int .i64 (f k).2)
theorem below_grown' {w w' : World} (h : Below w.heap.size w w') (r : Option Nat) : w.grownBy w' r := ⟨h.os, h.tape, h.output, h.size, fun k hk _ => h.block k hk⟩
section
variable {w w' : World} {g n : Nat} {f : Nat → Int × Int}
theorem SBR.lt (h : SBR w g n f) : g < w.heap.size := by obtain ⟨⟨cs, hc⟩, -⟩ := h; exact hc.lt
theorem SBR.ext (h : SBR w g n f) (hb : Below w.heap.size w w') : SBR w' g n f := by
  have hl := h.lt
  obtain ⟨⟨cs, hc⟩, hk⟩ := h
  exact ⟨⟨cs, hc.ext hb⟩, fun k hkn => ⟨(hb.cell (p := ⟨g, k * 2, none⟩) hl).trans (hk k hkn).1, (hb.cell (p := ⟨g, k * 2 + 1, none⟩) hl).trans (hk k hkn).2⟩⟩
theorem SBR.at_ (h : SBR w g n f) {k : Nat} (hk : k < n) : g < w.heap.size ∧ w.cell? ⟨g, k * 2, none⟩ = some (.int .i64 (f k).1) ∧ w.cell? ⟨g, k * 2 + 1, none⟩ = some (.int .i64 (f k).2) ∧ w.frozen? ⟨g, k * 2, none⟩ = false ∧ w.frozen? ⟨g, k * 2 + 1, none⟩ = false := by
  obtain ⟨⟨cs, hc⟩, hK⟩ := h
  exact ⟨hc.lt, (hK k hk).1, (hK k hk).2, hc.frozen _, hc.frozen _⟩
theorem SBR.put (h : SBR w g n f) {k : Nat} (hk : k < n) (v : Int × Int) : SBR ((w.setCell ⟨g, k * 2, none⟩ (.int .i64 v.1)).setCell ⟨g, k * 2 + 1, none⟩ (.int .i64 v.2)) g n (upd f k v) := by
  obtain ⟨⟨cs, hc⟩, hK⟩ := h
  refine ⟨⟨_, (hc.set_ _ _).set_ _ _⟩, fun i hi => ?_⟩
  have h1 := hK i hi
  have h2 := hK k hk
  by_cases e : i = k
  · subst e
    rw [upd_same]
    refine ⟨?_, ?_⟩
    · rw [World.cell?_setCell_other _ _ _ _ (fun h => by injection h; omega)]
      exact World.cell?_setCell_same' _ _ _ (by rw [h2.1]; rfl)
    · refine World.cell?_setCell_same' _ _ _ ?_
      rw [World.cell?_setCell_other _ _ _ _ (fun h => by injection h; omega), h2.2]; rfl
  · rw [upd_ne _ _ e]
    refine ⟨?_, ?_⟩ <;> rw [World.cell?_setCell_other _ _ _ _ (fun h => by injection h; omega), World.cell?_setCell_other _ _ _ _ (fun h => by injection h; omega)]
    · exact h1.1
    · exact h1.2
theorem swp_upd (f : Nat → Int × Int) (i j : Nat) : upd (upd f i (f j)) j (f i) = swp f i j := by
  funext k
  unfold upd swp
  repeat' split
  all_goals first | rfl | (subst_vars; rfl) | (exfalso; omega)
theorem SBR.grow (h : w.grownBy w' (some g)) (k : Nat) (v : Int × Int) : w.grownBy ((w'.setCell ⟨g, k * 2, none⟩ (.int .i64 v.1)).setCell ⟨g, k * 2 + 1, none⟩ (.int .i64 v.2)) (some g) := grownBy_setS (grownBy_setS h _ _) _ _
end
theorem swapRange_any (g n cap a b m : Nat) (f : Nat → Int × Int) (cv : Value) (w : World) (hr : SBR w g n f) (hab : a + m ≤ b) (hb : b + m ≤ n) (hn : n ≤ maxLen) :
    Calls Try.prog 124 #[.slice (some ⟨g, 0, none⟩) n cap, .int .i64 a, .int .i64 b, .int .i64 m, cv] w fun e w' => e = .returned (.tuple #[]) ∧ SBR w' g n (swapR f a b m) ∧ w.grownBy w' (some g) := by
  unfold maxLen at hn
  have HR0 := hide hr
  clear hr
  go_enter Try.func124, Try.ntmps124
  go_wp2_with fail
  go_loopw [10] (fun i wr => ∃ k : Nat, i = .int .i64 k ∧ k ≤ m ∧ Hid (SBR wr g n (swapR f a b k)) ∧ Hid (w.grownBy wr (some g))) (fun i _ => m - (intOf i).toNat)
  case atStart => exact ⟨0, rfl, by omega, hide (by rw [swapR_zero]; exact HR0.out), hide (World.grownBy.refl w _)⟩
  case round =>
    obtain ⟨k, rfl, hk, HR, HG⟩ := hrel
    by_cases hlt : k < m
    · have ha : a + k < n := by omega
      have hb' : b + k < n := by omega
      have HST := hide (swapR_succ f (a := a) (b := b) (n := k) (by omega))
      generalize swapR f a b k = F at HR HST
      have hw1 : IntKind.i64.wrap ((a : Int) + (k : Int)) = ((a + k : Nat) : Int) := by rw [IntWalk.i64_in _ (by omega)]; simp
      have hw2 : IntKind.i64.wrap ((b : Int) + (k : Int)) = ((b + k : Nat) : Int) := by rw [IntWalk.i64_in _ (by omega)]; simp
      generalize hA : a + k = A at hw1 ha HST
      generalize hB : b + k = B at hw2 hb' HST
      have hAB : A ≠ B := by omega
      have i1 : (0 : Int) ≤ (A : Int) := by omega
      have i2 : (A : Int) < (n : Int) := by omega
      have i3 : (0 : Int) ≤ (B : Int) := by omega
      have i4 : (B : Int) < (n : Int) := by omega
      clear hA hB
      go_upto_region 3 with fail
      have Bd := hide (Below.refl wr.heap.size wr).drew
      have HRd := hide (HR.out.ext Bd.out)
      have HGd := hide (HG.out.trans (below_grown' Bd.out _))
      have HS : Hid ((wr.drew.cell? ⟨g, A * 2, none⟩ = some (.int .i64 (F A).1) ∧ wr.drew.cell? ⟨g, A * 2 + 1, none⟩ = some (.int .i64 (F A).2)) ∧ wr.drew.cell? ⟨g, B * 2, none⟩ = some (.int .i64 (F B).1) ∧ wr.drew.cell? ⟨g, B * 2 + 1, none⟩ = some (.int .i64 (F B).2)) := hide ⟨(HRd.out.cells A ha), HRd.out.cells B hb'⟩
      refine wp_region_K (pickS [13, 19] (fun W => (W.cell? ⟨g, A * 2, none⟩ = some (.int .i64 (F A).1) ∧ W.cell? ⟨g, A * 2 + 1, none⟩ = some (.int .i64 (F A).2)) ∧ W.cell? ⟨g, B * 2, none⟩ = some (.int .i64 (F B).1) ∧ W.cell? ⟨g, B * 2 + 1, none⟩ = some (.int .i64 (F B).2)) (fun _ => True)) (by kernel_rfl) ?_
      generalize wr.drew = wd at HRd HGd HS ⊢
      refine wpAnyK_take 0 (v := ?_) (by first | exact hF | exact wideFn) trivial rfl (by kernel_rfl) (by kernel_rfl) (by kernel_rfl) (by kernel_rfl) rfl ?_ (by first | exact fun _ _ _ h => h | exact fun _ _ _ h => hQ2 _ _ _ _ _ h) ?_
      rotate_left
      · intro W hSW
        replace hSW : True := hSW
        simp only [List.getElem_toArray, List.getElem_cons_zero, List.getElem_cons_succ]
        (try dsimp only at hSW)
        go_simp
        with_reducible rfl
      (try simp only [List.getElem_toArray, List.getElem_cons_zero, List.getElem_cons_succ, Act.put, List.setIfInBounds_toArray, List.set_cons_zero, List.set_cons_succ])
      refine wpAnyK_take 1 (v := ?_) (by first | exact hF | exact wideFn) trivial rfl (by kernel_rfl) (by kernel_rfl) (by kernel_rfl) (by kernel_rfl) rfl ?_ (by first | exact fun _ _ _ h => h | exact fun _ _ _ h => hQ2 _ _ _ _ _ h) ?_
      rotate_left
      · intro W hSW
        replace hSW : True := hSW
        simp only [List.getElem_toArray, List.getElem_cons_zero, List.getElem_cons_succ]
        (try dsimp only at hSW)
        go_simp
        with_reducible rfl
      (try simp only [List.getElem_toArray, List.getElem_cons_zero, List.getElem_cons_succ, Act.put, List.setIfInBounds_toArray, List.set_cons_zero, List.set_cons_succ])
      refine wpAnyK_take 2 (v := ?_) (by first | exact hF | exact wideFn) trivial rfl (by kernel_rfl) (by kernel_rfl) (by kernel_rfl) (by kernel_rfl) rfl ?_ (by first | exact fun _ _ _ h => h | exact fun _ _ _ h => hQ2 _ _ _ _ _ h) ?_
      rotate_left
      · intro W hSW
        replace hSW : True := hSW
        simp only [List.getElem_toArray, List.getElem_cons_zero, List.getElem_cons_succ]
        (try dsimp only at hSW)
        go_simp
        with_reducible rfl
      (try simp only [List.getElem_toArray, List.getElem_cons_zero, List.getElem_cons_succ, Act.put, List.setIfInBounds_toArray, List.set_cons_zero, List.set_cons_succ])
      refine wpAnyK_take 3 (v := ?_) (by first | exact hF | exact wideFn) trivial rfl (by kernel_rfl) (by kernel_rfl) (by kernel_rfl) (by kernel_rfl) rfl ?_ (by first | exact fun _ _ _ h => h | exact fun _ _ _ h => hQ2 _ _ _ _ _ h) ?_
      rotate_left
      · intro W hSW
        replace hSW : True := hSW
        simp only [List.getElem_toArray, List.getElem_cons_zero, List.getElem_cons_succ]
        (try dsimp only at hSW)
        go_simp
        with_reducible rfl
      (try simp only [List.getElem_toArray, List.getElem_cons_zero, List.getElem_cons_succ, Act.put, List.setIfInBounds_toArray, List.set_cons_zero, List.set_cons_succ])
      refine wpAnyK_take 4 (v := ?_) (by first | exact hF | exact wideFn) trivial rfl (by kernel_rfl) (by kernel_rfl) (by kernel_rfl) (by kernel_rfl) rfl ?_ (by first | exact fun _ _ _ h => h | exact fun _ _ _ h => hQ2 _ _ _ _ _ h) ?_
      rotate_left
      · intro W hSW
        replace hSW : True := hSW
        simp only [List.getElem_toArray, List.getElem_cons_zero, List.getElem_cons_succ]
        (try dsimp only at hSW)
        go_simp
        with_reducible rfl
      (try simp only [List.getElem_toArray, List.getElem_cons_zero, List.getElem_cons_succ, Act.put, List.setIfInBounds_toArray, List.set_cons_zero, List.set_cons_succ])
      refine wpAnyK_take 5 (v := ?_) (by first | exact hF | exact wideFn) trivial rfl (by kernel_rfl) (by kernel_rfl) (by kernel_rfl) (by kernel_rfl) rfl ?_ (by first | exact fun _ _ _ h => h | exact fun _ _ _ h => hQ2 _ _ _ _ _ h) ?_
      rotate_left
      · intro W hSW
        replace hSW : True := hSW
        simp only [List.getElem_toArray, List.getElem_cons_zero, List.getElem_cons_succ]
        (try dsimp only at hSW)
        go_simp
        with_reducible rfl
      (try simp only [List.getElem_toArray, List.getElem_cons_zero, List.getElem_cons_succ, Act.put, List.setIfInBounds_toArray, List.set_cons_zero, List.set_cons_succ])
      refine wpAnyK_take 6 (v := ?_) (by first | exact hF | exact wideFn) trivial rfl (by kernel_rfl) (by kernel_rfl) (by kernel_rfl) (by kernel_rfl) rfl ?_ (by first | exact fun _ _ _ h => h | exact fun _ _ _ h => hQ2 _ _ _ _ _ h) ?_
      rotate_left
      · intro W hSW
        replace hSW : True := hSW
        simp only [List.getElem_toArray, List.getElem_cons_zero, List.getElem_cons_succ]
        (try dsimp only at hSW)
        go_simp
        with_reducible rfl
      (try simp only [List.getElem_toArray, List.getElem_cons_zero, List.getElem_cons_succ, Act.put, List.setIfInBounds_toArray, List.set_cons_zero, List.set_cons_succ])
      refine wpAnyK_take 7 (v := ?_) (by first | exact hF | exact wideFn) trivial rfl (by kernel_rfl) (by kernel_rfl) (by kernel_rfl) (by kernel_rfl) rfl ?_ (by first | exact fun _ _ _ h => h | exact fun _ _ _ h => hQ2 _ _ _ _ _ h) ?_
      rotate_left
      · intro W hSW
        replace hSW : True := hSW
        simp only [List.getElem_toArray, List.getElem_cons_zero, List.getElem_cons_succ]
        (try dsimp only at hSW)
        go_simp
        with_reducible rfl
      (try simp only [List.getElem_toArray, List.getElem_cons_zero, List.getElem_cons_succ, Act.put, List.setIfInBounds_toArray, List.set_cons_zero, List.set_cons_succ])
      refine wpAnyK_take 8 (v := ?_) (by first | exact hF | exact wideFn) trivial rfl (by kernel_rfl) (by kernel_rfl) (by kernel_rfl) (by kernel_rfl) rfl ?_ (by first | exact fun _ _ _ h => h | exact fun _ _ _ h => hQ2 _ _ _ _ _ h) ?_
      rotate_left
      · intro W hSW
        replace hSW : True := hSW
        simp only [List.getElem_toArray, List.getElem_cons_zero, List.getElem_cons_succ]
        (try dsimp only at hSW)
        go_simp
        with_reducible rfl
      (try simp only [List.getElem_toArray, List.getElem_cons_zero, List.getElem_cons_succ, Act.put, List.setIfInBounds_toArray, List.set_cons_zero, List.set_cons_succ])
      refine wpAnyK_take 9 (v := ?_) (by first | exact hF | exact wideFn) trivial rfl (by kernel_rfl) (by kernel_rfl) (by kernel_rfl) (by kernel_rfl) rfl ?_ (by first | exact fun _ _ _ h => h | exact fun _ _ _ h => hQ2 _ _ _ _ _ h) ?_
      rotate_left
      · intro W hSW
        replace hSW : True := hSW
        simp only [List.getElem_toArray, List.getElem_cons_zero, List.getElem_cons_succ]
        (try dsimp only at hSW)
        go_simp
        with_reducible rfl
      (try simp only [List.getElem_toArray, List.getElem_cons_zero, List.getElem_cons_succ, Act.put, List.setIfInBounds_toArray, List.set_cons_zero, List.set_cons_succ])
      refine wpAnyK_take 10 (v := ?_) (by first | exact hF | exact wideFn) trivial rfl (by kernel_rfl) (by kernel_rfl) (by kernel_rfl) (by kernel_rfl) rfl ?_ (by first | exact fun _ _ _ h => h | exact fun _ _ _ h => hQ2 _ _ _ _ _ h) ?_
      rotate_left
      · intro W hSW
        replace hSW : True := hSW
        simp only [List.getElem_toArray, List.getElem_cons_zero, List.getElem_cons_succ]
        (try dsimp only at hSW)
        go_simp
        with_reducible rfl
      (try simp only [List.getElem_toArray, List.getElem_cons_zero, List.getElem_cons_succ, Act.put, List.setIfInBounds_toArray, List.set_cons_zero, List.set_cons_succ])
      refine wpAnyK_take 11 (v := ?_) (by first | exact hF | exact wideFn) trivial rfl (by kernel_rfl) (by kernel_rfl) (by kernel_rfl) (by kernel_rfl) rfl ?_ (by first | exact fun _ _ _ h => h | exact fun _ _ _ h => hQ2 _ _ _ _ _ h) ?_
      rotate_left
      · intro W hSW
        replace hSW : True := hSW
        simp only [List.getElem_toArray, List.getElem_cons_zero, List.getElem_cons_succ]
        (try dsimp only at hSW)
        go_simp
        with_reducible rfl
      (try simp only [List.getElem_toArray, List.getElem_cons_zero, List.getElem_cons_succ, Act.put, List.setIfInBounds_toArray, List.set_cons_zero, List.set_cons_succ])
      refine wpAnyK_take 12 (v := ?_) (by first | exact hF | exact wideFn) trivial rfl (by kernel_rfl) (by kernel_rfl) (by kernel_rfl) (by kernel_rfl) rfl ?_ (by first | exact fun _ _ _ h => h | exact fun _ _ _ h => hQ2 _ _ _ _ _ h) ?_
      rotate_left
      · intro W hSW
        replace hSW : True := hSW
        simp only [List.getElem_toArray, List.getElem_cons_zero, List.getElem_cons_succ]
        (try dsimp only at hSW)
        go_simp
        with_reducible rfl
      (try simp only [List.getElem_toArray, List.getElem_cons_zero, List.getElem_cons_succ, Act.put, List.setIfInBounds_toArray, List.set_cons_zero, List.set_cons_succ])
      refine wpAnyK_take 13 (v := ?_) (by first | exact hF | exact wideFn) (And.intro HS.out trivial) rfl (by kernel_rfl) (by kernel_rfl) (by kernel_rfl) (by kernel_rfl) rfl ?_ (by first | exact fun _ _ _ h => h | exact fun _ _ _ h => hQ2 _ _ _ _ _ h) ?_
      rotate_left
      · intro W hSW
        replace hSW : (((W.cell? ⟨g, A * 2, none⟩ = some (.int .i64 (F A).1) ∧ W.cell? ⟨g, A * 2 + 1, none⟩ = some (.int .i64 (F A).2)) ∧ W.cell? ⟨g, B * 2, none⟩ = some (.int .i64 (F B).1) ∧ W.cell? ⟨g, B * 2 + 1, none⟩ = some (.int .i64 (F B).2)) ∧ True) := hSW
        simp only [List.getElem_toArray, List.getElem_cons_zero, List.getElem_cons_succ]
        (try dsimp only at hSW)
        go_simp
        with_reducible rfl
      (try simp only [List.getElem_toArray, List.getElem_cons_zero, List.getElem_cons_succ, Act.put, List.setIfInBounds_toArray, List.set_cons_zero, List.set_cons_succ])
      refine wpAnyK_take 14 (v := ?_) (by first | exact hF | exact wideFn) trivial rfl (by kernel_rfl) (by kernel_rfl) (by kernel_rfl) (by kernel_rfl) rfl ?_ (by first | exact fun _ _ _ h => h | exact fun _ _ _ h => hQ2 _ _ _ _ _ h) ?_
      rotate_left
      · intro W hSW
        replace hSW : True := hSW
        simp only [List.getElem_toArray, List.getElem_cons_zero, List.getElem_cons_succ]
        (try dsimp only at hSW)
        go_simp
        with_reducible rfl
      (try simp only [List.getElem_toArray, List.getElem_cons_zero, List.getElem_cons_succ, Act.put, List.setIfInBounds_toArray, List.set_cons_zero, List.set_cons_succ])
      refine wpAnyK_take 15 (v := ?_) (by first | exact hF | exact wideFn) trivial rfl (by kernel_rfl) (by kernel_rfl) (by kernel_rfl) (by kernel_rfl) rfl ?_ (by first | exact fun _ _ _ h => h | exact fun _ _ _ h => hQ2 _ _ _ _ _ h) ?_
      rotate_left
      · intro W hSW
        replace hSW : True := hSW
        simp only [List.getElem_toArray, List.getElem_cons_zero, List.getElem_cons_succ]
        (try dsimp only at hSW)
        go_simp
        with_reducible rfl
      (try simp only [List.getElem_toArray, List.getElem_cons_zero, List.getElem_cons_succ, Act.put, List.setIfInBounds_toArray, List.set_cons_zero, List.set_cons_succ])
      refine wpAnyK_take 16 (v := ?_) (by first | exact hF | exact wideFn) trivial rfl (by kernel_rfl) (by kernel_rfl) (by kernel_rfl) (by kernel_rfl) rfl ?_ (by first | exact fun _ _ _ h => h | exact fun _ _ _ h => hQ2 _ _ _ _ _ h) ?_
      rotate_left
      · intro W hSW
        replace hSW : True := hSW
        simp only [List.getElem_toArray, List.getElem_cons_zero, List.getElem_cons_succ]
        (try dsimp only at hSW)
        go_simp
        with_reducible rfl
      (try simp only [List.getElem_toArray, List.getElem_cons_zero, List.getElem_cons_succ, Act.put, List.setIfInBounds_toArray, List.set_cons_zero, List.set_cons_succ])
      refine wpAnyK_take 17 (v := ?_) (by first | exact hF | exact wideFn) trivial rfl (by kernel_rfl) (by kernel_rfl) (by kernel_rfl) (by kernel_rfl) rfl ?_ (by first | exact fun _ _ _ h => h | exact fun _ _ _ h => hQ2 _ _ _ _ _ h) ?_
      rotate_left
      · intro W hSW
        replace hSW : True := hSW
        simp only [List.getElem_toArray, List.getElem_cons_zero, List.getElem_cons_succ]
        (try dsimp only at hSW)
        go_simp
        with_reducible rfl
      (try simp only [List.getElem_toArray, List.getElem_cons_zero, List.getElem_cons_succ, Act.put, List.setIfInBounds_toArray, List.set_cons_zero, List.set_cons_succ])
      refine wpAnyK_take 18 (v := ?_) (by first | exact hF | exact wideFn) trivial rfl (by kernel_rfl) (by kernel_rfl) (by kernel_rfl) (by kernel_rfl) rfl ?_ (by first | exact fun _ _ _ h => h | exact fun _ _ _ h => hQ2 _ _ _ _ _ h) ?_
      rotate_left
      · intro W hSW
        replace hSW : True := hSW
        simp only [List.getElem_toArray, List.getElem_cons_zero, List.getElem_cons_succ]
        (try dsimp only at hSW)
        go_simp
        with_reducible rfl
      (try simp only [List.getElem_toArray, List.getElem_cons_zero, List.getElem_cons_succ, Act.put, List.setIfInBounds_toArray, List.set_cons_zero, List.set_cons_succ])
      refine wpAnyK_take 19 (v := ?_) (by first | exact hF | exact wideFn) (And.intro HS.out trivial) rfl (by kernel_rfl) (by kernel_rfl) (by kernel_rfl) (by kernel_rfl) rfl ?_ (by first | exact fun _ _ _ h => h | exact fun _ _ _ h => hQ2 _ _ _ _ _ h) ?_
      rotate_left
      · intro W hSW
        replace hSW : (((W.cell? ⟨g, A * 2, none⟩ = some (.int .i64 (F A).1) ∧ W.cell? ⟨g, A * 2 + 1, none⟩ = some (.int .i64 (F A).2)) ∧ W.cell? ⟨g, B * 2, none⟩ = some (.int .i64 (F B).1) ∧ W.cell? ⟨g, B * 2 + 1, none⟩ = some (.int .i64 (F B).2)) ∧ True) := hSW
        simp only [List.getElem_toArray, List.getElem_cons_zero, List.getElem_cons_succ]
        (try dsimp only at hSW)
        go_simp
        with_reducible rfl
      (try simp only [List.getElem_toArray, List.getElem_cons_zero, List.getElem_cons_succ, Act.put, List.setIfInBounds_toArray, List.set_cons_zero, List.set_cons_succ])
      refine wpAnyK_take 20 (v := ?_) (by first | exact hF | exact wideFn) trivial rfl (by kernel_rfl) (by kernel_rfl) (by kernel_rfl) (by kernel_rfl) rfl ?_ (by first | exact fun _ _ _ h => h | exact fun _ _ _ h => hQ2 _ _ _ _ _ h) ?_
      rotate_left
      · intro W hSW
        replace hSW : True := hSW
        simp only [List.getElem_toArray, List.getElem_cons_zero, List.getElem_cons_succ]
        (try dsimp only at hSW)
        go_simp
        with_reducible rfl
      (try simp only [List.getElem_toArray, List.getElem_cons_zero, List.getElem_cons_succ, Act.put, List.setIfInBounds_toArray, List.set_cons_zero, List.set_cons_succ])
      obtain ⟨p0, p1, p2, p3, p4⟩ := HRd.out.at_ ha
      have HR1 := hide (HRd.out.put ha (F B))
      have HG1 := hide (SBR.grow HGd.out A (F B))
      refine wpAnyK_one 21 rfl (by kernel_rfl) (fun K hK => ?_)
      simp only [List.getElem_toArray, List.getElem_cons_zero, List.getElem_cons_succ]
      go_simp
      refine hK.out _ _ (.inr (pickS_need (by kernel_rfl) trivial)) ?_
      clear hK K
      (try simp only [List.getElem_toArray, List.getElem_cons_zero, List.getElem_cons_succ, Act.put, List.setIfInBounds_toArray, List.set_cons_zero, List.set_cons_succ])
      clear p0 p1 p2 p3 p4
      generalize ((wd.setCell ⟨g, A * 2, none⟩ (.int .i64 (F B).1)).setCell ⟨g, A * 2 + 1, none⟩ (.int .i64 (F B).2)) = w1 at HR1 HG1 ⊢
      have HR2 := hide (HR1.out.put hb' (F A))
      have HG2 := hide (SBR.grow HG1.out B (F A))
      rw [swp_upd, ← HST.out] at HR2
      obtain ⟨p0, p1, p2, p3, p4⟩ := HR1.out.at_ hb'
      refine wpAnyK_take 22 (v := ?_) (by first | exact hF | exact wideFn) trivial rfl (by kernel_rfl) (by kernel_rfl) (by kernel_rfl) (by kernel_rfl) rfl ?_ (by first | exact fun _ _ _ h => h | exact fun _ _ _ h => hQ2 _ _ _ _ _ h) ?_
      rotate_left
      · intro W hSW
        replace hSW : True := hSW
        simp only [List.getElem_toArray, List.getElem_cons_zero, List.getElem_cons_succ]
        (try dsimp only at hSW)
        go_simp
        with_reducible rfl
      (try simp only [List.getElem_toArray, List.getElem_cons_zero, List.getElem_cons_succ, Act.put, List.setIfInBounds_toArray, List.set_cons_zero, List.set_cons_succ])
      refine wpAnyK_one 23 rfl (by kernel_rfl) (fun K hK => ?_)
      simp only [List.getElem_toArray, List.getElem_cons_zero, List.getElem_cons_succ]
      go_simp
      refine hK.out _ _ (.inr (pickS_no (by kernel_rfl))) ?_
      clear hK K
      (try simp only [List.getElem_toArray, List.getElem_cons_zero, List.getElem_cons_succ, Act.put, List.setIfInBounds_toArray, List.set_cons_zero, List.set_cons_succ])
      refine wpAnyK_done (by kernel_rfl) ?_
      clear p0 p1 p2 p3 p4
      generalize ((w1.setCell ⟨g, B * 2, none⟩ (.int .i64 (F A).1)).setCell ⟨g, B * 2 + 1, none⟩ (.int .i64 (F A).2)) = w2 at HR2 HG2 ⊢
      go_wp2_with fail
      go_roundw
      case rel => exact ⟨k + 1, by go_num, by omega, HR2, HG2⟩
      case measure => simp [intOf]; omega
    · obtain rfl : m = k := by omega
      go_wp2_with fail
      go_end0
      exact ⟨rfl, HR.out, HG.out⟩
end Go.Proofs.Ytlhekifmkkgjlaa
/- Stable sorting, walked: a rotation. -/
namespace Go.Proofs.Ytlhekifmkkgjlaa
open Go Go.RowKit Go.Shelf
set_option maxHeartbeats 2000000
set_option maxRecDepth 100000
theorem rotate_any (g n cap a m b : Nat) (f : Nat → Int × Int) (cv : Value) (w : World) (hr : SBR w g n f) (ham : a < m) (hmb : m < b) (hb : b ≤ n) (hn : n ≤ maxLen) :
    Calls Try.prog 121 #[.slice (some ⟨g, 0, none⟩) n cap, .int .i64 a, .int .i64 m, .int .i64 b, cv] w fun e w' => e = .returned (.tuple #[]) ∧ SBR w' g n (rotF f a m b) ∧ w.grownBy w' (some g) := by
  have hn' := hn
  unfold maxLen at hn
  have HR0 := hide hr
  have HN := hide hn'
  clear hr hn'
  have e1 : IntKind.i64.wrap ((m : Int) - (a : Int)) = ((m - a : Nat) : Int) := by rw [IntWalk.i64_in _ (by omega)]; omega
  have e2 : IntKind.i64.wrap ((b : Int) - (m : Int)) = ((b - m : Nat) : Int) := by rw [IntWalk.i64_in _ (by omega)]; omega
  go_enter Try.func121, Try.ntmps121
  go_wp2_with fail
  clear e1 e2
  go_loopw [10, 11] (fun x y wr => ∃ (i j : Nat) (F : Nat → Int × Int), x = .int .i64 i ∧ y = .int .i64 j ∧ 0 < i ∧ 0 < j ∧ i ≤ m ∧ m + j ≤ n ∧ Hid (rotF F (m - i) m (m + j) = rotF f a m b) ∧ Hid (SBR wr g n F) ∧ Hid (w.grownBy wr (some g))) (fun x y _ => (intOf x).toNat + (intOf y).toNat)
  case atStart => exact ⟨m - a, b - m, f, rfl, rfl, by omega, by omega, by omega, by omega, hide (by rw [show m - (m - a) = a by omega, show m + (b - m) = b by omega]), HR0, hide (World.grownBy.refl w _)⟩
  case round =>
    obtain ⟨i, j, F, rfl, rfl, hi0, hj0, him, hjn, HT, HR, HG⟩ := hrel
    have w1 : IntKind.i64.wrap ((m : Int) - (i : Int)) = ((m - i : Nat) : Int) := by rw [IntWalk.i64_in _ (by omega)]; omega
    have w2 : IntKind.i64.wrap ((m : Int) + (j : Int)) = ((m + j : Nat) : Int) := by rw [IntWalk.i64_in _ (by omega)]; simp
    by_cases hij : i = j
    · subst hij
      go_wp2_with fail
      refine (swapRange_any g n cap (m - i) m i F cv wr HR.out (by omega) (by omega) HN.out).mono ?_
      rintro e w5 ⟨rfl, h5, h6⟩
      go_wp2_with fail
      go_end0
      exact ⟨rfl, by rw [← HT.out, ← rot_even F him]; exact h5, HG.out.trans h6⟩
    · have hne : ¬ (i : Int) = (j : Int) := by omega
      by_cases hlt : j < i
      · have hlt' : (j : Int) < (i : Int) := by omega
        have w3 : IntKind.i64.wrap ((i : Int) - (j : Int)) = ((i - j : Nat) : Int) := by rw [IntWalk.i64_in _ (by omega)]; omega
        go_wp2_with fail
        refine (swapRange_any g n cap (m - i) m j F cv wr HR.out (by omega) (by omega) HN.out).mono ?_
        rintro e w5 ⟨rfl, h5, h6⟩
        have H5 := hide h5
        have H6 := hide (HG.out.trans h6)
        clear h5 h6
        go_wp2_with fail
        go_roundw
        case rel => exact ⟨i - j, j, _, rfl, rfl, by omega, by omega, by omega, by omega, hide ((rot_left F him hlt).trans HT.out), H5, H6⟩
        case measure => simp [intOf]; omega
      · have hlt' : ¬ (j : Int) < (i : Int) := by omega
        have w3 : IntKind.i64.wrap ((j : Int) - (i : Int)) = ((j - i : Nat) : Int) := by rw [IntWalk.i64_in _ (by omega)]; omega
        obtain ⟨M, hM⟩ : ∃ M : Nat, M = m + j := ⟨_, rfl⟩
        obtain ⟨B, hB⟩ : ∃ B : Nat, B = m + j - i := ⟨_, rfl⟩
        have w5 : IntKind.i64.wrap ((m : Int) + (j : Int)) = (M : Int) := by rw [w2, hM]
        have w4 : IntKind.i64.wrap ((M : Int) - (i : Int)) = (B : Int) := by rw [IntWalk.i64_in _ (by omega)]; omega
        clear w2
        have HM := hide hM
        have HB := hide hB
        clear hM hB
        have HSW := hide (swapRange_any g n cap (m - i) B i F cv wr HR.out (by have := HB.out; omega) (by have := HB.out; omega) HN.out)
        go_wp2_with fail
        refine HSW.out.mono ?_
        rintro e w5 ⟨rfl, h5, h6⟩
        have H5 := hide h5
        have H6 := hide (HG.out.trans h6)
        clear h5 h6
        go_wp2_with fail
        go_roundw
        case rel => exact ⟨i, j - i, _, rfl, rfl, by omega, by omega, by omega, by omega, hide ((rot_right F him (by omega)).trans HT.out), (by have := HB.out; subst this; exact H5), H6⟩
        case measure => simp [intOf]; omega
end Go.Proofs.Ytlhekifmkkgjlaa
/- Stable sorting, walked: one element merged with a segment. -/
namespace Go.Proofs.Ytlhekifmkkgjlaa
open Go Go.RowKit Go.Shelf
set_option maxHeartbeats 4000000
set_option maxRecDepth 100000
theorem symMerge_left {lt : Int × Int → Int × Int → Prop} (O : Ord2 bkLess lt) (g n cap a m b : Nat) (F : Nat → Int × Int) (w : World) (hr : SBR w g n F) (hm : m = a + 1) (hmb : m < b) (hb : b ≤ n) (hn : n ≤ 1000000) (hp : MP bkLess lt F a m b) :
    Calls Try.prog 119 #[.slice (some ⟨g, 0, none⟩) n cap, .int .i64 a, .int .i64 m, .int .i64 b, .func (.func 96) #[] #[]] w fun e w' => e = .returned (.tuple #[]) ∧ ∃ f', SBR w' g n f' ∧ MQ lt F f' a b ∧ w.grownBy w' (some g) := by
  have HR0 := hide hr
  have HP := hide hp
  have eg := (enters_of Try.func96 (by kernel_rfl) rfl)
  clear hr hp
  have e1 : IntKind.i64.wrap ((m : Int) - (a : Int)) = 1 := by rw [IntWalk.i64_in _ (by omega)]; omega
  have hma : a + 1 ≤ m := by omega
  have hmn : m ≤ n := by omega
  have HM := hide hm
  clear hm
  go_enter Try.func119, Try.ntmps119
  go_wp2_with fail
  clear e1
  go_loopw [10, 11] (fun x y wr => ∃ i j : Nat, x = .int .i64 i ∧ y = .int .i64 j ∧ m ≤ i ∧ i ≤ j ∧ j ≤ b ∧ Hid (m < i → bkLess (F (i - 1)) (F a) = true) ∧ Hid (j < b → bkLess (F j) (F a) = false) ∧ Hid (Below w.heap.size w wr)) (fun x y _ => (intOf y).toNat - (intOf x).toNat)
  case atStart => exact ⟨m, b, rfl, rfl, by omega, by omega, by omega, hide (fun h => absurd h (by omega)), hide (fun h => absurd h (by omega)), hide (Below.refl _ _)⟩
  case round =>
    obtain ⟨i, j, rfl, rfl, hmi, hij, hjb, Q1, Q2, HB⟩ := hrel
    by_cases hlt : i < j
    · go_upto_region 5 with fail
      obtain ⟨h, hh⟩ : ∃ h : Nat, h = (i + j) / 2 := ⟨_, rfl⟩
      have e1 : ((i : Int) + j) / 2 = (h : Int) := by omega
      have l1 : i ≤ h := by omega
      have l2 : h < j := by omega
      clear hh
      simp only [e1]
      clear e1
      have Bd := hide (Below.refl wr.heap.size wr).drew
      have HRr := hide (HR0.out.ext HB.out)
      have HSB : Hid (∀ W, Below wr.heap.size wr W → (W.cell? ⟨g, h * 2, none⟩ = some (.int .i64 (F h).1) ∧ W.cell? ⟨g, h * 2 + 1, none⟩ = some (.int .i64 (F h).2)) ∧ W.cell? ⟨g, a * 2, none⟩ = some (.int .i64 (F a).1) ∧ W.cell? ⟨g, a * 2 + 1, none⟩ = some (.int .i64 (F a).2)) := hide (fun W hW => ⟨(HRr.out.ext hW).cells h (by omega), (HRr.out.ext hW).cells a (by omega)⟩)
      have i1 : (0 : Int) ≤ (h : Int) := by omega
      have i2 : (h : Int) < (n : Int) := by omega
      have i3 : (0 : Int) ≤ (a : Int) := by omega
      have i4 : (a : Int) < (n : Int) := by omega
      refine wp_region_J (fun W : World => (W.cell? ⟨g, h * 2, none⟩ = some (.int .i64 (F h).1) ∧ W.cell? ⟨g, h * 2 + 1, none⟩ = some (.int .i64 (F h).2)) ∧ W.cell? ⟨g, a * 2, none⟩ = some (.int .i64 (F a).1) ∧ W.cell? ⟨g, a * 2 + 1, none⟩ = some (.int .i64 (F a).2)) (by kernel_rfl) ?_
      generalize wr.drew = wd at Bd ⊢
      refine wpAnyJ_take 0 (v := ?_) (by first | exact hF | exact wideFn) (HSB.out _ Bd.out) rfl (by kernel_rfl) (by kernel_rfl) (by kernel_rfl) (by kernel_rfl) rfl ?_ (by first | exact fun _ _ _ h => h | exact fun _ _ _ h => hQ2 _ _ _ _ _ h) ?_
      rotate_left
      · intro W hSW
        simp only [List.getElem_toArray, List.getElem_cons_zero, List.getElem_cons_succ]
        (try dsimp only at hSW)
        go_simp
        with_reducible rfl
      (try simp only [List.getElem_toArray, List.getElem_cons_zero, List.getElem_cons_succ, Act.put, List.setIfInBounds_toArray, List.set_cons_zero, List.set_cons_succ])
      refine wpAnyJ_take 1 (v := ?_) (by first | exact hF | exact wideFn) (HSB.out _ Bd.out) rfl (by kernel_rfl) (by kernel_rfl) (by kernel_rfl) (by kernel_rfl) rfl ?_ (by first | exact fun _ _ _ h => h | exact fun _ _ _ h => hQ2 _ _ _ _ _ h) ?_
      rotate_left
      · intro W hSW
        simp only [List.getElem_toArray, List.getElem_cons_zero, List.getElem_cons_succ]
        (try dsimp only at hSW)
        go_simp
        with_reducible rfl
      (try simp only [List.getElem_toArray, List.getElem_cons_zero, List.getElem_cons_succ, Act.put, List.setIfInBounds_toArray, List.set_cons_zero, List.set_cons_succ])
      refine wpAnyJ_take 2 (v := ?_) (by first | exact hF | exact wideFn) (HSB.out _ Bd.out) rfl (by kernel_rfl) (by kernel_rfl) (by kernel_rfl) (by kernel_rfl) rfl ?_ (by first | exact fun _ _ _ h => h | exact fun _ _ _ h => hQ2 _ _ _ _ _ h) ?_
      rotate_left
      · intro W hSW
        simp only [List.getElem_toArray, List.getElem_cons_zero, List.getElem_cons_succ]
        (try dsimp only at hSW)
        go_simp
        with_reducible rfl
      (try simp only [List.getElem_toArray, List.getElem_cons_zero, List.getElem_cons_succ, Act.put, List.setIfInBounds_toArray, List.set_cons_zero, List.set_cons_succ])
      refine wpAnyJ_take 3 (v := ?_) (by first | exact hF | exact wideFn) (HSB.out _ Bd.out) rfl (by kernel_rfl) (by kernel_rfl) (by kernel_rfl) (by kernel_rfl) rfl ?_ (by first | exact fun _ _ _ h => h | exact fun _ _ _ h => hQ2 _ _ _ _ _ h) ?_
      rotate_left
      · intro W hSW
        simp only [List.getElem_toArray, List.getElem_cons_zero, List.getElem_cons_succ]
        (try dsimp only at hSW)
        go_simp
        with_reducible rfl
      (try simp only [List.getElem_toArray, List.getElem_cons_zero, List.getElem_cons_succ, Act.put, List.setIfInBounds_toArray, List.set_cons_zero, List.set_cons_succ])
      refine wpAnyJ_take 4 (v := ?_) (by first | exact hF | exact wideFn) (HSB.out _ Bd.out) rfl (by kernel_rfl) (by kernel_rfl) (by kernel_rfl) (by kernel_rfl) rfl ?_ (by first | exact fun _ _ _ h => h | exact fun _ _ _ h => hQ2 _ _ _ _ _ h) ?_
      rotate_left
      · intro W hSW
        simp only [List.getElem_toArray, List.getElem_cons_zero, List.getElem_cons_succ]
        (try dsimp only at hSW)
        go_simp
        with_reducible rfl
      (try simp only [List.getElem_toArray, List.getElem_cons_zero, List.getElem_cons_succ, Act.put, List.setIfInBounds_toArray, List.set_cons_zero, List.set_cons_succ])
      refine wpAnyJ_take 5 (v := ?_) (by first | exact hF | exact wideFn) (HSB.out _ Bd.out) rfl (by kernel_rfl) (by kernel_rfl) (by kernel_rfl) (by kernel_rfl) rfl ?_ (by first | exact fun _ _ _ h => h | exact fun _ _ _ h => hQ2 _ _ _ _ _ h) ?_
      rotate_left
      · intro W hSW
        simp only [List.getElem_toArray, List.getElem_cons_zero, List.getElem_cons_succ]
        (try dsimp only at hSW)
        go_simp
        with_reducible rfl
      (try simp only [List.getElem_toArray, List.getElem_cons_zero, List.getElem_cons_succ, Act.put, List.setIfInBounds_toArray, List.set_cons_zero, List.set_cons_succ])
      refine wpAnyJ_take 6 (v := ?_) (by first | exact hF | exact wideFn) (HSB.out _ Bd.out) rfl (by kernel_rfl) (by kernel_rfl) (by kernel_rfl) (by kernel_rfl) rfl ?_ (by first | exact fun _ _ _ h => h | exact fun _ _ _ h => hQ2 _ _ _ _ _ h) ?_
      rotate_left
      · intro W hSW
        simp only [List.getElem_toArray, List.getElem_cons_zero, List.getElem_cons_succ]
        (try dsimp only at hSW)
        go_simp
        with_reducible rfl
      (try simp only [List.getElem_toArray, List.getElem_cons_zero, List.getElem_cons_succ, Act.put, List.setIfInBounds_toArray, List.set_cons_zero, List.set_cons_succ])
      refine wpAnyJ_take 7 (v := ?_) (by first | exact hF | exact wideFn) (HSB.out _ Bd.out) rfl (by kernel_rfl) (by kernel_rfl) (by kernel_rfl) (by kernel_rfl) rfl ?_ (by first | exact fun _ _ _ h => h | exact fun _ _ _ h => hQ2 _ _ _ _ _ h) ?_
      rotate_left
      · intro W hSW
        simp only [List.getElem_toArray, List.getElem_cons_zero, List.getElem_cons_succ]
        (try dsimp only at hSW)
        go_simp
        with_reducible rfl
      (try simp only [List.getElem_toArray, List.getElem_cons_zero, List.getElem_cons_succ, Act.put, List.setIfInBounds_toArray, List.set_cons_zero, List.set_cons_succ])
      refine wpAnyJ_take 8 (v := ?_) (by first | exact hF | exact wideFn) (HSB.out _ Bd.out) rfl (by kernel_rfl) (by kernel_rfl) (by kernel_rfl) (by kernel_rfl) rfl ?_ (by first | exact fun _ _ _ h => h | exact fun _ _ _ h => hQ2 _ _ _ _ _ h) ?_
      rotate_left
      · intro W hSW
        simp only [List.getElem_toArray, List.getElem_cons_zero, List.getElem_cons_succ]
        (try dsimp only at hSW)
        go_simp
        with_reducible rfl
      (try simp only [List.getElem_toArray, List.getElem_cons_zero, List.getElem_cons_succ, Act.put, List.setIfInBounds_toArray, List.set_cons_zero, List.set_cons_succ])
      refine wpAnyJ_one 9 rfl (by kernel_rfl) (fun K hK => ?_)
      simp only [List.getElem_toArray, List.getElem_cons_zero, List.getElem_cons_succ]
      go_simp
      refine ⟨trivial, rfl, ?_⟩
      (with_reducible refine (callsIn_wide.2 (free1_any (F h) (F a) _)).mono ?_)
      rintro e w5 ⟨rfl, hb5⟩
      have HB5 := hide (Bd.out.trans (hb5.mono Bd.out.size)); clear hb5
      dsimp only
      refine hK.out _ _ (fun _ => HSB.out _ HB5.out) ?_
      clear hK K
      (try simp only [List.getElem_toArray, List.getElem_cons_zero, List.getElem_cons_succ, Act.put, List.setIfInBounds_toArray, List.set_cons_zero, List.set_cons_succ])
      refine wpAnyJ_take 10 (v := ?_) (by first | exact hF | exact wideFn) (HSB.out _ HB5.out) rfl (by kernel_rfl) (by kernel_rfl) (by kernel_rfl) (by kernel_rfl) rfl ?_ (by first | exact fun _ _ _ h => h | exact fun _ _ _ h => hQ2 _ _ _ _ _ h) ?_
      rotate_left
      · intro W hSW
        simp only [List.getElem_toArray, List.getElem_cons_zero, List.getElem_cons_succ]
        (try dsimp only at hSW)
        go_simp
        with_reducible rfl
      (try simp only [List.getElem_toArray, List.getElem_cons_zero, List.getElem_cons_succ, Act.put, List.setIfInBounds_toArray, List.set_cons_zero, List.set_cons_succ])
      refine wpAnyJ_done (by kernel_rfl) ?_
      have HBW := hide (HB.out.trans (HB5.out.mono HB.out.size))
      by_cases hc : wrap64 ((F a).1 - (F h).1) < 0
      · have hl : bkLess (F h) (F a) = true := by unfold bkLess; exact decide_eq_true hc
        have HL := hide hl
        clear hl
        go_wp2_with fail
        go_roundw
        case rel => exact ⟨h + 1, j, by go_num, rfl, by omega, by omega, by omega, hide (fun _ => HL.out), Q2, HBW⟩
        case measure => simp [intOf]; omega
      · have hl : bkLess (F h) (F a) = false := by unfold bkLess; exact decide_eq_false hc
        have HL := hide hl
        clear hl
        go_wp2_with fail
        go_roundw
        case rel => exact ⟨i, h, rfl, rfl, by omega, by omega, by omega, Q1, hide (fun _ => HL.out), HBW⟩
        case measure => simp [intOf]; omega
    · obtain rfl : i = j := by omega
      have HR1 := hide (HR0.out.ext HB.out)
      have w1 : IntKind.i64.wrap ((i : Int) - 1) = ((i - 1 : Nat) : Int) := by rw [IntWalk.i64_in _ (by omega)]; omega
      have HQ : Hid (MQ lt F (rotF F a (a + 1) i) a b) := hide (by have e := HM.out; subst e; exact HP.out.left1 O hmi hjb Q1.out Q2.out)
      go_wp2_with fail
      go_loopw [13] (fun x wq => ∃ k : Nat, x = .int .i64 k ∧ a ≤ k ∧ k ≤ i - 1 ∧ Hid (SBR wq g n (rotF F a (a + 1) (k + 1))) ∧ Hid (w.grownBy wq (some g))) (fun x _ => (i - 1) - (intOf x).toNat)
      case atStart => exact ⟨a, rfl, by omega, by omega, hide (by rw [rot_same']; exact HR1.out), hide (below_grown' HB.out _)⟩
      case round =>
        obtain ⟨k, rfl, hak, hki, HR, HG⟩ := hrel
        by_cases hlt2 : k < i - 1
        · have hlt2' : (k : Int) < ((i - 1 : Nat) : Int) := by omega
          have HST := hide (swp_on F hak)
          have HST2 := hide (HST.out)
          obtain ⟨A, hA⟩ : ∃ A : Nat, A = k := ⟨_, rfl⟩
          obtain ⟨B, hB⟩ : ∃ B : Nat, B = k + 1 := ⟨_, rfl⟩
          have ha : A < n := by omega
          have hb' : B < n := by omega
          have hAB : A ≠ B := by omega
          have i1 : (0 : Int) ≤ (A : Int) := by omega
          have i2 : (A : Int) < (n : Int) := by omega
          have i3 : (0 : Int) ≤ (B : Int) := by omega
          have i4 : (B : Int) < (n : Int) := by omega
          have w2 : IntKind.i64.wrap ((A : Int) + 1) = (B : Int) := by rw [IntWalk.i64_in _ (by omega)]; omega
          have HKB := hide (show B = A + 1 by omega)
          rw [← hB, ← hA] at HST
          subst hA
          rw [← hB] at HR
          clear hB
          clear HST2
          generalize rotF F a (a + 1) B = F' at HR HST
          go_upto_region 11 with fail
          have Bd := hide (Below.refl wr.heap.size wr).drew
          have HRd := hide (HR.out.ext Bd.out)
          have HGd := hide (HG.out.trans (below_grown' Bd.out _))
          have HS : Hid ((wr.drew.cell? ⟨g, A * 2, none⟩ = some (.int .i64 (F' A).1) ∧ wr.drew.cell? ⟨g, A * 2 + 1, none⟩ = some (.int .i64 (F' A).2)) ∧ wr.drew.cell? ⟨g, B * 2, none⟩ = some (.int .i64 (F' B).1) ∧ wr.drew.cell? ⟨g, B * 2 + 1, none⟩ = some (.int .i64 (F' B).2)) := hide ⟨(HRd.out.cells A ha), HRd.out.cells B hb'⟩
          refine wp_region_K (pickS [9, 13] (fun W => (W.cell? ⟨g, A * 2, none⟩ = some (.int .i64 (F' A).1) ∧ W.cell? ⟨g, A * 2 + 1, none⟩ = some (.int .i64 (F' A).2)) ∧ W.cell? ⟨g, B * 2, none⟩ = some (.int .i64 (F' B).1) ∧ W.cell? ⟨g, B * 2 + 1, none⟩ = some (.int .i64 (F' B).2)) (fun _ => True)) (by kernel_rfl) ?_
          generalize wr.drew = wd at HRd HGd HS ⊢
          refine wpAnyK_take 0 (v := ?_) (by first | exact hF | exact wideFn) trivial rfl (by kernel_rfl) (by kernel_rfl) (by kernel_rfl) (by kernel_rfl) rfl ?_ (by first | exact fun _ _ _ h => h | exact fun _ _ _ h => hQ2 _ _ _ _ _ h) ?_
          rotate_left
          · intro W hSW
            replace hSW : True := hSW
            simp only [List.getElem_toArray, List.getElem_cons_zero, List.getElem_cons_succ]
            (try dsimp only at hSW)
            go_simp
            with_reducible rfl
          (try simp only [List.getElem_toArray, List.getElem_cons_zero, List.getElem_cons_succ, Act.put, List.setIfInBounds_toArray, List.set_cons_zero, List.set_cons_succ])
          refine wpAnyK_take 1 (v := ?_) (by first | exact hF | exact wideFn) trivial rfl (by kernel_rfl) (by kernel_rfl) (by kernel_rfl) (by kernel_rfl) rfl ?_ (by first | exact fun _ _ _ h => h | exact fun _ _ _ h => hQ2 _ _ _ _ _ h) ?_
          rotate_left
          · intro W hSW
            replace hSW : True := hSW
            simp only [List.getElem_toArray, List.getElem_cons_zero, List.getElem_cons_succ]
            (try dsimp only at hSW)
            go_simp
            with_reducible rfl
          (try simp only [List.getElem_toArray, List.getElem_cons_zero, List.getElem_cons_succ, Act.put, List.setIfInBounds_toArray, List.set_cons_zero, List.set_cons_succ])
          refine wpAnyK_take 2 (v := ?_) (by first | exact hF | exact wideFn) trivial rfl (by kernel_rfl) (by kernel_rfl) (by kernel_rfl) (by kernel_rfl) rfl ?_ (by first | exact fun _ _ _ h => h | exact fun _ _ _ h => hQ2 _ _ _ _ _ h) ?_
          rotate_left
          · intro W hSW
            replace hSW : True := hSW
            simp only [List.getElem_toArray, List.getElem_cons_zero, List.getElem_cons_succ]
            (try dsimp only at hSW)
            go_simp
            with_reducible rfl
          (try simp only [List.getElem_toArray, List.getElem_cons_zero, List.getElem_cons_succ, Act.put, List.setIfInBounds_toArray, List.set_cons_zero, List.set_cons_succ])
          refine wpAnyK_take 3 (v := ?_) (by first | exact hF | exact wideFn) trivial rfl (by kernel_rfl) (by kernel_rfl) (by kernel_rfl) (by kernel_rfl) rfl ?_ (by first | exact fun _ _ _ h => h | exact fun _ _ _ h => hQ2 _ _ _ _ _ h) ?_
          rotate_left
          · intro W hSW
            replace hSW : True := hSW
            simp only [List.getElem_toArray, List.getElem_cons_zero, List.getElem_cons_succ]
            (try dsimp only at hSW)
            go_simp
            with_reducible rfl
          (try simp only [List.getElem_toArray, List.getElem_cons_zero, List.getElem_cons_succ, Act.put, List.setIfInBounds_toArray, List.set_cons_zero, List.set_cons_succ])
          refine wpAnyK_take 4 (v := ?_) (by first | exact hF | exact wideFn) trivial rfl (by kernel_rfl) (by kernel_rfl) (by kernel_rfl) (by kernel_rfl) rfl ?_ (by first | exact fun _ _ _ h => h | exact fun _ _ _ h => hQ2 _ _ _ _ _ h) ?_
          rotate_left
          · intro W hSW
            replace hSW : True := hSW
            simp only [List.getElem_toArray, List.getElem_cons_zero, List.getElem_cons_succ]
            (try dsimp only at hSW)
            go_simp
            with_reducible rfl
          (try simp only [List.getElem_toArray, List.getElem_cons_zero, List.getElem_cons_succ, Act.put, List.setIfInBounds_toArray, List.set_cons_zero, List.set_cons_succ])
          refine wpAnyK_take 5 (v := ?_) (by first | exact hF | exact wideFn) trivial rfl (by kernel_rfl) (by kernel_rfl) (by kernel_rfl) (by kernel_rfl) rfl ?_ (by first | exact fun _ _ _ h => h | exact fun _ _ _ h => hQ2 _ _ _ _ _ h) ?_
          rotate_left
          · intro W hSW
            replace hSW : True := hSW
            simp only [List.getElem_toArray, List.getElem_cons_zero, List.getElem_cons_succ]
            (try dsimp only at hSW)
            go_simp
            with_reducible rfl
          (try simp only [List.getElem_toArray, List.getElem_cons_zero, List.getElem_cons_succ, Act.put, List.setIfInBounds_toArray, List.set_cons_zero, List.set_cons_succ])
          refine wpAnyK_take 6 (v := ?_) (by first | exact hF | exact wideFn) trivial rfl (by kernel_rfl) (by kernel_rfl) (by kernel_rfl) (by kernel_rfl) rfl ?_ (by first | exact fun _ _ _ h => h | exact fun _ _ _ h => hQ2 _ _ _ _ _ h) ?_
          rotate_left
          · intro W hSW
            replace hSW : True := hSW
            simp only [List.getElem_toArray, List.getElem_cons_zero, List.getElem_cons_succ]
            (try dsimp only at hSW)
            go_simp
            with_reducible rfl
          (try simp only [List.getElem_toArray, List.getElem_cons_zero, List.getElem_cons_succ, Act.put, List.setIfInBounds_toArray, List.set_cons_zero, List.set_cons_succ])
          refine wpAnyK_take 7 (v := ?_) (by first | exact hF | exact wideFn) trivial rfl (by kernel_rfl) (by kernel_rfl) (by kernel_rfl) (by kernel_rfl) rfl ?_ (by first | exact fun _ _ _ h => h | exact fun _ _ _ h => hQ2 _ _ _ _ _ h) ?_
          rotate_left
          · intro W hSW
            replace hSW : True := hSW
            simp only [List.getElem_toArray, List.getElem_cons_zero, List.getElem_cons_succ]
            (try dsimp only at hSW)
            go_simp
            with_reducible rfl
          (try simp only [List.getElem_toArray, List.getElem_cons_zero, List.getElem_cons_succ, Act.put, List.setIfInBounds_toArray, List.set_cons_zero, List.set_cons_succ])
          refine wpAnyK_take 8 (v := ?_) (by first | exact hF | exact wideFn) trivial rfl (by kernel_rfl) (by kernel_rfl) (by kernel_rfl) (by kernel_rfl) rfl ?_ (by first | exact fun _ _ _ h => h | exact fun _ _ _ h => hQ2 _ _ _ _ _ h) ?_
          rotate_left
          · intro W hSW
            replace hSW : True := hSW
            simp only [List.getElem_toArray, List.getElem_cons_zero, List.getElem_cons_succ]
            (try dsimp only at hSW)
            go_simp
            with_reducible rfl
          (try simp only [List.getElem_toArray, List.getElem_cons_zero, List.getElem_cons_succ, Act.put, List.setIfInBounds_toArray, List.set_cons_zero, List.set_cons_succ])
          refine wpAnyK_take 9 (v := ?_) (by first | exact hF | exact wideFn) (And.intro HS.out trivial) rfl (by kernel_rfl) (by kernel_rfl) (by kernel_rfl) (by kernel_rfl) rfl ?_ (by first | exact fun _ _ _ h => h | exact fun _ _ _ h => hQ2 _ _ _ _ _ h) ?_
          rotate_left
          · intro W hSW
            replace hSW : (((W.cell? ⟨g, A * 2, none⟩ = some (.int .i64 (F' A).1) ∧ W.cell? ⟨g, A * 2 + 1, none⟩ = some (.int .i64 (F' A).2)) ∧ W.cell? ⟨g, B * 2, none⟩ = some (.int .i64 (F' B).1) ∧ W.cell? ⟨g, B * 2 + 1, none⟩ = some (.int .i64 (F' B).2)) ∧ True) := hSW
            simp only [List.getElem_toArray, List.getElem_cons_zero, List.getElem_cons_succ]
            (try dsimp only at hSW)
            go_simp
            with_reducible rfl
          (try simp only [List.getElem_toArray, List.getElem_cons_zero, List.getElem_cons_succ, Act.put, List.setIfInBounds_toArray, List.set_cons_zero, List.set_cons_succ])
          refine wpAnyK_take 10 (v := ?_) (by first | exact hF | exact wideFn) trivial rfl (by kernel_rfl) (by kernel_rfl) (by kernel_rfl) (by kernel_rfl) rfl ?_ (by first | exact fun _ _ _ h => h | exact fun _ _ _ h => hQ2 _ _ _ _ _ h) ?_
          rotate_left
          · intro W hSW
            replace hSW : True := hSW
            simp only [List.getElem_toArray, List.getElem_cons_zero, List.getElem_cons_succ]
            (try dsimp only at hSW)
            go_simp
            with_reducible rfl
          (try simp only [List.getElem_toArray, List.getElem_cons_zero, List.getElem_cons_succ, Act.put, List.setIfInBounds_toArray, List.set_cons_zero, List.set_cons_succ])
          refine wpAnyK_take 11 (v := ?_) (by first | exact hF | exact wideFn) trivial rfl (by kernel_rfl) (by kernel_rfl) (by kernel_rfl) (by kernel_rfl) rfl ?_ (by first | exact fun _ _ _ h => h | exact fun _ _ _ h => hQ2 _ _ _ _ _ h) ?_
          rotate_left
          · intro W hSW
            replace hSW : True := hSW
            simp only [List.getElem_toArray, List.getElem_cons_zero, List.getElem_cons_succ]
            (try dsimp only at hSW)
            go_simp
            with_reducible rfl
          (try simp only [List.getElem_toArray, List.getElem_cons_zero, List.getElem_cons_succ, Act.put, List.setIfInBounds_toArray, List.set_cons_zero, List.set_cons_succ])
          refine wpAnyK_take 12 (v := ?_) (by first | exact hF | exact wideFn) trivial rfl (by kernel_rfl) (by kernel_rfl) (by kernel_rfl) (by kernel_rfl) rfl ?_ (by first | exact fun _ _ _ h => h | exact fun _ _ _ h => hQ2 _ _ _ _ _ h) ?_
          rotate_left
          · intro W hSW
            replace hSW : True := hSW
            simp only [List.getElem_toArray, List.getElem_cons_zero, List.getElem_cons_succ]
            (try dsimp only at hSW)
            go_simp
            with_reducible rfl
          (try simp only [List.getElem_toArray, List.getElem_cons_zero, List.getElem_cons_succ, Act.put, List.setIfInBounds_toArray, List.set_cons_zero, List.set_cons_succ])
          refine wpAnyK_take 13 (v := ?_) (by first | exact hF | exact wideFn) (And.intro HS.out trivial) rfl (by kernel_rfl) (by kernel_rfl) (by kernel_rfl) (by kernel_rfl) rfl ?_ (by first | exact fun _ _ _ h => h | exact fun _ _ _ h => hQ2 _ _ _ _ _ h) ?_
          rotate_left
          · intro W hSW
            replace hSW : (((W.cell? ⟨g, A * 2, none⟩ = some (.int .i64 (F' A).1) ∧ W.cell? ⟨g, A * 2 + 1, none⟩ = some (.int .i64 (F' A).2)) ∧ W.cell? ⟨g, B * 2, none⟩ = some (.int .i64 (F' B).1) ∧ W.cell? ⟨g, B * 2 + 1, none⟩ = some (.int .i64 (F' B).2)) ∧ True) := hSW
            simp only [List.getElem_toArray, List.getElem_cons_zero, List.getElem_cons_succ]
            (try dsimp only at hSW)
            go_simp
            with_reducible rfl
          (try simp only [List.getElem_toArray, List.getElem_cons_zero, List.getElem_cons_succ, Act.put, List.setIfInBounds_toArray, List.set_cons_zero, List.set_cons_succ])
          refine wpAnyK_take 14 (v := ?_) (by first | exact hF | exact wideFn) trivial rfl (by kernel_rfl) (by kernel_rfl) (by kernel_rfl) (by kernel_rfl) rfl ?_ (by first | exact fun _ _ _ h => h | exact fun _ _ _ h => hQ2 _ _ _ _ _ h) ?_
          rotate_left
          · intro W hSW
            replace hSW : True := hSW
            simp only [List.getElem_toArray, List.getElem_cons_zero, List.getElem_cons_succ]
            (try dsimp only at hSW)
            go_simp
            with_reducible rfl
          (try simp only [List.getElem_toArray, List.getElem_cons_zero, List.getElem_cons_succ, Act.put, List.setIfInBounds_toArray, List.set_cons_zero, List.set_cons_succ])
          obtain ⟨p0, p1, p2, p3, p4⟩ := HRd.out.at_ ha
          have HR1 := hide (HRd.out.put ha (F' B))
          have HG1 := hide (SBR.grow HGd.out A (F' B))
          refine wpAnyK_one 15 rfl (by kernel_rfl) (fun K hK => ?_)
          simp only [List.getElem_toArray, List.getElem_cons_zero, List.getElem_cons_succ]
          go_simp
          refine hK.out _ _ (.inr (pickS_need (by kernel_rfl) trivial)) ?_
          clear hK K
          (try simp only [List.getElem_toArray, List.getElem_cons_zero, List.getElem_cons_succ, Act.put, List.setIfInBounds_toArray, List.set_cons_zero, List.set_cons_succ])
          clear p0 p1 p2 p3 p4
          generalize ((wd.setCell ⟨g, A * 2, none⟩ (.int .i64 (F' B).1)).setCell ⟨g, A * 2 + 1, none⟩ (.int .i64 (F' B).2)) = w1 at HR1 HG1 ⊢
          have HR2 := hide (HR1.out.put hb' (F' A))
          have HG2 := hide (SBR.grow HG1.out B (F' A))
          rw [swp_upd, HST.out] at HR2
          obtain ⟨p0, p1, p2, p3, p4⟩ := HR1.out.at_ hb'
          refine wpAnyK_take 16 (v := ?_) (by first | exact hF | exact wideFn) trivial rfl (by kernel_rfl) (by kernel_rfl) (by kernel_rfl) (by kernel_rfl) rfl ?_ (by first | exact fun _ _ _ h => h | exact fun _ _ _ h => hQ2 _ _ _ _ _ h) ?_
          rotate_left
          · intro W hSW
            replace hSW : True := hSW
            simp only [List.getElem_toArray, List.getElem_cons_zero, List.getElem_cons_succ]
            (try dsimp only at hSW)
            go_simp
            with_reducible rfl
          (try simp only [List.getElem_toArray, List.getElem_cons_zero, List.getElem_cons_succ, Act.put, List.setIfInBounds_toArray, List.set_cons_zero, List.set_cons_succ])
          refine wpAnyK_one 17 rfl (by kernel_rfl) (fun K hK => ?_)
          simp only [List.getElem_toArray, List.getElem_cons_zero, List.getElem_cons_succ]
          go_simp
          refine hK.out _ _ (.inr (pickS_no (by kernel_rfl))) ?_
          clear hK K
          (try simp only [List.getElem_toArray, List.getElem_cons_zero, List.getElem_cons_succ, Act.put, List.setIfInBounds_toArray, List.set_cons_zero, List.set_cons_succ])
          refine wpAnyK_done (by kernel_rfl) ?_
          clear p0 p1 p2 p3 p4
          generalize ((w1.setCell ⟨g, B * 2, none⟩ (.int .i64 (F' A).1)).setCell ⟨g, B * 2 + 1, none⟩ (.int .i64 (F' A).2)) = w2 at HR2 HG2 ⊢
          go_wp2_with fail
          go_roundw
          case rel => exact ⟨B, rfl, by have := HKB.out; omega, by have := HKB.out; omega, (by rw [show A + 2 = B + 1 by have := HKB.out; omega] at HR2; exact HR2), HG2⟩
          case measure => have := HKB.out; simp [intOf]; omega
        · obtain rfl : i - 1 = k := by omega
          have hlt2' : ¬ (((i - 1 : Nat) : Int)) < ((i - 1 : Nat) : Int) := by omega
          go_wp2_with fail
          (try simp only [Exit.inBlock, Exit.then])
          refine bodyPost_ret (results_none rfl _ _ _) rfl ?_
          exact ⟨rfl, _, by rw [show i - 1 + 1 = i by omega] at HR; exact HR.out, HQ.out, HG.out⟩
end Go.Proofs.Ytlhekifmkkgjlaa
/- Stable sorting, walked: a segment merged with one element. -/
namespace Go.Proofs.Ytlhekifmkkgjlaa
open Go Go.RowKit Go.Shelf
set_option maxHeartbeats 4000000
set_option maxRecDepth 100000
theorem symMerge_right {lt : Int × Int → Int × Int → Prop} (O : Ord2 bkLess lt) (g n cap a m b : Nat) (F : Nat → Int × Int) (w : World) (hr : SBR w g n F) (ham : a + 1 < m) (hm : b = m + 1) (hb : b ≤ n) (hn : n ≤ 1000000) (hp : MP bkLess lt F a m b) :
    Calls Try.prog 119 #[.slice (some ⟨g, 0, none⟩) n cap, .int .i64 a, .int .i64 m, .int .i64 b, .func (.func 96) #[] #[]] w fun e w' => e = .returned (.tuple #[]) ∧ ∃ f', SBR w' g n f' ∧ MQ lt F f' a b ∧ w.grownBy w' (some g) := by
  have HR0 := hide hr
  have HP := hide hp
  have eg := (enters_of Try.func96 (by kernel_rfl) rfl)
  clear hr hp
  have e1 : IntKind.i64.wrap ((m : Int) - (a : Int)) = ((m - a : Nat) : Int) := by rw [IntWalk.i64_in _ (by omega)]; omega
  have e2 : (((m - a : Nat) : Int) == 1) = false := by simp only [beq_eq_false_iff_ne, ne_eq]; omega
  have e3 : IntKind.i64.wrap ((b : Int) - (m : Int)) = 1 := by rw [IntWalk.i64_in _ (by omega)]; omega
  have hmn : m < n := by omega
  have HM := hide hm
  clear hm
  go_enter Try.func119, Try.ntmps119
  generalize hda : m - a = da at e1 e2
  clear hda
  go_wp2_with fail
  clear e1 e2 e3
  go_loopw [14, 15] (fun x y wr => ∃ i j : Nat, x = .int .i64 i ∧ y = .int .i64 j ∧ a ≤ i ∧ i ≤ j ∧ j ≤ m ∧ Hid (a < i → bkLess (F m) (F (i - 1)) = false) ∧ Hid (j < m → bkLess (F m) (F j) = true) ∧ Hid (Below w.heap.size w wr)) (fun x y _ => (intOf y).toNat - (intOf x).toNat)
  case atStart => exact ⟨a, m, rfl, rfl, by omega, by omega, by omega, hide (fun h => absurd h (by omega)), hide (fun h => absurd h (by omega)), hide (Below.refl _ _)⟩
  case round =>
    obtain ⟨i, j, rfl, rfl, hmi, hij, hjb, Q1, Q2, HB⟩ := hrel
    by_cases hlt : i < j
    · go_upto_region 17 with fail
      obtain ⟨h, hh⟩ : ∃ h : Nat, h = (i + j) / 2 := ⟨_, rfl⟩
      have e1 : ((i : Int) + j) / 2 = (h : Int) := by omega
      have l1 : i ≤ h := by omega
      have l2 : h < j := by omega
      clear hh
      simp only [e1]
      clear e1
      have Bd := hide (Below.refl wr.heap.size wr).drew
      have HRr := hide (HR0.out.ext HB.out)
      have HSB : Hid (∀ W, Below wr.heap.size wr W → (W.cell? ⟨g, m * 2, none⟩ = some (.int .i64 (F m).1) ∧ W.cell? ⟨g, m * 2 + 1, none⟩ = some (.int .i64 (F m).2)) ∧ W.cell? ⟨g, h * 2, none⟩ = some (.int .i64 (F h).1) ∧ W.cell? ⟨g, h * 2 + 1, none⟩ = some (.int .i64 (F h).2)) := hide (fun W hW => ⟨(HRr.out.ext hW).cells m hmn, (HRr.out.ext hW).cells h (by omega)⟩)
      have i1 : (0 : Int) ≤ (h : Int) := by omega
      have i2 : (h : Int) < (n : Int) := by omega
      have i3 : (0 : Int) ≤ (m : Int) := by omega
      have i4 : (m : Int) < (n : Int) := by omega
      refine wp_region_J (fun W : World => (W.cell? ⟨g, m * 2, none⟩ = some (.int .i64 (F m).1) ∧ W.cell? ⟨g, m * 2 + 1, none⟩ = some (.int .i64 (F m).2)) ∧ W.cell? ⟨g, h * 2, none⟩ = some (.int .i64 (F h).1) ∧ W.cell? ⟨g, h * 2 + 1, none⟩ = some (.int .i64 (F h).2)) (by kernel_rfl) ?_
      generalize wr.drew = wd at Bd ⊢
      refine wpAnyJ_take 0 (v := ?_) (by first | exact hF | exact wideFn) (HSB.out _ Bd.out) rfl (by kernel_rfl) (by kernel_rfl) (by kernel_rfl) (by kernel_rfl) rfl ?_ (by first | exact fun _ _ _ h => h | exact fun _ _ _ h => hQ2 _ _ _ _ _ h) ?_
      rotate_left
      · intro W hSW
        simp only [List.getElem_toArray, List.getElem_cons_zero, List.getElem_cons_succ]
        (try dsimp only at hSW)
        go_simp
        with_reducible rfl
      (try simp only [List.getElem_toArray, List.getElem_cons_zero, List.getElem_cons_succ, Act.put, List.setIfInBounds_toArray, List.set_cons_zero, List.set_cons_succ])
      refine wpAnyJ_take 1 (v := ?_) (by first | exact hF | exact wideFn) (HSB.out _ Bd.out) rfl (by kernel_rfl) (by kernel_rfl) (by kernel_rfl) (by kernel_rfl) rfl ?_ (by first | exact fun _ _ _ h => h | exact fun _ _ _ h => hQ2 _ _ _ _ _ h) ?_
      rotate_left
      · intro W hSW
        simp only [List.getElem_toArray, List.getElem_cons_zero, List.getElem_cons_succ]
        (try dsimp only at hSW)
        go_simp
        with_reducible rfl
      (try simp only [List.getElem_toArray, List.getElem_cons_zero, List.getElem_cons_succ, Act.put, List.setIfInBounds_toArray, List.set_cons_zero, List.set_cons_succ])
      refine wpAnyJ_take 2 (v := ?_) (by first | exact hF | exact wideFn) (HSB.out _ Bd.out) rfl (by kernel_rfl) (by kernel_rfl) (by kernel_rfl) (by kernel_rfl) rfl ?_ (by first | exact fun _ _ _ h => h | exact fun _ _ _ h => hQ2 _ _ _ _ _ h) ?_
      rotate_left
      · intro W hSW
        simp only [List.getElem_toArray, List.getElem_cons_zero, List.getElem_cons_succ]
        (try dsimp only at hSW)
        go_simp
        with_reducible rfl
      (try simp only [List.getElem_toArray, List.getElem_cons_zero, List.getElem_cons_succ, Act.put, List.setIfInBounds_toArray, List.set_cons_zero, List.set_cons_succ])
      refine wpAnyJ_take 3 (v := ?_) (by first | exact hF | exact wideFn) (HSB.out _ Bd.out) rfl (by kernel_rfl) (by kernel_rfl) (by kernel_rfl) (by kernel_rfl) rfl ?_ (by first | exact fun _ _ _ h => h | exact fun _ _ _ h => hQ2 _ _ _ _ _ h) ?_
      rotate_left
      · intro W hSW
        simp only [List.getElem_toArray, List.getElem_cons_zero, List.getElem_cons_succ]
        (try dsimp only at hSW)
        go_simp
        with_reducible rfl
      (try simp only [List.getElem_toArray, List.getElem_cons_zero, List.getElem_cons_succ, Act.put, List.setIfInBounds_toArray, List.set_cons_zero, List.set_cons_succ])
      refine wpAnyJ_take 4 (v := ?_) (by first | exact hF | exact wideFn) (HSB.out _ Bd.out) rfl (by kernel_rfl) (by kernel_rfl) (by kernel_rfl) (by kernel_rfl) rfl ?_ (by first | exact fun _ _ _ h => h | exact fun _ _ _ h => hQ2 _ _ _ _ _ h) ?_
      rotate_left
      · intro W hSW
        simp only [List.getElem_toArray, List.getElem_cons_zero, List.getElem_cons_succ]
        (try dsimp only at hSW)
        go_simp
        with_reducible rfl
      (try simp only [List.getElem_toArray, List.getElem_cons_zero, List.getElem_cons_succ, Act.put, List.setIfInBounds_toArray, List.set_cons_zero, List.set_cons_succ])
      refine wpAnyJ_take 5 (v := ?_) (by first | exact hF | exact wideFn) (HSB.out _ Bd.out) rfl (by kernel_rfl) (by kernel_rfl) (by kernel_rfl) (by kernel_rfl) rfl ?_ (by first | exact fun _ _ _ h => h | exact fun _ _ _ h => hQ2 _ _ _ _ _ h) ?_
      rotate_left
      · intro W hSW
        simp only [List.getElem_toArray, List.getElem_cons_zero, List.getElem_cons_succ]
        (try dsimp only at hSW)
        go_simp
        with_reducible rfl
      (try simp only [List.getElem_toArray, List.getElem_cons_zero, List.getElem_cons_succ, Act.put, List.setIfInBounds_toArray, List.set_cons_zero, List.set_cons_succ])
      refine wpAnyJ_take 6 (v := ?_) (by first | exact hF | exact wideFn) (HSB.out _ Bd.out) rfl (by kernel_rfl) (by kernel_rfl) (by kernel_rfl) (by kernel_rfl) rfl ?_ (by first | exact fun _ _ _ h => h | exact fun _ _ _ h => hQ2 _ _ _ _ _ h) ?_
      rotate_left
      · intro W hSW
        simp only [List.getElem_toArray, List.getElem_cons_zero, List.getElem_cons_succ]
        (try dsimp only at hSW)
        go_simp
        with_reducible rfl
      (try simp only [List.getElem_toArray, List.getElem_cons_zero, List.getElem_cons_succ, Act.put, List.setIfInBounds_toArray, List.set_cons_zero, List.set_cons_succ])
      refine wpAnyJ_take 7 (v := ?_) (by first | exact hF | exact wideFn) (HSB.out _ Bd.out) rfl (by kernel_rfl) (by kernel_rfl) (by kernel_rfl) (by kernel_rfl) rfl ?_ (by first | exact fun _ _ _ h => h | exact fun _ _ _ h => hQ2 _ _ _ _ _ h) ?_
      rotate_left
      · intro W hSW
        simp only [List.getElem_toArray, List.getElem_cons_zero, List.getElem_cons_succ]
        (try dsimp only at hSW)
        go_simp
        with_reducible rfl
      (try simp only [List.getElem_toArray, List.getElem_cons_zero, List.getElem_cons_succ, Act.put, List.setIfInBounds_toArray, List.set_cons_zero, List.set_cons_succ])
      refine wpAnyJ_take 8 (v := ?_) (by first | exact hF | exact wideFn) (HSB.out _ Bd.out) rfl (by kernel_rfl) (by kernel_rfl) (by kernel_rfl) (by kernel_rfl) rfl ?_ (by first | exact fun _ _ _ h => h | exact fun _ _ _ h => hQ2 _ _ _ _ _ h) ?_
      rotate_left
      · intro W hSW
        simp only [List.getElem_toArray, List.getElem_cons_zero, List.getElem_cons_succ]
        (try dsimp only at hSW)
        go_simp
        with_reducible rfl
      (try simp only [List.getElem_toArray, List.getElem_cons_zero, List.getElem_cons_succ, Act.put, List.setIfInBounds_toArray, List.set_cons_zero, List.set_cons_succ])
      refine wpAnyJ_one 9 rfl (by kernel_rfl) (fun K hK => ?_)
      simp only [List.getElem_toArray, List.getElem_cons_zero, List.getElem_cons_succ]
      go_simp
      refine ⟨trivial, rfl, ?_⟩
      (with_reducible refine (callsIn_wide.2 (free1_any (F m) (F h) _)).mono ?_)
      rintro e w5 ⟨rfl, hb5⟩
      have HB5 := hide (Bd.out.trans (hb5.mono Bd.out.size)); clear hb5
      dsimp only
      refine hK.out _ _ (fun _ => HSB.out _ HB5.out) ?_
      clear hK K
      (try simp only [List.getElem_toArray, List.getElem_cons_zero, List.getElem_cons_succ, Act.put, List.setIfInBounds_toArray, List.set_cons_zero, List.set_cons_succ])
      refine wpAnyJ_take 10 (v := ?_) (by first | exact hF | exact wideFn) (HSB.out _ HB5.out) rfl (by kernel_rfl) (by kernel_rfl) (by kernel_rfl) (by kernel_rfl) rfl ?_ (by first | exact fun _ _ _ h => h | exact fun _ _ _ h => hQ2 _ _ _ _ _ h) ?_
      rotate_left
      · intro W hSW
        simp only [List.getElem_toArray, List.getElem_cons_zero, List.getElem_cons_succ]
        (try dsimp only at hSW)
        go_simp
        with_reducible rfl
      (try simp only [List.getElem_toArray, List.getElem_cons_zero, List.getElem_cons_succ, Act.put, List.setIfInBounds_toArray, List.set_cons_zero, List.set_cons_succ])
      refine wpAnyJ_take 11 (v := ?_) (by first | exact hF | exact wideFn) (HSB.out _ HB5.out) rfl (by kernel_rfl) (by kernel_rfl) (by kernel_rfl) (by kernel_rfl) rfl ?_ (by first | exact fun _ _ _ h => h | exact fun _ _ _ h => hQ2 _ _ _ _ _ h) ?_
      rotate_left
      · intro W hSW
        simp only [List.getElem_toArray, List.getElem_cons_zero, List.getElem_cons_succ]
        (try dsimp only at hSW)
        go_simp
        with_reducible rfl
      (try simp only [List.getElem_toArray, List.getElem_cons_zero, List.getElem_cons_succ, Act.put, List.setIfInBounds_toArray, List.set_cons_zero, List.set_cons_succ])
      refine wpAnyJ_done (by kernel_rfl) ?_
      have HBW := hide (HB.out.trans (HB5.out.mono HB.out.size))
      generalize hq : (!decide (wrap64 ((F h).1 - (F m).1) < 0)) = q
      have hq' : (!bkLess (F m) (F h)) = q := hq
      clear hq
      rcases q with _ | _
      · have HL : Hid (bkLess (F m) (F h) = true) := hide (by simpa using hq')
        clear hq'
        go_wp2_with fail
        go_roundw
        case rel => exact ⟨i, h, rfl, rfl, by omega, by omega, by omega, Q1, hide (fun _ => HL.out), HBW⟩
        case measure => simp [intOf]; omega
      · have HL : Hid (bkLess (F m) (F h) = false) := hide (by simpa using hq')
        clear hq'
        go_wp2_with fail
        go_roundw
        case rel => exact ⟨h + 1, j, by go_num, rfl, by omega, by omega, by omega, hide (fun _ => HL.out), Q2, HBW⟩
        case measure => simp [intOf]; omega
    · obtain rfl : i = j := by omega
      have HR1 := hide (HR0.out.ext HB.out)
      have HQ : Hid (MQ lt F (rotF F i m (m + 1)) a b) := hide (by have e := HM.out; subst e; exact HP.out.right1 O hmi hjb Q1.out Q2.out)
      go_wp2_with fail
      go_loopw [17] (fun x wq => ∃ k : Nat, x = .int .i64 k ∧ i ≤ k ∧ k ≤ m ∧ Hid (SBR wq g n (rotF F k m (m + 1))) ∧ Hid (w.grownBy wq (some g))) (fun x _ => (intOf x).toNat)
      case atStart => exact ⟨m, rfl, by omega, by omega, hide (by rw [rot_same]; exact HR1.out), hide (below_grown' HB.out _)⟩
      case round =>
        obtain ⟨k, rfl, hak, hki, HR, HG⟩ := hrel
        by_cases hlt2 : i < k
        · have hlt2' : (i : Int) < (k : Int) := by omega
          obtain ⟨A, hA⟩ : ∃ A : Nat, A = k := ⟨_, rfl⟩
          obtain ⟨B, hB⟩ : ∃ B : Nat, k = B + 1 := ⟨k - 1, by omega⟩
          have HST := hide (swp_back F (i := m) (j := B) (by omega))
          have ha : A < n := by omega
          have hb' : B < n := by omega
          have hAB : A ≠ B := by omega
          have i1 : (0 : Int) ≤ (A : Int) := by omega
          have i2 : (A : Int) < (n : Int) := by omega
          have i3 : (0 : Int) ≤ (B : Int) := by omega
          have i4 : (B : Int) < (n : Int) := by omega
          have w2 : IntKind.i64.wrap ((A : Int) - 1) = (B : Int) := by rw [IntWalk.i64_in _ (by omega)]; omega
          have HKB := hide (show A = B + 1 by omega)
          rw [← hB, ← hA] at HST
          rw [← hA] at HR hlt2' ⊢
          clear hB
          have HA := hide hA
          clear hA
          generalize rotF F A m (m + 1) = F' at HR HST
          go_upto_region 23 with fail
          have Bd := hide (Below.refl wr.heap.size wr).drew
          have HRd := hide (HR.out.ext Bd.out)
          have HGd := hide (HG.out.trans (below_grown' Bd.out _))
          have HS : Hid ((wr.drew.cell? ⟨g, A * 2, none⟩ = some (.int .i64 (F' A).1) ∧ wr.drew.cell? ⟨g, A * 2 + 1, none⟩ = some (.int .i64 (F' A).2)) ∧ wr.drew.cell? ⟨g, B * 2, none⟩ = some (.int .i64 (F' B).1) ∧ wr.drew.cell? ⟨g, B * 2 + 1, none⟩ = some (.int .i64 (F' B).2)) := hide ⟨(HRd.out.cells A ha), HRd.out.cells B hb'⟩
          refine wp_region_K (pickS [9, 13] (fun W => (W.cell? ⟨g, A * 2, none⟩ = some (.int .i64 (F' A).1) ∧ W.cell? ⟨g, A * 2 + 1, none⟩ = some (.int .i64 (F' A).2)) ∧ W.cell? ⟨g, B * 2, none⟩ = some (.int .i64 (F' B).1) ∧ W.cell? ⟨g, B * 2 + 1, none⟩ = some (.int .i64 (F' B).2)) (fun _ => True)) (by kernel_rfl) ?_
          generalize wr.drew = wd at HRd HGd HS ⊢
          refine wpAnyK_take 0 (v := ?_) (by first | exact hF | exact wideFn) trivial rfl (by kernel_rfl) (by kernel_rfl) (by kernel_rfl) (by kernel_rfl) rfl ?_ (by first | exact fun _ _ _ h => h | exact fun _ _ _ h => hQ2 _ _ _ _ _ h) ?_
          rotate_left
          · intro W hSW
            replace hSW : True := hSW
            simp only [List.getElem_toArray, List.getElem_cons_zero, List.getElem_cons_succ]
            (try dsimp only at hSW)
            go_simp
            with_reducible rfl
          (try simp only [List.getElem_toArray, List.getElem_cons_zero, List.getElem_cons_succ, Act.put, List.setIfInBounds_toArray, List.set_cons_zero, List.set_cons_succ])
          refine wpAnyK_take 1 (v := ?_) (by first | exact hF | exact wideFn) trivial rfl (by kernel_rfl) (by kernel_rfl) (by kernel_rfl) (by kernel_rfl) rfl ?_ (by first | exact fun _ _ _ h => h | exact fun _ _ _ h => hQ2 _ _ _ _ _ h) ?_
          rotate_left
          · intro W hSW
            replace hSW : True := hSW
            simp only [List.getElem_toArray, List.getElem_cons_zero, List.getElem_cons_succ]
            (try dsimp only at hSW)
            go_simp
            with_reducible rfl
          (try simp only [List.getElem_toArray, List.getElem_cons_zero, List.getElem_cons_succ, Act.put, List.setIfInBounds_toArray, List.set_cons_zero, List.set_cons_succ])
          refine wpAnyK_take 2 (v := ?_) (by first | exact hF | exact wideFn) trivial rfl (by kernel_rfl) (by kernel_rfl) (by kernel_rfl) (by kernel_rfl) rfl ?_ (by first | exact fun _ _ _ h => h | exact fun _ _ _ h => hQ2 _ _ _ _ _ h) ?_
          rotate_left
          · intro W hSW
            replace hSW : True := hSW
            simp only [List.getElem_toArray, List.getElem_cons_zero, List.getElem_cons_succ]
            (try dsimp only at hSW)
            go_simp
            with_reducible rfl
          (try simp only [List.getElem_toArray, List.getElem_cons_zero, List.getElem_cons_succ, Act.put, List.setIfInBounds_toArray, List.set_cons_zero, List.set_cons_succ])
          refine wpAnyK_take 3 (v := ?_) (by first | exact hF | exact wideFn) trivial rfl (by kernel_rfl) (by kernel_rfl) (by kernel_rfl) (by kernel_rfl) rfl ?_ (by first | exact fun _ _ _ h => h | exact fun _ _ _ h => hQ2 _ _ _ _ _ h) ?_
          rotate_left
          · intro W hSW
            replace hSW : True := hSW
            simp only [List.getElem_toArray, List.getElem_cons_zero, List.getElem_cons_succ]
            (try dsimp only at hSW)
            go_simp
            with_reducible rfl
          (try simp only [List.getElem_toArray, List.getElem_cons_zero, List.getElem_cons_succ, Act.put, List.setIfInBounds_toArray, List.set_cons_zero, List.set_cons_succ])
          refine wpAnyK_take 4 (v := ?_) (by first | exact hF | exact wideFn) trivial rfl (by kernel_rfl) (by kernel_rfl) (by kernel_rfl) (by kernel_rfl) rfl ?_ (by first | exact fun _ _ _ h => h | exact fun _ _ _ h => hQ2 _ _ _ _ _ h) ?_
          rotate_left
          · intro W hSW
            replace hSW : True := hSW
            simp only [List.getElem_toArray, List.getElem_cons_zero, List.getElem_cons_succ]
            (try dsimp only at hSW)
            go_simp
            with_reducible rfl
          (try simp only [List.getElem_toArray, List.getElem_cons_zero, List.getElem_cons_succ, Act.put, List.setIfInBounds_toArray, List.set_cons_zero, List.set_cons_succ])
          refine wpAnyK_take 5 (v := ?_) (by first | exact hF | exact wideFn) trivial rfl (by kernel_rfl) (by kernel_rfl) (by kernel_rfl) (by kernel_rfl) rfl ?_ (by first | exact fun _ _ _ h => h | exact fun _ _ _ h => hQ2 _ _ _ _ _ h) ?_
          rotate_left
          · intro W hSW
            replace hSW : True := hSW
            simp only [List.getElem_toArray, List.getElem_cons_zero, List.getElem_cons_succ]
            (try dsimp only at hSW)
            go_simp
            with_reducible rfl
          (try simp only [List.getElem_toArray, List.getElem_cons_zero, List.getElem_cons_succ, Act.put, List.setIfInBounds_toArray, List.set_cons_zero, List.set_cons_succ])
          refine wpAnyK_take 6 (v := ?_) (by first | exact hF | exact wideFn) trivial rfl (by kernel_rfl) (by kernel_rfl) (by kernel_rfl) (by kernel_rfl) rfl ?_ (by first | exact fun _ _ _ h => h | exact fun _ _ _ h => hQ2 _ _ _ _ _ h) ?_
          rotate_left
          · intro W hSW
            replace hSW : True := hSW
            simp only [List.getElem_toArray, List.getElem_cons_zero, List.getElem_cons_succ]
            (try dsimp only at hSW)
            go_simp
            with_reducible rfl
          (try simp only [List.getElem_toArray, List.getElem_cons_zero, List.getElem_cons_succ, Act.put, List.setIfInBounds_toArray, List.set_cons_zero, List.set_cons_succ])
          refine wpAnyK_take 7 (v := ?_) (by first | exact hF | exact wideFn) trivial rfl (by kernel_rfl) (by kernel_rfl) (by kernel_rfl) (by kernel_rfl) rfl ?_ (by first | exact fun _ _ _ h => h | exact fun _ _ _ h => hQ2 _ _ _ _ _ h) ?_
          rotate_left
          · intro W hSW
            replace hSW : True := hSW
            simp only [List.getElem_toArray, List.getElem_cons_zero, List.getElem_cons_succ]
            (try dsimp only at hSW)
            go_simp
            with_reducible rfl
          (try simp only [List.getElem_toArray, List.getElem_cons_zero, List.getElem_cons_succ, Act.put, List.setIfInBounds_toArray, List.set_cons_zero, List.set_cons_succ])
          refine wpAnyK_take 8 (v := ?_) (by first | exact hF | exact wideFn) trivial rfl (by kernel_rfl) (by kernel_rfl) (by kernel_rfl) (by kernel_rfl) rfl ?_ (by first | exact fun _ _ _ h => h | exact fun _ _ _ h => hQ2 _ _ _ _ _ h) ?_
          rotate_left
          · intro W hSW
            replace hSW : True := hSW
            simp only [List.getElem_toArray, List.getElem_cons_zero, List.getElem_cons_succ]
            (try dsimp only at hSW)
            go_simp
            with_reducible rfl
          (try simp only [List.getElem_toArray, List.getElem_cons_zero, List.getElem_cons_succ, Act.put, List.setIfInBounds_toArray, List.set_cons_zero, List.set_cons_succ])
          refine wpAnyK_take 9 (v := ?_) (by first | exact hF | exact wideFn) (And.intro HS.out trivial) rfl (by kernel_rfl) (by kernel_rfl) (by kernel_rfl) (by kernel_rfl) rfl ?_ (by first | exact fun _ _ _ h => h | exact fun _ _ _ h => hQ2 _ _ _ _ _ h) ?_
          rotate_left
          · intro W hSW
            replace hSW : (((W.cell? ⟨g, A * 2, none⟩ = some (.int .i64 (F' A).1) ∧ W.cell? ⟨g, A * 2 + 1, none⟩ = some (.int .i64 (F' A).2)) ∧ W.cell? ⟨g, B * 2, none⟩ = some (.int .i64 (F' B).1) ∧ W.cell? ⟨g, B * 2 + 1, none⟩ = some (.int .i64 (F' B).2)) ∧ True) := hSW
            simp only [List.getElem_toArray, List.getElem_cons_zero, List.getElem_cons_succ]
            (try dsimp only at hSW)
            go_simp
            with_reducible rfl
          (try simp only [List.getElem_toArray, List.getElem_cons_zero, List.getElem_cons_succ, Act.put, List.setIfInBounds_toArray, List.set_cons_zero, List.set_cons_succ])
          refine wpAnyK_take 10 (v := ?_) (by first | exact hF | exact wideFn) trivial rfl (by kernel_rfl) (by kernel_rfl) (by kernel_rfl) (by kernel_rfl) rfl ?_ (by first | exact fun _ _ _ h => h | exact fun _ _ _ h => hQ2 _ _ _ _ _ h) ?_
          rotate_left
          · intro W hSW
            replace hSW : True := hSW
            simp only [List.getElem_toArray, List.getElem_cons_zero, List.getElem_cons_succ]
            (try dsimp only at hSW)
            go_simp
            with_reducible rfl
          (try simp only [List.getElem_toArray, List.getElem_cons_zero, List.getElem_cons_succ, Act.put, List.setIfInBounds_toArray, List.set_cons_zero, List.set_cons_succ])
          refine wpAnyK_take 11 (v := ?_) (by first | exact hF | exact wideFn) trivial rfl (by kernel_rfl) (by kernel_rfl) (by kernel_rfl) (by kernel_rfl) rfl ?_ (by first | exact fun _ _ _ h => h | exact fun _ _ _ h => hQ2 _ _ _ _ _ h) ?_
          rotate_left
          · intro W hSW
            replace hSW : True := hSW
            simp only [List.getElem_toArray, List.getElem_cons_zero, List.getElem_cons_succ]
            (try dsimp only at hSW)
            go_simp
            with_reducible rfl
          (try simp only [List.getElem_toArray, List.getElem_cons_zero, List.getElem_cons_succ, Act.put, List.setIfInBounds_toArray, List.set_cons_zero, List.set_cons_succ])
          refine wpAnyK_take 12 (v := ?_) (by first | exact hF | exact wideFn) trivial rfl (by kernel_rfl) (by kernel_rfl) (by kernel_rfl) (by kernel_rfl) rfl ?_ (by first | exact fun _ _ _ h => h | exact fun _ _ _ h => hQ2 _ _ _ _ _ h) ?_
          rotate_left
          · intro W hSW
            replace hSW : True := hSW
            simp only [List.getElem_toArray, List.getElem_cons_zero, List.getElem_cons_succ]
            (try dsimp only at hSW)
            go_simp
            with_reducible rfl
          (try simp only [List.getElem_toArray, List.getElem_cons_zero, List.getElem_cons_succ, Act.put, List.setIfInBounds_toArray, List.set_cons_zero, List.set_cons_succ])
          refine wpAnyK_take 13 (v := ?_) (by first | exact hF | exact wideFn) (And.intro HS.out trivial) rfl (by kernel_rfl) (by kernel_rfl) (by kernel_rfl) (by kernel_rfl) rfl ?_ (by first | exact fun _ _ _ h => h | exact fun _ _ _ h => hQ2 _ _ _ _ _ h) ?_
          rotate_left
          · intro W hSW
            replace hSW : (((W.cell? ⟨g, A * 2, none⟩ = some (.int .i64 (F' A).1) ∧ W.cell? ⟨g, A * 2 + 1, none⟩ = some (.int .i64 (F' A).2)) ∧ W.cell? ⟨g, B * 2, none⟩ = some (.int .i64 (F' B).1) ∧ W.cell? ⟨g, B * 2 + 1, none⟩ = some (.int .i64 (F' B).2)) ∧ True) := hSW
            simp only [List.getElem_toArray, List.getElem_cons_zero, List.getElem_cons_succ]
            (try dsimp only at hSW)
            go_simp
            with_reducible rfl
          (try simp only [List.getElem_toArray, List.getElem_cons_zero, List.getElem_cons_succ, Act.put, List.setIfInBounds_toArray, List.set_cons_zero, List.set_cons_succ])
          refine wpAnyK_take 14 (v := ?_) (by first | exact hF | exact wideFn) trivial rfl (by kernel_rfl) (by kernel_rfl) (by kernel_rfl) (by kernel_rfl) rfl ?_ (by first | exact fun _ _ _ h => h | exact fun _ _ _ h => hQ2 _ _ _ _ _ h) ?_
          rotate_left
          · intro W hSW
            replace hSW : True := hSW
            simp only [List.getElem_toArray, List.getElem_cons_zero, List.getElem_cons_succ]
            (try dsimp only at hSW)
            go_simp
            with_reducible rfl
          (try simp only [List.getElem_toArray, List.getElem_cons_zero, List.getElem_cons_succ, Act.put, List.setIfInBounds_toArray, List.set_cons_zero, List.set_cons_succ])
          obtain ⟨p0, p1, p2, p3, p4⟩ := HRd.out.at_ ha
          have HR1 := hide (HRd.out.put ha (F' B))
          have HG1 := hide (SBR.grow HGd.out A (F' B))
          refine wpAnyK_one 15 rfl (by kernel_rfl) (fun K hK => ?_)
          simp only [List.getElem_toArray, List.getElem_cons_zero, List.getElem_cons_succ]
          go_simp
          refine hK.out _ _ (.inr (pickS_need (by kernel_rfl) trivial)) ?_
          clear hK K
          (try simp only [List.getElem_toArray, List.getElem_cons_zero, List.getElem_cons_succ, Act.put, List.setIfInBounds_toArray, List.set_cons_zero, List.set_cons_succ])
          clear p0 p1 p2 p3 p4
          generalize ((wd.setCell ⟨g, A * 2, none⟩ (.int .i64 (F' B).1)).setCell ⟨g, A * 2 + 1, none⟩ (.int .i64 (F' B).2)) = w1 at HR1 HG1 ⊢
          have HR2 := hide (HR1.out.put hb' (F' A))
          have HG2 := hide (SBR.grow HG1.out B (F' A))
          rw [swp_upd, HST.out] at HR2
          obtain ⟨p0, p1, p2, p3, p4⟩ := HR1.out.at_ hb'
          refine wpAnyK_take 16 (v := ?_) (by first | exact hF | exact wideFn) trivial rfl (by kernel_rfl) (by kernel_rfl) (by kernel_rfl) (by kernel_rfl) rfl ?_ (by first | exact fun _ _ _ h => h | exact fun _ _ _ h => hQ2 _ _ _ _ _ h) ?_
          rotate_left
          · intro W hSW
            replace hSW : True := hSW
            simp only [List.getElem_toArray, List.getElem_cons_zero, List.getElem_cons_succ]
            (try dsimp only at hSW)
            go_simp
            with_reducible rfl
          (try simp only [List.getElem_toArray, List.getElem_cons_zero, List.getElem_cons_succ, Act.put, List.setIfInBounds_toArray, List.set_cons_zero, List.set_cons_succ])
          refine wpAnyK_one 17 rfl (by kernel_rfl) (fun K hK => ?_)
          simp only [List.getElem_toArray, List.getElem_cons_zero, List.getElem_cons_succ]
          go_simp
          refine hK.out _ _ (.inr (pickS_no (by kernel_rfl))) ?_
          clear hK K
          (try simp only [List.getElem_toArray, List.getElem_cons_zero, List.getElem_cons_succ, Act.put, List.setIfInBounds_toArray, List.set_cons_zero, List.set_cons_succ])
          refine wpAnyK_done (by kernel_rfl) ?_
          clear p0 p1 p2 p3 p4
          generalize ((w1.setCell ⟨g, B * 2, none⟩ (.int .i64 (F' A).1)).setCell ⟨g, B * 2 + 1, none⟩ (.int .i64 (F' A).2)) = w2 at HR2 HG2 ⊢
          go_wp2_with fail
          go_roundw
          case rel => exact ⟨B, rfl, by have := HKB.out; have := HA.out; omega, by have := HKB.out; have := HA.out; omega, HR2, HG2⟩
          case measure => have := HKB.out; have := HA.out; simp [intOf]; omega
        · obtain rfl : i = k := by omega
          go_wp2_with fail
          (try simp only [Exit.inBlock, Exit.then])
          refine bodyPost_ret (results_none rfl _ _ _) rfl ?_
          exact ⟨rfl, _, HR.out, HQ.out, HG.out⟩
end Go.Proofs.Ytlhekifmkkgjlaa
/- Stable sorting, walked: two segments merged. -/
namespace Go.Proofs.Ytlhekifmkkgjlaa
open Go Go.RowKit Go.Shelf
set_option maxHeartbeats 4000000
set_option maxRecDepth 100000
theorem bool_yes {P : Prop} (h : P) : (true = true ↔ P) := ⟨fun _ => h, fun _ => rfl⟩
theorem bool_no {P : Prop} (h : ¬ P) : (false = true ↔ P) := ⟨(fun h' => by cases h'), fun q => absurd q h⟩
theorem symMerge_any {lt : Int × Int → Int × Int → Prop} (O : Ord2 bkLess lt) (g n cap : Nat) (hn : n ≤ 1000000) : ∀ (N a m b : Nat) (F : Nat → Int × Int) (w : World), b - a ≤ N → SBR w g n F → a < m → m < b → b ≤ n → MP bkLess lt F a m b →
    Calls Try.prog 119 #[.slice (some ⟨g, 0, none⟩) n cap, .int .i64 a, .int .i64 m, .int .i64 b, .func (.func 96) #[] #[]] w fun e w' => e = .returned (.tuple #[]) ∧ ∃ f', SBR w' g n f' ∧ MQ lt F f' a b ∧ w.grownBy w' (some g) := by
  intro N
  induction N with
  | zero => intro a m b F w h1 _ h2 h3; omega
  | succ N ih =>
    intro a m b F w hN hr ham hmb hb hp
    by_cases h1 : m = a + 1
    · exact symMerge_left O g n cap a m b F w hr h1 hmb hb hn hp
    by_cases h2 : b = m + 1
    · exact symMerge_right O g n cap a m b F w hr (by omega) h2 hb hn hp
    have HR0 := hide hr
    have HP := hide hp
    have IH := hide ih
    have eg := (enters_of Try.func96 (by kernel_rfl) rfl)
    clear hr hp ih
    have e1 : IntKind.i64.wrap ((m : Int) - (a : Int)) = ((m - a : Nat) : Int) := by rw [IntWalk.i64_in _ (by omega)]; omega
    have e2 : (((m - a : Nat) : Int) == 1) = false := by simp only [beq_eq_false_iff_ne, ne_eq]; omega
    have e3 : IntKind.i64.wrap ((b : Int) - (m : Int)) = ((b - m : Nat) : Int) := by rw [IntWalk.i64_in _ (by omega)]; omega
    have e4 : (((b - m : Nat) : Int) == 1) = false := by simp only [beq_eq_false_iff_ne, ne_eq]; omega
    clear h1 h2
    go_enter Try.func119, Try.ntmps119
    generalize hda : m - a = da at e1 e2
    generalize hdb : b - m = db at e3 e4
    clear hda hdb
    go_upto_region 25 with fail
    clear e1 e2 e3 e4
    obtain ⟨mid, hmid⟩ : ∃ mid : Nat, mid = (a + b) / 2 := ⟨_, rfl⟩
    have e1 : ((a : Int) + b) / 2 = (mid : Int) := by omega
    simp only [e1]
    clear e1
    obtain ⟨S, hS⟩ : ∃ S : Nat, S = mid + m := ⟨_, rfl⟩
    have m1 : a < mid := by omega
    have m2 : mid < b := by omega
    have m3 : 2 * mid ≤ a + b := by omega
    have m4 : a + b ≤ 2 * mid + 1 := by omega
    have w1 : IntKind.i64.wrap ((mid : Int) + (m : Int)) = (S : Int) := by rw [IntWalk.i64_in _ (by omega)]; omega
    have HSS := hide hS
    have hS1 : S < 2000001 := by omega
    clear hmid hS
    go_upto_if 140 with fail
    go_cut [20, 21] (fun p20 p21 wx => ∃ s0 r0 : Nat, p20 = .int .i64 s0 ∧ p21 = .int .i64 r0 ∧ w = wx ∧ r0 ≤ m ∧ r0 ≤ mid ∧ (r0 = m ∨ r0 = mid) ∧ a ≤ s0 ∧ S ≤ s0 + b ∧ (s0 = a ∨ s0 + b = S) ∧ s0 ≤ r0)
    case first => as_aux_lemma =>
      by_cases hmm : mid < m
      · have hS := HSS.out
        have w2 : IntKind.i64.wrap ((S : Int) - (b : Int)) = ((S - b : Nat) : Int) := by rw [IntWalk.i64_in _ (by omega)]; omega
        have hmm' : (mid : Int) < (m : Int) := by omega
        clear hS
        go_wp2_with fail
        go_meet
        have hS := HSS.out
        exact ⟨S - b, mid, rfl, rfl, by trivial, by omega, by omega, by omega, by omega, by omega, by omega, by omega⟩
      · have hmm' : ¬ (mid : Int) < (m : Int) := by omega
        go_wp2_with fail
        go_meet
        have hS := HSS.out
        exact ⟨a, m, rfl, rfl, by trivial, by omega, by omega, by omega, by omega, by omega, by omega, by omega⟩
    case rest => as_aux_lemma =>
      obtain ⟨s0, r0, rfl, rfl, rfl, h1, h2, h3, h4, h5, h6, h7⟩ := hcut
      have hS := HSS.out
      obtain ⟨P, hP⟩ : ∃ P : Nat, P + 1 = S := ⟨S - 1, by omega⟩
      have w2 : IntKind.i64.wrap ((S : Int) - 1) = (P : Int) := by rw [IntWalk.i64_in _ (by omega)]; omega
      have HPP := hide hP
      clear hS hP
      go_wp2_with fail
      go_loopw [20, 21] (fun x y wr => ∃ s r : Nat, x = .int .i64 s ∧ y = .int .i64 r ∧ s0 ≤ s ∧ s ≤ r ∧ r ≤ r0 ∧ Hid (s0 < s → bkLess (F (S - s)) (F (s - 1)) = false) ∧ Hid (r < r0 → bkLess (F (P - r)) (F r) = true) ∧ Hid (Below w.heap.size w wr)) (fun x y _ => (intOf y).toNat - (intOf x).toNat)
      case atStart => exact ⟨s0, r0, rfl, rfl, by omega, by omega, by omega, hide (fun h => absurd h (by omega)), hide (fun h => absurd h (by omega)), hide (Below.refl _ _)⟩
      case round =>
        obtain ⟨s, r, rfl, rfl, hss, hsr, hrr, Q1, Q2, HB⟩ := hrel
        by_cases hlt : s < r
        · -- BEGIN1
          go_upto_region 35 with fail
          obtain ⟨h, hh⟩ : ∃ h : Nat, h = (s + r) / 2 := ⟨_, rfl⟩
          have e1 : ((s : Int) + r) / 2 = (h : Int) := by omega
          have l1 : s ≤ h := by omega
          have l2 : h < r := by omega
          clear hh
          simp only [e1]
          clear e1
          have hS := HSS.out
          have hP := HPP.out
          obtain ⟨D, hD⟩ : ∃ D : Nat, D = P - h := ⟨_, rfl⟩
          have w3 : IntKind.i64.wrap ((P : Int) - (h : Int)) = (D : Int) := by rw [IntWalk.i64_in _ (by omega)]; omega
          have Bd := hide (Below.refl wr.heap.size wr).drew
          have HRr := hide (HR0.out.ext HB.out)
          have HSB : Hid (∀ W, Below wr.heap.size wr W → (W.cell? ⟨g, D * 2, none⟩ = some (.int .i64 (F D).1) ∧ W.cell? ⟨g, D * 2 + 1, none⟩ = some (.int .i64 (F D).2)) ∧ W.cell? ⟨g, h * 2, none⟩ = some (.int .i64 (F h).1) ∧ W.cell? ⟨g, h * 2 + 1, none⟩ = some (.int .i64 (F h).2)) := hide (fun W hW => ⟨(HRr.out.ext hW).cells D (by omega), (HRr.out.ext hW).cells h (by omega)⟩)
          have i1 : (0 : Int) ≤ (h : Int) := by omega
          have i2 : (h : Int) < (n : Int) := by omega
          have i3 : (0 : Int) ≤ (D : Int) := by omega
          have i4 : (D : Int) < (n : Int) := by omega
          have HD := hide hD
          clear hD hS hP
          refine wp_region_J (fun W : World => (W.cell? ⟨g, D * 2, none⟩ = some (.int .i64 (F D).1) ∧ W.cell? ⟨g, D * 2 + 1, none⟩ = some (.int .i64 (F D).2)) ∧ W.cell? ⟨g, h * 2, none⟩ = some (.int .i64 (F h).1) ∧ W.cell? ⟨g, h * 2 + 1, none⟩ = some (.int .i64 (F h).2)) (by kernel_rfl) ?_
          generalize wr.drew = wd at Bd ⊢
          refine wpAnyJ_take 0 (v := ?_) (by first | exact hF | exact wideFn) (HSB.out _ Bd.out) rfl (by kernel_rfl) (by kernel_rfl) (by kernel_rfl) (by kernel_rfl) rfl ?_ (by first | exact fun _ _ _ h => h | exact fun _ _ _ h => hQ2 _ _ _ _ _ h) ?_
          rotate_left
          · intro W hSW
            simp only [List.getElem_toArray, List.getElem_cons_zero, List.getElem_cons_succ]
            (try dsimp only at hSW)
            go_simp
            with_reducible rfl
          (try simp only [List.getElem_toArray, List.getElem_cons_zero, List.getElem_cons_succ, Act.put, List.setIfInBounds_toArray, List.set_cons_zero, List.set_cons_succ])
          refine wpAnyJ_take 1 (v := ?_) (by first | exact hF | exact wideFn) (HSB.out _ Bd.out) rfl (by kernel_rfl) (by kernel_rfl) (by kernel_rfl) (by kernel_rfl) rfl ?_ (by first | exact fun _ _ _ h => h | exact fun _ _ _ h => hQ2 _ _ _ _ _ h) ?_
          rotate_left
          · intro W hSW
            simp only [List.getElem_toArray, List.getElem_cons_zero, List.getElem_cons_succ]
            (try dsimp only at hSW)
            go_simp
            with_reducible rfl
          (try simp only [List.getElem_toArray, List.getElem_cons_zero, List.getElem_cons_succ, Act.put, List.setIfInBounds_toArray, List.set_cons_zero, List.set_cons_succ])
          refine wpAnyJ_take 2 (v := ?_) (by first | exact hF | exact wideFn) (HSB.out _ Bd.out) rfl (by kernel_rfl) (by kernel_rfl) (by kernel_rfl) (by kernel_rfl) rfl ?_ (by first | exact fun _ _ _ h => h | exact fun _ _ _ h => hQ2 _ _ _ _ _ h) ?_
          rotate_left
          · intro W hSW
            simp only [List.getElem_toArray, List.getElem_cons_zero, List.getElem_cons_succ]
            (try dsimp only at hSW)
            go_simp
            with_reducible rfl
          (try simp only [List.getElem_toArray, List.getElem_cons_zero, List.getElem_cons_succ, Act.put, List.setIfInBounds_toArray, List.set_cons_zero, List.set_cons_succ])
          refine wpAnyJ_take 3 (v := ?_) (by first | exact hF | exact wideFn) (HSB.out _ Bd.out) rfl (by kernel_rfl) (by kernel_rfl) (by kernel_rfl) (by kernel_rfl) rfl ?_ (by first | exact fun _ _ _ h => h | exact fun _ _ _ h => hQ2 _ _ _ _ _ h) ?_
          rotate_left
          · intro W hSW
            simp only [List.getElem_toArray, List.getElem_cons_zero, List.getElem_cons_succ]
            (try dsimp only at hSW)
            go_simp
            with_reducible rfl
          (try simp only [List.getElem_toArray, List.getElem_cons_zero, List.getElem_cons_succ, Act.put, List.setIfInBounds_toArray, List.set_cons_zero, List.set_cons_succ])
          refine wpAnyJ_take 4 (v := ?_) (by first | exact hF | exact wideFn) (HSB.out _ Bd.out) rfl (by kernel_rfl) (by kernel_rfl) (by kernel_rfl) (by kernel_rfl) rfl ?_ (by first | exact fun _ _ _ h => h | exact fun _ _ _ h => hQ2 _ _ _ _ _ h) ?_
          rotate_left
          · intro W hSW
            simp only [List.getElem_toArray, List.getElem_cons_zero, List.getElem_cons_succ]
            (try dsimp only at hSW)
            go_simp
            with_reducible rfl
          (try simp only [List.getElem_toArray, List.getElem_cons_zero, List.getElem_cons_succ, Act.put, List.setIfInBounds_toArray, List.set_cons_zero, List.set_cons_succ])
          refine wpAnyJ_take 5 (v := ?_) (by first | exact hF | exact wideFn) (HSB.out _ Bd.out) rfl (by kernel_rfl) (by kernel_rfl) (by kernel_rfl) (by kernel_rfl) rfl ?_ (by first | exact fun _ _ _ h => h | exact fun _ _ _ h => hQ2 _ _ _ _ _ h) ?_
          rotate_left
          · intro W hSW
            simp only [List.getElem_toArray, List.getElem_cons_zero, List.getElem_cons_succ]
            (try dsimp only at hSW)
            go_simp
            with_reducible rfl
          (try simp only [List.getElem_toArray, List.getElem_cons_zero, List.getElem_cons_succ, Act.put, List.setIfInBounds_toArray, List.set_cons_zero, List.set_cons_succ])
          refine wpAnyJ_take 6 (v := ?_) (by first | exact hF | exact wideFn) (HSB.out _ Bd.out) rfl (by kernel_rfl) (by kernel_rfl) (by kernel_rfl) (by kernel_rfl) rfl ?_ (by first | exact fun _ _ _ h => h | exact fun _ _ _ h => hQ2 _ _ _ _ _ h) ?_
          rotate_left
          · intro W hSW
            simp only [List.getElem_toArray, List.getElem_cons_zero, List.getElem_cons_succ]
            (try dsimp only at hSW)
            go_simp
            with_reducible rfl
          (try simp only [List.getElem_toArray, List.getElem_cons_zero, List.getElem_cons_succ, Act.put, List.setIfInBounds_toArray, List.set_cons_zero, List.set_cons_succ])
          refine wpAnyJ_take 7 (v := ?_) (by first | exact hF | exact wideFn) (HSB.out _ Bd.out) rfl (by kernel_rfl) (by kernel_rfl) (by kernel_rfl) (by kernel_rfl) rfl ?_ (by first | exact fun _ _ _ h => h | exact fun _ _ _ h => hQ2 _ _ _ _ _ h) ?_
          rotate_left
          · intro W hSW
            simp only [List.getElem_toArray, List.getElem_cons_zero, List.getElem_cons_succ]
            (try dsimp only at hSW)
            go_simp
            with_reducible rfl
          (try simp only [List.getElem_toArray, List.getElem_cons_zero, List.getElem_cons_succ, Act.put, List.setIfInBounds_toArray, List.set_cons_zero, List.set_cons_succ])
          refine wpAnyJ_take 8 (v := ?_) (by first | exact hF | exact wideFn) (HSB.out _ Bd.out) rfl (by kernel_rfl) (by kernel_rfl) (by kernel_rfl) (by kernel_rfl) rfl ?_ (by first | exact fun _ _ _ h => h | exact fun _ _ _ h => hQ2 _ _ _ _ _ h) ?_
          rotate_left
          · intro W hSW
            simp only [List.getElem_toArray, List.getElem_cons_zero, List.getElem_cons_succ]
            (try dsimp only at hSW)
            go_simp
            with_reducible rfl
          (try simp only [List.getElem_toArray, List.getElem_cons_zero, List.getElem_cons_succ, Act.put, List.setIfInBounds_toArray, List.set_cons_zero, List.set_cons_succ])
          refine wpAnyJ_take 9 (v := ?_) (by first | exact hF | exact wideFn) (HSB.out _ Bd.out) rfl (by kernel_rfl) (by kernel_rfl) (by kernel_rfl) (by kernel_rfl) rfl ?_ (by first | exact fun _ _ _ h => h | exact fun _ _ _ h => hQ2 _ _ _ _ _ h) ?_
          rotate_left
          · intro W hSW
            simp only [List.getElem_toArray, List.getElem_cons_zero, List.getElem_cons_succ]
            (try dsimp only at hSW)
            go_simp
            with_reducible rfl
          (try simp only [List.getElem_toArray, List.getElem_cons_zero, List.getElem_cons_succ, Act.put, List.setIfInBounds_toArray, List.set_cons_zero, List.set_cons_succ])
          refine wpAnyJ_take 10 (v := ?_) (by first | exact hF | exact wideFn) (HSB.out _ Bd.out) rfl (by kernel_rfl) (by kernel_rfl) (by kernel_rfl) (by kernel_rfl) rfl ?_ (by first | exact fun _ _ _ h => h | exact fun _ _ _ h => hQ2 _ _ _ _ _ h) ?_
          rotate_left
          · intro W hSW
            simp only [List.getElem_toArray, List.getElem_cons_zero, List.getElem_cons_succ]
            (try dsimp only at hSW)
            go_simp
            with_reducible rfl
          (try simp only [List.getElem_toArray, List.getElem_cons_zero, List.getElem_cons_succ, Act.put, List.setIfInBounds_toArray, List.set_cons_zero, List.set_cons_succ])
          refine wpAnyJ_one 11 rfl (by kernel_rfl) (fun K hK => ?_)
          simp only [List.getElem_toArray, List.getElem_cons_zero, List.getElem_cons_succ]
          go_simp
          refine ⟨trivial, rfl, ?_⟩
          (with_reducible refine (callsIn_wide.2 (free1_any (F D) (F h) _)).mono ?_)
          rintro e w5 ⟨rfl, hb5⟩
          have HB5 := hide (Bd.out.trans (hb5.mono Bd.out.size)); clear hb5
          dsimp only
          refine hK.out _ _ (fun _ => HSB.out _ HB5.out) ?_
          clear hK K
          (try simp only [List.getElem_toArray, List.getElem_cons_zero, List.getElem_cons_succ, Act.put, List.setIfInBounds_toArray, List.set_cons_zero, List.set_cons_succ])
          refine wpAnyJ_take 12 (v := ?_) (by first | exact hF | exact wideFn) (HSB.out _ HB5.out) rfl (by kernel_rfl) (by kernel_rfl) (by kernel_rfl) (by kernel_rfl) rfl ?_ (by first | exact fun _ _ _ h => h | exact fun _ _ _ h => hQ2 _ _ _ _ _ h) ?_
          rotate_left
          · intro W hSW
            simp only [List.getElem_toArray, List.getElem_cons_zero, List.getElem_cons_succ]
            (try dsimp only at hSW)
            go_simp
            with_reducible rfl
          (try simp only [List.getElem_toArray, List.getElem_cons_zero, List.getElem_cons_succ, Act.put, List.setIfInBounds_toArray, List.set_cons_zero, List.set_cons_succ])
          refine wpAnyJ_take 13 (v := ?_) (by first | exact hF | exact wideFn) (HSB.out _ HB5.out) rfl (by kernel_rfl) (by kernel_rfl) (by kernel_rfl) (by kernel_rfl) rfl ?_ (by first | exact fun _ _ _ h => h | exact fun _ _ _ h => hQ2 _ _ _ _ _ h) ?_
          rotate_left
          · intro W hSW
            simp only [List.getElem_toArray, List.getElem_cons_zero, List.getElem_cons_succ]
            (try dsimp only at hSW)
            go_simp
            with_reducible rfl
          (try simp only [List.getElem_toArray, List.getElem_cons_zero, List.getElem_cons_succ, Act.put, List.setIfInBounds_toArray, List.set_cons_zero, List.set_cons_succ])
          refine wpAnyJ_done (by kernel_rfl) ?_
          have HBW := hide (HB.out.trans (HB5.out.mono HB.out.size))
          generalize hq : (!decide (wrap64 ((F h).1 - (F D).1) < 0)) = q
          have hq' : (!bkLess (F D) (F h)) = q := hq
          clear hq
          rcases q with _ | _
          · have HL : Hid (bkLess (F D) (F h) = true) := hide (by simpa using hq')
            clear hq'
            go_wp2_with fail
            go_roundw
            case rel => exact ⟨s, h, rfl, rfl, by omega, by omega, by omega, Q1, hide (fun _ => by rw [← HD.out]; exact HL.out), HBW⟩
            case measure => simp [intOf]; omega
          · have HL : Hid (bkLess (F D) (F h) = false) := hide (by simpa using hq')
            clear hq'
            go_wp2_with fail
            go_roundw
            case rel => exact ⟨h + 1, r, by go_num, rfl, by omega, by omega, by omega, hide (fun _ => by rw [show S - (h + 1) = D by have := HD.out; have := HPP.out; omega]; exact HL.out), Q2, HBW⟩
            case measure => simp [intOf]; omega
          -- END1
        · obtain rfl : s = r := by omega
          have HR1 := hide (HR0.out.ext HB.out)
          have hS := HSS.out
          have hP := HPP.out
          obtain ⟨E, hE⟩ : ∃ E : Nat, E = S - s := ⟨_, rfl⟩
          have w3 : IntKind.i64.wrap ((S : Int) - (s : Int)) = (E : Int) := by rw [IntWalk.i64_in _ (by omega)]; omega
          have j1 : a ≤ s := by omega
          have j2 : s ≤ m := by omega
          have j3 : m ≤ E := by omega
          have j4 : E ≤ b := by omega
          have j5 : mid = s + (E - m) := by omega
          have j6 : s ≤ mid := by omega
          have j7 : mid ≤ E := by omega
          have HSPL := hide (HP.out.split O (s := s) (e := E) (mid := mid) j1 j2 j3 j4 j5 (fun x y => by rw [show E - 1 = P - s by omega]; exact Q2.out (by omega)) (fun x y => by rw [hE]; exact Q1.out (by omega)))
          have HKE := hide (rot_keeps F j1 j2 j3 j4)
          have HGB := hide (below_grown' HB.out (some g))
          clear hS hP hE j5 Q1 Q2 h1 h2 h3 h4 h5 h6 h7 HSS HPP
          go_upto_region 39 with fail
          go_cut [185] (fun p wx => ∃ β, p = .bool β ∧ Hid (β = true ↔ (s < m ∧ m < E)) ∧ Hid (SBR wx g n F) ∧ Hid (w.grownBy wx (some g)))
          case first => as_aux_lemma =>
            by_cases hc1 : s < m
            · by_cases hc2 : m < E
              · have c1 : (s : Int) < (m : Int) := by omega
                have c2 : (m : Int) < (E : Int) := by omega
                have HQ := hide (And.intro hc1 hc2)
                clear hc1 hc2
                go_wp2_with fail
                go_meet
                exact ⟨true, rfl, hide (bool_yes HQ.out), HR1, HGB⟩
              · have c1 : (s : Int) < (m : Int) := by omega
                have c2 : ¬ (m : Int) < (E : Int) := by omega
                have HQ := hide hc2
                clear hc1 hc2
                go_wp2_with fail
                go_meet
                exact ⟨false, rfl, hide (bool_no (fun h => HQ.out h.2)), HR1, HGB⟩
            · have c1 : ¬ (s : Int) < (m : Int) := by omega
              have HQ := hide hc1
              clear hc1
              go_wp2_with fail
              go_meet
              exact ⟨false, rfl, hide (bool_no (fun h => HQ.out h.1)), HR1, HGB⟩
          case rest => as_aux_lemma =>
            obtain ⟨β, rfl, HQ, HR1, HGB⟩ := hcut
            obtain ⟨wo, hwo⟩ : ∃ wo, wo = wc := ⟨_, rfl⟩
            subst hwo
            go_upto_if 185 with fail
            go_cut [24] (fun p24 wx => p24 = .int .i64 E ∧ Hid (SBR wx g n (rotF F s m E)) ∧ Hid (w.grownBy wx (some g)))
            case first => as_aux_lemma =>
              -- BEGIN2
              rcases β with _ | _
              · have hF : rotF F s m E = F := by
                  rcases (by have := HQ.out; simp at this; omega : s = m ∨ m = E) with q | q
                  · rw [q]; exact rot_same F m E
                  · rw [q]; exact rot_same' F s E
                have HF := hide hF
                clear hF
                go_wp2_with fail
                go_meet
                exact ⟨rfl, by rw [HF.out]; exact HR1, HGB⟩
              · have hc := HQ.out.1 rfl
                have HRO := hide (rotate_any g n cap s m E F (.func (.func 96) #[] #[]) wo HR1.out hc.1 hc.2 (by omega) (by unfold maxLen; omega))
                clear hc
                go_wp2_with fail
                refine HRO.out.mono ?_
                rintro e w5 ⟨rfl, h5, h6⟩
                go_wp2_with fail
                go_meet
                exact ⟨rfl, h5, HGB.out.trans h6⟩
              -- END2
            case rest => as_aux_lemma =>
              obtain ⟨rfl, HG1, HGG⟩ := hcut
              clear HR1 HGB HQ
              obtain ⟨w2, hw2⟩ : ∃ w2, w2 = wc := ⟨_, rfl⟩
              subst hw2
              generalize rotF F s m E = G at HG1 HSPL HKE
              go_upto_region 41 with fail
              go_cut [199] (fun p wx => ∃ β, p = .bool β ∧ Hid (β = true ↔ (a < s ∧ s < mid)) ∧ Hid (SBR wx g n G) ∧ Hid (w.grownBy wx (some g)))
              case first => as_aux_lemma =>
                by_cases hc1 : a < s
                · by_cases hc2 : s < mid
                  · have c1 : (a : Int) < (s : Int) := by omega
                    have c2 : (s : Int) < (mid : Int) := by omega
                    have HQ := hide (And.intro hc1 hc2)
                    clear hc1 hc2
                    go_wp2_with fail
                    go_meet
                    exact ⟨true, rfl, hide (bool_yes HQ.out), HG1, HGG⟩
                  · have c1 : (a : Int) < (s : Int) := by omega
                    have c2 : ¬ (s : Int) < (mid : Int) := by omega
                    have HQ := hide hc2
                    clear hc1 hc2
                    go_wp2_with fail
                    go_meet
                    exact ⟨false, rfl, hide (bool_no (fun h => HQ.out h.2)), HG1, HGG⟩
                · have c1 : ¬ (a : Int) < (s : Int) := by omega
                  have HQ := hide hc1
                  clear hc1
                  go_wp2_with fail
                  go_meet
                  exact ⟨false, rfl, hide (bool_no (fun h => HQ.out h.1)), HG1, HGG⟩
              case rest => as_aux_lemma =>
                obtain ⟨β, rfl, HQ, HG1, HGG⟩ := hcut
                obtain ⟨w3, hw3⟩ : ∃ w3, w3 = wc := ⟨_, rfl⟩
                subst hw3
                go_upto_if 199 with fail
                go_cut [24] (fun p24 wx => ∃ G1, p24 = .int .i64 E ∧ Hid (SBR wx g n G1) ∧ Hid (MQ lt G G1 a mid) ∧ Hid (w.grownBy wx (some g)))
                case first => as_aux_lemma =>
                  -- BEGIN3
                  rcases β with _ | _
                  · have HD := hide (HSPL.out.1.done (by have := HQ.out; simp at this; omega))
                    go_wp2_with fail
                    go_meet
                    exact ⟨G, rfl, HG1, HD, HGG⟩
                  · have hc := HQ.out.1 rfl
                    have HC := hide (IH.out a s mid G w3 (by omega) HG1.out hc.1 hc.2 (by omega) HSPL.out.1)
                    clear hc
                    go_wp2_with fail
                    refine HC.out.mono ?_
                    rintro e w5 ⟨rfl, G1, h5, h6, h7⟩
                    go_wp2_with fail
                    go_meet
                    exact ⟨G1, rfl, h5, h6, HGG.out.trans h7⟩
                  -- END3
                case rest => as_aux_lemma =>
                  obtain ⟨G1, rfl, HR2, HM1, HGG2⟩ := hcut
                  clear HG1 HGG HQ
                  obtain ⟨w4, hw4⟩ : ∃ w4, w4 = wc := ⟨_, rfl⟩
                  subst hw4
                  have HPL := hide (HSPL.out.2.1.later HM1.out)
                  go_upto_region 43 with fail
                  go_cut [213] (fun p wx => ∃ β, p = .bool β ∧ Hid (β = true ↔ (mid < E ∧ E < b)) ∧ Hid (SBR wx g n G1) ∧ Hid (w.grownBy wx (some g)))
                  case first => as_aux_lemma =>
                    by_cases hc1 : mid < E
                    · by_cases hc2 : E < b
                      · have c1 : (mid : Int) < (E : Int) := by omega
                        have c2 : (E : Int) < (b : Int) := by omega
                        have HQ := hide (And.intro hc1 hc2)
                        clear hc1 hc2
                        go_wp2_with fail
                        go_meet
                        exact ⟨true, rfl, hide (bool_yes HQ.out), HR2, HGG2⟩
                      · have c1 : (mid : Int) < (E : Int) := by omega
                        have c2 : ¬ (E : Int) < (b : Int) := by omega
                        have HQ := hide hc2
                        clear hc1 hc2
                        go_wp2_with fail
                        go_meet
                        exact ⟨false, rfl, hide (bool_no (fun h => HQ.out h.2)), HR2, HGG2⟩
                    · have c1 : ¬ (mid : Int) < (E : Int) := by omega
                      have HQ := hide hc1
                      clear hc1
                      go_wp2_with fail
                      go_meet
                      exact ⟨false, rfl, hide (bool_no (fun h => HQ.out h.1)), HR2, HGG2⟩
                  case rest => as_aux_lemma =>
                    obtain ⟨β, rfl, HQ, HR2, HGG2⟩ := hcut
                    -- BEGIN4
                    rcases β with _ | _
                    · have HD := hide (HPL.out.done (by have := HQ.out; simp at this; omega))
                      go_wp2_with fail
                      go_end0
                      exact ⟨rfl, G1, HR2.out, MQ.join (by omega) (by omega) HKE.out HSPL.out.2.2 HM1.out HD.out, HGG2.out⟩
                    · have hc := HQ.out.1 rfl
                      have HC := hide (IH.out mid E b G1 wc (by omega) HR2.out hc.1 hc.2 (by omega) HPL.out)
                      clear hc
                      go_wp2_with fail
                      refine HC.out.mono ?_
                      rintro e w5 ⟨rfl, G2, h5, h6, h7⟩
                      go_wp2_with fail
                      go_end0
                      exact ⟨rfl, G2, h5, MQ.join (by omega) (by omega) HKE.out HSPL.out.2.2 HM1.out h6, HGG2.out.trans h7⟩
                    -- END4
end Go.Proofs.Ytlhekifmkkgjlaa
