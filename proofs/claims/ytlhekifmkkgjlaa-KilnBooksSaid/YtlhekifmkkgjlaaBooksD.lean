/- Contracts of chapter 8 on stacks: Loads. -/
import Derived.Test.YtlhekifmkkgjlaaBooksC
import Derived.Maps.Own
import Derived.Maps.Views
import Derived.TacticsIn
set_option linter.unusedSimpArgs false
set_option linter.unusedVariables false
set_option linter.unnecessarySimpa false
namespace Go.Proofs.Ytlhekifmkkgjlaa
open Go Go.RowKit Go.Shelf
set_option maxHeartbeats 1000000
@[go_sem] theorem field_brick0 (a b : Value) (w : World) : (Instr.field 59 (.agg #[a, b]) 0).run Try.prog w = .ok a w := by kernel_rfl
@[go_sem] theorem field_brick1 (a b : Value) (w : World) : (Instr.field 59 (.agg #[a, b]) 1).run Try.prog w = .ok b w := by kernel_rfl
theorem mem_bricksTo (wn : Nat → Nat) (n t i : Nat) : (t, i) ∈ bricksTo wn n ↔ t < n ∧ i < wn t := by
  simp only [bricksTo, rowTo, List.mem_flatMap, List.mem_map, List.mem_range, Prod.mk.injEq]
  constructor
  · rintro ⟨a, ha, b, hb, rfl, rfl⟩; exact ⟨ha, hb⟩
  · rintro ⟨ha, hb⟩; exact ⟨t, ha, i, hb, rfl, rfl⟩
theorem firstOf_neg {p : Nat → Nat → Bool} {l : List (Nat × Nat)} (h : (firstOf p l).1 < 0) : ∀ x ∈ l, p x.1 x.2 = false := by
  intro x hx
  unfold firstOf at h
  cases hf : l.find? (fun x => p x.1 x.2) with
  | none => simpa using List.find?_eq_none.1 hf x hx
  | some y => rw [hf] at h; simp at h; omega
theorem stack_cn {s : Stk} (h : stackB s = true) : ∀ k, k < s.nt → (s.cn k : Int) = s.wd * s.hg := by
  intro k hk
  have h1 := ((stackB_iff s).1 h).2.2 k hk
  simp only [tierB, Bool.and_eq_true, decide_eq_true_eq] at h1
  exact h1.1
/-- the number of cells of a floor -/
def flr (s : Stk) : Nat := (s.wd * s.hg).toNat
theorem flr_eq {s : Stk} (h : stackB s = true) : (flr s : Int) = s.wd * s.hg := by
  have h1 := ((stackB_iff s).1 h).1
  have := Int.mul_pos (a := s.wd) (b := s.hg) (by omega) (by omega)
  unfold flr; omega
theorem Loads_arg (s : Stk) (w : World) (hs : StkR w w.heap.size s) (h : stackB s = false) :
    Calls Try.prog 32 #[.agg #[.int .i64 s.wd, .int .i64 s.hg, .slice s.A s.nt s.cap]] w fun e w' => e = .returned (.tuple #[.slice none 0 0, .slice none 0 0, .int .i64 2]) ∧ Below w.heap.size w w' := by
  have HB := hide ((Below.refl w.heap.size w).alloc (Nat.le_refl _) (.cells #[.int .i64 s.wd, .int .i64 s.hg, .slice s.A s.nt s.cap] 55))
  have HC := hide (newPile_any s (w.alloc (.cells #[.int .i64 s.wd, .int .i64 s.hg, .slice s.A s.nt s.cap] 55)) ((hs.below HB.out (Nat.le_refl _)).more HB.out.size))
  rw [stkE_no h] at HC
  clear h hs
  go_enter Try.func32, Try.ntmps32
  go_wp2_with fail
  refine HC.out.mono ?_
  rintro e w1 ⟨rfl, hb1⟩
  go_wp2_with fail
  go_ret3
  have hB := HB.out.trans (hb1.mono HB.out.size)
  exact ⟨rfl, hB.alloc hB.size _⟩
theorem Loads_falls (s : Stk) (w : World) (hs : StkR w w.heap.size s) (h : stackB s = true) (hf : 0 ≤ (hangF s).1) :
    Calls Try.prog 32 #[.agg #[.int .i64 s.wd, .int .i64 s.hg, .slice s.A s.nt s.cap]] w fun e w' => e = .returned (.tuple #[.slice none 0 0, .slice none 0 0, .int .i64 80]) ∧ Below w.heap.size w w' := by
  have HB := hide ((Below.refl w.heap.size w).alloc (Nat.le_refl _) (.cells #[.int .i64 s.wd, .int .i64 s.hg, .slice s.A s.nt s.cap] 55))
  have HC := hide (newPile_any s (w.alloc (.cells #[.int .i64 s.wd, .int .i64 s.hg, .slice s.A s.nt s.cap] 55)) ((hs.below HB.out (Nat.le_refl _)).more HB.out.size))
  rw [stkE_ok h] at HC
  have HH := hide (fun W (hb : Below w.heap.size w W) => hangs_any s (flr s) W ((hs.below hb (Nat.le_refl _)).more hb.size) (fun k hk => by have h1 := flr_eq h; have h2 := stack_cn h k hk; omega))
  generalize hangF s = R at HH hf
  unfold brV at HH
  clear h hs
  go_enter Try.func32, Try.ntmps32
  go_wp2_with fail
  refine HC.out.mono ?_
  rintro e w1 ⟨rfl, hb1⟩
  have hB := hide (HB.out.trans (hb1.mono HB.out.size))
  go_wp2_with fail
  refine (HH.out _ (hB.out.alloc hB.out.size _)).mono ?_
  rintro e w2 ⟨rfl, hb2⟩
  go_wp2_with fail
  go_ret3
  exact ⟨rfl, (hB.out.alloc hB.out.size (.cells #[.int .i64 s.wd, .int .i64 s.hg, .slice s.A s.nt s.cap] 131)).trans (hb2.mono (by have := hB.out.size; simp only [World.size_alloc]; omega))⟩
/-- nothing hangs -/
theorem hangF_none {s : Stk} (hf : (hangF s).1 < 0) : ∀ t i, t < s.nt → i < s.wn t → hangP s t i = false := fun t i ht hi => firstOf_neg hf (t, i) ((mem_bricksTo _ _ _ _).2 ⟨ht, hi⟩)
def LoadsB (s : Stk) : Bool := (loadsF s (flr s) (backTo s.nt 0)).2
def LoadsL (s : Stk) (k : Nat) : List (Nat × Nat) := (loadsF s (flr s) (backTo s.nt 0)).1 k
theorem Loads_over (s : Stk) (w : World) (hs : StkR w w.heap.size s) (h : stackB s = true) (hf : (hangF s).1 < 0) (ho : LoadsB s = false) :
    Calls Try.prog 32 #[.agg #[.int .i64 s.wd, .int .i64 s.hg, .slice s.A s.nt s.cap]] w fun e w' => e = .returned (.tuple #[.slice none 0 0, .slice none 0 0, .int .i64 10]) ∧ Below w.heap.size w w' := by
  have HB := hide ((Below.refl w.heap.size w).alloc (Nat.le_refl _) (.cells #[.int .i64 s.wd, .int .i64 s.hg, .slice s.A s.nt s.cap] 55))
  have HC := hide (newPile_any s (w.alloc (.cells #[.int .i64 s.wd, .int .i64 s.hg, .slice s.A s.nt s.cap] 55)) ((hs.below HB.out (Nat.le_refl _)).more HB.out.size))
  rw [stkE_ok h] at HC
  have HH := hide (fun W (hb : Below w.heap.size w W) => hangs_any s (flr s) W ((hs.below hb (Nat.le_refl _)).more hb.size) (fun k hk => by have h1 := flr_eq h; have h2 := stack_cn h k hk; omega))
  have HL := hide (fun W (hb : Below w.heap.size w W) => loads_any s (flr s) W ((hs.below hb (Nat.le_refl _)).more hb.size) h (flr_eq h) (hangF_none hf))
  generalize hangF s = R at HH hf
  unfold brV at HH
  unfold LoadsPost at HL
  rw [show (loadsF s (flr s) (backTo s.nt 0)).2 = false from ho] at HL
  have hf' : ¬ 0 ≤ R.1 := by omega
  clear h hs ho hf
  go_enter Try.func32, Try.ntmps32
  go_wp2_with fail
  refine HC.out.mono ?_
  rintro e w1 ⟨rfl, hb1⟩
  have hB := hide (HB.out.trans (hb1.mono HB.out.size))
  have HK := hide (Blk.new w1 131 #[.int .i64 s.wd, .int .i64 s.hg, .slice s.A s.nt s.cap])
  have HZ := hide ((hB.out.alloc hB.out.size (.cells #[.int .i64 s.wd, .int .i64 s.hg, .slice s.A s.nt s.cap] 131)))
  go_wp2_with fail
  refine (HH.out _ HZ.out).mono ?_
  rintro e w2 ⟨rfl, hb2⟩
  obtain ⟨x0, x1, x2, x3, -, -, -⟩ := blk3 (HK.out.ext hb2)
  have HY := hide (HZ.out.trans (hb2.mono HZ.out.size))
  go_wp2_with fail
  refine (HL.out _ HY.out).mono ?_
  rintro e w3 ⟨v, rfl, hb3, -, -⟩
  go_wp2_with fail
  go_ret3
  exact ⟨rfl, HY.out.trans (hb3.mono HY.out.size)⟩
/-- what Loads returns -/
def LoadsOk (s : Stk) (w : World) (e : Ending) (w' : World) : Prop :=
  ∃ (z : Nat) (v : Nat → Value), w.heap.size ≤ z ∧ e = .returned (.tuple #[.slice (some ⟨z + 3, 0, none⟩) s.nt s.nt, v s.nt, .int .i64 0]) ∧ Below w.heap.size w w' ∧
    Blk w' (z + 3) 65 (rowV s.nt v) ∧ ∀ k, k ≤ s.nt → OwnL w' z (v k) (LoadsL s k)
theorem Loads_ok (s : Stk) (w : World) (hs : StkR w w.heap.size s) (h : stackB s = true) (hf : (hangF s).1 < 0) (ho : LoadsB s = true) :
    Calls Try.prog 32 #[.agg #[.int .i64 s.wd, .int .i64 s.hg, .slice s.A s.nt s.cap]] w (LoadsOk s w) := by
  have HB := hide ((Below.refl w.heap.size w).alloc (Nat.le_refl _) (.cells #[.int .i64 s.wd, .int .i64 s.hg, .slice s.A s.nt s.cap] 55))
  have HC := hide (newPile_any s (w.alloc (.cells #[.int .i64 s.wd, .int .i64 s.hg, .slice s.A s.nt s.cap] 55)) ((hs.below HB.out (Nat.le_refl _)).more HB.out.size))
  rw [stkE_ok h] at HC
  have HH := hide (fun W (hb : Below w.heap.size w W) => hangs_any s (flr s) W ((hs.below hb (Nat.le_refl _)).more hb.size) (fun k hk => by have h1 := flr_eq h; have h2 := stack_cn h k hk; omega))
  have HL := hide (fun W (hb : Below w.heap.size w W) => loads_any s (flr s) W ((hs.below hb (Nat.le_refl _)).more hb.size) h (flr_eq h) (hangF_none hf))
  generalize hangF s = R at HH hf
  unfold brV at HH
  unfold LoadsPost at HL
  rw [show (loadsF s (flr s) (backTo s.nt 0)).2 = true from ho] at HL
  have hf' : ¬ 0 ≤ R.1 := by omega
  clear h hs ho hf
  go_enter Try.func32, Try.ntmps32
  go_wp2_with fail
  refine HC.out.mono ?_
  rintro e w1 ⟨rfl, hb1⟩
  have hB := hide (HB.out.trans (hb1.mono HB.out.size))
  have HK := hide (Blk.new w1 131 #[.int .i64 s.wd, .int .i64 s.hg, .slice s.A s.nt s.cap])
  have HZ := hide ((hB.out.alloc hB.out.size (.cells #[.int .i64 s.wd, .int .i64 s.hg, .slice s.A s.nt s.cap] 131)))
  go_wp2_with fail
  refine (HH.out _ HZ.out).mono ?_
  rintro e w2 ⟨rfl, hb2⟩
  obtain ⟨x0, x1, x2, x3, -, -, -⟩ := blk3 (HK.out.ext hb2)
  have HY := hide (HZ.out.trans (hb2.mono HZ.out.size))
  go_wp2_with fail
  refine (HL.out _ HY.out).mono ?_
  rintro e w3 ⟨v, rfl, hb3, hr, ho⟩
  have HR := hide hr
  have HO := hide ho
  clear hr ho
  go_wp2_with fail
  go_ret3
  exact ⟨w2.heap.size, v, HY.out.size, rfl, HY.out.trans (hb3.mono HY.out.size), HR.out, HO.out⟩
end Go.Proofs.Ytlhekifmkkgjlaa
/- Chapter 8's known calls: the stack of the document's example, and what single calls return. -/
namespace Go.Proofs.Ytlhekifmkkgjlaa
open Go Go.RowKit Go.Shelf
set_option maxHeartbeats 1000000
def twoS (z : Nat) : Stk where
  wd := 2
  hg := 1
  A := some ⟨z + 5, 0, none⟩
  nt := 2
  cap := 2
  ca := fun k => if k = 0 then some ⟨z + 1, 0, none⟩ else some ⟨z + 3, 0, none⟩
  wa := fun k => if k = 0 then some ⟨z + 2, 0, none⟩ else some ⟨z + 4, 0, none⟩
  cn := fun _ => 2
  cc := fun _ => 2
  wn := fun k => if k = 0 then 2 else 1
  wc := fun k => if k = 0 then 2 else 1
  cf := fun k i => if k = 0 then i else 0
  wf := fun k i => if k = 0 then (if i = 0 then 3 else 5) else 4
theorem IR.of_blk {w : World} {B g n : Nat} {t : TypeId} {cs : Array Value} {x : Nat → Int} (h : Blk w g t cs) (hg : g < B) (hx : ∀ k, k < n → cs[k]? = some (.int .i64 (x k))) : IR w B (some ⟨g, 0, none⟩) n x := fun _ =>
  ⟨g, 0, rfl, hg, fun k i hk hi => by
    obtain rfl : i = 0 := by omega
    rw [show (0 : Nat) + k * 1 + 0 = k by omega, h.cell, hx k hk]⟩
theorem two_read (w : World) : StkR ((((((w.alloc (.cells #[.int .i64 2, .int .i64 1, .slice (some ⟨w.heap.size + 1 + 1 + 1 + 1 + 1, 0, none⟩) 2 2] 55)).alloc (.cells #[.int .i64 0, .int .i64 1] 3)).alloc (.cells #[.int .i64 3, .int .i64 5] 3)).alloc (.cells #[.int .i64 0, .int .i64 0] 3)).alloc (.cells #[.int .i64 4] 3)).alloc (.cells #[.slice (some ⟨w.heap.size + 1, 0, none⟩) 2 2, .slice (some ⟨w.heap.size + 1 + 1, 0, none⟩) 2 2, .slice (some ⟨w.heap.size + 1 + 1 + 1, 0, none⟩) 2 2, .slice (some ⟨w.heap.size + 1 + 1 + 1 + 1, 0, none⟩) 1 1] 72)) (w.heap.size + 6) (twoS w.heap.size) := by
  have b1 : Blk ((((((w.alloc (.cells #[.int .i64 2, .int .i64 1, .slice (some ⟨w.heap.size + 1 + 1 + 1 + 1 + 1, 0, none⟩) 2 2] 55)).alloc (.cells #[.int .i64 0, .int .i64 1] 3)).alloc (.cells #[.int .i64 3, .int .i64 5] 3)).alloc (.cells #[.int .i64 0, .int .i64 0] 3)).alloc (.cells #[.int .i64 4] 3)).alloc (.cells #[.slice (some ⟨w.heap.size + 1, 0, none⟩) 2 2, .slice (some ⟨w.heap.size + 1 + 1, 0, none⟩) 2 2, .slice (some ⟨w.heap.size + 1 + 1 + 1, 0, none⟩) 2 2, .slice (some ⟨w.heap.size + 1 + 1 + 1 + 1, 0, none⟩) 1 1] 72)) (w.heap.size + 1) 3 #[.int .i64 0, .int .i64 1] := by simpa using ((((Blk.new (w.alloc _) 3 #[.int .i64 0, .int .i64 1]).alloc _).alloc _).alloc _).alloc _
  have b2 : Blk ((((((w.alloc (.cells #[.int .i64 2, .int .i64 1, .slice (some ⟨w.heap.size + 1 + 1 + 1 + 1 + 1, 0, none⟩) 2 2] 55)).alloc (.cells #[.int .i64 0, .int .i64 1] 3)).alloc (.cells #[.int .i64 3, .int .i64 5] 3)).alloc (.cells #[.int .i64 0, .int .i64 0] 3)).alloc (.cells #[.int .i64 4] 3)).alloc (.cells #[.slice (some ⟨w.heap.size + 1, 0, none⟩) 2 2, .slice (some ⟨w.heap.size + 1 + 1, 0, none⟩) 2 2, .slice (some ⟨w.heap.size + 1 + 1 + 1, 0, none⟩) 2 2, .slice (some ⟨w.heap.size + 1 + 1 + 1 + 1, 0, none⟩) 1 1] 72)) (w.heap.size + 2) 3 #[.int .i64 3, .int .i64 5] := by simpa using (((Blk.new ((w.alloc _).alloc _) 3 #[.int .i64 3, .int .i64 5]).alloc _).alloc _).alloc _
  have b3 : Blk ((((((w.alloc (.cells #[.int .i64 2, .int .i64 1, .slice (some ⟨w.heap.size + 1 + 1 + 1 + 1 + 1, 0, none⟩) 2 2] 55)).alloc (.cells #[.int .i64 0, .int .i64 1] 3)).alloc (.cells #[.int .i64 3, .int .i64 5] 3)).alloc (.cells #[.int .i64 0, .int .i64 0] 3)).alloc (.cells #[.int .i64 4] 3)).alloc (.cells #[.slice (some ⟨w.heap.size + 1, 0, none⟩) 2 2, .slice (some ⟨w.heap.size + 1 + 1, 0, none⟩) 2 2, .slice (some ⟨w.heap.size + 1 + 1 + 1, 0, none⟩) 2 2, .slice (some ⟨w.heap.size + 1 + 1 + 1 + 1, 0, none⟩) 1 1] 72)) (w.heap.size + 3) 3 #[.int .i64 0, .int .i64 0] := by simpa using ((Blk.new (((w.alloc _).alloc _).alloc _) 3 #[.int .i64 0, .int .i64 0]).alloc _).alloc _
  have b4 : Blk ((((((w.alloc (.cells #[.int .i64 2, .int .i64 1, .slice (some ⟨w.heap.size + 1 + 1 + 1 + 1 + 1, 0, none⟩) 2 2] 55)).alloc (.cells #[.int .i64 0, .int .i64 1] 3)).alloc (.cells #[.int .i64 3, .int .i64 5] 3)).alloc (.cells #[.int .i64 0, .int .i64 0] 3)).alloc (.cells #[.int .i64 4] 3)).alloc (.cells #[.slice (some ⟨w.heap.size + 1, 0, none⟩) 2 2, .slice (some ⟨w.heap.size + 1 + 1, 0, none⟩) 2 2, .slice (some ⟨w.heap.size + 1 + 1 + 1, 0, none⟩) 2 2, .slice (some ⟨w.heap.size + 1 + 1 + 1 + 1, 0, none⟩) 1 1] 72)) (w.heap.size + 4) 3 #[.int .i64 4] := by simpa using (Blk.new ((((w.alloc _).alloc _).alloc _).alloc _) 3 #[.int .i64 4]).alloc _
  have b5 : Blk ((((((w.alloc (.cells #[.int .i64 2, .int .i64 1, .slice (some ⟨w.heap.size + 1 + 1 + 1 + 1 + 1, 0, none⟩) 2 2] 55)).alloc (.cells #[.int .i64 0, .int .i64 1] 3)).alloc (.cells #[.int .i64 3, .int .i64 5] 3)).alloc (.cells #[.int .i64 0, .int .i64 0] 3)).alloc (.cells #[.int .i64 4] 3)).alloc (.cells #[.slice (some ⟨w.heap.size + 1, 0, none⟩) 2 2, .slice (some ⟨w.heap.size + 1 + 1, 0, none⟩) 2 2, .slice (some ⟨w.heap.size + 1 + 1 + 1, 0, none⟩) 2 2, .slice (some ⟨w.heap.size + 1 + 1 + 1 + 1, 0, none⟩) 1 1] 72)) (w.heap.size + 5) 72 #[.slice (some ⟨w.heap.size + 1, 0, none⟩) 2 2, .slice (some ⟨w.heap.size + 1 + 1, 0, none⟩) 2 2, .slice (some ⟨w.heap.size + 1 + 1 + 1, 0, none⟩) 2 2, .slice (some ⟨w.heap.size + 1 + 1 + 1 + 1, 0, none⟩) 1 1] := by
    simpa using Blk.new (((((w.alloc _).alloc _).alloc _).alloc _).alloc _) 72 #[.slice (some ⟨w.heap.size + 1, 0, none⟩) 2 2, .slice (some ⟨w.heap.size + 1 + 1, 0, none⟩) 2 2, .slice (some ⟨w.heap.size + 1 + 1 + 1, 0, none⟩) 2 2, .slice (some ⟨w.heap.size + 1 + 1 + 1 + 1, 0, none⟩) 1 1]
  generalize ((((((w.alloc (.cells #[.int .i64 2, .int .i64 1, .slice (some ⟨w.heap.size + 1 + 1 + 1 + 1 + 1, 0, none⟩) 2 2] 55)).alloc (.cells #[.int .i64 0, .int .i64 1] 3)).alloc (.cells #[.int .i64 3, .int .i64 5] 3)).alloc (.cells #[.int .i64 0, .int .i64 0] 3)).alloc (.cells #[.int .i64 4] 3)).alloc (.cells #[.slice (some ⟨w.heap.size + 1, 0, none⟩) 2 2, .slice (some ⟨w.heap.size + 1 + 1, 0, none⟩) 2 2, .slice (some ⟨w.heap.size + 1 + 1 + 1, 0, none⟩) 2 2, .slice (some ⟨w.heap.size + 1 + 1 + 1 + 1, 0, none⟩) 1 1] 72)) = W at *
  refine ⟨by simp [twoS], fun _ => ⟨w.heap.size + 5, 0, rfl, by omega, fun k i hk hi => ?_⟩, fun k hk => ?_⟩
  · have hk' : k < 2 := hk
    rcases (by omega : k = 0 ∨ k = 1) with rfl | rfl
    · rcases (by omega : i = 0 ∨ i = 1) with rfl | rfl
      · exact b5.cell 0
      · exact b5.cell 1
    · rcases (by omega : i = 0 ∨ i = 1) with rfl | rfl
      · exact b5.cell 2
      · exact b5.cell 3
  · have hk' : k < 2 := hk
    rcases (by omega : k = 0 ∨ k = 1) with rfl | rfl
    · refine ⟨by simp [twoS], by simp [twoS], IR.of_blk b1 (by omega) fun j hj => ?_, IR.of_blk b2 (by omega) fun j hj => ?_⟩
      · have hj' : j < 2 := hj
        rcases (by omega : j = 0 ∨ j = 1) with rfl | rfl <;> rfl
      · have hj' : j < 2 := hj
        rcases (by omega : j = 0 ∨ j = 1) with rfl | rfl <;> rfl
    · refine ⟨by simp [twoS], by simp [twoS], IR.of_blk b3 (by omega) fun j hj => ?_, IR.of_blk b4 (by omega) fun j hj => ?_⟩
      · have hj' : j < 2 := hj
        rcases (by omega : j = 0 ∨ j = 1) with rfl | rfl <;> rfl
      · have hj' : j < 1 := hj
        obtain rfl : j = 0 := by omega
        rfl
def TwoPost (w : World) (e : Ending) (w' : World) : Prop :=
  e = .returned (.agg #[.int .i64 2, .int .i64 1, .slice (some ⟨w.heap.size + 5, 0, none⟩) 2 2]) ∧ StkR w' w'.heap.size (twoS w.heap.size) ∧ Below w.heap.size w w'
theorem two_any (w : World) : Calls Try.prog 53 #[] w (TwoPost w) := by
  have hB : Below w.heap.size w ((((((w.alloc (.cells #[.int .i64 2, .int .i64 1, .slice (some ⟨w.heap.size + 1 + 1 + 1 + 1 + 1, 0, none⟩) 2 2] 55)).alloc (.cells #[.int .i64 0, .int .i64 1] 3)).alloc (.cells #[.int .i64 3, .int .i64 5] 3)).alloc (.cells #[.int .i64 0, .int .i64 0] 3)).alloc (.cells #[.int .i64 4] 3)).alloc (.cells #[.slice (some ⟨w.heap.size + 1, 0, none⟩) 2 2, .slice (some ⟨w.heap.size + 1 + 1, 0, none⟩) 2 2, .slice (some ⟨w.heap.size + 1 + 1 + 1, 0, none⟩) 2 2, .slice (some ⟨w.heap.size + 1 + 1 + 1 + 1, 0, none⟩) 1 1] 72)) := (((((((Below.refl _ w).alloc (Nat.le_refl _) _).alloc (by simp) _).alloc (by simp only [World.size_alloc]; omega) _).alloc (by simp only [World.size_alloc]; omega) _).alloc (by simp only [World.size_alloc]; omega) _)).alloc (by simp only [World.size_alloc]; omega) _
  have HP := hide (And.intro ((two_read w).more (B' := ((((((w.alloc (.cells #[.int .i64 2, .int .i64 1, .slice (some ⟨w.heap.size + 1 + 1 + 1 + 1 + 1, 0, none⟩) 2 2] 55)).alloc (.cells #[.int .i64 0, .int .i64 1] 3)).alloc (.cells #[.int .i64 3, .int .i64 5] 3)).alloc (.cells #[.int .i64 0, .int .i64 0] 3)).alloc (.cells #[.int .i64 4] 3)).alloc (.cells #[.slice (some ⟨w.heap.size + 1, 0, none⟩) 2 2, .slice (some ⟨w.heap.size + 1 + 1, 0, none⟩) 2 2, .slice (some ⟨w.heap.size + 1 + 1 + 1, 0, none⟩) 2 2, .slice (some ⟨w.heap.size + 1 + 1 + 1 + 1, 0, none⟩) 1 1] 72)).heap.size) (by simp)) hB)
  clear hB
  go_enter Try.func53, Try.ntmps53
  go_wp2_with fail
  refine bodyPost_ret (v := .agg #[.int .i64 2, .int .i64 1, .slice (some ⟨w.heap.size + 5, 0, none⟩) 2 2]) (by simp [results, Try.results53, go_sem]) rfl ⟨rfl, HP.out.1, HP.out.2⟩
theorem two_stack (z : Nat) : stackB (twoS z) = true := by rfl
theorem two_hangs (z : Nat) : hangF (twoS z) = (-1, -1) := by rfl
theorem two_loadsB (z : Nat) : LoadsB (twoS z) = true := by kernel_rfl
theorem two_loads0 (z : Nat) : LoadsL (twoS z) 0 = [(2, 1), (2, 1)] := by kernel_rfl
theorem two_loads1 (z : Nat) : LoadsL (twoS z) 1 = [(0, 1)] := by kernel_rfl
theorem two_loads2 (z : Nat) : LoadsL (twoS z) 2 = [(5, 1), (7, 1)] := by kernel_rfl
theorem least_of {p : Nat → Bool} {n r : Nat} (mono : ∀ i j, i ≤ j → j < n → p i = true → p j = true) (hr : r < n) (h1 : p r = true) (h0 : 0 < r → p (r - 1) = false) : Least p n r := by
  refine ⟨by omega, fun i hi => ?_, fun _ => h1⟩
  rcases hpi : p i with _ | _
  · rfl
  · have := mono i (r - 1) (by omega) (by omega) hpi
    rw [h0 (by omega)] at this; cases this
theorem known_moulds (w : World) : Calls Try.prog 21 #[.agg #[.int .i64 900, .int .i64 940], .agg #[.int .i64 500, .int .i64 600, .int .i64 100, .int .i64 200]] w fun e w' =>
    e = .returned (.tuple #[.agg #[.int .i64 977, .int .i64 999], .int .i64 0]) ∧ Below w.heap.size w w' := by
  refine (Moulds_ok 900 940 500 600 100 200 w (by decide) (by decide)).mono ?_
  rintro e w' ⟨a, b, h1, h2, rfl, hb⟩
  have e1 : a = 976 := h1.uniq (least_of (fun i j hij _ h => by
    have := shLo_mono (s := (i : Int) + 1) (t := (j : Int) + 1) (d := 600) (f := 200) (by omega) (by omega) (by omega)
    simp only [mLo, decide_eq_true_eq] at *
    omega) (by omega) (by decide) (fun _ => by decide))
  have e2 : b = 999 := h2.uniq (least_of (fun i j hij _ h => by
    have := shHi_mono (s := (i : Int) + 1) (t := (j : Int) + 1) (d := 500) (f := 100) (by omega) (by omega) (by omega)
    simp only [mHi, decide_eq_true_eq] at *
    omega) (by omega) (by decide) (fun _ => by decide))
  subst e1 e2
  exact ⟨rfl, hb⟩
theorem known_need (A : Option Addr) (c : Nat) (w : World) (hR : PI w w.heap.size A 2 (fun _ => 500) (fun _ => 1000)) :
    Calls Try.prog 16 #[.int .i64 81, .slice A 2 c] w fun e w' => e = .returned (.tuple #[.int .i64 98, .int .i64 0]) ∧ Below w.heap.size w w' := by
  refine (need_ok 81 A 2 c _ _ w (by omega) hR (fun i _ => ⟨by omega, by omega, by omega⟩) (by omega) (by omega)).mono ?_
  rintro e w' ⟨r, h1, rfl, hb⟩
  have e1 : r = 98 := h1.uniq (least_of (fun i j hij _ h => by
    have := aft_mono (fun _ => 1000) 2 (fun i _ => ⟨by omega, by omega⟩) i j (by omega) (by omega)
    simp only [decide_eq_true_eq] at *
    omega) (by omega) (by decide) (fun _ => by decide))
  subst e1
  exact ⟨rfl, hb⟩
end Go.Proofs.Ytlhekifmkkgjlaa
/- Chapter 8: the stores of a book, one number set; known calls on a book. -/
namespace Go.Proofs.Ytlhekifmkkgjlaa
open Go Go.RowKit Go.Shelf
set_option maxHeartbeats 1000000
def Wa.get (x : Wa) (i : Nat) : Int := if i = 0 then x.wet else if i = 1 then x.dry else if i = 2 then x.burning else if i = 3 then x.fired else if i = 4 then x.laid else if i = 5 then x.broken else x.missing
def Wa.put (x : Wa) (i : Nat) (v : Int) : Wa := if i = 0 then { x with wet := v } else if i = 1 then { x with dry := v } else if i = 2 then { x with burning := v } else if i = 3 then { x with fired := v } else if i = 4 then { x with laid := v } else if i = 5 then { x with broken := v } else { x with missing := v }
theorem Wa.get_put (x : Wa) {i j : Nat} (hi : i < 7) (hj : j < 7) (v : Int) : (x.put i v).get j = if j = i then v else x.get j := by
  rcases (by omega : i = 0 ∨ i = 1 ∨ i = 2 ∨ i = 3 ∨ i = 4 ∨ i = 5 ∨ i = 6) with rfl | rfl | rfl | rfl | rfl | rfl | rfl <;>
  rcases (by omega : j = 0 ∨ j = 1 ∨ j = 2 ∨ j = 3 ∨ j = 4 ∨ j = 5 ∨ j = 6) with rfl | rfl | rfl | rfl | rfl | rfl | rfl <;> rfl
theorem KindW_iff {w : World} {S o : Nat} {x : Wa} : KindW w S o x ↔ S < w.heap.size ∧ (∀ i, w.frozen? ⟨S, i, none⟩ = false) ∧ ∀ i, i < 7 → w.cell? ⟨S, o + i, none⟩ = some (.int .i64 (x.get i)) := by
  constructor
  · rintro ⟨h0, hf, h1, h2, h3, h4, h5, h6, h7⟩
    refine ⟨h0, hf, fun i hi => ?_⟩
    rcases (by omega : i = 0 ∨ i = 1 ∨ i = 2 ∨ i = 3 ∨ i = 4 ∨ i = 5 ∨ i = 6) with rfl | rfl | rfl | rfl | rfl | rfl | rfl
    · exact h1
    · exact h2
    · exact h3
    · exact h4
    · exact h5
    · exact h6
    · exact h7
  · rintro ⟨h0, hf, h⟩
    exact ⟨h0, hf, h 0 (by omega), h 1 (by omega), h 2 (by omega), h 3 (by omega), h 4 (by omega), h 5 (by omega), h 6 (by omega)⟩
theorem Stores.set {w : World} {S n : Nat} {ws : Nat → Wa} (h : Stores w S n ws) {k i : Nat} (hk : k < n) (hi : i < 7) (v : Int) :
    Stores (w.setCell ⟨S, k * 7 + i, none⟩ (.int .i64 v)) S n (upd ws k ((ws k).put i v)) := by
  obtain ⟨⟨cs, hc⟩, hK⟩ := h
  refine ⟨⟨_, hc.set_ _ _⟩, fun k' hk' => ?_⟩
  have h1 := KindW_iff.1 (hK k' hk')
  have h2 := KindW_iff.1 (hK k hk)
  refine KindW_iff.2 ⟨by rw [size_set]; exact h1.1, fun j => by rw [World.frozen?_setCell]; exact h1.2.1 j, fun j hj => ?_⟩
  by_cases e : k' = k
  · subst e
    rw [upd_same, Wa.get_put _ hi hj]
    by_cases ej : j = i
    · subst ej
      rw [if_pos rfl]
      exact World.cell?_setCell_same' _ _ _ (by rw [h2.2.2 j hj]; rfl)
    · rw [if_neg ej, World.cell?_setCell_other _ _ _ _ (fun h => by injection h; omega)]
      exact h1.2.2 j hj
  · rw [upd_ne _ _ e, World.cell?_setCell_other _ _ _ _ (fun h => by injection h; omega)]
    exact h1.2.2 j hj
theorem Stores.grown {w w' : World} {S n : Nat} {ws : Nat → Wa} (h : Stores w S n ws) {row : Option Nat} (hg : w.grownBy w' row) (hr : some S ≠ row) : Stores w' S n ws := by
  obtain ⟨⟨cs, hc⟩, hK⟩ := h
  have hc' := hc.grown hg hr
  refine ⟨⟨cs, hc'⟩, fun k hk => ?_⟩
  have h1 := KindW_iff.1 (hK k hk)
  refine KindW_iff.2 ⟨hc'.lt, fun j => hc'.frozen j, fun j hj => ?_⟩
  rw [hc'.cell, ← hc.cell]
  exact h1.2.2 j hj
theorem turn_of {w w1 w' : World} {S n : Nat} {ws : Nat → Wa} (hS : Stores w1 S n ws) (hg : w.grownBy w1 (some S)) (hz : w1.heap.size = w.heap.size) (hB : Below w.heap.size w1 w') : Stores w' S n ws ∧ w.grownBy w' (some S) := by
  rw [← hz] at hB
  exact ⟨hS.grown (grown_none hB) (by simp), hB.os.trans hg.os, hB.tape.trans hg.tape, hB.output.trans hg.output, Nat.le_trans (Nat.le_of_eq hz.symm) hB.size, fun j hj hne => (hB.block j (by omega)).trans (hg.block j hj hne)⟩
theorem Stores.same {w : World} {S n : Nat} {ws ws' : Nat → Wa} (h : Stores w S n ws) (e : ∀ k, k < n → ws k = ws' k) : Stores w S n ws' := ⟨h.1, fun k hk => e k hk ▸ h.2 k hk⟩
theorem grownBy_setS {w w' : World} {S : Nat} (h : w.grownBy w' (some S)) (i : Nat) (v : Value) : w.grownBy (w'.setCell ⟨S, i, none⟩ v) (some S) :=
  ⟨h.os, h.tape, h.output, by rw [size_set]; exact h.size, fun j hj hne => (Below.heap_setCell _ _ _ j (fun e => hne (by rw [e]))).trans (h.block j hj hne)⟩
theorem known_mould (b S : Nat) (spv ov : Value) (room : Int) (w : World) (hb : Blk w b 148 #[spv, .int .i64 room, .slice (some ⟨S, 0, none⟩) 1 1, ov]) (hS : Stores w S 1 (fun _ => Wa.zero)) :
    Calls Try.prog 38 #[.pointer (some ⟨b, 0, none⟩), .int .i64 0, .int .i64 10] w fun e w' => e = .returned (.int .i64 0) ∧ Blk w' b 148 #[spv, .int .i64 room, .slice (some ⟨S, 0, none⟩) 1 1, ov] ∧ Stores w' S 1 (fun _ => ⟨10, 0, 0, 0, 0, 0, 0⟩) ∧ w.grownBy w' (some S) := by
  obtain ⟨cs, hcs⟩ := hS.1
  have hbS : some b ≠ some S := fun e => hb.ne_ hcs (by decide) (by injection e)
  refine (mould_ok b S 1 0 spv ov room 10 Wa.zero w hb (by omega) (by omega) (hS.2 0 (by omega)) ⟨by decide, by decide, by decide, by decide, by decide, by decide, by decide, by decide, by decide⟩ (by omega) (by omega) (by decide)).mono ?_
  rintro e w' ⟨rfl, hB⟩
  have hS1 := hS.set (k := 0) (i := 0) (by omega) (by omega) 10
  have hS' : Stores _ S 1 (fun _ => ⟨10, 0, 0, 0, 0, 0, 0⟩) := hS1.same fun k (hk : k < 1) => by
    obtain rfl : k = 0 := by omega
    rfl
  obtain ⟨h1, h2⟩ := turn_of hS' (grownBy_setS (World.grownBy.refl w _) _ _) (size_set _ _ _) hB
  exact ⟨rfl, hb.grown h2 hbS, h1, h2⟩
theorem known_dry (b S : Nat) (spv ov : Value) (room : Int) (w : World) (hb : Blk w b 148 #[spv, .int .i64 room, .slice (some ⟨S, 0, none⟩) 1 1, ov]) (hS : Stores w S 1 (fun _ => ⟨10, 0, 0, 0, 0, 0, 0⟩)) :
    Calls Try.prog 39 #[.pointer (some ⟨b, 0, none⟩), .int .i64 0, .int .i64 8, .int .i64 1] w fun e w' => e = .returned (.int .i64 0) ∧ Blk w' b 148 #[spv, .int .i64 room, .slice (some ⟨S, 0, none⟩) 1 1, ov] ∧ Stores w' S 1 (fun _ => ⟨2, 7, 0, 0, 0, 1, 0⟩) ∧ w.grownBy w' (some S) := by
  obtain ⟨cs, hcs⟩ := hS.1
  have hbS : some b ≠ some S := fun e => hb.ne_ hcs (by decide) (by injection e)
  refine (dry_ok b S 1 0 spv ov room 8 ⟨10, 0, 0, 0, 0, 0, 0⟩ w hb (by omega) (by omega) (hS.2 0 (by omega)) ⟨by decide, by decide, by decide, by decide, by decide, by decide, by decide, by decide, by decide⟩ 1 (by omega) (by omega) (by omega) (by decide)).mono ?_
  rintro e w' ⟨rfl, hB⟩
  have hS1 := (((hS.set (k := 0) (i := 0) (by omega) (by omega) 2).set (k := 0) (i := 1) (by omega) (by omega) 8).set (k := 0) (i := 1) (by omega) (by omega) 7).set (k := 0) (i := 5) (by omega) (by omega) 1
  have hS' : Stores _ S 1 (fun _ => ⟨2, 7, 0, 0, 0, 1, 0⟩) := hS1.same fun k (hk : k < 1) => by
    obtain rfl : k = 0 := by omega
    rfl
  obtain ⟨h1, h2⟩ := turn_of hS' (grownBy_setS (grownBy_setS (grownBy_setS (grownBy_setS (World.grownBy.refl w _) _ _) _ _) _ _) _ _) (by simp only [size_set]) hB
  exact ⟨rfl, hb.grown h2 hbS, h1, h2⟩
end Go.Proofs.Ytlhekifmkkgjlaa
/- Contracts of chapter 8 on the book: Lay, Break, Replace of a valid kind. -/
namespace Go.Proofs.Ytlhekifmkkgjlaa
open Go Go.RowKit
set_option maxHeartbeats 1000000
theorem lay_state (b S n k : Nat) (spv ov : Value) (room m : Int) (x : Wa) (w : World) (hb : Blk w b 148 #[spv, .int .i64 room, .slice (some ⟨S, 0, none⟩) n n, ov]) (hn : n ≤ 20) (hk : k < n) (hS : KindW w S (k * 7) x) (ho : OkW x) (h0 : 0 ≤ m) (h1 : m ≤ 1000000000) (hlt : x.fired < m) : Calls Try.prog 42 #[.pointer (some ⟨b, 0, none⟩), .int .i64 k, .int .i64 m] w fun e w' => e = .returned (.int .i64 9) ∧ Below w.heap.size w w' := by
  have b0 : Below w.heap.size w (w.alloc (.cells #[.int .i64 m] 3)) := (Below.refl _ _).alloc (Nat.le_refl _) _
  have HC := hide (change_ok b S n k spv ov room m 9 87 #[.pointer (some ⟨w.heap.size, 0, none⟩)] id _ (hb.ext b0) hn hk h0 h1 (enters_of Try.func87 (by kernel_rfl) rfl) (fun W h => h) (fun W h => lay1_state _ _ _ _ _ _ _ m S (k * 7) w.heap.size W ((hS.below b0 hS.1).below h (by have := hS.1; simp only [World.size_alloc]; omega)) ho ((h.cell (by simp)).trans (by simp)) (by have := h.size; simp at this; omega) (by have := hS.1; omega) h0 h1 hlt))
  have B0 := hide b0
  clear b0 hb hS
  go_enter Try.func42, Try.ntmps42
  go_wp2_with fail
  refine HC.out.mono ?_
  rintro e w1 ⟨rfl, hb1⟩
  go_wp2_with fail
  go_ret
  exact ⟨rfl, B0.out.trans (hb1.mono (by simp only [World.size_alloc]; omega))⟩
def layF (S o : Nat) (x : Wa) (m : Int) (W : World) : World := mv W S (o + 3) (o + 4) (x.fired - m) (x.laid + m)
theorem layF_B {B S o : Nat} {x : Wa} {m : Int} {w W : World} (h : Below B w W) : Below B (layF S o x m w) (layF S o x m W) := mvB h _ _ _ _ _
theorem lay_ok (b S n k : Nat) (spv ov : Value) (room m : Int) (x : Wa) (w : World) (hb : Blk w b 148 #[spv, .int .i64 room, .slice (some ⟨S, 0, none⟩) n n, ov]) (hn : n ≤ 20) (hk : k < n) (hS : KindW w S (k * 7) x) (ho : OkW x) (h0 : 0 ≤ m) (h1 : m ≤ 1000000000) (hlt : m ≤ x.fired) : Calls Try.prog 42 #[.pointer (some ⟨b, 0, none⟩), .int .i64 k, .int .i64 m] w fun e w' => e = .returned (.int .i64 0) ∧ Below w.heap.size (layF S (k * 7) x m w) w' := by
  have b0 : Below w.heap.size w (w.alloc (.cells #[.int .i64 m] 3)) := (Below.refl _ _).alloc (Nat.le_refl _) _
  have HC := hide (change_ok b S n k spv ov room m 0 87 #[.pointer (some ⟨w.heap.size, 0, none⟩)] (layF S (k * 7) x m) _ (hb.ext b0) hn hk h0 h1 (enters_of Try.func87 (by kernel_rfl) rfl) (fun W h => layF_B h) (fun W h => lay1_ok _ _ _ _ _ _ _ m S (k * 7) w.heap.size W ((hS.below b0 hS.1).below h (by have := hS.1; simp only [World.size_alloc]; omega)) ho ((h.cell (by simp)).trans (by simp)) (by have := h.size; simp at this; omega) (by have := hS.1; omega) h0 h1 hlt))
  have B0 := hide b0
  clear b0 hb hS
  go_enter Try.func42, Try.ntmps42
  go_wp2_with fail
  refine HC.out.mono ?_
  rintro e w1 ⟨rfl, hb1⟩
  go_wp2_with fail
  go_ret
  exact ⟨rfl, (layF_B B0.out).trans (hb1.mono (by simp only [World.size_alloc]; omega))⟩
theorem break_state (b S n k : Nat) (spv ov : Value) (room m : Int) (x : Wa) (w : World) (hb : Blk w b 148 #[spv, .int .i64 room, .slice (some ⟨S, 0, none⟩) n n, ov]) (hn : n ≤ 20) (hk : k < n) (hS : KindW w S (k * 7) x) (ho : OkW x) (h0 : 0 ≤ m) (h1 : m ≤ 1000000000) (hlt : x.laid < m) : Calls Try.prog 43 #[.pointer (some ⟨b, 0, none⟩), .int .i64 k, .int .i64 m] w fun e w' => e = .returned (.int .i64 9) ∧ Below w.heap.size w w' := by
  have b0 : Below w.heap.size w (w.alloc (.cells #[.int .i64 m] 3)) := (Below.refl _ _).alloc (Nat.le_refl _) _
  have HC := hide (change_ok b S n k spv ov room m 9 88 #[.pointer (some ⟨w.heap.size, 0, none⟩)] id _ (hb.ext b0) hn hk h0 h1 (enters_of Try.func88 (by kernel_rfl) rfl) (fun W h => h) (fun W h => break1_state _ _ _ _ _ _ _ m S (k * 7) w.heap.size W ((hS.below b0 hS.1).below h (by have := hS.1; simp only [World.size_alloc]; omega)) ho ((h.cell (by simp)).trans (by simp)) (by have := h.size; simp at this; omega) (by have := hS.1; omega) h0 h1 hlt))
  have B0 := hide b0
  clear b0 hb hS
  go_enter Try.func43, Try.ntmps43
  go_wp2_with fail
  refine HC.out.mono ?_
  rintro e w1 ⟨rfl, hb1⟩
  go_wp2_with fail
  go_ret
  exact ⟨rfl, B0.out.trans (hb1.mono (by simp only [World.size_alloc]; omega))⟩
def breakF (S o : Nat) (x : Wa) (m : Int) (W : World) : World := (mv W S (o + 4) (o + 5) (x.laid - m) (x.broken + m)).setCell ⟨S, o + 6, none⟩ (.int .i64 (x.missing + m))
theorem breakF_B {B S o : Nat} {x : Wa} {m : Int} {w W : World} (h : Below B w W) : Below B (breakF S o x m w) (breakF S o x m W) := setB (mvB h _ _ _ _ _) _ _
theorem break_ok (b S n k : Nat) (spv ov : Value) (room m : Int) (x : Wa) (w : World) (hb : Blk w b 148 #[spv, .int .i64 room, .slice (some ⟨S, 0, none⟩) n n, ov]) (hn : n ≤ 20) (hk : k < n) (hS : KindW w S (k * 7) x) (ho : OkW x) (h0 : 0 ≤ m) (h1 : m ≤ 1000000000) (hlt : m ≤ x.laid) : Calls Try.prog 43 #[.pointer (some ⟨b, 0, none⟩), .int .i64 k, .int .i64 m] w fun e w' => e = .returned (.int .i64 0) ∧ Below w.heap.size (breakF S (k * 7) x m w) w' := by
  have b0 : Below w.heap.size w (w.alloc (.cells #[.int .i64 m] 3)) := (Below.refl _ _).alloc (Nat.le_refl _) _
  have HC := hide (change_ok b S n k spv ov room m 0 88 #[.pointer (some ⟨w.heap.size, 0, none⟩)] (breakF S (k * 7) x m) _ (hb.ext b0) hn hk h0 h1 (enters_of Try.func88 (by kernel_rfl) rfl) (fun W h => breakF_B h) (fun W h => break1_ok _ _ _ _ _ _ _ m S (k * 7) w.heap.size W ((hS.below b0 hS.1).below h (by have := hS.1; simp only [World.size_alloc]; omega)) ho ((h.cell (by simp)).trans (by simp)) (by have := h.size; simp at this; omega) (by have := hS.1; omega) h0 h1 hlt))
  have B0 := hide b0
  clear b0 hb hS
  go_enter Try.func43, Try.ntmps43
  go_wp2_with fail
  refine HC.out.mono ?_
  rintro e w1 ⟨rfl, hb1⟩
  go_wp2_with fail
  go_ret
  exact ⟨rfl, (breakF_B B0.out).trans (hb1.mono (by simp only [World.size_alloc]; omega))⟩
theorem replace_miss (b S n k : Nat) (spv ov : Value) (room m : Int) (x : Wa) (w : World) (hb : Blk w b 148 #[spv, .int .i64 room, .slice (some ⟨S, 0, none⟩) n n, ov]) (hn : n ≤ 20) (hk : k < n) (hS : KindW w S (k * 7) x) (ho : OkW x) (h0 : 0 ≤ m) (h1 : m ≤ 1000000000) (hlt : x.missing < m) : Calls Try.prog 44 #[.pointer (some ⟨b, 0, none⟩), .int .i64 k, .int .i64 m] w fun e w' => e = .returned (.int .i64 9) ∧ Below w.heap.size w w' := by
  have b0 : Below w.heap.size w (w.alloc (.cells #[.int .i64 m] 3)) := (Below.refl _ _).alloc (Nat.le_refl _) _
  have HC := hide (change_ok b S n k spv ov room m 9 89 #[.pointer (some ⟨w.heap.size, 0, none⟩)] id _ (hb.ext b0) hn hk h0 h1 (enters_of Try.func89 (by kernel_rfl) rfl) (fun W h => h) (fun W h => replace1_miss _ _ _ _ _ _ _ m S (k * 7) w.heap.size W ((hS.below b0 hS.1).below h (by have := hS.1; simp only [World.size_alloc]; omega)) ho ((h.cell (by simp)).trans (by simp)) (by have := h.size; simp at this; omega) (by have := hS.1; omega) h0 h1 hlt))
  have B0 := hide b0
  clear b0 hb hS
  go_enter Try.func44, Try.ntmps44
  go_wp2_with fail
  refine HC.out.mono ?_
  rintro e w1 ⟨rfl, hb1⟩
  go_wp2_with fail
  go_ret
  exact ⟨rfl, B0.out.trans (hb1.mono (by simp only [World.size_alloc]; omega))⟩
theorem replace_state (b S n k : Nat) (spv ov : Value) (room m : Int) (x : Wa) (w : World) (hb : Blk w b 148 #[spv, .int .i64 room, .slice (some ⟨S, 0, none⟩) n n, ov]) (hn : n ≤ 20) (hk : k < n) (hS : KindW w S (k * 7) x) (ho : OkW x) (h0 : 0 ≤ m) (h1 : m ≤ 1000000000) (hg : m ≤ x.missing) (hlt : x.fired < m) : Calls Try.prog 44 #[.pointer (some ⟨b, 0, none⟩), .int .i64 k, .int .i64 m] w fun e w' => e = .returned (.int .i64 9) ∧ Below w.heap.size w w' := by
  have b0 : Below w.heap.size w (w.alloc (.cells #[.int .i64 m] 3)) := (Below.refl _ _).alloc (Nat.le_refl _) _
  have HC := hide (change_ok b S n k spv ov room m 9 89 #[.pointer (some ⟨w.heap.size, 0, none⟩)] id _ (hb.ext b0) hn hk h0 h1 (enters_of Try.func89 (by kernel_rfl) rfl) (fun W h => h) (fun W h => replace1_state _ _ _ _ _ _ _ m S (k * 7) w.heap.size W ((hS.below b0 hS.1).below h (by have := hS.1; simp only [World.size_alloc]; omega)) ho ((h.cell (by simp)).trans (by simp)) (by have := h.size; simp at this; omega) (by have := hS.1; omega) h0 h1 hg hlt))
  have B0 := hide b0
  clear b0 hb hS
  go_enter Try.func44, Try.ntmps44
  go_wp2_with fail
  refine HC.out.mono ?_
  rintro e w1 ⟨rfl, hb1⟩
  go_wp2_with fail
  go_ret
  exact ⟨rfl, B0.out.trans (hb1.mono (by simp only [World.size_alloc]; omega))⟩
def replF (S o : Nat) (x : Wa) (m : Int) (W : World) : World := (mv W S (o + 3) (o + 4) (x.fired - m) (x.laid + m)).setCell ⟨S, o + 6, none⟩ (.int .i64 (x.missing - m))
theorem replF_B {B S o : Nat} {x : Wa} {m : Int} {w W : World} (h : Below B w W) : Below B (replF S o x m w) (replF S o x m W) := setB (mvB h _ _ _ _ _) _ _
theorem replace_ok (b S n k : Nat) (spv ov : Value) (room m : Int) (x : Wa) (w : World) (hb : Blk w b 148 #[spv, .int .i64 room, .slice (some ⟨S, 0, none⟩) n n, ov]) (hn : n ≤ 20) (hk : k < n) (hS : KindW w S (k * 7) x) (ho : OkW x) (h0 : 0 ≤ m) (h1 : m ≤ 1000000000) (hg : m ≤ x.missing) (hlt : m ≤ x.fired) : Calls Try.prog 44 #[.pointer (some ⟨b, 0, none⟩), .int .i64 k, .int .i64 m] w fun e w' => e = .returned (.int .i64 0) ∧ Below w.heap.size (replF S (k * 7) x m w) w' := by
  have b0 : Below w.heap.size w (w.alloc (.cells #[.int .i64 m] 3)) := (Below.refl _ _).alloc (Nat.le_refl _) _
  have HC := hide (change_ok b S n k spv ov room m 0 89 #[.pointer (some ⟨w.heap.size, 0, none⟩)] (replF S (k * 7) x m) _ (hb.ext b0) hn hk h0 h1 (enters_of Try.func89 (by kernel_rfl) rfl) (fun W h => replF_B h) (fun W h => replace1_ok _ _ _ _ _ _ _ m S (k * 7) w.heap.size W ((hS.below b0 hS.1).below h (by have := hS.1; simp only [World.size_alloc]; omega)) ho ((h.cell (by simp)).trans (by simp)) (by have := h.size; simp at this; omega) (by have := hS.1; omega) h0 h1 hg hlt))
  have B0 := hide b0
  clear b0 hb hS
  go_enter Try.func44, Try.ntmps44
  go_wp2_with fail
  refine HC.out.mono ?_
  rintro e w1 ⟨rfl, hb1⟩
  go_wp2_with fail
  go_ret
  exact ⟨rfl, (replF_B B0.out).trans (hb1.mono (by simp only [World.size_alloc]; omega))⟩
end Go.Proofs.Ytlhekifmkkgjlaa
/- A map[int]bool that a call keeps as a set. -/
namespace Go.Proofs.Ytlhekifmkkgjlaa
open Go Go.RowKit
set_option maxHeartbeats 1000000
set_option maxRecDepth 100000
/-- block b is a set of at most n numbers: those of which p is true -/
def SeenAt (w : World) (b n : Nat) (p : Int → Bool) : Prop :=
  ∃ D : DataW Unit, w.ownsMap Try.prog 3 (plainElem Try.prog 4) b n D ∧ Maps.IsMap D ∧ ∀ z, D.atKey (.int .i64 z) (.lit (.bool false)) = .lit (.bool (p z))
theorem SeenAt.lt {w : World} {b n : Nat} {p : Int → Bool} (h : SeenAt w b n p) : b < w.heap.size := by
  obtain ⟨D, h1, -⟩ := h
  exact h1.lt
theorem SeenAt.made (w : World) : SeenAt (w.alloc (.map #[] 0)) w.heap.size 0 (fun _ => false) :=
  ⟨.map [], World.ownsMap_made w _ _ _, Maps.isMap_empty, fun _ => rfl⟩
theorem SeenAt.kept {w w' : World} {b n : Nat} {p : Int → Bool} (h : SeenAt w b n p) {row : Option Nat} (hg : w.grownBy w' row) (hne : some b ≠ row) : SeenAt w' b n p := by
  obtain ⟨D, h1, h2, h3⟩ := h
  exact ⟨D, h1.kept hg hne, h2, h3⟩
theorem SeenAt.alloc {w : World} {b n : Nat} {p : Int → Bool} (h : SeenAt w b n p) (o : Obj) : SeenAt (w.alloc o) b n p := h.kept (World.grownBy_alloc w o none) (by simp)
theorem SeenAt.drew {w : World} {b n : Nat} {p : Int → Bool} (h : SeenAt w b n p) : SeenAt w.drew b n p := h
theorem SeenAt.ext {w w' : World} {b n : Nat} {p : Int → Bool} (h : SeenAt w b n p) (hb : Below w.heap.size w w') : SeenAt w' b n p := h.kept (grown_none hb) (by simp)
def inInt (z : Int) : Prop := -9223372036854775808 ≤ z ∧ z ≤ 9223372036854775807
theorem wf_inInt {z : Int} (h : inInt z) : (Lit.int .i64 z).wf = true := by
  simpa [Lit.wf, IntKind.min, IntKind.max, IntKind.signed, IntKind.bits, inInt] using h
theorem key_i64 {z : Int} (h : inInt z) : keyOf Try.prog 3 (.int .i64 z) = some (.int .i64 z) := Maps.keyOf_int_mk Try.underlying3 (wf_inInt h)
theorem seen_look {w : World} {b n : Nat} {p : Int → Bool} (h : SeenAt w b n p) {z : Int} (hz : inInt z) :
    (Instr.lookup 161 (.map (some b)) (.int .i64 z) false).run Try.prog w = .ok (.bool (p z)) w := by
  obtain ⟨D, h1, h2, h3⟩ := h
  obtain ⟨v, ps, hrun, hv⟩ := h1.lookup (t := 161) (e := 4) (z := .bool false) (zd := .lit (.bool false)) (zp := []) (Maps.int_keyed Try.underlying3) Try.underlying161 (by kernel_rfl) (plainElem_bool Try.underlying4 false) (key_i64 hz)
  rw [h3] at hv
  rw [hrun]
  have hk : v = .bool (p z) := by
    unfold plainElem at hv
    rw [Try.underlying4] at hv
    cases v <;> simp at hv
    rw [hv.1]
  rw [hk]
theorem seen_put {w : World} {b n : Nat} {p : Int → Bool} (h : SeenAt w b n p) (hn : n < maxLen) {z : Int} (hz : inInt z) :
    ∃ w', (Instr.mapUpdate 161 (.map (some b)) (.int .i64 z) (.bool true)).run Try.prog w = .ok () w' ∧ SeenAt w' b (n + 1) (fun x => decide (x = z) || p x) ∧ w.grownBy w' (some b) := by
  obtain ⟨D, h1, h2, h3⟩ := h
  obtain ⟨w', hrun, hown, hg⟩ := h1.update (t := 161) (e := 4) (val := .bool true) (Maps.int_keyed Try.underlying3) Try.underlying161 hn (key_i64 hz) (plainElem_bool Try.underlying4 true)
  refine ⟨w', hrun, ⟨_, hown, h2.put _ _, fun x => ?_⟩, hg⟩
  by_cases e : x = z
  · subst e
    rw [Maps.atKey_put_same h2 (by simp [WideAt.IsKeyLit])]
    simp
  · rw [Maps.atKey_put_other (fun h => e (by injection h)), h3]
    simp [e]
end Go.Proofs.Ytlhekifmkkgjlaa
/- Boxes known whole: what their cells hold. -/
namespace Go.Proofs.Ytlhekifmkkgjlaa
open Go Go.RowKit
section
variable {w : World} {p : Nat} {t : TypeId} {a b c d e f g : Value}
theorem bx1 (h : Blk w p t #[a]) : p < w.heap.size ∧ w.cell? ⟨p, 0, none⟩ = some a := ⟨h.lt, by rw [h.cell]; rfl⟩
theorem bx2 (h : Blk w p t #[a, b]) : p < w.heap.size ∧ w.cell? ⟨p, 0, none⟩ = some a ∧ w.cell? ⟨p, 1, none⟩ = some b := ⟨h.lt, by rw [h.cell]; rfl, by rw [h.cell]; rfl⟩
theorem bx3 (h : Blk w p t #[a, b, c]) : p < w.heap.size ∧ w.cell? ⟨p, 0, none⟩ = some a ∧ w.cell? ⟨p, 1, none⟩ = some b ∧ w.cell? ⟨p, 2, none⟩ = some c := ⟨h.lt, by rw [h.cell]; rfl, by rw [h.cell]; rfl, by rw [h.cell]; rfl⟩
theorem bx4 (h : Blk w p t #[a, b, c, d]) : p < w.heap.size ∧ w.cell? ⟨p, 0, none⟩ = some a ∧ w.cell? ⟨p, 1, none⟩ = some b ∧ w.cell? ⟨p, 2, none⟩ = some c ∧ w.cell? ⟨p, 3, none⟩ = some d :=
  ⟨h.lt, by rw [h.cell]; rfl, by rw [h.cell]; rfl, by rw [h.cell]; rfl, by rw [h.cell]; rfl⟩
theorem bx5 (h : Blk w p t #[a, b, c, d, e]) : p < w.heap.size ∧ w.cell? ⟨p, 0, none⟩ = some a ∧ w.cell? ⟨p, 1, none⟩ = some b ∧ w.cell? ⟨p, 2, none⟩ = some c ∧ w.cell? ⟨p, 3, none⟩ = some d ∧ w.cell? ⟨p, 4, none⟩ = some e :=
  ⟨h.lt, by rw [h.cell]; rfl, by rw [h.cell]; rfl, by rw [h.cell]; rfl, by rw [h.cell]; rfl, by rw [h.cell]; rfl⟩
theorem bx7 (h : Blk w p t #[a, b, c, d, e, f, g]) : p < w.heap.size ∧ w.cell? ⟨p, 0, none⟩ = some a ∧ w.cell? ⟨p, 1, none⟩ = some b ∧ w.cell? ⟨p, 2, none⟩ = some c ∧ w.cell? ⟨p, 3, none⟩ = some d ∧ w.cell? ⟨p, 4, none⟩ = some e ∧ w.cell? ⟨p, 5, none⟩ = some f ∧ w.cell? ⟨p, 6, none⟩ = some g :=
  ⟨h.lt, by rw [h.cell]; rfl, by rw [h.cell]; rfl, by rw [h.cell]; rfl, by rw [h.cell]; rfl, by rw [h.cell]; rfl, by rw [h.cell]; rfl, by rw [h.cell]; rfl⟩
end
section
variable {F : Fence} {n : Nat} {P : Program} {ops : Array Oper} {Q : Exit → Act → World → Prop} {md : Region.Mode} {S : World → Prop}
/-- one of two operations comes up -/
theorem wpAnyJ_two (i j : Nat) {oi oj : Oper} {fuel : Nat} {listed : Array Bool} {a : Act} {w : World} (hi : ops[i]? = some oi) (hj : ops[j]? = some oj) (hr : Region.ready md ops listed = [i, j])
    (h : ∀ K : Act → World → Prop, Hid (∀ a w, (lastOp md ops i = false → S w) → wpAnyJ F n P md ops Q S fuel (listed.setIfInBounds i true) a w → K a w) → if Region.wanted oi (yielded ops a.tmps) = true then oi.wpIn F n P a w K Q else (∀ f, oi.about P w a.eval = some f → F.fn f) ∧ K (a.put oi.dst undef) w)
    (h' : ∀ K : Act → World → Prop, Hid (∀ a w, (lastOp md ops j = false → S w) → wpAnyJ F n P md ops Q S fuel (listed.setIfInBounds j true) a w → K a w) → if Region.wanted oj (yielded ops a.tmps) = true then oj.wpIn F n P a w K Q else (∀ f, oj.about P w a.eval = some f → F.fn f) ∧ K (a.put oj.dst undef) w) :
    wpAnyJ F n P md ops Q S (fuel + 1) listed a w := by
  refine ⟨fun h0 => (by rw [hr] at h0; cases h0), fun k hk => ?_⟩
  rw [hr] at hk
  rcases List.mem_cons.1 hk with rfl | hk
  · have h1 := h (fun a' w' => (lastOp md ops k = false → S w') ∧ wpAnyJ F n P md ops Q S fuel (listed.setIfInBounds k true) a' w') (show Hid _ from fun a w h1 h2 => ⟨h1, h2⟩)
    unfold wpOpIn
    simp only [hi]
    exact h1
  · obtain rfl := List.mem_singleton.1 hk
    have h1 := h' (fun a' w' => (lastOp md ops k = false → S w') ∧ wpAnyJ F n P md ops Q S fuel (listed.setIfInBounds k true) a' w') (show Hid _ from fun a w h1 h2 => ⟨h1, h2⟩)
    unfold wpOpIn
    simp only [hj]
    exact h1
end
/-- a piece of code that ends normally, in one of the states that R tells; what follows is shown once -/
def OnlyNormal (R : Act → World → Prop) : Exit → Act → World → Prop
  | .normal, a, w => R a w
  | _, _, _ => False
theorem OnlyNormal.imp {R : Act → World → Prop} {Q : Exit → Act → World → Prop} (h2 : ∀ a' w', R a' w' → Q .normal a' w') : ∀ e a w, OnlyNormal R e a w → Q e a w := fun e a w h => by
  cases e with
  | normal => exact h2 a w h
  | _ => exact (h : False).elim
theorem wp_cut {P : Program} {c : Code} {Q : Exit → Act → World → Prop} {a : Act} {w : World} (R : Act → Act → World → Prop) (h1 : c.wp P (OnlyNormal (R a)) a w) (h2 : ∀ a' w', R a a' w' → Q .normal a' w') : c.wp P Q a w :=
  wp_mono h1 (OnlyNormal.imp h2)
theorem wpIn_cut {F : Fence} {n : Nat} {P : Program} {c : Code} {Q : Exit → Act → World → Prop} {a : Act} {w : World} (R : Act → Act → World → Prop) (h1 : c.wpIn F n P (OnlyNormal (R a)) a w) (h2 : ∀ a' w', R a a' w' → Q .normal a' w') : c.wpIn F n P Q a w :=
  Code.wpIn_mono (OnlyNormal.imp h2) h1
end Go.Proofs.Ytlhekifmkkgjlaa
/- Contracts of chapter 8 on the book: Fire. -/
namespace Go.Proofs.Ytlhekifmkkgjlaa
open Go Go.RowKit Go.Shelf
set_option maxHeartbeats 2000000
set_option maxRecDepth 100000
/-- the error of the i-th batch behind those ahead of it -/
def batE (n : Nat) (ws : Nat → Wa) (x y : Nat → Int) (i : Nat) : Int :=
  if ¬ (0 ≤ x i ∧ x i ≤ (n : Int) - 1) then 7 else if anyTo (fun j => decide (x j = x i)) i = true then 6 else if ¬ (1 ≤ y i ∧ y i ≤ 1000000000) then 2 else if (ws (x i).toNat).dry < y i then 9 else 0
/-- the error of the first of k batches that has one -/
def batsE (n : Nat) (ws : Nat → Wa) (x y : Nat → Int) : Nat → Int
  | 0 => 0
  | k + 1 => if batsE n ws x y k ≠ 0 then batsE n ws x y k else batE n ws x y k
theorem batsE_zero {n : Nat} {ws : Nat → Wa} {x y : Nat → Int} {k : Nat} (h : batsE n ws x y k = 0) (h' : batE n ws x y k = 0) : batsE n ws x y (k + 1) = 0 := by
  show (if batsE n ws x y k ≠ 0 then batsE n ws x y k else batE n ws x y k) = 0
  rw [if_neg (by omega)]; exact h'
theorem batsE_first {n : Nat} {ws : Nat → Wa} {x y : Nat → Int} {k c : Nat} (h : batsE n ws x y k = 0) (h' : batE n ws x y k = c) (hc : c ≠ 0) : ∀ m, k < m → batsE n ws x y m = c
  | 0, hm => absurd hm (by omega)
  | m + 1, hm => by
    show (if batsE n ws x y m ≠ 0 then batsE n ws x y m else batE n ws x y m) = c
    by_cases e : k = m
    · subst e
      rw [if_neg (by omega)]; exact h'
    · have := batsE_first h h' hc m (by omega)
      rw [if_pos (by omega)]; exact this
/-- the room that k batches take -/
def spaceTo (sp : Nat → Int) (x y : Nat → Int) : Nat → Int
  | 0 => 0
  | k + 1 => spaceTo sp x y k + y k * sp (x k).toNat
theorem batsE_all {n : Nat} {ws : Nat → Wa} {x y : Nat → Int} : ∀ {m : Nat}, batsE n ws x y m = 0 → ∀ k, k < m → batE n ws x y k = 0
  | 0, _, k, hk => absurd hk (by omega)
  | m + 1, h, k, hk => by
    have h1 : (if batsE n ws x y m ≠ 0 then batsE n ws x y m else batE n ws x y m) = 0 := h
    by_cases e : batsE n ws x y m = 0
    · rw [if_neg (by omega)] at h1
      by_cases e' : k = m
      · subst e'; exact h1
      · exact batsE_all e k (by omega)
    · rw [if_pos e] at h1
      exact absurd h1 e
theorem batE_ok {n : Nat} {ws : Nat → Wa} {x y : Nat → Int} {k : Nat} (h : batE n ws x y k = 0) : ∃ K : Nat, x k = K ∧ K < n ∧ (∀ j, j < k → x j ≠ x k) ∧ 1 ≤ y k ∧ y k ≤ 1000000000 ∧ y k ≤ (ws K).dry := by
  unfold batE at h
  by_cases h1 : 0 ≤ x k ∧ x k ≤ (n : Int) - 1
  · rw [if_neg (by omega)] at h
    by_cases h2 : anyTo (fun j => decide (x j = x k)) k = true
    · rw [if_pos h2] at h; omega
    · rw [if_neg h2] at h
      by_cases h3 : 1 ≤ y k ∧ y k ≤ 1000000000
      · rw [if_neg (by omega)] at h
        by_cases h4 : (ws (x k).toNat).dry < y k
        · rw [if_pos h4] at h; omega
        · exact ⟨(x k).toNat, by omega, by omega, fun j hj e => h2 ((anyTo_iff _ _).2 ⟨j, hj, by simp [e]⟩), h3.1, h3.2, by omega⟩
      · rw [if_pos h3] at h; omega
  · rw [if_pos h1] at h; omega
/-- the stores behind k batches -/
def fireW (ws : Nat → Wa) (x y : Nat → Int) : Nat → Nat → Wa
  | 0 => ws
  | k + 1 => upd (fireW ws x y k) (x k).toNat (((fireW ws x y k (x k).toNat).put 1 ((fireW ws x y k (x k).toNat).dry - y k)).put 2 ((fireW ws x y k (x k).toNat).burning + y k))
theorem fireW_far {ws : Nat → Wa} {x y : Nat → Int} {K : Nat} : ∀ {k : Nat}, (∀ j, j < k → (x j).toNat ≠ K) → fireW ws x y k K = ws K
  | 0, _ => rfl
  | k + 1, h => by
    show upd (fireW ws x y k) (x k).toNat _ K = ws K
    rw [upd_ne _ _ (fun e => h k (by omega) e.symm)]
    exact fireW_far fun j hj => h j (by omega)
/-- only the stores and the book have changed -/
def Apart (w w' : World) (S b : Nat) : Prop := w'.os = w.os ∧ w'.tape = w.tape ∧ w'.output = w.output ∧ w.heap.size ≤ w'.heap.size ∧ ∀ j, j < w.heap.size → j ≠ S → j ≠ b → w'.heap[j]? = w.heap[j]?
theorem Apart.of_below {w w' : World} {S b : Nat} (h : Below w.heap.size w w') : Apart w w' S b := ⟨h.os, h.tape, h.output, h.size, fun j hj _ _ => h.block j hj⟩
theorem Apart.then {w w1 w' : World} {S b : Nat} (h : Apart w w1 S b) {row : Option Nat} (hg : w1.grownBy w' row) (hr : ∀ j, row = some j → j = S ∨ j = b ∨ w.heap.size ≤ j) : Apart w w' S b := by
  obtain ⟨h1, h2, h3, h4, h5⟩ := h
  refine ⟨hg.os.trans h1, hg.tape.trans h2, hg.output.trans h3, Nat.le_trans h4 hg.size, fun j hj hS hb => ?_⟩
  refine (hg.block j (by omega) (fun e => ?_)).trans (h5 j hj hS hb)
  rcases hr j e.symm with h | h | h <;> omega
theorem Apart.cell {w w' : World} {S b : Nat} (h : Apart w w' S b) {p : Addr} (hp : p.block < w.heap.size) (hS : p.block ≠ S) (hb : p.block ≠ b) : w'.cell? p = w.cell? p := World.cell?_of_block (w := w) (h.2.2.2.2 p.block hp hS hb)
def FirePost (n m : Nat) (room : Int) (sp : Nat → Int) (ws : Nat → Wa) (x y : Nat → Int) (b S : Nat) (spv : Value) (w : World) (e : Ending) (w' : World) : Prop :=
  (batsE n ws x y m ≠ 0 ∧ e = .returned (.int .i64 (batsE n ws x y m)) ∧ Below w.heap.size w w') ∨ (batsE n ws x y m = 0 ∧ room < spaceTo sp x y m ∧ e = .returned (.int .i64 8) ∧ Below w.heap.size w w') ∨ (batsE n ws x y m = 0 ∧ spaceTo sp x y m ≤ room ∧ e = .returned (.int .i64 0) ∧ ∃ ov, Blk w' b 148 #[spv, .int .i64 room, .slice (some ⟨S, 0, none⟩) n n, ov] ∧ w'.ownsRow w.heap.size 3 1 ov m (cellsOf 1 m fun j _ => .int .i64 (x j)) ∧ Stores w' S n (fireW ws x y m) ∧ Apart w w' S b)
theorem fire_any (b S n m c ab aoff sb soff sc : Nat) (room : Int) (sp : Nat → Int) (ws : Nat → Wa) (x y : Nat → Int) (w : World) (hbk : Blk w b 148 #[.slice (some ⟨sb, soff, none⟩) n sc, .int .i64 room, .slice (some ⟨S, 0, none⟩) n n, .slice none 0 0]) (hn1 : 1 ≤ n) (hn : n ≤ 20) (hS : Stores w S n ws) (ho : ∀ k, k < n → OkW (ws k)) (hsp : IR w w.heap.size (some ⟨sb, soff, none⟩) n sp) (hspb : ∀ k, k < n → 1 ≤ sp k ∧ sp k ≤ 1000) (habS : ab ≠ S) (habb : ab ≠ b) (hm1 : 1 ≤ m) (hm : m ≤ 20) (hR : PI w w.heap.size (some ⟨ab, aoff, none⟩) m x y) (hx : ∀ i, i < m → inInt (x i)) : Calls Try.prog 40 #[.pointer (some ⟨b, 0, none⟩), .slice (some ⟨ab, aoff, none⟩) m c] w (FirePost n m room sp ws x y b S (.slice (some ⟨sb, soff, none⟩) n sc) w) := by
  have HHAS := hide (fun (kind : Int) W (h : Below w.heap.size w W) => has_any b S n _ _ room kind W (hbk.ext h) hn hn1)
  have HBK := hide hbk
  have HST := hide hS
  have HOK := hide ho
  have HSP := hide hsp
  have HSB := hide hspb
  have HR := hide hR
  have HX := hide hx
  clear hbk hS ho hsp hspb hR hx
  have m2 : ¬ (m : Int) = 0 := by omega
  have m3 : ¬ 20 < (m : Int) := by omega
  have hmm := @run_makeMap Try.prog
  go_enter Try.func40, Try.ntmps40
  obtain ⟨g1, c0, c1, c2, c3⟩ := bx4 HBK.out
  go_wp2_with fail
  clear g1 c0 c1 c2 c3 hmm
  go_loopw [5, 33] (fun s i wr => ∃ k : Nat, i = .int .i64 k ∧ k ≤ m ∧ s = .int .i64 (spaceTo sp x y k) ∧ Hid (batsE n ws x y k = 0) ∧ Hid (0 ≤ spaceTo sp x y k ∧ spaceTo sp x y k ≤ k * 1000000000000) ∧ Hid (SeenAt wr w.heap.size k (fun z => anyTo (fun j => decide (x j = z)) k)) ∧ Hid (Below w.heap.size w wr)) (fun _ i _ => m - (intOf i).toNat)
  case atStart => exact ⟨0, rfl, by omega, rfl, hide rfl, hide ⟨by unfold spaceTo; omega, by unfold spaceTo; omega⟩, hide (SeenAt.made w), hide ((Below.refl _ w).alloc (Nat.le_refl _) _)⟩
  case round =>
    obtain ⟨k, rfl, hk, rfl, HE0, HSB2, HSEEN, HB⟩ := hrel
    by_cases hlt : k < m
    · obtain ⟨b', off', he, hb', hc1, hc2⟩ := PI.at_ (P2.below HR.out HB.out (Nat.le_refl _)) hlt
      injection he with he
      injection he with h1 h2
      subst h1 h2
      have hz : ab < wr.heap.size := by have := HB.out.size; omega
      have i1 : (0 : Int) ≤ (k : Int) := by omega
      have i2 : (k : Int) < (m : Int) := by omega
      go_wp2_with fail
      refine (HHAS.out (x k) _ (HB.out.alloc HB.out.size _)).mono ?_
      rintro e w1 ⟨rfl, hb1⟩
      have X1 := hide ((Blk.new wr 107 #[.int .i64 (x k), .int .i64 (y k)]).ext hb1)
      have HSEEN1 := hide ((HSEEN.out.alloc (.cells #[.int .i64 (x k), .int .i64 (y k)] 107)).ext hb1)
      have B1 := hide ((HB.out.alloc HB.out.size (.cells #[.int .i64 (x k), .int .i64 (y k)] 107)).trans (hb1.mono (HB.out.alloc HB.out.size _).size))
      clear hb1 hc1 hc2 hz hb'
      by_cases hk1 : 0 ≤ x k ∧ x k ≤ (n : Int) - 1
      · rw [decide_eq_true hk1]
        have hlk := seen_look HSEEN1.out (HX.out k hlt)
        cases hq : anyTo (fun j => decide (x j = x k)) k
        · rw [hq] at hlk
          obtain ⟨eXl, eX0, eX1⟩ := bx2 X1.out
          go_wp2_with fail
          refine (within_any 1 1000000000 _ 1 1 (fun _ => y k) _ (by decide) ?_).mono ?_
          · simpa using IR.one w1 (y k) 3
          rw [wiB_one]
          rintro e w2 ⟨rfl, hb2⟩
          have z1 := B1.out.size
          have zX := X1.out.lt
          have B2 := hide ((B1.out.alloc z1 (.cells #[.int .i64 (y k)] 3)).trans (hb2.mono (by simp only [World.size_alloc]; omega)))
          have X2 := hide ((X1.out.alloc (.cells #[.int .i64 (y k)] 3)).below hb2 (by simp only [World.size_alloc]; omega))
          have HSEEN2 := hide ((HSEEN1.out.alloc (.cells #[.int .i64 (y k)] 3)).kept (grown_none (hb2.mono (Nat.le_refl _))) (by simp))
          clear hb2 hlk
          clear eXl eX0 eX1
          by_cases hy : 1 ≤ y k ∧ y k ≤ 1000000000
          · rw [decide_eq_true hy]
            obtain ⟨K, hK⟩ : ∃ K : Nat, x k = K := ⟨(x k).toNat, by omega⟩
            have hKn : K < n := by omega
            have hbe : batE n ws x y k = if (ws K).dry < y k then 9 else 0 := by
              unfold batE
              rw [if_neg (by omega), if_neg (by rw [hq]; decide), if_neg (by omega), hK, Int.toNat_natCast]
            have hKi : inInt (K : Int) := hK ▸ HX.out k hlt
            have i3 : (0 : Int) ≤ (K : Int) := by omega
            have i4 : (K : Int) < (n : Int) := by omega
            go_wp2_with fail
            rw [hK] at X2
            have HSA : Hid ((fun W : World => (W.cell? ⟨b, 2, none⟩ = some (.slice (some ⟨S, 0, none⟩) n n) ∧ W.cell? ⟨wr.heap.size, 0, none⟩ = some (.int .i64 K) ∧ W.cell? ⟨wr.heap.size, 1, none⟩ = some (.int .i64 (y k))) ∧ W.cell? ⟨S, K * 7 + 1, none⟩ = some (.int .i64 (ws K).dry)) w2.drew) := hide ⟨⟨(bx4 (HBK.out.ext B2.out)).2.2.2.1, (bx2 X2.out).2⟩, (B2.out.cell (p := ⟨S, K * 7 + 1, none⟩) (HST.out.lt)).trans (HST.out.2 K hKn).2.2.2.1⟩
            by_cases hd : (ws K).dry < y k
            · refine wp_region_J (fun W : World => (W.cell? ⟨b, 2, none⟩ = some (.slice (some ⟨S, 0, none⟩) n n) ∧ W.cell? ⟨wr.heap.size, 0, none⟩ = some (.int .i64 K) ∧ W.cell? ⟨wr.heap.size, 1, none⟩ = some (.int .i64 (y k))) ∧ W.cell? ⟨S, K * 7 + 1, none⟩ = some (.int .i64 (ws K).dry)) (by kernel_rfl) ?_
              refine wpAnyJ_take 0 (v := ?_) (by first | exact hF | exact wideFn) HSA.out rfl (by kernel_rfl) (by kernel_rfl) (by kernel_rfl) (by kernel_rfl) rfl ?_ (by first | exact fun _ _ _ h => h | exact fun _ _ _ h => hQ2 _ _ _ _ _ h) ?_
              rotate_left
              · intro W hSW
                simp only [List.getElem_toArray, List.getElem_cons_zero, List.getElem_cons_succ]
                (try dsimp only at hSW)
                go_simp
                with_reducible rfl
              (try simp only [List.getElem_toArray, List.getElem_cons_zero, List.getElem_cons_succ, Act.put, List.setIfInBounds_toArray, List.set_cons_zero, List.set_cons_succ])
              refine wpAnyJ_take 1 (v := ?_) (by first | exact hF | exact wideFn) HSA.out rfl (by kernel_rfl) (by kernel_rfl) (by kernel_rfl) (by kernel_rfl) rfl ?_ (by first | exact fun _ _ _ h => h | exact fun _ _ _ h => hQ2 _ _ _ _ _ h) ?_
              rotate_left
              · intro W hSW
                simp only [List.getElem_toArray, List.getElem_cons_zero, List.getElem_cons_succ]
                (try dsimp only at hSW)
                go_simp
                with_reducible rfl
              (try simp only [List.getElem_toArray, List.getElem_cons_zero, List.getElem_cons_succ, Act.put, List.setIfInBounds_toArray, List.set_cons_zero, List.set_cons_succ])
              refine wpAnyJ_take 2 (v := ?_) (by first | exact hF | exact wideFn) HSA.out rfl (by kernel_rfl) (by kernel_rfl) (by kernel_rfl) (by kernel_rfl) rfl ?_ (by first | exact fun _ _ _ h => h | exact fun _ _ _ h => hQ2 _ _ _ _ _ h) ?_
              rotate_left
              · intro W hSW
                simp only [List.getElem_toArray, List.getElem_cons_zero, List.getElem_cons_succ]
                (try dsimp only at hSW)
                go_simp
                with_reducible rfl
              (try simp only [List.getElem_toArray, List.getElem_cons_zero, List.getElem_cons_succ, Act.put, List.setIfInBounds_toArray, List.set_cons_zero, List.set_cons_succ])
              refine wpAnyJ_take 3 (v := ?_) (by first | exact hF | exact wideFn) HSA.out rfl (by kernel_rfl) (by kernel_rfl) (by kernel_rfl) (by kernel_rfl) rfl ?_ (by first | exact fun _ _ _ h => h | exact fun _ _ _ h => hQ2 _ _ _ _ _ h) ?_
              rotate_left
              · intro W hSW
                simp only [List.getElem_toArray, List.getElem_cons_zero, List.getElem_cons_succ]
                (try dsimp only at hSW)
                go_simp
                with_reducible rfl
              (try simp only [List.getElem_toArray, List.getElem_cons_zero, List.getElem_cons_succ, Act.put, List.setIfInBounds_toArray, List.set_cons_zero, List.set_cons_succ])
              refine wpAnyJ_take 4 (v := ?_) (by first | exact hF | exact wideFn) HSA.out rfl (by kernel_rfl) (by kernel_rfl) (by kernel_rfl) (by kernel_rfl) rfl ?_ (by first | exact fun _ _ _ h => h | exact fun _ _ _ h => hQ2 _ _ _ _ _ h) ?_
              rotate_left
              · intro W hSW
                simp only [List.getElem_toArray, List.getElem_cons_zero, List.getElem_cons_succ]
                (try dsimp only at hSW)
                go_simp
                with_reducible rfl
              (try simp only [List.getElem_toArray, List.getElem_cons_zero, List.getElem_cons_succ, Act.put, List.setIfInBounds_toArray, List.set_cons_zero, List.set_cons_succ])
              refine wpAnyJ_take 5 (v := ?_) (by first | exact hF | exact wideFn) HSA.out rfl (by kernel_rfl) (by kernel_rfl) (by kernel_rfl) (by kernel_rfl) rfl ?_ (by first | exact fun _ _ _ h => h | exact fun _ _ _ h => hQ2 _ _ _ _ _ h) ?_
              rotate_left
              · intro W hSW
                simp only [List.getElem_toArray, List.getElem_cons_zero, List.getElem_cons_succ]
                (try dsimp only at hSW)
                go_simp
                with_reducible rfl
              (try simp only [List.getElem_toArray, List.getElem_cons_zero, List.getElem_cons_succ, Act.put, List.setIfInBounds_toArray, List.set_cons_zero, List.set_cons_succ])
              refine wpAnyJ_take 6 (v := ?_) (by first | exact hF | exact wideFn) HSA.out rfl (by kernel_rfl) (by kernel_rfl) (by kernel_rfl) (by kernel_rfl) rfl ?_ (by first | exact fun _ _ _ h => h | exact fun _ _ _ h => hQ2 _ _ _ _ _ h) ?_
              rotate_left
              · intro W hSW
                simp only [List.getElem_toArray, List.getElem_cons_zero, List.getElem_cons_succ]
                (try dsimp only at hSW)
                go_simp
                with_reducible rfl
              (try simp only [List.getElem_toArray, List.getElem_cons_zero, List.getElem_cons_succ, Act.put, List.setIfInBounds_toArray, List.set_cons_zero, List.set_cons_succ])
              refine wpAnyJ_take 7 (v := ?_) (by first | exact hF | exact wideFn) HSA.out rfl (by kernel_rfl) (by kernel_rfl) (by kernel_rfl) (by kernel_rfl) rfl ?_ (by first | exact fun _ _ _ h => h | exact fun _ _ _ h => hQ2 _ _ _ _ _ h) ?_
              rotate_left
              · intro W hSW
                simp only [List.getElem_toArray, List.getElem_cons_zero, List.getElem_cons_succ]
                (try dsimp only at hSW)
                go_simp
                with_reducible rfl
              (try simp only [List.getElem_toArray, List.getElem_cons_zero, List.getElem_cons_succ, Act.put, List.setIfInBounds_toArray, List.set_cons_zero, List.set_cons_succ])
              refine wpAnyJ_take 8 (v := ?_) (by first | exact hF | exact wideFn) HSA.out rfl (by kernel_rfl) (by kernel_rfl) (by kernel_rfl) (by kernel_rfl) rfl ?_ (by first | exact fun _ _ _ h => h | exact fun _ _ _ h => hQ2 _ _ _ _ _ h) ?_
              rotate_left
              · intro W hSW
                simp only [List.getElem_toArray, List.getElem_cons_zero, List.getElem_cons_succ]
                (try dsimp only at hSW)
                go_simp
                with_reducible rfl
              (try simp only [List.getElem_toArray, List.getElem_cons_zero, List.getElem_cons_succ, Act.put, List.setIfInBounds_toArray, List.set_cons_zero, List.set_cons_succ])
              refine wpAnyJ_take 9 (v := ?_) (by first | exact hF | exact wideFn) HSA.out rfl (by kernel_rfl) (by kernel_rfl) (by kernel_rfl) (by kernel_rfl) rfl ?_ (by first | exact fun _ _ _ h => h | exact fun _ _ _ h => hQ2 _ _ _ _ _ h) ?_
              rotate_left
              · intro W hSW
                simp only [List.getElem_toArray, List.getElem_cons_zero, List.getElem_cons_succ]
                (try dsimp only at hSW)
                go_simp
                with_reducible rfl
              (try simp only [List.getElem_toArray, List.getElem_cons_zero, List.getElem_cons_succ, Act.put, List.setIfInBounds_toArray, List.set_cons_zero, List.set_cons_succ])
              refine wpAnyJ_take 10 (v := ?_) (by first | exact hF | exact wideFn) HSA.out rfl (by kernel_rfl) (by kernel_rfl) (by kernel_rfl) (by kernel_rfl) rfl ?_ (by first | exact fun _ _ _ h => h | exact fun _ _ _ h => hQ2 _ _ _ _ _ h) ?_
              rotate_left
              · intro W hSW
                simp only [List.getElem_toArray, List.getElem_cons_zero, List.getElem_cons_succ]
                (try dsimp only at hSW)
                go_simp
                with_reducible rfl
              (try simp only [List.getElem_toArray, List.getElem_cons_zero, List.getElem_cons_succ, Act.put, List.setIfInBounds_toArray, List.set_cons_zero, List.set_cons_succ])
              refine wpAnyJ_take 11 (v := ?_) (by first | exact hF | exact wideFn) HSA.out rfl (by kernel_rfl) (by kernel_rfl) (by kernel_rfl) (by kernel_rfl) rfl ?_ (by first | exact fun _ _ _ h => h | exact fun _ _ _ h => hQ2 _ _ _ _ _ h) ?_
              rotate_left
              · intro W hSW
                simp only [List.getElem_toArray, List.getElem_cons_zero, List.getElem_cons_succ]
                (try dsimp only at hSW)
                go_simp
                with_reducible rfl
              (try simp only [List.getElem_toArray, List.getElem_cons_zero, List.getElem_cons_succ, Act.put, List.setIfInBounds_toArray, List.set_cons_zero, List.set_cons_succ])
              refine wpAnyJ_take 12 (v := ?_) (by first | exact hF | exact wideFn) HSA.out rfl (by kernel_rfl) (by kernel_rfl) (by kernel_rfl) (by kernel_rfl) rfl ?_ (by first | exact fun _ _ _ h => h | exact fun _ _ _ h => hQ2 _ _ _ _ _ h) ?_
              rotate_left
              · intro W hSW
                simp only [List.getElem_toArray, List.getElem_cons_zero, List.getElem_cons_succ]
                (try dsimp only at hSW)
                go_simp
                with_reducible rfl
              (try simp only [List.getElem_toArray, List.getElem_cons_zero, List.getElem_cons_succ, Act.put, List.setIfInBounds_toArray, List.set_cons_zero, List.set_cons_succ])
              refine wpAnyJ_take 13 (v := ?_) (by first | exact hF | exact wideFn) HSA.out rfl (by kernel_rfl) (by kernel_rfl) (by kernel_rfl) (by kernel_rfl) rfl ?_ (by first | exact fun _ _ _ h => h | exact fun _ _ _ h => hQ2 _ _ _ _ _ h) ?_
              rotate_left
              · intro W hSW
                simp only [List.getElem_toArray, List.getElem_cons_zero, List.getElem_cons_succ]
                (try dsimp only at hSW)
                go_simp
                with_reducible rfl
              (try simp only [List.getElem_toArray, List.getElem_cons_zero, List.getElem_cons_succ, Act.put, List.setIfInBounds_toArray, List.set_cons_zero, List.set_cons_succ])
              refine wpAnyJ_done (by kernel_rfl) ?_
              go_wp2_with fail
              have he := batsE_first (c := 9) HE0.out (show batE n ws x y k = ((9 : Nat) : Int) by rw [hbe, if_pos hd]; rfl) (by omega) m hlt
              go_ret
              exact .inl ⟨by rw [he]; decide, by rw [he]; rfl, B2.out.drew⟩
            · refine wp_region_J (fun W : World => (W.cell? ⟨b, 2, none⟩ = some (.slice (some ⟨S, 0, none⟩) n n) ∧ W.cell? ⟨wr.heap.size, 0, none⟩ = some (.int .i64 K) ∧ W.cell? ⟨wr.heap.size, 1, none⟩ = some (.int .i64 (y k))) ∧ W.cell? ⟨S, K * 7 + 1, none⟩ = some (.int .i64 (ws K).dry)) (by kernel_rfl) ?_
              refine wpAnyJ_take 0 (v := ?_) (by first | exact hF | exact wideFn) HSA.out rfl (by kernel_rfl) (by kernel_rfl) (by kernel_rfl) (by kernel_rfl) rfl ?_ (by first | exact fun _ _ _ h => h | exact fun _ _ _ h => hQ2 _ _ _ _ _ h) ?_
              rotate_left
              · intro W hSW
                simp only [List.getElem_toArray, List.getElem_cons_zero, List.getElem_cons_succ]
                (try dsimp only at hSW)
                go_simp
                with_reducible rfl
              (try simp only [List.getElem_toArray, List.getElem_cons_zero, List.getElem_cons_succ, Act.put, List.setIfInBounds_toArray, List.set_cons_zero, List.set_cons_succ])
              refine wpAnyJ_take 1 (v := ?_) (by first | exact hF | exact wideFn) HSA.out rfl (by kernel_rfl) (by kernel_rfl) (by kernel_rfl) (by kernel_rfl) rfl ?_ (by first | exact fun _ _ _ h => h | exact fun _ _ _ h => hQ2 _ _ _ _ _ h) ?_
              rotate_left
              · intro W hSW
                simp only [List.getElem_toArray, List.getElem_cons_zero, List.getElem_cons_succ]
                (try dsimp only at hSW)
                go_simp
                with_reducible rfl
              (try simp only [List.getElem_toArray, List.getElem_cons_zero, List.getElem_cons_succ, Act.put, List.setIfInBounds_toArray, List.set_cons_zero, List.set_cons_succ])
              refine wpAnyJ_take 2 (v := ?_) (by first | exact hF | exact wideFn) HSA.out rfl (by kernel_rfl) (by kernel_rfl) (by kernel_rfl) (by kernel_rfl) rfl ?_ (by first | exact fun _ _ _ h => h | exact fun _ _ _ h => hQ2 _ _ _ _ _ h) ?_
              rotate_left
              · intro W hSW
                simp only [List.getElem_toArray, List.getElem_cons_zero, List.getElem_cons_succ]
                (try dsimp only at hSW)
                go_simp
                with_reducible rfl
              (try simp only [List.getElem_toArray, List.getElem_cons_zero, List.getElem_cons_succ, Act.put, List.setIfInBounds_toArray, List.set_cons_zero, List.set_cons_succ])
              refine wpAnyJ_take 3 (v := ?_) (by first | exact hF | exact wideFn) HSA.out rfl (by kernel_rfl) (by kernel_rfl) (by kernel_rfl) (by kernel_rfl) rfl ?_ (by first | exact fun _ _ _ h => h | exact fun _ _ _ h => hQ2 _ _ _ _ _ h) ?_
              rotate_left
              · intro W hSW
                simp only [List.getElem_toArray, List.getElem_cons_zero, List.getElem_cons_succ]
                (try dsimp only at hSW)
                go_simp
                with_reducible rfl
              (try simp only [List.getElem_toArray, List.getElem_cons_zero, List.getElem_cons_succ, Act.put, List.setIfInBounds_toArray, List.set_cons_zero, List.set_cons_succ])
              refine wpAnyJ_take 4 (v := ?_) (by first | exact hF | exact wideFn) HSA.out rfl (by kernel_rfl) (by kernel_rfl) (by kernel_rfl) (by kernel_rfl) rfl ?_ (by first | exact fun _ _ _ h => h | exact fun _ _ _ h => hQ2 _ _ _ _ _ h) ?_
              rotate_left
              · intro W hSW
                simp only [List.getElem_toArray, List.getElem_cons_zero, List.getElem_cons_succ]
                (try dsimp only at hSW)
                go_simp
                with_reducible rfl
              (try simp only [List.getElem_toArray, List.getElem_cons_zero, List.getElem_cons_succ, Act.put, List.setIfInBounds_toArray, List.set_cons_zero, List.set_cons_succ])
              refine wpAnyJ_take 5 (v := ?_) (by first | exact hF | exact wideFn) HSA.out rfl (by kernel_rfl) (by kernel_rfl) (by kernel_rfl) (by kernel_rfl) rfl ?_ (by first | exact fun _ _ _ h => h | exact fun _ _ _ h => hQ2 _ _ _ _ _ h) ?_
              rotate_left
              · intro W hSW
                simp only [List.getElem_toArray, List.getElem_cons_zero, List.getElem_cons_succ]
                (try dsimp only at hSW)
                go_simp
                with_reducible rfl
              (try simp only [List.getElem_toArray, List.getElem_cons_zero, List.getElem_cons_succ, Act.put, List.setIfInBounds_toArray, List.set_cons_zero, List.set_cons_succ])
              refine wpAnyJ_take 6 (v := ?_) (by first | exact hF | exact wideFn) HSA.out rfl (by kernel_rfl) (by kernel_rfl) (by kernel_rfl) (by kernel_rfl) rfl ?_ (by first | exact fun _ _ _ h => h | exact fun _ _ _ h => hQ2 _ _ _ _ _ h) ?_
              rotate_left
              · intro W hSW
                simp only [List.getElem_toArray, List.getElem_cons_zero, List.getElem_cons_succ]
                (try dsimp only at hSW)
                go_simp
                with_reducible rfl
              (try simp only [List.getElem_toArray, List.getElem_cons_zero, List.getElem_cons_succ, Act.put, List.setIfInBounds_toArray, List.set_cons_zero, List.set_cons_succ])
              refine wpAnyJ_take 7 (v := ?_) (by first | exact hF | exact wideFn) HSA.out rfl (by kernel_rfl) (by kernel_rfl) (by kernel_rfl) (by kernel_rfl) rfl ?_ (by first | exact fun _ _ _ h => h | exact fun _ _ _ h => hQ2 _ _ _ _ _ h) ?_
              rotate_left
              · intro W hSW
                simp only [List.getElem_toArray, List.getElem_cons_zero, List.getElem_cons_succ]
                (try dsimp only at hSW)
                go_simp
                with_reducible rfl
              (try simp only [List.getElem_toArray, List.getElem_cons_zero, List.getElem_cons_succ, Act.put, List.setIfInBounds_toArray, List.set_cons_zero, List.set_cons_succ])
              refine wpAnyJ_take 8 (v := ?_) (by first | exact hF | exact wideFn) HSA.out rfl (by kernel_rfl) (by kernel_rfl) (by kernel_rfl) (by kernel_rfl) rfl ?_ (by first | exact fun _ _ _ h => h | exact fun _ _ _ h => hQ2 _ _ _ _ _ h) ?_
              rotate_left
              · intro W hSW
                simp only [List.getElem_toArray, List.getElem_cons_zero, List.getElem_cons_succ]
                (try dsimp only at hSW)
                go_simp
                with_reducible rfl
              (try simp only [List.getElem_toArray, List.getElem_cons_zero, List.getElem_cons_succ, Act.put, List.setIfInBounds_toArray, List.set_cons_zero, List.set_cons_succ])
              refine wpAnyJ_take 9 (v := ?_) (by first | exact hF | exact wideFn) HSA.out rfl (by kernel_rfl) (by kernel_rfl) (by kernel_rfl) (by kernel_rfl) rfl ?_ (by first | exact fun _ _ _ h => h | exact fun _ _ _ h => hQ2 _ _ _ _ _ h) ?_
              rotate_left
              · intro W hSW
                simp only [List.getElem_toArray, List.getElem_cons_zero, List.getElem_cons_succ]
                (try dsimp only at hSW)
                go_simp
                with_reducible rfl
              (try simp only [List.getElem_toArray, List.getElem_cons_zero, List.getElem_cons_succ, Act.put, List.setIfInBounds_toArray, List.set_cons_zero, List.set_cons_succ])
              refine wpAnyJ_take 10 (v := ?_) (by first | exact hF | exact wideFn) HSA.out rfl (by kernel_rfl) (by kernel_rfl) (by kernel_rfl) (by kernel_rfl) rfl ?_ (by first | exact fun _ _ _ h => h | exact fun _ _ _ h => hQ2 _ _ _ _ _ h) ?_
              rotate_left
              · intro W hSW
                simp only [List.getElem_toArray, List.getElem_cons_zero, List.getElem_cons_succ]
                (try dsimp only at hSW)
                go_simp
                with_reducible rfl
              (try simp only [List.getElem_toArray, List.getElem_cons_zero, List.getElem_cons_succ, Act.put, List.setIfInBounds_toArray, List.set_cons_zero, List.set_cons_succ])
              refine wpAnyJ_take 11 (v := ?_) (by first | exact hF | exact wideFn) HSA.out rfl (by kernel_rfl) (by kernel_rfl) (by kernel_rfl) (by kernel_rfl) rfl ?_ (by first | exact fun _ _ _ h => h | exact fun _ _ _ h => hQ2 _ _ _ _ _ h) ?_
              rotate_left
              · intro W hSW
                simp only [List.getElem_toArray, List.getElem_cons_zero, List.getElem_cons_succ]
                (try dsimp only at hSW)
                go_simp
                with_reducible rfl
              (try simp only [List.getElem_toArray, List.getElem_cons_zero, List.getElem_cons_succ, Act.put, List.setIfInBounds_toArray, List.set_cons_zero, List.set_cons_succ])
              refine wpAnyJ_take 12 (v := ?_) (by first | exact hF | exact wideFn) HSA.out rfl (by kernel_rfl) (by kernel_rfl) (by kernel_rfl) (by kernel_rfl) rfl ?_ (by first | exact fun _ _ _ h => h | exact fun _ _ _ h => hQ2 _ _ _ _ _ h) ?_
              rotate_left
              · intro W hSW
                simp only [List.getElem_toArray, List.getElem_cons_zero, List.getElem_cons_succ]
                (try dsimp only at hSW)
                go_simp
                with_reducible rfl
              (try simp only [List.getElem_toArray, List.getElem_cons_zero, List.getElem_cons_succ, Act.put, List.setIfInBounds_toArray, List.set_cons_zero, List.set_cons_succ])
              refine wpAnyJ_take 13 (v := ?_) (by first | exact hF | exact wideFn) HSA.out rfl (by kernel_rfl) (by kernel_rfl) (by kernel_rfl) (by kernel_rfl) rfl ?_ (by first | exact fun _ _ _ h => h | exact fun _ _ _ h => hQ2 _ _ _ _ _ h) ?_
              rotate_left
              · intro W hSW
                simp only [List.getElem_toArray, List.getElem_cons_zero, List.getElem_cons_succ]
                (try dsimp only at hSW)
                go_simp
                with_reducible rfl
              (try simp only [List.getElem_toArray, List.getElem_cons_zero, List.getElem_cons_succ, Act.put, List.setIfInBounds_toArray, List.set_cons_zero, List.set_cons_succ])
              refine wpAnyJ_done (by kernel_rfl) ?_
              obtain ⟨w3, hrun3, hs3, hg3⟩ := seen_put (HSEEN2.out.drew) (by unfold maxLen; omega) hKi
              have zm : w.heap.size < wr.heap.size := HSEEN.out.lt
              have HS3 := hide hs3
              have B3 := hide (B2.out.drew.grown hg3 B2.out.size (fun j hj => by injection hj with hj; omega))
              have X3 := hide (X2.out.drew.grown hg3 (by intro hh; injection hh with hh; omega))
              clear hs3 hg3
              obtain ⟨eXl, eX0, eX1⟩ := bx2 X2.out
              go_wp2_with fail
              clear eXl eX0 eX1
              have HSP1 := hide (HSB.out K hKn)
              obtain ⟨p1, p2⟩ := HSP1.out
              have p3 : 0 ≤ y k * sp K := Int.mul_nonneg (by omega) (by omega)
              have p4 : y k * sp K ≤ 1000000000 * 1000 := Int.mul_le_mul hy.2 p2 (by omega) (by omega)
              obtain ⟨p5, p6⟩ := HSB2.out
              have hkk : (k : Int) * 1000000000000 ≤ 20 * 1000000000000 := Int.mul_le_mul_of_nonneg_right (by omega) (by omega)
              have Z1 := hide (show IntKind.i64.wrap (y k * sp K) = y k * sp K from IntWalk.i64_in _ (by omega))
              have Z2 := hide (show IntKind.i64.wrap (spaceTo sp x y k + y k * sp K) = spaceTo sp x y k + y k * sp K from IntWalk.i64_in _ (by omega))
              obtain ⟨sb', so', hse, hsb', hsc'⟩ := IR.at_ HSP.out hKn
              injection hse with hse
              injection hse with hs1 hs2
              subst hs1 hs2
              have HSB3 : Hid ((fun W : World => (W.cell? ⟨b, 0, none⟩ = some (.slice (some ⟨sb, soff, none⟩) n sc) ∧ W.cell? ⟨wr.heap.size, 0, none⟩ = some (.int .i64 K) ∧ W.cell? ⟨wr.heap.size, 1, none⟩ = some (.int .i64 (y k))) ∧ W.cell? ⟨sb, soff + K, none⟩ = some (.int .i64 (sp K))) w3.drew) := hide ⟨⟨(bx4 (HBK.out.ext B3.out)).2.1, (bx2 X3.out).2⟩, (B3.out.cell (p := ⟨sb, soff + K, none⟩) hsb').trans hsc'⟩
              clear hsc' HSA
              refine wp_region_J (fun W : World => (W.cell? ⟨b, 0, none⟩ = some (.slice (some ⟨sb, soff, none⟩) n sc) ∧ W.cell? ⟨wr.heap.size, 0, none⟩ = some (.int .i64 K) ∧ W.cell? ⟨wr.heap.size, 1, none⟩ = some (.int .i64 (y k))) ∧ W.cell? ⟨sb, soff + K, none⟩ = some (.int .i64 (sp K))) (by kernel_rfl) ?_
              refine wpAnyJ_take 0 (v := ?_) (by first | exact hF | exact wideFn) HSB3.out rfl (by kernel_rfl) (by kernel_rfl) (by kernel_rfl) (by kernel_rfl) rfl ?_ (by first | exact fun _ _ _ h => h | exact fun _ _ _ h => hQ2 _ _ _ _ _ h) ?_
              rotate_left
              · intro W hSW
                simp only [List.getElem_toArray, List.getElem_cons_zero, List.getElem_cons_succ]
                (try dsimp only at hSW)
                go_simp
                with_reducible rfl
              (try simp only [List.getElem_toArray, List.getElem_cons_zero, List.getElem_cons_succ, Act.put, List.setIfInBounds_toArray, List.set_cons_zero, List.set_cons_succ])
              refine wpAnyJ_take 1 (v := ?_) (by first | exact hF | exact wideFn) HSB3.out rfl (by kernel_rfl) (by kernel_rfl) (by kernel_rfl) (by kernel_rfl) rfl ?_ (by first | exact fun _ _ _ h => h | exact fun _ _ _ h => hQ2 _ _ _ _ _ h) ?_
              rotate_left
              · intro W hSW
                simp only [List.getElem_toArray, List.getElem_cons_zero, List.getElem_cons_succ]
                (try dsimp only at hSW)
                go_simp
                with_reducible rfl
              (try simp only [List.getElem_toArray, List.getElem_cons_zero, List.getElem_cons_succ, Act.put, List.setIfInBounds_toArray, List.set_cons_zero, List.set_cons_succ])
              refine wpAnyJ_take 2 (v := ?_) (by first | exact hF | exact wideFn) HSB3.out rfl (by kernel_rfl) (by kernel_rfl) (by kernel_rfl) (by kernel_rfl) rfl ?_ (by first | exact fun _ _ _ h => h | exact fun _ _ _ h => hQ2 _ _ _ _ _ h) ?_
              rotate_left
              · intro W hSW
                simp only [List.getElem_toArray, List.getElem_cons_zero, List.getElem_cons_succ]
                (try dsimp only at hSW)
                go_simp
                with_reducible rfl
              (try simp only [List.getElem_toArray, List.getElem_cons_zero, List.getElem_cons_succ, Act.put, List.setIfInBounds_toArray, List.set_cons_zero, List.set_cons_succ])
              refine wpAnyJ_take 3 (v := ?_) (by first | exact hF | exact wideFn) HSB3.out rfl (by kernel_rfl) (by kernel_rfl) (by kernel_rfl) (by kernel_rfl) rfl ?_ (by first | exact fun _ _ _ h => h | exact fun _ _ _ h => hQ2 _ _ _ _ _ h) ?_
              rotate_left
              · intro W hSW
                simp only [List.getElem_toArray, List.getElem_cons_zero, List.getElem_cons_succ]
                (try dsimp only at hSW)
                go_simp
                with_reducible rfl
              (try simp only [List.getElem_toArray, List.getElem_cons_zero, List.getElem_cons_succ, Act.put, List.setIfInBounds_toArray, List.set_cons_zero, List.set_cons_succ])
              refine wpAnyJ_take 4 (v := ?_) (by first | exact hF | exact wideFn) HSB3.out rfl (by kernel_rfl) (by kernel_rfl) (by kernel_rfl) (by kernel_rfl) rfl ?_ (by first | exact fun _ _ _ h => h | exact fun _ _ _ h => hQ2 _ _ _ _ _ h) ?_
              rotate_left
              · intro W hSW
                simp only [List.getElem_toArray, List.getElem_cons_zero, List.getElem_cons_succ]
                (try dsimp only at hSW)
                go_simp
                with_reducible rfl
              (try simp only [List.getElem_toArray, List.getElem_cons_zero, List.getElem_cons_succ, Act.put, List.setIfInBounds_toArray, List.set_cons_zero, List.set_cons_succ])
              refine wpAnyJ_take 5 (v := ?_) (by first | exact hF | exact wideFn) HSB3.out rfl (by kernel_rfl) (by kernel_rfl) (by kernel_rfl) (by kernel_rfl) rfl ?_ (by first | exact fun _ _ _ h => h | exact fun _ _ _ h => hQ2 _ _ _ _ _ h) ?_
              rotate_left
              · intro W hSW
                simp only [List.getElem_toArray, List.getElem_cons_zero, List.getElem_cons_succ]
                (try dsimp only at hSW)
                go_simp
                with_reducible rfl
              (try simp only [List.getElem_toArray, List.getElem_cons_zero, List.getElem_cons_succ, Act.put, List.setIfInBounds_toArray, List.set_cons_zero, List.set_cons_succ])
              refine wpAnyJ_take 6 (v := ?_) (by first | exact hF | exact wideFn) HSB3.out rfl (by kernel_rfl) (by kernel_rfl) (by kernel_rfl) (by kernel_rfl) rfl ?_ (by first | exact fun _ _ _ h => h | exact fun _ _ _ h => hQ2 _ _ _ _ _ h) ?_
              rotate_left
              · intro W hSW
                simp only [List.getElem_toArray, List.getElem_cons_zero, List.getElem_cons_succ]
                (try dsimp only at hSW)
                go_simp
                with_reducible rfl
              (try simp only [List.getElem_toArray, List.getElem_cons_zero, List.getElem_cons_succ, Act.put, List.setIfInBounds_toArray, List.set_cons_zero, List.set_cons_succ])
              refine wpAnyJ_take 7 (v := ?_) (by first | exact hF | exact wideFn) HSB3.out rfl (by kernel_rfl) (by kernel_rfl) (by kernel_rfl) (by kernel_rfl) rfl ?_ (by first | exact fun _ _ _ h => h | exact fun _ _ _ h => hQ2 _ _ _ _ _ h) ?_
              rotate_left
              · intro W hSW
                simp only [List.getElem_toArray, List.getElem_cons_zero, List.getElem_cons_succ]
                (try dsimp only at hSW)
                go_simp
                with_reducible rfl
              (try simp only [List.getElem_toArray, List.getElem_cons_zero, List.getElem_cons_succ, Act.put, List.setIfInBounds_toArray, List.set_cons_zero, List.set_cons_succ])
              refine wpAnyJ_take 8 (v := ?_) (by first | exact hF | exact wideFn) HSB3.out rfl (by kernel_rfl) (by kernel_rfl) (by kernel_rfl) (by kernel_rfl) rfl ?_ (by first | exact fun _ _ _ h => h | exact fun _ _ _ h => hQ2 _ _ _ _ _ h) ?_
              rotate_left
              · intro W hSW
                simp only [List.getElem_toArray, List.getElem_cons_zero, List.getElem_cons_succ]
                (try dsimp only at hSW)
                go_simp
                with_reducible rfl
              (try simp only [List.getElem_toArray, List.getElem_cons_zero, List.getElem_cons_succ, Act.put, List.setIfInBounds_toArray, List.set_cons_zero, List.set_cons_succ])
              refine wpAnyJ_take 9 (v := ?_) (by first | exact hF | exact wideFn) HSB3.out rfl (by kernel_rfl) (by kernel_rfl) (by kernel_rfl) (by kernel_rfl) rfl ?_ (by first | exact fun _ _ _ h => h | exact fun _ _ _ h => hQ2 _ _ _ _ _ h) ?_
              rotate_left
              · intro W hSW
                simp only [List.getElem_toArray, List.getElem_cons_zero, List.getElem_cons_succ]
                (try dsimp only at hSW)
                go_simp
                with_reducible rfl
              (try simp only [List.getElem_toArray, List.getElem_cons_zero, List.getElem_cons_succ, Act.put, List.setIfInBounds_toArray, List.set_cons_zero, List.set_cons_succ])
              refine wpAnyJ_take 10 (v := ?_) (by first | exact hF | exact wideFn) HSB3.out rfl (by kernel_rfl) (by kernel_rfl) (by kernel_rfl) (by kernel_rfl) rfl ?_ (by first | exact fun _ _ _ h => h | exact fun _ _ _ h => hQ2 _ _ _ _ _ h) ?_
              rotate_left
              · intro W hSW
                simp only [List.getElem_toArray, List.getElem_cons_zero, List.getElem_cons_succ]
                (try dsimp only at hSW)
                go_simp
                with_reducible rfl
              (try simp only [List.getElem_toArray, List.getElem_cons_zero, List.getElem_cons_succ, Act.put, List.setIfInBounds_toArray, List.set_cons_zero, List.set_cons_succ])
              refine wpAnyJ_take 11 (v := ?_) (by first | exact hF | exact wideFn) HSB3.out rfl (by kernel_rfl) (by kernel_rfl) (by kernel_rfl) (by kernel_rfl) rfl ?_ (by first | exact fun _ _ _ h => h | exact fun _ _ _ h => hQ2 _ _ _ _ _ h) ?_
              rotate_left
              · intro W hSW
                simp only [List.getElem_toArray, List.getElem_cons_zero, List.getElem_cons_succ]
                (try dsimp only at hSW)
                go_simp
                with_reducible rfl
              (try simp only [List.getElem_toArray, List.getElem_cons_zero, List.getElem_cons_succ, Act.put, List.setIfInBounds_toArray, List.set_cons_zero, List.set_cons_succ])
              rw [Z1.out]
              refine wpAnyJ_take 12 (v := ?_) (by first | exact hF | exact wideFn) HSB3.out rfl (by kernel_rfl) (by kernel_rfl) (by kernel_rfl) (by kernel_rfl) rfl ?_ (by first | exact fun _ _ _ h => h | exact fun _ _ _ h => hQ2 _ _ _ _ _ h) ?_
              rotate_left
              · intro W hSW
                simp only [List.getElem_toArray, List.getElem_cons_zero, List.getElem_cons_succ]
                (try dsimp only at hSW)
                go_simp
                with_reducible rfl
              (try simp only [List.getElem_toArray, List.getElem_cons_zero, List.getElem_cons_succ, Act.put, List.setIfInBounds_toArray, List.set_cons_zero, List.set_cons_succ])
              rw [Z2.out]
              refine wpAnyJ_take 13 (v := ?_) (by first | exact hF | exact wideFn) HSB3.out rfl (by kernel_rfl) (by kernel_rfl) (by kernel_rfl) (by kernel_rfl) rfl ?_ (by first | exact fun _ _ _ h => h | exact fun _ _ _ h => hQ2 _ _ _ _ _ h) ?_
              rotate_left
              · intro W hSW
                simp only [List.getElem_toArray, List.getElem_cons_zero, List.getElem_cons_succ]
                (try dsimp only at hSW)
                go_simp
                with_reducible rfl
              (try simp only [List.getElem_toArray, List.getElem_cons_zero, List.getElem_cons_succ, Act.put, List.setIfInBounds_toArray, List.set_cons_zero, List.set_cons_succ])
              refine wpAnyJ_done (by kernel_rfl) ?_
              clear HSB3
              go_wp2_with fail
              go_roundw
              case rel =>
                refine ⟨k + 1, by go_num, by omega, ?_, hide ?_, hide ?_, hide ?_, hide B3.out.drew⟩
                · show _ = Value.int .i64 (spaceTo sp x y k + y k * sp (x k).toNat)
                  rw [hK]; rfl
                · exact batsE_zero HE0.out (by rw [hbe, if_neg (by omega)])
                · show 0 ≤ spaceTo sp x y k + y k * sp (x k).toNat ∧ spaceTo sp x y k + y k * sp (x k).toNat ≤ _
                  rw [hK, Int.toNat_natCast]
                  constructor <;> (try push_cast) <;> omega
                · have hfe : (fun z => anyTo (fun j => decide (x j = z)) (k + 1)) = (fun z => decide (z = (K : Int)) || anyTo (fun j => decide (x j = z)) k) := funext fun z => by
                    show (anyTo (fun j => decide (x j = z)) k || decide (x k = z)) = _
                    rw [hK, Bool.or_comm]
                    congr 1
                    exact decide_eq_decide.2 ⟨fun h => h.symm, fun h => h.symm⟩
                  rw [hfe]
                  exact HS3.out.drew
              case measure => simp [intOf]; omega
          · rw [decide_eq_false hy]
            go_wp2_with fail
            have he := batsE_first HE0.out (show batE n ws x y k = (2 : Nat) by unfold batE; simp_all) (by omega) m hlt
            go_ret
            refine .inl ⟨by rw [he]; decide, by rw [he]; rfl, ?_⟩
            exact B2.out
        · rw [hq] at hlk
          obtain ⟨eXl, eX0, eX1⟩ := bx2 X1.out
          go_wp2_with fail
          have he := batsE_first HE0.out (show batE n ws x y k = (6 : Nat) by unfold batE; simp_all) (by omega) m hlt
          go_ret
          refine .inl ⟨by rw [he]; decide, by rw [he]; rfl, ?_⟩
          exact B1.out
      · rw [decide_eq_false hk1]
        go_wp2_with fail
        have he := batsE_first HE0.out (show batE n ws x y k = (7 : Nat) by unfold batE; simp_all) (by omega) m hlt
        go_ret
        refine .inl ⟨by rw [he]; decide, by rw [he]; rfl, ?_⟩
        exact B1.out
    · obtain rfl : k = m := by omega
      obtain ⟨g1, c0, c1, c2, c3⟩ := bx4 (HBK.out.ext HB.out)
      by_cases hroom : room < spaceTo sp x y k
      · go_wp2_with fail
        go_ret
        exact .inr (.inl ⟨HE0.out, hroom, rfl, HB.out⟩)
      · go_wp2_with fail
        clear g1 c0 c1 c2 c3
        obtain ⟨wo, rfl⟩ : ∃ wo : World, wo = wr := ⟨_, rfl⟩
        have AP := hide (Apart.of_below (S := S) (b := b) HB.out)
        have BK0 := hide (HBK.out.ext HB.out)
        have ST0 := hide (HST.out.below HB.out HST.out.lt)
        have OW0 : Hid (wo.ownsRow w.heap.size 3 1 (.slice none 0 0) 0 (cellsOf 1 0 fun j _ => .int .i64 (x j))) := hide ⟨by simp [cellsOf], .inl ⟨rfl, by simp [cellsOf]⟩⟩
        have HALL := hide (fun j hj => batE_ok (batsE_all HE0.out j hj))
        obtain ⟨i0, hi, hz0, hz1, hz2⟩ := info_parts info_int
        have HAPP := hide (fun (W : World) => @run_append_lies Try.prog W 56 56 w.heap.size 3 i0 _ 1 8 Try.underlying56 hi hz0 hz1 hz2 rfl (by omega))
        clear hi hz0 hz1 hz2
        go_loopw [93] (fun i wr => ∃ j : Nat, i = .int .i64 j ∧ j ≤ k ∧ ∃ ov, Hid (Blk wr b 148 #[.slice (some ⟨sb, soff, none⟩) n sc, .int .i64 room, .slice (some ⟨S, 0, none⟩) n n, ov]) ∧ Hid (wr.ownsRow w.heap.size 3 1 ov j (cellsOf 1 j fun j _ => .int .i64 (x j))) ∧ Hid (Stores wr S n (fireW ws x y j)) ∧ Hid (Apart w wr S b)) (fun i _ => k - (intOf i).toNat)
        case atStart => exact ⟨0, rfl, by omega, _, BK0, OW0, ST0, AP⟩
        case round =>
          obtain ⟨j, rfl, hjk, ov, BK, OW, ST, AQ⟩ := hrel
          clear BK0 OW0 ST0 AP
          by_cases hlt : j < k
          · obtain ⟨KK, hKK, hKn, hfar, y1, y2, y3⟩ := HALL.out j hlt
            have zw : w.heap.size ≤ wr.heap.size := AQ.out.2.2.2.1
            have hSl : S < w.heap.size := HST.out.lt
            have hbl : b < w.heap.size := HBK.out.lt
            obtain ⟨b', off', he, hb', hc1, hc2⟩ := PI.at_ HR.out hlt
            injection he with he
            injection he with h1 h2
            subst h1 h2
            have d1 : wr.cell? ⟨ab, aoff + j * 2, none⟩ = some (.int .i64 (x j)) := (AQ.out.cell (p := ⟨ab, aoff + j * 2, none⟩) hb' habS habb).trans hc1
            have d2 : wr.cell? ⟨ab, aoff + j * 2 + 1, none⟩ = some (.int .i64 (y j)) := (AQ.out.cell (p := ⟨ab, aoff + j * 2 + 1, none⟩) hb' habS habb).trans hc2
            rw [hKK] at d1
            have hz : ab < wr.heap.size := by omega
            have i1 : (0 : Int) ≤ (j : Int) := by omega
            have i2 : (j : Int) < (k : Int) := by omega
            have i3 : (0 : Int) ≤ (KK : Int) := by omega
            have i4 : (KK : Int) < (n : Int) := by omega
            clear hc1 hc2
            go_wp2_with fail
            clear d1 d2 hb' hz
            have X1 := hide (Blk.new wr 107 #[.int .i64 KK, .int .i64 (y j)])
            have BK1 := hide (BK.out.alloc (.cells #[.int .i64 KK, .int .i64 (y j)] 107))
            have ST1 := hide (Stores.alloc ST.out (.cells #[.int .i64 KK, .int .i64 (y j)] 107))
            have zx : wr.heap.size ≠ S := by omega
            have OW1 := hide (OW.out.alloc (.cells #[.int .i64 KK, .int .i64 (y j)] 107))
            have AQ1 := hide (AQ.out.then (World.grownBy_alloc wr (.cells #[.int .i64 KK, .int .i64 (y j)] 107) none) (fun _ h => by cases h))
            have hbS : b ≠ S := fun e => by
              obtain ⟨cs, hcs⟩ := HST.out.1
              exact HBK.out.ne_ hcs (by decide) e
            have hfw : fireW ws x y j KK = ws KK := fireW_far fun i hi => by
              obtain ⟨Ki, hKi, -⟩ := HALL.out i (by omega)
              have := hfar i hi
              rw [hKi, hKK] at this
              rw [hKi]
              omega
            have hz1 : (wr.alloc (.cells #[.int .i64 KK, .int .i64 (y j)] 107)).heap.size = wr.heap.size + 1 := by simp
            clear BK ST OW AQ HHAS HR HSP HSB HSEEN HB
            generalize hw1 : wr.alloc (.cells #[.int .i64 KK, .int .i64 (y j)] 107) = w1 at X1 BK1 ST1 OW1 AQ1 hz1 ⊢
            clear hw1
            have H29 : Hid ((fun W : World => W.cell? ⟨b, 2, none⟩ = some (.slice (some ⟨S, 0, none⟩) n n) ∧ W.cell? ⟨wr.heap.size, 0, none⟩ = some (.int .i64 KK)) w1.drew) := hide ⟨(bx4 BK1.out).2.2.2.1, (bx2 X1.out).2.1⟩
            refine wp_region_J (fun W : World => W.cell? ⟨b, 2, none⟩ = some (.slice (some ⟨S, 0, none⟩) n n) ∧ W.cell? ⟨wr.heap.size, 0, none⟩ = some (.int .i64 KK)) (by kernel_rfl) ?_
            refine wpAnyJ_take 0 (v := ?_) (by first | exact hF | exact wideFn) H29.out rfl (by kernel_rfl) (by kernel_rfl) (by kernel_rfl) (by kernel_rfl) rfl ?_ (by first | exact fun _ _ _ h => h | exact fun _ _ _ h => hQ2 _ _ _ _ _ h) ?_
            rotate_left
            · intro W hSW
              simp only [List.getElem_toArray, List.getElem_cons_zero, List.getElem_cons_succ]
              (try dsimp only at hSW)
              go_simp
              with_reducible rfl
            (try simp only [List.getElem_toArray, List.getElem_cons_zero, List.getElem_cons_succ, Act.put, List.setIfInBounds_toArray, List.set_cons_zero, List.set_cons_succ])
            refine wpAnyJ_take 1 (v := ?_) (by first | exact hF | exact wideFn) H29.out rfl (by kernel_rfl) (by kernel_rfl) (by kernel_rfl) (by kernel_rfl) rfl ?_ (by first | exact fun _ _ _ h => h | exact fun _ _ _ h => hQ2 _ _ _ _ _ h) ?_
            rotate_left
            · intro W hSW
              simp only [List.getElem_toArray, List.getElem_cons_zero, List.getElem_cons_succ]
              (try dsimp only at hSW)
              go_simp
              with_reducible rfl
            (try simp only [List.getElem_toArray, List.getElem_cons_zero, List.getElem_cons_succ, Act.put, List.setIfInBounds_toArray, List.set_cons_zero, List.set_cons_succ])
            refine wpAnyJ_take 2 (v := ?_) (by first | exact hF | exact wideFn) H29.out rfl (by kernel_rfl) (by kernel_rfl) (by kernel_rfl) (by kernel_rfl) rfl ?_ (by first | exact fun _ _ _ h => h | exact fun _ _ _ h => hQ2 _ _ _ _ _ h) ?_
            rotate_left
            · intro W hSW
              simp only [List.getElem_toArray, List.getElem_cons_zero, List.getElem_cons_succ]
              (try dsimp only at hSW)
              go_simp
              with_reducible rfl
            (try simp only [List.getElem_toArray, List.getElem_cons_zero, List.getElem_cons_succ, Act.put, List.setIfInBounds_toArray, List.set_cons_zero, List.set_cons_succ])
            refine wpAnyJ_take 3 (v := ?_) (by first | exact hF | exact wideFn) H29.out rfl (by kernel_rfl) (by kernel_rfl) (by kernel_rfl) (by kernel_rfl) rfl ?_ (by first | exact fun _ _ _ h => h | exact fun _ _ _ h => hQ2 _ _ _ _ _ h) ?_
            rotate_left
            · intro W hSW
              simp only [List.getElem_toArray, List.getElem_cons_zero, List.getElem_cons_succ]
              (try dsimp only at hSW)
              go_simp
              with_reducible rfl
            (try simp only [List.getElem_toArray, List.getElem_cons_zero, List.getElem_cons_succ, Act.put, List.setIfInBounds_toArray, List.set_cons_zero, List.set_cons_succ])
            refine wpAnyJ_take 4 (v := ?_) (by first | exact hF | exact wideFn) H29.out rfl (by kernel_rfl) (by kernel_rfl) (by kernel_rfl) (by kernel_rfl) rfl ?_ (by first | exact fun _ _ _ h => h | exact fun _ _ _ h => hQ2 _ _ _ _ _ h) ?_
            rotate_left
            · intro W hSW
              simp only [List.getElem_toArray, List.getElem_cons_zero, List.getElem_cons_succ]
              (try dsimp only at hSW)
              go_simp
              with_reducible rfl
            (try simp only [List.getElem_toArray, List.getElem_cons_zero, List.getElem_cons_succ, Act.put, List.setIfInBounds_toArray, List.set_cons_zero, List.set_cons_succ])
            refine wpAnyJ_take 5 (v := ?_) (by first | exact hF | exact wideFn) H29.out rfl (by kernel_rfl) (by kernel_rfl) (by kernel_rfl) (by kernel_rfl) rfl ?_ (by first | exact fun _ _ _ h => h | exact fun _ _ _ h => hQ2 _ _ _ _ _ h) ?_
            rotate_left
            · intro W hSW
              simp only [List.getElem_toArray, List.getElem_cons_zero, List.getElem_cons_succ]
              (try dsimp only at hSW)
              go_simp
              with_reducible rfl
            (try simp only [List.getElem_toArray, List.getElem_cons_zero, List.getElem_cons_succ, Act.put, List.setIfInBounds_toArray, List.set_cons_zero, List.set_cons_succ])
            refine wpAnyJ_take 6 (v := ?_) (by first | exact hF | exact wideFn) H29.out rfl (by kernel_rfl) (by kernel_rfl) (by kernel_rfl) (by kernel_rfl) rfl ?_ (by first | exact fun _ _ _ h => h | exact fun _ _ _ h => hQ2 _ _ _ _ _ h) ?_
            rotate_left
            · intro W hSW
              simp only [List.getElem_toArray, List.getElem_cons_zero, List.getElem_cons_succ]
              (try dsimp only at hSW)
              go_simp
              with_reducible rfl
            (try simp only [List.getElem_toArray, List.getElem_cons_zero, List.getElem_cons_succ, Act.put, List.setIfInBounds_toArray, List.set_cons_zero, List.set_cons_succ])
            refine wpAnyJ_take 7 (v := ?_) (by first | exact hF | exact wideFn) H29.out rfl (by kernel_rfl) (by kernel_rfl) (by kernel_rfl) (by kernel_rfl) rfl ?_ (by first | exact fun _ _ _ h => h | exact fun _ _ _ h => hQ2 _ _ _ _ _ h) ?_
            rotate_left
            · intro W hSW
              simp only [List.getElem_toArray, List.getElem_cons_zero, List.getElem_cons_succ]
              (try dsimp only at hSW)
              go_simp
              with_reducible rfl
            (try simp only [List.getElem_toArray, List.getElem_cons_zero, List.getElem_cons_succ, Act.put, List.setIfInBounds_toArray, List.set_cons_zero, List.set_cons_succ])
            refine wpAnyJ_done (by kernel_rfl) ?_
            have HKW : KindW w1 S (KK * 7) (ws KK) := by have := ST1.out.2 KK hKn; rw [hfw] at this; exact this
            obtain ⟨-, o2, o3, -, -, -, -, o8, -⟩ := HOK.out KK hKn
            obtain ⟨o1', -, -, o4', o5', o6', -, -, -⟩ := HOK.out KK hKn
            have HM := hide (move_ok (y j) (ws KK).dry (ws KK).burning S (KK * 7 + 1) (KK * 7 + 2) w1.drew.drew HKW.2.2.2.1 HKW.2.2.2.2.1 HKW.2.1 (by omega) y3 (by omega) (by omega) o3 (by omega))
            have H30 : Hid ((fun W : World => W.cell? ⟨wr.heap.size, 1, none⟩ = some (.int .i64 (y j))) w1.drew.drew) := hide (bx2 X1.out).2.2
            have H30' : Hid (∀ W, Below w1.heap.size (mv w1 S (KK * 7 + 1) (KK * 7 + 2) ((ws KK).dry - y j) ((ws KK).burning + y j)) W → W.cell? ⟨wr.heap.size, 1, none⟩ = some (.int .i64 (y j))) := hide (fun W h => (h.cell (p := ⟨wr.heap.size, 1, none⟩) X1.out.lt).trans ((mv_far zx).trans (bx2 X1.out).2.2))
            clear HKW o2 o3 o8 o1' o4' o5' o6' H29
            go_wp2_with fail
            refine wp_region_J (fun W : World => W.cell? ⟨wr.heap.size, 1, none⟩ = some (.int .i64 (y j))) (by kernel_rfl) ?_
            refine wpAnyJ_take 0 (v := ?_) (by first | exact hF | exact wideFn) H30.out rfl (by kernel_rfl) (by kernel_rfl) (by kernel_rfl) (by kernel_rfl) rfl ?_ (by first | exact fun _ _ _ h => h | exact fun _ _ _ h => hQ2 _ _ _ _ _ h) ?_
            rotate_left
            · intro W hSW
              simp only [List.getElem_toArray, List.getElem_cons_zero, List.getElem_cons_succ]
              (try dsimp only at hSW)
              go_simp
              with_reducible rfl
            (try simp only [List.getElem_toArray, List.getElem_cons_zero, List.getElem_cons_succ, Act.put, List.setIfInBounds_toArray, List.set_cons_zero, List.set_cons_succ])
            refine wpAnyJ_take 1 (v := ?_) (by first | exact hF | exact wideFn) H30.out rfl (by kernel_rfl) (by kernel_rfl) (by kernel_rfl) (by kernel_rfl) rfl ?_ (by first | exact fun _ _ _ h => h | exact fun _ _ _ h => hQ2 _ _ _ _ _ h) ?_
            rotate_left
            · intro W hSW
              simp only [List.getElem_toArray, List.getElem_cons_zero, List.getElem_cons_succ]
              (try dsimp only at hSW)
              go_simp
              with_reducible rfl
            (try simp only [List.getElem_toArray, List.getElem_cons_zero, List.getElem_cons_succ, Act.put, List.setIfInBounds_toArray, List.set_cons_zero, List.set_cons_succ])
            refine wpAnyJ_take 2 (v := ?_) (by first | exact hF | exact wideFn) H30.out rfl (by kernel_rfl) (by kernel_rfl) (by kernel_rfl) (by kernel_rfl) rfl ?_ (by first | exact fun _ _ _ h => h | exact fun _ _ _ h => hQ2 _ _ _ _ _ h) ?_
            rotate_left
            · intro W hSW
              simp only [List.getElem_toArray, List.getElem_cons_zero, List.getElem_cons_succ]
              (try dsimp only at hSW)
              go_simp
              with_reducible rfl
            (try simp only [List.getElem_toArray, List.getElem_cons_zero, List.getElem_cons_succ, Act.put, List.setIfInBounds_toArray, List.set_cons_zero, List.set_cons_succ])
            refine wpAnyJ_take 3 (v := ?_) (by first | exact hF | exact wideFn) H30.out rfl (by kernel_rfl) (by kernel_rfl) (by kernel_rfl) (by kernel_rfl) rfl ?_ (by first | exact fun _ _ _ h => h | exact fun _ _ _ h => hQ2 _ _ _ _ _ h) ?_
            rotate_left
            · intro W hSW
              simp only [List.getElem_toArray, List.getElem_cons_zero, List.getElem_cons_succ]
              (try dsimp only at hSW)
              go_simp
              with_reducible rfl
            (try simp only [List.getElem_toArray, List.getElem_cons_zero, List.getElem_cons_succ, Act.put, List.setIfInBounds_toArray, List.set_cons_zero, List.set_cons_succ])
            refine wpAnyJ_take 4 (v := ?_) (by first | exact hF | exact wideFn) H30.out rfl (by kernel_rfl) (by kernel_rfl) (by kernel_rfl) (by kernel_rfl) rfl ?_ (by first | exact fun _ _ _ h => h | exact fun _ _ _ h => hQ2 _ _ _ _ _ h) ?_
            rotate_left
            · intro W hSW
              simp only [List.getElem_toArray, List.getElem_cons_zero, List.getElem_cons_succ]
              (try dsimp only at hSW)
              go_simp
              with_reducible rfl
            (try simp only [List.getElem_toArray, List.getElem_cons_zero, List.getElem_cons_succ, Act.put, List.setIfInBounds_toArray, List.set_cons_zero, List.set_cons_succ])
            refine wpAnyJ_take 5 (v := ?_) (by first | exact hF | exact wideFn) H30.out rfl (by kernel_rfl) (by kernel_rfl) (by kernel_rfl) (by kernel_rfl) rfl ?_ (by first | exact fun _ _ _ h => h | exact fun _ _ _ h => hQ2 _ _ _ _ _ h) ?_
            rotate_left
            · intro W hSW
              simp only [List.getElem_toArray, List.getElem_cons_zero, List.getElem_cons_succ]
              (try dsimp only at hSW)
              go_simp
              with_reducible rfl
            (try simp only [List.getElem_toArray, List.getElem_cons_zero, List.getElem_cons_succ, Act.put, List.setIfInBounds_toArray, List.set_cons_zero, List.set_cons_succ])
            refine wpAnyJ_take 6 (v := ?_) (by first | exact hF | exact wideFn) H30.out rfl (by kernel_rfl) (by kernel_rfl) (by kernel_rfl) (by kernel_rfl) rfl ?_ (by first | exact fun _ _ _ h => h | exact fun _ _ _ h => hQ2 _ _ _ _ _ h) ?_
            rotate_left
            · intro W hSW
              simp only [List.getElem_toArray, List.getElem_cons_zero, List.getElem_cons_succ]
              (try dsimp only at hSW)
              go_simp
              with_reducible rfl
            (try simp only [List.getElem_toArray, List.getElem_cons_zero, List.getElem_cons_succ, Act.put, List.setIfInBounds_toArray, List.set_cons_zero, List.set_cons_succ])
            refine wpAnyJ_take 7 (v := ?_) (by first | exact hF | exact wideFn) H30.out rfl (by kernel_rfl) (by kernel_rfl) (by kernel_rfl) (by kernel_rfl) rfl ?_ (by first | exact fun _ _ _ h => h | exact fun _ _ _ h => hQ2 _ _ _ _ _ h) ?_
            rotate_left
            · intro W hSW
              simp only [List.getElem_toArray, List.getElem_cons_zero, List.getElem_cons_succ]
              (try dsimp only at hSW)
              go_simp
              with_reducible rfl
            (try simp only [List.getElem_toArray, List.getElem_cons_zero, List.getElem_cons_succ, Act.put, List.setIfInBounds_toArray, List.set_cons_zero, List.set_cons_succ])
            refine wpAnyJ_take 8 (v := ?_) (by first | exact hF | exact wideFn) H30.out rfl (by kernel_rfl) (by kernel_rfl) (by kernel_rfl) (by kernel_rfl) rfl ?_ (by first | exact fun _ _ _ h => h | exact fun _ _ _ h => hQ2 _ _ _ _ _ h) ?_
            rotate_left
            · intro W hSW
              simp only [List.getElem_toArray, List.getElem_cons_zero, List.getElem_cons_succ]
              (try dsimp only at hSW)
              go_simp
              with_reducible rfl
            (try simp only [List.getElem_toArray, List.getElem_cons_zero, List.getElem_cons_succ, Act.put, List.setIfInBounds_toArray, List.set_cons_zero, List.set_cons_succ])
            refine wpAnyJ_take 9 (v := ?_) (by first | exact hF | exact wideFn) H30.out rfl (by kernel_rfl) (by kernel_rfl) (by kernel_rfl) (by kernel_rfl) rfl ?_ (by first | exact fun _ _ _ h => h | exact fun _ _ _ h => hQ2 _ _ _ _ _ h) ?_
            rotate_left
            · intro W hSW
              simp only [List.getElem_toArray, List.getElem_cons_zero, List.getElem_cons_succ]
              (try dsimp only at hSW)
              go_simp
              with_reducible rfl
            (try simp only [List.getElem_toArray, List.getElem_cons_zero, List.getElem_cons_succ, Act.put, List.setIfInBounds_toArray, List.set_cons_zero, List.set_cons_succ])
            refine wpAnyJ_one 10 rfl (by kernel_rfl) (fun K hK => ?_)
            simp only [List.getElem_toArray, List.getElem_cons_zero, List.getElem_cons_succ]
            go_simp
            refine ⟨trivial, rfl, ?_⟩
            refine (callsIn_wide.2 HM.out).mono ?_
            rintro e w2 ⟨rfl, hb2⟩
            have hb2' : Below w1.heap.size (mv w1 S (KK * 7 + 1) (KK * 7 + 2) ((ws KK).dry - y j) ((ws KK).burning + y j)) w2 := ⟨hb2.os, hb2.tape, hb2.output, hb2.size, hb2.block⟩
            dsimp only
            refine hK.out _ _ (fun _ => H30'.out _ hb2') ?_
            clear hK K
            (try simp only [List.getElem_toArray, List.getElem_cons_zero, List.getElem_cons_succ, Act.put, List.setIfInBounds_toArray, List.set_cons_zero, List.set_cons_succ])
            refine wpAnyJ_done (by kernel_rfl) ?_
            clear hb2 HM H30 H30'
            have hf1 : (fun i => fireW ws x y (j + 1) i) = upd (upd (fireW ws x y j) KK ((fireW ws x y j KK).put 1 ((ws KK).dry - y j))) KK ((upd (fireW ws x y j) KK ((fireW ws x y j KK).put 1 ((ws KK).dry - y j)) KK).put 2 ((ws KK).burning + y j)) := by
              rw [upd_upd, upd_same]
              funext i
              show upd (fireW ws x y j) (x j).toNat _ i = _
              rw [hKK, Int.toNat_natCast, hfw]
            have hst2 : Stores (mv w1 S (KK * 7 + 1) (KK * 7 + 2) ((ws KK).dry - y j) ((ws KK).burning + y j)) S n (fireW ws x y (j + 1)) := by
              have := (ST1.out.set (k := KK) (i := 1) hKn (by omega) ((ws KK).dry - y j)).set (k := KK) (i := 2) hKn (by omega) ((ws KK).burning + y j)
              rw [← hf1] at this
              exact this
            obtain ⟨hst3, g12⟩ := turn_of (w := w1) hst2 (grownBy_setS (grownBy_setS (World.grownBy.refl w1 _) _ _) _ _) (size_mv _ _ _ _ _ _) hb2'
            have ST2 := hide hst3
            have BK2 := hide (BK1.out.grown g12 (fun e => hbS (by injection e)))
            have OW2 := hide (OW1.out.kept g12 (.inr fun e => by have := (OW1.out.lt _ e).1; omega))
            have X2 := hide (X1.out.grown g12 (fun e => zx (by injection e)))
            have AQ2 := hide (AQ1.out.then g12 (fun i h => by injection h with h; exact .inl h.symm))
            have z2 : wr.heap.size + 1 ≤ w2.heap.size := by have := g12.size; omega
            clear hb2' hst2 hst3 g12 hf1 X1 BK1 ST1 OW1 AQ1
            have A3 := hide (Blk.new w2.drew 3 #[.int .i64 (KK : Int)])
            obtain ⟨g, cap, w3, hrun3, hown3, hg3, hgor, hlt3⟩ := HAPP.out (w2.drew.alloc (.cells #[.int .i64 KK] 3)) ov j (cellsOf 1 j fun j _ => .int .i64 (x j)) (OW2.out.alloc _) ⟨w2.drew.heap.size, 0, none⟩ 1 1 [.int .i64 (KK : Int)] rfl
              (fun i u hu => by
                match i, hu with
                | 0, hu => have := (bx1 A3.out).2; simp at hu; subst hu; simpa [Addr.add] using this
                | i + 1, hu => simp at hu)
              (fun u hu => by simp at hu; subst hu; rfl) (by omega) (by unfold maxLen; omega) (by omega) (by simp; omega) _ rfl
            have hown4 : w3.ownsRow w.heap.size 3 1 (.slice (some ⟨g, 0, none⟩) (j + 1) cap) (j + 1) (cellsOf 1 (j + 1) fun j _ => .int .i64 (x j)) := by
              have e : cellsOf 1 (j + 1) (fun j _ => Value.int .i64 (x j)) = cellsOf 1 j (fun j _ => Value.int .i64 (x j)) ++ [Value.int .i64 (KK : Int)] := by
                simp [cellsOf, List.range_succ, hKK]
              rw [e]; exact hown3
            have zo : ∀ i, ov.ownBlock = some i → w.heap.size ≤ i := fun i hi => (OW2.out.lt _ hi).1
            have zg : w.heap.size ≤ g := by
              rcases hgor with h | h
              · exact zo _ h
              · rw [h]; simp; omega
            have BK3 := hide ((BK2.out.drew.alloc (.cells #[.int .i64 KK] 3)).grown hg3 (fun e => by have := zo _ e.symm; omega))
            have ST3 := hide (Stores.grown (Stores.alloc (w := w2.drew) (by exact ST2.out) (.cells #[.int .i64 KK] 3)) hg3 (fun e => by have := zo _ e.symm; omega))
            have AQ3 := hide (((show Apart w w2.drew S b from AQ2.out).then (World.grownBy_alloc w2.drew (.cells #[.int .i64 KK] 3) none) (fun _ h => by cases h)).then hg3 (fun i h => .inr (.inr (zo i h))))
            have gst : w3.grownBy (w3.setCell ⟨b, 3, none⟩ (.slice (some ⟨g, 0, none⟩) (j + 1) cap)) (some b) := grownBy_setS (World.grownBy.refl w3 _) _ _
            have BK4 : Hid (Blk (w3.setCell ⟨b, 3, none⟩ (.slice (some ⟨g, 0, none⟩) (j + 1) cap)) b 148 #[.slice (some ⟨sb, soff, none⟩) n sc, .int .i64 room, .slice (some ⟨S, 0, none⟩) n n, (.slice (some ⟨g, 0, none⟩) (j + 1) cap)]) := hide (BK3.out.set_ 3 _)
            have OW4 := hide (hown4.kept gst (.inr fun e => by have e' : g = b := Option.some.inj e; omega))
            have ST4 := hide (Stores.grown ST3.out gst (fun e => hbS (by injection e with e; exact e.symm)))
            have AQ4 := hide (AQ3.out.then gst (fun i h => by injection h with h; exact .inr (.inl h.symm)))
            obtain ⟨b0, b1, b2, b3, b4⟩ := bx4 BK2.out
            obtain ⟨e0, e1, e2⟩ := bx2 X2.out
            obtain ⟨f0, f1, f2, f3, f4⟩ := bx4 BK3.out
            have f5 := BK3.out.frozen 3
            clear hown3 hown4 hg3 hgor gst OW2 ST2 AQ2 A3 HAPP HALL HOK HX HBK HST
            go_wp2_with fail
            refine wp_region_J (fun _ : World => True) (by kernel_rfl) ?_
            refine wpAnyJ_take 0 (v := ?_) (by first | exact hF | exact wideFn) trivial rfl (by kernel_rfl) (by kernel_rfl) (by kernel_rfl) (by kernel_rfl) rfl ?_ (by first | exact fun _ _ _ h => h | exact fun _ _ _ h => hQ2 _ _ _ _ _ h) ?_
            rotate_left
            · intro W hSW
              simp only [List.getElem_toArray, List.getElem_cons_zero, List.getElem_cons_succ]
              (try dsimp only at hSW)
              go_simp
              with_reducible rfl
            (try simp only [List.getElem_toArray, List.getElem_cons_zero, List.getElem_cons_succ, Act.put, List.setIfInBounds_toArray, List.set_cons_zero, List.set_cons_succ])
            refine wpAnyJ_take 1 (v := ?_) (by first | exact hF | exact wideFn) trivial rfl (by kernel_rfl) (by kernel_rfl) (by kernel_rfl) (by kernel_rfl) rfl ?_ (by first | exact fun _ _ _ h => h | exact fun _ _ _ h => hQ2 _ _ _ _ _ h) ?_
            rotate_left
            · intro W hSW
              simp only [List.getElem_toArray, List.getElem_cons_zero, List.getElem_cons_succ]
              (try dsimp only at hSW)
              go_simp
              with_reducible rfl
            (try simp only [List.getElem_toArray, List.getElem_cons_zero, List.getElem_cons_succ, Act.put, List.setIfInBounds_toArray, List.set_cons_zero, List.set_cons_succ])
            refine wpAnyJ_take 2 (v := ?_) (by first | exact hF | exact wideFn) trivial rfl (by kernel_rfl) (by kernel_rfl) (by kernel_rfl) (by kernel_rfl) rfl ?_ (by first | exact fun _ _ _ h => h | exact fun _ _ _ h => hQ2 _ _ _ _ _ h) ?_
            rotate_left
            · intro W hSW
              simp only [List.getElem_toArray, List.getElem_cons_zero, List.getElem_cons_succ]
              (try dsimp only at hSW)
              go_simp
              with_reducible rfl
            (try simp only [List.getElem_toArray, List.getElem_cons_zero, List.getElem_cons_succ, Act.put, List.setIfInBounds_toArray, List.set_cons_zero, List.set_cons_succ])
            refine wpAnyJ_take 3 (v := ?_) (by first | exact hF | exact wideFn) trivial rfl (by kernel_rfl) (by kernel_rfl) (by kernel_rfl) (by kernel_rfl) rfl ?_ (by first | exact fun _ _ _ h => h | exact fun _ _ _ h => hQ2 _ _ _ _ _ h) ?_
            rotate_left
            · intro W hSW
              simp only [List.getElem_toArray, List.getElem_cons_zero, List.getElem_cons_succ]
              (try dsimp only at hSW)
              go_simp
              with_reducible rfl
            (try simp only [List.getElem_toArray, List.getElem_cons_zero, List.getElem_cons_succ, Act.put, List.setIfInBounds_toArray, List.set_cons_zero, List.set_cons_succ])
            refine wpAnyJ_take 5 (v := ?_) (by first | exact hF | exact wideFn) trivial rfl (by kernel_rfl) (by kernel_rfl) (by kernel_rfl) (by kernel_rfl) rfl ?_ (by first | exact fun _ _ _ h => h | exact fun _ _ _ h => hQ2 _ _ _ _ _ h) ?_
            rotate_left
            · intro W hSW
              simp only [List.getElem_toArray, List.getElem_cons_zero, List.getElem_cons_succ]
              (try dsimp only at hSW)
              go_simp
              with_reducible rfl
            (try simp only [List.getElem_toArray, List.getElem_cons_zero, List.getElem_cons_succ, Act.put, List.setIfInBounds_toArray, List.set_cons_zero, List.set_cons_succ])
            have hF : ∀ f, Fence.wide.fn f := wideFn
            refine wpAnyJ_two 4 6 rfl rfl (by kernel_rfl) (fun K hK => ?_) (fun K hK => ?_)
            · simp only [List.getElem_toArray, List.getElem_cons_zero, List.getElem_cons_succ]
              go_simp
              refine hK.out _ _ (fun _ => trivial) ?_
              clear hK K
              (try simp only [List.getElem_toArray, List.getElem_cons_zero, List.getElem_cons_succ, Act.put, List.setIfInBounds_toArray, List.set_cons_zero, List.set_cons_succ])
              refine wpAnyJ_one 6 rfl (by kernel_rfl) (fun K hK => ?_)
              simp only [List.getElem_toArray, List.getElem_cons_zero, List.getElem_cons_succ]
              go_simp
              refine hK.out _ _ (fun _ => trivial) ?_
              clear hK K
              (try simp only [List.getElem_toArray, List.getElem_cons_zero, List.getElem_cons_succ, Act.put, List.setIfInBounds_toArray, List.set_cons_zero, List.set_cons_succ])
              refine wpAnyJ_one 7 rfl (by kernel_rfl) (fun K hK => ?_)
              simp only [List.getElem_toArray, List.getElem_cons_zero, List.getElem_cons_succ]
              go_simp
              refine hK.out _ _ (fun _ => trivial) ?_
              clear hK K
              (try simp only [List.getElem_toArray, List.getElem_cons_zero, List.getElem_cons_succ, Act.put, List.setIfInBounds_toArray, List.set_cons_zero, List.set_cons_succ])
              refine wpAnyJ_one 8 rfl (by kernel_rfl) (fun K hK => ?_)
              rw [if_pos (by rfl)]
              refine wpIn_append_run (.tmp 119) (.tmp 122) 56 (by first | exact hF | exact wideFn) rfl rfl rfl hrun3 ?_
              refine hK.out _ _ (fun _ => trivial) ?_
              clear hK K
              (try simp only [List.getElem_toArray, List.getElem_cons_zero, List.getElem_cons_succ, Act.put, List.setIfInBounds_toArray, List.set_cons_zero, List.set_cons_succ])
              refine wpAnyJ_take 9 (v := ?_) (by first | exact hF | exact wideFn) trivial rfl (by kernel_rfl) (by kernel_rfl) (by kernel_rfl) (by kernel_rfl) rfl ?_ (by first | exact fun _ _ _ h => h | exact fun _ _ _ h => hQ2 _ _ _ _ _ h) ?_
              rotate_left
              · intro W hSW
                simp only [List.getElem_toArray, List.getElem_cons_zero, List.getElem_cons_succ]
                (try dsimp only at hSW)
                go_simp
                with_reducible rfl
              (try simp only [List.getElem_toArray, List.getElem_cons_zero, List.getElem_cons_succ, Act.put, List.setIfInBounds_toArray, List.set_cons_zero, List.set_cons_succ])
              refine wpAnyJ_take 10 (v := ?_) (by first | exact hF | exact wideFn) trivial rfl (by kernel_rfl) (by kernel_rfl) (by kernel_rfl) (by kernel_rfl) rfl ?_ (by first | exact fun _ _ _ h => h | exact fun _ _ _ h => hQ2 _ _ _ _ _ h) ?_
              rotate_left
              · intro W hSW
                simp only [List.getElem_toArray, List.getElem_cons_zero, List.getElem_cons_succ]
                (try dsimp only at hSW)
                go_simp
                with_reducible rfl
              (try simp only [List.getElem_toArray, List.getElem_cons_zero, List.getElem_cons_succ, Act.put, List.setIfInBounds_toArray, List.set_cons_zero, List.set_cons_succ])
              refine wpAnyJ_one 11 rfl (by kernel_rfl) (fun K hK => ?_)
              simp only [List.getElem_toArray, List.getElem_cons_zero, List.getElem_cons_succ]
              go_simp
              refine hK.out _ _ (fun _ => trivial) ?_
              clear hK K
              (try simp only [List.getElem_toArray, List.getElem_cons_zero, List.getElem_cons_succ, Act.put, List.setIfInBounds_toArray, List.set_cons_zero, List.set_cons_succ])
              refine wpAnyJ_done (by kernel_rfl) ?_
              go_wp2_with fail
              go_roundw
              case rel => exact ⟨j + 1, by go_num, by omega, _, BK4, OW4, ST4, AQ4⟩
              case measure => simp [intOf]; omega
            · simp only [List.getElem_toArray, List.getElem_cons_zero, List.getElem_cons_succ]
              go_simp
              refine hK.out _ _ (fun _ => trivial) ?_
              clear hK K
              (try simp only [List.getElem_toArray, List.getElem_cons_zero, List.getElem_cons_succ, Act.put, List.setIfInBounds_toArray, List.set_cons_zero, List.set_cons_succ])
              refine wpAnyJ_two 4 7 rfl rfl (by kernel_rfl) (fun K hK => ?_) (fun K hK => ?_)
              · simp only [List.getElem_toArray, List.getElem_cons_zero, List.getElem_cons_succ]
                go_simp
                refine hK.out _ _ (fun _ => trivial) ?_
                clear hK K
                (try simp only [List.getElem_toArray, List.getElem_cons_zero, List.getElem_cons_succ, Act.put, List.setIfInBounds_toArray, List.set_cons_zero, List.set_cons_succ])
                refine wpAnyJ_one 7 rfl (by kernel_rfl) (fun K hK => ?_)
                simp only [List.getElem_toArray, List.getElem_cons_zero, List.getElem_cons_succ]
                go_simp
                refine hK.out _ _ (fun _ => trivial) ?_
                clear hK K
                (try simp only [List.getElem_toArray, List.getElem_cons_zero, List.getElem_cons_succ, Act.put, List.setIfInBounds_toArray, List.set_cons_zero, List.set_cons_succ])
                refine wpAnyJ_one 8 rfl (by kernel_rfl) (fun K hK => ?_)
                rw [if_pos (by rfl)]
                refine wpIn_append_run (.tmp 119) (.tmp 122) 56 (by first | exact hF | exact wideFn) rfl rfl rfl hrun3 ?_
                refine hK.out _ _ (fun _ => trivial) ?_
                clear hK K
                (try simp only [List.getElem_toArray, List.getElem_cons_zero, List.getElem_cons_succ, Act.put, List.setIfInBounds_toArray, List.set_cons_zero, List.set_cons_succ])
                refine wpAnyJ_take 9 (v := ?_) (by first | exact hF | exact wideFn) trivial rfl (by kernel_rfl) (by kernel_rfl) (by kernel_rfl) (by kernel_rfl) rfl ?_ (by first | exact fun _ _ _ h => h | exact fun _ _ _ h => hQ2 _ _ _ _ _ h) ?_
                rotate_left
                · intro W hSW
                  simp only [List.getElem_toArray, List.getElem_cons_zero, List.getElem_cons_succ]
                  (try dsimp only at hSW)
                  go_simp
                  with_reducible rfl
                (try simp only [List.getElem_toArray, List.getElem_cons_zero, List.getElem_cons_succ, Act.put, List.setIfInBounds_toArray, List.set_cons_zero, List.set_cons_succ])
                refine wpAnyJ_take 10 (v := ?_) (by first | exact hF | exact wideFn) trivial rfl (by kernel_rfl) (by kernel_rfl) (by kernel_rfl) (by kernel_rfl) rfl ?_ (by first | exact fun _ _ _ h => h | exact fun _ _ _ h => hQ2 _ _ _ _ _ h) ?_
                rotate_left
                · intro W hSW
                  simp only [List.getElem_toArray, List.getElem_cons_zero, List.getElem_cons_succ]
                  (try dsimp only at hSW)
                  go_simp
                  with_reducible rfl
                (try simp only [List.getElem_toArray, List.getElem_cons_zero, List.getElem_cons_succ, Act.put, List.setIfInBounds_toArray, List.set_cons_zero, List.set_cons_succ])
                refine wpAnyJ_one 11 rfl (by kernel_rfl) (fun K hK => ?_)
                simp only [List.getElem_toArray, List.getElem_cons_zero, List.getElem_cons_succ]
                go_simp
                refine hK.out _ _ (fun _ => trivial) ?_
                clear hK K
                (try simp only [List.getElem_toArray, List.getElem_cons_zero, List.getElem_cons_succ, Act.put, List.setIfInBounds_toArray, List.set_cons_zero, List.set_cons_succ])
                refine wpAnyJ_done (by kernel_rfl) ?_
                go_wp2_with fail
                go_roundw
                case rel => exact ⟨j + 1, by go_num, by omega, _, BK4, OW4, ST4, AQ4⟩
                case measure => simp [intOf]; omega
              · simp only [List.getElem_toArray, List.getElem_cons_zero, List.getElem_cons_succ]
                go_simp
                refine hK.out _ _ (fun _ => trivial) ?_
                clear hK K
                (try simp only [List.getElem_toArray, List.getElem_cons_zero, List.getElem_cons_succ, Act.put, List.setIfInBounds_toArray, List.set_cons_zero, List.set_cons_succ])
                refine wpAnyJ_one 4 rfl (by kernel_rfl) (fun K hK => ?_)
                simp only [List.getElem_toArray, List.getElem_cons_zero, List.getElem_cons_succ]
                go_simp
                refine hK.out _ _ (fun _ => trivial) ?_
                clear hK K
                (try simp only [List.getElem_toArray, List.getElem_cons_zero, List.getElem_cons_succ, Act.put, List.setIfInBounds_toArray, List.set_cons_zero, List.set_cons_succ])
                refine wpAnyJ_one 8 rfl (by kernel_rfl) (fun K hK => ?_)
                rw [if_pos (by rfl)]
                refine wpIn_append_run (.tmp 119) (.tmp 122) 56 (by first | exact hF | exact wideFn) rfl rfl rfl hrun3 ?_
                refine hK.out _ _ (fun _ => trivial) ?_
                clear hK K
                (try simp only [List.getElem_toArray, List.getElem_cons_zero, List.getElem_cons_succ, Act.put, List.setIfInBounds_toArray, List.set_cons_zero, List.set_cons_succ])
                refine wpAnyJ_take 9 (v := ?_) (by first | exact hF | exact wideFn) trivial rfl (by kernel_rfl) (by kernel_rfl) (by kernel_rfl) (by kernel_rfl) rfl ?_ (by first | exact fun _ _ _ h => h | exact fun _ _ _ h => hQ2 _ _ _ _ _ h) ?_
                rotate_left
                · intro W hSW
                  simp only [List.getElem_toArray, List.getElem_cons_zero, List.getElem_cons_succ]
                  (try dsimp only at hSW)
                  go_simp
                  with_reducible rfl
                (try simp only [List.getElem_toArray, List.getElem_cons_zero, List.getElem_cons_succ, Act.put, List.setIfInBounds_toArray, List.set_cons_zero, List.set_cons_succ])
                refine wpAnyJ_take 10 (v := ?_) (by first | exact hF | exact wideFn) trivial rfl (by kernel_rfl) (by kernel_rfl) (by kernel_rfl) (by kernel_rfl) rfl ?_ (by first | exact fun _ _ _ h => h | exact fun _ _ _ h => hQ2 _ _ _ _ _ h) ?_
                rotate_left
                · intro W hSW
                  simp only [List.getElem_toArray, List.getElem_cons_zero, List.getElem_cons_succ]
                  (try dsimp only at hSW)
                  go_simp
                  with_reducible rfl
                (try simp only [List.getElem_toArray, List.getElem_cons_zero, List.getElem_cons_succ, Act.put, List.setIfInBounds_toArray, List.set_cons_zero, List.set_cons_succ])
                refine wpAnyJ_one 11 rfl (by kernel_rfl) (fun K hK => ?_)
                simp only [List.getElem_toArray, List.getElem_cons_zero, List.getElem_cons_succ]
                go_simp
                refine hK.out _ _ (fun _ => trivial) ?_
                clear hK K
                (try simp only [List.getElem_toArray, List.getElem_cons_zero, List.getElem_cons_succ, Act.put, List.setIfInBounds_toArray, List.set_cons_zero, List.set_cons_succ])
                refine wpAnyJ_done (by kernel_rfl) ?_
                go_wp2_with fail
                go_roundw
                case rel => exact ⟨j + 1, by go_num, by omega, _, BK4, OW4, ST4, AQ4⟩
                case measure => simp [intOf]; omega
          · obtain rfl : j = k := by omega
            go_wp2_with fail
            go_ret
            exact .inr (.inr ⟨HE0.out, by omega, rfl, _, BK.out, OW.out, ST.out, AQ.out⟩)
end Go.Proofs.Ytlhekifmkkgjlaa
