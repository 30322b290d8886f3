/- Contracts of chapter 8 on stacks: Loads. -/
import Derived.Test.YtlhekifmkkgjlaaKy
set_option linter.unusedSimpArgs false
set_option linter.unusedVariables false
set_option linter.unnecessarySimpa false
namespace Go.Proofs.Ytlhekifmkkgjlaa
open Go Go.RowKit Go.Shelf
set_option maxHeartbeats 1000000
@[go_sem] theorem field_brick0 (a b : Value) (w : World) : (Instr.field 59 (.agg #[a, b]) 0).run Try.prog w = .ok a w := by kernel_rfl
@[go_sem] theorem field_brick1 (a b : Value) (w : World) : (Instr.field 59 (.agg #[a, b]) 1).run Try.prog w = .ok b w := by kernel_rfl
theorem mem_bricksTo (wn : Nat → Nat) (n t i : Nat) : (t, i) ∈ bricksTo wn n ↔ t < n ∧ i < wn t := by
  simp only [bricksTo, rowTo, List.mem_flatMap, List.mem_map, List.mem_range, Prod.mk.injEq]
  constructor
  · rintro ⟨a, ha, b, hb, rfl, rfl⟩; exact ⟨ha, hb⟩
  · rintro ⟨ha, hb⟩; exact ⟨t, ha, i, hb, rfl, rfl⟩
theorem firstOf_neg {p : Nat → Nat → Bool} {l : List (Nat × Nat)} (h : (firstOf p l).1 < 0) : ∀ x ∈ l, p x.1 x.2 = false := by
  intro x hx
  unfold firstOf at h
  cases hf : l.find? (fun x => p x.1 x.2) with
  | none => simpa using List.find?_eq_none.1 hf x hx
  | some y => rw [hf] at h; simp at h; omega
theorem stack_cn {s : Stk} (h : stackB s = true) : ∀ k, k < s.nt → (s.cn k : Int) = s.wd * s.hg := by
  intro k hk
  have h1 := ((stackB_iff s).1 h).2.2 k hk
  simp only [tierB, Bool.and_eq_true, decide_eq_true_eq] at h1
  exact h1.1
/-- the number of cells of a floor -/
def flr (s : Stk) : Nat := (s.wd * s.hg).toNat
theorem flr_eq {s : Stk} (h : stackB s = true) : (flr s : Int) = s.wd * s.hg := by
  have h1 := ((stackB_iff s).1 h).1
  have := Int.mul_pos (a := s.wd) (b := s.hg) (by omega) (by omega)
  unfold flr; omega
theorem Loads_arg (s : Stk) (w : World) (hs : StkR w w.heap.size s) (h : stackB s = false) :
    Calls Try.prog 32 #[.agg #[.int .i64 s.wd, .int .i64 s.hg, .slice s.A s.nt s.cap]] w fun e w' => e = .returned (.tuple #[.slice none 0 0, .slice none 0 0, .int .i64 2]) ∧ Below w.heap.size w w' := by
  have HB := hide ((Below.refl w.heap.size w).alloc (Nat.le_refl _) (.cells #[.int .i64 s.wd, .int .i64 s.hg, .slice s.A s.nt s.cap] 55))
  have HC := hide (newPile_any s (w.alloc (.cells #[.int .i64 s.wd, .int .i64 s.hg, .slice s.A s.nt s.cap] 55)) ((hs.below HB.out (Nat.le_refl _)).more HB.out.size))
  rw [stkE_no h] at HC
  clear h hs
  go_enter Try.func32, Try.ntmps32
  go_wp2_with fail
  refine HC.out.mono ?_
  rintro e w1 ⟨rfl, hb1⟩
  go_wp2_with fail
  go_ret3
  have hB := HB.out.trans (hb1.mono HB.out.size)
  exact ⟨rfl, hB.alloc hB.size _⟩
theorem Loads_falls (s : Stk) (w : World) (hs : StkR w w.heap.size s) (h : stackB s = true) (hf : 0 ≤ (hangF s).1) :
    Calls Try.prog 32 #[.agg #[.int .i64 s.wd, .int .i64 s.hg, .slice s.A s.nt s.cap]] w fun e w' => e = .returned (.tuple #[.slice none 0 0, .slice none 0 0, .int .i64 80]) ∧ Below w.heap.size w w' := by
  have HB := hide ((Below.refl w.heap.size w).alloc (Nat.le_refl _) (.cells #[.int .i64 s.wd, .int .i64 s.hg, .slice s.A s.nt s.cap] 55))
  have HC := hide (newPile_any s (w.alloc (.cells #[.int .i64 s.wd, .int .i64 s.hg, .slice s.A s.nt s.cap] 55)) ((hs.below HB.out (Nat.le_refl _)).more HB.out.size))
  rw [stkE_ok h] at HC
  have HH := hide (fun W (hb : Below w.heap.size w W) => hangs_any s (flr s) W ((hs.below hb (Nat.le_refl _)).more hb.size) (fun k hk => by have h1 := flr_eq h; have h2 := stack_cn h k hk; omega))
  generalize hangF s = R at HH hf
  unfold brV at HH
  clear h hs
  go_enter Try.func32, Try.ntmps32
  go_wp2_with fail
  refine HC.out.mono ?_
  rintro e w1 ⟨rfl, hb1⟩
  have hB := hide (HB.out.trans (hb1.mono HB.out.size))
  go_wp2_with fail
  refine (HH.out _ (hB.out.alloc hB.out.size _)).mono ?_
  rintro e w2 ⟨rfl, hb2⟩
  go_wp2_with fail
  go_ret3
  exact ⟨rfl, (hB.out.alloc hB.out.size (.cells #[.int .i64 s.wd, .int .i64 s.hg, .slice s.A s.nt s.cap] 131)).trans (hb2.mono (by have := hB.out.size; simp only [World.size_alloc]; omega))⟩
/-- nothing hangs -/
theorem hangF_none {s : Stk} (hf : (hangF s).1 < 0) : ∀ t i, t < s.nt → i < s.wn t → hangP s t i = false := fun t i ht hi => firstOf_neg hf (t, i) ((mem_bricksTo _ _ _ _).2 ⟨ht, hi⟩)
def LoadsB (s : Stk) : Bool := (loadsF s (flr s) (backTo s.nt 0)).2
def LoadsL (s : Stk) (k : Nat) : List (Nat × Nat) := (loadsF s (flr s) (backTo s.nt 0)).1 k
theorem Loads_over (s : Stk) (w : World) (hs : StkR w w.heap.size s) (h : stackB s = true) (hf : (hangF s).1 < 0) (ho : LoadsB s = false) :
    Calls Try.prog 32 #[.agg #[.int .i64 s.wd, .int .i64 s.hg, .slice s.A s.nt s.cap]] w fun e w' => e = .returned (.tuple #[.slice none 0 0, .slice none 0 0, .int .i64 10]) ∧ Below w.heap.size w w' := by
  have HB := hide ((Below.refl w.heap.size w).alloc (Nat.le_refl _) (.cells #[.int .i64 s.wd, .int .i64 s.hg, .slice s.A s.nt s.cap] 55))
  have HC := hide (newPile_any s (w.alloc (.cells #[.int .i64 s.wd, .int .i64 s.hg, .slice s.A s.nt s.cap] 55)) ((hs.below HB.out (Nat.le_refl _)).more HB.out.size))
  rw [stkE_ok h] at HC
  have HH := hide (fun W (hb : Below w.heap.size w W) => hangs_any s (flr s) W ((hs.below hb (Nat.le_refl _)).more hb.size) (fun k hk => by have h1 := flr_eq h; have h2 := stack_cn h k hk; omega))
  have HL := hide (fun W (hb : Below w.heap.size w W) => loads_any s (flr s) W ((hs.below hb (Nat.le_refl _)).more hb.size) h (flr_eq h) (hangF_none hf))
  generalize hangF s = R at HH hf
  unfold brV at HH
  unfold LoadsPost at HL
  rw [show (loadsF s (flr s) (backTo s.nt 0)).2 = false from ho] at HL
  have hf' : ¬ 0 ≤ R.1 := by omega
  clear h hs ho hf
  go_enter Try.func32, Try.ntmps32
  go_wp2_with fail
  refine HC.out.mono ?_
  rintro e w1 ⟨rfl, hb1⟩
  have hB := hide (HB.out.trans (hb1.mono HB.out.size))
  have HK := hide (Blk.new w1 131 #[.int .i64 s.wd, .int .i64 s.hg, .slice s.A s.nt s.cap])
  have HZ := hide ((hB.out.alloc hB.out.size (.cells #[.int .i64 s.wd, .int .i64 s.hg, .slice s.A s.nt s.cap] 131)))
  go_wp2_with fail
  refine (HH.out _ HZ.out).mono ?_
  rintro e w2 ⟨rfl, hb2⟩
  obtain ⟨x0, x1, x2, x3, -, -, -⟩ := blk3 (HK.out.ext hb2)
  have HY := hide (HZ.out.trans (hb2.mono HZ.out.size))
  go_wp2_with fail
  refine (HL.out _ HY.out).mono ?_
  rintro e w3 ⟨v, rfl, hb3, -, -⟩
  go_wp2_with fail
  go_ret3
  exact ⟨rfl, HY.out.trans (hb3.mono HY.out.size)⟩
/-- what Loads returns -/
def LoadsOk (s : Stk) (w : World) (e : Ending) (w' : World) : Prop :=
  ∃ (z : Nat) (v : Nat → Value), w.heap.size ≤ z ∧ e = .returned (.tuple #[.slice (some ⟨z + 3, 0, none⟩) s.nt s.nt, v s.nt, .int .i64 0]) ∧ Below w.heap.size w w' ∧
    Blk w' (z + 3) 65 (rowV s.nt v) ∧ ∀ k, k ≤ s.nt → OwnL w' z (v k) (LoadsL s k)
theorem Loads_ok (s : Stk) (w : World) (hs : StkR w w.heap.size s) (h : stackB s = true) (hf : (hangF s).1 < 0) (ho : LoadsB s = true) :
    Calls Try.prog 32 #[.agg #[.int .i64 s.wd, .int .i64 s.hg, .slice s.A s.nt s.cap]] w (LoadsOk s w) := by
  have HB := hide ((Below.refl w.heap.size w).alloc (Nat.le_refl _) (.cells #[.int .i64 s.wd, .int .i64 s.hg, .slice s.A s.nt s.cap] 55))
  have HC := hide (newPile_any s (w.alloc (.cells #[.int .i64 s.wd, .int .i64 s.hg, .slice s.A s.nt s.cap] 55)) ((hs.below HB.out (Nat.le_refl _)).more HB.out.size))
  rw [stkE_ok h] at HC
  have HH := hide (fun W (hb : Below w.heap.size w W) => hangs_any s (flr s) W ((hs.below hb (Nat.le_refl _)).more hb.size) (fun k hk => by have h1 := flr_eq h; have h2 := stack_cn h k hk; omega))
  have HL := hide (fun W (hb : Below w.heap.size w W) => loads_any s (flr s) W ((hs.below hb (Nat.le_refl _)).more hb.size) h (flr_eq h) (hangF_none hf))
  generalize hangF s = R at HH hf
  unfold brV at HH
  unfold LoadsPost at HL
  rw [show (loadsF s (flr s) (backTo s.nt 0)).2 = true from ho] at HL
  have hf' : ¬ 0 ≤ R.1 := by omega
  clear h hs ho hf
  go_enter Try.func32, Try.ntmps32
  go_wp2_with fail
  refine HC.out.mono ?_
  rintro e w1 ⟨rfl, hb1⟩
  have hB := hide (HB.out.trans (hb1.mono HB.out.size))
  have HK := hide (Blk.new w1 131 #[.int .i64 s.wd, .int .i64 s.hg, .slice s.A s.nt s.cap])
  have HZ := hide ((hB.out.alloc hB.out.size (.cells #[.int .i64 s.wd, .int .i64 s.hg, .slice s.A s.nt s.cap] 131)))
  go_wp2_with fail
  refine (HH.out _ HZ.out).mono ?_
  rintro e w2 ⟨rfl, hb2⟩
  obtain ⟨x0, x1, x2, x3, -, -, -⟩ := blk3 (HK.out.ext hb2)
  have HY := hide (HZ.out.trans (hb2.mono HZ.out.size))
  go_wp2_with fail
  refine (HL.out _ HY.out).mono ?_
  rintro e w3 ⟨v, rfl, hb3, hr, ho⟩
  have HR := hide hr
  have HO := hide ho
  clear hr ho
  go_wp2_with fail
  go_ret3
  exact ⟨w2.heap.size, v, HY.out.size, rfl, HY.out.trans (hb3.mono HY.out.size), HR.out, HO.out⟩
end Go.Proofs.Ytlhekifmkkgjlaa
