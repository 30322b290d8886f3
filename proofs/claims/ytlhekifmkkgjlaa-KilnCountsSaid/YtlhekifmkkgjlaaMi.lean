/- Chapter 8: the least and the greatest of seven numbers; what stays true of a kind. -/
import Derived.Test.YtlhekifmkkgjlaaMg
import Derived.Lib.MinMax
set_option linter.unusedSimpArgs false
set_option linter.unusedVariables false
set_option linter.unnecessarySimpa false
namespace Go.Proofs.Ytlhekifmkkgjlaa
open Go Go.RowKit Go.Shelf
set_option maxRecDepth 100000
def lessOf (x y : Int) : Int := if y < x then y else x
def moreOf (x y : Int) : Int := if y > x then y else x
def min7 (a b c d e f g : Int) : Int := lessOf (lessOf (lessOf (lessOf (lessOf (lessOf a b) c) d) e) f) g
def max7 (a b c d e f g : Int) : Int := moreOf (moreOf (moreOf (moreOf (moreOf (moreOf a b) c) d) e) f) g
theorem run_min7 {P : Program} (w : World) (ts : Array TypeId) (t : TypeId) (a b c d e f g : Int) :
    (Builtin.min_ ts t #[.int .i64 a, .int .i64 b, .int .i64 c, .int .i64 d, .int .i64 e, .int .i64 f, .int .i64 g]).run P w = .ok (.int .i64 (min7 a b c d e f g)) w := by
  simp [Builtin.min_, Builtin.min2]
  rfl
theorem run_max7 {P : Program} (w : World) (ts : Array TypeId) (t : TypeId) (a b c d e f g : Int) :
    (Builtin.max_ ts t #[.int .i64 a, .int .i64 b, .int .i64 c, .int .i64 d, .int .i64 e, .int .i64 f, .int .i64 g]).run P w = .ok (.int .i64 (max7 a b c d e f g)) w := by
  simp [Builtin.max_, Builtin.max2]
  rfl
theorem lessOf_ge {x y z : Int} (h1 : z ≤ x) (h2 : z ≤ y) : z ≤ lessOf x y := by unfold lessOf; split <;> omega
theorem moreOf_le {x y z : Int} (h1 : x ≤ z) (h2 : y ≤ z) : moreOf x y ≤ z := by unfold moreOf; split <;> omega
/-- how many bricks of a kind were moulded -/
def Wa.sum (x : Wa) : Int := x.wet + x.dry + x.burning + x.fired + x.laid + x.broken
theorem okW_min {x : Wa} (h : OkW x) : 0 ≤ min7 x.wet x.dry x.burning x.fired x.laid x.broken x.missing := by
  obtain ⟨h1, h2, h3, h4, h5, h6, h7, -, -⟩ := h
  exact lessOf_ge (lessOf_ge (lessOf_ge (lessOf_ge (lessOf_ge (lessOf_ge h1 h2) h3) h4) h5) h6) h7
theorem okW_max {x : Wa} (h : OkW x) : max7 x.wet x.dry x.burning x.fired x.laid x.broken x.missing ≤ 1000000000 := by
  obtain ⟨h1, h2, h3, h4, h5, h6, h7, h8, h9⟩ := h
  exact moreOf_le (moreOf_le (moreOf_le (moreOf_le (moreOf_le (moreOf_le (by omega) (by omega)) (by omega)) (by omega)) (by omega)) (by omega)) (by omega)
theorem mouldX_ok {x : Wa} (h : OkW x) {m : Int} (h0 : 0 ≤ m) : OkW (mouldX x m) ∧ (mouldX x m).laid = x.laid ∧ (mouldX x m).broken = x.broken ∧ (mouldX x m).burning = x.burning ∧ (mouldX x m).sum = (if mouldE x m = 0 then x.sum + m else x.sum) ∧ (mouldE x m ≠ 0 → mouldX x m = x) := by
  obtain ⟨h1, h2, h3, h4, h5, h6, h7, h8, h9⟩ := h
  unfold mouldX mouldE
  by_cases hf : 1000000000 < x.wet + x.dry + x.burning + x.fired + x.laid + x.broken + m
  · rw [if_pos hf, if_pos hf]
    exact ⟨⟨h1, h2, h3, h4, h5, h6, h7, h8, h9⟩, rfl, rfl, rfl, rfl, fun _ => rfl⟩
  · rw [if_neg hf, if_neg hf]
    refine ⟨⟨by show 0 ≤ x.wet + m; omega, h2, h3, h4, h5, h6, h7, by show x.wet + m + x.dry + x.burning + x.fired + x.laid + x.broken ≤ _; omega, h9⟩, rfl, rfl, rfl, ?_, fun h => absurd rfl h⟩
    rw [if_pos rfl]
    show x.wet + m + x.dry + x.burning + x.fired + x.laid + x.broken = x.wet + x.dry + x.burning + x.fired + x.laid + x.broken + m
    omega
theorem dryX_ok {x : Wa} (h : OkW x) {m br : Int} (h0 : 0 ≤ m) : OkW (dryX x m br) ∧ (dryX x m br).laid = x.laid ∧ x.broken ≤ (dryX x m br).broken ∧ (dryX x m br).burning = x.burning ∧ (dryX x m br).sum = x.sum ∧ (dryE x m br ≠ 0 → dryX x m br = x) := by
  obtain ⟨h1, h2, h3, h4, h5, h6, h7, h8, h9⟩ := h
  unfold dryX dryE
  by_cases hb : 0 ≤ br ∧ br ≤ m
  · rw [if_neg (show ¬ ¬ (0 ≤ br ∧ br ≤ m) from fun h => h hb), if_neg (show ¬ ¬ (0 ≤ br ∧ br ≤ m) from fun h => h hb)]
    by_cases hf : x.wet < m
    · rw [if_pos hf, if_pos hf]
      exact ⟨⟨h1, h2, h3, h4, h5, h6, h7, h8, h9⟩, rfl, Int.le_refl _, rfl, rfl, fun _ => rfl⟩
    · rw [if_neg hf, if_neg hf]
      refine ⟨⟨by show 0 ≤ x.wet - m; omega, by show 0 ≤ x.dry + m - br; omega, h3, h4, h5, by show 0 ≤ x.broken + br; omega, h7, by show x.wet - m + (x.dry + m - br) + x.burning + x.fired + x.laid + (x.broken + br) ≤ _; omega, by show x.missing ≤ x.broken + br; omega⟩, rfl, by show x.broken ≤ x.broken + br; omega, rfl, ?_, fun h => absurd rfl h⟩
      show x.wet - m + (x.dry + m - br) + x.burning + x.fired + x.laid + (x.broken + br) = x.wet + x.dry + x.burning + x.fired + x.laid + x.broken
      omega
  · rw [if_pos hb, if_pos hb]
    exact ⟨⟨h1, h2, h3, h4, h5, h6, h7, h8, h9⟩, rfl, Int.le_refl _, rfl, rfl, fun _ => rfl⟩
theorem layX_ok {x : Wa} (h : OkW x) {m : Int} (h0 : 0 ≤ m) : OkW (layX x m) ∧ (layX x m).laid = (if layE x m = 0 then x.laid + m else x.laid) ∧ x.broken ≤ (layX x m).broken ∧ (layX x m).burning = x.burning ∧ (layX x m).sum = x.sum ∧ (layE x m ≠ 0 → layX x m = x) := by
  obtain ⟨h1, h2, h3, h4, h5, h6, h7, h8, h9⟩ := h
  unfold layX layE
  by_cases hf : x.fired < m
  · rw [if_pos hf, if_pos hf]
    exact ⟨⟨h1, h2, h3, h4, h5, h6, h7, h8, h9⟩, rfl, Int.le_refl _, rfl, rfl, fun _ => rfl⟩
  · rw [if_neg hf, if_neg hf, if_pos rfl]
    refine ⟨⟨h1, h2, h3, by show 0 ≤ x.fired - m; omega, by show 0 ≤ x.laid + m; omega, h6, h7, by show x.wet + x.dry + x.burning + (x.fired - m) + (x.laid + m) + x.broken ≤ _; omega, h9⟩, rfl, Int.le_refl _, rfl, ?_, fun h => absurd rfl h⟩
    show x.wet + x.dry + x.burning + (x.fired - m) + (x.laid + m) + x.broken = x.wet + x.dry + x.burning + x.fired + x.laid + x.broken
    omega
theorem breakX_ok {x : Wa} (h : OkW x) {m : Int} (h0 : 0 ≤ m) : OkW (breakX x m) ∧ (breakX x m).laid = (if breakE x m = 0 then x.laid - m else x.laid) ∧ x.broken ≤ (breakX x m).broken ∧ (breakX x m).burning = x.burning ∧ (breakX x m).sum = x.sum ∧ (breakE x m ≠ 0 → breakX x m = x) := by
  obtain ⟨h1, h2, h3, h4, h5, h6, h7, h8, h9⟩ := h
  unfold breakX breakE
  by_cases hf : x.laid < m
  · rw [if_pos hf, if_pos hf]
    exact ⟨⟨h1, h2, h3, h4, h5, h6, h7, h8, h9⟩, rfl, Int.le_refl _, rfl, rfl, fun _ => rfl⟩
  · rw [if_neg hf, if_neg hf, if_pos rfl]
    refine ⟨⟨h1, h2, h3, h4, by show 0 ≤ x.laid - m; omega, by show 0 ≤ x.broken + m; omega, by show 0 ≤ x.missing + m; omega, by show x.wet + x.dry + x.burning + x.fired + (x.laid - m) + (x.broken + m) ≤ _; omega, by show x.missing + m ≤ x.broken + m; omega⟩, rfl, by show x.broken ≤ x.broken + m; omega, rfl, ?_, fun h => absurd rfl h⟩
    show x.wet + x.dry + x.burning + x.fired + (x.laid - m) + (x.broken + m) = x.wet + x.dry + x.burning + x.fired + x.laid + x.broken
    omega
theorem replX_ok {x : Wa} (h : OkW x) {m : Int} (h0 : 0 ≤ m) : OkW (replX x m) ∧ (replX x m).laid = (if replE x m = 0 then x.laid + m else x.laid) ∧ x.broken ≤ (replX x m).broken ∧ (replX x m).burning = x.burning ∧ (replX x m).sum = x.sum ∧ (replE x m ≠ 0 → replX x m = x) := by
  obtain ⟨h1, h2, h3, h4, h5, h6, h7, h8, h9⟩ := h
  unfold replX replE
  by_cases hf : x.missing < m ∨ x.fired < m
  · rw [if_pos hf, if_pos hf]
    exact ⟨⟨h1, h2, h3, h4, h5, h6, h7, h8, h9⟩, rfl, Int.le_refl _, rfl, rfl, fun _ => rfl⟩
  · rw [if_neg hf, if_neg hf, if_pos rfl]
    refine ⟨⟨h1, h2, h3, by show 0 ≤ x.fired - m; omega, by show 0 ≤ x.laid + m; omega, h6, by show 0 ≤ x.missing - m; omega, by show x.wet + x.dry + x.burning + (x.fired - m) + (x.laid + m) + x.broken ≤ _; omega, by show x.missing - m ≤ x.broken; omega⟩, rfl, Int.le_refl _, rfl, ?_, fun h => absurd rfl h⟩
    show x.wet + x.dry + x.burning + (x.fired - m) + (x.laid + m) + x.broken = x.wet + x.dry + x.burning + x.fired + x.laid + x.broken
    omega
end Go.Proofs.Ytlhekifmkkgjlaa
