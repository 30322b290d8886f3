/- Arguments of chapter 8 opened: structs of numbers, numbers. -/
import Derived.Test.YtlhekifmkkgjlaaLaw
import Derived.Lib.SmallJoins
set_option linter.unusedSimpArgs false
set_option linter.unusedVariables false
set_option linter.unnecessarySimpa false
namespace Go.Proofs.Ytlhekifmkkgjlaa
open Go Go.RowKit Go.ChangeShapes Go.WideShapes Go.ChangeAt
section
variable {H : Type} {enc : TypeId × Value → H} {r : Reach} {b0 : Nat} {W : World} {v : Value} {d : DataW H} {p : List MemPlace}
set_option maxRecDepth 100000
theorem arr2 {cs : Array Value} (h : cs.size = 2) : ∃ a b, cs = #[a, b] := by
  rcases cs with ⟨l⟩
  match l, h with
  | [a, b], _ => exact ⟨a, b, rfl⟩
theorem arr4 {cs : Array Value} (h : cs.size = 4) : ∃ a b c e, cs = #[a, b, c, e] := by
  rcases cs with ⟨l⟩
  match l, h with
  | [a, b, c, e], _ => exact ⟨a, b, c, e, rfl⟩
theorem spread_cells {fuel : Nat} {a b : Value} {x : DataW H × List MemPlace} (h : DataW.trod enc Try.prog W 0 (fun _ => true) true fuel 25 [a, b] = some x) : ∃ s t, a = .int .i64 s ∧ b = .int .i64 t := by
  obtain ⟨y0, y1, n, -, -, h0, h1⟩ := trod_struct2 Try.underlying25 h
  have g0 : DataW.trod enc Try.prog W 0 (fun _ => true) true n 3 [a] = some y0 := h0
  have g1 : DataW.trod enc Try.prog W 0 (fun _ => true) true n 3 [b] = some y1 := h1
  exact ⟨_, _, (int_of_trod Try.underlying3 g0).1, (int_of_trod Try.underlying3 g1).1⟩
theorem open_spread (hval : Value.okWide Try.prog W r b0 25 v) (h : DataW.Trod enc Try.prog W 0 (fun _ => true) true 25 v d p) : ∃ a b, v = .agg #[.int .i64 a, .int .i64 b] := by
  obtain ⟨cs, rfl, hsz⟩ := okWide_struct Try.underlying25 hval
  obtain ⟨a, b, rfl⟩ := arr2 (hsz.trans (by kernel_rfl))
  obtain ⟨fuel, h⟩ := h
  obtain ⟨s, t, rfl, rfl⟩ := spread_cells (W := W) (show DataW.trod enc Try.prog W 0 (fun _ => true) true fuel 25 [a, b] = _ from h)
  exact ⟨s, t, rfl⟩
theorem open_clay (hval : Value.okWide Try.prog W r b0 40 v) (h : DataW.Trod enc Try.prog W 0 (fun _ => true) true 40 v d p) : ∃ a b c e, v = .agg #[.int .i64 a, .int .i64 b, .int .i64 c, .int .i64 e] := by
  obtain ⟨cs, rfl, hsz⟩ := okWide_struct Try.underlying40 hval
  obtain ⟨a, b, c, e, rfl⟩ := arr4 (hsz.trans (by kernel_rfl))
  obtain ⟨fuel, h⟩ := h
  obtain ⟨y0, y1, n, -, -, h0, h1⟩ := trod_struct2 Try.underlying40 h
  have g0 : DataW.trod enc Try.prog W 0 (fun _ => true) true n 25 [a, b] = some y0 := by
    have e2 : Try.prog.cellsOf 25 = 2 := by kernel_rfl
    simpa [Value.cells, e2] using h0
  have g1 : DataW.trod enc Try.prog W 0 (fun _ => true) true n 25 [c, e] = some y1 := by
    have e2 : Try.prog.cellsOf 25 = 2 := by kernel_rfl
    simpa [Value.cells, e2] using h1
  obtain ⟨s, t, rfl, rfl⟩ := spread_cells g0
  obtain ⟨s', t', rfl, rfl⟩ := spread_cells g1
  exact ⟨s, t, s', t', rfl⟩
/-- the capacity of a slice of structs of two ints -/
theorem cap_pairs {W : World} {t e : TypeId} {f0 f1 : Field} {A : Option Addr} {n c : Nat} {d : DataW H} {p : List MemPlace} (ht : Try.prog.underlying t = some (.slice e)) (he : Try.prog.underlying e = some (.struct #[f0, f1]))
    (ce : Try.prog.cellsOf e = 2) (o0 : f0.offset = 0) (o1 : f1.offset = 1) (c0 : Try.prog.cellsOf f0.type = 1) (c1 : Try.prog.cellsOf f1.type = 1)
    (h : DataW.Trod enc Try.prog W 0 (fun _ => true) true t (.slice A n c) d p) : c ≤ maxLen := by
  obtain ⟨fuel, h⟩ := h
  rw [cells_slice] at h
  rcases Deep.open_slice_pairs ht he ce o0 o1 c0 c1 h with ⟨h1, -⟩ | ⟨a, len, cap, m, n, V0, V1, D0, D1, P0, P1, h1, hb, hl, hm, hmm, hx, hc⟩
  · injection h1 with h1
    injection h1 with h1 h2 h3
    subst h3
    simp [maxLen]
  · injection h1 with h1
    injection h1 with h1 h2 h3
    omega
end
end Go.Proofs.Ytlhekifmkkgjlaa
