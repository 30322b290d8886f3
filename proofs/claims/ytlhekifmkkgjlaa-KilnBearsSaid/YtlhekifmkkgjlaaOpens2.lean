/- Arguments of chapter 8 opened: arrays of numbers of 16 bits. -/
import Derived.Test.YtlhekifmkkgjlaaOpens
import Derived.OpenShut
set_option linter.unusedSimpArgs false
set_option linter.unusedVariables false
set_option linter.unnecessarySimpa false
namespace Go.Proofs.Ytlhekifmkkgjlaa
open Go Go.RowKit Go.ChangeShapes Go.WideShapes Go.ChangeAt
section
variable {H : Type} {enc : TypeId × Value → H} {r : Reach} {b0 : Nat} {W : World} {v : Value} {d : DataW H} {p : List MemPlace}
set_option maxRecDepth 100000
/-- an array of numbers of 16 bits -/
theorem u16_of_trod {W : World} {t : TypeId} {v : Value} {x : DataW H × List MemPlace} {fuel : Nat} (ht : Try.prog.underlying t = some (.int .u16)) (h : DataW.trod enc Try.prog W 0 (fun _ => true) true fuel t [v] = some x) :
    ∃ z, v = .int .u16 z ∧ 0 ≤ z ∧ z ≤ 65535 := by
  obtain ⟨z, hz, -, hw⟩ := DataW.trod_int ht h
  injection hz with hz
  exact ⟨z, hz, by simpa [Lit.wf, IntKind.min, IntKind.max, IntKind.signed, IntKind.bits] using hw⟩
theorem array_cells {n : Nat} {t e : TypeId} (ht : Try.prog.underlying t = some (.array n e)) (hval : Value.okWide Try.prog W r b0 t v) : ∃ cs, v = .agg cs ∧ cs.size = Try.prog.cellsOf t := by
  unfold Value.okWide at hval
  cases v <;> simp_all
theorem open_u16x4 (hval : Value.okWide Try.prog W r b0 49 v) (h : DataW.Trod enc Try.prog W 0 (fun _ => true) true 49 v d p) :
    ∃ a b c e, v = .agg #[.int .u16 a, .int .u16 b, .int .u16 c, .int .u16 e] ∧ (0 ≤ a ∧ a ≤ 65535) ∧ (0 ≤ b ∧ b ≤ 65535) ∧ (0 ≤ c ∧ c ≤ 65535) ∧ (0 ≤ e ∧ e ≤ 65535) := by
  obtain ⟨cs, rfl, hsz⟩ := array_cells Try.underlying49 hval
  obtain ⟨c0, c1, c2, c3, rfl⟩ := arr4 (hsz.trans (by kernel_rfl))
  obtain ⟨fuel, h⟩ := h
  obtain ⟨xs, m, -, -, -, hl, hx⟩ := DataW.trod_array Try.underlying49 h
  have ce : Try.prog.cellsOf 48 = 1 := by kernel_rfl
  rw [ce] at hx
  have y0 := hx 0 (by omega)
  have y1 := hx 1 (by omega)
  have y2 := hx 2 (by omega)
  have y3 := hx 3 (by omega)
  rw [List.getElem?_eq_getElem (by omega)] at y0 y1 y2 y3
  obtain ⟨z0, rfl, k0⟩ := u16_of_trod Try.underlying48 (show DataW.trod enc Try.prog W 0 (fun _ => true) true m 48 [c0] = _ from y0)
  obtain ⟨z1, rfl, k1⟩ := u16_of_trod Try.underlying48 (show DataW.trod enc Try.prog W 0 (fun _ => true) true m 48 [c1] = _ from y1)
  obtain ⟨z2, rfl, k2⟩ := u16_of_trod Try.underlying48 (show DataW.trod enc Try.prog W 0 (fun _ => true) true m 48 [c2] = _ from y2)
  obtain ⟨z3, rfl, k3⟩ := u16_of_trod Try.underlying48 (show DataW.trod enc Try.prog W 0 (fun _ => true) true m 48 [c3] = _ from y3)
  exact ⟨_, _, _, _, rfl, k0, k1, k2, k3⟩
theorem open_u16x2 (hval : Value.okWide Try.prog W r b0 50 v) (h : DataW.Trod enc Try.prog W 0 (fun _ => true) true 50 v d p) :
    ∃ a b, v = .agg #[.int .u16 a, .int .u16 b] ∧ (0 ≤ a ∧ a ≤ 65535) ∧ (0 ≤ b ∧ b ≤ 65535) := by
  obtain ⟨cs, rfl, hsz⟩ := array_cells Try.underlying50 hval
  obtain ⟨c0, c1, rfl⟩ := arr2 (hsz.trans (by kernel_rfl))
  obtain ⟨fuel, h⟩ := h
  obtain ⟨xs, m, -, -, -, hl, hx⟩ := DataW.trod_array Try.underlying50 h
  have ce : Try.prog.cellsOf 48 = 1 := by kernel_rfl
  rw [ce] at hx
  have y0 := hx 0 (by omega)
  have y1 := hx 1 (by omega)
  rw [List.getElem?_eq_getElem (by omega)] at y0 y1
  obtain ⟨z0, rfl, k0⟩ := u16_of_trod Try.underlying48 (show DataW.trod enc Try.prog W 0 (fun _ => true) true m 48 [c0] = _ from y0)
  obtain ⟨z1, rfl, k1⟩ := u16_of_trod Try.underlying48 (show DataW.trod enc Try.prog W 0 (fun _ => true) true m 48 [c1] = _ from y1)
  exact ⟨_, _, rfl, k0, k1⟩
end
end Go.Proofs.Ytlhekifmkkgjlaa
