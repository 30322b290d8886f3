/- KilnFloors: for every stack the law returns true and leaves its argument as it is. No condition. -/
import Derived.Test.YtlhekifmkkgjlaaFloorsG
set_option linter.unusedSimpArgs false
set_option linter.unusedVariables false
set_option linter.unnecessarySimpa false
/- The law KilnFloors: its cases joined. -/
namespace Go.Proofs.Ytlhekifmkkgjlaa
open Go Go.RowKit Go.Shelf Go.ChangeShapes Go.WideShapes Go.ChangeAt
set_option maxRecDepth 100000
theorem floors_law (s : Stk) (w : World) (hq : StkQ w s) : Calls Try.prog 12 #[.agg #[.int .i64 s.wd, .int .i64 s.hg, .slice s.A s.nt s.cap]] w fun e w' => e = .returned (.bool true) ∧ Below w.heap.size w w' := by
  by_cases hg : anyTo (bigB s 36) s.nt = true ∨ 8 < s.nt ∨ s.nt < 1
  · exact floors_guard s w hq.loose hg
  · have h1 : anyTo (bigB s 36) s.nt = false := by
      rcases h : anyTo (bigB s 36) s.nt with _ | _
      · rfl
      · exact absurd (.inl h) hg
    have h2 : ∀ k, k < s.nt → s.cn k ≤ 36 ∧ s.wn k ≤ 36 := fun k hk => by
      apply Classical.byContradiction
      intro hn
      have : anyTo (bigB s 36) s.nt = true := (anyTo_iff _ _).2 ⟨k, hk, by unfold bigB; rw [Bool.or_eq_true, decide_eq_true_eq, decide_eq_true_eq]; omega⟩
      rw [h1] at this; cases this
    have h3 : 1 ≤ s.nt ∧ s.nt ≤ 8 := by omega
    exact floors_main s w (hq.tight (by omega) (fun k hk => by have := h2 k hk; omega)) h3.1 h3.2 h2
end Go.Proofs.Ytlhekifmkkgjlaa
namespace Go.Proofs.Ytlhekifmkkgjlaa.kilnFloors
open Go Go.ChangeShapes Go.WideShapes Go.ChangeAt Go.RowKit
set_option maxRecDepth 100000 in
theorem lifted (os : Os) (started : os.Started) (H : Type) (enc : TypeId × Value → H) :
    ReturnsInHanded {} Try.checked os 12 .any (Rows.kilnFloorsSpec.pre6 enc Try.prog Try.f12 Rows.kilnFloorsRow.domain false) (Rows.kilnFloorsSpec.post enc Try.prog Try.f12 false true false false) := by
  refine returnsInHanded_of_change (C := Try.checked) own_knob started (by kernel_rfl) Try.func12
    (ChangeSpec.witness6 (enc := enc) (C := Try.checked) false ⟨#[], #[.agg #[.int .i64 0, .int .i64 0, .slice none 0 0]], []⟩ 8 (by kernel_rfl) (by kernel_rfl) (by kernel_rfl) (by kernel_rfl)) ?_
  intro W base args ds gs before hval0 hW hcnd _
  have hval : ∀ (j : Nat) t v, Try.f12.params[j]? = some t → args[j]? = some v → Value.okWide Try.prog W .any base t v := hval0
  have hW' := hW
  have hlt : ∀ p ∈ before, p.block < W.heap.size := fun p hp => hW.lt p hp
  obtain ⟨p, q, hA0, hV, rfl, hfz, hnd⟩ := hW
  have hA : DataW.TrodAll enc Try.prog W 0 (fun _ => true) true Try.f12.params.toList args.toList ds p := hA0
  rw [Try.params12] at hA hval
  obtain ⟨v0, vs0, d0, ds0, p0, q0, hargs, rfl, rfl, h0, r0⟩ := trodAll_cons hA
  obtain ⟨rfl, rfl, rfl⟩ := trodAll_nil r0
  obtain rfl : args = #[v0] := by cases args; simp_all
  obtain ⟨rfl, rfl⟩ := trodVars_none hV
  have k0 := hval 0 55 v0 rfl rfl
  obtain ⟨s, rfl, hq⟩ := open_stack k0 h0 (fun z hz => hlt z (by simp [hz]))
  clear hA0 hval0
  refine (floors_law s W hq).mono fun e W' ⟨he, hb⟩ => ?_
  subst he
  exact ⟨_, rfl, law_post hW' hb rfl rfl (by kernel_rfl) ⟨rfl, rfl, rfl⟩⟩
theorem over : Rows.kilnFloorsRow.holds Try.pinned (OpenSpec.ofChange Rows.kilnFloorsSpec) :=
  OpenClaim.holds_of_wide 12 Try.f12 rfl rfl rfl rfl rfl rfl rfl ⟨rfl, rfl, rfl, rfl, rfl⟩ rfl rfl rfl rfl rfl (by kernel_rfl) Try.func12 (by kernel_rfl)
    (of_decide_eq_true (by kernel_rfl)) (by unfold Func.isWrapper; first | (rw [if_pos (by decide +kernel)]; kernel_rfl) | (rw [if_neg (by decide +kernel)]; exact ⟨rfl, rfl⟩))
    (fun os started H enc _ => lifted os started H enc)
theorem proved : Rows.KilnFloorsSaid := over
end Go.Proofs.Ytlhekifmkkgjlaa.kilnFloors
