/- Plain laws of chapter 8: what is left of bricks; how moulds shrink. -/
import Derived.Test.YtlhekifmkkgjlaaLc
set_option linter.unusedSimpArgs false
set_option linter.unusedVariables false
set_option linter.unnecessarySimpa false
namespace Go.Proofs.Ytlhekifmkkgjlaa
open Go Go.RowKit
theorem aft_one (sh : Nat → Int) (n : Int) : aft sh 1 n = n - n * sh 0 / 10000 := rfl
theorem aft_shift (sh : Nat → Int) (n : Int) : ∀ k, aft sh (k + 1) n = aft (fun i => sh (i + 1)) k (aft sh 1 n)
  | 0 => rfl
  | k + 1 => by
    have h := aft_shift sh n k
    show aft sh (k + 1) n - aft sh (k + 1) n * sh (k + 1) / 10000 = _
    rw [h]
    rfl
/-- a greater share leaves no more -/
theorem aft_share (x y : Nat → Int) : ∀ k, (∀ i, i < k → 0 ≤ x i ∧ x i ≤ y i ∧ y i ≤ 10000) → ∀ a b : Int, 0 ≤ a → a ≤ b → aft y k a ≤ aft x k b
  | 0, _, a, b, _, h => h
  | k + 1, hs, a, b, h0, h => by
    have h1 := aft_share x y k (fun i hi => hs i (by omega)) a b h0 h
    have h2 := (aft_bd y a h0 k fun i hi => ⟨by have := hs i (by omega); omega, (hs i (by omega)).2.2⟩).1
    obtain ⟨s1, s2, s3⟩ := hs k (by omega)
    unfold aft
    generalize aft y k a = p at *
    generalize aft x k b = q at *
    have h3 : q * x k = p * x k + (q - p) * x k := by rw [← Int.add_mul]; congr 1; omega
    have h4 : (q - p) * x k ≤ (q - p) * 10000 := Int.mul_le_mul_of_nonneg_left (by omega) (by omega)
    have h5 : p * x k ≤ p * y k := Int.mul_le_mul_of_nonneg_left s2 h2
    omega
theorem keep_anti {s d d' f f' : Int} (hs : 0 ≤ s) (hd : d ≤ d') (hd' : d' ≤ 10000) (hf : f ≤ f') (hf' : f' ≤ 10000) : keep s d' f' ≤ keep s d f := by
  unfold keep
  have h1 : s * (10000 - d') ≤ s * (10000 - d) := Int.mul_le_mul_of_nonneg_left (by omega) hs
  have h2 : 0 ≤ s * (10000 - d) := Int.mul_nonneg hs (by omega)
  exact Int.le_trans (Int.mul_le_mul_of_nonneg_right h1 (by omega)) (Int.mul_le_mul_of_nonneg_left (by omega) h2)
theorem shLo_anti {s d d' f f' : Int} (hs : 0 ≤ s) (hd : d ≤ d') (hd' : d' ≤ 10000) (hf : f ≤ f') (hf' : f' ≤ 10000) : shLo s d' f' ≤ shLo s d f := by
  have := keep_anti hs hd hd' hf hf'
  unfold shLo; omega
theorem shHi_anti {s d d' f f' : Int} (hs : 0 ≤ s) (hd : d ≤ d') (hd' : d' ≤ 10000) (hf : f ≤ f') (hf' : f' ≤ 10000) : shHi s d' f' ≤ shHi s d f := by
  have := keep_anti hs hd hd' hf hf'
  unfold shHi; omega
theorem sh_bd {s dl dh fl fh : Int} (hs : 0 ≤ s) (h : clB dl dh fl fh = true) : 0 ≤ shLo s dh fh ∧ shLo s dh fh ≤ shHi s dl fl ∧ shHi s dl fl ≤ s := by
  obtain ⟨⟨h1, h2, h3⟩, h4, h5, h6⟩ := (clB_iff _ _ _ _).1 h
  have k1 := keep_anti (s := s) (d := dl) (d' := dh) (f := fl) (f' := fh) hs h2 (by omega) h5 (by omega)
  have k2 := (keep_bd (s := s) (d := dh) (f := fh) (M := s) hs (Int.le_refl _) (by omega) (by omega) (by omega) (by omega)).2
  have k3 := (keep_bd (s := s) (d := dl) (f := fl) (M := s) hs (Int.le_refl _) (by omega) (by omega) (by omega) (by omega)).2
  unfold shLo shHi
  omega
end Go.Proofs.Ytlhekifmkkgjlaa
