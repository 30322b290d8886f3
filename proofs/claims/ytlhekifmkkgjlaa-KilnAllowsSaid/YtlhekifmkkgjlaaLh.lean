/- KilnAllows joined: every number, every list of stages. -/
import Derived.Test.YtlhekifmkkgjlaaLg
import Derived.Test.YtlhekifmkkgjlaaLe
set_option linter.unusedSimpArgs false
set_option linter.unusedVariables false
set_option linter.unnecessarySimpa false
namespace Go.Proofs.Ytlhekifmkkgjlaa
open Go Go.RowKit Go.Shelf
set_option maxRecDepth 100000
theorem leftIs_of {m : Nat} {x y : Nat → Int} (N : Int) (hm : m ≤ 10) (hs : Stages m x y) (h0 : 0 ≤ N) (h1 : N ≤ 1000000000) : LeftIs m x y N (aft y m N) (aft x m N) :=
  fun W A c hR => left_ok N A m c x y W hm hR hs h0 h1
theorem allows_law (n : Int) (A : Option Addr) (m c : Nat) (x y : Nat → Int) (w : World) (hn : 0 ≤ n ∧ n ≤ 4294967295) (hm : m ≤ maxLen) (hmc : m ≤ c) (hc : c ≤ 9223372036854775807) (hR : PI w w.heap.size A m x y) : Calls Try.prog 4 #[.int .u32 n, .slice A m c] w fun e w' => e = .returned (.bool true) ∧ Below w.heap.size w w' := by
  by_cases hm9 : m < 1 ∨ 9 < m
  · exact allows_many n A m c w hm9 hm
  cases hb : anyTo (fun k => stB (x k) (y k)) m
  case true => exact allows_bad n A m c x y w hn (by omega) hR hb
  have hs : Stages m x y := (stages_bad m x y).1 hb
  clear hb hm
  have hm1 : 1 ≤ m := by omega
  obtain ⟨ab, aoff, rfl, hab, hcl⟩ := hR (by omega)
  obtain ⟨M, hM⟩ : ∃ M : Int, n % 500000000 = M := ⟨_, rfl⟩
  have hM0 : 0 ≤ M ∧ M < 500000000 := by omega
  have sy : ∀ i, i < m → 0 ≤ y i ∧ y i ≤ 10000 := fun i hi => ⟨by have := hs i hi; omega, (hs i hi).2.2⟩
  have sx : ∀ i, i < m → 0 ≤ x i ∧ x i ≤ 10000 := fun i hi => ⟨(hs i hi).1, by have := hs i hi; omega⟩
  have hs' : Stages (m - 1) (fun i => x (i + 1)) (fun i => y (i + 1)) := fun i hi => hs (i + 1) (by omega)
  have hs1 : Stages 1 x y := fun i hi => hs i (by omega)
  have ey : ∀ N, aft y m N = aft (fun i => y (i + 1)) (m - 1) (aft y 1 N) := fun N => by
    obtain ⟨k, rfl⟩ : ∃ k, m = k + 1 := ⟨m - 1, by omega⟩
    exact aft_shift y N k
  have ex : ∀ N, aft x m N = aft (fun i => x (i + 1)) (m - 1) (aft x 1 N) := fun N => by
    obtain ⟨k, rfl⟩ : ∃ k, m = k + 1 := ⟨m - 1, by omega⟩
    exact aft_shift x N k
  have f1 := aft_bd y M hM0.1 1 fun i hi => sy i (by omega)
  have f2 := aft_bd x M hM0.1 1 fun i hi => sx i (by omega)
  have a1 := aft_bd y M hM0.1 m sy
  have a2 := aft_bd x M hM0.1 m sx
  have a3 := aft_share x y m hs M M hM0.1 (Int.le_refl _)
  have a4 := aft_mono y m sy M (M + 1) hM0.1 (by omega)
  have a5 := aft_mono x m sx M (M + 1) hM0.1 (by omega)
  have a6 := (aft_bd (fun i => y (i + 1)) (aft y 1 M) f1.1 (m - 1) fun i hi => sy (i + 1) (by omega)).2
  have a7 := (aft_bd (fun i => x (i + 1)) (aft x 1 M) f2.1 (m - 1) fun i hi => sx (i + 1) (by omega)).2
  rw [← ey] at a6
  rw [← ex] at a7
  have HST : Hid (CopyIs w m x y (.slice (some ⟨ab, aoff, none⟩) m c)) := hide (fun W hB => stages_any _ m c x y W (by omega) ((P2.below hR hB (Nat.le_refl _)).more hB.size))
  have HS1 : Hid (CopyIs w 1 x y (.slice (some ⟨ab, aoff, none⟩) 1 c)) := hide (fun W hB => stages_any _ 1 c x y W (by omega) ((P2.below (P2.less hR (by omega)) hB (Nat.le_refl _)).more hB.size))
  have HS2 : Hid (CopyIs w (m - 1) (fun i => x (i + 1)) (fun i => y (i + 1)) (.slice (if c = 1 then some ⟨ab, aoff, none⟩ else some ⟨ab, aoff + 2, none⟩) (m - 1) (c - 1))) := hide (fun W hB => by
    by_cases hc1 : c = 1
    · rw [if_pos hc1]
      exact stages_any _ (m - 1) (c - 1) _ _ W (by omega) (fun h0 => absurd h0 (by omega))
    · rw [if_neg hc1]
      exact stages_any _ (m - 1) (c - 1) _ _ W (by omega) ((P2.below (P2.rest hR) hB (Nat.le_refl _)).more hB.size))
  have HLa := hide (leftIs_of (x := x) (y := y) M (by omega : m ≤ 10) hs hM0.1 (by omega))
  have HLb := hide (leftIs_of (x := x) (y := y) (M + 1) (by omega : m ≤ 10) hs (by omega) (by omega))
  have HLf := hide (leftIs_of (x := x) (y := y) M (by omega : 1 ≤ 10) hs1 hM0.1 (by omega))
  have HLo := leftIs_of (aft y 1 M) (by omega : m - 1 ≤ 10) hs' f1.1 (by omega)
  have HHi := leftIs_of (aft x 1 M) (by omega : m - 1 ≤ 10) hs' f2.1 (by omega)
  rw [← ey] at HLo
  rw [← ex] at HHi
  obtain ⟨r, hr⟩ := least_ex (fun i => decide (M ≤ aft y m i)) 1000000001
  have HN : Hid (NeedIs m x y M (if r ≤ 1000000000 then (r : Int) else 0) (if r ≤ 1000000000 then 0 else 7)) := hide (fun W A c hR => (need_ok M A m c x y W (by omega) hR hs hM0.1 (by omega)).mono (by
    rintro e w' ⟨r2, h1, rfl, h2⟩
    obtain rfl := hr.uniq h1
    exact ⟨rfl, h2⟩))
  obtain ⟨r1, r2, r3⟩ := hr
  by_cases hr9 : r ≤ 1000000000
  · rw [if_pos hr9, if_pos hr9] at HN
    have r4 : M ≤ aft y m r := of_decide_eq_true (r3 (by omega))
    have r5 := (aft_bd y (r : Int) (by omega) m sy).2
    have HLx := hide (leftIs_of (x := x) (y := y) (r : Int) (by omega : m ≤ 10) hs (by omega) (by omega))
    by_cases h0 : r = 0
    · subst h0
      exact allows_yes0 n M ab aoff m c x y w hn hM (by omega) hmc hc _ _ _ _ _ _ _ _ a1.1 a3 a2.2 a4 a5 a6 a7 f1.1 HST HS1 HS2 HLa HLb HLf (hide HLo) (hide HHi) HN _ _ HLx r4 (by simp at r5 r4; omega)
    · have r6 : ¬ M ≤ aft y m ((r - 1 : Nat) : Int) := of_decide_eq_false (r2 (r - 1) (by omega))
      rw [show ((r - 1 : Nat) : Int) = (r : Int) - 1 by omega] at r6
      have HLy := hide (leftIs_of (x := x) (y := y) ((r : Int) - 1) (by omega : m ≤ 10) hs (by omega) (by omega))
      exact allows_yes n M ab aoff m c x y w hn hM (by omega) hmc hc _ _ _ _ _ _ _ _ a1.1 a3 a2.2 a4 a5 a6 a7 f1.1 HST HS1 HS2 HLa HLb HLf (hide HLo) (hide HHi) r (by omega) HN _ _ _ _ HLx HLy r4 (by omega) (by omega)
  · rw [if_neg hr9, if_neg hr9] at HN
    have r6 : ¬ M ≤ aft y m ((1000000000 : Nat) : Int) := of_decide_eq_false (r2 1000000000 (by omega))
    have r7 : aft y m 1000000000 < M := by simpa using r6
    have HLx := hide (leftIs_of (x := x) (y := y) 1000000000 (by omega : m ≤ 10) hs (by omega) (by omega))
    exact allows_no n M ab aoff m c x y w hn hM (by omega) hmc hc _ _ _ _ _ _ _ _ a1.1 a3 a2.2 a4 a5 a6 a7 f1.1 HST HS1 HS2 HLa HLb HLf (hide HLo) (hide HHi) HN _ _ HLx r7
end Go.Proofs.Ytlhekifmkkgjlaa
