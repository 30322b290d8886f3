/- Chapter 8: the loads of a whole stack as exact numbers (no program in sight). -/
import Derived.Test.YtlhekifmkkgjlaaNp
set_option linter.unusedSimpArgs false
set_option linter.unusedVariables false
set_option linter.unnecessarySimpa false
namespace Go.Proofs.Ytlhekifmkkgjlaa
open Go Go.RowKit Go.Shelf
/-- the weight of a tier, and of d tiers from r on -/
def wSum (s : Stk) (t : Nat) : Rat := sumTo (wtR s t) (s.wn t)
def wUp (s : Stk) : Nat → Nat → Rat
  | 0, _ => 0
  | d + 1, r => wSum s r + wUp s d (r + 1)
abbrev gL (s : Stk) (r : Nat) : (Nat → List (Nat × Nat)) × Bool := loadsF s (flr s) (backTo s.nt r)
theorem tier_facts {s : Stk} (h : stackB s = true) {t : Nat} (ht : t < s.nt) : s.cn t = flr s ∧ s.wn t ≤ flr s ∧ (∀ i, i < s.wn t → 0 ≤ s.wf t i ∧ s.wf t i ≤ 1000) ∧ (∀ c, c < s.cn t → -1 ≤ s.cf t c ∧ s.cf t c ≤ (s.wn t : Int) - 1) ∧ flr s ≤ 144 := by
  have h1 := ((stackB_iff s).1 h).2.2 t ht
  have h2 := (stackB_iff s).1 h
  have hm := flr_eq h
  simp only [tierB, Bool.and_eq_true, decide_eq_true_eq, wiB_iff] at h1
  obtain ⟨a, b, c, d, -⟩ := h1
  have h3 := mul_bd (a := s.wd) (b := s.hg) (M := 12) (N := 12) (by omega) (by omega) (by omega) (by omega)
  exact ⟨by omega, by omega, c, d, by omega⟩
theorem gL_step {s : Stk} {r : Nat} (h : r < s.nt) : gL s r = tierSt s (flr s) (gL s (r + 1)) r := loads_step h
structure TowerOk (s : Stk) (d r : Nat) : Prop where
  zero : ∀ c, c < flr s → covB s ((r : Int) - 1) c = false → ((gL s r).1 s.nt).getD c (0, 1) = (0, 1)
  sum : sumS (flr s) ((gL s r).1 s.nt) = wUp s d r
  loads : ∀ t i, r ≤ t → t < s.nt → i < s.wn t → qR (((gL s r).1 t).getD i (0, 1)) = sumTo (fun c => if s.cf t c = (i : Int) then qR (((gL s (t + 1)).1 s.nt).getD c (0, 1)) else 0) (flr s)
theorem rest_pos {s : Stk} (hf : (hangF s).1 < 0) : ∀ t i : Nat, t < s.nt → i < s.wn t → 0 < (restL s t i).length := fun t i ht hi => by
  have h := hangF_none hf t i ht hi
  simp only [hangP, decide_eq_false_iff_not] at h
  omega
theorem tower {s : Stk} (h : stackB s = true) (hf : (hangF s).1 < 0) : ∀ d r, r + d = s.nt → (gL s r).2 = true → TowerOk s d r ∧ ∀ r', r ≤ r' → r' ≤ s.nt → (gL s r').2 = true
  | 0, r, hr, hok => by
    obtain rfl : r = s.nt := by omega
    have e : (gL s s.nt).1 s.nt = List.replicate (flr s) (0, 1) := by
      show (loadsF s (flr s) (backTo s.nt s.nt)).1 s.nt = _
      rw [loads_top]; simp [ld0]
    have hz : ∀ c, c < flr s → ((gL s s.nt).1 s.nt).getD c (0, 1) = (0, 1) := fun c hc => by
      rw [e, List.getD_eq_getElem?_getD, List.getElem?_replicate, if_pos hc]; rfl
    refine ⟨⟨fun c hc _ => hz c hc, ?_, fun t i h1 h2 => absurd h2 (by omega)⟩, fun r' h1 h2 => by
      obtain rfl : r' = s.nt := by omega
      exact hok⟩
    refine sumTo_zero fun c hc => ?_
    rw [hz c hc]; exact qR_zero
  | d + 1, r, hr, hok => by
    have hrn : r < s.nt := by omega
    obtain ⟨f1, f2, f3, f4, f5⟩ := tier_facts h hrn
    have hlok := loads_ok s (flr s) (rest_pos hf) d (r + 1) (by omega) s.nt (Nat.le_refl _)
    have hnil : (gL s (r + 1)).1 r = [] := by
      have h1 := loads_cnt s (flr s) d (r + 1) (by omega) r hrn
      rw [if_neg (by omega)] at h1
      exact List.eq_nil_of_length_eq_zero h1
    have hstep := gL_step hrn
    have hok' := hok
    rw [hstep] at hok'
    unfold tierSt at hok'
    dsimp only at hok'
    rw [hnil] at hok'
    rw [← f1] at hok'
    obtain ⟨hok1, htk⟩ := tier_sums (on := (gL s (r + 1)).1 s.nt) (ok := (gL s (r + 1)).2) hlok (fun i hi => by have := f3 i hi; omega) (fun i hi => rest_pos hf r i hrn hi) (s.wn r) (Nat.le_refl _) hok'
    obtain ⟨ih, ihok⟩ := tower h hf d (r + 1) (by omega) hok1
    have eon : (gL s r).1 s.nt = (tierR s (s.cn r) r ((gL s (r + 1)).1 s.nt) [] (gL s (r + 1)).2 (s.wn r)).1 := by
      rw [hstep]; unfold tierSt; dsimp only; rw [upd_same, hnil, f1]
    have eld : (gL s r).1 r = (tierR s (s.cn r) r ((gL s (r + 1)).1 s.nt) [] (gL s (r + 1)).2 (s.wn r)).2.1 := by
      rw [hstep]; unfold tierSt; dsimp only; rw [upd_ne _ _ (by omega), upd_same, hnil, f1]
    have eot : ∀ t, t < s.nt → t ≠ r → (gL s r).1 t = (gL s (r + 1)).1 t := fun t h1 h2 => by
      rw [hstep]; unfold tierSt; dsimp only; rw [upd_ne _ _ (by omega), upd_ne _ _ h2]
    refine ⟨⟨fun c hc hcv => ?_, ?_, fun t i h1 h2 h3 => ?_⟩, fun r' h1 h2 => ?_⟩
    · rw [eon]; exact htk.zero c (by omega) (.inr (.inr hcv))
    · rw [eon, ← f1, htk.sum, sumTo_add, sumTo_bricks]
      show _ + wSum s r = wSum s r + wUp s d (r + 1)
      rw [← ih.sum]
      have e : sumTo (fun c => if 0 ≤ s.cf r c ∧ s.cf r c < ((s.wn r : Nat) : Int) then qR (((gL s (r + 1)).1 s.nt).getD c (0, 1)) else 0) (s.cn r) = sumS (flr s) ((gL s (r + 1)).1 s.nt) := by
        unfold sumS
        rw [f1]
        refine sumTo_congr fun c hc => ?_
        obtain ⟨g1, g2⟩ := f4 c (by omega)
        by_cases hp : 0 ≤ s.cf r c
        · rw [if_pos (by omega)]
        · rw [if_neg (by omega), ih.zero c hc (by
            unfold covB
            rw [decide_eq_false (by omega), Bool.false_or]
            have e3 : (((r + 1 : Nat) : Int) - 1).toNat = r := by omega
            rw [e3, decide_eq_false hp, Bool.and_false]), qR_zero]
      rw [e]; grind
    · by_cases e : t = r
      · subst e
        rw [eld, ← f1]
        exact htk.loads i h3
      · rw [eot t h2 e]
        exact ih.loads t i (by omega) h2 h3
    · by_cases e : r' = r
      · subst e; exact hok
      · exact ihok r' (by omega) h2
theorem wSum_bd {s : Stk} (h : stackB s = true) {t : Nat} (ht : t < s.nt) {M : Nat} (hM : s.wn t ≤ M) : 0 ≤ wSum s t ∧ wSum s t ≤ ((M * 1000 : Nat) : Rat) := by
  obtain ⟨-, -, f3, -, -⟩ := tier_facts h ht
  have key : ∀ k, k ≤ s.wn t → 0 ≤ sumTo (wtR s t) k ∧ sumTo (wtR s t) k ≤ ((k * 1000 : Nat) : Rat) := by
    intro k
    induction k with
    | zero => intro _; exact ⟨by show (0 : Rat) ≤ 0; grind, by show (0 : Rat) ≤ ((0 * 1000 : Nat) : Rat); push_cast; grind⟩
    | succ k ih =>
      intro hk
      obtain ⟨a, b⟩ := ih (by omega)
      obtain ⟨c, d⟩ := f3 k (by omega)
      have h1 : (0 : Rat) ≤ wtR s t k := by unfold wtR; exact Rat.natCast_nonneg
      have h2 : wtR s t k ≤ ((1000 : Nat) : Rat) := by unfold wtR; exact Rat.natCast_le_natCast.2 (by omega)
      have e : (((k + 1) * 1000 : Nat) : Rat) = ((k * 1000 : Nat) : Rat) + ((1000 : Nat) : Rat) := by push_cast; grind
      show 0 ≤ sumTo (wtR s t) k + wtR s t k ∧ sumTo (wtR s t) k + wtR s t k ≤ _
      rw [e]
      exact ⟨by grind, by grind⟩
  obtain ⟨a, b⟩ := key (s.wn t) (Nat.le_refl _)
  refine ⟨a, ?_⟩
  have h3 : ((s.wn t * 1000 : Nat) : Rat) ≤ ((M * 1000 : Nat) : Rat) := Rat.natCast_le_natCast.2 (by omega)
  unfold wSum
  grind
theorem wUp_bd {s : Stk} (h : stackB s = true) {M : Nat} (hM : ∀ t, t < s.nt → s.wn t ≤ M) : ∀ d r, r + d = s.nt → 0 ≤ wUp s d r ∧ wUp s d r ≤ ((d * (M * 1000) : Nat) : Rat)
  | 0, r, _ => ⟨by show (0 : Rat) ≤ 0; grind, by show (0 : Rat) ≤ ((0 * (M * 1000) : Nat) : Rat); rw [Nat.zero_mul]; push_cast; grind⟩
  | d + 1, r, hr => by
    obtain ⟨a, b⟩ := wUp_bd h hM d (r + 1) (by omega)
    obtain ⟨c, e⟩ := wSum_bd h (show r < s.nt by omega) (hM r (by omega))
    have e2 : (((d + 1) * (M * 1000) : Nat) : Rat) = ((d * (M * 1000) : Nat) : Rat) + ((M * 1000 : Nat) : Rat) := by
      rw [Nat.add_mul, Nat.one_mul]; push_cast; rfl
    show 0 ≤ wSum s r + wUp s d (r + 1) ∧ wSum s r + wUp s d (r + 1) ≤ _
    rw [e2]
    exact ⟨by grind, by grind⟩
/-- no load is more than all weights together -/
theorem load_bd {s : Stk} (h : stackB s = true) (hf : (hangF s).1 < 0) (ho : LoadsB s = true) {M : Nat} (hM : ∀ t, t < s.nt → s.wn t ≤ M) {t i : Nat} (ht : t < s.nt) (hi : i < s.wn t) :
    ((LoadsL s t).getD i (0, 1)).1 ≤ s.nt * (M * 1000) * ((LoadsL s t).getD i (0, 1)).2 := by
  obtain ⟨hT, hokr⟩ := tower h hf s.nt 0 (by omega) ho
  have hokt := hokr (t + 1) (by omega) (by omega)
  obtain ⟨hT1, -⟩ := tower h hf (s.nt - (t + 1)) (t + 1) (by omega) hokt
  have h1 := hT.loads t i (by omega) ht hi
  have hon := loads_ok s (flr s) (rest_pos hf) (s.nt - (t + 1)) (t + 1) (by omega) s.nt (Nat.le_refl _)
  have h2 : qR ((LoadsL s t).getD i (0, 1)) ≤ sumS (flr s) ((gL s (t + 1)).1 s.nt) := by
    refine (show _ = _ from h1) ▸ sumTo_le fun c hc => ?_
    have hq := qR_nonneg (getD_ok hon c)
    by_cases e : s.cf t c = (i : Int)
    · rw [if_pos e]; grind
    · rw [if_neg e]; exact hq
  rw [hT1.sum] at h2
  have h3 := (wUp_bd h hM (s.nt - (t + 1)) (t + 1) (by omega)).2
  have h4 : (((s.nt - (t + 1)) * (M * 1000) : Nat) : Rat) ≤ ((s.nt * (M * 1000) : Nat) : Rat) := Rat.natCast_le_natCast.2 (Nat.mul_le_mul_right _ (by omega))
  have hx := getD_ok (LoadsL_ok hf (show t ≤ s.nt by omega)) i
  generalize (LoadsL s t).getD i (0, 1) = x at h2 hx ⊢
  have h5 : qR x ≤ ((s.nt * (M * 1000) : Nat) : Rat) := by grind
  have hp := natR_pos hx.2.1
  have hp2 : (0 : Rat) ≤ x.2 := Rat.natCast_nonneg
  have h6 : (x.1 : Rat) = qR x * x.2 := by unfold qR; grind
  have h7 : qR x * x.2 ≤ ((s.nt * (M * 1000) : Nat) : Rat) * x.2 := Rat.mul_le_mul_of_nonneg_right h5 hp2
  rw [← h6] at h7
  have h8 : ((s.nt * (M * 1000) : Nat) : Rat) * (x.2 : Rat) = ((s.nt * (M * 1000) * x.2 : Nat) : Rat) := (Rat.natCast_mul ..).symm
  rw [h8] at h7
  exact Rat.natCast_le_natCast.1 h7
end Go.Proofs.Ytlhekifmkkgjlaa
