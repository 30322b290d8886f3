/- KilnShrinks joined: every clay, every side, every spread that is wanted. -/
import Derived.Test.YtlhekifmkkgjlaaLj
set_option linter.unusedSimpArgs false
set_option linter.unusedVariables false
set_option linter.unnecessarySimpa false
namespace Go.Proofs.Ytlhekifmkkgjlaa
open Go Go.RowKit Go.Shelf
set_option maxRecDepth 100000
theorem shrunkIs_of {s dl dh fl fh : Int} (hc : clB dl dh fl fh = true) (h1 : 1 ≤ s) (h2 : s ≤ 1000000) : ShrunkIs s dl dh fl fh (shLo s dh fh) (shHi s dl fl) :=
  fun W => Shrunk_ok s dl dh fl fh W hc h1 h2
theorem shrinks_law (n b0 b1 b2 b3 u0 u1 : Int) (w : World) (hn : 0 ≤ n ∧ n ≤ 4294967295) (h0 : 0 ≤ b0 ∧ b0 ≤ 65535) (h1 : 0 ≤ b1 ∧ b1 ≤ 65535) (h2 : 0 ≤ b2 ∧ b2 ≤ 65535) (h3 : 0 ≤ b3 ∧ b3 ≤ 65535) (hu0 : 0 ≤ u0 ∧ u0 ≤ 65535) (hu1 : 0 ≤ u1 ∧ u1 ≤ 65535) :
    Calls Try.prog 6 #[.agg #[.int .u16 b0, .int .u16 b1, .int .u16 b2, .int .u16 b3], .int .u32 n, .agg #[.int .u16 u0, .int .u16 u1]] w fun e w' => e = .returned (.bool true) ∧ Below w.heap.size w w' := by
  obtain ⟨dl, edl⟩ : ∃ dl : Int, b0 % 5000 = dl := ⟨_, rfl⟩
  obtain ⟨fl, efl⟩ : ∃ fl : Int, b1 % 5000 = fl := ⟨_, rfl⟩
  obtain ⟨dh, edh⟩ : ∃ dh : Int, dl + b2 % 5000 = dh := ⟨_, rfl⟩
  obtain ⟨fh, efh⟩ : ∃ fh : Int, fl + b3 % 5000 = fh := ⟨_, rfl⟩
  obtain ⟨s, es⟩ : ∃ s : Int, 1 + n % 999999 = s := ⟨_, rfl⟩
  have g : 0 ≤ dl ∧ dl ≤ dh ∧ dh ≤ 9998 ∧ 0 ≤ fl ∧ fl ≤ fh ∧ fh ≤ 9998 := by omega
  have hs : 1 ≤ s ∧ s < 1000000 := by omega
  have hc : clB dl dh fl fh = true := (clB_iff _ _ _ _).2 (by omega)
  have hc' : clB (dl + 1) (dh + 1) fl fh = true := (clB_iff _ _ _ _).2 (by omega)
  obtain ⟨q1, q2, q3⟩ := sh_bd (by omega : 0 ≤ s) hc
  have q4 : shLo s dh fh ≤ shLo (s + 1) dh fh := shLo_mono (by omega) (by omega) (by omega)
  have q5 : shHi s dl fl ≤ shHi (s + 1) dl fl := shHi_mono (by omega) (by omega) (by omega)
  have q6 : shLo s (dh + 1) fh ≤ shLo s dh fh := shLo_anti (by omega) (by omega) (by omega) (Int.le_refl _) (by omega)
  have q7 : shHi s (dl + 1) fl ≤ shHi s dl fl := shHi_anti (by omega) (by omega) (by omega) (Int.le_refl _) (by omega)
  have H1 := hide (shrunkIs_of hc (by omega : 1 ≤ s) (by omega))
  have H2 := hide (shrunkIs_of hc (by omega : 1 ≤ s + 1) (by omega))
  have H3 := hide (shrunkIs_of hc' (by omega : 1 ≤ s) (by omega))
  have hw : spB u0 (u0 + u1) 0 1000000 = true := by simp [spB]; omega
  obtain ⟨a, ha⟩ := least_ex (mLo u0 dh fh) 1000000
  obtain ⟨b, hb⟩ := least_ex (mHi (u0 + u1) dl fl) 1000000
  have HM : MouldsIs u0 (u0 + u1) dl dh fl fh (if a + 1 ≤ b then (a : Int) + 1 else 0) (if a + 1 ≤ b then (b : Int) else 0) (if a + 1 ≤ b then 0 else 7) := fun W => (Moulds_ok u0 (u0 + u1) dl dh fl fh W hc hw).mono (by
    rintro e w' ⟨a2, b2, h1, h2, rfl, h3⟩
    obtain rfl := ha.uniq h1
    obtain rfl := hb.uniq h2
    refine ⟨?_, h3⟩
    by_cases hab : a + 1 ≤ b
    · rw [if_pos hab, if_pos hab, if_pos hab, if_pos hab]
    · rw [if_neg hab, if_neg hab, if_neg hab, if_neg hab])
  obtain ⟨a1, a2, a3⟩ := ha
  obtain ⟨c1, c2, c3⟩ := hb
  have low : ∀ t : Int, 1 ≤ t → t ≤ a → shLo t dh fh < u0 := fun t h1 h2 => by
    have h := a2 (t - 1).toNat (by omega)
    unfold mLo at h
    have h := of_decide_eq_false h
    rw [show (((t - 1).toNat : Nat) : Int) + 1 = t by omega] at h
    omega
  have lowOk : ∀ t : Int, (a : Int) + 1 ≤ t → t ≤ 1000000 → u0 ≤ shLo t dh fh := fun t h1 h2 => by
    have h := a3 (by omega)
    unfold mLo at h
    have h := of_decide_eq_true h
    have := shLo_mono (s := (a : Int) + 1) (t := t) (d := dh) (f := fh) h1 (by omega) (by omega)
    omega
  have high : ∀ t : Int, (b : Int) + 1 ≤ t → t ≤ 1000000 → u0 + u1 < shHi t dl fl := fun t h1 h2 => by
    have h := c3 (by omega)
    unfold mHi at h
    have h := of_decide_eq_true h
    have := shHi_mono (s := (b : Int) + 1) (t := t) (d := dl) (f := fl) h1 (by omega) (by omega)
    omega
  have highOk : ∀ t : Int, 1 ≤ t → t ≤ b → shHi t dl fl ≤ u0 + u1 := fun t h1 h2 => by
    have h := c2 (t - 1).toNat (by omega)
    unfold mHi at h
    have h := of_decide_eq_false h
    rw [show (((t - 1).toNat : Nat) : Int) + 1 = t by omega] at h
    omega
  by_cases hab : a + 1 ≤ b
  · rw [if_pos hab, if_pos hab, if_pos hab] at HM
    obtain ⟨mid, emid⟩ : ∃ mid : Int, ((a : Int) + 1) + n % ((b : Int) - ((a : Int) + 1) + 1) = mid := ⟨_, rfl⟩
    have g1 := Int.emod_nonneg n (b := (b : Int) - ((a : Int) + 1) + 1) (by omega)
    have g2 := Int.emod_lt_of_pos n (b := (b : Int) - ((a : Int) + 1) + 1) (by omega)
    refine shrinks_some n b0 b1 b2 b3 u0 u1 dl fl dh fh s w hn h0 h1 h2 h3 hu0 hu1 edl efl edh efh es _ _ _ _ _ _ q1 q2 q3 q4 q5 q6 q7 H1 H2 H3 ((a : Int) + 1) b mid
      (fun k => match k with | 0 => (a : Int) + 1 | 1 => mid | 2 => b | 3 => (a : Int) + 1 - 1 | _ => (b : Int) + 1) (by omega) emid rfl rfl rfl rfl rfl (hide HM) (hide fun k hk ht1 ht2 => ?_)
    refine ⟨_, _, shrunkIs_of hc ht1 ht2, fun hk3 => ?_, fun hk3 => ?_⟩
    · rcases (by omega : k = 0 ∨ k = 1 ∨ k = 2) with rfl | rfl | rfl
      · have t1 : (a : Int) + 1 ≤ 1000000 := ht2
        exact ⟨lowOk ((a : Int) + 1) (Int.le_refl _) t1, highOk ((a : Int) + 1) (by omega) (by omega)⟩
      · have t1 : mid ≤ 1000000 := ht2
        exact ⟨lowOk mid (by omega) t1, highOk mid (by omega) (by omega)⟩
      · have t1 : (b : Int) ≤ 1000000 := ht2
        exact ⟨lowOk (b : Int) (by omega) t1, highOk (b : Int) (by omega) (by omega)⟩
    · rcases (by omega : k = 3 ∨ k = 4) with rfl | rfl
      · have t1 : 1 ≤ (a : Int) + 1 - 1 := ht1
        have h := low ((a : Int) + 1 - 1) t1 (by omega)
        intro hh
        have h1 : u0 ≤ shLo ((a : Int) + 1 - 1) dh fh := hh.1
        omega
      · have t1 : (b : Int) + 1 ≤ 1000000 := ht2
        have h := high ((b : Int) + 1) (Int.le_refl _) t1
        intro hh
        have h1 : shHi ((b : Int) + 1) dl fl ≤ u0 + u1 := hh.2
        omega
  · rw [if_neg hab, if_neg hab, if_neg hab] at HM
    refine shrinks_none n b0 b1 b2 b3 u0 u1 dl fl dh fh s w hn h0 h1 h2 h3 hu0 hu1 edl efl edh efh es _ _ _ _ _ _ q1 q2 q3 q4 q5 q6 q7 H1 H2 H3 (hide HM) ?_
    by_cases h : s ≤ a
    · exact .inl (low s hs.1 h)
    · exact .inr (high s (by omega) (by omega))
end Go.Proofs.Ytlhekifmkkgjlaa
