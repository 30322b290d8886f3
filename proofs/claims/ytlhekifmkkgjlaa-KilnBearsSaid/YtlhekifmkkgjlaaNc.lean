/- Chapter 8: what the loads of a stack are like (no program in sight). -/
import Derived.Test.YtlhekifmkkgjlaaKz
set_option linter.unusedSimpArgs false
set_option linter.unusedVariables false
set_option linter.unnecessarySimpa false
namespace Go.Proofs.Ytlhekifmkkgjlaa
open Go Go.RowKit Go.Shelf
theorem loads_step {s : Stk} {m r : Nat} (h : r < s.nt) : loadsF s m (backTo s.nt r) = tierSt s m (loadsF s m (backTo s.nt (r + 1))) r := by
  rw [backTo_succ h, loadsF_append]
theorem loads_top (s : Stk) (m : Nat) : loadsF s m (backTo s.nt s.nt) = ld0 s m := by rw [backTo_top]; rfl
theorem loads_cnt (s : Stk) (m : Nat) : ∀ d r, r + d = s.nt → ∀ k, k < s.nt → ((loadsF s m (backTo s.nt r)).1 k).length = if r ≤ k then s.wn k else 0
  | 0, r, h, k, hk => by
    obtain rfl : r = s.nt := by omega
    rw [loads_top, if_neg (by omega)]
    simp [ld0, show k ≠ s.nt by omega]
  | d + 1, r, h, k, hk => by
    have ih := loads_cnt s m d (r + 1) (by omega)
    rw [loads_step (by omega)]
    unfold tierSt
    dsimp only
    rw [upd_ne _ _ (by omega)]
    by_cases e : k = r
    · subst e
      rw [upd_same, tierR_cnt, ih k hk, if_neg (by omega), if_pos (by omega)]
      omega
    · rw [upd_ne _ _ e, ih k hk]
      by_cases l : r ≤ k
      · rw [if_pos (by omega), if_pos l]
      · rw [if_neg (by omega), if_neg l]
theorem LoadsL_len {s : Stk} {k : Nat} (hk : k < s.nt) : (LoadsL s k).length = s.wn k := by
  have h := loads_cnt s (flr s) s.nt 0 (by omega) k hk
  rw [if_pos (by omega)] at h
  exact h
theorem onBrk_ok {s : Stk} {t i : Nat} {on : List (Nat × Nat)} (ok : Bool) (ho : ∀ x ∈ on, LdOk x) : LdOk (onBrk s t i on ok).1 := by
  unfold onBrk
  generalize cellsTo (s.cf t) i (s.cn t) = cs
  have key : ∀ (cs : List Nat) (st : (Nat × Nat) × Bool), LdOk st.1 → LdOk (cs.foldl (addSt on) st).1 := by
    intro cs
    induction cs with
    | nil => intro st h; exact h
    | cons c cs ih => intro st h; rw [List.foldl_cons]; exact ih _ (addSt_ok on st c h ho)
  exact key cs _ LdOk_zero
theorem brkSt_ok {s : Stk} {t i : Nat} {on : List (Nat × Nat)} {st : List (Nat × Nat) × List (Nat × Nat) × Bool} (ho : ∀ x ∈ on, LdOk x) (hr : 0 < (restL s t i).length) (h1 : ∀ x ∈ st.1, LdOk x) (h2 : ∀ x ∈ st.2.1, LdOk x) :
    (∀ x ∈ (brkSt s t on st i).1, LdOk x) ∧ ∀ x ∈ (brkSt s t on st i).2.1, LdOk x := by
  have hon := onBrk_ok (s := s) (t := t) (i := i) st.2.2 ho
  have hdn : LdOk (dnBrk s t i (onBrk s t i on st.2.2).1) := lowS_ok _ _ (by
    show 0 < (onBrk s t i on st.2.2).1.2 * 1
    have := hon.2.1; omega)
  have hsh : LdOk (shBrk s t i (dnBrk s t i (onBrk s t i on st.2.2).1)) := lowS_ok _ _ (Nat.mul_pos hdn.2.1 hr)
  unfold brkSt
  refine ⟨layOn_ok h1 _ hsh, fun x hx => ?_⟩
  rcases List.mem_append.1 hx with hx | hx
  · exact h2 x hx
  · rw [List.mem_singleton.1 hx]; exact hon
theorem tierR_ok {s : Stk} {m t : Nat} {on l : List (Nat × Nat)} {ok : Bool} (ho : ∀ x ∈ on, LdOk x) (hl : ∀ x ∈ l, LdOk x) : ∀ k : Nat, (∀ i : Nat, i < k → 0 < (restL s t i).length) → (∀ x ∈ (tierR s m t on l ok k).1, LdOk x) ∧ ∀ x ∈ (tierR s m t on l ok k).2.1, LdOk x
  | 0, _ => ⟨fun x hx => by
      have : x = (0, 1) := (List.mem_replicate.1 (show x ∈ List.replicate m (0, 1) from hx)).2
      rw [this]; exact LdOk_zero, hl⟩
  | k + 1, hr => by
    have ih := tierR_ok (m := m) (ok := ok) ho hl k (fun i hi => hr i (by omega))
    rw [tierR_succ]
    exact brkSt_ok ho (hr k (by omega)) ih.1 ih.2
theorem loads_ok (s : Stk) (m : Nat) (hr : ∀ t i : Nat, t < s.nt → i < s.wn t → 0 < (restL s t i).length) : ∀ d r, r + d = s.nt → ∀ k, k ≤ s.nt → ∀ x ∈ (loadsF s m (backTo s.nt r)).1 k, LdOk x
  | 0, r, h, k, hk => by
    obtain rfl : r = s.nt := by omega
    rw [loads_top]
    intro x hx
    unfold ld0 at hx
    dsimp only at hx
    split at hx
    · rw [(List.mem_replicate.1 hx).2]; exact LdOk_zero
    · simp at hx
  | d + 1, r, h, k, hk => by
    have ih := loads_ok s m hr d (r + 1) (by omega)
    rw [loads_step (by omega)]
    have ht := tierR_ok (s := s) (m := m) (t := r) (ok := (loadsF s m (backTo s.nt (r + 1))).2) (ih s.nt (by omega)) (ih r (by omega)) (s.wn r) (fun i hi => hr r i (by omega) hi)
    unfold tierSt
    dsimp only
    by_cases e : k = s.nt
    · subst e
      rw [upd_same]
      exact ht.1
    · rw [upd_ne _ _ e]
      by_cases e2 : k = r
      · subst e2
        rw [upd_same]
        exact ht.2
      · rw [upd_ne _ _ e2]
        exact ih k hk
theorem LoadsL_ok {s : Stk} (hf : (hangF s).1 < 0) {k : Nat} (hk : k ≤ s.nt) : ∀ x ∈ LoadsL s k, LdOk x :=
  loads_ok s (flr s) (fun t i ht hi => by
    have h := hangF_none hf t i ht hi
    simp only [hangP, decide_eq_false_iff_not] at h
    omega) s.nt 0 (by omega) k hk
theorem firstOf_at {p : Nat → Nat → Bool} {wn : Nat → Nat} {n k i : Nat} (h1 : ∀ t j, t < k → j < wn t → p t j = false) (h2 : ∀ j, j < i → p k j = false) (hk : k < n) (hi : i < wn k) (hp : p k i = true) : firstOf p (bricksTo wn n) = ((k : Int), (i : Int)) := by
  refine firstOf_some (pre := bricksTo wn k ++ rowTo k i) (x := (k, i)) ?_ ?_ hp
  · have h := bricksTo_part wn hk (show i + 1 ≤ wn k from hi)
    rw [show rowTo k (i + 1) = rowTo k i ++ [(k, i)] by simp [rowTo, List.range_succ], ← List.append_assoc] at h
    exact h
  · rintro ⟨t, j⟩ hy
    rcases List.mem_append.1 hy with hy | hy
    · obtain ⟨a, b⟩ := (mem_bricksTo _ _ _ _).1 hy
      exact h1 t j a b
    · simp only [rowTo, List.mem_map, List.mem_range, Prod.mk.injEq] at hy
      obtain ⟨j', a, rfl, rfl⟩ := hy
      exact h2 _ a
theorem firstOf_no {p : Nat → Nat → Bool} {wn : Nat → Nat} {n : Nat} (h : ∀ t j, t < n → j < wn t → p t j = false) : firstOf p (bricksTo wn n) = (-1, -1) :=
  firstOf_none fun x hx => by
    obtain ⟨a, b⟩ := (mem_bricksTo wn n x.1 x.2).1 hx
    exact h _ _ a b
end Go.Proofs.Ytlhekifmkkgjlaa
