/- Chapter 8: loads as exact numbers: what presses below is the weight of all above (no program in sight). -/
import Derived.Test.YtlhekifmkkgjlaaNc
set_option linter.unusedSimpArgs false
set_option linter.unusedVariables false
set_option linter.unnecessarySimpa false
namespace Go.Proofs.Ytlhekifmkkgjlaa
open Go Go.RowKit Go.Shelf
/-- a load as a number -/
def qR (x : Nat × Nat) : Rat := (x.1 : Rat) / (x.2 : Rat)
def sumTo (f : Nat → Rat) : Nat → Rat
  | 0 => 0
  | n + 1 => sumTo f n + f n
def sumL (f : Nat → Rat) : List Nat → Rat
  | [] => 0
  | c :: l => f c + sumL f l
theorem sumL_append (f : Nat → Rat) (l m : List Nat) : sumL f (l ++ m) = sumL f l + sumL f m := by
  induction l with
  | nil => show sumL f m = 0 + sumL f m; grind
  | cons c l ih => show f c + sumL f (l ++ m) = (f c + sumL f l) + sumL f m; rw [ih]; grind
theorem sumTo_congr {f g : Nat → Rat} {n : Nat} (h : ∀ c, c < n → f c = g c) : sumTo f n = sumTo g n := by
  induction n with
  | zero => rfl
  | succ n ih => show sumTo f n + f n = sumTo g n + g n; rw [ih (fun c hc => h c (by omega)), h n (by omega)]
theorem sumTo_add (f g : Nat → Rat) (n : Nat) : sumTo (fun c => f c + g c) n = sumTo f n + sumTo g n := by
  induction n with
  | zero => show (0 : Rat) = 0 + 0; grind
  | succ n ih => show sumTo (fun c => f c + g c) n + (f n + g n) = (sumTo f n + f n) + (sumTo g n + g n); rw [ih]; grind
theorem sumTo_zero {f : Nat → Rat} {n : Nat} (h : ∀ c, c < n → f c = 0) : sumTo f n = 0 := by
  induction n with
  | zero => rfl
  | succ n ih => show sumTo f n + f n = 0; rw [ih (fun c hc => h c (by omega)), h n (by omega)]; grind
theorem sumTo_nonneg {f : Nat → Rat} {n : Nat} (h : ∀ c, c < n → 0 ≤ f c) : 0 ≤ sumTo f n := by
  induction n with
  | zero => show (0 : Rat) ≤ 0; grind
  | succ n ih =>
    have h1 := ih (fun c hc => h c (by omega))
    have h2 := h n (by omega)
    show 0 ≤ sumTo f n + f n; grind
theorem sumTo_le {f g : Nat → Rat} {n : Nat} (h : ∀ c, c < n → f c ≤ g c) : sumTo f n ≤ sumTo g n := by
  induction n with
  | zero => show (0 : Rat) ≤ 0; grind
  | succ n ih =>
    have h1 := ih (fun c hc => h c (by omega))
    have h2 := h n (by omega)
    show sumTo f n + f n ≤ sumTo g n + g n; grind
/-- a sum over the cells of a brick -/
theorem sumL_cells (f : Nat → Rat) (x : Nat → Int) (b : Int) (n : Nat) : sumL f (cellsTo x b n) = sumTo (fun c => if x c = b then f c else 0) n := by
  induction n with
  | zero => rfl
  | succ n ih =>
    show _ = sumTo _ n + (if x n = b then f n else 0)
    by_cases h : x n = b
    · rw [cellsTo_yes h, sumL_append, ih, if_pos h]; show _ + (f n + 0) = _; grind
    · rw [cellsTo_no h, ih, if_neg h]; grind
/-- the cells of bricks 0 to k - 1 are those that hold one of them -/
theorem sumTo_bricks (f : Nat → Rat) (x : Nat → Int) (n : Nat) : ∀ k : Nat, sumTo (fun i => sumTo (fun c => if x c = (i : Int) then f c else 0) n) k = sumTo (fun c => if 0 ≤ x c ∧ x c < (k : Int) then f c else 0) n
  | 0 => by
    rw [sumTo_zero (n := n) (fun c _ => if_neg (by omega))]; rfl
  | k + 1 => by
    show sumTo _ k + sumTo _ n = _
    rw [sumTo_bricks f x n k, ← sumTo_add]
    refine sumTo_congr fun c _ => ?_
    by_cases h : x c = (k : Int)
    · rw [if_pos h, if_neg (by omega), if_pos (by omega)]; grind
    · rw [if_neg h]
      by_cases h2 : 0 ≤ x c ∧ x c < (k : Int)
      · rw [if_pos h2, if_pos (by omega)]; grind
      · rw [if_neg h2, if_neg (by omega)]; grind
theorem natR_pos {a : Nat} (h : 0 < a) : (a : Rat) ≠ 0 := by
  intro e
  have : a = 0 := by exact_mod_cast e
  omega
theorem qR_low {n d : Nat} (hd : 0 < d) : qR (lowP n d) = (n : Rat) / (d : Rat) := by
  have hg : 0 < Nat.gcd n d := Nat.gcd_pos_of_pos_right _ hd
  have h1 : n = Nat.gcd n d * (n / Nat.gcd n d) := (Nat.mul_div_cancel' (Nat.gcd_dvd_left _ _)).symm
  have h2 : d = Nat.gcd n d * (d / Nat.gcd n d) := (Nat.mul_div_cancel' (Nat.gcd_dvd_right _ _)).symm
  unfold qR lowP
  dsimp only
  have h3 : 0 < d / Nat.gcd n d := Nat.div_pos (Nat.le_of_dvd hd (Nat.gcd_dvd_right _ _)) hg
  generalize n / Nat.gcd n d = N at *
  generalize d / Nat.gcd n d = D at *
  generalize Nat.gcd n d = g at *
  subst h1 h2
  have e1 : ((g * N : Nat) : Rat) = (g : Rat) * N := by push_cast; rfl
  have e2 : ((g * D : Nat) : Rat) = (g : Rat) * D := by push_cast; rfl
  rw [e1, e2]
  have hgr := natR_pos hg
  have hdr := natR_pos h3
  grind
theorem qR_lowS {n d : Nat} (hd : 0 < d) (hf : fitP (lowP n d) = true) : qR (lowS n d) = (n : Rat) / (d : Rat) := by
  unfold lowS; rw [capP_yes hf]; exact qR_low hd
theorem qR_add {x y : Nat × Nat} (hx : LdOk x) (hy : LdOk y) (hf : fitP (lowP (addN x y) (addD x y)) = true) : qR (lowS (addN x y) (addD x y)) = qR x + qR y := by
  rw [qR_lowS (n := addN x y) (d := addD x y) (Nat.mul_pos hx.2.1 hy.2.1) hf]
  unfold qR addN addD
  have e1 : ((x.1 * y.2 + y.1 * x.2 : Nat) : Rat) = (x.1 : Rat) * y.2 + (y.1 : Rat) * x.2 := by push_cast; rfl
  have e2 : ((x.2 * y.2 : Nat) : Rat) = (x.2 : Rat) * y.2 := by push_cast; rfl
  rw [e1, e2]
  have h1 := natR_pos hx.2.1
  have h2 := natR_pos hy.2.1
  grind
theorem qR_zero : qR (0, 1) = 0 := by unfold qR; grind
theorem qR_nonneg {x : Nat × Nat} (h : LdOk x) : 0 ≤ qR x := by
  unfold qR
  have h1 : (0 : Rat) ≤ x.1 := by exact_mod_cast Nat.zero_le x.1
  have h2 : (0 : Rat) < x.2 := by
    have := natR_pos h.2.1
    have h3 : (0 : Rat) ≤ x.2 := by exact_mod_cast Nat.zero_le x.2
    grind
  rw [Rat.div_def]
  have h4 := Rat.inv_pos.2 h2
  exact Rat.mul_nonneg h1 (by grind)
/-- what lies on a brick is the sum of what presses on its cells -/
theorem addSt_sum {on : List (Nat × Nat)} (ho : ∀ x ∈ on, LdOk x) : ∀ (cs : List Nat) (st : (Nat × Nat) × Bool), LdOk st.1 → (cs.foldl (addSt on) st).2 = true → st.2 = true ∧ qR (cs.foldl (addSt on) st).1 = qR st.1 + sumL (fun c => qR (on.getD c (0, 1))) cs
  | [], st, h, h2 => ⟨h2, by show qR st.1 = qR st.1 + 0; grind⟩
  | c :: cs, st, h, h2 => by
    rw [List.foldl_cons] at h2 ⊢
    obtain ⟨a, b⟩ := addSt_sum ho cs (addSt on st c) (addSt_ok on st c h ho) h2
    rw [b]
    unfold addSt at a ⊢
    simp only [Bool.and_eq_true] at a
    refine ⟨a.1, ?_⟩
    dsimp only
    rw [qR_add h (getD_ok ho c) a.2]
    show _ = _ + (_ + _)
    grind
theorem onBrk_sum {s : Stk} {t i : Nat} {on : List (Nat × Nat)} {ok : Bool} (ho : ∀ x ∈ on, LdOk x) (h : (onBrk s t i on ok).2 = true) : ok = true ∧ qR (onBrk s t i on ok).1 = sumTo (fun c => if s.cf t c = (i : Int) then qR (on.getD c (0, 1)) else 0) (s.cn t) := by
  unfold onBrk at h ⊢
  obtain ⟨a, b⟩ := addSt_sum ho (cellsTo (s.cf t) i (s.cn t)) ((0, 1), ok) LdOk_zero h
  refine ⟨a, ?_⟩
  rw [b, sumL_cells, qR_zero]
  grind
theorem share_eq (a b z : Rat) (hb : b ≠ 0) (hz : z ≠ 0) : z * (a / (b * z)) = a / b := by grind
def sumS (m : Nat) (l : List (Nat × Nat)) : Rat := sumTo (fun c => qR (l.getD c (0, 1))) m
theorem getD_set (l : List (Nat × Nat)) (a c : Nat) (x : Nat × Nat) (ha : a < l.length) : (l.set a x).getD c (0, 1) = if c = a then x else l.getD c (0, 1) := by
  rw [List.getD_eq_getElem?_getD, List.getD_eq_getElem?_getD, List.getElem?_set]
  by_cases e : c = a
  · subst e; rw [if_pos rfl, if_pos rfl, if_pos ha]; rfl
  · rw [if_neg (Ne.symm e), if_neg e]
theorem layOn_get (x : Nat × Nat) (c : Nat) : ∀ (cs : List Nat) (l : List (Nat × Nat)), (∀ a ∈ cs, a < l.length) → (layOn l cs x).getD c (0, 1) = if c ∈ cs then x else l.getD c (0, 1)
  | [], l, _ => by simp [layOn]
  | a :: cs, l, h => by
    have ih := layOn_get x c cs (l.set a x) (fun b hb => by rw [List.length_set]; exact h b (List.mem_cons_of_mem _ hb))
    show (layOn (l.set a x) cs x).getD c (0, 1) = _
    rw [ih, getD_set l a c x (h a (List.mem_cons_self ..))]
    by_cases e : c = a
    · subst e; simp
    · by_cases e2 : c ∈ cs <;> simp [e, e2]
theorem sumTo_filter (p : Nat → Bool) (y : Rat) (n : Nat) : sumTo (fun c => if p c = true then y else 0) n = (((List.range n).filter p).length : Rat) * y := by
  induction n with
  | zero => show (0 : Rat) = ((0 : Nat) : Rat) * y; grind
  | succ n ih =>
    show sumTo _ n + (if p n = true then y else 0) = _
    rw [ih, List.range_succ, List.filter_append, List.length_append]
    by_cases h : p n = true
    · rw [if_pos h, List.filter_cons_of_pos h]
      show _ = (((_ + 1 : Nat)) : Rat) * y
      push_cast; grind
    · rw [if_neg h, List.filter_cons_of_neg h]
      show _ = (((_ + 0 : Nat)) : Rat) * y
      push_cast; grind
def restP (s : Stk) (t : Nat) (b : Int) (c : Nat) : Bool := covB s ((t : Int) - 1) c && decide (s.cf t c = b)
theorem restL_eq (s : Stk) (t : Nat) (b : Int) : restL s t b = (List.range (s.cn t)).filter (restP s t b) := by
  unfold restL cellsTo; rw [List.filter_filter]; rfl
theorem mem_restL {s : Stk} {t : Nat} {b : Int} {c : Nat} : c ∈ restL s t b ↔ c < s.cn t ∧ restP s t b c = true := by
  rw [restL_eq, List.mem_filter, List.mem_range]
theorem lay_sum {s : Stk} {t : Nat} {b : Int} {l : List (Nat × Nat)} (x : Nat × Nat) (hl : l.length = s.cn t) (hz : ∀ c, c < s.cn t → restP s t b c = true → l.getD c (0, 1) = (0, 1)) :
    sumS (s.cn t) (layOn l (restL s t b) x) = sumS (s.cn t) l + ((restL s t b).length : Rat) * qR x := by
  unfold sumS
  rw [restL_eq, ← sumTo_filter, ← sumTo_add]
  refine sumTo_congr fun c hc => ?_
  rw [← restL_eq, layOn_get x c _ l (fun a ha => by rw [hl]; exact (mem_restL.1 ha).1)]
  by_cases h : restP s t b c = true
  · rw [if_pos (mem_restL.2 ⟨hc, h⟩), if_pos h, hz c hc h, qR_zero]; grind
  · rw [if_neg (fun e => h (mem_restL.1 e).2), if_neg h]; grind
theorem qR_nat (n : Nat) : qR (n, 1) = (n : Rat) := by unfold qR; grind
theorem LdOk_nat {n : Nat} (h : n ≤ 1000000000) : LdOk (n, 1) := ⟨h, by simp, by simp⟩
def wtR (s : Stk) (t i : Nat) : Rat := (((s.wf t i).toNat : Nat) : Rat)
/-- after k bricks of a tier -/
structure TierOk (s : Stk) (t : Nat) (on : List (Nat × Nat)) (k : Nat) (st : List (Nat × Nat) × List (Nat × Nat) × Bool) : Prop where
  len : st.1.length = s.cn t
  cnt : st.2.1.length = k
  zero : ∀ c, c < s.cn t → (s.cf t c < 0 ∨ (k : Int) ≤ s.cf t c ∨ covB s ((t : Int) - 1) c = false) → st.1.getD c (0, 1) = (0, 1)
  loads : ∀ i, i < k → qR (st.2.1.getD i (0, 1)) = sumTo (fun c => if s.cf t c = (i : Int) then qR (on.getD c (0, 1)) else 0) (s.cn t)
  sum : sumS (s.cn t) st.1 = sumTo (fun i => sumTo (fun c => if s.cf t c = (i : Int) then qR (on.getD c (0, 1)) else 0) (s.cn t) + wtR s t i) k
theorem tier_sums {s : Stk} {t : Nat} {on : List (Nat × Nat)} {ok : Bool} (ho : ∀ x ∈ on, LdOk x) (hw : ∀ i : Nat, i < s.wn t → (s.wf t i).toNat ≤ 1000000000) (hr : ∀ i : Nat, i < s.wn t → 0 < (restL s t i).length) :
    ∀ k : Nat, k ≤ s.wn t → (tierR s (s.cn t) t on [] ok k).2.2 = true → ok = true ∧ TierOk s t on k (tierR s (s.cn t) t on [] ok k)
  | 0, _, h => ⟨h, ⟨by simp [tierR], rfl, fun c hc _ => by
      show (List.replicate (s.cn t) (0, 1)).getD c (0, 1) = (0, 1)
      rw [List.getD_eq_getElem?_getD, List.getElem?_replicate, if_pos hc]; rfl, fun i hi => absurd hi (by omega), by
      show sumTo (fun c => qR ((List.replicate (s.cn t) (0, 1)).getD c (0, 1))) (s.cn t) = 0
      refine sumTo_zero fun c hc => ?_
      rw [List.getD_eq_getElem?_getD, List.getElem?_replicate, if_pos hc]
      exact qR_zero⟩⟩
  | k + 1, hk, h => by
    rw [tierR_succ] at h ⊢
    generalize htr : tierR s (s.cn t) t on [] ok k = st at h ⊢
    unfold brkSt at h
    simp only [Bool.and_eq_true] at h
    obtain ⟨⟨h1, h2⟩, h3⟩ := h
    obtain ⟨h4, hon⟩ := onBrk_sum ho h1
    obtain ⟨hok, ih⟩ := tier_sums ho hw hr k (by omega) (by rw [htr]; exact h4)
    rw [htr] at ih
    have hlon := onBrk_ok (s := s) (t := t) (i := k) st.2.2 ho
    have hwk := hw k (by omega)
    have hrk := hr k (by omega)
    have hdn : qR (dnBrk s t k (onBrk s t k on st.2.2).1) = qR (onBrk s t k on st.2.2).1 + wtR s t k := by
      unfold dnBrk
      rw [qR_add (y := wtP s t k) hlon (LdOk_nat hwk) h2]
      unfold wtP
      rw [qR_nat]; rfl
    have hdo : LdOk (dnBrk s t k (onBrk s t k on st.2.2).1) := lowS_ok _ _ (Nat.mul_pos hlon.2.1 (by unfold wtP; simp))
    have hsh : ((restL s t k).length : Rat) * qR (shBrk s t k (dnBrk s t k (onBrk s t k on st.2.2).1)) = qR (dnBrk s t k (onBrk s t k on st.2.2).1) := by
      unfold shBrk
      rw [qR_lowS (Nat.mul_pos hdo.2.1 hrk) h3]
      generalize dnBrk s t k (onBrk s t k on st.2.2).1 = y at hdo ⊢
      have e2 : ((y.2 * (restL s t k).length : Nat) : Rat) = (y.2 : Rat) * ((restL s t k).length : Rat) := by push_cast; rfl
      rw [e2]
      have p1 := natR_pos hdo.2.1
      have p2 := natR_pos hrk
      exact share_eq _ _ _ p1 p2
    refine ⟨hok, ⟨?_, ?_, fun c hc hor => ?_, fun i hi => ?_, ?_⟩⟩
    · exact (brkSt_len ..).trans ih.len
    · show (st.2.1 ++ [_]).length = k + 1
      rw [List.length_append, ih.cnt]; rfl
    · show (layOn st.1 (restL s t k) _).getD c (0, 1) = (0, 1)
      rw [layOn_get _ c _ st.1 (fun a ha => by rw [ih.len]; exact (mem_restL.1 ha).1), if_neg (fun e => by
        have h5 := (mem_restL.1 e).2
        unfold restP at h5
        simp only [Bool.and_eq_true, decide_eq_true_eq] at h5
        rcases hor with h6 | h6 | h6
        · omega
        · omega
        · rw [h6] at h5; simp at h5)]
      exact ih.zero c hc (by rcases hor with h6 | h6 | h6 <;> first | exact .inl h6 | exact .inr (.inl (by omega)) | exact .inr (.inr h6))
    · show qR ((st.2.1 ++ [_]).getD i (0, 1)) = _
      by_cases e : i = k
      · subst e
        rw [List.getD_eq_getElem?_getD, List.getElem?_append_right (by rw [ih.cnt]; omega), ih.cnt, Nat.sub_self]
        exact hon
      · rw [List.getD_eq_getElem?_getD, List.getElem?_append_left (by rw [ih.cnt]; omega), ← List.getD_eq_getElem?_getD]
        exact ih.loads i (by omega)
    · show sumS (s.cn t) (layOn st.1 (restL s t k) _) = sumTo _ k + (_ + _)
      rw [lay_sum _ ih.len (fun c hc hp => ih.zero c hc (by
        unfold restP at hp
        simp only [Bool.and_eq_true, decide_eq_true_eq] at hp
        exact .inr (.inl (by omega)))), ih.sum, hsh, hdn, hon]
end Go.Proofs.Ytlhekifmkkgjlaa
