/- Chapter 8: loads as exact numbers: what presses below is the weight of all above (no program in sight). -/
import Derived.Test.YtlhekifmkkgjlaaCrushesD
import Derived.Deep.CutBlock
import Derived.Deep.DeepCutAuto
set_option linter.unusedSimpArgs false
set_option linter.unusedVariables false
set_option linter.unnecessarySimpa false
namespace Go.Proofs.Ytlhekifmkkgjlaa
open Go Go.RowKit Go.Shelf
/-- a load as a number -/
def qR (x : Nat × Nat) : Rat := (x.1 : Rat) / (x.2 : Rat)
def sumTo (f : Nat → Rat) : Nat → Rat
  | 0 => 0
  | n + 1 => sumTo f n + f n
def sumL (f : Nat → Rat) : List Nat → Rat
  | [] => 0
  | c :: l => f c + sumL f l
theorem sumL_append (f : Nat → Rat) (l m : List Nat) : sumL f (l ++ m) = sumL f l + sumL f m := by
  induction l with
  | nil => show sumL f m = 0 + sumL f m; grind
  | cons c l ih => show f c + sumL f (l ++ m) = (f c + sumL f l) + sumL f m; rw [ih]; grind
theorem sumTo_congr {f g : Nat → Rat} {n : Nat} (h : ∀ c, c < n → f c = g c) : sumTo f n = sumTo g n := by
  induction n with
  | zero => rfl
  | succ n ih => show sumTo f n + f n = sumTo g n + g n; rw [ih (fun c hc => h c (by omega)), h n (by omega)]
theorem sumTo_add (f g : Nat → Rat) (n : Nat) : sumTo (fun c => f c + g c) n = sumTo f n + sumTo g n := by
  induction n with
  | zero => show (0 : Rat) = 0 + 0; grind
  | succ n ih => show sumTo (fun c => f c + g c) n + (f n + g n) = (sumTo f n + f n) + (sumTo g n + g n); rw [ih]; grind
theorem sumTo_zero {f : Nat → Rat} {n : Nat} (h : ∀ c, c < n → f c = 0) : sumTo f n = 0 := by
  induction n with
  | zero => rfl
  | succ n ih => show sumTo f n + f n = 0; rw [ih (fun c hc => h c (by omega)), h n (by omega)]; grind
theorem sumTo_nonneg {f : Nat → Rat} {n : Nat} (h : ∀ c, c < n → 0 ≤ f c) : 0 ≤ sumTo f n := by
  induction n with
  | zero => show (0 : Rat) ≤ 0; grind
  | succ n ih =>
    have h1 := ih (fun c hc => h c (by omega))
    have h2 := h n (by omega)
    show 0 ≤ sumTo f n + f n; grind
theorem sumTo_le {f g : Nat → Rat} {n : Nat} (h : ∀ c, c < n → f c ≤ g c) : sumTo f n ≤ sumTo g n := by
  induction n with
  | zero => show (0 : Rat) ≤ 0; grind
  | succ n ih =>
    have h1 := ih (fun c hc => h c (by omega))
    have h2 := h n (by omega)
    show sumTo f n + f n ≤ sumTo g n + g n; grind
/-- a sum over the cells of a brick -/
theorem sumL_cells (f : Nat → Rat) (x : Nat → Int) (b : Int) (n : Nat) : sumL f (cellsTo x b n) = sumTo (fun c => if x c = b then f c else 0) n := by
  induction n with
  | zero => rfl
  | succ n ih =>
    show _ = sumTo _ n + (if x n = b then f n else 0)
    by_cases h : x n = b
    · rw [cellsTo_yes h, sumL_append, ih, if_pos h]; show _ + (f n + 0) = _; grind
    · rw [cellsTo_no h, ih, if_neg h]; grind
/-- the cells of bricks 0 to k - 1 are those that hold one of them -/
theorem sumTo_bricks (f : Nat → Rat) (x : Nat → Int) (n : Nat) : ∀ k : Nat, sumTo (fun i => sumTo (fun c => if x c = (i : Int) then f c else 0) n) k = sumTo (fun c => if 0 ≤ x c ∧ x c < (k : Int) then f c else 0) n
  | 0 => by
    rw [sumTo_zero (n := n) (fun c _ => if_neg (by omega))]; rfl
  | k + 1 => by
    show sumTo _ k + sumTo _ n = _
    rw [sumTo_bricks f x n k, ← sumTo_add]
    refine sumTo_congr fun c _ => ?_
    by_cases h : x c = (k : Int)
    · rw [if_pos h, if_neg (by omega), if_pos (by omega)]; grind
    · rw [if_neg h]
      by_cases h2 : 0 ≤ x c ∧ x c < (k : Int)
      · rw [if_pos h2, if_pos (by omega)]; grind
      · rw [if_neg h2, if_neg (by omega)]; grind
theorem natR_pos {a : Nat} (h : 0 < a) : (a : Rat) ≠ 0 := by
  intro e
  have : a = 0 := by exact_mod_cast e
  omega
theorem qR_low {n d : Nat} (hd : 0 < d) : qR (lowP n d) = (n : Rat) / (d : Rat) := by
  have hg : 0 < Nat.gcd n d := Nat.gcd_pos_of_pos_right _ hd
  have h1 : n = Nat.gcd n d * (n / Nat.gcd n d) := (Nat.mul_div_cancel' (Nat.gcd_dvd_left _ _)).symm
  have h2 : d = Nat.gcd n d * (d / Nat.gcd n d) := (Nat.mul_div_cancel' (Nat.gcd_dvd_right _ _)).symm
  unfold qR lowP
  dsimp only
  have h3 : 0 < d / Nat.gcd n d := Nat.div_pos (Nat.le_of_dvd hd (Nat.gcd_dvd_right _ _)) hg
  generalize n / Nat.gcd n d = N at *
  generalize d / Nat.gcd n d = D at *
  generalize Nat.gcd n d = g at *
  subst h1 h2
  have e1 : ((g * N : Nat) : Rat) = (g : Rat) * N := by push_cast; rfl
  have e2 : ((g * D : Nat) : Rat) = (g : Rat) * D := by push_cast; rfl
  rw [e1, e2]
  have hgr := natR_pos hg
  have hdr := natR_pos h3
  grind
theorem qR_lowS {n d : Nat} (hd : 0 < d) (hf : fitP (lowP n d) = true) : qR (lowS n d) = (n : Rat) / (d : Rat) := by
  unfold lowS; rw [capP_yes hf]; exact qR_low hd
theorem qR_add {x y : Nat × Nat} (hx : LdOk x) (hy : LdOk y) (hf : fitP (lowP (addN x y) (addD x y)) = true) : qR (lowS (addN x y) (addD x y)) = qR x + qR y := by
  rw [qR_lowS (n := addN x y) (d := addD x y) (Nat.mul_pos hx.2.1 hy.2.1) hf]
  unfold qR addN addD
  have e1 : ((x.1 * y.2 + y.1 * x.2 : Nat) : Rat) = (x.1 : Rat) * y.2 + (y.1 : Rat) * x.2 := by push_cast; rfl
  have e2 : ((x.2 * y.2 : Nat) : Rat) = (x.2 : Rat) * y.2 := by push_cast; rfl
  rw [e1, e2]
  have h1 := natR_pos hx.2.1
  have h2 := natR_pos hy.2.1
  grind
theorem qR_zero : qR (0, 1) = 0 := by unfold qR; grind
theorem qR_nonneg {x : Nat × Nat} (h : LdOk x) : 0 ≤ qR x := by
  unfold qR
  have h1 : (0 : Rat) ≤ x.1 := by exact_mod_cast Nat.zero_le x.1
  have h2 : (0 : Rat) < x.2 := by
    have := natR_pos h.2.1
    have h3 : (0 : Rat) ≤ x.2 := by exact_mod_cast Nat.zero_le x.2
    grind
  rw [Rat.div_def]
  have h4 := Rat.inv_pos.2 h2
  exact Rat.mul_nonneg h1 (by grind)
/-- what lies on a brick is the sum of what presses on its cells -/
theorem addSt_sum {on : List (Nat × Nat)} (ho : ∀ x ∈ on, LdOk x) : ∀ (cs : List Nat) (st : (Nat × Nat) × Bool), LdOk st.1 → (cs.foldl (addSt on) st).2 = true → st.2 = true ∧ qR (cs.foldl (addSt on) st).1 = qR st.1 + sumL (fun c => qR (on.getD c (0, 1))) cs
  | [], st, h, h2 => ⟨h2, by show qR st.1 = qR st.1 + 0; grind⟩
  | c :: cs, st, h, h2 => by
    rw [List.foldl_cons] at h2 ⊢
    obtain ⟨a, b⟩ := addSt_sum ho cs (addSt on st c) (addSt_ok on st c h ho) h2
    rw [b]
    unfold addSt at a ⊢
    simp only [Bool.and_eq_true] at a
    refine ⟨a.1, ?_⟩
    dsimp only
    rw [qR_add h (getD_ok ho c) a.2]
    show _ = _ + (_ + _)
    grind
theorem onBrk_sum {s : Stk} {t i : Nat} {on : List (Nat × Nat)} {ok : Bool} (ho : ∀ x ∈ on, LdOk x) (h : (onBrk s t i on ok).2 = true) : ok = true ∧ qR (onBrk s t i on ok).1 = sumTo (fun c => if s.cf t c = (i : Int) then qR (on.getD c (0, 1)) else 0) (s.cn t) := by
  unfold onBrk at h ⊢
  obtain ⟨a, b⟩ := addSt_sum ho (cellsTo (s.cf t) i (s.cn t)) ((0, 1), ok) LdOk_zero h
  refine ⟨a, ?_⟩
  rw [b, sumL_cells, qR_zero]
  grind
theorem share_eq (a b z : Rat) (hb : b ≠ 0) (hz : z ≠ 0) : z * (a / (b * z)) = a / b := by grind
def sumS (m : Nat) (l : List (Nat × Nat)) : Rat := sumTo (fun c => qR (l.getD c (0, 1))) m
theorem getD_set (l : List (Nat × Nat)) (a c : Nat) (x : Nat × Nat) (ha : a < l.length) : (l.set a x).getD c (0, 1) = if c = a then x else l.getD c (0, 1) := by
  rw [List.getD_eq_getElem?_getD, List.getD_eq_getElem?_getD, List.getElem?_set]
  by_cases e : c = a
  · subst e; rw [if_pos rfl, if_pos rfl, if_pos ha]; rfl
  · rw [if_neg (Ne.symm e), if_neg e]
theorem layOn_get (x : Nat × Nat) (c : Nat) : ∀ (cs : List Nat) (l : List (Nat × Nat)), (∀ a ∈ cs, a < l.length) → (layOn l cs x).getD c (0, 1) = if c ∈ cs then x else l.getD c (0, 1)
  | [], l, _ => by simp [layOn]
  | a :: cs, l, h => by
    have ih := layOn_get x c cs (l.set a x) (fun b hb => by rw [List.length_set]; exact h b (List.mem_cons_of_mem _ hb))
    show (layOn (l.set a x) cs x).getD c (0, 1) = _
    rw [ih, getD_set l a c x (h a (List.mem_cons_self ..))]
    by_cases e : c = a
    · subst e; simp
    · by_cases e2 : c ∈ cs <;> simp [e, e2]
theorem sumTo_filter (p : Nat → Bool) (y : Rat) (n : Nat) : sumTo (fun c => if p c = true then y else 0) n = (((List.range n).filter p).length : Rat) * y := by
  induction n with
  | zero => show (0 : Rat) = ((0 : Nat) : Rat) * y; grind
  | succ n ih =>
    show sumTo _ n + (if p n = true then y else 0) = _
    rw [ih, List.range_succ, List.filter_append, List.length_append]
    by_cases h : p n = true
    · rw [if_pos h, List.filter_cons_of_pos h]
      show _ = (((_ + 1 : Nat)) : Rat) * y
      push_cast; grind
    · rw [if_neg h, List.filter_cons_of_neg h]
      show _ = (((_ + 0 : Nat)) : Rat) * y
      push_cast; grind
def restP (s : Stk) (t : Nat) (b : Int) (c : Nat) : Bool := covB s ((t : Int) - 1) c && decide (s.cf t c = b)
theorem restL_eq (s : Stk) (t : Nat) (b : Int) : restL s t b = (List.range (s.cn t)).filter (restP s t b) := by
  unfold restL cellsTo; rw [List.filter_filter]; rfl
theorem mem_restL {s : Stk} {t : Nat} {b : Int} {c : Nat} : c ∈ restL s t b ↔ c < s.cn t ∧ restP s t b c = true := by
  rw [restL_eq, List.mem_filter, List.mem_range]
theorem lay_sum {s : Stk} {t : Nat} {b : Int} {l : List (Nat × Nat)} (x : Nat × Nat) (hl : l.length = s.cn t) (hz : ∀ c, c < s.cn t → restP s t b c = true → l.getD c (0, 1) = (0, 1)) :
    sumS (s.cn t) (layOn l (restL s t b) x) = sumS (s.cn t) l + ((restL s t b).length : Rat) * qR x := by
  unfold sumS
  rw [restL_eq, ← sumTo_filter, ← sumTo_add]
  refine sumTo_congr fun c hc => ?_
  rw [← restL_eq, layOn_get x c _ l (fun a ha => by rw [hl]; exact (mem_restL.1 ha).1)]
  by_cases h : restP s t b c = true
  · rw [if_pos (mem_restL.2 ⟨hc, h⟩), if_pos h, hz c hc h, qR_zero]; grind
  · rw [if_neg (fun e => h (mem_restL.1 e).2), if_neg h]; grind
theorem qR_nat (n : Nat) : qR (n, 1) = (n : Rat) := by unfold qR; grind
theorem LdOk_nat {n : Nat} (h : n ≤ 1000000000) : LdOk (n, 1) := ⟨h, by simp, by simp⟩
def wtR (s : Stk) (t i : Nat) : Rat := (((s.wf t i).toNat : Nat) : Rat)
/-- after k bricks of a tier -/
structure TierOk (s : Stk) (t : Nat) (on : List (Nat × Nat)) (k : Nat) (st : List (Nat × Nat) × List (Nat × Nat) × Bool) : Prop where
  len : st.1.length = s.cn t
  cnt : st.2.1.length = k
  zero : ∀ c, c < s.cn t → (s.cf t c < 0 ∨ (k : Int) ≤ s.cf t c ∨ covB s ((t : Int) - 1) c = false) → st.1.getD c (0, 1) = (0, 1)
  loads : ∀ i, i < k → qR (st.2.1.getD i (0, 1)) = sumTo (fun c => if s.cf t c = (i : Int) then qR (on.getD c (0, 1)) else 0) (s.cn t)
  sum : sumS (s.cn t) st.1 = sumTo (fun i => sumTo (fun c => if s.cf t c = (i : Int) then qR (on.getD c (0, 1)) else 0) (s.cn t) + wtR s t i) k
theorem tier_sums {s : Stk} {t : Nat} {on : List (Nat × Nat)} {ok : Bool} (ho : ∀ x ∈ on, LdOk x) (hw : ∀ i : Nat, i < s.wn t → (s.wf t i).toNat ≤ 1000000000) (hr : ∀ i : Nat, i < s.wn t → 0 < (restL s t i).length) :
    ∀ k : Nat, k ≤ s.wn t → (tierR s (s.cn t) t on [] ok k).2.2 = true → ok = true ∧ TierOk s t on k (tierR s (s.cn t) t on [] ok k)
  | 0, _, h => ⟨h, ⟨by simp [tierR], rfl, fun c hc _ => by
      show (List.replicate (s.cn t) (0, 1)).getD c (0, 1) = (0, 1)
      rw [List.getD_eq_getElem?_getD, List.getElem?_replicate, if_pos hc]; rfl, fun i hi => absurd hi (by omega), by
      show sumTo (fun c => qR ((List.replicate (s.cn t) (0, 1)).getD c (0, 1))) (s.cn t) = 0
      refine sumTo_zero fun c hc => ?_
      rw [List.getD_eq_getElem?_getD, List.getElem?_replicate, if_pos hc]
      exact qR_zero⟩⟩
  | k + 1, hk, h => by
    rw [tierR_succ] at h ⊢
    generalize htr : tierR s (s.cn t) t on [] ok k = st at h ⊢
    unfold brkSt at h
    simp only [Bool.and_eq_true] at h
    obtain ⟨⟨h1, h2⟩, h3⟩ := h
    obtain ⟨h4, hon⟩ := onBrk_sum ho h1
    obtain ⟨hok, ih⟩ := tier_sums ho hw hr k (by omega) (by rw [htr]; exact h4)
    rw [htr] at ih
    have hlon := onBrk_ok (s := s) (t := t) (i := k) st.2.2 ho
    have hwk := hw k (by omega)
    have hrk := hr k (by omega)
    have hdn : qR (dnBrk s t k (onBrk s t k on st.2.2).1) = qR (onBrk s t k on st.2.2).1 + wtR s t k := by
      unfold dnBrk
      rw [qR_add (y := wtP s t k) hlon (LdOk_nat hwk) h2]
      unfold wtP
      rw [qR_nat]; rfl
    have hdo : LdOk (dnBrk s t k (onBrk s t k on st.2.2).1) := lowS_ok _ _ (Nat.mul_pos hlon.2.1 (by unfold wtP; simp))
    have hsh : ((restL s t k).length : Rat) * qR (shBrk s t k (dnBrk s t k (onBrk s t k on st.2.2).1)) = qR (dnBrk s t k (onBrk s t k on st.2.2).1) := by
      unfold shBrk
      rw [qR_lowS (Nat.mul_pos hdo.2.1 hrk) h3]
      generalize dnBrk s t k (onBrk s t k on st.2.2).1 = y at hdo ⊢
      have e2 : ((y.2 * (restL s t k).length : Nat) : Rat) = (y.2 : Rat) * ((restL s t k).length : Rat) := by push_cast; rfl
      rw [e2]
      have p1 := natR_pos hdo.2.1
      have p2 := natR_pos hrk
      exact share_eq _ _ _ p1 p2
    refine ⟨hok, ⟨?_, ?_, fun c hc hor => ?_, fun i hi => ?_, ?_⟩⟩
    · exact (brkSt_len ..).trans ih.len
    · show (st.2.1 ++ [_]).length = k + 1
      rw [List.length_append, ih.cnt]; rfl
    · show (layOn st.1 (restL s t k) _).getD c (0, 1) = (0, 1)
      rw [layOn_get _ c _ st.1 (fun a ha => by rw [ih.len]; exact (mem_restL.1 ha).1), if_neg (fun e => by
        have h5 := (mem_restL.1 e).2
        unfold restP at h5
        simp only [Bool.and_eq_true, decide_eq_true_eq] at h5
        rcases hor with h6 | h6 | h6
        · omega
        · omega
        · rw [h6] at h5; simp at h5)]
      exact ih.zero c hc (by rcases hor with h6 | h6 | h6 <;> first | exact .inl h6 | exact .inr (.inl (by omega)) | exact .inr (.inr h6))
    · show qR ((st.2.1 ++ [_]).getD i (0, 1)) = _
      by_cases e : i = k
      · subst e
        rw [List.getD_eq_getElem?_getD, List.getElem?_append_right (by rw [ih.cnt]; omega), ih.cnt, Nat.sub_self]
        exact hon
      · rw [List.getD_eq_getElem?_getD, List.getElem?_append_left (by rw [ih.cnt]; omega), ← List.getD_eq_getElem?_getD]
        exact ih.loads i (by omega)
    · show sumS (s.cn t) (layOn st.1 (restL s t k) _) = sumTo _ k + (_ + _)
      rw [lay_sum _ ih.len (fun c hc hp => ih.zero c hc (by
        unfold restP at hp
        simp only [Bool.and_eq_true, decide_eq_true_eq] at hp
        exact .inr (.inl (by omega)))), ih.sum, hsh, hdn, hon]
end Go.Proofs.Ytlhekifmkkgjlaa
/- Chapter 8: the loads of a whole stack as exact numbers (no program in sight). -/
namespace Go.Proofs.Ytlhekifmkkgjlaa
open Go Go.RowKit Go.Shelf
/-- the weight of a tier, and of d tiers from r on -/
def wSum (s : Stk) (t : Nat) : Rat := sumTo (wtR s t) (s.wn t)
def wUp (s : Stk) : Nat → Nat → Rat
  | 0, _ => 0
  | d + 1, r => wSum s r + wUp s d (r + 1)
abbrev gL (s : Stk) (r : Nat) : (Nat → List (Nat × Nat)) × Bool := loadsF s (flr s) (backTo s.nt r)
theorem tier_facts {s : Stk} (h : stackB s = true) {t : Nat} (ht : t < s.nt) : s.cn t = flr s ∧ s.wn t ≤ flr s ∧ (∀ i, i < s.wn t → 0 ≤ s.wf t i ∧ s.wf t i ≤ 1000) ∧ (∀ c, c < s.cn t → -1 ≤ s.cf t c ∧ s.cf t c ≤ (s.wn t : Int) - 1) ∧ flr s ≤ 144 := by
  have h1 := ((stackB_iff s).1 h).2.2 t ht
  have h2 := (stackB_iff s).1 h
  have hm := flr_eq h
  simp only [tierB, Bool.and_eq_true, decide_eq_true_eq, wiB_iff] at h1
  obtain ⟨a, b, c, d, -⟩ := h1
  have h3 := mul_bd (a := s.wd) (b := s.hg) (M := 12) (N := 12) (by omega) (by omega) (by omega) (by omega)
  exact ⟨by omega, by omega, c, d, by omega⟩
theorem gL_step {s : Stk} {r : Nat} (h : r < s.nt) : gL s r = tierSt s (flr s) (gL s (r + 1)) r := loads_step h
structure TowerOk (s : Stk) (d r : Nat) : Prop where
  zero : ∀ c, c < flr s → covB s ((r : Int) - 1) c = false → ((gL s r).1 s.nt).getD c (0, 1) = (0, 1)
  sum : sumS (flr s) ((gL s r).1 s.nt) = wUp s d r
  loads : ∀ t i, r ≤ t → t < s.nt → i < s.wn t → qR (((gL s r).1 t).getD i (0, 1)) = sumTo (fun c => if s.cf t c = (i : Int) then qR (((gL s (t + 1)).1 s.nt).getD c (0, 1)) else 0) (flr s)
theorem rest_pos {s : Stk} (hf : (hangF s).1 < 0) : ∀ t i : Nat, t < s.nt → i < s.wn t → 0 < (restL s t i).length := fun t i ht hi => by
  have h := hangF_none hf t i ht hi
  simp only [hangP, decide_eq_false_iff_not] at h
  omega
theorem tower {s : Stk} (h : stackB s = true) (hf : (hangF s).1 < 0) : ∀ d r, r + d = s.nt → (gL s r).2 = true → TowerOk s d r ∧ ∀ r', r ≤ r' → r' ≤ s.nt → (gL s r').2 = true
  | 0, r, hr, hok => by
    obtain rfl : r = s.nt := by omega
    have e : (gL s s.nt).1 s.nt = List.replicate (flr s) (0, 1) := by
      show (loadsF s (flr s) (backTo s.nt s.nt)).1 s.nt = _
      rw [loads_top]; simp [ld0]
    have hz : ∀ c, c < flr s → ((gL s s.nt).1 s.nt).getD c (0, 1) = (0, 1) := fun c hc => by
      rw [e, List.getD_eq_getElem?_getD, List.getElem?_replicate, if_pos hc]; rfl
    refine ⟨⟨fun c hc _ => hz c hc, ?_, fun t i h1 h2 => absurd h2 (by omega)⟩, fun r' h1 h2 => by
      obtain rfl : r' = s.nt := by omega
      exact hok⟩
    refine sumTo_zero fun c hc => ?_
    rw [hz c hc]; exact qR_zero
  | d + 1, r, hr, hok => by
    have hrn : r < s.nt := by omega
    obtain ⟨f1, f2, f3, f4, f5⟩ := tier_facts h hrn
    have hlok := loads_ok s (flr s) (rest_pos hf) d (r + 1) (by omega) s.nt (Nat.le_refl _)
    have hnil : (gL s (r + 1)).1 r = [] := by
      have h1 := loads_cnt s (flr s) d (r + 1) (by omega) r hrn
      rw [if_neg (by omega)] at h1
      exact List.eq_nil_of_length_eq_zero h1
    have hstep := gL_step hrn
    have hok' := hok
    rw [hstep] at hok'
    unfold tierSt at hok'
    dsimp only at hok'
    rw [hnil] at hok'
    rw [← f1] at hok'
    obtain ⟨hok1, htk⟩ := tier_sums (on := (gL s (r + 1)).1 s.nt) (ok := (gL s (r + 1)).2) hlok (fun i hi => by have := f3 i hi; omega) (fun i hi => rest_pos hf r i hrn hi) (s.wn r) (Nat.le_refl _) hok'
    obtain ⟨ih, ihok⟩ := tower h hf d (r + 1) (by omega) hok1
    have eon : (gL s r).1 s.nt = (tierR s (s.cn r) r ((gL s (r + 1)).1 s.nt) [] (gL s (r + 1)).2 (s.wn r)).1 := by
      rw [hstep]; unfold tierSt; dsimp only; rw [upd_same, hnil, f1]
    have eld : (gL s r).1 r = (tierR s (s.cn r) r ((gL s (r + 1)).1 s.nt) [] (gL s (r + 1)).2 (s.wn r)).2.1 := by
      rw [hstep]; unfold tierSt; dsimp only; rw [upd_ne _ _ (by omega), upd_same, hnil, f1]
    have eot : ∀ t, t < s.nt → t ≠ r → (gL s r).1 t = (gL s (r + 1)).1 t := fun t h1 h2 => by
      rw [hstep]; unfold tierSt; dsimp only; rw [upd_ne _ _ (by omega), upd_ne _ _ h2]
    refine ⟨⟨fun c hc hcv => ?_, ?_, fun t i h1 h2 h3 => ?_⟩, fun r' h1 h2 => ?_⟩
    · rw [eon]; exact htk.zero c (by omega) (.inr (.inr hcv))
    · rw [eon, ← f1, htk.sum, sumTo_add, sumTo_bricks]
      show _ + wSum s r = wSum s r + wUp s d (r + 1)
      rw [← ih.sum]
      have e : sumTo (fun c => if 0 ≤ s.cf r c ∧ s.cf r c < ((s.wn r : Nat) : Int) then qR (((gL s (r + 1)).1 s.nt).getD c (0, 1)) else 0) (s.cn r) = sumS (flr s) ((gL s (r + 1)).1 s.nt) := by
        unfold sumS
        rw [f1]
        refine sumTo_congr fun c hc => ?_
        obtain ⟨g1, g2⟩ := f4 c (by omega)
        by_cases hp : 0 ≤ s.cf r c
        · rw [if_pos (by omega)]
        · rw [if_neg (by omega), ih.zero c hc (by
            unfold covB
            rw [decide_eq_false (by omega), Bool.false_or]
            have e3 : (((r + 1 : Nat) : Int) - 1).toNat = r := by omega
            rw [e3, decide_eq_false hp, Bool.and_false]), qR_zero]
      rw [e]; grind
    · by_cases e : t = r
      · subst e
        rw [eld, ← f1]
        exact htk.loads i h3
      · rw [eot t h2 e]
        exact ih.loads t i (by omega) h2 h3
    · by_cases e : r' = r
      · subst e; exact hok
      · exact ihok r' (by omega) h2
theorem wSum_bd {s : Stk} (h : stackB s = true) {t : Nat} (ht : t < s.nt) {M : Nat} (hM : s.wn t ≤ M) : 0 ≤ wSum s t ∧ wSum s t ≤ ((M * 1000 : Nat) : Rat) := by
  obtain ⟨-, -, f3, -, -⟩ := tier_facts h ht
  have key : ∀ k, k ≤ s.wn t → 0 ≤ sumTo (wtR s t) k ∧ sumTo (wtR s t) k ≤ ((k * 1000 : Nat) : Rat) := by
    intro k
    induction k with
    | zero => intro _; exact ⟨by show (0 : Rat) ≤ 0; grind, by show (0 : Rat) ≤ ((0 * 1000 : Nat) : Rat); push_cast; grind⟩
    | succ k ih =>
      intro hk
      obtain ⟨a, b⟩ := ih (by omega)
      obtain ⟨c, d⟩ := f3 k (by omega)
      have h1 : (0 : Rat) ≤ wtR s t k := by unfold wtR; exact Rat.natCast_nonneg
      have h2 : wtR s t k ≤ ((1000 : Nat) : Rat) := by unfold wtR; exact Rat.natCast_le_natCast.2 (by omega)
      have e : (((k + 1) * 1000 : Nat) : Rat) = ((k * 1000 : Nat) : Rat) + ((1000 : Nat) : Rat) := by push_cast; grind
      show 0 ≤ sumTo (wtR s t) k + wtR s t k ∧ sumTo (wtR s t) k + wtR s t k ≤ _
      rw [e]
      exact ⟨by grind, by grind⟩
  obtain ⟨a, b⟩ := key (s.wn t) (Nat.le_refl _)
  refine ⟨a, ?_⟩
  have h3 : ((s.wn t * 1000 : Nat) : Rat) ≤ ((M * 1000 : Nat) : Rat) := Rat.natCast_le_natCast.2 (by omega)
  unfold wSum
  grind
theorem wUp_bd {s : Stk} (h : stackB s = true) {M : Nat} (hM : ∀ t, t < s.nt → s.wn t ≤ M) : ∀ d r, r + d = s.nt → 0 ≤ wUp s d r ∧ wUp s d r ≤ ((d * (M * 1000) : Nat) : Rat)
  | 0, r, _ => ⟨by show (0 : Rat) ≤ 0; grind, by show (0 : Rat) ≤ ((0 * (M * 1000) : Nat) : Rat); rw [Nat.zero_mul]; push_cast; grind⟩
  | d + 1, r, hr => by
    obtain ⟨a, b⟩ := wUp_bd h hM d (r + 1) (by omega)
    obtain ⟨c, e⟩ := wSum_bd h (show r < s.nt by omega) (hM r (by omega))
    have e2 : (((d + 1) * (M * 1000) : Nat) : Rat) = ((d * (M * 1000) : Nat) : Rat) + ((M * 1000 : Nat) : Rat) := by
      rw [Nat.add_mul, Nat.one_mul]; push_cast; rfl
    show 0 ≤ wSum s r + wUp s d (r + 1) ∧ wSum s r + wUp s d (r + 1) ≤ _
    rw [e2]
    exact ⟨by grind, by grind⟩
/-- no load is more than all weights together -/
theorem load_bd {s : Stk} (h : stackB s = true) (hf : (hangF s).1 < 0) (ho : LoadsB s = true) {M : Nat} (hM : ∀ t, t < s.nt → s.wn t ≤ M) {t i : Nat} (ht : t < s.nt) (hi : i < s.wn t) :
    ((LoadsL s t).getD i (0, 1)).1 ≤ s.nt * (M * 1000) * ((LoadsL s t).getD i (0, 1)).2 := by
  obtain ⟨hT, hokr⟩ := tower h hf s.nt 0 (by omega) ho
  have hokt := hokr (t + 1) (by omega) (by omega)
  obtain ⟨hT1, -⟩ := tower h hf (s.nt - (t + 1)) (t + 1) (by omega) hokt
  have h1 := hT.loads t i (by omega) ht hi
  have hon := loads_ok s (flr s) (rest_pos hf) (s.nt - (t + 1)) (t + 1) (by omega) s.nt (Nat.le_refl _)
  have h2 : qR ((LoadsL s t).getD i (0, 1)) ≤ sumS (flr s) ((gL s (t + 1)).1 s.nt) := by
    refine (show _ = _ from h1) ▸ sumTo_le fun c hc => ?_
    have hq := qR_nonneg (getD_ok hon c)
    by_cases e : s.cf t c = (i : Int)
    · rw [if_pos e]; grind
    · rw [if_neg e]; exact hq
  rw [hT1.sum] at h2
  have h3 := (wUp_bd h hM (s.nt - (t + 1)) (t + 1) (by omega)).2
  have h4 : (((s.nt - (t + 1)) * (M * 1000) : Nat) : Rat) ≤ ((s.nt * (M * 1000) : Nat) : Rat) := Rat.natCast_le_natCast.2 (Nat.mul_le_mul_right _ (by omega))
  have hx := getD_ok (LoadsL_ok hf (show t ≤ s.nt by omega)) i
  generalize (LoadsL s t).getD i (0, 1) = x at h2 hx ⊢
  have h5 : qR x ≤ ((s.nt * (M * 1000) : Nat) : Rat) := by grind
  have hp := natR_pos hx.2.1
  have hp2 : (0 : Rat) ≤ x.2 := Rat.natCast_nonneg
  have h6 : (x.1 : Rat) = qR x * x.2 := by unfold qR; grind
  have h7 : qR x * x.2 ≤ ((s.nt * (M * 1000) : Nat) : Rat) * x.2 := Rat.mul_le_mul_of_nonneg_right h5 hp2
  rw [← h6] at h7
  have h8 : ((s.nt * (M * 1000) : Nat) : Rat) * (x.2 : Rat) = ((s.nt * (M * 1000) * x.2 : Nat) : Rat) := (Rat.natCast_mul ..).symm
  rw [h8] at h7
  exact Rat.natCast_le_natCast.1 h7
end Go.Proofs.Ytlhekifmkkgjlaa
/- Chapter 8, the reference: Hangs. -/
namespace Go.Proofs.Ytlhekifmkkgjlaa
open Go Go.RowKit Go.Shelf
set_option maxHeartbeats 4000000
set_option maxRecDepth 100000
def HangInv (w : World) (s : Stk) (wr : World) : Prop :=
  Below w.heap.size w wr ∧ Blk wr w.heap.size 55 #[.int .i64 s.wd, .int .i64 s.hg, .slice s.A s.nt s.cap] ∧ Blk wr (w.heap.size + 1) 59 #[.int .i64 0, .int .i64 0]
theorem HangInv.ext {w wr w' : World} {s : Stk} (h : HangInv w s wr) (hb : Below wr.heap.size wr w') : HangInv w s w' := ⟨h.1.trans (hb.mono h.1.size), h.2.1.ext hb, h.2.2.ext hb⟩
theorem refHangs_any (s : Stk) (w : World) (hs : StkR w w.heap.size s) (hc : ∀ k j, k < s.nt → j < s.nt → s.cn k = s.cn j) :
    Calls Try.prog 29 #[.agg #[.int .i64 s.wd, .int .i64 s.hg, .slice s.A s.nt s.cap]] w fun e w' => e = .returned (brV (hangF s)) ∧ Below w.heap.size w w' := by
  have m0 := hs.1
  have HSS := hide hs
  have HCC := hide hc
  clear hs hc
  go_enter Try.func29, Try.ntmps29
  go_wp2_with fail
  have HR0 : Hid (HangInv w s ((w.alloc (.cells #[.int .i64 s.wd, .int .i64 s.hg, .slice s.A s.nt s.cap] 55)).alloc (.cells #[.int .i64 0, .int .i64 0] 59))) := hide ⟨((Below.refl _ _).alloc (Nat.le_refl _) _).alloc (by simp) _, (Blk.new w _ _).alloc _, by simpa using Blk.new (w.alloc (.cells #[.int .i64 s.wd, .int .i64 s.hg, .slice s.A s.nt s.cap] 55)) 59 #[.int .i64 0, .int .i64 0]⟩
  generalize ((w.alloc (.cells #[.int .i64 s.wd, .int .i64 s.hg, .slice s.A s.nt s.cap] 55)).alloc (.cells #[.int .i64 0, .int .i64 0] 59)) = W0 at HR0 ⊢
  go_loopw [3] (fun i wr => ∃ k : Nat, i = .int .i64 k ∧ k ≤ s.nt ∧ Hid (∀ t j : Nat, t < k → j < s.wn t → hangP s t j = false) ∧ Hid (HangInv w s wr)) (fun i _ => s.nt - (intOf i).toNat)
  case atStart => exact ⟨0, rfl, by omega, hide (fun t j h => absurd h (by omega)), HR0⟩
  case round =>
    obtain ⟨k, rfl, hk, HP, HR⟩ := hrel
    obtain ⟨a0, a1, a2, a3, -, -, -⟩ := blk3 HR.out.2.1
    by_cases hlt : k < s.nt
    · obtain ⟨tb, toff, hA, htb, -, hv⟩ := P2.at_ HSS.out.2.1 hlt
      obtain ⟨l1, l2, -, -⟩ := HSS.out.2.2 k hlt
      unfold Stk.v at hv
      have HAA := hide hA
      have HV := hide hv
      clear hv hA
      have i1 : (0 : Int) ≤ (k : Int) := by omega
      have i2 : (k : Int) < (s.nt : Int) := by omega
      rw [HAA.out] at a3
      go_wp2_with fail
      obtain ⟨wo, hwo⟩ : ∃ wo : World, wo = wr := ⟨_, rfl⟩
      subst hwo
      go_loopw [4] (fun i wr => ∃ j : Nat, i = .int .i64 j ∧ j ≤ s.wn k ∧ Hid (∀ i : Nat, i < j → hangP s k i = false) ∧ Hid (HangInv w s wr)) (fun i _ => s.wn k - (intOf i).toNat)
      case atStart => exact ⟨0, rfl, by omega, hide (fun i h => absurd h (by omega)), HR⟩
      case round =>
        obtain ⟨j, rfl, hj, HQ, HR2⟩ := hrel
        obtain ⟨b0, b1, b2, b3, -, -, -⟩ := blk3 HR2.out.2.1
        rw [HAA.out] at b3
        have u1 := (HR2.out.1.cell (p := ⟨tb, toff + k * 2 + 1, none⟩) htb).trans HV.out
        by_cases hlt2 : j < s.wn k
        · have j1 : (0 : Int) ≤ (j : Int) := by omega
          have j2 : (j : Int) < (s.wn k : Int) := by omega
          have HC := hide (refRests_any s k j wr ((HSS.out.below HR2.out.1 (Nat.le_refl _)).more HR2.out.1.size) hlt (fun i hi => HCC.out i k hi hlt))
          have hAA := HAA.out
          rw [hAA] at HC
          clear hAA
          go_wp2_with fail
          refine HC.out.mono ?_
          rintro e w2 ⟨v, rfl, hown, hb2⟩
          obtain ⟨vA, vc, rfl⟩ := own_shape hown
          have HR3 := hide (HR2.out.ext hb2)
          have hl := restTo_len s k j (s.cn k)
          rw [restTo_all] at hl
          clear hb2 hown
          by_cases hp : (restL s k j).length = 0
          · have hp1 : (((restL s k j).length : Int) == 0) = true := by simp [hp]
            have HX : Hid (hangF s = ((k : Int), (j : Int))) := hide (firstOf_at HP.out HQ.out hlt hlt2 (by unfold hangP; exact decide_eq_true hp))
            clear hp
            obtain ⟨c0, c1, c2, c3, c4⟩ := blk2 HR3.out.2.2
            go_wp2_with fail
            have hP := HR3.out.2.2.set2 (.int .i64 k) (.int .i64 j)
            obtain ⟨f1, f2, f3, f4, f5⟩ := blk2 hP
            refine bodyPost_ret (v := .agg #[.int .i64 k, .int .i64 j]) (by simp [results, Try.results29, go_sem, *]) rfl ⟨by rw [HX.out]; rfl, ?_⟩
            exact set2B HR3.out.1 (by omega) _ _
          · have hp1 : (((restL s k j).length : Int) == 0) = false := by simpa using hp
            have HX : Hid (hangP s k j = false) := hide (by unfold hangP; exact decide_eq_false hp)
            clear hp
            go_wp2_with fail
            go_roundw
            case rel => exact ⟨j + 1, by go_num, by omega, hide (fun i hi => by
              by_cases e : i = j
              · subst e; exact HX.out
              · exact HQ.out i (by omega)), HR3⟩
            case measure => simp [intOf]; omega
        · obtain rfl : j = s.wn k := by omega
          go_wp2_with fail
          go_roundw
          case rel => exact ⟨k + 1, by go_num, by omega, hide (fun t i ht hi => by
            by_cases e : t = k
            · subst e; exact HQ.out i hi
            · exact HP.out t i (by omega) hi), HR2⟩
          case measure => simp [intOf]; omega
    · obtain rfl : k = s.nt := by omega
      have HX : Hid (hangF s = (-1, -1)) := hide (firstOf_no HP.out)
      obtain ⟨c0, c1, c2, c3, c4⟩ := blk2 HR.out.2.2
      go_wp2_with fail
      have hP := HR.out.2.2.set2 (.int .i64 (-1)) (.int .i64 (-1))
      obtain ⟨f1, f2, f3, f4, f5⟩ := blk2 hP
      refine bodyPost_ret (v := .agg #[.int .i64 (-1), .int .i64 (-1)]) (by simp [results, Try.results29, go_sem, *]) rfl ⟨by rw [HX.out]; rfl, ?_⟩
      exact set2B HR.out.1 (by omega) _ _
end Go.Proofs.Ytlhekifmkkgjlaa
/- Chapter 8, the reference: lowest. -/
namespace Go.Proofs.Ytlhekifmkkgjlaa
open Go Go.RowKit Go.Shelf
set_option maxHeartbeats 4000000
set_option maxRecDepth 100000
theorem refLowest_core (n d G N D : Nat) (w : World) (hn : n ≤ 4000000000000000000) (hd : d ≤ 4000000000000000000) (hG : Nat.gcd n d = G) (hN : n / G = N) (hD : d / G = D) (g0 : 0 < G) :
    Calls Try.prog 72 #[.int .i64 n, .int .i64 d] w fun e w' => e = .returned (.tuple #[ldV (N, D), .bool (fitP (N, D))]) ∧ Below w.heap.size w w' := by
  have k0 := hide (Blk.new w 76 #[.int .i64 0, .int .i64 0])
  have q1 : N ≤ n := hN ▸ Nat.div_le_self _ _
  have q2 : D ≤ d := hD ▸ Nat.div_le_self _ _
  have x1 : (n : Int) / (G : Int) = (N : Int) := by rw [← hN]; rfl
  have x2 : (d : Int) / (G : Int) = (D : Int) := by rw [← hD]; rfl
  have w1 : wrap64 (N : Int) = N := IntWalk.wrap64_in _ (by omega)
  have w2 : wrap64 (D : Int) = D := IntWalk.wrap64_in _ (by omega)
  have X := hide (And.intro (And.intro x1 x2) (And.intro w1 w2))
  have HG := hide hG
  clear x1 x2 w1 w2 hN hD hG
  go_enter Try.func72, Try.ntmps72
  go_wp2_with fail
  go_loopw [6, 7] (fun i j wr => ∃ a b : Nat, i = .int .i64 a ∧ j = .int .i64 b ∧ a ≤ 4000000000000000000 ∧ b ≤ 4000000000000000000 ∧ Hid (Nat.gcd a b = G) ∧ Below (w.heap.size + 1) (w.alloc (.cells #[.int .i64 0, .int .i64 0] 76)) wr ∧ Hid (wr.heap.size = w.heap.size + 1)) (fun _ j _ => (intOf j).toNat)
  case atStart => exact ⟨n, d, rfl, rfl, hn, hd, HG, Below.refl _ _, hide (by simp)⟩
  case round =>
    obtain ⟨a, b, rfl, rfl, ha, hb, H, hB, HZ⟩ := hrel
    have hzz : w.heap.size < wr.heap.size := by have := HZ.out; omega
    rcases Nat.eq_zero_or_pos b with rfl | hb0
    · have ha' : a = G := by have := H.out; simpa using this
      subst ha'
      have g1 : ((a : Nat) : Int) ≠ 0 := by omega
      have g2 : (0 : Int) < ((a : Nat) : Int) := by omega
      go_wp2_with fail
      go_region
      simp only [X.out.1.1, X.out.1.2, X.out.2.1, X.out.2.2]
      have hB0 : Below w.heap.size w wr := ((Below.refl _ _).alloc (Nat.le_refl _) _).trans (hB.mono (by omega))
      have KA := hide ((Blk.new wr 76 #[.int .i64 N, .int .i64 D]).drew)
      have KR := hide (((k0.out.below hB (by omega)).alloc (.cells #[.int .i64 N, .int .i64 D] 76)).drew)
      have HB1 := hide ((hB0.alloc hB0.size (.cells #[.int .i64 N, .int .i64 D] 76)).drew)
      go_wp2_with fail
      have hgz : w.heap.size ≠ wr.heap.size := by omega
      generalize (wr.alloc (.cells #[.int .i64 N, .int .i64 D] 76)).drew = wd at KA KR HB1 ⊢
      generalize wr.heap.size = g at KA hgz ⊢
      obtain ⟨r0, r1, r2, r3, r4⟩ := blk2 KR.out.drew
      have hHeld : (wd.drew.cell? ⟨g, 0, none⟩ = some (.int .i64 N) ∧ wd.drew.cell? ⟨g, 1, none⟩ = some (.int .i64 D)) ∧ Blk wd.drew w.heap.size 76 #[.int .i64 0, .int .i64 0] := by
        obtain ⟨-, p1, p2, -, -⟩ := blk2 KA.out.drew
        exact ⟨⟨p1, p2⟩, KR.out.drew⟩
      clear hHeld
      have hHeld : wd.drew.cell? ⟨g, 0, none⟩ = some (.int .i64 N) ∧ wd.drew.cell? ⟨g, 1, none⟩ = some (.int .i64 D) := by
        obtain ⟨-, p1, p2, -, -⟩ := blk2 KA.out.drew
        exact ⟨p1, p2⟩
      have hfin : Below w.heap.size w (((wd.drew.setCell ⟨w.heap.size, 0, none⟩ (.int .i64 N)).setCell ⟨w.heap.size, 1, none⟩ (.int .i64 D))) := set2B HB1.out.drew (Nat.le_refl _) _ _
      have hP := KR.out.drew.set2 (.int .i64 N) (.int .i64 D)
      have HF := hide hfin
      have HPP := hide hP
      have hH2 : (((wd.drew.setCell ⟨w.heap.size, 0, none⟩ (.int .i64 N)).setCell ⟨w.heap.size, 1, none⟩ (.int .i64 D))).cell? ⟨g, 0, none⟩ = some (.int .i64 N) ∧ (((wd.drew.setCell ⟨w.heap.size, 0, none⟩ (.int .i64 N)).setCell ⟨w.heap.size, 1, none⟩ (.int .i64 D))).cell? ⟨g, 1, none⟩ = some (.int .i64 D) := by
        obtain ⟨-, p1, p2, -, -⟩ := blk2 ((KA.out.drew.far (p := ⟨w.heap.size, 0, none⟩) (Ne.symm hgz) (.int .i64 N)).far (p := ⟨w.heap.size, 1, none⟩) (Ne.symm hgz) (.int .i64 D))
        exact ⟨p1, p2⟩
      have HH2 := hide hH2
      clear hfin hP hH2
      refine wp_region_J (fun W : World => W.cell? ⟨g, 0, none⟩ = some (.int .i64 N) ∧ W.cell? ⟨g, 1, none⟩ = some (.int .i64 D)) (by kernel_rfl) ?_
      generalize wd.drew = we at hHeld HF HPP HH2 r0 r1 r2 r3 r4 ⊢
      by_cases f1 : N ≤ 1000000000
      · have u1 : (N : Int) ≤ 1000000000 := by omega
        by_cases f2 : D ≤ 1000000000
        · have fit := hide (show fitP (N, D) = true by simp [fitP, f1, f2])
          have u2 : (D : Int) ≤ 1000000000 := by omega
          refine wpAnyJ_take 0 (v := ?_) (by first | exact hF | exact wideFn) hHeld rfl (by kernel_rfl) (by kernel_rfl) (by kernel_rfl) (by kernel_rfl) rfl ?_ (by first | exact fun _ _ _ h => h | exact fun _ _ _ h => hQ2 _ _ _ _ _ h) ?_
          rotate_left
          · intro W hSW
            simp only [List.getElem_toArray, List.getElem_cons_zero, List.getElem_cons_succ]
            (try dsimp only at hSW)
            go_simp
            with_reducible rfl
          (try simp only [List.getElem_toArray, List.getElem_cons_zero, List.getElem_cons_succ, Act.put, List.setIfInBounds_toArray, List.set_cons_zero, List.set_cons_succ])
          refine wpAnyJ_take 1 (v := ?_) (by first | exact hF | exact wideFn) hHeld rfl (by kernel_rfl) (by kernel_rfl) (by kernel_rfl) (by kernel_rfl) rfl ?_ (by first | exact fun _ _ _ h => h | exact fun _ _ _ h => hQ2 _ _ _ _ _ h) ?_
          rotate_left
          · intro W hSW
            simp only [List.getElem_toArray, List.getElem_cons_zero, List.getElem_cons_succ]
            (try dsimp only at hSW)
            go_simp
            with_reducible rfl
          (try simp only [List.getElem_toArray, List.getElem_cons_zero, List.getElem_cons_succ, Act.put, List.setIfInBounds_toArray, List.set_cons_zero, List.set_cons_succ])
          refine wpAnyJ_take 2 (v := ?_) (by first | exact hF | exact wideFn) hHeld rfl (by kernel_rfl) (by kernel_rfl) (by kernel_rfl) (by kernel_rfl) rfl ?_ (by first | exact fun _ _ _ h => h | exact fun _ _ _ h => hQ2 _ _ _ _ _ h) ?_
          rotate_left
          · intro W hSW
            simp only [List.getElem_toArray, List.getElem_cons_zero, List.getElem_cons_succ]
            (try dsimp only at hSW)
            go_simp
            with_reducible rfl
          (try simp only [List.getElem_toArray, List.getElem_cons_zero, List.getElem_cons_succ, Act.put, List.setIfInBounds_toArray, List.set_cons_zero, List.set_cons_succ])
          refine wpAnyJ_take 3 (v := ?_) (by first | exact hF | exact wideFn) hHeld rfl (by kernel_rfl) (by kernel_rfl) (by kernel_rfl) (by kernel_rfl) rfl ?_ (by first | exact fun _ _ _ h => h | exact fun _ _ _ h => hQ2 _ _ _ _ _ h) ?_
          rotate_left
          · intro W hSW
            simp only [List.getElem_toArray, List.getElem_cons_zero, List.getElem_cons_succ]
            (try dsimp only at hSW)
            go_simp
            with_reducible rfl
          (try simp only [List.getElem_toArray, List.getElem_cons_zero, List.getElem_cons_succ, Act.put, List.setIfInBounds_toArray, List.set_cons_zero, List.set_cons_succ])
          refine wpAnyJ_take 4 (v := ?_) (by first | exact hF | exact wideFn) hHeld rfl (by kernel_rfl) (by kernel_rfl) (by kernel_rfl) (by kernel_rfl) rfl ?_ (by first | exact fun _ _ _ h => h | exact fun _ _ _ h => hQ2 _ _ _ _ _ h) ?_
          rotate_left
          · intro W hSW
            simp only [List.getElem_toArray, List.getElem_cons_zero, List.getElem_cons_succ]
            (try dsimp only at hSW)
            go_simp
            with_reducible rfl
          (try simp only [List.getElem_toArray, List.getElem_cons_zero, List.getElem_cons_succ, Act.put, List.setIfInBounds_toArray, List.set_cons_zero, List.set_cons_succ])
          refine wpAnyJ_take 5 (v := ?_) (by first | exact hF | exact wideFn) hHeld rfl (by kernel_rfl) (by kernel_rfl) (by kernel_rfl) (by kernel_rfl) rfl ?_ (by first | exact fun _ _ _ h => h | exact fun _ _ _ h => hQ2 _ _ _ _ _ h) ?_
          rotate_left
          · intro W hSW
            simp only [List.getElem_toArray, List.getElem_cons_zero, List.getElem_cons_succ]
            (try dsimp only at hSW)
            go_simp
            with_reducible rfl
          (try simp only [List.getElem_toArray, List.getElem_cons_zero, List.getElem_cons_succ, Act.put, List.setIfInBounds_toArray, List.set_cons_zero, List.set_cons_succ])
          refine wpAnyJ_take 6 (v := ?_) (by first | exact hF | exact wideFn) hHeld rfl (by kernel_rfl) (by kernel_rfl) (by kernel_rfl) (by kernel_rfl) rfl ?_ (by first | exact fun _ _ _ h => h | exact fun _ _ _ h => hQ2 _ _ _ _ _ h) ?_
          rotate_left
          · intro W hSW
            simp only [List.getElem_toArray, List.getElem_cons_zero, List.getElem_cons_succ]
            (try dsimp only at hSW)
            go_simp
            with_reducible rfl
          (try simp only [List.getElem_toArray, List.getElem_cons_zero, List.getElem_cons_succ, Act.put, List.setIfInBounds_toArray, List.set_cons_zero, List.set_cons_succ])
          refine wpAnyJ_take 7 (v := ?_) (by first | exact hF | exact wideFn) hHeld rfl (by kernel_rfl) (by kernel_rfl) (by kernel_rfl) (by kernel_rfl) rfl ?_ (by first | exact fun _ _ _ h => h | exact fun _ _ _ h => hQ2 _ _ _ _ _ h) ?_
          rotate_left
          · intro W hSW
            simp only [List.getElem_toArray, List.getElem_cons_zero, List.getElem_cons_succ]
            (try dsimp only at hSW)
            go_simp
            with_reducible rfl
          (try simp only [List.getElem_toArray, List.getElem_cons_zero, List.getElem_cons_succ, Act.put, List.setIfInBounds_toArray, List.set_cons_zero, List.set_cons_succ])
          refine wpAnyJ_take 8 (v := ?_) (by first | exact hF | exact wideFn) hHeld rfl (by kernel_rfl) (by kernel_rfl) (by kernel_rfl) (by kernel_rfl) rfl ?_ (by first | exact fun _ _ _ h => h | exact fun _ _ _ h => hQ2 _ _ _ _ _ h) ?_
          rotate_left
          · intro W hSW
            simp only [List.getElem_toArray, List.getElem_cons_zero, List.getElem_cons_succ]
            (try dsimp only at hSW)
            go_simp
            with_reducible rfl
          (try simp only [List.getElem_toArray, List.getElem_cons_zero, List.getElem_cons_succ, Act.put, List.setIfInBounds_toArray, List.set_cons_zero, List.set_cons_succ])
          refine wpAnyJ_one 9 rfl (by kernel_rfl) (fun K hK => ?_)
          simp only [List.getElem_toArray, List.getElem_cons_zero, List.getElem_cons_succ]
          go_simp
          refine hK.out _ _ (fun _ => HH2.out) ?_
          clear hK K
          (try simp only [List.getElem_toArray, List.getElem_cons_zero, List.getElem_cons_succ, Act.put, List.setIfInBounds_toArray, List.set_cons_zero, List.set_cons_succ])
          refine wpAnyJ_one 10 rfl (by kernel_rfl) (fun K hK => ?_)
          simp only [List.getElem_toArray, List.getElem_cons_zero, List.getElem_cons_succ]
          go_simp
          refine hK.out _ _ (fun h => absurd h (by rw [show lastOp _ _ _ = true from by kernel_rfl]; simp)) ?_
          clear hK K
          (try simp only [List.getElem_toArray, List.getElem_cons_zero, List.getElem_cons_succ, Act.put, List.setIfInBounds_toArray, List.set_cons_zero, List.set_cons_succ])
          refine wpAnyJ_done (by kernel_rfl) ?_
          go_wp2_with fail
          obtain ⟨g1', g2', g3', g4', g5'⟩ := blk2 HPP.out
          refine bodyPost_ret (v := .tuple #[ldV (N, D), .bool true]) (by simp [results, Try.results72, go_sem, ldV, *]) rfl ⟨by rw [fit.out], HF.out⟩
        · have fit := hide (show fitP (N, D) = false by simp [fitP, f2])
          have u2 : ¬ (D : Int) ≤ 1000000000 := by omega
          refine wpAnyJ_take 0 (v := ?_) (by first | exact hF | exact wideFn) hHeld rfl (by kernel_rfl) (by kernel_rfl) (by kernel_rfl) (by kernel_rfl) rfl ?_ (by first | exact fun _ _ _ h => h | exact fun _ _ _ h => hQ2 _ _ _ _ _ h) ?_
          rotate_left
          · intro W hSW
            simp only [List.getElem_toArray, List.getElem_cons_zero, List.getElem_cons_succ]
            (try dsimp only at hSW)
            go_simp
            with_reducible rfl
          (try simp only [List.getElem_toArray, List.getElem_cons_zero, List.getElem_cons_succ, Act.put, List.setIfInBounds_toArray, List.set_cons_zero, List.set_cons_succ])
          refine wpAnyJ_take 1 (v := ?_) (by first | exact hF | exact wideFn) hHeld rfl (by kernel_rfl) (by kernel_rfl) (by kernel_rfl) (by kernel_rfl) rfl ?_ (by first | exact fun _ _ _ h => h | exact fun _ _ _ h => hQ2 _ _ _ _ _ h) ?_
          rotate_left
          · intro W hSW
            simp only [List.getElem_toArray, List.getElem_cons_zero, List.getElem_cons_succ]
            (try dsimp only at hSW)
            go_simp
            with_reducible rfl
          (try simp only [List.getElem_toArray, List.getElem_cons_zero, List.getElem_cons_succ, Act.put, List.setIfInBounds_toArray, List.set_cons_zero, List.set_cons_succ])
          refine wpAnyJ_take 2 (v := ?_) (by first | exact hF | exact wideFn) hHeld rfl (by kernel_rfl) (by kernel_rfl) (by kernel_rfl) (by kernel_rfl) rfl ?_ (by first | exact fun _ _ _ h => h | exact fun _ _ _ h => hQ2 _ _ _ _ _ h) ?_
          rotate_left
          · intro W hSW
            simp only [List.getElem_toArray, List.getElem_cons_zero, List.getElem_cons_succ]
            (try dsimp only at hSW)
            go_simp
            with_reducible rfl
          (try simp only [List.getElem_toArray, List.getElem_cons_zero, List.getElem_cons_succ, Act.put, List.setIfInBounds_toArray, List.set_cons_zero, List.set_cons_succ])
          refine wpAnyJ_take 3 (v := ?_) (by first | exact hF | exact wideFn) hHeld rfl (by kernel_rfl) (by kernel_rfl) (by kernel_rfl) (by kernel_rfl) rfl ?_ (by first | exact fun _ _ _ h => h | exact fun _ _ _ h => hQ2 _ _ _ _ _ h) ?_
          rotate_left
          · intro W hSW
            simp only [List.getElem_toArray, List.getElem_cons_zero, List.getElem_cons_succ]
            (try dsimp only at hSW)
            go_simp
            with_reducible rfl
          (try simp only [List.getElem_toArray, List.getElem_cons_zero, List.getElem_cons_succ, Act.put, List.setIfInBounds_toArray, List.set_cons_zero, List.set_cons_succ])
          refine wpAnyJ_take 4 (v := ?_) (by first | exact hF | exact wideFn) hHeld rfl (by kernel_rfl) (by kernel_rfl) (by kernel_rfl) (by kernel_rfl) rfl ?_ (by first | exact fun _ _ _ h => h | exact fun _ _ _ h => hQ2 _ _ _ _ _ h) ?_
          rotate_left
          · intro W hSW
            simp only [List.getElem_toArray, List.getElem_cons_zero, List.getElem_cons_succ]
            (try dsimp only at hSW)
            go_simp
            with_reducible rfl
          (try simp only [List.getElem_toArray, List.getElem_cons_zero, List.getElem_cons_succ, Act.put, List.setIfInBounds_toArray, List.set_cons_zero, List.set_cons_succ])
          refine wpAnyJ_take 5 (v := ?_) (by first | exact hF | exact wideFn) hHeld rfl (by kernel_rfl) (by kernel_rfl) (by kernel_rfl) (by kernel_rfl) rfl ?_ (by first | exact fun _ _ _ h => h | exact fun _ _ _ h => hQ2 _ _ _ _ _ h) ?_
          rotate_left
          · intro W hSW
            simp only [List.getElem_toArray, List.getElem_cons_zero, List.getElem_cons_succ]
            (try dsimp only at hSW)
            go_simp
            with_reducible rfl
          (try simp only [List.getElem_toArray, List.getElem_cons_zero, List.getElem_cons_succ, Act.put, List.setIfInBounds_toArray, List.set_cons_zero, List.set_cons_succ])
          refine wpAnyJ_take 6 (v := ?_) (by first | exact hF | exact wideFn) hHeld rfl (by kernel_rfl) (by kernel_rfl) (by kernel_rfl) (by kernel_rfl) rfl ?_ (by first | exact fun _ _ _ h => h | exact fun _ _ _ h => hQ2 _ _ _ _ _ h) ?_
          rotate_left
          · intro W hSW
            simp only [List.getElem_toArray, List.getElem_cons_zero, List.getElem_cons_succ]
            (try dsimp only at hSW)
            go_simp
            with_reducible rfl
          (try simp only [List.getElem_toArray, List.getElem_cons_zero, List.getElem_cons_succ, Act.put, List.setIfInBounds_toArray, List.set_cons_zero, List.set_cons_succ])
          refine wpAnyJ_take 7 (v := ?_) (by first | exact hF | exact wideFn) hHeld rfl (by kernel_rfl) (by kernel_rfl) (by kernel_rfl) (by kernel_rfl) rfl ?_ (by first | exact fun _ _ _ h => h | exact fun _ _ _ h => hQ2 _ _ _ _ _ h) ?_
          rotate_left
          · intro W hSW
            simp only [List.getElem_toArray, List.getElem_cons_zero, List.getElem_cons_succ]
            (try dsimp only at hSW)
            go_simp
            with_reducible rfl
          (try simp only [List.getElem_toArray, List.getElem_cons_zero, List.getElem_cons_succ, Act.put, List.setIfInBounds_toArray, List.set_cons_zero, List.set_cons_succ])
          refine wpAnyJ_take 8 (v := ?_) (by first | exact hF | exact wideFn) hHeld rfl (by kernel_rfl) (by kernel_rfl) (by kernel_rfl) (by kernel_rfl) rfl ?_ (by first | exact fun _ _ _ h => h | exact fun _ _ _ h => hQ2 _ _ _ _ _ h) ?_
          rotate_left
          · intro W hSW
            simp only [List.getElem_toArray, List.getElem_cons_zero, List.getElem_cons_succ]
            (try dsimp only at hSW)
            go_simp
            with_reducible rfl
          (try simp only [List.getElem_toArray, List.getElem_cons_zero, List.getElem_cons_succ, Act.put, List.setIfInBounds_toArray, List.set_cons_zero, List.set_cons_succ])
          refine wpAnyJ_one 9 rfl (by kernel_rfl) (fun K hK => ?_)
          simp only [List.getElem_toArray, List.getElem_cons_zero, List.getElem_cons_succ]
          go_simp
          refine hK.out _ _ (fun _ => HH2.out) ?_
          clear hK K
          (try simp only [List.getElem_toArray, List.getElem_cons_zero, List.getElem_cons_succ, Act.put, List.setIfInBounds_toArray, List.set_cons_zero, List.set_cons_succ])
          refine wpAnyJ_one 10 rfl (by kernel_rfl) (fun K hK => ?_)
          simp only [List.getElem_toArray, List.getElem_cons_zero, List.getElem_cons_succ]
          go_simp
          refine hK.out _ _ (fun h => absurd h (by rw [show lastOp _ _ _ = true from by kernel_rfl]; simp)) ?_
          clear hK K
          (try simp only [List.getElem_toArray, List.getElem_cons_zero, List.getElem_cons_succ, Act.put, List.setIfInBounds_toArray, List.set_cons_zero, List.set_cons_succ])
          refine wpAnyJ_done (by kernel_rfl) ?_
          go_wp2_with fail
          obtain ⟨g1', g2', g3', g4', g5'⟩ := blk2 HPP.out
          refine bodyPost_ret (v := .tuple #[ldV (N, D), .bool false]) (by simp [results, Try.results72, go_sem, ldV, *]) rfl ⟨by rw [fit.out], HF.out⟩
      · have fit := hide (show fitP (N, D) = false by simp [fitP, f1])
        have u1 : ¬ (N : Int) ≤ 1000000000 := by omega
        refine wpAnyJ_take 0 (v := ?_) (by first | exact hF | exact wideFn) hHeld rfl (by kernel_rfl) (by kernel_rfl) (by kernel_rfl) (by kernel_rfl) rfl ?_ (by first | exact fun _ _ _ h => h | exact fun _ _ _ h => hQ2 _ _ _ _ _ h) ?_
        rotate_left
        · intro W hSW
          simp only [List.getElem_toArray, List.getElem_cons_zero, List.getElem_cons_succ]
          (try dsimp only at hSW)
          go_simp
          with_reducible rfl
        (try simp only [List.getElem_toArray, List.getElem_cons_zero, List.getElem_cons_succ, Act.put, List.setIfInBounds_toArray, List.set_cons_zero, List.set_cons_succ])
        refine wpAnyJ_take 1 (v := ?_) (by first | exact hF | exact wideFn) hHeld rfl (by kernel_rfl) (by kernel_rfl) (by kernel_rfl) (by kernel_rfl) rfl ?_ (by first | exact fun _ _ _ h => h | exact fun _ _ _ h => hQ2 _ _ _ _ _ h) ?_
        rotate_left
        · intro W hSW
          simp only [List.getElem_toArray, List.getElem_cons_zero, List.getElem_cons_succ]
          (try dsimp only at hSW)
          go_simp
          with_reducible rfl
        (try simp only [List.getElem_toArray, List.getElem_cons_zero, List.getElem_cons_succ, Act.put, List.setIfInBounds_toArray, List.set_cons_zero, List.set_cons_succ])
        refine wpAnyJ_take 2 (v := ?_) (by first | exact hF | exact wideFn) hHeld rfl (by kernel_rfl) (by kernel_rfl) (by kernel_rfl) (by kernel_rfl) rfl ?_ (by first | exact fun _ _ _ h => h | exact fun _ _ _ h => hQ2 _ _ _ _ _ h) ?_
        rotate_left
        · intro W hSW
          simp only [List.getElem_toArray, List.getElem_cons_zero, List.getElem_cons_succ]
          (try dsimp only at hSW)
          go_simp
          with_reducible rfl
        (try simp only [List.getElem_toArray, List.getElem_cons_zero, List.getElem_cons_succ, Act.put, List.setIfInBounds_toArray, List.set_cons_zero, List.set_cons_succ])
        refine wpAnyJ_take 3 (v := ?_) (by first | exact hF | exact wideFn) hHeld rfl (by kernel_rfl) (by kernel_rfl) (by kernel_rfl) (by kernel_rfl) rfl ?_ (by first | exact fun _ _ _ h => h | exact fun _ _ _ h => hQ2 _ _ _ _ _ h) ?_
        rotate_left
        · intro W hSW
          simp only [List.getElem_toArray, List.getElem_cons_zero, List.getElem_cons_succ]
          (try dsimp only at hSW)
          go_simp
          with_reducible rfl
        (try simp only [List.getElem_toArray, List.getElem_cons_zero, List.getElem_cons_succ, Act.put, List.setIfInBounds_toArray, List.set_cons_zero, List.set_cons_succ])
        refine wpAnyJ_take 4 (v := ?_) (by first | exact hF | exact wideFn) hHeld rfl (by kernel_rfl) (by kernel_rfl) (by kernel_rfl) (by kernel_rfl) rfl ?_ (by first | exact fun _ _ _ h => h | exact fun _ _ _ h => hQ2 _ _ _ _ _ h) ?_
        rotate_left
        · intro W hSW
          simp only [List.getElem_toArray, List.getElem_cons_zero, List.getElem_cons_succ]
          (try dsimp only at hSW)
          go_simp
          with_reducible rfl
        (try simp only [List.getElem_toArray, List.getElem_cons_zero, List.getElem_cons_succ, Act.put, List.setIfInBounds_toArray, List.set_cons_zero, List.set_cons_succ])
        refine wpAnyJ_skip 5 (by first | exact hF | exact wideFn) hHeld rfl (by kernel_rfl) (by kernel_rfl) (by kernel_rfl) (by kernel_rfl) rfl (by first | exact fun _ _ _ h => h | exact fun _ _ _ h => hQ2 _ _ _ _ _ h) ?_
        (try simp only [List.getElem_toArray, List.getElem_cons_zero, List.getElem_cons_succ, Act.put, List.setIfInBounds_toArray, List.set_cons_zero, List.set_cons_succ])
        refine wpAnyJ_skip 6 (by first | exact hF | exact wideFn) hHeld rfl (by kernel_rfl) (by kernel_rfl) (by kernel_rfl) (by kernel_rfl) rfl (by first | exact fun _ _ _ h => h | exact fun _ _ _ h => hQ2 _ _ _ _ _ h) ?_
        (try simp only [List.getElem_toArray, List.getElem_cons_zero, List.getElem_cons_succ, Act.put, List.setIfInBounds_toArray, List.set_cons_zero, List.set_cons_succ])
        refine wpAnyJ_skip 7 (by first | exact hF | exact wideFn) hHeld rfl (by kernel_rfl) (by kernel_rfl) (by kernel_rfl) (by kernel_rfl) rfl (by first | exact fun _ _ _ h => h | exact fun _ _ _ h => hQ2 _ _ _ _ _ h) ?_
        (try simp only [List.getElem_toArray, List.getElem_cons_zero, List.getElem_cons_succ, Act.put, List.setIfInBounds_toArray, List.set_cons_zero, List.set_cons_succ])
        refine wpAnyJ_take 8 (v := ?_) (by first | exact hF | exact wideFn) hHeld rfl (by kernel_rfl) (by kernel_rfl) (by kernel_rfl) (by kernel_rfl) rfl ?_ (by first | exact fun _ _ _ h => h | exact fun _ _ _ h => hQ2 _ _ _ _ _ h) ?_
        rotate_left
        · intro W hSW
          simp only [List.getElem_toArray, List.getElem_cons_zero, List.getElem_cons_succ]
          (try dsimp only at hSW)
          go_simp
          with_reducible rfl
        (try simp only [List.getElem_toArray, List.getElem_cons_zero, List.getElem_cons_succ, Act.put, List.setIfInBounds_toArray, List.set_cons_zero, List.set_cons_succ])
        refine wpAnyJ_one 9 rfl (by kernel_rfl) (fun K hK => ?_)
        simp only [List.getElem_toArray, List.getElem_cons_zero, List.getElem_cons_succ]
        go_simp
        refine hK.out _ _ (fun _ => HH2.out) ?_
        clear hK K
        (try simp only [List.getElem_toArray, List.getElem_cons_zero, List.getElem_cons_succ, Act.put, List.setIfInBounds_toArray, List.set_cons_zero, List.set_cons_succ])
        refine wpAnyJ_one 10 rfl (by kernel_rfl) (fun K hK => ?_)
        simp only [List.getElem_toArray, List.getElem_cons_zero, List.getElem_cons_succ]
        go_simp
        refine hK.out _ _ (fun h => absurd h (by rw [show lastOp _ _ _ = true from by kernel_rfl]; simp)) ?_
        clear hK K
        (try simp only [List.getElem_toArray, List.getElem_cons_zero, List.getElem_cons_succ, Act.put, List.setIfInBounds_toArray, List.set_cons_zero, List.set_cons_succ])
        refine wpAnyJ_done (by kernel_rfl) ?_
        go_wp2_with fail
        obtain ⟨g1', g2', g3', g4', g5'⟩ := blk2 HPP.out
        refine bodyPost_ret (v := .tuple #[ldV (N, D), .bool false]) (by simp [results, Try.results72, go_sem, ldV, *]) rfl ⟨by rw [fit.out], HF.out⟩
    · have hb1 : ((b : Int) != 0) = true := by simp; omega
      have hb2 : (0 : Int) < (b : Int) := by omega
      have hm : a % b < b := Nat.mod_lt _ hb0
      have e1 : ((a : Int)).tmod (b : Int) = ((a % b : Nat) : Int) := by rw [Int.tmod_eq_emod_of_nonneg (by omega)]; rfl
      have e3 : IntKind.i64.wrap ((a % b : Nat) : Int) = ((a % b : Nat) : Int) := IntWalk.i64_in _ (by omega)
      go_wp2_with fail
      go_region
      clear e1 e3
      go_wp2_with fail
      go_roundw
      case rel => exact ⟨b, a % b, rfl, rfl, hb, by omega, hide (by rw [gcd_step]; exact H.out), hB.drew, HZ⟩
      case measure => simp [intOf]; omega
theorem refLowest_any (a b : Int) (n d : Nat) (w : World) (ha : a = (n : Int)) (hb : b = (d : Int)) (hn : n ≤ 4000000000000000000) (hd : d ≤ 4000000000000000000) (hd0 : 0 < d) :
    Calls Try.prog 72 #[.int .i64 a, .int .i64 b] w fun e w' => e = .returned (.tuple #[ldV (lowP n d), .bool (fitP (lowP n d))]) ∧ Below w.heap.size w w' := by
  subst ha hb
  exact refLowest_core n d _ _ _ w hn hd rfl rfl rfl (Nat.gcd_pos_of_pos_right _ hd0)
end Go.Proofs.Ytlhekifmkkgjlaa
/- Chapter 8: a family of lists of loads, each with a block of its own (no program in sight). -/
namespace Go.Proofs.Ytlhekifmkkgjlaa
open Go Go.RowKit Go.Shelf
set_option maxRecDepth 100000
/-- N lists, no two of them in one block -/
structure Fam (base N : Nat) (v : Nat → Value) (L : Nat → List (Nat × Nat)) (wr : World) : Prop where
  own : ∀ k, k < N → OwnL wr base (v k) (L k)
  ne : ∀ j k, j < N → k < N → j ≠ k → (v j).ownBlock = none ∨ (v j).ownBlock ≠ (v k).ownBlock
section
variable {base N : Nat} {v : Nat → Value} {L : Nat → List (Nat × Nat)} {wr w' : World}
theorem Fam.ext (h : Fam base N v L wr) (hb : Below wr.heap.size wr w') : Fam base N v L w' := ⟨fun k hk => ownBelow (h.own k hk) hb, h.ne⟩
/-- a write into a block of another type -/
theorem Fam.other (h : Fam base N v L wr) {g : Nat} {t : TypeId} {cs : Array Value} (hB : Blk wr g t cs) (ht : t ≠ 76) (hg : wr.grownBy w' (some g)) : Fam base N v L w' :=
  ⟨fun k hk => World.ownsRow.kept (h.own k hk) hg (.inr (own_blk_ne (h.own k hk) hB (Ne.symm ht))), h.ne⟩
/-- a write into a block of loads that is none of theirs -/
theorem Fam.apart (h : Fam base N v L wr) {g : Nat} (hne : ∀ k, k < N → (v k).ownBlock ≠ some g) (hg : wr.grownBy w' (some g)) : Fam base N v L w' :=
  ⟨fun k hk => World.ownsRow.kept (h.own k hk) hg (.inr (hne k hk)), h.ne⟩
theorem Fam.lt (h : Fam base N v L wr) {k g : Nat} (hk : k < N) (he : (v k).ownBlock = some g) : base ≤ g ∧ g < wr.heap.size := (h.own k hk).lt he
/-- list k is turned into another one: in its own block, or in a new one -/
theorem Fam.turn (h : Fam base N v L wr) {k : Nat} (hk : k < N) {x : Value} {l : List (Nat × Nat)} (hg : wr.grownBy w' (v k).ownBlock) (ho : OwnL w' base x l) (hx : x.ownBlock = (v k).ownBlock ∨ ∃ g, x.ownBlock = some g ∧ wr.heap.size ≤ g) : Fam base N (upd v k x) (upd L k l) w' := by
  refine ⟨fun j hj => ?_, fun i j hi hj hij => ?_⟩
  · by_cases e : j = k
    · subst e; rw [upd_same, upd_same]; exact ho
    · rw [upd_ne _ _ e, upd_ne _ _ e]
      exact World.ownsRow.kept (h.own j hj) hg (h.ne j k hj hk e)
  · by_cases e : i = k
    · subst e
      rw [upd_same, upd_ne _ _ (Ne.symm hij)]
      rcases hx with hx | ⟨g, hx, hgz⟩
      · rw [hx]; exact h.ne i j hi hj hij
      · refine .inr (fun e2 => ?_)
        rw [hx] at e2
        have := (h.lt hj e2.symm).2
        omega
    · rw [upd_ne _ _ e]
      by_cases e2 : j = k
      · subst e2
        rw [upd_same]
        rcases hx with hx | ⟨g, hx, hgz⟩
        · rw [hx]; exact h.ne i j hi hj hij
        · refine .inr (fun e3 => ?_)
          rw [hx] at e3
          have := (h.lt hi e3).2
          omega
      · rw [upd_ne _ _ e2]; exact h.ne i j hi hj hij
/-- one list more, in a new block -/
theorem Fam.more (h : Fam base N v L wr) (hb : Below wr.heap.size wr w') {x : Value} {l : List (Nat × Nat)} (ho : OwnL w' base x l) (hx : x.ownBlock = none ∨ ∃ g, x.ownBlock = some g ∧ wr.heap.size ≤ g) : Fam base (N + 1) (upd v N x) (upd L N l) w' := by
  refine ⟨fun j hj => ?_, fun i j hi hj hij => ?_⟩
  · by_cases e : j = N
    · subst e; rw [upd_same, upd_same]; exact ho
    · rw [upd_ne _ _ e, upd_ne _ _ e]
      exact ownBelow (h.own j (by omega)) hb
  · by_cases e : i = N
    · subst e
      rw [upd_same, upd_ne _ _ (Ne.symm hij)]
      rcases hx with hx | ⟨g, hx, hgz⟩
      · exact .inl hx
      · refine .inr (fun e2 => ?_)
        rw [hx] at e2
        have := (h.lt (show j < i by omega) e2.symm).2
        omega
    · rw [upd_ne _ _ e]
      by_cases e2 : j = N
      · subst e2
        rw [upd_same]
        rcases hx with hx | ⟨g, hx, hgz⟩
        · rw [hx]
          cases hv : (v i).ownBlock with
          | none => exact .inl rfl
          | some q => exact .inr (by simp)
        · refine .inr (fun e3 => ?_)
          rw [hx] at e3
          have := (h.lt (show i < j by omega) e3).2
          omega
      · rw [upd_ne _ _ e2]; exact h.ne i j (by omega) (by omega) hij
/-- the last list takes the place of the one ahead of it -/
theorem Fam.drop (h : Fam base (N + 2) v L wr) : Fam base (N + 1) (upd v N (v (N + 1))) (upd L N (L (N + 1))) wr := by
  refine ⟨fun j hj => ?_, fun i j hi hj hij => ?_⟩
  · by_cases e : j = N
    · subst e; rw [upd_same, upd_same]; exact h.own _ (by omega)
    · rw [upd_ne _ _ e, upd_ne _ _ e]; exact h.own j (by omega)
  · by_cases e : i = N
    · subst e
      rw [upd_same, upd_ne _ _ (Ne.symm hij)]
      exact h.ne _ _ (by omega) (by omega) (by omega)
    · rw [upd_ne _ _ e]
      by_cases e2 : j = N
      · subst e2; rw [upd_same]; exact h.ne _ _ (by omega) (by omega) (by omega)
      · rw [upd_ne _ _ e2]; exact h.ne _ _ (by omega) (by omega) hij
theorem Fam.congr (h : Fam base N v L wr) {v' : Nat → Value} {L' : Nat → List (Nat × Nat)} (hv : ∀ k, k < N → v' k = v k) (hL : ∀ k, k < N → L' k = L k) : Fam base N v' L' wr :=
  ⟨fun k hk => by rw [hv k hk, hL k hk]; exact h.own k hk, fun i j hi hj hij => by rw [hv i hi, hv j hj]; exact h.ne i j hi hj hij⟩
/-- a load is stored in list k -/
theorem Fam.put (h : Fam base N v L wr) {k c g cap : Nat} (hk : k < N) (hv : v k = .slice (some ⟨g, 0, none⟩) (L k).length cap) (hc : c < (L k).length) (x : Nat × Nat) :
    Fam base N v (upd L k ((L k).set c x)) ((wr.setCell ⟨g, c * 2, none⟩ (.int .i64 x.1)).setCell ⟨g, c * 2 + 1, none⟩ (.int .i64 x.2)) := by
  have ho := h.own k hk
  rw [hv] at ho
  have h2 := OwnL.set ho x hc
  have hg : wr.grownBy ((wr.setCell ⟨g, c * 2, none⟩ (.int .i64 x.1)).setCell ⟨g, c * 2 + 1, none⟩ (.int .i64 x.2)) (v k).ownBlock := by
    rw [hv]; exact grownBy_setS (grownBy_setS (World.grownBy.refl wr (some g)) _ _) _ _
  have h3 := h.turn hk hg (by rw [hv]; exact h2) (.inl rfl)
  rw [upd_self] at h3
  exact h3
end
/-- a list that is filled with (0, 1) up to i -/
def fillL (m i : Nat) : List (Nat × Nat) := List.replicate i (0, 1) ++ List.replicate (m - i) (0, 0)
theorem fillL_len {m i : Nat} (h : i ≤ m) : (fillL m i).length = m := by simp [fillL]; omega
theorem fillL_all (m : Nat) : fillL m m = List.replicate m (0, 1) := by simp [fillL]
theorem fillL_set {m i : Nat} (h : i < m) : (fillL m i).set i (0, 1) = fillL m (i + 1) := by
  unfold fillL
  rw [List.set_append_right _ _ (by simp), List.length_replicate, Nat.sub_self, show m - i = (m - (i + 1)) + 1 by omega, List.replicate_succ, List.set_cons_zero, List.replicate_succ', List.append_assoc]
  rfl
theorem made_loads (n : Nat) : (madeCells (Value.agg #[.int .i64 0, .int .i64 0]).cells (n * 2)).toList = cellsL (List.replicate n (0, 0)) := by
  have key : ∀ n, cellsL (List.replicate n (0, 0)) = List.replicate (n * 2) (.int .i64 0) := by
    intro n
    induction n with
    | zero => rfl
    | succ n ih =>
      rw [List.replicate_succ, cellsL_cons, ih, show (n + 1) * 2 = n * 2 + 1 + 1 by omega, List.replicate_succ, List.replicate_succ]
      rfl
  rw [key]
  apply List.ext_getElem?
  intro j
  rw [Array.getElem?_toList]
  simp only [madeCells, Array.getElem?_map, Array.getElem?_range, List.getElem?_replicate]
  by_cases hj : j < n * 2
  · rcases (by omega : j % 2 = 0 ∨ j % 2 = 1) with e | e <;> simp [hj, Value.cells, e]
  · simp [hj]
/-- a new list of loads -/
theorem own_made (w : World) (base n : Nat) (hb : base ≤ w.heap.size) (hn : n ≤ maxLen) : OwnL (w.alloc (.cells (madeCells (Value.agg #[.int .i64 0, .int .i64 0]).cells (n * 2)) 76)) base (.slice (some ⟨w.heap.size, 0, none⟩) n n) (fillL n 0) := by
  have hl : fillL n 0 = List.replicate n (0, 0) := by simp [fillL]
  rw [hl]
  unfold OwnL
  rw [List.length_replicate, ← made_loads]
  exact World.ownsRow_lit w _ n hb hn (by simp [madeCells])
end Go.Proofs.Ytlhekifmkkgjlaa
/- Chapter 8, the reference: Loads, what its walk keeps. -/
namespace Go.Proofs.Ytlhekifmkkgjlaa
open Go Go.RowKit Go.Shelf
set_option maxHeartbeats 8000000
set_option maxRecDepth 100000
theorem fill_step {wr : World} {base g m i : Nat} (h : OwnL wr base (.slice (some ⟨g, 0, none⟩) m m) (fillL m i)) (hi : i < m) :
    OwnL ((wr.setCell ⟨g, i * 2, none⟩ (.int .i64 0)).setCell ⟨g, i * 2 + 1, none⟩ (.int .i64 1)) base (.slice (some ⟨g, 0, none⟩) m m) (fillL m (i + 1)) := by
  have hl := fillL_len (m := m) (i := i) (by omega)
  rw [← fillL_set hi]
  have h2 : OwnL wr base (.slice (some ⟨g, 0, none⟩) (fillL m i).length m) (fillL m i) := by rw [hl]; exact h
  have h3 := OwnL.set h2 (0, 1) (c := i) (by rw [hl]; exact hi)
  rw [hl] at h3
  exact h3
/-- what the reference keeps at the head of a tier: r tiers are still to come -/
structure RefL (w : World) (s : Stk) (zo r : Nat) (v : Nat → Value) (wr : World) : Prop where
  below : Below w.heap.size w wr
  bx : Blk wr w.heap.size 55 #[.int .i64 s.wd, .int .i64 s.hg, .slice s.A s.nt s.cap]
  row : Blk wr zo 65 (rowV s.nt v)
  fam : Fam w.heap.size (s.nt + 1) v (gL s r).1 wr
  lo : w.heap.size < zo
theorem loads_short {s : Stk} {r k : Nat} (hk : k < r) (hr : r ≤ s.nt) : (gL s r).1 k = [] := by
  have h1 := loads_cnt s (flr s) (s.nt - r) r (by omega) k (by omega)
  rw [if_neg (by omega)] at h1
  exact List.eq_nil_of_length_eq_zero h1
theorem gL_top (s : Stk) : (gL s s.nt).1 = fun k => if k = s.nt then List.replicate (flr s) (0, 1) else [] := by
  show (loadsF s (flr s) (backTo s.nt s.nt)).1 = _
  rw [loads_top]; rfl
def RefLoadsPost (s : Stk) (w : World) (e : Ending) (w' : World) : Prop :=
  (LoadsB s = false ∧ e = .returned (.tuple #[.slice none 0 0, .slice none 0 0, .bool false]) ∧ Below w.heap.size w w') ∨
  (LoadsB s = true ∧ ∃ zo v, e = .returned (.tuple #[.slice (some ⟨zo, 0, none⟩) s.nt s.nt, v s.nt, .bool true]) ∧ RefL w s zo 0 v w')
theorem RefL.ext {w wr w' : World} {s : Stk} {zo r : Nat} {v : Nat → Value} (h : RefL w s zo r v wr) (hb : Below wr.heap.size wr w') : RefL w s zo r v w' := ⟨h.below.trans (hb.mono h.below.size), h.bx.ext hb, h.row.ext hb, h.fam.ext hb, h.lo⟩
/-- within a tier: the tier in box gt, the list for the tier below in block gn -/
structure TierL (w : World) (s : Stk) (zo t : Nat) (v : Nat → Value) (gt gn : Nat) (l : List (Nat × Nat)) (wr : World) : Prop where
  below : Below w.heap.size w wr
  bx : Blk wr w.heap.size 55 #[.int .i64 s.wd, .int .i64 s.hg, .slice s.A s.nt s.cap]
  row : Blk wr zo 65 (rowV s.nt v)
  fam : Fam w.heap.size (s.nt + 2) (upd v (s.nt + 1) (.slice (some ⟨gn, 0, none⟩) (flr s) (flr s))) (upd (gL s (t + 1)).1 (s.nt + 1) l) wr
  tr : Blk wr gt 72 #[.slice (s.ca t) (s.cn t) (s.cc t), .slice (s.wa t) (s.wn t) (s.wc t)]
  lo : w.heap.size < zo ∧ w.heap.size < gt
theorem TierL.at_ {w wr : World} {s : Stk} {zo t gt gn c : Nat} {v : Nat → Value} {l : List (Nat × Nat)} (h : TierL w s zo t v gt gn l wr) (hl : l.length = flr s) (hc : c < flr s) :
    wr.cell? ⟨gn, c * 2, none⟩ = some (.int .i64 (l.getD c (0, 1)).1) ∧ wr.cell? ⟨gn, c * 2 + 1, none⟩ = some (.int .i64 (l.getD c (0, 1)).2) ∧ wr.frozen? ⟨gn, c * 2, none⟩ = false ∧ wr.frozen? ⟨gn, c * 2 + 1, none⟩ = false ∧ gn < wr.heap.size := by
  have ho := h.fam.own (s.nt + 1) (by omega)
  rw [upd_same, upd_same] at ho
  obtain ⟨g, cap, hv, -, hg, x1, x2, f1, f2⟩ := OwnL.at_ ho (c := c) (by omega)
  injection hv with hv1
  injection hv1 with hv1
  injection hv1 with hv1
  subst hv1
  exact ⟨x1, x2, f1, f2, hg⟩
theorem TierL.put {w wr : World} {s : Stk} {zo t gt gn c : Nat} {v : Nat → Value} {l : List (Nat × Nat)} (h : TierL w s zo t v gt gn l wr) (hl : l.length = flr s) (hc : c < flr s) (x : Nat × Nat) :
    TierL w s zo t v gt gn (l.set c x) ((wr.setCell ⟨gn, c * 2, none⟩ (.int .i64 x.1)).setCell ⟨gn, c * 2 + 1, none⟩ (.int .i64 x.2)) := by
  have ho := h.fam.own (s.nt + 1) (by omega)
  rw [upd_same, upd_same] at ho
  have hlt := (ho.lt (show (Value.slice (some ⟨gn, 0, none⟩) (flr s) (flr s)).ownBlock = some gn from rfl)).1
  have hg := grownBy_setS (grownBy_setS (World.grownBy.refl wr (some gn)) (c * 2) (.int .i64 x.1)) (c * 2 + 1) (.int .i64 x.2)
  have hf := h.fam.put (k := s.nt + 1) (c := c) (g := gn) (cap := flr s) (by omega) (by rw [upd_same, upd_same, hl]) (by rw [upd_same]; omega) x
  rw [upd_same, upd_upd] at hf
  exact ⟨h.below.grown hg h.below.size (fun j hj => by injection hj with hj; omega), h.bx.grown hg (fun e => own_blk_ne ho h.bx (by decide) e.symm), h.row.grown hg (fun e => own_blk_ne ho h.row (by decide) e.symm), hf, h.tr.grown hg (fun e => own_blk_ne ho h.tr (by decide) e.symm), h.lo⟩
/-- within a tier: k bricks done, their loads in list o -/
structure TierB (w : World) (s : Stk) (zo t : Nat) (v : Nat → Value) (gt gn : Nat) (l o : List (Nat × Nat)) (wr : World) : Prop where
  below : Below w.heap.size w wr
  bx : Blk wr w.heap.size 55 #[.int .i64 s.wd, .int .i64 s.hg, .slice s.A s.nt s.cap]
  row : Blk wr zo 65 (rowV s.nt v)
  fam : Fam w.heap.size (s.nt + 2) (upd v (s.nt + 1) (.slice (some ⟨gn, 0, none⟩) (flr s) (flr s))) (upd (upd (gL s (t + 1)).1 t o) (s.nt + 1) l) wr
  tr : Blk wr gt 72 #[.slice (s.ca t) (s.cn t) (s.cc t), .slice (s.wa t) (s.wn t) (s.wc t)]
  lo : w.heap.size < zo ∧ w.heap.size < gt
theorem tierB_start {w wr : World} {s : Stk} {zo t gt gn : Nat} {v : Nat → Value} {l : List (Nat × Nat)} (h : TierL w s zo t v gt gn l wr) (ht : t < s.nt) (hr : t + 1 ≤ s.nt) :
    TierB w s zo t (upd v t (.slice (some ⟨wr.heap.size, 0, none⟩) 0 0)) gt gn l [] ((wr.alloc (.cells #[] 76)).setCell ⟨zo, t, none⟩ (.slice (some ⟨wr.heap.size, 0, none⟩) 0 0)) := by
  have hb : Below wr.heap.size wr (wr.alloc (.cells #[] 76)) := (Below.refl _ _).alloc (Nat.le_refl _) _
  have hv : upd v (s.nt + 1) (.slice (some ⟨gn, 0, none⟩) (flr s) (flr s)) t = v t := upd_ne _ _ (by omega)
  have hL : upd (gL s (t + 1)).1 (s.nt + 1) l t = [] := by rw [upd_ne _ _ (by omega)]; exact loads_short (by omega) hr
  have ho : OwnL (wr.alloc (.cells #[] 76)) w.heap.size (.slice (some ⟨wr.heap.size, 0, none⟩) 0 0) [] := ownMono (own_empty wr 76 2) h.below.size
  have hf := h.fam.turn (k := t) (by omega) (World.grownBy_alloc wr (.cells #[] 76) _) ho (.inr ⟨wr.heap.size, rfl, Nat.le_refl _⟩)
  have hrow := h.row.ext hb
  have hg := grownBy_setC (wr.alloc (.cells #[] 76)) zo t (.slice (some ⟨wr.heap.size, 0, none⟩) 0 0)
  have hf2 := hf.other hrow (by decide) hg
  have htz : gt ≠ zo := h.tr.ne_ h.row (by decide)
  refine ⟨(h.below.alloc h.below.size _).setCell (p := ⟨zo, t, none⟩) (by show w.heap.size ≤ zo; have := h.lo.1; omega) _, (h.bx.ext hb).far (p := ⟨zo, t, none⟩) (by show w.heap.size ≠ zo; have := h.lo.1; omega) _, ?_, ?_, (h.tr.ext hb).far (p := ⟨zo, t, none⟩) htz _, h.lo⟩
  · have h2 := hrow.set_ t (.slice (some ⟨wr.heap.size, 0, none⟩) 0 0)
    rw [rowV_set] at h2
    exact h2
  · refine hf2.congr (fun k hk => ?_) (fun k hk => ?_)
    · by_cases e : k = t
      · subst e; rw [upd_same, upd_ne _ _ (by omega), upd_same]
      · rw [upd_ne _ _ e]
        by_cases e2 : k = s.nt + 1
        · subst e2; rw [upd_same, upd_same]
        · rw [upd_ne _ _ e2, upd_ne _ _ e2, upd_ne _ _ e]
    · by_cases e : k = t
      · subst e; rw [upd_same, upd_ne _ _ (by omega), upd_same]
      · rw [upd_ne _ _ e]
        by_cases e2 : k = s.nt + 1
        · subst e2; rw [upd_same, upd_same]
        · rw [upd_ne _ _ e2, upd_ne _ _ e2, upd_ne _ _ e]
theorem tierB_start' {w wr : World} {s : Stk} {zo t gt gn : Nat} {v : Nat → Value} {l : List (Nat × Nat)} (h : TierL w s zo t v gt gn l wr) (ht : t < s.nt) (hr : t + 1 ≤ s.nt) :
    TierB w s zo t (upd v t (.slice (some ⟨wr.heap.size, 0, none⟩) 0 0)) gt gn l [] ((wr.setCell ⟨zo, t, none⟩ (.slice (some ⟨wr.heap.size, 0, none⟩) 0 0)).alloc (.cells #[] 76)) := by
  have e := tierB_start h ht hr
  rw [World.setCell_alloc_past (w := wr) (.cells #[] 76) zo t (.slice (some ⟨wr.heap.size, 0, none⟩) 0 0) h.row.lt] at e
  exact e
theorem gL_tier {s : Stk} {t : Nat} (ht : t < s.nt) (hok : (gL s (t + 1)).2 = true) : (gL s t).1 = upd (upd (gL s (t + 1)).1 t (tierR s (flr s) t ((gL s (t + 1)).1 s.nt) [] true (s.wn t)).2.1) s.nt (tierR s (flr s) t ((gL s (t + 1)).1 s.nt) [] true (s.wn t)).1 ∧ (gL s t).2 = (tierR s (flr s) t ((gL s (t + 1)).1 s.nt) [] true (s.wn t)).2.2 := by
  have hnil : (gL s (t + 1)).1 t = [] := loads_short (by omega) (by omega)
  rw [gL_step ht]
  unfold tierSt
  rw [hnil, hok]
  exact ⟨rfl, rfl⟩
theorem tierB_end {w wr : World} {s : Stk} {zo t gt gn : Nat} {v : Nat → Value} (h : TierB w s zo t v gt gn (tierR s (flr s) t ((gL s (t + 1)).1 s.nt) [] true (s.wn t)).1 (tierR s (flr s) t ((gL s (t + 1)).1 s.nt) [] true (s.wn t)).2.1 wr) (ht : t < s.nt) (hok : (gL s (t + 1)).2 = true) :
    RefL w s zo t (upd v s.nt (.slice (some ⟨gn, 0, none⟩) (flr s) (flr s))) wr := by
  have hd := h.fam.drop
  rw [upd_same, upd_same] at hd
  refine ⟨h.below, h.bx, ?_, ?_, h.lo.1⟩
  · rw [← rowV_same s.nt v _ (fun k hk => (upd_ne _ _ (by omega)).symm)]; exact h.row
  · rw [(gL_tier ht hok).1]
    refine hd.congr (fun k hk => ?_) (fun k hk => ?_)
    · by_cases e2 : k = s.nt
      · subst e2; rw [upd_same, upd_same]
      · rw [upd_ne _ _ e2, upd_ne _ _ e2, upd_ne _ _ (by omega)]
    · by_cases e2 : k = s.nt
      · subst e2; rw [upd_same, upd_same]
      · rw [upd_ne _ _ e2, upd_ne _ _ e2, upd_ne _ _ (show k ≠ s.nt + 1 by omega)]
theorem TierB.ext {w wr w' : World} {s : Stk} {zo t gt gn : Nat} {v : Nat → Value} {l o : List (Nat × Nat)} (h : TierB w s zo t v gt gn l o wr) (hb : Below wr.heap.size wr w') : TierB w s zo t v gt gn l o w' :=
  ⟨h.below.trans (hb.mono h.below.size), h.bx.ext hb, h.row.ext hb, h.fam.ext hb, h.tr.ext hb, h.lo⟩
/-- within a brick: a load of its own in box gb -/
structure TierK (w : World) (s : Stk) (zo t : Nat) (v : Nat → Value) (gt gn : Nat) (l o : List (Nat × Nat)) (gb : Nat) (x : Nat × Nat) (wr : World) : Prop where
  base : TierB w s zo t v gt gn l o wr
  kb : Blk wr gb 76 #[.int .i64 x.1, .int .i64 x.2]
  ap : ∀ k, k < s.nt + 2 → (upd v (s.nt + 1) (.slice (some ⟨gn, 0, none⟩) (flr s) (flr s)) k).ownBlock ≠ some gb
  lo : w.heap.size < gb
theorem TierK.ext {w wr w' : World} {s : Stk} {zo t gt gn gb : Nat} {v : Nat → Value} {l o : List (Nat × Nat)} {x : Nat × Nat} (h : TierK w s zo t v gt gn l o gb x wr) (hb : Below wr.heap.size wr w') : TierK w s zo t v gt gn l o gb x w' :=
  ⟨h.base.ext hb, h.kb.ext hb, h.ap, h.lo⟩
theorem tierK_start {w wr : World} {s : Stk} {zo t gt gn : Nat} {v : Nat → Value} {l o : List (Nat × Nat)} (h : TierB w s zo t v gt gn l o wr) (a b : Nat) :
    TierK w s zo t v gt gn l o wr.heap.size (a, b) (wr.alloc (.cells #[.int .i64 a, .int .i64 b] 76)) :=
  ⟨h.ext ((Below.refl _ _).alloc (Nat.le_refl _) _), Blk.new wr _ _, fun k hk e => by have := (h.fam.lt hk e).2; omega, h.bx.lt⟩
theorem TierK.set {w wr : World} {s : Stk} {zo t gt gn gb : Nat} {v : Nat → Value} {l o : List (Nat × Nat)} {x : Nat × Nat} (h : TierK w s zo t v gt gn l o gb x wr) (y : Nat × Nat) :
    TierK w s zo t v gt gn l o gb y ((wr.setCell ⟨gb, 0, none⟩ (.int .i64 y.1)).setCell ⟨gb, 1, none⟩ (.int .i64 y.2)) := by
  have hg := grownBy_setS (grownBy_setS (World.grownBy.refl wr (some gb)) 0 (.int .i64 y.1)) 1 (.int .i64 y.2)
  have hlo := h.lo
  refine ⟨⟨h.base.below.grown hg h.base.below.size (fun j hj => by injection hj with hj; omega), h.base.bx.grown hg (fun e => by injection e; omega), h.base.row.grown hg (fun e => by injection e with e; exact h.kb.ne_ h.base.row (by decide) e.symm), h.base.fam.apart h.ap hg, h.base.tr.grown hg (fun e => by injection e with e; exact h.kb.ne_ h.base.tr (by decide) e.symm), h.base.lo⟩, h.kb.set2 _ _, h.ap, h.lo⟩
theorem tierL_start {w wd W2 : World} {s : Stk} {zo t gt gn : Nat} {v : Nat → Value} (h : RefL w s zo (t + 1) v wd) (hb : Below wd.heap.size wd W2) (ho : OwnL W2 w.heap.size (.slice (some ⟨gn, 0, none⟩) (flr s) (flr s)) (fillL (flr s) 0)) (hgn : wd.heap.size ≤ gn)
    (hk : Blk W2 gt 72 #[.slice none 0 0, .slice none 0 0]) (hgt : wd.heap.size ≤ gt) :
    TierL w s zo t v gt gn (fillL (flr s) 0) ((W2.setCell ⟨gt, 0, none⟩ (.slice (s.ca t) (s.cn t) (s.cc t))).setCell ⟨gt, 1, none⟩ (.slice (s.wa t) (s.wn t) (s.wc t))) := by
  have h2 := h.ext hb
  have hf := h.fam.more hb ho (.inr ⟨gn, rfl, hgn⟩)
  have hg := grownBy_setS (grownBy_setS (World.grownBy.refl W2 (some gt)) 0 (.slice (s.ca t) (s.cn t) (s.cc t))) 1 (.slice (s.wa t) (s.wn t) (s.wc t))
  have hw := h.bx.lt
  have hz := h.row.lt
  refine ⟨h2.below.grown hg h2.below.size (fun j hj => by injection hj with hj; omega), h2.bx.grown hg (fun e => by injection e; omega), h2.row.grown hg (fun e => by injection e; omega), hf.other hk (by decide) hg, hk.set2 _ _, h.lo, by omega⟩
theorem tierL_done {w wd W3 : World} {s : Stk} {zo t gt gn : Nat} {v : Nat → Value} (h : RefL w s zo (t + 1) v wd) (hb : Below wd.heap.size wd W3) (ho : OwnL W3 w.heap.size (.slice (some ⟨gn, 0, none⟩) (flr s) (flr s)) (fillL (flr s) 0)) (hgn : wd.heap.size ≤ gn)
    (hk : Blk W3 gt 72 #[.slice (s.ca t) (s.cn t) (s.cc t), .slice (s.wa t) (s.wn t) (s.wc t)]) (hgt : wd.heap.size ≤ gt) : TierL w s zo t v gt gn (fillL (flr s) 0) W3 := by
  have h2 := h.ext hb
  have hw := h.bx.lt
  exact ⟨h2.below, h2.bx, h2.row, h.fam.more hb ho (.inr ⟨gn, rfl, hgn⟩), hk, h.lo, by omega⟩
theorem refL_start {w wr : World} {s : Stk} {g : Nat} (h : OwnL wr w.heap.size (.slice (some ⟨g, 0, none⟩) (flr s) (flr s)) (fillL (flr s) (flr s))) (hb : Below w.heap.size w wr) (hk : Blk wr w.heap.size 55 #[.int .i64 s.wd, .int .i64 s.hg, .slice s.A s.nt s.cap]) (hf : flr s ≤ 144) :
    ∃ v, .slice (some ⟨g, 0, none⟩) (flr s) (flr s) = v s.nt ∧ RefL w s wr.heap.size s.nt v (wr.alloc (.cells (rowV s.nt fun _ => .slice none 0 0) 65)) := by
  refine ⟨fun k => if k = s.nt then .slice (some ⟨g, 0, none⟩) (flr s) (flr s) else .slice none 0 0, (if_pos rfl).symm, hb.alloc hb.size _, hk.alloc _, ?_, ⟨fun k hk2 => ?_, fun i j hi hj hij => ?_⟩, hk.lt⟩
  · have h1 := Blk.new wr 65 (rowV s.nt fun _ => .slice none 0 0)
    rw [rowV_same s.nt (fun k => if k = s.nt then .slice (some ⟨g, 0, none⟩) (flr s) (flr s) else .slice none 0 0) (fun _ => .slice none 0 0) (fun k hk2 => if_neg (by omega))]
    exact h1
  · rw [gL_top]
    by_cases e : k = s.nt
    · simp only [if_pos e]
      rw [fillL_all] at h
      exact World.ownsRow.alloc h _
    · simp only [if_neg e]
      exact OwnL.nil _ _
  · by_cases e : i = s.nt
    · simp only [if_pos e, if_neg (show ¬ j = s.nt by omega)]
      exact .inr (by simp [Value.ownBlock])
    · simp only [if_neg e]
      exact .inl rfl
theorem loads_false {s : Stk} (h1 : stackB s = true) (h2 : (hangF s).1 < 0) {r : Nat} (hr : r ≤ s.nt) (h : (gL s r).2 = false) : LoadsB s = false := by
  rcases e : LoadsB s with _ | _
  · rfl
  · have := (tower h1 h2 s.nt 0 (by omega) e).2 r (by omega) hr
    rw [this] at h; cases h

/-- the cells of a brick up to one, added -/
def addTo (s : Stk) (t k : Nat) (on : List (Nat × Nat)) (j : Nat) : (Nat × Nat) × Bool := (cellsTo (s.cf t) k j).foldl (addSt on) ((0, 1), true)
theorem addTo_zero (s : Stk) (t k : Nat) (on : List (Nat × Nat)) : addTo s t k on 0 = ((0, 1), true) := rfl
theorem addTo_yes {s : Stk} {t k j : Nat} (on : List (Nat × Nat)) (h : s.cf t j = (k : Int)) : addTo s t k on (j + 1) = addSt on (addTo s t k on j) j := by
  unfold addTo
  rw [cellsTo_yes h, List.foldl_append]; rfl
theorem addTo_no {s : Stk} {t k j : Nat} (on : List (Nat × Nat)) (h : s.cf t j ≠ (k : Int)) : addTo s t k on (j + 1) = addTo s t k on j := by
  unfold addTo
  rw [cellsTo_no h]
theorem addTo_all {s : Stk} {t k n : Nat} (on : List (Nat × Nat)) (h : s.cn t = n) : addTo s t k on n = onBrk s t k on true := by subst h; rfl
theorem foldA_ok {on : List (Nat × Nat)} (ho : ∀ x ∈ on, LdOk x) : ∀ (cs : List Nat) (st : (Nat × Nat) × Bool), LdOk st.1 → LdOk (cs.foldl (addSt on) st).1
  | [], st, h => h
  | c :: cs, st, h => by rw [List.foldl_cons]; exact foldA_ok ho cs _ (addSt_ok on st c h ho)
theorem addTo_ok {s : Stk} {t k j : Nat} {on : List (Nat × Nat)} (ho : ∀ x ∈ on, LdOk x) : LdOk (addTo s t k on j).1 := foldA_ok ho _ _ LdOk_zero
theorem addTo_over {s : Stk} {t k j : Nat} {on : List (Nat × Nat)} (ho : ∀ x ∈ on, LdOk x) (hj : j ≤ s.cn t) (h : (addTo s t k on j).2 = false) : (onBrk s t k on true).2 = false := by
  rcases e : (onBrk s t k on true).2 with _ | _
  · rfl
  · obtain ⟨r, hr⟩ := cellsTo_prefix (s.cf t) k j (s.cn t) hj
    unfold onBrk at e
    rw [← hr, List.foldl_append] at e
    have h2 := (addSt_sum ho r _ (foldA_ok ho (cellsTo (s.cf t) k j) ((0, 1), true) LdOk_zero) e).1
    unfold addTo at h
    rw [h] at h2; cases h2
theorem tierR_mono {s : Stk} {m t : Nat} {on l : List (Nat × Nat)} (ho : ∀ x ∈ on, LdOk x) : ∀ (n k : Nat), k ≤ n → (tierR s m t on l true n).2.2 = true → (tierR s m t on l true k).2.2 = true
  | 0, k, hk, h => by obtain rfl : k = 0 := by omega
                      exact h
  | n + 1, k, hk, h => by
    rcases Nat.lt_or_ge k (n + 1) with hl | hl
    · refine tierR_mono ho n k (by omega) ?_
      rw [tierR_succ] at h
      simp only [brkSt, Bool.and_eq_true] at h
      exact (onBrk_sum ho h.1.1).1
    · obtain rfl : k = n + 1 := by omega
      exact h
theorem on_ok {s : Stk} {t : Nat} (h2 : (hangF s).1 < 0) (ht : t < s.nt) : ∀ x ∈ (gL s (t + 1)).1 s.nt, LdOk x :=
  loads_ok s (flr s) (rest_pos h2) (s.nt - (t + 1)) (t + 1) (by omega) s.nt (Nat.le_refl _)
theorem over_of {s : Stk} {t k : Nat} (h1 : stackB s = true) (h2 : (hangF s).1 < 0) (ht : t < s.nt) (hok : (gL s (t + 1)).2 = true) (hk : k < s.wn t)
    (h : (brkSt s t ((gL s (t + 1)).1 s.nt) (tierR s (flr s) t ((gL s (t + 1)).1 s.nt) [] true k) k).2.2 = false) : LoadsB s = false := by
  refine loads_false h1 h2 (r := t) (by omega) ?_
  rw [(gL_tier ht hok).2]
  rcases e : (tierR s (flr s) t ((gL s (t + 1)).1 s.nt) [] true (s.wn t)).2.2 with _ | _
  · rfl
  · have h3 := tierR_mono (on_ok h2 ht) (s.wn t) (k + 1) (by omega) e
    rw [tierR_succ, h] at h3
    cases h3
theorem lowP_pos (n d : Nat) (h : 0 < d) : 0 < (lowP n d).2 := Nat.div_pos (Nat.le_of_dvd h (Nat.gcd_dvd_right n d)) (Nat.gcd_pos_of_pos_right _ h)
theorem brk_no1 {s : Stk} {t k : Nat} {on : List (Nat × Nat)} {R : List (Nat × Nat) × List (Nat × Nat) × Bool} (hR : R.2.2 = true) (h : (onBrk s t k on true).2 = false) : (brkSt s t on R k).2.2 = false := by
  unfold brkSt; dsimp only; rw [hR, h]; rfl
theorem brk_no2 {s : Stk} {t k wN : Nat} {on : List (Nat × Nat)} {x : Nat × Nat} {R : List (Nat × Nat) × List (Nat × Nat) × Bool} (hR : R.2.2 = true) (hx : (onBrk s t k on true).1 = x) (hw : wtP s t k = (wN, 1)) (h : fitP (lowP (addN x (wN, 1)) (addD x (wN, 1))) = false) : (brkSt s t on R k).2.2 = false := by
  unfold brkSt dnOk; dsimp only; rw [hR, hx, hw, h, Bool.and_false]; rfl
theorem brk_dn {s : Stk} {t k wN : Nat} {x y : Nat × Nat} (hw : wtP s t k = (wN, 1)) (hy : lowP (addN x (wN, 1)) (addD x (wN, 1)) = y) (h : fitP y = true) : dnBrk s t k x = y := by
  unfold dnBrk; rw [hw]; unfold lowS; rw [hy, capP_yes h]
theorem brk_no3 {s : Stk} {t k wN n : Nat} {on : List (Nat × Nat)} {x y : Nat × Nat} {R : List (Nat × Nat) × List (Nat × Nat) × Bool} (hR : R.2.2 = true) (hx : (onBrk s t k on true).1 = x) (hw : wtP s t k = (wN, 1)) (hy : lowP (addN x (wN, 1)) (addD x (wN, 1)) = y) (h : fitP y = true) (hn : (restL s t k).length = n) (h2 : fitP (lowP y.1 (y.2 * n)) = false) : (brkSt s t on R k).2.2 = false := by
  unfold brkSt shOk; dsimp only; rw [hR, hx, brk_dn hw hy h, hn, h2, Bool.and_false]
theorem brk_yes {s : Stk} {t k wN n : Nat} {on : List (Nat × Nat)} {x y : Nat × Nat} {R : List (Nat × Nat) × List (Nat × Nat) × Bool} (hR : R.2.2 = true) (ho : (onBrk s t k on true).2 = true) (hx : (onBrk s t k on true).1 = x) (hw : wtP s t k = (wN, 1)) (hy : lowP (addN x (wN, 1)) (addD x (wN, 1)) = y) (h : fitP y = true) (hn : (restL s t k).length = n) (h2 : fitP (lowP y.1 (y.2 * n)) = true) :
    brkSt s t on R k = (layOn R.1 (restL s t k) (lowP y.1 (y.2 * n)), R.2.1 ++ [x], true) := by
  unfold brkSt shOk shBrk dnOk; rw [hR, hx, brk_dn hw hy h, hn, h2, hw, hy, h, ho]; unfold lowS; rw [capP_yes h2]; rfl
section
variable {w wr A W2 : World} {s : Stk} {zo t gt gn gb : Nat} {v : Nat → Value} {l o : List (Nat × Nat)} {x e : Nat × Nat} {x' : Value}
/-- what lies on the tier -/
theorem TierB.press (h : TierB w s zo t v gt gn l o wr) (ht : t < s.nt) {pA : Option Addr} {pc c : Nat} (hv : v s.nt = .slice pA (flr s) pc) (hc : c < flr s) :
    ∃ g, pA = some ⟨g, 0, none⟩ ∧ wr.cell? ⟨g, c * 2, none⟩ = some (.int .i64 (((gL s (t + 1)).1 s.nt).getD c (0, 1)).1) ∧ wr.cell? ⟨g, c * 2 + 1, none⟩ = some (.int .i64 (((gL s (t + 1)).1 s.nt).getD c (0, 1)).2) := by
  have ho := h.fam.own s.nt (by omega)
  rw [upd_ne _ _ (show s.nt ≠ s.nt + 1 by omega), upd_ne _ _ (show s.nt ≠ s.nt + 1 by omega), upd_ne _ _ (show s.nt ≠ t by omega), hv] at ho
  obtain ⟨g, cap, hv2, -, -, x1, x2, -, -⟩ := OwnL.at_ ho (c := c) (by rw [loadsF_len]; exact hc)
  injection hv2 with hv1 hv2 hv3
  exact ⟨g, hv1, x1, x2⟩
theorem TierB.at_ (h : TierB w s zo t v gt gn l o wr) {c : Nat} (hl : l.length = flr s) (hc : c < flr s) :
    wr.cell? ⟨gn, c * 2, none⟩ = some (.int .i64 (l.getD c (0, 1)).1) ∧ wr.cell? ⟨gn, c * 2 + 1, none⟩ = some (.int .i64 (l.getD c (0, 1)).2) ∧ wr.frozen? ⟨gn, c * 2, none⟩ = false ∧ wr.frozen? ⟨gn, c * 2 + 1, none⟩ = false ∧ gn < wr.heap.size := by
  have ho := h.fam.own (s.nt + 1) (by omega)
  rw [upd_same, upd_same] at ho
  obtain ⟨g, cap, hv, -, hg, x1, x2, f1, f2⟩ := OwnL.at_ ho (c := c) (by omega)
  injection hv with hv1
  injection hv1 with hv1
  injection hv1 with hv1
  subst hv1
  exact ⟨x1, x2, f1, f2, hg⟩
theorem TierB.nlt (h : TierB w s zo t v gt gn l o wr) : gn < wr.heap.size := (h.fam.lt (k := s.nt + 1) (by omega) (by rw [upd_same]; rfl)).2
theorem TierB.put (h : TierB w s zo t v gt gn l o wr) {c : Nat} (hl : l.length = flr s) (hc : c < flr s) (x : Nat × Nat) :
    TierB w s zo t v gt gn (l.set c x) o ((wr.setCell ⟨gn, c * 2, none⟩ (.int .i64 x.1)).setCell ⟨gn, c * 2 + 1, none⟩ (.int .i64 x.2)) := by
  have ho := h.fam.own (s.nt + 1) (by omega)
  rw [upd_same, upd_same] at ho
  have hlt := (ho.lt (show (Value.slice (some ⟨gn, 0, none⟩) (flr s) (flr s)).ownBlock = some gn from rfl)).1
  have hg := grownBy_setS (grownBy_setS (World.grownBy.refl wr (some gn)) (c * 2) (.int .i64 x.1)) (c * 2 + 1) (.int .i64 x.2)
  have hf := h.fam.put (k := s.nt + 1) (c := c) (g := gn) (cap := flr s) (by omega) (by rw [upd_same, upd_same, hl]) (by rw [upd_same]; omega) x
  rw [upd_same, upd_upd] at hf
  exact ⟨h.below.grown hg h.below.size (fun j hj => by injection hj with hj; omega), h.bx.grown hg (fun e => own_blk_ne ho h.bx (by decide) e.symm), h.row.grown hg (fun e => own_blk_ne ho h.row (by decide) e.symm), hf, h.tr.grown hg (fun e => own_blk_ne ho h.tr (by decide) e.symm), h.lo⟩
/-- the list of the tier's loads -/
theorem TierB.list (h : TierB w s zo t v gt gn l o A) (ht : t < s.nt) : OwnL A w.heap.size (v t) o := by
  have ho := h.fam.own t (by omega)
  rw [upd_ne _ _ (show t ≠ s.nt + 1 by omega), upd_ne _ _ (show t ≠ s.nt + 1 by omega), upd_same] at ho
  exact ho
theorem TierB.push (h : TierB w s zo t v gt gn l o A) (ht : t < s.nt) (hg : A.grownBy W2 (v t).ownBlock) (ho : OwnL W2 w.heap.size x' (o ++ [e])) (hx : x'.ownBlock = (v t).ownBlock ∨ ∃ g, x'.ownBlock = some g ∧ A.heap.size ≤ g) :
    TierB w s zo t (upd v t x') gt gn l (o ++ [e]) (W2.setCell ⟨zo, t, none⟩ x') := by
  have e1 := h.list ht
  have hv : upd v (s.nt + 1) (.slice (some ⟨gn, 0, none⟩) (flr s) (flr s)) t = v t := upd_ne _ _ (by omega)
  have hb : Below w.heap.size w W2 := h.below.grown hg h.below.size (fun j hj => (e1.lt hj).1)
  have f1 := h.fam.turn (k := t) (by omega) (by rw [hv]; exact hg) ho (by rw [hv]; exact hx)
  have row2 : Blk W2 zo 65 (rowV s.nt v) := h.row.grown hg (fun e => own_blk_ne e1 h.row (by decide) e.symm)
  have f2 := f1.other row2 (by decide) (grownBy_setC W2 zo t x')
  have htz : gt ≠ zo := h.tr.ne_ h.row (by decide)
  refine ⟨hb.setCell (p := ⟨zo, t, none⟩) (by show w.heap.size ≤ zo; have := h.lo.1; omega) _, (h.bx.grown hg (fun e => own_blk_ne e1 h.bx (by decide) e.symm)).far (p := ⟨zo, t, none⟩) (by show w.heap.size ≠ zo; have := h.lo.1; omega) _, ?_, ?_, (h.tr.grown hg (fun e => own_blk_ne e1 h.tr (by decide) e.symm)).far (p := ⟨zo, t, none⟩) htz _, h.lo⟩
  · have h2 := row2.set_ t x'
    rw [rowV_set] at h2
    exact h2
  · refine f2.congr (fun k hk => ?_) (fun k hk => ?_)
    · by_cases e : k = t
      · subst e; rw [upd_same, upd_ne _ _ (by omega), upd_same]
      · rw [upd_ne _ _ e]
        by_cases e2 : k = s.nt + 1
        · subst e2; rw [upd_same, upd_same]
        · rw [upd_ne _ _ e2, upd_ne _ _ e2, upd_ne _ _ e]
    · by_cases e : k = t
      · subst e; rw [upd_same, upd_ne _ _ (by omega), upd_same]
      · rw [upd_ne _ _ e]
        by_cases e2 : k = s.nt + 1
        · subst e2; rw [upd_same, upd_same]
        · rw [upd_ne _ _ e2, upd_ne _ _ e2, upd_ne _ _ e, upd_ne _ _ e]
theorem TierK.mid (h : TierK w s zo t v gt gn l o gb x A) (ht : t < s.nt) (hg : A.grownBy W2 (v t).ownBlock) : Blk W2 zo 65 (rowV s.nt v) ∧ Blk W2 gb 76 #[.int .i64 x.1, .int .i64 x.2] := by
  have e1 := h.base.list ht
  have ht2 := h.ap t (by omega)
  rw [upd_ne _ _ (show t ≠ s.nt + 1 by omega)] at ht2
  exact ⟨h.base.row.grown hg (fun e => own_blk_ne e1 h.base.row (by decide) e.symm), h.kb.grown hg (fun e => ht2 e.symm)⟩
theorem TierK.push (h : TierK w s zo t v gt gn l o gb x A) (ht : t < s.nt) (hg : A.grownBy W2 (v t).ownBlock) (ho : OwnL W2 w.heap.size x' (o ++ [e])) (hx : x'.ownBlock = (v t).ownBlock ∨ ∃ g, x'.ownBlock = some g ∧ A.heap.size ≤ g) :
    TierK w s zo t (upd v t x') gt gn l (o ++ [e]) gb x (W2.setCell ⟨zo, t, none⟩ x') := by
  have hv : upd v (s.nt + 1) (.slice (some ⟨gn, 0, none⟩) (flr s) (flr s)) t = v t := upd_ne _ _ (by omega)
  have ht2 := h.ap t (by omega)
  rw [hv] at ht2
  refine ⟨h.base.push ht hg ho hx, (h.kb.grown hg (fun e => ht2 e.symm)).far (p := ⟨zo, t, none⟩) (h.kb.ne_ h.base.row (by decide)) _, fun k hk => ?_, h.lo⟩
  have hk2 := h.ap k hk
  by_cases e2 : k = s.nt + 1
  · subst e2; rw [upd_same] at hk2 ⊢; exact hk2
  · rw [upd_ne _ _ e2] at hk2 ⊢
    by_cases e3 : k = t
    · subst e3
      rw [upd_same]
      rcases hx with hx | ⟨g, hx, hg2⟩
      · rw [hx]; exact hk2
      · intro e
        rw [hx] at e
        injection e with e
        have := h.kb.lt
        omega
    · rw [upd_ne _ _ e3]; exact hk2
end
end Go.Proofs.Ytlhekifmkkgjlaa
