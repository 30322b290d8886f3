/- The loads of a pile: what they are. -/
import Derived.Test.YtlhekifmkkgjlaaKw
set_option linter.unusedSimpArgs false
set_option linter.unusedVariables false
set_option linter.unnecessarySimpa false
namespace Go.Proofs.Ytlhekifmkkgjlaa
open Go Go.RowKit Go.Shelf
attribute [local go_sem] Oper.semAt_some
set_option maxHeartbeats 1000000
/-- a load and the load of a cell above it; whether no number was too great -/
def addSt (on : List (Nat × Nat)) (st : (Nat × Nat) × Bool) (c : Nat) : (Nat × Nat) × Bool :=
  (lowS (addN st.1 (on.getD c (0, 1))) (addD st.1 (on.getD c (0, 1))), st.2 && fitP (lowP (addN st.1 (on.getD c (0, 1))) (addD st.1 (on.getD c (0, 1)))))
/-- what lies on a brick -/
def onBrk (s : Stk) (t i : Nat) (on : List (Nat × Nat)) (ok : Bool) : (Nat × Nat) × Bool := (cellsTo (s.cf t) i (s.cn t)).foldl (addSt on) ((0, 1), ok)
def wtP (s : Stk) (t i : Nat) : Nat × Nat := ((s.wf t i).toNat, 1)
/-- with its own weight -/
def dnBrk (s : Stk) (t i : Nat) (x : Nat × Nat) : Nat × Nat := lowS (addN x (wtP s t i)) (addD x (wtP s t i))
def dnOk (s : Stk) (t i : Nat) (x : Nat × Nat) : Bool := fitP (lowP (addN x (wtP s t i)) (addD x (wtP s t i)))
/-- what it lays on each cell that it rests on -/
def shBrk (s : Stk) (t i : Nat) (x : Nat × Nat) : Nat × Nat := lowS x.1 (x.2 * (restL s t i).length)
def shOk (s : Stk) (t i : Nat) (x : Nat × Nat) : Bool := fitP (lowP x.1 (x.2 * (restL s t i).length))
def layOn (l : List (Nat × Nat)) (cs : List Nat) (x : Nat × Nat) : List (Nat × Nat) := cs.foldl (fun l k => l.set k x) l
def brkSt (s : Stk) (t : Nat) (on : List (Nat × Nat)) (st : List (Nat × Nat) × List (Nat × Nat) × Bool) (i : Nat) : List (Nat × Nat) × List (Nat × Nat) × Bool :=
  (layOn st.1 (restL s t i) (shBrk s t i (dnBrk s t i (onBrk s t i on st.2.2).1)), st.2.1 ++ [(onBrk s t i on st.2.2).1],
    ((onBrk s t i on st.2.2).2 && dnOk s t i (onBrk s t i on st.2.2).1) && shOk s t i (dnBrk s t i (onBrk s t i on st.2.2).1))
def tierR (s : Stk) (m t : Nat) (on l : List (Nat × Nat)) (ok : Bool) (k : Nat) : List (Nat × Nat) × List (Nat × Nat) × Bool := (List.range k).foldl (brkSt s t on) (List.replicate m (0, 1), l, ok)
theorem tierR_succ (s : Stk) (m t : Nat) (on l : List (Nat × Nat)) (ok : Bool) (k : Nat) : tierR s m t on l ok (k + 1) = brkSt s t on (tierR s m t on l ok k) k := by
  simp [tierR, List.range_succ, List.foldl_append]
def tierSt (s : Stk) (m : Nat) (st : (Nat → List (Nat × Nat)) × Bool) (t : Nat) : (Nat → List (Nat × Nat)) × Bool :=
  (upd (upd st.1 t (tierR s m t (st.1 s.nt) (st.1 t) st.2 (s.wn t)).2.1) s.nt (tierR s m t (st.1 s.nt) (st.1 t) st.2 (s.wn t)).1, (tierR s m t (st.1 s.nt) (st.1 t) st.2 (s.wn t)).2.2)
def ld0 (s : Stk) (m : Nat) : (Nat → List (Nat × Nat)) × Bool := (fun k => if k = s.nt then List.replicate m (0, 1) else [], true)
def loadsF (s : Stk) (m : Nat) (ts : List Nat) : (Nat → List (Nat × Nat)) × Bool := ts.foldl (tierSt s m) (ld0 s m)
theorem loadsF_append (s : Stk) (m : Nat) (ts : List Nat) (t : Nat) : loadsF s m (ts ++ [t]) = tierSt s m (loadsF s m ts) t := by simp [loadsF, List.foldl_append]
theorem layOn_len (l : List (Nat × Nat)) (cs : List Nat) (x : Nat × Nat) : (layOn l cs x).length = l.length := by
  unfold layOn
  induction cs generalizing l with
  | nil => rfl
  | cons c cs ih => rw [List.foldl_cons, ih, List.length_set]
theorem brkSt_len (s : Stk) (t : Nat) (on : List (Nat × Nat)) (st : List (Nat × Nat) × List (Nat × Nat) × Bool) (i : Nat) : (brkSt s t on st i).1.length = st.1.length := layOn_len ..
theorem tierR_len (s : Stk) (m t : Nat) (on l : List (Nat × Nat)) (ok : Bool) (k : Nat) : (tierR s m t on l ok k).1.length = m := by
  induction k with
  | zero => simp [tierR]
  | succ k ih => rw [tierR_succ, brkSt_len, ih]
theorem loadsF_len (s : Stk) (m : Nat) (ts : List Nat) : ((loadsF s m ts).1 s.nt).length = m := by
  rcases List.eq_nil_or_concat ts with rfl | ⟨l, t, rfl⟩
  · simp [loadsF, ld0]
  · rw [List.concat_eq_append, loadsF_append]
    simp only [tierSt, upd_same]
    exact tierR_len ..
theorem tierR_cnt (s : Stk) (m t : Nat) (on l : List (Nat × Nat)) (ok : Bool) (k : Nat) : (tierR s m t on l ok k).2.1.length = l.length + k := by
  induction k with
  | zero => rfl
  | succ k ih => rw [tierR_succ]; simp [brkSt, ih]; omega
theorem LdOk_zero : LdOk (0, 1) := ⟨by simp, by simp, by simp⟩
theorem addSt_ok (on : List (Nat × Nat)) (st : (Nat × Nat) × Bool) (c : Nat) (h : LdOk st.1) (ho : ∀ x ∈ on, LdOk x) : LdOk (addSt on st c).1 := by
  refine lowS_ok _ _ (Nat.mul_pos h.2.1 ?_)
  rw [List.getD_eq_getElem?_getD]
  cases hc : on[c]? with
  | none => simp
  | some x => exact (ho x (List.mem_of_getElem? hc)).2.1
theorem getD_ok {on : List (Nat × Nat)} (ho : ∀ x ∈ on, LdOk x) (c : Nat) : LdOk (on.getD c (0, 1)) := by
  rw [List.getD_eq_getElem?_getD]
  cases hc : on[c]? with
  | none => exact LdOk_zero
  | some x => exact ho x (List.mem_of_getElem? hc)
theorem layOn_ok {l : List (Nat × Nat)} (h : ∀ x ∈ l, LdOk x) (cs : List Nat) {x : Nat × Nat} (hx : LdOk x) : ∀ y ∈ layOn l cs x, LdOk y := by
  unfold layOn
  induction cs generalizing l with
  | nil => exact h
  | cons c cs ih =>
    rw [List.foldl_cons]
    exact ih (fun y hy => (List.mem_or_eq_of_mem_set hy).elim (fun h1 => h y h1) (fun h1 => h1 ▸ hx))
theorem own_zero {W : World} {n0 n : Nat} {v : Value} (h : LdRow W n0 v n (fun _ => (0, 1))) : OwnL W n0 v (List.replicate n (0, 1)) := by
  have e : cellsOf 2 n (fun k i => if i = 0 then Value.int .i64 ((((fun _ => (0, 1)) : Nat → Nat × Nat) k).1 : Nat) else .int .i64 ((((fun _ => (0, 1)) : Nat → Nat × Nat) k).2 : Nat)) = cellsL (List.replicate n (0, 1)) := by
    apply List.ext_getElem?
    intro j
    by_cases hj : j < n * 2
    · have h1 := cellsOf_get 2 n (fun k i => if i = 0 then Value.int .i64 ((((fun _ => (0, 1)) : Nat → Nat × Nat) k).1 : Nat) else .int .i64 ((((fun _ => (0, 1)) : Nat → Nat × Nat) k).2 : Nat)) (j / 2) (j % 2) (by omega) (by omega)
      have h2 := cellsL_get (List.replicate n (0, 1)) (j / 2) (by simp; omega)
      have h3 : (List.replicate n ((0, 1) : Nat × Nat)).getD (j / 2) (0, 1) = (0, 1) := by
        rw [List.getD_eq_getElem?_getD, List.getElem?_replicate]; split <;> rfl
      rw [h3] at h2
      rw [show j / 2 * 2 + j % 2 = j by omega] at h1
      rw [h1]
      rcases Nat.mod_two_eq_zero_or_one j with e | e
      · rw [show j / 2 * 2 = j by omega] at h2
        rw [h2.1, e]; rfl
      · rw [show j / 2 * 2 + 1 = j by omega] at h2
        rw [h2.2, e]; rfl
    · rw [List.getElem?_eq_none (by rw [cellsOf_len]; omega), List.getElem?_eq_none (by rw [cellsL_len]; simp; omega)]
  unfold LdRow at h
  rw [e] at h
  unfold OwnL
  rwa [List.length_replicate]
section
variable {w W W' : World} {z b6 qb N : Nat} {s : Stk} {v : Nat → Value} {L : Nat → List (Nat × Nat)} {ok : Bool} {r : Nat → Value} {o : Value}
theorem LI.keptN (h : LI w W z b6 qb s N v L ok r o) {row : Option Nat} (hg : W.grownBy W' row) (hr : ∀ g, row = some g → z ≤ g ∧ ∃ o : Obj, W.heap[g]? = some o ∧ o.isCells = false) : LI w W' z b6 qb s N v L ok r o := by
  have hr' := fun g e => (hr g e).2
  refine ⟨h.below.trans ⟨hg.os, hg.tape, hg.output, hg.size, fun k hk => hg.block k (by have := Blk.lt h.pile; omega) (fun e => by have := (hr k e.symm).1; omega)⟩, Blk.keptN h.pile hg hr', h.outb.keptN hg hr', h.sc.keptN hg hr', h.row.keptN hg hr', h.onb.keptN hg hr', h.qbx.keptN hg hr', fun k hk => ownN (h.own k hk) hg hr', h.sep, h.okl, h.hb⟩
theorem LI.setOut (h : LI w W z b6 qb s N v L ok r o) : LI w (W.setCell ⟨z + 1, 0, none⟩ (.slice (some ⟨z + 3, 0, none⟩) s.nt s.nt)) z b6 qb s N v L ok r o := by
  have hh := h.hb
  have hg := grownBy_setC W (z + 1) 0 (.slice (some ⟨z + 3, 0, none⟩) s.nt s.nt)
  refine ⟨h.below.setCell (p := ⟨z + 1, 0, none⟩) (by simp only []; omega) _, Blk.far h.pile (p := ⟨z + 1, 0, none⟩) (by simp only []; omega) _, ?_, h.sc.far (p := ⟨z + 1, 0, none⟩) (by simp only []; omega) _, h.row.far (p := ⟨z + 1, 0, none⟩) (by simp only []; omega) _, h.onb.far (p := ⟨z + 1, 0, none⟩) (by simp only []; omega) _, h.qbx.far (p := ⟨z + 1, 0, none⟩) (by simp only []; omega) _, ?_, h.sep, h.okl, h.hb⟩
  · simpa using h.outb.set_ 0 (.slice (some ⟨z + 3, 0, none⟩) s.nt s.nt)
  · intro k hk
    exact (h.own k hk).kept hg (fun g e => by cases e; exact (h.own k hk).other h.outb (by decide))
theorem LI.congr (h : LI w W z b6 qb s N v L ok r o) {L' : Nat → List (Nat × Nat)} {r' : Nat → Value} (hL : ∀ k, k < N → L k = L' k) (hr : ∀ k, k < s.nt → r k = r' k) : LI w W z b6 qb s N v L' ok r' o := by
  refine ⟨h.below, h.pile, h.outb, h.sc, ?_, h.onb, h.qbx, fun k hk => hL k hk ▸ h.own k hk, h.sep, fun k hk => hL k hk ▸ h.okl k hk, h.hb⟩
  rw [← rowV_same s.nt r r' hr]; exact h.row
theorem LI.kp (h : LI w W z b6 qb s N v L ok r o) {N' : Nat} {v' : Nat → Value} {L' : Nat → List (Nat × Nat)} {ok' : Bool} {r' : Nat → Value} {o' : Value} (h' : LI w W' z b6 qb s N' v' L' ok' r' o') (hz : W.heap.size ≤ W'.heap.size) : KpB z qb W W' :=
  ⟨⟨h'.below.os.trans h.below.os.symm, h'.below.tape.trans h.below.tape.symm, h'.below.output.trans h.below.output.symm, hz, fun k hk => (h'.below.block k hk).trans (h.below.block k hk).symm⟩, h'.qbx.trans h.qbx.symm⟩
end
theorem LI.start {w W1 W2 : World} {b6 qb m : Nat} {s : Stk} {x : Value} (hb : Below w.heap.size w W2) (h0 : PileB W2 w.heap.size s) (h1 : Blk W2 (w.heap.size + 1) 64 #[.slice (some ⟨w.heap.size + 3, 0, none⟩) s.nt s.nt])
    (h2 : Blk W2 (w.heap.size + 1 + 1) 176 #[.bool (!true)]) (h3 : Blk W2 (w.heap.size + 3) 65 (rowV s.nt (fun _ => .slice none 0 0))) (h4 : Blk W2 b6 65 #[x]) (h5 : Blk W2 qb 53 #[.slice s.A s.nt s.cap])
    (ho : OwnL W2 w.heap.size x (List.replicate m (0, 1))) (hq : w.heap.size + 3 < b6 ∧ b6 < qb) :
    LI w W2 w.heap.size b6 qb s (s.nt + 1) (upd (fun _ => .slice none 0 0) s.nt x) (ld0 s m).1 true (upd (fun _ => .slice none 0 0) s.nt x) (upd (fun _ => .slice none 0 0) s.nt x s.nt) := by
  refine ⟨hb, h0, h1, h2, ?_, by rw [upd_same]; exact h4, h5, ?_, ?_, ?_, hq⟩
  · rwa [rowV_same s.nt (upd (fun _ => .slice none 0 0) s.nt x) (fun _ => .slice none 0 0) (fun k hk => upd_ne _ _ (by omega))]
  · intro k hk
    unfold ld0
    by_cases e : k = s.nt
    · subst e; rw [upd_same]; simpa using ho
    · rw [upd_ne _ _ e]; simp only [if_neg e]; exact OwnL.nil _ _
  · intro j k g hj hk hjk hjg
    by_cases ej : j = s.nt
    · rw [upd_ne _ _ (by omega)]; simp [Value.ownBlock]
    · rw [upd_ne _ _ ej] at hjg; simp [Value.ownBlock] at hjg
  · intro k hk y hy
    unfold ld0 at hy
    by_cases e : k = s.nt
    · simp only [if_pos e] at hy; rw [(List.mem_replicate.1 hy).2]; exact LdOk_zero
    · simp [e] at hy
theorem Blk.off {W W' : World} {g sc : Nat} {t : TypeId} {cs : Array Value} {k : Bool} (h : Blk W g t cs) (hg : g ≠ sc) (hb : Below W.heap.size (offW W sc k) W') : Blk W' g t cs := by
  have h1 : Blk (offW W sc k) g t cs := by
    unfold offW; split
    · exact h
    · exact h.far (p := ⟨sc, 0, none⟩) hg _
  exact h1.ext (by rw [size_offW]; exact hb)
theorem keepsOff (W W' : World) (sc : Nat) (k : Bool) (hb : Below W.heap.size (offW W sc k) W') : KeepsOthers W W' := by
  have h1 : KeepsOthers W (offW W sc k) := by
    unfold offW; split
    · exact KeepsOthers.refl _
    · exact KeepsOthers.setCell _ _ _
  exact h1.trans (keepsO (by rw [size_offW]; exact hb))
/-- what a round over the cells of a brick keeps: g: the brick's box, g + 1: the load's, g + 3: the box of the walk over the cells -/
structure InI (w W4 W : World) (z b6 qb g n1 : Nat) (s : Stk) (N : Nat) (v : Nat → Value) (L : Nat → List (Nat × Nat)) (r : Nat → Value) (o : Value) (t k : Nat) (st : (Nat × Nat) × Bool) : Prop where
  li : LI w W z b6 qb s N v L st.2 r o
  box : Blk W (g + 1) 76 #[.int .i64 st.1.1, .int .i64 st.1.2]
  brk : Blk W g 59 #[.int .i64 t, .int .i64 k]
  qbk : Blk W (g + 1 + 1 + 1) 59 #[.int .i64 t, .int .i64 k]
  kf : KeepsFrom n1 W4 W
  ldo : LdOk st.1
section
variable {w W4 W W5 : World} {z b6 qb g n1 N : Nat} {s : Stk} {v : Nat → Value} {L : Nat → List (Nat × Nat)} {r : Nat → Value} {o : Value} {t k : Nat} {st : (Nat × Nat) × Bool}
theorem InI.keptN (h : InI w W4 W z b6 qb g n1 s N v L r o t k st) {row : Option Nat} (hg : W.grownBy W5 row) (hr : ∀ r, row = some r → W4.heap.size ≤ r ∧ ∃ o : Obj, W.heap[r]? = some o ∧ o.isCells = false) (hz : z ≤ W4.heap.size) : InI w W4 W5 z b6 qb g n1 s N v L r o t k st := by
  have hr' := fun r e => (hr r e).2
  exact ⟨h.li.keptN hg (fun r e => ⟨by have := (hr r e).1; omega, (hr r e).2⟩), h.box.keptN hg hr', h.brk.keptN hg hr', h.qbk.keptN hg hr', ownFrom_keepsFrom (Nat.le_refl _) () W W5 row h.kf hg hr, h.ldo⟩
theorem InI.step (h : InI w W4 W z b6 qb g n1 s N v L r o t k st) (hf : Far z b6 qb N v (g + 1)) (hz : z + 3 < g) {on : List (Nat × Nat)} (ho : ∀ x ∈ on, LdOk x) (c : Nat)
    (hb : Below W.drew.heap.size (offW W.drew (z + 1 + 1) (fitP (lowP (addN st.1 (on.getD c (0, 1))) (addD st.1 (on.getD c (0, 1)))))) W5) :
    KeepsOthers W ((W5.setCell ⟨g + 1, 0, none⟩ (.int .i64 (addSt on st c).1.1)).setCell ⟨g + 1, 1, none⟩ (.int .i64 (addSt on st c).1.2)) ∧
    KpB z (g + 1 + 1 + 1) W ((W5.setCell ⟨g + 1, 0, none⟩ (.int .i64 (addSt on st c).1.1)).setCell ⟨g + 1, 1, none⟩ (.int .i64 (addSt on st c).1.2)) ∧
    InI w W4 ((W5.setCell ⟨g + 1, 0, none⟩ (.int .i64 (addSt on st c).1.1)).setCell ⟨g + 1, 1, none⟩ (.int .i64 (addSt on st c).1.2)) z b6 qb g n1 s N v L r o t k (addSt on st c) := by
  have l1 := ((h.li.ext (Below.refl W.heap.size W).drew).scaled _ hb)
  have l2 := (l1.set hf 0 (.int .i64 (addSt on st c).1.1)).set hf 1 (.int .i64 (addSt on st c).1.2)
  have b1 : Blk W5 (g + 1) _ _ := h.box.drew.off (by omega) hb
  have b0 : Blk W5 g _ _ := h.brk.drew.off (by omega) hb
  have b3 : Blk W5 (g + 1 + 1 + 1) _ _ := h.qbk.drew.off (by omega) hb
  have k1 : KeepsOthers W ((W5.setCell ⟨g + 1, 0, none⟩ (.int .i64 (addSt on st c).1.1)).setCell ⟨g + 1, 1, none⟩ (.int .i64 (addSt on st c).1.2)) := (((keepsO (Below.refl W.heap.size W).drew).trans (keepsOff _ _ _ _ hb)).trans (KeepsOthers.setCell _ _ _)).trans (KeepsOthers.setCell _ _ _)
  have b3' := (b3.far (p := ⟨g + 1, 0, none⟩) (by simp only []; omega) (.int .i64 (addSt on st c).1.1)).far (p := ⟨g + 1, 1, none⟩) (by simp only []; omega) (.int .i64 (addSt on st c).1.2)
  refine ⟨k1, ⟨(h.li.kp l2 k1.size).1, b3'.trans h.qbk.symm⟩, l2, b1.set2 _ _, (b0.far (p := ⟨g + 1, 0, none⟩) (by simp only []; omega) _).far (p := ⟨g + 1, 1, none⟩) (by simp only []; omega) _, b3', h.kf.trans (k1.from _), addSt_ok on st c h.ldo ho⟩
end
end Go.Proofs.Ytlhekifmkkgjlaa
