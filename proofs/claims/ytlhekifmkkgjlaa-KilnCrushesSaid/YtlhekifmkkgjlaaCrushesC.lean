/- The loads of a pile: what they are. -/
import Derived.Test.YtlhekifmkkgjlaaCrushesB
import Derived.OrdersIn
import Derived.OrdersHeld
import Derived.RangeFuncCalls
import Derived.Deep.AppendLies
import Derived.TacticsIn
set_option linter.unusedSimpArgs false
set_option linter.unusedVariables false
set_option linter.unnecessarySimpa false
namespace Go.Proofs.Ytlhekifmkkgjlaa
open Go Go.RowKit Go.Shelf
attribute [local go_sem] Oper.semAt_some
set_option maxHeartbeats 1000000
/-- a load and the load of a cell above it; whether no number was too great -/
def addSt (on : List (Nat × Nat)) (st : (Nat × Nat) × Bool) (c : Nat) : (Nat × Nat) × Bool :=
  (lowS (addN st.1 (on.getD c (0, 1))) (addD st.1 (on.getD c (0, 1))), st.2 && fitP (lowP (addN st.1 (on.getD c (0, 1))) (addD st.1 (on.getD c (0, 1)))))
/-- what lies on a brick -/
def onBrk (s : Stk) (t i : Nat) (on : List (Nat × Nat)) (ok : Bool) : (Nat × Nat) × Bool := (cellsTo (s.cf t) i (s.cn t)).foldl (addSt on) ((0, 1), ok)
def wtP (s : Stk) (t i : Nat) : Nat × Nat := ((s.wf t i).toNat, 1)
/-- with its own weight -/
def dnBrk (s : Stk) (t i : Nat) (x : Nat × Nat) : Nat × Nat := lowS (addN x (wtP s t i)) (addD x (wtP s t i))
def dnOk (s : Stk) (t i : Nat) (x : Nat × Nat) : Bool := fitP (lowP (addN x (wtP s t i)) (addD x (wtP s t i)))
/-- what it lays on each cell that it rests on -/
def shBrk (s : Stk) (t i : Nat) (x : Nat × Nat) : Nat × Nat := lowS x.1 (x.2 * (restL s t i).length)
def shOk (s : Stk) (t i : Nat) (x : Nat × Nat) : Bool := fitP (lowP x.1 (x.2 * (restL s t i).length))
def layOn (l : List (Nat × Nat)) (cs : List Nat) (x : Nat × Nat) : List (Nat × Nat) := cs.foldl (fun l k => l.set k x) l
def brkSt (s : Stk) (t : Nat) (on : List (Nat × Nat)) (st : List (Nat × Nat) × List (Nat × Nat) × Bool) (i : Nat) : List (Nat × Nat) × List (Nat × Nat) × Bool :=
  (layOn st.1 (restL s t i) (shBrk s t i (dnBrk s t i (onBrk s t i on st.2.2).1)), st.2.1 ++ [(onBrk s t i on st.2.2).1],
    ((onBrk s t i on st.2.2).2 && dnOk s t i (onBrk s t i on st.2.2).1) && shOk s t i (dnBrk s t i (onBrk s t i on st.2.2).1))
def tierR (s : Stk) (m t : Nat) (on l : List (Nat × Nat)) (ok : Bool) (k : Nat) : List (Nat × Nat) × List (Nat × Nat) × Bool := (List.range k).foldl (brkSt s t on) (List.replicate m (0, 1), l, ok)
theorem tierR_succ (s : Stk) (m t : Nat) (on l : List (Nat × Nat)) (ok : Bool) (k : Nat) : tierR s m t on l ok (k + 1) = brkSt s t on (tierR s m t on l ok k) k := by
  simp [tierR, List.range_succ, List.foldl_append]
def tierSt (s : Stk) (m : Nat) (st : (Nat → List (Nat × Nat)) × Bool) (t : Nat) : (Nat → List (Nat × Nat)) × Bool :=
  (upd (upd st.1 t (tierR s m t (st.1 s.nt) (st.1 t) st.2 (s.wn t)).2.1) s.nt (tierR s m t (st.1 s.nt) (st.1 t) st.2 (s.wn t)).1, (tierR s m t (st.1 s.nt) (st.1 t) st.2 (s.wn t)).2.2)
def ld0 (s : Stk) (m : Nat) : (Nat → List (Nat × Nat)) × Bool := (fun k => if k = s.nt then List.replicate m (0, 1) else [], true)
def loadsF (s : Stk) (m : Nat) (ts : List Nat) : (Nat → List (Nat × Nat)) × Bool := ts.foldl (tierSt s m) (ld0 s m)
theorem loadsF_append (s : Stk) (m : Nat) (ts : List Nat) (t : Nat) : loadsF s m (ts ++ [t]) = tierSt s m (loadsF s m ts) t := by simp [loadsF, List.foldl_append]
theorem layOn_len (l : List (Nat × Nat)) (cs : List Nat) (x : Nat × Nat) : (layOn l cs x).length = l.length := by
  unfold layOn
  induction cs generalizing l with
  | nil => rfl
  | cons c cs ih => rw [List.foldl_cons, ih, List.length_set]
theorem brkSt_len (s : Stk) (t : Nat) (on : List (Nat × Nat)) (st : List (Nat × Nat) × List (Nat × Nat) × Bool) (i : Nat) : (brkSt s t on st i).1.length = st.1.length := layOn_len ..
theorem tierR_len (s : Stk) (m t : Nat) (on l : List (Nat × Nat)) (ok : Bool) (k : Nat) : (tierR s m t on l ok k).1.length = m := by
  induction k with
  | zero => simp [tierR]
  | succ k ih => rw [tierR_succ, brkSt_len, ih]
theorem loadsF_len (s : Stk) (m : Nat) (ts : List Nat) : ((loadsF s m ts).1 s.nt).length = m := by
  rcases List.eq_nil_or_concat ts with rfl | ⟨l, t, rfl⟩
  · simp [loadsF, ld0]
  · rw [List.concat_eq_append, loadsF_append]
    simp only [tierSt, upd_same]
    exact tierR_len ..
theorem tierR_cnt (s : Stk) (m t : Nat) (on l : List (Nat × Nat)) (ok : Bool) (k : Nat) : (tierR s m t on l ok k).2.1.length = l.length + k := by
  induction k with
  | zero => rfl
  | succ k ih => rw [tierR_succ]; simp [brkSt, ih]; omega
theorem LdOk_zero : LdOk (0, 1) := ⟨by simp, by simp, by simp⟩
theorem addSt_ok (on : List (Nat × Nat)) (st : (Nat × Nat) × Bool) (c : Nat) (h : LdOk st.1) (ho : ∀ x ∈ on, LdOk x) : LdOk (addSt on st c).1 := by
  refine lowS_ok _ _ (Nat.mul_pos h.2.1 ?_)
  rw [List.getD_eq_getElem?_getD]
  cases hc : on[c]? with
  | none => simp
  | some x => exact (ho x (List.mem_of_getElem? hc)).2.1
theorem getD_ok {on : List (Nat × Nat)} (ho : ∀ x ∈ on, LdOk x) (c : Nat) : LdOk (on.getD c (0, 1)) := by
  rw [List.getD_eq_getElem?_getD]
  cases hc : on[c]? with
  | none => exact LdOk_zero
  | some x => exact ho x (List.mem_of_getElem? hc)
theorem layOn_ok {l : List (Nat × Nat)} (h : ∀ x ∈ l, LdOk x) (cs : List Nat) {x : Nat × Nat} (hx : LdOk x) : ∀ y ∈ layOn l cs x, LdOk y := by
  unfold layOn
  induction cs generalizing l with
  | nil => exact h
  | cons c cs ih =>
    rw [List.foldl_cons]
    exact ih (fun y hy => (List.mem_or_eq_of_mem_set hy).elim (fun h1 => h y h1) (fun h1 => h1 ▸ hx))
theorem own_zero {W : World} {n0 n : Nat} {v : Value} (h : LdRow W n0 v n (fun _ => (0, 1))) : OwnL W n0 v (List.replicate n (0, 1)) := by
  have e : cellsOf 2 n (fun k i => if i = 0 then Value.int .i64 ((((fun _ => (0, 1)) : Nat → Nat × Nat) k).1 : Nat) else .int .i64 ((((fun _ => (0, 1)) : Nat → Nat × Nat) k).2 : Nat)) = cellsL (List.replicate n (0, 1)) := by
    apply List.ext_getElem?
    intro j
    by_cases hj : j < n * 2
    · have h1 := cellsOf_get 2 n (fun k i => if i = 0 then Value.int .i64 ((((fun _ => (0, 1)) : Nat → Nat × Nat) k).1 : Nat) else .int .i64 ((((fun _ => (0, 1)) : Nat → Nat × Nat) k).2 : Nat)) (j / 2) (j % 2) (by omega) (by omega)
      have h2 := cellsL_get (List.replicate n (0, 1)) (j / 2) (by simp; omega)
      have h3 : (List.replicate n ((0, 1) : Nat × Nat)).getD (j / 2) (0, 1) = (0, 1) := by
        rw [List.getD_eq_getElem?_getD, List.getElem?_replicate]; split <;> rfl
      rw [h3] at h2
      rw [show j / 2 * 2 + j % 2 = j by omega] at h1
      rw [h1]
      rcases Nat.mod_two_eq_zero_or_one j with e | e
      · rw [show j / 2 * 2 = j by omega] at h2
        rw [h2.1, e]; rfl
      · rw [show j / 2 * 2 + 1 = j by omega] at h2
        rw [h2.2, e]; rfl
    · rw [List.getElem?_eq_none (by rw [cellsOf_len]; omega), List.getElem?_eq_none (by rw [cellsL_len]; simp; omega)]
  unfold LdRow at h
  rw [e] at h
  unfold OwnL
  rwa [List.length_replicate]
section
variable {w W W' : World} {z b6 qb N : Nat} {s : Stk} {v : Nat → Value} {L : Nat → List (Nat × Nat)} {ok : Bool} {r : Nat → Value} {o : Value}
theorem LI.keptN (h : LI w W z b6 qb s N v L ok r o) {row : Option Nat} (hg : W.grownBy W' row) (hr : ∀ g, row = some g → z ≤ g ∧ ∃ o : Obj, W.heap[g]? = some o ∧ o.isCells = false) : LI w W' z b6 qb s N v L ok r o := by
  have hr' := fun g e => (hr g e).2
  refine ⟨h.below.trans ⟨hg.os, hg.tape, hg.output, hg.size, fun k hk => hg.block k (by have := Blk.lt h.pile; omega) (fun e => by have := (hr k e.symm).1; omega)⟩, Blk.keptN h.pile hg hr', h.outb.keptN hg hr', h.sc.keptN hg hr', h.row.keptN hg hr', h.onb.keptN hg hr', h.qbx.keptN hg hr', fun k hk => ownN (h.own k hk) hg hr', h.sep, h.okl, h.hb⟩
theorem LI.setOut (h : LI w W z b6 qb s N v L ok r o) : LI w (W.setCell ⟨z + 1, 0, none⟩ (.slice (some ⟨z + 3, 0, none⟩) s.nt s.nt)) z b6 qb s N v L ok r o := by
  have hh := h.hb
  have hg := grownBy_setC W (z + 1) 0 (.slice (some ⟨z + 3, 0, none⟩) s.nt s.nt)
  refine ⟨h.below.setCell (p := ⟨z + 1, 0, none⟩) (by simp only []; omega) _, Blk.far h.pile (p := ⟨z + 1, 0, none⟩) (by simp only []; omega) _, ?_, h.sc.far (p := ⟨z + 1, 0, none⟩) (by simp only []; omega) _, h.row.far (p := ⟨z + 1, 0, none⟩) (by simp only []; omega) _, h.onb.far (p := ⟨z + 1, 0, none⟩) (by simp only []; omega) _, h.qbx.far (p := ⟨z + 1, 0, none⟩) (by simp only []; omega) _, ?_, h.sep, h.okl, h.hb⟩
  · simpa using h.outb.set_ 0 (.slice (some ⟨z + 3, 0, none⟩) s.nt s.nt)
  · intro k hk
    exact (h.own k hk).kept hg (fun g e => by cases e; exact (h.own k hk).other h.outb (by decide))
theorem LI.congr (h : LI w W z b6 qb s N v L ok r o) {L' : Nat → List (Nat × Nat)} {r' : Nat → Value} (hL : ∀ k, k < N → L k = L' k) (hr : ∀ k, k < s.nt → r k = r' k) : LI w W z b6 qb s N v L' ok r' o := by
  refine ⟨h.below, h.pile, h.outb, h.sc, ?_, h.onb, h.qbx, fun k hk => hL k hk ▸ h.own k hk, h.sep, fun k hk => hL k hk ▸ h.okl k hk, h.hb⟩
  rw [← rowV_same s.nt r r' hr]; exact h.row
theorem LI.kp (h : LI w W z b6 qb s N v L ok r o) {N' : Nat} {v' : Nat → Value} {L' : Nat → List (Nat × Nat)} {ok' : Bool} {r' : Nat → Value} {o' : Value} (h' : LI w W' z b6 qb s N' v' L' ok' r' o') (hz : W.heap.size ≤ W'.heap.size) : KpB z qb W W' :=
  ⟨⟨h'.below.os.trans h.below.os.symm, h'.below.tape.trans h.below.tape.symm, h'.below.output.trans h.below.output.symm, hz, fun k hk => (h'.below.block k hk).trans (h.below.block k hk).symm⟩, h'.qbx.trans h.qbx.symm⟩
end
theorem LI.start {w W1 W2 : World} {b6 qb m : Nat} {s : Stk} {x : Value} (hb : Below w.heap.size w W2) (h0 : PileB W2 w.heap.size s) (h1 : Blk W2 (w.heap.size + 1) 64 #[.slice (some ⟨w.heap.size + 3, 0, none⟩) s.nt s.nt])
    (h2 : Blk W2 (w.heap.size + 1 + 1) 176 #[.bool (!true)]) (h3 : Blk W2 (w.heap.size + 3) 65 (rowV s.nt (fun _ => .slice none 0 0))) (h4 : Blk W2 b6 65 #[x]) (h5 : Blk W2 qb 53 #[.slice s.A s.nt s.cap])
    (ho : OwnL W2 w.heap.size x (List.replicate m (0, 1))) (hq : w.heap.size + 3 < b6 ∧ b6 < qb) :
    LI w W2 w.heap.size b6 qb s (s.nt + 1) (upd (fun _ => .slice none 0 0) s.nt x) (ld0 s m).1 true (upd (fun _ => .slice none 0 0) s.nt x) (upd (fun _ => .slice none 0 0) s.nt x s.nt) := by
  refine ⟨hb, h0, h1, h2, ?_, by rw [upd_same]; exact h4, h5, ?_, ?_, ?_, hq⟩
  · rwa [rowV_same s.nt (upd (fun _ => .slice none 0 0) s.nt x) (fun _ => .slice none 0 0) (fun k hk => upd_ne _ _ (by omega))]
  · intro k hk
    unfold ld0
    by_cases e : k = s.nt
    · subst e; rw [upd_same]; simpa using ho
    · rw [upd_ne _ _ e]; simp only [if_neg e]; exact OwnL.nil _ _
  · intro j k g hj hk hjk hjg
    by_cases ej : j = s.nt
    · rw [upd_ne _ _ (by omega)]; simp [Value.ownBlock]
    · rw [upd_ne _ _ ej] at hjg; simp [Value.ownBlock] at hjg
  · intro k hk y hy
    unfold ld0 at hy
    by_cases e : k = s.nt
    · simp only [if_pos e] at hy; rw [(List.mem_replicate.1 hy).2]; exact LdOk_zero
    · simp [e] at hy
theorem Blk.off {W W' : World} {g sc : Nat} {t : TypeId} {cs : Array Value} {k : Bool} (h : Blk W g t cs) (hg : g ≠ sc) (hb : Below W.heap.size (offW W sc k) W') : Blk W' g t cs := by
  have h1 : Blk (offW W sc k) g t cs := by
    unfold offW; split
    · exact h
    · exact h.far (p := ⟨sc, 0, none⟩) hg _
  exact h1.ext (by rw [size_offW]; exact hb)
theorem keepsOff (W W' : World) (sc : Nat) (k : Bool) (hb : Below W.heap.size (offW W sc k) W') : KeepsOthers W W' := by
  have h1 : KeepsOthers W (offW W sc k) := by
    unfold offW; split
    · exact KeepsOthers.refl _
    · exact KeepsOthers.setCell _ _ _
  exact h1.trans (keepsO (by rw [size_offW]; exact hb))
/-- what a round over the cells of a brick keeps: g: the brick's box, g + 1: the load's, g + 3: the box of the walk over the cells -/
structure InI (w W4 W : World) (z b6 qb g n1 : Nat) (s : Stk) (N : Nat) (v : Nat → Value) (L : Nat → List (Nat × Nat)) (r : Nat → Value) (o : Value) (t k : Nat) (st : (Nat × Nat) × Bool) : Prop where
  li : LI w W z b6 qb s N v L st.2 r o
  box : Blk W (g + 1) 76 #[.int .i64 st.1.1, .int .i64 st.1.2]
  brk : Blk W g 59 #[.int .i64 t, .int .i64 k]
  qbk : Blk W (g + 1 + 1 + 1) 59 #[.int .i64 t, .int .i64 k]
  kf : KeepsFrom n1 W4 W
  ldo : LdOk st.1
section
variable {w W4 W W5 : World} {z b6 qb g n1 N : Nat} {s : Stk} {v : Nat → Value} {L : Nat → List (Nat × Nat)} {r : Nat → Value} {o : Value} {t k : Nat} {st : (Nat × Nat) × Bool}
theorem InI.keptN (h : InI w W4 W z b6 qb g n1 s N v L r o t k st) {row : Option Nat} (hg : W.grownBy W5 row) (hr : ∀ r, row = some r → W4.heap.size ≤ r ∧ ∃ o : Obj, W.heap[r]? = some o ∧ o.isCells = false) (hz : z ≤ W4.heap.size) : InI w W4 W5 z b6 qb g n1 s N v L r o t k st := by
  have hr' := fun r e => (hr r e).2
  exact ⟨h.li.keptN hg (fun r e => ⟨by have := (hr r e).1; omega, (hr r e).2⟩), h.box.keptN hg hr', h.brk.keptN hg hr', h.qbk.keptN hg hr', ownFrom_keepsFrom (Nat.le_refl _) () W W5 row h.kf hg hr, h.ldo⟩
theorem InI.step (h : InI w W4 W z b6 qb g n1 s N v L r o t k st) (hf : Far z b6 qb N v (g + 1)) (hz : z + 3 < g) {on : List (Nat × Nat)} (ho : ∀ x ∈ on, LdOk x) (c : Nat)
    (hb : Below W.drew.heap.size (offW W.drew (z + 1 + 1) (fitP (lowP (addN st.1 (on.getD c (0, 1))) (addD st.1 (on.getD c (0, 1)))))) W5) :
    KeepsOthers W ((W5.setCell ⟨g + 1, 0, none⟩ (.int .i64 (addSt on st c).1.1)).setCell ⟨g + 1, 1, none⟩ (.int .i64 (addSt on st c).1.2)) ∧
    KpB z (g + 1 + 1 + 1) W ((W5.setCell ⟨g + 1, 0, none⟩ (.int .i64 (addSt on st c).1.1)).setCell ⟨g + 1, 1, none⟩ (.int .i64 (addSt on st c).1.2)) ∧
    InI w W4 ((W5.setCell ⟨g + 1, 0, none⟩ (.int .i64 (addSt on st c).1.1)).setCell ⟨g + 1, 1, none⟩ (.int .i64 (addSt on st c).1.2)) z b6 qb g n1 s N v L r o t k (addSt on st c) := by
  have l1 := ((h.li.ext (Below.refl W.heap.size W).drew).scaled _ hb)
  have l2 := (l1.set hf 0 (.int .i64 (addSt on st c).1.1)).set hf 1 (.int .i64 (addSt on st c).1.2)
  have b1 : Blk W5 (g + 1) _ _ := h.box.drew.off (by omega) hb
  have b0 : Blk W5 g _ _ := h.brk.drew.off (by omega) hb
  have b3 : Blk W5 (g + 1 + 1 + 1) _ _ := h.qbk.drew.off (by omega) hb
  have k1 : KeepsOthers W ((W5.setCell ⟨g + 1, 0, none⟩ (.int .i64 (addSt on st c).1.1)).setCell ⟨g + 1, 1, none⟩ (.int .i64 (addSt on st c).1.2)) := (((keepsO (Below.refl W.heap.size W).drew).trans (keepsOff _ _ _ _ hb)).trans (KeepsOthers.setCell _ _ _)).trans (KeepsOthers.setCell _ _ _)
  have b3' := (b3.far (p := ⟨g + 1, 0, none⟩) (by simp only []; omega) (.int .i64 (addSt on st c).1.1)).far (p := ⟨g + 1, 1, none⟩) (by simp only []; omega) (.int .i64 (addSt on st c).1.2)
  refine ⟨k1, ⟨(h.li.kp l2 k1.size).1, b3'.trans h.qbk.symm⟩, l2, b1.set2 _ _, (b0.far (p := ⟨g + 1, 0, none⟩) (by simp only []; omega) _).far (p := ⟨g + 1, 1, none⟩) (by simp only []; omega) _, b3', h.kf.trans (k1.from _), addSt_ok on st c h.ldo ho⟩
end
end Go.Proofs.Ytlhekifmkkgjlaa
/- The loads of a pile: small words for the walk. -/
namespace Go.Proofs.Ytlhekifmkkgjlaa
open Go Go.RowKit Go.Shelf
set_option maxHeartbeats 400000
theorem upd_upd {α : Type} (v : Nat → α) (t : Nat) (a b : α) : upd (upd v t a) t b = upd v t b := by
  funext k; unfold upd; split <;> rfl
theorem grown_off {W W' : World} {sc : Nat} {k : Bool} (hb : Below W.heap.size (offW W sc k) W') : W.grownBy W' (some sc) := by
  have h1 : W.grownBy (offW W sc k) (some sc) := by
    unfold offW; split
    · exact World.grownBy.refl _ _
    · exact grownBy_setC W sc 0 _
  exact ⟨hb.os.trans h1.os, hb.tape.trans h1.tape, hb.output.trans h1.output, by have := hb.size; rw [size_offW] at this; exact this, fun j hj hne => (hb.block j hj).trans (h1.block j hj hne)⟩
theorem own_far {W W' : World} {base : Nat} {e : TypeId} {size k sc : Nat} {v : Value} {xs : List Value} (h : W.ownsRow base e size v k xs) (hg : W.grownBy W' (some sc)) (hs : sc < base) : W'.ownsRow base e size v k xs := by
  refine World.ownsRow.kept h hg ?_
  cases hv : v.ownBlock with
  | none => exact .inl rfl
  | some b => exact .inr (fun e => by
      have h1 := World.ownsRow.lt h b hv
      injection e with e
      omega)
theorem own_at {W : World} {base : Nat} {e : TypeId} {A : Option Addr} {n c : Nat} {xs : List Value} (h : W.ownsRow base e 1 (.slice A n c) n xs) {j : Nat} (hj : j < n) :
    ∃ g u, A = some ⟨g, 0, none⟩ ∧ base ≤ g ∧ g < W.heap.size ∧ xs[j]? = some u ∧ W.cell? ⟨g, j, none⟩ = some u := by
  obtain ⟨g, cap, hv, hb, hlt⟩ := h.form (by omega)
  have hA : A = some ⟨g, 0, none⟩ := by injection hv
  subst hA
  have hl : j < xs.length := by have := h.1; omega
  refine ⟨g, xs[j], rfl, hb, hlt, List.getElem?_eq_getElem hl, ?_⟩
  have := h.cells (g := g) rfl j _ (List.getElem?_eq_getElem hl)
  rwa [add_lit', Nat.zero_add] at this
theorem restL_lt {s : Stk} {t : Nat} {b : Int} {c : Nat} (h : c ∈ restL s t b) : c < s.cn t := by
  have h1 := (List.mem_filter.1 h).1
  have h2 := (List.mem_filter.1 h1).1
  simpa using h2
theorem layOn_take {l : List (Nat × Nat)} {cs : List Nat} {x : Nat × Nat} {j c : Nat} (h : cs[j]? = some c) : layOn l (cs.take (j + 1)) x = (layOn l (cs.take j) x).set c x := by
  obtain ⟨hj, e⟩ := List.getElem?_eq_some_iff.1 h
  rw [List.take_succ_eq_append_getElem hj, e]
  simp [layOn, List.foldl_append]
theorem tierSt_bound (s : Stk) (m M B : Nat) (hm : m ≤ M) (st : (Nat → List (Nat × Nat)) × Bool) (t : Nat) (ht : s.wn t ≤ M) (h : ∀ j, (st.1 j).length ≤ B) (hB : M ≤ B + M) (j : Nat) : ((tierSt s m st t).1 j).length ≤ B + M := by
  show (upd (upd st.1 t (tierR s m t (st.1 s.nt) (st.1 t) st.2 (s.wn t)).2.1) s.nt (tierR s m t (st.1 s.nt) (st.1 t) st.2 (s.wn t)).1 j).length ≤ B + M
  have h1 := h j
  have h2 := h t
  have h3 := tierR_len s m t (st.1 s.nt) (st.1 t) st.2 (s.wn t)
  have h4 := tierR_cnt s m t (st.1 s.nt) (st.1 t) st.2 (s.wn t)
  unfold upd
  split
  · omega
  · split
    · omega
    · omega
theorem loadsF_bound (s : Stk) (m M : Nat) (hm : m ≤ M) (n : Nat) : ∀ (ts : List Nat), ts.length = n → (∀ t ∈ ts, s.wn t ≤ M) → ∀ j, ((loadsF s m ts).1 j).length ≤ (n + 1) * M := by
  induction n with
  | zero =>
    intro ts hn _ j
    obtain rfl := List.eq_nil_of_length_eq_zero hn
    simp only [loadsF, List.foldl_nil, ld0]
    split
    · simp; omega
    · simp
  | succ n ih =>
    intro ts hn hw j
    rcases List.eq_nil_or_concat ts with rfl | ⟨ts, t, rfl⟩
    · simp at hn
    rw [List.concat_eq_append] at hn hw ⊢
    rw [loadsF_append]
    have ih' := ih ts (by simpa using hn) (fun t ht => hw t (by simp [ht]))
    have h1 := tierSt_bound s m M _ hm (loadsF s m ts) t (hw t (by simp)) ih' (by omega) j
    refine Nat.le_trans h1 ?_
    rw [Nat.succ_mul (n + 1)]
    exact Nat.le_refl _
theorem cellsL_one' (x : Nat × Nat) : cellsL [x] = [.int .i64 x.1, .int .i64 x.2] := rfl
theorem grown_set2 (W : World) (b i j : Nat) (u v : Value) : W.grownBy ((W.setCell ⟨b, i, none⟩ u).setCell ⟨b, j, none⟩ v) (some b) :=
  ⟨rfl, rfl, rfl, by rw [size_set, size_set]; exact Nat.le_refl _, fun k _ hk => (Below.heap_setCell _ _ _ k (fun e => hk (by rw [e]))).trans (Below.heap_setCell _ _ _ k (fun e => hk (by rw [e])))⟩
theorem keepsGrown {W W' : World} {base : Nat} {e : TypeId} {size k : Nat} {v : Value} {xs : List Value} (h : W.ownsRow base e size v k xs) (hg : W.grownBy W' v.ownBlock) : KeepsOthers W W' := ⟨hg.size, fun j o hj hc => by
  have hlt : j < W.heap.size := by
    rcases Nat.lt_or_ge j W.heap.size with hl | hl
    · exact hl
    · rw [Array.getElem?_eq_none hl] at hj; cases hj
  refine (hg.block j hlt (fun e => ?_)).trans hj
  rcases h.2 with ⟨rfl, -⟩ | ⟨g, cap, cur, rfl, -, hh, -⟩
  · simp [Value.ownBlock] at e
  · have : j = g := by simpa [Value.ownBlock] using e
    subst this
    rw [hh] at hj
    cases hj
    cases hc⟩
end Go.Proofs.Ytlhekifmkkgjlaa
/- A region that draws its order, within a round of a range over a function: loads taken first, under one condition on the world. After the library's laws for activations (OrdersHeld, OrdersIn). -/
namespace Go.Proofs.Ytlhekifmkkgjlaa
open Go Go.RowKit
def noDef (ops : Array Oper) : Bool := ops.all fun o => match o.op with | .defer _ => false | _ => true
theorem noDef_spec {ops : Array Oper} (h : noDef ops = true) {j : Nat} {o : Oper} (hj : ops[j]? = some o) : ∀ c, o.op ≠ .defer c := by
  intro c hc
  obtain ⟨hlt, rfl⟩ := Array.getElem?_eq_some_iff.1 hj
  have := (Array.all_eq_true.1 h) j hlt
  rw [hc] at this
  simp at this
section
variable {F : Fence} {n : Nat} {P : Program} {ops : Array Oper} {Q : Exit → Act → World → Prop} {md : Region.Mode} {S : World → Prop}
theorem YieldsIf.wpOpIn {i : Nat} {o : Oper} {v : Value} {a : Act} (hfn : ∀ f, F.fn f) (hnd : noDef ops = true) (hi : ops[i]? = some o) (hy : YieldsIf P ops S o v a)
    {K : Act → World → Prop} {w : World} (hS : S w) (h : K (a.put o.dst v) w) : wpOpIn F n P ops Q i K a w := by
  unfold Go.wpOpIn
  simp only [hi]
  rcases hy with ⟨hw, hv⟩ | ⟨hw, rfl⟩
  · simp only [hw, if_true, Oper.wpIn, Oper.semAt_eq _ _ _ (noDef_spec hnd hi), hv w hS, Oper.uponIn]; exact ⟨fun f _ => hfn f, h⟩
  · simp only [hw, Bool.false_eq_true, if_false]; exact ⟨fun f _ => hfn f, h⟩
theorem wpOpIn_putJ {j : Nat} {oi oj : Oper} {v : Value} (hnd : noDef ops = true) (hj : ops[j]? = some oj) (hap : oi.apart ops oj = true)
    (hsi : ∀ cs b, oi.op ≠ .select cs b) (hsj : ∀ cs b, oj.op ≠ .select cs b)
    (hQ : ∀ c a w, Q (.panic c) (a.put oi.dst v) w → Q (.panic c) a w) {K : Act → World → Prop} {a : Act} {w : World} (hfn : ∀ f, F.fn f)
    (hy : YieldsIf P ops S oi v a) (h : wpOpIn F n P ops Q j K (a.put oi.dst v) w) :
    wpOpIn F n P ops Q j (fun a' w' => YieldsIf P ops S oi v a' ∧ K (a'.put oi.dst v) w') a w := by
  obtain ⟨h1, h2, h3⟩ := Oper.apart_spec hap
  have hdj := noDef_spec hnd hj
  have keep : ∀ (a : Act), YieldsIf P ops S oi v a → ∀ u, YieldsIf P ops S oi v (a.put oj.dst u) := fun a hy u =>
    hy.of_same (execOp_put oi hsi a oj.dst u h3) (wanted_put oi a oj.dst u h3)
  have keepD : ∀ d, YieldsIf P ops S oi v { a with defers := d :: a.defers } := fun d => hy.of_same rfl rfl
  unfold wpOpIn at *
  simp only [hj] at *
  rw [wanted_put oj a oi.dst v h1] at h
  split
  · rename_i hw
    simp only [hw, if_true] at h
    unfold Oper.wpIn at *
    refine ⟨fun f _ => hfn f, ?_⟩
    have h := h.2
    rw [Oper.semAt_eq _ _ _ hdj, execOp_put oj hsj a oi.dst v h1] at h
    rw [Oper.semAt_eq _ _ _ hdj]
    generalize (execOp a.eval oj).run P w = r at *
    cases r with
    | ok x w' =>
      cases x <;> simp only [Oper.uponIn] at h ⊢
      case value u => exact ⟨keep a hy u, by rw [← Act.put_comm a v u h2]; exact h⟩
      case skip => exact ⟨keep a hy _, by rw [← Act.put_comm a v undef h2]; exact h⟩
      case defer d =>
        refine ⟨keep _ (keepD d) _, ?_⟩
        rw [← Act.put_comm _ v undef h2, ← Act.put_defers]
        exact h
      case enter f args =>
        refine ⟨h.1, CallsIn.mono h.2 fun e w'' he => ?_⟩
        cases e with
        | returned u => exact ⟨keep a hy u, by rw [← Act.put_comm a v u h2]; exact he⟩
        | panicked c => exact hQ _ _ _ he
        | outgrown => exact he
      case row row args => exact ⟨h.1, RowsIn.mono h.2 fun u w'' he => ⟨keep a hy u, by rw [← Act.put_comm a v u h2]; exact he⟩⟩
      case round l f tmps assign body =>
        refine ⟨h.1, RoundIn.mono h.2 fun e w'' he => ?_⟩
        cases e with
        | returned u => exact ⟨keep a hy u, by rw [← Act.put_comm a v u h2]; exact he⟩
        | panicked c => exact hQ _ _ _ he
        | outgrown => exact he
    | halt x w' =>
      cases x <;> simp only [Oper.uponIn] at h ⊢
      case panic u => exact hQ _ _ _ h
  · rename_i hw
    simp only [hw] at h
    exact ⟨fun f _ => hfn f, keep a hy _, by rw [← Act.put_comm a v undef h2]; exact h.2⟩
/-- an operation whose value hangs on no world -/
def pureOp (o : Oper) : Bool := match o.op with | .move _ => true | .assign _ => true | .extract _ _ => true | _ => false
theorem pure_any {ev : Operand → Value} {o : Oper} {v : Value} {w : World} (hp : pureOp o = true) (h : (execOp ev o).run P w = .ok (.value v) w) (w' : World) : (execOp ev o).run P w' = .ok (.value v) w' := by
  unfold pureOp at hp
  unfold execOp at h ⊢
  split at hp
  · simp_all [Sem.run_pure]
  · simp_all [Sem.run_pure]
  · rename_i t ix he
    simp only [he, Instr.extract] at h ⊢
    split at h
    · split at h
      · rename_i u hu
        simp_all [Sem.run_pure, Sem.run_bind, Result.andThen_ok]
      · simp [stuck, Sem.run_bind, Sem.run_halt, Result.andThen_halt] at h
    · simp [stuck, Sem.run_bind, Sem.run_halt, Result.andThen_halt] at h
  · cases hp
/-- an operation that waits for all others, but for those whose value hangs on no world, and those that wait for it -/
def lastOp (md : Region.Mode) (ops : Array Oper) (j : Nat) : Bool := match ops[j]? with
  | none => false
  | some o => pureOp o || (List.range ops.size).all fun k => k == j || (o.after.any fun e => Region.binds md e && e.on == k) || match ops[k]? with
    | some ok => pureOp ok || ok.after.any fun e => Region.binds md e && e.on == j
    | none => true
theorem lastOp_no {i j : Nat} {oi oj : Oper} (hi : ops[i]? = some oi) (hj : ops[j]? = some oj) (hji : j ≠ i) (hnot : ∀ e ∈ oj.after, Region.binds md e = true → e.on ≠ i)
    (hp : pureOp oi = false) (hpj : pureOp oj = false) (hnot' : ∀ e ∈ oi.after, Region.binds md e = true → e.on ≠ j) : lastOp md ops j = false := by
  rw [← Bool.not_eq_true]
  intro h
  unfold lastOp at h
  rw [hj] at h
  replace h : (pureOp oj || _) = true := h
  rw [hpj, Bool.false_or] at h
  have hlt := (Array.getElem?_eq_some_iff.1 hi).1
  have h1 := List.all_eq_true.1 h i (by simpa using hlt)
  simp only [hi, hp, Bool.or_eq_true, beq_iff_eq, Bool.false_or] at h1
  rcases h1 with (h1 | h1) | h1
  · exact hji h1.symm
  · obtain ⟨k, hk, he⟩ := Array.any_eq_true.1 h1
    simp only [Bool.and_eq_true, beq_iff_eq] at he
    exact hnot _ (Array.getElem_mem hk) he.1 he.2
  · obtain ⟨k, hk, he⟩ := Array.any_eq_true.1 h1
    simp only [Bool.and_eq_true, beq_iff_eq] at he
    exact hnot' _ (Array.getElem_mem hk) he.1 he.2
theorem lastOp_pure {i : Nat} {oi : Oper} (hi : ops[i]? = some oi) (hp : pureOp oi = true) : lastOp md ops i = true := by
  unfold lastOp
  rw [hi]
  simp [hp]
/-- an operation whose value hangs on no world leaves the world as it is -/
theorem wpOpIn_pure {j : Nat} {oj : Oper} (hnd : noDef ops = true) (hj : ops[j]? = some oj) (hp : pureOp oj = true) {K : Act → World → Prop} {a : Act} {w : World} (h : wpOpIn F n P ops Q j K a w) :
    wpOpIn F n P ops Q j (fun a' w' => w' = w ∧ K a' w') a w := by
  unfold wpOpIn at h ⊢
  simp only [hj] at h ⊢
  split
  · rename_i hw
    simp only [hw, if_true] at h
    unfold Oper.wpIn at h ⊢
    refine ⟨h.1, ?_⟩
    have h := h.2
    rw [Oper.semAt_eq _ _ _ (noDef_spec hnd hj)] at h ⊢
    unfold pureOp at hp
    unfold execOp at h ⊢
    split at hp
    · rename_i x he
      simp only [he, Sem.run_pure, Oper.uponIn] at h ⊢
      exact ⟨trivial, h⟩
    · rename_i x he
      simp only [he, Sem.run_pure, Oper.uponIn] at h ⊢
      exact ⟨trivial, h⟩
    · rename_i t ix he
      simp only [he, Instr.extract] at h ⊢
      split at h
      · split at h
        · rename_i u hu
          simp only [Sem.run_pure, Sem.run_bind, Result.andThen_ok, Oper.uponIn] at h ⊢
          exact ⟨trivial, h⟩
        · simp [stuck, Sem.run_bind, Sem.run_halt, Result.andThen_halt, Oper.uponIn] at h
      · simp [stuck, Sem.run_bind, Sem.run_halt, Result.andThen_halt, Oper.uponIn] at h
    · cases hp
  · rename_i hw
    simp only [hw] at h
    exact ⟨h.1, trivial, h.2⟩
/-- whatever order is picked, and S holds behind every operation that is carried out, but for one that waits for all others -/
def wpAnyJ (F : Fence) (n : Nat) (P : Program) (md : Region.Mode) (ops : Array Oper) (Q : Exit → Act → World → Prop) (S : World → Prop) : Nat → Array Bool → Act → World → Prop
  | 0, listed, a, w => Region.ready md ops listed = [] ∧ Q .normal a w
  | fuel + 1, listed, a, w =>
    (Region.ready md ops listed = [] → Q .normal a w) ∧
    ∀ i ∈ Region.ready md ops listed, wpOpIn F n P ops Q i (fun a' w' => (lastOp md ops i = false → S w') ∧ wpAnyJ F n P md ops Q S fuel (listed.setIfInBounds i true) a' w') a w
theorem wpAnyIn_of_J : ∀ (fuel : Nat) (listed : Array Bool) (a : Act) (w : World), wpAnyJ F n P md ops Q S fuel listed a w → wpAnyIn F n P md ops Q fuel listed a w
  | 0, _, _, _, h => h
  | fuel + 1, _, _, _, h => ⟨h.1, fun i hi => wpOpIn_mono (fun a' w' h' => wpAnyIn_of_J fuel _ a' w' h'.2) (h.2 i hi)⟩
theorem wpAnyJ_first {S' : World → Prop} {i : Nat} {oi : Oper} {v : Value} (hfn : ∀ f, F.fn f) (hnd : noDef ops = true) (hi : ops[i]? = some oi) (hsel : ∀ (j : Nat) (o : Oper) cs b, ops[j]? = some o → o.op ≠ .select cs b)
    (hQ : ∀ c a w, Q (.panic c) (a.put oi.dst v) w → Q (.panic c) a w) (hS' : (pureOp oi = true ∧ ∀ w, S' w) ∨ (pureOp oi = false ∧ ∀ w, S w → S' w)) :
    ∀ (fuel : Nat) (listed : Array Bool) (a : Act) (w : World),
      (∀ j oj, ops[j]? = some oj → j ≠ i → listed.getD j true = false → (∀ e ∈ oj.after, Region.binds md e = true → e.on ≠ i) → oi.apart ops oj = true) →
      i ∈ Region.ready md ops listed → YieldsIf P ops S' oi v a → S' w → (lastOp md ops i = false → S w) →
      wpAnyJ F n P md ops Q S fuel (listed.setIfInBounds i true) (a.put oi.dst v) w → wpAnyJ F n P md ops Q S (fuel + 1) listed a w := by
  intro fuel
  induction fuel with
  | zero =>
    intro listed a w _ hr hy hS hS0 H
    refine ⟨fun h => (by rw [h] at hr; cases hr), fun j hj => ?_⟩
    by_cases hji : j = i
    · subst hji; exact YieldsIf.wpOpIn hfn hnd hi hy hS ⟨hS0, H⟩
    · have := ready_mono hj hji
      rw [H.1] at this
      cases this
  | succ fuel ih =>
    intro listed a w hfree hr hy hS hS0 H
    refine ⟨fun h => (by rw [h] at hr; cases hr), fun j hj => ?_⟩
    by_cases hji : j = i
    · subst hji; exact YieldsIf.wpOpIn hfn hnd hi hy hS ⟨hS0, H⟩
    · have h1 := H.2 j (ready_mono hj hji)
      obtain ⟨hjun, oj, hoj, hall⟩ := mem_ready.1 hj
      have hnot : ∀ e ∈ oj.after, Region.binds md e = true → e.on ≠ i := fun e he hb heq => by
        have h1 := hall e he hb
        have h0 := (mem_ready.1 hr).1
        rw [heq] at h1
        rcases Nat.lt_or_ge i listed.size with h' | h'
        · simp [h'] at h0 h1; rw [h0] at h1; cases h1
        · simp [Array.getElem?_eq_none h'] at h1
      have hnot' : ∀ e ∈ oi.after, Region.binds md e = true → e.on ≠ j := fun e he hb heq => by
        obtain ⟨-, oi', hoi', hall'⟩ := mem_ready.1 hr
        obtain rfl : oi = oi' := by rw [hi] at hoi'; injection hoi'
        have h1 := hall' e he hb
        rw [heq] at h1
        rcases Nat.lt_or_ge j listed.size with h' | h'
        · simp [h'] at hjun h1; rw [hjun] at h1; cases h1
        · simp [Array.getElem?_eq_none h'] at h1
      have h2 := wpOpIn_putJ hnd hoj (hfree j oj hoj hji hjun hnot) (fun cs b => hsel i oi cs b hi) (fun cs b => hsel j oj cs b hoj) hQ hfn hy h1
      have hfree' : ∀ k ok, ops[k]? = some ok → k ≠ i → (listed.setIfInBounds j true).getD k true = false →
          (∀ e ∈ ok.after, Region.binds md e = true → e.on ≠ i) → oi.apart ops ok = true := fun k ok hk hki hun hno => by
        refine hfree k ok hk hki ?_ hno
        by_cases hjk : j = k
        · subst hjk; exact hjun
        · rw [getD_set_ne true hjk] at hun; exact hun
      rcases hS' with ⟨hp, hS'⟩ | ⟨hp, hS'⟩
      · exact wpOpIn_mono (fun a' w' h3 => ⟨h3.2.1, ih (listed.setIfInBounds j true) a' w' hfree' (ready_mono hr (Ne.symm hji)) h3.1 (hS' w') (fun h => by rw [lastOp_pure hi hp] at h; cases h) (by rw [Array.setIfInBounds_comm _ _ hji]; exact h3.2.2)⟩) h2
      · rcases hpj : pureOp oj with _ | _
        · have hl := lastOp_no hi hoj hji hnot hp hpj hnot'
          exact wpOpIn_mono (fun a' w' h3 => ⟨h3.2.1, ih (listed.setIfInBounds j true) a' w' hfree' (ready_mono hr (Ne.symm hji)) h3.1 (hS' w' (h3.2.1 hl)) (fun _ => h3.2.1 hl) (by rw [Array.setIfInBounds_comm _ _ hji]; exact h3.2.2)⟩) h2
        · refine wpOpIn_mono (fun a' w' (h3 : w' = w ∧ YieldsIf P ops S' oi v a' ∧ _) => ⟨h3.2.2.1, ih (listed.setIfInBounds j true) a' w' hfree' (ready_mono hr (Ne.symm hji)) h3.2.1 (h3.1 ▸ hS) (fun h => h3.1 ▸ hS0 h) (by rw [Array.setIfInBounds_comm _ _ hji]; exact h3.2.2.2)⟩) (wpOpIn_pure hnd hoj hpj h2)
theorem wpAnyJ_take (i : Nat) {oi : Oper} {v : Value} {fuel : Nat} {listed : Array Bool} {a : Act} {w : World} (hfn : ∀ f, F.fn f) (hS : S w) (hi : ops[i]? = some oi) (hnd : noDef ops = true)
    (hs : Region.noSelect ops = true) (hf : Region.free md ops listed i = true) (hr : (Region.ready md ops listed).contains i = true)
    (hw : Region.wanted oi (yielded ops a.tmps) = true) (hy : ∀ w, S w → (execOp a.eval oi).run P w = .ok (.value v) w) (hQ : ∀ c a w, Q (.panic c) (a.put oi.dst v) w → Q (.panic c) a w)
    (h : wpAnyJ F n P md ops Q S fuel (listed.setIfInBounds i true) (a.put oi.dst v) w) : wpAnyJ F n P md ops Q S (fuel + 1) listed a w := by
  rcases hp : pureOp oi with _ | _
  · exact wpAnyJ_first hfn hnd hi (Region.noSelect_spec hs) hQ (.inr ⟨hp, fun _ h => h⟩) fuel listed a w (Region.free_spec hi hf) (by simpa using hr) (.inl ⟨hw, hy⟩) hS (fun _ => hS) h
  · exact wpAnyJ_first (S' := fun _ => True) hfn hnd hi (Region.noSelect_spec hs) hQ (.inl ⟨hp, fun _ => trivial⟩) fuel listed a w (Region.free_spec hi hf) (by simpa using hr) (.inl ⟨hw, fun w' _ => pure_any hp (hy w hS) w'⟩) trivial (fun _ => hS) h
/-- an operation whose value hangs on no world, behind the last store -/
theorem wpAnyJ_pure (i : Nat) {oi : Oper} {v : Value} {fuel : Nat} {listed : Array Bool} {a : Act} {w : World} (hfn : ∀ f, F.fn f) (hi : ops[i]? = some oi) (hnd : noDef ops = true)
    (hs : Region.noSelect ops = true) (hf : Region.free md ops listed i = true) (hr : (Region.ready md ops listed).contains i = true)
    (hw : Region.wanted oi (yielded ops a.tmps) = true) (hp : pureOp oi = true) (hy : (execOp a.eval oi).run P w = .ok (.value v) w) (hQ : ∀ c a w, Q (.panic c) (a.put oi.dst v) w → Q (.panic c) a w)
    (h : wpAnyJ F n P md ops Q S fuel (listed.setIfInBounds i true) (a.put oi.dst v) w) : wpAnyJ F n P md ops Q S (fuel + 1) listed a w :=
  wpAnyJ_first (S' := fun _ => True) hfn hnd hi (Region.noSelect_spec hs) hQ (.inl ⟨hp, fun _ => trivial⟩) fuel listed a w (Region.free_spec hi hf) (by simpa using hr) (.inl ⟨hw, fun w' _ => pure_any hp hy w'⟩) trivial (fun h => by rw [lastOp_pure hi hp] at h; cases h) h
/-- an operation that is not wanted -/
theorem wpAnyJ_skip (i : Nat) {oi : Oper} {fuel : Nat} {listed : Array Bool} {a : Act} {w : World} (hfn : ∀ f, F.fn f) (hS : S w) (hi : ops[i]? = some oi) (hnd : noDef ops = true)
    (hs : Region.noSelect ops = true) (hf : Region.free md ops listed i = true) (hr : (Region.ready md ops listed).contains i = true)
    (hw : Region.wanted oi (yielded ops a.tmps) = false) (hQ : ∀ c a w, Q (.panic c) (a.put oi.dst undef) w → Q (.panic c) a w)
    (h : wpAnyJ F n P md ops Q S fuel (listed.setIfInBounds i true) (a.put oi.dst undef) w) : wpAnyJ F n P md ops Q S (fuel + 1) listed a w := by
  rcases hp : pureOp oi with _ | _
  · exact wpAnyJ_first hfn hnd hi (Region.noSelect_spec hs) hQ (.inr ⟨hp, fun _ h => h⟩) fuel listed a w (Region.free_spec hi hf) (by simpa using hr) (.inr ⟨hw, rfl⟩) hS (fun _ => hS) h
  · exact wpAnyJ_first (S' := fun _ => True) hfn hnd hi (Region.noSelect_spec hs) hQ (.inl ⟨hp, fun _ => trivial⟩) fuel listed a w (Region.free_spec hi hf) (by simpa using hr) (.inr ⟨hw, rfl⟩) trivial (fun _ => hS) h
/-- one operation alone may come up: it is carried out -/
theorem wpAnyJ_one (i : Nat) {oi : Oper} {fuel : Nat} {listed : Array Bool} {a : Act} {w : World} (hi : ops[i]? = some oi) (hr : Region.ready md ops listed = [i])
    (h : ∀ K : Act → World → Prop, Hid (∀ a w, (lastOp md ops i = false → S w) → wpAnyJ F n P md ops Q S fuel (listed.setIfInBounds i true) a w → K a w) → if Region.wanted oi (yielded ops a.tmps) = true then oi.wpIn F n P a w K Q else (∀ f, oi.about P w a.eval = some f → F.fn f) ∧ K (a.put oi.dst undef) w) :
    wpAnyJ F n P md ops Q S (fuel + 1) listed a w := by
  refine ⟨fun h0 => (by rw [hr] at h0; cases h0), fun j hj => ?_⟩
  rw [hr] at hj
  obtain rfl := List.mem_singleton.1 hj
  have h1 := h (fun a' w' => (lastOp md ops j = false → S w') ∧ wpAnyJ F n P md ops Q S fuel (listed.setIfInBounds j true) a' w') (show Hid _ from fun a w h1 h2 => ⟨h1, h2⟩)
  unfold wpOpIn
  simp only [hi]
  exact h1
theorem wpAnyJ_done {fuel : Nat} {listed : Array Bool} {a : Act} {w : World} (hr : Region.ready md ops listed = []) (h : Q .normal a w) : wpAnyJ F n P md ops Q S fuel listed a w := by
  cases fuel with
  | zero => exact ⟨hr, h⟩
  | succ k => exact ⟨fun _ => h, by rw [hr]; simp⟩
theorem wpIn_region_J {id : Nat} {a : Act} {w : World} (S : World → Prop) (hm : P.follows .mixedOrders = true)
    (h : wpAnyJ F n P .any ops Q S ops.size (Array.replicate ops.size false) a w.drew) : (Code.region id ops true).wpIn F n P Q a w :=
  wpIn_region_any hm (wpAnyIn_of_J _ _ _ _ h)
theorem wideFn : ∀ f, Fence.wide.fn f := fun _ => trivial
/-- the same for an activation: no fence -/
theorem wp_region_J {id : Nat} {P : Program} {ops : Array Oper} {Q : Exit → Act → World → Prop} {a : Act} {w : World} (S : World → Prop) (hm : P.follows .mixedOrders = true)
    (h : wpAnyJ Fence.wide 0 P .any ops Q S ops.size (Array.replicate ops.size false) a w.drew) : (Code.region id ops true).wp P Q a w :=
  wpIn_wide.1 (wpIn_region_J S hm h)
theorem wpIn_append_run {o : Oper} {a : Act} {w w' : World} {K : Act → World → Prop} (s x : Operand) (t : TypeId) {v u r : Value} (hfn : ∀ f, F.fn f)
    (ho : o.op = .call { callee := .builtin .append, args := #[s, x], argTypes := #[t, t] }) (hs : a.eval s = v) (hx : a.eval x = u)
    (hrun : (Builtin.append_ #[t, t] o.type #[v, u]).run P w = .ok r w') (h : K (a.put o.dst r) w') : o.wpIn F n P a w K Q := by
  refine ⟨fun f _ => hfn f, ?_⟩
  rw [Oper.semAt_eq _ _ _ (fun c => by rw [ho]; simp)]
  unfold execOp
  simp only [ho, resolve, invoke, builtin, Sem.run_bind, Sem.run_pure, Result.andThen_ok, List.map_toArray, List.map_cons, List.map_nil, hs, hx, hrun]
  exact h
end
end Go.Proofs.Ytlhekifmkkgjlaa
/- Contracts of chapter 8 on stacks: the loads of a pile, walked. -/
namespace Go.Proofs.Ytlhekifmkkgjlaa
open Go Go.RowKit Go.Shelf
attribute [local go_sem] Oper.semAt_some
set_option maxHeartbeats 1000000
def LoadsPost (s : Stk) (m : Nat) (w : World) (e : Ending) (w' : World) : Prop :=
  ∃ v : Nat → Value, e = .returned (.tuple #[.slice (some ⟨w.heap.size + 3, 0, none⟩) s.nt s.nt, v s.nt, .bool (loadsF s m (backTo s.nt 0)).2]) ∧ Below w.heap.size w w' ∧
    Blk w' (w.heap.size + 3) 65 (rowV s.nt v) ∧ ∀ k, k ≤ s.nt → OwnL w' w.heap.size (v k) ((loadsF s m (backTo s.nt 0)).1 k)
theorem info_lds : (Try.prog.info? 65).map (fun i => (i.zero, i.size, i.bytes)) = some (some (.slice none 0 0), 1, 24) := by kernel_rfl
theorem rowV_made (n : Nat) : madeCells (Value.slice none 0 0).cells (n * 1) = rowV n (fun _ => .slice none 0 0) := by
  apply Array.ext_getElem?
  intro j
  simp only [rowV, madeCells, Array.getElem?_map, Array.getElem?_range, List.getElem?_toArray, List.getElem?_map, Nat.mul_one]
  by_cases hj : j < n
  · simp [hj, Value.cells, Nat.mod_one]
  · simp [hj]
set_option maxRecDepth 100000 in
theorem loads_any (s : Stk) (m : Nat) (w : World) (hs : StkR w w.heap.size s) (hst : stackB s = true) (hm : (m : Int) = s.wd * s.hg) (hh : ∀ t i, t < s.nt → i < s.wn t → hangP s t i = false) :
    Calls Try.prog 74 #[.agg #[.int .i64 s.wd, .int .i64 s.hg, .slice s.A s.nt s.cap]] w (LoadsPost s m w) := by
  refine (callsIn_wide (n := 20)).1 ?_
  obtain ⟨F, hFw⟩ : ∃ F : Fence, F = Fence.wide := ⟨_, rfl⟩
  rw [← hFw]
  have hF : ∀ f, F.fn f := by rw [hFw]; exact fun _ => trivial
  have hro : F.round = none := by rw [hFw]; rfl
  have hwd : ∀ {n f args w R}, Calls Try.prog f args w R → CallsIn F n Try.prog f args w R := by rw [hFw]; exact fun h => callsIn_wide.2 h
  have HF := hide hFw
  clear hFw
  rw [stackB_iff] at hst
  obtain ⟨⟨hd1, hd2⟩, hn10, htier⟩ := hst
  have hmb := mul_bd (a := s.wd) (b := s.hg) (M := 12) (N := 12) (by omega) (by omega) (by omega) (by omega)
  have hm0 : 0 < s.wd * s.hg := Int.mul_pos (by omega) (by omega)
  rw [← hm] at hmb hm0
  have hm1 : 1 ≤ m ∧ m ≤ 144 := by omega
  have hw0 : IntKind.i64.wrap (m : Int) = m := IntWalk.i64_in _ (by omega)
  obtain ⟨i0, hi, hz0, hz1, hz2⟩ := info_parts info_lds
  have gl := run_make_rowN (P := Try.prog) 64 65 i0 _ Try.underlying64 hi hz0 .i64 .i64 s.nt s.nt (Nat.le_refl _) (by rw [hz2]; omega) (by omega) (((w.alloc (.cells #[.int .i64 s.wd, .int .i64 s.hg, .slice s.A s.nt s.cap] 131)).alloc (.cells #[.slice none 0 0] 64)).alloc (.cells #[.bool false] 176))
  rw [hz1, rowV_made] at gl
  simp only [World.size_alloc] at gl
  clear hi hz0 hz1 hz2
  have HT := hide htier
  have HH := hide hh
  have HM := hide hm
  clear htier hh
  have hmm : s.wd * s.hg = (m : Int) := hm.symm
  clear hm
  refine callsIn_of_wp_marks Try.func74 rfl (hF _) ?_ hro
  simp only [Try.ntmps74, List.size_toArray, List.length_cons, List.length_nil, Nat.reduceAdd, Nat.reduceSub, Array.replicate_succ, Array.replicate_zero, List.push_toArray, List.append_toArray, List.nil_append, List.cons_append]
  gi_wp2_with fail
  have k0 : PileB ((((w.alloc (.cells #[.int .i64 s.wd, .int .i64 s.hg, .slice s.A s.nt s.cap] 131)).alloc (.cells #[.slice (some ⟨w.heap.size + 1 + 1 + 1, 0, none⟩) s.nt s.nt] 64)).alloc (.cells #[.bool false] 176)).alloc (.cells (rowV s.nt (fun _ => .slice none 0 0)) 65)) w.heap.size s := (((Blk.new w _ _).alloc _).alloc _).alloc _
  have k1 : Blk ((((w.alloc (.cells #[.int .i64 s.wd, .int .i64 s.hg, .slice s.A s.nt s.cap] 131)).alloc (.cells #[.slice (some ⟨w.heap.size + 1 + 1 + 1, 0, none⟩) s.nt s.nt] 64)).alloc (.cells #[.bool false] 176)).alloc (.cells (rowV s.nt (fun _ => .slice none 0 0)) 65)) (w.heap.size + 1) 64 #[.slice (some ⟨w.heap.size + 3, 0, none⟩) s.nt s.nt] := by simpa using ((Blk.new (w.alloc (.cells #[.int .i64 s.wd, .int .i64 s.hg, .slice s.A s.nt s.cap] 131)) 64 #[.slice (some ⟨w.heap.size + 1 + 1 + 1, 0, none⟩) s.nt s.nt]).alloc (.cells #[.bool false] 176)).alloc (.cells (rowV s.nt (fun _ => .slice none 0 0)) 65)
  have k2 : Blk ((((w.alloc (.cells #[.int .i64 s.wd, .int .i64 s.hg, .slice s.A s.nt s.cap] 131)).alloc (.cells #[.slice (some ⟨w.heap.size + 1 + 1 + 1, 0, none⟩) s.nt s.nt] 64)).alloc (.cells #[.bool false] 176)).alloc (.cells (rowV s.nt (fun _ => .slice none 0 0)) 65)) (w.heap.size + 1 + 1) 176 #[.bool (!true)] := by simpa using (Blk.new ((w.alloc (.cells #[.int .i64 s.wd, .int .i64 s.hg, .slice s.A s.nt s.cap] 131)).alloc (.cells #[.slice (some ⟨w.heap.size + 1 + 1 + 1, 0, none⟩) s.nt s.nt] 64)) 176 #[.bool false]).alloc (.cells (rowV s.nt (fun _ => .slice none 0 0)) 65)
  have k3 : Blk ((((w.alloc (.cells #[.int .i64 s.wd, .int .i64 s.hg, .slice s.A s.nt s.cap] 131)).alloc (.cells #[.slice (some ⟨w.heap.size + 1 + 1 + 1, 0, none⟩) s.nt s.nt] 64)).alloc (.cells #[.bool false] 176)).alloc (.cells (rowV s.nt (fun _ => .slice none 0 0)) 65)) (w.heap.size + 3) 65 (rowV s.nt (fun _ => .slice none 0 0)) := by simpa using Blk.new (((w.alloc (.cells #[.int .i64 s.wd, .int .i64 s.hg, .slice s.A s.nt s.cap] 131)).alloc (.cells #[.slice (some ⟨w.heap.size + 1 + 1 + 1, 0, none⟩) s.nt s.nt] 64)).alloc (.cells #[.bool false] 176)) 65 (rowV s.nt (fun _ => .slice none 0 0))
  have k5 : ((((w.alloc (.cells #[.int .i64 s.wd, .int .i64 s.hg, .slice s.A s.nt s.cap] 131)).alloc (.cells #[.slice (some ⟨w.heap.size + 1 + 1 + 1, 0, none⟩) s.nt s.nt] 64)).alloc (.cells #[.bool false] 176)).alloc (.cells (rowV s.nt (fun _ => .slice none 0 0)) 65)).heap.size = w.heap.size + 4 := by simp
  have k6 : Below w.heap.size w ((((w.alloc (.cells #[.int .i64 s.wd, .int .i64 s.hg, .slice s.A s.nt s.cap] 131)).alloc (.cells #[.slice (some ⟨w.heap.size + 1 + 1 + 1, 0, none⟩) s.nt s.nt] 64)).alloc (.cells #[.bool false] 176)).alloc (.cells (rowV s.nt (fun _ => .slice none 0 0)) 65)) := ((((Below.refl _ _).alloc (Nat.le_refl _) _).alloc (by simp) _).alloc (by simp only [World.size_alloc]; omega) _).alloc (by simp only [World.size_alloc]; omega) _
  clear gl
  generalize ((((w.alloc (.cells #[.int .i64 s.wd, .int .i64 s.hg, .slice s.A s.nt s.cap] 131)).alloc (.cells #[.slice (some ⟨w.heap.size + 1 + 1 + 1, 0, none⟩) s.nt s.nt] 64)).alloc (.cells #[.bool false] 176)).alloc (.cells (rowV s.nt (fun _ => .slice none 0 0)) 65)) = W0 at k0 k1 k2 k3 k5 k6 ⊢
  refine (hwd (nothing_any m _ (by omega) hm1.1)).mono ?_
  rintro e w1 ⟨v1, rfl, hown1, hb1⟩
  obtain ⟨A1, c1, rfl⟩ := own_shape hown1
  have HO1 := hide (own_zero hown1)
  obtain ⟨x0, x1, x2, x3, -, -, -⟩ := blk3 (Blk.ext k0 hb1)
  have z1 := hb1.size
  clear hown1
  gi_wp2_with ((gi_at_call 106; refine (hwd (back_any _ _ _ _)).mono ?_; rintro e w2 ⟨rfl, rfl⟩))
  have hz1 : w.heap.size + 4 ≤ w1.heap.size := by omega
  have l0 := LI.start (m := m) (x := .slice A1 m c1) (b6 := w1.heap.size) (qb := w1.heap.size + 1) (W1 := w1) (W2 := (w1.alloc (.cells #[.slice A1 m c1] 65)).alloc (.cells #[.slice s.A s.nt s.cap] 53))
    (((k6.trans (hb1.mono (by omega))).alloc (by omega) _).alloc (by simp only [World.size_alloc]; omega) _) (((Blk.ext k0 hb1).alloc _).alloc _) (((k1.ext hb1).alloc _).alloc _) (((k2.ext hb1).alloc _).alloc _) (((k3.ext hb1).alloc _).alloc _)
    ((Blk.new w1 _ _).alloc _) (by simpa using Blk.new (w1.alloc (.cells #[.slice A1 m c1] 65)) 53 #[.slice s.A s.nt s.cap]) ((World.ownsRow.alloc (World.ownsRow.alloc (ownMono HO1.out (by omega)) _) _)) ⟨by omega, by omega⟩
  have hW0 : ((w1.alloc (.cells #[.slice A1 m c1] 65)).alloc (.cells #[.slice s.A s.nt s.cap] 53)).heap.size = w1.heap.size + 2 := by simp
  generalize (w1.alloc (.cells #[.slice A1 m c1] 65)).alloc (.cells #[.slice s.A s.nt s.cap] 53) = W2 at l0 hW0 ⊢
  have hst := back_stops F (20 - 1) hF hro (by omega) (w1.heap.size + 1) w.heap.size s W2 l0.qbx (by omega) (hs.below l0.below (Nat.le_refl _))
  clear k0 k1 k2 k3 k5 k6 x0 x1 x2 x3 hb1
  refine wpIn_rangeFunc_ownH hro (by omega) (gf := 116) (lb := #[.pointer (some ⟨w1.heap.size + 1, 0, none⟩)]) rfl (hF _) (enters_of Try.func116 (by kernel_rfl) rfl)
    hst KpB.trans (KpB.putObj (by omega) (by omega)) (Below.refl _ _) (fun _ => rfl)
    (fun pre W => ∃ v, LI w W w.heap.size w1.heap.size (w1.heap.size + 1) s (s.nt + 1) v (loadsF s m (pre.map (·.1))).1 (loadsF s m (pre.map (·.1))).2 v (v s.nt))
    (fun _ _ _ => False) ?hI (fun _ _ _ _ _ h _ _ => h) ⟨_, l0⟩
    (fun x a' W => ∃ b, W2.heap.size ≤ b ∧ Blk W b 72 #[s.u x.1, s.v x.1] ∧ a' = { tmps := #[.agg #[.int .i64 s.wd, .int .i64 s.hg, .slice s.A s.nt s.cap], .pointer (some ⟨w.heap.size, 0, none⟩), .pointer (some ⟨w.heap.size + 1, 0, none⟩), .slice none 0 0, .bool false, .pointer (some ⟨w.heap.size + 1 + 1, 0, none⟩), .pointer (some ⟨w1.heap.size, 0, none⟩), .int .i64 x.1, .pointer (some ⟨b, 0, none⟩), undef, undef, undef, undef, undef, undef, undef, undef, undef, undef, undef, .pointer (some ⟨w.heap.size, 0, none⟩), .pointer (some ⟨w.heap.size, 2, none⟩), .slice s.A s.nt s.cap, .int .i64 s.nt, .slice (some ⟨w.heap.size + 1 + 1 + 1, 0, none⟩) s.nt s.nt, .pointer (some ⟨w.heap.size, 0, none⟩), .pointer (some ⟨w.heap.size, 0, none⟩), .int .i64 s.wd, .pointer (some ⟨w.heap.size, 0, none⟩), .pointer (some ⟨w.heap.size, 1, none⟩), .int .i64 s.hg, .int .i64 m, .slice A1 m c1, .pointer (some ⟨w.heap.size, 0, none⟩), .pointer (some ⟨w.heap.size, 2, none⟩), .slice s.A s.nt s.cap, .func (.func 116) #[] #[.pointer (some ⟨w1.heap.size + 1, 0, none⟩)], .int .i64 x.1, .agg #[s.u x.1, s.v x.1], undef, undef, undef, undef, undef, undef, undef, undef, undef, undef, undef, undef, undef, undef, undef, undef, undef, undef, undef, undef, undef, undef, undef, undef, undef, undef, undef, undef, undef, undef, undef, undef, undef, undef, undef, undef, undef, undef, undef, undef, undef, undef, undef, undef, undef, undef, undef, undef, undef, undef, undef, undef, undef, undef, undef, undef, undef, undef, undef, undef, undef, undef, undef, undef, undef, undef, undef, undef], defers := [] })
    ?hAx ?hassign ?hbody ?hdone ?hstop
  case hI =>
    rintro pre W W' row ⟨v, h⟩ hg hr
    exact ⟨v, h.keptN hg (fun g e => ⟨by have := (hr g e).1; omega, (hr g e).2⟩)⟩
  case hAx =>
    rintro x a' _ W W' row ⟨b, h1, h2, h3⟩ hg hr
    exact ⟨b, h1, h2.keptN hg (fun r e => (hr r e).2), h3⟩
  case hassign =>
    rintro l pre x W K ⟨v, h⟩ hK
    have z0 := h.qbx.lt
    have hb := (Below.refl W.heap.size W).alloc (Nat.le_refl _) (.cells #[s.u x.1, s.v x.1] 72)
    have HK := hK { tmps := #[.agg #[.int .i64 s.wd, .int .i64 s.hg, .slice s.A s.nt s.cap], .pointer (some ⟨w.heap.size, 0, none⟩), .pointer (some ⟨w.heap.size + 1, 0, none⟩), .slice none 0 0, .bool false, .pointer (some ⟨w.heap.size + 1 + 1, 0, none⟩), .pointer (some ⟨w1.heap.size, 0, none⟩), .int .i64 x.1, .pointer (some ⟨W.heap.size, 0, none⟩), undef, undef, undef, undef, undef, undef, undef, undef, undef, undef, undef, .pointer (some ⟨w.heap.size, 0, none⟩), .pointer (some ⟨w.heap.size, 2, none⟩), .slice s.A s.nt s.cap, .int .i64 s.nt, .slice (some ⟨w.heap.size + 1 + 1 + 1, 0, none⟩) s.nt s.nt, .pointer (some ⟨w.heap.size, 0, none⟩), .pointer (some ⟨w.heap.size, 0, none⟩), .int .i64 s.wd, .pointer (some ⟨w.heap.size, 0, none⟩), .pointer (some ⟨w.heap.size, 1, none⟩), .int .i64 s.hg, .int .i64 m, .slice A1 m c1, .pointer (some ⟨w.heap.size, 0, none⟩), .pointer (some ⟨w.heap.size, 2, none⟩), .slice s.A s.nt s.cap, .func (.func 116) #[] #[.pointer (some ⟨w1.heap.size + 1, 0, none⟩)], .int .i64 x.1, .agg #[s.u x.1, s.v x.1], undef, undef, undef, undef, undef, undef, undef, undef, undef, undef, undef, undef, undef, undef, undef, undef, undef, undef, undef, undef, undef, undef, undef, undef, undef, undef, undef, undef, undef, undef, undef, undef, undef, undef, undef, undef, undef, undef, undef, undef, undef, undef, undef, undef, undef, undef, undef, undef, undef, undef, undef, undef, undef, undef, undef, undef, undef, undef, undef, undef, undef, undef, undef, undef, undef, undef, undef, undef], defers := [] } _ ((keepsO hb).from _) (h.kp (h.ext hb) hb.size) ⟨v, h.ext hb⟩ ⟨W.heap.size, by omega, Blk.new _ _ _, rfl⟩
    clear hK h hb
    unfold Stk.u Stk.v at HK ⊢
    gi_wp2
    exact HK
  case hbody =>
    rintro l pre x a' W hl ⟨rl, hlr⟩ ⟨v, h⟩ ⟨b, hb4, hb, rfl⟩ hpl
    obtain ⟨t, htn⟩ := x
    have hLn := loadsF_len s m (pre.map (·.1))
    have hLb := loadsF_bound s m 144 hm1.2 _ (pre.map (·.1)) rfl (fun t' ht' => by
      obtain ⟨y, -, rfl⟩ := List.mem_map.1 ht'
      have h1 := HT.out y.1 y.2
      simp only [tierB, Bool.and_eq_true, decide_eq_true_eq] at h1
      have h2 := h1.1
      have h3 := h1.2.1
      rw [← HM.out] at h2
      omega)
    rw [List.length_map] at hLb
    have hpl2 : pre.length ≤ 10 := by omega
    have hLb2 : ∀ j, ((loadsF s m (pre.map (·.1))).1 j).length ≤ 1584 := fun j => Nat.le_trans (hLb j) (by omega)
    clear hLb hpl
    have hgoal : ∀ W' v', LI w W' w.heap.size w1.heap.size (w1.heap.size + 1) s (s.nt + 1) v' (tierSt s m (loadsF s m (pre.map (·.1))) t).1 (tierSt s m (loadsF s m (pre.map (·.1))) t).2 v' (v' s.nt) → KeepsFrom W2.heap.size W W' → KeepsFrom W2.heap.size W W' ∧ KpB w.heap.size (w1.heap.size + 1) W W' ∧ ∃ v, LI w W' w.heap.size w1.heap.size (w1.heap.size + 1) s (s.nt + 1) v (loadsF s m ((pre ++ [(⟨t, htn⟩ : Tie s)]).map (·.1))).1 (loadsF s m ((pre ++ [(⟨t, htn⟩ : Tie s)]).map (·.1))).2 v (v s.nt) := by
      intro W' v' h' hk
      refine ⟨hk, h.kp h' hk.size, v', ?_⟩
      rw [List.map_append, List.map_cons, List.map_nil, loadsF_append]
      exact h'
    rw [hW0] at hgoal hl hb4
    have HG := hide hgoal
    clear hgoal
    generalize loadsF s m (pre.map (·.1)) = LL at h hLn HG hLb2
    obtain ⟨L, ok⟩ := LL
    dsimp only at h hLn hLb2
    have HLB := hide (hLb2 t)
    clear hLb2
    obtain ⟨mc, mw, hIc, hIw⟩ := hs.2.2 t htn
    have hti := HT.out t htn
    simp only [tierB, Bool.and_eq_true, decide_eq_true_eq, wiB_iff] at hti
    obtain ⟨tc, tw, twf, tcf, -⟩ := hti
    rw [← HM.out] at tc tw
    have HCN : Hid (∀ j, j < s.nt → s.cn j = s.cn t) := fun j hj => by
      have h1 := HT.out j hj
      simp only [tierB, Bool.and_eq_true, decide_eq_true_eq] at h1
      have h2 := h1.1
      rw [← HM.out] at h2
      omega
    have HRL : Hid (∀ i, i < s.wn t → 0 < (restL s t i).length) := fun i hi => by
      have h1 := HH.out t i htn hi
      simp only [hangP, decide_eq_false_iff_not] at h1
      omega
    have tc' : s.cn t = m := by omega
    have tw' : s.wn t ≤ m := by omega
    have HWF := hide twf
    have HCF := hide tcf
    have HIW := hide hIw
    have HSS := hide hs
    obtain ⟨Ao, co, hvo⟩ := (h.own s.nt (by omega)).shape
    rw [hLn] at hvo
    obtain ⟨y0, y1, y2⟩ := blk1 h.onb
    rw [hvo] at y1
    replace hb : Blk W b 72 #[.slice (s.ca t) (s.cn t) (s.cc t), .slice (s.wa t) (s.wn t) (s.wc t)] := hb
    obtain ⟨d0, d1, d2, -, -⟩ := blk2 hb
    have HV := hide hvo
    have P := hide h
    have PB := hide hb
    have HLR := hide hlr
    have zW := h.qbx.lt
    clear tc tw twf tcf hIw hIc hvo h hb hlr hst l0 HT HH hs HO1 HF
    unfold Stk.u Stk.v
    dsimp only
    gi_wp2_with (gi_at_call 105; refine (CallsIn.inRound l (hwd (nothing_any m _ (by omega) hm1.1))).mono ?_; rintro e w3 ⟨v3, rfl, hown3, hb3⟩; obtain ⟨A3, c3, rfl⟩ := own_shape hown3; have HO3 := hide (own_zero hown3); obtain ⟨g0, g1, g2, -, -⟩ := blk2 (PB.out.ext hb3); clear hown3)
    have l3 : LI w w3 w.heap.size w1.heap.size (w1.heap.size + 1) s (s.nt + 2) (upd v (s.nt + 1) (.slice A3 m c3)) (upd (upd L t (tierR s m t (L s.nt) (L t) ok 0).2.1) (s.nt + 1) (tierR s m t (L s.nt) (L t) ok 0).1) (tierR s m t (L s.nt) (L t) ok 0).2.2 (upd v (s.nt + 1) (.slice A3 m c3)) (upd v (s.nt + 1) (.slice A3 m c3) s.nt) := by
      have h1 := P.out.more hb3 HO3.out (fun y hy => by rw [(List.mem_replicate.1 hy).2]; exact LdOk_zero)
      rw [upd_ne (t := s.nt + 1) (k := s.nt) _ _ (by omega)]
      refine h1.congr (fun k _ => ?_) (fun k hk => (upd_ne _ _ (by omega)).symm)
      show _ = upd (upd L t (L t)) (s.nt + 1) (List.replicate m (0, 1)) k
      rw [upd_self]
    have K3 := hide ((keepsO hb3).from (w1.heap.size + 2))
    have L3 := hide l3
    clear hb3 l3 PB HO3
    generalize hWA : s.wa t = WA at HIW ⊢
    clear hWA
    gi_loopw [45] (fun i wr => ∃ (k : Nat) (v' : Nat → Value), k ≤ s.wn t ∧ i = .int .i64 k ∧ Hid (LI w wr w.heap.size w1.heap.size (w1.heap.size + 1) s (s.nt + 2) v' (upd (upd L t (tierR s m t (L s.nt) (L t) ok k).2.1) (s.nt + 1) (tierR s m t (L s.nt) (L t) ok k).1) (tierR s m t (L s.nt) (L t) ok k).2.2 v' (v' s.nt)) ∧ Hid (v' (s.nt + 1) = .slice A3 m c3) ∧ Hid (KeepsFrom (w1.heap.size + 2) W wr)) (fun i _ => s.wn t - (intOf i).toNat)
    case atStart => exact ⟨0, _, Nat.zero_le _, rfl, L3, hide (upd_same _ _ _), K3⟩
    case round =>
      obtain ⟨k, v', hk, rfl, HL, HV3, HK⟩ := hrel
      clear L3 K3 P HV y0 y1 y2 d0 d1 d2 g0 g1 g2
      by_cases hlt : k < s.wn t
      · have i1 : (0 : Int) ≤ (k : Int) := by omega
        have i2 : (k : Int) < (s.wn t : Int) := by omega
        obtain ⟨wb, woff, rfl, hwb, hwc⟩ := (HIW.out.below HL.out.below (Nat.le_refl _)).at_ hlt
        obtain ⟨wN, hwN⟩ : ∃ wN : Nat, s.wf t k = wN := Int.eq_ofNat_of_zero_le (HWF.out k hlt).1
        rw [hwN] at hwc
        have HWN := hide hwN
        obtain ⟨x0, x1, x2, x3, -, -, -⟩ := blk3 HL.out.pile
        clear hwN
        gi_wp2_with (gi_at_call 69; refine (CallsIn.inRound l (hwd (cells_any s t k _))).mono ?_; rintro e w4 ⟨rfl, rfl⟩)
        have z9 := HL.out.qbx.lt
        have hb9 : Below wr.heap.size wr ((((wr.alloc (.cells #[.int .i64 t, .int .i64 k] 59)).alloc (.cells #[.int .i64 0, .int .i64 1] 76)).alloc (.cells #[.int .i64 s.wd, .int .i64 s.hg, .slice s.A s.nt s.cap] 131)).alloc (.cells #[.int .i64 t, .int .i64 k] 59)) := ((((Below.refl _ _).alloc (Nat.le_refl _) _).alloc (by simp) _).alloc (by simp only [World.size_alloc]; omega) _).alloc (by simp only [World.size_alloc]; omega) _
        have l4 := HL.out.ext hb9
        have k4 := HK.out.trans ((keepsO hb9).from _)
        have b12 : Blk ((((wr.alloc (.cells #[.int .i64 t, .int .i64 k] 59)).alloc (.cells #[.int .i64 0, .int .i64 1] 76)).alloc (.cells #[.int .i64 s.wd, .int .i64 s.hg, .slice s.A s.nt s.cap] 131)).alloc (.cells #[.int .i64 t, .int .i64 k] 59)) wr.heap.size 59 #[.int .i64 t, .int .i64 k] := (((Blk.new wr _ _).alloc _).alloc _).alloc _
        have b13 : Blk ((((wr.alloc (.cells #[.int .i64 t, .int .i64 k] 59)).alloc (.cells #[.int .i64 0, .int .i64 1] 76)).alloc (.cells #[.int .i64 s.wd, .int .i64 s.hg, .slice s.A s.nt s.cap] 131)).alloc (.cells #[.int .i64 t, .int .i64 k] 59)) (wr.heap.size + 1) 76 #[.int .i64 ((0, 1) : Nat × Nat).1, .int .i64 ((0, 1) : Nat × Nat).2] := by simpa using ((Blk.new (wr.alloc (.cells #[.int .i64 t, .int .i64 k] 59)) 76 #[.int .i64 0, .int .i64 1]).alloc (.cells #[.int .i64 s.wd, .int .i64 s.hg, .slice s.A s.nt s.cap] 131)).alloc (.cells #[.int .i64 t, .int .i64 k] 59)
        have b14 : PileB ((((wr.alloc (.cells #[.int .i64 t, .int .i64 k] 59)).alloc (.cells #[.int .i64 0, .int .i64 1] 76)).alloc (.cells #[.int .i64 s.wd, .int .i64 s.hg, .slice s.A s.nt s.cap] 131)).alloc (.cells #[.int .i64 t, .int .i64 k] 59)) (wr.heap.size + 1 + 1) s := by unfold PileB; simpa using (Blk.new ((wr.alloc (.cells #[.int .i64 t, .int .i64 k] 59)).alloc (.cells #[.int .i64 0, .int .i64 1] 76)) 131 #[.int .i64 s.wd, .int .i64 s.hg, .slice s.A s.nt s.cap]).alloc (.cells #[.int .i64 t, .int .i64 k] 59)
        have b15 : Blk ((((wr.alloc (.cells #[.int .i64 t, .int .i64 k] 59)).alloc (.cells #[.int .i64 0, .int .i64 1] 76)).alloc (.cells #[.int .i64 s.wd, .int .i64 s.hg, .slice s.A s.nt s.cap] 131)).alloc (.cells #[.int .i64 t, .int .i64 k] 59)) (wr.heap.size + 1 + 1 + 1) 59 #[.int .i64 t, .int .i64 k] := by simpa using Blk.new (((wr.alloc (.cells #[.int .i64 t, .int .i64 k] 59)).alloc (.cells #[.int .i64 0, .int .i64 1] 76)).alloc (.cells #[.int .i64 s.wd, .int .i64 s.hg, .slice s.A s.nt s.cap] 131)) 59 #[.int .i64 t, .int .i64 k]
        have hz4 : ((((wr.alloc (.cells #[.int .i64 t, .int .i64 k] 59)).alloc (.cells #[.int .i64 0, .int .i64 1] 76)).alloc (.cells #[.int .i64 s.wd, .int .i64 s.hg, .slice s.A s.nt s.cap] 131)).alloc (.cells #[.int .i64 t, .int .i64 k] 59)).heap.size = wr.heap.size + 4 := by simp
        have HFar := hide (HL.out.far (g := wr.heap.size + 1) (by omega))
        have e0 : upd (upd L t (tierR s m t (L s.nt) (L t) ok k).2.1) (s.nt + 1) (tierR s m t (L s.nt) (L t) ok k).1 s.nt = L s.nt := by rw [upd_ne _ _ (by omega), upd_ne _ _ (by omega)]
        have HOn : Hid ((∀ x ∈ L s.nt, LdOk x) ∧ ∀ {W : World} {okk : Bool}, LI w W w.heap.size w1.heap.size (w1.heap.size + 1) s (s.nt + 2) v' (upd (upd L t (tierR s m t (L s.nt) (L t) ok k).2.1) (s.nt + 1) (tierR s m t (L s.nt) (L t) ok k).1) okk v' (v' s.nt) → OwnL W w.heap.size (v' s.nt) (L s.nt)) :=
          ⟨fun x hx => HL.out.okl s.nt (by omega) x (by rw [e0]; exact hx), fun h => by have := h.own s.nt (by omega); rwa [e0] at this⟩
        clear e0
        have hlr4 : ∃ r0, ((((wr.alloc (.cells #[.int .i64 t, .int .i64 k] 59)).alloc (.cells #[.int .i64 0, .int .i64 1] 76)).alloc (.cells #[.int .i64 s.wd, .int .i64 s.hg, .slice s.A s.nt s.cap] 131)).alloc (.cells #[.int .i64 t, .int .i64 k] 59)).heap[l]? = some (.loop r0) := ⟨rl, k4.same _ _ hl HLR.out rfl⟩
        generalize ((((wr.alloc (.cells #[.int .i64 t, .int .i64 k] 59)).alloc (.cells #[.int .i64 0, .int .i64 1] 76)).alloc (.cells #[.int .i64 s.wd, .int .i64 s.hg, .slice s.A s.nt s.cap] 131)).alloc (.cells #[.int .i64 t, .int .i64 k] 59)) = W4 at l4 k4 b12 b13 b14 b15 hz4 hlr4 ⊢
        obtain ⟨rl4, hlr4⟩ := hlr4
        clear hb9 x0 x1 x2 x3
        have hst := SeqStopsK.inRound l (cells_stops F (20 - 1 - 1 - 1) hF hro (by omega) (wr.heap.size + 1 + 1) (wr.heap.size + 1 + 1 + 1) w.heap.size t k s W4 b14 b15 (by omega) (HSS.out.below l4.below (Nat.le_refl _)) htn)
        refine wpIn_rangeFunc_ownN rfl hlr4 (by omega) (gf := 102) (lb := #[.pointer (some ⟨wr.heap.size + 1 + 1, 0, none⟩), .pointer (some ⟨wr.heap.size + 1 + 1 + 1, 0, none⟩)]) rfl (hF _) (enters_of Try.func102 (by kernel_rfl) rfl)
          hst KpB.trans (KpB.putObj (by omega) (by omega)) (Below.refl _ _) (fun _ => rfl)
          (fun pre W => InI w W4 W w.heap.size w1.heap.size (w1.heap.size + 1) wr.heap.size (w1.heap.size + 2) s (s.nt + 2) v' (upd (upd L t (tierR s m t (L s.nt) (L t) ok k).2.1) (s.nt + 1) (tierR s m t (L s.nt) (L t) ok k).1) v' (v' s.nt) t k ((pre.map (·.1)).foldl (addSt (L s.nt)) ((0, 1), (tierR s m t (L s.nt) (L t) ok k).2.2)))
          (fun _ _ _ => False) ?hI2 (fun _ _ _ _ _ h _ _ => h) ⟨l4, b13, b12, b15, KeepsFrom.refl _ _, LdOk_zero⟩
          (fun x a' W => a' = { tmps := #[.agg #[.int .i64 s.wd, .int .i64 s.hg, .slice s.A s.nt s.cap], .pointer (some ⟨w.heap.size, 0, none⟩), .pointer (some ⟨w.heap.size + 1, 0, none⟩), .slice none 0 0, .bool false, .pointer (some ⟨w.heap.size + 1 + 1, 0, none⟩), .pointer (some ⟨w1.heap.size, 0, none⟩), .int .i64 t, .pointer (some ⟨b, 0, none⟩), .slice A3 m c3, .int .i64 k, .int .i64 wN, .pointer (some ⟨wr.heap.size, 0, none⟩), .pointer (some ⟨wr.heap.size + 1, 0, none⟩), .int .i64 x.1, u15, u16, u17, undef, u19, .pointer (some ⟨w.heap.size, 0, none⟩), .pointer (some ⟨w.heap.size, 2, none⟩), .slice s.A s.nt s.cap, .int .i64 s.nt, .slice (some ⟨w.heap.size + 1 + 1 + 1, 0, none⟩) s.nt s.nt, .pointer (some ⟨w.heap.size, 0, none⟩), .pointer (some ⟨w.heap.size, 0, none⟩), .int .i64 s.wd, .pointer (some ⟨w.heap.size, 0, none⟩), .pointer (some ⟨w.heap.size, 1, none⟩), .int .i64 s.hg, .int .i64 m, .slice A1 m c1, .pointer (some ⟨w.heap.size, 0, none⟩), .pointer (some ⟨w.heap.size, 2, none⟩), .slice s.A s.nt s.cap, .func (.func 116) #[] #[.pointer (some ⟨w1.heap.size + 1, 0, none⟩)], .int .i64 t, .agg #[.slice (s.ca t) m (s.cc t), .slice (some ⟨wb, woff, none⟩) (s.wn t) (s.wc t)], .slice Ao m co, .int .i64 m, .slice A3 m c3, .pointer (some ⟨b, 1, none⟩), .slice (some ⟨wb, woff, none⟩) (s.wn t) (s.wc t), .int .i64 (s.wn t), .int .i64 k, .bool true, .int .i64 k, .pointer (some ⟨wb, woff + k, none⟩), .int .i64 wN, .int .i64 t, .int .i64 k, .agg #[.int .i64 t, .int .i64 k], .agg #[.int .i64 0, .int .i64 1], .agg #[.int .i64 s.wd, .int .i64 s.hg, .slice s.A s.nt s.cap], .agg #[.int .i64 t, .int .i64 k], .func (.func 102) #[] #[.pointer (some ⟨wr.heap.size + 1 + 1, 0, none⟩), .pointer (some ⟨wr.heap.size + 1 + 1 + 1, 0, none⟩)], .int .i64 x.1, u58, u59, u60, u61, u62, u63, u64, u65, u66, u67, u68, u69, u70, u71, u72, u73, u74, u75, u76, u77, u78, u79, u80, u81, u82, u83, u84, u85, u86, u87, u88, u89, u90, u91, u92, u93, u94, u95, u96, u97, u98, u99, u100, undef, undef, undef, undef, undef, undef], defers := [] }) (fun _ _ _ _ _ _ h _ _ => h) ?hassign2 ?hbody2 ?hdone2 ?hstop2
        case hI2 =>
          rintro pre2 W' W'' row q hg hr
          exact q.keptN hg hr (by omega)
        case hassign2 =>
          rintro l2 pre2 x W' K hI hK
          gi_wp2
          exact hK _ _ (KeepsFrom.refl _ _) (KpB.refl _ _ _) hI rfl
        case hbody2 =>
          -- BEGIN1
          rintro l2 pre2 ⟨c, hc⟩ a2 W' - - q rfl -
          obtain ⟨st, hst2⟩ : ∃ st, (pre2.map (·.1)).foldl (addSt (L s.nt)) ((0, 1), (tierR s m t (L s.nt) (L t) ok k).2.2) = st := ⟨_, rfl⟩
          rw [hst2] at q
          have hcm : c < m := by omega
          obtain ⟨go, co, hvo, -, o0, o1, o2, -, -⟩ := (HOn.out.2 q.li).at_ (c := c) (by rw [hLn]; exact hcm)
          rw [hLn] at hvo
          obtain ⟨y0, y1, y2⟩ := blk1 q.li.onb
          rw [hvo] at y1
          obtain ⟨d0, d1, d2, d3, d4⟩ := blk2 q.box
          have j1 : (0 : Int) ≤ (c : Int) := by omega
          have j2 : (c : Int) < (m : Int) := by omega
          have HC := hide (add_any st.1 ((L s.nt).getD c (0, 1)) (w.heap.size + 1 + 1) _ W'.drew q.ldo (getD_ok HOn.out.1 c) q.li.sc.drew)
          have HS2 := hide (fun W5 hb => q.step (W5 := W5) HFar.out (by omega) HOn.out.1 c hb)
          have HQ := hide q
          have HST := hide hst2
          have e1 : (addSt (L s.nt) st c).1 = lowS (addN st.1 ((L s.nt).getD c (0, 1))) (addD st.1 ((L s.nt).getD c (0, 1))) := rfl
          rw [e1] at HS2
          have HE1 := hide e1
          clear e1
          generalize hY : (L s.nt).getD c (0, 1) = Y at o1 o2 HC HS2 HE1
          clear hY
          generalize lowS (addN st.1 Y) (addD st.1 Y) = X at HC HS2 HE1
          generalize hfit : fitP (lowP (addN st.1 Y) (addD st.1 Y)) = fit at HC HS2
          clear hfit
          unfold ldV at HC
          clear q hst2 hvo hst
          gi_wp2_with fail
          gi_region_with (gi_at_call 107; refine (CallsIn.inRound l2 (CallsIn.inRound l (hwd HC.out))).mono ?_; rintro e w5 ⟨rfl, hb5⟩; obtain ⟨f0, f1, f2, f3, f4⟩ := blk2 ((HQ.out.box.drew).off (by omega) hb5))
          all_goals (
            gi_wp2_with fail
            obtain ⟨r1, r2, r3⟩ := HS2.out _ hb5
            refine ⟨r1.from _, r2, ?_⟩
            dsimp only
            rw [List.map_append, List.foldl_append, HST.out]
            exact r3)
          -- END1
        case hdone2 =>
          rintro xs W5 hxs q
          rw [hxs] at q
          have hob : (cellsTo (s.cf t) k (s.cn t)).foldl (addSt (L s.nt)) ((0, 1), (tierR s m t (L s.nt) (L t) ok k).2.2) = onBrk s t k (L s.nt) (tierR s m t (L s.nt) (L t) ok k).2.2 := rfl
          rw [hob] at q
          clear hob hst hxs
          have HR := hide (rests_any s t k W5 ((HSS.out.below q.li.below (Nat.le_refl _)).more q.li.below.size) htn HCN.out)
          obtain ⟨x0, x1, x2, x3, -, -, -⟩ := blk3 q.li.pile
          obtain ⟨d0, d1, d2, -, -⟩ := blk2 q.brk
          have hwt : wtP s t k = (wN, 1) := by unfold wtP; rw [HWN.out]; rfl
          have hwo : LdOk (wN, 1) := by
            have h1 := (HWF.out k hlt).2
            rw [HWN.out] at h1
            exact ⟨by simp; omega, by simp, by simp⟩
          have hrl0 := HRL.out k hlt
          have hrl1 : (restL s t k).length ≤ 144 := by
            have h1 := List.length_filter_le (fun c => covB s ((t : Int) - 1) c) (cellsTo (s.cf t) k (s.cn t))
            have h2 := cellsTo_len (s.cf t) k (s.cn t)
            have h3 : (restL s t k).length = ((cellsTo (s.cf t) k (s.cn t)).filter fun c => covB s ((t : Int) - 1) c).length := rfl
            omega
          obtain ⟨R, hR⟩ : ∃ R, tierR s m t (L s.nt) (L t) ok k = R := ⟨_, rfl⟩
          have hRl : R.1.length = m := by rw [← hR]; exact tierR_len ..
          have hRc : R.2.1.length = (L t).length + k := by rw [← hR]; exact tierR_cnt ..
          obtain ⟨x, hx⟩ : ∃ x, onBrk s t k (L s.nt) R.2.2 = x := ⟨_, rfl⟩
          rw [hR, hx] at q
          have hnx : tierR s m t (L s.nt) (L t) ok (k + 1) = (layOn R.1 (restL s t k) (shBrk s t k (dnBrk s t k x.1)), R.2.1 ++ [x.1], (x.2 && dnOk s t k x.1) && shOk s t k (dnBrk s t k x.1)) := by
            rw [tierR_succ, hR, ← hx]; rfl
          unfold shBrk shOk at hnx
          unfold dnBrk dnOk at hnx
          rw [hwt] at hnx
          have HA1 := hide (fun W (hb : Below W5.heap.size W5 W) => add_any x.1 (wN, 1) (w.heap.size + 1 + 1) (!x.2) W q.ldo hwo (q.li.sc.ext hb))
          have hyo : LdOk (lowS (addN x.1 (wN, 1)) (addD x.1 (wN, 1))) := lowS_ok _ _ (Nat.mul_pos q.ldo.2.1 hwo.2.1)
          generalize hy : lowS (addN x.1 (wN, 1)) (addD x.1 (wN, 1)) = y at hnx HA1 hyo
          generalize hf1 : fitP (lowP (addN x.1 (wN, 1)) (addD x.1 (wN, 1))) = f1 at hnx HA1
          generalize hn : (restL s t k).length = n at hnx hrl0 hrl1 HR
          have hmul : y.2 * n ≤ 1000000000 * 144 := mulN_bd hyo.2.2 hrl1
          have hmul0 : 0 < y.2 * n := Nat.mul_pos hyo.2.1 hrl0
          have HA2 := hide (fun W (o : Bool) (hs : Blk W (w.heap.size + 1 + 1) 176 #[.bool o]) => lowest_any (y.1 : Int) ((y.2 : Int) * (n : Int)) y.1 (y.2 * n) (w.heap.size + 1 + 1) o W rfl (by simp) (by have := hyo.1; omega) (by omega) hmul0 hs)
          have hw2 : IntKind.i64.wrap ((y.2 : Int) * (n : Int)) = (y.2 : Int) * (n : Int) := IntWalk.i64_in _ (by
            have h1 : (y.2 : Int) * (n : Int) = ((y.2 * n : Nat) : Int) := by simp
            rw [h1]; omega)
          have HSH : Hid (LdOk (lowS y.1 (y.2 * n))) := lowS_ok _ _ hmul0
          generalize lowS y.1 (y.2 * n) = sh at hnx HA2 HSH
          generalize fitP (lowP y.1 (y.2 * n)) = f2 at hnx HA2
          have HQ := hide q
          have HXO := hide q.ldo
          have HNX := hide hnx
          clear q hnx hf1 hy hx hR hwt hwo hyo hmul hmul0
          unfold ldV at HA1 HA2
          gi_wp2_with (first | (gi_at_call 104; refine (CallsIn.inRound l (hwd HR.out)).mono ?_; rintro e w6 ⟨vr, rfl, hr6, hb6⟩; rw [hn] at hr6; obtain ⟨Ar, cr, rfl⟩ := own_shape hr6; have HR6 := hide hr6; obtain ⟨f0, f3, f4, -, -⟩ := blk2 (HQ.out.box.ext hb6); clear hr6) | (gi_at_call 107; refine (CallsIn.inRound l (hwd (HA1.out w6 hb6))).mono ?_; rintro e w7 ⟨rfl, hb7⟩; have L7 := hide ((HQ.out.li.ext hb6).scaled _ hb7)) | (gi_at_call 108; refine (CallsIn.inRound l (hwd (HA2.out _ _ (L7.out.sc.alloc _)))).mono ?_; rintro e w8 ⟨rfl, hb8⟩))
          have zq := HQ.out.qbk.lt
          have z6 := hb6.size
          have z7 := hb7.size
          rw [size_offW] at z7
          have z8 := hb8.size
          rw [size_offW, World.size_alloc] at z8
          have hob : ∀ j, j < s.nt + 2 → ∀ g, (v' j).ownBlock = some g → g < wr.heap.size := fun j hj g e => ((HL.out.own j hj).lt e).2
          have HOB := hide hob
          have L9 := hide (((L7.out.ext ((Below.refl w7.heap.size w7).alloc (Nat.le_refl _) (.cells #[.int .i64 y.1, .int .i64 y.2] 76))).scaled f2 hb8).ext ((Below.refl w8.heap.size w8).alloc (Nat.le_refl _) (.cells #[.int .i64 sh.1, .int .i64 sh.2] 76)))
          have B13 := hide ((((((HQ.out.box.ext hb6).off (by omega) hb7).alloc (.cells #[.int .i64 y.1, .int .i64 y.2] 76)).off (by omega) hb8).alloc (.cells #[.int .i64 sh.1, .int .i64 sh.2] 76)))
          have B17 := hide (Blk.new w8 76 #[.int .i64 sh.1, .int .i64 sh.2])
          have R9 := hide (((own_far ((own_far HR6.out (grown_off hb7) (by omega)).alloc (.cells #[.int .i64 y.1, .int .i64 y.2] 76)) (grown_off hb8) (by omega)).alloc (.cells #[.int .i64 sh.1, .int .i64 sh.2] 76)))
          have K9 := hide (k4.trans (HQ.out.kf.trans ((((((keepsO hb6).trans (keepsOff _ _ _ _ hb7)).trans (keepsO ((Below.refl w7.heap.size w7).alloc (Nat.le_refl _) (.cells #[.int .i64 y.1, .int .i64 y.2] 76)))).trans (keepsOff _ _ _ _ hb8)).trans (keepsO ((Below.refl w8.heap.size w8).alloc (Nat.le_refl _) (.cells #[.int .i64 sh.1, .int .i64 sh.2] 76)))).from _)))
          generalize hW9 : w8.alloc (.cells #[.int .i64 sh.1, .int .i64 sh.2] 76) = W9 at L9 B13 B17 R9 K9 ⊢
          clear hW9 hb6 hb7 hb8 hob f0 f3 f4 L7 HR6 HQ HA1 HA2 HR d0 d1 d2 x0 x1 x2 x3 l4 k4 b12 b13 b14 b15 HFar HOn HLR hlr4 hwc hwb
          obtain ⟨wo, rfl⟩ : ∃ wo : World, wo = wr := ⟨_, rfl⟩
          gi_loopw [81] (fun i wq => ∃ j : Nat, j ≤ n ∧ i = .int .i64 j ∧ Hid (LI w wq w.heap.size w1.heap.size (w1.heap.size + 1) s (s.nt + 2) v' (upd (upd L t R.2.1) (s.nt + 1) (layOn R.1 ((restL s t k).take j) sh)) ((x.2 && f1) && f2) v' (v' s.nt)) ∧ Hid (Blk wq (wo.heap.size + 1) 76 #[.int .i64 x.1.1, .int .i64 x.1.2]) ∧ Hid (Blk wq w8.heap.size 76 #[.int .i64 sh.1, .int .i64 sh.2]) ∧ Hid (wq.ownsRow W5.heap.size 3 1 (.slice Ar n cr) n ((restL s t k).map iv')) ∧ Hid (KeepsFrom (w1.heap.size + 2) W wq)) (fun i _ => n - (intOf i).toNat)
          case atStart => exact ⟨0, Nat.zero_le _, rfl, L9, B13, B17, R9, K9⟩
          case round =>
            obtain ⟨j, hj, rfl, LQ, Q13, Q17, RQ, KQ⟩ := hrel
            clear L9 B13 B17 R9 K9
            by_cases hjn : j < n
            · obtain ⟨br, u, hAr, hbr1, hbr2, hu, hcell⟩ := own_at RQ.out hjn
              obtain ⟨c, hc⟩ : ∃ c, (restL s t k)[j]? = some c := ⟨_, List.getElem?_eq_getElem (by rw [hn]; exact hjn)⟩
              rw [List.getElem?_map, hc] at hu
              have hue : u = .int .i64 c := by injection hu with hu; exact hu.symm
              subst hue
              have hcm : c < m := by have := restL_lt (List.mem_of_getElem? hc); omega
              have hown := LQ.out.own (s.nt + 1) (by omega)
              rw [upd_same] at hown
              obtain ⟨g3, cap3, hv3, ho3, hg3, e0, e1, fz0, fz1⟩ := hown.at_ (c := c) (by rw [layOn_len, hRl]; exact hcm)
              have hv3' := hv3
              rw [HV3.out, layOn_len, hRl] at hv3'
              injection hv3' with hA3 _ hc3
              subst hA3 hAr hc3
              obtain ⟨q0, q1, q2, -, -⟩ := blk2 Q17.out
              have j0 : (0 : Int) ≤ (c : Int) := by omega
              have j1 : (c : Int) < (m : Int) := by omega
              have j2 : (0 : Int) ≤ (j : Int) := by omega
              have j3 : (j : Int) < (n : Int) := by omega
              have g3lt := HOB.out _ (by omega) _ ho3
              have P1 : Hid (LI w ((wr.setCell ⟨g3, c * 2, none⟩ (.int .i64 sh.1)).setCell ⟨g3, c * 2 + 1, none⟩ (.int .i64 sh.2)) w.heap.size w1.heap.size (w1.heap.size + 1) s (s.nt + 2) v' (upd (upd L t R.2.1) (s.nt + 1) (layOn R.1 ((restL s t k).take (j + 1)) sh)) ((x.2 && f1) && f2) v' (v' s.nt)) := by
                rw [hv3, layOn_len] at hown
                have h1 := LI.turn LQ.out (k0 := s.nt + 1) (by omega) (by rw [ho3]; exact grown_set2 wr g3 (c * 2) (c * 2 + 1) (.int .i64 sh.1) (.int .i64 sh.2)) (x := v' (s.nt + 1)) (l := (layOn R.1 ((restL s t k).take j) sh).set c sh)
                  (by
                    rw [hv3, layOn_len]
                    have := OwnL.set (l := layOn R.1 ((restL s t k).take j) sh) (by rw [layOn_len]; exact hown) sh (by rw [layOn_len, hRl]; exact hcm)
                    rw [layOn_len] at this
                    exact this) (fun g e => .inl e) (fun y hy => by
                    have hok := LQ.out.okl (s.nt + 1) (by omega)
                    rw [upd_same] at hok
                    exact (List.mem_or_eq_of_mem_set hy).elim (hok y) (fun h => h ▸ HSH.out))
                rw [upd_self, upd_upd, ← layOn_take hc] at h1
                exact h1
              have P2 := hide ((Q13.out.far (p := ⟨g3, c * 2, none⟩) (by simp only []; omega) (.int .i64 sh.1)).far (p := ⟨g3, c * 2 + 1, none⟩) (by simp only []; omega) (.int .i64 sh.2))
              have P3 := hide ((Q17.out.far (p := ⟨g3, c * 2, none⟩) (by simp only []; omega) (.int .i64 sh.1)).far (p := ⟨g3, c * 2 + 1, none⟩) (by simp only []; omega) (.int .i64 sh.2))
              have P4 := hide (own_far RQ.out (grown_set2 wr g3 (c * 2) (c * 2 + 1) (.int .i64 sh.1) (.int .i64 sh.2)) (by omega))
              have P5 := hide (KQ.out.trans (((KeepsOthers.setCell wr ⟨g3, c * 2, none⟩ (.int .i64 sh.1)).trans (KeepsOthers.setCell _ ⟨g3, c * 2 + 1, none⟩ (.int .i64 sh.2))).from _))
              clear LQ Q13 Q17 RQ KQ hv3 ho3 hown hu hc
              gi_wp2_with fail
              go_roundw
              case rel => exact ⟨j + 1, by omega, by go_num, P1, P2, P3, P4, P5⟩
              case measure => simp [intOf]; omega
            · obtain rfl : j = n := by omega
              have i9 : ¬ (j : Int) < (j : Int) := by omega
              rw [List.take_of_length_le (by rw [hn]; exact Nat.le_refl _)] at LQ
              gi_wp2_with fail
              have hmix : Try.prog.follows .mixedOrders = true := by kernel_rfl
              have hU : upd (upd L t R.2.1) (s.nt + 1) (layOn R.1 (restL s t k) sh) t = R.2.1 := by rw [upd_ne _ _ (by omega), upd_same]
              have hown := LQ.out.own t (by omega)
              rw [hU] at hown
              obtain ⟨i1', hi', hz0', hz1', hz2'⟩ := info_parts info_load
              have zr := LQ.out.row.lt
              have hlb := HLB.out
              obtain ⟨g, cap, w10, happ, hown10, hgrow10, hat, hlt10⟩ := run_append_lies (P := Try.prog) (wr.drew.alloc (.cells #[.int .i64 x.1.1, .int .i64 x.1.2] 76)) 65 65 w.heap.size 76 i1' (.agg #[.int .i64 0, .int .i64 0]) 2 16 Try.underlying65 hi' hz0' hz1' hz2' rfl (by decide)
                (v' t) R.2.1.length (cellsL R.2.1) (World.ownsRow.alloc hown.drew _) ⟨wr.heap.size, 0, none⟩ 1 1 [.int .i64 x.1.1, .int .i64 x.1.2] rfl (fun j u hu => by
                  rw [add_lit']
                  have := (Blk.new wr.drew 76 #[.int .i64 x.1.1, .int .i64 x.1.2]).cell j
                  simpa [hu] using this) (by simp [Value.oneCell']) (by omega) (by unfold maxLen; omega) (by omega) (by simp only [World.size_alloc]; simp only [World.drew]; omega) (wr.heap.size + 1) (by simp)
              have LA := LQ.out.ext (((Below.refl wr.heap.size wr).drew).alloc (Nat.le_refl _) (.cells #[.int .i64 x.1.1, .int .i64 x.1.2] 76))
              have L10 := hide (LI.turn LA (k0 := t) (by omega) hgrow10 (x := .slice (some ⟨g, 0, none⟩) (R.2.1.length + 1) cap) (l := R.2.1 ++ [x.1]) (by
                  unfold OwnL
                  rw [cellsL_append, List.length_append]
                  exact hown10) (fun g' e => by
                  have e' : g = g' := by simpa [Value.ownBlock] using e
                  subst e'
                  rcases hat with h | h
                  · exact .inl h
                  · right; rw [h]; simp only [World.size_alloc]; exact Nat.le_refl _) (fun y hy => by
                  have hok := LQ.out.okl t (by omega)
                  rw [hU] at hok
                  rcases List.mem_append.1 hy with h | h
                  · exact hok y h
                  · rw [List.mem_singleton.1 h]; exact HXO.out))
              obtain ⟨c0, c1', c2⟩ := blk1 LQ.out.outb
              obtain ⟨y0, y1, y2⟩ := blk1 L10.out.outb
              have r1 := LQ.out.row.cell t
              rw [rowV_get _ _ htn] at r1
              have r2 := L10.out.row.cell t
              rw [rowV_get _ _ htn] at r2
              have r3 := L10.out.row.frozen t
              obtain ⟨d0, d1, d2, -, -⟩ := blk2 Q13.out
              have P13 := hide ((Q13.out.drew.alloc (.cells #[.int .i64 x.1.1, .int .i64 x.1.2] 76)).grown hgrow10 (fun e => by have := HOB.out t (by omega) _ e.symm; omega))
              obtain ⟨b0, b1, b2, -, -⟩ := blk2 P13.out
              have K10 := hide (KQ.out.trans (((keepsO (((Below.refl wr.heap.size wr).drew).alloc (Nat.le_refl _) (.cells #[.int .i64 x.1.1, .int .i64 x.1.2] 76))).trans (keepsGrown (World.ownsRow.alloc hown.drew _) hgrow10)).from _))
              have zg := hgrow10.size
              have t0 : (0 : Int) ≤ (t : Int) := by omega
              have t1 : (t : Int) < (s.nt : Int) := by omega
              simp only [World.size_alloc] at zg
              clear LA hown10 hgrow10 hat hU hown hRl hRc hi' hz0' hz1' hz2' hw2 hn LQ Q13 Q17 RQ KQ P13
              have hHeld : (fun W : World => W.cell? ⟨w.heap.size + 1, 0, none⟩ = some (.slice (some ⟨w.heap.size + 3, 0, none⟩) s.nt s.nt) ∧ W.cell? ⟨w.heap.size + 3, t, none⟩ = some (v' t) ∧ W.cell? ⟨wo.heap.size + 1, 0, none⟩ = some (.int .i64 x.1.1) ∧ W.cell? ⟨wo.heap.size + 1, 1, none⟩ = some (.int .i64 x.1.2)) wr.drew := ⟨c1', r1, d1, d2⟩
              have HH1 := hide hHeld
              have HH2 : Hid ((fun W : World => W.cell? ⟨w.heap.size + 1, 0, none⟩ = some (.slice (some ⟨w.heap.size + 3, 0, none⟩) s.nt s.nt) ∧ W.cell? ⟨w.heap.size + 3, t, none⟩ = some (v' t) ∧ W.cell? ⟨wo.heap.size + 1, 0, none⟩ = some (.int .i64 x.1.1) ∧ W.cell? ⟨wo.heap.size + 1, 1, none⟩ = some (.int .i64 x.1.2)) w10) := hide ⟨y1, r2, b1, b2⟩
              have HAP := hide happ
              clear hHeld happ
              refine wpIn_region_J (fun W : World => W.cell? ⟨w.heap.size + 1, 0, none⟩ = some (.slice (some ⟨w.heap.size + 3, 0, none⟩) s.nt s.nt) ∧ W.cell? ⟨w.heap.size + 3, t, none⟩ = some (v' t) ∧ W.cell? ⟨wo.heap.size + 1, 0, none⟩ = some (.int .i64 x.1.1) ∧ W.cell? ⟨wo.heap.size + 1, 1, none⟩ = some (.int .i64 x.1.2)) hmix ?_
              refine wpAnyJ_take 0 (v := ?_) (by first | exact hF | exact wideFn) HH1.out rfl (by kernel_rfl) (by kernel_rfl) (by kernel_rfl) (by kernel_rfl) rfl ?_ (by first | exact fun _ _ _ h => h | exact fun _ _ _ h => hQ2 _ _ _ _ _ h) ?_
              rotate_left
              · intro W hSW
                simp only [List.getElem_toArray, List.getElem_cons_zero, List.getElem_cons_succ]
                (try dsimp only at hSW)
                go_simp
                with_reducible rfl
              (try simp only [List.getElem_toArray, List.getElem_cons_zero, List.getElem_cons_succ, Act.put, List.setIfInBounds_toArray, List.set_cons_zero, List.set_cons_succ])
              refine wpAnyJ_take 1 (v := ?_) (by first | exact hF | exact wideFn) HH1.out rfl (by kernel_rfl) (by kernel_rfl) (by kernel_rfl) (by kernel_rfl) rfl ?_ (by first | exact fun _ _ _ h => h | exact fun _ _ _ h => hQ2 _ _ _ _ _ h) ?_
              rotate_left
              · intro W hSW
                simp only [List.getElem_toArray, List.getElem_cons_zero, List.getElem_cons_succ]
                (try dsimp only at hSW)
                go_simp
                with_reducible rfl
              (try simp only [List.getElem_toArray, List.getElem_cons_zero, List.getElem_cons_succ, Act.put, List.setIfInBounds_toArray, List.set_cons_zero, List.set_cons_succ])
              refine wpAnyJ_take 2 (v := ?_) (by first | exact hF | exact wideFn) HH1.out rfl (by kernel_rfl) (by kernel_rfl) (by kernel_rfl) (by kernel_rfl) rfl ?_ (by first | exact fun _ _ _ h => h | exact fun _ _ _ h => hQ2 _ _ _ _ _ h) ?_
              rotate_left
              · intro W hSW
                simp only [List.getElem_toArray, List.getElem_cons_zero, List.getElem_cons_succ]
                (try dsimp only at hSW)
                go_simp
                with_reducible rfl
              (try simp only [List.getElem_toArray, List.getElem_cons_zero, List.getElem_cons_succ, Act.put, List.setIfInBounds_toArray, List.set_cons_zero, List.set_cons_succ])
              refine wpAnyJ_take 3 (v := ?_) (by first | exact hF | exact wideFn) HH1.out rfl (by kernel_rfl) (by kernel_rfl) (by kernel_rfl) (by kernel_rfl) rfl ?_ (by first | exact fun _ _ _ h => h | exact fun _ _ _ h => hQ2 _ _ _ _ _ h) ?_
              rotate_left
              · intro W hSW
                simp only [List.getElem_toArray, List.getElem_cons_zero, List.getElem_cons_succ]
                (try dsimp only at hSW)
                go_simp
                with_reducible rfl
              (try simp only [List.getElem_toArray, List.getElem_cons_zero, List.getElem_cons_succ, Act.put, List.setIfInBounds_toArray, List.set_cons_zero, List.set_cons_succ])
              refine wpAnyJ_take 4 (v := ?_) (by first | exact hF | exact wideFn) HH1.out rfl (by kernel_rfl) (by kernel_rfl) (by kernel_rfl) (by kernel_rfl) rfl ?_ (by first | exact fun _ _ _ h => h | exact fun _ _ _ h => hQ2 _ _ _ _ _ h) ?_
              rotate_left
              · intro W hSW
                simp only [List.getElem_toArray, List.getElem_cons_zero, List.getElem_cons_succ]
                (try dsimp only at hSW)
                go_simp
                with_reducible rfl
              (try simp only [List.getElem_toArray, List.getElem_cons_zero, List.getElem_cons_succ, Act.put, List.setIfInBounds_toArray, List.set_cons_zero, List.set_cons_succ])
              refine wpAnyJ_take 5 (v := ?_) (by first | exact hF | exact wideFn) HH1.out rfl (by kernel_rfl) (by kernel_rfl) (by kernel_rfl) (by kernel_rfl) rfl ?_ (by first | exact fun _ _ _ h => h | exact fun _ _ _ h => hQ2 _ _ _ _ _ h) ?_
              rotate_left
              · intro W hSW
                simp only [List.getElem_toArray, List.getElem_cons_zero, List.getElem_cons_succ]
                (try dsimp only at hSW)
                go_simp
                with_reducible rfl
              (try simp only [List.getElem_toArray, List.getElem_cons_zero, List.getElem_cons_succ, Act.put, List.setIfInBounds_toArray, List.set_cons_zero, List.set_cons_succ])
              refine wpAnyJ_take 6 (v := ?_) (by first | exact hF | exact wideFn) HH1.out rfl (by kernel_rfl) (by kernel_rfl) (by kernel_rfl) (by kernel_rfl) rfl ?_ (by first | exact fun _ _ _ h => h | exact fun _ _ _ h => hQ2 _ _ _ _ _ h) ?_
              rotate_left
              · intro W hSW
                simp only [List.getElem_toArray, List.getElem_cons_zero, List.getElem_cons_succ]
                (try dsimp only at hSW)
                go_simp
                with_reducible rfl
              (try simp only [List.getElem_toArray, List.getElem_cons_zero, List.getElem_cons_succ, Act.put, List.setIfInBounds_toArray, List.set_cons_zero, List.set_cons_succ])
              have HH3 := hide (And.intro ((World.cell?_alloc_some wr.drew ⟨w.heap.size + 1, 0, none⟩ (.cells #[.int .i64 x.1.1, .int .i64 x.1.2] 76) (by rw [HH1.out.1]; rfl)).trans HH1.out.1) (And.intro ((World.cell?_alloc_some wr.drew ⟨w.heap.size + 3, t, none⟩ (.cells #[.int .i64 x.1.1, .int .i64 x.1.2] 76) (by rw [HH1.out.2.1]; rfl)).trans HH1.out.2.1)
                (And.intro ((World.cell?_alloc_some wr.drew ⟨wo.heap.size + 1, 0, none⟩ (.cells #[.int .i64 x.1.1, .int .i64 x.1.2] 76) (by rw [HH1.out.2.2.1]; rfl)).trans HH1.out.2.2.1) ((World.cell?_alloc_some wr.drew ⟨wo.heap.size + 1, 1, none⟩ (.cells #[.int .i64 x.1.1, .int .i64 x.1.2] 76) (by rw [HH1.out.2.2.2]; rfl)).trans HH1.out.2.2.2))))
              refine wpAnyJ_one 7 rfl (by kernel_rfl) (fun K hK => ?_)
              simp only [List.getElem_toArray, List.getElem_cons_zero, List.getElem_cons_succ]
              go_simp
              refine hK.out _ _ (fun _ => HH3.out) ?_
              clear hK K
              (try simp only [List.getElem_toArray, List.getElem_cons_zero, List.getElem_cons_succ, Act.put, List.setIfInBounds_toArray, List.set_cons_zero, List.set_cons_succ])
              refine wpAnyJ_one 8 rfl (by kernel_rfl) (fun K hK => ?_)
              rw [if_pos (by rfl)]
              refine wpIn_append_run (.tmp 95) (.tmp 97) 65 (by first | exact hF | exact wideFn) rfl rfl rfl HAP.out ?_
              refine hK.out _ _ (fun _ => HH2.out) ?_
              clear hK K
              (try simp only [List.getElem_toArray, List.getElem_cons_zero, List.getElem_cons_succ, Act.put, List.setIfInBounds_toArray, List.set_cons_zero, List.set_cons_succ])
              refine wpAnyJ_take 9 (v := ?_) (by first | exact hF | exact wideFn) HH2.out rfl (by kernel_rfl) (by kernel_rfl) (by kernel_rfl) (by kernel_rfl) rfl ?_ (by first | exact fun _ _ _ h => h | exact fun _ _ _ h => hQ2 _ _ _ _ _ h) ?_
              rotate_left
              · intro W hSW
                simp only [List.getElem_toArray, List.getElem_cons_zero, List.getElem_cons_succ]
                (try dsimp only at hSW)
                go_simp
                with_reducible rfl
              (try simp only [List.getElem_toArray, List.getElem_cons_zero, List.getElem_cons_succ, Act.put, List.setIfInBounds_toArray, List.set_cons_zero, List.set_cons_succ])
              refine wpAnyJ_one 10 rfl (by kernel_rfl) (fun K hK => ?_)
              simp only [List.getElem_toArray, List.getElem_cons_zero, List.getElem_cons_succ]
              go_simp
              refine hK.out _ _ (fun h => absurd h (by rw [show lastOp _ _ _ = true from by kernel_rfl]; simp)) ?_
              clear hK K
              (try simp only [List.getElem_toArray, List.getElem_cons_zero, List.getElem_cons_succ, Act.put, List.setIfInBounds_toArray, List.set_cons_zero, List.set_cons_succ])
              refine wpAnyJ_done (by kernel_rfl) ?_
              have L11 := hide (L10.out.setRow t (.slice (some ⟨g, 0, none⟩) (R.2.1.length + 1) cap))
              clear c0 c1' c2 y0 y1 y2 r1 r2 r3 d0 d1 d2 b0 b1 b2 HH1 HH2 HH3 HAP L10 hmix hj hjn i9 hrl0 hrl1 zg hlt10 hlb t0 t1 zr zq z6 z7 z8 z9 hz4
              gi_wp2_with fail
              go_roundw
              case rel =>
                refine ⟨k + 1, upd v' t (.slice (some ⟨g, 0, none⟩) (R.2.1.length + 1) cap), by omega, by go_num, hide ?_, hide ?_, hide (K10.out.trans ((KeepsOthers.setCell _ _ _).from _))⟩
                · rw [HNX.out, upd_ne v' _ (show s.nt ≠ t by omega)]
                  refine L11.out.congr (fun q _ => ?_) (fun _ _ => rfl)
                  show upd (upd (upd L t R.2.1) (s.nt + 1) (layOn R.1 (restL s t k) sh)) t (R.2.1 ++ [x.1]) q = upd (upd L t (R.2.1 ++ [x.1])) (s.nt + 1) (layOn R.1 (restL s t k) sh) q
                  by_cases e : q = t
                  · rw [e, upd_same, upd_ne _ _ (show t ≠ s.nt + 1 by omega), upd_same]
                  · rw [upd_ne _ _ e]
                    by_cases e2 : q = s.nt + 1
                    · rw [e2, upd_same, upd_same]
                    · rw [upd_ne _ _ e2, upd_ne _ _ e, upd_ne _ _ e2, upd_ne _ _ e]
                · rw [upd_ne v' _ (show s.nt + 1 ≠ t by omega)]
                  exact HV3.out
              case measure => simp [intOf]; omega
        case hstop2 => exact fun _ _ _ _ h => h.elim
      · obtain rfl : k = s.wn t := by omega
        have i2 : ¬ (s.wn t : Int) < (s.wn t : Int) := by omega
        obtain ⟨y0, y1, y2⟩ := blk1 HL.out.onb
        gi_wp2_with fail
        refine HG.out _ (upd v' s.nt (v' (s.nt + 1))) ?_ (HK.out.trans ((KeepsOthers.setCell _ _ _).from _))
        rw [upd_same, ← HV3.out]
        refine ((HL.out.setOn (v' (s.nt + 1))).drop).congr (fun k hk => ?_) (fun k hk => (upd_ne _ _ (by omega)).symm)
        show _ = upd (upd L t (tierR s m t (L s.nt) (L t) ok (s.wn t)).2.1) s.nt (tierR s m t (L s.nt) (L t) ok (s.wn t)).1 k
        by_cases e : k = s.nt
        · subst e; rw [upd_same, upd_same, upd_same]
        · rw [upd_ne _ _ e, upd_ne _ _ e, upd_ne _ _ (by omega)]
  case hdone =>
    rintro D xs W hD hxs ⟨v, h⟩ hK
    rw [hxs] at h
    have P := hide h
    obtain ⟨y0, y1, y2⟩ := blk1 h.onb
    obtain ⟨c0, c1, c2⟩ := blk1 h.outb
    obtain ⟨d0, d1, d2⟩ := blk1 h.sc
    obtain ⟨A2, cc2, hv2⟩ := (h.own s.nt (by omega)).shape
    rw [hv2] at y1
    have HV2 := hide hv2
    clear h hxs hst hv2
    generalize hR : loadsF s m (backTo s.nt 0) = R at *
    generalize hl2 : (R.1 s.nt).length = n2 at *
    have eF := HF.out
    subst eF
    gi_wp2_with fail
    gi_region
    gi_wp2_with fail
    have P5 := LI.ext P.out.setOut (Below.refl _ _).drew
    have hK' : (W.setCell ⟨w.heap.size + 1, 0, none⟩ (.slice (some ⟨w.heap.size + 3, 0, none⟩) s.nt s.nt)).drew.heap[D]? = some (.deferred (some [])) := (KeepsOthers.setCell W ⟨w.heap.size + 1, 0, none⟩ (.slice (some ⟨w.heap.size + 3, 0, none⟩) s.nt s.nt)).same D _ hK rfl
    generalize (W.setCell ⟨w.heap.size + 1, 0, none⟩ (.slice (some ⟨w.heap.size + 3, 0, none⟩) s.nt s.nt)).drew = W5 at P5 hK' ⊢
    refine ⟨by simp, .inl ⟨_, _, rfl, run_takeDeferred hK', ?_⟩⟩
    have P6 := P5.keptN (grownBy_putObj' W5 D (.deferred none)) (fun r e => by cases e; exact ⟨by omega, _, hK', rfl⟩)
    obtain ⟨g0, g1, g2⟩ := blk1 P6.outb
    have HV3 := HV2.out
    refine ⟨.tuple #[.slice (some ⟨w.heap.size + 3, 0, none⟩) s.nt s.nt, .slice A2 n2 cc2, .bool R.2], by simp [results, Try.results74, go_sem, g1], ?_⟩
    refine ⟨v, by rw [hR, HV3], P6.below, P6.row, fun k hk => by rw [hR]; exact P6.own k (by omega)⟩
  case hstop =>
    rintro D c pre W hD hSp h hK
    exact h.elim
end Go.Proofs.Ytlhekifmkkgjlaa
/- Contracts of chapter 8 on stacks: Loads. -/
namespace Go.Proofs.Ytlhekifmkkgjlaa
open Go Go.RowKit Go.Shelf
set_option maxHeartbeats 1000000
@[go_sem] theorem field_brick0 (a b : Value) (w : World) : (Instr.field 59 (.agg #[a, b]) 0).run Try.prog w = .ok a w := by kernel_rfl
@[go_sem] theorem field_brick1 (a b : Value) (w : World) : (Instr.field 59 (.agg #[a, b]) 1).run Try.prog w = .ok b w := by kernel_rfl
theorem mem_bricksTo (wn : Nat → Nat) (n t i : Nat) : (t, i) ∈ bricksTo wn n ↔ t < n ∧ i < wn t := by
  simp only [bricksTo, rowTo, List.mem_flatMap, List.mem_map, List.mem_range, Prod.mk.injEq]
  constructor
  · rintro ⟨a, ha, b, hb, rfl, rfl⟩; exact ⟨ha, hb⟩
  · rintro ⟨ha, hb⟩; exact ⟨t, ha, i, hb, rfl, rfl⟩
theorem firstOf_neg {p : Nat → Nat → Bool} {l : List (Nat × Nat)} (h : (firstOf p l).1 < 0) : ∀ x ∈ l, p x.1 x.2 = false := by
  intro x hx
  unfold firstOf at h
  cases hf : l.find? (fun x => p x.1 x.2) with
  | none => simpa using List.find?_eq_none.1 hf x hx
  | some y => rw [hf] at h; simp at h; omega
theorem stack_cn {s : Stk} (h : stackB s = true) : ∀ k, k < s.nt → (s.cn k : Int) = s.wd * s.hg := by
  intro k hk
  have h1 := ((stackB_iff s).1 h).2.2 k hk
  simp only [tierB, Bool.and_eq_true, decide_eq_true_eq] at h1
  exact h1.1
/-- the number of cells of a floor -/
def flr (s : Stk) : Nat := (s.wd * s.hg).toNat
theorem flr_eq {s : Stk} (h : stackB s = true) : (flr s : Int) = s.wd * s.hg := by
  have h1 := ((stackB_iff s).1 h).1
  have := Int.mul_pos (a := s.wd) (b := s.hg) (by omega) (by omega)
  unfold flr; omega
theorem Loads_arg (s : Stk) (w : World) (hs : StkR w w.heap.size s) (h : stackB s = false) :
    Calls Try.prog 32 #[.agg #[.int .i64 s.wd, .int .i64 s.hg, .slice s.A s.nt s.cap]] w fun e w' => e = .returned (.tuple #[.slice none 0 0, .slice none 0 0, .int .i64 2]) ∧ Below w.heap.size w w' := by
  have HB := hide ((Below.refl w.heap.size w).alloc (Nat.le_refl _) (.cells #[.int .i64 s.wd, .int .i64 s.hg, .slice s.A s.nt s.cap] 55))
  have HC := hide (newPile_any s (w.alloc (.cells #[.int .i64 s.wd, .int .i64 s.hg, .slice s.A s.nt s.cap] 55)) ((hs.below HB.out (Nat.le_refl _)).more HB.out.size))
  rw [stkE_no h] at HC
  clear h hs
  go_enter Try.func32, Try.ntmps32
  go_wp2_with fail
  refine HC.out.mono ?_
  rintro e w1 ⟨rfl, hb1⟩
  go_wp2_with fail
  go_ret3
  have hB := HB.out.trans (hb1.mono HB.out.size)
  exact ⟨rfl, hB.alloc hB.size _⟩
theorem Loads_falls (s : Stk) (w : World) (hs : StkR w w.heap.size s) (h : stackB s = true) (hf : 0 ≤ (hangF s).1) :
    Calls Try.prog 32 #[.agg #[.int .i64 s.wd, .int .i64 s.hg, .slice s.A s.nt s.cap]] w fun e w' => e = .returned (.tuple #[.slice none 0 0, .slice none 0 0, .int .i64 80]) ∧ Below w.heap.size w w' := by
  have HB := hide ((Below.refl w.heap.size w).alloc (Nat.le_refl _) (.cells #[.int .i64 s.wd, .int .i64 s.hg, .slice s.A s.nt s.cap] 55))
  have HC := hide (newPile_any s (w.alloc (.cells #[.int .i64 s.wd, .int .i64 s.hg, .slice s.A s.nt s.cap] 55)) ((hs.below HB.out (Nat.le_refl _)).more HB.out.size))
  rw [stkE_ok h] at HC
  have HH := hide (fun W (hb : Below w.heap.size w W) => hangs_any s (flr s) W ((hs.below hb (Nat.le_refl _)).more hb.size) (fun k hk => by have h1 := flr_eq h; have h2 := stack_cn h k hk; omega))
  generalize hangF s = R at HH hf
  unfold brV at HH
  clear h hs
  go_enter Try.func32, Try.ntmps32
  go_wp2_with fail
  refine HC.out.mono ?_
  rintro e w1 ⟨rfl, hb1⟩
  have hB := hide (HB.out.trans (hb1.mono HB.out.size))
  go_wp2_with fail
  refine (HH.out _ (hB.out.alloc hB.out.size _)).mono ?_
  rintro e w2 ⟨rfl, hb2⟩
  go_wp2_with fail
  go_ret3
  exact ⟨rfl, (hB.out.alloc hB.out.size (.cells #[.int .i64 s.wd, .int .i64 s.hg, .slice s.A s.nt s.cap] 131)).trans (hb2.mono (by have := hB.out.size; simp only [World.size_alloc]; omega))⟩
/-- nothing hangs -/
theorem hangF_none {s : Stk} (hf : (hangF s).1 < 0) : ∀ t i, t < s.nt → i < s.wn t → hangP s t i = false := fun t i ht hi => firstOf_neg hf (t, i) ((mem_bricksTo _ _ _ _).2 ⟨ht, hi⟩)
def LoadsB (s : Stk) : Bool := (loadsF s (flr s) (backTo s.nt 0)).2
def LoadsL (s : Stk) (k : Nat) : List (Nat × Nat) := (loadsF s (flr s) (backTo s.nt 0)).1 k
theorem Loads_over (s : Stk) (w : World) (hs : StkR w w.heap.size s) (h : stackB s = true) (hf : (hangF s).1 < 0) (ho : LoadsB s = false) :
    Calls Try.prog 32 #[.agg #[.int .i64 s.wd, .int .i64 s.hg, .slice s.A s.nt s.cap]] w fun e w' => e = .returned (.tuple #[.slice none 0 0, .slice none 0 0, .int .i64 10]) ∧ Below w.heap.size w w' := by
  have HB := hide ((Below.refl w.heap.size w).alloc (Nat.le_refl _) (.cells #[.int .i64 s.wd, .int .i64 s.hg, .slice s.A s.nt s.cap] 55))
  have HC := hide (newPile_any s (w.alloc (.cells #[.int .i64 s.wd, .int .i64 s.hg, .slice s.A s.nt s.cap] 55)) ((hs.below HB.out (Nat.le_refl _)).more HB.out.size))
  rw [stkE_ok h] at HC
  have HH := hide (fun W (hb : Below w.heap.size w W) => hangs_any s (flr s) W ((hs.below hb (Nat.le_refl _)).more hb.size) (fun k hk => by have h1 := flr_eq h; have h2 := stack_cn h k hk; omega))
  have HL := hide (fun W (hb : Below w.heap.size w W) => loads_any s (flr s) W ((hs.below hb (Nat.le_refl _)).more hb.size) h (flr_eq h) (hangF_none hf))
  generalize hangF s = R at HH hf
  unfold brV at HH
  unfold LoadsPost at HL
  rw [show (loadsF s (flr s) (backTo s.nt 0)).2 = false from ho] at HL
  have hf' : ¬ 0 ≤ R.1 := by omega
  clear h hs ho hf
  go_enter Try.func32, Try.ntmps32
  go_wp2_with fail
  refine HC.out.mono ?_
  rintro e w1 ⟨rfl, hb1⟩
  have hB := hide (HB.out.trans (hb1.mono HB.out.size))
  have HK := hide (Blk.new w1 131 #[.int .i64 s.wd, .int .i64 s.hg, .slice s.A s.nt s.cap])
  have HZ := hide ((hB.out.alloc hB.out.size (.cells #[.int .i64 s.wd, .int .i64 s.hg, .slice s.A s.nt s.cap] 131)))
  go_wp2_with fail
  refine (HH.out _ HZ.out).mono ?_
  rintro e w2 ⟨rfl, hb2⟩
  obtain ⟨x0, x1, x2, x3, -, -, -⟩ := blk3 (HK.out.ext hb2)
  have HY := hide (HZ.out.trans (hb2.mono HZ.out.size))
  go_wp2_with fail
  refine (HL.out _ HY.out).mono ?_
  rintro e w3 ⟨v, rfl, hb3, -, -⟩
  go_wp2_with fail
  go_ret3
  exact ⟨rfl, HY.out.trans (hb3.mono HY.out.size)⟩
/-- what Loads returns -/
def LoadsOk (s : Stk) (w : World) (e : Ending) (w' : World) : Prop :=
  ∃ (z : Nat) (v : Nat → Value), w.heap.size ≤ z ∧ e = .returned (.tuple #[.slice (some ⟨z + 3, 0, none⟩) s.nt s.nt, v s.nt, .int .i64 0]) ∧ Below w.heap.size w w' ∧
    Blk w' (z + 3) 65 (rowV s.nt v) ∧ ∀ k, k ≤ s.nt → OwnL w' z (v k) (LoadsL s k)
theorem Loads_ok (s : Stk) (w : World) (hs : StkR w w.heap.size s) (h : stackB s = true) (hf : (hangF s).1 < 0) (ho : LoadsB s = true) :
    Calls Try.prog 32 #[.agg #[.int .i64 s.wd, .int .i64 s.hg, .slice s.A s.nt s.cap]] w (LoadsOk s w) := by
  have HB := hide ((Below.refl w.heap.size w).alloc (Nat.le_refl _) (.cells #[.int .i64 s.wd, .int .i64 s.hg, .slice s.A s.nt s.cap] 55))
  have HC := hide (newPile_any s (w.alloc (.cells #[.int .i64 s.wd, .int .i64 s.hg, .slice s.A s.nt s.cap] 55)) ((hs.below HB.out (Nat.le_refl _)).more HB.out.size))
  rw [stkE_ok h] at HC
  have HH := hide (fun W (hb : Below w.heap.size w W) => hangs_any s (flr s) W ((hs.below hb (Nat.le_refl _)).more hb.size) (fun k hk => by have h1 := flr_eq h; have h2 := stack_cn h k hk; omega))
  have HL := hide (fun W (hb : Below w.heap.size w W) => loads_any s (flr s) W ((hs.below hb (Nat.le_refl _)).more hb.size) h (flr_eq h) (hangF_none hf))
  generalize hangF s = R at HH hf
  unfold brV at HH
  unfold LoadsPost at HL
  rw [show (loadsF s (flr s) (backTo s.nt 0)).2 = true from ho] at HL
  have hf' : ¬ 0 ≤ R.1 := by omega
  clear h hs ho hf
  go_enter Try.func32, Try.ntmps32
  go_wp2_with fail
  refine HC.out.mono ?_
  rintro e w1 ⟨rfl, hb1⟩
  have hB := hide (HB.out.trans (hb1.mono HB.out.size))
  have HK := hide (Blk.new w1 131 #[.int .i64 s.wd, .int .i64 s.hg, .slice s.A s.nt s.cap])
  have HZ := hide ((hB.out.alloc hB.out.size (.cells #[.int .i64 s.wd, .int .i64 s.hg, .slice s.A s.nt s.cap] 131)))
  go_wp2_with fail
  refine (HH.out _ HZ.out).mono ?_
  rintro e w2 ⟨rfl, hb2⟩
  obtain ⟨x0, x1, x2, x3, -, -, -⟩ := blk3 (HK.out.ext hb2)
  have HY := hide (HZ.out.trans (hb2.mono HZ.out.size))
  go_wp2_with fail
  refine (HL.out _ HY.out).mono ?_
  rintro e w3 ⟨v, rfl, hb3, hr, ho⟩
  have HR := hide hr
  have HO := hide ho
  clear hr ho
  go_wp2_with fail
  go_ret3
  exact ⟨w2.heap.size, v, HY.out.size, rfl, HY.out.trans (hb3.mono HY.out.size), HR.out, HO.out⟩
end Go.Proofs.Ytlhekifmkkgjlaa
/- Boxes known whole: what their cells hold. -/
namespace Go.Proofs.Ytlhekifmkkgjlaa
open Go Go.RowKit
section
variable {w : World} {p : Nat} {t : TypeId} {a b c d e f g : Value}
theorem bx1 (h : Blk w p t #[a]) : p < w.heap.size ∧ w.cell? ⟨p, 0, none⟩ = some a := ⟨h.lt, by rw [h.cell]; rfl⟩
theorem bx2 (h : Blk w p t #[a, b]) : p < w.heap.size ∧ w.cell? ⟨p, 0, none⟩ = some a ∧ w.cell? ⟨p, 1, none⟩ = some b := ⟨h.lt, by rw [h.cell]; rfl, by rw [h.cell]; rfl⟩
theorem bx3 (h : Blk w p t #[a, b, c]) : p < w.heap.size ∧ w.cell? ⟨p, 0, none⟩ = some a ∧ w.cell? ⟨p, 1, none⟩ = some b ∧ w.cell? ⟨p, 2, none⟩ = some c := ⟨h.lt, by rw [h.cell]; rfl, by rw [h.cell]; rfl, by rw [h.cell]; rfl⟩
theorem bx4 (h : Blk w p t #[a, b, c, d]) : p < w.heap.size ∧ w.cell? ⟨p, 0, none⟩ = some a ∧ w.cell? ⟨p, 1, none⟩ = some b ∧ w.cell? ⟨p, 2, none⟩ = some c ∧ w.cell? ⟨p, 3, none⟩ = some d :=
  ⟨h.lt, by rw [h.cell]; rfl, by rw [h.cell]; rfl, by rw [h.cell]; rfl, by rw [h.cell]; rfl⟩
theorem bx5 (h : Blk w p t #[a, b, c, d, e]) : p < w.heap.size ∧ w.cell? ⟨p, 0, none⟩ = some a ∧ w.cell? ⟨p, 1, none⟩ = some b ∧ w.cell? ⟨p, 2, none⟩ = some c ∧ w.cell? ⟨p, 3, none⟩ = some d ∧ w.cell? ⟨p, 4, none⟩ = some e :=
  ⟨h.lt, by rw [h.cell]; rfl, by rw [h.cell]; rfl, by rw [h.cell]; rfl, by rw [h.cell]; rfl, by rw [h.cell]; rfl⟩
theorem bx7 (h : Blk w p t #[a, b, c, d, e, f, g]) : p < w.heap.size ∧ w.cell? ⟨p, 0, none⟩ = some a ∧ w.cell? ⟨p, 1, none⟩ = some b ∧ w.cell? ⟨p, 2, none⟩ = some c ∧ w.cell? ⟨p, 3, none⟩ = some d ∧ w.cell? ⟨p, 4, none⟩ = some e ∧ w.cell? ⟨p, 5, none⟩ = some f ∧ w.cell? ⟨p, 6, none⟩ = some g :=
  ⟨h.lt, by rw [h.cell]; rfl, by rw [h.cell]; rfl, by rw [h.cell]; rfl, by rw [h.cell]; rfl, by rw [h.cell]; rfl, by rw [h.cell]; rfl, by rw [h.cell]; rfl⟩
end
section
variable {F : Fence} {n : Nat} {P : Program} {ops : Array Oper} {Q : Exit → Act → World → Prop} {md : Region.Mode} {S : World → Prop}
/-- one of two operations comes up -/
theorem wpAnyJ_two (i j : Nat) {oi oj : Oper} {fuel : Nat} {listed : Array Bool} {a : Act} {w : World} (hi : ops[i]? = some oi) (hj : ops[j]? = some oj) (hr : Region.ready md ops listed = [i, j])
    (h : ∀ K : Act → World → Prop, Hid (∀ a w, (lastOp md ops i = false → S w) → wpAnyJ F n P md ops Q S fuel (listed.setIfInBounds i true) a w → K a w) → if Region.wanted oi (yielded ops a.tmps) = true then oi.wpIn F n P a w K Q else (∀ f, oi.about P w a.eval = some f → F.fn f) ∧ K (a.put oi.dst undef) w)
    (h' : ∀ K : Act → World → Prop, Hid (∀ a w, (lastOp md ops j = false → S w) → wpAnyJ F n P md ops Q S fuel (listed.setIfInBounds j true) a w → K a w) → if Region.wanted oj (yielded ops a.tmps) = true then oj.wpIn F n P a w K Q else (∀ f, oj.about P w a.eval = some f → F.fn f) ∧ K (a.put oj.dst undef) w) :
    wpAnyJ F n P md ops Q S (fuel + 1) listed a w := by
  refine ⟨fun h0 => (by rw [hr] at h0; cases h0), fun k hk => ?_⟩
  rw [hr] at hk
  rcases List.mem_cons.1 hk with rfl | hk
  · have h1 := h (fun a' w' => (lastOp md ops k = false → S w') ∧ wpAnyJ F n P md ops Q S fuel (listed.setIfInBounds k true) a' w') (show Hid _ from fun a w h1 h2 => ⟨h1, h2⟩)
    unfold wpOpIn
    simp only [hi]
    exact h1
  · obtain rfl := List.mem_singleton.1 hk
    have h1 := h' (fun a' w' => (lastOp md ops k = false → S w') ∧ wpAnyJ F n P md ops Q S fuel (listed.setIfInBounds k true) a' w') (show Hid _ from fun a w h1 h2 => ⟨h1, h2⟩)
    unfold wpOpIn
    simp only [hj]
    exact h1
end
/-- a piece of code that ends normally, in one of the states that R tells; what follows is shown once -/
def OnlyNormal (R : Act → World → Prop) : Exit → Act → World → Prop
  | .normal, a, w => R a w
  | _, _, _ => False
theorem OnlyNormal.imp {R : Act → World → Prop} {Q : Exit → Act → World → Prop} (h2 : ∀ a' w', R a' w' → Q .normal a' w') : ∀ e a w, OnlyNormal R e a w → Q e a w := fun e a w h => by
  cases e with
  | normal => exact h2 a w h
  | _ => exact (h : False).elim
theorem wp_cut {P : Program} {c : Code} {Q : Exit → Act → World → Prop} {a : Act} {w : World} (R : Act → Act → World → Prop) (h1 : c.wp P (OnlyNormal (R a)) a w) (h2 : ∀ a' w', R a a' w' → Q .normal a' w') : c.wp P Q a w :=
  wp_mono h1 (OnlyNormal.imp h2)
theorem wpIn_cut {F : Fence} {n : Nat} {P : Program} {c : Code} {Q : Exit → Act → World → Prop} {a : Act} {w : World} (R : Act → Act → World → Prop) (h1 : c.wpIn F n P (OnlyNormal (R a)) a w) (h2 : ∀ a' w', R a a' w' → Q .normal a' w') : c.wpIn F n P Q a w :=
  Code.wpIn_mono (OnlyNormal.imp h2) h1
end Go.Proofs.Ytlhekifmkkgjlaa
/- Chapter 8: is a brick crushed (the closure of Crushed). -/
namespace Go.Proofs.Ytlhekifmkkgjlaa
open Go Go.RowKit Go.Shelf
attribute [local go_sem] Oper.semAt_some
set_option maxHeartbeats 4000000
set_option maxRecDepth 100000
/-- is a brick with load x crushed, where each of n cells bears b -/
def crushB (x : Nat × Nat) (n : Nat) (b : Int) : Bool := decide ((x.1 : Int) > (n * b) * x.2)
def crushP (s : Stk) (be : Nat → Int) (t i : Nat) : Bool := crushB ((LoadsL s t).getD i (0, 1)) (cellsTo (s.cf t) i (s.cn t)).length (be t)
theorem crushed1_any (lq pq bq z3 lb lo ln lc : Nat) (BA : Option Addr) (bn bc : Nat) (be : Nat → Int) (s : Stk) (t i : Nat) (x : Nat × Nat) (w : World) (ht : t < s.nt) (hi : i < ln) (hln : ln ≤ 1000000)
    (hl : Blk w lq 64 #[.slice (some ⟨z3, 0, none⟩) s.nt s.nt]) (hp : PileB w pq s) (hb : Blk w bq 56 #[.slice BA bn bc]) (hs : StkR w w.heap.size s) (hz3 : z3 < w.heap.size) (hlb : lb < w.heap.size)
    (hrow : w.cell? ⟨z3, t, none⟩ = some (.slice (some ⟨lb, lo, none⟩) ln lc)) (hx1 : w.cell? ⟨lb, lo + i * 2, none⟩ = some (.int .i64 x.1)) (hx2 : w.cell? ⟨lb, lo + i * 2 + 1, none⟩ = some (.int .i64 x.2)) (hok : LdOk x)
    (hbe : IR w w.heap.size BA bn be) (htb : t < bn) (hbn : bn ≤ 1000000) (hb0 : 0 ≤ be t) (hb1 : be t ≤ 1000000) (hcn : s.cn t ≤ 144) :
    Calls Try.prog 68 #[.agg #[.int .i64 t, .int .i64 i], .pointer (some ⟨lq, 0, none⟩), .pointer (some ⟨pq, 0, none⟩), .pointer (some ⟨bq, 0, none⟩)] w fun e w' => e = .returned (.bool (crushB x (cellsTo (s.cf t) i (s.cn t)).length (be t))) ∧ Below w.heap.size w w' := by
  refine (callsIn_wide (n := 9)).1 ?_
  obtain ⟨F, hFw⟩ : ∃ F : Fence, F = Fence.wide := ⟨_, rfl⟩
  rw [← hFw]
  have hF : ∀ f, F.fn f := by rw [hFw]; exact fun _ => trivial
  have hro : F.round = none := by rw [hFw]; rfl
  have hwd : ∀ {n f args w R}, Calls Try.prog f args w R → CallsIn F n Try.prog f args w R := by rw [hFw]; exact fun h => callsIn_wide.2 h
  have HF := hide hFw
  clear hFw
  refine callsIn_of_wp_marks Try.func68 rfl (hF _) ?_ hro
  simp only [Try.ntmps68, List.size_toArray, List.length_cons, List.length_nil, Nat.reduceAdd, Nat.reduceSub, Array.replicate_succ, Array.replicate_zero, List.push_toArray, List.append_toArray, List.nil_append, List.cons_append]
  gi_wp2_with fail
  have HB := hide ((Below.refl w.heap.size w).alloc (Nat.le_refl _) (.cells #[.int .i64 t, .int .i64 i] 59))
  have HBR := hide (Blk.new w 59 #[.int .i64 t, .int .i64 i])
  have hz0 : (w.alloc (.cells #[.int .i64 t, .int .i64 i] 59)).heap.size = w.heap.size + 1 := by simp
  generalize (w.alloc (.cells #[.int .i64 t, .int .i64 i] 59)) = W1 at HB HBR hz0 ⊢
  have HZ := hide hz0
  generalize hb0 : w.heap.size = b0 at HBR hz0 ⊢
  have HS : Hid (∀ W, Below W1.heap.size W1 W → W.cell? ⟨lq, 0, none⟩ = some (.slice (some ⟨z3, 0, none⟩) s.nt s.nt) ∧ W.cell? ⟨b0, 0, none⟩ = some (.int .i64 t) ∧ W.cell? ⟨b0, 1, none⟩ = some (.int .i64 i) ∧ W.cell? ⟨z3, t, none⟩ = some (.slice (some ⟨lb, lo, none⟩) ln lc) ∧ W.cell? ⟨lb, lo + i * 2, none⟩ = some (.int .i64 x.1) ∧ W.cell? ⟨lb, lo + i * 2 + 1, none⟩ = some (.int .i64 x.2)) := hide (fun W h => by
    have h1 : Below w.heap.size w W := HB.out.trans (h.mono (by omega))
    obtain ⟨d1, d2, d3, -, -⟩ := blk2 (HBR.out.ext h)
    obtain ⟨e1, e2, e3⟩ := blk1 (hl.ext h1)
    exact ⟨e2, d2, d3, (h1.cell (p := ⟨z3, t, none⟩) hz3).trans hrow, (h1.cell (p := ⟨lb, lo + i * 2, none⟩) hlb).trans hx1, (h1.cell (p := ⟨lb, lo + i * 2 + 1, none⟩) hlb).trans hx2⟩)
  have i1 : (0 : Int) ≤ (t : Int) := by omega
  have i2 : (t : Int) < (s.nt : Int) := by omega
  have i3 : (0 : Int) ≤ (i : Int) := by omega
  have i4 : (i : Int) < (ln : Int) := by omega
  have HL := hide hl
  have HP := hide hp
  have HBB := hide hb
  have HSS := hide hs
  have HBE := hide hbe
  clear hl hp hb hs hbe hrow hx1 hx2 hb0
  refine wpIn_cut (fun a a' w' => ∃ g6 g7, a' = ({ tmps := #[.agg #[.int .i64 t, .int .i64 i], .pointer (some ⟨lq, 0, none⟩), .pointer (some ⟨pq, 0, none⟩), .pointer (some ⟨bq, 0, none⟩), .pointer (some ⟨b0, 0, none⟩), .bool false, .pointer (some ⟨g6, 0, none⟩), .pointer (some ⟨g7, 0, none⟩), .slice (some ⟨z3, 0, none⟩) s.nt s.nt, .pointer (some ⟨b0, 0, none⟩), .int .i64 t, .pointer (some ⟨z3, t, none⟩), .slice (some ⟨lb, lo, none⟩) ln lc, .pointer (some ⟨b0, 1, none⟩), .int .i64 i, .pointer (some ⟨lb, lo + i * 2, none⟩), .agg #[.int .i64 x.1, .int .i64 x.2], undef, undef, undef, undef, undef, undef, undef, undef, undef, undef, undef, undef, undef, undef, undef, undef, undef, undef], defers := [] } : Act) ∧ Hid (Blk w' g6 3 #[.int .i64 0]) ∧ Hid (Blk w' g7 76 #[.int .i64 x.1, .int .i64 x.2]) ∧ g6 ≠ g7 ∧ W1.heap.size ≤ g6 ∧ W1.heap.size ≤ g7 ∧ Hid (Below W1.heap.size W1 w')) ?_ ?_
  · have Bd := hide (Below.refl W1.heap.size W1).drew
    refine wpIn_region_J (fun W : World => W.cell? ⟨lq, 0, none⟩ = some (.slice (some ⟨z3, 0, none⟩) s.nt s.nt) ∧ W.cell? ⟨b0, 0, none⟩ = some (.int .i64 t) ∧ W.cell? ⟨b0, 1, none⟩ = some (.int .i64 i) ∧ W.cell? ⟨z3, t, none⟩ = some (.slice (some ⟨lb, lo, none⟩) ln lc) ∧ W.cell? ⟨lb, lo + i * 2, none⟩ = some (.int .i64 x.1) ∧ W.cell? ⟨lb, lo + i * 2 + 1, none⟩ = some (.int .i64 x.2)) (by kernel_rfl) ?_
    refine wpAnyJ_take 0 (v := ?_) (by first | exact hF | exact wideFn) (HS.out _ Bd.out) rfl (by kernel_rfl) (by kernel_rfl) (by kernel_rfl) (by kernel_rfl) rfl ?_ (by first | exact fun _ _ _ h => h | exact fun _ _ _ h => hQ2 _ _ _ _ _ h) ?_
    rotate_left
    · intro W hSW
      simp only [List.getElem_toArray, List.getElem_cons_zero, List.getElem_cons_succ]
      (try dsimp only at hSW)
      go_simp
      with_reducible rfl
    (try simp only [List.getElem_toArray, List.getElem_cons_zero, List.getElem_cons_succ, Act.put, List.setIfInBounds_toArray, List.set_cons_zero, List.set_cons_succ])
    refine wpAnyJ_take 1 (v := ?_) (by first | exact hF | exact wideFn) (HS.out _ Bd.out) rfl (by kernel_rfl) (by kernel_rfl) (by kernel_rfl) (by kernel_rfl) rfl ?_ (by first | exact fun _ _ _ h => h | exact fun _ _ _ h => hQ2 _ _ _ _ _ h) ?_
    rotate_left
    · intro W hSW
      simp only [List.getElem_toArray, List.getElem_cons_zero, List.getElem_cons_succ]
      (try dsimp only at hSW)
      go_simp
      with_reducible rfl
    (try simp only [List.getElem_toArray, List.getElem_cons_zero, List.getElem_cons_succ, Act.put, List.setIfInBounds_toArray, List.set_cons_zero, List.set_cons_succ])
    refine wpAnyJ_take 2 (v := ?_) (by first | exact hF | exact wideFn) (HS.out _ Bd.out) rfl (by kernel_rfl) (by kernel_rfl) (by kernel_rfl) (by kernel_rfl) rfl ?_ (by first | exact fun _ _ _ h => h | exact fun _ _ _ h => hQ2 _ _ _ _ _ h) ?_
    rotate_left
    · intro W hSW
      simp only [List.getElem_toArray, List.getElem_cons_zero, List.getElem_cons_succ]
      (try dsimp only at hSW)
      go_simp
      with_reducible rfl
    (try simp only [List.getElem_toArray, List.getElem_cons_zero, List.getElem_cons_succ, Act.put, List.setIfInBounds_toArray, List.set_cons_zero, List.set_cons_succ])
    refine wpAnyJ_take 3 (v := ?_) (by first | exact hF | exact wideFn) (HS.out _ Bd.out) rfl (by kernel_rfl) (by kernel_rfl) (by kernel_rfl) (by kernel_rfl) rfl ?_ (by first | exact fun _ _ _ h => h | exact fun _ _ _ h => hQ2 _ _ _ _ _ h) ?_
    rotate_left
    · intro W hSW
      simp only [List.getElem_toArray, List.getElem_cons_zero, List.getElem_cons_succ]
      (try dsimp only at hSW)
      go_simp
      with_reducible rfl
    (try simp only [List.getElem_toArray, List.getElem_cons_zero, List.getElem_cons_succ, Act.put, List.setIfInBounds_toArray, List.set_cons_zero, List.set_cons_succ])
    refine wpAnyJ_take 4 (v := ?_) (by first | exact hF | exact wideFn) (HS.out _ Bd.out) rfl (by kernel_rfl) (by kernel_rfl) (by kernel_rfl) (by kernel_rfl) rfl ?_ (by first | exact fun _ _ _ h => h | exact fun _ _ _ h => hQ2 _ _ _ _ _ h) ?_
    rotate_left
    · intro W hSW
      simp only [List.getElem_toArray, List.getElem_cons_zero, List.getElem_cons_succ]
      (try dsimp only at hSW)
      go_simp
      with_reducible rfl
    (try simp only [List.getElem_toArray, List.getElem_cons_zero, List.getElem_cons_succ, Act.put, List.setIfInBounds_toArray, List.set_cons_zero, List.set_cons_succ])
    refine wpAnyJ_take 5 (v := ?_) (by first | exact hF | exact wideFn) (HS.out _ Bd.out) rfl (by kernel_rfl) (by kernel_rfl) (by kernel_rfl) (by kernel_rfl) rfl ?_ (by first | exact fun _ _ _ h => h | exact fun _ _ _ h => hQ2 _ _ _ _ _ h) ?_
    rotate_left
    · intro W hSW
      simp only [List.getElem_toArray, List.getElem_cons_zero, List.getElem_cons_succ]
      (try dsimp only at hSW)
      go_simp
      with_reducible rfl
    (try simp only [List.getElem_toArray, List.getElem_cons_zero, List.getElem_cons_succ, Act.put, List.setIfInBounds_toArray, List.set_cons_zero, List.set_cons_succ])
    refine wpAnyJ_take 6 (v := ?_) (by first | exact hF | exact wideFn) (HS.out _ Bd.out) rfl (by kernel_rfl) (by kernel_rfl) (by kernel_rfl) (by kernel_rfl) rfl ?_ (by first | exact fun _ _ _ h => h | exact fun _ _ _ h => hQ2 _ _ _ _ _ h) ?_
    rotate_left
    · intro W hSW
      simp only [List.getElem_toArray, List.getElem_cons_zero, List.getElem_cons_succ]
      (try dsimp only at hSW)
      go_simp
      with_reducible rfl
    (try simp only [List.getElem_toArray, List.getElem_cons_zero, List.getElem_cons_succ, Act.put, List.setIfInBounds_toArray, List.set_cons_zero, List.set_cons_succ])
    refine wpAnyJ_take 7 (v := ?_) (by first | exact hF | exact wideFn) (HS.out _ Bd.out) rfl (by kernel_rfl) (by kernel_rfl) (by kernel_rfl) (by kernel_rfl) rfl ?_ (by first | exact fun _ _ _ h => h | exact fun _ _ _ h => hQ2 _ _ _ _ _ h) ?_
    rotate_left
    · intro W hSW
      simp only [List.getElem_toArray, List.getElem_cons_zero, List.getElem_cons_succ]
      (try dsimp only at hSW)
      go_simp
      with_reducible rfl
    (try simp only [List.getElem_toArray, List.getElem_cons_zero, List.getElem_cons_succ, Act.put, List.setIfInBounds_toArray, List.set_cons_zero, List.set_cons_succ])
    refine wpAnyJ_take 8 (v := ?_) (by first | exact hF | exact wideFn) (HS.out _ Bd.out) rfl (by kernel_rfl) (by kernel_rfl) (by kernel_rfl) (by kernel_rfl) rfl ?_ (by first | exact fun _ _ _ h => h | exact fun _ _ _ h => hQ2 _ _ _ _ _ h) ?_
    rotate_left
    · intro W hSW
      simp only [List.getElem_toArray, List.getElem_cons_zero, List.getElem_cons_succ]
      (try dsimp only at hSW)
      go_simp
      with_reducible rfl
    (try simp only [List.getElem_toArray, List.getElem_cons_zero, List.getElem_cons_succ, Act.put, List.setIfInBounds_toArray, List.set_cons_zero, List.set_cons_succ])
    refine wpAnyJ_two 9 10 rfl rfl (by kernel_rfl) (fun K hK => ?_) (fun K hK => ?_)
    · simp only [List.getElem_toArray, List.getElem_cons_zero, List.getElem_cons_succ]
      go_simp
      refine hK.out _ _ (fun _ => HS.out _ (Bd.out.alloc Bd.out.size _)) ?_
      clear hK K
      (try simp only [List.getElem_toArray, List.getElem_cons_zero, List.getElem_cons_succ, Act.put, List.setIfInBounds_toArray, List.set_cons_zero, List.set_cons_succ])
      refine wpAnyJ_one 10 rfl (by kernel_rfl) (fun K hK => ?_)
      simp only [List.getElem_toArray, List.getElem_cons_zero, List.getElem_cons_succ]
      go_simp
      refine hK.out _ _ (fun _ => HS.out _ ((Bd.out.alloc Bd.out.size _).alloc (by simp) _)) ?_
      clear hK K
      (try simp only [List.getElem_toArray, List.getElem_cons_zero, List.getElem_cons_succ, Act.put, List.setIfInBounds_toArray, List.set_cons_zero, List.set_cons_succ])
      have hA : Blk ((W1.alloc (.cells #[.int .i64 0] 3)).alloc (.cells #[.int .i64 0, .int .i64 0] 76)).drew (b0 + 1) 3 #[.int .i64 0] := by have h := ((Blk.new W1 3 #[.int .i64 0]).alloc (.cells #[.int .i64 0, .int .i64 0] 76)).drew; simpa [hz0] using h
      have hC : Blk ((W1.alloc (.cells #[.int .i64 0] 3)).alloc (.cells #[.int .i64 0, .int .i64 0] 76)).drew (b0 + 1 + 1) 76 #[.int .i64 0, .int .i64 0] := by have h := (by simpa [hz0] using (Blk.new (W1.alloc (.cells #[.int .i64 0] 3)) 76 #[.int .i64 0, .int .i64 0]).drew); simpa [hz0] using h
      have hBb : Below W1.heap.size W1 ((W1.alloc (.cells #[.int .i64 0] 3)).alloc (.cells #[.int .i64 0, .int .i64 0] 76)).drew := ((Below.refl W1.heap.size W1).alloc (Nat.le_refl _) _).alloc (by simp) _ |>.drew
      have HA := hide hA
      have HC := hide hC
      have HBb := hide hBb
      clear hA hC hBb
      generalize ((W1.alloc (.cells #[.int .i64 0] 3)).alloc (.cells #[.int .i64 0, .int .i64 0] 76)).drew = W2 at HA HC HBb ⊢
      obtain ⟨p1, p2, p3⟩ := blk1 HA.out
      obtain ⟨q1, q2, q3, q4, q5⟩ := blk2 HC.out
      refine wpAnyJ_one 11 rfl (by kernel_rfl) (fun K hK => ?_)
      simp only [List.getElem_toArray, List.getElem_cons_zero, List.getElem_cons_succ]
      go_simp
      refine hK.out _ _ (fun _ => HS.out _ (HBb.out.setCell (p := ⟨(b0 + 1), 0, none⟩) (by simp only [hz0]; omega) _)) ?_
      clear hK K
      (try simp only [List.getElem_toArray, List.getElem_cons_zero, List.getElem_cons_succ, Act.put, List.setIfInBounds_toArray, List.set_cons_zero, List.set_cons_succ])
      refine wpAnyJ_one 12 rfl (by kernel_rfl) (fun K hK => ?_)
      simp only [List.getElem_toArray, List.getElem_cons_zero, List.getElem_cons_succ]
      go_simp
      refine hK.out _ _ (fun h => absurd h (by rw [show lastOp _ _ _ = true from by kernel_rfl]; simp)) ?_
      clear hK K
      (try simp only [List.getElem_toArray, List.getElem_cons_zero, List.getElem_cons_succ, Act.put, List.setIfInBounds_toArray, List.set_cons_zero, List.set_cons_succ])
      refine wpAnyJ_done (by kernel_rfl) ?_
      exact ⟨(b0 + 1), (b0 + 1 + 1), rfl, hide ((HA.out.set_ 0 (.int .i64 0)).far (by simp) _ |>.far (by simp) _), hide (((HC.out.far (by simp) _).set2 (.int .i64 x.1) (.int .i64 x.2))), by omega, by omega, by omega, hide (((HBb.out.setCell (p := ⟨(b0 + 1), 0, none⟩) (by simp only [hz0]; omega) _).setCell (p := ⟨(b0 + 1 + 1), 0, none⟩) (by simp only [hz0]; omega) _).setCell (p := ⟨(b0 + 1 + 1), 1, none⟩) (by simp only [hz0]; omega) _)⟩
    · simp only [List.getElem_toArray, List.getElem_cons_zero, List.getElem_cons_succ]
      go_simp
      refine hK.out _ _ (fun _ => HS.out _ (Bd.out.alloc Bd.out.size _)) ?_
      clear hK K
      (try simp only [List.getElem_toArray, List.getElem_cons_zero, List.getElem_cons_succ, Act.put, List.setIfInBounds_toArray, List.set_cons_zero, List.set_cons_succ])
      refine wpAnyJ_one 9 rfl (by kernel_rfl) (fun K hK => ?_)
      simp only [List.getElem_toArray, List.getElem_cons_zero, List.getElem_cons_succ]
      go_simp
      refine hK.out _ _ (fun _ => HS.out _ ((Bd.out.alloc Bd.out.size _).alloc (by simp) _)) ?_
      clear hK K
      (try simp only [List.getElem_toArray, List.getElem_cons_zero, List.getElem_cons_succ, Act.put, List.setIfInBounds_toArray, List.set_cons_zero, List.set_cons_succ])
      have hA : Blk ((W1.alloc (.cells #[.int .i64 0, .int .i64 0] 76)).alloc (.cells #[.int .i64 0] 3)).drew (b0 + 1 + 1) 3 #[.int .i64 0] := by have h := (by simpa [hz0] using (Blk.new (W1.alloc (.cells #[.int .i64 0, .int .i64 0] 76)) 3 #[.int .i64 0]).drew); simpa [hz0] using h
      have hC : Blk ((W1.alloc (.cells #[.int .i64 0, .int .i64 0] 76)).alloc (.cells #[.int .i64 0] 3)).drew (b0 + 1) 76 #[.int .i64 0, .int .i64 0] := by have h := ((Blk.new W1 76 #[.int .i64 0, .int .i64 0]).alloc (.cells #[.int .i64 0] 3)).drew; simpa [hz0] using h
      have hBb : Below W1.heap.size W1 ((W1.alloc (.cells #[.int .i64 0, .int .i64 0] 76)).alloc (.cells #[.int .i64 0] 3)).drew := ((Below.refl W1.heap.size W1).alloc (Nat.le_refl _) _).alloc (by simp) _ |>.drew
      have HA := hide hA
      have HC := hide hC
      have HBb := hide hBb
      clear hA hC hBb
      generalize ((W1.alloc (.cells #[.int .i64 0, .int .i64 0] 76)).alloc (.cells #[.int .i64 0] 3)).drew = W2 at HA HC HBb ⊢
      obtain ⟨p1, p2, p3⟩ := blk1 HA.out
      obtain ⟨q1, q2, q3, q4, q5⟩ := blk2 HC.out
      refine wpAnyJ_one 11 rfl (by kernel_rfl) (fun K hK => ?_)
      simp only [List.getElem_toArray, List.getElem_cons_zero, List.getElem_cons_succ]
      go_simp
      refine hK.out _ _ (fun _ => HS.out _ (HBb.out.setCell (p := ⟨(b0 + 1 + 1), 0, none⟩) (by simp only [hz0]; omega) _)) ?_
      clear hK K
      (try simp only [List.getElem_toArray, List.getElem_cons_zero, List.getElem_cons_succ, Act.put, List.setIfInBounds_toArray, List.set_cons_zero, List.set_cons_succ])
      refine wpAnyJ_one 12 rfl (by kernel_rfl) (fun K hK => ?_)
      simp only [List.getElem_toArray, List.getElem_cons_zero, List.getElem_cons_succ]
      go_simp
      refine hK.out _ _ (fun h => absurd h (by rw [show lastOp _ _ _ = true from by kernel_rfl]; simp)) ?_
      clear hK K
      (try simp only [List.getElem_toArray, List.getElem_cons_zero, List.getElem_cons_succ, Act.put, List.setIfInBounds_toArray, List.set_cons_zero, List.set_cons_succ])
      refine wpAnyJ_done (by kernel_rfl) ?_
      exact ⟨(b0 + 1 + 1), (b0 + 1), rfl, hide ((HA.out.set_ 0 (.int .i64 0)).far (by simp) _ |>.far (by simp) _), hide (((HC.out.far (by simp) _).set2 (.int .i64 x.1) (.int .i64 x.2))), by omega, by omega, by omega, hide (((HBb.out.setCell (p := ⟨(b0 + 1 + 1), 0, none⟩) (by simp only [hz0]; omega) _).setCell (p := ⟨(b0 + 1), 0, none⟩) (by simp only [hz0]; omega) _).setCell (p := ⟨(b0 + 1), 1, none⟩) (by simp only [hz0]; omega) _)⟩
  · rintro a' w2 ⟨g6, g7, rfl, HA, HC, hne, hg6, hg7, HB2⟩
    dsimp only
    have hB3 : Below w.heap.size w w2 := HB.out.trans (HB2.out.mono (by have := HZ.out; omega))
    have HB3 := hide hB3
    have HP2 := hide (Blk.ext HP.out hB3)
    have HBR2 := hide (HBR.out.ext HB2.out)
    have HQ2 := hide (HBB.out.ext hB3)
    have hg : w.heap.size < g6 ∧ w.heap.size < g7 ∧ w.heap.size < w2.heap.size := ⟨by have := HZ.out; omega, by have := HZ.out; omega, by have := HZ.out; have := HB2.out.size; omega⟩
    obtain ⟨x0, x1, x2, x3, -, -, -⟩ := blk3 HP2.out
    obtain ⟨d1, d2, d3, -, -⟩ := blk2 HBR2.out
    clear HS HB2 hB3
    gi_wp2_with (gi_at_call 69; refine (hwd (cells_any s t i _)).mono ?_; rintro e w3 ⟨rfl, rfl⟩)
    have k3 : PileB ((w2.alloc (.cells #[.int .i64 s.wd, .int .i64 s.hg, .slice s.A s.nt s.cap] 131)).alloc (.cells #[.int .i64 t, .int .i64 i] 59)) w2.heap.size s := (Blk.new w2 _ _).alloc _
    have k4 : Blk ((w2.alloc (.cells #[.int .i64 s.wd, .int .i64 s.hg, .slice s.A s.nt s.cap] 131)).alloc (.cells #[.int .i64 t, .int .i64 i] 59)) (w2.heap.size + 1) 59 #[.int .i64 t, .int .i64 i] := by simpa using Blk.new (w2.alloc (.cells #[.int .i64 s.wd, .int .i64 s.hg, .slice s.A s.nt s.cap] 131)) 59 #[.int .i64 t, .int .i64 i]
    have k5 : ((w2.alloc (.cells #[.int .i64 s.wd, .int .i64 s.hg, .slice s.A s.nt s.cap] 131)).alloc (.cells #[.int .i64 t, .int .i64 i] 59)).heap.size = w2.heap.size + 2 := by simp
    have kB : Below w2.heap.size w2 ((w2.alloc (.cells #[.int .i64 s.wd, .int .i64 s.hg, .slice s.A s.nt s.cap] 131)).alloc (.cells #[.int .i64 t, .int .i64 i] 59)) := ((Below.refl _ _).alloc (Nat.le_refl _) _).alloc (by simp) _
    generalize ((w2.alloc (.cells #[.int .i64 s.wd, .int .i64 s.hg, .slice s.A s.nt s.cap] 131)).alloc (.cells #[.int .i64 t, .int .i64 i] 59)) = W0 at k3 k4 k5 kB ⊢
    have k6 : Below w.heap.size w W0 := HB3.out.trans (kB.mono (by omega))
    have hst := cells_stops F (9 - 1) hF hro (by omega) w2.heap.size (w2.heap.size + 1) w.heap.size t i s W0 k3 k4 (by omega) (HSS.out.below k6 (Nat.le_refl _)) ht
    have HA0 := hide (HA.out.ext kB)
    have HC0 := hide (HC.out.ext kB)
    have HQ0 := hide (HQ2.out.ext kB)
    have HBR0 := hide (HBR2.out.ext kB)
    have h67 : g6 < w2.heap.size ∧ g7 < w2.heap.size ∧ b0 < w2.heap.size ∧ bq < w.heap.size := ⟨HA.out.lt, HC.out.lt, HBR2.out.lt, HBB.out.lt⟩
    have h6b : g6 ≠ b0 := by omega
    have hW0 : w.heap.size ≤ W0.heap.size := k6.size
    refine wpIn_rangeFunc_ownF hro (by omega) (gf := 102) (lb := #[.pointer (some ⟨w2.heap.size, 0, none⟩), .pointer (some ⟨w2.heap.size + 1, 0, none⟩)]) rfl (hF _) (enters_of Try.func102 (by kernel_rfl) rfl)
      hst KpB.trans (KpB.putObj (by omega) (by omega)) (Below.refl _ _) (fun _ => rfl)
      (fun pre W => Blk W g6 3 #[.int .i64 (pre.length * be t)] ∧ Blk W g7 76 #[.int .i64 x.1, .int .i64 x.2] ∧ Blk W bq 56 #[.slice BA bn bc] ∧ Blk W b0 59 #[.int .i64 t, .int .i64 i] ∧ Blk W (w2.heap.size + 1) 59 #[.int .i64 t, .int .i64 i] ∧ Below w.heap.size w W)
      (fun _ _ _ => False) ?hI (fun _ _ _ _ _ h _ _ => h) ⟨by simpa using HA0.out, HC0.out, HQ0.out, HBR0.out, k4, k6⟩
      (fun y => { tmps := #[.agg #[.int .i64 t, .int .i64 i], .pointer (some ⟨lq, 0, none⟩), .pointer (some ⟨pq, 0, none⟩), .pointer (some ⟨bq, 0, none⟩), .pointer (some ⟨b0, 0, none⟩), .bool false, .pointer (some ⟨g6, 0, none⟩), .pointer (some ⟨g7, 0, none⟩), .slice (some ⟨z3, 0, none⟩) s.nt s.nt, .pointer (some ⟨b0, 0, none⟩), .int .i64 t, .pointer (some ⟨z3, t, none⟩), .slice (some ⟨lb, lo, none⟩) ln lc, .pointer (some ⟨b0, 1, none⟩), .int .i64 i, .pointer (some ⟨lb, lo + i * 2, none⟩), .agg #[.int .i64 x.1, .int .i64 x.2], .agg #[.int .i64 s.wd, .int .i64 s.hg, .slice s.A s.nt s.cap], .agg #[.int .i64 t, .int .i64 i], .func (.func 102) #[] #[.pointer (some ⟨w2.heap.size, 0, none⟩), .pointer (some ⟨w2.heap.size + 1, 0, none⟩)], .int .i64 y.1, undef, undef, undef, undef, undef, undef, undef, undef, undef, undef, undef, undef, undef, undef], defers := [] }) ?hassign ?hbody ?hdone ?hstop
    case hI =>
      rintro pre W W' row ⟨h1, h2, h3, h4, h5, h6⟩ hg hr
      have hr' := fun r e => (hr r e).2
      exact ⟨h1.keptN hg hr', h2.keptN hg hr', h3.keptN hg hr', h4.keptN hg hr', h5.keptN hg hr', h6.trans ⟨hg.os, hg.tape, hg.output, hg.size, fun k hk => hg.block k (by have := h6.size; omega) (fun e => by have := (hr k e.symm).1; omega)⟩⟩
    case hassign =>
      intro l y W K hK
      gi_wp2
      exact hK
    case hbody =>
      rintro l pre y W ⟨h1, h2, h3, h4, h5, h6⟩ hlt
      dsimp only
      have hlen : pre.length + 1 ≤ 144 := by
        have h2 := cellsTo_len (s.cf t) i (s.cn t)
        omega
      obtain ⟨cb, coff, rfl, hcb, hcc⟩ := (HBE.out.below h6 (Nat.le_refl _)).at_ htb
      have hm := mul_bd (a := (pre.length : Int)) (b := be t) (M := 144) (N := 1000000) (by omega) (by omega) hb0 hb1
      have hw1 : IntKind.i64.wrap ((pre.length : Int) * be t + be t) = (((pre ++ [y]).length : Nat) : Int) * be t := by
        rw [IntWalk.i64_in _ (by omega), List.length_append]
        show _ = ((pre.length + 1 : Nat) : Int) * be t
        rw [Int.natCast_add, Int.add_mul]; omega
      obtain ⟨e1, e2, e3⟩ := blk1 h1
      obtain ⟨f1, f2, f3⟩ := blk1 h3
      obtain ⟨r1, r2, r3, -, -⟩ := blk2 h4
      have hHeld : W.drew.cell? ⟨g6, 0, none⟩ = some (.int .i64 (pre.length * be t)) ∧ W.drew.cell? ⟨bq, 0, none⟩ = some (.slice (some ⟨cb, coff, none⟩) bn bc) ∧ W.drew.cell? ⟨b0, 0, none⟩ = some (.int .i64 t) ∧ W.drew.cell? ⟨cb, coff + t, none⟩ = some (.int .i64 (be t)) := ⟨e2, f2, r2, hcc⟩
      have j1 : (t : Int) < (bn : Int) := by omega
      generalize hV : (((pre ++ [y]).length : Nat) : Int) * be t = V at hw1 ⊢
      have HV := hide hV
      generalize hU : (pre.length : Int) * be t = U at hw1 hHeld h1 e2
      have P1 := hide h1
      have P2 := hide h2
      have P3 := hide h3
      have P4 := hide h4
      have P5 := hide h5
      clear hst k3 k4 k5 k6 h1 h2 h3 h4 h5 e2 f2 r2 r3 hcc hm hU hV hlt HA0 HC0 HQ0 HBR0 d1 d2 d3 x0 x1 x2 x3
      gi_wp2_with fail
      refine wpIn_region_J (fun W' : World => W'.cell? ⟨g6, 0, none⟩ = some (.int .i64 U) ∧ W'.cell? ⟨bq, 0, none⟩ = some (.slice (some ⟨cb, coff, none⟩) bn bc) ∧ W'.cell? ⟨b0, 0, none⟩ = some (.int .i64 t) ∧ W'.cell? ⟨cb, coff + t, none⟩ = some (.int .i64 (be t))) (by kernel_rfl) ?_
      refine wpAnyJ_take 0 (v := ?_) (by first | exact hF | exact wideFn) hHeld rfl (by kernel_rfl) (by kernel_rfl) (by kernel_rfl) (by kernel_rfl) rfl ?_ (by first | exact fun _ _ _ h => h | exact fun _ _ _ h => hQ2 _ _ _ _ _ h) ?_
      rotate_left
      · intro W hSW
        simp only [List.getElem_toArray, List.getElem_cons_zero, List.getElem_cons_succ]
        (try dsimp only at hSW)
        go_simp
        with_reducible rfl
      (try simp only [List.getElem_toArray, List.getElem_cons_zero, List.getElem_cons_succ, Act.put, List.setIfInBounds_toArray, List.set_cons_zero, List.set_cons_succ])
      refine wpAnyJ_take 1 (v := ?_) (by first | exact hF | exact wideFn) hHeld rfl (by kernel_rfl) (by kernel_rfl) (by kernel_rfl) (by kernel_rfl) rfl ?_ (by first | exact fun _ _ _ h => h | exact fun _ _ _ h => hQ2 _ _ _ _ _ h) ?_
      rotate_left
      · intro W hSW
        simp only [List.getElem_toArray, List.getElem_cons_zero, List.getElem_cons_succ]
        (try dsimp only at hSW)
        go_simp
        with_reducible rfl
      (try simp only [List.getElem_toArray, List.getElem_cons_zero, List.getElem_cons_succ, Act.put, List.setIfInBounds_toArray, List.set_cons_zero, List.set_cons_succ])
      refine wpAnyJ_take 2 (v := ?_) (by first | exact hF | exact wideFn) hHeld rfl (by kernel_rfl) (by kernel_rfl) (by kernel_rfl) (by kernel_rfl) rfl ?_ (by first | exact fun _ _ _ h => h | exact fun _ _ _ h => hQ2 _ _ _ _ _ h) ?_
      rotate_left
      · intro W hSW
        simp only [List.getElem_toArray, List.getElem_cons_zero, List.getElem_cons_succ]
        (try dsimp only at hSW)
        go_simp
        with_reducible rfl
      (try simp only [List.getElem_toArray, List.getElem_cons_zero, List.getElem_cons_succ, Act.put, List.setIfInBounds_toArray, List.set_cons_zero, List.set_cons_succ])
      refine wpAnyJ_take 3 (v := ?_) (by first | exact hF | exact wideFn) hHeld rfl (by kernel_rfl) (by kernel_rfl) (by kernel_rfl) (by kernel_rfl) rfl ?_ (by first | exact fun _ _ _ h => h | exact fun _ _ _ h => hQ2 _ _ _ _ _ h) ?_
      rotate_left
      · intro W hSW
        simp only [List.getElem_toArray, List.getElem_cons_zero, List.getElem_cons_succ]
        (try dsimp only at hSW)
        go_simp
        with_reducible rfl
      (try simp only [List.getElem_toArray, List.getElem_cons_zero, List.getElem_cons_succ, Act.put, List.setIfInBounds_toArray, List.set_cons_zero, List.set_cons_succ])
      refine wpAnyJ_take 4 (v := ?_) (by first | exact hF | exact wideFn) hHeld rfl (by kernel_rfl) (by kernel_rfl) (by kernel_rfl) (by kernel_rfl) rfl ?_ (by first | exact fun _ _ _ h => h | exact fun _ _ _ h => hQ2 _ _ _ _ _ h) ?_
      rotate_left
      · intro W hSW
        simp only [List.getElem_toArray, List.getElem_cons_zero, List.getElem_cons_succ]
        (try dsimp only at hSW)
        go_simp
        with_reducible rfl
      (try simp only [List.getElem_toArray, List.getElem_cons_zero, List.getElem_cons_succ, Act.put, List.setIfInBounds_toArray, List.set_cons_zero, List.set_cons_succ])
      refine wpAnyJ_take 5 (v := ?_) (by first | exact hF | exact wideFn) hHeld rfl (by kernel_rfl) (by kernel_rfl) (by kernel_rfl) (by kernel_rfl) rfl ?_ (by first | exact fun _ _ _ h => h | exact fun _ _ _ h => hQ2 _ _ _ _ _ h) ?_
      rotate_left
      · intro W hSW
        simp only [List.getElem_toArray, List.getElem_cons_zero, List.getElem_cons_succ]
        (try dsimp only at hSW)
        go_simp
        with_reducible rfl
      (try simp only [List.getElem_toArray, List.getElem_cons_zero, List.getElem_cons_succ, Act.put, List.setIfInBounds_toArray, List.set_cons_zero, List.set_cons_succ])
      refine wpAnyJ_take 6 (v := ?_) (by first | exact hF | exact wideFn) hHeld rfl (by kernel_rfl) (by kernel_rfl) (by kernel_rfl) (by kernel_rfl) rfl ?_ (by first | exact fun _ _ _ h => h | exact fun _ _ _ h => hQ2 _ _ _ _ _ h) ?_
      rotate_left
      · intro W hSW
        simp only [List.getElem_toArray, List.getElem_cons_zero, List.getElem_cons_succ]
        (try dsimp only at hSW)
        go_simp
        with_reducible rfl
      (try simp only [List.getElem_toArray, List.getElem_cons_zero, List.getElem_cons_succ, Act.put, List.setIfInBounds_toArray, List.set_cons_zero, List.set_cons_succ])
      refine wpAnyJ_one 7 rfl (by kernel_rfl) (fun K hK => ?_)
      simp only [List.getElem_toArray, List.getElem_cons_zero, List.getElem_cons_succ]
      go_simp
      refine hK.out _ _ (fun h => absurd h (by rw [show lastOp _ _ _ = true from by kernel_rfl]; simp)) ?_
      clear hK K
      (try simp only [List.getElem_toArray, List.getElem_cons_zero, List.getElem_cons_succ, Act.put, List.setIfInBounds_toArray, List.set_cons_zero, List.set_cons_succ])
      refine wpAnyJ_done (by kernel_rfl) ?_
      gi_wp2_with fail
      have hbd : Below w.heap.size W (W.drew.setCell ⟨g6, 0, none⟩ (.int .i64 V)) := ((Below.refl _ _).drew).setCell (by show w.heap.size ≤ g6; omega) _
      refine ⟨(keepsO ((Below.refl _ _).drew)).trans (KeepsOthers.setCell _ _ _), ⟨hbd, (P5.out.drew.far (p := ⟨g6, 0, none⟩) (by show w2.heap.size + 1 ≠ g6; omega) _).trans P5.out.symm⟩, ?_, P2.out.drew.far (p := ⟨g6, 0, none⟩) (Ne.symm hne) _, P3.out.drew.far (p := ⟨g6, 0, none⟩) (by show bq ≠ g6; omega) _, P4.out.drew.far (p := ⟨g6, 0, none⟩) (Ne.symm h6b) _, P5.out.drew.far (p := ⟨g6, 0, none⟩) (by show w2.heap.size + 1 ≠ g6; omega) _, h6.trans hbd⟩
      rw [HV.out]
      exact P1.out.drew.set_ 0 (.int .i64 V)
    case hdone =>
      rintro D xs W hD hxs ⟨h1, h2, h3, h4, h5, h6⟩ hK
      dsimp only
      have hlx : xs.length = (cellsTo (s.cf t) i (s.cn t)).length := by rw [← hxs, List.length_map]
      rw [hlx] at h1
      have hn144 : (cellsTo (s.cf t) i (s.cn t)).length ≤ 144 := by
        have h2 := cellsTo_len (s.cf t) i (s.cn t)
        omega
      obtain ⟨o1, o2, o3⟩ := hok
      generalize hN : (cellsTo (s.cf t) i (s.cn t)).length = N at h1 hn144
      have hm := mul_bd (a := (N : Int)) (b := be t) (M := 144) (N := 1000000) (by omega) (by omega) hb0 hb1
      have hm2 := mul_bd (a := (N : Int) * be t) (b := (x.2 : Int)) (M := 144 * 1000000) (N := 1000000000) (by omega) (by omega) (by omega) (by omega)
      have hw1 : IntKind.i64.wrap ((N : Int) * be t * x.2) = (N : Int) * be t * x.2 := IntWalk.i64_in _ (by omega)
      obtain ⟨e1, e2, e3⟩ := blk1 h1
      obtain ⟨r1, r2, r3, -, -⟩ := blk2 h2
      have HN := hide hN
      have H6 := hide h6
      clear hst k3 k4 k5 k6 h1 h2 h3 h4 h5 hlx hxs hN h6 hm hm2 HA0 HC0 HQ0 HBR0 d1 d2 d3 x0 x1 x2 x3
      gi_wp2_with fail
      refine ⟨by simp, .inl ⟨_, _, rfl, run_takeDeferred hK, ?_⟩⟩
      refine ⟨.bool (decide ((N : Int) * be t * x.2 < x.1)), by simp [results, Try.results68, go_sem], ?_⟩
      exact ⟨by rw [HN.out]; rfl, H6.out.trans (belowK_b (w := w) (Nat.le_refl _) _ D _ _ (by omega) hK rfl rfl)⟩
    case hstop =>
      rintro D c pre W hD hSp h hK
      exact h.elim
end Go.Proofs.Ytlhekifmkkgjlaa
/- Chapter 8: what the loads of a stack are like (no program in sight). -/
namespace Go.Proofs.Ytlhekifmkkgjlaa
open Go Go.RowKit Go.Shelf
theorem loads_step {s : Stk} {m r : Nat} (h : r < s.nt) : loadsF s m (backTo s.nt r) = tierSt s m (loadsF s m (backTo s.nt (r + 1))) r := by
  rw [backTo_succ h, loadsF_append]
theorem loads_top (s : Stk) (m : Nat) : loadsF s m (backTo s.nt s.nt) = ld0 s m := by rw [backTo_top]; rfl
theorem loads_cnt (s : Stk) (m : Nat) : ∀ d r, r + d = s.nt → ∀ k, k < s.nt → ((loadsF s m (backTo s.nt r)).1 k).length = if r ≤ k then s.wn k else 0
  | 0, r, h, k, hk => by
    obtain rfl : r = s.nt := by omega
    rw [loads_top, if_neg (by omega)]
    simp [ld0, show k ≠ s.nt by omega]
  | d + 1, r, h, k, hk => by
    have ih := loads_cnt s m d (r + 1) (by omega)
    rw [loads_step (by omega)]
    unfold tierSt
    dsimp only
    rw [upd_ne _ _ (by omega)]
    by_cases e : k = r
    · subst e
      rw [upd_same, tierR_cnt, ih k hk, if_neg (by omega), if_pos (by omega)]
      omega
    · rw [upd_ne _ _ e, ih k hk]
      by_cases l : r ≤ k
      · rw [if_pos (by omega), if_pos l]
      · rw [if_neg (by omega), if_neg l]
theorem LoadsL_len {s : Stk} {k : Nat} (hk : k < s.nt) : (LoadsL s k).length = s.wn k := by
  have h := loads_cnt s (flr s) s.nt 0 (by omega) k hk
  rw [if_pos (by omega)] at h
  exact h
theorem onBrk_ok {s : Stk} {t i : Nat} {on : List (Nat × Nat)} (ok : Bool) (ho : ∀ x ∈ on, LdOk x) : LdOk (onBrk s t i on ok).1 := by
  unfold onBrk
  generalize cellsTo (s.cf t) i (s.cn t) = cs
  have key : ∀ (cs : List Nat) (st : (Nat × Nat) × Bool), LdOk st.1 → LdOk (cs.foldl (addSt on) st).1 := by
    intro cs
    induction cs with
    | nil => intro st h; exact h
    | cons c cs ih => intro st h; rw [List.foldl_cons]; exact ih _ (addSt_ok on st c h ho)
  exact key cs _ LdOk_zero
theorem brkSt_ok {s : Stk} {t i : Nat} {on : List (Nat × Nat)} {st : List (Nat × Nat) × List (Nat × Nat) × Bool} (ho : ∀ x ∈ on, LdOk x) (hr : 0 < (restL s t i).length) (h1 : ∀ x ∈ st.1, LdOk x) (h2 : ∀ x ∈ st.2.1, LdOk x) :
    (∀ x ∈ (brkSt s t on st i).1, LdOk x) ∧ ∀ x ∈ (brkSt s t on st i).2.1, LdOk x := by
  have hon := onBrk_ok (s := s) (t := t) (i := i) st.2.2 ho
  have hdn : LdOk (dnBrk s t i (onBrk s t i on st.2.2).1) := lowS_ok _ _ (by
    show 0 < (onBrk s t i on st.2.2).1.2 * 1
    have := hon.2.1; omega)
  have hsh : LdOk (shBrk s t i (dnBrk s t i (onBrk s t i on st.2.2).1)) := lowS_ok _ _ (Nat.mul_pos hdn.2.1 hr)
  unfold brkSt
  refine ⟨layOn_ok h1 _ hsh, fun x hx => ?_⟩
  rcases List.mem_append.1 hx with hx | hx
  · exact h2 x hx
  · rw [List.mem_singleton.1 hx]; exact hon
theorem tierR_ok {s : Stk} {m t : Nat} {on l : List (Nat × Nat)} {ok : Bool} (ho : ∀ x ∈ on, LdOk x) (hl : ∀ x ∈ l, LdOk x) : ∀ k : Nat, (∀ i : Nat, i < k → 0 < (restL s t i).length) → (∀ x ∈ (tierR s m t on l ok k).1, LdOk x) ∧ ∀ x ∈ (tierR s m t on l ok k).2.1, LdOk x
  | 0, _ => ⟨fun x hx => by
      have : x = (0, 1) := (List.mem_replicate.1 (show x ∈ List.replicate m (0, 1) from hx)).2
      rw [this]; exact LdOk_zero, hl⟩
  | k + 1, hr => by
    have ih := tierR_ok (m := m) (ok := ok) ho hl k (fun i hi => hr i (by omega))
    rw [tierR_succ]
    exact brkSt_ok ho (hr k (by omega)) ih.1 ih.2
theorem loads_ok (s : Stk) (m : Nat) (hr : ∀ t i : Nat, t < s.nt → i < s.wn t → 0 < (restL s t i).length) : ∀ d r, r + d = s.nt → ∀ k, k ≤ s.nt → ∀ x ∈ (loadsF s m (backTo s.nt r)).1 k, LdOk x
  | 0, r, h, k, hk => by
    obtain rfl : r = s.nt := by omega
    rw [loads_top]
    intro x hx
    unfold ld0 at hx
    dsimp only at hx
    split at hx
    · rw [(List.mem_replicate.1 hx).2]; exact LdOk_zero
    · simp at hx
  | d + 1, r, h, k, hk => by
    have ih := loads_ok s m hr d (r + 1) (by omega)
    rw [loads_step (by omega)]
    have ht := tierR_ok (s := s) (m := m) (t := r) (ok := (loadsF s m (backTo s.nt (r + 1))).2) (ih s.nt (by omega)) (ih r (by omega)) (s.wn r) (fun i hi => hr r i (by omega) hi)
    unfold tierSt
    dsimp only
    by_cases e : k = s.nt
    · subst e
      rw [upd_same]
      exact ht.1
    · rw [upd_ne _ _ e]
      by_cases e2 : k = r
      · subst e2
        rw [upd_same]
        exact ht.2
      · rw [upd_ne _ _ e2]
        exact ih k hk
theorem LoadsL_ok {s : Stk} (hf : (hangF s).1 < 0) {k : Nat} (hk : k ≤ s.nt) : ∀ x ∈ LoadsL s k, LdOk x :=
  loads_ok s (flr s) (fun t i ht hi => by
    have h := hangF_none hf t i ht hi
    simp only [hangP, decide_eq_false_iff_not] at h
    omega) s.nt 0 (by omega) k hk
theorem firstOf_at {p : Nat → Nat → Bool} {wn : Nat → Nat} {n k i : Nat} (h1 : ∀ t j, t < k → j < wn t → p t j = false) (h2 : ∀ j, j < i → p k j = false) (hk : k < n) (hi : i < wn k) (hp : p k i = true) : firstOf p (bricksTo wn n) = ((k : Int), (i : Int)) := by
  refine firstOf_some (pre := bricksTo wn k ++ rowTo k i) (x := (k, i)) ?_ ?_ hp
  · have h := bricksTo_part wn hk (show i + 1 ≤ wn k from hi)
    rw [show rowTo k (i + 1) = rowTo k i ++ [(k, i)] by simp [rowTo, List.range_succ], ← List.append_assoc] at h
    exact h
  · rintro ⟨t, j⟩ hy
    rcases List.mem_append.1 hy with hy | hy
    · obtain ⟨a, b⟩ := (mem_bricksTo _ _ _ _).1 hy
      exact h1 t j a b
    · simp only [rowTo, List.mem_map, List.mem_range, Prod.mk.injEq] at hy
      obtain ⟨j', a, rfl, rfl⟩ := hy
      exact h2 _ a
theorem firstOf_no {p : Nat → Nat → Bool} {wn : Nat → Nat} {n : Nat} (h : ∀ t j, t < n → j < wn t → p t j = false) : firstOf p (bricksTo wn n) = (-1, -1) :=
  firstOf_none fun x hx => by
    obtain ⟨a, b⟩ := (mem_bricksTo wn n x.1 x.2).1 hx
    exact h _ _ a b
end Go.Proofs.Ytlhekifmkkgjlaa
