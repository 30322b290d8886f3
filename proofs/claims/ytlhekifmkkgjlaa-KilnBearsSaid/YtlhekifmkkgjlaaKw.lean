/- The rows of loads that a pile's walk keeps: what they hold, and that they lie apart. -/
import Derived.Test.YtlhekifmkkgjlaaKv
set_option linter.unusedSimpArgs false
set_option linter.unusedVariables false
set_option linter.unnecessarySimpa false
namespace Go.Proofs.Ytlhekifmkkgjlaa
open Go Go.RowKit Go.Shelf
set_option maxHeartbeats 1000000
def cellsL (l : List (Nat × Nat)) : List Value := l.flatMap fun x => [.int .i64 x.1, .int .i64 x.2]
theorem cellsL_nil : cellsL [] = [] := rfl
theorem cellsL_cons (x : Nat × Nat) (l : List (Nat × Nat)) : cellsL (x :: l) = .int .i64 x.1 :: .int .i64 x.2 :: cellsL l := rfl
theorem cellsL_append (l m : List (Nat × Nat)) : cellsL (l ++ m) = cellsL l ++ cellsL m := by simp [cellsL, List.flatMap_append]
theorem cellsL_len (l : List (Nat × Nat)) : (cellsL l).length = l.length * 2 := by
  induction l with
  | nil => rfl
  | cons x l ih => rw [cellsL_cons]; simp [ih]; omega
theorem cellsL_get (l : List (Nat × Nat)) (c : Nat) (h : c < l.length) : (cellsL l)[c * 2]? = some (.int .i64 (l.getD c (0, 1)).1) ∧ (cellsL l)[c * 2 + 1]? = some (.int .i64 (l.getD c (0, 1)).2) := by
  induction l generalizing c with
  | nil => simp at h
  | cons x l ih =>
    rw [cellsL_cons]
    cases c with
    | zero => simp
    | succ c =>
      have := ih c (by simpa using h)
      rw [show (c + 1) * 2 = c * 2 + 1 + 1 by omega]
      simpa using this
theorem cellsL_set (l : List (Nat × Nat)) (c : Nat) (x : Nat × Nat) : cellsL (l.set c x) = ((cellsL l).set (c * 2) (.int .i64 x.1)).set (c * 2 + 1) (.int .i64 x.2) := by
  induction l generalizing c with
  | nil => simp [cellsL_nil]
  | cons y l ih =>
    cases c with
    | zero => simp [cellsL_cons]
    | succ c =>
      rw [List.set_cons_succ, cellsL_cons, cellsL_cons, ih, show (c + 1) * 2 = c * 2 + 1 + 1 by omega]
      simp
theorem cellsL_one (l : List (Nat × Nat)) : ∀ u ∈ cellsL l, u.oneCell' = true := by
  induction l with
  | nil => simp [cellsL_nil]
  | cons x l ih =>
    rw [cellsL_cons]
    intro u hu
    simp at hu
    rcases hu with rfl | rfl | hu
    · rfl
    · rfl
    · exact ih u hu
/-- a slice of loads that owns its row -/
def OwnL (W : World) (n0 : Nat) (v : Value) (l : List (Nat × Nat)) : Prop := W.ownsRow n0 76 2 v l.length (cellsL l)
theorem OwnL.nil (W : World) (n0 : Nat) : OwnL W n0 (.slice none 0 0) [] := ⟨rfl, .inl ⟨rfl, rfl⟩⟩
theorem OwnL.shape {W : World} {n0 : Nat} {v : Value} {l : List (Nat × Nat)} (h : OwnL W n0 v l) : ∃ A c, v = .slice A l.length c := own_shape h
theorem OwnL.lt {W : World} {n0 g : Nat} {v : Value} {l : List (Nat × Nat)} (h : OwnL W n0 v l) (hv : v.ownBlock = some g) : n0 ≤ g ∧ g < W.heap.size := World.ownsRow.lt h g hv
theorem OwnL.at_ {W : World} {n0 : Nat} {v : Value} {l : List (Nat × Nat)} (h : OwnL W n0 v l) {c : Nat} (hc : c < l.length) :
    ∃ g cap, v = .slice (some ⟨g, 0, none⟩) l.length cap ∧ v.ownBlock = some g ∧ g < W.heap.size ∧ W.cell? ⟨g, c * 2, none⟩ = some (.int .i64 (l.getD c (0, 1)).1) ∧ W.cell? ⟨g, c * 2 + 1, none⟩ = some (.int .i64 (l.getD c (0, 1)).2) ∧
      W.frozen? ⟨g, c * 2, none⟩ = false ∧ W.frozen? ⟨g, c * 2 + 1, none⟩ = false := by
  obtain ⟨h1, h2⟩ := h
  rcases h2 with ⟨-, h0⟩ | ⟨g, cap, cur, rfl, hb, hg, hn, hm, hs, ht⟩
  · omega
  · have hB : Blk W g 76 cur := hg
    have hget : ∀ j u, j < l.length * 2 → (cellsL l)[j]? = some u → W.cell? ⟨g, j, none⟩ = some u := by
      intro j u hj hu
      rw [hB.cell, ← Array.getElem?_toList]
      rw [← ht, List.getElem?_take_of_lt hj] at hu
      exact hu
    obtain ⟨g1, g2⟩ := cellsL_get l c hc
    exact ⟨g, cap, rfl, rfl, hB.lt, hget _ _ (by omega) g1, hget _ _ (by omega) g2, hB.frozen _, hB.frozen _⟩
theorem OwnL.kept {W W' : World} {n0 : Nat} {v : Value} {l : List (Nat × Nat)} (h : OwnL W n0 v l) {row : Option Nat} (hg : W.grownBy W' row) (hr : ∀ g, row = some g → v.ownBlock ≠ some g) : OwnL W' n0 v l := by
  refine World.ownsRow.kept h hg ?_
  cases hv : v.ownBlock with
  | none => exact .inl rfl
  | some b => exact .inr (fun e => hr b e.symm hv)
theorem OwnL.set {W : World} {n0 g c cap : Nat} {l : List (Nat × Nat)} (h : OwnL W n0 (.slice (some ⟨g, 0, none⟩) l.length cap) l) (x : Nat × Nat) (hc : c < l.length) :
    OwnL ((W.setCell ⟨g, c * 2, none⟩ (.int .i64 x.1)).setCell ⟨g, c * 2 + 1, none⟩ (.int .i64 x.2)) n0 (.slice (some ⟨g, 0, none⟩) l.length cap) (l.set c x) := by
  obtain ⟨h1, h2⟩ := h
  rcases h2 with ⟨h2, -⟩ | ⟨g', cap', cur, hv, hb, hg, hn, hm, hs, ht⟩
  · cases h2
  · cases hv
    have hB : Blk W g 76 cur := hg
    have hB2 := (hB.set_ (c * 2) (.int .i64 x.1)).set_ (c * 2 + 1) (.int .i64 x.2)
    refine ⟨by rw [cellsL_len], .inr ⟨g, cap, _, by rw [List.length_set], hb, hB2, by rw [List.length_set]; exact hn, hm, by simpa using hs, ?_⟩⟩
    rw [cellsL_set, ← ht, List.length_set]
    simp only [Array.toList_setIfInBounds, List.take_set]
def upd {α : Type} (v : Nat → α) (t : Nat) (x : α) : Nat → α := fun k => if k = t then x else v k
theorem upd_same {α : Type} (v : Nat → α) (t : Nat) (x : α) : upd v t x t = x := by simp [upd]
theorem upd_ne {α : Type} (v : Nat → α) {t k : Nat} (x : α) (h : k ≠ t) : upd v t x k = v k := by simp [upd, h]
theorem OwnL.other {W : World} {n0 : Nat} {v : Value} {l : List (Nat × Nat)} {g : Nat} {t : TypeId} {cs : Array Value} (h : OwnL W n0 v l) (hB : Blk W g t cs) (hne : 76 ≠ t) : v.ownBlock ≠ some g := own_blk_ne h hB hne
theorem grown_none {W W' : World} (hb : Below W.heap.size W W') : W.grownBy W' none := ⟨hb.os, hb.tape, hb.output, hb.size, fun k hk _ => hb.block k hk⟩
def rowV (n : Nat) (v : Nat → Value) : Array Value := ((List.range n).map v).toArray
theorem rowV_get (n : Nat) (v : Nat → Value) {k : Nat} (h : k < n) : (rowV n v)[k]? = some (v k) := by simp [rowV, h]
theorem rowV_set (n : Nat) (v : Nat → Value) (t : Nat) (x : Value) : (rowV n v).setIfInBounds t x = rowV n (upd v t x) := by
  apply Array.ext_getElem?
  intro k
  simp only [rowV, List.setIfInBounds_toArray, List.getElem?_toArray, List.getElem?_set, List.getElem?_map, List.length_map, List.length_range]
  by_cases hk : k < n
  · by_cases e : t = k
    · subst e; simp [hk, upd]
    · have e2 : ¬ k = t := fun h => e h.symm
      simp [hk, e, e2, upd]
  · by_cases e : t = k
    · subst e; simp [hk]
    · simp [hk, e]
theorem rowV_same (n : Nat) (v v' : Nat → Value) (h : ∀ k, k < n → v k = v' k) : rowV n v = rowV n v' := by
  unfold rowV
  congr 1
  exact List.map_congr_left (fun k hk => h k (by simpa using hk))
/-- the boxes and rows of a pile's walk: z: the heap's size before it; rows below nt: the tiers' loads; row nt: the loads on the floor; row nt + 1: those on the next floor -/
structure LI (w W : World) (z b6 qb : Nat) (s : Stk) (N : Nat) (v : Nat → Value) (L : Nat → List (Nat × Nat)) (ok : Bool) (r : Nat → Value) (o : Value) : Prop where
  below : Below z w W
  pile : PileB W z s
  outb : Blk W (z + 1) 64 #[.slice (some ⟨z + 3, 0, none⟩) s.nt s.nt]
  sc : Blk W (z + 1 + 1) 176 #[.bool (!ok)]
  row : Blk W (z + 3) 65 (rowV s.nt r)
  onb : Blk W b6 65 #[o]
  qbx : Blk W qb 53 #[.slice s.A s.nt s.cap]
  own : ∀ k, k < N → OwnL W z (v k) (L k)
  sep : ∀ j k g, j < N → k < N → j ≠ k → (v j).ownBlock = some g → (v k).ownBlock ≠ some g
  okl : ∀ k, k < N → ∀ x ∈ L k, LdOk x
  hb : z + 3 < b6 ∧ b6 < qb
/-- a block that is none of these -/
def Far (z b6 qb N : Nat) (v : Nat → Value) (g : Nat) : Prop := z + 3 < g ∧ g ≠ b6 ∧ g ≠ qb ∧ ∀ k, k < N → (v k).ownBlock ≠ some g
theorem grownBy_setC (W : World) (b i : Nat) (v : Value) : W.grownBy (W.setCell ⟨b, i, none⟩ v) (some b) :=
  ⟨rfl, rfl, rfl, by rw [size_set]; exact Nat.le_refl _, fun k _ hk => Below.heap_setCell _ _ _ k (fun e => hk (by rw [e]))⟩
theorem upd_self {α : Type} (v : Nat → α) (t : Nat) : upd v t (v t) = v := by
  funext k
  unfold upd
  split
  · rename_i e; rw [e]
  · rfl
section
variable {w W W' : World} {z b6 qb N : Nat} {s : Stk} {v : Nat → Value} {L : Nat → List (Nat × Nat)} {ok : Bool} {r : Nat → Value} {o : Value}
theorem LI.kept (h : LI w W z b6 qb s N v L ok r o) {row : Option Nat} (hg : W.grownBy W' row) (hr : ∀ g, row = some g → Far z b6 qb N v g) : LI w W' z b6 qb s N v L ok r o := by
  have hh := h.hb
  have hne : ∀ k, k = z ∨ k = z + 1 ∨ k = z + 2 ∨ k = z + 3 ∨ k = b6 ∨ k = qb → some k ≠ row := by
    intro k hk e
    obtain ⟨f1, f2, f3, -⟩ := hr k e.symm
    omega
  refine ⟨?_, Blk.grown h.pile hg (hne _ (by omega)), h.outb.grown hg (hne _ (by omega)), h.sc.grown hg (hne _ (by omega)), h.row.grown hg (hne _ (by omega)), h.onb.grown hg (hne _ (by omega)), h.qbx.grown hg (hne _ (by omega)), ?_, h.sep, h.okl, h.hb⟩
  · refine h.below.trans ⟨hg.os, hg.tape, hg.output, hg.size, fun k hk => hg.block k (by have := Blk.lt h.pile; omega) (fun e => ?_)⟩
    have := (hr k e.symm).1; omega
  · intro k hk
    exact (h.own k hk).kept hg (fun g e => (hr g e).2.2.2 k hk)
theorem LI.ext (h : LI w W z b6 qb s N v L ok r o) (hb : Below W.heap.size W W') : LI w W' z b6 qb s N v L ok r o := h.kept (grown_none hb) (fun _ e => by cases e)
theorem LI.far (h : LI w W z b6 qb s N v L ok r o) {g : Nat} (hg : W.heap.size ≤ g) : Far z b6 qb N v g := by
  have h1 := h.row.lt
  have h2 := h.onb.lt
  have h3 := h.qbx.lt
  exact ⟨by omega, by omega, by omega, fun k hk e => by have := ((h.own k hk).lt e).2; omega⟩
theorem LI.typed (h : LI w W z b6 qb s N v L ok r o) {g : Nat} {t : TypeId} {cs : Array Value} (hB : Blk W g t cs) (hz : z + 3 < g) (h1 : t ≠ 65) (h2 : t ≠ 53) (h3 : t ≠ 76) : Far z b6 qb N v g :=
  ⟨hz, hB.ne_ h.onb h1, hB.ne_ h.qbx h2, fun k hk => (h.own k hk).other hB h3.symm⟩
theorem LI.set (h : LI w W z b6 qb s N v L ok r o) {g : Nat} (hf : Far z b6 qb N v g) (i : Nat) (u : Value) : LI w (W.setCell ⟨g, i, none⟩ u) z b6 qb s N v L ok r o :=
  h.kept (row := some g) (grownBy_setC W g i u) (fun g' e => by cases e; exact hf)
/-- the scale -/
theorem LI.scale (h : LI w W z b6 qb s N v L ok r o) (k : Bool) : LI w (offW W (z + 1 + 1) k) z b6 qb s N v L (ok && k) r o := by
  have hh := h.hb
  cases k with
  | true => rw [Bool.and_true]; exact h
  | false =>
    have hg := grownBy_setC W (z + 1 + 1) 0 (.bool true)
    refine ⟨h.below.setCell (p := ⟨z + 1 + 1, 0, none⟩) (by simp only []; omega) _, Blk.far h.pile (p := ⟨z + 1 + 1, 0, none⟩) (by simp only []; omega) _, h.outb.far (p := ⟨z + 1 + 1, 0, none⟩) (by simp only []; omega) _, ?_, h.row.far (p := ⟨z + 1 + 1, 0, none⟩) (by simp only []; omega) _, h.onb.far (p := ⟨z + 1 + 1, 0, none⟩) (by simp only []; omega) _, h.qbx.far (p := ⟨z + 1 + 1, 0, none⟩) (by simp only []; omega) _, ?_, h.sep, h.okl, h.hb⟩
    · show Blk (W.setCell ⟨z + 1 + 1, 0, none⟩ (.bool true)) (z + 1 + 1) 176 #[.bool (!(ok && false))]
      simpa using h.sc.set_ 0 (.bool true)
    · intro k hk
      exact (h.own k hk).kept hg (fun g e => by cases e; exact (h.own k hk).other h.sc (by decide))
theorem LI.scaled (h : LI w W z b6 qb s N v L ok r o) (k : Bool) (hb : Below W.heap.size (offW W (z + 1 + 1) k) W') : LI w W' z b6 qb s N v L (ok && k) r o :=
  (h.scale k).ext (by rw [size_offW]; exact hb)
/-- one row turned -/
theorem LI.turn (h : LI w W z b6 qb s N v L ok r o) {k0 : Nat} (hk : k0 < N) (hg : W.grownBy W' (v k0).ownBlock) {x : Value} {l : List (Nat × Nat)} (hown : OwnL W' z x l)
    (hx : ∀ g, x.ownBlock = some g → (v k0).ownBlock = some g ∨ W.heap.size ≤ g) (hok : ∀ y ∈ l, LdOk y) : LI w W' z b6 qb s N (upd v k0 x) (upd L k0 l) ok r o := by
  have hh := h.hb
  have ho := h.own k0 hk
  have hne : ∀ {k : Nat} {t : TypeId} {cs : Array Value}, Blk W k t cs → 76 ≠ t → some k ≠ (v k0).ownBlock := fun hB ht e => ho.other hB ht e.symm
  refine ⟨?_, Blk.grown h.pile hg (hne h.pile (by decide)), h.outb.grown hg (hne h.outb (by decide)), h.sc.grown hg (hne h.sc (by decide)), h.row.grown hg (hne h.row (by decide)), h.onb.grown hg (hne h.onb (by decide)), h.qbx.grown hg (hne h.qbx (by decide)), ?_, ?_, ?_, h.hb⟩
  · refine h.below.trans ⟨hg.os, hg.tape, hg.output, hg.size, fun k hk' => hg.block k (by have := Blk.lt h.pile; omega) (fun e => ?_)⟩
    have := (ho.lt e.symm).1; omega
  · intro k hkN
    by_cases e : k = k0
    · subst e; rw [upd_same, upd_same]; exact hown
    · rw [upd_ne _ _ e, upd_ne _ _ e]
      exact (h.own k hkN).kept hg (fun g eg => h.sep k0 k g hk hkN (fun e' => e e'.symm) eg)
  · intro j k g hj hkN hjk hjg
    by_cases ej : j = k0
    · subst ej
      rw [upd_same] at hjg
      rw [upd_ne _ _ (fun e => hjk e.symm)]
      rcases hx g hjg with h1 | h1
      · exact h.sep j k g hj hkN hjk h1
      · intro e; have := ((h.own k hkN).lt e).2; omega
    · rw [upd_ne _ _ ej] at hjg
      by_cases ek : k = k0
      · subst ek
        rw [upd_same]
        intro e
        rcases hx g e with h1 | h1
        · exact h.sep j k g hj hkN hjk hjg h1
        · have := ((h.own j hj).lt hjg).2; omega
      · rw [upd_ne _ _ ek]; exact h.sep j k g hj hkN hjk hjg
  · intro k hkN y hy
    by_cases e : k = k0
    · subst e; rw [upd_same] at hy; exact hok y hy
    · rw [upd_ne _ _ e] at hy; exact h.okl k hkN y hy
/-- a row more -/
theorem LI.more (h : LI w W z b6 qb s N v L ok r o) (hb : Below W.heap.size W W') {x : Value} {l : List (Nat × Nat)} (hown : OwnL W' W.heap.size x l) (hok : ∀ y ∈ l, LdOk y) : LI w W' z b6 qb s (N + 1) (upd v N x) (upd L N l) ok r o := by
  have h' := h.ext hb
  have hz := Blk.lt h.pile
  refine ⟨h'.below, h'.pile, h'.outb, h'.sc, h'.row, h'.onb, h'.qbx, ?_, ?_, ?_, h.hb⟩
  · intro k hk
    by_cases e : k = N
    · subst e; rw [upd_same, upd_same]; exact ownMono hown (by omega)
    · rw [upd_ne _ _ e, upd_ne _ _ e]; exact h'.own k (by omega)
  · intro j k g hj hk hjk hjg
    by_cases ej : j = N
    · subst ej
      rw [upd_same] at hjg
      rw [upd_ne _ _ (fun e => hjk e.symm)]
      intro e
      have h1 := (hown.lt hjg).1
      have h2 := ((h.own k (by omega)).lt e).2
      omega
    · rw [upd_ne _ _ ej] at hjg
      by_cases ek : k = N
      · subst ek
        rw [upd_same]
        intro e
        have h1 := (hown.lt e).1
        have h2 := ((h.own j (by omega)).lt hjg).2
        omega
      · rw [upd_ne _ _ ek]; exact h.sep j k g (by omega) (by omega) hjk hjg
  · intro k hk y hy
    by_cases e : k = N
    · subst e; rw [upd_same] at hy; exact hok y hy
    · rw [upd_ne _ _ e] at hy; exact h.okl k (by omega) y hy
/-- a store into the row of rows -/
theorem LI.setRow (h : LI w W z b6 qb s N v L ok r o) (t : Nat) (x : Value) : LI w (W.setCell ⟨z + 3, t, none⟩ x) z b6 qb s N v L ok (upd r t x) o := by
  have hh := h.hb
  have hg := grownBy_setC W (z + 3) t x
  refine ⟨h.below.setCell (p := ⟨z + 3, t, none⟩) (by simp only []; omega) _, Blk.far h.pile (p := ⟨z + 3, t, none⟩) (by simp only []; omega) _, h.outb.far (p := ⟨z + 3, t, none⟩) (by simp only []; omega) _, h.sc.far (p := ⟨z + 3, t, none⟩) (by simp only []; omega) _, ?_, h.onb.far (p := ⟨z + 3, t, none⟩) (by simp only []; omega) _, h.qbx.far (p := ⟨z + 3, t, none⟩) (by simp only []; omega) _, ?_, h.sep, h.okl, h.hb⟩
  · have := h.row.set_ t x
    rwa [rowV_set] at this
  · intro k hk
    exact (h.own k hk).kept hg (fun g e => by cases e; exact (h.own k hk).other h.row (by decide))
/-- a store into the floor's box -/
theorem LI.setOn (h : LI w W z b6 qb s N v L ok r o) (x : Value) : LI w (W.setCell ⟨b6, 0, none⟩ x) z b6 qb s N v L ok r x := by
  have hh := h.hb
  have hg := grownBy_setC W b6 0 x
  refine ⟨h.below.setCell (p := ⟨b6, 0, none⟩) (by simp only []; omega) _, Blk.far h.pile (p := ⟨b6, 0, none⟩) (by simp only []; omega) _, h.outb.far (p := ⟨b6, 0, none⟩) (by simp only []; omega) _, h.sc.far (p := ⟨b6, 0, none⟩) (by simp only []; omega) _, h.row.far (p := ⟨b6, 0, none⟩) (by simp only []; omega) _, ?_, h.qbx.far (p := ⟨b6, 0, none⟩) (by simp only []; omega) _, ?_, h.sep, h.okl, h.hb⟩
  · simpa using h.onb.set_ 0 x
  · intro k hk
    exact (h.own k hk).kept hg (fun g e => by cases e; exact (h.own k hk).other h.onb (by decide))
/-- the last row takes the place of the one before it -/
theorem LI.drop (h : LI w W z b6 qb s (N + 2) v L ok r o) : LI w W z b6 qb s (N + 1) (upd v N (v (N + 1))) (upd L N (L (N + 1))) ok r o := by
  refine ⟨h.below, h.pile, h.outb, h.sc, h.row, h.onb, h.qbx, ?_, ?_, ?_, h.hb⟩
  · intro k hk
    by_cases e : k = N
    · subst e; rw [upd_same, upd_same]; exact h.own _ (by omega)
    · rw [upd_ne _ _ e, upd_ne _ _ e]; exact h.own k (by omega)
  · intro j k g hj hk hjk hjg
    by_cases ej : j = N
    · subst ej
      rw [upd_same] at hjg
      rw [upd_ne _ _ (fun e => hjk e.symm)]
      exact h.sep _ k g (by omega) (by omega) (by omega) hjg
    · rw [upd_ne _ _ ej] at hjg
      by_cases ek : k = N
      · subst ek; rw [upd_same]; exact h.sep j _ g (by omega) (by omega) (by omega) hjg
      · rw [upd_ne _ _ ek]; exact h.sep j k g (by omega) (by omega) hjk hjg
  · intro k hk y hy
    by_cases e : k = N
    · subst e; rw [upd_same] at hy; exact h.okl _ (by omega) y hy
    · rw [upd_ne _ _ e] at hy; exact h.okl k (by omega) y hy
end
end Go.Proofs.Ytlhekifmkkgjlaa
