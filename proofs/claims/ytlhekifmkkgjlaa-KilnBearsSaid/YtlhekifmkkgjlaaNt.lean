/- The law KilnBears: three lists that grow; the first brick from the top down. -/
import Derived.Test.YtlhekifmkkgjlaaNs
set_option linter.unusedSimpArgs false
set_option linter.unusedVariables false
set_option linter.unnecessarySimpa false
namespace Go.Proofs.Ytlhekifmkkgjlaa
open Go Go.RowKit Go.Shelf
set_option maxRecDepth 100000
theorem int_read (w : World) (a : Value) (e : TypeId) : Reads (w.alloc (.cells #[a] e)) (w.heap.size + 1) 1 (some ⟨w.heap.size, 0, none⟩) 1 [a] := by
  have h : ER (w.alloc (.cells #[a] e)) (w.heap.size + 1) 1 (some ⟨w.heap.size, 0, none⟩) 1 (fun _ _ => a) := fun _ => ⟨w.heap.size, 0, rfl, by omega, fun k i hk hi => by
    obtain rfl : k = 0 := by omega
    obtain rfl : i = 0 := by omega
    obtain ⟨-, z1⟩ := bx1 (Blk.new w e #[a])
    simpa using z1⟩
  have h2 := h.reads (by omega)
  have e2 : cellsOf 1 1 (fun _ _ => a) = [a] := by simp [cellsOf]
  rw [e2] at h2
  exact h2
theorem cellsOf_snoc1 (n : Nat) (x : Nat → Int) : cellsOf 1 (n + 1) (fun i _ => Value.int .i64 (x i)) = cellsOf 1 n (fun i _ => Value.int .i64 (x i)) ++ [.int .i64 (x n)] := by
  simp [cellsOf, List.range_succ]
abbrev rowX (w : World) (base : Nat) (x : Value) (k : Nat) (f : Nat → Int) : Prop := w.ownsRow base 3 1 x k (cellsOf 1 k fun i _ => .int .i64 (f i))
theorem rowX_snoc {w : World} {base k : Nat} {x : Value} {f : Nat → Int} (h : w.ownsRow base 3 1 x (k + 1) (cellsOf 1 k (fun i _ => Value.int .i64 (f i)) ++ [.int .i64 (f k)])) : rowX w base x (k + 1) f := by
  unfold rowX; rw [cellsOf_snoc1]; exact h
/-- three lists of their own -/
structure Tri (base : Nat) (f g h : Nat → Int) (k : Nat) (x y z : Value) (wr : World) : Prop where
  rx : rowX wr base x k f
  ry : rowX wr base y k g
  rz : rowX wr base z k h
  xy : x.ownBlock ≠ y.ownBlock
  xz : x.ownBlock ≠ z.ownBlock
  yz : y.ownBlock ≠ z.ownBlock
/-- what a list that grows leaves of another one -/
theorem row_other {wr w2 : World} {base n : Nat} {x y : Value} {f : Nat → Int} {o : Obj} (hy : rowX wr base y n f) (hg : (wr.alloc o).grownBy w2 x.ownBlock) (hne : x.ownBlock ≠ y.ownBlock) : rowX w2 base y n f :=
  World.ownsRow.kept (World.ownsRow.alloc hy o) hg (.inr (Ne.symm hne))
theorem block_other {wr : World} {base n : Nat} {x x' y : Value} {f : Nat → Int} {o : Obj} (hy : rowX wr base y n f) (ho : x'.ownBlock = x.ownBlock ∨ x'.ownBlock = some (wr.alloc o).heap.size) (hne : x.ownBlock ≠ y.ownBlock) : x'.ownBlock ≠ y.ownBlock := by
  rcases ho with h | h
  · rw [h]; exact hne
  · rw [h]
    intro e
    have := (hy.lt _ e.symm).2
    simp at this
    omega
/-- all else of the law that it keeps -/
structure BR (w : World) (s : Stk) (z : Nat) (v : Nat → Value) (wr : World) : Prop where
  below : Below w.heap.size w wr
  bx : Blk wr w.heap.size 55 #[.int .i64 s.wd, .int .i64 s.hg, .slice s.A s.nt s.cap]
  row : Blk wr (z + 3) 65 (rowV s.nt v)
  own : ∀ k, k ≤ s.nt → OwnL wr z (v k) (LoadsL s k)
theorem BR.ext {w wr w' : World} {s : Stk} {z : Nat} {v : Nat → Value} (h : BR w s z v wr) (hb : Below wr.heap.size wr w') : BR w s z v w' :=
  ⟨h.below.trans (hb.mono h.below.size), h.bx.ext hb, h.row.ext hb, fun k hk => ownBelow (h.own k hk) hb⟩
theorem BR.push {w wr w2 : World} {s : Stk} {z n : Nat} {v : Nat → Value} {x : Value} {f : Nat → Int} {o : Obj} (h : BR w s z v wr) (hx : rowX wr w.heap.size x n f) (hg : (wr.alloc o).grownBy w2 x.ownBlock) : BR w s z v w2 := by
  have h2 := h.ext ((Below.refl _ wr).alloc (Nat.le_refl _) o)
  have hx2 : rowX (wr.alloc o) w.heap.size x n f := World.ownsRow.alloc hx o
  exact ⟨h2.below.grown hg h2.below.size (fun j hj => (hx2.lt j hj).1), h2.bx.grown hg (fun e => own_blk_ne hx2 h2.bx (by decide) e.symm), h2.row.grown hg (fun e => own_blk_ne hx2 h2.row (by decide) e.symm), fun k hk => World.ownsRow.kept (h2.own k hk) hg (rows_ne (h2.own k hk) hx2 (by decide))⟩
theorem BR.far {w wr : World} {s : Stk} {z g i : Nat} {v : Nat → Value} {t : TypeId} {cs : Array Value} (h : BR w s z v wr) (hB : Blk wr g t cs) (h1 : w.heap.size < g) (h2 : t ≠ 65) (h3 : t ≠ 76) (u : Value) : BR w s z v (wr.setCell ⟨g, i, none⟩ u) :=
  ⟨h.below.setCell (p := ⟨g, i, none⟩) (by show w.heap.size ≤ g; omega) _, h.bx.far (p := ⟨g, i, none⟩) (by show w.heap.size ≠ g; omega) _, h.row.far (p := ⟨g, i, none⟩) (fun e => h2 (by
    have e' : z + 3 = g := e
    subst e'
    exact Classical.byContradiction fun hne => Blk.ne_ hB h.row hne rfl)) _, fun k hk => World.ownsRow.kept (h.own k hk) (grownBy_setC wr g i u) (.inr (own_blk_ne (h.own k hk) hB (Ne.symm h3)))⟩
/-- b is the first brick of which p is true, of those behind (r, j); or there is none -/
def Best (p : Nat → Nat → Bool) (wn : Nat → Nat) (n r j : Nat) (b : Int × Int) : Prop :=
  (b = (-1, -1) ∧ ∀ t i, (r < t ∨ r = t ∧ j ≤ i) → t < n → i < wn t → p t i = false) ∨
  (∃ t i : Nat, b = ((t : Int), (i : Int)) ∧ (r < t ∨ r = t ∧ j ≤ i) ∧ t < n ∧ i < wn t ∧ p t i = true ∧ ∀ t' i', (r < t' ∨ r = t' ∧ j ≤ i') → (t' < t ∨ t' = t ∧ i' < i) → i' < wn t' → p t' i' = false)
theorem Best.no {p : Nat → Nat → Bool} {wn : Nat → Nat} {n r j : Nat} {b : Int × Int} (h : Best p wn n r (j + 1) b) (hp : p r j = false) : Best p wn n r j b := by
  rcases h with ⟨h1, h2⟩ | ⟨t, i, h1, h2, h3, h4, h5, h6⟩
  · refine .inl ⟨h1, fun t i ho ht hi => ?_⟩
    by_cases e : r = t ∧ i = j
    · obtain ⟨rfl, rfl⟩ := e; exact hp
    · exact h2 t i (by omega) ht hi
  · refine .inr ⟨t, i, h1, by omega, h3, h4, h5, fun t' i' ho hl hi => ?_⟩
    by_cases e : r = t' ∧ i' = j
    · obtain ⟨rfl, rfl⟩ := e; exact hp
    · exact h6 t' i' (by omega) hl hi
theorem Best.yes {p : Nat → Nat → Bool} {wn : Nat → Nat} {n r j : Nat} (hr : r < n) (hj : j < wn r) (hp : p r j = true) : Best p wn n r j ((r : Int), (j : Int)) :=
  .inr ⟨r, j, rfl, by omega, hr, hj, hp, fun t' i' h1 h2 _ => by omega⟩
theorem Best.down {p : Nat → Nat → Bool} {wn : Nat → Nat} {n r : Nat} {b : Int × Int} (h : Best p wn n (r + 1) 0 b) : Best p wn n r (wn r) b := by
  rcases h with ⟨h1, h2⟩ | ⟨t, i, h1, h2, h3, h4, h5, h6⟩
  · refine .inl ⟨h1, fun t i ho ht hi => h2 t i ?_ ht hi⟩
    rcases ho with ho | ⟨rfl, ho⟩
    · omega
    · omega
  · refine .inr ⟨t, i, h1, by omega, h3, h4, h5, fun t' i' ho hl hi => h6 t' i' ?_ hl hi⟩
    rcases ho with ho | ⟨rfl, ho⟩
    · omega
    · omega
theorem Best.top (p : Nat → Nat → Bool) (wn : Nat → Nat) (n : Nat) : Best p wn n n 0 (-1, -1) := .inl ⟨rfl, fun t i h1 h2 _ => by omega⟩
theorem Best.all {p : Nat → Nat → Bool} {wn : Nat → Nat} {n : Nat} {b : Int × Int} (h : Best p wn n 0 0 b) : firstOf p (bricksTo wn n) = b := by
  rcases h with ⟨rfl, h2⟩ | ⟨t, i, rfl, h2, h3, h4, h5, h6⟩
  · exact firstOf_no fun t i ht hi => h2 t i (by omega) ht hi
  · exact firstOf_at (fun t' i' h1 h2 => h6 t' i' (by omega) (.inl h1) h2) (fun i' h1 => h6 t i' (by omega) (.inr ⟨rfl, h1⟩) (by omega)) h3 h4 h5
/-- what the law asks of two first bricks: the weaker property comes no later -/
theorem first_later {p q : Nat → Nat → Bool} {wn : Nat → Nat} {n : Nat} (h : ∀ t i, t < n → i < wn t → p t i = true → q t i = true) :
    firstOf p (bricksTo wn n) = (-1, -1) ∨ ∃ a b c d : Nat, firstOf p (bricksTo wn n) = ((a : Int), (b : Int)) ∧ firstOf q (bricksTo wn n) = ((c : Int), (d : Int)) ∧ (c < a ∨ c = a ∧ d ≤ b) := by
  unfold firstOf
  cases hp : (bricksTo wn n).find? (fun x => p x.1 x.2) with
  | none => exact .inl rfl
  | some x =>
    right
    have hx := List.find?_some hp
    have hm := List.mem_of_find?_eq_some hp
    obtain ⟨h1, h2⟩ := (mem_bricksTo wn n x.1 x.2).1 hm
    have hqx := h _ _ h1 h2 hx
    cases hq : (bricksTo wn n).find? (fun x => q x.1 x.2) with
    | none =>
      have := List.find?_eq_none.1 hq x hm
      rw [hqx] at this
      simp at this
    | some y =>
      refine ⟨x.1, x.2, y.1, y.2, rfl, rfl, ?_⟩
      have hy := List.find?_some hq
      have hym := List.mem_of_find?_eq_some hq
      obtain ⟨h3, h4⟩ := (mem_bricksTo wn n y.1 y.2).1 hym
      apply Classical.byContradiction
      intro hne
      have hlt : x.1 < y.1 ∨ x.1 = y.1 ∧ x.2 < y.2 := by omega
      have hat : firstOf q (bricksTo wn n) = ((y.1 : Int), (y.2 : Int)) := by unfold firstOf; rw [hq]
      -- the first one of q is no later than x
      have key : ∀ l : List (Nat × Nat), l.Pairwise (fun a b => a.1 < b.1 ∨ a.1 = b.1 ∧ a.2 < b.2) → l.find? (fun x => q x.1 x.2) = some y → x ∈ l → y = x ∨ (y.1 < x.1 ∨ y.1 = x.1 ∧ y.2 < x.2) := by
        intro l
        induction l with
        | nil => intro _ _ hx; cases hx
        | cons a l ih =>
          intro hpw hf hx
          rw [List.pairwise_cons] at hpw
          rw [List.find?_cons] at hf
          cases hqa : q a.1 a.2 with
          | true =>
            rw [hqa] at hf
            injection hf with hf
            subst hf
            rcases List.mem_cons.1 hx with e | e
            · exact .inl e.symm
            · exact .inr (hpw.1 x e)
          | false =>
            rw [hqa] at hf
            rcases List.mem_cons.1 hx with e | e
            · subst e; rw [hqx] at hqa; cases hqa
            · exact ih hpw.2 hf e
      have hpw : (bricksTo wn n).Pairwise (fun a b => a.1 < b.1 ∨ a.1 = b.1 ∧ a.2 < b.2) := by
        clear hp hq hm hym h1 h3 hat hne hlt
        induction n with
        | zero => simp [bricksTo]
        | succ n ih =>
          rw [bricksTo_succ, List.pairwise_append]
          refine ⟨ih (fun t i ht => h t i (by omega)), ?_, fun a ha b hb => ?_⟩
          · unfold rowTo
            rw [List.pairwise_map]
            exact List.Pairwise.imp (fun hab => .inr ⟨rfl, hab⟩) List.pairwise_lt_range
          · obtain ⟨ha1, ha2⟩ := (mem_bricksTo wn n a.1 a.2).1 ha
            unfold rowTo at hb
            obtain ⟨j, hj, rfl⟩ := List.mem_map.1 hb
            exact .inl ha1
      rcases key _ hpw hq hm with e | e
      · rw [e] at hlt; omega
      · omega
theorem rowX.ir {w : World} {base n c : Nat} {A : Option Addr} {f : Nat → Int} (h : rowX w base (.slice A n c) n f) : IR w w.heap.size A n f := by
  obtain ⟨A', c', hv, hE, -⟩ := ER.of_own h (by omega)
  injection hv with h1 h2 h3
  subst h1
  exact hE
def never : Nat → Int := fun _ => 0
def ever : Nat → Int := fun _ => 1000000
theorem crush_ever {s : Stk} (h1 : stackB s = true) (h2 : (hangF s).1 < 0) (h3 : LoadsB s = true) (hnt : s.nt ≤ 8) (hb : ∀ k, k < s.nt → s.wn k ≤ 36) : firstOf (crushP s ever) (bricksTo s.wn s.nt) = (-1, -1) := by
  refine firstOf_no fun t i ht hi => ?_
  have hl := load_bd h1 h2 h3 (M := 36) (fun k hk => hb k hk) ht hi
  have hc : 0 < (cellsTo (s.cf t) i (s.cn t)).length := by
    have := rest_pos h2 t i ht hi
    have h4 : (restL s t i).length ≤ (cellsTo (s.cf t) i (s.cn t)).length := List.length_filter_le _ _
    omega
  unfold crushP crushB ever
  rw [decide_eq_false_iff_not]
  generalize (LoadsL s t).getD i (0, 1) = x at hl
  generalize (cellsTo (s.cf t) i (s.cn t)).length = n at hc
  have e1 : s.nt * (36 * 1000) * x.2 ≤ (n * 1000000) * x.2 := Nat.mul_le_mul_right _ (by omega)
  have e2 : ((n : Int) * 1000000) * (x.2 : Int) = (((n * 1000000) * x.2 : Nat) : Int) := by rw [Int.natCast_mul, Int.natCast_mul]; rfl
  rw [e2]
  omega
theorem crush_never (s : Stk) (t i : Nat) : crushP s never t i = decide (0 < ((LoadsL s t).getD i (0, 1)).1) := by
  unfold crushP crushB never
  rw [Bool.eq_iff_iff, decide_eq_true_eq, decide_eq_true_eq, Int.mul_zero, Int.zero_mul]
  omega
theorem crush_mono {s : Stk} {v : Nat → Int} (hv : ∀ k, k < s.nt → 0 ≤ v k) : ∀ t i, t < s.nt → i < s.wn t → crushP s v t i = true → crushP s never t i = true := fun t i ht _ h => by
  rw [crush_never]
  unfold crushP crushB at h
  rw [decide_eq_true_eq] at h ⊢
  generalize (LoadsL s t).getD i (0, 1) = x at h ⊢
  have h1 : 0 ≤ ((cellsTo (s.cf t) i (s.cn t)).length : Int) * v t * (x.2 : Int) := Int.mul_nonneg (Int.mul_nonneg (by omega) (hv t ht)) (by omega)
  omega
theorem wi_some {v : Nat → Int} {n : Nat} (hv : ∀ k, k < n → 0 ≤ v k ∧ v k ≤ 65535) : wiB 0 1000000 v n = true := (wiB_iff _ _ _ _).2 fun k hk => by have := hv k hk; omega
theorem wi_never (n : Nat) : wiB 0 1000000 never n = true := (wiB_iff _ _ _ _).2 fun k _ => by unfold never; omega
theorem wi_ever (n : Nat) : wiB 0 1000000 ever n = true := (wiB_iff _ _ _ _).2 fun k _ => by unfold ever; omega
/-- the boxes of the last part: what was found with strength (R1), with none (R2); no brick; the first one so far -/
structure Bx (w : World) (s : Stk) (z : Nat) (vv : Nat → Value) (g1 g2 g8 g9 : Nat) (R1 R2 b : Int × Int) (wr : World) : Prop where
  br : BR w s z vv wr
  k1 : Blk wr g1 59 #[.int .i64 R1.1, .int .i64 R1.2]
  k2 : Blk wr g2 59 #[.int .i64 R2.1, .int .i64 R2.2]
  k8 : Blk wr g8 59 #[.int .i64 (-1), .int .i64 (-1)]
  k9 : Blk wr g9 59 #[.int .i64 b.1, .int .i64 b.2]
  lo : w.heap.size < g9 ∧ g1 ≠ g9 ∧ g2 ≠ g9 ∧ g8 ≠ g9
theorem Bx.put {w wr : World} {s : Stk} {z g1 g2 g8 g9 : Nat} {vv : Nat → Value} {R1 R2 b : Int × Int} (h : Bx w s z vv g1 g2 g8 g9 R1 R2 b wr) (t j : Int) :
    Bx w s z vv g1 g2 g8 g9 R1 R2 (t, j) ((wr.setCell ⟨g9, 0, none⟩ (.int .i64 t)).setCell ⟨g9, 1, none⟩ (.int .i64 j)) := by
  obtain ⟨l1, l2, l3, l4⟩ := h.lo
  have h9 := h.k9.set_ 0 (.int .i64 t)
  exact ⟨(h.br.far h.k9 l1 (by decide) (by decide) _).far h9 l1 (by decide) (by decide) _, (h.k1.far (p := ⟨g9, 0, none⟩) l2 _).far (p := ⟨g9, 1, none⟩) l2 _, (h.k2.far (p := ⟨g9, 0, none⟩) l3 _).far (p := ⟨g9, 1, none⟩) l3 _, (h.k8.far (p := ⟨g9, 0, none⟩) l4 _).far (p := ⟨g9, 1, none⟩) l4 _, h.k9.set2 _ _, h.lo⟩
end Go.Proofs.Ytlhekifmkkgjlaa
