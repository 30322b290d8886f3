/- Chapter 8: a copy of a stack. -/
import Derived.Test.YtlhekifmkkgjlaaNd
import Derived.Test.YtlhekifmkkgjlaaLaw
import Derived.Test.YtlhekifmkkgjlaaLb
set_option linter.unusedSimpArgs false
set_option linter.unusedVariables false
set_option linter.unnecessarySimpa false
namespace Go.Proofs.Ytlhekifmkkgjlaa
open Go Go.RowKit Go.Shelf
set_option maxHeartbeats 4000000
set_option maxRecDepth 100000
theorem info_tier : (Try.prog.info? 72).map (fun i => (i.zero, i.size, i.bytes)) = some (some (.agg #[.slice none 0 0, .slice none 0 0]), 2, 48) := by kernel_rfl
theorem rows_ne {w : World} {base base' : Nat} {e e' : TypeId} {sz sz' n n' : Nat} {v v' : Value} {xs xs' : List Value} (h : w.ownsRow base e sz v n xs) (h' : w.ownsRow base' e' sz' v' n' xs') (hne : e ≠ e') : v.ownBlock = none ∨ v.ownBlock ≠ v'.ownBlock := by
  rcases h'.2 with ⟨rfl, -⟩ | ⟨g, cap, cur, rfl, -, hg, -⟩
  · rcases h.2 with ⟨rfl, -⟩ | ⟨g', cap', cur', rfl, -⟩
    · exact .inl rfl
    · exact .inr (by simp [Value.ownBlock])
  · exact .inr (own_blk_ne h (show Blk w g e' cur from hg) hne)
def tierV (s : Stk) (ca wa : Nat → Option Addr) (cc wc : Nat → Nat) (j i : Nat) : Value := if i = 0 then .slice (ca j) (s.cn j) (cc j) else .slice (wa j) (s.wn j) (wc j)
def rowI (w : World) (base : Nat) (A : Option Addr) (n c : Nat) (x : Nat → Int) : Prop := w.ownsRow base 3 1 (.slice A n c) n (cellsOf 1 n fun i _ => .int .i64 (x i))
theorem rowI.kept {w w' : World} {base n c : Nat} {A : Option Addr} {x : Nat → Int} {row : Option Nat} (h : rowI w base A n c x) (hg : w.grownBy w' row) (hne : (Value.slice A n c).ownBlock = none ∨ (Value.slice A n c).ownBlock ≠ row) : rowI w' base A n c x := World.ownsRow.kept h hg hne
theorem rowI.ext {w w' : World} {base n c : Nat} {A : Option Addr} {x : Nat → Int} (h : rowI w base A n c x) (hb : Below w.heap.size w w') : rowI w' base A n c x := ownBelow h hb
theorem rowI.ir {w : World} {base n c : Nat} {A : Option Addr} {x : Nat → Int} (h : rowI w base A n c x) : IR w w.heap.size A n x := by
  obtain ⟨A', c', hv, hE, -⟩ := ER.of_own h (by omega)
  injection hv with h1 h2 h3
  subst h1
  exact hE
/-- k tiers copied into v -/
structure OwnRel (w : World) (s : Stk) (k : Nat) (v : Value) (ca wa : Nat → Option Addr) (cc wc : Nat → Nat) (wr : World) : Prop where
  below : Below w.heap.size w wr
  bx : Blk wr w.heap.size 55 #[.int .i64 s.wd, .int .i64 s.hg, .slice s.A s.nt s.cap]
  rb : Blk wr (w.heap.size + 1) 55 #[.int .i64 0, .int .i64 0, .slice none 0 0]
  own : wr.ownsRow w.heap.size 72 2 v k (cellsOf 2 k (tierV s ca wa cc wc))
  rows : ∀ j, j < k → rowI wr w.heap.size (ca j) (s.cn j) (cc j) (s.cf j) ∧ rowI wr w.heap.size (wa j) (s.wn j) (wc j) (s.wf j)
theorem OwnRel.ext {w wr w' : World} {s : Stk} {k : Nat} {v : Value} {ca wa : Nat → Option Addr} {cc wc : Nat → Nat} (h : OwnRel w s k v ca wa cc wc wr) (hb : Below wr.heap.size wr w') : OwnRel w s k v ca wa cc wc w' :=
  ⟨h.below.trans (hb.mono h.below.size), h.bx.ext hb, h.rb.ext hb, ownBelow h.own hb, fun j hj => ⟨(h.rows j hj).1.ext hb, (h.rows j hj).2.ext hb⟩⟩
theorem cellsOf_two (n : Nat) (g : Nat → Nat → Value) : cellsOf 2 (n + 1) g = cellsOf 2 n g ++ [g n 0, g n 1] := by
  unfold cellsOf
  rw [show (n + 1) * 2 = n * 2 + 1 + 1 by omega, List.range_succ, List.range_succ, List.map_append, List.map_append, List.append_assoc]
  congr 1
  simp only [List.map_cons, List.map_nil, List.cons_append, List.nil_append]
  rw [show n * 2 / 2 = n by omega, show n * 2 % 2 = 0 by omega, show (n * 2 + 1) / 2 = n by omega, show (n * 2 + 1) % 2 = 1 by omega]
theorem cellsOf_same {sz n : Nat} {g g' : Nat → Nat → Value} (h : ∀ j i, j < n → i < sz → g j i = g' j i) (hs : 0 < sz) : cellsOf sz n g = cellsOf sz n g' := by
  unfold cellsOf
  refine List.map_congr_left fun j hj => h _ _ ?_ (Nat.mod_lt _ hs)
  have := List.mem_range.1 hj
  exact (Nat.div_lt_iff_lt_mul hs).2 this
theorem OwnRel.step {w wr w2 w3 : World} {s : Stk} {k : Nat} {v v' : Value} {ca wa : Nat → Option Addr} {cc wc : Nat → Nat} {A B : Option Addr} {c d : Nat} (h : OwnRel w s k v ca wa cc wc wr) (hb : Below wr.heap.size wr w2)
    (hA : rowI w2 w.heap.size A (s.cn k) c (s.cf k)) (hB : rowI w2 w.heap.size B (s.wn k) d (s.wf k)) (hg : w2.grownBy w3 v.ownBlock)
    (ho : w3.ownsRow w.heap.size 72 2 v' (k + 1) (cellsOf 2 k (tierV s ca wa cc wc) ++ [.slice A (s.cn k) c, .slice B (s.wn k) d])) :
    OwnRel w s (k + 1) v' (upd ca k A) (upd wa k B) (upd cc k c) (upd wc k d) w3 := by
  have h2 := h.ext hb
  have hlt : ∀ j, v.ownBlock = some j → w.heap.size ≤ j := fun j hj => (h2.own.lt j hj).1
  refine ⟨h2.below.grown hg h2.below.size hlt, h2.bx.grown hg (fun e => own_blk_ne h2.own h2.bx (by decide) e.symm), h2.rb.grown hg (fun e => own_blk_ne h2.own h2.rb (by decide) e.symm), ?_, fun j hj => ?_⟩
  · rw [cellsOf_two, cellsOf_same (g := tierV s (upd ca k A) (upd wa k B) (upd cc k c) (upd wc k d)) (g' := tierV s ca wa cc wc) (fun j i hj hi => by unfold tierV; rw [upd_ne _ _ (by omega), upd_ne _ _ (by omega), upd_ne _ _ (by omega), upd_ne _ _ (by omega)]) (by omega)]
    have e0 : tierV s (upd ca k A) (upd wa k B) (upd cc k c) (upd wc k d) k 0 = .slice A (s.cn k) c := by unfold tierV; rw [if_pos rfl, upd_same, upd_same]
    have e1 : tierV s (upd ca k A) (upd wa k B) (upd cc k c) (upd wc k d) k 1 = .slice B (s.wn k) d := by unfold tierV; rw [if_neg (by omega), upd_same, upd_same]
    rw [e0, e1]
    exact ho
  · by_cases e : j = k
    · subst e
      simp only [upd_same]
      exact ⟨hA.kept hg (rows_ne hA h2.own (by decide)), hB.kept hg (rows_ne hB h2.own (by decide))⟩
    · rw [upd_ne _ _ e, upd_ne _ _ e, upd_ne _ _ e, upd_ne _ _ e]
      obtain ⟨r1, r2⟩ := h2.rows j (by omega)
      exact ⟨r1.kept hg (rows_ne r1 h2.own (by decide)), r2.kept hg (rows_ne r2 h2.own (by decide))⟩
def Stk.at (s : Stk) (A : Option Addr) (c : Nat) (ca wa : Nat → Option Addr) (cc wc : Nat → Nat) : Stk := { s with A := A, cap := c, ca := ca, wa := wa, cc := cc, wc := wc }
def OwnPost (s : Stk) (w : World) (e : Ending) (w' : World) : Prop :=
  ∃ A c ca wa cc wc, e = .returned (.agg #[.int .i64 s.wd, .int .i64 s.hg, .slice A s.nt c]) ∧ StkR w' w'.heap.size (s.at A c ca wa cc wc) ∧ Below w.heap.size w w'
theorem OwnRel.stk {w wr : World} {s : Stk} {A : Option Addr} {c : Nat} {ca wa : Nat → Option Addr} {cc wc : Nat → Nat} (h : OwnRel w s s.nt (.slice A s.nt c) ca wa cc wc wr) (hs : StkR w w.heap.size s) : StkR wr wr.heap.size (s.at A c ca wa cc wc) := by
  obtain ⟨A', c', hv, hE, -⟩ := ER.of_own h.own (by omega)
  injection hv with h1 h2 h3
  subst h1 h3
  exact ⟨hs.1, hE, fun k hk => ⟨(hs.2.2 k hk).1, (hs.2.2 k hk).2.1, (h.rows k hk).1.ir, (h.rows k hk).2.ir⟩⟩
/-- the two boxes are written at the end -/
theorem OwnRel.shut {w wr : World} {s : Stk} {A : Option Addr} {c : Nat} {ca wa : Nat → Option Addr} {cc wc : Nat → Nat} (h : OwnRel w s s.nt (.slice A s.nt c) ca wa cc wc wr) (a b d e : Value) :
    Below w.heap.size w ((((wr.setCell ⟨w.heap.size, 2, none⟩ a).setCell ⟨w.heap.size + 1, 0, none⟩ b).setCell ⟨w.heap.size + 1, 1, none⟩ d).setCell ⟨w.heap.size + 1, 2, none⟩ e) ∧ (StkR w w.heap.size s →
    StkR ((((wr.setCell ⟨w.heap.size, 2, none⟩ a).setCell ⟨w.heap.size + 1, 0, none⟩ b).setCell ⟨w.heap.size + 1, 1, none⟩ d).setCell ⟨w.heap.size + 1, 2, none⟩ e) ((((wr.setCell ⟨w.heap.size, 2, none⟩ a).setCell ⟨w.heap.size + 1, 0, none⟩ b).setCell ⟨w.heap.size + 1, 1, none⟩ d).setCell ⟨w.heap.size + 1, 2, none⟩ e).heap.size (s.at A c ca wa cc wc)) := by
  have hb : Below w.heap.size w ((((wr.setCell ⟨w.heap.size, 2, none⟩ a).setCell ⟨w.heap.size + 1, 0, none⟩ b).setCell ⟨w.heap.size + 1, 1, none⟩ d).setCell ⟨w.heap.size + 1, 2, none⟩ e) :=
    (((h.below.setCell (p := ⟨w.heap.size, 2, none⟩) (Nat.le_refl _) _).setCell (p := ⟨w.heap.size + 1, 0, none⟩) (by show w.heap.size ≤ w.heap.size + 1; omega) _).setCell (p := ⟨w.heap.size + 1, 1, none⟩) (by show w.heap.size ≤ w.heap.size + 1; omega) _).setCell (p := ⟨w.heap.size + 1, 2, none⟩) (by show w.heap.size ≤ w.heap.size + 1; omega) _
  refine ⟨hb, fun hs => ?_⟩
  have g1 := grownBy_setC wr w.heap.size 2 a
  have hr : ∀ j, j < s.nt → rowI (wr.setCell ⟨w.heap.size, 2, none⟩ a) w.heap.size (ca j) (s.cn j) (cc j) (s.cf j) ∧ rowI (wr.setCell ⟨w.heap.size, 2, none⟩ a) w.heap.size (wa j) (s.wn j) (wc j) (s.wf j) := fun j hj => ⟨(h.rows j hj).1.kept g1 (.inr (own_blk_ne (h.rows j hj).1 h.bx (by decide))), (h.rows j hj).2.kept g1 (.inr (own_blk_ne (h.rows j hj).2 h.bx (by decide)))⟩
  have ho := World.ownsRow.kept h.own g1 (.inr (own_blk_ne h.own h.bx (by decide)))
  have hrb : Blk (wr.setCell ⟨w.heap.size, 2, none⟩ a) (w.heap.size + 1) 55 #[.int .i64 0, .int .i64 0, .slice none 0 0] := h.rb.far (by show w.heap.size + 1 ≠ w.heap.size; omega) _
  generalize wr.setCell ⟨w.heap.size, 2, none⟩ a = w1 at hb hr ho hrb ⊢
  have g2 := grownBy_setS (grownBy_setS (grownBy_setS (World.grownBy.refl w1 (some (w.heap.size + 1))) 0 b) 1 d) 2 e
  generalize ((w1.setCell ⟨w.heap.size + 1, 0, none⟩ b).setCell ⟨w.heap.size + 1, 1, none⟩ d).setCell ⟨w.heap.size + 1, 2, none⟩ e = w2 at hb g2 ⊢
  have ho2 := ho.kept g2 (.inr (own_blk_ne ho hrb (by decide)))
  obtain ⟨A', c', hv, hE, -⟩ := ER.of_own ho2 (by omega)
  injection hv with h1 h2 h3
  subst h1 h3
  exact ⟨hs.1, hE, fun k hk => ⟨(hs.2.2 k hk).1, (hs.2.2 k hk).2.1, rowI.ir ((hr k hk).1.kept g2 (.inr (own_blk_ne (hr k hk).1 hrb (by decide)))), rowI.ir ((hr k hk).2.kept g2 (.inr (own_blk_ne (hr k hk).2 hrb (by decide))))⟩⟩
end Go.Proofs.Ytlhekifmkkgjlaa
