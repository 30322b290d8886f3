/- Chapter 8: what each call does with one kind of a book, said in one way. -/
import Derived.Test.YtlhekifmkkgjlaaMe
set_option linter.unusedSimpArgs false
set_option linter.unusedVariables false
set_option linter.unnecessarySimpa false
namespace Go.Proofs.Ytlhekifmkkgjlaa
open Go Go.RowKit Go.Shelf
set_option maxHeartbeats 2000000
/-- the answer E, and kind k of the stores is now X -/
def StepPost (b S n : Nat) (spv ov : Value) (room : Int) (ws : Nat → Wa) (k : Nat) (E : Int) (X : Wa) (w : World) (e : Ending) (w' : World) : Prop :=
  e = .returned (.int .i64 E) ∧ Blk w' b 148 #[spv, .int .i64 room, .slice (some ⟨S, 0, none⟩) n n, ov] ∧ Stores w' S n (upd ws k X) ∧ w.grownBy w' (some S)
theorem book_ne {b S n : Nat} {spv ov : Value} {room : Int} {ws : Nat → Wa} {w : World} (hb : Blk w b 148 #[spv, .int .i64 room, .slice (some ⟨S, 0, none⟩) n n, ov]) (hS : Stores w S n ws) : b ≠ S := fun e => by
  obtain ⟨cs, hcs⟩ := hS.1
  exact hb.ne_ hcs (by decide) e
theorem step_same {b S n k : Nat} {spv ov : Value} {room E : Int} {ws : Nat → Wa} {w w' : World} (hb : Blk w b 148 #[spv, .int .i64 room, .slice (some ⟨S, 0, none⟩) n n, ov]) (hS : Stores w S n ws) (hB : Below w.heap.size w w') : StepPost b S n spv ov room ws k E (ws k) w (.returned (.int .i64 E)) w' := by
  obtain ⟨h1, h2⟩ := turn_of hS (World.grownBy.refl w _) rfl hB
  refine ⟨rfl, hb.ext hB, ?_, h2⟩
  rw [upd_self]; exact h1
theorem step_new {b S n k : Nat} {spv ov : Value} {room E : Int} {ws : Nat → Wa} {X : Wa} {w w1 w' : World} (hb : Blk w b 148 #[spv, .int .i64 room, .slice (some ⟨S, 0, none⟩) n n, ov]) (hS : Stores w S n ws) (hX : Stores w1 S n (upd ws k X)) (hg : w.grownBy w1 (some S)) (hz : w1.heap.size = w.heap.size) (hB : Below w.heap.size w1 w') : StepPost b S n spv ov room ws k E X w (.returned (.int .i64 E)) w' := by
  obtain ⟨h1, h2⟩ := turn_of hX hg hz hB
  exact ⟨rfl, hb.grown h2 (fun e => book_ne hb hS (by injection e)), h1, h2⟩
def mouldE (x : Wa) (m : Int) : Int := if 1000000000 < x.wet + x.dry + x.burning + x.fired + x.laid + x.broken + m then 8 else 0
def mouldX (x : Wa) (m : Int) : Wa := if 1000000000 < x.wet + x.dry + x.burning + x.fired + x.laid + x.broken + m then x else x.put 0 (x.wet + m)
theorem mould_step (b S n k : Nat) (spv ov : Value) (room m : Int) (ws : Nat → Wa) (w : World) (hb : Blk w b 148 #[spv, .int .i64 room, .slice (some ⟨S, 0, none⟩) n n, ov]) (hn : n ≤ 20) (hk : k < n) (hS : Stores w S n ws) (ho : OkW (ws k)) (h0 : 0 ≤ m) (h1 : m ≤ 1000000000) : Calls Try.prog 38 #[.pointer (some ⟨b, 0, none⟩), .int .i64 k, .int .i64 m] w (StepPost b S n spv ov room ws k (mouldE (ws k) m) (mouldX (ws k) m) w) := by
  by_cases hf : 1000000000 < (ws k).wet + (ws k).dry + (ws k).burning + (ws k).fired + (ws k).laid + (ws k).broken + m
  · refine (mould_full b S n k spv ov room m (ws k) w hb hn hk (hS.2 k hk) ho h0 h1 hf).mono ?_
    rintro e w' ⟨rfl, hB⟩
    unfold mouldE mouldX
    rw [if_pos hf, if_pos hf]
    exact step_same hb hS hB
  · refine (mould_ok b S n k spv ov room m (ws k) w hb hn hk (hS.2 k hk) ho h0 h1 (by omega)).mono ?_
    rintro e w' ⟨rfl, hB⟩
    unfold mouldE mouldX
    rw [if_neg hf, if_neg hf]
    exact step_new hb hS (hS.set (k := k) (i := 0) hk (by omega) _) (grownBy_setS (World.grownBy.refl w _) _ _) (size_set _ _ _) hB
def dryE (x : Wa) (m br : Int) : Int := if ¬ (0 ≤ br ∧ br ≤ m) then 2 else if x.wet < m then 9 else 0
def dryX (x : Wa) (m br : Int) : Wa := if ¬ (0 ≤ br ∧ br ≤ m) then x else if x.wet < m then x else (((x.put 0 (x.wet - m)).put 1 (x.dry + m)).put 1 (x.dry + m - br)).put 5 (x.broken + br)
theorem dry_step (b S n k : Nat) (spv ov : Value) (room m : Int) (ws : Nat → Wa) (w : World) (hb : Blk w b 148 #[spv, .int .i64 room, .slice (some ⟨S, 0, none⟩) n n, ov]) (hn : n ≤ 20) (hk : k < n) (hS : Stores w S n ws) (ho : OkW (ws k)) (h0 : 0 ≤ m) (h1 : m ≤ 1000000000) (br : Int) : Calls Try.prog 39 #[.pointer (some ⟨b, 0, none⟩), .int .i64 k, .int .i64 m, .int .i64 br] w (StepPost b S n spv ov room ws k (dryE (ws k) m br) (dryX (ws k) m br) w) := by
  unfold dryE dryX
  by_cases hbr : 0 ≤ br ∧ br ≤ m
  · rw [if_neg (show ¬ ¬ (0 ≤ br ∧ br ≤ m) from fun h => h hbr), if_neg (show ¬ ¬ (0 ≤ br ∧ br ≤ m) from fun h => h hbr)]
    by_cases hlt : (ws k).wet < m
    · refine (dry_state b S n k spv ov room m (ws k) w hb hn hk (hS.2 k hk) ho br h0 h1 hbr hlt).mono ?_
      rintro e w' ⟨rfl, hB⟩
      rw [if_pos hlt, if_pos hlt]
      exact step_same hb hS hB
    · refine (dry_ok b S n k spv ov room m (ws k) w hb hn hk (hS.2 k hk) ho br h0 h1 hbr (by omega)).mono ?_
      rintro e w' ⟨rfl, hB⟩
      rw [if_neg hlt, if_neg hlt]
      have h := (((hS.set (k := k) (i := 0) hk (by omega) ((ws k).wet - m)).set (k := k) (i := 1) hk (by omega) ((ws k).dry + m)).set (k := k) (i := 1) hk (by omega) ((ws k).dry + m - br)).set (k := k) (i := 5) hk (by omega) ((ws k).broken + br)
      simp only [upd_upd, upd_same] at h
      exact step_new hb hS h (grownBy_setS (grownBy_setS (grownBy_setS (grownBy_setS (World.grownBy.refl w _) _ _) _ _) _ _) _ _) (by simp only [size_set]) hB
  · refine (dry_arg b S n k spv ov room m (ws k) w hb hn hk (hS.2 k hk) ho br h0 h1 hbr).mono ?_
    rintro e w' ⟨rfl, hB⟩
    rw [if_pos hbr, if_pos hbr]
    exact step_same hb hS hB
def layE (x : Wa) (m : Int) : Int := if x.fired < m then 9 else 0
def layX (x : Wa) (m : Int) : Wa := if x.fired < m then x else (x.put 3 (x.fired - m)).put 4 (x.laid + m)
theorem lay_step (b S n k : Nat) (spv ov : Value) (room m : Int) (ws : Nat → Wa) (w : World) (hb : Blk w b 148 #[spv, .int .i64 room, .slice (some ⟨S, 0, none⟩) n n, ov]) (hn : n ≤ 20) (hk : k < n) (hS : Stores w S n ws) (ho : OkW (ws k)) (h0 : 0 ≤ m) (h1 : m ≤ 1000000000) : Calls Try.prog 42 #[.pointer (some ⟨b, 0, none⟩), .int .i64 k, .int .i64 m] w (StepPost b S n spv ov room ws k (layE (ws k) m) (layX (ws k) m) w) := by
  unfold layE layX
  by_cases hlt : (ws k).fired < m
  · refine (lay_state b S n k spv ov room m (ws k) w hb hn hk (hS.2 k hk) ho h0 h1 hlt).mono ?_
    rintro e w' ⟨rfl, hB⟩
    rw [if_pos hlt, if_pos hlt]
    exact step_same hb hS hB
  · refine (lay_ok b S n k spv ov room m (ws k) w hb hn hk (hS.2 k hk) ho h0 h1 (by omega)).mono ?_
    rintro e w' ⟨rfl, hB⟩
    rw [if_neg hlt, if_neg hlt]
    have h := (hS.set (k := k) (i := 3) hk (by omega) ((ws k).fired - m)).set (k := k) (i := 4) hk (by omega) ((ws k).laid + m)
    simp only [upd_upd, upd_same] at h
    exact step_new hb hS h (grownBy_setS (grownBy_setS (World.grownBy.refl w _) _ _) _ _) (size_mv _ _ _ _ _ _) hB
def breakE (x : Wa) (m : Int) : Int := if x.laid < m then 9 else 0
def breakX (x : Wa) (m : Int) : Wa := if x.laid < m then x else ((x.put 4 (x.laid - m)).put 5 (x.broken + m)).put 6 (x.missing + m)
theorem break_step (b S n k : Nat) (spv ov : Value) (room m : Int) (ws : Nat → Wa) (w : World) (hb : Blk w b 148 #[spv, .int .i64 room, .slice (some ⟨S, 0, none⟩) n n, ov]) (hn : n ≤ 20) (hk : k < n) (hS : Stores w S n ws) (ho : OkW (ws k)) (h0 : 0 ≤ m) (h1 : m ≤ 1000000000) : Calls Try.prog 43 #[.pointer (some ⟨b, 0, none⟩), .int .i64 k, .int .i64 m] w (StepPost b S n spv ov room ws k (breakE (ws k) m) (breakX (ws k) m) w) := by
  unfold breakE breakX
  by_cases hlt : (ws k).laid < m
  · refine (break_state b S n k spv ov room m (ws k) w hb hn hk (hS.2 k hk) ho h0 h1 hlt).mono ?_
    rintro e w' ⟨rfl, hB⟩
    rw [if_pos hlt, if_pos hlt]
    exact step_same hb hS hB
  · refine (break_ok b S n k spv ov room m (ws k) w hb hn hk (hS.2 k hk) ho h0 h1 (by omega)).mono ?_
    rintro e w' ⟨rfl, hB⟩
    rw [if_neg hlt, if_neg hlt]
    have h := ((hS.set (k := k) (i := 4) hk (by omega) ((ws k).laid - m)).set (k := k) (i := 5) hk (by omega) ((ws k).broken + m)).set (k := k) (i := 6) hk (by omega) ((ws k).missing + m)
    simp only [upd_upd, upd_same] at h
    exact step_new hb hS h (grownBy_setS (grownBy_setS (grownBy_setS (World.grownBy.refl w _) _ _) _ _) _ _) (by simp only [size_set]) hB
def replE (x : Wa) (m : Int) : Int := if x.missing < m ∨ x.fired < m then 9 else 0
def replX (x : Wa) (m : Int) : Wa := if x.missing < m ∨ x.fired < m then x else ((x.put 3 (x.fired - m)).put 4 (x.laid + m)).put 6 (x.missing - m)
theorem replace_step (b S n k : Nat) (spv ov : Value) (room m : Int) (ws : Nat → Wa) (w : World) (hb : Blk w b 148 #[spv, .int .i64 room, .slice (some ⟨S, 0, none⟩) n n, ov]) (hn : n ≤ 20) (hk : k < n) (hS : Stores w S n ws) (ho : OkW (ws k)) (h0 : 0 ≤ m) (h1 : m ≤ 1000000000) : Calls Try.prog 44 #[.pointer (some ⟨b, 0, none⟩), .int .i64 k, .int .i64 m] w (StepPost b S n spv ov room ws k (replE (ws k) m) (replX (ws k) m) w) := by
  unfold replE replX
  by_cases hg : (ws k).missing < m
  · refine (replace_miss b S n k spv ov room m (ws k) w hb hn hk (hS.2 k hk) ho h0 h1 hg).mono ?_
    rintro e w' ⟨rfl, hB⟩
    rw [if_pos (.inl hg), if_pos (.inl hg)]
    exact step_same hb hS hB
  by_cases hlt : (ws k).fired < m
  · refine (replace_state b S n k spv ov room m (ws k) w hb hn hk (hS.2 k hk) ho h0 h1 (by omega) hlt).mono ?_
    rintro e w' ⟨rfl, hB⟩
    rw [if_pos (.inr hlt), if_pos (.inr hlt)]
    exact step_same hb hS hB
  · refine (replace_ok b S n k spv ov room m (ws k) w hb hn hk (hS.2 k hk) ho h0 h1 (by omega) (by omega)).mono ?_
    rintro e w' ⟨rfl, hB⟩
    rw [if_neg (by omega), if_neg (by omega)]
    have h := ((hS.set (k := k) (i := 3) hk (by omega) ((ws k).fired - m)).set (k := k) (i := 4) hk (by omega) ((ws k).laid + m)).set (k := k) (i := 6) hk (by omega) ((ws k).missing - m)
    simp only [upd_upd, upd_same] at h
    exact step_new hb hS h (grownBy_setS (grownBy_setS (grownBy_setS (World.grownBy.refl w _) _ _) _ _) _ _) (by simp only [size_set]) hB
end Go.Proofs.Ytlhekifmkkgjlaa
