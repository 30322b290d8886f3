/- Contracts of chapter 8 on the book: drying, laying, breaking, replacing, counting; a new book. -/
import Derived.Test.YtlhekifmkkgjlaaKi
set_option linter.unusedSimpArgs false
set_option linter.unusedVariables false
set_option linter.unnecessarySimpa false
namespace Go.Proofs.Ytlhekifmkkgjlaa
open Go Go.RowKit
set_option maxHeartbeats 800000
def set7 (w : World) (q : Nat) (a b c d e f g : Int) : World :=
  ((((((w.setCell ⟨q, 0, none⟩ (.int .i64 a)).setCell ⟨q, 1, none⟩ (.int .i64 b)).setCell ⟨q, 2, none⟩ (.int .i64 c)).setCell ⟨q, 3, none⟩ (.int .i64 d)).setCell ⟨q, 4, none⟩ (.int .i64 e)).setCell ⟨q, 5, none⟩ (.int .i64 f)).setCell ⟨q, 6, none⟩ (.int .i64 g)
theorem count1_any (a b c d e f g : Int) (S o q : Nat) (t : TypeId) (x0 x1 x2 x3 x4 x5 x6 : Value) (w : World) (hk : Kind7 w S o a b c d e f g) (ho : Ok7 a b c d e f g) (hq : Blk w q t #[x0, x1, x2, x3, x4, x5, x6]) (hne : S ≠ q) :
    Calls Try.prog 81 #[.pointer (some ⟨S, o, none⟩), .pointer (some ⟨q, 0, none⟩)] w fun en w' => en = .returned (.int .i64 0) ∧ Below w.heap.size (set7 w q a b c d e f g) w' := by
  obtain ⟨h0, hf, h1, h2, h3, h4, h5, h6, h7⟩ := hk
  obtain ⟨o1, o2, o3, o4, o5, o6, o7, o8, o9⟩ := ho
  clear hf o1 o2 o3 o4 o5 o6 o7 o8 o9
  have hne' := Ne.symm hne
  have q0 := hq.cell 0
  have q1 := hq.cell 1
  have q2 := hq.cell 2
  have q3 := hq.cell 3
  have q4 := hq.cell 4
  have q5 := hq.cell 5
  have q6 := hq.cell 6
  have f0 := hq.frozen 0
  have f1 := hq.frozen 1
  have f2 := hq.frozen 2
  have f3 := hq.frozen 3
  have f4 := hq.frozen 4
  have f5 := hq.frozen 5
  have f6 := hq.frozen 6
  simp at q0 q1 q2 q3 q4 q5 q6
  clear hq
  go_enter Try.func81, Try.ntmps81
  go_wp2_with fail
  go_ret
  exact ⟨rfl, Below.refl _ _⟩
/-- three facts on a kind over one store into it -/
theorem dry1_arg (a b c d e f g : Int) (n br : Int) (S o p q : Nat) (w : World) (hk : Kind7 w S o a b c d e f g) (ho : Ok7 a b c d e f g) (hp : w.cell? ⟨p, 0, none⟩ = some (.int .i64 n)) (hq : w.cell? ⟨q, 0, none⟩ = some (.int .i64 br)) (hb : ¬ (0 ≤ br ∧ br ≤ n)) :
    Calls Try.prog 84 #[.pointer (some ⟨S, o, none⟩), .pointer (some ⟨p, 0, none⟩), .pointer (some ⟨q, 0, none⟩)] w fun en w' => en = .returned (.int .i64 2) ∧ Below w.heap.size w w' := by
  have HD := hide (decide_eq_false hb)
  clear hk ho hb
  go_enter Try.func84, Try.ntmps84
  go_wp2_with fail
  refine (within_any 0 n _ 1 1 (fun _ => br) _ (by decide) ?_).mono ?_
  · simpa using IR.one w br 3
  rw [wiB_one, HD.out]
  rintro en w1 ⟨rfl, hb1⟩
  go_wp2_with fail
  go_ret
  exact ⟨rfl, ((Below.refl _ _).alloc (Nat.le_refl _) _).trans (hb1.mono (by simp only [World.size_alloc]; omega))⟩
theorem dry1_state (a b c d e f g : Int) (n br : Int) (S o p q : Nat) (w : World) (hk : Kind7 w S o a b c d e f g) (ho : Ok7 a b c d e f g) (hp : w.cell? ⟨p, 0, none⟩ = some (.int .i64 n)) (hq : w.cell? ⟨q, 0, none⟩ = some (.int .i64 br)) (hpl : p < w.heap.size) (hb : 0 ≤ br ∧ br ≤ n) (hlt : a < n) :
    Calls Try.prog 84 #[.pointer (some ⟨S, o, none⟩), .pointer (some ⟨p, 0, none⟩), .pointer (some ⟨q, 0, none⟩)] w fun en w' => en = .returned (.int .i64 9) ∧ Below w.heap.size w w' := by
  have HD := hide (decide_eq_true hb)
  obtain ⟨h0, hf, h1, h2, h3, h4, h5, h6, h7⟩ := hk
  obtain ⟨o1, o2, o3, o4, o5, o6, o7, o8, o9⟩ := ho
  clear hf o1 o2 o3 o4 o5 o6 o7 o8 o9 hb h2 h3 h4 h5 h6 h7
  go_enter Try.func84, Try.ntmps84
  go_wp2_with fail
  refine (within_any 0 n _ 1 1 (fun _ => br) _ (by decide) ?_).mono ?_
  · simpa using IR.one w br 3
  rw [wiB_one, HD.out]
  rintro en w1 ⟨rfl, hb1⟩
  have hB : Below w.heap.size w w1 := ((Below.refl _ _).alloc (Nat.le_refl _) _).trans (hb1.mono (by simp only [World.size_alloc]; omega))
  have k1 : w1.cell? ⟨S, o, none⟩ = some (.int .i64 a) := (hB.cell (p := ⟨S, o, none⟩) h0).trans h1
  have k2 : w1.cell? ⟨p, 0, none⟩ = some (.int .i64 n) := (hB.cell (p := ⟨p, 0, none⟩) hpl).trans hp
  clear h1 hp hb1
  go_wp2_with fail
  go_region_held3 (fun W => W.cell? ⟨p, 0, none⟩ = some (.int .i64 n)) (first | go_keep | assumption) ((go_at_call 85; refine (move_lt n a S o S (o + 1) _ ?_ hlt).mono ?_; (simp [*]); rintro en w2 ⟨rfl, rfl⟩))
  go_wp2_with fail
  go_ret
  exact ⟨rfl, hB.drew⟩
def mv (w : World) (S o q : Nat) (u v : Int) : World := (w.setCell ⟨S, o, none⟩ (.int .i64 u)).setCell ⟨S, q, none⟩ (.int .i64 v)
theorem size_mv (w : World) (S o q : Nat) (u v : Int) : (mv w S o q u v).heap.size = w.heap.size := by simp [mv, size_set]
theorem mvB {B : Nat} {w W : World} (h : Below B w W) (S o q : Nat) (u v : Int) : Below B (mv w S o q u v) (mv W S o q u v) := setB (setB h _ _) _ _
theorem mv_cell {w : World} {S o q x : Nat} {u v : Int} {z : Value} (h : w.cell? ⟨S, x, none⟩ = some z) (h1 : x ≠ o) (h2 : x ≠ q) : (mv w S o q u v).cell? ⟨S, x, none⟩ = some z := by
  unfold mv
  rw [World.cell?_setCell_other _ _ _ _ (fun h => by injection h; omega), World.cell?_setCell_other _ _ _ _ (fun h => by injection h; omega)]
  exact h
theorem mv_far {w : World} {S o q p x : Nat} {u v : Int} (h1 : p ≠ S) : (mv w S o q u v).cell? ⟨p, x, none⟩ = w.cell? ⟨p, x, none⟩ := by
  unfold mv
  rw [World.cell?_setCell_other _ _ _ _ (fun h => by injection h; omega), World.cell?_setCell_other _ _ _ _ (fun h => by injection h; omega)]
theorem mv_frozen (w : World) (S o q : Nat) (u v : Int) (p : Addr) : (mv w S o q u v).frozen? p = w.frozen? p := by
  unfold mv
  rw [World.frozen?_setCell, World.frozen?_setCell]
theorem mv_snd {w : World} {S o q : Nat} {u v : Int} {z : Value} (h : w.cell? ⟨S, q, none⟩ = some z) (hoq : o ≠ q) : (mv w S o q u v).cell? ⟨S, q, none⟩ = some (.int .i64 v) := by
  unfold mv
  refine World.cell?_setCell_same' _ _ _ ?_
  rw [World.cell?_setCell_other _ _ _ _ (fun h => by injection h; omega), h]; rfl
theorem mv_fst {w : World} {S o q : Nat} {u v : Int} {z : Value} (h : w.cell? ⟨S, o, none⟩ = some z) (hoq : o ≠ q) : (mv w S o q u v).cell? ⟨S, o, none⟩ = some (.int .i64 u) := by
  unfold mv
  rw [World.cell?_setCell_other _ _ _ _ (fun h => by injection h; omega)]
  exact World.cell?_setCell_same' _ _ _ (by rw [h]; rfl)
theorem dry1_ok (a b c d e f g : Int) (n br : Int) (S o p q : Nat) (w : World) (hk : Kind7 w S o a b c d e f g) (ho : Ok7 a b c d e f g) (hp : w.cell? ⟨p, 0, none⟩ = some (.int .i64 n)) (hq : w.cell? ⟨q, 0, none⟩ = some (.int .i64 br)) (hpl : p < w.heap.size) (hql : q < w.heap.size) (hpS : p ≠ S) (hqS : q ≠ S) (hb : 0 ≤ br ∧ br ≤ n) (hlt : n ≤ a) :
    Calls Try.prog 84 #[.pointer (some ⟨S, o, none⟩), .pointer (some ⟨p, 0, none⟩), .pointer (some ⟨q, 0, none⟩)] w fun en w' => en = .returned (.int .i64 0) ∧
      Below w.heap.size (mv (mv w S o (o + 1) (a - n) (b + n)) S (o + 1) (o + 5) (b + n - br) (f + br)) w' := by
  have HD := hide (decide_eq_true hb)
  obtain ⟨h0, hf, h1, h2, h3, h4, h5, h6, h7⟩ := hk
  obtain ⟨o1, o2, o3, o4, o5, o6, o7, o8, o9⟩ := ho
  clear h3 h4 h5 h7
  have HF := hide hf
  clear hf
  go_enter Try.func84, Try.ntmps84
  go_wp2_with fail
  refine (within_any 0 n _ 1 1 (fun _ => br) _ (by decide) ?_).mono ?_
  · simpa using IR.one w br 3
  rw [wiB_one, HD.out]
  rintro en w1 ⟨rfl, hb1⟩
  have hB : Below w.heap.size w w1 := ((Below.refl _ _).alloc (Nat.le_refl _) _).trans (hb1.mono (by simp only [World.size_alloc]; omega))
  have k1 : w1.cell? ⟨S, o, none⟩ = some (.int .i64 a) := (hB.cell (p := ⟨S, o, none⟩) h0).trans h1
  have k2 : w1.cell? ⟨p, 0, none⟩ = some (.int .i64 n) := (hB.cell (p := ⟨p, 0, none⟩) hpl).trans hp
  have k3 : w1.cell? ⟨S, o + 1, none⟩ = some (.int .i64 b) := (hB.cell (p := ⟨S, o + 1, none⟩) h0).trans h2
  have k4 : w1.cell? ⟨q, 0, none⟩ = some (.int .i64 br) := (hB.cell (p := ⟨q, 0, none⟩) hql).trans hq
  have k5 : w1.cell? ⟨S, o + 5, none⟩ = some (.int .i64 f) := (hB.cell (p := ⟨S, o + 5, none⟩) h0).trans h6
  have k6 : ∀ i, w1.frozen? ⟨S, i, none⟩ = false := fun i => (hB.frozen (p := ⟨S, i, none⟩) h0).trans (HF.out i)
  have K6 := hide k6
  have z1 : S < w1.heap.size := Nat.lt_of_lt_of_le h0 hB.size
  have z2 : p < w1.heap.size := Nat.lt_of_lt_of_le hpl hB.size
  have z3 : q < w1.heap.size := Nat.lt_of_lt_of_le hql hB.size
  clear h1 h2 h6 hp hq hb1 k6
  have HM := hide (move_ok n a b S o (o + 1) w1.drew k1 k3 K6.out (by omega) hlt (by omega) (by omega) o2 (by omega))
  go_wp2_with fail
  go_region_held3 (fun W => W.cell? ⟨p, 0, none⟩ = some (.int .i64 n)) (first | go_keep | exact (hb2.cell (p := ⟨p, 0, none⟩) z2).trans ((mv_far hpS).trans k2)) ((go_at_call 85; refine HM.out.mono ?_; rintro en w2 ⟨rfl, hb2⟩))
  have hb2' : Below w1.heap.size (mv w1 S o (o + 1) (a - n) (b + n)) w2 := ⟨hb2.os, hb2.tape, hb2.output, hb2.size, hb2.block⟩
  have s2 : w1.heap.size ≤ w2.heap.size := by have := hb2'.size; rw [size_mv] at this; exact this
  have m3 : w2.cell? ⟨S, o + 1, none⟩ = some (.int .i64 (b + n)) := (hb2'.cell (p := ⟨S, o + 1, none⟩) z1).trans (mv_snd k3 (by omega))
  have m4 : w2.cell? ⟨q, 0, none⟩ = some (.int .i64 br) := (hb2'.cell (p := ⟨q, 0, none⟩) z3).trans ((mv_far hqS).trans k4)
  have m5 : w2.cell? ⟨S, o + 5, none⟩ = some (.int .i64 f) := (hb2'.cell (p := ⟨S, o + 5, none⟩) z1).trans (mv_cell k5 (by omega) (by omega))
  have M6 := hide (fun i => (hb2'.frozen (p := ⟨S, i, none⟩) z1).trans ((mv_frozen _ _ _ _ _ _ _).trans (K6.out i)))
  have HN := hide (move_ok br (b + n) f S (o + 1) (o + 5) w2.drew m3 m5 M6.out (by omega) (by omega) (by omega) (by omega) o6 (by omega))
  clear HM k1 k3 k5 hb2
  go_wp2_with fail
  go_region_held3 (fun W => W.cell? ⟨q, 0, none⟩ = some (.int .i64 br)) (first | go_keep | exact (hb3.cell (p := ⟨q, 0, none⟩) (Nat.lt_of_lt_of_le z3 s2)).trans ((mv_far hqS).trans m4)) ((go_at_call 85; refine HN.out.mono ?_; rintro en w3 ⟨rfl, hb3⟩))
  have hb3' : Below w2.heap.size (mv w2 S (o + 1) (o + 5) (b + n - br) (f + br)) w3 := ⟨hb3.os, hb3.tape, hb3.output, hb3.size, hb3.block⟩
  go_wp2_with fail
  go_ret
  exact ⟨rfl, (mvB ((mvB hB S o (o + 1) (a - n) (b + n)).trans (hb2'.mono hB.size)) S (o + 1) (o + 5) (b + n - br) (f + br)).trans (hb3'.mono (Nat.le_trans hB.size s2))⟩
end Go.Proofs.Ytlhekifmkkgjlaa
