/- Contracts of chapter 8 on the book: what happens to one kind. -/
import Derived.Test.YtlhekifmkkgjlaaKg
import Derived.Deep.OwnRows
set_option linter.unusedSimpArgs false
set_option linter.unusedVariables false
set_option linter.unnecessarySimpa false
namespace Go.Proofs.Ytlhekifmkkgjlaa
open Go Go.RowKit
set_option maxHeartbeats 400000
theorem move_lt (n a : Int) (S o p q : Nat) (w : World) (h : w.cell? ⟨S, o, none⟩ = some (.int .i64 a)) (hn : a < n) :
    Calls Try.prog 85 #[.int .i64 n, .pointer (some ⟨S, o, none⟩), .pointer (some ⟨p, q, none⟩)] w fun e w' => e = .returned (.int .i64 9) ∧ w = w' := by
  go_enter Try.func85, Try.ntmps85
  go_wp2_with fail
  go_ret
  exact ⟨rfl, rfl⟩
theorem move_ok (n a b : Int) (S o q : Nat) (w : World) (h : w.cell? ⟨S, o, none⟩ = some (.int .i64 a)) (h' : w.cell? ⟨S, q, none⟩ = some (.int .i64 b)) (hf : ∀ i, w.frozen? ⟨S, i, none⟩ = false) (hoq : o ≠ q)
    (hn : n ≤ a) (h0 : 0 ≤ n) (h1 : a ≤ 2000000000) (h2 : 0 ≤ b) (h3 : b ≤ 2000000000) :
    Calls Try.prog 85 #[.int .i64 n, .pointer (some ⟨S, o, none⟩), .pointer (some ⟨S, q, none⟩)] w fun e w' => e = .returned (.int .i64 0) ∧ Below w.heap.size ((w.setCell ⟨S, o, none⟩ (.int .i64 (a - n))).setCell ⟨S, q, none⟩ (.int .i64 (b + n))) w' := by
  have f1 := hf o
  have f2 := hf q
  clear hf
  have hqo : q ≠ o := Ne.symm hoq
  go_enter Try.func85, Try.ntmps85
  go_wp2_with fail
  go_region
  all_goals
    go_wp2_with fail
    go_ret
    exact ⟨rfl, (Below.refl _ _).drew⟩
theorem moulded_any (a b c d e f g : Int) (w : World) (h0 : 0 ≤ a) (h1 : 0 ≤ b) (h2 : 0 ≤ c) (h3 : 0 ≤ d) (h4 : 0 ≤ e) (h5 : 0 ≤ f) (hs : a + b + c + d + e + f ≤ 1000000000) :
    Calls Try.prog 83 #[.agg #[.int .i64 a, .int .i64 b, .int .i64 c, .int .i64 d, .int .i64 e, .int .i64 f, .int .i64 g]] w fun en w' => en = .returned (.int .i64 (a + b + c + d + e + f)) ∧ Below w.heap.size w w' := by
  go_enter Try.func83, Try.ntmps83
  go_wp2_with fail
  go_ret
  exact ⟨rfl, (Below.refl _ _).alloc (Nat.le_refl _) _⟩
/-- the seven cells of a kind at o -/
def Kind7 (w : World) (S o : Nat) (a b c d e f g : Int) : Prop :=
  S < w.heap.size ∧ (∀ i, w.frozen? ⟨S, i, none⟩ = false) ∧ w.cell? ⟨S, o, none⟩ = some (.int .i64 a) ∧ w.cell? ⟨S, o + 1, none⟩ = some (.int .i64 b) ∧ w.cell? ⟨S, o + 2, none⟩ = some (.int .i64 c) ∧
  w.cell? ⟨S, o + 3, none⟩ = some (.int .i64 d) ∧ w.cell? ⟨S, o + 4, none⟩ = some (.int .i64 e) ∧ w.cell? ⟨S, o + 5, none⟩ = some (.int .i64 f) ∧ w.cell? ⟨S, o + 6, none⟩ = some (.int .i64 g)
theorem Kind7.below {w w' : World} {B S o : Nat} {a b c d e f g : Int} (h : Kind7 w S o a b c d e f g) (hb : Below B w w') (hS : S < B) : Kind7 w' S o a b c d e f g := by
  obtain ⟨h0, hf, h1, h2, h3, h4, h5, h6, h7⟩ := h
  exact ⟨Nat.lt_of_lt_of_le h0 hb.size, fun i => (hb.frozen (p := ⟨S, i, none⟩) hS).trans (hf i), (hb.cell (p := ⟨S, o, none⟩) hS).trans h1, (hb.cell (p := ⟨S, o + 1, none⟩) hS).trans h2, (hb.cell (p := ⟨S, o + 2, none⟩) hS).trans h3, (hb.cell (p := ⟨S, o + 3, none⟩) hS).trans h4, (hb.cell (p := ⟨S, o + 4, none⟩) hS).trans h5, (hb.cell (p := ⟨S, o + 5, none⟩) hS).trans h6, (hb.cell (p := ⟨S, o + 6, none⟩) hS).trans h7⟩
/-- the numbers of a kind are not below 0, and all together at most MaxBricks -/
def Ok7 (a b c d e f g : Int) : Prop := 0 ≤ a ∧ 0 ≤ b ∧ 0 ≤ c ∧ 0 ≤ d ∧ 0 ≤ e ∧ 0 ≤ f ∧ 0 ≤ g ∧ a + b + c + d + e + f ≤ 1000000000 ∧ g ≤ f
theorem mould1_full (a b c d e f g n : Int) (S o q : Nat) (w : World) (hk : Kind7 w S o a b c d e f g) (ho : Ok7 a b c d e f g) (hq : w.cell? ⟨q, 0, none⟩ = some (.int .i64 n)) (hql : q < w.heap.size) (hn : 0 ≤ n) (hn2 : n ≤ 1000000000)
    (hfull : 1000000000 < a + b + c + d + e + f + n) :
    Calls Try.prog 82 #[.pointer (some ⟨S, o, none⟩), .pointer (some ⟨q, 0, none⟩)] w fun en w' => en = .returned (.int .i64 8) ∧ Below w.heap.size w w' := by
  obtain ⟨h0, hf, h1, h2, h3, h4, h5, h6, h7⟩ := hk
  obtain ⟨o1, o2, o3, o4, o5, o6, o7, o8, o9⟩ := ho
  have HF := hide hf
  clear hf
  have t0 : IntKind.i64.wrap (a + b + c + d + e + f + n) = a + b + c + d + e + f + n := IntWalk.i64_in _ (by omega)
  go_enter Try.func82, Try.ntmps82
  go_wp2_with fail
  go_region_held3 (fun W => W.cell? ⟨S, o, none⟩ = some (.int .i64 a) ∧ W.cell? ⟨S, o + 1, none⟩ = some (.int .i64 b) ∧ W.cell? ⟨S, o + 2, none⟩ = some (.int .i64 c) ∧ W.cell? ⟨S, o + 3, none⟩ = some (.int .i64 d) ∧ W.cell? ⟨S, o + 4, none⟩ = some (.int .i64 e) ∧ W.cell? ⟨S, o + 5, none⟩ = some (.int .i64 f) ∧ W.cell? ⟨S, o + 6, none⟩ = some (.int .i64 g) ∧ W.cell? ⟨q, 0, none⟩ = some (.int .i64 n))
    (first | go_keep | exact ⟨(hb1.cell (p := ⟨S, o, none⟩) h0).trans h1, (hb1.cell (p := ⟨S, o + 1, none⟩) h0).trans h2, (hb1.cell (p := ⟨S, o + 2, none⟩) h0).trans h3, (hb1.cell (p := ⟨S, o + 3, none⟩) h0).trans h4, (hb1.cell (p := ⟨S, o + 4, none⟩) h0).trans h5, (hb1.cell (p := ⟨S, o + 5, none⟩) h0).trans h6, (hb1.cell (p := ⟨S, o + 6, none⟩) h0).trans h7, (hb1.cell (p := ⟨q, 0, none⟩) hql).trans hq⟩)
    ((go_at_call 83; refine (moulded_any a b c d e f g _ o1 o2 o3 o4 o5 o6 o8).mono ?_; rintro en w1 ⟨rfl, hb1⟩))
  clear t0
  go_wp2_with fail
  go_ret
  exact ⟨rfl, (Below.refl _ _).drew.trans hb1⟩
theorem mould1_ok (a b c d e f g n : Int) (S o q : Nat) (w : World) (hk : Kind7 w S o a b c d e f g) (ho : Ok7 a b c d e f g) (hq : w.cell? ⟨q, 0, none⟩ = some (.int .i64 n)) (hql : q < w.heap.size) (hn : 0 ≤ n) (hn2 : n ≤ 1000000000)
    (hfull : a + b + c + d + e + f + n ≤ 1000000000) :
    Calls Try.prog 82 #[.pointer (some ⟨S, o, none⟩), .pointer (some ⟨q, 0, none⟩)] w fun en w' => en = .returned (.int .i64 0) ∧ Below w.heap.size (w.setCell ⟨S, o, none⟩ (.int .i64 (a + n))) w' := by
  obtain ⟨h0, hf, h1, h2, h3, h4, h5, h6, h7⟩ := hk
  obtain ⟨o1, o2, o3, o4, o5, o6, o7, o8, o9⟩ := ho
  have hf0 := hf o
  clear hf
  have t0 : IntKind.i64.wrap (a + b + c + d + e + f + n) = a + b + c + d + e + f + n := IntWalk.i64_in _ (by omega)
  go_enter Try.func82, Try.ntmps82
  go_wp2_with fail
  go_region_held3 (fun W => W.cell? ⟨S, o, none⟩ = some (.int .i64 a) ∧ W.cell? ⟨S, o + 1, none⟩ = some (.int .i64 b) ∧ W.cell? ⟨S, o + 2, none⟩ = some (.int .i64 c) ∧ W.cell? ⟨S, o + 3, none⟩ = some (.int .i64 d) ∧ W.cell? ⟨S, o + 4, none⟩ = some (.int .i64 e) ∧ W.cell? ⟨S, o + 5, none⟩ = some (.int .i64 f) ∧ W.cell? ⟨S, o + 6, none⟩ = some (.int .i64 g) ∧ W.cell? ⟨q, 0, none⟩ = some (.int .i64 n))
    (first | go_keep | exact ⟨(hb1.cell (p := ⟨S, o, none⟩) h0).trans h1, (hb1.cell (p := ⟨S, o + 1, none⟩) h0).trans h2, (hb1.cell (p := ⟨S, o + 2, none⟩) h0).trans h3, (hb1.cell (p := ⟨S, o + 3, none⟩) h0).trans h4, (hb1.cell (p := ⟨S, o + 4, none⟩) h0).trans h5, (hb1.cell (p := ⟨S, o + 5, none⟩) h0).trans h6, (hb1.cell (p := ⟨S, o + 6, none⟩) h0).trans h7, (hb1.cell (p := ⟨q, 0, none⟩) hql).trans hq⟩)
    ((go_at_call 83; refine (moulded_any a b c d e f g _ o1 o2 o3 o4 o5 o6 o8).mono ?_; rintro en w1 ⟨rfl, hb1⟩))
  clear t0 h1 h2 h3 h4 h5 h6 h7 hq
  rename_i hHeld
  obtain ⟨h1, -, -, -, -, -, -, hq⟩ := hHeld
  have hf1 : w1.frozen? ⟨S, o, none⟩ = false := (hb1.frozen (p := ⟨S, o, none⟩) h0).trans hf0
  have hz : w.heap.size ≤ w1.heap.size := hb1.size
  go_wp2_with fail
  go_region
  all_goals
    go_wp2_with fail
    go_ret
    exact ⟨rfl, (setB ((Below.refl w.heap.size w).drew.trans hb1) ⟨S, o, none⟩ (.int .i64 (a + n))).drew⟩
end Go.Proofs.Ytlhekifmkkgjlaa
