/- Chapter 8: calls on a book that are refused at once. -/
import Derived.Test.YtlhekifmkkgjlaaMf
set_option linter.unusedSimpArgs false
set_option linter.unusedVariables false
set_option linter.unnecessarySimpa false
namespace Go.Proofs.Ytlhekifmkkgjlaa
open Go Go.RowKit Go.Shelf
set_option maxHeartbeats 2000000
set_option maxRecDepth 100000
theorem fire_hot (b S n m c q oc : Nat) (A G : Option Addr) (room : Int) (spv : Value) (w : World) (hbk : Blk w b 148 #[spv, .int .i64 room, .slice (some ⟨S, 0, none⟩) n n, .slice G q oc]) (hq : 1 ≤ q) :
    Calls Try.prog 40 #[.pointer (some ⟨b, 0, none⟩), .slice A m c] w fun e w' => e = .returned (.int .i64 9) ∧ Below w.heap.size w w' := by
  have h2 : 0 < (q : Int) := by omega
  obtain ⟨g1, c0, c1, c2, c3⟩ := bx4 hbk
  clear hbk
  go_enter Try.func40, Try.ntmps40
  go_wp2_with fail
  go_ret
  exact ⟨rfl, Below.refl _ _⟩
theorem fire_empty (b S n c : Nat) (A : Option Addr) (room : Int) (spv : Value) (w : World) (hbk : Blk w b 148 #[spv, .int .i64 room, .slice (some ⟨S, 0, none⟩) n n, .slice none 0 0]) :
    Calls Try.prog 40 #[.pointer (some ⟨b, 0, none⟩), .slice A 0 c] w fun e w' => e = .returned (.int .i64 2) ∧ Below w.heap.size w w' := by
  obtain ⟨g1, c0, c1, c2, c3⟩ := bx4 hbk
  clear hbk
  go_enter Try.func40, Try.ntmps40
  go_wp2_with fail
  go_ret
  exact ⟨rfl, Below.refl _ _⟩
theorem fire_long (b S n m c : Nat) (A : Option Addr) (room : Int) (spv : Value) (w : World) (hbk : Blk w b 148 #[spv, .int .i64 room, .slice (some ⟨S, 0, none⟩) n n, .slice none 0 0]) (hm : 20 < m) (hm2 : m ≤ maxLen) :
    Calls Try.prog 40 #[.pointer (some ⟨b, 0, none⟩), .slice A m c] w fun e w' => e = .returned (.int .i64 5) ∧ Below w.heap.size w w' := by
  unfold maxLen at hm2
  have h1 : 20 < (m : Int) := by omega
  have h2 : ¬ (m : Int) = 0 := by omega
  obtain ⟨g1, c0, c1, c2, c3⟩ := bx4 hbk
  clear hbk
  go_enter Try.func40, Try.ntmps40
  go_wp2_with fail
  go_ret
  exact ⟨rfl, Below.refl _ _⟩
theorem fire_nil (m c : Nat) (A : Option Addr) (w : World) : Calls Try.prog 40 #[.pointer none, .slice A m c] w fun e w' => e = .returned (.int .i64 1) ∧ Below w.heap.size w w' := by
  go_enter Try.func40, Try.ntmps40
  go_wp2_with fail
  go_ret
  exact ⟨rfl, Below.refl _ _⟩
theorem draw_nil (m c : Nat) (A : Option Addr) (w : World) : Calls Try.prog 41 #[.pointer none, .slice A m c] w fun e w' => e = .returned (.int .i64 1) ∧ Below w.heap.size w w' := by
  go_enter Try.func41, Try.ntmps41
  go_wp2_with fail
  go_ret
  exact ⟨rfl, Below.refl _ _⟩

theorem mould_err (b S n : Nat) (spv ov : Value) (room kind m : Int) (w : World) (hb : Blk w b 148 #[spv, .int .i64 room, .slice (some ⟨S, 0, none⟩) n n, ov]) (hn : n ≤ 20) (hn1 : 1 ≤ n) (hk : ¬ ((0 ≤ kind ∧ kind ≤ (n : Int) - 1) ∧ 0 ≤ m ∧ m ≤ 1000000000)) :
    Calls Try.prog 38 #[.pointer (some ⟨b, 0, none⟩), .int .i64 kind, .int .i64 m] w fun e w' => e = .returned (.int .i64 (if 0 ≤ kind ∧ kind ≤ (n : Int) - 1 then 3 else 7)) ∧ Below w.heap.size w w' := by
  have b0 : Below w.heap.size w (w.alloc (.cells #[.int .i64 m] 3)) := (Below.refl _ _).alloc (Nat.le_refl _) _
  by_cases hk1 : 0 ≤ kind ∧ kind ≤ (n : Int) - 1
  · rw [if_pos hk1]
    have HC := hide (fun fv => change_range b S n spv ov room kind m fv _ (hb.ext b0) hn hn1 hk1 (fun h => hk ⟨hk1, h⟩))
    have B0 := hide b0
    clear b0 hb hk hk1
    go_enter Try.func38, Try.ntmps38
    go_wp2_with fail
    refine (HC.out _).mono ?_
    rintro e w1 ⟨rfl, hb1⟩
    go_wp2_with fail
    go_ret
    exact ⟨rfl, B0.out.trans (hb1.mono (by simp only [World.size_alloc]; omega))⟩
  · rw [if_neg hk1]
    have HC := hide (fun fv => change_none b S n spv ov room kind m fv _ (hb.ext b0) hn hn1 hk1)
    have B0 := hide b0
    clear b0 hb hk hk1
    go_enter Try.func38, Try.ntmps38
    go_wp2_with fail
    refine (HC.out _).mono ?_
    rintro e w1 ⟨rfl, hb1⟩
    go_wp2_with fail
    go_ret
    exact ⟨rfl, B0.out.trans (hb1.mono (by simp only [World.size_alloc]; omega))⟩
theorem mould_nil (kind m : Int) (w : World) : Calls Try.prog 38 #[.pointer none, .int .i64 kind, .int .i64 m] w fun e w' => e = .returned (.int .i64 1) ∧ Below w.heap.size w w' := by
  have b0 : Below w.heap.size w (w.alloc (.cells #[.int .i64 m] 3)) := (Below.refl _ _).alloc (Nat.le_refl _) _
  have HC := hide (fun fv => change_nil kind m fv (w.alloc (.cells #[.int .i64 m] 3)))
  have B0 := hide b0
  clear b0
  go_enter Try.func38, Try.ntmps38
  go_wp2_with fail
  refine (HC.out _).mono ?_
  rintro e w1 ⟨rfl, hb1⟩
  go_wp2_with fail
  go_ret
  exact ⟨rfl, B0.out.trans (hb1.mono (by simp only [World.size_alloc]; omega))⟩
theorem lay_err (b S n : Nat) (spv ov : Value) (room kind m : Int) (w : World) (hb : Blk w b 148 #[spv, .int .i64 room, .slice (some ⟨S, 0, none⟩) n n, ov]) (hn : n ≤ 20) (hn1 : 1 ≤ n) (hk : ¬ ((0 ≤ kind ∧ kind ≤ (n : Int) - 1) ∧ 0 ≤ m ∧ m ≤ 1000000000)) :
    Calls Try.prog 42 #[.pointer (some ⟨b, 0, none⟩), .int .i64 kind, .int .i64 m] w fun e w' => e = .returned (.int .i64 (if 0 ≤ kind ∧ kind ≤ (n : Int) - 1 then 3 else 7)) ∧ Below w.heap.size w w' := by
  have b0 : Below w.heap.size w (w.alloc (.cells #[.int .i64 m] 3)) := (Below.refl _ _).alloc (Nat.le_refl _) _
  by_cases hk1 : 0 ≤ kind ∧ kind ≤ (n : Int) - 1
  · rw [if_pos hk1]
    have HC := hide (fun fv => change_range b S n spv ov room kind m fv _ (hb.ext b0) hn hn1 hk1 (fun h => hk ⟨hk1, h⟩))
    have B0 := hide b0
    clear b0 hb hk hk1
    go_enter Try.func42, Try.ntmps42
    go_wp2_with fail
    refine (HC.out _).mono ?_
    rintro e w1 ⟨rfl, hb1⟩
    go_wp2_with fail
    go_ret
    exact ⟨rfl, B0.out.trans (hb1.mono (by simp only [World.size_alloc]; omega))⟩
  · rw [if_neg hk1]
    have HC := hide (fun fv => change_none b S n spv ov room kind m fv _ (hb.ext b0) hn hn1 hk1)
    have B0 := hide b0
    clear b0 hb hk hk1
    go_enter Try.func42, Try.ntmps42
    go_wp2_with fail
    refine (HC.out _).mono ?_
    rintro e w1 ⟨rfl, hb1⟩
    go_wp2_with fail
    go_ret
    exact ⟨rfl, B0.out.trans (hb1.mono (by simp only [World.size_alloc]; omega))⟩
theorem lay_nil (kind m : Int) (w : World) : Calls Try.prog 42 #[.pointer none, .int .i64 kind, .int .i64 m] w fun e w' => e = .returned (.int .i64 1) ∧ Below w.heap.size w w' := by
  have b0 : Below w.heap.size w (w.alloc (.cells #[.int .i64 m] 3)) := (Below.refl _ _).alloc (Nat.le_refl _) _
  have HC := hide (fun fv => change_nil kind m fv (w.alloc (.cells #[.int .i64 m] 3)))
  have B0 := hide b0
  clear b0
  go_enter Try.func42, Try.ntmps42
  go_wp2_with fail
  refine (HC.out _).mono ?_
  rintro e w1 ⟨rfl, hb1⟩
  go_wp2_with fail
  go_ret
  exact ⟨rfl, B0.out.trans (hb1.mono (by simp only [World.size_alloc]; omega))⟩
theorem break_err (b S n : Nat) (spv ov : Value) (room kind m : Int) (w : World) (hb : Blk w b 148 #[spv, .int .i64 room, .slice (some ⟨S, 0, none⟩) n n, ov]) (hn : n ≤ 20) (hn1 : 1 ≤ n) (hk : ¬ ((0 ≤ kind ∧ kind ≤ (n : Int) - 1) ∧ 0 ≤ m ∧ m ≤ 1000000000)) :
    Calls Try.prog 43 #[.pointer (some ⟨b, 0, none⟩), .int .i64 kind, .int .i64 m] w fun e w' => e = .returned (.int .i64 (if 0 ≤ kind ∧ kind ≤ (n : Int) - 1 then 3 else 7)) ∧ Below w.heap.size w w' := by
  have b0 : Below w.heap.size w (w.alloc (.cells #[.int .i64 m] 3)) := (Below.refl _ _).alloc (Nat.le_refl _) _
  by_cases hk1 : 0 ≤ kind ∧ kind ≤ (n : Int) - 1
  · rw [if_pos hk1]
    have HC := hide (fun fv => change_range b S n spv ov room kind m fv _ (hb.ext b0) hn hn1 hk1 (fun h => hk ⟨hk1, h⟩))
    have B0 := hide b0
    clear b0 hb hk hk1
    go_enter Try.func43, Try.ntmps43
    go_wp2_with fail
    refine (HC.out _).mono ?_
    rintro e w1 ⟨rfl, hb1⟩
    go_wp2_with fail
    go_ret
    exact ⟨rfl, B0.out.trans (hb1.mono (by simp only [World.size_alloc]; omega))⟩
  · rw [if_neg hk1]
    have HC := hide (fun fv => change_none b S n spv ov room kind m fv _ (hb.ext b0) hn hn1 hk1)
    have B0 := hide b0
    clear b0 hb hk hk1
    go_enter Try.func43, Try.ntmps43
    go_wp2_with fail
    refine (HC.out _).mono ?_
    rintro e w1 ⟨rfl, hb1⟩
    go_wp2_with fail
    go_ret
    exact ⟨rfl, B0.out.trans (hb1.mono (by simp only [World.size_alloc]; omega))⟩
theorem break_nil (kind m : Int) (w : World) : Calls Try.prog 43 #[.pointer none, .int .i64 kind, .int .i64 m] w fun e w' => e = .returned (.int .i64 1) ∧ Below w.heap.size w w' := by
  have b0 : Below w.heap.size w (w.alloc (.cells #[.int .i64 m] 3)) := (Below.refl _ _).alloc (Nat.le_refl _) _
  have HC := hide (fun fv => change_nil kind m fv (w.alloc (.cells #[.int .i64 m] 3)))
  have B0 := hide b0
  clear b0
  go_enter Try.func43, Try.ntmps43
  go_wp2_with fail
  refine (HC.out _).mono ?_
  rintro e w1 ⟨rfl, hb1⟩
  go_wp2_with fail
  go_ret
  exact ⟨rfl, B0.out.trans (hb1.mono (by simp only [World.size_alloc]; omega))⟩
theorem replace_err (b S n : Nat) (spv ov : Value) (room kind m : Int) (w : World) (hb : Blk w b 148 #[spv, .int .i64 room, .slice (some ⟨S, 0, none⟩) n n, ov]) (hn : n ≤ 20) (hn1 : 1 ≤ n) (hk : ¬ ((0 ≤ kind ∧ kind ≤ (n : Int) - 1) ∧ 0 ≤ m ∧ m ≤ 1000000000)) :
    Calls Try.prog 44 #[.pointer (some ⟨b, 0, none⟩), .int .i64 kind, .int .i64 m] w fun e w' => e = .returned (.int .i64 (if 0 ≤ kind ∧ kind ≤ (n : Int) - 1 then 3 else 7)) ∧ Below w.heap.size w w' := by
  have b0 : Below w.heap.size w (w.alloc (.cells #[.int .i64 m] 3)) := (Below.refl _ _).alloc (Nat.le_refl _) _
  by_cases hk1 : 0 ≤ kind ∧ kind ≤ (n : Int) - 1
  · rw [if_pos hk1]
    have HC := hide (fun fv => change_range b S n spv ov room kind m fv _ (hb.ext b0) hn hn1 hk1 (fun h => hk ⟨hk1, h⟩))
    have B0 := hide b0
    clear b0 hb hk hk1
    go_enter Try.func44, Try.ntmps44
    go_wp2_with fail
    refine (HC.out _).mono ?_
    rintro e w1 ⟨rfl, hb1⟩
    go_wp2_with fail
    go_ret
    exact ⟨rfl, B0.out.trans (hb1.mono (by simp only [World.size_alloc]; omega))⟩
  · rw [if_neg hk1]
    have HC := hide (fun fv => change_none b S n spv ov room kind m fv _ (hb.ext b0) hn hn1 hk1)
    have B0 := hide b0
    clear b0 hb hk hk1
    go_enter Try.func44, Try.ntmps44
    go_wp2_with fail
    refine (HC.out _).mono ?_
    rintro e w1 ⟨rfl, hb1⟩
    go_wp2_with fail
    go_ret
    exact ⟨rfl, B0.out.trans (hb1.mono (by simp only [World.size_alloc]; omega))⟩
theorem replace_nil (kind m : Int) (w : World) : Calls Try.prog 44 #[.pointer none, .int .i64 kind, .int .i64 m] w fun e w' => e = .returned (.int .i64 1) ∧ Below w.heap.size w w' := by
  have b0 : Below w.heap.size w (w.alloc (.cells #[.int .i64 m] 3)) := (Below.refl _ _).alloc (Nat.le_refl _) _
  have HC := hide (fun fv => change_nil kind m fv (w.alloc (.cells #[.int .i64 m] 3)))
  have B0 := hide b0
  clear b0
  go_enter Try.func44, Try.ntmps44
  go_wp2_with fail
  refine (HC.out _).mono ?_
  rintro e w1 ⟨rfl, hb1⟩
  go_wp2_with fail
  go_ret
  exact ⟨rfl, B0.out.trans (hb1.mono (by simp only [World.size_alloc]; omega))⟩
end Go.Proofs.Ytlhekifmkkgjlaa
