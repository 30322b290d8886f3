/- Contracts of chapter 8 on the book: Lay, Break, Replace of a valid kind. -/
import Derived.Test.YtlhekifmkkgjlaaMa
import Derived.Test.YtlhekifmkkgjlaaLb
set_option linter.unusedSimpArgs false
set_option linter.unusedVariables false
set_option linter.unnecessarySimpa false
namespace Go.Proofs.Ytlhekifmkkgjlaa
open Go Go.RowKit
set_option maxHeartbeats 1000000
theorem lay_state (b S n k : Nat) (spv ov : Value) (room m : Int) (x : Wa) (w : World) (hb : Blk w b 148 #[spv, .int .i64 room, .slice (some ⟨S, 0, none⟩) n n, ov]) (hn : n ≤ 20) (hk : k < n) (hS : KindW w S (k * 7) x) (ho : OkW x) (h0 : 0 ≤ m) (h1 : m ≤ 1000000000) (hlt : x.fired < m) : Calls Try.prog 42 #[.pointer (some ⟨b, 0, none⟩), .int .i64 k, .int .i64 m] w fun e w' => e = .returned (.int .i64 9) ∧ Below w.heap.size w w' := by
  have b0 : Below w.heap.size w (w.alloc (.cells #[.int .i64 m] 3)) := (Below.refl _ _).alloc (Nat.le_refl _) _
  have HC := hide (change_ok b S n k spv ov room m 9 87 #[.pointer (some ⟨w.heap.size, 0, none⟩)] id _ (hb.ext b0) hn hk h0 h1 (enters_of Try.func87 (by kernel_rfl) rfl) (fun W h => h) (fun W h => lay1_state _ _ _ _ _ _ _ m S (k * 7) w.heap.size W ((hS.below b0 hS.1).below h (by have := hS.1; simp only [World.size_alloc]; omega)) ho ((h.cell (by simp)).trans (by simp)) (by have := h.size; simp at this; omega) (by have := hS.1; omega) h0 h1 hlt))
  have B0 := hide b0
  clear b0 hb hS
  go_enter Try.func42, Try.ntmps42
  go_wp2_with fail
  refine HC.out.mono ?_
  rintro e w1 ⟨rfl, hb1⟩
  go_wp2_with fail
  go_ret
  exact ⟨rfl, B0.out.trans (hb1.mono (by simp only [World.size_alloc]; omega))⟩
def layF (S o : Nat) (x : Wa) (m : Int) (W : World) : World := mv W S (o + 3) (o + 4) (x.fired - m) (x.laid + m)
theorem layF_B {B S o : Nat} {x : Wa} {m : Int} {w W : World} (h : Below B w W) : Below B (layF S o x m w) (layF S o x m W) := mvB h _ _ _ _ _
theorem lay_ok (b S n k : Nat) (spv ov : Value) (room m : Int) (x : Wa) (w : World) (hb : Blk w b 148 #[spv, .int .i64 room, .slice (some ⟨S, 0, none⟩) n n, ov]) (hn : n ≤ 20) (hk : k < n) (hS : KindW w S (k * 7) x) (ho : OkW x) (h0 : 0 ≤ m) (h1 : m ≤ 1000000000) (hlt : m ≤ x.fired) : Calls Try.prog 42 #[.pointer (some ⟨b, 0, none⟩), .int .i64 k, .int .i64 m] w fun e w' => e = .returned (.int .i64 0) ∧ Below w.heap.size (layF S (k * 7) x m w) w' := by
  have b0 : Below w.heap.size w (w.alloc (.cells #[.int .i64 m] 3)) := (Below.refl _ _).alloc (Nat.le_refl _) _
  have HC := hide (change_ok b S n k spv ov room m 0 87 #[.pointer (some ⟨w.heap.size, 0, none⟩)] (layF S (k * 7) x m) _ (hb.ext b0) hn hk h0 h1 (enters_of Try.func87 (by kernel_rfl) rfl) (fun W h => layF_B h) (fun W h => lay1_ok _ _ _ _ _ _ _ m S (k * 7) w.heap.size W ((hS.below b0 hS.1).below h (by have := hS.1; simp only [World.size_alloc]; omega)) ho ((h.cell (by simp)).trans (by simp)) (by have := h.size; simp at this; omega) (by have := hS.1; omega) h0 h1 hlt))
  have B0 := hide b0
  clear b0 hb hS
  go_enter Try.func42, Try.ntmps42
  go_wp2_with fail
  refine HC.out.mono ?_
  rintro e w1 ⟨rfl, hb1⟩
  go_wp2_with fail
  go_ret
  exact ⟨rfl, (layF_B B0.out).trans (hb1.mono (by simp only [World.size_alloc]; omega))⟩
theorem break_state (b S n k : Nat) (spv ov : Value) (room m : Int) (x : Wa) (w : World) (hb : Blk w b 148 #[spv, .int .i64 room, .slice (some ⟨S, 0, none⟩) n n, ov]) (hn : n ≤ 20) (hk : k < n) (hS : KindW w S (k * 7) x) (ho : OkW x) (h0 : 0 ≤ m) (h1 : m ≤ 1000000000) (hlt : x.laid < m) : Calls Try.prog 43 #[.pointer (some ⟨b, 0, none⟩), .int .i64 k, .int .i64 m] w fun e w' => e = .returned (.int .i64 9) ∧ Below w.heap.size w w' := by
  have b0 : Below w.heap.size w (w.alloc (.cells #[.int .i64 m] 3)) := (Below.refl _ _).alloc (Nat.le_refl _) _
  have HC := hide (change_ok b S n k spv ov room m 9 88 #[.pointer (some ⟨w.heap.size, 0, none⟩)] id _ (hb.ext b0) hn hk h0 h1 (enters_of Try.func88 (by kernel_rfl) rfl) (fun W h => h) (fun W h => break1_state _ _ _ _ _ _ _ m S (k * 7) w.heap.size W ((hS.below b0 hS.1).below h (by have := hS.1; simp only [World.size_alloc]; omega)) ho ((h.cell (by simp)).trans (by simp)) (by have := h.size; simp at this; omega) (by have := hS.1; omega) h0 h1 hlt))
  have B0 := hide b0
  clear b0 hb hS
  go_enter Try.func43, Try.ntmps43
  go_wp2_with fail
  refine HC.out.mono ?_
  rintro e w1 ⟨rfl, hb1⟩
  go_wp2_with fail
  go_ret
  exact ⟨rfl, B0.out.trans (hb1.mono (by simp only [World.size_alloc]; omega))⟩
def breakF (S o : Nat) (x : Wa) (m : Int) (W : World) : World := (mv W S (o + 4) (o + 5) (x.laid - m) (x.broken + m)).setCell ⟨S, o + 6, none⟩ (.int .i64 (x.missing + m))
theorem breakF_B {B S o : Nat} {x : Wa} {m : Int} {w W : World} (h : Below B w W) : Below B (breakF S o x m w) (breakF S o x m W) := setB (mvB h _ _ _ _ _) _ _
theorem break_ok (b S n k : Nat) (spv ov : Value) (room m : Int) (x : Wa) (w : World) (hb : Blk w b 148 #[spv, .int .i64 room, .slice (some ⟨S, 0, none⟩) n n, ov]) (hn : n ≤ 20) (hk : k < n) (hS : KindW w S (k * 7) x) (ho : OkW x) (h0 : 0 ≤ m) (h1 : m ≤ 1000000000) (hlt : m ≤ x.laid) : Calls Try.prog 43 #[.pointer (some ⟨b, 0, none⟩), .int .i64 k, .int .i64 m] w fun e w' => e = .returned (.int .i64 0) ∧ Below w.heap.size (breakF S (k * 7) x m w) w' := by
  have b0 : Below w.heap.size w (w.alloc (.cells #[.int .i64 m] 3)) := (Below.refl _ _).alloc (Nat.le_refl _) _
  have HC := hide (change_ok b S n k spv ov room m 0 88 #[.pointer (some ⟨w.heap.size, 0, none⟩)] (breakF S (k * 7) x m) _ (hb.ext b0) hn hk h0 h1 (enters_of Try.func88 (by kernel_rfl) rfl) (fun W h => breakF_B h) (fun W h => break1_ok _ _ _ _ _ _ _ m S (k * 7) w.heap.size W ((hS.below b0 hS.1).below h (by have := hS.1; simp only [World.size_alloc]; omega)) ho ((h.cell (by simp)).trans (by simp)) (by have := h.size; simp at this; omega) (by have := hS.1; omega) h0 h1 hlt))
  have B0 := hide b0
  clear b0 hb hS
  go_enter Try.func43, Try.ntmps43
  go_wp2_with fail
  refine HC.out.mono ?_
  rintro e w1 ⟨rfl, hb1⟩
  go_wp2_with fail
  go_ret
  exact ⟨rfl, (breakF_B B0.out).trans (hb1.mono (by simp only [World.size_alloc]; omega))⟩
theorem replace_miss (b S n k : Nat) (spv ov : Value) (room m : Int) (x : Wa) (w : World) (hb : Blk w b 148 #[spv, .int .i64 room, .slice (some ⟨S, 0, none⟩) n n, ov]) (hn : n ≤ 20) (hk : k < n) (hS : KindW w S (k * 7) x) (ho : OkW x) (h0 : 0 ≤ m) (h1 : m ≤ 1000000000) (hlt : x.missing < m) : Calls Try.prog 44 #[.pointer (some ⟨b, 0, none⟩), .int .i64 k, .int .i64 m] w fun e w' => e = .returned (.int .i64 9) ∧ Below w.heap.size w w' := by
  have b0 : Below w.heap.size w (w.alloc (.cells #[.int .i64 m] 3)) := (Below.refl _ _).alloc (Nat.le_refl _) _
  have HC := hide (change_ok b S n k spv ov room m 9 89 #[.pointer (some ⟨w.heap.size, 0, none⟩)] id _ (hb.ext b0) hn hk h0 h1 (enters_of Try.func89 (by kernel_rfl) rfl) (fun W h => h) (fun W h => replace1_miss _ _ _ _ _ _ _ m S (k * 7) w.heap.size W ((hS.below b0 hS.1).below h (by have := hS.1; simp only [World.size_alloc]; omega)) ho ((h.cell (by simp)).trans (by simp)) (by have := h.size; simp at this; omega) (by have := hS.1; omega) h0 h1 hlt))
  have B0 := hide b0
  clear b0 hb hS
  go_enter Try.func44, Try.ntmps44
  go_wp2_with fail
  refine HC.out.mono ?_
  rintro e w1 ⟨rfl, hb1⟩
  go_wp2_with fail
  go_ret
  exact ⟨rfl, B0.out.trans (hb1.mono (by simp only [World.size_alloc]; omega))⟩
theorem replace_state (b S n k : Nat) (spv ov : Value) (room m : Int) (x : Wa) (w : World) (hb : Blk w b 148 #[spv, .int .i64 room, .slice (some ⟨S, 0, none⟩) n n, ov]) (hn : n ≤ 20) (hk : k < n) (hS : KindW w S (k * 7) x) (ho : OkW x) (h0 : 0 ≤ m) (h1 : m ≤ 1000000000) (hg : m ≤ x.missing) (hlt : x.fired < m) : Calls Try.prog 44 #[.pointer (some ⟨b, 0, none⟩), .int .i64 k, .int .i64 m] w fun e w' => e = .returned (.int .i64 9) ∧ Below w.heap.size w w' := by
  have b0 : Below w.heap.size w (w.alloc (.cells #[.int .i64 m] 3)) := (Below.refl _ _).alloc (Nat.le_refl _) _
  have HC := hide (change_ok b S n k spv ov room m 9 89 #[.pointer (some ⟨w.heap.size, 0, none⟩)] id _ (hb.ext b0) hn hk h0 h1 (enters_of Try.func89 (by kernel_rfl) rfl) (fun W h => h) (fun W h => replace1_state _ _ _ _ _ _ _ m S (k * 7) w.heap.size W ((hS.below b0 hS.1).below h (by have := hS.1; simp only [World.size_alloc]; omega)) ho ((h.cell (by simp)).trans (by simp)) (by have := h.size; simp at this; omega) (by have := hS.1; omega) h0 h1 hg hlt))
  have B0 := hide b0
  clear b0 hb hS
  go_enter Try.func44, Try.ntmps44
  go_wp2_with fail
  refine HC.out.mono ?_
  rintro e w1 ⟨rfl, hb1⟩
  go_wp2_with fail
  go_ret
  exact ⟨rfl, B0.out.trans (hb1.mono (by simp only [World.size_alloc]; omega))⟩
def replF (S o : Nat) (x : Wa) (m : Int) (W : World) : World := (mv W S (o + 3) (o + 4) (x.fired - m) (x.laid + m)).setCell ⟨S, o + 6, none⟩ (.int .i64 (x.missing - m))
theorem replF_B {B S o : Nat} {x : Wa} {m : Int} {w W : World} (h : Below B w W) : Below B (replF S o x m w) (replF S o x m W) := setB (mvB h _ _ _ _ _) _ _
theorem replace_ok (b S n k : Nat) (spv ov : Value) (room m : Int) (x : Wa) (w : World) (hb : Blk w b 148 #[spv, .int .i64 room, .slice (some ⟨S, 0, none⟩) n n, ov]) (hn : n ≤ 20) (hk : k < n) (hS : KindW w S (k * 7) x) (ho : OkW x) (h0 : 0 ≤ m) (h1 : m ≤ 1000000000) (hg : m ≤ x.missing) (hlt : m ≤ x.fired) : Calls Try.prog 44 #[.pointer (some ⟨b, 0, none⟩), .int .i64 k, .int .i64 m] w fun e w' => e = .returned (.int .i64 0) ∧ Below w.heap.size (replF S (k * 7) x m w) w' := by
  have b0 : Below w.heap.size w (w.alloc (.cells #[.int .i64 m] 3)) := (Below.refl _ _).alloc (Nat.le_refl _) _
  have HC := hide (change_ok b S n k spv ov room m 0 89 #[.pointer (some ⟨w.heap.size, 0, none⟩)] (replF S (k * 7) x m) _ (hb.ext b0) hn hk h0 h1 (enters_of Try.func89 (by kernel_rfl) rfl) (fun W h => replF_B h) (fun W h => replace1_ok _ _ _ _ _ _ _ m S (k * 7) w.heap.size W ((hS.below b0 hS.1).below h (by have := hS.1; simp only [World.size_alloc]; omega)) ho ((h.cell (by simp)).trans (by simp)) (by have := h.size; simp at this; omega) (by have := hS.1; omega) h0 h1 hg hlt))
  have B0 := hide b0
  clear b0 hb hS
  go_enter Try.func44, Try.ntmps44
  go_wp2_with fail
  refine HC.out.mono ?_
  rintro e w1 ⟨rfl, hb1⟩
  go_wp2_with fail
  go_ret
  exact ⟨rfl, (replF_B B0.out).trans (hb1.mono (by simp only [World.size_alloc]; omega))⟩
end Go.Proofs.Ytlhekifmkkgjlaa
