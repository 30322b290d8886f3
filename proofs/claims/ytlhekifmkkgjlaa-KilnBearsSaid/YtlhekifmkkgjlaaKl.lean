/- Contracts of chapter 8 on the book: Mould, Dry, Count of a valid kind. -/
import Derived.Test.YtlhekifmkkgjlaaKk
set_option linter.unusedSimpArgs false
set_option linter.unusedVariables false
set_option linter.unnecessarySimpa false
namespace Go.Proofs.Ytlhekifmkkgjlaa
open Go Go.RowKit
set_option maxHeartbeats 800000
theorem mould_full (b S n k : Nat) (spv ov : Value) (room m : Int) (x : Wa) (w : World) (hb : Blk w b 148 #[spv, .int .i64 room, .slice (some ⟨S, 0, none⟩) n n, ov]) (hn : n ≤ 20) (hk : k < n) (hS : KindW w S (k * 7) x) (ho : OkW x) (h0 : 0 ≤ m) (h1 : m ≤ 1000000000) (hf : 1000000000 < x.wet + x.dry + x.burning + x.fired + x.laid + x.broken + m) :
    Calls Try.prog 38 #[.pointer (some ⟨b, 0, none⟩), .int .i64 k, .int .i64 m] w fun e w' => e = .returned (.int .i64 8) ∧ Below w.heap.size w w' := by
  have b0 : Below w.heap.size w (w.alloc (.cells #[.int .i64 m] 3)) := (Below.refl _ _).alloc (Nat.le_refl _) _
  have HC := hide (change_ok b S n k spv ov room m 8 82 #[.pointer (some ⟨w.heap.size, 0, none⟩)] id _ (hb.ext b0) hn hk h0 h1 (enters_of Try.func82 (by kernel_rfl) rfl) (fun W h => h) (fun W h => mould1_full _ _ _ _ _ _ _ m S (k * 7) w.heap.size W ((hS.below b0 hS.1).below h (by have := hS.1; simp only [World.size_alloc]; omega)) ho ((h.cell (by simp)).trans (by simp)) (by have := h.size; simp at this; omega) h0 h1 hf))
  have B0 := hide b0
  clear b0 hb hS
  go_enter Try.func38, Try.ntmps38
  go_wp2_with fail
  refine HC.out.mono ?_
  rintro e w1 ⟨rfl, hb1⟩
  go_wp2_with fail
  go_ret
  exact ⟨rfl, B0.out.trans (hb1.mono (by simp only [World.size_alloc]; omega))⟩
theorem mould_ok (b S n k : Nat) (spv ov : Value) (room m : Int) (x : Wa) (w : World) (hb : Blk w b 148 #[spv, .int .i64 room, .slice (some ⟨S, 0, none⟩) n n, ov]) (hn : n ≤ 20) (hk : k < n) (hS : KindW w S (k * 7) x) (ho : OkW x) (h0 : 0 ≤ m) (h1 : m ≤ 1000000000) (hf : x.wet + x.dry + x.burning + x.fired + x.laid + x.broken + m ≤ 1000000000) :
    Calls Try.prog 38 #[.pointer (some ⟨b, 0, none⟩), .int .i64 k, .int .i64 m] w fun e w' => e = .returned (.int .i64 0) ∧ Below w.heap.size (w.setCell ⟨S, k * 7, none⟩ (.int .i64 (x.wet + m))) w' := by
  have b0 : Below w.heap.size w (w.alloc (.cells #[.int .i64 m] 3)) := (Below.refl _ _).alloc (Nat.le_refl _) _
  have HC := hide (change_ok b S n k spv ov room m 0 82 #[.pointer (some ⟨w.heap.size, 0, none⟩)] (fun W => W.setCell ⟨S, k * 7, none⟩ (.int .i64 (x.wet + m))) _ (hb.ext b0) hn hk h0 h1 (enters_of Try.func82 (by kernel_rfl) rfl) (fun W h => setB h _ _) (fun W h => mould1_ok _ _ _ _ _ _ _ m S (k * 7) w.heap.size W ((hS.below b0 hS.1).below h (by have := hS.1; simp only [World.size_alloc]; omega)) ho ((h.cell (by simp)).trans (by simp)) (by have := h.size; simp at this; omega) h0 h1 hf))
  have B0 := hide b0
  clear b0 hb hS
  go_enter Try.func38, Try.ntmps38
  go_wp2_with fail
  refine HC.out.mono ?_
  rintro e w1 ⟨rfl, hb1⟩
  go_wp2_with fail
  go_ret
  exact ⟨rfl, (setB B0.out _ _).trans (hb1.mono (by simp only [World.size_alloc]; omega))⟩
theorem dry_arg (b S n k : Nat) (spv ov : Value) (room m : Int) (x : Wa) (w : World) (hb : Blk w b 148 #[spv, .int .i64 room, .slice (some ⟨S, 0, none⟩) n n, ov]) (hn : n ≤ 20) (hk : k < n) (hS : KindW w S (k * 7) x) (ho : OkW x) (br : Int) (h0 : 0 ≤ m) (h1 : m ≤ 1000000000) (hbr : ¬ (0 ≤ br ∧ br ≤ m)) :
    Calls Try.prog 39 #[.pointer (some ⟨b, 0, none⟩), .int .i64 k, .int .i64 m, .int .i64 br] w fun e w' => e = .returned (.int .i64 2) ∧ Below w.heap.size w w' := by
  have b0 : Below w.heap.size w ((w.alloc (.cells #[.int .i64 m] 3)).alloc (.cells #[.int .i64 br] 3)) := ((Below.refl _ _).alloc (Nat.le_refl _) _).alloc (by simp) _
  have q1 : ((w.alloc (.cells #[.int .i64 m] 3)).alloc (.cells #[.int .i64 br] 3)).heap.size = w.heap.size + 1 + 1 := by simp
  have HC := hide (change_ok b S n k spv ov room m 2 84 #[.pointer (some ⟨w.heap.size, 0, none⟩), .pointer (some ⟨w.heap.size + 1, 0, none⟩)] id _ (hb.ext b0) hn hk h0 h1 (enters_of Try.func84 (by kernel_rfl) rfl) ?_ (fun W h => dry1_arg _ _ _ _ _ _ _ m br S (k * 7) w.heap.size (w.heap.size + 1) W ((hS.below b0 hS.1).below h (by have := hS.1; omega)) ho ((h.cell (by simp; omega)).trans (by simp [go_sem])) ((h.cell (by simp)).trans (by simp [go_sem])) hbr))
  · have B0 := hide b0
    clear b0 hb hS q1
    go_enter Try.func39, Try.ntmps39
    go_wp2_with fail
    refine HC.out.mono ?_
    rintro e w1 ⟨rfl, hb1⟩
    go_wp2_with fail
    go_ret
    exact ⟨rfl, B0.out.trans (hb1.mono (by simp only [World.size_alloc]; omega))⟩
  · exact fun W h => h
theorem dry_state (b S n k : Nat) (spv ov : Value) (room m : Int) (x : Wa) (w : World) (hb : Blk w b 148 #[spv, .int .i64 room, .slice (some ⟨S, 0, none⟩) n n, ov]) (hn : n ≤ 20) (hk : k < n) (hS : KindW w S (k * 7) x) (ho : OkW x) (br : Int) (h0 : 0 ≤ m) (h1 : m ≤ 1000000000) (hbr : 0 ≤ br ∧ br ≤ m) (hlt : x.wet < m) :
    Calls Try.prog 39 #[.pointer (some ⟨b, 0, none⟩), .int .i64 k, .int .i64 m, .int .i64 br] w fun e w' => e = .returned (.int .i64 9) ∧ Below w.heap.size w w' := by
  have b0 : Below w.heap.size w ((w.alloc (.cells #[.int .i64 m] 3)).alloc (.cells #[.int .i64 br] 3)) := ((Below.refl _ _).alloc (Nat.le_refl _) _).alloc (by simp) _
  have q1 : ((w.alloc (.cells #[.int .i64 m] 3)).alloc (.cells #[.int .i64 br] 3)).heap.size = w.heap.size + 1 + 1 := by simp
  have HC := hide (change_ok b S n k spv ov room m 9 84 #[.pointer (some ⟨w.heap.size, 0, none⟩), .pointer (some ⟨w.heap.size + 1, 0, none⟩)] id _ (hb.ext b0) hn hk h0 h1 (enters_of Try.func84 (by kernel_rfl) rfl) ?_ (fun W h => dry1_state _ _ _ _ _ _ _ m br S (k * 7) w.heap.size (w.heap.size + 1) W ((hS.below b0 hS.1).below h (by have := hS.1; omega)) ho ((h.cell (by simp; omega)).trans (by simp [go_sem])) ((h.cell (by simp)).trans (by simp [go_sem])) (by have := h.size; omega) hbr hlt))
  · have B0 := hide b0
    clear b0 hb hS q1
    go_enter Try.func39, Try.ntmps39
    go_wp2_with fail
    refine HC.out.mono ?_
    rintro e w1 ⟨rfl, hb1⟩
    go_wp2_with fail
    go_ret
    exact ⟨rfl, B0.out.trans (hb1.mono (by simp only [World.size_alloc]; omega))⟩
  · exact fun W h => h
def dryF (S o : Nat) (x : Wa) (m br : Int) (W : World) : World := mv (mv W S o (o + 1) (x.wet - m) (x.dry + m)) S (o + 1) (o + 5) (x.dry + m - br) (x.broken + br)
theorem dryF_B {B S o : Nat} {x : Wa} {m br : Int} {w W : World} (h : Below B w W) : Below B (dryF S o x m br w) (dryF S o x m br W) := mvB (mvB h _ _ _ _ _) _ _ _ _ _
theorem dry_ok (b S n k : Nat) (spv ov : Value) (room m : Int) (x : Wa) (w : World) (hb : Blk w b 148 #[spv, .int .i64 room, .slice (some ⟨S, 0, none⟩) n n, ov]) (hn : n ≤ 20) (hk : k < n) (hS : KindW w S (k * 7) x) (ho : OkW x) (br : Int) (h0 : 0 ≤ m) (h1 : m ≤ 1000000000) (hbr : 0 ≤ br ∧ br ≤ m) (hlt : m ≤ x.wet) :
    Calls Try.prog 39 #[.pointer (some ⟨b, 0, none⟩), .int .i64 k, .int .i64 m, .int .i64 br] w fun e w' => e = .returned (.int .i64 0) ∧ Below w.heap.size (dryF S (k * 7) x m br w) w' := by
  have b0 : Below w.heap.size w ((w.alloc (.cells #[.int .i64 m] 3)).alloc (.cells #[.int .i64 br] 3)) := ((Below.refl _ _).alloc (Nat.le_refl _) _).alloc (by simp) _
  have q1 : ((w.alloc (.cells #[.int .i64 m] 3)).alloc (.cells #[.int .i64 br] 3)).heap.size = w.heap.size + 1 + 1 := by simp
  have HC := hide (change_ok b S n k spv ov room m 0 84 #[.pointer (some ⟨w.heap.size, 0, none⟩), .pointer (some ⟨w.heap.size + 1, 0, none⟩)] (dryF S (k * 7) x m br) _ (hb.ext b0) hn hk h0 h1 (enters_of Try.func84 (by kernel_rfl) rfl) ?_ (fun W h => dry1_ok _ _ _ _ _ _ _ m br S (k * 7) w.heap.size (w.heap.size + 1) W ((hS.below b0 hS.1).below h (by have := hS.1; omega)) ho ((h.cell (by simp; omega)).trans (by simp [go_sem])) ((h.cell (by simp)).trans (by simp [go_sem])) (by have := h.size; omega) (by have := h.size; omega) (by have := hS.1; omega) (by have := hS.1; omega) hbr hlt))
  · have B0 := hide b0
    clear b0 hb hS q1
    go_enter Try.func39, Try.ntmps39
    go_wp2_with fail
    refine HC.out.mono ?_
    rintro e w1 ⟨rfl, hb1⟩
    go_wp2_with fail
    go_ret
    exact ⟨rfl, (dryF_B B0.out).trans (hb1.mono (by simp only [World.size_alloc]; omega))⟩
  · exact fun W h => dryF_B h
def agg7 (x : Wa) : Value := .agg #[.int .i64 x.wet, .int .i64 x.dry, .int .i64 x.burning, .int .i64 x.fired, .int .i64 x.laid, .int .i64 x.broken, .int .i64 x.missing]
def set7W (q : Nat) (x : Wa) (W : World) : World := set7 W q x.wet x.dry x.burning x.fired x.laid x.broken x.missing
theorem set7B {B q : Nat} {x : Wa} {w W : World} (h : Below B w W) : Below B (set7W q x w) (set7W q x W) := setB (setB (setB (setB (setB (setB (setB h _ _) _ _) _ _) _ _) _ _) _ _) _ _
theorem set7_blk {w : World} {q : Nat} {t : TypeId} {a b c d e f g : Value} (h : Blk w q t #[a, b, c, d, e, f, g]) (x : Wa) :
    Blk (set7W q x w) q t #[.int .i64 x.wet, .int .i64 x.dry, .int .i64 x.burning, .int .i64 x.fired, .int .i64 x.laid, .int .i64 x.broken, .int .i64 x.missing] := by
  unfold set7W set7
  simpa using ((((((h.set_ 0 (.int .i64 x.wet)).set_ 1 (.int .i64 x.dry)).set_ 2 (.int .i64 x.burning)).set_ 3 (.int .i64 x.fired)).set_ 4 (.int .i64 x.laid)).set_ 5 (.int .i64 x.broken)).set_ 6 (.int .i64 x.missing)
theorem size_set7 (q : Nat) (x : Wa) (W : World) : (set7W q x W).heap.size = W.heap.size := by simp [set7W, set7, size_set]
theorem set7_new {B q : Nat} {x : Wa} {w W : World} (h : Below B w W) (hq : B ≤ q) : Below B w (set7W q x W) :=
  ((((((h.setCell (p := ⟨q, 0, none⟩) hq _).setCell (p := ⟨q, 1, none⟩) hq _).setCell (p := ⟨q, 2, none⟩) hq _).setCell (p := ⟨q, 3, none⟩) hq _).setCell (p := ⟨q, 4, none⟩) hq _).setCell (p := ⟨q, 5, none⟩) hq _).setCell (p := ⟨q, 6, none⟩) hq _
theorem count_ok (b S n k : Nat) (spv ov : Value) (room : Int) (x : Wa) (w : World) (hb : Blk w b 148 #[spv, .int .i64 room, .slice (some ⟨S, 0, none⟩) n n, ov]) (hn : n ≤ 20) (hk : k < n) (hS : KindW w S (k * 7) x) (ho : OkW x) :
    Calls Try.prog 37 #[.pointer (some ⟨b, 0, none⟩), .int .i64 k] w fun e w' => e = .returned (.tuple #[agg7 x, .int .i64 0]) ∧ Below w.heap.size w w' := by
  have b0 : Below w.heap.size w (w.alloc (.cells #[.int .i64 0, .int .i64 0, .int .i64 0, .int .i64 0, .int .i64 0, .int .i64 0, .int .i64 0] 94)) := (Below.refl _ _).alloc (Nat.le_refl _) _
  have k0 := Blk.new w 94 #[.int .i64 0, .int .i64 0, .int .i64 0, .int .i64 0, .int .i64 0, .int .i64 0, .int .i64 0]
  have HC := hide (change_ok b S n k spv ov room 0 0 81 #[.pointer (some ⟨w.heap.size, 0, none⟩)] (set7W w.heap.size x) _ (hb.ext b0) hn hk (by omega) (by omega) (enters_of Try.func81 (by kernel_rfl) rfl) (fun W h => set7B h) (fun W h => count1_any _ _ _ _ _ _ _ S (k * 7) w.heap.size _ _ _ _ _ _ _ _ W ((hS.below b0 hS.1).below h (by have := hS.1; simp only [World.size_alloc]; omega)) ho (k0.ext h) (by have := hS.1; omega)))
  have B0 := hide b0
  have K0 := hide (set7_blk k0 x)
  clear b0 hb hS k0
  go_enter Try.func37, Try.ntmps37
  go_wp2_with fail
  refine HC.out.mono ?_
  rintro e w1 ⟨rfl, hb1⟩
  have K1 := K0.out.below hb1 (by simp)
  have c0 := K1.cell 0
  have c1 := K1.cell 1
  have c2 := K1.cell 2
  have c3 := K1.cell 3
  have c4 := K1.cell 4
  have c5 := K1.cell 5
  have c6 := K1.cell 6
  have f0 := K1.frozen 0
  have f1 := K1.frozen 1
  have f2 := K1.frozen 2
  have f3 := K1.frozen 3
  have f4 := K1.frozen 4
  have f5 := K1.frozen 5
  have f6 := K1.frozen 6
  have hz := K1.lt
  simp at c0 c1 c2 c3 c4 c5 c6
  clear K1
  go_wp2_with fail
  refine bodyPost_ret (v := .tuple #[agg7 x, .int .i64 0]) (by simp [results, Try.results37, go_sem, agg7, *]) rfl ⟨rfl, ?_⟩
  exact set7_new (x := x) ((set7_new B0.out (Nat.le_refl _)).trans (hb1.mono (by simp only [World.size_alloc]; omega))) (Nat.le_refl _)
end Go.Proofs.Ytlhekifmkkgjlaa
