/- Contracts of chapter 8 on the book: change, and what is done with one kind. -/
import Derived.Test.YtlhekifmkkgjlaaKh
set_option linter.unusedSimpArgs false
set_option linter.unusedVariables false
set_option linter.unnecessarySimpa false
namespace Go.Proofs.Ytlhekifmkkgjlaa
open Go Go.RowKit
set_option maxHeartbeats 400000
theorem blkB {w : World} {g : Nat} {t : TypeId} {a b c d : Value} (h : Blk w g t #[a, b, c, d]) : g < w.heap.size ∧ w.cell? ⟨g, 2, none⟩ = some c :=
  ⟨h.lt, by simpa using h.cell 2⟩
theorem has_any (b S n : Nat) (spv ov : Value) (room kind : Int) (w : World) (hb : Blk w b 148 #[spv, .int .i64 room, .slice (some ⟨S, 0, none⟩) n n, ov]) (hn : n ≤ 20) (hn0 : 1 ≤ n) :
    Calls Try.prog 86 #[.pointer (some ⟨b, 0, none⟩), .int .i64 kind] w fun e w' => e = .returned (.bool (decide (0 ≤ kind ∧ kind ≤ (n : Int) - 1))) ∧ Below w.heap.size w w' := by
  obtain ⟨-, c2⟩ := blkB hb
  clear hb
  go_enter Try.func86, Try.ntmps86
  go_wp2_with fail
  refine (within_any 0 ((n : Int) - 1) _ 1 1 (fun _ => kind) _ (by decide) ?_).mono ?_
  · simpa using IR.one w kind 3
  rw [wiB_one]
  rintro e w1 ⟨rfl, hb1⟩
  go_wp2_with fail
  go_ret
  exact ⟨ret_bool (by simp), ((Below.refl _ _).alloc (Nat.le_refl _) _).trans (hb1.mono (by simp only [World.size_alloc]; omega))⟩
theorem change_nil (kind n : Int) (fv : Value) (w : World) :
    Calls Try.prog 80 #[.pointer none, .int .i64 kind, .int .i64 n, fv] w fun e w' => e = .returned (.int .i64 1) ∧ Below w.heap.size w w' := by
  go_enter Try.func80, Try.ntmps80
  go_wp2_with fail
  go_ret
  exact ⟨rfl, Below.refl _ _⟩
theorem change_none (b S n : Nat) (spv ov : Value) (room kind m : Int) (fv : Value) (w : World) (hb : Blk w b 148 #[spv, .int .i64 room, .slice (some ⟨S, 0, none⟩) n n, ov]) (hn : n ≤ 20) (hn0 : 1 ≤ n) (hk : ¬ (0 ≤ kind ∧ kind ≤ (n : Int) - 1)) :
    Calls Try.prog 80 #[.pointer (some ⟨b, 0, none⟩), .int .i64 kind, .int .i64 m, fv] w fun e w' => e = .returned (.int .i64 7) ∧ Below w.heap.size w w' := by
  have HC := hide (fun W (h : Below w.heap.size w W) => has_any b S n spv ov room kind W (hb.ext h) hn hn0)
  rw [decide_eq_false hk] at HC
  clear hb hk
  go_enter Try.func80, Try.ntmps80
  go_wp2_with fail
  refine (HC.out _ (Below.refl _ _)).mono ?_
  rintro e w1 ⟨rfl, hb1⟩
  go_wp2_with fail
  go_ret
  exact ⟨rfl, hb1⟩
theorem change_range (b S n : Nat) (spv ov : Value) (room kind m : Int) (fv : Value) (w : World) (hb : Blk w b 148 #[spv, .int .i64 room, .slice (some ⟨S, 0, none⟩) n n, ov]) (hn : n ≤ 20) (hn0 : 1 ≤ n) (hk : 0 ≤ kind ∧ kind ≤ (n : Int) - 1) (hm : ¬ (0 ≤ m ∧ m ≤ 1000000000)) :
    Calls Try.prog 80 #[.pointer (some ⟨b, 0, none⟩), .int .i64 kind, .int .i64 m, fv] w fun e w' => e = .returned (.int .i64 3) ∧ Below w.heap.size w w' := by
  have HC := hide (fun W (h : Below w.heap.size w W) => has_any b S n spv ov room kind W (hb.ext h) hn hn0)
  rw [decide_eq_true hk] at HC
  have HD := hide (decide_eq_false hm)
  clear hb hk hm
  go_enter Try.func80, Try.ntmps80
  go_wp2_with fail
  refine (HC.out _ (Below.refl _ _)).mono ?_
  rintro e w1 ⟨rfl, hb1⟩
  go_wp2_with fail
  refine (within_any 0 1000000000 _ 1 1 (fun _ => m) _ (by decide) ?_).mono ?_
  · simpa using IR.one w1 m 3
  rw [wiB_one, HD.out]
  rintro e w2 ⟨rfl, hb2⟩
  go_wp2_with fail
  go_ret
  exact ⟨rfl, (hb1.alloc hb1.size _).trans (hb2.mono (by have := hb1.size; simp only [World.size_alloc]; omega))⟩
theorem change_ok (b S n k : Nat) (spv ov : Value) (room m v : Int) (g : FuncId) (lb : Array Value) (f : World → World) (w : World) (hb : Blk w b 148 #[spv, .int .i64 room, .slice (some ⟨S, 0, none⟩) n n, ov]) (hn : n ≤ 20) (hk : k < n) (h0 : 0 ≤ m) (h1 : m ≤ 1000000000)
    (eg : ∀ args w, (callFunc g args).run Try.prog w = .ok (.enter g args) w)
    (hf : ∀ W, Below w.heap.size w W → Below w.heap.size (f w) (f W))
    (hg : ∀ W, Below w.heap.size w W → Calls Try.prog g (#[.pointer (some ⟨S, k * 7, none⟩)] ++ lb) W fun e W' => e = .returned (.int .i64 v) ∧ Below W.heap.size (f W) W') :
    Calls Try.prog 80 #[.pointer (some ⟨b, 0, none⟩), .int .i64 k, .int .i64 m, .func (.func g) #[] lb] w fun e w' => e = .returned (.int .i64 v) ∧ Below w.heap.size (f w) w' := by
  have HC := hide (fun W (h : Below w.heap.size w W) => has_any b S n spv ov room k W (hb.ext h) hn (by omega))
  rw [decide_eq_true (by omega : 0 ≤ (k : Int) ∧ (k : Int) ≤ (n : Int) - 1)] at HC
  have HD := hide (decide_eq_true (And.intro h0 h1))
  have HB := hide hb
  have HF := hide hf
  have HG := hide hg
  clear hb hf hg
  go_enter Try.func80, Try.ntmps80
  go_wp2_with fail
  refine (HC.out _ (Below.refl _ _)).mono ?_
  rintro e w1 ⟨rfl, hb1⟩
  go_wp2_with fail
  refine (within_any 0 1000000000 _ 1 1 (fun _ => m) _ (by decide) ?_).mono ?_
  · simpa using IR.one w1 m 3
  rw [wiB_one, HD.out]
  rintro e w2 ⟨rfl, hb2⟩
  have hB2 : Below w.heap.size w w2 := (hb1.alloc hb1.size _).trans (hb2.mono (by have := hb1.size; simp only [World.size_alloc]; omega))
  obtain ⟨-, c2⟩ := blkB (HB.out.ext hB2)
  have i1 : (0 : Int) ≤ (k : Int) := by omega
  have i2 : (k : Int) < (n : Int) := by omega
  clear hb2
  go_wp2_with fail
  refine (HG.out _ hB2).mono ?_
  rintro e w3 ⟨rfl, hb3⟩
  go_wp2_with fail
  go_ret
  exact ⟨rfl, (HF.out _ hB2).trans (hb3.mono hB2.size)⟩
end Go.Proofs.Ytlhekifmkkgjlaa
