/- Chapter 8: one batch into the kiln, and out of it. -/
import Derived.Test.YtlhekifmkkgjlaaMi
set_option linter.unusedSimpArgs false
set_option linter.unusedVariables false
set_option linter.unnecessarySimpa false
namespace Go.Proofs.Ytlhekifmkkgjlaa
open Go Go.RowKit Go.Shelf
set_option maxRecDepth 100000
def fireE (x : Wa) (N sp room : Int) : Int := if N < 1 then 2 else if x.dry < N then 9 else if room < N * sp then 8 else 0
def fireX (x : Wa) (N : Int) : Wa := (x.put 1 (x.dry - N)).put 2 (x.burning + N)
theorem fire_one (b S n k c ab aoff sb soff sc : Nat) (room N : Int) (sp : Nat → Int) (ws : Nat → Wa) (w : World) (hbk : Blk w b 148 #[.slice (some ⟨sb, soff, none⟩) n sc, .int .i64 room, .slice (some ⟨S, 0, none⟩) n n, .slice none 0 0]) (hn1 : 1 ≤ n) (hn : n ≤ 20) (hS : Stores w S n ws) (ho : ∀ k, k < n → OkW (ws k)) (hsp : IR w w.heap.size (some ⟨sb, soff, none⟩) n sp) (hspb : ∀ k, k < n → 1 ≤ sp k ∧ sp k ≤ 1000) (habS : ab ≠ S) (habb : ab ≠ b)
    (hR : PI w w.heap.size (some ⟨ab, aoff, none⟩) 1 (fun _ => (k : Int)) (fun _ => N)) (hk : k < n) (hN : N ≤ 1000000000) :
    Calls Try.prog 40 #[.pointer (some ⟨b, 0, none⟩), .slice (some ⟨ab, aoff, none⟩) 1 c] w fun e w' =>
      e = .returned (.int .i64 (fireE (ws k) N (sp k) room)) ∧ ((fireE (ws k) N (sp k) room ≠ 0 ∧ Below w.heap.size w w') ∨ (fireE (ws k) N (sp k) room = 0 ∧ ∃ ov, Blk w' b 148 #[.slice (some ⟨sb, soff, none⟩) n sc, .int .i64 room, .slice (some ⟨S, 0, none⟩) n n, ov] ∧ w'.ownsRow w.heap.size 3 1 ov 1 (cellsOf 1 1 fun _ _ => .int .i64 k) ∧ Stores w' S n (upd ws k (fireX (ws k) N)) ∧ Apart w w' S b)) := by
  refine (fire_any b S n 1 c ab aoff sb soff sc room sp ws (fun _ => (k : Int)) (fun _ => N) w hbk hn1 hn hS ho hsp hspb habS habb (Nat.le_refl _) (by omega) hR (fun _ _ => ⟨by omega, by omega⟩)).mono ?_
  have e1 : batsE n ws (fun _ => (k : Int)) (fun _ => N) 1 = if N < 1 then 2 else if (ws k).dry < N then 9 else 0 := by
    show (if (0 : Int) ≠ 0 then 0 else batE n ws (fun _ => (k : Int)) (fun _ => N) 0) = _
    rw [if_neg (by omega)]
    unfold batE
    dsimp only
    rw [if_neg (by omega), if_neg (by simp [anyTo]), Int.toNat_natCast]
    by_cases h : N < 1
    · rw [if_pos (by omega), if_pos h]
    · rw [if_neg (by omega), if_neg h]
  have e2 : spaceTo sp (fun _ => (k : Int)) (fun _ => N) 1 = N * sp k := by
    show 0 + N * sp ((k : Int)).toNat = _
    rw [Int.toNat_natCast]; omega
  have e3 : fireW ws (fun _ => (k : Int)) (fun _ => N) 1 = upd ws k (fireX (ws k) N) := by
    show upd ws ((k : Int)).toNat _ = _
    rw [Int.toNat_natCast]
    rfl
  rintro e w' h
  unfold FirePost at h
  rw [e1, e2, e3] at h
  unfold fireE
  rcases h with ⟨h1, rfl, h2⟩ | ⟨h1, h2, rfl, h3⟩ | ⟨h1, h2, rfl, h3⟩
  · by_cases a : N < 1
    · simp only [if_pos a] at h1 ⊢
      exact ⟨trivial, .inl ⟨h1, h2⟩⟩
    · simp only [if_neg a] at h1 ⊢
      by_cases a2 : (ws k).dry < N
      · simp only [if_pos a2] at h1 ⊢
        exact ⟨trivial, .inl ⟨h1, h2⟩⟩
      · simp only [if_neg a2] at h1
        exact absurd rfl h1
  · by_cases a : N < 1
    · simp only [if_pos a] at h1; omega
    by_cases a2 : (ws k).dry < N
    · simp only [if_neg a, if_pos a2] at h1; omega
    simp only [if_neg a, if_neg a2, if_pos h2]
    exact ⟨trivial, .inl ⟨by omega, h3⟩⟩
  · by_cases a : N < 1
    · simp only [if_pos a] at h1; omega
    by_cases a2 : (ws k).dry < N
    · simp only [if_neg a, if_pos a2] at h1; omega
    simp only [if_neg a, if_neg a2, if_neg (by omega : ¬ room < N * sp k)]
    exact ⟨trivial, .inr ⟨trivial, h3⟩⟩
theorem fireX_ok {x : Wa} (h : OkW x) {N : Int} (h0 : 1 ≤ N) (h1 : N ≤ x.dry) : OkW (fireX x N) ∧ (fireX x N).laid = x.laid ∧ (fireX x N).broken = x.broken ∧ (fireX x N).burning = x.burning + N ∧ (fireX x N).sum = x.sum := by
  obtain ⟨h1, h2, h3, h4, h5, h6, h7, h8, h9⟩ := h
  refine ⟨⟨h1, by show 0 ≤ x.dry - N; omega, by show 0 ≤ x.burning + N; omega, h4, h5, h6, h7, by show x.wet + (x.dry - N) + (x.burning + N) + x.fired + x.laid + x.broken ≤ _; omega, h9⟩, rfl, rfl, rfl, ?_⟩
  show x.wet + (x.dry - N) + (x.burning + N) + x.fired + x.laid + x.broken = x.wet + x.dry + x.burning + x.fired + x.laid + x.broken
  omega
theorem drawn_ok {x : Wa} (h : OkW x) {l : Int} (h0 : 0 ≤ l) (h1 : l ≤ x.burning) : OkW (drawn x l) ∧ (drawn x l).laid = x.laid ∧ x.broken ≤ (drawn x l).broken ∧ (drawn x l).burning = 0 ∧ (drawn x l).sum = x.sum := by
  obtain ⟨h1, h2, h3, h4, h5, h6, h7, h8, h9⟩ := h
  refine ⟨⟨h1, h2, by show 0 ≤ x.burning - l - (x.burning - l); omega, by show 0 ≤ x.fired + (x.burning - l); omega, h5, by show 0 ≤ x.broken + l; omega, h7, by show x.wet + x.dry + (x.burning - l - (x.burning - l)) + (x.fired + (x.burning - l)) + x.laid + (x.broken + l) ≤ _; omega, by show x.missing ≤ x.broken + l; omega⟩, rfl, by show x.broken ≤ x.broken + l; omega, by show x.burning - l - (x.burning - l) = 0; omega, ?_⟩
  show x.wet + x.dry + (x.burning - l - (x.burning - l)) + (x.fired + (x.burning - l)) + x.laid + (x.broken + l) = x.wet + x.dry + x.burning + x.fired + x.laid + x.broken
  omega
end Go.Proofs.Ytlhekifmkkgjlaa
