/- Chapter 8: a kiln with one kind emptied. -/
import Derived.Test.YtlhekifmkkgjlaaMj
set_option linter.unusedSimpArgs false
set_option linter.unusedVariables false
set_option linter.unnecessarySimpa false
namespace Go.Proofs.Ytlhekifmkkgjlaa
open Go Go.RowKit Go.Shelf
set_option maxRecDepth 100000
def drawE (x : Wa) (l : Int) : Int := if 0 ≤ l ∧ l ≤ x.burning then 0 else 2
theorem draw_one (b S n k oc c ab aoff gb goff : Nat) (room l : Int) (spv : Value) (ws : Nat → Wa) (w : World) (hbk : Blk w b 148 #[spv, .int .i64 room, .slice (some ⟨S, 0, none⟩) n n, .slice (some ⟨gb, goff, none⟩) 1 oc]) (hn1 : 1 ≤ n) (hn : n ≤ 20) (hS : Stores w S n ws) (ho : ∀ k, k < n → OkW (ws k)) (hG : IR w w.heap.size (some ⟨gb, goff, none⟩) 1 (fun _ => (k : Int))) (hA : IR w w.heap.size (some ⟨ab, aoff, none⟩) 1 (fun _ => l))
    (hk : k < n) (habS : ab ≠ S) (habb : ab ≠ b) (hgbS : gb ≠ S) (hgbb : gb ≠ b) :
    Calls Try.prog 41 #[.pointer (some ⟨b, 0, none⟩), .slice (some ⟨ab, aoff, none⟩) 1 c] w fun e w' =>
      e = .returned (.int .i64 (drawE (ws k) l)) ∧ ((drawE (ws k) l ≠ 0 ∧ Below w.heap.size w w') ∨ (drawE (ws k) l = 0 ∧ Blk w' b 148 #[spv, .int .i64 room, .slice (some ⟨S, 0, none⟩) n n, .slice none 0 0] ∧ Stores w' S n (upd ws k (drawn (ws k) l)) ∧ Apart w w' S b)) := by
  refine (draw_any b S n 1 oc c ab aoff gb goff room spv ws (fun _ => (k : Int)) (fun _ => l) w hbk hn1 hn hS ho (Nat.le_refl _) (by omega) hG hA (fun _ _ => by omega) (fun i j h1 h2 => by omega) habS habb hgbS hgbb).mono ?_
  have e1 : anyTo (lostB ws (fun _ => (k : Int)) (fun _ => l)) 1 = ! decide (0 ≤ l ∧ l ≤ (ws k).burning) := by
    show (false || lostB ws (fun _ => (k : Int)) (fun _ => l) 0) = _
    rw [Bool.false_or]
    unfold lostB
    dsimp only
    rw [Int.toNat_natCast]
  have e2 : drawW ws (fun _ => (k : Int)) (fun _ => l) 1 = upd ws k (drawn (ws k) l) := by
    show upd ws ((k : Int)).toNat _ = _
    rw [Int.toNat_natCast]
    rfl
  rintro e w' h
  unfold DrawPost at h
  rw [e1, e2] at h
  unfold drawE
  by_cases a : 0 ≤ l ∧ l ≤ (ws k).burning
  · rw [decide_eq_true a] at h
    rcases h with ⟨h1, -⟩ | ⟨-, rfl, h2⟩
    · cases h1
    · simp only [if_pos a]
      exact ⟨trivial, .inr ⟨trivial, h2⟩⟩
  · rw [decide_eq_false a] at h
    rcases h with ⟨-, rfl, h2⟩ | ⟨h1, -⟩
    · simp only [if_neg a]
      exact ⟨trivial, .inl ⟨by omega, h2⟩⟩
    · cases h1
/-- a list of ints of its own block: its address -/
theorem own_addr {w : World} {base n : Nat} {e : TypeId} {ov : Value} {f : Nat → Int} (h : w.ownsRow base e 1 ov n (cellsOf 1 n fun j _ => .int .i64 (f j))) (hn : 0 < n) :
    ∃ g oc, ov = .slice (some ⟨g, 0, none⟩) n oc ∧ base ≤ g ∧ IR w w.heap.size (some ⟨g, 0, none⟩) n f := by
  obtain ⟨g, cap, rfl, -, hlt⟩ := h.form hn
  obtain ⟨A', c', hv, hE, -⟩ := ER.of_own h (by omega)
  injection hv with h1 h2 h3
  subst h1
  exact ⟨g, cap, rfl, (h.lt g rfl).1, hE⟩
end Go.Proofs.Ytlhekifmkkgjlaa
