/- Boxes known whole: what their cells hold. -/
import Derived.Test.YtlhekifmkkgjlaaWords
import Derived.Test.YtlhekifmkkgjlaaRound
import Derived.TacticsIn
set_option linter.unusedSimpArgs false
set_option linter.unusedVariables false
set_option linter.unnecessarySimpa false
namespace Go.Proofs.Ytlhekifmkkgjlaa
open Go Go.RowKit
section
variable {w : World} {p : Nat} {t : TypeId} {a b c d e f g : Value}
theorem bx1 (h : Blk w p t #[a]) : p < w.heap.size ∧ w.cell? ⟨p, 0, none⟩ = some a := ⟨h.lt, by rw [h.cell]; rfl⟩
theorem bx2 (h : Blk w p t #[a, b]) : p < w.heap.size ∧ w.cell? ⟨p, 0, none⟩ = some a ∧ w.cell? ⟨p, 1, none⟩ = some b := ⟨h.lt, by rw [h.cell]; rfl, by rw [h.cell]; rfl⟩
theorem bx3 (h : Blk w p t #[a, b, c]) : p < w.heap.size ∧ w.cell? ⟨p, 0, none⟩ = some a ∧ w.cell? ⟨p, 1, none⟩ = some b ∧ w.cell? ⟨p, 2, none⟩ = some c := ⟨h.lt, by rw [h.cell]; rfl, by rw [h.cell]; rfl, by rw [h.cell]; rfl⟩
theorem bx4 (h : Blk w p t #[a, b, c, d]) : p < w.heap.size ∧ w.cell? ⟨p, 0, none⟩ = some a ∧ w.cell? ⟨p, 1, none⟩ = some b ∧ w.cell? ⟨p, 2, none⟩ = some c ∧ w.cell? ⟨p, 3, none⟩ = some d :=
  ⟨h.lt, by rw [h.cell]; rfl, by rw [h.cell]; rfl, by rw [h.cell]; rfl, by rw [h.cell]; rfl⟩
theorem bx5 (h : Blk w p t #[a, b, c, d, e]) : p < w.heap.size ∧ w.cell? ⟨p, 0, none⟩ = some a ∧ w.cell? ⟨p, 1, none⟩ = some b ∧ w.cell? ⟨p, 2, none⟩ = some c ∧ w.cell? ⟨p, 3, none⟩ = some d ∧ w.cell? ⟨p, 4, none⟩ = some e :=
  ⟨h.lt, by rw [h.cell]; rfl, by rw [h.cell]; rfl, by rw [h.cell]; rfl, by rw [h.cell]; rfl, by rw [h.cell]; rfl⟩
theorem bx7 (h : Blk w p t #[a, b, c, d, e, f, g]) : p < w.heap.size ∧ w.cell? ⟨p, 0, none⟩ = some a ∧ w.cell? ⟨p, 1, none⟩ = some b ∧ w.cell? ⟨p, 2, none⟩ = some c ∧ w.cell? ⟨p, 3, none⟩ = some d ∧ w.cell? ⟨p, 4, none⟩ = some e ∧ w.cell? ⟨p, 5, none⟩ = some f ∧ w.cell? ⟨p, 6, none⟩ = some g :=
  ⟨h.lt, by rw [h.cell]; rfl, by rw [h.cell]; rfl, by rw [h.cell]; rfl, by rw [h.cell]; rfl, by rw [h.cell]; rfl, by rw [h.cell]; rfl, by rw [h.cell]; rfl⟩
end
section
variable {F : Fence} {n : Nat} {P : Program} {ops : Array Oper} {Q : Exit → Act → World → Prop} {md : Region.Mode} {S : World → Prop}
/-- one of two operations comes up -/
theorem wpAnyJ_two (i j : Nat) {oi oj : Oper} {fuel : Nat} {listed : Array Bool} {a : Act} {w : World} (hi : ops[i]? = some oi) (hj : ops[j]? = some oj) (hr : Region.ready md ops listed = [i, j])
    (h : ∀ K : Act → World → Prop, Hid (∀ a w, (lastOp md ops i = false → S w) → wpAnyJ F n P md ops Q S fuel (listed.setIfInBounds i true) a w → K a w) → if Region.wanted oi (yielded ops a.tmps) = true then oi.wpIn F n P a w K Q else (∀ f, oi.about P w a.eval = some f → F.fn f) ∧ K (a.put oi.dst undef) w)
    (h' : ∀ K : Act → World → Prop, Hid (∀ a w, (lastOp md ops j = false → S w) → wpAnyJ F n P md ops Q S fuel (listed.setIfInBounds j true) a w → K a w) → if Region.wanted oj (yielded ops a.tmps) = true then oj.wpIn F n P a w K Q else (∀ f, oj.about P w a.eval = some f → F.fn f) ∧ K (a.put oj.dst undef) w) :
    wpAnyJ F n P md ops Q S (fuel + 1) listed a w := by
  refine ⟨fun h0 => (by rw [hr] at h0; cases h0), fun k hk => ?_⟩
  rw [hr] at hk
  rcases List.mem_cons.1 hk with rfl | hk
  · have h1 := h (fun a' w' => (lastOp md ops k = false → S w') ∧ wpAnyJ F n P md ops Q S fuel (listed.setIfInBounds k true) a' w') (show Hid _ from fun a w h1 h2 => ⟨h1, h2⟩)
    unfold wpOpIn
    simp only [hi]
    exact h1
  · obtain rfl := List.mem_singleton.1 hk
    have h1 := h' (fun a' w' => (lastOp md ops k = false → S w') ∧ wpAnyJ F n P md ops Q S fuel (listed.setIfInBounds k true) a' w') (show Hid _ from fun a w h1 h2 => ⟨h1, h2⟩)
    unfold wpOpIn
    simp only [hj]
    exact h1
end
/-- a piece of code that ends normally, in one of the states that R tells; what follows is shown once -/
def OnlyNormal (R : Act → World → Prop) : Exit → Act → World → Prop
  | .normal, a, w => R a w
  | _, _, _ => False
theorem OnlyNormal.imp {R : Act → World → Prop} {Q : Exit → Act → World → Prop} (h2 : ∀ a' w', R a' w' → Q .normal a' w') : ∀ e a w, OnlyNormal R e a w → Q e a w := fun e a w h => by
  cases e with
  | normal => exact h2 a w h
  | _ => exact (h : False).elim
theorem wp_cut {P : Program} {c : Code} {Q : Exit → Act → World → Prop} {a : Act} {w : World} (R : Act → Act → World → Prop) (h1 : c.wp P (OnlyNormal (R a)) a w) (h2 : ∀ a' w', R a a' w' → Q .normal a' w') : c.wp P Q a w :=
  wp_mono h1 (OnlyNormal.imp h2)
theorem wpIn_cut {F : Fence} {n : Nat} {P : Program} {c : Code} {Q : Exit → Act → World → Prop} {a : Act} {w : World} (R : Act → Act → World → Prop) (h1 : c.wpIn F n P (OnlyNormal (R a)) a w) (h2 : ∀ a' w', R a a' w' → Q .normal a' w') : c.wpIn F n P Q a w :=
  Code.wpIn_mono (OnlyNormal.imp h2) h1
end Go.Proofs.Ytlhekifmkkgjlaa
