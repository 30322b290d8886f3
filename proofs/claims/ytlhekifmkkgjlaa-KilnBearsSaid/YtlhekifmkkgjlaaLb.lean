/- Chapter 8: the stores of a book, one number set; known calls on a book. -/
import Derived.Test.YtlhekifmkkgjlaaLa
set_option linter.unusedSimpArgs false
set_option linter.unusedVariables false
set_option linter.unnecessarySimpa false
namespace Go.Proofs.Ytlhekifmkkgjlaa
open Go Go.RowKit Go.Shelf
set_option maxHeartbeats 1000000
def Wa.get (x : Wa) (i : Nat) : Int := if i = 0 then x.wet else if i = 1 then x.dry else if i = 2 then x.burning else if i = 3 then x.fired else if i = 4 then x.laid else if i = 5 then x.broken else x.missing
def Wa.put (x : Wa) (i : Nat) (v : Int) : Wa := if i = 0 then { x with wet := v } else if i = 1 then { x with dry := v } else if i = 2 then { x with burning := v } else if i = 3 then { x with fired := v } else if i = 4 then { x with laid := v } else if i = 5 then { x with broken := v } else { x with missing := v }
theorem Wa.get_put (x : Wa) {i j : Nat} (hi : i < 7) (hj : j < 7) (v : Int) : (x.put i v).get j = if j = i then v else x.get j := by
  rcases (by omega : i = 0 ∨ i = 1 ∨ i = 2 ∨ i = 3 ∨ i = 4 ∨ i = 5 ∨ i = 6) with rfl | rfl | rfl | rfl | rfl | rfl | rfl <;>
  rcases (by omega : j = 0 ∨ j = 1 ∨ j = 2 ∨ j = 3 ∨ j = 4 ∨ j = 5 ∨ j = 6) with rfl | rfl | rfl | rfl | rfl | rfl | rfl <;> rfl
theorem KindW_iff {w : World} {S o : Nat} {x : Wa} : KindW w S o x ↔ S < w.heap.size ∧ (∀ i, w.frozen? ⟨S, i, none⟩ = false) ∧ ∀ i, i < 7 → w.cell? ⟨S, o + i, none⟩ = some (.int .i64 (x.get i)) := by
  constructor
  · rintro ⟨h0, hf, h1, h2, h3, h4, h5, h6, h7⟩
    refine ⟨h0, hf, fun i hi => ?_⟩
    rcases (by omega : i = 0 ∨ i = 1 ∨ i = 2 ∨ i = 3 ∨ i = 4 ∨ i = 5 ∨ i = 6) with rfl | rfl | rfl | rfl | rfl | rfl | rfl
    · exact h1
    · exact h2
    · exact h3
    · exact h4
    · exact h5
    · exact h6
    · exact h7
  · rintro ⟨h0, hf, h⟩
    exact ⟨h0, hf, h 0 (by omega), h 1 (by omega), h 2 (by omega), h 3 (by omega), h 4 (by omega), h 5 (by omega), h 6 (by omega)⟩
theorem Stores.set {w : World} {S n : Nat} {ws : Nat → Wa} (h : Stores w S n ws) {k i : Nat} (hk : k < n) (hi : i < 7) (v : Int) :
    Stores (w.setCell ⟨S, k * 7 + i, none⟩ (.int .i64 v)) S n (upd ws k ((ws k).put i v)) := by
  obtain ⟨⟨cs, hc⟩, hK⟩ := h
  refine ⟨⟨_, hc.set_ _ _⟩, fun k' hk' => ?_⟩
  have h1 := KindW_iff.1 (hK k' hk')
  have h2 := KindW_iff.1 (hK k hk)
  refine KindW_iff.2 ⟨by rw [size_set]; exact h1.1, fun j => by rw [World.frozen?_setCell]; exact h1.2.1 j, fun j hj => ?_⟩
  by_cases e : k' = k
  · subst e
    rw [upd_same, Wa.get_put _ hi hj]
    by_cases ej : j = i
    · subst ej
      rw [if_pos rfl]
      exact World.cell?_setCell_same' _ _ _ (by rw [h2.2.2 j hj]; rfl)
    · rw [if_neg ej, World.cell?_setCell_other _ _ _ _ (fun h => by injection h; omega)]
      exact h1.2.2 j hj
  · rw [upd_ne _ _ e, World.cell?_setCell_other _ _ _ _ (fun h => by injection h; omega)]
    exact h1.2.2 j hj
theorem Stores.grown {w w' : World} {S n : Nat} {ws : Nat → Wa} (h : Stores w S n ws) {row : Option Nat} (hg : w.grownBy w' row) (hr : some S ≠ row) : Stores w' S n ws := by
  obtain ⟨⟨cs, hc⟩, hK⟩ := h
  have hc' := hc.grown hg hr
  refine ⟨⟨cs, hc'⟩, fun k hk => ?_⟩
  have h1 := KindW_iff.1 (hK k hk)
  refine KindW_iff.2 ⟨hc'.lt, fun j => hc'.frozen j, fun j hj => ?_⟩
  rw [hc'.cell, ← hc.cell]
  exact h1.2.2 j hj
theorem turn_of {w w1 w' : World} {S n : Nat} {ws : Nat → Wa} (hS : Stores w1 S n ws) (hg : w.grownBy w1 (some S)) (hz : w1.heap.size = w.heap.size) (hB : Below w.heap.size w1 w') : Stores w' S n ws ∧ w.grownBy w' (some S) := by
  rw [← hz] at hB
  exact ⟨hS.grown (grown_none hB) (by simp), hB.os.trans hg.os, hB.tape.trans hg.tape, hB.output.trans hg.output, Nat.le_trans (Nat.le_of_eq hz.symm) hB.size, fun j hj hne => (hB.block j (by omega)).trans (hg.block j hj hne)⟩
theorem Stores.same {w : World} {S n : Nat} {ws ws' : Nat → Wa} (h : Stores w S n ws) (e : ∀ k, k < n → ws k = ws' k) : Stores w S n ws' := ⟨h.1, fun k hk => e k hk ▸ h.2 k hk⟩
theorem grownBy_setS {w w' : World} {S : Nat} (h : w.grownBy w' (some S)) (i : Nat) (v : Value) : w.grownBy (w'.setCell ⟨S, i, none⟩ v) (some S) :=
  ⟨h.os, h.tape, h.output, by rw [size_set]; exact h.size, fun j hj hne => (Below.heap_setCell _ _ _ j (fun e => hne (by rw [e]))).trans (h.block j hj hne)⟩
theorem known_mould (b S : Nat) (spv ov : Value) (room : Int) (w : World) (hb : Blk w b 148 #[spv, .int .i64 room, .slice (some ⟨S, 0, none⟩) 1 1, ov]) (hS : Stores w S 1 (fun _ => Wa.zero)) :
    Calls Try.prog 38 #[.pointer (some ⟨b, 0, none⟩), .int .i64 0, .int .i64 10] w fun e w' => e = .returned (.int .i64 0) ∧ Blk w' b 148 #[spv, .int .i64 room, .slice (some ⟨S, 0, none⟩) 1 1, ov] ∧ Stores w' S 1 (fun _ => ⟨10, 0, 0, 0, 0, 0, 0⟩) ∧ w.grownBy w' (some S) := by
  obtain ⟨cs, hcs⟩ := hS.1
  have hbS : some b ≠ some S := fun e => hb.ne_ hcs (by decide) (by injection e)
  refine (mould_ok b S 1 0 spv ov room 10 Wa.zero w hb (by omega) (by omega) (hS.2 0 (by omega)) ⟨by decide, by decide, by decide, by decide, by decide, by decide, by decide, by decide, by decide⟩ (by omega) (by omega) (by decide)).mono ?_
  rintro e w' ⟨rfl, hB⟩
  have hS1 := hS.set (k := 0) (i := 0) (by omega) (by omega) 10
  have hS' : Stores _ S 1 (fun _ => ⟨10, 0, 0, 0, 0, 0, 0⟩) := hS1.same fun k (hk : k < 1) => by
    obtain rfl : k = 0 := by omega
    rfl
  obtain ⟨h1, h2⟩ := turn_of hS' (grownBy_setS (World.grownBy.refl w _) _ _) (size_set _ _ _) hB
  exact ⟨rfl, hb.grown h2 hbS, h1, h2⟩
theorem known_dry (b S : Nat) (spv ov : Value) (room : Int) (w : World) (hb : Blk w b 148 #[spv, .int .i64 room, .slice (some ⟨S, 0, none⟩) 1 1, ov]) (hS : Stores w S 1 (fun _ => ⟨10, 0, 0, 0, 0, 0, 0⟩)) :
    Calls Try.prog 39 #[.pointer (some ⟨b, 0, none⟩), .int .i64 0, .int .i64 8, .int .i64 1] w fun e w' => e = .returned (.int .i64 0) ∧ Blk w' b 148 #[spv, .int .i64 room, .slice (some ⟨S, 0, none⟩) 1 1, ov] ∧ Stores w' S 1 (fun _ => ⟨2, 7, 0, 0, 0, 1, 0⟩) ∧ w.grownBy w' (some S) := by
  obtain ⟨cs, hcs⟩ := hS.1
  have hbS : some b ≠ some S := fun e => hb.ne_ hcs (by decide) (by injection e)
  refine (dry_ok b S 1 0 spv ov room 8 ⟨10, 0, 0, 0, 0, 0, 0⟩ w hb (by omega) (by omega) (hS.2 0 (by omega)) ⟨by decide, by decide, by decide, by decide, by decide, by decide, by decide, by decide, by decide⟩ 1 (by omega) (by omega) (by omega) (by decide)).mono ?_
  rintro e w' ⟨rfl, hB⟩
  have hS1 := (((hS.set (k := 0) (i := 0) (by omega) (by omega) 2).set (k := 0) (i := 1) (by omega) (by omega) 8).set (k := 0) (i := 1) (by omega) (by omega) 7).set (k := 0) (i := 5) (by omega) (by omega) 1
  have hS' : Stores _ S 1 (fun _ => ⟨2, 7, 0, 0, 0, 1, 0⟩) := hS1.same fun k (hk : k < 1) => by
    obtain rfl : k = 0 := by omega
    rfl
  obtain ⟨h1, h2⟩ := turn_of hS' (grownBy_setS (grownBy_setS (grownBy_setS (grownBy_setS (World.grownBy.refl w _) _ _) _ _) _ _) _ _) (by simp only [size_set]) hB
  exact ⟨rfl, hb.grown h2 hbS, h1, h2⟩
end Go.Proofs.Ytlhekifmkkgjlaa
