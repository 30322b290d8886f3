/- Words that hang on no chapter: ranges over an iterator that yields the values of a list, one within the other's body. -/
import Derived.Test.YtagjeeimglecnaaDoorFiringsC
import Derived.RangeFuncNested
import Derived.RangeFuncBox
import Derived.Laws.IdiomStrings
import Derived.Maps.OwnSet
set_option linter.unusedSimpArgs false
set_option linter.unusedVariables false
set_option linter.unnecessarySimpa false
namespace Go.Proofs.YtagjeeimglecnaaDoor
open Go Go.RowKit
set_option maxHeartbeats 4000000
set_option maxRecDepth 100000
variable {F : Fence} {n : Nat} {P : Program}
theorem SeqL.inRound {α : Type} {g : Nat} {fs lb : Array Value} {encs : α → Array Value} {R : World → Prop} {L : List α} {w : World} (l : Nat) (h : SeqL F n P g fs lb encs R L w) : SeqL (F.inRound l) n P g fs lb encs R L w := h
theorem wpIn_rangeFunc_listH {α : Type} {g : Operand} {ps : Array Tmp} {assign body : Code} {Q : Exit → Act → World → Prop} {a : Act} {w : World}
    (hro : F.round = none) (h1 : 1 ≤ n) {gf : Nat} {fs lb : Array Value} (hg : a.eval g = .func (.func gf) fs lb) (hFg : F.fn gf) (eg : ∀ args w, (callFunc gf args).run P w = .ok (.enter gf args) w)
    {encs : α → Array Value} {R : World → Prop} {L : List α} {w0 : World} (hseq : SeqL F (n - 1) P gf fs lb encs R L w0)
    (hb0 : Below w0.heap.size w0 w) (hps : ∀ x, (encs x).size = ps.size)
    (I : List α → World → Prop) (Ix : Code → List α → World → Prop) (hI : OwnFrom w.heap.size I) (hIR : ∀ pre W, I pre W → R W) (hIx : ∀ c, OwnFrom w.heap.size (Ix c)) (h0 : I [] w) (Ax : α → Act → World → Prop) (hAx : ∀ x a', OwnFrom w.heap.size (fun (_ : Unit) W => Ax x a' W))
    (hassign : ∀ (l : Nat) (pre : List α) (x : α) (W : World) (K : Act → World → Prop), I pre W → (∀ a' W', KeepsFrom w.heap.size W W' → I pre W' → Ax x a' W' → K a' W') →
      assign.wpIn (F.inRound l) (n - 1 - 1) P (Exit.then K (fun _ _ _ => False)) { tmps := (ps.zip (encs x)).foldl (fun t (p, v) => t.setIfInBounds p v) a.tmps, defers := [] } W)
    (hbody : ∀ (l : Nat) (pre : List α) (x : α) (a' : Act) (W : World), w.heap.size ≤ l → (∃ r, W.heap[l]? = some (.loop r)) → pre ++ [x] <+: L → I pre W → Ax x a' W → body.wpIn (F.inRound l) (n - 1 - 1) P (ownPostG w.heap.size (fun _ _ => True) I Ix (pre ++ [x]) W) a' W)
    (hdone : ∀ (D : Nat) (W : World), w.heap.size ≤ D → I L W → W.heap[D]? = some (.deferred (some [])) → Q .normal { a with defers := { target := .collected D, args := #[] } :: a.defers } W)
    (hstop : ∀ (D : Nat) (c : Code) (pre : List α) (W : World), w.heap.size ≤ D → pre <+: L → Ix c pre W → W.heap[D]? = some (.deferred (some [])) → c.wpIn F n P Q { a with defers := { target := .collected D, args := #[] } :: a.defers } W) :
    (Code.rangeFunc g ps assign body).wpIn F n P Q a w := by
  refine wpIn_rangeFunc ?_
  intro fn hfn
  rw [hro]
  obtain ⟨rec, hrec⟩ : ∃ rec : LoopState → Option Code → Loop, rec = fun st pe => { state := st, pending := pe, fn, tmps := a.tmps, params := ps, assign, body, defers := w.heap.size } := ⟨_, rfl⟩
  obtain ⟨W1, hW1⟩ : ∃ W1, (w.alloc (.deferred (some []))).alloc (.loop (rec .ready none)) = W1 := ⟨_, rfl⟩
  have hsz : W1.heap.size = w.heap.size + 2 := by rw [← hW1]; simp
  have hL1 : W1.heap[w.heap.size + 1]? = some (.loop (rec .ready none)) := by
    rw [← hW1]; have := World.alloc_heap_new (w.alloc (.deferred (some []))) (.loop (rec .ready none)); rwa [World.size_alloc] at this
  have hK1 : W1.heap[w.heap.size]? = some (.deferred (some [])) := by
    rw [← hW1]; exact (Below.heap_alloc _ _ _ (by simp)).trans (World.alloc_heap_new w _)
  have hI1 : I [] W1 := by rw [← hW1]; exact hI.alloc _ (hI.alloc _ h0)
  have hb1 : Below w0.heap.size w0 W1 := by
    rw [← hW1]; exact hb0.trans ((((Below.refl _ w).alloc (Nat.le_refl _) _).alloc (by simp) _).mono hb0.size)
  have hup : ∀ {row : Option Nat}, (∀ r, row = some r → W1.heap.size ≤ r) → ∀ r, row = some r → w.heap.size ≤ r := fun hr r e => by have := hr r e; omega
  have hst : ∀ {A B : World} {row : Option Nat} {k : Nat} {o : Obj}, A.grownBy B row → (∀ r, row = some r → W1.heap.size ≤ r) → k < w.heap.size + 2 → A.heap[k]? = some o → B.heap[k]? = some o := fun {A B row k o} hg hr hk h => by
    refine (hg.block k ?_ (fun e => ?_)).trans h
    · rcases Nat.lt_or_ge k A.heap.size with hl | hl
      · exact hl
      · rw [Array.getElem?_eq_none hl] at h; cases h
    · have := hr k e.symm; omega
  refine ⟨w.heap.size + 1, [{ target := .collected w.heap.size, args := #[] }], W1, { target := .fn (.func gf) lb, args := fs ++ #[.func (.yield (w.heap.size + 1)) #[] #[]] }, W1, gf,
    fs ++ #[.func (.yield (w.heap.size + 1)) #[] #[]] ++ lb, W1, ?_, ?_, ?_, ?_, fun _ => h1, ?_⟩
  · rw [← hW1, hrec]; exact run_enterLoop_outer _ _ _ _ _
  · simp only [resolve, hg]
    simp [go_sem]
  · intro f' hf'; simp [Target.leads] at hf'; subst hf'; exact hFg
  · simp [invoke, go_sem, eg]
  · refine (hseq (w.heap.size + 1)
      (fun pre W => I pre W ∧ W.heap[w.heap.size + 1]? = some (.loop (rec .ready none)) ∧ W.heap[w.heap.size]? = some (.deferred (some [])))
      (fun pre W => ∃ c, Ix c pre W ∧ W.heap[w.heap.size + 1]? = some (.loop (rec .done (some c))) ∧ W.heap[w.heap.size]? = some (.deferred (some [])))
      W1 hb1
      (fun pre W h => hIR pre W h.1) ?_ ⟨hI1, hL1, hK1⟩).mono ?_
    · rintro pre x W hlen ⟨hi, hl, hk⟩
      have hlt : w.heap.size + 1 < W.heap.size := (Array.getElem?_eq_some_iff.1 hl).1
      have hy := run_yield (P := P) (args := encs x) hl (by rw [hrec]; exact hps x)
      rw [hrec] at hy
      refine ⟨fn, _, assign, body, hy, roundIn_of_wpIn hfn (hassign _ pre x W _ hi ?_)⟩
      clear hy
      intro a' Wa hkfa hia hax
      replace hl := hkfa.same _ _ (by omega) hl rfl
      replace hk := hkfa.same _ _ (Nat.le_refl _) hk rfl
      replace hlt : w.heap.size + 1 < Wa.heap.size := (Array.getElem?_eq_some_iff.1 hl).1
      replace hi := hia
      clear hia
      revert hkfa
      generalize W = Wb
      intro hkfa
      obtain ⟨W, rfl⟩ : ∃ W, W = Wa := ⟨_, rfl⟩
      refine ⟨_, run_beginRound hl (by rw [hrec]), ?_⟩
      have hl2 : (W.putObj (w.heap.size + 1) (.loop { rec .ready none with state := .busy })).heap[w.heap.size + 1]? = some (.loop { rec .ready none with state := .busy }) := World.putObj_heap_same hlt
      have hk2 : (W.putObj (w.heap.size + 1) (.loop { rec .ready none with state := .busy })).heap[w.heap.size]? = some (.deferred (some [])) := (World.putObj_heap_other (by omega)).trans hk
      refine wpIn_mono (hbody _ pre x a' _ (by omega) ⟨_, hl2⟩ hlen (hI.putObj _ hi (by omega) hl rfl) ((hAx x a').putObj (s := ()) _ hax (by omega) hl rfl)) ?_
      have fin : ∀ (jump : Option Code) (W3 : World), KeepsFrom w.heap.size (W.putObj (w.heap.size + 1) (.loop { rec .ready none with state := .busy })) W3 →
          (Instr.endRound (w.heap.size + 1) jump).run P W3 = .ok (.bool jump.isNone) (W3.putObj (w.heap.size + 1) (.loop (rec (if jump.isNone then .ready else .done) jump))) ∧
          W3.heap[w.heap.size + 1]? = some (.loop { rec .ready none with state := .busy }) ∧
          (W3.putObj (w.heap.size + 1) (.loop (rec (if jump.isNone then .ready else .done) jump))).heap[w.heap.size + 1]? = some (.loop (rec (if jump.isNone then .ready else .done) jump)) ∧
          (W3.putObj (w.heap.size + 1) (.loop (rec (if jump.isNone then .ready else .done) jump))).heap[w.heap.size]? = some (.deferred (some [])) := fun jump W3 hk3 => by
        have hl3 := hk3.same _ _ (by omega) hl2 rfl
        have := run_endRound (P := P) jump hl3
        rw [hrec] at this ⊢
        exact ⟨this, by rw [hrec] at hl3; exact hl3, World.putObj_heap_same (Array.getElem?_eq_some_iff.1 hl3).1, (World.putObj_heap_other (by omega)).trans (hk3.same _ _ (Nat.le_refl _) hk2 rfl)⟩
      rintro e a3 W3 hp
      cases e with
      | normal =>
        obtain ⟨hk3, hkp3, hi3⟩ := hp
        obtain ⟨hr, hl3, hl4, hk4⟩ := fin none W3 hk3
        exact ⟨_, _, hr, .inl ⟨rfl, hI.putObj _ hi3 (by omega) hl3 rfl, hl4, hk4⟩⟩
      | ret =>
        obtain ⟨hk3, hi3⟩ := hp
        obtain ⟨hr, hl3, hl4, hk4⟩ := fin (some .ret) W3 hk3
        exact ⟨_, _, hr, .inr ⟨rfl, .ret, (hIx _).putObj _ hi3 (by omega) hl3 rfl, hl4, hk4⟩⟩
      | exit id =>
        obtain ⟨hk3, hi3⟩ := hp
        obtain ⟨hr, hl3, hl4, hk4⟩ := fin (some (.exit id)) W3 hk3
        exact ⟨_, _, hr, .inr ⟨rfl, .exit id, (hIx _).putObj _ hi3 (by omega) hl3 rfl, hl4, hk4⟩⟩
      | goto t =>
        obtain ⟨hk3, hi3⟩ := hp
        obtain ⟨hr, hl3, hl4, hk4⟩ := fin (some (.goto t)) W3 hk3
        exact ⟨_, _, hr, .inr ⟨rfl, .goto t, (hIx _).putObj _ hi3 (by omega) hl3 rfl, hl4, hk4⟩⟩
      | panic ch => exact hp.elim
      | outgrown => exact hp.elim
    · rintro e W2 ⟨⟨v, rfl⟩, (⟨hi, hl, hk⟩ | ⟨pre, hSp, c, hi, hl, hk⟩)⟩
      · exact ⟨none, _, by have := run_endLoop (P := P) hl (by rw [hrec]; simp); rw [hrec] at this; exact this, hdone _ _ (Nat.le_refl _) (hI.putObj _ hi (by omega) hl rfl) ((World.putObj_heap_other (by omega)).trans hk)⟩
      · exact ⟨some c, _, by have := run_endLoop (P := P) hl (by rw [hrec]; simp); rw [hrec] at this; exact this, hstop _ c pre _ (Nat.le_refl _) hSp ((hIx c).putObj _ hi (by omega) hl rfl) ((World.putObj_heap_other (by omega)).trans hk)⟩
theorem wpIn_rangeFunc_listN {α : Type} {g : Operand} {ps : Array Tmp} {assign body : Code} {Q : Exit → Act → World → Prop} {a : Act} {w : World}
    {l₀ : Nat} {r₀ : Loop} (hro : F.round = some l₀) (hl₀ : w.heap[l₀]? = some (.loop r₀)) (h1 : 1 ≤ n) {gf : Nat} {fs lb : Array Value} (hg : a.eval g = .func (.func gf) fs lb) (hFg : F.fn gf) (eg : ∀ args w, (callFunc gf args).run P w = .ok (.enter gf args) w)
    {encs : α → Array Value} {R : World → Prop} {L : List α} {w0 : World} (hseq : SeqL F (n - 1) P gf fs lb encs R L w0)
    (hb0 : Below w0.heap.size w0 w) (hps : ∀ x, (encs x).size = ps.size)
    (I : List α → World → Prop) (Ix : Code → List α → World → Prop) (hI : OwnFrom w.heap.size I) (hIR : ∀ pre W, I pre W → R W) (hIx : ∀ c, OwnFrom w.heap.size (Ix c)) (h0 : I [] w) (Ax : α → Act → World → Prop) (hAx : ∀ x a', OwnFrom w.heap.size (fun (_ : Unit) W => Ax x a' W))
    (hassign : ∀ (l : Nat) (pre : List α) (x : α) (W : World) (K : Act → World → Prop), I pre W → (∀ a' W', KeepsFrom w.heap.size W W' → I pre W' → Ax x a' W' → K a' W') →
      assign.wpIn (F.inRound l) (n - 1 - 1) P (Exit.then K (fun _ _ _ => False)) { tmps := (ps.zip (encs x)).foldl (fun t (p, v) => t.setIfInBounds p v) a.tmps, defers := [] } W)
    (hbody : ∀ (l : Nat) (pre : List α) (x : α) (a' : Act) (W : World), w.heap.size ≤ l → (∃ r, W.heap[l]? = some (.loop r)) → pre ++ [x] <+: L → I pre W → Ax x a' W → body.wpIn (F.inRound l) (n - 1 - 1) P (ownPostG w.heap.size (fun _ _ => True) I Ix (pre ++ [x]) W) a' W)
    (hdone : ∀ (W : World), I L W → Q .normal a W)
    (hstop : ∀ (c : Code) (pre : List α) (W : World), pre <+: L → Ix c pre W → c.wpIn F n P Q a W) :
    (Code.rangeFunc g ps assign body).wpIn F n P Q a w := by
  refine wpIn_rangeFunc ?_
  intro fn hfn
  rw [hro]
  obtain ⟨rec, hrec⟩ : ∃ rec : LoopState → Option Code → Loop, rec = fun st pe => { state := st, pending := pe, fn, tmps := a.tmps, params := ps, assign, body, defers := r₀.defers } := ⟨_, rfl⟩
  obtain ⟨W1, hW1⟩ : ∃ W1, w.alloc (.loop (rec .ready none)) = W1 := ⟨_, rfl⟩
  have hL1 : W1.heap[w.heap.size]? = some (.loop (rec .ready none)) := by rw [← hW1]; exact World.alloc_heap_new w _
  have hI1 : I [] W1 := by rw [← hW1]; exact hI.alloc _ h0
  have hb1 : Below w0.heap.size w0 W1 := by
    rw [← hW1]; exact hb0.trans (((Below.refl _ w).alloc (Nat.le_refl _) _).mono hb0.size)
  refine ⟨w.heap.size, [], W1, { target := .fn (.func gf) lb, args := fs ++ #[.func (.yield w.heap.size) #[] #[]] }, W1, gf,
    fs ++ #[.func (.yield w.heap.size) #[] #[]] ++ lb, W1, ?_, ?_, ?_, ?_, fun _ => h1, ?_⟩
  · rw [← hW1, hrec]; exact run_enterLoop_inner hl₀ _ _ _ _ _
  · simp only [resolve, hg]
    simp [go_sem]
  · intro f' hf'; simp [Target.leads] at hf'; subst hf'; exact hFg
  · simp [invoke, go_sem, eg]
  · refine (hseq w.heap.size
      (fun pre W => I pre W ∧ W.heap[w.heap.size]? = some (.loop (rec .ready none)))
      (fun pre W => ∃ c, Ix c pre W ∧ W.heap[w.heap.size]? = some (.loop (rec .done (some c))))
      W1 hb1
      (fun pre W h => hIR pre W h.1) ?_ ⟨hI1, hL1⟩).mono ?_
    · rintro pre x W hlen ⟨hi, hl⟩
      have hlt : w.heap.size < W.heap.size := (Array.getElem?_eq_some_iff.1 hl).1
      have hy := run_yield (P := P) (args := encs x) hl (by rw [hrec]; exact hps x)
      rw [hrec] at hy
      refine ⟨fn, _, assign, body, hy, roundIn_of_wpIn hfn (hassign _ pre x W _ hi ?_)⟩
      clear hy
      intro a' Wa hkfa hia hax
      replace hl := hkfa.same _ _ (Nat.le_refl _) hl rfl
      replace hlt : w.heap.size < Wa.heap.size := (Array.getElem?_eq_some_iff.1 hl).1
      replace hi := hia
      clear hia
      revert hkfa
      generalize W = Wb
      intro hkfa
      obtain ⟨W, rfl⟩ : ∃ W, W = Wa := ⟨_, rfl⟩
      refine ⟨_, run_beginRound hl (by rw [hrec]), ?_⟩
      have hl2 : (W.putObj w.heap.size (.loop { rec .ready none with state := .busy })).heap[w.heap.size]? = some (.loop { rec .ready none with state := .busy }) := World.putObj_heap_same hlt
      refine wpIn_mono (hbody _ pre x a' _ (by omega) ⟨_, hl2⟩ hlen (hI.putObj _ hi (by omega) hl rfl) ((hAx x a').putObj (s := ()) _ hax (by omega) hl rfl)) ?_
      have fin : ∀ (jump : Option Code) (W3 : World), KeepsFrom w.heap.size (W.putObj w.heap.size (.loop { rec .ready none with state := .busy })) W3 →
          (Instr.endRound w.heap.size jump).run P W3 = .ok (.bool jump.isNone) (W3.putObj w.heap.size (.loop (rec (if jump.isNone then .ready else .done) jump))) ∧
          W3.heap[w.heap.size]? = some (.loop { rec .ready none with state := .busy }) ∧
          (W3.putObj w.heap.size (.loop (rec (if jump.isNone then .ready else .done) jump))).heap[w.heap.size]? = some (.loop (rec (if jump.isNone then .ready else .done) jump)) := fun jump W3 hk3 => by
        have hl3 := hk3.same _ _ (by omega) hl2 rfl
        have := run_endRound (P := P) jump hl3
        rw [hrec] at this ⊢
        exact ⟨this, by rw [hrec] at hl3; exact hl3, World.putObj_heap_same (Array.getElem?_eq_some_iff.1 hl3).1⟩
      rintro e a3 W3 hp
      cases e with
      | normal =>
        obtain ⟨hk3, hkp3, hi3⟩ := hp
        obtain ⟨hr, hl3, hl4⟩ := fin none W3 hk3
        exact ⟨_, _, hr, .inl ⟨rfl, hI.putObj _ hi3 (by omega) hl3 rfl, hl4⟩⟩
      | ret =>
        obtain ⟨hk3, hi3⟩ := hp
        obtain ⟨hr, hl3, hl4⟩ := fin (some .ret) W3 hk3
        exact ⟨_, _, hr, .inr ⟨rfl, .ret, (hIx _).putObj _ hi3 (by omega) hl3 rfl, hl4⟩⟩
      | exit id =>
        obtain ⟨hk3, hi3⟩ := hp
        obtain ⟨hr, hl3, hl4⟩ := fin (some (.exit id)) W3 hk3
        exact ⟨_, _, hr, .inr ⟨rfl, .exit id, (hIx _).putObj _ hi3 (by omega) hl3 rfl, hl4⟩⟩
      | goto t =>
        obtain ⟨hk3, hi3⟩ := hp
        obtain ⟨hr, hl3, hl4⟩ := fin (some (.goto t)) W3 hk3
        exact ⟨_, _, hr, .inr ⟨rfl, .goto t, (hIx _).putObj _ hi3 (by omega) hl3 rfl, hl4⟩⟩
      | panic ch => exact hp.elim
      | outgrown => exact hp.elim
    · rintro e W2 ⟨⟨v, rfl⟩, (⟨hi, hl⟩ | ⟨pre, hSp, c, hi, hl⟩)⟩
      · exact ⟨none, _, by have := run_endLoop (P := P) hl (by rw [hrec]; simp); rw [hrec] at this; exact this, hdone _ (hI.putObj _ hi (by omega) hl rfl)⟩
      · exact ⟨some c, _, by have := run_endLoop (P := P) hl (by rw [hrec]; simp); rw [hrec] at this; exact this, hstop c pre _ hSp ((hIx c).putObj _ hi (by omega) hl rfl)⟩
end Go.Proofs.YtagjeeimglecnaaDoor
/- Rite: the fewest deeds (fewest.from), walked. -/
namespace Go.Proofs.YtagjeeimglecnaaDoor
open List renaming getElem_toArray → glA, getElem_cons_zero → glB, getElem_cons_succ → glC, setIfInBounds_toArray → glD, set_cons_zero → glE, set_cons_succ → glF
open Go Go.RowKit Go.Shelf
attribute [local go_sem] Oper.semAt_some
set_option maxHeartbeats 8000000
set_option maxRecDepth 100000
theorem wpIn_only {F : Fence} {n : Nat} {P : Program} {c : Code} {Q : Exit → Act → World → Prop} {a : Act} {w : World} (h : c.wpIn F n P (OnlyNormal fun a' w' => Q .normal a' w') a w) : c.wpIn F n P Q a w :=
  wpIn_cut (fun _ a' w' => Q .normal a' w') h (fun _ _ h => h)
/-- a book with what is known of its moments -/
structure FwR (w : World) (fb b mp : Nat) (d : Rad) (q : Bad) (r : Rit) : Prop where
  bk : BkR w b d q r
  blk : Blk w fb 127 #[.pointer (some ⟨b, 0, none⟩), .map (some mp)]
  fm : FmAt w mp r
  tb : TB w
theorem FwR.ext {w w' : World} {fb b mp : Nat} {d : Rad} {q : Bad} {r : Rit} (h : FwR w fb b mp d q r) (hb : Below w.heap.size w w') : FwR w' fb b mp d q r :=
  ⟨h.bk.ext hb, h.blk.ext hb, h.fm.ext hb, h.tb.ext hb⟩
theorem FwR.turn {w w' : World} {fb b mp : Nat} {d : Rad} {q : Bad} {r : Rit} (h : FwR w fb b mp d q r) (hg : w.grownBy w' (some mp)) (hf : FmAt w' mp r) : FwR w' fb b mp d q r :=
  have k := KC.map h.fm hg
  ⟨k.bk h.bk, k.blk h.blk, hf, k.tb h.tb⟩
theorem FwR.keptN {w w' : World} {fb b mp : Nat} {d : Rad} {q : Bad} {r : Rit} (h : FwR w fb b mp d q r) {row : Option Nat} (hg : w.grownBy w' row) (hr : ∀ r, row = some r → ∃ o : Obj, w.heap[r]? = some o ∧ o.isCells = false) (hne : some mp ≠ row) : FwR w' fb b mp d q r :=
  have k := KC.of_grown hg hr
  ⟨k.bk h.bk, k.blk h.blk, h.fm.kept hg hne, k.tb h.tb⟩
theorem gr_more {w W W' : World} {p : Nat} {row : Option Nat} (h : w.grownBy W (some p)) (hg : W.grownBy W' row) (hr : ∀ r, row = some r → w.heap.size ≤ r) : w.grownBy W' (some p) :=
  ⟨hg.os.trans h.os, hg.tape.trans h.tape, hg.output.trans h.output, Nat.le_trans h.size hg.size, fun i hi e => (hg.block i (Nat.lt_of_lt_of_le hi h.size) (fun e2 => by have := hr i e2.symm; omega)).trans (h.block i hi e)⟩
def FewPost (w : World) (fb b mp : Nat) (d : Rad) (q : Bad) (r : Rit) (m : Mom) (e : Ending) (w' : World) : Prop :=
  e = .returned (.int .i64 (fwN r m : Nat)) ∧ FwR w' fb b mp d q r ∧ w.grownBy w' (some mp)
/-- what the call keeps: g its pointer, g + 1 its moment -/
structure FwS (w W : World) (mp : Nat) (r : Rit) (g fb D : Nat) (day de : Int) : Prop where
  gb : w.grownBy W (some mp)
  fm : FmAt W mp r
  k2 : Blk W g 124 #[.pointer (some ⟨fb, 0, none⟩)]
  k3 : Blk W (g + 1) 88 #[.int .u16 (D : Nat), .int .i64 day, .int .i64 de]
theorem FwS.ext {w W W' : World} {mp : Nat} {r : Rit} {g fb D : Nat} {day de : Int} (h : FwS w W mp r g fb D day de) (hb : Below W.heap.size W W') : FwS w W' mp r g fb D day de :=
  ⟨gr_more h.gb (grown_no hb) (fun r e => by cases e), h.fm.ext hb, h.k2.ext hb, h.k3.ext hb⟩
theorem FwS.turn {w W W' : World} {mp : Nat} {r : Rit} {g fb D : Nat} {day de : Int} (h : FwS w W mp r g fb D day de) (hg : W.grownBy W' (some mp)) (hf : FmAt W' mp r) : FwS w W' mp r g fb D day de :=
  have k := KC.map h.fm hg
  ⟨gr_trans h.gb hg, hf, k.blk h.k2, k.blk h.k3⟩
theorem FwS.keptN {w W W' : World} {mp : Nat} {r : Rit} {g fb D : Nat} {day de : Int} (h : FwS w W mp r g fb D day de) {row : Option Nat} (hg : W.grownBy W' row) (hr : ∀ r, row = some r → w.heap.size ≤ r ∧ ∃ o : Obj, W.heap[r]? = some o ∧ o.isCells = false) (hm : mp < w.heap.size) : FwS w W' mp r g fb D day de :=
  have k := KC.of_grown hg (fun r e => (hr r e).2)
  ⟨gr_more h.gb hg (fun r e => (hr r e).1), h.fm.kept hg (fun e => by have := (hr _ e.symm).1; omega), k.blk h.k2, k.blk h.k3⟩
theorem FwS.set {w W : World} {mp : Nat} {r : Rit} {g fb D : Nat} {day de : Int} (h : FwS w W mp r g fb D day de) {p : Nat} (hp : w.heap.size ≤ p) (hm : mp < w.heap.size) (h2 : p ≠ g) (h3 : p ≠ g + 1) (v : Value) : FwS w (W.setCell ⟨p, 0, none⟩ v) mp r g fb D day de :=
  have hg := grownBy_setCell' W p v
  ⟨gr_more h.gb hg (fun r e => by cases e; exact hp), h.fm.kept hg (fun e => by injection e; omega), h.k2.far (p := ⟨p, 0, none⟩) (fun e => h2 e.symm) v, h.k3.far (p := ⟨p, 0, none⟩) (fun e => h3 e.symm) v⟩
theorem few_any (fb b mp : Nat) (d : Rad) (q : Bad) (r : Rit) (hr : RiOk r) : ∀ (k : Nat) (m : Mom) (w : World), meN r m < k → MoOk r m → FwR w fb b mp d q r →
    Calls Tryd.prog 60 #[.pointer (some ⟨fb, 0, none⟩), momV m] w (FewPost w fb b mp d q r m) := by
  intro k
  induction k with
  | zero => intro m w h; omega
  | succ k ih =>
  intro m w hk hm hf0
  have h10 : r.n ≤ 16 := by have := hr.n10; omega
  have HIH := hide ih
  have HM := hide hm
  have HK := hide hk
  have HR := hide hr
  have HF0 := hide hf0
  have HEQ := hide (fwN_eq h10 m)
  have HLK := hide (fun W (h : FmAt W mp r) => fm_look hr h hm)
  have HPU := hide (fun W (h : FmAt W mp r) => fm_put hr h hm)
  have HCO := hide (fun W (h : BkR W b d q r) => complete_any b d q r m.d W hr hm.d h)
  have HNX := hide (fun W (h : BkR W b d q r) => next_any b d q r m W hr hm.d h)
  obtain ⟨D, day, de⟩ := m
  have HON : Hid (∀ W, Calls Tryd.prog 48 #[.agg #[.int .u16 (D : Nat), .int .i64 day, .int .i64 de], .int .i64 (day + 1)] W fun e w' => e = .returned (momV (Mom.on ⟨D, day, de⟩ (day + 1))) ∧ Below W.heap.size W w') := hide (fun W => on_any ⟨D, day, de⟩ (day + 1) W)
  have HWI : Hid (∀ (i : Nat) (_ : i < 16) W, Calls Tryd.prog 50 #[.agg #[.int .u16 (D : Nat), .int .i64 day, .int .i64 de], .int .i64 i] W fun e w' => e = .returned (momV (Mom.wi ⟨D, day, de⟩ i)) ∧ Below W.heap.size W w') := hide (fun i hi W => with_any ⟨D, day, de⟩ i W hm.d hi hm.e0 (by have h1 := hm.e1; have h2 := hr.t4; omega))
  obtain ⟨v, hv⟩ : ∃ x, fwN r ⟨D, day, de⟩ = x := ⟨_, rfl⟩
  have HV := hide hv
  have hday := hm.d1
  have hday0 := hm.d0
  have hl30 := hr.l30
  obtain ⟨la, hla⟩ : ∃ x, r.last = x := ⟨_, rfl⟩
  have HLA := hide hla
  unfold FewPost
  rw [hla] at hday hl30
  rw [hla, hv] at HEQ
  rw [hv] at HPU ⊢
  unfold momV at HLK HPU HNX ⊢
  dsimp only at HLK HPU HCO HNX HEQ hday hday0 ⊢
  refine (callsIn_wide (n := 9)).1 ?_
  obtain ⟨F, hFw⟩ : ∃ F : Fence, F = Fence.wide := ⟨_, rfl⟩
  rw [← hFw]
  have hF : ∀ f, F.fn f := by rw [hFw]; exact fun _ => trivial
  have hro : F.round = none := by rw [hFw]; rfl
  have hwd : ∀ {n f args w R}, Calls Tryd.prog f args w R → CallsIn F n Tryd.prog f args w R := by rw [hFw]; exact fun h => callsIn_wide.2 h
  clear hFw
  have HB1 : Hid (Below w.heap.size w ((w.alloc (.cells #[.pointer (some ⟨fb, 0, none⟩)] 124)).alloc (.cells #[.int .u16 (D : Nat), .int .i64 day, .int .i64 de] 88))) := hide (((Below.refl _ _).alloc (Nat.le_refl _) _).alloc (by simp) _)
  have G2 : Hid (Blk ((w.alloc (.cells #[.pointer (some ⟨fb, 0, none⟩)] 124)).alloc (.cells #[.int .u16 (D : Nat), .int .i64 day, .int .i64 de] 88)) w.heap.size 124 #[.pointer (some ⟨fb, 0, none⟩)]) := hide ((Blk.new w _ _).alloc _)
  have G3 : Hid (Blk ((w.alloc (.cells #[.pointer (some ⟨fb, 0, none⟩)] 124)).alloc (.cells #[.int .u16 (D : Nat), .int .i64 day, .int .i64 de] 88)) (w.heap.size + 1) 88 #[.int .u16 (D : Nat), .int .i64 day, .int .i64 de]) := hide (by simpa using Blk.new (w.alloc (.cells #[.pointer (some ⟨fb, 0, none⟩)] 124)) 88 #[.int .u16 (D : Nat), .int .i64 day, .int .i64 de])
  have HMP := hide hf0.fm.lt
  obtain ⟨g, hg⟩ : ∃ x, w.heap.size = x := ⟨_, rfl⟩
  have HG : Hid (w.heap.size = g) := hide hg
  have HS1 : Hid (FwS w ((w.alloc (.cells #[.pointer (some ⟨fb, 0, none⟩)] 124)).alloc (.cells #[.int .u16 (D : Nat), .int .i64 day, .int .i64 de] 88)) mp r g fb D day de) := hide ⟨gr_below HB1.out mp, (hf0.ext HB1.out).fm, by rw [← hg]; exact G2.out, by rw [← hg]; exact G3.out⟩
  have HSA : Hid (∀ W, FwS w W mp r g fb D day de → (W.cell? ⟨g, 0, none⟩ = some (.pointer (some ⟨fb, 0, none⟩)) ∧ (W.cell? ⟨g + 1, 0, none⟩ = some (.int .u16 (D : Nat)) ∧ W.cell? ⟨g + 1, 1, none⟩ = some (.int .i64 day) ∧ W.cell? ⟨g + 1, 2, none⟩ = some (.int .i64 de)) ∧ (W.cell? ⟨fb, 0, none⟩ = some (.pointer (some ⟨b, 0, none⟩)) ∧ W.cell? ⟨fb, 1, none⟩ = some (.map (some mp))) ∧ W.cell? ⟨b, 1, none⟩ = some (.int .i64 la))) := hide (fun W h => by
    have h1 := hf0.turn h.gb h.fm
    obtain ⟨-, x0, -⟩ := blk1 h.k2
    obtain ⟨-, y0, y1, y2, -⟩ := blk3 h.k3
    obtain ⟨-, z0, z1, -⟩ := blk2 h1.blk
    have u1 := (bx8 h1.bk.blk).2.2.1
    rw [hla] at u1
    exact ⟨x0, ⟨y0, y1, y2⟩, ⟨z0, z1⟩, u1⟩)
  refine callsIn_of_wp_marks Tryd.func60 rfl (hF _) ?_ hro
  simp only [Tryd.ntmps60, List.size_toArray, List.length_cons, List.length_nil, Nat.reduceAdd, Nat.reduceSub, Array.replicate_succ, Array.replicate_zero, List.push_toArray, List.append_toArray, List.nil_append, List.cons_append]
  clear G2 G3 HB1 ih hk hm hr hv hla hf0
  gi_wp2_with fail
  (try simp only [World.size_alloc])
  (try rw [hg])
  clear hg
  generalize ((w.alloc (.cells #[.pointer (some ⟨fb, 0, none⟩)] 124)).alloc (.cells #[.int .u16 (D : Nat), .int .i64 day, .int .i64 de] 88)) = w1 at HS1 ⊢
  refine wpIn_only ?_
  refine wpIn_region_J (fun W : World => (W.cell? ⟨g, 0, none⟩ = some (.pointer (some ⟨fb, 0, none⟩)) ∧ (W.cell? ⟨g + 1, 0, none⟩ = some (.int .u16 (D : Nat)) ∧ W.cell? ⟨g + 1, 1, none⟩ = some (.int .i64 day) ∧ W.cell? ⟨g + 1, 2, none⟩ = some (.int .i64 de)) ∧ (W.cell? ⟨fb, 0, none⟩ = some (.pointer (some ⟨b, 0, none⟩)) ∧ W.cell? ⟨fb, 1, none⟩ = some (.map (some mp))) ∧ W.cell? ⟨b, 1, none⟩ = some (.int .i64 la))) (by kernel_rfl) ?_
  replace HS1 := hide (HS1.out.ext (Below.refl w1.heap.size w1).drew)
  generalize w1.drew = wd at HS1 ⊢
  refine tk_start [0, 1, 2, 3, 4, 5] ?_
  iterate 6
    refine tk_one (v := ?_) (by first | exact hF | exact wideFn) (HSA.out _ HS1.out) rfl (by kernel_rfl) (by kernel_rfl) (by kernel_rfl) (by kernel_rfl) rfl ?_ (by first | exact fun _ _ _ h => h | exact fun _ _ _ h => hQ2 _ _ _ _ _ h) ?_
    rotate_left
    · intro W hSW
      simp only [glA, glB, glC]
      (try dsimp only at hSW)
      go_simp
      with_reducible rfl
    (try simp only [glA, glB, glC, Act.put, glD, glE, glF])
  refine tk_end ?_
  refine wpAnyJ_one 6 rfl (by kernel_rfl) (fun K hK => ?_)
  simp only [glA, glB, glC]
  go_simp
  (with_reducible refine ((hwd (HCO.out wd (HF0.out.turn HS1.out.gb HS1.out.fm).bk))).mono ?_)
  rintro e w2 ⟨rfl, h2⟩
  have HS2 := hide (HS1.out.ext h2)
  dsimp only
  refine hK.out _ _ (fun _ => HSA.out _ HS2.out) ?_
  clear hK K
  (try simp only [glA, glB, glC, Act.put, glD, glE, glF])
  refine wpAnyJ_done (by kernel_rfl) ?_
  dsimp only [OnlyNormal]
  clear h2
  rcases hco : coB r D with _ | _
  rotate_left
  · have HV0 : Hid (v = 0) := hide (by rw [HEQ.out, hco]; rfl)
    gi_wp2_with fail
    refine ⟨.int .i64 0, by simp [results, Tryd.results60, go_sem], ?_⟩
    rw [HV0.out]
    exact ⟨rfl, HF0.out.turn HS2.out.gb HS2.out.fm, HS2.out.gb⟩
  replace HEQ := hide (by have h := HEQ.out; rw [hco, if_neg (by decide)] at h; exact h)
  clear hco
  gi_wp2_with fail
  replace HS2 := hide (HS2.out.ext (Below.refl w2.heap.size w2).drew)
  obtain ⟨c, y, hlk, hcy⟩ := HLK.out _ HS2.out.fm
  have HLK2 := hide hlk
  clear hlk
  refine wpIn_only ?_
  refine wpIn_region_J (fun W : World => ((W.cell? ⟨g, 0, none⟩ = some (.pointer (some ⟨fb, 0, none⟩)) ∧ (W.cell? ⟨g + 1, 0, none⟩ = some (.int .u16 (D : Nat)) ∧ W.cell? ⟨g + 1, 1, none⟩ = some (.int .i64 day) ∧ W.cell? ⟨g + 1, 2, none⟩ = some (.int .i64 de)) ∧ (W.cell? ⟨fb, 0, none⟩ = some (.pointer (some ⟨b, 0, none⟩)) ∧ W.cell? ⟨fb, 1, none⟩ = some (.map (some mp))) ∧ W.cell? ⟨b, 1, none⟩ = some (.int .i64 la)) ∧ (Instr.lookup 125 (.map (some mp)) (.agg #[.int .u16 (D : Nat), .int .i64 day, .int .i64 de]) true).run Tryd.prog W = .ok (.tuple #[.int .i64 c, .bool y]) W)) (by kernel_rfl) ?_
  generalize w2.drew = w3 at HS2 HLK2 ⊢
  refine tk_start [0, 1, 2, 3, 4, 5, 6, 7, 8, 9, 10] ?_
  iterate 11
    refine tk_one (v := ?_) (by first | exact hF | exact wideFn) ⟨HSA.out _ HS2.out, HLK2.out⟩ rfl (by kernel_rfl) (by kernel_rfl) (by kernel_rfl) (by kernel_rfl) rfl ?_ (by first | exact fun _ _ _ h => h | exact fun _ _ _ h => hQ2 _ _ _ _ _ h) ?_
    rotate_left
    · intro W hSW
      simp only [glA, glB, glC]
      (try dsimp only at hSW)
      go_simp
      with_reducible rfl
    (try simp only [glA, glB, glC, Act.put, glD, glE, glF])
  refine tk_end ?_
  refine wpAnyJ_done (by kernel_rfl) ?_
  dsimp only [OnlyNormal]
  rw [HV.out] at hcy
  cases y with
  | true =>
    obtain rfl := hcy rfl
    gi_wp2_with fail
    refine ⟨.int .i64 v, by simp [results, Tryd.results60, go_sem], ?_⟩
    exact ⟨rfl, HF0.out.turn HS2.out.gb HS2.out.fm, HS2.out.gb⟩
  | false =>
  clear hcy HLK2
  gi_wp2_with fail
  rename_i K9 hK9 K7c hK7c
  have HK9 := hide hK9
  have k7 := Blk.new w3 3 #[.int .i64 11]
  have hb7 : Below w3.heap.size w3 (w3.alloc (.cells #[.int .i64 11] 3)) := (Below.refl _ _).alloc (Nat.le_refl _) _
  have hbd := (Below.refl (w3.alloc (.cells #[.int .i64 11] 3)).heap.size (w3.alloc (.cells #[.int .i64 11] 3))).drew
  have HLO : Hid (w.heap.size ≤ w3.heap.size ∧ g + 1 < w3.heap.size) := hide ⟨HS2.out.gb.size, HS2.out.k3.lt⟩
  replace HS2 := hide ((HS2.out.ext hb7).ext hbd)
  have K7 := hide (k7.ext hbd)
  clear k7 hb7 hbd hK9
  refine wpIn_only ?_
  refine wpIn_region_J (fun W : World => (W.cell? ⟨g, 0, none⟩ = some (.pointer (some ⟨fb, 0, none⟩)) ∧ (W.cell? ⟨g + 1, 0, none⟩ = some (.int .u16 (D : Nat)) ∧ W.cell? ⟨g + 1, 1, none⟩ = some (.int .i64 day) ∧ W.cell? ⟨g + 1, 2, none⟩ = some (.int .i64 de)) ∧ (W.cell? ⟨fb, 0, none⟩ = some (.pointer (some ⟨b, 0, none⟩)) ∧ W.cell? ⟨fb, 1, none⟩ = some (.map (some mp))) ∧ W.cell? ⟨b, 1, none⟩ = some (.int .i64 la))) (by kernel_rfl) ?_
  generalize (w3.alloc (.cells #[.int .i64 11] 3)).drew = w4 at HS2 K7 ⊢
  obtain ⟨h7, hh7⟩ : ∃ x, w3.heap.size = x := ⟨_, rfl⟩
  rw [hh7] at K7 HLO ⊢
  clear hh7
  obtain ⟨bs, hbs⟩ : ∃ x, (if day < la then fwN r (Mom.on ⟨D, day, de⟩ (day + 1)) else 11) = x := ⟨_, rfl⟩
  have HBS := hide hbs
  rw [hbs] at HEQ
  clear hbs
  have REST : Hid (∀ (u37 u38 u39 u40 u41 u42 u43 u44 : Value) (W : World), FwS w W mp r g fb D day de → Blk W h7 3 #[.int .i64 (bs : Nat)] → K9 { tmps := #[.pointer (some ⟨fb, 0, none⟩), .agg #[.int .u16 (D : Nat), .int .i64 day, .int .i64 de], .pointer (some ⟨g, 0, none⟩), .pointer (some ⟨g + 1, 0, none⟩), .int .i64 0, .int .i64 c, .bool false, .pointer (some ⟨h7, 0, none⟩), undef, .pointer (some ⟨fb, 0, none⟩), .pointer (some ⟨fb, 0, none⟩), .pointer (some ⟨fb, 0, none⟩), .pointer (some ⟨b, 0, none⟩), .pointer (some ⟨g + 1, 0, none⟩), .int .u16 (D : Nat), .bool false, .tuple #[.int .i64 c, .bool false], .pointer (some ⟨fb, 0, none⟩), .pointer (some ⟨fb, 0, none⟩), .pointer (some ⟨fb, 1, none⟩), .map (some mp), .agg #[.int .u16 (D : Nat), .int .i64 day, .int .i64 de], .tuple #[.int .i64 c, .bool false], .int .i64 c, .bool false, .bool false, undef, .pointer (some ⟨g + 1, 1, none⟩), .int .i64 day, .pointer (some ⟨fb, 0, none⟩), .pointer (some ⟨fb, 0, none⟩), .pointer (some ⟨fb, 0, none⟩), .pointer (some ⟨b, 0, none⟩), .pointer (some ⟨b, 0, none⟩), .pointer (some ⟨b, 0, none⟩), .pointer (some ⟨b, 1, none⟩), .int .i64 la, u37, u38, u39, u40, u41, u42, u43, u44, undef, undef, undef, undef, undef, undef, undef, undef, undef, undef, undef, undef, undef, undef, undef, undef, undef, undef, undef, undef, undef, undef, undef], defers := [] } W) := by
    refine hide ?_
    intro u37 u38 u39 u40 u41 u42 u43 u44 W hS h7k
    refine HK9.out _ _ ?_
    clear HK9 hK7c
    dsimp only
    have HS := hide (hS.ext (Below.refl W.heap.size W).drew)
    have HK7 := hide (h7k.ext (Below.refl W.heap.size W).drew)
    clear hS h7k HS2 K7
    gi_wp2_with fail
    refine wpIn_only ?_
    refine wpIn_region_J (fun W : World => (W.cell? ⟨g, 0, none⟩ = some (.pointer (some ⟨fb, 0, none⟩)) ∧ (W.cell? ⟨g + 1, 0, none⟩ = some (.int .u16 (D : Nat)) ∧ W.cell? ⟨g + 1, 1, none⟩ = some (.int .i64 day) ∧ W.cell? ⟨g + 1, 2, none⟩ = some (.int .i64 de)) ∧ (W.cell? ⟨fb, 0, none⟩ = some (.pointer (some ⟨b, 0, none⟩)) ∧ W.cell? ⟨fb, 1, none⟩ = some (.map (some mp))) ∧ W.cell? ⟨b, 1, none⟩ = some (.int .i64 la))) (by kernel_rfl) ?_
    generalize W.drew = w5 at HS HK7 ⊢
    refine tk_start [0, 1, 2, 3, 4] ?_
    iterate 5
      refine tk_one (v := ?_) (by first | exact hF | exact wideFn) (HSA.out _ HS.out) rfl (by kernel_rfl) (by kernel_rfl) (by kernel_rfl) (by kernel_rfl) rfl ?_ (by first | exact fun _ _ _ h => h | exact fun _ _ _ h => hQ2 _ _ _ _ _ h) ?_
      rotate_left
      · intro W hSW
        simp only [glA, glB, glC]
        (try dsimp only at hSW)
        go_simp
        with_reducible rfl
      (try simp only [glA, glB, glC, Act.put, glD, glE, glF])
    refine tk_end ?_
    refine wpAnyJ_one 5 rfl (by kernel_rfl) (fun K hK => ?_)
    simp only [glA, glB, glC]
    go_simp
    (with_reducible refine ((hwd (HNX.out w5 (HF0.out.turn HS.out.gb HS.out.fm).bk))).mono ?_)
    rintro e w6 ⟨rfl, h6⟩
    have HS6 := hide (HS.out.ext h6)
    dsimp only
    refine hK.out _ _ (fun _ => HSA.out _ HS6.out) ?_
    clear hK K
    (try simp only [glA, glB, glC, Act.put, glD, glE, glF])
    refine wpAnyJ_take 6 (v := ?_) (by first | exact hF | exact wideFn) (HSA.out _ HS6.out) rfl (by kernel_rfl) (by kernel_rfl) (by kernel_rfl) (by kernel_rfl) rfl ?_ (by first | exact fun _ _ _ h => h | exact fun _ _ _ h => hQ2 _ _ _ _ _ h) ?_
    rotate_left
    · intro W hSW
      simp only [glA, glB, glC]
      (try dsimp only at hSW)
      go_simp
      with_reducible rfl
    (try simp only [glA, glB, glC, Act.put, glD, glE, glF])
    refine wpAnyJ_done (by kernel_rfl) ?_
    dsimp only [OnlyNormal]
    gi_wp2_with fail
    have K6 := hide (HK7.out.ext h6)
    clear h6 HS HK7
    have hst := all_seq F (9 - 1) hF hro (by omega) hwd (neS r ⟨D, day, de⟩) w6 (lt16 (mkS_lt _ r.n) h10)
    refine wpIn_rangeFunc_list hro (by omega) (gf := 76) (fs := #[.int .u16 (neS r ⟨D, day, de⟩ : Nat)]) (lb := #[]) rfl (hF _) (enters_of Tryd.func76 (by kernel_rfl) rfl)
      hst (Below.refl _ _) (fun _ => rfl)
      (fun pre W => FwS w W mp r g fb D day de ∧ Blk W h7 3 #[.int .i64 (pre.foldl (fun b a => min b (1 + fwN r (Mom.wi ⟨D, day, de⟩ a))) bs : Nat)])
      (fun _ _ _ => False) ?hI (fun pre W h => (HF0.out.turn h.1.gb h.1.fm).tb) (fun _ _ _ _ _ h _ _ => h) ⟨HS6.out, K6.out⟩ ?a1 ?hassign ?hbody ?hdone ?hstop
    case hI =>
      rintro pre W W' row ⟨h1, h2⟩ hg hr
      exact ⟨h1.keptN hg (fun r e => ⟨Nat.le_trans HS6.out.gb.size (hr r e).1, (hr r e).2⟩) HMP.out, h2.keptN hg (fun r e => (hr r e).2)⟩
    case hassign =>
      intro l x W K hK
      gi_wp2_with fail
      exact hK
    case hbody =>
      rintro l pre x W hpre ⟨h1, h2⟩
      obtain ⟨bp, hbp⟩ : ∃ y, pre.foldl (fun b a => min b (1 + fwN r (Mom.wi ⟨D, day, de⟩ a))) bs = y := ⟨_, rfl⟩
      rw [hbp] at h2
      have HBP := hide hbp
      have hmem : x ∈ elS (neS r ⟨D, day, de⟩) := by
        obtain ⟨t, ht⟩ := hpre
        rw [← ht]
        simp
      have hbr := (neS_mem h10).1 hmem
      have hx16 : x < 16 := by have := (br_undone hbr).1; omega
      have hmw := me_wi (m := ⟨D, day, de⟩) hbr
      have HMO := hide (HM.out.wi HR.out hbr)
      have HME : Hid (meN r (Mom.wi ⟨D, day, de⟩ x) < k) := hide (by have := HK.out; omega)
      obtain ⟨nx, hnx⟩ : ∃ y, fwN r (Mom.wi ⟨D, day, de⟩ x) = y := ⟨_, rfl⟩
      have hn11 : nx ≤ 11 := by rw [← hnx]; exact fwN_le r _
      have HNX2 := hide hnx
      have HKF : Hid (KeepsFrom w6.heap.size W W.drew) := hide ((KeepsOthers.drew W).from _)
      have S1 := hide (h1.ext (Below.refl W.heap.size W).drew)
      have B1 := hide (h2.ext (Below.refl W.heap.size W).drew)
      clear hbp hmem hbr hmw hnx h1 h2 hpre hst
      have hw1 : IntKind.i64.wrap (1 + (nx : Int)) = ((1 + nx : Nat) : Int) := by rw [IntWalk.i64_in _ (by omega)]; omega
      gi_wp2_with fail
      refine wpIn_only ?_
      refine wpIn_region_J (fun W : World => (W.cell? ⟨g, 0, none⟩ = some (.pointer (some ⟨fb, 0, none⟩)) ∧ (W.cell? ⟨g + 1, 0, none⟩ = some (.int .u16 (D : Nat)) ∧ W.cell? ⟨g + 1, 1, none⟩ = some (.int .i64 day) ∧ W.cell? ⟨g + 1, 2, none⟩ = some (.int .i64 de)) ∧ (W.cell? ⟨fb, 0, none⟩ = some (.pointer (some ⟨b, 0, none⟩)) ∧ W.cell? ⟨fb, 1, none⟩ = some (.map (some mp))) ∧ W.cell? ⟨b, 1, none⟩ = some (.int .i64 la)) ∧ W.cell? ⟨h7, 0, none⟩ = some (.int .i64 (bp : Nat))) (by kernel_rfl) ?_
      generalize W.drew = w7 at HKF S1 B1 ⊢
      refine tk_start [0, 1, 2, 3] ?_
      iterate 4
        refine tk_one (v := ?_) (by first | exact hF | exact wideFn) ⟨HSA.out _ S1.out, (blk1 B1.out).2.1⟩ rfl (by kernel_rfl) (by kernel_rfl) (by kernel_rfl) (by kernel_rfl) rfl ?_ (by first | exact fun _ _ _ h => h | exact fun _ _ _ h => hQ2 _ _ _ _ _ h) ?_
        rotate_left
        · intro W hSW
          simp only [glA, glB, glC]
          (try dsimp only at hSW)
          go_simp
          with_reducible rfl
        (try simp only [glA, glB, glC, Act.put, glD, glE, glF])
      refine tk_end ?_
      refine wpAnyJ_one 4 rfl (by kernel_rfl) (fun K hK => ?_)
      simp only [glA, glB, glC]
      go_simp
      (with_reducible refine ((CallsIn.inRound l (hwd (HWI.out x hx16 w7)))).mono ?_)
      rintro e w8 ⟨rfl, h8⟩
      have S2 := hide (S1.out.ext h8); have B2 := hide (B1.out.ext h8)
      dsimp only
      refine hK.out _ _ (fun _ => ⟨HSA.out _ S2.out, (blk1 B2.out).2.1⟩) ?_
      clear hK K
      (try simp only [glA, glB, glC, Act.put, glD, glE, glF])
      refine wpAnyJ_one 5 rfl (by kernel_rfl) (fun K hK => ?_)
      have HI := hide (HIH.out (Mom.wi ⟨D, day, de⟩ x) w8 HME.out HMO.out (HF0.out.turn S2.out.gb S2.out.fm))
      simp only [glA, glB, glC]
      go_simp
      (with_reducible refine ((CallsIn.inRound l (hwd HI.out))).mono ?_)
      rintro e w9 ⟨rfl, h9, g9⟩
      have S3 := hide (S2.out.turn g9 h9.fm); have B3 := hide ((KC.map S2.out.fm g9).blk B2.out)
      dsimp only
      refine hK.out _ _ (fun _ => ⟨HSA.out _ S3.out, (blk1 B3.out).2.1⟩) ?_
      clear hK K
      (try simp only [glA, glB, glC, Act.put, glD, glE, glF])
      rw [HNX2.out]
      refine wpAnyJ_take 6 (v := ?_) (by first | exact hF | exact wideFn) ⟨HSA.out _ S3.out, (blk1 B3.out).2.1⟩ rfl (by kernel_rfl) (by kernel_rfl) (by kernel_rfl) (by kernel_rfl) rfl ?_ (by first | exact fun _ _ _ h => h | exact fun _ _ _ h => hQ2 _ _ _ _ _ h) ?_
      rotate_left
      · intro W hSW
        simp only [glA, glB, glC]
        (try dsimp only at hSW)
        go_simp
        with_reducible rfl
      (try simp only [glA, glB, glC, Act.put, glD, glE, glF])
      refine wpAnyJ_take 7 (v := ?_) (by first | exact hF | exact wideFn) ⟨HSA.out _ S3.out, (blk1 B3.out).2.1⟩ rfl (by kernel_rfl) (by kernel_rfl) (by kernel_rfl) (by kernel_rfl) rfl ?_ (by first | exact fun _ _ _ h => h | exact fun _ _ _ h => hQ2 _ _ _ _ _ h) ?_
      rotate_left
      · intro W hSW
        simp only [glA, glB, glC]
        (try dsimp only at hSW)
        go_simp
        with_reducible rfl
      (try simp only [glA, glB, glC, Act.put, glD, glE, glF])
      obtain ⟨f1, c1, c2⟩ := blk1 B3.out
      refine wpAnyJ_one 8 rfl (by kernel_rfl) (fun K hK => ?_)
      simp only [glA, glB, glC]
      go_simp
      refine hK.out _ _ (fun h => absurd h (by rw [show lastOp _ _ _ = true from by kernel_rfl]; simp)) ?_
      clear hK K
      (try simp only [glA, glB, glC, Act.put, glD, glE, glF])
      refine wpAnyJ_done (by kernel_rfl) ?_
      dsimp only [OnlyNormal]
      rw [show min (bp : Int) (1 + (nx : Int)) = ((min bp (1 + nx) : Nat) : Int) by omega]
      have hkeep : KeepsFrom w6.heap.size W (w9.setCell ⟨h7, 0, none⟩ (.int .i64 (min bp (1 + nx) : Nat))) :=
        ((HKF.out.trans ((keepsO h8).from _)).trans (KeepsFrom.of_grownBy g9 (fun j e => by injection e with e; have := HS6.out.fm.lt; omega))).trans ((KeepsOthers.setCell w9 _ _).from _)
      refine ⟨hkeep, trivial, S3.out.set HLO.out.1 HMP.out (by have := HLO.out.2; omega) (by have := HLO.out.2; omega) _, ?_⟩
      rw [List.foldl_append, HBP.out]
      show Blk _ h7 3 #[.int .i64 (min bp (1 + fwN r (Mom.wi ⟨D, day, de⟩ x)) : Nat)]
      rw [HNX2.out]
      simpa using B3.out.set_ 0 (.int .i64 (min bp (1 + nx) : Nat))
    case hdone =>
      rintro Dm W hD ⟨h1, h2⟩ hK
      rw [← HEQ.out] at h2
      dsimp only
      gi_wp2_with fail
      have hKd : W.drew.heap[Dm]? = some (.deferred (some [])) := hK
      have HKD := hide hKd
      have S1 := hide (h1.ext (Below.refl W.heap.size W).drew)
      have B1 := hide (h2.ext (Below.refl W.heap.size W).drew)
      obtain ⟨w9, hrun, hf9, hg9⟩ := HPU.out _ S1.out.fm
      have HRUN := hide hrun
      have S2 := hide (S1.out.turn hg9 hf9)
      have B2 := hide ((KC.map S1.out.fm hg9).blk B1.out)
      have HK9 : Hid (w9.heap[Dm]? = some (.deferred (some []))) := hide ((hg9.block Dm (Array.getElem?_eq_some_iff.1 hKd).1 (fun e => by injection e with e; have := HS6.out.fm.lt; omega)).trans hKd)
      clear h1 h2 hK hKd hrun hf9 hg9 hst
      refine wpIn_only ?_
      refine wpIn_region_J (fun W : World => (W.cell? ⟨g, 0, none⟩ = some (.pointer (some ⟨fb, 0, none⟩)) ∧ (W.cell? ⟨g + 1, 0, none⟩ = some (.int .u16 (D : Nat)) ∧ W.cell? ⟨g + 1, 1, none⟩ = some (.int .i64 day) ∧ W.cell? ⟨g + 1, 2, none⟩ = some (.int .i64 de)) ∧ (W.cell? ⟨fb, 0, none⟩ = some (.pointer (some ⟨b, 0, none⟩)) ∧ W.cell? ⟨fb, 1, none⟩ = some (.map (some mp))) ∧ W.cell? ⟨b, 1, none⟩ = some (.int .i64 la)) ∧ W.cell? ⟨h7, 0, none⟩ = some (.int .i64 (v : Nat))) (by kernel_rfl) ?_
      generalize W.drew = wd at HRUN S1 B1 HKD ⊢
      refine tk_start [0, 1, 2, 3, 4, 5] ?_
      iterate 6
        refine tk_one (v := ?_) (by first | exact hF | exact wideFn) ⟨HSA.out _ S1.out, (blk1 B1.out).2.1⟩ rfl (by kernel_rfl) (by kernel_rfl) (by kernel_rfl) (by kernel_rfl) rfl ?_ (by first | exact fun _ _ _ h => h | exact fun _ _ _ h => hQ2 _ _ _ _ _ h) ?_
        rotate_left
        · intro W hSW
          simp only [glA, glB, glC]
          (try dsimp only at hSW)
          go_simp
          with_reducible rfl
        (try simp only [glA, glB, glC, Act.put, glD, glE, glF])
      refine tk_end ?_
      have hrun := HRUN.out
      refine wpAnyJ_one 6 rfl (by kernel_rfl) (fun K hK => ?_)
      simp only [glA, glB, glC]
      go_simp
      refine hK.out _ _ (fun h => absurd h (by rw [show lastOp _ _ _ = true from by kernel_rfl]; simp)) ?_
      clear hK K
      (try simp only [glA, glB, glC, Act.put, glD, glE, glF])
      refine wpAnyJ_done (by kernel_rfl) ?_
      dsimp only [OnlyNormal]
      obtain ⟨f1, c1, c2⟩ := blk1 B2.out
      gi_wp2_with fail
      refine ⟨by simp, .inl ⟨_, _, rfl, run_takeDeferred HK9.out, ?_⟩⟩
      have hgp := grownBy_putObj' w9 Dm (.deferred none)
      have hDw : w.heap.size ≤ Dm := Nat.le_trans HS6.out.gb.size hD
      have S5 := hide (S2.out.keptN hgp (fun r e => by cases e; exact ⟨hDw, _, HK9.out, rfl⟩) HMP.out)
      refine ⟨.int .i64 v, by simp [results, Tryd.results60, go_sem], ?_⟩
      exact ⟨rfl, HF0.out.turn S5.out.gb S5.out.fm, S5.out.gb⟩
    case hstop =>
      rintro Dm c pre W hD hSp h hK
      exact h.elim
  refine tk_start [0, 1, 2, 3, 4, 5, 6, 7, 8, 9, 10] ?_
  iterate 11
    refine tk_one (v := ?_) (by first | exact hF | exact wideFn) (HSA.out _ HS2.out) rfl (by kernel_rfl) (by kernel_rfl) (by kernel_rfl) (by kernel_rfl) rfl ?_ (by first | exact fun _ _ _ h => h | exact fun _ _ _ h => hQ2 _ _ _ _ _ h) ?_
    rotate_left
    · intro W hSW
      simp only [glA, glB, glC]
      (try dsimp only at hSW)
      go_simp
      with_reducible rfl
    (try simp only [glA, glB, glC, Act.put, glD, glE, glF])
  refine tk_end ?_
  refine wpAnyJ_done (by kernel_rfl) ?_
  dsimp only [OnlyNormal]
  by_cases hlt : day < la
  · have hst : IntKind.i64.wrap (day + 1) = day + 1 := IntWalk.i64_in _ (by omega)
    gi_wp2_with fail
    have HD := hide (Below.refl w4.heap.size w4).drew
    replace HS2 := hide (HS2.out.ext HD.out)
    replace K7 := hide (K7.out.ext HD.out)
    clear HD
    refine wpIn_only ?_
    refine wpIn_region_J (fun W : World => (W.cell? ⟨g, 0, none⟩ = some (.pointer (some ⟨fb, 0, none⟩)) ∧ (W.cell? ⟨g + 1, 0, none⟩ = some (.int .u16 (D : Nat)) ∧ W.cell? ⟨g + 1, 1, none⟩ = some (.int .i64 day) ∧ W.cell? ⟨g + 1, 2, none⟩ = some (.int .i64 de)) ∧ (W.cell? ⟨fb, 0, none⟩ = some (.pointer (some ⟨b, 0, none⟩)) ∧ W.cell? ⟨fb, 1, none⟩ = some (.map (some mp))) ∧ W.cell? ⟨b, 1, none⟩ = some (.int .i64 la))) (by kernel_rfl) ?_
    generalize w4.drew = w5 at HS2 K7 ⊢
    refine tk_start [0, 1, 2, 3, 4] ?_
    iterate 5
      refine tk_one (v := ?_) (by first | exact hF | exact wideFn) (HSA.out _ HS2.out) rfl (by kernel_rfl) (by kernel_rfl) (by kernel_rfl) (by kernel_rfl) rfl ?_ (by first | exact fun _ _ _ h => h | exact fun _ _ _ h => hQ2 _ _ _ _ _ h) ?_
      rotate_left
      · intro W hSW
        simp only [glA, glB, glC]
        (try dsimp only at hSW)
        go_simp
        with_reducible rfl
      (try simp only [glA, glB, glC, Act.put, glD, glE, glF])
    refine tk_end ?_
    refine wpAnyJ_one 5 rfl (by kernel_rfl) (fun K hK => ?_)
    simp only [glA, glB, glC]
    go_simp
    (with_reducible refine ((hwd (HON.out w5))).mono ?_)
    rintro e w6 ⟨rfl, h6⟩
    have HS6 := hide (HS2.out.ext h6); have K6 := hide (K7.out.ext h6)
    dsimp only
    refine hK.out _ _ (fun _ => HSA.out _ HS6.out) ?_
    clear hK K
    (try simp only [glA, glB, glC, Act.put, glD, glE, glF])
    refine wpAnyJ_one 6 rfl (by kernel_rfl) (fun K hK => ?_)
    have HI := hide (HIH.out (Mom.on ⟨D, day, de⟩ (day + 1)) w6 (by have h := me_on (r := r) (m := ⟨D, day, de⟩) (by show day < r.last; rw [HLA.out]; exact hlt); have := HK.out; dsimp only at h; omega) (HM.out.on HR.out (by omega) (by rw [HLA.out]; omega)) (HF0.out.turn HS6.out.gb HS6.out.fm))
    simp only [glA, glB, glC]
    go_simp
    (with_reducible refine ((hwd HI.out)).mono ?_)
    rintro e w8 ⟨rfl, h8, g8⟩
    have HS8 := hide (HS6.out.turn g8 h8.fm); have K8 := hide ((KC.map HS6.out.fm g8).blk K6.out)
    dsimp only
    refine hK.out _ _ (fun _ => HSA.out _ HS8.out) ?_
    clear hK K
    (try simp only [glA, glB, glC, Act.put, glD, glE, glF])
    have hb : fwN r (Mom.on ⟨D, day, de⟩ (day + 1)) = bs := by rw [← HBS.out, if_pos hlt]
    rw [hb]
    obtain ⟨f1, c1, c2⟩ := blk1 K8.out
    refine wpAnyJ_one 7 rfl (by kernel_rfl) (fun K hK => ?_)
    simp only [glA, glB, glC]
    go_simp
    refine hK.out _ _ (fun h => absurd h (by rw [show lastOp _ _ _ = true from by kernel_rfl]; simp)) ?_
    clear hK K
    (try simp only [glA, glB, glC, Act.put, glD, glE, glF])
    refine wpAnyJ_done (by kernel_rfl) ?_
    dsimp only [OnlyNormal]
    exact REST.out _ _ _ _ _ _ _ _ _ (HS8.out.set HLO.out.1 HMP.out (by have := HLO.out.2; omega) (by have := HLO.out.2; omega) _) (by simpa using K8.out.set_ 0 (.int .i64 (bs : Nat)))
  · gi_wp2_with fail
    have hb : bs = 11 := by rw [← HBS.out, if_neg (by omega)]
    subst hb
    exact REST.out _ _ _ _ _ _ _ _ _ HS2.out K7.out
end Go.Proofs.YtagjeeimglecnaaDoor
/- Rite: the closure of repair, and IndexFunc with a closure that writes. -/
namespace Go.Proofs.YtagjeeimglecnaaDoor
open List renaming getElem_toArray → glA, getElem_cons_zero → glB, getElem_cons_succ → glC, setIfInBounds_toArray → glD, set_cons_zero → glE, set_cons_succ → glF
open Go Go.RowKit Go.Shelf
set_option maxHeartbeats 8000000
set_option maxRecDepth 100000
/-- a search with a closure that writes -/
theorem idxJ_any (g : FuncId) (lb : Array Value) (p : Nat → Bool) (A : Option Addr) (n c : Nat) (u : Nat → Value) (J : World → Prop) (w : World) (hn : n ≤ 1000000) (h0 : J w) (hR : ∀ W, J W → ER W W.heap.size 1 A n fun k _ => u k)
    (eg : ∀ args w, (callFunc g args).run Tryd.prog w = .ok (.enter g args) w)
    (hp : ∀ W k, k < n → J W → Calls Tryd.prog g (#[u k] ++ lb) W fun e W' => e = .returned (.bool (p k)) ∧ J W') :
    Calls Tryd.prog 61 #[.slice A n c, .func (.func g) #[] lb] w fun e w' => ∃ iv : Int, e = .returned (.int .i64 iv) ∧ ((∃ i : Nat, iv = i ∧ i < n ∧ p i = true ∧ ∀ j, j < i → p j = false) ∨ (iv = -1 ∧ ∀ j, j < n → p j = false)) ∧ J w' := by
  have HP := hide hp
  have HJ0 := hide h0
  have HR := hide hR
  clear hp h0 hR
  go_enter Tryd.func61, Tryd.ntmps61
  go_wp2_with fail
  go_loopw [8] (fun i wr => ∃ k : Nat, k ≤ n ∧ i = .int .i64 k ∧ Hid (∀ j, j < k → p j = false) ∧ Hid (J wr)) (fun i _ => n - (intOf i).toNat)
  case atStart => exact ⟨0, Nat.zero_le _, rfl, hide (fun j hj => by omega), HJ0⟩
  case round =>
    obtain ⟨k, hk, rfl, HX, HB⟩ := hrel
    have hst : k < n → IntKind.i64.wrap ((k : Int) + 1) = ((k + 1 : Nat) : Int) := fun _ => by rw [IntWalk.i64_in _ (by omega)]; omega
    by_cases hlt : k < n
    · have hlt' : (k : Int) < (n : Int) := by omega
      replace hst := hst hlt
      obtain ⟨b, off, rfl, hb, hc⟩ := VR1.at_ (HR.out wr HB.out) hlt
      have H := HP.out wr k hlt HB.out
      cases hpk : p k with
      | true =>
        rw [hpk] at H
        have H' := hide H
        have HPK := hide hpk
        clear H hpk
        go_wp2_with ((with_reducible refine H'.out.mono ?_); rintro e w' ⟨rfl, hb1⟩)
        go_ret
        exact ⟨_, rfl, .inl ⟨k, rfl, hlt, HPK.out, HX.out⟩, hb1⟩
      | false =>
        rw [hpk] at H
        have H' := hide H
        have HPK := hide hpk
        clear H hpk
        go_wp2_with ((with_reducible refine H'.out.mono ?_); rintro e w' ⟨rfl, hb1⟩)
        go_roundw
        case rel => exact ⟨k + 1, by omega, by go_num, hide (fun j hj => by rcases Nat.lt_or_ge j k with h | h; exact HX.out j h; rw [show j = k by omega]; exact HPK.out), hide hb1⟩
        case measure => simp [intOf]; omega
    · obtain rfl : n = k := by omega
      have hnl : ¬ (n : Int) < (n : Int) := by omega
      go_wp2_with fail
      go_ret
      exact ⟨_, rfl, .inr ⟨rfl, HX.out⟩, HB.out⟩
/-- the closure: whether a deed leaves one less -/
theorem rep1_any (fb b mp : Nat) (d : Rad) (q : Bad) (r : Rit) (hr : RiOk r) (m : Mom) (hm : MoOk r m) (g h6 left x : Nat) (w : World) (hl : 0 < left) (hl2 : left ≤ 1000) (hx : x ∈ elS (neS r m)) (hF : FwR w fb b mp d q r)
    (k2 : Blk w g 124 #[.pointer (some ⟨fb, 0, none⟩)]) (k3 : Blk w (g + 1) 88 #[.int .u16 (m.d : Nat), .int .i64 m.day, .int .i64 m.de]) (k6 : Blk w h6 3 #[.int .i64 (left : Nat)]) :
    Calls Tryd.prog 64 #[.int .i64 x, .pointer (some ⟨g, 0, none⟩), .pointer (some ⟨g + 1, 0, none⟩), .pointer (some ⟨h6, 0, none⟩)] w fun e w' => e = .returned (.bool (decide (fwN r (m.wi x) = left - 1))) ∧ FwR w' fb b mp d q r ∧ w.grownBy w' (some mp) := by
  have h10 : r.n ≤ 16 := by have := hr.n10; omega
  have hbr := (neS_mem h10).1 hx
  have hx16 : x < 16 := by have := (br_undone hbr).1; have := hr.n10; omega
  have HIH := hide (fun W (h : FwR W fb b mp d q r) => few_any fb b mp d q r hr (meN r (m.wi x) + 1) (m.wi x) W (Nat.lt_succ_self _) (hm.wi hr hbr) h)
  have HWI := hide (fun W => with_any m x W hm.d hx16 hm.e0 (by have h1 := hm.e1; have h2 := hr.t4; omega))
  obtain ⟨D, day, de⟩ := m
  replace HWI : Hid (∀ W, Calls Tryd.prog 50 #[.agg #[.int .u16 (D : Nat), .int .i64 day, .int .i64 de], .int .i64 x] W fun e w' => e = .returned (momV (Mom.wi ⟨D, day, de⟩ x)) ∧ Below W.heap.size W w') := HWI
  dsimp only at k3
  obtain ⟨nx, hnx⟩ : ∃ y, fwN r (Mom.wi ⟨D, day, de⟩ x) = y := ⟨_, rfl⟩
  have HNX := hide hnx
  rw [hnx]
  have HF0 := hide hF
  have K2 := hide k2
  have K3 := hide k3
  have K6 := hide k6
  have hw1 : IntKind.i64.wrap ((left : Int) - 1) = ((left - 1 : Nat) : Int) := by rw [IntWalk.i64_in _ (by omega)]; omega
  have hdec : (((nx : Int) == ((left - 1 : Nat) : Int)) : Bool) = decide (nx = left - 1) := by
    rw [Bool.eq_iff_iff, beq_iff_eq, decide_eq_true_iff]
    omega
  obtain ⟨l1, hl1⟩ : ∃ y, left - 1 = y := ⟨_, rfl⟩
  rw [hl1] at hw1 hdec ⊢
  obtain ⟨bb, hbb⟩ : ∃ y, decide (nx = l1) = y := ⟨_, rfl⟩
  rw [hbb] at hdec ⊢
  clear hx hbr hF k2 k3 k6 hnx hm hr hbb
  have HSA : Hid (∀ W, w.grownBy W (some mp) → (W.cell? ⟨g, 0, none⟩ = some (.pointer (some ⟨fb, 0, none⟩)) ∧ (W.cell? ⟨g + 1, 0, none⟩ = some (.int .u16 (D : Nat)) ∧ W.cell? ⟨g + 1, 1, none⟩ = some (.int .i64 day) ∧ W.cell? ⟨g + 1, 2, none⟩ = some (.int .i64 de)) ∧ W.cell? ⟨h6, 0, none⟩ = some (.int .i64 (left : Nat)))) := hide fun W h => by
    have k := KC.map HF0.out.fm h
    obtain ⟨-, x0, -⟩ := blk1 (k.blk K2.out)
    obtain ⟨-, y0, y1, y2, -⟩ := blk3 (k.blk K3.out)
    obtain ⟨-, z0, -⟩ := blk1 (k.blk K6.out)
    exact ⟨x0, ⟨y0, y1, y2⟩, z0⟩
  go_enter Tryd.func64, Tryd.ntmps64
  go_upto_region 1 with fail
  have G1 := hide (gr_below (Below.refl w.heap.size w).drew mp)
  have F1 := hide (HF0.out.ext (Below.refl w.heap.size w).drew)
  refine wp_region_J (fun W : World => (W.cell? ⟨g, 0, none⟩ = some (.pointer (some ⟨fb, 0, none⟩)) ∧ (W.cell? ⟨g + 1, 0, none⟩ = some (.int .u16 (D : Nat)) ∧ W.cell? ⟨g + 1, 1, none⟩ = some (.int .i64 day) ∧ W.cell? ⟨g + 1, 2, none⟩ = some (.int .i64 de)) ∧ W.cell? ⟨h6, 0, none⟩ = some (.int .i64 (left : Nat)))) (by kernel_rfl) ?_
  generalize w.drew = wd at G1 F1 ⊢
  refine tk_start [0, 1, 2, 5, 6] ?_
  iterate 5
    refine tk_one (v := ?_) (by first | exact hF | exact wideFn) (HSA.out _ G1.out) rfl (by kernel_rfl) (by kernel_rfl) (by kernel_rfl) (by kernel_rfl) rfl ?_ (by first | exact fun _ _ _ h => h | exact fun _ _ _ h => hQ2 _ _ _ _ _ h) ?_
    rotate_left
    · intro W hSW
      simp only [glA, glB, glC]
      (try dsimp only at hSW)
      go_simp
      with_reducible rfl
    (try simp only [glA, glB, glC, Act.put, glD, glE, glF])
  refine tk_end ?_
  refine wpAnyJ_one 3 rfl (by kernel_rfl) (fun K hK => ?_)
  simp only [glA, glB, glC]
  go_simp
  refine ⟨trivial, rfl, ?_⟩
  refine (callsIn_wide.2 (HWI.out wd)).mono ?_
  rintro e w2 ⟨rfl, h2⟩
  have G2 := hide (gr_trans G1.out (gr_below h2 mp)); have F2 := hide (F1.out.ext h2)
  dsimp only
  refine hK.out _ _ (fun _ => HSA.out _ G2.out) ?_
  clear hK K
  (try simp only [glA, glB, glC, Act.put, glD, glE, glF])
  refine wpAnyJ_one 4 rfl (by kernel_rfl) (fun K hK => ?_)
  simp only [glA, glB, glC]
  go_simp
  refine ⟨trivial, rfl, ?_⟩
  refine (callsIn_wide.2 (HIH.out w2 F2.out)).mono ?_
  rintro e w3 ⟨rfl, h3, g3⟩
  have G3 := hide (gr_trans G2.out g3)
  dsimp only
  refine hK.out _ _ (fun _ => HSA.out _ G3.out) ?_
  clear hK K
  (try simp only [glA, glB, glC, Act.put, glD, glE, glF])
  rw [HNX.out]
  refine wpAnyJ_take 7 (v := ?_) (by first | exact hF | exact wideFn) (HSA.out _ G3.out) rfl (by kernel_rfl) (by kernel_rfl) (by kernel_rfl) (by kernel_rfl) rfl ?_ (by first | exact fun _ _ _ h => h | exact fun _ _ _ h => hQ2 _ _ _ _ _ h) ?_
  rotate_left
  · intro W hSW
    simp only [glA, glB, glC]
    (try dsimp only at hSW)
    go_simp
    with_reducible rfl
  (try simp only [glA, glB, glC, Act.put, glD, glE, glF])
  refine wpAnyJ_take 8 (v := ?_) (by first | exact hF | exact wideFn) (HSA.out _ G3.out) rfl (by kernel_rfl) (by kernel_rfl) (by kernel_rfl) (by kernel_rfl) rfl ?_ (by first | exact fun _ _ _ h => h | exact fun _ _ _ h => hQ2 _ _ _ _ _ h) ?_
  rotate_left
  · intro W hSW
    simp only [glA, glB, glC]
    (try dsimp only at hSW)
    go_simp
    with_reducible rfl
  (try simp only [glA, glB, glC, Act.put, glD, glE, glF])
  refine wpAnyJ_done (by kernel_rfl) ?_
  go_wp2_with fail
  go_ret
  exact ⟨rfl, h3, G3.out⟩
end Go.Proofs.YtagjeeimglecnaaDoor
/- Rite: repair, walked. -/
namespace Go.Proofs.YtagjeeimglecnaaDoor
open List renaming getElem_toArray → glA, getElem_cons_zero → glB, getElem_cons_succ → glC, setIfInBounds_toArray → glD, set_cons_zero → glE, set_cons_succ → glF
open Go Go.RowKit Go.Shelf
set_option maxHeartbeats 8000000
set_option maxRecDepth 100000
theorem info_deed : (Tryd.prog.info? 38).map (fun i => (i.zero, i.size, i.bytes)) = some (some (.agg #[.int .i64 0, .int .i64 0]), 2, 16) := by kernel_rfl
def ddC (t : Int × Int) : List Value := [.int .i64 t.1, .int .i64 t.2]
def cellsD (l : List (Int × Int)) : List Value := l.flatMap ddC
theorem cellsD_append (l m : List (Int × Int)) : cellsD (l ++ m) = cellsD l ++ cellsD m := by simp [cellsD, List.flatMap_append]
theorem cellsD_len (l : List (Int × Int)) : (cellsD l).length = l.length * 2 := by
  induction l with
  | nil => rfl
  | cons x l ih => show (ddC x ++ cellsD l).length = _; rw [List.length_append, ih, List.length_cons]; show 2 + _ = _; omega
theorem cellsD_one (l : List (Int × Int)) : ∀ u ∈ cellsD l, u.oneCell' = true := by
  intro u hu
  unfold cellsD at hu
  obtain ⟨e, -, he⟩ := List.mem_flatMap.1 hu
  simp only [ddC, List.mem_cons, List.not_mem_nil, or_false] at he
  rcases he with rfl | rfl <;> rfl
theorem cellsD_at : ∀ (l : List (Int × Int)) (k i : Nat), k < l.length → i < 2 → (cellsD l)[k * 2 + i]? = some (dsV (l.getD k (0, 0)) i)
  | [], _, _, h, _ => absurd h (by simp)
  | x :: l, 0, i, _, hi => by
    show (ddC x ++ cellsD l)[0 * 2 + i]? = _
    match i, hi with
    | 0, _ => rfl
    | 1, _ => rfl
  | x :: l, k + 1, i, h, hi => by
    show (ddC x ++ cellsD l)[(k + 1) * 2 + i]? = _
    rw [List.getElem?_append_right (by show 2 ≤ _; omega), show (k + 1) * 2 + i - (ddC x).length = k * 2 + i by show _ - 2 = _; omega, cellsD_at l k i (by simpa using h) hi]
    rfl
/-- an own list of deeds -/
def OwnD (W : World) (n0 : Nat) (v : Value) (l : List (Int × Int)) : Prop := W.ownsRow n0 38 2 v l.length (cellsD l)
theorem OwnD.nil (W : World) (n0 : Nat) : OwnD W n0 (.slice none 0 0) [] := ⟨rfl, .inl ⟨rfl, rfl⟩⟩
theorem OwnD.ext {W W' : World} {n0 : Nat} {v : Value} {l : List (Int × Int)} (h : OwnD W n0 v l) (hb : Below W.heap.size W W') : OwnD W' n0 v l := ownBelow h hb
theorem cell_two_new (w : World) (a b : Value) (t : TypeId) : ∀ (j : Nat) (u : Value), [a, b][j]? = some u → (w.alloc (.cells #[a, b] t)).cell? ((⟨w.heap.size, 0, none⟩ : Addr).add j) = some u := by
  intro j u h
  have hB := Blk.new w t #[a, b]
  match j, h with
  | 0, h => simpa [Addr.add] using (show (w.alloc (.cells #[a, b] t)).cell? ⟨w.heap.size, 0, none⟩ = some u by rw [hB.cell]; simpa using h)
  | 1, h => simpa [Addr.add] using (show (w.alloc (.cells #[a, b] t)).cell? ⟨w.heap.size, 1, none⟩ = some u by rw [hB.cell]; simpa using h)
  | j + 2, h => simp at h
/-- a deed is appended -/
theorem OwnD.push {W : World} {base : Nat} {v : Value} {l : List (Int × Int)} (h : OwnD W base v l) (t : Int × Int) (hl : l.length ≤ 1000000) (hb : base ≤ W.heap.size) :
    ∃ A c w', (Builtin.append_ #[24, 24] 24 #[v, .slice (some ⟨W.heap.size, 0, none⟩) 1 1]).run Tryd.prog (W.alloc (.cells #[.int .i64 t.1, .int .i64 t.2] 38)) = .ok (.slice A (l.length + 1) c) w' ∧
      OwnD w' base (.slice A (l.length + 1) c) (l ++ [t]) ∧ (W.alloc (.cells #[.int .i64 t.1, .int .i64 t.2] 38)).grownBy w' v.ownBlock := by
  obtain ⟨i0, hi, hz0, hz1, hz2⟩ := info_parts info_deed
  obtain ⟨v', w', hr, h2, h3, -⟩ := run_append_own (P := Tryd.prog) (w := W.alloc (.cells #[.int .i64 t.1, .int .i64 t.2] 38)) base 24 24 38 i0 _ 2 16 Tryd.underlying24 hi hz0 hz1 hz2 rfl (by decide) v l.length (cellsD l) (World.ownsRow.alloc h _)
    ⟨W.heap.size, 0, none⟩ 1 1 (ddC t) rfl (cell_two_new _ _ _ _) (by have := cellsD_one [t]; simpa [cellsD] using this) (by unfold maxLen; omega) (by omega) (by simp; omega)
  obtain ⟨A, c, rfl⟩ := own_shape h2
  refine ⟨A, c, w', hr, ?_, h3⟩
  unfold OwnD
  rw [cellsD_append, List.length_append]
  simpa [cellsD] using h2
theorem OwnD.dsr {W : World} {n0 : Nat} {A : Option Addr} {n c : Nat} {l : List (Int × Int)} (h : OwnD W n0 (.slice A n c) l) : n = l.length ∧ DsR W A l := by
  obtain ⟨A', c', e⟩ := own_shape h
  injection e with e1 e2 e3
  subst e2
  refine ⟨rfl, fun hn => ?_⟩
  rcases h.2 with ⟨h1, h2⟩ | ⟨g, cap, cur, h1, h2, h3, h4, h5, h6, h7⟩
  · omega
  · injection h1 with hA
    subst hA
    have hg := (World.ownsRow.lt h g rfl).2
    refine ⟨g, 0, rfl, hg, fun k i hk hi => ?_⟩
    have hc := World.ownsRow.cells h (g := g) rfl (k * 2 + i) _ (cellsD_at l k i hk hi)
    have e1 : ((⟨g, 0, none⟩ : Addr).add (k * 2 + i)) = ⟨g, 0 + k * 2 + i, none⟩ := by simp [Addr.add]; omega
    rw [e1] at hc
    exact hc
/-- what repair keeps, but for its moment and what is left -/
structure RpC (w W : World) (mp : Nat) (r : Rit) (g fb : Nat) (v : Value) (l : List (Int × Int)) : Prop where
  gb : w.grownBy W (some mp)
  fm : FmAt W mp r
  k2 : Blk W g 124 #[.pointer (some ⟨fb, 0, none⟩)]
  ow : OwnD W w.heap.size v l
section
variable {w W W' : World} {mp : Nat} {r : Rit} {g fb : Nat} {v : Value} {l : List (Int × Int)}
theorem RpC.ext (h : RpC w W mp r g fb v l) (hb : Below W.heap.size W W') : RpC w W' mp r g fb v l :=
  ⟨gr_more h.gb (grown_no hb) (fun r e => by cases e), h.fm.ext hb, h.k2.ext hb, h.ow.ext hb⟩
theorem RpC.turn (h : RpC w W mp r g fb v l) (hg : W.grownBy W' (some mp)) (hf : FmAt W' mp r) : RpC w W' mp r g fb v l :=
  ⟨gr_trans h.gb hg, hf, (KC.map h.fm hg).blk h.k2, ownN h.ow hg (fun k e => by obtain ⟨o, h1, h2⟩ := h.fm.map; cases e; exact ⟨o, h1, h2⟩)⟩
theorem RpC.put (h : RpC w W mp r g fb v l) {p : Nat} {t : TypeId} {cs : Array Value} (hB : Blk W p t cs) (ht : 38 ≠ t) (hp : w.heap.size ≤ p) (hm : mp < w.heap.size) (hne : p ≠ g) (hg : W.grownBy W' (some p)) : RpC w W' mp r g fb v l :=
  ⟨gr_more h.gb hg (fun k e => by cases e; exact hp), h.fm.kept hg (fun e => by injection e; omega), h.k2.grown hg (fun e => by injection e with e; exact hne e.symm), World.ownsRow.kept h.ow hg (.inr (own_blk_ne h.ow hB ht))⟩
theorem RpC.push (h : RpC w W mp r g fb v l) (hm : mp < w.heap.size) {v' : Value} {l' : List (Int × Int)} (hg : W.grownBy W' v.ownBlock) (ho : OwnD W' w.heap.size v' l') : RpC w W' mp r g fb v' l' :=
  ⟨gr_more h.gb hg (fun k e => (World.ownsRow.lt h.ow k e).1), h.fm.kept hg (fun e => by have := (World.ownsRow.lt h.ow mp e.symm).1; omega), h.k2.grown hg (fun e => own_blk_ne h.ow h.k2 (by decide) e.symm), ho⟩
end
theorem grown_set3 (W : World) (p : Nat) (a b c : Value) : W.grownBy (((W.setCell ⟨p, 0, none⟩ a).setCell ⟨p, 1, none⟩ b).setCell ⟨p, 2, none⟩ c) (some p) :=
  gr_trans (gr_trans (grownBy_setC W p 0 a) (grownBy_setC _ p 1 b)) (grownBy_setC _ p 2 c)
/-- the moment at p -/
def moRd (p : Nat) (w : World) : Mom := match w.cell? ⟨p, 0, none⟩, w.cell? ⟨p, 1, none⟩, w.cell? ⟨p, 2, none⟩ with
  | some (.int _ a), some (.int _ b), some (.int _ c) => ⟨a.toNat, b, c⟩
  | _, _, _ => m0
theorem moRd_eq {p : Nat} {w : World} {D : Nat} {day de : Int} (h : Blk w p 88 #[.int .u16 (D : Nat), .int .i64 day, .int .i64 de]) : moRd p w = ⟨D, day, de⟩ := by
  obtain ⟨-, h0, h1, h2, -⟩ := blk3 h
  unfold moRd
  rw [h0, h1, h2]
  simp
theorem ofN_getD (L : List Nat) (k : Nat) : (ofN L).getD k 0 = ((L.getD k 0 : Nat) : Int) := by
  unfold ofN
  rw [List.getD_eq_getElem?_getD, List.getD_eq_getElem?_getD, List.getElem?_map]
  cases L[k]? <;> rfl
/-- the search among the deeds that can be done -/
theorem idxR_any (fb b mp : Nat) (d : Rad) (q : Bad) (r : Rit) (hr : RiOk r) (m : Mom) (hm : MoOk r m) (g h6 left : Nat) (L : List Nat) (hLq : ∀ x, x ∈ L → x ∈ elS (neS r m)) (hL16 : L.length ≤ 16) (A : Option Addr) (c n0 : Nat) (w : World) (hl : 0 < left) (hl2 : left ≤ 1000) (hF : FwR w fb b mp d q r) (hLV : OwnJ w n0 (.slice A L.length c) (ofN L))
    (k2 : Blk w g 124 #[.pointer (some ⟨fb, 0, none⟩)]) (k3 : Blk w (g + 1) 88 #[.int .u16 (m.d : Nat), .int .i64 m.day, .int .i64 m.de]) (k6 : Blk w h6 3 #[.int .i64 (left : Nat)]) :
    Calls Tryd.prog 61 #[.slice A L.length c, .func (.func 64) #[] #[.pointer (some ⟨g, 0, none⟩), .pointer (some ⟨g + 1, 0, none⟩), .pointer (some ⟨h6, 0, none⟩)]] w fun e w' => ∃ iv : Int, e = .returned (.int .i64 iv) ∧ ((∃ i : Nat, iv = i ∧ i < L.length ∧ fwN r (m.wi (L.getD i 0)) = left - 1 ∧ L.find? (fun a => decide (fwN r (m.wi a) = left - 1)) = some (L.getD i 0)) ∨ (iv = -1 ∧ L.find? (fun a => decide (fwN r (m.wi a) = left - 1)) = none)) ∧ FwR w' fb b mp d q r ∧ w.grownBy w' (some mp) := by
  have hli := hLV.li.2
  refine (idxJ_any 64 #[.pointer (some ⟨g, 0, none⟩), .pointer (some ⟨g + 1, 0, none⟩), .pointer (some ⟨h6, 0, none⟩)] (fun k => decide (fwN r (m.wi (L.getD k 0)) = left - 1)) A L.length c (fun k => .int .i64 ((L.getD k 0 : Nat) : Int)) (fun W => FwR W fb b mp d q r ∧ w.grownBy W (some mp)) w (by omega) ⟨hF, World.grownBy.refl _ _⟩ ?_ (fun _ _ => rfl) ?_).mono ?_
  · rintro W ⟨h1, h2⟩
    have h3 := (KC.map hF.fm h2).er hli
    rw [show (ofN L).length = L.length from by simp [ofN]] at h3
    intro hm
    obtain ⟨b, off, hA, hlt, hc⟩ := h3 hm
    exact ⟨b, off, hA, hlt, fun k i hk hi => by rw [hc k i hk hi]; dsimp only; rw [ofN_getD]⟩
  · rintro W k hk ⟨h1, h2⟩
    have kc := KC.map hF.fm h2
    have hx : L.getD k 0 ∈ L := by
      rw [List.getD_eq_getElem?_getD, List.getElem?_eq_getElem hk]
      exact List.getElem_mem hk
    refine (rep1_any fb b mp d q r hr m hm g h6 left (L.getD k 0) W hl hl2 (hLq _ hx) h1 (kc.blk k2) (kc.blk k3) (kc.blk k6)).mono ?_
    rintro e w' ⟨rfl, h3, h4⟩
    exact ⟨rfl, h3, gr_trans h2 h4⟩
  · rintro e w' ⟨iv, rfl, hc, hF', hg'⟩
    refine ⟨iv, rfl, ?_, hF', hg'⟩
    rcases hc with ⟨i, rfl, hi, hp, hj⟩ | ⟨rfl, hj⟩
    · have hgi : ∀ j (h : j < L.length), L.getD j 0 = L[j] := fun j h => by rw [List.getD_eq_getElem?_getD, List.getElem?_eq_getElem h]; rfl
      refine .inl ⟨i, rfl, hi, of_decide_eq_true hp, ?_⟩
      rw [List.find?_eq_some_iff_getElem]
      refine ⟨hp, i, hi, (hgi i hi).symm, fun j hji => ?_⟩
      have h := hj j hji
      rw [hgi j (by omega)] at h
      rw [h]
      rfl
    · refine .inr ⟨rfl, List.find?_eq_none.2 fun x hx => ?_⟩
      obtain ⟨j, hj2, rfl⟩ := List.getElem_of_mem hx
      have h := hj j hj2
      rw [List.getD_eq_getElem?_getD, List.getElem?_eq_getElem hj2] at h
      exact Bool.eq_false_iff.1 h
def RepPost (w : World) (fb b mp : Nat) (d : Rad) (q : Bad) (r : Rit) (m : Mom) (e : Ending) (w' : World) : Prop :=
  (fwN r m = 11 ∧ e = .returned (.tuple #[.slice none 0 0, .bool false]) ∨ fwN r m < 11 ∧ ∃ v, e = .returned (.tuple #[v, .bool true]) ∧ OwnD w' w.heap.size v (rpL r m (fwN r m))) ∧ FwR w' fb b mp d q r ∧ w.grownBy w' (some mp)
theorem repair_any (fb b mp : Nat) (d : Rad) (q : Bad) (r : Rit) (hr : RiOk r) (m : Mom) (hm : MoOk r m) (w : World) (hF : FwR w fb b mp d q r) :
    Calls Tryd.prog 41 #[.pointer (some ⟨fb, 0, none⟩), momV m] w (RepPost w fb b mp d q r m) := by
  have h16 : r.n ≤ 16 := by have := hr.n10; omega
  have HR := hide hr
  have HM0 := hide hm
  have HF0 := hide hF
  have HMP := hide hF.fm.lt
  have HFW : Hid (∀ m W, MoOk r m → FwR W fb b mp d q r → Calls Tryd.prog 60 #[.pointer (some ⟨fb, 0, none⟩), momV m] W (FewPost W fb b mp d q r m)) := hide fun m W h1 h2 => few_any fb b mp d q r hr (meN r m + 1) m W (Nat.lt_succ_self _) h1 h2
  obtain ⟨v0, hv0⟩ : ∃ x, fwN r m = x := ⟨_, rfl⟩
  have HV0 := hide hv0
  have hv11 : v0 ≤ 11 := by rw [← hv0]; exact fwN_le r m
  obtain ⟨l0, hl0⟩ : ∃ x, rpL r m v0 = x := ⟨_, rfl⟩
  have HL0 := hide hl0
  unfold RepPost
  rw [hv0, hl0]
  have HFA := hide (HFW.out m)
  obtain ⟨D, day, de⟩ := m
  unfold momV at HFA ⊢
  dsimp only at HFA ⊢
  have HB1 : Hid (Below w.heap.size w ((w.alloc (.cells #[.pointer (some ⟨fb, 0, none⟩)] 124)).alloc (.cells #[.int .u16 (D : Nat), .int .i64 day, .int .i64 de] 88))) := hide (((Below.refl _ _).alloc (Nat.le_refl _) _).alloc (by simp) _)
  have G2 : Hid (Blk ((w.alloc (.cells #[.pointer (some ⟨fb, 0, none⟩)] 124)).alloc (.cells #[.int .u16 (D : Nat), .int .i64 day, .int .i64 de] 88)) w.heap.size 124 #[.pointer (some ⟨fb, 0, none⟩)]) := hide ((Blk.new w _ _).alloc _)
  have G3 : Hid (Blk ((w.alloc (.cells #[.pointer (some ⟨fb, 0, none⟩)] 124)).alloc (.cells #[.int .u16 (D : Nat), .int .i64 day, .int .i64 de] 88)) (w.heap.size + 1) 88 #[.int .u16 (D : Nat), .int .i64 day, .int .i64 de]) := hide (by simpa using Blk.new (w.alloc (.cells #[.pointer (some ⟨fb, 0, none⟩)] 124)) 88 #[.int .u16 (D : Nat), .int .i64 day, .int .i64 de])
  obtain ⟨g, hg⟩ : ∃ x, w.heap.size = x := ⟨_, rfl⟩
  have HG : Hid (w.heap.size = g) := hide hg
  have HS1 : Hid (RpC w ((w.alloc (.cells #[.pointer (some ⟨fb, 0, none⟩)] 124)).alloc (.cells #[.int .u16 (D : Nat), .int .i64 day, .int .i64 de] 88)) mp r g fb (.slice none 0 0) []) := hide ⟨gr_below HB1.out mp, (hF.ext HB1.out).fm, by rw [← hg]; exact G2.out, OwnD.nil _ _⟩
  have K3 : Hid (Blk ((w.alloc (.cells #[.pointer (some ⟨fb, 0, none⟩)] 124)).alloc (.cells #[.int .u16 (D : Nat), .int .i64 day, .int .i64 de] 88)) (g + 1) 88 #[.int .u16 (D : Nat), .int .i64 day, .int .i64 de]) := hide (by rw [← hg]; exact G3.out)
  rw [hg] at HB1
  clear G2 G3 hF hr hm hv0 hl0 HB1
  go_enter Tryd.func41, Tryd.ntmps41
  go_upto_region 1 with fail
  (try simp only [World.size_alloc])
  (try rw [hg])
  clear hg
  generalize ((w.alloc (.cells #[.pointer (some ⟨fb, 0, none⟩)] 124)).alloc (.cells #[.int .u16 (D : Nat), .int .i64 day, .int .i64 de] 88)) = w1 at HS1 K3 ⊢
  obtain ⟨-, x0, -⟩ := blk1 HS1.out.k2
  obtain ⟨-, y0, y1, y2, -⟩ := blk3 K3.out
  go_wp2_with fail
  refine (HFA.out w1 HM0.out (HF0.out.turn HS1.out.gb HS1.out.fm)).mono ?_
  rintro e w2 ⟨rfl, h2, g2⟩
  rw [HV0.out]
  have HS2 := hide (HS1.out.turn g2 h2.fm)
  have K32 := hide ((KC.map HS1.out.fm g2).blk K3.out)
  clear h2 g2 x0 y0 y1 y2 HS1 K3 HFA
  by_cases h11 : v0 = 11
  · have HV11 := hide h11
    rw [h11]
    have hb4 : Below w2.heap.size w2 (w2.alloc (.cells #[.int .i64 11] 3)) := (Below.refl _ _).alloc (Nat.le_refl _) _
    have HS4 := hide (HS2.out.ext hb4)
    have e11 : ((11 : Nat) : Int) = 11 := rfl
    clear hb4 h11
    go_wp2_with fail
    go_ret2
    exact ⟨.inl ⟨HV11.out, rfl⟩, HF0.out.turn HS4.out.gb HS4.out.fm, HS4.out.gb⟩
  have HLT : Hid (v0 < 11) := hide (by omega)
  have hge : ¬ (v0 : Int) ≥ 11 := by omega
  have hb4 : Below w2.heap.size w2 (w2.alloc (.cells #[.int .i64 (v0 : Nat)] 3)) := (Below.refl _ _).alloc (Nat.le_refl _) _
  have HS4 := hide (HS2.out.ext hb4)
  have K34 := hide (K32.out.ext hb4)
  have K6 := hide (Blk.new w2 3 #[.int .i64 (v0 : Nat)])
  have HLO : Hid (w.heap.size ≤ w2.heap.size ∧ g + 1 < w2.heap.size ∧ w.heap.size ≤ g) := hide ⟨HS2.out.gb.size, K32.out.lt, Nat.le_of_eq HG.out⟩
  clear hb4 HS2 K32 h11
  go_wp2_with fail
  generalize w2.alloc (.cells #[.int .i64 (v0 : Nat)] 3) = w4 at HS4 K34 K6 ⊢
  obtain ⟨h6, hh6⟩ : ∃ x, w2.heap.size = x := ⟨_, rfl⟩
  rw [hh6] at K6 HLO ⊢
  clear hh6
  go_loopw [4] (fun s4 wr => ∃ (mD : Nat) (mday mde : Int) (left : Nat) (v : Value) (l : List (Int × Int)), s4 = v ∧ left < 11 ∧ Hid (RpC w wr mp r g fb v l) ∧ Hid (Blk wr (g + 1) 88 #[.int .u16 (mD : Nat), .int .i64 mday, .int .i64 mde]) ∧ Hid (Blk wr h6 3 #[.int .i64 (left : Nat)]) ∧ Hid (MoOk r ⟨mD, mday, mde⟩ ∧ fwN r ⟨mD, mday, mde⟩ = left ∧ l ++ rpL r ⟨mD, mday, mde⟩ left = l0 ∧ l.length + left ≤ 20))
    (fun _ wr => meN r (moRd (g + 1) wr))
  case atStart => exact ⟨D, day, de, v0, _, [], rfl, HLT.out, HS4, K34, K6, hide ⟨HM0.out, HV0.out, HL0.out, by simp; omega⟩⟩
  case round =>
    clear HS4 K34 K6
    obtain ⟨mD, mday, mde, left, v, l, rfl, hleft, HS, K3, K6, HM⟩ := hrel
    have HMD := hide (moRd_eq K3.out)
    obtain ⟨z9, z0, z1⟩ := blk1 K6.out
    rcases Nat.eq_zero_or_pos left with hl0 | hl0
    · subst hl0
      have hng : ¬ ((0 : Nat) : Int) > 0 := by omega
      have HE : Hid (l = l0) := hide (by have h := HM.out.2.2.1; rwa [rp_zero, List.append_nil] at h)
      go_wp2_with fail
      go_ret2
      exact ⟨.inr ⟨HLT.out, _, rfl, by rw [← HE.out]; exact HS.out.ow⟩, HF0.out.turn HS.out.gb HS.out.fm, HS.out.gb⟩
    have hgt : (left : Int) > 0 := by omega
    have HSA : Hid (∀ W v l, RpC w W mp r g fb v l → Blk W (g + 1) 88 #[.int .u16 (mD : Nat), .int .i64 mday, .int .i64 mde] → (W.cell? ⟨g, 0, none⟩ = some (.pointer (some ⟨fb, 0, none⟩)) ∧ W.cell? ⟨fb, 0, none⟩ = some (.pointer (some ⟨b, 0, none⟩)) ∧ (W.cell? ⟨g + 1, 0, none⟩ = some (.int .u16 (mD : Nat)) ∧ W.cell? ⟨g + 1, 1, none⟩ = some (.int .i64 mday) ∧ W.cell? ⟨g + 1, 2, none⟩ = some (.int .i64 mde)))) := hide fun W v l h k => by
      obtain ⟨-, x0, -⟩ := blk1 h.k2
      obtain ⟨-, y0, y1, y2, -⟩ := blk3 k
      exact ⟨x0, (blk2 (HF0.out.turn h.gb h.fm).blk).2.1, y0, y1, y2⟩
    have HNX : Hid (∀ W (h : BkR W b d q r), Calls Tryd.prog 62 #[.pointer (some ⟨b, 0, none⟩), .agg #[.int .u16 (mD : Nat), .int .i64 mday, .int .i64 mde]] W fun e w' => e = .returned (.int .u16 (neS r ⟨mD, mday, mde⟩ : Nat)) ∧ Below W.heap.size W w') := hide fun W h => next_any b d q r ⟨mD, mday, mde⟩ W HR.out HM.out.1.d h
    have HNL : Hid (neS r ⟨mD, mday, mde⟩ < 65536) := hide (lt16 (mkS_lt _ r.n) h16)
    obtain ⟨NS, hNS⟩ : ∃ x, neS r ⟨mD, mday, mde⟩ = x := ⟨_, rfl⟩
    have HNS := hide hNS
    rw [hNS] at HNX HNL
    have HLI := hide (fun W (h : TB W) => list_any NS W HNL.out h)
    clear hNS
    have HQ : Hid (∀ x, x ∈ elS NS → x ∈ elS (neS r ⟨mD, mday, mde⟩)) := hide (by rw [HNS.out]; exact fun _ h => h)
    go_wp2_with fail
    refine wp_region_J (fun W : World => (W.cell? ⟨g, 0, none⟩ = some (.pointer (some ⟨fb, 0, none⟩)) ∧ W.cell? ⟨fb, 0, none⟩ = some (.pointer (some ⟨b, 0, none⟩)) ∧ (W.cell? ⟨g + 1, 0, none⟩ = some (.int .u16 (mD : Nat)) ∧ W.cell? ⟨g + 1, 1, none⟩ = some (.int .i64 mday) ∧ W.cell? ⟨g + 1, 2, none⟩ = some (.int .i64 mde)))) (by kernel_rfl) ?_
    have hbd := (Below.refl wr.heap.size wr).drew
    replace HS := hide (HS.out.ext hbd)
    replace K3 := hide (K3.out.ext hbd)
    replace K6 := hide (K6.out.ext hbd)
    clear hbd
    generalize wr.drew = wd at HS K3 K6 ⊢
    refine tk_start [0, 1, 2, 3, 4, 7] ?_
    iterate 6
      refine tk_one (v := ?_) (by first | exact hF | exact wideFn) (HSA.out _ _ _ HS.out K3.out) rfl (by kernel_rfl) (by kernel_rfl) (by kernel_rfl) (by kernel_rfl) rfl ?_ (by first | exact fun _ _ _ h => h | exact fun _ _ _ h => hQ2 _ _ _ _ _ h) ?_
      rotate_left
      · intro W hSW
        simp only [glA, glB, glC]
        (try dsimp only at hSW)
        go_simp
        with_reducible rfl
      (try simp only [glA, glB, glC, Act.put, glD, glE, glF])
    refine tk_end ?_
    refine wpAnyJ_one 5 rfl (by kernel_rfl) (fun K hK => ?_)
    simp only [glA, glB, glC]
    go_simp
    refine ⟨trivial, rfl, ?_⟩
    refine (callsIn_wide.2 (HNX.out wd (HF0.out.turn HS.out.gb HS.out.fm).bk)).mono ?_
    rintro e w5 ⟨rfl, h5⟩
    have HS5 := hide (HS.out.ext h5); have K35 := hide (K3.out.ext h5); have K65 := hide (K6.out.ext h5)
    dsimp only
    refine hK.out _ _ (fun _ => HSA.out _ _ _ HS5.out K35.out) ?_
    clear hK K
    (try simp only [glA, glB, glC, Act.put, glD, glE, glF])
    refine wpAnyJ_one 6 rfl (by kernel_rfl) (fun K hK => ?_)
    have HL5 := hide (HLI.out w5 (HF0.out.turn HS5.out.gb HS5.out.fm).tb)
    simp only [glA, glB, glC]
    go_simp
    refine ⟨trivial, rfl, ?_⟩
    refine (callsIn_wide.2 HL5.out).mono ?_
    rintro e w6 ⟨LV, rfl, hLV, h6b⟩
    have HS6 := hide (HS5.out.ext h6b); have K36 := hide (K35.out.ext h6b); have K66 := hide (K65.out.ext h6b)
    dsimp only
    refine hK.out _ _ (fun _ => HSA.out _ _ _ HS6.out K36.out) ?_
    clear hK K
    (try simp only [glA, glB, glC, Act.put, glD, glE, glF])
    obtain ⟨LA, LC, rfl⟩ := own_shape hLV
    rw [show (ofN (elS NS)).length = (elS NS).length from by simp [ofN]] at hLV ⊢
    refine wpAnyJ_one 8 rfl (by kernel_rfl) (fun K hK => ?_)
    have HIX := hide (idxR_any fb b mp d q r HR.out ⟨mD, mday, mde⟩ HM.out.1 g h6 left (elS NS) HQ.out (el_len NS) LA LC _ w6 hl0 (by omega) (HF0.out.turn HS6.out.gb HS6.out.fm) hLV HS6.out.k2 K36.out K66.out)
    simp only [glA, glB, glC]
    go_simp
    refine ⟨trivial, rfl, ?_⟩
    refine (callsIn_wide.2 HIX.out).mono ?_
    rintro e w7 ⟨iv, rfl, hiv, hF7, g7⟩
    have HS7 := hide (HS6.out.turn g7 hF7.fm); have K37 := hide ((KC.map HS6.out.fm g7).blk K36.out); have K67 := hide ((KC.map HS6.out.fm g7).blk K66.out)
    dsimp only
    refine hK.out _ _ (fun _ => HSA.out _ _ _ HS7.out K37.out) ?_
    clear hK K
    (try simp only [glA, glB, glC, Act.put, glD, glE, glF])
    refine wpAnyJ_take 9 (v := ?_) (by first | exact hF | exact wideFn) (HSA.out _ _ _ HS7.out K37.out) rfl (by kernel_rfl) (by kernel_rfl) (by kernel_rfl) (by kernel_rfl) rfl ?_ (by first | exact fun _ _ _ h => h | exact fun _ _ _ h => hQ2 _ _ _ _ _ h) ?_
    rotate_left
    · intro W hSW
      simp only [glA, glB, glC]
      (try dsimp only at hSW)
      go_simp
      with_reducible rfl
    (try simp only [glA, glB, glC, Act.put, glD, glE, glF])
    refine wpAnyJ_done (by kernel_rfl) ?_
    clear HIX HL5 hLV h6b h5 hF7 g7 HS5 HS6 K35 K36 K65 K66 HS K3 K6 z9 z0 z1
    have hfs := fw_step h16 HM.out.2.1 hl0 hleft
    rw [HNS.out] at hfs
    rcases hiv with ⟨i, rfl, hi, hnx, hfind⟩ | ⟨rfl, hfind⟩
    · have hil : ¬ ((i : Nat) : Int) < 0 := by omega
      have hil2 : ((i : Nat) : Int) < (((elS NS).length : Nat) : Int) := by omega
      obtain ⟨a, ha⟩ : ∃ x, (elS NS).getD i 0 = x := ⟨_, rfl⟩
      have HA := hide ha
      rw [ha] at hnx hfind
      have hmem : a ∈ elS (neS r ⟨mD, mday, mde⟩) := by rw [HNS.out]; exact List.mem_of_find?_eq_some hfind
      have hbr := (neS_mem h16).1 hmem
      have ha16 : a < 16 := by have := (br_undone hbr).1; omega
      have HRP : Hid (rpL r ⟨mD, mday, mde⟩ left = (mday, (a : Int)) :: rpL r (Mom.wi ⟨mD, mday, mde⟩ a) (left - 1)) := hide (rp_some h16 hl0 (by rw [HNS.out]; exact hfind))
      have HM2 := hide (HM.out.1.wi HR.out hbr)
      have HME : Hid (meN r (Mom.wi ⟨mD, mday, mde⟩ a) < meN r ⟨mD, mday, mde⟩) := hide (by have := me_wi (m := ⟨mD, mday, mde⟩) hbr; omega)
      obtain ⟨⟨oD, oday, ode⟩, hmo⟩ : ∃ x, Mom.wi ⟨mD, mday, mde⟩ a = x := ⟨_, rfl⟩
      have HWI : Hid (∀ W, Calls Tryd.prog 50 #[.agg #[.int .u16 (mD : Nat), .int .i64 mday, .int .i64 mde], .int .i64 a] W fun e w' => e = .returned (.agg #[.int .u16 (oD : Nat), .int .i64 oday, .int .i64 ode]) ∧ Below W.heap.size W w') := hide fun W => by
        have h := with_any ⟨mD, mday, mde⟩ a W HM.out.1.d ha16 HM.out.1.e0 (by have h1 := HM.out.1.e1; have h2 := HR.out.t4; dsimp only at h1 ⊢; omega)
        rw [hmo] at h
        exact h
      rw [hmo] at HM2 HME hnx HRP
      have HNX2 := hide hnx
      have hw1 : IntKind.i64.wrap ((left : Int) - 1) = ((left - 1 : Nat) : Int) := by rw [IntWalk.i64_in _ (by omega)]; omega
      obtain ⟨l1, hl1⟩ : ∃ y, left - 1 = y := ⟨_, rfl⟩
      have HL1 := hide hl1
      rw [hl1] at hw1
      clear hfs hfind hmem hbr hnx hmo ha hl1
      go_upto_region 8 with fail
      refine wp_region_J (fun W : World => (W.cell? ⟨g, 0, none⟩ = some (.pointer (some ⟨fb, 0, none⟩)) ∧ W.cell? ⟨fb, 0, none⟩ = some (.pointer (some ⟨b, 0, none⟩)) ∧ (W.cell? ⟨g + 1, 0, none⟩ = some (.int .u16 (mD : Nat)) ∧ W.cell? ⟨g + 1, 1, none⟩ = some (.int .i64 mday) ∧ W.cell? ⟨g + 1, 2, none⟩ = some (.int .i64 mde)))) (by kernel_rfl) ?_
      have hbd := (Below.refl w7.heap.size w7).drew
      replace HS7 := hide (HS7.out.ext hbd)
      replace K37 := hide (K37.out.ext hbd)
      replace K67 := hide (K67.out.ext hbd)
      clear hbd
      generalize w7.drew = w8 at HS7 K37 K67 ⊢
      refine tk_start [0, 1, 2, 3, 4, 7] ?_
      iterate 6
        refine tk_one (v := ?_) (by first | exact hF | exact wideFn) (HSA.out _ _ _ HS7.out K37.out) rfl (by kernel_rfl) (by kernel_rfl) (by kernel_rfl) (by kernel_rfl) rfl ?_ (by first | exact fun _ _ _ h => h | exact fun _ _ _ h => hQ2 _ _ _ _ _ h) ?_
        rotate_left
        · intro W hSW
          simp only [glA, glB, glC]
          (try dsimp only at hSW)
          go_simp
          with_reducible rfl
        (try simp only [glA, glB, glC, Act.put, glD, glE, glF])
      refine tk_end ?_
      refine wpAnyJ_one 5 rfl (by kernel_rfl) (fun K hK => ?_)
      simp only [glA, glB, glC]
      go_simp
      refine ⟨trivial, rfl, ?_⟩
      refine (callsIn_wide.2 (HNX.out w8 (HF0.out.turn HS7.out.gb HS7.out.fm).bk)).mono ?_
      rintro e w9 ⟨rfl, h9⟩
      have HS9 := hide (HS7.out.ext h9); have K39 := hide (K37.out.ext h9); have K69 := hide (K67.out.ext h9)
      dsimp only
      refine hK.out _ _ (fun _ => HSA.out _ _ _ HS9.out K39.out) ?_
      clear hK K
      (try simp only [glA, glB, glC, Act.put, glD, glE, glF])
      refine wpAnyJ_one 6 rfl (by kernel_rfl) (fun K hK => ?_)
      have HL9 := hide (HLI.out w9 (HF0.out.turn HS9.out.gb HS9.out.fm).tb)
      simp only [glA, glB, glC]
      go_simp
      refine ⟨trivial, rfl, ?_⟩
      refine (callsIn_wide.2 HL9.out).mono ?_
      rintro e wa ⟨LV, rfl, hLV, hab⟩
      have HSa := hide (HS9.out.ext hab); have K3a := hide (K39.out.ext hab); have K6a := hide (K69.out.ext hab)
      dsimp only
      refine hK.out _ _ (fun _ => HSA.out _ _ _ HSa.out K3a.out) ?_
      clear hK K
      (try simp only [glA, glB, glC, Act.put, glD, glE, glF])
      obtain ⟨LB, LC2, rfl⟩ := own_shape hLV
      obtain ⟨qb, qo, rfl, hqb, hqc⟩ := VR1.at_ hLV.li.2 (show i < (ofN (elS NS)).length by simpa [ofN] using hi)
      rw [ofN_getD, HA.out] at hqc
      rw [show (ofN (elS NS)).length = (elS NS).length from by simp [ofN]]
      clear HL9 hLV hab h9 HS7 HS9 K37 K39 K67 K69 hqb
      refine wpAnyJ_take 8 (v := ?_) (by first | exact hF | exact wideFn) (HSA.out _ _ _ HSa.out K3a.out) rfl (by kernel_rfl) (by kernel_rfl) (by kernel_rfl) (by kernel_rfl) rfl ?_ (by first | exact fun _ _ _ h => h | exact fun _ _ _ h => hQ2 _ _ _ _ _ h) ?_
      rotate_left
      · intro W hSW
        simp only [glA, glB, glC]
        (try dsimp only at hSW)
        go_simp
        with_reducible rfl
      (try simp only [glA, glB, glC, Act.put, glD, glE, glF])
      refine wpAnyJ_one 9 rfl (by kernel_rfl) (fun K hK => ?_)
      simp only [glA, glB, glC]
      go_simp
      refine hK.out _ _ (fun _ => HSA.out _ _ _ HSa.out K3a.out) ?_
      clear hK K
      (try simp only [glA, glB, glC, Act.put, glD, glE, glF])
      refine wpAnyJ_take 10 (v := ?_) (by first | exact hF | exact wideFn) (HSA.out _ _ _ HSa.out K3a.out) rfl (by kernel_rfl) (by kernel_rfl) (by kernel_rfl) (by kernel_rfl) rfl ?_ (by first | exact fun _ _ _ h => h | exact fun _ _ _ h => hQ2 _ _ _ _ _ h) ?_
      rotate_left
      · intro W hSW
        simp only [glA, glB, glC]
        (try dsimp only at hSW)
        go_simp
        with_reducible rfl
      (try simp only [glA, glB, glC, Act.put, glD, glE, glF])
      refine wpAnyJ_done (by kernel_rfl) ?_
      have HLEN := hide (show l.length ≤ 1000000 by have := HM.out.2.2.2; omega)
      obtain ⟨A2, c2, wb, hrun, ho, hgw⟩ := HSa.out.ow.push (mday, (a : Int)) HLEN.out HSa.out.gb.size
      obtain ⟨VA, VC, rfl⟩ := own_shape HSa.out.ow
      have HRUN := hide hrun
      have hba : Below wa.heap.size wa (wa.alloc (.cells #[.int .i64 mday, .int .i64 a] 38)) := (Below.refl _ _).alloc (Nat.le_refl _) _
      have HSb := hide ((HSa.out.ext hba).push HMP.out hgw ho)
      have K3b : Hid (Blk wb (g + 1) 88 #[.int .u16 (mD : Nat), .int .i64 mday, .int .i64 mde]) := hide ((K3a.out.ext hba).grown hgw (fun e => own_blk_ne (HSa.out.ext hba).ow (K3a.out.ext hba) (by decide) e.symm))
      have K6b : Hid (Blk wb h6 3 #[.int .i64 (left : Nat)]) := hide ((K6a.out.ext hba).grown hgw (fun e => own_blk_ne (HSa.out.ext hba).ow (K6a.out.ext hba) (by decide) e.symm))
      have K3c := hide (blk3 K3a.out)
      clear hrun ho hgw hba hqc
      obtain ⟨x9, y0, y1, y2, -⟩ := K3c.out
      go_upto_region 10 with (at_builtin; refine wpList_append_run rfl (.tmp 42) (.tmp 47) 24 rfl rfl rfl HRUN.out ?_)
      clear x9 y0 y1 y2 K3c HRUN HSa K3a K6a
      obtain ⟨x9, y0, y1, y2, -⟩ := blk3 K3b.out
      go_wp2_with fail
      refine (HWI.out wb).mono ?_
      rintro e wc ⟨rfl, hc⟩
      have HSc := hide (HSb.out.ext hc)
      have K3c := hide (K3b.out.ext hc)
      have K6c := hide (K6b.out.ext hc)
      clear hc x9 y0 y1 y2 HSb K3b K6b
      obtain ⟨x9, y0, y1, y2, y3, y4, y5⟩ := blk3 K3c.out
      go_upto_region 11 with fail
      clear x9 y0 y1 y2 y3 y4 y5
      have HSd := hide (HSc.out.put K3c.out (by decide) (by have := HLO.out; omega) HMP.out (by omega) (grown_set3 wc (g + 1) (.int .u16 (oD : Nat)) (.int .i64 oday) (.int .i64 ode)))
      have K3d := hide (K3c.out.set3 (.int .u16 (oD : Nat)) (.int .i64 oday) (.int .i64 ode))
      have hne : h6 ≠ g + 1 := by have := HLO.out; omega
      have K6d := hide (((K6c.out.far (p := ⟨g + 1, 0, none⟩) hne (.int .u16 (oD : Nat))).far (p := ⟨g + 1, 1, none⟩) hne (.int .i64 oday)).far (p := ⟨g + 1, 2, none⟩) hne (.int .i64 ode))
      clear HSc K3c K6c
      generalize ((wc.setCell ⟨g + 1, 0, none⟩ (.int .u16 (oD : Nat))).setCell ⟨g + 1, 1, none⟩ (.int .i64 oday)).setCell ⟨g + 1, 2, none⟩ (.int .i64 ode) = wd2 at HSd K3d K6d ⊢
      obtain ⟨z9, z0, z1⟩ := blk1 K6d.out
      go_wp2_with fail
      have K3e : Blk (wd2.setCell ⟨h6, 0, none⟩ (.int .i64 (l1 : Nat))) (g + 1) 88 #[.int .u16 (oD : Nat), .int .i64 oday, .int .i64 ode] := K3d.out.far (p := ⟨h6, 0, none⟩) (fun e => hne e.symm) _
      go_roundw
      case rel =>
        refine ⟨oD, oday, ode, l1, _, l ++ [(mday, (a : Int))], rfl, by have := HL1.out; omega, hide (HSd.out.put K6d.out (by decide) HLO.out.1 HMP.out (by have := HLO.out; omega) (grownBy_setC wd2 h6 0 _)), hide K3e, hide (by simpa using K6d.out.set_ 0 (.int .i64 (l1 : Nat))), hide ⟨HM2.out, by rw [HNX2.out, HL1.out], ?_, by have h1 := HM.out.2.2.2; have h2 := HL1.out; simp; omega⟩⟩
        have h := HM.out.2.2.1
        rw [HRP.out, HL1.out] at h
        rw [← h]
        simp
      case measure =>
        rw [moRd_eq K3e, HMD.out]
        exact HME.out
    · have hil : (-1 : Int) < 0 := by omega
      have hf2 : mday < r.last ∧ fwN r (Mom.on ⟨mD, mday, mde⟩ (mday + 1)) = left := by
        rcases hfs with ⟨a, ha, h⟩ | h
        · have := List.find?_eq_none.1 hfind a ha
          rw [h] at this
          simp at this
        · exact h
      have HRP : Hid (rpL r ⟨mD, mday, mde⟩ left = rpL r (Mom.on ⟨mD, mday, mde⟩ (mday + 1)) left) := hide (rp_none hl0 hf2.1 (by rw [HNS.out]; exact hfind))
      have hday0 := HM.out.1.d0
      dsimp only at hday0
      have hl30 := HR.out.l30
      have HM2 : Hid (MoOk r (Mom.on ⟨mD, mday, mde⟩ (mday + 1))) := hide (HM.out.1.on HR.out (by omega) (by omega))
      have HME : Hid (meN r (Mom.on ⟨mD, mday, mde⟩ (mday + 1)) < meN r ⟨mD, mday, mde⟩) := hide (by have := me_on (r := r) (m := ⟨mD, mday, mde⟩) hf2.1; dsimp only at this; omega)
      have hst : IntKind.i64.wrap (mday + 1) = mday + 1 := IntWalk.i64_in _ (by omega)
      obtain ⟨⟨oD, oday, ode⟩, hmo⟩ : ∃ x, Mom.on ⟨mD, mday, mde⟩ (mday + 1) = x := ⟨_, rfl⟩
      have HON : Hid (∀ W, Calls Tryd.prog 48 #[.agg #[.int .u16 (mD : Nat), .int .i64 mday, .int .i64 mde], .int .i64 (mday + 1)] W fun e w' => e = .returned (.agg #[.int .u16 (oD : Nat), .int .i64 oday, .int .i64 ode]) ∧ Below W.heap.size W w') := hide fun W => by
        have h := on_any ⟨mD, mday, mde⟩ (mday + 1) W
        rw [hmo] at h
        exact h
      rw [hmo] at HM2 HME hf2 HRP
      have HNX2 := hide hf2.2
      clear hfs hfind hf2 hmo
      obtain ⟨x9, y0, y1, y2, -⟩ := blk3 K37.out
      go_wp2_with fail
      refine (HON.out w7).mono ?_
      rintro e wc ⟨rfl, hc⟩
      have HSc := hide (HS7.out.ext hc)
      have K3c := hide (K37.out.ext hc)
      have K6c := hide (K67.out.ext hc)
      clear hc x9 y0 y1 y2 HS7 K37 K67
      obtain ⟨x9, y0, y1, y2, y3, y4, y5⟩ := blk3 K3c.out
      go_wp2_with fail
      clear x9 y0 y1 y2 y3 y4 y5
      have hne : h6 ≠ g + 1 := by have := HLO.out; omega
      have K3e := K3c.out.set3 (.int .u16 (oD : Nat)) (.int .i64 oday) (.int .i64 ode)
      go_roundw
      case rel =>
        refine ⟨oD, oday, ode, left, _, l, rfl, hleft, hide (HSc.out.put K3c.out (by decide) (by have := HLO.out; omega) HMP.out (by omega) (grown_set3 wc (g + 1) (.int .u16 (oD : Nat)) (.int .i64 oday) (.int .i64 ode))), hide K3e, hide (((K6c.out.far (p := ⟨g + 1, 0, none⟩) hne (.int .u16 (oD : Nat))).far (p := ⟨g + 1, 1, none⟩) hne (.int .i64 oday)).far (p := ⟨g + 1, 2, none⟩) hne (.int .i64 ode)), hide ⟨HM2.out, HNX2.out, by rw [← HRP.out]; exact HM.out.2.2.1, HM.out.2.2.2⟩⟩
      case measure =>
        rw [moRd_eq K3e, HMD.out]
        exact HME.out
end Go.Proofs.YtagjeeimglecnaaDoor
/- Split off XVn: words that hang on less of the program. -/
namespace Go.Proofs.YtagjeeimglecnaaDoor
open Go Go.RowKit Go.Shelf
set_option maxHeartbeats 8000000
set_option maxRecDepth 100000
theorem OwnD.made0 (W : World) : OwnD (W.alloc (.cells #[] 38)) W.heap.size (.slice (some ⟨W.heap.size, 0, none⟩) 0 0) [] :=
  World.ownsRow_made W #[] 0 (Nat.le_refl _) (by unfold maxLen; omega) rfl
theorem OwnD.pushes {W : World} {base : Nat} {v : Value} {l : List (Int × Int)} (h : OwnD W base v l) (A : Option Addr) (c : Nat) (m : List (Int × Int)) (hA : DsR W A m) (hl : l.length + m.length ≤ 1000000) (hb : base ≤ W.heap.size) :
    ∃ v' w', (Builtin.append_ #[24, 24] 24 #[v, .slice A m.length c]).run Tryd.prog W = .ok v' w' ∧ OwnD w' base v' (l ++ m) ∧ W.grownBy w' v.ownBlock := by
  obtain ⟨i0, hi, hz0, hz1, hz2⟩ := info_parts info_deed
  cases A with
  | none =>
    have hm : m = [] := by
      rcases hm : m with _ | ⟨x, m⟩
      · rfl
      · exfalso
        obtain ⟨b, off, hA, -⟩ := hA (by rw [hm]; simp)
        cases hA
    subst hm
    refine ⟨v, W, run_append_none0 (P := Tryd.prog) _ _ 38 i0 2 Tryd.underlying24 hi v l.length c (cellsD l) h, by simpa using h, World.grownBy.refl _ _⟩
  | some a =>
    have hcells : ∀ j u, (cellsD m)[j]? = some u → W.cell? (a.add j) = some u := by
      intro j u hj
      have hlt : j < m.length * 2 := by
        have := (List.getElem?_eq_some_iff.1 hj).1
        rwa [cellsD_len] at this
      obtain ⟨b, off, hA', -, hc⟩ := hA (by omega)
      injection hA' with hA'
      subst hA'
      have h1 := hc (j / 2) (j % 2) (by omega) (by omega)
      have h2 := cellsD_at m (j / 2) (j % 2) (by omega) (by omega)
      rw [show j / 2 * 2 + j % 2 = j by omega] at h2
      rw [h2] at hj
      have e4 : ((⟨b, off, none⟩ : Addr).add j) = ⟨b, off + j / 2 * 2 + j % 2, none⟩ := by rw [add_lit', show off + j = off + j / 2 * 2 + j % 2 by omega]
      rw [e4, ← hj]
      exact h1
    obtain ⟨v', w', hr, h2, h3, -, -⟩ := run_append_own_at (P := Tryd.prog) (w := W) base 24 24 38 i0 _ 2 16 Tryd.underlying24 hi hz0 hz1 hz2 rfl (by decide) v l.length (cellsD l) h
      a m.length c (cellsD m) (by rw [cellsD_len]) hcells (cellsD_one m) (by unfold maxLen; omega) (by omega) hb
    refine ⟨v', w', hr, ?_, h3⟩
    unfold OwnD
    rw [cellsD_append, List.length_append]
    exact h2
theorem cellsOf_succ (sz n : Nat) (g : Nat → Nat → Value) (hs : 0 < sz) : cellsOf sz (n + 1) g = cellsOf sz n g ++ (List.range sz).map (g n) := by
  unfold cellsOf
  rw [Nat.succ_mul, List.range_add, List.map_append, List.map_map]
  congr 1
  refine List.map_congr_left fun j hj => ?_
  have hj := List.mem_range.1 hj
  show g ((n * sz + j) / sz) ((n * sz + j) % sz) = g n j
  rw [Nat.add_comm, Nat.mul_comm, Nat.add_mul_div_left _ _ hs, Nat.div_eq_of_lt hj, Nat.add_mul_mod_self_left, Nat.mod_eq_of_lt hj, Nat.zero_add]
theorem cellsOf_congr {sz n : Nat} {g g' : Nat → Nat → Value} (h : ∀ k i, k < n → i < sz → g k i = g' k i) : cellsOf sz n g = cellsOf sz n g' := by
  unfold cellsOf
  refine List.map_congr_left fun j hj => ?_
  have hj := List.mem_range.1 hj
  have hs : 0 < sz := by
    rcases Nat.eq_zero_or_pos sz with h0 | h0
    · subst h0; simp at hj
    · exact h0
  exact h _ _ (Nat.div_lt_of_lt_mul (by rw [Nat.mul_comm]; exact hj)) (Nat.mod_lt _ hs)
theorem cells_new (w : World) (cs : List Value) (t : TypeId) : ∀ (j : Nat) (u : Value), cs[j]? = some u → (w.alloc (.cells cs.toArray t)).cell? ((⟨w.heap.size, 0, none⟩ : Addr).add j) = some u := by
  intro j u h
  have e : ((⟨w.heap.size, 0, none⟩ : Addr).add j) = ⟨w.heap.size, j, none⟩ := by rw [add_lit', Nat.zero_add]
  rw [e, (Blk.new w t cs.toArray).cell]
  simpa using h
theorem info_act : (Tryd.prog.info? 71).map (fun i => (i.zero, i.size, i.bytes)) = some (some (.agg #[.string noW, .slice none 0 0, .slice none 0 0, .int .i64 0, .int .i64 0, .int .i64 0, .bool false]), 7, 96) := by kernel_rfl
/-- an own list of acts -/
def acG (r : Rit) (e : Rad) (j i : Nat) : Value := acV (r.ac j) (e.na j) (e.nc j) (e.ia j) (e.ic j) i
def OwnA (W : World) (n0 : Nat) (v : Value) (r : Rit) (e : Rad) (k : Nat) : Prop := W.ownsRow n0 71 7 v k (cellsOf 7 k (acG r e))
theorem acV_one (a : Rac) (na : Option Addr) (nc : Nat) (ia : Option Addr) (ic i : Nat) : (acV a na nc ia ic i).oneCell' = true := by
  unfold acV
  repeat' split
  all_goals rfl
theorem cellsOf_one (r : Rit) (e : Rad) (k : Nat) : ∀ u ∈ cellsOf 7 k (acG r e), u.oneCell' = true := by
  intro u hu
  unfold cellsOf at hu
  obtain ⟨j, -, rfl⟩ := List.mem_map.1 hu
  exact acV_one _ _ _ _ _ _
def acL (a : Rac) (na : Option Addr) (nc : Nat) (ia : Option Addr) (ic : Nat) : List Value := [.string a.nm, .slice na a.nd.length nc, .slice ia a.ins.length ic, .int .i64 a.at_, .int .i64 a.fr, .int .i64 a.to_, .bool a.ex]
theorem acL_eq (a : Rac) (na : Option Addr) (nc : Nat) (ia : Option Addr) (ic : Nat) : (List.range 7).map (acV a na nc ia ic) = acL a na nc ia ic := rfl
/-- another act's lists -/
def Rad.up (e : Rad) (k : Nat) (na : Option Addr) (nc : Nat) (ia : Option Addr) (ic : Nat) : Rad :=
  ⟨e.A, e.c, fun j => if j = k then na else e.na j, fun j => if j = k then nc else e.nc j, fun j => if j = k then ia else e.ia j, fun j => if j = k then ic else e.ic j⟩
theorem OwnA.push {W : World} {base : Nat} {v : Value} {r : Rit} {e : Rad} {k : Nat} (h : OwnA W base v r e k) (na : Option Addr) (nc : Nat) (ia : Option Addr) (ic : Nat) (hl : k ≤ 1000) (hb : base ≤ W.heap.size) :
    ∃ A c w', (Builtin.append_ #[26, 26] 26 #[v, .slice (some ⟨W.heap.size, 0, none⟩) 1 1]).run Tryd.prog (W.alloc (.cells (acL (r.ac k) na nc ia ic).toArray 71)) = .ok (.slice A (k + 1) c) w' ∧
      OwnA w' base (.slice A (k + 1) c) r (e.up k na nc ia ic) (k + 1) ∧ (W.alloc (.cells (acL (r.ac k) na nc ia ic).toArray 71)).grownBy w' v.ownBlock := by
  obtain ⟨i0, hi, hz0, hz1, hz2⟩ := info_parts info_act
  have hone : ∀ u ∈ acL (r.ac k) na nc ia ic, u.oneCell' = true := by
    rw [← acL_eq]
    intro u hu
    obtain ⟨j, -, rfl⟩ := List.mem_map.1 hu
    exact acV_one _ _ _ _ _ _
  obtain ⟨v', w', hr, h2, h3, -⟩ := run_append_own (P := Tryd.prog) (w := W.alloc (.cells (acL (r.ac k) na nc ia ic).toArray 71)) base 26 26 71 i0 _ 7 96 Tryd.underlying26 hi hz0 hz1 hz2 rfl (by decide) v k (cellsOf 7 k (acG r e)) (World.ownsRow.alloc h _)
    ⟨W.heap.size, 0, none⟩ 1 1 (acL (r.ac k) na nc ia ic) rfl (cells_new _ _ _) hone (by unfold maxLen; omega) (by omega) (by simp; omega)
  obtain ⟨A, c, rfl⟩ := own_shape h2
  refine ⟨A, c, w', hr, ?_, h3⟩
  unfold OwnA
  rw [cellsOf_succ _ _ _ (by decide)]
  have e1 : cellsOf 7 k (acG r (e.up k na nc ia ic)) = cellsOf 7 k (acG r e) := cellsOf_congr fun j i hj _ => by
    unfold acG Rad.up
    dsimp only
    rw [if_neg (by omega), if_neg (by omega), if_neg (by omega), if_neg (by omega)]
  have e2 : (List.range 7).map (acG r (e.up k na nc ia ic) k) = acL (r.ac k) na nc ia ic := by
    rw [← acL_eq]
    refine List.map_congr_left fun i _ => ?_
    unfold acG Rad.up
    dsimp only
    rw [if_pos rfl, if_pos rfl, if_pos rfl, if_pos rfl]
  rw [e1, e2]
  exact h2
/-- a list put behind an empty one of its own -/
theorem ap_any {W : World} {n0 : Nat} {v : Value} (h : OwnJ W n0 v []) (A : Option Addr) (c : Nat) (m : List Int) (hA : LI W W.heap.size A m) (hl : m.length ≤ 1000000) (hb : n0 ≤ W.heap.size) :
    ∃ A' c' w', (Builtin.append_ #[34, 34] 34 #[v, .slice A m.length c]).run Tryd.prog W = .ok (.slice A' m.length c') w' ∧ OwnJ w' n0 (.slice A' m.length c') m ∧ W.grownBy w' v.ownBlock ∧ ((Value.slice A' m.length c').ownBlock = v.ownBlock ∨ (Value.slice A' m.length c').ownBlock = some W.heap.size) := by
  obtain ⟨v', w', hr, ho, hg, hw⟩ := h.pushes A c m hA (by simpa using hl) hb
  rw [List.nil_append] at ho
  obtain ⟨A', c', rfl⟩ := own_shape ho
  exact ⟨A', c', w', hr, ho, hg, hw⟩
end Go.Proofs.YtagjeeimglecnaaDoor
/- Top: a name by its number. -/
namespace Go.Proofs.YtagjeeimglecnaaDoor
open Go Go.RowKit Go.Shelf
set_option maxHeartbeats 8000000
set_option maxRecDepth 100000
theorem linkName_any (n : Nat) (w : World) (hn : n < 26) : Calls Tryd.prog 17 #[.int .i64 (n : Nat)] w fun e w' => e = .returned (.string ⟨#[UInt8.ofNat (97 + n)]⟩) ∧ Below w.heap.size w w' := by
  have hb : Hid (Below w.heap.size w (w.alloc (.cells #[.int .u8 (97 + (n : Int))] 5))) := hide ((Below.refl _ _).alloc (Nat.le_refl _) _)
  have h1 : IntKind.i64.wrap (97 + (n : Int)) = 97 + (n : Int) := by rw [IntWalk.i64_in _ (by omega)]
  have h2 : (n : Int) % 26 = (n : Int) := by omega
  have h3 : IntKind.u8.wrap (97 + (n : Int)) = 97 + (n : Int) := by rw [IntWalk.u8_in _ (by omega)]
  have hto : ((UInt8.ofNat (97 + n)).toNat : Int) = 97 + (n : Int) := by
    rw [UInt8.toNat_ofNat']
    omega
  have hcv : (convert 113 9 (.slice (some ⟨w.heap.size, 0, none⟩) 1 1)).run Tryd.prog (w.alloc (.cells #[.int .u8 (97 + (n : Int))] 5)) = .ok (.string ⟨#[UInt8.ofNat (97 + n)]⟩) (w.alloc (.cells #[.int .u8 (97 + (n : Int))] 5)) := by
    refine run_convert_bytes_back (P := Tryd.prog) _ 113 9 5 ⟨w.heap.size, 0, none⟩ 1 [UInt8.ofNat (97 + n)] Tryd.underlying113 Tryd.underlying5 Tryd.underlying9 (fun j hj => ?_)
    have hj0 : j = 0 := by simpa using hj
    subst hj0
    have e := (Blk.new w 5 #[.int .u8 (97 + (n : Int))]).cell 0
    show (w.alloc _).cell? ⟨w.heap.size, 0, none⟩ = some (.int .u8 ((UInt8.ofNat (97 + n)).toNat : Int))
    rw [hto, e]
    rfl
  clear hto
  obtain ⟨s, hs⟩ : ∃ s : ByteArray, (⟨#[UInt8.ofNat (97 + n)]⟩ : ByteArray) = s := ⟨_, rfl⟩
  rw [hs] at hcv ⊢
  clear hs
  go_enter Tryd.func17, Tryd.ntmps17
  go_wp2_with fail
  go_ret
  exact ⟨rfl, hb.out⟩
end Go.Proofs.YtagjeeimglecnaaDoor
/- Rite: what open keeps: a book in the making. -/
namespace Go.Proofs.YtagjeeimglecnaaDoor
open Go Go.RowKit Go.Shelf
set_option maxHeartbeats 8000000
set_option maxRecDepth 100000
section
variable {F : Fence} {n : Nat} {P : Program} {ops : Array Oper} {Q : Exit → Act → World → Prop} {md : Region.Mode} {S : World → Prop}
/-- whichever of some operations comes up -/
theorem wpAnyJ_list (l : List Nat) {fuel : Nat} {listed : Array Bool} {a : Act} {w : World} (hr : Region.ready md ops listed = l) (hne : l ≠ [])
    (h : ∀ i ∈ l, ∃ oi, ops[i]? = some oi ∧ ∀ K : Act → World → Prop, Hid (∀ a w, (lastOp md ops i = false → S w) → wpAnyJ F n P md ops Q S fuel (listed.setIfInBounds i true) a w → K a w) → if Region.wanted oi (yielded ops a.tmps) = true then oi.wpIn F n P a w K Q else (∀ f, oi.about P w a.eval = some f → F.fn f) ∧ K (a.put oi.dst undef) w) :
    wpAnyJ F n P md ops Q S (fuel + 1) listed a w := by
  refine ⟨fun h0 => absurd (hr.symm.trans h0) hne, fun k hk => ?_⟩
  rw [hr] at hk
  obtain ⟨oi, hi, h1⟩ := h k hk
  have h2 := h1 (fun a' w' => (lastOp md ops k = false → S w') ∧ wpAnyJ F n P md ops Q S fuel (listed.setIfInBounds k true) a' w') (show Hid _ from fun a w h1 h2 => ⟨h1, h2⟩)
  unfold wpOpIn
  simp only [hi]
  exact h2
end
def ad4 (a0 a1 a2 a3 : Nat) (j : Nat) : Nat := if j = 0 then a0 else if j = 1 then a1 else if j = 2 then a2 else a3
/-- a book in the making -/
structure OpI (w W : World) (d : Rad) (r : Rit) (b : Nat) (ad : Nat → Nat) (f : Nat → Nat → Nat) (mu : Nat) : Prop where
  below : Below w.heap.size w W
  lob : w.heap.size ≤ b
  lo : ∀ j, j < 4 → w.heap.size ≤ ad j
  nb : ∀ j, j < 4 → ad j ≠ b
  ne : ∀ i j, i < 4 → j < 4 → ad i = ad j → i = j
  blk : Blk W b 133 #[.slice d.A r.n d.c, .int .i64 r.last, .int .i64 r.toil, .slice (some ⟨ad 0, 0, none⟩) r.n r.n, .slice (some ⟨ad 1, 0, none⟩) r.n r.n, .slice (some ⟨ad 2, 0, none⟩) r.n r.n, .slice (some ⟨ad 3, 0, none⟩) r.n r.n, .int .u16 (mu : Nat)]
  ar : ∀ j, j < 4 → Blk W (ad j) 86 (rowV r.n fun k => .int .u16 (f j k : Nat))
section
variable {w W W' : World} {d : Rad} {r : Rit} {b : Nat} {ad : Nat → Nat} {f : Nat → Nat → Nat} {mu : Nat}
theorem OpI.ext (h : OpI w W d r b ad f mu) (hb : Below W.heap.size W W') : OpI w W' d r b ad f mu :=
  ⟨h.below.trans (hb.mono h.below.size), h.lob, h.lo, h.nb, h.ne, h.blk.ext hb, fun j hj => (h.ar j hj).ext hb⟩
theorem OpI.grown (h : OpI w W d r b ad f mu) {M : Nat} (hg : W.grownBy W' (some M)) (hM : ∃ o : Obj, W.heap[M]? = some o ∧ o.isCells = false) (hl : w.heap.size ≤ M) : OpI w W' d r b ad f mu :=
  ⟨h.below.grown hg h.below.size (fun k e => by cases e; exact hl), h.lob, h.lo, h.nb, h.ne, h.blk.keptN hg (fun k e => by cases e; exact hM), fun j hj => (h.ar j hj).keptN hg (fun k e => by cases e; exact hM)⟩
def upF (f : Nat → Nat → Nat) (j i v : Nat) : Nat → Nat → Nat := fun j' k => if j' = j ∧ k = i then v else f j' k
theorem OpI.put (h : OpI w W d r b ad f mu) {j : Nat} (hj : j < 4) (i v : Nat) : OpI w (W.setCell ⟨ad j, i, none⟩ (.int .u16 (v : Nat))) d r b ad (upF f j i v) mu := by
  refine ⟨h.below.setCell (p := ⟨ad j, i, none⟩) (h.lo j hj) _, h.lob, h.lo, h.nb, h.ne, h.blk.far (p := ⟨ad j, i, none⟩) (h.nb j hj).symm _, fun j' hj' => ?_⟩
  by_cases e : j' = j
  · subst e
    have h1 := (h.ar j' hj').set_ i (.int .u16 (v : Nat))
    rw [rowV_set] at h1
    have e2 : rowV r.n (upd (fun k => Value.int .u16 (f j' k : Nat)) i (.int .u16 (v : Nat))) = rowV r.n fun k => .int .u16 (upF f j' i v j' k : Nat) := rowV_same _ _ _ fun k _ => by
      unfold upd upF
      by_cases hk : k = i
      · rw [if_pos hk, if_pos ⟨rfl, hk⟩]
      · rw [if_neg hk, if_neg (fun h => hk h.2)]
    rw [e2] at h1
    exact h1
  · have h1 := (h.ar j' hj').far (p := ⟨ad j, i, none⟩) (fun e2 => e (h.ne j' j hj' hj e2)) (.int .u16 (v : Nat))
    have e2 : rowV r.n (fun k => Value.int .u16 (f j' k : Nat)) = rowV r.n fun k => .int .u16 (upF f j i v j' k : Nat) := rowV_same _ _ _ fun k _ => by
      unfold upF
      rw [if_neg (fun h => e h.1)]
    rw [e2] at h1
    exact h1
theorem OpI.must (h : OpI w W d r b ad f mu) (v : Nat) : OpI w (W.setCell ⟨b, 7, none⟩ (.int .u16 (v : Nat))) d r b ad f v :=
  ⟨h.below.setCell (p := ⟨b, 7, none⟩) h.lob _, h.lob, h.lo, h.nb, h.ne, by simpa using h.blk.set_ 7 (.int .u16 (v : Nat)), fun j hj => (h.ar j hj).far (p := ⟨b, 7, none⟩) (h.nb j hj) _⟩
theorem OpI.congr {f' : Nat → Nat → Nat} {mu' : Nat} (h : OpI w W d r b ad f mu) (hf : ∀ j i, j < 4 → i < r.n → f j i = f' j i) (hm : mu = mu') : OpI w W d r b ad f' mu' := by
  subst hm
  refine ⟨h.below, h.lob, h.lo, h.nb, h.ne, h.blk, fun j hj => ?_⟩
  have e : rowV r.n (fun k => Value.int .u16 (f j k : Nat)) = rowV r.n fun k => .int .u16 (f' j k : Nat) := rowV_same _ _ _ fun k hk => by rw [hf j k hj hk]
  rw [← e]
  exact h.ar j hj
theorem OpI.cell (h : OpI w W d r b ad f mu) {j i : Nat} (hj : j < 4) (hi : i < r.n) : W.cell? ⟨ad j, i, none⟩ = some (.int .u16 (f j i : Nat)) := by
  rw [(h.ar j hj).cell]
  exact rowV_get _ _ hi
theorem OpI.init {a0 a1 a2 a3 : Nat} (hb : Below w.heap.size w W) (lob : w.heap.size ≤ b) (l0 : w.heap.size ≤ a0) (l1 : w.heap.size ≤ a1) (l2 : w.heap.size ≤ a2) (l3 : w.heap.size ≤ a3) (n0 : a0 ≠ b) (n1 : a1 ≠ b) (n2 : a2 ≠ b) (n3 : a3 ≠ b)
    (n01 : a0 ≠ a1) (n02 : a0 ≠ a2) (n03 : a0 ≠ a3) (n12 : a1 ≠ a2) (n13 : a1 ≠ a3) (n23 : a2 ≠ a3)
    (hk : Blk W b 133 #[.slice d.A r.n d.c, .int .i64 r.last, .int .i64 r.toil, .slice (some ⟨a0, 0, none⟩) r.n r.n, .slice (some ⟨a1, 0, none⟩) r.n r.n, .slice (some ⟨a2, 0, none⟩) r.n r.n, .slice (some ⟨a3, 0, none⟩) r.n r.n, .int .u16 0])
    (k0 : Blk W a0 86 (rowV r.n fun _ => .int .u16 0)) (k1 : Blk W a1 86 (rowV r.n fun _ => .int .u16 0)) (k2 : Blk W a2 86 (rowV r.n fun _ => .int .u16 0)) (k3 : Blk W a3 86 (rowV r.n fun _ => .int .u16 0)) :
    OpI w W d r b (ad4 a0 a1 a2 a3) (fun _ _ => 0) 0 := by
  refine ⟨hb, lob, fun j hj => ?_, fun j hj => ?_, fun i j hi hj e => ?_, hk, fun j hj => ?_⟩
  · rcases (by omega : j = 0 ∨ j = 1 ∨ j = 2 ∨ j = 3) with rfl | rfl | rfl | rfl
    · exact l0
    · exact l1
    · exact l2
    · exact l3
  · rcases (by omega : j = 0 ∨ j = 1 ∨ j = 2 ∨ j = 3) with rfl | rfl | rfl | rfl
    · exact n0
    · exact n1
    · exact n2
    · exact n3
  · have e0 : ad4 a0 a1 a2 a3 0 = a0 := rfl
    have e1 : ad4 a0 a1 a2 a3 1 = a1 := rfl
    have e2 : ad4 a0 a1 a2 a3 2 = a2 := rfl
    have e3 : ad4 a0 a1 a2 a3 3 = a3 := rfl
    rcases (by omega : i = 0 ∨ i = 1 ∨ i = 2 ∨ i = 3) with rfl | rfl | rfl | rfl <;> rcases (by omega : j = 0 ∨ j = 1 ∨ j = 2 ∨ j = 3) with rfl | rfl | rfl | rfl <;> simp only [e0, e1, e2, e3] at e <;> omega
  · rcases (by omega : j = 0 ∨ j = 1 ∨ j = 2 ∨ j = 3) with rfl | rfl | rfl | rfl
    · exact k0
    · exact k1
    · exact k2
    · exact k3
end
-- what the arrays are behind k acts
def opF (r : Rit) (k : Nat) (j i : Nat) : Nat :=
  if j = 0 then (if i < k then seL (r.ac i).nd else 0) else if j = 1 then (if i < k then waS r i else 0) else if j = 2 then mkS (fun t => (r.ac t).ins.contains (i : Int)) k else mkS (fun t => decide ((r.ac t).at_ = (i : Int))) k
def opM (r : Rit) (k : Nat) : Nat := mkS (fun t => !(r.ac t).ex) k
/-- behind m numbers of an act's list -/
def opG (r : Rit) (k m : Nat) (j i : Nat) : Nat :=
  if j = 0 then (if i < k + 1 then seL (r.ac i).nd else 0) else if j = 1 then (if i < k then waS r i else if i = k then 2 ^ k ||| seL (r.ac k).ins else 0) else if j = 2 then (if ((r.ac k).ins.take m).contains (i : Int) then mkS (fun t => (r.ac t).ins.contains (i : Int)) k ||| 2 ^ k else mkS (fun t => (r.ac t).ins.contains (i : Int)) k) else mkS (fun t => decide ((r.ac t).at_ = (i : Int))) k
theorem wa_split {r : Rit} {k : Nat} (hk : k < 16) (h0 : -1 ≤ (r.ac k).at_) (h1 : (r.ac k).at_ < 16) : waS r k = (2 ^ k ||| seL (r.ac k).ins) ||| (if 0 ≤ (r.ac k).at_ then 2 ^ (r.ac k).at_.toNat else 0) := by
  refine Nat.eq_of_testBit_eq fun i => ?_
  rw [Nat.testBit_or, Nat.testBit_or, Nat.testBit_two_pow]
  unfold waS
  rw [mkS_bit]
  by_cases hi : i < 16
  · rw [seL_bit _ _ hi, decide_eq_true hi, Bool.true_and]
    by_cases ha : 0 ≤ (r.ac k).at_
    · rw [if_pos ha, Nat.testBit_two_pow, Bool.eq_iff_iff]
      simp
      constructor
      · rintro ((h | h) | h)
        · exact .inl (.inl h.symm)
        · exact .inl (.inr h)
        · exact .inr (by omega)
      · rintro ((h | h) | h)
        · exact .inl (.inl h.symm)
        · exact .inl (.inr h)
        · exact .inr (by omega)
    · rw [if_neg ha, Nat.zero_testBit, Bool.or_false, Bool.eq_iff_iff]
      simp
      constructor
      · rintro ((h | h) | h)
        · exact .inl h.symm
        · exact .inr h
        · omega
      · rintro (h | h)
        · exact .inl (.inl h.symm)
        · exact .inl (.inr h)
  · rw [decide_eq_false hi, bit_ge (n := 16) (seL_lt _) (by omega), decide_eq_false (show ¬ k = i by omega)]
    by_cases ha : 0 ≤ (r.ac k).at_
    · rw [if_pos ha, Nat.testBit_two_pow, decide_eq_false (show ¬ (r.ac k).at_.toNat = i by omega)]; rfl
    · rw [if_neg ha, Nat.zero_testBit]; rfl
theorem opG_zero (r : Rit) (k : Nat) (j i : Nat) (hj : j < 4) : upF (upF (opF r k) 0 k (seL (r.ac k).nd)) 1 k (2 ^ k ||| seL (r.ac k).ins) j i = opG r k 0 j i := by
  unfold upF opF opG
  rcases (by omega : j = 0 ∨ j = 1 ∨ j = 2 ∨ j = 3) with rfl | rfl | rfl | rfl
  · rw [if_neg (by omega)]
    by_cases h : i = k
    · subst h
      rw [if_pos ⟨rfl, rfl⟩, if_pos rfl, if_pos (by omega)]
    · rw [if_neg (fun x => h x.2), if_pos rfl, if_pos rfl]
      by_cases h2 : i < k
      · rw [if_pos h2, if_pos (by omega)]
      · rw [if_neg h2, if_neg (by omega)]
  · by_cases h : i = k
    · subst h
      rw [if_pos ⟨rfl, rfl⟩, if_neg (by omega), if_pos rfl, if_neg (by omega), if_pos rfl]
    · simp [h]
  · rw [if_neg (by omega), if_neg (by omega)]
    simp
  · rw [if_neg (by omega), if_neg (by omega)]
    simp
theorem opG_step {r : Rit} {k m : Nat} (hm : m < (r.ac k).ins.length) {x : Nat} (hx : (r.ac k).ins.getD m 0 = (x : Int)) (hn : x ∉ ([] : List Nat)) (hv : ∀ i < m, (r.ac k).ins.getD i 0 ≠ (x : Int)) (j i : Nat) (hj : j < 4) : upF (opG r k m) 2 x (opG r k m 2 x ||| 2 ^ k) j i = opG r k (m + 1) j i := by
  have ht : (r.ac k).ins.take (m + 1) = (r.ac k).ins.take m ++ [(x : Int)] := by
    rw [List.take_succ_eq_append_getElem hm]
    rw [List.getD_eq_getElem?_getD, List.getElem?_eq_getElem hm] at hx
    have hx : (r.ac k).ins[m] = (x : Int) := hx
    rw [hx]
  have hnot : ((r.ac k).ins.take m).contains (x : Int) = false := by
    rw [← Bool.not_eq_true, List.contains_iff_mem]
    intro hmem
    obtain ⟨i, hi, he⟩ := List.getElem_of_mem hmem
    rw [List.length_take] at hi
    refine hv i (by omega) ?_
    rw [List.getElem_take] at he
    rw [List.getD_eq_getElem?_getD, List.getElem?_eq_getElem (by omega)]
    exact he
  unfold upF opG
  rcases (by omega : j = 0 ∨ j = 1 ∨ j = 2 ∨ j = 3) with rfl | rfl | rfl | rfl
  · rw [if_neg (by omega), if_pos rfl, if_pos rfl]
  · simp
  · simp only [if_neg (show ¬ (2 : Nat) = 0 by omega), if_neg (show ¬ (2 : Nat) = 1 by omega), if_true, true_and, ht, List.contains_append]
    by_cases h : i = x
    · subst h
      rw [if_pos rfl, hnot]
      simp
    · have h2 : ([(x : Int)]).contains (i : Int) = false := by
        rw [← Bool.not_eq_true, List.contains_iff_mem]
        simp
        omega
      rw [if_neg h, h2, Bool.or_false]
  · rw [if_neg (by omega)]
    simp
end Go.Proofs.YtagjeeimglecnaaDoor
/- Rite: a round of open: what it holds; its arrays (plain). -/
namespace Go.Proofs.YtagjeeimglecnaaDoor
open Go Go.RowKit Go.Shelf
set_option maxHeartbeats 8000000
set_option maxRecDepth 100000
theorem NmAt.ne_blk {W : World} {M k g : Nat} {p : Wd → Bool} {t : TypeId} {cs : Array Value} (h : NmAt W M k p) (hb : Blk W g t cs) : M ≠ g := by
  rintro rfl
  obtain ⟨o, h1, h2⟩ := h.map
  unfold Blk at hb
  rw [hb] at h1
  cases h1
  cases h2
theorem NmAt.far {W : World} {M k : Nat} {p : Wd → Bool} (h : NmAt W M k p) {q : Addr} (hq : M ≠ q.block) (u : Value) : NmAt (W.setCell q u) M k p := by
  obtain ⟨D, h1, h2, h3⟩ := h
  exact ⟨D, h1.setCell hq u, h2, h3⟩
/-- a round's things: the book in the making, the words, the act -/
structure RdI (w W : World) (d : Rad) (r : Rit) (b : Nat) (ad : Nat → Nat) (f : Nat → Nat → Nat) (mu M k : Nat) (p : Wd → Bool) (g : Nat) (cs : Array Value) : Prop where
  op : OpI w W d r b ad f mu
  nm : NmAt W M k p
  ka : Blk W g 71 cs
  gb : g ≠ b
  ga : ∀ j, j < 4 → g ≠ ad j
section
variable {w W W' : World} {d : Rad} {r : Rit} {b : Nat} {ad : Nat → Nat} {f : Nat → Nat → Nat} {mu M k : Nat} {p : Wd → Bool} {g : Nat} {cs : Array Value}
theorem RdI.ext (h : RdI w W d r b ad f mu M k p g cs) (hb : Below W.heap.size W W') : RdI w W' d r b ad f mu M k p g cs :=
  ⟨h.op.ext hb, h.nm.ext hb, h.ka.ext hb, h.gb, h.ga⟩
theorem RdI.put (h : RdI w W d r b ad f mu M k p g cs) {j : Nat} (hj : j < 4) (i v : Nat) : RdI w (W.setCell ⟨ad j, i, none⟩ (.int .u16 (v : Nat))) d r b ad (upF f j i v) mu M k p g cs :=
  ⟨h.op.put hj i v, h.nm.far (q := ⟨ad j, i, none⟩) (h.nm.ne_blk (h.op.ar j hj)) _, h.ka.far (p := ⟨ad j, i, none⟩) (h.ga j hj) _, h.gb, h.ga⟩
theorem RdI.must (h : RdI w W d r b ad f mu M k p g cs) (v : Nat) : RdI w (W.setCell ⟨b, 7, none⟩ (.int .u16 (v : Nat))) d r b ad f v M k p g cs :=
  ⟨h.op.must v, h.nm.far (q := ⟨b, 7, none⟩) (h.nm.ne_blk h.op.blk) _, h.ka.far (p := ⟨b, 7, none⟩) h.gb _, h.gb, h.ga⟩
theorem RdI.congr {f' : Nat → Nat → Nat} {mu' : Nat} (h : RdI w W d r b ad f mu M k p g cs) (hf : ∀ j i, j < 4 → i < r.n → f j i = f' j i) (hm : mu = mu') : RdI w W d r b ad f' mu' M k p g cs :=
  ⟨h.op.congr hf hm, h.nm, h.ka, h.gb, h.ga⟩
theorem RdI.nmc {p' : Wd → Bool} {k' : Nat} (h : RdI w W d r b ad f mu M k p g cs) (hp : ∀ z, p z = p' z) (hk : k = k') : RdI w W d r b ad f mu M k' p' g cs := by
  obtain rfl : p = p' := funext hp
  subst hk
  exact h
end
theorem isLF_lt {act acts : Int} {l : List Int} (h : isLF act acts (-1) l = true) {i : Nat} : ∀ {m : Nat}, i < m → m < l.length → l.getD i 0 < l.getD m 0
  | 0, h1, _ => absurd h1 (by omega)
  | m + 1, h1, h2 => by
    have h3 := ((isLF_iff act acts l (-1)).1 h (m + 1) h2).1
    rw [if_neg (by omega)] at h3
    have e : m + 1 - 1 = m := by omega
    rw [e] at h3
    by_cases hi : i = m
    · rw [hi]; exact h3
    · exact Int.lt_trans (isLF_lt h (m := m) (by omega) (by omega)) h3
theorem opF1 (r : Rit) (k i : Nat) : opF r k 1 i = if i < k then waS r i else 0 := rfl
theorem opF2 (r : Rit) (k i : Nat) : opF r k 2 i = mkS (fun t => (r.ac t).ins.contains (i : Int)) k := rfl
theorem opF3 (r : Rit) (k i : Nat) : opF r k 3 i = mkS (fun t => decide ((r.ac t).at_ = (i : Int))) k := rfl
theorem opG1 (r : Rit) (k m i : Nat) : opG r k m 1 i = if i < k then waS r i else if i = k then 2 ^ k ||| seL (r.ac k).ins else 0 := rfl
theorem opG2 (r : Rit) (k m i : Nat) : opG r k m 2 i = if ((r.ac k).ins.take m).contains (i : Int) then mkS (fun t => (r.ac t).ins.contains (i : Int)) k ||| 2 ^ k else mkS (fun t => (r.ac t).ins.contains (i : Int)) k := rfl
theorem opG3 (r : Rit) (k m i : Nat) : opG r k m 3 i = mkS (fun t => decide ((r.ac t).at_ = (i : Int))) k := rfl
theorem opG_lt {r : Rit} {k m x : Nat} (hk : k < 16) : opG r k m 2 x < 65536 := by
  rw [opG2]
  have h := lt16 (mkS_lt (fun t => (r.ac t).ins.contains (x : Int)) k) (by omega)
  by_cases hc : ((r.ac k).ins.take m).contains (x : Int) = true
  · rw [if_pos hc]
    exact Nat.or_lt_two_pow (n := 16) h (p2_lt hk)
  · rw [if_neg hc]; exact h
theorem opG_lt3 {r : Rit} {k m x : Nat} (hk : k < 16) : opG r k m 3 x < 65536 := by
  rw [opG3]
  exact lt16 (mkS_lt _ k) (by omega)
theorem opG_one (r : Rit) (k m : Nat) : opG r k m 1 k = 2 ^ k ||| seL (r.ac k).ins := by
  rw [opG1, if_neg (by omega), if_pos rfl]
theorem opM_lt {r : Rit} {k : Nat} (hk : k < 16) : opM r k < 65536 := lt16 (mkS_lt _ k) (by omega)
theorem opG_far {r : Rit} {k : Nat} {i : Nat} : opG r k (r.ac k).ins.length 2 i = opF r (k + 1) 2 i := by
  rw [opG2, opF2, List.take_length]
  cases h : (r.ac k).ins.contains (i : Int) with
  | true => rw [if_pos rfl, mkS_yes (by exact h)]
  | false => rw [if_neg (by decide), mkS_no (by exact h)]
theorem opG_nil {r : Rit} {k m i : Nat} : opG r k m 0 i = opF r (k + 1) 0 i := rfl
theorem opG_at {r : Rit} {k : Nat} (hk : k < 16) {x : Nat} (hx : (r.ac k).at_ = (x : Int)) (hx16 : x < 16) (j i : Nat) (hj : j < 4) :
    upF (upF (opG r k (r.ac k).ins.length) 1 k (opG r k (r.ac k).ins.length 1 k ||| 2 ^ x)) 3 x (opG r k (r.ac k).ins.length 3 x ||| 2 ^ k) j i = opF r (k + 1) j i := by
  rcases (by omega : j = 0 ∨ j = 1 ∨ j = 2 ∨ j = 3) with rfl | rfl | rfl | rfl
  · unfold upF
    rw [if_neg (by omega), if_neg (by omega)]
    exact opG_nil
  · unfold upF
    rw [if_neg (by omega)]
    have hw := wa_split (r := r) hk (by omega) (by omega)
    rw [if_pos (by omega), hx, Int.toNat_natCast] at hw
    by_cases h : i = k
    · subst h
      rw [if_pos ⟨rfl, rfl⟩, opG_one, ← hw, opF1, if_pos (by omega)]
    · rw [if_neg (fun y => h y.2), opG1, opF1, if_neg h]
      by_cases h2 : i < k
      · rw [if_pos h2, if_pos (by omega)]
      · rw [if_neg h2, if_neg (by omega)]
  · unfold upF
    rw [if_neg (by omega), if_neg (by omega)]
    exact opG_far
  · unfold upF
    rw [opF3]
    by_cases h : i = x
    · subst h
      rw [if_pos ⟨rfl, rfl⟩, opG3, mkS_yes (decide_eq_true hx)]
    · rw [if_neg (fun y => h y.2), if_neg (by omega), opG3, mkS_no (decide_eq_false (by rw [hx]; omega))]
theorem opG_no {r : Rit} {k : Nat} (hk : k < 16) (hx : (r.ac k).at_ = -1) (j i : Nat) (hj : j < 4) :
    opG r k (r.ac k).ins.length j i = opF r (k + 1) j i := by
  rcases (by omega : j = 0 ∨ j = 1 ∨ j = 2 ∨ j = 3) with rfl | rfl | rfl | rfl
  · exact opG_nil
  · have hw := wa_split (r := r) hk (by omega) (by omega)
    rw [if_neg (by omega), Nat.or_zero] at hw
    rw [opG1, opF1]
    by_cases h : i = k
    · subst h
      rw [if_neg (by omega), if_pos rfl, if_pos (by omega), hw]
    · rw [if_neg h]
      by_cases h2 : i < k
      · rw [if_pos h2, if_pos (by omega)]
      · rw [if_neg h2, if_neg (by omega)]
  · exact opG_far
  · rw [opG3, opF3, mkS_no (decide_eq_false (by rw [hx]; omega))]
theorem opM_yes {r : Rit} {k : Nat} (h : (r.ac k).ex = true) : opM r (k + 1) = opM r k := mkS_no (by simp [h])
theorem opM_no {r : Rit} {k : Nat} (h : (r.ac k).ex = false) : opM r (k + 1) = opM r k ||| 2 ^ k := mkS_yes (by simp [h])
theorem nm_more {r : Rit} {k : Nat} {nm : Wd} (h : (r.ac k).nm = nm) (z : Wd) : (decide (z = nm) || (List.range k).any fun t => decide ((r.ac t).nm = z)) = (List.range (k + 1)).any fun t => decide ((r.ac t).nm = z) := by
  rw [List.range_succ, List.any_append, Bool.or_comm]
  congr 1
  rw [List.any_cons, List.any_nil, Bool.or_false, h]
  by_cases e : z = nm
  · rw [decide_eq_true e, decide_eq_true e.symm]
  · rw [decide_eq_false e, decide_eq_false (fun x => e x.symm)]
theorem OpI.er {w W : World} {d : Rad} {r : Rit} {b : Nat} {ad : Nat → Nat} {f : Nat → Nat → Nat} {mu : Nat} (h : OpI w W d r b ad f mu) {j : Nat} (hj : j < 4) {u : Nat → Nat} (hu : ∀ k, k < r.n → f j k = u k) :
    ER W W.heap.size 1 (some ⟨ad j, 0, none⟩) r.n fun k _ => .int .u16 (u k : Nat) := fun _ => ⟨ad j, 0, rfl, (h.ar j hj).lt, fun k i hk hi => by
  obtain rfl : i = 0 := by omega
  have h1 := h.cell hj hk
  rw [hu k hk] at h1
  simpa using h1⟩
theorem OpI.book {w W : World} {d : Rad} {r : Rit} {b : Nat} {ad : Nat → Nat} (h : OpI w W d r b ad (opF r r.n) (opM r r.n)) (ht : RtR w d r) :
    BkR W b d ⟨some ⟨ad 0, 0, none⟩, some ⟨ad 1, 0, none⟩, some ⟨ad 2, 0, none⟩, some ⟨ad 3, 0, none⟩⟩ r :=
  ⟨h.blk, ht.ext h.below, h.er (j := 0) (by decide) (u := fun k => seL (r.ac k).nd) (fun k hk => if_pos hk), h.er (j := 1) (by decide) (u := fun k => waS r k) (fun k hk => if_pos hk), h.er (j := 2) (by decide) (u := fun k => reS r k) (fun _ _ => rfl), h.er (j := 3) (by decide) (u := fun k => atS r k) (fun _ _ => rfl)⟩
theorem OpI.rebase {w w1 W : World} {d : Rad} {r : Rit} {b : Nat} {ad : Nat → Nat} {f : Nat → Nat → Nat} {mu : Nat} (h : OpI w1 W d r b ad f mu) (hb : Below w.heap.size w w1) : OpI w W d r b ad f mu :=
  ⟨hb.trans (h.below.mono hb.size), Nat.le_trans hb.size h.lob, fun j hj => Nat.le_trans hb.size (h.lo j hj), h.nb, h.ne, h.blk, h.ar⟩
theorem OpI.far {w W : World} {d : Rad} {r : Rit} {b : Nat} {ad : Nat → Nat} {f : Nat → Nat → Nat} {mu : Nat} (h : OpI w W d r b ad f mu) {M : Nat} (h0 : w.heap.size ≤ M) (h1 : b ≠ M) (h2 : ∀ j, j < 4 → ad j ≠ M) (i : Nat) (v : Value) : OpI w (W.setCell ⟨M, i, none⟩ v) d r b ad f mu :=
  ⟨h.below.setCell (p := ⟨M, i, none⟩) h0 v, h.lob, h.lo, h.nb, h.ne, h.blk.far (p := ⟨M, i, none⟩) h1 v, fun j hj => (h.ar j hj).far (p := ⟨M, i, none⟩) (h2 j hj) v⟩
theorem ri_yes {r : Rit} (hs : szB r = true) (ha : ∀ t, t < r.n → acB r t = true) (hk : ∀ t, t < r.n → kiB r t = true) : riB r = true := by
  unfold riB
  rw [hs, Bool.true_and, Bool.and_eq_true]
  exact ⟨List.all_eq_true.2 fun t ht => ha t (List.mem_range.1 ht), List.all_eq_true.2 fun t ht => hk t (List.mem_range.1 ht)⟩
theorem ki_eq (r : Rit) (k : Nat) : kiB r k = !(((decide (reS r k ≠ 0) || decide (atS r k ≠ 0)) && !(r.ac k).ex) || (decide (reS r k ≠ 0) && decide (atS r k ≠ 0))) := by
  have h1 : decide (reS r k ≠ 0) = subB r k := by rw [Bool.eq_iff_iff, decide_eq_true_iff]; exact sub_iff k
  have h2 : decide (atS r k ≠ 0) = atoB r k := by rw [Bool.eq_iff_iff, decide_eq_true_iff]; exact ato_iff k
  rw [h1, h2]
  rfl
theorem zn_no {z : Nat} (h : z = 0) : ((z : Int) == 0) = true ∧ ((z : Int) != 0) = false := by subst h; exact ⟨rfl, rfl⟩
theorem zn_yes {z : Nat} (h : z ≠ 0) : ((z : Int) == 0) = false ∧ ((z : Int) != 0) = true := by
  have h1 : ((z : Int) == 0) = false := by rw [beq_eq_false_iff_ne]; omega
  exact ⟨h1, by rw [bne, h1]; rfl⟩
end Go.Proofs.YtagjeeimglecnaaDoor
