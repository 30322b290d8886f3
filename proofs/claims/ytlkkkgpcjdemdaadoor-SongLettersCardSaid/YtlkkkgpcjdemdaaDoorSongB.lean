/- Words that hang on no chapter: a range over an iterator that has cells of its own (made before its first value) and writes them between two rounds; the body writes what it likes elsewhere. -/
import Derived.Test.YtlkkkgpcjdemdaaDoorSongA
import Derived.RangeFuncFrom
import Derived.Lib.AppendZeros
import Derived.Maps.AppendAt
import Derived.Shelf.Strings.SlTrimAscii
import Derived.Shelf.Strings.Replace
import Derived.Shelf.Strings.Runes
import Derived.Shelf.Strings.Prefix
import Derived.Ground.NamesProg
import Derived.Test.YtlkkkgpcjdemdaaDoorChecked
import Derived.WalkMore
set_option linter.unusedSimpArgs false
set_option linter.unusedVariables false
set_option linter.unnecessarySimpa false
namespace Go.Proofs.YtlkkkgpcjdemdaaDoor
open Go Go.RowKit
set_option maxHeartbeats 4000000
set_option maxRecDepth 100000
/-- all stays but the blocks a .. b - 1 -/
structure OutK (a b : Nat) (W W' : World) : Prop where
  os : W'.os = W.os
  tape : W'.tape = W.tape
  output : W'.output = W.output
  size : W.heap.size ≤ W'.heap.size
  block : ∀ k, k < W.heap.size → ¬ (a ≤ k ∧ k < b) → W'.heap[k]? = W.heap[k]?
/-- the blocks a .. b - 1 stay -/
structure KeepB (a b : Nat) (W W' : World) : Prop where
  size : W.heap.size ≤ W'.heap.size
  block : ∀ k, a ≤ k → k < b → W'.heap[k]? = W.heap[k]?
section
variable {a b : Nat} {W W' W2 : World}
theorem OutK.refl (a b : Nat) (W : World) : OutK a b W W := ⟨rfl, rfl, rfl, Nat.le_refl _, fun _ _ _ => rfl⟩
theorem OutK.trans (h : OutK a b W W') (h2 : OutK a b W' W2) : OutK a b W W2 :=
  ⟨h2.os.trans h.os, h2.tape.trans h.tape, h2.output.trans h.output, Nat.le_trans h.size h2.size, fun k hk hn => (h2.block k (Nat.lt_of_lt_of_le hk h.size) hn).trans (h.block k hk hn)⟩
theorem OutK.of_below (h : Below W.heap.size W W') : OutK a b W W' := ⟨h.os, h.tape, h.output, h.size, fun k hk _ => h.block k hk⟩
theorem OutK.more {a' b' : Nat} (h : OutK a b W W') (ha : a' ≤ a) (hb : b ≤ b') : OutK a' b' W W' := ⟨h.os, h.tape, h.output, h.size, fun k hk hn => h.block k hk (fun e => hn ⟨by omega, by omega⟩)⟩
theorem OutK.set (W : World) {g : Nat} (ha : a ≤ g) (hb : g < b) (i : Nat) (v : Value) : OutK a b W (W.setCell ⟨g, i, none⟩ v) :=
  ⟨rfl, rfl, rfl, by rw [size_set]; exact Nat.le_refl _, fun k _ hn => Below.heap_setCell _ _ _ k (fun e => hn (by dsimp only at e; omega))⟩
theorem OutK.putObj (W : World) {g : Nat} (ha : a ≤ g) (hb : g < b) (o : Obj) : OutK a b W (W.putObj g o) :=
  ⟨rfl, rfl, rfl, by simp, fun k _ hn => World.putObj_heap_other (fun e => hn (by omega))⟩
theorem OutK.below {W0 : World} {B : Nat} (h0 : Below B W0 W) (h : OutK a b W W') (ha : B ≤ a) (hB : B ≤ W0.heap.size) : Below B W0 W' :=
  ⟨h.os.trans h0.os, h.tape.trans h0.tape, h.output.trans h0.output, Nat.le_trans h0.size h.size, fun k hk => (h.block k (by have := h0.size; omega) (by omega)).trans (h0.block k hk)⟩
theorem OutK.blk (h : OutK a b W W') {g : Nat} {t : TypeId} {cs : Array Value} (hb : Blk W g t cs) (hn : ¬ (a ≤ g ∧ g < b)) : Blk W' g t cs := (h.block g hb.lt hn).trans hb
theorem OutK.own (h : OutK a b W W') {base : Nat} {e : TypeId} {size n : Nat} {v : Value} {xs : List Value} (ho : W.ownsRow base e size v n xs) (hn : ∀ g, v.ownBlock = some g → ¬ (a ≤ g ∧ g < b)) : W'.ownsRow base e size v n xs := by
  refine ⟨ho.1, ?_⟩
  rcases ho.2 with h2 | ⟨g, cap, cur, rfl, h3, h4, h5⟩
  · exact .inl h2
  · exact .inr ⟨g, cap, cur, rfl, h3, h.blk (t := e) h4 (hn g rfl), h5⟩
theorem KeepB.refl (a b : Nat) (W : World) : KeepB a b W W := ⟨Nat.le_refl _, fun _ _ _ => rfl⟩
theorem KeepB.trans (h : KeepB a b W W') (h2 : KeepB a b W' W2) : KeepB a b W W2 := ⟨Nat.le_trans h.size h2.size, fun k h3 h4 => (h2.block k h3 h4).trans (h.block k h3 h4)⟩
theorem KeepB.of_below (h : Below W.heap.size W W') (hb : b ≤ W.heap.size) : KeepB a b W W' := ⟨h.size, fun k _ hk => h.block k (by omega)⟩
theorem KeepB.more {a' b' : Nat} (h : KeepB a b W W') (ha : a ≤ a') (hb : b' ≤ b) : KeepB a' b' W W' := ⟨h.size, fun k h1 h2 => h.block k (by omega) (by omega)⟩
theorem KeepB.set (W : World) {g : Nat} (hn : ¬ (a ≤ g ∧ g < b)) (i : Nat) (v : Value) : KeepB a b W (W.setCell ⟨g, i, none⟩ v) :=
  ⟨by rw [size_set]; exact Nat.le_refl _, fun k h1 h2 => Below.heap_setCell _ _ _ k (fun e => hn (by dsimp only at e; omega))⟩
theorem KeepB.putObj (W : World) {g : Nat} (hn : ¬ (a ≤ g ∧ g < b)) (o : Obj) : KeepB a b W (W.putObj g o) :=
  ⟨by simp, fun k h1 h2 => World.putObj_heap_other (fun e => hn (by omega))⟩
theorem KeepB.blk (h : KeepB a b W W') {g : Nat} {t : TypeId} {cs : Array Value} (hb : Blk W g t cs) (h1 : a ≤ g) (h2 : g < b) : Blk W' g t cs := (h.block g h1 h2).trans hb
theorem KeepB.grown {row : Option Nat} (hg : W.grownBy W' row) (hr : ∀ r, row = some r → ¬ (a ≤ r ∧ r < b)) (hb : b ≤ W.heap.size) : KeepB a b W W' :=
  ⟨hg.size, fun k h1 h2 => hg.block k (by omega) (fun e => hr k e.symm ⟨h1, h2⟩)⟩
end
/-- where a round ends -/
def postO {α : Type} (a M : Nat) (I : List α → World → Prop) (Ix : Code → List α → World → Prop) (s : List α) (W : World) : Exit → Act → World → Prop
  | .normal, _, W' => KeepB a M W W' ∧ I s W'
  | .ret, _, W' => KeepB a M W W' ∧ Ix .ret s W'
  | .exit id, _, W' => KeepB a M W W' ∧ Ix (.exit id) s W'
  | .goto t, _, W' => KeepB a M W W' ∧ Ix (.goto t) s W'
  | .panic _, _, _ => False
  | .outgrown, _, _ => False
/-- what such an iterator's call does, at whatever yield: M is the heap's size at its first value -/
def SeqO {α : Type} (F : Fence) (n : Nat) (P : Program) (g : Nat) (fs lb : Array Value) (encs : α → Array Value) (L : List α) (w : World) : Prop :=
  ∀ (l : Nat) (J : Nat → List α → World → Prop) (Jx : List α → World → Prop) (W : World), Below w.heap.size w W →
    (∀ W1, Below W.heap.size W W1 → J W1.heap.size [] W1) →
    (∀ M s W1 W2, J M s W1 → OutK W.heap.size M W1 W2 → J M s W2) →
    (∀ s W1 W2, Jx s W1 → Below W1.heap.size W1 W2 → Jx s W2) →
    (∀ M pre x W1, pre ++ [x] <+: L → M ≤ W1.heap.size → J M pre W1 → YieldAt F (n - 1) P l (encs x) W1 fun e W' =>
      (e = .returned (.bool true) ∧ J M (pre ++ [x]) W' ∧ KeepB W.heap.size M W1 W') ∨ (e = .returned (.bool false) ∧ Jx (pre ++ [x]) W')) →
    CallsIn F n P g (fs ++ #[.func (.yield l) #[] #[]] ++ lb) W fun e W' => (∃ v, e = .returned v) ∧ ((∃ M, J M L W') ∨ ∃ pre, pre <+: L ∧ Jx pre W')
variable {F : Fence} {n : Nat} {P : Program}
theorem SeqO.inRound {α : Type} {g : Nat} {fs lb : Array Value} {encs : α → Array Value} {L : List α} {w : World} (l : Nat) (h : SeqO F n P g fs lb encs L w) : SeqO (F.inRound l) n P g fs lb encs L w := h
theorem wpIn_rangeFunc_o {α : Type} {g : Operand} {ps : Array Tmp} {assign body : Code} {Q : Exit → Act → World → Prop} {a : Act} {w : World}
    (hro : F.round = none) (h1 : 1 ≤ n) {gf : Nat} {fs lb : Array Value} (hg : a.eval g = .func (.func gf) fs lb) (hFg : F.fn gf) (eg : ∀ args w, (callFunc gf args).run P w = .ok (.enter gf args) w)
    {encs : α → Array Value} {L : List α} {w0 : World} (hseq : SeqO F (n - 1) P gf fs lb encs L w0)
    (hb0 : Below w0.heap.size w0 w) (hps : ∀ x, (encs x).size = ps.size)
    (I : Nat → List α → World → Prop) (Ix : Code → List α → World → Prop)
    (hI0 : ∀ W1, Below w.heap.size w W1 → w.heap.size + 2 ≤ W1.heap.size → I W1.heap.size [] W1)
    (hI : ∀ M s W1 W2, I M s W1 → OutK w.heap.size M W1 W2 → I M s W2)
    (hIx : ∀ c s W1 W2, Ix c s W1 → OutK w.heap.size (w.heap.size + 2) W1 W2 → Ix c s W2)
    (Ax : Nat → α → Act → World → Prop) (hAx : ∀ M x a' W1 W2, Ax M x a' W1 → OutK w.heap.size M W1 W2 → Ax M x a' W2)
    (hassign : ∀ (l M : Nat) (pre : List α) (x : α) (W : World) (K : Act → World → Prop), M ≤ W.heap.size → I M pre W → (∀ a' W', KeepB w.heap.size M W W' → I M pre W' → Ax M x a' W' → K a' W') →
      assign.wpIn (F.inRound l) (n - 1 - 1) P (Exit.then K (fun _ _ _ => False)) { tmps := (ps.zip (encs x)).foldl (fun t (p, v) => t.setIfInBounds p v) a.tmps, defers := [] } W)
    (hbody : ∀ (l M : Nat) (pre : List α) (x : α) (a' : Act) (W : World), w.heap.size + 2 ≤ M → M ≤ W.heap.size → pre ++ [x] <+: L → I M pre W → Ax M x a' W → body.wpIn (F.inRound l) (n - 1 - 1) P (postO w.heap.size M (I M) Ix (pre ++ [x]) W) a' W)
    (hdone : ∀ (D M : Nat) (W : World), w.heap.size ≤ D → I M L W → W.heap[D]? = some (.deferred (some [])) → Q .normal { a with defers := { target := .collected D, args := #[] } :: a.defers } W)
    (hstop : ∀ (D : Nat) (c : Code) (pre : List α) (W : World), w.heap.size ≤ D → pre <+: L → Ix c pre W → W.heap[D]? = some (.deferred (some [])) → c.wpIn F n P Q { a with defers := { target := .collected D, args := #[] } :: a.defers } W) :
    (Code.rangeFunc g ps assign body).wpIn F n P Q a w := by
  refine wpIn_rangeFunc ?_
  intro fn hfn
  rw [hro]
  obtain ⟨rec, hrec⟩ : ∃ rec : LoopState → Option Code → Loop, rec = fun st pe => { state := st, pending := pe, fn, tmps := a.tmps, params := ps, assign, body, defers := w.heap.size } := ⟨_, rfl⟩
  obtain ⟨W1, hW1⟩ : ∃ W1, (w.alloc (.deferred (some []))).alloc (.loop (rec .ready none)) = W1 := ⟨_, rfl⟩
  have hsz : W1.heap.size = w.heap.size + 2 := by rw [← hW1]; simp
  have hL1 : W1.heap[w.heap.size + 1]? = some (.loop (rec .ready none)) := by
    rw [← hW1]; have := World.alloc_heap_new (w.alloc (.deferred (some []))) (.loop (rec .ready none)); rwa [World.size_alloc] at this
  have hK1 : W1.heap[w.heap.size]? = some (.deferred (some [])) := by
    rw [← hW1]; exact (Below.heap_alloc _ _ _ (by simp)).trans (World.alloc_heap_new w _)
  have hbw : Below w.heap.size w W1 := by rw [← hW1]; exact ((Below.refl _ w).alloc (Nat.le_refl _) _).alloc (by simp) _
  have hb1 : Below w0.heap.size w0 W1 := hb0.trans (hbw.mono hb0.size)
  refine ⟨w.heap.size + 1, [{ target := .collected w.heap.size, args := #[] }], W1, { target := .fn (.func gf) lb, args := fs ++ #[.func (.yield (w.heap.size + 1)) #[] #[]] }, W1, gf,
    fs ++ #[.func (.yield (w.heap.size + 1)) #[] #[]] ++ lb, W1, ?_, ?_, ?_, ?_, fun _ => h1, ?_⟩
  · rw [← hW1, hrec]; exact run_enterLoop_outer _ _ _ _ _
  · simp only [resolve, hg]
    simp [go_sem]
  · intro f' hf'; simp [Target.leads] at hf'; subst hf'; exact hFg
  · simp [invoke, go_sem, eg]
  · refine (hseq (w.heap.size + 1)
      (fun M pre W => I M pre W ∧ w.heap.size + 2 ≤ M ∧ W.heap[w.heap.size + 1]? = some (.loop (rec .ready none)) ∧ W.heap[w.heap.size]? = some (.deferred (some [])))
      (fun pre W => ∃ c, Ix c pre W ∧ W.heap[w.heap.size + 1]? = some (.loop (rec .done (some c))) ∧ W.heap[w.heap.size]? = some (.deferred (some [])))
      W1 hb1
      (fun W2 h2 => ⟨hI0 W2 (hbw.trans (h2.mono hbw.size)) (by rw [← hsz]; exact h2.size), by rw [← hsz]; exact h2.size, (h2.block _ (by omega)).trans hL1, (h2.block _ (by omega)).trans hK1⟩)
      (fun M s A B hs ho => ⟨hI M s A B hs.1 (ho.more (by omega) (Nat.le_refl _)), hs.2.1, (ho.block _ (Array.getElem?_eq_some_iff.1 hs.2.2.1).1 (by omega)).trans hs.2.2.1, (ho.block _ (Array.getElem?_eq_some_iff.1 hs.2.2.2).1 (by omega)).trans hs.2.2.2⟩)
      (fun s A B ⟨c, hc, hl, hk⟩ ho => ⟨c, hIx c s A B hc (OutK.of_below ho), (ho.block _ (Array.getElem?_eq_some_iff.1 hl).1).trans hl, (ho.block _ (Array.getElem?_eq_some_iff.1 hk).1).trans hk⟩)
      ?_).mono ?_
    · rintro M pre x W hlen hMW ⟨hi, hM, hl, hk⟩
      have hy := run_yield (P := P) (args := encs x) hl (by rw [hrec]; exact hps x)
      rw [hrec] at hy
      refine ⟨fn, _, assign, body, hy, roundIn_of_wpIn hfn (hassign _ M pre x W _ hMW hi ?_)⟩
      clear hy
      intro a' Wa hkfa hia hax
      have hla := (hkfa.block _ (by omega) (by omega)).trans hl
      have hka := (hkfa.block _ (by omega) (by omega)).trans hk
      have hlt : w.heap.size + 1 < Wa.heap.size := (Array.getElem?_eq_some_iff.1 hla).1
      refine ⟨_, run_beginRound hla (by rw [hrec]), ?_⟩
      have hl2 : (Wa.putObj (w.heap.size + 1) (.loop { rec .ready none with state := .busy })).heap[w.heap.size + 1]? = some (.loop { rec .ready none with state := .busy }) := World.putObj_heap_same hlt
      have hk2 : (Wa.putObj (w.heap.size + 1) (.loop { rec .ready none with state := .busy })).heap[w.heap.size]? = some (.deferred (some [])) := (World.putObj_heap_other (by omega)).trans hka
      have hob : ∀ (A : World) (o : Obj), OutK w.heap.size M A (A.putObj (w.heap.size + 1) o) := fun A o => OutK.putObj A (by omega) (by omega) o
      have hkb : ∀ (A : World) (o : Obj), KeepB (w.heap.size + 2) M A (A.putObj (w.heap.size + 1) o) := fun A o => KeepB.putObj A (by omega) o
      have hsz2 : (Wa.putObj (w.heap.size + 1) (.loop { rec .ready none with state := .busy })).heap.size = Wa.heap.size := by simp
      refine wpIn_mono (hbody _ M pre x a' _ hM (by rw [hsz2]; exact Nat.le_trans hMW hkfa.size) hlen (hI _ _ _ _ hia (hob _ _)) (hAx _ _ _ _ _ hax (hob _ _))) ?_
      have fin : ∀ (jump : Option Code) (W3 : World), KeepB w.heap.size M (Wa.putObj (w.heap.size + 1) (.loop { rec .ready none with state := .busy })) W3 →
          (Instr.endRound (w.heap.size + 1) jump).run P W3 = .ok (.bool jump.isNone) (W3.putObj (w.heap.size + 1) (.loop (rec (if jump.isNone then .ready else .done) jump))) ∧
          (W3.putObj (w.heap.size + 1) (.loop (rec (if jump.isNone then .ready else .done) jump))).heap[w.heap.size + 1]? = some (.loop (rec (if jump.isNone then .ready else .done) jump)) ∧
          (W3.putObj (w.heap.size + 1) (.loop (rec (if jump.isNone then .ready else .done) jump))).heap[w.heap.size]? = some (.deferred (some [])) ∧
          KeepB (w.heap.size + 2) M W (W3.putObj (w.heap.size + 1) (.loop (rec (if jump.isNone then .ready else .done) jump))) := fun jump W3 hk3 => by
        have hl3 := (hk3.block _ (by omega) (by omega)).trans hl2
        have := run_endRound (P := P) jump hl3
        rw [hrec] at this ⊢
        refine ⟨this, World.putObj_heap_same (Array.getElem?_eq_some_iff.1 hl3).1, (World.putObj_heap_other (by omega)).trans ((hk3.block _ (by omega) (by omega)).trans hk2), ?_⟩
        exact (((hkfa.more (by omega) (Nat.le_refl _)).trans (hkb _ _)).trans (hk3.more (by omega) (Nat.le_refl _))).trans (hkb _ _)
      have hox : ∀ (A : World) (o : Obj), OutK w.heap.size (w.heap.size + 2) A (A.putObj (w.heap.size + 1) o) := fun A o => OutK.putObj A (by omega) (by omega) o
      rintro e a3 W3 hp
      cases e with
      | normal =>
        obtain ⟨hk3, hi3⟩ := hp
        obtain ⟨hr, hl4, hk4, hkk⟩ := fin none W3 hk3
        exact ⟨_, _, hr, .inl ⟨rfl, ⟨hI _ _ _ _ hi3 (hob _ _), hM, hl4, hk4⟩, by rw [hsz]; exact hkk⟩⟩
      | ret =>
        obtain ⟨hk3, hi3⟩ := hp
        obtain ⟨hr, hl4, hk4, hkk⟩ := fin (some .ret) W3 hk3
        exact ⟨_, _, hr, .inr ⟨rfl, .ret, hIx _ _ _ _ hi3 (hox _ _), hl4, hk4⟩⟩
      | exit id =>
        obtain ⟨hk3, hi3⟩ := hp
        obtain ⟨hr, hl4, hk4, hkk⟩ := fin (some (.exit id)) W3 hk3
        exact ⟨_, _, hr, .inr ⟨rfl, .exit id, hIx _ _ _ _ hi3 (hox _ _), hl4, hk4⟩⟩
      | goto t =>
        obtain ⟨hk3, hi3⟩ := hp
        obtain ⟨hr, hl4, hk4, hkk⟩ := fin (some (.goto t)) W3 hk3
        exact ⟨_, _, hr, .inr ⟨rfl, .goto t, hIx _ _ _ _ hi3 (hox _ _), hl4, hk4⟩⟩
      | panic ch => exact (hp : False).elim
      | outgrown => exact (hp : False).elim
    · rintro e W2 ⟨⟨v, rfl⟩, (⟨M, hi, hM, hl, hk⟩ | ⟨pre, hSp, c, hi, hl, hk⟩)⟩
      · exact ⟨none, _, by have := run_endLoop (P := P) hl (by rw [hrec]; simp); rw [hrec] at this; exact this, hdone _ M _ (Nat.le_refl _) (hI _ _ _ _ hi (OutK.putObj _ (by omega) (by omega) _)) ((World.putObj_heap_other (by omega)).trans hk)⟩
      · exact ⟨some c, _, by have := run_endLoop (P := P) hl (by rw [hrec]; simp); rw [hrec] at this; exact this, hstop _ c pre _ (Nat.le_refl _) hSp (hIx _ _ _ _ hi (OutK.putObj _ (by omega) (by omega) _)) ((World.putObj_heap_other (by omega)).trans hk)⟩
end Go.Proofs.YtlkkkgpcjdemdaaDoor
/- Words that hang on no chapter: as Zl's law, for an iterator that reads between two rounds what lay there before (Z: what it asks of the world at every round's head; the body must keep it). -/
namespace Go.Proofs.YtlkkkgpcjdemdaaDoor
open Go Go.RowKit
set_option maxHeartbeats 4000000
set_option maxRecDepth 100000
/-- what such an iterator's call does, at whatever yield: M is the heap's size at its first value -/
def SeqZ {α : Type} (F : Fence) (n : Nat) (P : Program) (g : Nat) (fs lb : Array Value) (encs : α → Array Value) (L : List α) (Z : World → Prop) (w : World) : Prop :=
  ∀ (l : Nat) (J : Nat → List α → World → Prop) (Jx : List α → World → Prop) (W : World), Below w.heap.size w W →
    (∀ M s W1, J M s W1 → Z W1) →
    (∀ W1, Below W.heap.size W W1 → J W1.heap.size [] W1) →
    (∀ M s W1 W2, J M s W1 → OutK W.heap.size M W1 W2 → J M s W2) →
    (∀ s W1 W2, Jx s W1 → Below W1.heap.size W1 W2 → Jx s W2) →
    (∀ M pre x W1, pre ++ [x] <+: L → M ≤ W1.heap.size → J M pre W1 → YieldAt F (n - 1) P l (encs x) W1 fun e W' =>
      (e = .returned (.bool true) ∧ J M (pre ++ [x]) W' ∧ KeepB W.heap.size M W1 W') ∨ (e = .returned (.bool false) ∧ Jx (pre ++ [x]) W')) →
    CallsIn F n P g (fs ++ #[.func (.yield l) #[] #[]] ++ lb) W fun e W' => (∃ v, e = .returned v) ∧ ((∃ M, J M L W') ∨ ∃ pre, pre <+: L ∧ Jx pre W')
variable {F : Fence} {n : Nat} {P : Program}
theorem SeqZ.inRound {α : Type} {g : Nat} {fs lb : Array Value} {encs : α → Array Value} {L : List α} {Z : World → Prop} {w : World} (l : Nat) (h : SeqZ F n P g fs lb encs L Z w) : SeqZ (F.inRound l) n P g fs lb encs L Z w := h
theorem wpIn_rangeFunc_z {α : Type} {g : Operand} {ps : Array Tmp} {assign body : Code} {Q : Exit → Act → World → Prop} {a : Act} {w : World}
    (hro : F.round = none) (h1 : 1 ≤ n) {gf : Nat} {fs lb : Array Value} (hg : a.eval g = .func (.func gf) fs lb) (hFg : F.fn gf) (eg : ∀ args w, (callFunc gf args).run P w = .ok (.enter gf args) w)
    {encs : α → Array Value} {L : List α} {Z : World → Prop} {w0 : World} (hseq : SeqZ F (n - 1) P gf fs lb encs L Z w0)
    (hb0 : Below w0.heap.size w0 w) (hps : ∀ x, (encs x).size = ps.size)
    (I : Nat → List α → World → Prop) (Ix : Code → List α → World → Prop)
    (hZ : ∀ M s W, I M s W → Z W)
    (hI0 : ∀ W1, Below w.heap.size w W1 → w.heap.size + 2 ≤ W1.heap.size → I W1.heap.size [] W1)
    (hI : ∀ M s W1 W2, I M s W1 → OutK w.heap.size M W1 W2 → I M s W2)
    (hIx : ∀ c s W1 W2, Ix c s W1 → OutK w.heap.size (w.heap.size + 2) W1 W2 → Ix c s W2)
    (Ax : Nat → α → Act → World → Prop) (hAx : ∀ M x a' W1 W2, Ax M x a' W1 → OutK w.heap.size M W1 W2 → Ax M x a' W2)
    (hassign : ∀ (l M : Nat) (pre : List α) (x : α) (W : World) (K : Act → World → Prop), M ≤ W.heap.size → I M pre W → (∀ a' W', KeepB w.heap.size M W W' → I M pre W' → Ax M x a' W' → K a' W') →
      assign.wpIn (F.inRound l) (n - 1 - 1) P (Exit.then K (fun _ _ _ => False)) { tmps := (ps.zip (encs x)).foldl (fun t (p, v) => t.setIfInBounds p v) a.tmps, defers := [] } W)
    (hbody : ∀ (l M : Nat) (pre : List α) (x : α) (a' : Act) (W : World), w.heap.size + 2 ≤ M → M ≤ W.heap.size → pre ++ [x] <+: L → I M pre W → Ax M x a' W → body.wpIn (F.inRound l) (n - 1 - 1) P (postO w.heap.size M (I M) Ix (pre ++ [x]) W) a' W)
    (hdone : ∀ (D M : Nat) (W : World), w.heap.size ≤ D → I M L W → W.heap[D]? = some (.deferred (some [])) → Q .normal { a with defers := { target := .collected D, args := #[] } :: a.defers } W)
    (hstop : ∀ (D : Nat) (c : Code) (pre : List α) (W : World), w.heap.size ≤ D → pre <+: L → Ix c pre W → W.heap[D]? = some (.deferred (some [])) → c.wpIn F n P Q { a with defers := { target := .collected D, args := #[] } :: a.defers } W) :
    (Code.rangeFunc g ps assign body).wpIn F n P Q a w := by
  refine wpIn_rangeFunc ?_
  intro fn hfn
  rw [hro]
  obtain ⟨rec, hrec⟩ : ∃ rec : LoopState → Option Code → Loop, rec = fun st pe => { state := st, pending := pe, fn, tmps := a.tmps, params := ps, assign, body, defers := w.heap.size } := ⟨_, rfl⟩
  obtain ⟨W1, hW1⟩ : ∃ W1, (w.alloc (.deferred (some []))).alloc (.loop (rec .ready none)) = W1 := ⟨_, rfl⟩
  have hsz : W1.heap.size = w.heap.size + 2 := by rw [← hW1]; simp
  have hL1 : W1.heap[w.heap.size + 1]? = some (.loop (rec .ready none)) := by
    rw [← hW1]; have := World.alloc_heap_new (w.alloc (.deferred (some []))) (.loop (rec .ready none)); rwa [World.size_alloc] at this
  have hK1 : W1.heap[w.heap.size]? = some (.deferred (some [])) := by
    rw [← hW1]; exact (Below.heap_alloc _ _ _ (by simp)).trans (World.alloc_heap_new w _)
  have hbw : Below w.heap.size w W1 := by rw [← hW1]; exact ((Below.refl _ w).alloc (Nat.le_refl _) _).alloc (by simp) _
  have hb1 : Below w0.heap.size w0 W1 := hb0.trans (hbw.mono hb0.size)
  refine ⟨w.heap.size + 1, [{ target := .collected w.heap.size, args := #[] }], W1, { target := .fn (.func gf) lb, args := fs ++ #[.func (.yield (w.heap.size + 1)) #[] #[]] }, W1, gf,
    fs ++ #[.func (.yield (w.heap.size + 1)) #[] #[]] ++ lb, W1, ?_, ?_, ?_, ?_, fun _ => h1, ?_⟩
  · rw [← hW1, hrec]; exact run_enterLoop_outer _ _ _ _ _
  · simp only [resolve, hg]
    simp [go_sem]
  · intro f' hf'; simp [Target.leads] at hf'; subst hf'; exact hFg
  · simp [invoke, go_sem, eg]
  · refine (hseq (w.heap.size + 1)
      (fun M pre W => I M pre W ∧ w.heap.size + 2 ≤ M ∧ W.heap[w.heap.size + 1]? = some (.loop (rec .ready none)) ∧ W.heap[w.heap.size]? = some (.deferred (some [])))
      (fun pre W => ∃ c, Ix c pre W ∧ W.heap[w.heap.size + 1]? = some (.loop (rec .done (some c))) ∧ W.heap[w.heap.size]? = some (.deferred (some [])))
      W1 hb1
      (fun M s A hs => hZ M s A hs.1)
      (fun W2 h2 => ⟨hI0 W2 (hbw.trans (h2.mono hbw.size)) (by rw [← hsz]; exact h2.size), by rw [← hsz]; exact h2.size, (h2.block _ (by omega)).trans hL1, (h2.block _ (by omega)).trans hK1⟩)
      (fun M s A B hs ho => ⟨hI M s A B hs.1 (ho.more (by omega) (Nat.le_refl _)), hs.2.1, (ho.block _ (Array.getElem?_eq_some_iff.1 hs.2.2.1).1 (by omega)).trans hs.2.2.1, (ho.block _ (Array.getElem?_eq_some_iff.1 hs.2.2.2).1 (by omega)).trans hs.2.2.2⟩)
      (fun s A B ⟨c, hc, hl, hk⟩ ho => ⟨c, hIx c s A B hc (OutK.of_below ho), (ho.block _ (Array.getElem?_eq_some_iff.1 hl).1).trans hl, (ho.block _ (Array.getElem?_eq_some_iff.1 hk).1).trans hk⟩)
      ?_).mono ?_
    · rintro M pre x W hlen hMW ⟨hi, hM, hl, hk⟩
      have hy := run_yield (P := P) (args := encs x) hl (by rw [hrec]; exact hps x)
      rw [hrec] at hy
      refine ⟨fn, _, assign, body, hy, roundIn_of_wpIn hfn (hassign _ M pre x W _ hMW hi ?_)⟩
      clear hy
      intro a' Wa hkfa hia hax
      have hla := (hkfa.block _ (by omega) (by omega)).trans hl
      have hka := (hkfa.block _ (by omega) (by omega)).trans hk
      have hlt : w.heap.size + 1 < Wa.heap.size := (Array.getElem?_eq_some_iff.1 hla).1
      refine ⟨_, run_beginRound hla (by rw [hrec]), ?_⟩
      have hl2 : (Wa.putObj (w.heap.size + 1) (.loop { rec .ready none with state := .busy })).heap[w.heap.size + 1]? = some (.loop { rec .ready none with state := .busy }) := World.putObj_heap_same hlt
      have hk2 : (Wa.putObj (w.heap.size + 1) (.loop { rec .ready none with state := .busy })).heap[w.heap.size]? = some (.deferred (some [])) := (World.putObj_heap_other (by omega)).trans hka
      have hob : ∀ (A : World) (o : Obj), OutK w.heap.size M A (A.putObj (w.heap.size + 1) o) := fun A o => OutK.putObj A (by omega) (by omega) o
      have hkb : ∀ (A : World) (o : Obj), KeepB (w.heap.size + 2) M A (A.putObj (w.heap.size + 1) o) := fun A o => KeepB.putObj A (by omega) o
      have hsz2 : (Wa.putObj (w.heap.size + 1) (.loop { rec .ready none with state := .busy })).heap.size = Wa.heap.size := by simp
      refine wpIn_mono (hbody _ M pre x a' _ hM (by rw [hsz2]; exact Nat.le_trans hMW hkfa.size) hlen (hI _ _ _ _ hia (hob _ _)) (hAx _ _ _ _ _ hax (hob _ _))) ?_
      have fin : ∀ (jump : Option Code) (W3 : World), KeepB w.heap.size M (Wa.putObj (w.heap.size + 1) (.loop { rec .ready none with state := .busy })) W3 →
          (Instr.endRound (w.heap.size + 1) jump).run P W3 = .ok (.bool jump.isNone) (W3.putObj (w.heap.size + 1) (.loop (rec (if jump.isNone then .ready else .done) jump))) ∧
          (W3.putObj (w.heap.size + 1) (.loop (rec (if jump.isNone then .ready else .done) jump))).heap[w.heap.size + 1]? = some (.loop (rec (if jump.isNone then .ready else .done) jump)) ∧
          (W3.putObj (w.heap.size + 1) (.loop (rec (if jump.isNone then .ready else .done) jump))).heap[w.heap.size]? = some (.deferred (some [])) ∧
          KeepB (w.heap.size + 2) M W (W3.putObj (w.heap.size + 1) (.loop (rec (if jump.isNone then .ready else .done) jump))) := fun jump W3 hk3 => by
        have hl3 := (hk3.block _ (by omega) (by omega)).trans hl2
        have := run_endRound (P := P) jump hl3
        rw [hrec] at this ⊢
        refine ⟨this, World.putObj_heap_same (Array.getElem?_eq_some_iff.1 hl3).1, (World.putObj_heap_other (by omega)).trans ((hk3.block _ (by omega) (by omega)).trans hk2), ?_⟩
        exact (((hkfa.more (by omega) (Nat.le_refl _)).trans (hkb _ _)).trans (hk3.more (by omega) (Nat.le_refl _))).trans (hkb _ _)
      have hox : ∀ (A : World) (o : Obj), OutK w.heap.size (w.heap.size + 2) A (A.putObj (w.heap.size + 1) o) := fun A o => OutK.putObj A (by omega) (by omega) o
      rintro e a3 W3 hp
      cases e with
      | normal =>
        obtain ⟨hk3, hi3⟩ := hp
        obtain ⟨hr, hl4, hk4, hkk⟩ := fin none W3 hk3
        exact ⟨_, _, hr, .inl ⟨rfl, ⟨hI _ _ _ _ hi3 (hob _ _), hM, hl4, hk4⟩, by rw [hsz]; exact hkk⟩⟩
      | ret =>
        obtain ⟨hk3, hi3⟩ := hp
        obtain ⟨hr, hl4, hk4, hkk⟩ := fin (some .ret) W3 hk3
        exact ⟨_, _, hr, .inr ⟨rfl, .ret, hIx _ _ _ _ hi3 (hox _ _), hl4, hk4⟩⟩
      | exit id =>
        obtain ⟨hk3, hi3⟩ := hp
        obtain ⟨hr, hl4, hk4, hkk⟩ := fin (some (.exit id)) W3 hk3
        exact ⟨_, _, hr, .inr ⟨rfl, .exit id, hIx _ _ _ _ hi3 (hox _ _), hl4, hk4⟩⟩
      | goto t =>
        obtain ⟨hk3, hi3⟩ := hp
        obtain ⟨hr, hl4, hk4, hkk⟩ := fin (some (.goto t)) W3 hk3
        exact ⟨_, _, hr, .inr ⟨rfl, .goto t, hIx _ _ _ _ hi3 (hox _ _), hl4, hk4⟩⟩
      | panic ch => exact (hp : False).elim
      | outgrown => exact (hp : False).elim
    · rintro e W2 ⟨⟨v, rfl⟩, (⟨M, hi, hM, hl, hk⟩ | ⟨pre, hSp, c, hi, hl, hk⟩)⟩
      · exact ⟨none, _, by have := run_endLoop (P := P) hl (by rw [hrec]; simp); rw [hrec] at this; exact this, hdone _ M _ (Nat.le_refl _) (hI _ _ _ _ hi (OutK.putObj _ (by omega) (by omega) _)) ((World.putObj_heap_other (by omega)).trans hk)⟩
      · exact ⟨some c, _, by have := run_endLoop (P := P) hl (by rw [hrec]; simp); rw [hrec] at this; exact this, hstop _ c pre _ (Nat.le_refl _) hSp (hIx _ _ _ _ hi (OutK.putObj _ (by omega) (by omega) _)) ((World.putObj_heap_other (by omega)).trans hk)⟩
end Go.Proofs.YtlkkkgpcjdemdaaDoor
/- Song, plain: in how many ways a pattern can be filled. -/
namespace Go.Proofs.YtlkkkgpcjdemdaaDoor
open Go Go.RowKit
set_option maxHeartbeats 1000000
/-- how many units are left behind a syllable of d; -1: any number -/
def lfW (left d : Int) : Int := if 0 ≤ left then left - d else left
/-- can a syllable of d units, w, stand where the pattern has c? -/
def okW (c w : UInt8) (left d : Int) : Bool := (c == 120 || c == w) && (decide (left < 0) || decide (d ≤ left))
/-- the ways from a place on: the pattern's rest, and what is left -/
def ctW : List UInt8 → Int → Nat
  | [], left => if 0 < left then 0 else 1
  | c :: r, left => (if okW c 103 left 2 then ctW r (lfW left 2) else 0) + (if okW c 108 left 1 then ctW r (lfW left 1) else 0)
theorem ctW_le : ∀ (p : List UInt8) (left : Int), ctW p left ≤ 2 ^ p.length
  | [], left => by unfold ctW; split <;> simp
  | c :: r, left => by
    have h1 := ctW_le r (lfW left 2)
    have h2 := ctW_le r (lfW left 1)
    unfold ctW
    rw [List.length_cons, Nat.pow_succ]
    split <;> split <;> omega
theorem ctW_bd {p : List UInt8} (h : p.length ≤ 60) (left : Int) : ctW p left ≤ 1152921504606846976 := by
  refine Nat.le_trans (ctW_le p left) ?_
  exact Nat.le_trans (Nat.pow_le_pow_right (by omega) h) (by decide)
/-- where the count begins -/
def beW (u : Int) : Int := if u = 0 then -1 else u
/-- what stands left at any place: -1, or at most 120 -/
def LfOk (left : Int) : Prop := -1 ≤ left ∧ left ≤ 120
theorem LfOk.next {left d : Int} (h : LfOk left) (h1 : 1 ≤ d) (hok : left < 0 ∨ d ≤ left) : LfOk (lfW left d) := by
  unfold LfOk lfW at *; split <;> omega
theorem beW_ok {u : Int} (h : 0 ≤ u ∧ u ≤ 120) : LfOk (beW u) := by unfold LfOk beW; split <;> omega
end Go.Proofs.YtlkkkgpcjdemdaaDoor
/- Words of this proof family that hang on no chapter: what stays beside a block that is written (KX); own lists lie apart. -/
namespace Go.Proofs.YtlkkkgpcjdemdaaDoor
open Go Go.RowKit Go.Shelf
set_option maxHeartbeats 2000000
set_option maxRecDepth 100000
theorem run_append_none0 {P : Program} {w : World} {base : Nat} (t ty e : TypeId) (i : TypeInfo) (size : Nat) (ht : P.underlying t = some (.slice e)) (hi : P.info? e = some i)
    (v : Value) (n c : Nat) (xs : List Value) (hown : w.ownsRow base e size v n xs) :
    (Builtin.append_ #[t, t] ty #[v, .slice none 0 c]).run P w = .ok v w := by
  rcases hown.2 with ⟨rfl, rfl⟩ | ⟨g, cap, cur, rfl, _, _, hnc, _⟩
  · simp [Builtin.append_, run_underlying ht, sizeOf, typeInfo, hi, Builtin.lenOf, Builtin.firstCells]
  · simp [Builtin.append_, run_underlying ht, sizeOf, typeInfo, hi, Builtin.lenOf, Builtin.firstCells, hnc, storeCells]
/-- what stays where an editor writes: all but its own block and the block of its list -/
structure KX (w w' : World) (X : Nat) (row : Option Nat) : Prop where
  os : w'.os = w.os
  tape : w'.tape = w.tape
  output : w'.output = w.output
  size : w.heap.size ≤ w'.heap.size
  block : ∀ k, k < w.heap.size → k ≠ X → some k ≠ row → w'.heap[k]? = w.heap[k]?
theorem KX.refl (w : World) (X : Nat) (row : Option Nat) : KX w w X row := ⟨rfl, rfl, rfl, Nat.le_refl _, fun _ _ _ _ => rfl⟩
theorem KX.of_below {w w' : World} (X : Nat) (row : Option Nat) (h : Below w.heap.size w w') : KX w w' X row := ⟨h.os, h.tape, h.output, h.size, fun k hk _ _ => h.block k hk⟩
theorem KX.grown {w w1 w2 : World} {X : Nat} {row : Option Nat} (h : KX w w1 X row) (hg : w1.grownBy w2 row) : KX w w2 X row :=
  ⟨hg.os.trans h.os, hg.tape.trans h.tape, hg.output.trans h.output, Nat.le_trans h.size hg.size, fun k hk h1 h2 => (hg.block k (Nat.lt_of_lt_of_le hk h.size) h2).trans (h.block k hk h1 h2)⟩
theorem KX.set {w w1 : World} {X : Nat} {row : Option Nat} (h : KX w w1 X row) (i : Nat) (u : Value) : KX w (w1.setCell ⟨X, i, none⟩ u) X row := by
  have hb : Below X w1 (w1.setCell ⟨X, i, none⟩ u) := (Below.refl X w1).setCell (p := ⟨X, i, none⟩) (Nat.le_refl _) u
  exact ⟨hb.os.trans h.os, hb.tape.trans h.tape, hb.output.trans h.output, Nat.le_trans h.size hb.size, fun k hk h1 h2 => (Below.heap_setCell w1 ⟨X, i, none⟩ u k h1).trans (h.block k hk h1 h2)⟩
/-- one after another: the later list's block is the earlier one's, or new -/
theorem KX.trans {w w1 w2 : World} {X : Nat} {row row1 : Option Nat} (h : KX w w1 X row) (h2 : KX w1 w2 X row1) (hr : row1 = row ∨ ∀ k, row1 = some k → w.heap.size ≤ k) : KX w w2 X row :=
  ⟨h2.os.trans h.os, h2.tape.trans h.tape, h2.output.trans h.output, Nat.le_trans h.size h2.size, fun k hk h1 h3 => by
    refine (h2.block k (Nat.lt_of_lt_of_le hk h.size) h1 ?_).trans (h.block k hk h1 h3)
    rcases hr with rfl | hr
    · exact h3
    · intro e
      have := hr k e.symm
      omega⟩
theorem Blk.kx {w w' : World} {X : Nat} {row : Option Nat} {g : Nat} {t : TypeId} {cs : Array Value} (h : Blk w g t cs) (hk : KX w w' X row) (h1 : g ≠ X) (h2 : some g ≠ row) : Blk w' g t cs := (hk.block g h.lt h1 h2).trans h
/-- own lists of different types lie apart -/
theorem own_own_ne {w : World} {b1 b2 : Nat} {e1 e2 : TypeId} {s1 s2 n1 n2 : Nat} {v1 v2 : Value} {x1 x2 : List Value} (h1 : w.ownsRow b1 e1 s1 v1 n1 x1) (h2 : w.ownsRow b2 e2 s2 v2 n2 x2) (hne : e1 ≠ e2) :
    v1.ownBlock = none ∨ v1.ownBlock ≠ v2.ownBlock := by
  rcases h2.2 with ⟨rfl, -⟩ | ⟨g, cap, cur, rfl, -, hg, -⟩
  · cases hv : v1.ownBlock with
    | none => exact .inl rfl
    | some k => exact .inr (by simp [Value.ownBlock])
  · refine .inr (fun e => own_blk_ne h1 (g := g) (t := e2) (cs := cur) hg hne ?_)
    rw [e]; rfl
/-- an own list stays where an editor writes -/
theorem own_kx {w w' : World} {X : Nat} {row : Option Nat} {b n s : Nat} {t : TypeId} {v : Value} {xs : List Value} (h : w.ownsRow b t s v n xs) (hk : KX w w' X row) (h1 : v.ownBlock ≠ some X) (h2 : v.ownBlock = none ∨ v.ownBlock ≠ row) : w'.ownsRow b t s v n xs := by
  refine ⟨h.1, ?_⟩
  rcases h.2 with ⟨rfl, h0⟩ | ⟨g, cap, cur, rfl, hb, hg, h3⟩
  · exact .inl ⟨rfl, h0⟩
  · refine .inr ⟨g, cap, cur, rfl, hb, ?_, h3⟩
    have hlt := (World.ownsRow.lt h g rfl).2
    rw [hk.block g hlt (fun e => h1 (by rw [e]; rfl)) ?_]
    · exact hg
    · rcases h2 with h2 | h2
      · cases h2
      · exact h2
theorem none_or {v : Value} : v.ownBlock = none ∨ v.ownBlock ≠ none := by
  cases v.ownBlock with
  | none => exact .inl rfl
  | some k => exact .inr (by simp)
theorem blk_kx {W W' : World} {X g : Nat} {row : Option Nat} {t : TypeId} {cs : Array Value} (h : Blk W g t cs) (hk : KX W W' X row) (h1 : g ≠ X) (h2 : some g ≠ row) : Blk W' g t cs := (hk.block g h.lt h1 h2).trans h
theorem own_low {W : World} {b b' : Nat} {e : TypeId} {size n : Nat} {v : Value} {xs : List Value} (h : W.ownsRow b e size v n xs) (hb : b' ≤ b) : W.ownsRow b' e size v n xs := by
  refine ⟨h.1, ?_⟩
  rcases h.2 with h2 | ⟨g, cap, cur, h2, h3, h4⟩
  · exact .inl h2
  · exact .inr ⟨g, cap, cur, h2, Nat.le_trans hb h3, h4⟩
theorem own_grown {W W' : World} {b : Nat} {e : TypeId} {size n : Nat} {v : Value} {xs : List Value} {row : Option Nat} (h : W.ownsRow b e size v n xs) (hg : W.grownBy W' row) (h2 : v.ownBlock = none ∨ v.ownBlock ≠ row) : W'.ownsRow b e size v n xs :=
  own_kx h ((KX.refl W W.heap.size row).grown hg) (fun he => by
    have := (World.ownsRow.lt h W.heap.size he).2
    omega) h2
theorem ne_or {a b : Option Nat} (h : a = none ∨ b = none ∨ a ≠ b) : (a = none ∨ a ≠ b) ∧ (b = none ∨ b ≠ a) := by
  rcases h with h | h | h
  · subst h
    cases b with
    | none => exact ⟨.inl rfl, .inl rfl⟩
    | some b => exact ⟨.inl rfl, .inr (by simp)⟩
  · subst h
    cases a with
    | none => exact ⟨.inl rfl, .inl rfl⟩
    | some a => exact ⟨.inr (by simp), .inl rfl⟩
  · exact ⟨.inr h, .inr (fun e => h e.symm)⟩
end Go.Proofs.YtlkkkgpcjdemdaaDoor
/- Words that hang on no chapter: lists of ints that are read; own lists of ints. -/
namespace Go.Proofs.YtlkkkgpcjdemdaaDoor
open Go Go.RowKit Go.Shelf
set_option maxHeartbeats 2000000
set_option maxRecDepth 100000
theorem VR1.at_ {w : World} {B n : Nat} {A : Option Addr} {u : Nat → Value} (h : ER w B 1 A n fun k _ => u k) {k : Nat} (hk : k < n) :
    ∃ b off, A = some ⟨b, off, none⟩ ∧ b < B ∧ w.cell? ⟨b, off + k, none⟩ = some (u k) := by
  obtain ⟨b, off, hA, hlt, hc⟩ := h (by omega)
  exact ⟨b, off, hA, hlt, by simpa using hc k 0 hk (by omega)⟩
/-- a list of ints that is read -/
def LI (w : World) (B : Nat) (A : Option Addr) (l : List Int) : Prop := ER w B 1 A l.length fun k _ => .int .i64 (l.getD k 0)
theorem getD_allI {l m : List Int} (hl : l.length = m.length) (h : ∀ k, k < l.length → l.getD k 0 = m.getD k 0) : l = m := by
  apply List.ext_getElem hl
  intro k h1 h2
  have := h k h1
  rwa [List.getD_eq_getElem?_getD, List.getD_eq_getElem?_getD, List.getElem?_eq_getElem h1, List.getElem?_eq_getElem h2] at this
theorem info_int' : (Tryd.prog.info? 3).map (fun i => (i.zero, i.size, i.bytes)) = some (some (.int .i64 0), 1, 8) := by kernel_rfl
def intJ (l : List Int) : List Value := l.map (.int .i64)
theorem intJ_one (l : List Int) : ∀ u ∈ intJ l, u.oneCell' = true := by
  intro u hu
  obtain ⟨x, -, rfl⟩ := List.mem_map.1 hu
  rfl
theorem intJ_len (l : List Int) : (intJ l).length = l.length := by simp [intJ]
theorem intJ_append (l m : List Int) : intJ (l ++ m) = intJ l ++ intJ m := by simp [intJ]
/-- an own list of intJ -/
def OwnJ (W : World) (n0 : Nat) (v : Value) (l : List Int) : Prop := W.ownsRow n0 3 1 v l.length (intJ l)
theorem OwnJ.nil (W : World) (n0 : Nat) : OwnJ W n0 (.slice none 0 0) [] := ⟨rfl, .inl ⟨rfl, rfl⟩⟩
theorem OwnJ.ext {W W' : World} {n0 : Nat} {v : Value} {l : List Int} (h : OwnJ W n0 v l) (hb : Below W.heap.size W W') : OwnJ W' n0 v l := ownBelow h hb
theorem intJ_at (l : List Int) {k : Nat} (hk : k < l.length) : (intJ l)[k]? = some (.int .i64 (l.getD k 0)) := by
  unfold intJ
  rw [List.getElem?_map, List.getElem?_eq_getElem hk, List.getD_eq_getElem?_getD, List.getElem?_eq_getElem hk]; rfl
theorem OwnJ.pushes {W : World} {base : Nat} {v : Value} {l : List Int} (h : OwnJ W base v l) (A : Option Addr) (c : Nat) (m : List Int) (hA : LI W W.heap.size A m) (hl : l.length + m.length ≤ 1000000) (hb : base ≤ W.heap.size) :
    ∃ v' w', (Builtin.append_ #[26, 26] 26 #[v, .slice A m.length c]).run Tryd.prog W = .ok v' w' ∧ OwnJ w' base v' (l ++ m) ∧ W.grownBy w' v.ownBlock ∧ (v'.ownBlock = v.ownBlock ∨ v'.ownBlock = some W.heap.size) := by
  obtain ⟨i0, hi, hz0, hz1, hz2⟩ := info_parts info_int'
  cases A with
  | none =>
    have hm : m = [] := by
      rcases hm : m with _ | ⟨x, m⟩
      · rfl
      · exfalso
        obtain ⟨b, off, hA, -⟩ := hA (by rw [hm]; simp)
        cases hA
    subst hm
    refine ⟨v, W, run_append_none0 (P := Tryd.prog) _ _ 3 i0 1 Tryd.underlying26 hi v l.length c (intJ l) h, by simpa using h, World.grownBy.refl _ _, .inl rfl⟩
  | some a =>
    have hcells : ∀ j u, (intJ m)[j]? = some u → W.cell? (a.add j) = some u := by
      intro j u hj
      have hlt : j < m.length := by
        have := (List.getElem?_eq_some_iff.1 hj).1
        rwa [intJ_len] at this
      obtain ⟨b, off, hA', -, hc⟩ := VR1.at_ hA hlt
      injection hA' with hA'
      subst hA'
      rw [intJ_at m hlt] at hj
      have e4 : ((⟨b, off, none⟩ : Addr).add j) = ⟨b, off + j, none⟩ := by simp [Addr.add]
      rw [e4, ← hj]
      exact hc
    obtain ⟨v', w', hr, h2, h3, -, h4⟩ := run_append_own_at (P := Tryd.prog) (w := W) base 26 26 3 i0 _ 1 8 Tryd.underlying26 hi hz0 hz1 hz2 rfl (by decide) v l.length (intJ l) h
      a m.length c (intJ m) (by rw [intJ_len]; omega) hcells (intJ_one m) (by unfold maxLen; omega) (by omega) hb
    refine ⟨v', w', hr, ?_, h3, h4⟩
    unfold OwnJ
    rw [intJ_append, List.length_append]
    exact h2
theorem OwnJ.made0 (W : World) : OwnJ (W.alloc (.cells #[] 3)) W.heap.size (.slice (some ⟨W.heap.size, 0, none⟩) 0 0) [] :=
  World.ownsRow_made W #[] 0 (Nat.le_refl _) (by unfold maxLen; omega) rfl
theorem LI.one (W : World) (x : Int) : LI (W.alloc (.cells #[.int .i64 x] 3)) (W.alloc (.cells #[.int .i64 x] 3)).heap.size (some ⟨W.heap.size, 0, none⟩) [x] := fun _ => by
  refine ⟨W.heap.size, 0, rfl, by simp, fun k i hk hi => ?_⟩
  have hk : k = 0 := by simp at hk; exact hk
  obtain rfl := hk
  obtain rfl : i = 0 := by omega
  have h := (Blk.new W 3 #[.int .i64 x]).cell 0
  simpa using h
/-- an int is put behind an own list -/
theorem OwnJ.push {W : World} {base : Nat} {v : Value} {l : List Int} (h : OwnJ W base v l) (x : Int) (hl : l.length ≤ 100000) (hb : base ≤ W.heap.size) :
    ∃ v' w', (Builtin.append_ #[26, 26] 26 #[v, .slice (some ⟨W.heap.size, 0, none⟩) 1 1]).run Tryd.prog (W.alloc (.cells #[.int .i64 x] 3)) = .ok v' w' ∧ OwnJ w' base v' (l ++ [x]) ∧ (W.alloc (.cells #[.int .i64 x] 3)).grownBy w' v.ownBlock := by
  have hBA : Below W.heap.size W (W.alloc (.cells #[.int .i64 x] 3)) := (Below.refl _ _).alloc (Nat.le_refl _) _
  obtain ⟨v', w', hr, ho, hg, -⟩ := (h.ext hBA).pushes (some ⟨W.heap.size, 0, none⟩) 1 [x] (LI.one W x) (by simp; omega) (Nat.le_trans hb hBA.size)
  exact ⟨v', w', hr, ho, hg⟩
theorem OwnJ.li {W : World} {n0 : Nat} {A : Option Addr} {n c : Nat} {l : List Int} (h : OwnJ W n0 (.slice A n c) l) : n = l.length ∧ LI W W.heap.size A l := by
  obtain ⟨A', c', e⟩ := own_shape h
  injection e with e1 e2 e3
  subst e2
  refine ⟨rfl, fun hn => ?_⟩
  rcases h.2 with ⟨h1, h2⟩ | ⟨g, cap, cur, h1, h2, h3, h4, h5, h6, h7⟩
  · omega
  · injection h1 with hA
    subst hA
    have hg := (World.ownsRow.lt h g rfl).2
    refine ⟨g, 0, rfl, hg, fun k i hk hi => ?_⟩
    obtain rfl : i = 0 := by omega
    have hc := World.ownsRow.cells h (g := g) rfl k _ (intJ_at l hk)
    have e1 : ((⟨g, 0, none⟩ : Addr).add k) = ⟨g, 0 + k * 1 + 0, none⟩ := by simp [Addr.add]; omega
    rw [e1] at hc
    exact hc
end Go.Proofs.YtlkkkgpcjdemdaaDoor
/- Words that hang on no chapter: small letters. -/
namespace Go.Proofs.YtlkkkgpcjdemdaaDoor
open Go Go.RowKit Go.Shelf
set_option maxHeartbeats 2000000
set_option maxRecDepth 100000
abbrev Wd := ByteArray
def noW : Wd := ⟨#[]⟩
def azB : List UInt8 := [97, 98, 99, 100, 101, 102, 103, 104, 105, 106, 107, 108, 109, 110, 111, 112, 113, 114, 115, 116, 117, 118, 119, 120, 121, 122]
def lowerB (c : UInt8) : Bool := decide (97 ≤ c.toNat) && decide (c.toNat ≤ 122)
theorem az_iff (c : UInt8) : azB.contains c = lowerB c := by
  have h : ∀ n : Fin 256, azB.contains (UInt8.ofFin n) = lowerB (UInt8.ofFin n) := by decide
  exact h c.toFin
/-- a word -/
def wordB (s : ByteArray) : Bool := (decide (1 ≤ s.size) && decide (s.size ≤ 12)) && s.data.toList.all lowerB
theorem drop_all (p : UInt8 → Bool) : ∀ l : List UInt8, (l.dropWhile p).all p = l.all p
  | [] => rfl
  | x :: l => by
    rcases h : p x with _ | _
    · rw [List.dropWhile_cons_of_neg (by simp [h])]
    · rw [List.dropWhile_cons_of_pos h, drop_all p l, List.all_cons, h, Bool.true_and]
theorem drop_nil (p : UInt8 → Bool) : ∀ l : List UInt8, l.dropWhile p = [] ↔ l.all p = true
  | [] => by simp
  | x :: l => by
    rcases h : p x with _ | _
    · rw [List.dropWhile_cons_of_neg (by simp [h]), List.all_cons, h]; simp
    · rw [List.dropWhile_cons_of_pos h, drop_nil p l, List.all_cons, h, Bool.true_and]
theorem trimS_nil (l : List UInt8) : Go.Lib.trimS l azB = [] ↔ l.all lowerB = true := by
  have e : (fun c => azB.contains c) = lowerB := funext az_iff
  unfold Go.Lib.trimS Go.Lib.trimLeftS Go.Lib.trimRightS
  rw [e, drop_nil, List.all_reverse, drop_all, List.all_reverse]
theorem toList_data (s : ByteArray) : s.toList = s.data.toList := ByteArray.toList_eq s
theorem str_ne {x y : Wd} (h : x ≠ y) : (ByteArray.toList x == ByteArray.toList y) = false := by
  rw [toList_data, toList_data, beq_eq_false_iff_ne]
  intro e
  apply h
  cases x; cases y
  simp only [ByteArray.mk.injEq]
  exact Array.toList_inj.1 e
end Go.Proofs.YtlkkkgpcjdemdaaDoor
/- Layings of library functions, in plain declarations (written by the kit's lay-plain.mjs). -/
namespace Go.Proofs.YtlkkkgpcjdemdaaDoor
open Go.Shelf
def lays151_ren : Go.Shelf.Ren := ⟨fun | 151 => 97 | 152 => 119 | 137 => 132 | 119 => 133 | 224 => 130 | 225 => 129 | 217 => 128 | 266 => 139 | n => n, fun | 9 => 9 | 21 => 21 | 4 => 4 | 3 => 3 | 5 => 5 | 0 => 0 | 46 => 177 | n => n, fun | n => n⟩
theorem lays151 : Go.Proofs.Lays.n151 Tryd.prog lays151_ren := {
  mixed := by kernel_rfl
  f119 := Tryd.func133.trans (congrArg some (by kernel_rfl))
  f137 := Tryd.func132.trans (congrArg some (by kernel_rfl))
  f151 := Tryd.func97.trans (congrArg some (by kernel_rfl))
  f152 := Tryd.func119.trans (congrArg some (by kernel_rfl))
  f217 := Tryd.func128.trans (congrArg some (by kernel_rfl))
  f224 := Tryd.func130.trans (congrArg some (by kernel_rfl))
  f225 := Tryd.func129.trans (congrArg some (by kernel_rfl))
  f266 := Tryd.func139.trans (congrArg some (by kernel_rfl))
  t0 := Tryd.underlying0
  a0 := Tryd.isAgg0
  z0 := Tryd.sizeOf0
  v0 := Tryd.zeroValue0
  t3 := Tryd.underlying3
  a3 := Tryd.isAgg3
  z3 := Tryd.sizeOf3
  v3 := Tryd.zeroValue3
  t4 := Tryd.underlying4
  a4 := Tryd.isAgg4
  z4 := Tryd.sizeOf4
  v4 := Tryd.zeroValue4
  t5 := Tryd.underlying5
  a5 := Tryd.isAgg5
  z5 := Tryd.sizeOf5
  v5 := Tryd.zeroValue5
  t9 := Tryd.underlying9
  a9 := Tryd.isAgg9
  z9 := Tryd.sizeOf9
  v9 := Tryd.zeroValue9
  t21 := Tryd.underlying21
  a21 := Tryd.isAgg21
  z21 := Tryd.sizeOf21
  v21 := Tryd.zeroValue21
  t46 := Tryd.underlying177
  a46 := Tryd.isAgg177
  z46 := Tryd.sizeOf177
  v46 := Tryd.zeroValue177 }
def lays160_ren : Go.Shelf.Ren := ⟨fun | 160 => 56 | 232 => 88 | 231 => 87 | 227 => 89 | 234 => 91 | 233 => 90 | 236 => 93 | 235 => 92 | 228 => 114 | 271 => 116 | 151 => 97 | 197 => 115 | 120 => 127 | 152 => 119 | 260 => 126 | 137 => 132 | 119 => 133 | 224 => 130 | 225 => 129 | 217 => 128 | 266 => 139 | n => n, fun | 9 => 9 | 4 => 4 | 3 => 3 | 5 => 5 | 117 => 148 | 116 => 147 | 0 => 0 | 124 => 151 | 21 => 21 | 105 => 170 | 46 => 177 | 119 => 188 | 139 => 191 | 138 => 190 | n => n, fun | 3 => 1 | 4 => 2 | n => n⟩
theorem lays160 : Go.Proofs.Lays.n160 Tryd.prog lays160_ren := {
  mixed := by kernel_rfl
  f119 := Tryd.func133.trans (congrArg some (by kernel_rfl))
  f120 := Tryd.func127.trans (congrArg some (by kernel_rfl))
  f137 := Tryd.func132.trans (congrArg some (by kernel_rfl))
  f151 := Tryd.func97.trans (congrArg some (by kernel_rfl))
  f152 := Tryd.func119.trans (congrArg some (by kernel_rfl))
  f160 := Tryd.func56.trans (congrArg some (by kernel_rfl))
  f197 := Tryd.func115.trans (congrArg some (by kernel_rfl))
  f217 := Tryd.func128.trans (congrArg some (by kernel_rfl))
  f224 := Tryd.func130.trans (congrArg some (by kernel_rfl))
  f225 := Tryd.func129.trans (congrArg some (by kernel_rfl))
  f227 := Tryd.func89.trans (congrArg some (by kernel_rfl))
  f228 := Tryd.func114.trans (congrArg some (by kernel_rfl))
  f231 := Tryd.func87.trans (congrArg some (by kernel_rfl))
  f232 := Tryd.func88.trans (congrArg some (by kernel_rfl))
  f233 := Tryd.func90.trans (congrArg some (by kernel_rfl))
  f234 := Tryd.func91.trans (congrArg some (by kernel_rfl))
  f235 := Tryd.func92.trans (congrArg some (by kernel_rfl))
  f236 := Tryd.func93.trans (congrArg some (by kernel_rfl))
  f260 := Tryd.func126.trans (congrArg some (by kernel_rfl))
  f266 := Tryd.func139.trans (congrArg some (by kernel_rfl))
  f271 := Tryd.func116.trans (congrArg some (by kernel_rfl))
  t0 := Tryd.underlying0
  a0 := Tryd.isAgg0
  z0 := Tryd.sizeOf0
  v0 := Tryd.zeroValue0
  t3 := Tryd.underlying3
  a3 := Tryd.isAgg3
  z3 := Tryd.sizeOf3
  v3 := Tryd.zeroValue3
  t4 := Tryd.underlying4
  a4 := Tryd.isAgg4
  z4 := Tryd.sizeOf4
  v4 := Tryd.zeroValue4
  t5 := Tryd.underlying5
  a5 := Tryd.isAgg5
  z5 := Tryd.sizeOf5
  v5 := Tryd.zeroValue5
  t9 := Tryd.underlying9
  a9 := Tryd.isAgg9
  z9 := Tryd.sizeOf9
  v9 := Tryd.zeroValue9
  t21 := Tryd.underlying21
  a21 := Tryd.isAgg21
  z21 := Tryd.sizeOf21
  v21 := Tryd.zeroValue21
  t46 := Tryd.underlying177
  a46 := Tryd.isAgg177
  z46 := Tryd.sizeOf177
  v46 := Tryd.zeroValue177
  t105 := Tryd.underlying170
  a105 := Tryd.isAgg170
  z105 := Tryd.sizeOf170
  v105 := Tryd.zeroValue170
  t116 := Tryd.underlying147
  a116 := Tryd.isAgg147
  z116 := Tryd.sizeOf147
  t117 := Tryd.underlying148
  a117 := Tryd.isAgg148
  z117 := Tryd.sizeOf148
  v117 := Tryd.zeroValue148
  t119 := Tryd.underlying188
  a119 := Tryd.isAgg188
  z119 := Tryd.sizeOf188
  t124 := Tryd.underlying151
  a124 := Tryd.isAgg151
  z124 := Tryd.sizeOf151
  v124 := Tryd.zeroValue151
  t138 := Tryd.underlying190
  a138 := Tryd.isAgg190
  z138 := Tryd.sizeOf190
  v138 := Tryd.zeroValue190
  t139 := Tryd.underlying191
  a139 := Tryd.isAgg191
  z139 := Tryd.sizeOf191
  v139 := Tryd.zeroValue191
  g3 := by kernel_rfl
  g4 := by kernel_rfl }
def lays161_ren : Go.Shelf.Ren := ⟨fun | 161 => 100 | 231 => 87 | 227 => 89 | 233 => 90 | 235 => 92 | 228 => 114 | 197 => 115 | 151 => 97 | 260 => 126 | 152 => 119 | 137 => 132 | 119 => 133 | 224 => 130 | 225 => 129 | 217 => 128 | 266 => 139 | n => n, fun | 9 => 9 | 4 => 4 | 3 => 3 | 5 => 5 | 117 => 148 | 116 => 147 | 0 => 0 | 124 => 151 | 105 => 170 | 21 => 21 | 119 => 188 | 46 => 177 | 139 => 191 | 138 => 190 | n => n, fun | 3 => 1 | 4 => 2 | n => n⟩
theorem lays161 : Go.Proofs.Lays.n161 Tryd.prog lays161_ren := {
  mixed := by kernel_rfl
  f119 := Tryd.func133.trans (congrArg some (by kernel_rfl))
  f137 := Tryd.func132.trans (congrArg some (by kernel_rfl))
  f151 := Tryd.func97.trans (congrArg some (by kernel_rfl))
  f152 := Tryd.func119.trans (congrArg some (by kernel_rfl))
  f161 := Tryd.func100.trans (congrArg some (by kernel_rfl))
  f197 := Tryd.func115.trans (congrArg some (by kernel_rfl))
  f217 := Tryd.func128.trans (congrArg some (by kernel_rfl))
  f224 := Tryd.func130.trans (congrArg some (by kernel_rfl))
  f225 := Tryd.func129.trans (congrArg some (by kernel_rfl))
  f227 := Tryd.func89.trans (congrArg some (by kernel_rfl))
  f228 := Tryd.func114.trans (congrArg some (by kernel_rfl))
  f231 := Tryd.func87.trans (congrArg some (by kernel_rfl))
  f233 := Tryd.func90.trans (congrArg some (by kernel_rfl))
  f235 := Tryd.func92.trans (congrArg some (by kernel_rfl))
  f260 := Tryd.func126.trans (congrArg some (by kernel_rfl))
  f266 := Tryd.func139.trans (congrArg some (by kernel_rfl))
  t0 := Tryd.underlying0
  a0 := Tryd.isAgg0
  z0 := Tryd.sizeOf0
  v0 := Tryd.zeroValue0
  t3 := Tryd.underlying3
  a3 := Tryd.isAgg3
  z3 := Tryd.sizeOf3
  v3 := Tryd.zeroValue3
  t4 := Tryd.underlying4
  a4 := Tryd.isAgg4
  z4 := Tryd.sizeOf4
  v4 := Tryd.zeroValue4
  t5 := Tryd.underlying5
  a5 := Tryd.isAgg5
  z5 := Tryd.sizeOf5
  v5 := Tryd.zeroValue5
  t9 := Tryd.underlying9
  a9 := Tryd.isAgg9
  z9 := Tryd.sizeOf9
  v9 := Tryd.zeroValue9
  t21 := Tryd.underlying21
  a21 := Tryd.isAgg21
  z21 := Tryd.sizeOf21
  v21 := Tryd.zeroValue21
  t46 := Tryd.underlying177
  a46 := Tryd.isAgg177
  z46 := Tryd.sizeOf177
  v46 := Tryd.zeroValue177
  t105 := Tryd.underlying170
  a105 := Tryd.isAgg170
  z105 := Tryd.sizeOf170
  v105 := Tryd.zeroValue170
  t116 := Tryd.underlying147
  a116 := Tryd.isAgg147
  z116 := Tryd.sizeOf147
  t117 := Tryd.underlying148
  a117 := Tryd.isAgg148
  z117 := Tryd.sizeOf148
  v117 := Tryd.zeroValue148
  t119 := Tryd.underlying188
  a119 := Tryd.isAgg188
  z119 := Tryd.sizeOf188
  t124 := Tryd.underlying151
  a124 := Tryd.isAgg151
  z124 := Tryd.sizeOf151
  v124 := Tryd.zeroValue151
  t138 := Tryd.underlying190
  a138 := Tryd.isAgg190
  z138 := Tryd.sizeOf190
  v138 := Tryd.zeroValue190
  t139 := Tryd.underlying191
  a139 := Tryd.isAgg191
  z139 := Tryd.sizeOf191
  v139 := Tryd.zeroValue191
  g3 := by kernel_rfl
  g4 := by kernel_rfl }
def lays144_ren : Go.Shelf.Ren := ⟨fun | 144 => 57 | 143 => 94 | 219 => 117 | 217 => 128 | 225 => 129 | 224 => 130 | 267 => 131 | 266 => 139 | 314 => 140 | n => n, fun | 9 => 9 | 4 => 4 | 3 => 3 | 5 => 5 | 46 => 177 | 146 => 192 | 51 => 22 | n => n, fun | 1 => 0 | n => n⟩
theorem lays144 : Go.Proofs.Lays.n144 Tryd.prog lays144_ren := {
  mixed := by kernel_rfl
  f143 := Tryd.func94.trans (congrArg some (by kernel_rfl))
  f144 := Tryd.func57.trans (congrArg some (by kernel_rfl))
  f217 := Tryd.func128.trans (congrArg some (by kernel_rfl))
  f219 := Tryd.func117.trans (congrArg some (by kernel_rfl))
  f224 := Tryd.func130.trans (congrArg some (by kernel_rfl))
  f225 := Tryd.func129.trans (congrArg some (by kernel_rfl))
  f266 := Tryd.func139.trans (congrArg some (by kernel_rfl))
  f267 := Tryd.func131.trans (congrArg some (by kernel_rfl))
  f314 := Tryd.func140.trans (congrArg some (by kernel_rfl))
  t3 := Tryd.underlying3
  a3 := Tryd.isAgg3
  z3 := Tryd.sizeOf3
  v3 := Tryd.zeroValue3
  t4 := Tryd.underlying4
  a4 := Tryd.isAgg4
  z4 := Tryd.sizeOf4
  v4 := Tryd.zeroValue4
  t5 := Tryd.underlying5
  a5 := Tryd.isAgg5
  z5 := Tryd.sizeOf5
  v5 := Tryd.zeroValue5
  t9 := Tryd.underlying9
  a9 := Tryd.isAgg9
  z9 := Tryd.sizeOf9
  v9 := Tryd.zeroValue9
  t46 := Tryd.underlying177
  a46 := Tryd.isAgg177
  z46 := Tryd.sizeOf177
  v46 := Tryd.zeroValue177
  t51 := Tryd.underlying22
  a51 := Tryd.isAgg22
  z51 := Tryd.sizeOf22
  v51 := Tryd.zeroValue22
  t146 := Tryd.underlying192
  a146 := Tryd.isAgg192
  z146 := Tryd.sizeOf192
  v146 := Tryd.zeroValue192
  g1 := by kernel_rfl }
def lays102_ren : Go.Shelf.Ren := ⟨fun | 102 => 101 | 209 => 120 | 207 => 134 | n => n, fun | 9 => 9 | 4 => 4 | 3 => 3 | n => n, fun | n => n⟩
theorem lays102 : Go.Proofs.Lays.n102 Tryd.prog lays102_ren := {
  mixed := by kernel_rfl
  f102 := Tryd.func101.trans (congrArg some (by kernel_rfl))
  f207 := Tryd.func134.trans (congrArg some (by kernel_rfl))
  f209 := Tryd.func120.trans (congrArg some (by kernel_rfl))
  t3 := Tryd.underlying3
  a3 := Tryd.isAgg3
  z3 := Tryd.sizeOf3
  v3 := Tryd.zeroValue3
  t4 := Tryd.underlying4
  a4 := Tryd.isAgg4
  z4 := Tryd.sizeOf4
  v4 := Tryd.zeroValue4
  t9 := Tryd.underlying9
  a9 := Tryd.isAgg9
  z9 := Tryd.sizeOf9
  v9 := Tryd.zeroValue9 }
def lays138_ren : Go.Shelf.Ren := ⟨fun | 138 => 103 | 195 => 122 | 218 => 123 | 143 => 94 | 219 => 117 | 217 => 128 | 225 => 129 | 224 => 130 | 267 => 131 | 266 => 139 | 314 => 140 | n => n, fun | 9 => 9 | 3 => 3 | 4 => 4 | 5 => 5 | 0 => 0 | 46 => 177 | 146 => 192 | 51 => 22 | n => n, fun | 1 => 0 | n => n⟩
theorem lays138 : Go.Proofs.Lays.n138 Tryd.prog lays138_ren := {
  mixed := by kernel_rfl
  f138 := Tryd.func103.trans (congrArg some (by kernel_rfl))
  f143 := Tryd.func94.trans (congrArg some (by kernel_rfl))
  f195 := Tryd.func122.trans (congrArg some (by kernel_rfl))
  f217 := Tryd.func128.trans (congrArg some (by kernel_rfl))
  f218 := Tryd.func123.trans (congrArg some (by kernel_rfl))
  f219 := Tryd.func117.trans (congrArg some (by kernel_rfl))
  f224 := Tryd.func130.trans (congrArg some (by kernel_rfl))
  f225 := Tryd.func129.trans (congrArg some (by kernel_rfl))
  f266 := Tryd.func139.trans (congrArg some (by kernel_rfl))
  f267 := Tryd.func131.trans (congrArg some (by kernel_rfl))
  f314 := Tryd.func140.trans (congrArg some (by kernel_rfl))
  t0 := Tryd.underlying0
  a0 := Tryd.isAgg0
  z0 := Tryd.sizeOf0
  v0 := Tryd.zeroValue0
  t3 := Tryd.underlying3
  a3 := Tryd.isAgg3
  z3 := Tryd.sizeOf3
  v3 := Tryd.zeroValue3
  t4 := Tryd.underlying4
  a4 := Tryd.isAgg4
  z4 := Tryd.sizeOf4
  v4 := Tryd.zeroValue4
  t5 := Tryd.underlying5
  a5 := Tryd.isAgg5
  z5 := Tryd.sizeOf5
  v5 := Tryd.zeroValue5
  t9 := Tryd.underlying9
  a9 := Tryd.isAgg9
  z9 := Tryd.sizeOf9
  v9 := Tryd.zeroValue9
  t46 := Tryd.underlying177
  a46 := Tryd.isAgg177
  z46 := Tryd.sizeOf177
  v46 := Tryd.zeroValue177
  t51 := Tryd.underlying22
  a51 := Tryd.isAgg22
  z51 := Tryd.sizeOf22
  v51 := Tryd.zeroValue22
  t146 := Tryd.underlying192
  a146 := Tryd.isAgg192
  z146 := Tryd.sizeOf192
  v146 := Tryd.zeroValue192
  g1 := by kernel_rfl }
def lays155_ren : Go.Shelf.Ren := ⟨fun | 155 => 102 | 154 => 121 | 138 => 103 | 165 => 135 | 143 => 94 | 166 => 136 | 197 => 115 | 169 => 137 | 195 => 122 | 218 => 123 | 240 => 141 | 241 => 142 | 219 => 117 | 260 => 126 | 276 => 143 | 277 => 144 | 217 => 128 | 225 => 129 | 224 => 130 | 267 => 131 | 266 => 139 | 314 => 140 | n => n, fun | 9 => 9 | 3 => 3 | 4 => 4 | 72 => 181 | 0 => 0 | 76 => 185 | 105 => 170 | 21 => 21 | 5 => 5 | 70 => 179 | 20 => 20 | 37 => 113 | 75 => 184 | 127 => 194 | 164 => 195 | 46 => 177 | 119 => 188 | 139 => 191 | 138 => 190 | 146 => 192 | 51 => 22 | 80 => 187 | n => n, fun | 1 => 0 | 3 => 1 | 4 => 2 | n => n⟩
theorem lays155 : Go.Proofs.Lays.n155 Tryd.prog lays155_ren := {
  mixed := by kernel_rfl
  f138 := Tryd.func103.trans (congrArg some (by kernel_rfl))
  f143 := Tryd.func94.trans (congrArg some (by kernel_rfl))
  f154 := Tryd.func121.trans (congrArg some (by kernel_rfl))
  f155 := Tryd.func102.trans (congrArg some (by kernel_rfl))
  f165 := Tryd.func135.trans (congrArg some (by kernel_rfl))
  f166 := Tryd.func136.trans (congrArg some (by kernel_rfl))
  f169 := Tryd.func137.trans (congrArg some (by kernel_rfl))
  f195 := Tryd.func122.trans (congrArg some (by kernel_rfl))
  f197 := Tryd.func115.trans (congrArg some (by kernel_rfl))
  f217 := Tryd.func128.trans (congrArg some (by kernel_rfl))
  f218 := Tryd.func123.trans (congrArg some (by kernel_rfl))
  f219 := Tryd.func117.trans (congrArg some (by kernel_rfl))
  f224 := Tryd.func130.trans (congrArg some (by kernel_rfl))
  f225 := Tryd.func129.trans (congrArg some (by kernel_rfl))
  f240 := Tryd.func141.trans (congrArg some (by kernel_rfl))
  f241 := Tryd.func142.trans (congrArg some (by kernel_rfl))
  f260 := Tryd.func126.trans (congrArg some (by kernel_rfl))
  f266 := Tryd.func139.trans (congrArg some (by kernel_rfl))
  f267 := Tryd.func131.trans (congrArg some (by kernel_rfl))
  f276 := Tryd.func143.trans (congrArg some (by kernel_rfl))
  f277 := Tryd.func144.trans (congrArg some (by kernel_rfl))
  f314 := Tryd.func140.trans (congrArg some (by kernel_rfl))
  t0 := Tryd.underlying0
  a0 := Tryd.isAgg0
  z0 := Tryd.sizeOf0
  v0 := Tryd.zeroValue0
  t3 := Tryd.underlying3
  a3 := Tryd.isAgg3
  z3 := Tryd.sizeOf3
  v3 := Tryd.zeroValue3
  t4 := Tryd.underlying4
  a4 := Tryd.isAgg4
  z4 := Tryd.sizeOf4
  v4 := Tryd.zeroValue4
  t5 := Tryd.underlying5
  a5 := Tryd.isAgg5
  z5 := Tryd.sizeOf5
  v5 := Tryd.zeroValue5
  t9 := Tryd.underlying9
  a9 := Tryd.isAgg9
  z9 := Tryd.sizeOf9
  v9 := Tryd.zeroValue9
  t20 := Tryd.underlying20
  a20 := Tryd.isAgg20
  z20 := Tryd.sizeOf20
  v20 := Tryd.zeroValue20
  t21 := Tryd.underlying21
  a21 := Tryd.isAgg21
  z21 := Tryd.sizeOf21
  v21 := Tryd.zeroValue21
  t37 := Tryd.underlying113
  a37 := Tryd.isAgg113
  z37 := Tryd.sizeOf113
  v37 := Tryd.zeroValue113
  t46 := Tryd.underlying177
  a46 := Tryd.isAgg177
  z46 := Tryd.sizeOf177
  v46 := Tryd.zeroValue177
  t51 := Tryd.underlying22
  a51 := Tryd.isAgg22
  z51 := Tryd.sizeOf22
  v51 := Tryd.zeroValue22
  t70 := Tryd.underlying179
  a70 := Tryd.isAgg179
  z70 := Tryd.sizeOf179
  v70 := Tryd.zeroValue179
  t72 := Tryd.underlying181
  a72 := Tryd.isAgg181
  z72 := Tryd.sizeOf181
  v72 := Tryd.zeroValue181
  t75 := Tryd.underlying184
  a75 := Tryd.isAgg184
  z75 := Tryd.sizeOf184
  v75 := Tryd.zeroValue184
  t76 := Tryd.underlying185
  a76 := Tryd.isAgg185
  z76 := Tryd.sizeOf185
  v76 := Tryd.zeroValue185
  t105 := Tryd.underlying170
  a105 := Tryd.isAgg170
  z105 := Tryd.sizeOf170
  v105 := Tryd.zeroValue170
  t119 := Tryd.underlying188
  a119 := Tryd.isAgg188
  z119 := Tryd.sizeOf188
  t127 := Tryd.underlying194
  a127 := Tryd.isAgg194
  z127 := Tryd.sizeOf194
  v127 := Tryd.zeroValue194
  t138 := Tryd.underlying190
  a138 := Tryd.isAgg190
  z138 := Tryd.sizeOf190
  v138 := Tryd.zeroValue190
  t139 := Tryd.underlying191
  a139 := Tryd.isAgg191
  z139 := Tryd.sizeOf191
  v139 := Tryd.zeroValue191
  t146 := Tryd.underlying192
  a146 := Tryd.isAgg192
  z146 := Tryd.sizeOf192
  v146 := Tryd.zeroValue192
  t164 := Tryd.underlying195
  a164 := Tryd.isAgg195
  z164 := Tryd.sizeOf195
  v164 := Tryd.zeroValue195
  g1 := by kernel_rfl
  g3 := by kernel_rfl
  g4 := by kernel_rfl }
def lays154_ren : Go.Shelf.Ren := ⟨fun | 154 => 121 | 138 => 103 | 165 => 135 | 143 => 94 | 166 => 136 | 197 => 115 | 169 => 137 | 195 => 122 | 218 => 123 | 240 => 141 | 241 => 142 | 219 => 117 | 260 => 126 | 276 => 143 | 277 => 144 | 217 => 128 | 225 => 129 | 224 => 130 | 267 => 131 | 266 => 139 | 314 => 140 | n => n, fun | 9 => 9 | 3 => 3 | 4 => 4 | 72 => 181 | 0 => 0 | 76 => 185 | 105 => 170 | 21 => 21 | 5 => 5 | 70 => 179 | 20 => 20 | 37 => 113 | 75 => 184 | 127 => 194 | 164 => 195 | 46 => 177 | 119 => 188 | 139 => 191 | 138 => 190 | 146 => 192 | 51 => 22 | 80 => 187 | n => n, fun | 1 => 0 | 3 => 1 | 4 => 2 | n => n⟩
theorem lays154 : Go.Proofs.Lays.n154 Tryd.prog lays154_ren := {
  mixed := by kernel_rfl
  f138 := Tryd.func103.trans (congrArg some (by kernel_rfl))
  f143 := Tryd.func94.trans (congrArg some (by kernel_rfl))
  f154 := Tryd.func121.trans (congrArg some (by kernel_rfl))
  f165 := Tryd.func135.trans (congrArg some (by kernel_rfl))
  f166 := Tryd.func136.trans (congrArg some (by kernel_rfl))
  f169 := Tryd.func137.trans (congrArg some (by kernel_rfl))
  f195 := Tryd.func122.trans (congrArg some (by kernel_rfl))
  f197 := Tryd.func115.trans (congrArg some (by kernel_rfl))
  f217 := Tryd.func128.trans (congrArg some (by kernel_rfl))
  f218 := Tryd.func123.trans (congrArg some (by kernel_rfl))
  f219 := Tryd.func117.trans (congrArg some (by kernel_rfl))
  f224 := Tryd.func130.trans (congrArg some (by kernel_rfl))
  f225 := Tryd.func129.trans (congrArg some (by kernel_rfl))
  f240 := Tryd.func141.trans (congrArg some (by kernel_rfl))
  f241 := Tryd.func142.trans (congrArg some (by kernel_rfl))
  f260 := Tryd.func126.trans (congrArg some (by kernel_rfl))
  f266 := Tryd.func139.trans (congrArg some (by kernel_rfl))
  f267 := Tryd.func131.trans (congrArg some (by kernel_rfl))
  f276 := Tryd.func143.trans (congrArg some (by kernel_rfl))
  f277 := Tryd.func144.trans (congrArg some (by kernel_rfl))
  f314 := Tryd.func140.trans (congrArg some (by kernel_rfl))
  t0 := Tryd.underlying0
  a0 := Tryd.isAgg0
  z0 := Tryd.sizeOf0
  v0 := Tryd.zeroValue0
  t3 := Tryd.underlying3
  a3 := Tryd.isAgg3
  z3 := Tryd.sizeOf3
  v3 := Tryd.zeroValue3
  t4 := Tryd.underlying4
  a4 := Tryd.isAgg4
  z4 := Tryd.sizeOf4
  v4 := Tryd.zeroValue4
  t5 := Tryd.underlying5
  a5 := Tryd.isAgg5
  z5 := Tryd.sizeOf5
  v5 := Tryd.zeroValue5
  t9 := Tryd.underlying9
  a9 := Tryd.isAgg9
  z9 := Tryd.sizeOf9
  v9 := Tryd.zeroValue9
  t20 := Tryd.underlying20
  a20 := Tryd.isAgg20
  z20 := Tryd.sizeOf20
  v20 := Tryd.zeroValue20
  t21 := Tryd.underlying21
  a21 := Tryd.isAgg21
  z21 := Tryd.sizeOf21
  v21 := Tryd.zeroValue21
  t37 := Tryd.underlying113
  a37 := Tryd.isAgg113
  z37 := Tryd.sizeOf113
  v37 := Tryd.zeroValue113
  t46 := Tryd.underlying177
  a46 := Tryd.isAgg177
  z46 := Tryd.sizeOf177
  v46 := Tryd.zeroValue177
  t51 := Tryd.underlying22
  a51 := Tryd.isAgg22
  z51 := Tryd.sizeOf22
  v51 := Tryd.zeroValue22
  t70 := Tryd.underlying179
  a70 := Tryd.isAgg179
  z70 := Tryd.sizeOf179
  v70 := Tryd.zeroValue179
  t72 := Tryd.underlying181
  a72 := Tryd.isAgg181
  z72 := Tryd.sizeOf181
  v72 := Tryd.zeroValue181
  t75 := Tryd.underlying184
  a75 := Tryd.isAgg184
  z75 := Tryd.sizeOf184
  v75 := Tryd.zeroValue184
  t76 := Tryd.underlying185
  a76 := Tryd.isAgg185
  z76 := Tryd.sizeOf185
  v76 := Tryd.zeroValue185
  t105 := Tryd.underlying170
  a105 := Tryd.isAgg170
  z105 := Tryd.sizeOf170
  v105 := Tryd.zeroValue170
  t119 := Tryd.underlying188
  a119 := Tryd.isAgg188
  z119 := Tryd.sizeOf188
  t127 := Tryd.underlying194
  a127 := Tryd.isAgg194
  z127 := Tryd.sizeOf194
  v127 := Tryd.zeroValue194
  t138 := Tryd.underlying190
  a138 := Tryd.isAgg190
  z138 := Tryd.sizeOf190
  v138 := Tryd.zeroValue190
  t139 := Tryd.underlying191
  a139 := Tryd.isAgg191
  z139 := Tryd.sizeOf191
  v139 := Tryd.zeroValue191
  t146 := Tryd.underlying192
  a146 := Tryd.isAgg192
  z146 := Tryd.sizeOf192
  v146 := Tryd.zeroValue192
  t164 := Tryd.underlying195
  a164 := Tryd.isAgg195
  z164 := Tryd.sizeOf195
  v164 := Tryd.zeroValue195
  g1 := by kernel_rfl
  g3 := by kernel_rfl
  g4 := by kernel_rfl }
end Go.Proofs.YtlkkkgpcjdemdaaDoor
/- Song: letters. -/
namespace Go.Proofs.YtlkkkgpcjdemdaaDoor
open Go Go.RowKit Go.Shelf
set_option maxHeartbeats 2000000
set_option maxRecDepth 1000000
/-- a letter stands in a text -/
def memC (s : List UInt8) (c : Nat) : Bool := s.any fun b => b.toNat == c
theorem memC_index (s : List UInt8) {c : Nat} (hc : c < 256) : decide (0 ≤ Lib.indexByte s c.toUInt8) = memC s c := by
  have hcc : (c.toUInt8).toNat = c := by simp [Nat.toUInt8]; omega
  rw [Bool.eq_iff_iff, decide_eq_true_iff]
  unfold memC
  rw [List.any_eq_true]
  constructor
  · intro h
    obtain ⟨o, ho⟩ := Int.eq_ofNat_of_zero_le h
    obtain ⟨h1, -⟩ := Lib.indexByte_some ho
    refine ⟨_, List.mem_of_getElem? h1, ?_⟩
    rw [hcc]; simp
  · rintro ⟨x, hx, hxc⟩
    apply Classical.byContradiction
    intro hn
    have h1 : Lib.indexByte s c.toUInt8 = -1 := by have := Lib.indexByte_ge s c.toUInt8; omega
    obtain ⟨k, hk, rfl⟩ := List.getElem_of_mem hx
    have h2 := Lib.indexByte_none h1 k
    rw [List.getElem?_eq_getElem hk] at h2
    apply h2
    rw [beq_iff_eq] at hxc
    congr 1
    apply UInt8.toNat_inj.1
    rw [hcc, hxc]
theorem memC_hi (s : List UInt8) {c : Nat} (hs : ∀ b ∈ s, b.toNat < 128) (hc : 128 ≤ c) : memC s c = false := by
  unfold memC
  rw [List.any_eq_false]
  intro b hb
  have := hs b hb
  simp; omega
theorem indexByte_hi (s : List UInt8) (c : UInt8) (hs : ∀ b ∈ s, b.toNat < 128) (hc : 128 ≤ c.toNat) : Lib.indexByte s c = -1 := by
  have h := Lib.indexByte_ge s c
  apply Classical.byContradiction
  intro hn
  obtain ⟨o, ho⟩ := Int.eq_ofNat_of_zero_le (by omega : 0 ≤ Lib.indexByte s c)
  obtain ⟨h1, -⟩ := Lib.indexByte_some ho
  have := hs c (List.mem_of_getElem? h1)
  omega
theorem rune_hi (c : Nat) (h1 : 128 ≤ c) (h2 : c < 256) : ∃ a b : UInt8, Utf8.encode (c : Int) = ⟨#[a, b]⟩ ∧ 128 ≤ b.toNat := by
  have hv : Utf8.valid (c : Int) = true := by rw [validRune_eq]; exact decide_eq_true (by omega)
  unfold Utf8.encode
  have h3 : ¬ ((c : Int).toNat < 128) := by omega
  have h4 : ((c : Int).toNat < 2048) := by omega
  rw [if_pos hv, if_neg h3, if_pos h4]
  refine ⟨_, _, rfl, ?_⟩
  show 128 ≤ (UInt8.ofNat (128 + (c : Int).toNat % 64)).toNat
  have : (UInt8.ofNat (128 + (c : Int).toNat % 64)).toNat = (128 + (c : Int).toNat % 64) % 256 := by simp
  omega
theorem validRune_hi (c : Nat) (w : World) (h2 : c < 256) : Calls Tryd.prog 133 #[.int .i32 (c : Int)] w fun e w' => e = .returned (.bool true) ∧ w = w' := by
  have e0 : (0 : Int) ≤ (c : Int) := by omega
  have e1 : (c : Int) < 55296 := by omega
  go_enter Tryd.func133, Tryd.ntmps133
  go_wp2
  go_ret
  exact ⟨rfl, rfl⟩
theorem indexRune_hi (s : ByteArray) (c : Nat) (w : World) (h1 : 128 ≤ c) (h2 : c < 256) (hs : ∀ b ∈ s.data.toList, b.toNat < 128) (hsz : s.size ≤ 100) :
    Calls Tryd.prog 119 #[.string s, .int .i32 (c : Int)] w fun e w' => e = .returned (.int .i64 (-1)) ∧ Below w.heap.size w w' := by
  obtain ⟨x, y, he, hl⟩ := rune_hi c h1 h2
  have HIB := hide (fun (t : ByteArray) (W : World) (d : UInt8) (h : ∀ b ∈ t.data.toList, b.toNat < 128) (hd : 128 ≤ d.toNat) => by
    have k := Any.strings_IndexByte { lays151 with } t (d.toNat : Int) W
    rw [show ((d.toNat : Int)).toNat.toUInt8 = d by simp, indexByte_hi _ _ h hd] at k
    exact k)
  have e0 : (0 : Int) ≤ (c : Int) := by omega
  have e1 : ¬ (c : Int) < 128 := by omega
  have e2 : ((c : Int) == 65533) = false := by rw [beq_eq_false_iff_ne]; omega
  have HS := hide hs
  have HL := hide hl
  clear hs hl
  rcases (by omega : s.size ≤ 1 ∨ 1 < s.size) with hz | hz
  · have hz' : ¬ (1 : Int) < (s.size : Int) := by omega
    go_enter Tryd.func119, Tryd.ntmps119
    go_wp2_with fail
    refine (validRune_hi c _ h2).mono ?_
    rintro e w2 ⟨rfl, rfl⟩
    go_wp2_with fail
    go_step3
    go_wp2_with fail
    refine wp_loop_rounds 1 ?_
    rw [rounds_succ]
    go_wp2_with fail
    try rw [Exit.noGoto_ret]
    go_ret
    exact ⟨rfl, Below.refl _ _⟩
  · have hz' : (1 : Int) < (s.size : Int) := by omega
    obtain ⟨l, hl⟩ : ∃ l, s.data.toList = l := ⟨_, rfl⟩
    have i1 : (0 : Int) ≤ 1 := by omega
    have hb := HS.out s[1] (by
      show s.data[1] ∈ s.data.toList
      exact Array.getElem_mem_toList (xs := s.data) hz)
    have hne2 : ¬ ((s[1]'hz).toNat : Int) = (((⟨#[x, y]⟩ : ByteArray)[1]'(Nat.lt_succ_self 1)).toNat : Int) := by
      have := HL.out
      show ¬ ((s[1]'hz).toNat : Int) = (y.toNat : Int)
      omega
    have w1 : IntKind.i64.wrap (2 : Int) = 2 := by rfl
    have w2 : (2 : Int) ≤ (s.size : Int) := by omega
    go_enter Tryd.func119, Tryd.ntmps119
    go_wp2_with fail
    refine (validRune_hi c _ h2).mono ?_
    rintro e w2 ⟨rfl, rfl⟩
    go_wp2_with fail
    go_step3
    go_wp2_with fail
    refine wp_loop_rounds 1 ?_
    rw [rounds_succ]
    go_wp2_with fail
    go_step3
    go_wp2_with fail
    go_quiet (fail)
    rename_i nq
    have HB1 := hide (Below_dN (Below.refl w.heap.size w) nq)
    generalize w.drewN nq = w1' at HB1 ⊢
    clear hb
    go_wp2_with fail
    have HX : Hid (∀ W, Calls Tryd.prog 132 #[.string (s.extract 2 s.size), .int .u8 (((⟨#[x, y]⟩ : ByteArray)[1]'(Nat.lt_succ_self 1)).toNat : Int)] W fun e w' => e = .returned (.int .i64 (-1)) ∧ w' = W) := hide (fun W => HIB.out (s.extract 2 s.size) W y (fun b hb => HS.out b (mem_extract hb)) HL.out)
    go_quiet ((go_at_call 132; exact Calls.quiet_of_same (HX.out _)))
    go_wp2_with fail
    simp only [Exit.noGoto, Exit.inBlock, Exit.then]
    go_ret
    exact ⟨rfl, Below_dN HB1.out _⟩
end Go.Proofs.YtlkkkgpcjdemdaaDoor
/- Words that hang on no chapter: lists of words that are read. -/
namespace Go.Proofs.YtlkkkgpcjdemdaaDoor
open Go Go.RowKit Go.Shelf
set_option maxHeartbeats 1000000
set_option maxRecDepth 100000
/-- a text that is read -/
def SR (w : World) (B : Nat) (A : Option Addr) (l : List Wd) : Prop := ER w B 1 A l.length fun k _ => .string (l.getD k noW)
def SzOk (l : List Wd) : Prop := l.length ≤ maxLen ∧ ∀ x ∈ l, x.size ≤ maxLen
theorem SzOk.at_ {l : List Wd} (h : SzOk l) (k : Nat) : (l.getD k noW).size ≤ maxLen := by
  rw [List.getD_eq_getElem?_getD]
  cases hc : l[k]? with
  | none => show (noW : Wd).size ≤ maxLen; unfold maxLen noW; decide
  | some x => exact h.2 x (List.mem_of_getElem? hc)
theorem cell_lt {W : World} {p : Addr} {v : Value} (hc : W.cell? p = some v) : p.block < W.heap.size := by
  unfold World.cell? at hc
  rcases Nat.lt_or_ge p.block W.heap.size with h | h
  · exact h
  · rw [Array.getElem?_eq_none h] at hc; simp at hc
theorem SR.below {w w' : World} {B B' : Nat} {A : Option Addr} {l : List Wd} (h : SR w B A l) (hb : Below B' w w') (hB : B ≤ B') : SR w' B A l := ER.below h hb hB
theorem SR.more {w : World} {B B' : Nat} {A : Option Addr} {l : List Wd} (h : SR w B A l) (hB : B ≤ B') : SR w B' A l := ER.more h hB
end Go.Proofs.YtlkkkgpcjdemdaaDoor
/- Song: one of some lists of letters. -/
namespace Go.Proofs.YtlkkkgpcjdemdaaDoor
open Go Go.RowKit Go.Shelf
set_option maxHeartbeats 2000000
set_option maxRecDepth 100000
theorem containsRune_any (s : ByteArray) (c : Nat) (w : World) (hc : c < 256) (hs : ∀ b ∈ s.data.toList, b.toNat < 128) (hsz : s.size ≤ 100) :
    Calls Tryd.prog 97 #[.string s, .int .i32 (c : Int)] w fun e w' => e = .returned (.bool (memC s.data.toList c)) ∧ Below w.heap.size w w' := by
  rcases (by omega : c < 128 ∨ 128 ≤ c) with h | h
  · refine (Any.strings_ContainsRune_ascii lays151 s (c : Int) w (by omega) (by omega)).mono ?_
    rintro e w' ⟨rfl, rfl⟩
    refine ⟨ret_bool ?_, Below.refl _ _⟩
    rw [Int.toNat_natCast, memC_index _ hc]
  · have HC := hide (indexRune_hi s c w h hc hs hsz)
    rw [memC_hi _ hs h]
    clear hs h hsz hc
    go_enter Tryd.func97, Tryd.ntmps97
    go_wp2_with fail
    refine HC.out.mono ?_
    rintro e w2 ⟨rfl, hb⟩
    go_wp2_with fail
    go_ret
    exact ⟨rfl, hb⟩
theorem indexFunc_str (g : FuncId) (lb : Array Value) (p : Nat → Bool) (A : Option Addr) (n c : Nat) (u : Nat → Value) (w : World) (hn : n ≤ maxLen) (hR : ER w w.heap.size 1 A n fun k _ => u k)
    (eg : ∀ args w, (callFunc g args).run Tryd.prog w = .ok (.enter g args) w)
    (hp : ∀ W k, k < n → Below w.heap.size w W → Calls Tryd.prog g (#[u k] ++ lb) W fun e W' => e = .returned (.bool (p k)) ∧ Below W.heap.size W W') :
    Calls Tryd.prog 118 #[.slice A n c, .func (.func g) #[] lb] w fun e w' => e = .returned (.int .i64 (idx p n)) ∧ Below w.heap.size w w' := by
  unfold maxLen at hn
  have HP := hide hp
  clear hp
  go_enter Tryd.func118, Tryd.ntmps118
  go_wp2
  go_loopw [8] (fun i wr => ∃ k : Nat, k ≤ n ∧ i = .int .i64 k ∧ idx p k = -1 ∧ Below w.heap.size w wr) (fun i _ => n - (intOf i).toNat)
  case atStart => exact ⟨0, Nat.zero_le _, rfl, rfl, Below.refl _ _⟩
  case round =>
    obtain ⟨k, hk, rfl, hx, hB⟩ := hrel
    have HX := hide hx
    clear hx
    by_cases hlt : k < n
    · obtain ⟨b, off, rfl, hb, hc⟩ := VR1.at_ (hR.below hB (Nat.le_refl _)) hlt
      cases hpk : p k with
      | true =>
        have hpk' := hide hpk
        clear hpk
        have H := HP.out wr k hlt hB
        rw [hpk'.out] at H
        have H' := hide H
        clear H
        go_wp2_with ((with_reducible refine H'.out.mono ?_); rintro e w' ⟨rfl, hb1⟩)
        go_ret
        refine ⟨ret_int ?_, hB.trans (hb1.mono hB.size)⟩
        rw [idx_stable p (k+1) n (by simp [idx, HX.out, hpk'.out]) (by omega)]
        simp [idx, HX.out, hpk'.out]
      | false =>
        have hpk' := hide hpk
        clear hpk
        have H := HP.out wr k hlt hB
        rw [hpk'.out] at H
        have H' := hide H
        clear H
        go_wp2_with ((with_reducible refine H'.out.mono ?_); rintro e w' ⟨rfl, hb1⟩)
        go_roundw
        case rel => exact ⟨k + 1, by omega, by go_num, by simp [idx, HX.out, hpk'.out], hB.trans (hb1.mono hB.size)⟩
        case measure => simp [intOf]; omega
    · obtain rfl : k = n := by omega
      go_wp2
      go_ret
      exact ⟨ret_int HX.out.symm, hB⟩
theorem containsFunc_str (g : FuncId) (lb : Array Value) (p : Nat → Bool) (A : Option Addr) (n c : Nat) (u : Nat → Value) (w : World) (hn : n ≤ maxLen) (hR : ER w w.heap.size 1 A n fun k _ => u k)
    (eg : ∀ args w, (callFunc g args).run Tryd.prog w = .ok (.enter g args) w)
    (hp : ∀ W k, k < n → Below w.heap.size w W → Calls Tryd.prog g (#[u k] ++ lb) W fun e W' => e = .returned (.bool (p k)) ∧ Below W.heap.size W W') :
    Calls Tryd.prog 95 #[.slice A n c, .func (.func g) #[] lb] w fun e w' => e = .returned (.bool (anyTo p n)) ∧ Below w.heap.size w w' := by
  have H := hide (indexFunc_str g lb p A n c u w hn hR eg hp)
  clear hp hR hn eg
  go_enter Tryd.func95, Tryd.ntmps95
  go_wp2_with ((with_reducible refine H.out.mono ?_); rintro e w' ⟨rfl, hb1⟩)
  go_ret
  exact ⟨ret_bool (idx_any p n), hb1⟩
/-- a list of short ASCII texts -/
def AscL (l : List Wd) : Prop := ∀ x ∈ l, (∀ b ∈ x.data.toList, b.toNat < 128) ∧ x.size ≤ 100
theorem AscL.at_ {l : List Wd} (h : AscL l) (k : Nat) : (∀ b ∈ (l.getD k noW).data.toList, b.toNat < 128) ∧ (l.getD k noW).size ≤ 100 := by
  rw [List.getD_eq_getElem?_getD]
  cases hc : l[k]? with
  | none => exact ⟨by intro b hb; simp [noW] at hb, by show (noW : Wd).size ≤ 100; decide⟩
  | some x => exact h x (List.mem_of_getElem? hc)
/-- a letter stands in one of the texts -/
def isL (l : List Wd) (c : Nat) : Bool := l.any fun s => memC s.data.toList c
theorem isL_to (l : List Wd) (c : Nat) : anyTo (fun k => memC (l.getD k noW).data.toList c) l.length = isL l c := by
  rw [Bool.eq_iff_iff, anyTo_iff]
  unfold isL
  rw [List.any_eq_true]
  constructor
  · rintro ⟨k, hk, h⟩
    rw [List.getD_eq_getElem?_getD, List.getElem?_eq_getElem hk] at h
    exact ⟨_, List.getElem_mem hk, h⟩
  · rintro ⟨x, hx, h⟩
    obtain ⟨k, hk, rfl⟩ := List.getElem_of_mem hx
    exact ⟨k, hk, by rw [List.getD_eq_getElem?_getD, List.getElem?_eq_getElem hk]; exact h⟩
theorem is1_any (s : ByteArray) (c g : Nat) (w : World) (hc : c < 256) (hs : ∀ b ∈ s.data.toList, b.toNat < 128) (hsz : s.size ≤ 100) (hg : w.cell? ⟨g, 0, none⟩ = some (.int .i32 (c : Int))) :
    Calls Tryd.prog 96 #[.string s, .pointer (some ⟨g, 0, none⟩)] w fun e w' => e = .returned (.bool (memC s.data.toList c)) ∧ Below w.heap.size w w' := by
  have HC := hide (containsRune_any s c w hc hs hsz)
  clear hc hs hsz
  go_enter Tryd.func96, Tryd.ntmps96
  go_wp2_with fail
  refine HC.out.mono ?_
  rintro e w2 ⟨rfl, hb⟩
  go_wp2_with fail
  go_ret
  exact ⟨rfl, hb⟩
theorem is_any (l : List Wd) (c k : Nat) (A : Option Addr) (w : World) (hc : c < 256) (hl : AscL l) (hn : l.length ≤ 100) (hA : SR w w.heap.size A l) :
    Calls Tryd.prog 58 #[.int .i32 (c : Int), .slice A l.length k] w fun e w' => e = .returned (.bool (isL l c)) ∧ Below w.heap.size w w' := by
  have HC : Hid (∀ W, Below w.heap.size w W → W.cell? ⟨w.heap.size, 0, none⟩ = some (.int .i32 (c : Int)) → Calls Tryd.prog 95 #[.slice A l.length k, .func (.func 96) #[] #[.pointer (some ⟨w.heap.size, 0, none⟩)]] W fun e w' => e = .returned (.bool (isL l c)) ∧ Below W.heap.size W w') := hide fun W hW hcell => by
    have h := containsFunc_str 96 #[.pointer (some ⟨w.heap.size, 0, none⟩)] (fun k => memC (l.getD k noW).data.toList c) A l.length k (fun k => .string (l.getD k noW)) W (by unfold maxLen; omega) ((hA.below hW (Nat.le_refl _)).more hW.size) (enters_of Tryd.func96 (by kernel_rfl) rfl)
      (fun W' j hj hb => is1_any _ c w.heap.size W' hc (hl.at_ j).1 (hl.at_ j).2 ((hb.cell (cell_lt hcell)).trans hcell))
    rw [isL_to] at h
    exact h
  clear hc hl hn hA
  generalize isL l c = b at HC ⊢
  go_enter Tryd.func58, Tryd.ntmps58
  go_wp2_with fail
  refine (HC.out _ ((Below.refl _ _).alloc (Nat.le_refl _) _) (by simp)).mono ?_
  rintro e w2 ⟨rfl, hb⟩
  go_wp2_with fail
  go_ret
  exact ⟨rfl, ((Below.refl w.heap.size w).alloc (Nat.le_refl _) _).trans (hb.mono (by simp))⟩
end Go.Proofs.YtlkkkgpcjdemdaaDoor
