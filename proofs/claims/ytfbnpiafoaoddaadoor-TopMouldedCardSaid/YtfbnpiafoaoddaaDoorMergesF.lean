/- School: a range over a function that writes cells of its own between two rounds (the kit's laws know iterators that turn no cells). -/
import Derived.Test.YtfbnpiafoaoddaaDoorMergesE
import Derived.RangeFuncFrom
import Derived.RangeFuncNested
import Derived.RangeFuncBound
import Derived.RangeFuncCalls
import Derived.RangeFuncLeaves
import Derived.Shelf.Abstract
import Derived.Shelf.RegionOpen
import Derived.OwnWalkIn
import Derived.TacticsInMore
import Derived.LoopNIn
import Derived.LoopIn
set_option linter.unusedSimpArgs false
set_option linter.unusedVariables false
set_option linter.unnecessarySimpa false
namespace Go.Proofs.YtfbnpiafoaoddaaDoor
open Go Go.RowKit Go.Shelf
set_option maxHeartbeats 2000000
set_option maxRecDepth 100000
/-- all cells stay as they are -/
structure KC (W W' : World) : Prop where
  size : W.heap.size ≤ W'.heap.size
  block : ∀ (k : Nat) (o : Obj), W.heap[k]? = some o → o.isCells = true → W'.heap[k]? = some o
theorem KC.refl (W : World) : KC W W := ⟨Nat.le_refl _, fun _ _ h _ => h⟩
theorem KC.trans {A B C : World} (h : KC A B) (h2 : KC B C) : KC A C := ⟨Nat.le_trans h.size h2.size, fun k o h3 h4 => h2.block k o (h.block k o h3 h4) h4⟩
theorem KC.of_below {W W' : World} (h : Below W.heap.size W W') : KC W W' := ⟨h.size, fun k o h3 _ => by
  rw [h.block k (by
    rcases Nat.lt_or_ge k W.heap.size with hl | hl
    · exact hl
    · rw [Array.getElem?_eq_none hl] at h3; cases h3)]
  exact h3⟩
theorem KC.putObj (W : World) (l : Nat) (o o' : Obj) (h : W.heap[l]? = some o) (ho : o.isCells = false) : KC W (W.putObj l o') := ⟨by simp, fun k x h3 h4 => by
  have hk : k ≠ l := fun e => by rw [e, h] at h3; cases h3; rw [ho] at h4; cases h4
  exact (World.putObj_heap_other hk).trans h3⟩
theorem KC.blk {W W' : World} (h : KC W W') {g : Nat} {t : TypeId} {cs : Array Value} (hb : Blk W g t cs) : Blk W' g t cs := h.block g _ hb rfl
theorem KC.cell {W W' : World} (h : KC W W') {p : Addr} {v : Value} (hc : W.cell? p = some v) : W'.cell? p = some v := by
  unfold World.cell? at hc ⊢
  cases ho : W.heap[p.block]? with
  | none => rw [ho] at hc; simp at hc
  | some o =>
    rw [ho] at hc
    cases o with
    | cells cs t st => rw [h.block p.block _ ho rfl]; exact hc
    | _ => simp at hc
/-- it stands where blocks from B on are written -/
def AbM {β : Type} (B : Nat) (J : β → World → Prop) : Prop :=
  ∀ s W W' row, J s W → W.grownBy W' row → (∀ r, row = some r → B ≤ r) → J s W'
theorem AbM.putObj {β : Type} {B : Nat} {I : β → World → Prop} (h : AbM B I) {s : β} {W : World} {l : Nat} (o' : Obj) (hs : I s W) (hB : B ≤ l) : I s (W.putObj l o') :=
  h s W _ (some l) hs (grownBy_putObj' W l o') (fun r e => by cases e; exact hB)
theorem AbM.alloc {β : Type} {B : Nat} {I : β → World → Prop} (h : AbM B I) {s : β} {W : World} (o : Obj) (hs : I s W) : I s (W.alloc o) :=
  h s W _ none hs (World.grownBy_alloc W o none) (fun r e => by cases e)
/-- what such an iterator's call does, at whatever yield: R holds of each x where it comes; the round leaves cells alone -/
def SeqMem {α : Type} (F : Fence) (n : Nat) (P : Program) (g : Nat) (lb : Array Value) (encs : α → Array Value) (R : α → World → Prop) (S Sp : List α → Prop) (N : Nat) (w : World) : Prop :=
  ∀ (l : Nat) (J Jx : List α → World → Prop) (W : World), Below w.heap.size w W → AbM W.heap.size J →
    (∀ pre x W1, J pre W1 → R x W1 → pre.length < N → YieldAt F (n - 1) P l (encs x) W1 fun e W' =>
      (e = .returned (.bool true) ∧ J (pre ++ [x]) W' ∧ KC W1 W') ∨ (e = .returned (.bool false) ∧ Jx (pre ++ [x]) W')) →
    J [] W →
    CallsIn F n P g (#[.func (.yield l) #[] #[]] ++ lb) W fun e W' => (∃ v, e = .returned v) ∧ ((∃ xs, S xs ∧ J xs W') ∨ (∃ pre, Sp pre ∧ Jx pre W'))
variable {F : Fence} {n : Nat} {P : Program}
theorem wpIn_rangeFunc_mem {α : Type} {g : Operand} {ps : Array Tmp} {assign body : Code} {Q : Exit → Act → World → Prop} {a : Act} {w : World}
    (hro : F.round = none) (h1 : 1 ≤ n) {gf : Nat} {lb : Array Value} (hg : a.eval g = .func (.func gf) #[] lb) (hFg : F.fn gf) (eg : ∀ args w, (callFunc gf args).run P w = .ok (.enter gf args) w)
    {encs : α → Array Value} {R : α → World → Prop} {S Sp : List α → Prop} {N : Nat} {w0 : World} (hseq : SeqMem F (n - 1) P gf lb encs R S Sp N w0) (hRK : ∀ x W W', R x W → KC W W' → R x W')
    (hb0 : Below w0.heap.size w0 w) (hps : ∀ x, (encs x).size = ps.size)
    (I : List α → World → Prop) (Ix : Code → List α → World → Prop) (hI : AbM w.heap.size I) (hIx : ∀ c, OwnFrom w.heap.size (Ix c)) (h0 : I [] w) (a₁ : α → Act)
    (hassign : ∀ (l : Nat) (x : α) (W : World) (K : Act → World → Prop), K (a₁ x) W →
      assign.wpIn (F.inRound l) (n - 1 - 1) P (Exit.then K (fun _ _ _ => False)) { tmps := (ps.zip (encs x)).foldl (fun t (p, v) => t.setIfInBounds p v) a.tmps, defers := [] } W)
    (hbody : ∀ (l : Nat) (pre : List α) (x : α) (W : World), I pre W → R x W → pre.length < N → body.wpIn (F.inRound l) (n - 1 - 1) P (ownPostK KC I Ix (pre ++ [x]) W) (a₁ x) W)
    (hdone : ∀ (D : Nat) (xs : List α) (W : World), w.heap.size ≤ D → S xs → I xs W → W.heap[D]? = some (.deferred (some [])) → Q .normal { a with defers := { target := .collected D, args := #[] } :: a.defers } W)
    (hstop : ∀ (D : Nat) (c : Code) (pre : List α) (W : World), w.heap.size ≤ D → Sp pre → Ix c pre W → W.heap[D]? = some (.deferred (some [])) → c.wpIn F n P Q { a with defers := { target := .collected D, args := #[] } :: a.defers } W) :
    (Code.rangeFunc g ps assign body).wpIn F n P Q a w := by
  refine wpIn_rangeFunc ?_
  intro fn hfn
  rw [hro]
  obtain ⟨rec, hrec⟩ : ∃ rec : LoopState → Option Code → Loop, rec = fun st pe => { state := st, pending := pe, fn, tmps := a.tmps, params := ps, assign, body, defers := w.heap.size } := ⟨_, rfl⟩
  obtain ⟨W1, hW1⟩ : ∃ W1, (w.alloc (.deferred (some []))).alloc (.loop (rec .ready none)) = W1 := ⟨_, rfl⟩
  have hsz : W1.heap.size = w.heap.size + 2 := by rw [← hW1]; simp
  have hL1 : W1.heap[w.heap.size + 1]? = some (.loop (rec .ready none)) := by
    rw [← hW1]; have := World.alloc_heap_new (w.alloc (.deferred (some []))) (.loop (rec .ready none)); rwa [World.size_alloc] at this
  have hK1 : W1.heap[w.heap.size]? = some (.deferred (some [])) := by
    rw [← hW1]; exact (Below.heap_alloc _ _ _ (by simp)).trans (World.alloc_heap_new w _)
  have hI1 : I [] W1 := by rw [← hW1]; exact hI.alloc _ (hI.alloc _ h0)
  have hb1 : Below w0.heap.size w0 W1 := by
    rw [← hW1]; exact hb0.trans ((((Below.refl _ w).alloc (Nat.le_refl _) _).alloc (by simp) _).mono hb0.size)
  have hup : ∀ {row : Option Nat}, (∀ r, row = some r → W1.heap.size ≤ r) → ∀ r, row = some r → w.heap.size ≤ r := fun hr r e => by have := hr r e; omega
  have hst : ∀ {A B : World} {row : Option Nat} {k : Nat} {o : Obj}, A.grownBy B row → (∀ r, row = some r → W1.heap.size ≤ r) → k < w.heap.size + 2 → A.heap[k]? = some o → B.heap[k]? = some o := fun {A B row k o} hg hr hk h => by
    refine (hg.block k ?_ (fun e => ?_)).trans h
    · rcases Nat.lt_or_ge k A.heap.size with hl | hl
      · exact hl
      · rw [Array.getElem?_eq_none hl] at h; cases h
    · have := hr k e.symm; omega
  refine ⟨w.heap.size + 1, [{ target := .collected w.heap.size, args := #[] }], W1, { target := .fn (.func gf) lb, args := #[.func (.yield (w.heap.size + 1)) #[] #[]] }, W1, gf,
    #[.func (.yield (w.heap.size + 1)) #[] #[]] ++ lb, W1, ?_, ?_, ?_, ?_, fun _ => h1, ?_⟩
  · rw [← hW1, hrec]; exact run_enterLoop_outer _ _ _ _ _
  · simp only [resolve, hg]
    simp [go_sem]
  · intro f' hf'; simp [Target.leads] at hf'; subst hf'; exact hFg
  · simp [invoke, go_sem, eg]
  · refine (hseq (w.heap.size + 1)
      (fun pre W => I pre W ∧ W.heap[w.heap.size + 1]? = some (.loop (rec .ready none)) ∧ W.heap[w.heap.size]? = some (.deferred (some [])))
      (fun pre W => ∃ c, Ix c pre W ∧ W.heap[w.heap.size + 1]? = some (.loop (rec .done (some c))) ∧ W.heap[w.heap.size]? = some (.deferred (some [])))
      W1 hb1
      (fun s A B row hs hg' hr => ⟨hI s A B row hs.1 hg' (hup hr), hst hg' hr (by omega) hs.2.1, hst hg' hr (by omega) hs.2.2⟩)
      ?_ ⟨hI1, hL1, hK1⟩).mono ?_
    · rintro pre x W ⟨hi, hl, hk⟩ hRx hlen
      have hlt : w.heap.size + 1 < W.heap.size := (Array.getElem?_eq_some_iff.1 hl).1
      have hy := run_yield (P := P) (args := encs x) hl (by rw [hrec]; exact hps x)
      rw [hrec] at hy
      refine ⟨fn, _, assign, body, hy, roundIn_of_wpIn hfn (hassign _ x W _ ⟨_, run_beginRound hl (by rw [hrec]), ?_⟩)⟩
      have hl2 : (W.putObj (w.heap.size + 1) (.loop { rec .ready none with state := .busy })).heap[w.heap.size + 1]? = some (.loop { rec .ready none with state := .busy }) := World.putObj_heap_same hlt
      have hk2 : (W.putObj (w.heap.size + 1) (.loop { rec .ready none with state := .busy })).heap[w.heap.size]? = some (.deferred (some [])) := (World.putObj_heap_other (by omega)).trans hk
      have hw2 : KC W (W.putObj (w.heap.size + 1) (.loop { rec .ready none with state := .busy })) := KC.putObj _ _ _ _ hl rfl
      refine wpIn_mono (hbody _ pre x _ (hI.putObj _ hi (by omega)) (hRK _ _ _ hRx hw2) hlen) ?_
      have fin : ∀ (jump : Option Code) (W3 : World), KeepsOthers (W.putObj (w.heap.size + 1) (.loop { rec .ready none with state := .busy })) W3 →
          (Instr.endRound (w.heap.size + 1) jump).run P W3 = .ok (.bool jump.isNone) (W3.putObj (w.heap.size + 1) (.loop (rec (if jump.isNone then .ready else .done) jump))) ∧
          W3.heap[w.heap.size + 1]? = some (.loop { rec .ready none with state := .busy }) ∧
          (W3.putObj (w.heap.size + 1) (.loop (rec (if jump.isNone then .ready else .done) jump))).heap[w.heap.size + 1]? = some (.loop (rec (if jump.isNone then .ready else .done) jump)) ∧
          (W3.putObj (w.heap.size + 1) (.loop (rec (if jump.isNone then .ready else .done) jump))).heap[w.heap.size]? = some (.deferred (some [])) := fun jump W3 hk3 => by
        have hl3 := hk3.same _ _ hl2 rfl
        have := run_endRound (P := P) jump hl3
        rw [hrec] at this ⊢
        exact ⟨this, by rw [hrec] at hl3; exact hl3, World.putObj_heap_same (Array.getElem?_eq_some_iff.1 hl3).1, (World.putObj_heap_other (by omega)).trans (hk3.same _ _ hk2 rfl)⟩
      rintro e a3 W3 hp
      cases e with
      | normal =>
        obtain ⟨hk3, hkp3, hi3⟩ := hp
        obtain ⟨hr, hl3, hl4, hk4⟩ := fin none W3 hk3
        exact ⟨_, _, hr, .inl ⟨rfl, ⟨hI.putObj _ hi3 (by omega), hl4, hk4⟩, (hw2.trans hkp3).trans (KC.putObj _ _ _ _ hl3 rfl)⟩⟩
      | ret =>
        obtain ⟨hk3, hi3⟩ := hp
        obtain ⟨hr, hl3, hl4, hk4⟩ := fin (some .ret) W3 hk3
        exact ⟨_, _, hr, .inr ⟨rfl, .ret, (hIx _).putObj _ hi3 (by omega) hl3 rfl, hl4, hk4⟩⟩
      | exit id =>
        obtain ⟨hk3, hi3⟩ := hp
        obtain ⟨hr, hl3, hl4, hk4⟩ := fin (some (.exit id)) W3 hk3
        exact ⟨_, _, hr, .inr ⟨rfl, .exit id, (hIx _).putObj _ hi3 (by omega) hl3 rfl, hl4, hk4⟩⟩
      | goto t =>
        obtain ⟨hk3, hi3⟩ := hp
        obtain ⟨hr, hl3, hl4, hk4⟩ := fin (some (.goto t)) W3 hk3
        exact ⟨_, _, hr, .inr ⟨rfl, .goto t, (hIx _).putObj _ hi3 (by omega) hl3 rfl, hl4, hk4⟩⟩
      | panic ch => exact hp.elim
      | outgrown => exact hp.elim
    · rintro e W2 ⟨⟨v, rfl⟩, (⟨xs, hS, hi, hl, hk⟩ | ⟨pre, hSp, c, hi, hl, hk⟩)⟩
      · exact ⟨none, _, by have := run_endLoop (P := P) hl (by rw [hrec]; simp); rw [hrec] at this; exact this, hdone _ xs _ (Nat.le_refl _) hS (hI.putObj _ hi (by omega)) ((World.putObj_heap_other (by omega)).trans hk)⟩
      · exact ⟨some c, _, by have := run_endLoop (P := P) hl (by rw [hrec]; simp); rw [hrec] at this; exact this, hstop _ c pre _ (Nat.le_refl _) hSp ((hIx c).putObj _ hi (by omega) hl rfl) ((World.putObj_heap_other (by omega)).trans hk)⟩
end Go.Proofs.YtfbnpiafoaoddaaDoor
/- School, plain: all cases in order, as numbers written in mixed digits. -/
namespace Go.Proofs.YtfbnpiafoaoddaaDoor
open Go Go.RowKit Go.Shelf
set_option maxHeartbeats 2000000
set_option maxRecDepth 100000
/-- how many choices the n-th feature has -/
def chF (fs : List Int) (n : Nat) : Nat := (fs.getD n 0).toNat
/-- how many cases there are of the first n features -/
def pr (fs : List Int) : Nat → Nat
  | 0 => 1
  | n + 1 => pr fs n * chF fs n
/-- what the k-th case has at j, of the first n features -/
def dg (fs : List Int) : Nat → Nat → Nat → Int
  | 0, _, _ => 0
  | n + 1, k, j => if j = n then ((k % chF fs n : Nat) : Int) else dg fs n (k / chF fs n) j
theorem dg_last (fs : List Int) (n k : Nat) : dg fs (n + 1) k n = ((k % chF fs n : Nat) : Int) := by
  show (if n = n then _ else _) = _; rw [if_pos rfl]
theorem dg_lo (fs : List Int) (n k : Nat) {j : Nat} (h : j ≠ n) : dg fs (n + 1) k j = dg fs n (k / chF fs n) j := by
  show (if j = n then _ else _) = _; rw [if_neg h]
theorem dg_zero (fs : List Int) : ∀ n j, dg fs n 0 j = 0
  | 0, _ => rfl
  | n + 1, j => by
    by_cases h : j = n
    · subst h; rw [dg_last]; simp
    · rw [dg_lo _ _ _ h, Nat.zero_div]; exact dg_zero fs n j
section
variable {fs : List Int}
theorem pr_pos : ∀ {n : Nat}, (∀ j, j < n → 1 ≤ chF fs j) → 1 ≤ pr fs n
  | 0, _ => Nat.le_refl _
  | n + 1, h => by
    have h1 := pr_pos (n := n) (fun j hj => h j (by omega))
    have h2 := h n (by omega)
    exact Nat.mul_pos h1 h2
theorem dg_bd : ∀ {n : Nat} (k : Nat), (∀ j, j < n → 1 ≤ chF fs j) → ∀ j, j < n → 0 ≤ dg fs n k j ∧ dg fs n k j ≤ (chF fs j : Int) - 1
  | 0, _, _, j, hj => by omega
  | n + 1, k, h, j, hj => by
    by_cases e : j = n
    · subst e
      rw [dg_last]
      have := Nat.mod_lt k (h j (by omega))
      omega
    · rw [dg_lo _ _ _ e]
      exact dg_bd (n := n) _ (fun j hj => h j (by omega)) j (by omega)
theorem succ_max {k f : Nat} (hf : 1 ≤ f) (h : k % f = f - 1) : (k + 1) / f = k / f + 1 ∧ (k + 1) % f = 0 := by
  have h1 := Nat.div_add_mod k f
  have h2 : k + 1 = f * (k / f + 1) := by rw [Nat.mul_succ]; omega
  rw [h2]
  exact ⟨by rw [Nat.mul_div_cancel_left _ (by omega)], Nat.mul_mod_right _ _⟩
theorem succ_mid {k f : Nat} (hf : 1 ≤ f) (h : k % f ≠ f - 1) : (k + 1) / f = k / f ∧ (k + 1) % f = k % f + 1 := by
  have h1 := Nat.div_add_mod k f
  have h3 := Nat.mod_lt k hf
  have h2 : k + 1 = f * (k / f) + (k % f + 1) := by omega
  have h4 : k % f + 1 < f := by omega
  have h5 : 0 < f := hf
  constructor
  · rw [h2, Nat.mul_add_div h5, Nat.div_eq_of_lt h4]; simp
  · rw [h2, Nat.mul_add_mod, Nat.mod_eq_of_lt h4]
theorem div_pr {n k : Nat} (hf : 1 ≤ chF fs n) (h : k < pr fs (n + 1)) : k / chF fs n < pr fs n := by
  rw [Nat.div_lt_iff_lt_mul (by omega)]
  exact h
theorem nxt_end : ∀ {n : Nat} {k : Nat}, (∀ j, j < n → 1 ≤ chF fs j) → k < pr fs n → (∀ j, j < n → dg fs n k j = (chF fs j : Int) - 1) → k + 1 = pr fs n
  | 0, k, _, hk, _ => by
    have : pr fs 0 = 1 := rfl
    omega
  | n + 1, k, h, hk, hd => by
    have hf := h n (by omega)
    have h0 := hd n (by omega)
    rw [dg_last] at h0
    have h1 : k % chF fs n = chF fs n - 1 := by omega
    have ih := nxt_end (n := n) (k := k / chF fs n) (fun j hj => h j (by omega)) (div_pr hf hk) (fun j hj => by
      have := hd j (by omega)
      rwa [dg_lo _ _ _ (by omega)] at this)
    have h2 := Nat.div_add_mod k (chF fs n)
    show k + 1 = pr fs n * chF fs n
    rw [← ih, Nat.succ_mul, Nat.mul_comm (k / chF fs n)]
    omega
theorem nxt_some : ∀ {n : Nat} {k i : Nat}, (∀ j, j < n → 1 ≤ chF fs j) → k < pr fs n → i < n → dg fs n k i ≠ (chF fs i : Int) - 1 → (∀ j, i < j → j < n → dg fs n k j = (chF fs j : Int) - 1) →
    k + 1 < pr fs n ∧ ∀ j, j < n → dg fs n (k + 1) j = if j < i then dg fs n k j else if j = i then dg fs n k i + 1 else 0
  | 0, k, i, _, _, hi, _, _ => by omega
  | n + 1, k, i, h, hk, hi, hne, hd => by
    have hf := h n (by omega)
    have hdv := div_pr hf hk
    by_cases e : i = n
    · subst e
      rw [dg_last] at hne
      have h1 : k % chF fs i ≠ chF fs i - 1 := by omega
      obtain ⟨h2, h3⟩ := succ_mid hf h1
      refine ⟨?_, fun j hj => ?_⟩
      · have h4 : (k + 1) / chF fs i < pr fs i := by rw [h2]; exact hdv
        rw [Nat.div_lt_iff_lt_mul (by omega)] at h4
        exact h4
      · by_cases ej : j = i
        · subst ej
          rw [if_neg (by omega), if_pos rfl, dg_last, dg_last, h3]
          simp
        · rw [if_pos (by omega), dg_lo _ _ _ ej, dg_lo _ _ _ ej, h2]
    · have h0 := hd n (by omega) (by omega)
      rw [dg_last] at h0
      have h1 : k % chF fs n = chF fs n - 1 := by omega
      obtain ⟨h2, h3⟩ := succ_max hf h1
      rw [dg_lo _ _ _ e] at hne
      obtain ⟨h4, h5⟩ := nxt_some (n := n) (k := k / chF fs n) (i := i) (fun j hj => h j (by omega)) hdv (by omega) hne (fun j h6 h7 => by
        have := hd j h6 (by omega)
        rwa [dg_lo _ _ _ (by omega)] at this)
      refine ⟨?_, fun j hj => ?_⟩
      · have h6 : (k + 1) / chF fs n < pr fs n := by rw [h2]; exact h4
        rw [Nat.div_lt_iff_lt_mul (by omega)] at h6
        exact h6
      · by_cases ej : j = n
        · subst ej
          rw [if_neg (by omega), if_neg (by omega), dg_last, h3]
          rfl
        · rw [dg_lo _ _ _ ej, h2, h5 j (by omega)]
          by_cases e1 : j < i
          · rw [if_pos e1, if_pos e1, dg_lo _ _ _ ej]
          · rw [if_neg e1, if_neg e1, dg_lo _ _ _ e]
/-- the number of a case -/
def vl (fs : List Int) (c : Nat → Int) : Nat → Nat
  | 0 => 0
  | n + 1 => vl fs c n * chF fs n + (c n).toNat
theorem vl_congr (c c' : Nat → Int) : ∀ n, (∀ j, j < n → c j = c' j) → vl fs c n = vl fs c' n
  | 0, _ => rfl
  | n + 1, h => by
    show vl fs c n * _ + (c n).toNat = vl fs c' n * _ + (c' n).toNat
    rw [vl_congr c c' n (fun j hj => h j (by omega)), h n (by omega)]
theorem vl_dg : ∀ {n k : Nat}, (∀ j, j < n → 1 ≤ chF fs j) → k < pr fs n → vl fs (dg fs n k) n = k
  | 0, k, _, hk => by
    have : pr fs 0 = 1 := rfl
    show 0 = k
    omega
  | n + 1, k, h, hk => by
    have hf := h n (by omega)
    have ih := vl_dg (n := n) (k := k / chF fs n) (fun j hj => h j (by omega)) (div_pr hf hk)
    show vl fs (dg fs (n + 1) k) n * chF fs n + (dg fs (n + 1) k n).toNat = k
    rw [vl_congr (dg fs (n + 1) k) (dg fs n (k / chF fs n)) n (fun j hj => dg_lo _ _ _ (by omega)), ih, dg_last]
    have h2 := Nat.div_add_mod k (chF fs n)
    rw [Nat.mul_comm]
    omega
end
end Go.Proofs.YtfbnpiafoaoddaaDoor
/- School: the iterator over all cases. -/
namespace Go.Proofs.YtfbnpiafoaoddaaDoor
open List renaming getElem_toArray → glA, getElem_cons_zero → glB, getElem_cons_succ → glC, setIfInBounds_toArray → glD, set_cons_zero → glE, set_cons_succ → glF
open Go Go.RowKit Go.Shelf
attribute [local go_sem] Oper.semAt_some
set_option maxHeartbeats 4000000
set_option maxRecDepth 100000
theorem cases_any (C : Nat) (w : World) :
    Calls Tryd.prog 17 #[.pointer (some ⟨C, 0, none⟩)] w fun e w' => e = .returned (.func (.func 31) #[] #[.pointer (some ⟨w.heap.size, 0, none⟩)]) ∧ w.alloc (.cells #[.pointer (some ⟨C, 0, none⟩)] 60) = w' := by
  go_enter Tryd.func17, Tryd.ntmps17
  go_wp2_with fail
  go_ret
  exact ⟨rfl, rfl⟩
/-- what the iterator reads -/
structure CiR (W : World) (P C : Nat) (A : Option Addr) (nf fc : Nat) (fs : List Int) : Prop where
  p : W.cell? ⟨P, 0, none⟩ = some (.pointer (some ⟨C, 0, none⟩))
  c : W.cell? ⟨C, 0, none⟩ = some (.slice A nf fc)
  f : ∀ k, k < nf → ∃ b off, A = some ⟨b, off, none⟩ ∧ W.cell? ⟨b, off + k, none⟩ = some (.int .i64 (fs.getD k 0))
theorem CiR.kc {W W' : World} {P C : Nat} {A : Option Addr} {nf fc : Nat} {fs : List Int} (h : CiR W P C A nf fc fs) (hk : KC W W') : CiR W' P C A nf fc fs :=
  ⟨hk.cell h.p, hk.cell h.c, fun k hk1 => by
    obtain ⟨b, off, h1, h2⟩ := h.f k hk1
    exact ⟨b, off, h1, hk.cell h2⟩⟩
/-- all cells stay but those of block g -/
structure KG (g : Nat) (W W' : World) : Prop where
  size : W.heap.size ≤ W'.heap.size
  block : ∀ (k : Nat) (o : Obj), k ≠ g → W.heap[k]? = some o → o.isCells = true → W'.heap[k]? = some o
theorem KG.refl (g : Nat) (W : World) : KG g W W := ⟨Nat.le_refl _, fun _ _ _ h _ => h⟩
theorem KG.kc {g : Nat} {A B C : World} (h : KG g A B) (h2 : KC B C) : KG g A C := ⟨Nat.le_trans h.size h2.size, fun k o h0 h3 h4 => h2.block k o (h.block k o h0 h3 h4) h4⟩
theorem KG.set {g : Nat} {A B : World} (h : KG g A B) (i : Nat) (v : Value) : KG g A (B.setCell ⟨g, i, none⟩ v) :=
  ⟨by rw [size_set]; exact h.size, fun k o h0 h3 h4 => (Below.heap_setCell _ _ _ k h0).trans (h.block k o h0 h3 h4)⟩
theorem KG.cell {g : Nat} {W W' : World} (h : KG g W W') {p : Addr} {v : Value} (hp : p.block ≠ g) (hc : W.cell? p = some v) : W'.cell? p = some v := by
  unfold World.cell? at hc ⊢
  cases ho : W.heap[p.block]? with
  | none => rw [ho] at hc; simp at hc
  | some o =>
    rw [ho] at hc
    cases o with
    | cells cs t st => rw [h.block p.block _ hp ho rfl]; exact hc
    | _ => simp at hc
theorem cell_lt {W : World} {p : Addr} {v : Value} (hc : W.cell? p = some v) : p.block < W.heap.size := by
  unfold World.cell? at hc
  rcases Nat.lt_or_ge p.block W.heap.size with h | h
  · exact h
  · rw [Array.getElem?_eq_none h] at hc; simp at hc
theorem CiR.kg {W W' : World} {P C : Nat} {A : Option Addr} {nf fc : Nat} {fs : List Int} {g : Nat} (h : CiR W P C A nf fc fs) (hg : W.heap.size ≤ g) (hk : KG g W W') : CiR W' P C A nf fc fs :=
  ⟨hk.cell (by have := cell_lt h.p; dsimp only at this ⊢; omega) h.p, hk.cell (by have := cell_lt h.c; dsimp only at this ⊢; omega) h.c, fun k hk1 => by
    obtain ⟨b, off, h1, h2⟩ := h.f k hk1
    exact ⟨b, off, h1, hk.cell (by have := cell_lt h2; dsimp only at this ⊢; omega) h2⟩⟩
/-- case k -/
def csV (fs : List Int) (nf k : Nat) : Array Value := rowV nf fun j => .int .i64 (dg fs nf k j)
/-- the number of the case that lies in block g -/
def csN (fs : List Int) (nf g : Nat) (W : World) : Nat := vl fs (fun j => intOf ((W.cell? ⟨g, j, none⟩).getD (.int .i64 0))) nf
theorem csN_of {fs : List Int} {nf g k : Nat} {W : World} (h1 : ∀ j, j < nf → 1 ≤ chF fs j) (h : Blk W g 3 (csV fs nf k)) (hk : k < pr fs nf) : csN fs nf g W = k := by
  unfold csN
  rw [vl_congr _ (dg fs nf k) nf (fun j hj => by
    rw [h.cell]
    unfold csV
    rw [rowV_get _ _ hj]
    rfl)]
  exact vl_dg h1 hk
theorem AbM.set {β : Type} {B : Nat} {J : β → World → Prop} (h : AbM B J) {s : β} {W : World} (hs : J s W) {g : Nat} (hg : B ≤ g) (i : Nat) (v : Value) : J s (W.setCell ⟨g, i, none⟩ v) :=
  h s W _ (some g) hs (grownBy_setC W g i v) (fun r e => by injection e with e; omega)
theorem cases1_in (F : Fence) (n : Nat) (hF : ∀ f, F.fn f) (hro : F.round = none) (hn : 1 ≤ n) (l P C : Nat) (A : Option Addr) (nf fc : Nat) (fs : List Int) (J Jx : List (Nat × Nat) → World → Prop) (W : World)
    (hR : CiR W P C A nf fc fs) (hfs : ∀ k, k < nf → 1 ≤ fs.getD k 0 ∧ fs.getD k 0 ≤ 4) (hnf : nf ≤ 5) (hnf0 : 1 ≤ nf) (hJ : AbM W.heap.size J)
    (hY : ∀ pre (x : Nat × Nat) W1, J pre W1 → Blk W1 x.2 3 (csV fs nf x.1) → pre.length < pr fs nf → YieldAt F (n - 1) Tryd.prog l #[.slice (some ⟨x.2, 0, none⟩) nf nf] W1 fun e W' =>
      (e = .returned (.bool true) ∧ J (pre ++ [x]) W' ∧ KC W1 W') ∨ (e = .returned (.bool false) ∧ Jx (pre ++ [x]) W')) (h0 : J [] W) :
    CallsIn F n Tryd.prog 31 #[.func (.yield l) #[] #[], .pointer (some ⟨P, 0, none⟩)] W fun e W' => (∃ v, e = .returned v) ∧
      ((∃ ys : List (Nat × Nat), ys.map (·.1) = List.range (pr fs nf) ∧ J ys W') ∨ (∃ pre : List (Nat × Nat), (∃ m, m ≤ pr fs nf ∧ pre.map (·.1) = List.range m) ∧ Jx pre W')) := by
  have g1 := hR.p
  have g2 := hR.c
  have HYY := hide hY
  have HRR := hide hR
  have HFS := hide hfs
  have HJA := hide hJ
  have H0 := hide h0
  have hch : ∀ j, j < nf → 1 ≤ chF fs j := fun j hj => by have := hfs j hj; unfold chF; omega
  have HCH := hide hch
  obtain ⟨i0, hi, hz0, hz1, hz2⟩ := info_parts info_int'
  have gl := run_make_rowN (P := Tryd.prog) 26 3 i0 _ Tryd.underlying26 hi hz0 .i64 .i64 nf nf (Nat.le_refl _) (by rw [hz2]; omega) (by omega) W
  rw [hz1, rowV_ints] at gl
  clear hY hJ h0 hR hfs hch hi hz0 hz1 hz2
  refine callsIn_of_wp Tryd.func31 rfl (hF _) ?_ hro
  simp only [Tryd.ntmps31, List.size_toArray, List.length_cons, List.length_nil, Nat.reduceAdd, Nat.reduceSub, Array.replicate_succ, Array.replicate_zero, List.push_toArray, List.append_toArray, List.nil_append, List.cons_append]
  gi_wp2_with fail
  have HKG : Hid (KG W.heap.size W (W.alloc (.cells (rowV nf fun _ => .int .i64 0) 3))) := hide ((KG.refl _ W).kc (KC.of_below ((Below.refl _ _).alloc (Nat.le_refl _) _)))
  have HB0 : Hid (Blk (W.alloc (.cells (rowV nf fun _ => .int .i64 0) 3)) W.heap.size 3 (csV fs nf 0)) := hide (by
    have h := Blk.new W 3 (rowV nf fun _ => .int .i64 0)
    have e : (rowV nf fun _ => Value.int .i64 0) = csV fs nf 0 := rowV_same _ _ _ (fun k _ => by rw [dg_zero])
    rw [← e]
    exact h)
  have HJ0 : Hid (J [] (W.alloc (.cells (rowV nf fun _ => .int .i64 0) 3))) := hide (HJA.out.alloc _ H0.out)
  generalize (W.alloc (.cells (rowV nf fun _ => .int .i64 0) 3)) = W0 at HKG HB0 HJ0 ⊢
  clear gl g1 g2
  obtain ⟨g, hg⟩ : ∃ x, W.heap.size = x := ⟨_, rfl⟩
  have HGG := hide hg
  rw [hg] at HKG HB0 HJA ⊢
  clear hg
  gi_loopw [4] (fun v4 wr => ∃ (k : Nat) (ys : List (Nat × Nat)), (v4 = undef ∨ ∃ q, v4 = .int .i64 q) ∧ k < pr fs nf ∧ Hid (ys.map (·.1) = List.range k) ∧ Hid (J ys wr) ∧ Hid (KG g W wr) ∧ Hid (Blk wr g 3 (csV fs nf k))) (fun _ wr => pr fs nf - csN fs nf g wr)
  case atStart => exact ⟨0, [], .inl rfl, pr_pos HCH.out, hide rfl, HJ0, HKG, HB0⟩
  case round =>
    obtain ⟨k, ys, -, hk, HYS, HJ, HK, HB⟩ := hrel
    clear HJ0 HKG HB0
    have hmea : csN fs nf g wr = k := csN_of HCH.out HB.out hk
    have HMEA := hide hmea
    clear hmea
    obtain ⟨fn, tmps, assign, body, hy, hR⟩ := HYY.out ys (k, g) wr HJ.out HB.out (by
      have h := congrArg List.length HYS.out
      rw [List.length_map, List.length_range] at h
      omega)
    dsimp only at hy
    have HR := hide hR
    clear hR
    gi_wp2_with fail
    refine HR.out.mono ?_
    rintro e W3 (⟨rfl, hJ3, hk3⟩ | ⟨rfl, hJx3⟩)
    · -- BEGIN1
      have HJ3 := hide hJ3
      have HK3 := hide (HK.out.kc hk3)
      have HB3 := hide (hk3.blk HB.out)
      have hm3 : csN fs nf g W3 = k := csN_of HCH.out HB3.out hk
      clear hJ3 hk3 hy HR HJ HK HB hm3
      have w1 : IntKind.i64.wrap ((nf : Int) - 1) = (nf : Int) - 1 := IntWalk.i64_in _ (by omega)
      gi_wp2_with fail
      have hmix : Tryd.prog.follows .mixedOrders = true := by kernel_rfl
      gi_loopw [4] (fun x wr => ∃ (r : Nat) (iv : Int), x = .int .i64 iv ∧ iv = (r : Int) - 1 ∧ r ≤ nf ∧ Hid (∀ j, r ≤ j → j < nf → dg fs nf k j = (chF fs j : Int) - 1) ∧ Hid (J (ys ++ [(k, g)]) wr) ∧ Hid (KG g W wr) ∧ Hid (Blk wr g 3 (rowV nf fun j => .int .i64 (if j < r then dg fs nf k j else 0)))) (fun x _ => (intOf x + 1).toNat)
      case atStart => exact ⟨nf, _, rfl, rfl, Nat.le_refl _, hide (fun j h1 h2 => by omega), HJ3, HK3, hide (by
        have e : csV fs nf k = rowV nf fun j => .int .i64 (if j < nf then dg fs nf k j else 0) := rowV_same _ _ _ (fun j hj => by rw [if_pos hj])
        rw [← e]; exact HB3.out)⟩
      case round =>
        obtain ⟨r, iv, rfl, hiv, hr, HD, HJ4, HK4, HB4⟩ := hrel
        clear HJ3 HK3 HB3
        rcases r with _ | i
        · obtain rfl : iv = -1 := by omega
          clear hiv
          have hend := nxt_end HCH.out hk (fun j hj => HD.out j (by omega) hj)
          have HEND := hide hend
          clear hend
          gi_wp2_with fail
          refine wpIn_region_J (fun _ : World => True) hmix ?_
          have HJd := hide (HJA.out _ _ _ none HJ4.out (⟨rfl, rfl, rfl, Nat.le_refl _, fun _ _ _ => rfl⟩ : wr.grownBy wr.drew none) (fun r e => by cases e))
          generalize wr.drew = wd at HJd ⊢
          refine wpAnyJ_take 0 (v := ?_) (by first | exact hF | exact wideFn) (trivial) rfl (by kernel_rfl) (by kernel_rfl) (by kernel_rfl) (by kernel_rfl) rfl ?_ (by first | exact fun _ _ _ h => h | exact fun _ _ _ h => hQ2 _ _ _ _ _ h) ?_
          rotate_left
          · intro W hSW
            simp only [glA, glB, glC]
            (try dsimp only at hSW)
            go_simp
            with_reducible rfl
          (try simp only [glA, glB, glC, Act.put, glD, glE, glF])
          refine wpAnyJ_take 1 (v := ?_) (by first | exact hF | exact wideFn) (trivial) rfl (by kernel_rfl) (by kernel_rfl) (by kernel_rfl) (by kernel_rfl) rfl ?_ (by first | exact fun _ _ _ h => h | exact fun _ _ _ h => hQ2 _ _ _ _ _ h) ?_
          rotate_left
          · intro W hSW
            simp only [glA, glB, glC]
            (try dsimp only at hSW)
            go_simp
            with_reducible rfl
          (try simp only [glA, glB, glC, Act.put, glD, glE, glF])
          refine wpAnyJ_take 2 (v := ?_) (by first | exact hF | exact wideFn) (trivial) rfl (by kernel_rfl) (by kernel_rfl) (by kernel_rfl) (by kernel_rfl) rfl ?_ (by first | exact fun _ _ _ h => h | exact fun _ _ _ h => hQ2 _ _ _ _ _ h) ?_
          rotate_left
          · intro W hSW
            simp only [glA, glB, glC]
            (try dsimp only at hSW)
            go_simp
            with_reducible rfl
          (try simp only [glA, glB, glC, Act.put, glD, glE, glF])
          refine wpAnyJ_skip 3 (by first | exact hF | exact wideFn) (trivial) rfl (by kernel_rfl) (by kernel_rfl) (by kernel_rfl) (by kernel_rfl) rfl (by first | exact fun _ _ _ h => h | exact fun _ _ _ h => hQ2 _ _ _ _ _ h) ?_
          (try simp only [glA, glB, glC, Act.put, glD, glE, glF])
          refine wpAnyJ_skip 4 (by first | exact hF | exact wideFn) (trivial) rfl (by kernel_rfl) (by kernel_rfl) (by kernel_rfl) (by kernel_rfl) rfl (by first | exact fun _ _ _ h => h | exact fun _ _ _ h => hQ2 _ _ _ _ _ h) ?_
          (try simp only [glA, glB, glC, Act.put, glD, glE, glF])
          refine wpAnyJ_skip 5 (by first | exact hF | exact wideFn) (trivial) rfl (by kernel_rfl) (by kernel_rfl) (by kernel_rfl) (by kernel_rfl) rfl (by first | exact fun _ _ _ h => h | exact fun _ _ _ h => hQ2 _ _ _ _ _ h) ?_
          (try simp only [glA, glB, glC, Act.put, glD, glE, glF])
          refine wpAnyJ_skip 6 (by first | exact hF | exact wideFn) (trivial) rfl (by kernel_rfl) (by kernel_rfl) (by kernel_rfl) (by kernel_rfl) rfl (by first | exact fun _ _ _ h => h | exact fun _ _ _ h => hQ2 _ _ _ _ _ h) ?_
          (try simp only [glA, glB, glC, Act.put, glD, glE, glF])
          refine wpAnyJ_skip 7 (by first | exact hF | exact wideFn) (trivial) rfl (by kernel_rfl) (by kernel_rfl) (by kernel_rfl) (by kernel_rfl) rfl (by first | exact fun _ _ _ h => h | exact fun _ _ _ h => hQ2 _ _ _ _ _ h) ?_
          (try simp only [glA, glB, glC, Act.put, glD, glE, glF])
          refine wpAnyJ_skip 8 (by first | exact hF | exact wideFn) (trivial) rfl (by kernel_rfl) (by kernel_rfl) (by kernel_rfl) (by kernel_rfl) rfl (by first | exact fun _ _ _ h => h | exact fun _ _ _ h => hQ2 _ _ _ _ _ h) ?_
          (try simp only [glA, glB, glC, Act.put, glD, glE, glF])
          refine wpAnyJ_skip 9 (by first | exact hF | exact wideFn) (trivial) rfl (by kernel_rfl) (by kernel_rfl) (by kernel_rfl) (by kernel_rfl) rfl (by first | exact fun _ _ _ h => h | exact fun _ _ _ h => hQ2 _ _ _ _ _ h) ?_
          (try simp only [glA, glB, glC, Act.put, glD, glE, glF])
          refine wpAnyJ_skip 10 (by first | exact hF | exact wideFn) (trivial) rfl (by kernel_rfl) (by kernel_rfl) (by kernel_rfl) (by kernel_rfl) rfl (by first | exact fun _ _ _ h => h | exact fun _ _ _ h => hQ2 _ _ _ _ _ h) ?_
          (try simp only [glA, glB, glC, Act.put, glD, glE, glF])
          refine wpAnyJ_skip 11 (by first | exact hF | exact wideFn) (trivial) rfl (by kernel_rfl) (by kernel_rfl) (by kernel_rfl) (by kernel_rfl) rfl (by first | exact fun _ _ _ h => h | exact fun _ _ _ h => hQ2 _ _ _ _ _ h) ?_
          (try simp only [glA, glB, glC, Act.put, glD, glE, glF])
          refine wpAnyJ_skip 12 (by first | exact hF | exact wideFn) (trivial) rfl (by kernel_rfl) (by kernel_rfl) (by kernel_rfl) (by kernel_rfl) rfl (by first | exact fun _ _ _ h => h | exact fun _ _ _ h => hQ2 _ _ _ _ _ h) ?_
          (try simp only [glA, glB, glC, Act.put, glD, glE, glF])
          refine wpAnyJ_skip 13 (by first | exact hF | exact wideFn) (trivial) rfl (by kernel_rfl) (by kernel_rfl) (by kernel_rfl) (by kernel_rfl) rfl (by first | exact fun _ _ _ h => h | exact fun _ _ _ h => hQ2 _ _ _ _ _ h) ?_
          (try simp only [glA, glB, glC, Act.put, glD, glE, glF])
          refine wpAnyJ_skip 14 (by first | exact hF | exact wideFn) (trivial) rfl (by kernel_rfl) (by kernel_rfl) (by kernel_rfl) (by kernel_rfl) rfl (by first | exact fun _ _ _ h => h | exact fun _ _ _ h => hQ2 _ _ _ _ _ h) ?_
          (try simp only [glA, glB, glC, Act.put, glD, glE, glF])
          refine wpAnyJ_skip 15 (by first | exact hF | exact wideFn) (trivial) rfl (by kernel_rfl) (by kernel_rfl) (by kernel_rfl) (by kernel_rfl) rfl (by first | exact fun _ _ _ h => h | exact fun _ _ _ h => hQ2 _ _ _ _ _ h) ?_
          (try simp only [glA, glB, glC, Act.put, glD, glE, glF])
          refine wpAnyJ_skip 16 (by first | exact hF | exact wideFn) (trivial) rfl (by kernel_rfl) (by kernel_rfl) (by kernel_rfl) (by kernel_rfl) rfl (by first | exact fun _ _ _ h => h | exact fun _ _ _ h => hQ2 _ _ _ _ _ h) ?_
          (try simp only [glA, glB, glC, Act.put, glD, glE, glF])
          refine wpAnyJ_take 17 (v := ?_) (by first | exact hF | exact wideFn) (trivial) rfl (by kernel_rfl) (by kernel_rfl) (by kernel_rfl) (by kernel_rfl) rfl ?_ (by first | exact fun _ _ _ h => h | exact fun _ _ _ h => hQ2 _ _ _ _ _ h) ?_
          rotate_left
          · intro W hSW
            simp only [glA, glB, glC]
            (try dsimp only at hSW)
            go_simp
            with_reducible rfl
          (try simp only [glA, glB, glC, Act.put, glD, glE, glF])
          refine wpAnyJ_done (by kernel_rfl) ?_
          gi_wp2_with fail
          refine bodyPost_ret (results_none rfl _ _ _) rfl ?_
          exact ⟨⟨_, rfl⟩, .inl ⟨_, by rw [List.map_append, HYS.out, ← HEND.out, List.range_succ]; rfl, HJd.out⟩⟩
        · obtain rfl : iv = (i : Int) := by omega
          clear hiv
          have hin : i < nf := by omega
          have hin' : (i : Int) < (nf : Int) := by omega
          have i0' : (0 : Int) ≤ (i : Int) := by omega
          have hci := HRR.out.kg (by rw [HGG.out]; exact Nat.le_refl _) HK4.out
          obtain ⟨fb, fo, rfl, hff⟩ := hci.f i hin
          have hp := hci.p
          have hc := hci.c
          have hx0 : wr.cell? ⟨g, i, none⟩ = some (.int .i64 (dg fs nf k i)) := by rw [HB4.out.cell, rowV_get _ _ hin, if_pos (by omega)]
          have hf14 := HFS.out i hin
          have hfx : fs.getD i 0 = (chF fs i : Int) := by unfold chF; omega
          have hbd := dg_bd (fs := fs) (n := nf) k HCH.out i hin
          obtain ⟨f, hf⟩ : ∃ f, fs.getD i 0 = f := ⟨_, rfl⟩
          obtain ⟨x, hx⟩ : ∃ f, dg fs nf k i = f := ⟨_, rfl⟩
          rw [hf] at hff hf14 hfx
          rw [hx] at hx0 hbd
          have w2 : IntKind.i64.wrap (f - 1) = f - 1 := IntWalk.i64_in _ (by omega)
          have w3 : IntKind.i64.wrap (x + 1) = x + 1 := IntWalk.i64_in _ (by omega)
          have w4 : IntKind.i64.wrap ((i : Int) - 1) = (i : Int) - 1 := IntWalk.i64_in _ (by omega)
          have HX := hide (And.intro hx hfx)
          have HS : Hid (∀ W', Below wr.heap.size wr W' → (W'.cell? ⟨P, 0, none⟩ = some (.pointer (some ⟨C, 0, none⟩)) ∧ W'.cell? ⟨C, 0, none⟩ = some (.slice (some ⟨fb, fo, none⟩) nf fc)) ∧ W'.cell? ⟨fb, fo + i, none⟩ = some (.int .i64 f) ∧ W'.cell? ⟨g, i, none⟩ = some (.int .i64 x)) := hide fun W' h =>
            ⟨⟨(h.cell (cell_lt hp)).trans hp, (h.cell (cell_lt hc)).trans hc⟩, (h.cell (cell_lt hff)).trans hff, (h.cell (cell_lt hx0)).trans hx0⟩
          clear hx hf hfx hci hp hc hff hx0
          gi_wp2_with fail
          have Bd := hide ((Below.refl wr.heap.size wr).drew)
          refine wpIn_region_J (fun W' : World => (W'.cell? ⟨P, 0, none⟩ = some (.pointer (some ⟨C, 0, none⟩)) ∧ W'.cell? ⟨C, 0, none⟩ = some (.slice (some ⟨fb, fo, none⟩) nf fc)) ∧ W'.cell? ⟨fb, fo + i, none⟩ = some (.int .i64 f) ∧ W'.cell? ⟨g, i, none⟩ = some (.int .i64 x)) hmix ?_
          have HJd := hide (HJA.out _ _ _ none HJ4.out (⟨rfl, rfl, rfl, Nat.le_refl _, fun _ _ _ => rfl⟩ : wr.grownBy wr.drew none) (fun r e => by cases e))
          have HKd := hide (HK4.out.kc (KC.of_below Bd.out))
          have HBd := hide (HB4.out.ext Bd.out)
          have HSd := hide (HS.out _ Bd.out)
          generalize wr.drew = wd at HJd HKd HBd HSd ⊢
          clear HJ4 HK4 HB4 HS Bd
          by_cases hxf : x = f - 1
          · have e1 : (x == f - 1) = true := by rw [hxf]; exact beq_self_eq_true _
            have HD2 : Hid (∀ j, i ≤ j → j < nf → dg fs nf k j = (chF fs j : Int) - 1) := hide (fun j h1 h2 => by
              rcases (by omega : j = i ∨ i + 1 ≤ j) with rfl | h3
              · rw [HX.out.1, hxf, HX.out.2]
              · exact HD.out j h3 h2)
            clear hxf
            refine wpAnyJ_take 0 (v := ?_) (by first | exact hF | exact wideFn) (HSd.out) rfl (by kernel_rfl) (by kernel_rfl) (by kernel_rfl) (by kernel_rfl) rfl ?_ (by first | exact fun _ _ _ h => h | exact fun _ _ _ h => hQ2 _ _ _ _ _ h) ?_
            rotate_left
            · intro W hSW
              simp only [glA, glB, glC]
              (try dsimp only at hSW)
              go_simp
              with_reducible rfl
            (try simp only [glA, glB, glC, Act.put, glD, glE, glF])
            refine wpAnyJ_take 1 (v := ?_) (by first | exact hF | exact wideFn) (HSd.out) rfl (by kernel_rfl) (by kernel_rfl) (by kernel_rfl) (by kernel_rfl) rfl ?_ (by first | exact fun _ _ _ h => h | exact fun _ _ _ h => hQ2 _ _ _ _ _ h) ?_
            rotate_left
            · intro W hSW
              simp only [glA, glB, glC]
              (try dsimp only at hSW)
              go_simp
              with_reducible rfl
            (try simp only [glA, glB, glC, Act.put, glD, glE, glF])
            refine wpAnyJ_take 2 (v := ?_) (by first | exact hF | exact wideFn) (HSd.out) rfl (by kernel_rfl) (by kernel_rfl) (by kernel_rfl) (by kernel_rfl) rfl ?_ (by first | exact fun _ _ _ h => h | exact fun _ _ _ h => hQ2 _ _ _ _ _ h) ?_
            rotate_left
            · intro W hSW
              simp only [glA, glB, glC]
              (try dsimp only at hSW)
              go_simp
              with_reducible rfl
            (try simp only [glA, glB, glC, Act.put, glD, glE, glF])
            refine wpAnyJ_take 3 (v := ?_) (by first | exact hF | exact wideFn) (HSd.out) rfl (by kernel_rfl) (by kernel_rfl) (by kernel_rfl) (by kernel_rfl) rfl ?_ (by first | exact fun _ _ _ h => h | exact fun _ _ _ h => hQ2 _ _ _ _ _ h) ?_
            rotate_left
            · intro W hSW
              simp only [glA, glB, glC]
              (try dsimp only at hSW)
              go_simp
              with_reducible rfl
            (try simp only [glA, glB, glC, Act.put, glD, glE, glF])
            refine wpAnyJ_take 4 (v := ?_) (by first | exact hF | exact wideFn) (HSd.out) rfl (by kernel_rfl) (by kernel_rfl) (by kernel_rfl) (by kernel_rfl) rfl ?_ (by first | exact fun _ _ _ h => h | exact fun _ _ _ h => hQ2 _ _ _ _ _ h) ?_
            rotate_left
            · intro W hSW
              simp only [glA, glB, glC]
              (try dsimp only at hSW)
              go_simp
              with_reducible rfl
            (try simp only [glA, glB, glC, Act.put, glD, glE, glF])
            refine wpAnyJ_take 5 (v := ?_) (by first | exact hF | exact wideFn) (HSd.out) rfl (by kernel_rfl) (by kernel_rfl) (by kernel_rfl) (by kernel_rfl) rfl ?_ (by first | exact fun _ _ _ h => h | exact fun _ _ _ h => hQ2 _ _ _ _ _ h) ?_
            rotate_left
            · intro W hSW
              simp only [glA, glB, glC]
              (try dsimp only at hSW)
              go_simp
              with_reducible rfl
            (try simp only [glA, glB, glC, Act.put, glD, glE, glF])
            refine wpAnyJ_take 6 (v := ?_) (by first | exact hF | exact wideFn) (HSd.out) rfl (by kernel_rfl) (by kernel_rfl) (by kernel_rfl) (by kernel_rfl) rfl ?_ (by first | exact fun _ _ _ h => h | exact fun _ _ _ h => hQ2 _ _ _ _ _ h) ?_
            rotate_left
            · intro W hSW
              simp only [glA, glB, glC]
              (try dsimp only at hSW)
              go_simp
              with_reducible rfl
            (try simp only [glA, glB, glC, Act.put, glD, glE, glF])
            refine wpAnyJ_take 7 (v := ?_) (by first | exact hF | exact wideFn) (HSd.out) rfl (by kernel_rfl) (by kernel_rfl) (by kernel_rfl) (by kernel_rfl) rfl ?_ (by first | exact fun _ _ _ h => h | exact fun _ _ _ h => hQ2 _ _ _ _ _ h) ?_
            rotate_left
            · intro W hSW
              simp only [glA, glB, glC]
              (try dsimp only at hSW)
              go_simp
              with_reducible rfl
            (try simp only [glA, glB, glC, Act.put, glD, glE, glF])
            refine wpAnyJ_take 8 (v := ?_) (by first | exact hF | exact wideFn) (HSd.out) rfl (by kernel_rfl) (by kernel_rfl) (by kernel_rfl) (by kernel_rfl) rfl ?_ (by first | exact fun _ _ _ h => h | exact fun _ _ _ h => hQ2 _ _ _ _ _ h) ?_
            rotate_left
            · intro W hSW
              simp only [glA, glB, glC]
              (try dsimp only at hSW)
              go_simp
              with_reducible rfl
            (try simp only [glA, glB, glC, Act.put, glD, glE, glF])
            refine wpAnyJ_take 9 (v := ?_) (by first | exact hF | exact wideFn) (HSd.out) rfl (by kernel_rfl) (by kernel_rfl) (by kernel_rfl) (by kernel_rfl) rfl ?_ (by first | exact fun _ _ _ h => h | exact fun _ _ _ h => hQ2 _ _ _ _ _ h) ?_
            rotate_left
            · intro W hSW
              simp only [glA, glB, glC]
              (try dsimp only at hSW)
              go_simp
              with_reducible rfl
            (try simp only [glA, glB, glC, Act.put, glD, glE, glF])
            refine wpAnyJ_take 10 (v := ?_) (by first | exact hF | exact wideFn) (HSd.out) rfl (by kernel_rfl) (by kernel_rfl) (by kernel_rfl) (by kernel_rfl) rfl ?_ (by first | exact fun _ _ _ h => h | exact fun _ _ _ h => hQ2 _ _ _ _ _ h) ?_
            rotate_left
            · intro W hSW
              simp only [glA, glB, glC]
              (try dsimp only at hSW)
              go_simp
              with_reducible rfl
            (try simp only [glA, glB, glC, Act.put, glD, glE, glF])
            refine wpAnyJ_take 11 (v := ?_) (by first | exact hF | exact wideFn) (HSd.out) rfl (by kernel_rfl) (by kernel_rfl) (by kernel_rfl) (by kernel_rfl) rfl ?_ (by first | exact fun _ _ _ h => h | exact fun _ _ _ h => hQ2 _ _ _ _ _ h) ?_
            rotate_left
            · intro W hSW
              simp only [glA, glB, glC]
              (try dsimp only at hSW)
              go_simp
              with_reducible rfl
            (try simp only [glA, glB, glC, Act.put, glD, glE, glF])
            refine wpAnyJ_take 12 (v := ?_) (by first | exact hF | exact wideFn) (HSd.out) rfl (by kernel_rfl) (by kernel_rfl) (by kernel_rfl) (by kernel_rfl) rfl ?_ (by first | exact fun _ _ _ h => h | exact fun _ _ _ h => hQ2 _ _ _ _ _ h) ?_
            rotate_left
            · intro W hSW
              simp only [glA, glB, glC]
              (try dsimp only at hSW)
              go_simp
              with_reducible rfl
            (try simp only [glA, glB, glC, Act.put, glD, glE, glF])
            refine wpAnyJ_take 13 (v := ?_) (by first | exact hF | exact wideFn) (HSd.out) rfl (by kernel_rfl) (by kernel_rfl) (by kernel_rfl) (by kernel_rfl) rfl ?_ (by first | exact fun _ _ _ h => h | exact fun _ _ _ h => hQ2 _ _ _ _ _ h) ?_
            rotate_left
            · intro W hSW
              simp only [glA, glB, glC]
              (try dsimp only at hSW)
              go_simp
              with_reducible rfl
            (try simp only [glA, glB, glC, Act.put, glD, glE, glF])
            refine wpAnyJ_take 14 (v := ?_) (by first | exact hF | exact wideFn) (HSd.out) rfl (by kernel_rfl) (by kernel_rfl) (by kernel_rfl) (by kernel_rfl) rfl ?_ (by first | exact fun _ _ _ h => h | exact fun _ _ _ h => hQ2 _ _ _ _ _ h) ?_
            rotate_left
            · intro W hSW
              simp only [glA, glB, glC]
              (try dsimp only at hSW)
              go_simp
              with_reducible rfl
            (try simp only [glA, glB, glC, Act.put, glD, glE, glF])
            refine wpAnyJ_take 15 (v := ?_) (by first | exact hF | exact wideFn) (HSd.out) rfl (by kernel_rfl) (by kernel_rfl) (by kernel_rfl) (by kernel_rfl) rfl ?_ (by first | exact fun _ _ _ h => h | exact fun _ _ _ h => hQ2 _ _ _ _ _ h) ?_
            rotate_left
            · intro W hSW
              simp only [glA, glB, glC]
              (try dsimp only at hSW)
              go_simp
              with_reducible rfl
            (try simp only [glA, glB, glC, Act.put, glD, glE, glF])
            refine wpAnyJ_take 16 (v := ?_) (by first | exact hF | exact wideFn) (HSd.out) rfl (by kernel_rfl) (by kernel_rfl) (by kernel_rfl) (by kernel_rfl) rfl ?_ (by first | exact fun _ _ _ h => h | exact fun _ _ _ h => hQ2 _ _ _ _ _ h) ?_
            rotate_left
            · intro W hSW
              simp only [glA, glB, glC]
              (try dsimp only at hSW)
              go_simp
              with_reducible rfl
            (try simp only [glA, glB, glC, Act.put, glD, glE, glF])
            refine wpAnyJ_take 17 (v := ?_) (by first | exact hF | exact wideFn) (HSd.out) rfl (by kernel_rfl) (by kernel_rfl) (by kernel_rfl) (by kernel_rfl) rfl ?_ (by first | exact fun _ _ _ h => h | exact fun _ _ _ h => hQ2 _ _ _ _ _ h) ?_
            rotate_left
            · intro W hSW
              simp only [glA, glB, glC]
              (try dsimp only at hSW)
              go_simp
              with_reducible rfl
            (try simp only [glA, glB, glC, Act.put, glD, glE, glF])
            refine wpAnyJ_done (by kernel_rfl) ?_
            have cg := HSd.out.2.2
            have fg := HBd.out.frozen i
            have lg := HBd.out.lt
            have HB5 := hide (HBd.out.set_ i (.int .i64 0))
            have HJ5 := hide (HJA.out.set HJd.out (Nat.le_refl g) i (.int .i64 0))
            have HK5 := hide (HKd.out.set i (.int .i64 0))
            gi_wp2_with fail
            go_roundw
            case rel => exact ⟨i, (i : Int) - 1, by first | rfl | rw [w4], rfl, by omega, HD2, HJ5, HK5, hide (by
              have h := HB5.out
              rw [rowV_set] at h
              rw [rowV_same nf _ (upd (fun j => Value.int .i64 (if j < i + 1 then dg fs nf k j else 0)) i (.int .i64 0)) (fun j hj => by
                unfold upd
                by_cases e : j = i
                · subst e; rw [if_pos rfl, if_neg (by omega)]
                · rw [if_neg e]
                  dsimp only
                  by_cases e2 : j < i
                  · rw [if_pos e2, if_pos (by omega)]
                  · rw [if_neg e2, if_neg (by omega)])]
              exact h)⟩
            case measure => first | (simp [intOf]; omega) | simp [intOf]
          · have e1 : (x == f - 1) = false := by rw [beq_eq_false_iff_ne]; exact hxf
            have hnx := nxt_some HCH.out hk hin (by rw [HX.out.1, ← HX.out.2]; exact hxf) (fun j h1 h2 => HD.out j (by omega) h2)
            have HNX := hide hnx
            clear hxf hnx
            refine wpAnyJ_take 0 (v := ?_) (by first | exact hF | exact wideFn) (HSd.out) rfl (by kernel_rfl) (by kernel_rfl) (by kernel_rfl) (by kernel_rfl) rfl ?_ (by first | exact fun _ _ _ h => h | exact fun _ _ _ h => hQ2 _ _ _ _ _ h) ?_
            rotate_left
            · intro W hSW
              simp only [glA, glB, glC]
              (try dsimp only at hSW)
              go_simp
              with_reducible rfl
            (try simp only [glA, glB, glC, Act.put, glD, glE, glF])
            refine wpAnyJ_take 1 (v := ?_) (by first | exact hF | exact wideFn) (HSd.out) rfl (by kernel_rfl) (by kernel_rfl) (by kernel_rfl) (by kernel_rfl) rfl ?_ (by first | exact fun _ _ _ h => h | exact fun _ _ _ h => hQ2 _ _ _ _ _ h) ?_
            rotate_left
            · intro W hSW
              simp only [glA, glB, glC]
              (try dsimp only at hSW)
              go_simp
              with_reducible rfl
            (try simp only [glA, glB, glC, Act.put, glD, glE, glF])
            refine wpAnyJ_take 2 (v := ?_) (by first | exact hF | exact wideFn) (HSd.out) rfl (by kernel_rfl) (by kernel_rfl) (by kernel_rfl) (by kernel_rfl) rfl ?_ (by first | exact fun _ _ _ h => h | exact fun _ _ _ h => hQ2 _ _ _ _ _ h) ?_
            rotate_left
            · intro W hSW
              simp only [glA, glB, glC]
              (try dsimp only at hSW)
              go_simp
              with_reducible rfl
            (try simp only [glA, glB, glC, Act.put, glD, glE, glF])
            refine wpAnyJ_take 3 (v := ?_) (by first | exact hF | exact wideFn) (HSd.out) rfl (by kernel_rfl) (by kernel_rfl) (by kernel_rfl) (by kernel_rfl) rfl ?_ (by first | exact fun _ _ _ h => h | exact fun _ _ _ h => hQ2 _ _ _ _ _ h) ?_
            rotate_left
            · intro W hSW
              simp only [glA, glB, glC]
              (try dsimp only at hSW)
              go_simp
              with_reducible rfl
            (try simp only [glA, glB, glC, Act.put, glD, glE, glF])
            refine wpAnyJ_take 4 (v := ?_) (by first | exact hF | exact wideFn) (HSd.out) rfl (by kernel_rfl) (by kernel_rfl) (by kernel_rfl) (by kernel_rfl) rfl ?_ (by first | exact fun _ _ _ h => h | exact fun _ _ _ h => hQ2 _ _ _ _ _ h) ?_
            rotate_left
            · intro W hSW
              simp only [glA, glB, glC]
              (try dsimp only at hSW)
              go_simp
              with_reducible rfl
            (try simp only [glA, glB, glC, Act.put, glD, glE, glF])
            refine wpAnyJ_take 5 (v := ?_) (by first | exact hF | exact wideFn) (HSd.out) rfl (by kernel_rfl) (by kernel_rfl) (by kernel_rfl) (by kernel_rfl) rfl ?_ (by first | exact fun _ _ _ h => h | exact fun _ _ _ h => hQ2 _ _ _ _ _ h) ?_
            rotate_left
            · intro W hSW
              simp only [glA, glB, glC]
              (try dsimp only at hSW)
              go_simp
              with_reducible rfl
            (try simp only [glA, glB, glC, Act.put, glD, glE, glF])
            refine wpAnyJ_take 6 (v := ?_) (by first | exact hF | exact wideFn) (HSd.out) rfl (by kernel_rfl) (by kernel_rfl) (by kernel_rfl) (by kernel_rfl) rfl ?_ (by first | exact fun _ _ _ h => h | exact fun _ _ _ h => hQ2 _ _ _ _ _ h) ?_
            rotate_left
            · intro W hSW
              simp only [glA, glB, glC]
              (try dsimp only at hSW)
              go_simp
              with_reducible rfl
            (try simp only [glA, glB, glC, Act.put, glD, glE, glF])
            refine wpAnyJ_take 7 (v := ?_) (by first | exact hF | exact wideFn) (HSd.out) rfl (by kernel_rfl) (by kernel_rfl) (by kernel_rfl) (by kernel_rfl) rfl ?_ (by first | exact fun _ _ _ h => h | exact fun _ _ _ h => hQ2 _ _ _ _ _ h) ?_
            rotate_left
            · intro W hSW
              simp only [glA, glB, glC]
              (try dsimp only at hSW)
              go_simp
              with_reducible rfl
            (try simp only [glA, glB, glC, Act.put, glD, glE, glF])
            refine wpAnyJ_take 8 (v := ?_) (by first | exact hF | exact wideFn) (HSd.out) rfl (by kernel_rfl) (by kernel_rfl) (by kernel_rfl) (by kernel_rfl) rfl ?_ (by first | exact fun _ _ _ h => h | exact fun _ _ _ h => hQ2 _ _ _ _ _ h) ?_
            rotate_left
            · intro W hSW
              simp only [glA, glB, glC]
              (try dsimp only at hSW)
              go_simp
              with_reducible rfl
            (try simp only [glA, glB, glC, Act.put, glD, glE, glF])
            refine wpAnyJ_take 9 (v := ?_) (by first | exact hF | exact wideFn) (HSd.out) rfl (by kernel_rfl) (by kernel_rfl) (by kernel_rfl) (by kernel_rfl) rfl ?_ (by first | exact fun _ _ _ h => h | exact fun _ _ _ h => hQ2 _ _ _ _ _ h) ?_
            rotate_left
            · intro W hSW
              simp only [glA, glB, glC]
              (try dsimp only at hSW)
              go_simp
              with_reducible rfl
            (try simp only [glA, glB, glC, Act.put, glD, glE, glF])
            refine wpAnyJ_take 10 (v := ?_) (by first | exact hF | exact wideFn) (HSd.out) rfl (by kernel_rfl) (by kernel_rfl) (by kernel_rfl) (by kernel_rfl) rfl ?_ (by first | exact fun _ _ _ h => h | exact fun _ _ _ h => hQ2 _ _ _ _ _ h) ?_
            rotate_left
            · intro W hSW
              simp only [glA, glB, glC]
              (try dsimp only at hSW)
              go_simp
              with_reducible rfl
            (try simp only [glA, glB, glC, Act.put, glD, glE, glF])
            refine wpAnyJ_take 11 (v := ?_) (by first | exact hF | exact wideFn) (HSd.out) rfl (by kernel_rfl) (by kernel_rfl) (by kernel_rfl) (by kernel_rfl) rfl ?_ (by first | exact fun _ _ _ h => h | exact fun _ _ _ h => hQ2 _ _ _ _ _ h) ?_
            rotate_left
            · intro W hSW
              simp only [glA, glB, glC]
              (try dsimp only at hSW)
              go_simp
              with_reducible rfl
            (try simp only [glA, glB, glC, Act.put, glD, glE, glF])
            refine wpAnyJ_take 12 (v := ?_) (by first | exact hF | exact wideFn) (HSd.out) rfl (by kernel_rfl) (by kernel_rfl) (by kernel_rfl) (by kernel_rfl) rfl ?_ (by first | exact fun _ _ _ h => h | exact fun _ _ _ h => hQ2 _ _ _ _ _ h) ?_
            rotate_left
            · intro W hSW
              simp only [glA, glB, glC]
              (try dsimp only at hSW)
              go_simp
              with_reducible rfl
            (try simp only [glA, glB, glC, Act.put, glD, glE, glF])
            refine wpAnyJ_take 13 (v := ?_) (by first | exact hF | exact wideFn) (HSd.out) rfl (by kernel_rfl) (by kernel_rfl) (by kernel_rfl) (by kernel_rfl) rfl ?_ (by first | exact fun _ _ _ h => h | exact fun _ _ _ h => hQ2 _ _ _ _ _ h) ?_
            rotate_left
            · intro W hSW
              simp only [glA, glB, glC]
              (try dsimp only at hSW)
              go_simp
              with_reducible rfl
            (try simp only [glA, glB, glC, Act.put, glD, glE, glF])
            refine wpAnyJ_take 14 (v := ?_) (by first | exact hF | exact wideFn) (HSd.out) rfl (by kernel_rfl) (by kernel_rfl) (by kernel_rfl) (by kernel_rfl) rfl ?_ (by first | exact fun _ _ _ h => h | exact fun _ _ _ h => hQ2 _ _ _ _ _ h) ?_
            rotate_left
            · intro W hSW
              simp only [glA, glB, glC]
              (try dsimp only at hSW)
              go_simp
              with_reducible rfl
            (try simp only [glA, glB, glC, Act.put, glD, glE, glF])
            refine wpAnyJ_take 15 (v := ?_) (by first | exact hF | exact wideFn) (HSd.out) rfl (by kernel_rfl) (by kernel_rfl) (by kernel_rfl) (by kernel_rfl) rfl ?_ (by first | exact fun _ _ _ h => h | exact fun _ _ _ h => hQ2 _ _ _ _ _ h) ?_
            rotate_left
            · intro W hSW
              simp only [glA, glB, glC]
              (try dsimp only at hSW)
              go_simp
              with_reducible rfl
            (try simp only [glA, glB, glC, Act.put, glD, glE, glF])
            refine wpAnyJ_take 16 (v := ?_) (by first | exact hF | exact wideFn) (HSd.out) rfl (by kernel_rfl) (by kernel_rfl) (by kernel_rfl) (by kernel_rfl) rfl ?_ (by first | exact fun _ _ _ h => h | exact fun _ _ _ h => hQ2 _ _ _ _ _ h) ?_
            rotate_left
            · intro W hSW
              simp only [glA, glB, glC]
              (try dsimp only at hSW)
              go_simp
              with_reducible rfl
            (try simp only [glA, glB, glC, Act.put, glD, glE, glF])
            refine wpAnyJ_take 17 (v := ?_) (by first | exact hF | exact wideFn) (HSd.out) rfl (by kernel_rfl) (by kernel_rfl) (by kernel_rfl) (by kernel_rfl) rfl ?_ (by first | exact fun _ _ _ h => h | exact fun _ _ _ h => hQ2 _ _ _ _ _ h) ?_
            rotate_left
            · intro W hSW
              simp only [glA, glB, glC]
              (try dsimp only at hSW)
              go_simp
              with_reducible rfl
            (try simp only [glA, glB, glC, Act.put, glD, glE, glF])
            refine wpAnyJ_done (by kernel_rfl) ?_
            have cg := HSd.out.2.2
            have fg := HBd.out.frozen i
            have lg := HBd.out.lt
            have HB5 := hide (HBd.out.set_ i (.int .i64 (x + 1)))
            have HJ5 := hide (HJA.out.set HJd.out (Nat.le_refl g) i (.int .i64 (x + 1)))
            have HK5 := hide (HKd.out.set i (.int .i64 (x + 1)))
            have HB6 : Hid (Blk (wd.setCell ⟨g, i, none⟩ (.int .i64 (x + 1))) g 3 (csV fs nf (k + 1))) := hide (by
              have h := HB5.out
              rw [rowV_set] at h
              unfold csV
              rw [rowV_same nf _ (upd (fun j => Value.int .i64 (if j < i + 1 then dg fs nf k j else 0)) i (.int .i64 (x + 1))) (fun j hj => by
                unfold upd
                rw [HNX.out.2 j hj]
                by_cases e : j = i
                · subst e; rw [if_pos rfl, if_neg (Nat.lt_irrefl j), if_pos rfl, HX.out.1]
                · have e3 : (if j = i then Value.int .i64 (x + 1) else (fun j => Value.int .i64 (if j < i + 1 then dg fs nf k j else 0)) j) = Value.int .i64 (if j < i + 1 then dg fs nf k j else 0) := if_neg e
                  rw [e3]
                  by_cases e2 : j < i
                  · rw [if_pos e2, if_pos (by omega)]
                  · rw [if_neg e2, if_neg e, if_neg (by omega)])]
              exact h)
            have HMN : Hid (csN fs nf g (wd.setCell ⟨g, i, none⟩ (.int .i64 (x + 1))) = k + 1) := hide (csN_of HCH.out HB6.out HNX.out.1)
            clear HB5 HBd
            gi_wp2_with fail
            go_roundw
            case rel => exact ⟨k + 1, ys ++ [(k, g)], .inr ⟨_, rfl⟩, HNX.out.1, hide (by rw [List.map_append, HYS.out, List.range_succ]; rfl), HJ5, HK5, HB6⟩
            case measure => rw [HMN.out, HMEA.out]; have := HNX.out.1; omega
      -- END1
    · -- BEGIN2
      have HJ3 := hide hJx3
      clear hJx3 HJ HK HB
      gi_wp2_with fail
      refine bodyPost_ret (results_none rfl _ _ _) rfl ?_
      exact ⟨⟨_, rfl⟩, .inr ⟨_, ⟨k + 1, hk, by rw [List.map_append, HYS.out, List.range_succ]; rfl⟩, HJ3.out⟩⟩
      -- END2
theorem cases_seq (F : Fence) (n : Nat) (hF : ∀ f, F.fn f) (hro : F.round = none) (hn : 1 ≤ n) (P C : Nat) (A : Option Addr) (nf fc : Nat) (fs : List Int) (w : World) (hR : CiR w P C A nf fc fs) (hfs : ∀ k, k < nf → 1 ≤ fs.getD k 0 ∧ fs.getD k 0 ≤ 4) (hnf : nf ≤ 5) (hnf0 : 1 ≤ nf) :
    SeqMem F n Tryd.prog 31 #[.pointer (some ⟨P, 0, none⟩)] (fun x : Nat × Nat => #[.slice (some ⟨x.2, 0, none⟩) nf nf]) (fun x W => Blk W x.2 3 (csV fs nf x.1)) (fun ys => ys.map (·.1) = List.range (pr fs nf)) (fun pre => ∃ m, m ≤ pr fs nf ∧ pre.map (·.1) = List.range m) (pr fs nf) w :=
  fun l J Jx W hW hJ hY h0 => cases1_in F n hF hro hn l P C A nf fc fs J Jx W (hR.kc (KC.of_below hW)) hfs hnf hnf0 hJ hY h0
end Go.Proofs.YtfbnpiafoaoddaaDoor
/- School: Differ. -/
namespace Go.Proofs.YtfbnpiafoaoddaaDoor
open Go Go.RowKit Go.Shelf
attribute [local go_sem] Oper.semAt_some
set_option maxHeartbeats 8000000
set_option maxRecDepth 100000
/-- case k as a list -/
def clL (fs : List Int) (k : Nat) : List Int := (List.range fs.length).map (dg fs fs.length k)
theorem clL_len (fs : List Int) (k : Nat) : (clL fs k).length = fs.length := by unfold clL; simp
theorem clL_at (fs : List Int) (k : Nat) {j : Nat} (hj : j < fs.length) : (clL fs k).getD j 0 = dg fs fs.length k j := by
  unfold clL
  rw [List.getD_eq_getElem?_getD, List.getElem?_map, List.getElem?_range hj]
  rfl
/-- what is said in case k, and the error -/
def vdF (s : Sch) (q : Int) (k : Nat) : Int × Int := ((dcF s (stF s) (clL s.fs k) q).1, (dcF s (stF s) (clL s.fs k) q).2.1)
/-- the first case of the first n in which they differ -/
def dfK (s t : Sch) (q : Int) : Nat → Option Nat
  | 0 => none
  | n + 1 => match dfK s t q n with | some k => some k | none => if vdF s q n = vdF t q n then none else some n
theorem dfK_none {s t : Sch} {q : Int} : ∀ {n : Nat}, (∀ k, k < n → vdF s q k = vdF t q k) → dfK s t q n = none
  | 0, _ => rfl
  | n + 1, h => by
    show (match dfK s t q n with | some k => some k | none => if vdF s q n = vdF t q n then none else some n) = none
    rw [dfK_none (fun k hk => h k (by omega)), h n (by omega)]
    simp
theorem dfK_some {s t : Sch} {q : Int} {m : Nat} (h : ∀ k, k < m → vdF s q k = vdF t q k) (h2 : vdF s q m ≠ vdF t q m) : ∀ {n : Nat}, m < n → dfK s t q n = some m
  | 0, hn => by omega
  | n + 1, hn => by
    show (match dfK s t q n with | some k => some k | none => if vdF s q n = vdF t q n then none else some n) = some m
    rcases (by omega : m < n ∨ n = m) with h3 | rfl
    · rw [dfK_some h h2 h3]
    · rw [dfK_none h]
      show (if vdF s q n = vdF t q n then none else some n) = some n
      rw [if_neg h2]
/-- what Differ returns -/
def dfR (s t : Sch) (q : Int) : List Int × Int :=
  if schB s && schB t then
    if 0 ≤ q ∧ q ≤ min s.q t.q - 1 then
      if s.fs = t.fs then (match dfK s t q (pr s.fs s.fs.length) with | some k => (clL s.fs k, 0) | none => ([], 7))
      else ([], 4)
    else ([], 3)
  else ([], 2)
theorem dfR_some {s t : Sch} {q : Int} {k : Nat} (h1 : (schB s && schB t) = true) (h2 : 0 ≤ q ∧ q ≤ min s.q t.q - 1) (h3 : s.fs = t.fs) (h4 : dfK s t q (pr s.fs s.fs.length) = some k) : dfR s t q = (clL s.fs k, 0) := by
  unfold dfR; rw [if_pos h1, if_pos h2, if_pos h3, h4]
theorem dfR_none {s t : Sch} {q : Int} (h1 : (schB s && schB t) = true) (h2 : 0 ≤ q ∧ q ≤ min s.q t.q - 1) (h3 : s.fs = t.fs) (h4 : dfK s t q (pr s.fs s.fs.length) = none) : dfR s t q = ([], 7) := by
  unfold dfR; rw [if_pos h1, if_pos h2, if_pos h3, h4]
def DfPost (w : World) (r : List Int × Int) (e : Ending) (w' : World) : Prop :=
  ∃ v, e = .returned (.tuple #[v, .int .i64 r.2]) ∧ OwnJ w' w.heap.size v r.1 ∧ Below w.heap.size w w'
theorem OpPost.any {w w' : World} {d : Ad_} {s : Sch} {e : Ending} (h : OpPost w d s e w') : ∃ p, e = .returned (.tuple #[.pointer p, .bool (schB s)]) ∧ Below w.heap.size w w' ∧ (schB s = true → ∃ C SA sc, p = some ⟨C, 0, none⟩ ∧ CodeB w w' C d SA sc s) := by
  unfold OpPost at h
  by_cases hs : schB s = true
  · rw [if_pos hs] at h
    obtain ⟨C, SA, sc, rfl, hc⟩ := h
    exact ⟨_, by rw [hs], hc.below, fun _ => ⟨C, SA, sc, rfl, hc⟩⟩
  · rw [if_neg hs] at h
    obtain ⟨rfl, hb⟩ := h
    exact ⟨none, by rw [show schB s = false by simpa using hs], hb, fun h => absurd h hs⟩
/-- while they do not differ -/
def DfI (s t : Sch) (q : Int) (w7 : World) (pre : List (Nat × Nat)) (W : World) : Prop := (∀ y ∈ pre, vdF s q y.1 = vdF t q y.1) ∧ Below w7.heap.size w7 W
/-- where they differ -/
def DfX (s t : Sch) (q : Int) (w : World) (c : Code) (pre : List (Nat × Nat)) (W : World) : Prop :=
  c = .ret ∧ ∃ pre' x, pre = pre' ++ [x] ∧ (∀ y ∈ pre', vdF s q y.1 = vdF t q y.1) ∧ vdF s q x.1 ≠ vdF t q x.1 ∧ ∃ v, Blk W (w.heap.size + 1 + 1 + 1) 26 #[v] ∧ Blk W (w.heap.size + 1 + 1 + 1 + 1) 31 #[.int .i64 0] ∧ OwnJ W w.heap.size v (clL s.fs x.1) ∧ Below w.heap.size w W
theorem dfK_all {s t : Sch} {q : Int} {n : Nat} {xs : List (Nat × Nat)} (h : xs.map (·.1) = List.range n) (h1 : ∀ y ∈ xs, vdF s q y.1 = vdF t q y.1) : ∀ k, k < n → vdF s q k = vdF t q k := fun k hk => by
  have hm : k ∈ xs.map (·.1) := by rw [h]; exact List.mem_range.2 hk
  obtain ⟨y, hy, rfl⟩ := List.mem_map.1 hm
  exact h1 y hy
theorem dfK_last {s t : Sch} {q : Int} {m n : Nat} {pre : List (Nat × Nat)} {x : Nat × Nat} (hm : m ≤ n) (h : (pre ++ [x]).map (·.1) = List.range m) (h1 : ∀ y ∈ pre, vdF s q y.1 = vdF t q y.1) (h2 : vdF s q x.1 ≠ vdF t q x.1) : dfK s t q n = some x.1 := by
  rw [List.map_append] at h
  rcases m with _ | m
  · simp at h
  · rw [List.range_succ] at h
    obtain ⟨h3, h4⟩ := List.append_inj' h (by simp)
    have h5 : x.1 = m := by simpa using h4
    rw [h5] at h2 ⊢
    exact dfK_some (dfK_all h3 h1) h2 hm
theorem Differ_any (d d' : Ad_) (s t : Sch) (q : Int) (w : World) (hd : ScR w w.heap.size d s) (hd' : ScR w w.heap.size d' t) (h1 : s.fs.length ≤ maxLen) (h2 : s.rs.length ≤ maxLen) (h3 : t.fs.length ≤ maxLen) (h4 : t.rs.length ≤ maxLen) :
    Calls Tryd.prog 6 #[scV d s, scV d' t, .int .i64 q] w (DfPost w (dfR s t q)) := by
  obtain ⟨nf, hf⟩ : ∃ n, s.fs.length = n := ⟨_, rfl⟩
  obtain ⟨nr, hr⟩ : ∃ n, s.rs.length = n := ⟨_, rfl⟩
  obtain ⟨Q, hQ⟩ : ∃ n, s.q = n := ⟨_, rfl⟩
  obtain ⟨nf', hf'⟩ : ∃ n, t.fs.length = n := ⟨_, rfl⟩
  obtain ⟨nr', hr'⟩ : ∃ n, t.rs.length = n := ⟨_, rfl⟩
  obtain ⟨Q', hQ'⟩ : ∃ n, t.q = n := ⟨_, rfl⟩
  have HOP : Hid (∀ W, Below w.heap.size w W → Calls Tryd.prog 14 #[.agg #[.slice d.fa nf d.fc, .int .i64 Q, .slice d.ra nr d.rc]] W (OpPost W d s)) := hide fun W hB => by
    have := open_any d s W (hd.below hB) h1 h2
    unfold scV at this
    rw [hf, hr, hQ] at this
    exact this
  have HOP' : Hid (∀ W, Below w.heap.size w W → Calls Tryd.prog 14 #[.agg #[.slice d'.fa nf' d'.fc, .int .i64 Q', .slice d'.ra nr' d'.rc]] W (OpPost W d' t)) := hide fun W hB => by
    have := open_any d' t W (hd'.below hB) h3 h4
    unfold scV at this
    rw [hf', hr', hQ'] at this
    exact this
  unfold scV
  have HN := hide (And.intro hf (And.intro hr hQ))
  have HN' := hide (And.intro hf' (And.intro hr' hQ'))
  have HD := hide hd
  have HD' := hide hd'
  rw [hf, hr, hQ, hf', hr', hQ']
  clear hd hd' hf hr hQ hf' hr' hQ' h1 h2 h3 h4
  refine (callsIn_wide (n := 9)).1 ?_
  obtain ⟨F, hFw⟩ : ∃ F : Fence, F = Fence.wide := ⟨_, rfl⟩
  rw [← hFw]
  have hF : ∀ f, F.fn f := by rw [hFw]; exact fun _ => trivial
  have hro : F.round = none := by rw [hFw]; rfl
  have hwd : ∀ {n f args w R}, Calls Tryd.prog f args w R → CallsIn F n Tryd.prog f args w R := by rw [hFw]; exact fun h => callsIn_wide.2 h
  clear hFw
  refine callsIn_of_wp_marks Tryd.func6 rfl (hF _) ?_ hro
  simp only [Tryd.ntmps6, List.size_toArray, List.length_cons, List.length_nil, Nat.reduceAdd, Nat.reduceSub, Array.replicate_succ, Array.replicate_zero, List.push_toArray, List.append_toArray, List.nil_append, List.cons_append]
  have k3 : Blk (((((w.alloc (.cells #[.slice d.fa nf d.fc, .int .i64 Q, .slice d.ra nr d.rc] 29)).alloc (.cells #[.slice d'.fa nf' d'.fc, .int .i64 Q', .slice d'.ra nr' d'.rc] 29)).alloc (.cells #[.int .i64 q] 3)).alloc (.cells #[.slice none 0 0] 26)).alloc (.cells #[.int .i64 0] 31)) w.heap.size 29 #[.slice d.fa nf d.fc, .int .i64 Q, .slice d.ra nr d.rc] := ((((Blk.new w _ _).alloc _).alloc _).alloc _).alloc _
  have k4 : Blk (((((w.alloc (.cells #[.slice d.fa nf d.fc, .int .i64 Q, .slice d.ra nr d.rc] 29)).alloc (.cells #[.slice d'.fa nf' d'.fc, .int .i64 Q', .slice d'.ra nr' d'.rc] 29)).alloc (.cells #[.int .i64 q] 3)).alloc (.cells #[.slice none 0 0] 26)).alloc (.cells #[.int .i64 0] 31)) (w.heap.size + 1) 29 #[.slice d'.fa nf' d'.fc, .int .i64 Q', .slice d'.ra nr' d'.rc] := by simpa using (((Blk.new (w.alloc (.cells #[.slice d.fa nf d.fc, .int .i64 Q, .slice d.ra nr d.rc] 29)) 29 #[.slice d'.fa nf' d'.fc, .int .i64 Q', .slice d'.ra nr' d'.rc]).alloc _).alloc _).alloc (.cells #[.int .i64 0] 31)
  have k5 : Blk (((((w.alloc (.cells #[.slice d.fa nf d.fc, .int .i64 Q, .slice d.ra nr d.rc] 29)).alloc (.cells #[.slice d'.fa nf' d'.fc, .int .i64 Q', .slice d'.ra nr' d'.rc] 29)).alloc (.cells #[.int .i64 q] 3)).alloc (.cells #[.slice none 0 0] 26)).alloc (.cells #[.int .i64 0] 31)) (w.heap.size + 1 + 1) 3 #[.int .i64 q] := by simpa using ((Blk.new ((w.alloc (.cells #[.slice d.fa nf d.fc, .int .i64 Q, .slice d.ra nr d.rc] 29)).alloc (.cells #[.slice d'.fa nf' d'.fc, .int .i64 Q', .slice d'.ra nr' d'.rc] 29)) 3 #[.int .i64 q]).alloc _).alloc (.cells #[.int .i64 0] 31)
  have k6 : Blk (((((w.alloc (.cells #[.slice d.fa nf d.fc, .int .i64 Q, .slice d.ra nr d.rc] 29)).alloc (.cells #[.slice d'.fa nf' d'.fc, .int .i64 Q', .slice d'.ra nr' d'.rc] 29)).alloc (.cells #[.int .i64 q] 3)).alloc (.cells #[.slice none 0 0] 26)).alloc (.cells #[.int .i64 0] 31)) (w.heap.size + 1 + 1 + 1) 26 #[.slice none 0 0] := by simpa using (Blk.new (((w.alloc (.cells #[.slice d.fa nf d.fc, .int .i64 Q, .slice d.ra nr d.rc] 29)).alloc (.cells #[.slice d'.fa nf' d'.fc, .int .i64 Q', .slice d'.ra nr' d'.rc] 29)).alloc (.cells #[.int .i64 q] 3)) 26 #[.slice none 0 0]).alloc (.cells #[.int .i64 0] 31)
  have k7 : Blk (((((w.alloc (.cells #[.slice d.fa nf d.fc, .int .i64 Q, .slice d.ra nr d.rc] 29)).alloc (.cells #[.slice d'.fa nf' d'.fc, .int .i64 Q', .slice d'.ra nr' d'.rc] 29)).alloc (.cells #[.int .i64 q] 3)).alloc (.cells #[.slice none 0 0] 26)).alloc (.cells #[.int .i64 0] 31)) (w.heap.size + 1 + 1 + 1 + 1) 31 #[.int .i64 0] := by simpa using Blk.new ((((w.alloc (.cells #[.slice d.fa nf d.fc, .int .i64 Q, .slice d.ra nr d.rc] 29)).alloc (.cells #[.slice d'.fa nf' d'.fc, .int .i64 Q', .slice d'.ra nr' d'.rc] 29)).alloc (.cells #[.int .i64 q] 3)).alloc (.cells #[.slice none 0 0] 26)) 31 #[.int .i64 0]
  have HB1 : Hid (Below w.heap.size w (((((w.alloc (.cells #[.slice d.fa nf d.fc, .int .i64 Q, .slice d.ra nr d.rc] 29)).alloc (.cells #[.slice d'.fa nf' d'.fc, .int .i64 Q', .slice d'.ra nr' d'.rc] 29)).alloc (.cells #[.int .i64 q] 3)).alloc (.cells #[.slice none 0 0] 26)).alloc (.cells #[.int .i64 0] 31))) := hide ((((((Below.refl _ _).alloc (Nat.le_refl _) _).alloc (by simp) _).alloc (by simp only [World.size_alloc]; omega) _).alloc (by simp only [World.size_alloc]; omega) _).alloc (by simp only [World.size_alloc]; omega) _)
  gi_wp2_with (gi_at_call 14; (with_reducible refine (hwd (HOP.out _ HB1.out)).mono ?_); intro e w2 hop; obtain ⟨p1, he, hb2, hc2⟩ := hop.any; subst he; obtain ⟨-, x0, x1, x2, -⟩ := blk3 ((k4.ext hb2).alloc (.cells #[.pointer p1] 60)))
  clear x0 x1 x2
  have HC2 := hide hc2
  have HB2 := hide (HB1.out.trans (hb2.mono HB1.out.size))
  have hbA : Below w2.heap.size w2 (w2.alloc (.cells #[.pointer p1] 60)) := (Below.refl _ _).alloc (Nat.le_refl _) _
  have HBA := hide hbA
  replace k3 := (k3.ext hb2).ext hbA
  replace k4 := (k4.ext hb2).ext hbA
  replace k5 := (k5.ext hb2).ext hbA
  replace k6 := (k6.ext hb2).ext hbA
  replace k7 := (k7.ext hb2).ext hbA
  have k8 := Blk.new w2 60 #[.pointer p1]
  have HB3 := hide (HB2.out.trans (hbA.mono HB2.out.size))
  have HD1 := hide (HD.out.below HB1.out)
  clear hbA hc2 hb2
  generalize (w2.alloc (.cells #[.pointer p1] 60)) = w3 at k3 k4 k5 k6 k7 k8 HB3 HBA ⊢
  obtain ⟨b8, hb8⟩ : ∃ x, w2.heap.size = x := ⟨_, rfl⟩
  rw [hb8] at k8 ⊢
  clear hb8
  obtain ⟨-, x0, x1, x2, -⟩ := blk3 k4
  refine (hwd (HOP'.out w3 HB3.out)).mono ?_
  intro e w4 hop
  obtain ⟨p2, he, hb4, hc4⟩ := hop.any
  subst he
  have HC4 := hide hc4
  have HB4 := hide (HB3.out.trans (hb4.mono HB3.out.size))
  have HB34 := hide hb4
  have hbA : Below w4.heap.size w4 (w4.alloc (.cells #[.pointer p2] 60)) := (Below.refl _ _).alloc (Nat.le_refl _) _
  replace k3 := (k3.ext hb4).ext hbA
  replace k4 := (k4.ext hb4).ext hbA
  replace k5 := (k5.ext hb4).ext hbA
  replace k6 := (k6.ext hb4).ext hbA
  replace k7 := (k7.ext hb4).ext hbA
  replace k8 := (k8.ext hb4).ext hbA
  have k10 := Blk.new w4 60 #[.pointer p2]
  have HB5 := hide (HB4.out.trans (hbA.mono HB4.out.size))
  have HBA4 := hide hbA
  have HD3 := hide (HD'.out.below HB3.out)
  clear hbA hc4 hb4 x0 x1 x2
  have K3 := hide k3
  have K4 := hide k4
  have K5 := hide k5
  have K8 := hide k8
  have K10 := hide k10
  obtain ⟨-, x0, x1, x2, -⟩ := blk3 k3
  obtain ⟨-, y0, y1, y2, -⟩ := blk3 k4
  obtain ⟨-, c5, -⟩ := blk1 k5
  obtain ⟨l6, c6, f6⟩ := blk1 k6
  obtain ⟨l7, c7, f7⟩ := blk1 k7
  clear k3 k4 k5 k8 k10
  rcases hvs : schB s with _ | _
  · rw [hvs] at HC2
    have HV : Hid (dfR s t q = ([], 2)) := hide (by unfold dfR; rw [hvs, Bool.false_and]; rfl)
    clear hvs
    gi_wp2_with fail
    have hR6 := (k6.set_ 0 (.slice none 0 0)).far (p := ⟨w.heap.size + 1 + 1 + 1 + 1, 0, none⟩) (by simp only []; omega) (.int .i64 2)
    have hR7 := (k7.far (p := ⟨w.heap.size + 1 + 1 + 1, 0, none⟩) (by simp only []; omega) (.slice none 0 0)).set_ 0 (.int .i64 2)
    have hbz := (HB5.out.setCell (p := ⟨w.heap.size + 1 + 1 + 1, 0, none⟩) (by simp only []; omega) (.slice none 0 0)).setCell (p := ⟨w.heap.size + 1 + 1 + 1 + 1, 0, none⟩) (by simp only []; omega) (.int .i64 2)
    generalize (((w4.alloc (.cells #[.pointer p2] 60)).setCell ⟨w.heap.size + 1 + 1 + 1, 0, none⟩ (.slice none 0 0)).setCell ⟨w.heap.size + 1 + 1 + 1 + 1, 0, none⟩ (.int .i64 2)) = wz at hR6 hR7 hbz ⊢
    have q6 : wz.cell? ⟨w.heap.size + 1 + 1 + 1, 0, none⟩ = some (.slice none 0 0) := by rw [hR6.cell]; rfl
    have q7 : wz.cell? ⟨w.heap.size + 1 + 1 + 1 + 1, 0, none⟩ = some (.int .i64 2) := by rw [hR7.cell]; rfl
    refine ⟨.tuple #[.slice none 0 0, .int .i64 2], by simp [results, Tryd.results6, go_sem, q6, q7], ?_⟩
    rw [HV.out]
    exact ⟨_, rfl, OwnJ.nil _ _, hbz⟩
  rcases hvt : schB t with _ | _
  · have HV : Hid (dfR s t q = ([], 2)) := hide (by unfold dfR; rw [hvs, hvt, Bool.and_false]; rfl)
    rw [hvt] at HC4
    clear hvs hvt
    gi_wp2_with fail
    have hR6 := (k6.set_ 0 (.slice none 0 0)).far (p := ⟨w.heap.size + 1 + 1 + 1 + 1, 0, none⟩) (by simp only []; omega) (.int .i64 2)
    have hR7 := (k7.far (p := ⟨w.heap.size + 1 + 1 + 1, 0, none⟩) (by simp only []; omega) (.slice none 0 0)).set_ 0 (.int .i64 2)
    have hbz := (HB5.out.setCell (p := ⟨w.heap.size + 1 + 1 + 1, 0, none⟩) (by simp only []; omega) (.slice none 0 0)).setCell (p := ⟨w.heap.size + 1 + 1 + 1 + 1, 0, none⟩) (by simp only []; omega) (.int .i64 2)
    generalize (((w4.alloc (.cells #[.pointer p2] 60)).setCell ⟨w.heap.size + 1 + 1 + 1, 0, none⟩ (.slice none 0 0)).setCell ⟨w.heap.size + 1 + 1 + 1 + 1, 0, none⟩ (.int .i64 2)) = wz at hR6 hR7 hbz ⊢
    have q6 : wz.cell? ⟨w.heap.size + 1 + 1 + 1, 0, none⟩ = some (.slice none 0 0) := by rw [hR6.cell]; rfl
    have q7 : wz.cell? ⟨w.heap.size + 1 + 1 + 1 + 1, 0, none⟩ = some (.int .i64 2) := by rw [hR7.cell]; rfl
    refine ⟨.tuple #[.slice none 0 0, .int .i64 2], by simp [results, Tryd.results6, go_sem, q6, q7], ?_⟩
    rw [HV.out]
    exact ⟨_, rfl, OwnJ.nil _ _, hbz⟩
  obtain ⟨C1, S1, e1, hp1, hcode1⟩ := HC2.out hvs
  obtain ⟨C2, S2, e2, hp2, hcode2⟩ := HC4.out hvt
  subst hp1
  subst hp2
  have HOK1 := hide (schB_ok hvs)
  have HOK2 := hide (schB_ok hvt)
  have HVV : Hid ((schB s && schB t) = true) := hide (by rw [hvs, hvt]; rfl)
  have HCR1 := hide ((((hcode1.cr HD1.out).below HBA.out).below HB34.out).below HBA4.out)
  have HCR2 := hide ((hcode2.cr HD3.out).below HBA4.out)
  have HFA := hide (HD.out.fs)
  have HFB := hide (HD'.out.fs)
  have K6 := hide (And.intro k6 k7)
  clear hcode1 hcode2 hvs hvt HC2 HC4 HOP HOP' HB1 HB2 HB3 HBA HB34 HBA4 HD1 HD3 HB4
  obtain ⟨M, hM⟩ : ∃ M, min Q Q' = M := ⟨_, rfl⟩
  have hM14 : 1 ≤ M ∧ M ≤ 4 := by
    have h1 := HOK1.out.q1
    have h2 := HOK1.out.q4
    have h3 := HOK2.out.q1
    have h4 := HOK2.out.q4
    rw [HN.out.2.2] at h1 h2
    rw [HN'.out.2.2] at h3 h4
    omega
  have w5 : IntKind.i64.wrap (M - 1) = M - 1 := IntWalk.i64_in _ (by omega)
  have HM := hide hM
  have HWT := within_any q 0 (M - 1) (w4.alloc (.cells #[.pointer (some ⟨C2, 0, none⟩)] 60))
  simp only [wb] at HWT
  by_cases hq : 0 ≤ q ∧ q ≤ M - 1
  rotate_left
  · rw [decide_eq_false hq] at HWT
    have HV : Hid (dfR s t q = ([], 3)) := hide (by unfold dfR; rw [if_pos HVV.out, if_neg]; rw [HN.out.2.2, HN'.out.2.2, HM.out]; exact hq)
    have HWT := hide HWT
    clear hq
    gi_wp2_with fail
    refine (hwd HWT.out).mono ?_
    rintro e _ ⟨rfl, rfl⟩
    gi_wp2_with fail
    have hR6 := (k6.set_ 0 (.slice none 0 0)).far (p := ⟨w.heap.size + 1 + 1 + 1 + 1, 0, none⟩) (by simp only []; omega) (.int .i64 3)
    have hR7 := (k7.far (p := ⟨w.heap.size + 1 + 1 + 1, 0, none⟩) (by simp only []; omega) (.slice none 0 0)).set_ 0 (.int .i64 3)
    have hbz := (HB5.out.setCell (p := ⟨w.heap.size + 1 + 1 + 1, 0, none⟩) (by simp only []; omega) (.slice none 0 0)).setCell (p := ⟨w.heap.size + 1 + 1 + 1 + 1, 0, none⟩) (by simp only []; omega) (.int .i64 3)
    generalize (((w4.alloc (.cells #[.pointer (some ⟨C2, 0, none⟩)] 60)).setCell ⟨w.heap.size + 1 + 1 + 1, 0, none⟩ (.slice none 0 0)).setCell ⟨w.heap.size + 1 + 1 + 1 + 1, 0, none⟩ (.int .i64 3)) = wz at hR6 hR7 hbz ⊢
    have q6 : wz.cell? ⟨w.heap.size + 1 + 1 + 1, 0, none⟩ = some (.slice none 0 0) := by rw [hR6.cell]; rfl
    have q7 : wz.cell? ⟨w.heap.size + 1 + 1 + 1 + 1, 0, none⟩ = some (.int .i64 3) := by rw [hR7.cell]; rfl
    refine ⟨.tuple #[.slice none 0 0, .int .i64 3], by simp [results, Tryd.results6, go_sem, q6, q7], ?_⟩
    rw [HV.out]
    exact ⟨_, rfl, OwnJ.nil _ _, hbz⟩
  rw [decide_eq_true hq] at HWT
  have HQQ := hide hq
  have HWT := hide HWT
  clear hq
  gi_wp2_with fail
  refine (hwd HWT.out).mono ?_
  rintro e _ ⟨rfl, rfl⟩
  have HEQ : Calls Tryd.prog 16 #[.slice d.fa nf d.fc, .slice d'.fa nf' d'.fc] (w4.alloc (.cells #[.pointer (some ⟨C2, 0, none⟩)] 60)) fun e w' => e = .returned (.bool (decide (s.fs = t.fs))) ∧ Below (w4.alloc (.cells #[.pointer (some ⟨C2, 0, none⟩)] 60)).heap.size (w4.alloc (.cells #[.pointer (some ⟨C2, 0, none⟩)] 60)) w' := by
    have h5 := HOK1.out.nf5
    have := equalI_any d.fa d'.fa d.fc d'.fc s.fs t.fs (w4.alloc (.cells #[.pointer (some ⟨C2, 0, none⟩)] 60)) (by unfold maxLen; omega) ((ER.below HFA.out HB5.out (Nat.le_refl _)).more HB5.out.size) ((ER.below HFB.out HB5.out (Nat.le_refl _)).more HB5.out.size)
    rw [HN.out.1, HN'.out.1] at this
    exact this
  by_cases hfe : s.fs = t.fs
  rotate_left
  · rw [decide_eq_false hfe] at HEQ
    have HV : Hid (dfR s t q = ([], 4)) := hide (by unfold dfR; rw [if_pos HVV.out, if_pos (by rw [HN.out.2.2, HN'.out.2.2, HM.out]; exact HQQ.out), if_neg hfe])
    have HEQ := hide HEQ
    clear hfe
    gi_wp2_with fail
    refine (hwd HEQ.out).mono ?_
    rintro e w6 ⟨rfl, hb6⟩
    obtain ⟨k6, k7⟩ := K6.out
    replace k6 := k6.ext hb6
    replace k7 := k7.ext hb6
    have HB6 := hide (HB5.out.trans (hb6.mono HB5.out.size))
    obtain ⟨l6, c6, f6⟩ := blk1 k6
    obtain ⟨l7, c7, f7⟩ := blk1 k7
    clear hb6
    gi_wp2_with fail
    have hR6 := (k6.set_ 0 (.slice none 0 0)).far (p := ⟨w.heap.size + 1 + 1 + 1 + 1, 0, none⟩) (by simp only []; omega) (.int .i64 4)
    have hR7 := (k7.far (p := ⟨w.heap.size + 1 + 1 + 1, 0, none⟩) (by simp only []; omega) (.slice none 0 0)).set_ 0 (.int .i64 4)
    have hbz := (HB6.out.setCell (p := ⟨w.heap.size + 1 + 1 + 1, 0, none⟩) (by simp only []; omega) (.slice none 0 0)).setCell (p := ⟨w.heap.size + 1 + 1 + 1 + 1, 0, none⟩) (by simp only []; omega) (.int .i64 4)
    generalize ((w6.setCell ⟨w.heap.size + 1 + 1 + 1, 0, none⟩ (.slice none 0 0)).setCell ⟨w.heap.size + 1 + 1 + 1 + 1, 0, none⟩ (.int .i64 4)) = wz at hR6 hR7 hbz ⊢
    have q6 : wz.cell? ⟨w.heap.size + 1 + 1 + 1, 0, none⟩ = some (.slice none 0 0) := by rw [hR6.cell]; rfl
    have q7 : wz.cell? ⟨w.heap.size + 1 + 1 + 1 + 1, 0, none⟩ = some (.int .i64 4) := by rw [hR7.cell]; rfl
    refine ⟨.tuple #[.slice none 0 0, .int .i64 4], by simp [results, Tryd.results6, go_sem, q6, q7], ?_⟩
    rw [HV.out]
    exact ⟨_, rfl, OwnJ.nil _ _, hbz⟩
  rw [decide_eq_true hfe] at HEQ
  have HEQ := hide HEQ
  have HFE := hide hfe
  clear hfe
  gi_wp2_with fail
  refine (hwd HEQ.out).mono ?_
  rintro e w6 ⟨rfl, hb6⟩
  have HB6 := hide (HB5.out.trans (hb6.mono HB5.out.size))
  have K8 := hide (K8.out.ext hb6)
  have K10 := hide (K10.out.ext hb6)
  have K5 := hide (K5.out.ext hb6)
  have K6 := hide (And.intro (K6.out.1.ext hb6) (K6.out.2.ext hb6))
  have HCR1 := hide (HCR1.out.below hb6)
  have HCR2 := hide (HCR2.out.below hb6)
  obtain ⟨b10, hb10⟩ : ∃ x, w4.heap.size = x := ⟨_, rfl⟩
  rw [hb10] at K10 ⊢
  clear hb6 k6 k7 l6 l7 c6 c7 f6 f7 x0 x1 x2 y0 y1 y2 c5 HEQ HWT HB5 hb10 K3 K4 hM w5
  obtain ⟨-, c8, -⟩ := blk1 K8.out
  obtain ⟨-, c10, -⟩ := blk1 K10.out
  gi_wp2_with fail
  refine (hwd (cases_any C1 w6)).mono ?_
  rintro e w7 ⟨rfl, rfl⟩
  gi_wp2_with fail
  have hbA : Below w6.heap.size w6 (w6.alloc (.cells #[.pointer (some ⟨C1, 0, none⟩)] 60)) := (Below.refl _ _).alloc (Nat.le_refl _) _
  have hCi : CiR (w6.alloc (.cells #[.pointer (some ⟨C1, 0, none⟩)] 60)) w6.heap.size C1 d.fa nf d.fc s.fs := by
    have hc := HCR1.out.below hbA
    have h0 := hc.c0
    rw [HN.out.1] at h0
    refine ⟨(blk1 (Blk.new w6 60 #[.pointer (some ⟨C1, 0, none⟩)])).2.1, h0, fun k hk => ?_⟩
    obtain ⟨b, off, h1, -, h2⟩ := VR1.at_ hc.scr.fs (k := k) (by rw [HN.out.1]; exact hk)
    exact ⟨b, off, h1, h2⟩
  have hB7 := HB6.out.trans (hbA.mono HB6.out.size)
  have k5 := K5.out.ext hbA
  have k6 := K6.out.1.ext hbA
  have k7 := K6.out.2.ext hbA
  have k8 := K8.out.ext hbA
  have k10 := K10.out.ext hbA
  have hcr1 := HCR1.out.below hbA
  have hcr2 := HCR2.out.below hbA
  have hnf5 : nf ≤ 5 := by have := HOK1.out.nf5; rw [HN.out.1] at this; exact this
  have hnf1 : 1 ≤ nf := by have := HOK1.out.nf1; rw [HN.out.1] at this; exact this
  clear K5 K6 K8 K10 HCR1 HCR2 HB6 c8 c10
  generalize (w6.alloc (.cells #[.pointer (some ⟨C1, 0, none⟩)] 60)) = w7 at hbA hCi hB7 k5 k6 k7 k8 k10 hcr1 hcr2 ⊢
  generalize w6.heap.size = P at hCi ⊢
  clear hbA
  have hst := cases_seq F (9 - 1) hF hro (by omega) P C1 d.fa nf d.fc s.fs w7 hCi (fun k hk => fsB_at HOK1.out.fs k (by rw [HN.out.1]; exact hk)) hnf5 hnf1
  refine wpIn_rangeFunc_mem hro (by omega) (gf := 31) (lb := #[.pointer (some ⟨P, 0, none⟩)]) rfl (hF _) (enters_of Tryd.func31 (by kernel_rfl) rfl)
    hst (fun x W W' h hk => hk.blk h) (Below.refl _ _) (fun _ => rfl)
    (DfI s t q w7)
    (DfX s t q w)
    ?hI ?hIx ⟨fun y hy => absurd hy (by simp), Below.refl _ _⟩ ?a1 ?hassign ?hbody ?hdone ?hstop
  case hI =>
    rintro pre W W' row ⟨h1, h2⟩ hg hr
    exact ⟨h1, h2.grown hg h2.size hr⟩
  case hIx =>
    rintro c pre W W' row ⟨rfl, pre', x, rfl, h1, h2, v, h3, h4, h5, h6⟩ hg hr
    have hr' := fun r e => (hr r e).2
    exact ⟨rfl, pre', x, rfl, h1, h2, v, h3.keptN hg hr', h4.keptN hg hr', ownN h5 hg hr', h6.trans ⟨hg.os, hg.tape, hg.output, hg.size, fun k hk => hg.block k (by have := h6.size; omega) (fun e => by have := (hr k e.symm).1; have := hB7.size; omega)⟩⟩
  case hassign =>
    intro l x W K hK
    gi_wp2_with fail
    exact hK
  case hbody =>
    rintro l pre x W ⟨h1, h2⟩ hR hlt
    have hlt2 := hR.lt
    have HLI : Hid (∀ W', Below W.heap.size W W' → LI W' W'.heap.size (some ⟨x.2, 0, none⟩) (clL s.fs x.1)) := hide fun W' hB => fun hn => by
      have hR' := hR.ext hB
      refine ⟨x.2, 0, rfl, hR'.lt, fun k i hk hi => ?_⟩
      rw [clL_len, HN.out.1] at hk
      obtain rfl : i = 0 := by omega
      rw [show 0 + k * 1 + 0 = k by omega, hR'.cell]
      unfold csV
      rw [rowV_get _ _ hk]
      dsimp only
      rw [clL_at s.fs x.1 (by rw [HN.out.1]; exact hk), HN.out.1]
    have hdg : ∀ k, k < nf → 0 ≤ (clL s.fs x.1).getD k 0 ∧ (clL s.fs x.1).getD k 0 ≤ 62 := fun k hk => by
      rw [clL_at s.fs x.1 (by rw [HN.out.1]; exact hk)]
      have h5 : ∀ j, j < s.fs.length → 1 ≤ s.fs.getD j 0 ∧ s.fs.getD j 0 ≤ 4 := fun j hj => fsB_at HOK1.out.fs j hj
      have h6 := dg_bd (fs := s.fs) (n := s.fs.length) x.1 (fun j hj => by have := h5 j hj; unfold chF; omega) k (by rw [HN.out.1]; exact hk)
      have h7 := h5 k (by rw [HN.out.1]; exact hk)
      have h8 : (chF s.fs k : Int) = s.fs.getD k 0 := by unfold chF; omega
      omega
    obtain ⟨⟨a1, a2, a3⟩, hr1⟩ : ∃ r, dcF s (stF s) (clL s.fs x.1) q = r := ⟨_, rfl⟩
    obtain ⟨⟨b1, b2, b3⟩, hr2⟩ : ∃ r, dcF t (stF t) (clL s.fs x.1) q = r := ⟨_, rfl⟩
    have hva : vdF s q x.1 = (a1, a2) := by unfold vdF; rw [hr1]
    have hvb : vdF t q x.1 = (b1, b2) := by unfold vdF; rw [← HFE.out, hr2]
    have HC1 : Hid (∀ W', Below W.heap.size W W' → Calls Tryd.prog 18 #[.pointer (some ⟨C1, 0, none⟩), .slice (some ⟨x.2, 0, none⟩) nf nf, .int .i64 q] W' (DcPost W' (a1, a2, a3))) := hide fun W' hB => by
      have := decide_any C1 d S1 e1 s (stF s) (some ⟨x.2, 0, none⟩) nf (clL s.fs x.1) q W' ((hcr1.below h2).below hB) (fun k y => Nat.lt_trans (stF_lt HOK1.out.fs k y) (by decide)) HOK1.out.nr (by rw [clL_len, HN.out.1]; exact hnf5) (fun k hk => hdg k (by rw [clL_len, HN.out.1] at hk; exact hk)) (HLI.out W' hB)
      rw [clL_len, HN.out.1, hr1] at this
      exact this
    have HC2 : Hid (∀ W', Below W.heap.size W W' → Calls Tryd.prog 18 #[.pointer (some ⟨C2, 0, none⟩), .slice (some ⟨x.2, 0, none⟩) nf nf, .int .i64 q] W' (DcPost W' (b1, b2, b3))) := hide fun W' hB => by
      have := decide_any C2 d' S2 e2 t (stF t) (some ⟨x.2, 0, none⟩) nf (clL s.fs x.1) q W' ((hcr2.below h2).below hB) (fun k y => Nat.lt_trans (stF_lt HOK2.out.fs k y) (by decide)) HOK2.out.nr (by rw [clL_len, HN.out.1]; exact hnf5) (fun k hk => hdg k (by rw [clL_len, HN.out.1] at hk; exact hk)) (HLI.out W' hB)
      rw [clL_len, HN.out.1, hr2] at this
      exact this
    have HV := hide (And.intro hva hvb)
    have HH1 := hide h1
    have HH2 := hide h2
    have HB7 := hide hB7
    have G5 := hide (k5.ext h2)
    have G6 := hide (k6.ext h2)
    have G7 := hide (k7.ext h2)
    have G8 := hide (k8.ext h2)
    have G10 := hide (k10.ext h2)
    clear hva hvb hr1 hr2 hdg h1 h2 hR k5 k6 k7 k8 k10 hcr1 hcr2 hCi hst hlt
    obtain ⟨-, c8, -⟩ := blk1 G8.out
    obtain ⟨-, c5, -⟩ := blk1 G5.out
    gi_wp2_with fail
    refine (CallsIn.inRound l (hwd (HC1.out W (Below.refl _ _)))).mono ?_
    rintro e w9 ⟨v9, rfl, ho9, hb9⟩
    obtain ⟨A9, n9, rfl⟩ := own_shape ho9
    dsimp only
    have B9 := hide (hb9.alloc hb9.size (.cells #[.int .i64 a1, .int .i64 a2] 69))
    obtain ⟨-, z10, -⟩ := blk1 (G10.out.ext (hb9.alloc hb9.size (.cells #[.int .i64 a1, .int .i64 a2] 69)))
    obtain ⟨-, z5, -⟩ := blk1 (G5.out.ext (hb9.alloc hb9.size (.cells #[.int .i64 a1, .int .i64 a2] 69)))
    gi_wp2_with fail
    refine (CallsIn.inRound l (hwd (HC2.out _ B9.out))).mono ?_
    rintro e w11 ⟨v11, rfl, ho11, hb11⟩
    obtain ⟨A11, n11, rfl⟩ := own_shape ho11
    dsimp only
    have V1 := (Blk.new w9 69 #[.int .i64 a1, .int .i64 a2]).ext hb11
    have hbB := hb11.alloc hb11.size (.cells #[.int .i64 b1, .int .i64 b2] 69)
    obtain ⟨-, va0, va1, -⟩ := blk2 (V1.alloc (.cells #[.int .i64 b1, .int .i64 b2] 69))
    have BE := hide (B9.out.trans (hbB.mono B9.out.size))
    have HCLN : Hid (∀ W', Below W.heap.size W W' → Calls Tryd.prog 19 #[.slice (some ⟨x.2, 0, none⟩) nf nf] W' (fun e w' => ∃ v, e = .returned v ∧ OwnJ w' W'.heap.size v (clL s.fs x.1) ∧ Below W'.heap.size W' w')) := hide fun W' hB => by
      have := cloneI_any (some ⟨x.2, 0, none⟩) nf (clL s.fs x.1) W' (by rw [clL_len, HN.out.1]; omega) (HLI.out W' hB)
      rw [clL_len, HN.out.1] at this
      exact this
    clear hbB V1 hb11 ho11 hb9 ho9 z10 z5 c8 c5 HC1 HC2 HLI hB7
    by_cases e1 : a1 = b1
    · have e1' : (a1 == b1) = true := by rw [e1]; exact beq_self_eq_true _
      by_cases e2 : a2 = b2
      · have e2' : (a2 == b2) = true := by rw [e2]; exact beq_self_eq_true _
        have HE := hide (show vdF s q x.1 = vdF t q x.1 by rw [HV.out.1, HV.out.2, e1, e2])
        clear e1 e2
        gi_wp2_with fail
        refine ⟨keepsO BE.out, KC.of_below BE.out, fun y hy => ?_, HH2.out.trans (BE.out.mono HH2.out.size)⟩
        rcases List.mem_append.1 hy with h | h
        · exact HH1.out y h
        · rw [List.mem_singleton.1 h]; exact HE.out
      · have e2' : (a2 == b2) = false := by rw [beq_eq_false_iff_ne]; exact e2
        have HE := hide (show vdF s q x.1 ≠ vdF t q x.1 by rw [HV.out.1, HV.out.2]; intro h; injection h with h1 h2; exact e2 h2)
        clear e1 e2
        gi_wp2_with fail
        refine (CallsIn.inRound l (hwd (HCLN.out _ BE.out))).mono ?_
        rintro e w12 ⟨v12, rfl, ho12, hb12⟩
        obtain ⟨A12, n12, hv12⟩ := own_shape ho12
        rw [clL_len, HN.out.1] at hv12
        subst hv12
        have BF := hide (BE.out.trans (hb12.mono BE.out.size))
        have G6' := G6.out.ext BF.out
        have G7' := G7.out.ext BF.out
        obtain ⟨l6, c6, f6⟩ := blk1 G6'
        obtain ⟨l7, c7, f7⟩ := blk1 G7'
        have hR6 := (G6'.set_ 0 (.slice A12 nf n12)).far (p := ⟨w.heap.size + 1 + 1 + 1 + 1, 0, none⟩) (by simp only []; omega) (.int .i64 0)
        have hR7 := (G7'.far (p := ⟨w.heap.size + 1 + 1 + 1, 0, none⟩) (by simp only []; omega) (.slice A12 nf n12)).set_ 0 (.int .i64 0)
        have hBF := HB7.out.trans (HH2.out.trans (BF.out.mono HH2.out.size) |>.mono HB7.out.size)
        have hbz := (hBF.setCell (p := ⟨w.heap.size + 1 + 1 + 1, 0, none⟩) (by simp only []; omega) (.slice A12 nf n12)).setCell (p := ⟨w.heap.size + 1 + 1 + 1 + 1, 0, none⟩) (by simp only []; omega) (.int .i64 0)
        have hoz := World.ownsRow.kept (World.ownsRow.kept ho12 (grownBy_setC w12 (w.heap.size + 1 + 1 + 1) 0 (.slice A12 nf n12)) (.inr (own_blk_ne ho12 G6' (by decide)))) (grownBy_setC _ (w.heap.size + 1 + 1 + 1 + 1) 0 (.int .i64 0)) (.inr (own_blk_ne ho12 G7' (by decide)))
        have hko := ((keepsO BF.out).trans (KeepsOthers.setCell w12 ⟨w.heap.size + 1 + 1 + 1, 0, none⟩ (.slice A12 nf n12))).trans (KeepsOthers.setCell _ ⟨w.heap.size + 1 + 1 + 1 + 1, 0, none⟩ (.int .i64 0))
        clear G6' G7' ho12 hb12 hBF
        gi_wp2_with fail
        refine ⟨hko, rfl, pre, x, rfl, HH1.out, ?_, _, hR6, hR7, ownMono hoz (by have h1 := HB7.out.size; have h2 := HH2.out.size; have h3 := BE.out.size; omega), hbz⟩
        exact HE.out
    · have e1' : (a1 == b1) = false := by rw [beq_eq_false_iff_ne]; exact e1
      have HE := hide (show vdF s q x.1 ≠ vdF t q x.1 by rw [HV.out.1, HV.out.2]; intro h; injection h with h1 h2; exact e1 h1)
      clear e1
      gi_wp2_with fail
      refine (CallsIn.inRound l (hwd (HCLN.out _ BE.out))).mono ?_
      rintro e w12 ⟨v12, rfl, ho12, hb12⟩
      obtain ⟨A12, n12, hv12⟩ := own_shape ho12
      rw [clL_len, HN.out.1] at hv12
      subst hv12
      have BF := hide (BE.out.trans (hb12.mono BE.out.size))
      have G6' := G6.out.ext BF.out
      have G7' := G7.out.ext BF.out
      obtain ⟨l6, c6, f6⟩ := blk1 G6'
      obtain ⟨l7, c7, f7⟩ := blk1 G7'
      have hR6 := (G6'.set_ 0 (.slice A12 nf n12)).far (p := ⟨w.heap.size + 1 + 1 + 1 + 1, 0, none⟩) (by simp only []; omega) (.int .i64 0)
      have hR7 := (G7'.far (p := ⟨w.heap.size + 1 + 1 + 1, 0, none⟩) (by simp only []; omega) (.slice A12 nf n12)).set_ 0 (.int .i64 0)
      have hBF := HB7.out.trans (HH2.out.trans (BF.out.mono HH2.out.size) |>.mono HB7.out.size)
      have hbz := (hBF.setCell (p := ⟨w.heap.size + 1 + 1 + 1, 0, none⟩) (by simp only []; omega) (.slice A12 nf n12)).setCell (p := ⟨w.heap.size + 1 + 1 + 1 + 1, 0, none⟩) (by simp only []; omega) (.int .i64 0)
      have hoz := World.ownsRow.kept (World.ownsRow.kept ho12 (grownBy_setC w12 (w.heap.size + 1 + 1 + 1) 0 (.slice A12 nf n12)) (.inr (own_blk_ne ho12 G6' (by decide)))) (grownBy_setC _ (w.heap.size + 1 + 1 + 1 + 1) 0 (.int .i64 0)) (.inr (own_blk_ne ho12 G7' (by decide)))
      have hko := ((keepsO BF.out).trans (KeepsOthers.setCell w12 ⟨w.heap.size + 1 + 1 + 1, 0, none⟩ (.slice A12 nf n12))).trans (KeepsOthers.setCell _ ⟨w.heap.size + 1 + 1 + 1 + 1, 0, none⟩ (.int .i64 0))
      clear G6' G7' ho12 hb12 hBF
      gi_wp2_with fail
      refine ⟨hko, rfl, pre, x, rfl, HH1.out, ?_, _, hR6, hR7, ownMono hoz (by have h1 := HB7.out.size; have h2 := HH2.out.size; have h3 := BE.out.size; omega), hbz⟩
      exact HE.out
  case hdone =>
    rintro D xs W hD hxs ⟨h1, h2⟩ hK
    have hv : dfR s t q = ([], 7) := dfR_none HVV.out (by rw [HN.out.2.2, HN'.out.2.2, HM.out]; exact HQQ.out) HFE.out (by rw [HN.out.1]; exact dfK_none (dfK_all hxs h1))
    have HV := hide hv
    replace k6 := k6.ext h2
    replace k7 := k7.ext h2
    obtain ⟨l6, c6, f6⟩ := blk1 k6
    obtain ⟨l7, c7, f7⟩ := blk1 k7
    have hBW := hB7.trans (h2.mono hB7.size)
    clear hv h1 h2 hst hCi k5 k8 k10 hcr1 hcr2 hxs
    gi_wp2_with fail
    have hK' := ((KeepsOthers.setCell W ⟨w.heap.size + 1 + 1 + 1, 0, none⟩ (.slice none 0 0)).trans (KeepsOthers.setCell _ ⟨w.heap.size + 1 + 1 + 1 + 1, 0, none⟩ (.int .i64 7))).same D _ hK rfl
    have hR6 := (k6.set_ 0 (.slice none 0 0)).far (p := ⟨w.heap.size + 1 + 1 + 1 + 1, 0, none⟩) (by simp only []; omega) (.int .i64 7)
    have hR7 := (k7.far (p := ⟨w.heap.size + 1 + 1 + 1, 0, none⟩) (by simp only []; omega) (.slice none 0 0)).set_ 0 (.int .i64 7)
    have hbz := (hBW.setCell (p := ⟨w.heap.size + 1 + 1 + 1, 0, none⟩) (by simp only []; omega) (.slice none 0 0)).setCell (p := ⟨w.heap.size + 1 + 1 + 1 + 1, 0, none⟩) (by simp only []; omega) (.int .i64 7)
    generalize ((W.setCell ⟨w.heap.size + 1 + 1 + 1, 0, none⟩ (.slice none 0 0)).setCell ⟨w.heap.size + 1 + 1 + 1 + 1, 0, none⟩ (.int .i64 7)) = wz at hR6 hR7 hbz hK' ⊢
    refine ⟨by simp, .inl ⟨_, _, rfl, run_takeDeferred hK', ?_⟩⟩
    have hgp := grownBy_putObj' wz D (.deferred none)
    have q6 : (wz.putObj D (.deferred none)).cell? ⟨w.heap.size + 1 + 1 + 1, 0, none⟩ = some (.slice none 0 0) := by rw [(hR6.keptN hgp (fun r e => by cases e; exact ⟨_, hK', rfl⟩)).cell]; rfl
    have q7 : (wz.putObj D (.deferred none)).cell? ⟨w.heap.size + 1 + 1 + 1 + 1, 0, none⟩ = some (.int .i64 7) := by rw [(hR7.keptN hgp (fun r e => by cases e; exact ⟨_, hK', rfl⟩)).cell]; rfl
    refine ⟨.tuple #[.slice none 0 0, .int .i64 7], by simp [results, Tryd.results6, go_sem, q6, q7], ?_⟩
    rw [HV.out]
    exact ⟨_, rfl, OwnJ.nil _ _, hbz.trans (belowK_b (w := w) (Nat.le_refl _) _ D _ _ (by have := hB7.size; omega) hK' rfl rfl)⟩
  case hstop =>
    rintro D c pre W hD ⟨m, hm, hSp⟩ ⟨rfl, pre', x, rfl, h1, h2, v, h3, h4, h5, h6⟩ hK
    have hv : dfR s t q = (clL s.fs x.1, 0) := dfR_some HVV.out (by rw [HN.out.2.2, HN'.out.2.2, HM.out]; exact HQQ.out) HFE.out (by rw [HN.out.1]; exact dfK_last hm hSp h1 h2)
    have HV := hide hv
    clear hv h1 h2 hst hCi k5 k8 k10 k6 k7 hcr1 hcr2 hSp
    gi_wp2_with fail
    refine ⟨by simp, .inl ⟨_, _, rfl, run_takeDeferred hK, ?_⟩⟩
    have hgp := grownBy_putObj' W D (.deferred none)
    have hr' : ∀ r, some D = some r → ∃ o : Obj, W.heap[r]? = some o ∧ o.isCells = false := fun r e => by cases e; exact ⟨_, hK, rfl⟩
    have q6 : (W.putObj D (.deferred none)).cell? ⟨w.heap.size + 1 + 1 + 1, 0, none⟩ = some v := by rw [(h3.keptN hgp hr').cell]; rfl
    have q7 : (W.putObj D (.deferred none)).cell? ⟨w.heap.size + 1 + 1 + 1 + 1, 0, none⟩ = some (.int .i64 0) := by rw [(h4.keptN hgp hr').cell]; rfl
    obtain ⟨AV, cv, hav⟩ := own_shape h5
    subst hav
    refine ⟨.tuple #[.slice AV (clL s.fs x.1).length cv, .int .i64 0], by simp [results, Tryd.results6, go_sem, q6, q7], ?_⟩
    rw [HV.out]
    exact ⟨_, rfl, ownN h5 hgp hr', h6.trans (belowK_b (w := w) (Nat.le_refl _) _ D _ _ (by have := hB7.size; omega) hK rfl rfl)⟩
end Go.Proofs.YtfbnpiafoaoddaaDoor
/- School, plain: bits of sets; each valid list of choices is a case; sets as sets of cases. -/
namespace Go.Proofs.YtfbnpiafoaoddaaDoor
open Go Go.RowKit Go.Shelf
set_option maxHeartbeats 4000000
set_option maxRecDepth 100000
theorem wrap0 (n : Nat) (h : n < 18446744073709551616) : IntKind.i64.wrap (n : Int) = 0 ↔ n = 0 := by
  have hk : IntKind.i64.wrap (n : Int) = if (decide ((n : Int) % 18446744073709551616 ≥ 9223372036854775808)) = true then (n : Int) % 18446744073709551616 - 18446744073709551616 else (n : Int) % 18446744073709551616 := rfl
  rw [hk]
  by_cases h1 : (n : Int) % 18446744073709551616 ≥ 9223372036854775808
  · rw [if_pos (decide_eq_true h1)]
    omega
  · rw [if_neg (by rw [decide_eq_false h1]; decide)]
    omega
theorem anot_zero (a b : Int) : bits BinOp.andNot IntKind.i64 a b = 0 ↔ ∀ i, (BitVec.ofInt 64 a).getLsbD i = true → (BitVec.ofInt 64 b).getLsbD i = true := by
  show IntKind.i64.wrap (((BitVec.ofInt 64 a &&& ~~~ BitVec.ofInt 64 b).toNat : Nat) : Int) = 0 ↔ _
  rw [wrap0 _ (BitVec.isLt _)]
  constructor
  · intro h i hi
    have h1 : (BitVec.ofInt 64 a &&& ~~~ BitVec.ofInt 64 b).getLsbD i = false := by
      rw [← BitVec.testBit_toNat, h]; exact Nat.zero_testBit i
    rw [BitVec.getLsbD_and, BitVec.getLsbD_not, hi] at h1
    have h2 : i < 64 := BitVec.lt_of_getLsbD hi
    simpa [h2] using h1
  · intro h
    have h1 : BitVec.ofInt 64 a &&& ~~~ BitVec.ofInt 64 b = 0#64 := by
      apply BitVec.eq_of_getLsbD_eq
      intro i hi
      rw [BitVec.getLsbD_and, BitVec.getLsbD_not]
      cases h2 : (BitVec.ofInt 64 a).getLsbD i with
      | false => simp
      | true => rw [h i h2]; simp
    rw [h1]; rfl
theorem big_bit {a i : Nat} (h : a < 65536) (hi : 64 ≤ i) : a.testBit i = false :=
  Nat.testBit_lt_two_pow (Nat.lt_of_lt_of_le h (Nat.le_trans (by decide : 65536 ≤ 2 ^ 64) (Nat.pow_le_pow_right (by decide) hi)))
theorem nat_bit (a : Nat) (h : a < 65536) (i : Nat) : (BitVec.ofInt 64 (a : Int)).getLsbD i = a.testBit i := by
  rw [BitVec.ofInt_natCast, ← BitVec.testBit_toNat, BitVec.toNat_ofNat, Nat.mod_eq_of_lt (by omega)]
theorem in_iff {s t : Nat → Nat} (hs : ∀ k, s k < 65536) (ht : ∀ k, t k < 65536) (n : Nat) : inTo s t n = true ↔ ∀ k, k < n → ∀ i, (s k).testBit i = true → (t k).testBit i = true := by
  unfold inTo
  rw [decide_eq_true_iff]
  constructor
  · intro h k hk i hi
    have h1 := (anot_zero _ _).1 (h k hk) i
    rw [nat_bit _ (hs k), nat_bit _ (ht k)] at h1
    exact h1 hi
  · intro h k hk
    rw [anot_zero]
    intro i
    rw [nat_bit _ (hs k), nat_bit _ (ht k)]
    exact h k hk i
theorem hb_iff {s : Nat → Nat} (hs : ∀ k, s k < 65536) (c : List Int) (k : Nat) : hasBit s c k ≠ 0 ↔ (s k).testBit (c.getD k 0).toNat = true := by
  unfold hasBit
  obtain ⟨m, hm⟩ : ∃ m, (c.getD k 0).toNat = m := ⟨_, rfl⟩
  rw [hm]
  have e : (((s k : Nat) : Int) / 2 ^ m) = ((s k / 2 ^ m : Nat) : Int) := by push_cast; rfl
  have hlt : s k / 2 ^ m < 65536 := Nat.lt_of_le_of_lt (Nat.div_le_self _ _) (hs k)
  rw [e, bits_and_nat _ _ hlt, Nat.testBit_eq_decide_div_mod_eq]
  rw [show (BitVec.ofInt 64 1).toNat = 1 from rfl, Nat.and_one_is_mod]
  rw [decide_eq_true_iff]
  omega
theorem has_iff {s : Nat → Nat} (hs : ∀ k, s k < 65536) (c : List Int) : hsB s c = true ↔ ∀ k, k < c.length → (s k).testBit (c.getD k 0).toNat = true := by
  unfold hsB
  rw [decide_eq_true_iff]
  constructor
  · intro h k hk
    exact (hb_iff hs c k).1 (h k hk)
  · intro h k hk
    exact (hb_iff hs c k).2 (h k hk)
theorem eqS_iff {s t : Nat → Nat} : eqS s t = true ↔ ∀ k, k < 5 → s k = t k := by
  unfold eqS
  simp only [Bool.and_eq_true, beq_iff_eq]
  constructor
  · rintro ⟨h0, h1, h2, h3, h4⟩ k hk
    rcases (by omega : k = 0 ∨ k = 1 ∨ k = 2 ∨ k = 3 ∨ k = 4) with rfl | rfl | rfl | rfl | rfl <;> omega
  · intro h
    have h0 := h 0 (by omega)
    have h1 := h 1 (by omega)
    have h2 := h 2 (by omega)
    have h3 := h 3 (by omega)
    have h4 := h 4 (by omega)
    exact ⟨by omega, by omega, by omega, by omega, by omega⟩
-- each list of choices is a case
theorem vl_lt {fs : List Int} (c : Nat → Int) : ∀ n, (∀ j, j < n → 0 ≤ c j ∧ c j < (chF fs j : Int)) → vl fs c n < pr fs n
  | 0, _ => by show 0 < 1; omega
  | n + 1, h => by
    have h1 := vl_lt c n (fun j hj => h j (by omega))
    have h2 := h n (by omega)
    show vl fs c n * chF fs n + (c n).toNat < pr fs n * chF fs n
    have h3 : (c n).toNat < chF fs n := by omega
    have h4 : (vl fs c n + 1) * chF fs n ≤ pr fs n * chF fs n := Nat.mul_le_mul_right _ h1
    rw [Nat.add_mul, Nat.one_mul] at h4
    omega
theorem dg_vl {fs : List Int} (c : Nat → Int) : ∀ n, (∀ j, j < n → 0 ≤ c j ∧ c j < (chF fs j : Int)) → ∀ j, j < n → dg fs n (vl fs c n) j = c j
  | 0, _, j, hj => absurd hj (by omega)
  | n + 1, h, j, hj => by
    have h2 := h n (by omega)
    have h3 : (c n).toNat < chF fs n := by omega
    have hv : vl fs c (n + 1) = vl fs c n * chF fs n + (c n).toNat := rfl
    by_cases e : j = n
    · subst e
      rw [dg_last, hv, Nat.mul_comm, Nat.mul_add_mod, Nat.mod_eq_of_lt h3]
      omega
    · rw [dg_lo _ _ _ e, hv, Nat.mul_comm, Nat.mul_add_div (by omega), Nat.div_eq_of_lt h3, Nat.add_zero]
      exact dg_vl c n (fun j hj => h j (by omega)) j (by omega)
theorem ic_iff {fs c : List Int} : icB fs c = true ↔ c.length = fs.length ∧ ∀ j, j < fs.length → 0 ≤ c.getD j 0 ∧ c.getD j 0 ≤ fs.getD j 0 - 1 := by
  unfold icB
  rw [Bool.and_eq_true, decide_eq_true_iff]
  constructor
  · rintro ⟨h1, h2⟩
    exact ⟨h1, fun j hj => csB_at h2 j hj⟩
  · rintro ⟨h1, h2⟩
    refine ⟨h1, ?_⟩
    have key : ∀ n, n ≤ fs.length → csB c fs n = true := fun n => by
      induction n with
      | zero => intro _; rfl
      | succ n ih =>
        intro hn
        show (csB c fs n && decide _) = true
        rw [ih (by omega), Bool.true_and]
        exact decide_eq_true (h2 n (by omega))
    exact key _ (Nat.le_refl _)
theorem case_at {fs c : List Int} (h : icB fs c = true) : ∃ n, n < pr fs fs.length ∧ clL fs n = c := by
  obtain ⟨h1, h2⟩ := ic_iff.1 h
  have h3 : ∀ j, j < fs.length → 0 ≤ c.getD j 0 ∧ c.getD j 0 < (chF fs j : Int) := fun j hj => by
    have := h2 j hj
    unfold chF
    omega
  refine ⟨vl fs (fun j => c.getD j 0) fs.length, vl_lt _ _ h3, getD_allI (by rw [clL_len, h1]) (fun k hk => ?_)⟩
  rw [clL_len] at hk
  rw [clL_at _ _ hk]
  exact dg_vl _ _ h3 k hk
end Go.Proofs.YtfbnpiafoaoddaaDoor
/- School, plain: rules case by case: what the reference says of rules is what their sets say. -/
namespace Go.Proofs.YtfbnpiafoaoddaaDoor
open Go Go.RowKit Go.Shelf
set_option maxHeartbeats 4000000
set_option maxRecDepth 100000
/-- whether a rule applies in a case, test by test -/
def apB (r : Rl) (c : List Int) : Bool := r.when_.all fun t => t.2.toNat.testBit (c.getD t.1.toNat 0).toNat
/-- choices that are numbers of the machine -/
def ScI (s : Sch) : Prop := ∀ r ∈ s.rs, ∀ t ∈ r.when_, -9223372036854775808 ≤ t.2 ∧ t.2 ≤ 9223372036854775807
theorem tst_iff {t : Int} {n : Nat} (hn : n ≤ 4) (h : -9223372036854775808 ≤ t ∧ t ≤ 9223372036854775807) : bits BinOp.andNot IntKind.i64 t ((2 ^ n - 1 : Nat) : Int) = 0 ↔ 0 ≤ t ∧ t < 2 ^ n := by
  have hev : 2 ^ n - 1 < 65536 := by
    have : 2 ^ n ≤ 2 ^ 4 := Nat.pow_le_pow_right (by decide) hn
    omega
  have hpi : ((2 : Int) ^ n) = ((2 ^ n : Nat) : Int) := by push_cast; rfl
  have hp4 : 2 ^ n ≤ 2 ^ 4 := Nat.pow_le_pow_right (by decide) hn
  rw [anot_zero, hpi]
  constructor
  · intro h1
    have h2 : (BitVec.ofInt 64 t).toNat < 2 ^ n := by
      apply Nat.lt_pow_two_of_testBit
      intro i hi
      cases hb : (BitVec.ofInt 64 t).toNat.testBit i with
      | false => rfl
      | true =>
        rw [BitVec.testBit_toNat] at hb
        have h3 := h1 i hb
        rw [nat_bit _ hev, Nat.testBit_two_pow_sub_one, decide_eq_true_iff] at h3
        omega
    rw [BitVec.toNat_ofInt] at h2
    omega
  · rintro ⟨h1, h2⟩ i hi
    obtain ⟨m, rfl⟩ : ∃ m : Nat, t = m := ⟨t.toNat, by omega⟩
    rw [nat_bit _ (by omega)] at hi
    rw [nat_bit _ hev, Nat.testBit_two_pow_sub_one, decide_eq_true_iff]
    refine Nat.lt_of_not_le fun h3 => ?_
    rw [Nat.testBit_lt_two_pow (Nat.lt_of_lt_of_le (show m < 2 ^ n by omega) (Nat.pow_le_pow_right (by decide) h3))] at hi
    cases hi
theorem wth_bit (ev : Nat → Nat) (l : List (Int × Int)) (k i : Nat) : (wthL ev l k).testBit i = true ↔ (ev k).testBit i = true ∧ ∀ t ∈ l, t.1.toNat = k → (BitVec.ofInt 64 t.2).toNat.testBit i = true := by
  induction l generalizing ev with
  | nil => exact ⟨fun h => ⟨h, fun t ht => by cases ht⟩, fun h => h.1⟩
  | cons x l ih =>
    show (wthL (wthF ev x) l k).testBit i = true ↔ _
    rw [ih]
    unfold wthF upd
    by_cases e : k = x.1.toNat
    · subst e
      rw [if_pos rfl, Nat.testBit_and, Bool.and_eq_true]
      constructor
      · rintro ⟨⟨h1, h2⟩, h3⟩
        refine ⟨h1, fun t ht hk => ?_⟩
        rcases List.mem_cons.1 ht with rfl | ht
        · exact h2
        · exact h3 t ht hk
      · rintro ⟨h1, h2⟩
        exact ⟨⟨h1, h2 x (List.mem_cons_self ..) rfl⟩, fun t ht hk => h2 t (List.mem_cons_of_mem _ ht) hk⟩
    · rw [if_neg e]
      constructor
      · rintro ⟨h1, h3⟩
        refine ⟨h1, fun t ht hk => ?_⟩
        rcases List.mem_cons.1 ht with rfl | ht
        · exact absurd hk.symm e
        · exact h3 t ht hk
      · rintro ⟨h1, h2⟩
        exact ⟨h1, fun t ht hk => h2 t (List.mem_cons_of_mem _ ht) hk⟩
theorem rule_ok {s : Sch} (hs : schB s = true) {r : Rl} (hr : r ∈ s.rs) : rlB s.fs.length s.q (evF s.fs) r = true := by
  unfold schB at hs
  simp only [Bool.and_eq_true] at hs
  exact List.all_eq_true.1 hs.2.2.2.2 r hr
theorem test_ok {s : Sch} (hs : schB s = true) (hi : ScI s) {r : Rl} (hr : r ∈ s.rs) {t : Int × Int} (ht : t ∈ r.when_) : 0 ≤ t.1 ∧ t.1 < s.fs.length ∧ 0 ≤ t.2 ∧ t.2 < 16 := by
  have h := rule_ok hs hr
  unfold rlB at h
  simp only [Bool.and_eq_true] at h
  have h2 := List.all_eq_true.1 h.2.2.2 t ht
  unfold tstB at h2
  rw [Bool.and_eq_true, decide_eq_true_iff, beq_iff_eq] at h2
  obtain ⟨⟨h3, h4⟩, h5⟩ := h2
  have hk : t.1.toNat < s.fs.length := by omega
  have hf := fsB_at (schB_ok hs).fs _ hk
  unfold evF at h5
  rw [if_pos hk] at h5
  obtain ⟨h6, h7⟩ := (tst_iff (by omega) (hi r hr t ht)).1 h5
  refine ⟨h3, by omega, h6, ?_⟩
  have hp4 : 2 ^ (s.fs.getD t.1.toNat 0).toNat ≤ 2 ^ 4 := Nat.pow_le_pow_right (by decide) (by omega)
  have hpi : ((2 : Int) ^ (s.fs.getD t.1.toNat 0).toNat) = ((2 ^ (s.fs.getD t.1.toNat 0).toNat : Nat) : Int) := by push_cast; rfl
  rw [hpi] at h7
  omega
theorem ofInt_small {t : Int} (h0 : 0 ≤ t) (h1 : t < 16) : (BitVec.ofInt 64 t).toNat = t.toNat := by
  rw [BitVec.toNat_ofInt]; omega
theorem mem_at {s : Sch} {k : Nat} (hk : k < s.rs.length) : s.rs.getD k r0 ∈ s.rs := by
  rw [List.getD_eq_getElem?_getD, List.getElem?_eq_getElem hk]
  exact List.getElem_mem hk
theorem ev_bit {fs : List Int} (hf : fsB fs = true) {c : List Int} (hc : icB fs c = true) {k : Nat} (hk : k < fs.length) : (evF fs k).testBit (c.getD k 0).toNat = true := by
  have h1 := (ic_iff.1 hc).2 k hk
  have h2 := fsB_at hf k hk
  unfold evF
  rw [if_pos hk, Nat.testBit_two_pow_sub_one, decide_eq_true_iff]
  omega
/-- a rule's sets have a case just if the rule applies in it -/
theorem has_ap {s : Sch} (hs : schB s = true) (hi : ScI s) {k : Nat} (hk : k < s.rs.length) {c : List Int} (hc : icB s.fs c = true) : hsB (stF s k) c = apB (s.rs.getD k r0) c := by
  have hok := schB_ok hs
  have hr := mem_at hk
  obtain ⟨r, hrr⟩ : ∃ r, s.rs.getD k r0 = r := ⟨_, rfl⟩
  have hcl := (ic_iff.1 hc).1
  have hw : ∀ j, j < s.fs.length → ((wthL (evF s.fs) r.when_ j).testBit (c.getD j 0).toNat = true ↔ ∀ t ∈ r.when_, t.1.toNat = j → t.2.toNat.testBit (c.getD j 0).toNat = true) := fun j hj => by
    rw [wth_bit]
    constructor
    · rintro ⟨-, h⟩ t ht e
      have h2 := h t ht e
      have h3 := test_ok hs hi (hrr ▸ hr) ht
      rwa [ofInt_small h3.2.2.1 h3.2.2.2] at h2
    · intro h
      refine ⟨ev_bit hok.fs hc hj, fun t ht e => ?_⟩
      have h3 := test_ok hs hi (hrr ▸ hr) ht
      rw [ofInt_small h3.2.2.1 h3.2.2.2]
      exact h t ht e
  have hap : apB r c = true ↔ ∀ j, j < s.fs.length → (wthL (evF s.fs) r.when_ j).testBit (c.getD j 0).toNat = true := by
    unfold apB
    rw [List.all_eq_true]
    constructor
    · intro h j hj
      rw [hw j hj]
      intro t ht e
      have := h t ht
      rwa [e] at this
    · intro h t ht
      have h3 := test_ok hs hi (hrr ▸ hr) ht
      exact (hw t.1.toNat (by omega)).1 (h _ (by omega)) t ht rfl
  rw [hrr, Bool.eq_iff_iff, has_iff (fun x => Nat.lt_of_lt_of_le (stF_lt hok.fs k x) (by decide)), hap, hcl]
  unfold stF setF clnF
  rw [hrr]
  constructor
  · intro h j hj
    have h2 := h j hj
    split at h2
    · rw [Nat.zero_testBit] at h2; cases h2
    · exact h2
  · intro h j hj
    split
    · rename_i h2
      obtain ⟨m, hm, h3⟩ := (anyTo_iff _ _).1 h2
      have h4 := h m hm
      have h5 : wthL (evF s.fs) r.when_ m = 0 := by
        have h6 : ((wthL (evF s.fs) r.when_ m : Nat) : Int) = 0 := by simpa using h3
        omega
      rw [h5, Nat.zero_testBit] at h4
      cases h4
    · exact h j hj
/-- sets of a rule: none, or some of each feature; nothing else -/
theorem st_shape {s : Sch} (hs : schB s = true) (k : Nat) : (∀ j, stF s k j = 0) ∨ ((∀ j, j < s.fs.length → stF s k j ≠ 0) ∧ (∀ j, s.fs.length ≤ j → stF s k j = 0) ∧ ∀ j i, (stF s k j).testBit i = true → (i : Int) < s.fs.getD j 0) := by
  obtain ⟨r, hrr⟩ : ∃ r, s.rs.getD k r0 = r := ⟨_, rfl⟩
  unfold stF setF clnF
  rw [hrr]
  by_cases h : anyTo (fun j => ((wthL (evF s.fs) r.when_ j : Nat) : Int) == 0) s.fs.length = true
  · left
    intro j
    rw [if_pos h]
  · right
    simp only [if_neg h]
    refine ⟨fun j hj e => h ((anyTo_iff _ _).2 ⟨j, hj, by rw [e]; rfl⟩), fun j hj => ?_, fun j i hb => ?_⟩
    · have h1 := wthL_le (evF s.fs) r.when_ j
      unfold evF at h1
      rw [if_neg (by omega)] at h1
      exact Nat.le_zero.1 h1
    · have h1 := ((wth_bit _ _ _ _).1 hb).1
      unfold evF at h1
      split at h1
      · rename_i hj
        have h2 := fsB_at (schB_ok hs).fs j hj
        rw [Nat.testBit_two_pow_sub_one, decide_eq_true_iff] at h1
        omega
      · rw [Nat.zero_testBit] at h1; cases h1
theorem bit_some {n : Nat} (h : n ≠ 0) : ∃ i, n.testBit i = true := Nat.exists_testBit_of_ne_zero h
/-- of two rules: where the one has a case, so has the other -/
theorem in_cases {s : Sch} (hs : schB s = true) (a b : Nat) : inTo (stF s a) (stF s b) 5 = true ↔ ∀ n, n < pr s.fs s.fs.length → hsB (stF s a) (clL s.fs n) = true → hsB (stF s b) (clL s.fs n) = true := by
  have hok := schB_ok hs
  have la : ∀ x, stF s a x < 65536 := fun x => Nat.lt_of_lt_of_le (stF_lt hok.fs a x) (by decide)
  have lb : ∀ x, stF s b x < 65536 := fun x => Nat.lt_of_lt_of_le (stF_lt hok.fs b x) (by decide)
  rw [in_iff la lb]
  constructor
  · intro h n hn
    rw [has_iff la, has_iff lb]
    intro h1 k hk
    exact h k (by rw [clL_len] at hk; have := hok.nf5; omega) _ (h1 k hk)
  · intro h k hk i hi
    rcases st_shape hs a with h0 | ⟨h1, h2, h3⟩
    · rw [h0, Nat.zero_testBit] at hi; cases hi
    · have hkn : k < s.fs.length := by
        refine Nat.lt_of_not_le fun hle => ?_
        rw [h2 k hle, Nat.zero_testBit] at hi; cases hi
      have hp : ∀ j, j < s.fs.length → ∃ x : Nat, (stF s a j).testBit x = true := fun j hj => bit_some (h1 j hj)
      obtain ⟨p, hp⟩ : ∃ p : Nat → Nat, ∀ j, j < s.fs.length → (stF s a j).testBit (p j) = true :=
        ⟨fun j => if h : j < s.fs.length then (hp j h).choose else 0, fun j hj => by
          dsimp only
          rw [dif_pos hj]
          exact (hp j hj).choose_spec⟩
      obtain ⟨f, hf⟩ : ∃ f : Nat → Nat, f = fun j => if j = k then i else p j := ⟨_, rfl⟩
      have hfb : ∀ j, j < s.fs.length → (stF s a j).testBit (f j) = true := fun j hj => by
        rw [hf]
        dsimp only
        by_cases e : j = k
        · rw [if_pos e, e]; exact hi
        · rw [if_neg e]; exact hp j hj
      have hll : ((List.range s.fs.length).map fun j => (f j : Int)).length = s.fs.length := by simp
      have hg : ∀ j, j < s.fs.length → ((List.range s.fs.length).map fun j => (f j : Int)).getD j 0 = (f j : Int) := fun j hj => by
        rw [List.getD_eq_getElem?_getD, List.getElem?_map, List.getElem?_range hj]; rfl
      have hc : icB s.fs ((List.range s.fs.length).map fun j => (f j : Int)) = true := ic_iff.2 ⟨hll, fun j hj => by
        rw [hg j hj]
        have := h3 j (f j) (hfb j hj)
        omega⟩
      obtain ⟨n, hn, hcn⟩ := case_at hc
      have h4 := h n hn (by
        rw [hcn, has_iff la]
        intro j hj
        rw [hll] at hj
        rw [hg j hj, Int.toNat_natCast]
        exact hfb j hj)
      rw [hcn, has_iff lb] at h4
      have h5 := h4 k (by rw [hll]; exact hkn)
      rw [hg k hkn, Int.toNat_natCast, hf] at h5
      dsimp only at h5
      rwa [if_pos rfl] at h5
def nvF (a b : Nat → Bool) : Nat → Bool
  | 0 => true
  | n + 1 => nvF a b n && (!a n || b n)
def smF (a b : Nat → Bool) : Nat → Bool
  | 0 => false
  | n + 1 => smF a b n || (b n && !a n)
theorem nvF_iff (a b : Nat → Bool) (n : Nat) : nvF a b n = true ↔ ∀ k, k < n → a k = true → b k = true := by
  induction n with
  | zero => exact ⟨fun _ k hk => absurd hk (by omega), fun _ => rfl⟩
  | succ n ih =>
    show (nvF a b n && (!a n || b n)) = true ↔ _
    rw [Bool.and_eq_true, ih]
    constructor
    · rintro ⟨h1, h2⟩ k hk h3
      rcases (by omega : k < n ∨ k = n) with h4 | rfl
      · exact h1 k h4 h3
      · rw [h3] at h2; exact h2
    · intro h
      refine ⟨fun k hk => h k (by omega), ?_⟩
      cases h1 : a n with
      | false => rfl
      | true => rw [h n (by omega) h1]; rfl
theorem smF_iff (a b : Nat → Bool) (n : Nat) : smF a b n = true ↔ ∃ k, k < n ∧ b k = true ∧ a k = false := by
  induction n with
  | zero =>
    constructor
    · intro h; cases h
    · rintro ⟨k, hk, -⟩; omega
  | succ n ih =>
    show (smF a b n || (b n && !a n)) = true ↔ _
    rw [Bool.or_eq_true, ih, Bool.and_eq_true]
    constructor
    · rintro (⟨k, h1, h2, h3⟩ | ⟨h1, h2⟩)
      · exact ⟨k, by omega, h2, h3⟩
      · exact ⟨n, by omega, h1, by simpa using h2⟩
    · rintro ⟨k, h1, h2, h3⟩
      rcases (by omega : k < n ∨ k = n) with h4 | rfl
      · exact .inl ⟨k, h4, h2, h3⟩
      · exact .inr ⟨h2, by rw [h3]; rfl⟩
/-- whether a rule applies in the n-th case -/
def apN (s : Sch) (i n : Nat) : Bool := apB (s.rs.getD i r0) (clL s.fs n)
/-- more special, case by case -/
def spP (s : Sch) (i k : Nat) : Bool := nvF (apN s i) (apN s k) (pr s.fs s.fs.length) && smF (apN s i) (apN s k) (pr s.fs s.fs.length)
theorem cl_ic {fs : List Int} (hf : fsB fs = true) (k : Nat) : icB fs (clL fs k) = true := by
  refine ic_iff.2 ⟨clL_len fs k, fun j hj => ?_⟩
  have h5 : ∀ j, j < fs.length → 1 ≤ fs.getD j 0 ∧ fs.getD j 0 ≤ 4 := fun j hj => fsB_at hf j hj
  rw [clL_at fs k hj]
  have h6 := dg_bd (fs := fs) (n := fs.length) k (fun j hj => by have := h5 j hj; unfold chF; omega) j hj
  have h7 := h5 j hj
  have h8 : (chF fs j : Int) = fs.getD j 0 := by unfold chF; omega
  omega
theorem sp_eq {s : Sch} (hs : schB s = true) (hi : ScI s) {a b : Nat} (ha : a < s.rs.length) (hb : b < s.rs.length) : spP s a b = spc (stF s a) (stF s b) := by
  have hok := schB_ok hs
  have la : ∀ x, stF s a x < 65536 := fun x => Nat.lt_of_lt_of_le (stF_lt hok.fs a x) (by decide)
  have lb : ∀ x, stF s b x < 65536 := fun x => Nat.lt_of_lt_of_le (stF_lt hok.fs b x) (by decide)
  have e1 : ∀ n, apN s a n = hsB (stF s a) (clL s.fs n) := fun n => (has_ap hs hi ha (cl_ic hok.fs n)).symm
  have e2 : ∀ n, apN s b n = hsB (stF s b) (clL s.fs n) := fun n => (has_ap hs hi hb (cl_ic hok.fs n)).symm
  unfold spP spc
  rw [Bool.eq_iff_iff, Bool.and_eq_true, Bool.and_eq_true, nvF_iff, smF_iff, in_cases hs a b, Bool.not_eq_true', ← Bool.not_eq_true, eqS_iff]
  simp only [e1, e2]
  constructor
  · rintro ⟨h1, k, hk, h2, h3⟩
    refine ⟨fun h4 => ?_, h1⟩
    have : hsB (stF s a) (clL s.fs k) = true := by
      rw [has_iff lb] at h2
      rw [has_iff la]
      intro j hj
      rw [h4 j (by rw [clL_len] at hj; have := hok.nf5; omega)]
      exact h2 j hj
    rw [this] at h3; cases h3
  · rintro ⟨h1, h2⟩
    refine ⟨h2, ?_⟩
    by_cases h3 : ∃ k, k < pr s.fs s.fs.length ∧ hsB (stF s b) (clL s.fs k) = true ∧ hsB (stF s a) (clL s.fs k) = false
    · exact h3
    · exfalso
      have h4 : inTo (stF s b) (stF s a) 5 = true := (in_cases hs b a).2 fun n hn h5 => by
        cases h6 : hsB (stF s a) (clL s.fs n) with
        | true => rfl
        | false => exact absurd ⟨n, hn, h5, h6⟩ h3
      have h7 := (in_iff lb la 5).1 h4
      have h8 := (in_iff la lb 5).1 ((in_cases hs a b).2 h2)
      refine h1 fun k hk => Nat.eq_of_testBit_eq fun i => ?_
      rw [Bool.eq_iff_iff]
      exact ⟨h8 k hk i, h7 k hk i⟩
-- which rules decide
theorem apF_filter (Q : Nat → Bool) (R : Int → Bool) : ∀ n, (apF Q n).filter R = apF (fun i => Q i && R (i : Int)) n
  | 0 => rfl
  | n + 1 => by
    show (if Q n then apF Q n ++ [(n : Int)] else apF Q n).filter R = if (Q n && R (n : Int)) then apF _ n ++ [(n : Int)] else apF _ n
    rw [← apF_filter Q R n]
    cases h1 : Q n with
    | false => simp
    | true =>
      cases h2 : R (n : Int) with
      | false => simp [List.filter_append, h2]
      | true => simp [List.filter_append, h2]
theorem apF_congr {Q R : Nat → Bool} : ∀ n, (∀ i, i < n → Q i = R i) → apF Q n = apF R n
  | 0, _ => rfl
  | n + 1, h => by
    show (if Q n then apF Q n ++ [(n : Int)] else apF Q n) = if R n then apF R n ++ [(n : Int)] else apF R n
    rw [apF_congr n (fun i hi => h i (by omega)), h n (by omega)]
theorem apF_in {Q : Nat → Bool} {n k : Nat} (hk : k < n) (h : Q k = true) : (k : Int) ∈ apF Q n := by
  induction n with
  | zero => omega
  | succ n ih =>
    show (k : Int) ∈ (if Q n then apF Q n ++ [(n : Int)] else apF Q n)
    rcases (by omega : k < n ∨ k = n) with h1 | rfl
    · split
      · exact List.mem_append_left _ (ih h1)
      · exact ih h1
    · rw [if_pos h]; exact List.mem_append_right _ (List.mem_singleton.2 rfl)
/-- no rule that is asked and applies is more special -/
def tpF (p : Nat → Bool) : Nat → Bool
  | 0 => true
  | n + 1 => tpF p n && !(p n)
theorem tpF_iff (p : Nat → Bool) (n : Nat) : tpF p n = true ↔ ∀ k, k < n → p k = false := by
  induction n with
  | zero => exact ⟨fun _ k hk => absurd hk (by omega), fun _ => rfl⟩
  | succ n ih =>
    show (tpF p n && !(p n)) = true ↔ _
    rw [Bool.and_eq_true, ih, Bool.not_eq_true']
    constructor
    · rintro ⟨h1, h2⟩ k hk
      rcases (by omega : k < n ∨ k = n) with h4 | rfl
      · exact h1 k h4
      · exact h2
    · intro h
      exact ⟨fun k hk => h k (by omega), h n (by omega)⟩
/-- a rule is asked and applies -/
def asB (s : Sch) (c : List Int) (q : Int) (i : Nat) : Bool := ((s.rs.getD i r0).ask == q) && apB (s.rs.getD i r0) c
/-- the rules that decide, as the reference finds them -/
def byP (s : Sch) (c : List Int) (q : Int) : List Int := apF (fun i => asB s c q i && tpF (fun k => ((s.rs.getD k r0).ask == q) && (spP s k i && apB (s.rs.getD k r0) c)) s.rs.length) s.rs.length
theorem by_eq {s : Sch} (hs : schB s = true) (hi : ScI s) {c : List Int} (hc : icB s.fs c = true) (q : Int) : byP s c q = dcB s (stF s) c q := by
  unfold dcB
  have hA : dcA s (stF s) c q = apF (asB s c q) s.rs.length := by
    unfold dcA
    refine apF_congr _ fun i hi' => ?_
    unfold asB
    rw [has_ap hs hi hi' hc]
  rw [hA, apF_filter]
  unfold byP
  refine apF_congr _ fun i hi' => ?_
  cases h0 : asB s c q i with
  | false => rfl
  | true =>
    rw [Bool.true_and, Bool.true_and]
    unfold topB
    rw [Bool.eq_iff_iff, tpF_iff, Bool.not_eq_true', ← Bool.not_eq_true, anyTo_iff]
    constructor
    · rintro h ⟨j, hj, h2⟩
      have hm : (apF (asB s c q) s.rs.length).getD j 0 ∈ apF (asB s c q) s.rs.length := by
        rw [List.getD_eq_getElem?_getD, List.getElem?_eq_getElem hj]
        exact List.getElem_mem hj
      obtain ⟨k, hk, hkn, hkq⟩ := apF_mem _ _ _ hm
      rw [hk] at h2
      rw [Int.toNat_natCast, Int.toNat_natCast, ← sp_eq hs hi hkn hi'] at h2
      have h3 := h k hkn
      unfold asB at hkq
      rw [Bool.and_eq_true] at hkq
      rw [hkq.1, hkq.2, h2] at h3
      cases h3
    · intro h k hk
      cases h3 : ((s.rs.getD k r0).ask == q && (spP s k i && apB (s.rs.getD k r0) c)) with
      | false => rfl
      | true =>
        exfalso
        rw [Bool.and_eq_true, Bool.and_eq_true] at h3
        have hm := apF_in (Q := asB s c q) hk (by unfold asB; rw [h3.1, h3.2.2]; rfl)
        obtain ⟨j, hj, hjj⟩ := List.getElem_of_mem hm
        refine h ⟨j, hj, ?_⟩
        rw [List.getD_eq_getElem?_getD, List.getElem?_eq_getElem hj, hjj]
        show spc (stF s ((k : Int)).toNat) (stF s ((i : Int)).toNat) = true
        rw [Int.toNat_natCast, Int.toNat_natCast, ← sp_eq hs hi hk hi']
        exact h3.2.1
end Go.Proofs.YtfbnpiafoaoddaaDoor
/- School, plain: a rule that asks for one case alone, and is added. -/
namespace Go.Proofs.YtfbnpiafoaoddaaDoor
open Go Go.RowKit Go.Shelf
set_option maxHeartbeats 4000000
set_option maxRecDepth 100000
/-- the tests that ask for one case alone -/
def oneT (c : List Int) : List (Int × Int) := (List.range c.length).map fun (i : Nat) => ((i : Int), ((2 ^ (c.getD i 0).toNat : Nat) : Int))
/-- the rule for one case alone -/
def oneR (c : List Int) (ask say : Int) : Rl := ⟨oneT c, ask, say⟩
/-- a school with a rule more -/
def plusR (s : Sch) (r : Rl) : Sch := ⟨s.fs, s.q, s.rs ++ [r]⟩
/-- the sets of one case alone -/
def ptF (c : List Int) (j : Nat) : Nat := if j < c.length then 2 ^ (c.getD j 0).toNat else 0
theorem pt_bit (c : List Int) (k i : Nat) : (ptF c k).testBit i = true ↔ k < c.length ∧ (c.getD k 0).toNat = i := by
  unfold ptF
  by_cases h : k < c.length
  · rw [if_pos h, Nat.testBit_two_pow, decide_eq_true_iff]
    exact ⟨fun e => ⟨h, e⟩, fun e => e.2⟩
  · rw [if_neg h]
    simp [h]
theorem case_bd {fs c : List Int} (hf : fsB fs = true) (hc : icB fs c = true) (j : Nat) (hj : j < c.length) : 0 ≤ c.getD j 0 ∧ c.getD j 0 ≤ 3 ∧ c.getD j 0 < fs.getD j 0 := by
  obtain ⟨h1, h2⟩ := ic_iff.1 hc
  have h3 := h2 j (by omega)
  have h4 := fsB_at hf j (by omega)
  omega
theorem pt_small {fs c : List Int} (hf : fsB fs = true) (hc : icB fs c = true) (k : Nat) : ptF c k < 65536 := by
  unfold ptF
  by_cases h : k < c.length
  · rw [if_pos h]
    have h1 := case_bd hf hc k h
    have h2 : 2 ^ (c.getD k 0).toNat ≤ 2 ^ 3 := Nat.pow_le_pow_right (by decide) (by omega)
    omega
  · rw [if_neg h]; decide
theorem one_mem {c : List Int} {t : Int × Int} : t ∈ oneT c ↔ ∃ i, i < c.length ∧ t = ((i : Int), ((2 ^ (c.getD i 0).toNat : Nat) : Int)) := by
  unfold oneT
  rw [List.mem_map]
  constructor
  · rintro ⟨i, hi, rfl⟩
    exact ⟨i, List.mem_range.1 hi, rfl⟩
  · rintro ⟨i, hi, rfl⟩
    exact ⟨i, List.mem_range.2 hi, rfl⟩
theorem one_val {fs c : List Int} (hf : fsB fs = true) (hc : icB fs c = true) {i : Nat} (hi : i < c.length) : (1 : Int) ≤ ((2 ^ (c.getD i 0).toNat : Nat) : Int) ∧ ((2 ^ (c.getD i 0).toNat : Nat) : Int) < 16 := by
  have h1 := case_bd hf hc i hi
  have h2 : 2 ^ (c.getD i 0).toNat ≤ 2 ^ 3 := Nat.pow_le_pow_right (by decide) (by omega)
  have h3 : 0 < 2 ^ (c.getD i 0).toNat := Nat.pow_pos (by decide)
  omega
theorem one_wth {fs c : List Int} (hf : fsB fs = true) (hc : icB fs c = true) (k : Nat) : wthL (evF fs) (oneT c) k = ptF c k := by
  obtain ⟨h1, h2⟩ := ic_iff.1 hc
  refine Nat.eq_of_testBit_eq fun i => ?_
  rw [Bool.eq_iff_iff, wth_bit, pt_bit]
  constructor
  · rintro ⟨a, b⟩
    have hk : k < c.length := by
      rcases Nat.lt_or_ge k c.length with h | h
      · exact h
      · unfold evF at a
        rw [if_neg (by omega)] at a
        simp at a
    have h3 := b _ (one_mem.2 ⟨k, hk, rfl⟩) (by simp)
    have h4 := one_val hf hc hk
    dsimp only at h3
    rw [ofInt_small (by omega) h4.2, Int.toNat_natCast, Nat.testBit_two_pow, decide_eq_true_iff] at h3
    exact ⟨hk, h3⟩
  · rintro ⟨hk, rfl⟩
    refine ⟨ev_bit hf hc (by omega), fun t ht e => ?_⟩
    obtain ⟨j, hj, rfl⟩ := one_mem.1 ht
    obtain rfl : j = k := by simpa using e
    have h4 := one_val hf hc hj
    dsimp only
    rw [ofInt_small (by omega) h4.2, Int.toNat_natCast, Nat.testBit_two_pow, decide_eq_true_iff]
theorem one_set {s : Sch} (hs : schB s = true) {c : List Int} (hc : icB s.fs c = true) (a y : Int) (k : Nat) : setF s (oneR c a y) k = ptF c k := by
  have hf := (schB_ok hs).fs
  obtain ⟨h1, h2⟩ := ic_iff.1 hc
  show clnF (wthL (evF s.fs) (oneT c)) s.fs.length k = _
  unfold clnF
  rw [if_neg, one_wth hf hc]
  intro h
  obtain ⟨j, hj, h0⟩ := (anyTo_iff _ _).1 h
  rw [one_wth hf hc, beq_iff_eq] at h0
  unfold ptF at h0
  rw [if_pos (by omega)] at h0
  have h3 : 0 < 2 ^ (c.getD j 0).toNat := Nat.pow_pos (by decide)
  omega
theorem plus_old {s : Sch} {r : Rl} {k : Nat} (hk : k < s.rs.length) : (plusR s r).rs.getD k r0 = s.rs.getD k r0 := by
  show (s.rs ++ [r]).getD k r0 = _
  rw [List.getD_eq_getElem?_getD, List.getD_eq_getElem?_getD, List.getElem?_append_left hk]
theorem plus_new {s : Sch} {r : Rl} : (plusR s r).rs.getD s.rs.length r0 = r := by
  show (s.rs ++ [r]).getD s.rs.length r0 = _
  rw [List.getD_eq_getElem?_getD, List.getElem?_append_right (Nat.le_refl _)]
  simp
theorem plus_len {s : Sch} {r : Rl} : (plusR s r).rs.length = s.rs.length + 1 := by
  show (s.rs ++ [r]).length = _
  simp
theorem plus_st {s : Sch} {r : Rl} {k : Nat} (hk : k < s.rs.length) : stF (plusR s r) k = stF s k := by
  unfold stF
  rw [plus_old hk]
  rfl
theorem plus_stn {s : Sch} (hs : schB s = true) {c : List Int} (hc : icB s.fs c = true) (a y : Int) : stF (plusR s (oneR c a y)) s.rs.length = ptF c := by
  funext k
  unfold stF
  rw [plus_new]
  exact one_set hs hc a y k
theorem one_rl {s : Sch} (hs : schB s = true) {c : List Int} (hc : icB s.fs c = true) {a y : Int} (ha : 0 ≤ a ∧ a ≤ s.q - 1) (hy : 0 ≤ y ∧ y ≤ 999) : rlB s.fs.length s.q (evF s.fs) (oneR c a y) = true := by
  have hok := schB_ok hs
  obtain ⟨h1, h2⟩ := ic_iff.1 hc
  have hl : (oneT c).length = c.length := by unfold oneT; simp
  unfold rlB
  rw [Bool.and_eq_true, Bool.and_eq_true, Bool.and_eq_true]
  refine ⟨decide_eq_true ?_, decide_eq_true ha, decide_eq_true hy, List.all_eq_true.2 fun t ht => ?_⟩
  · show (oneT c).length ≤ 5
    have := hok.nf5
    omega
  · obtain ⟨i, hi, rfl⟩ := one_mem.1 ht
    unfold tstB
    have h4 := one_val hok.fs hc hi
    rw [Bool.and_eq_true]
    refine ⟨decide_eq_true ?_, ?_⟩
    · dsimp only; omega
    · dsimp only
      rw [beq_iff_eq, Int.toNat_natCast, anot_zero]
      intro j hj
      have h5 : 2 ^ (c.getD i 0).toNat < 65536 := by omega
      rw [nat_bit _ h5, Nat.testBit_two_pow, decide_eq_true_iff] at hj
      subst hj
      have h6 : evF s.fs i < 65536 := by
        unfold evF
        split
        · have := fsB_at hok.fs i (by omega)
          have : 2 ^ (s.fs.getD i 0).toNat ≤ 2 ^ 4 := Nat.pow_le_pow_right (by decide) (by omega)
          omega
        · decide
      rw [nat_bit _ h6]
      exact ev_bit hok.fs hc (by omega)
theorem plus_ok {s : Sch} (hs : schB s = true) (hn : s.rs.length ≤ 11) {r : Rl} (hr : rlB s.fs.length s.q (evF s.fs) r = true) : schB (plusR s r) = true := by
  unfold schB at hs ⊢
  rw [Bool.and_eq_true, Bool.and_eq_true, Bool.and_eq_true, Bool.and_eq_true] at hs ⊢
  obtain ⟨h1, h2, h3, h4, h5⟩ := hs
  refine ⟨h1, h2, decide_eq_true ?_, h4, ?_⟩
  · rw [plus_len]; omega
  · show (s.rs ++ [r]).all _ = true
    rw [List.all_append, Bool.and_eq_true]
    exact ⟨h5, by show ([r] : List Rl).all (rlB s.fs.length s.q (evF s.fs)) = true; simpa using hr⟩
theorem eq_of_case {fs c d : List Int} (hc : icB fs c = true) (hd : icB fs d = true) (h : ∀ k, k < c.length → (c.getD k 0).toNat = (d.getD k 0).toNat) : c = d := by
  obtain ⟨h1, h2⟩ := ic_iff.1 hc
  obtain ⟨h3, h4⟩ := ic_iff.1 hd
  refine List.ext_getElem (by omega) fun k hk hk' => ?_
  have a := h2 k (by omega)
  have b := h4 k (by omega)
  have e := h k hk
  rw [List.getD_eq_getElem?_getD, List.getElem?_eq_getElem hk] at a e
  rw [List.getD_eq_getElem?_getD, List.getElem?_eq_getElem hk'] at b e
  change 0 ≤ c[k] ∧ _ at a
  change 0 ≤ d[k] ∧ _ at b
  change c[k].toNat = d[k].toNat at e
  omega
theorem pt_has {fs c d : List Int} (hf : fsB fs = true) (hc : icB fs c = true) (hd : icB fs d = true) : hsB (ptF c) d = true ↔ c = d := by
  rw [has_iff (pt_small hf hc)]
  obtain ⟨h1, h2⟩ := ic_iff.1 hc
  obtain ⟨h3, h4⟩ := ic_iff.1 hd
  constructor
  · intro h
    refine eq_of_case hc hd fun k hk => ?_
    exact ((pt_bit _ _ _).1 (h k (by omega))).2
  · rintro rfl k hk
    exact (pt_bit _ _ _).2 ⟨hk, rfl⟩
end Go.Proofs.YtfbnpiafoaoddaaDoor
/- School, plain: what a school decides, by its rules. -/
namespace Go.Proofs.YtfbnpiafoaoddaaDoor
open Go Go.RowKit Go.Shelf
set_option maxHeartbeats 4000000
set_option maxRecDepth 100000
/-- what a rule asks -/
def apQ (s : Sch) (st : Nat → Nat → Nat) (c : List Int) (q : Int) (i : Nat) : Bool := ((s.rs.getD i r0).ask == q) && hsB (st i) c
theorem dcA_mem {s : Sch} {st : Nat → Nat → Nat} {c : List Int} {q : Int} {x : Int} : x ∈ dcA s st c q ↔ ∃ k : Nat, x = (k : Int) ∧ k < s.rs.length ∧ apQ s st c q k = true := by
  constructor
  · intro h
    exact apF_mem _ _ _ h
  · rintro ⟨k, rfl, h1, h2⟩
    exact apF_in h1 h2
theorem top_iff {st : Nat → Nat → Nat} {ap : List Int} {i : Int} : topB st ap i = true ↔ ∀ x ∈ ap, spc (st x.toNat) (st i.toNat) = false := by
  unfold topB
  rw [Bool.not_eq_true', ← Bool.not_eq_true, anyTo_iff]
  constructor
  · intro h x hx
    obtain ⟨k, hk, rfl⟩ := List.getElem_of_mem hx
    rw [← Bool.not_eq_true]
    intro h2
    exact h ⟨k, hk, by rw [List.getD_eq_getElem?_getD, List.getElem?_eq_getElem hk]; exact h2⟩
  · rintro h ⟨k, hk, h2⟩
    rw [List.getD_eq_getElem?_getD, List.getElem?_eq_getElem hk] at h2
    have h3 := h _ (List.getElem_mem hk)
    change spc (st (ap[k]).toNat) _ = true at h2
    rw [h3] at h2
    cases h2
theorem dcB_mem {s : Sch} {st : Nat → Nat → Nat} {c : List Int} {q : Int} {x : Int} : x ∈ dcB s st c q ↔ ∃ k : Nat, x = (k : Int) ∧ k < s.rs.length ∧ apQ s st c q k = true ∧ ∀ j, j < s.rs.length → apQ s st c q j = true → spc (st j) (st k) = false := by
  unfold dcB
  rw [List.mem_filter, dcA_mem, top_iff]
  constructor
  · rintro ⟨⟨k, rfl, h1, h2⟩, h3⟩
    refine ⟨k, rfl, h1, h2, fun j hj hq => ?_⟩
    have := h3 (j : Int) (dcA_mem.2 ⟨j, rfl, hj, hq⟩)
    simpa using this
  · rintro ⟨k, rfl, h1, h2, h3⟩
    refine ⟨⟨k, rfl, h1, h2⟩, fun x hx => ?_⟩
    obtain ⟨j, rfl, hj, hq⟩ := dcA_mem.1 hx
    simpa using h3 j hj hq
/-- what is said by a rule -/
def sayF (s : Sch) (x : Int) : Int := (s.rs.getD x.toNat r0).say
theorem clB_iff {s : Sch} {l : List Int} : clB s l = true ↔ ∃ x ∈ l, sayF s x ≠ sayF s (l.getD 0 0) := by
  unfold clB sayF
  rw [anyTo_iff]
  constructor
  · rintro ⟨k, hk, h⟩
    have e : l.getD k 0 = l[k] := by rw [List.getD_eq_getElem?_getD, List.getElem?_eq_getElem hk]; rfl
    rw [e] at h
    exact ⟨_, List.getElem_mem hk, by simpa using h⟩
  · rintro ⟨x, hx, h⟩
    obtain ⟨k, hk, rfl⟩ := List.getElem_of_mem hx
    refine ⟨k, hk, ?_⟩
    have e : l.getD k 0 = l[k] := by rw [List.getD_eq_getElem?_getD, List.getElem?_eq_getElem hk]; rfl
    rw [e]
    simpa using h
theorem dcF_cases (s : Sch) (st : Nat → Nat → Nat) (c : List Int) (q : Int) :
    (dcB s st c q = [] ∧ dcF s st c q = (0, 7, [])) ∨ (dcB s st c q ≠ [] ∧ (∃ x ∈ dcB s st c q, sayF s x ≠ sayF s ((dcB s st c q).getD 0 0)) ∧ dcF s st c q = (0, 110, [])) ∨
      (dcB s st c q ≠ [] ∧ (∀ x ∈ dcB s st c q, sayF s x = sayF s ((dcB s st c q).getD 0 0)) ∧ dcF s st c q = (sayF s ((dcB s st c q).getD 0 0), 0, dcB s st c q)) := by
  unfold dcF
  by_cases h : (dcB s st c q).length = 0
  · rw [if_pos h]
    exact .inl ⟨List.length_eq_zero_iff.1 h, rfl⟩
  · rw [if_neg h]
    have hne : dcB s st c q ≠ [] := fun e => h (by rw [e]; rfl)
    right
    rcases h2 : clB s (dcB s st c q) with _ | _
    · right
      refine ⟨hne, fun x hx => ?_, rfl⟩
      rcases Classical.em (sayF s x = sayF s ((dcB s st c q).getD 0 0)) with h3 | h3
      · exact h3
      · rw [clB_iff.2 ⟨x, hx, h3⟩] at h2
        cases h2
    · exact .inl ⟨hne, clB_iff.1 h2, rfl⟩
theorem dcF_len (s : Sch) (st : Nat → Nat → Nat) (c : List Int) (q : Int) : (dcF s st c q).2.2.length ≤ s.rs.length := by
  rcases dcF_cases s st c q with ⟨-, h⟩ | ⟨-, -, h⟩ | ⟨-, -, h⟩ <;> rw [h]
  · exact Nat.zero_le _
  · exact Nat.zero_le _
  · exact Nat.le_trans (List.length_filter_le _ _) (apF_len _ _)
theorem decR_len (s : Sch) (c : List Int) (q : Int) : (decR s c q).2.2.length ≤ s.rs.length := by
  unfold decR
  split
  · split
    · split
      · exact dcF_len _ _ _ _
      · exact Nat.zero_le _
    · exact Nat.zero_le _
  · exact Nat.zero_le _
theorem decR_ok {s : Sch} {c : List Int} {q : Int} (hs : schB s = true) (hq : 0 ≤ q ∧ q ≤ s.q - 1) (hc : icB s.fs c = true) : decR s c q = dcF s (stF s) c q := by
  unfold decR
  rw [if_pos hs, if_pos hq, if_pos hc]
theorem dcF_old {s : Sch} {st : Nat → Nat → Nat} {c : List Int} {q : Int} (h : (dcF s st c q).2.1 = 0) : (dcF s st c q).2.2 ≠ [] := by
  rcases dcF_cases s st c q with ⟨-, h2⟩ | ⟨-, -, h2⟩ | ⟨h1, -, h2⟩
  · rw [h2] at h; cases h
  · rw [h2] at h; cases h
  · rw [h2]; exact h1
end Go.Proofs.YtfbnpiafoaoddaaDoor
/- School, plain: what a rule for one case alone decides. -/
namespace Go.Proofs.YtfbnpiafoaoddaaDoor
open Go Go.RowKit Go.Shelf
set_option maxHeartbeats 4000000
set_option maxRecDepth 100000
theorem sp_same (a : Nat → Nat) : spc a a = false := by
  unfold spc
  rw [eqS_iff.2 fun _ _ => rfl]
  rfl
theorem eq_of_in {a b : Nat → Nat} (ha : ∀ k, a k < 65536) (hb : ∀ k, b k < 65536) (h1 : inTo a b 5 = true) (h2 : inTo b a 5 = true) : ∀ j, j < 5 → a j = b j := by
  rw [in_iff ha hb] at h1
  rw [in_iff hb ha] at h2
  intro j hj
  refine Nat.eq_of_testBit_eq fun i => ?_
  rw [Bool.eq_iff_iff]
  exact ⟨h1 j hj i, h2 j hj i⟩
theorem sp_anti {a b : Nat → Nat} (ha : ∀ k, a k < 65536) (hb : ∀ k, b k < 65536) (h : spc a b = true) : spc b a = false := by
  unfold spc at h ⊢
  rw [Bool.and_eq_true] at h
  rw [Bool.and_eq_false_iff]
  right
  rw [← Bool.not_eq_true]
  intro h2
  rw [eqS_iff.2 (eq_of_in ha hb h.2 h2)] at h
  simp at h
theorem st_lt {s : Sch} (hs : schB s = true) (k j : Nat) : stF s k j < 65536 := by
  rcases st_shape hs k with h | ⟨-, h2, h3⟩
  · rw [h]; decide
  · rcases Nat.lt_or_ge j s.fs.length with hj | hj
    · have h4 := fsB_at (schB_ok hs).fs j hj
      have h5 : stF s k j < 2 ^ 4 := Nat.lt_pow_two_of_testBit _ fun i hi => by
        rw [← Bool.not_eq_true]
        intro h6
        have := h3 j i h6
        omega
      omega
    · rw [h2 j hj]; decide
theorem pt_in {s : Sch} (hs : schB s = true) {c : List Int} (hc : icB s.fs c = true) {k : Nat} (h : hsB (stF s k) c = true) : inTo (ptF c) (stF s k) 5 = true := by
  rw [in_iff (pt_small (schB_ok hs).fs hc) (st_lt hs k)]
  rw [has_iff (st_lt hs k)] at h
  intro j _ i hi
  obtain ⟨h1, rfl⟩ := (pt_bit _ _ _).1 hi
  exact h j h1
/-- no rule that applies in a case is more special than the one for this case alone -/
theorem not_sp_pt {s : Sch} (hs : schB s = true) {c : List Int} (hc : icB s.fs c = true) {k : Nat} (h : hsB (stF s k) c = true) : spc (stF s k) (ptF c) = false := by
  unfold spc
  rw [Bool.and_eq_false_iff]
  rcases h2 : inTo (stF s k) (ptF c) 5 with _ | _
  · exact .inr rfl
  · left
    rw [eqS_iff.2 (eq_of_in (st_lt hs k) (pt_small (schB_ok hs).fs hc) h2 (pt_in hs hc h))]
    rfl
/-- a rule that applies in a case is beaten by the one for this case alone, if it asks for more -/
theorem pt_eq {s : Sch} (hs : schB s = true) {c : List Int} (hc : icB s.fs c = true) {k : Nat} (h : hsB (stF s k) c = true) (h2 : spc (ptF c) (stF s k) = false) : ∀ j, j < 5 → stF s k j = ptF c j := by
  unfold spc at h2
  rw [pt_in hs hc h, Bool.and_true] at h2
  have h3 : eqS (ptF c) (stF s k) = true := by simpa using h2
  exact fun j hj => (eqS_iff.1 h3 j hj).symm
theorem sp_congr {a a' b b' : Nat → Nat} (h : ∀ j, j < 5 → a j = a' j) (h2 : ∀ j, j < 5 → b j = b' j) : spc a b = spc a' b' := by
  unfold spc eqS inTo
  rw [h 0 (by decide), h 1 (by decide), h 2 (by decide), h 3 (by decide), h 4 (by decide), h2 0 (by decide), h2 1 (by decide), h2 2 (by decide), h2 3 (by decide), h2 4 (by decide)]
  congr 1
  rw [decide_eq_decide]
  exact ⟨fun h3 k hk => by rw [← h k hk, ← h2 k hk]; exact h3 k hk, fun h3 k hk => by rw [h k hk, h2 k hk]; exact h3 k hk⟩
/-- THE SPECIAL PREVAILS -/
theorem prevails {s : Sch} (hs : schB s = true) (hn : s.rs.length ≤ 11) {c : List Int} (hc : icB s.fs c = true) {a y : Int} (ha : 0 ≤ a ∧ a ≤ s.q - 1) (hy : 0 ≤ y ∧ y ≤ 999) :
    ((decR (plusR s (oneR c a y)) c a).2.1 = 0 ∧ (decR (plusR s (oneR c a y)) c a).1 = y ∧ ∃ l, (decR (plusR s (oneR c a y)) c a).2.2 = l ++ [(s.rs.length : Int)]) ∨
      ((decR (plusR s (oneR c a y)) c a).2.1 = 110 ∧ (decR s c a).2.1 ≠ 7 ∧ ((decR s c a).2.1 = 0 → (decR s c a).1 ≠ y)) := by
  have hf := (schB_ok hs).fs
  have ht := plus_ok hs hn (one_rl hs hc ha hy)
  obtain ⟨t, htt⟩ : ∃ t, plusR s (oneR c a y) = t := ⟨_, rfl⟩
  have hlen : t.rs.length = s.rs.length + 1 := by rw [← htt]; exact plus_len
  have hold : ∀ k, k < s.rs.length → t.rs.getD k r0 = s.rs.getD k r0 := fun k hk => by rw [← htt]; exact plus_old hk
  have hnew : t.rs.getD s.rs.length r0 = oneR c a y := by rw [← htt]; exact plus_new
  have hso : ∀ k, k < s.rs.length → stF t k = stF s k := fun k hk => by rw [← htt]; exact plus_st hk
  have hsn : stF t s.rs.length = ptF c := by rw [← htt]; exact plus_stn hs hc a y
  have htq : t.q = s.q := by rw [← htt]; rfl
  have htf : t.fs = s.fs := by rw [← htt]; rfl
  rw [htt] at ht ⊢
  rw [decR_ok ht (by rw [htq]; exact ha) (by rw [htf]; exact hc), decR_ok hs ha hc]
  have hap : apQ t (stF t) c a s.rs.length = true := by
    unfold apQ
    rw [hnew, hsn, (pt_has hf hc hc).2 rfl]
    simp [oneR]
  have hapo : ∀ k, k < s.rs.length → apQ t (stF t) c a k = apQ s (stF s) c a k := fun k hk => by
    unfold apQ
    rw [hold k hk, hso k hk]
  have hhas : ∀ k, apQ s (stF s) c a k = true → hsB (stF s k) c = true := fun k h => by
    unfold apQ at h
    rw [Bool.and_eq_true] at h
    exact h.2
  -- the new rule decides
  have hlast : ∃ l, dcB t (stF t) c a = l ++ [(s.rs.length : Int)] := by
    have e : dcA t (stF t) c a = apF (apQ t (stF t) c a) s.rs.length ++ [(s.rs.length : Int)] := by
      show apF (apQ t (stF t) c a) t.rs.length = _
      rw [hlen]
      show (if apQ t (stF t) c a s.rs.length then _ else _) = _
      rw [if_pos hap]
    have htop : topB (stF t) (dcA t (stF t) c a) (s.rs.length : Int) = true := by
      rw [top_iff]
      intro x hx
      obtain ⟨k, rfl, h1, h2⟩ := dcA_mem.1 hx
      rw [Int.toNat_natCast, Int.toNat_natCast, hsn]
      rcases (by omega : k < s.rs.length ∨ k = s.rs.length) with h3 | h3
      · rw [hso k h3]
        exact not_sp_pt hs hc (hhas k (by rw [← hapo k h3]; exact h2))
      · rw [h3, hsn]
        exact sp_same _
    unfold dcB
    rw [e] at htop ⊢
    rw [List.filter_append]
    exact ⟨_, by rw [show List.filter (topB (stF t) (apF (apQ t (stF t) c a) s.rs.length ++ [(s.rs.length : Int)])) [(s.rs.length : Int)] = [(s.rs.length : Int)] from by
      rw [List.filter_cons, if_pos htop]; rfl]⟩
  have hmem : (s.rs.length : Int) ∈ dcB t (stF t) c a := by
    obtain ⟨l, hl⟩ := hlast
    rw [hl]; simp
  have hsay : sayF t (s.rs.length : Int) = y := by
    unfold sayF
    rw [Int.toNat_natCast, hnew]
    rfl
  rcases dcF_cases t (stF t) c a with ⟨h1, -⟩ | ⟨-, ⟨x, hx, hne⟩, h2⟩ | ⟨-, h1, h2⟩
  · rw [h1] at hmem; cases hmem
  · right
    refine ⟨by rw [h2], ?_⟩
    -- somebody else asks for this case alone
    have hz : ∃ z ∈ dcB t (stF t) c a, sayF t z ≠ y := by
      by_cases e : sayF t x = y
      · refine ⟨(dcB t (stF t) c a).getD 0 0, ?_, fun e2 => hne (by rw [e, e2])⟩
        rw [List.getD_eq_getElem?_getD]
        obtain ⟨l, hl⟩ := hlast
        have h0 : 0 < (dcB t (stF t) c a).length := by rw [hl]; simp
        rw [List.getElem?_eq_getElem h0]
        exact List.getElem_mem h0
      · exact ⟨x, hx, e⟩
    obtain ⟨z, hz, hzy⟩ := hz
    obtain ⟨k, rfl, hk, hq, hb⟩ := dcB_mem.1 hz
    have hkn : k < s.rs.length := by
      rcases (by omega : k < s.rs.length ∨ k = s.rs.length) with h3 | h3
      · exact h3
      · rw [h3] at hzy; exact absurd hsay hzy
    have hqs : apQ s (stF s) c a k = true := by rw [← hapo k hkn]; exact hq
    have hkk := hhas k hqs
    have hbn := hb s.rs.length (by omega) hap
    rw [hsn, hso k hkn] at hbn
    have hse := pt_eq hs hc hkk hbn
    have hin : (k : Int) ∈ dcB s (stF s) c a := by
      refine dcB_mem.2 ⟨k, rfl, hkn, hqs, fun j hj hjq => ?_⟩
      rw [sp_congr (b := stF s k) (b' := ptF c) (fun _ _ => rfl) hse]
      exact not_sp_pt hs hc (hhas j hjq)
    have hsk : sayF s (k : Int) ≠ y := by
      intro e
      apply hzy
      rw [← e]
      unfold sayF
      rw [Int.toNat_natCast, hold k hkn]
    rcases dcF_cases s (stF s) c a with ⟨h3, -⟩ | ⟨-, -, h4⟩ | ⟨-, h3, h4⟩
    · rw [h3] at hin; cases hin
    · rw [h4]; exact ⟨by decide, fun h => absurd h (by decide)⟩
    · rw [h4]
      refine ⟨fun h => absurd (show (0 : Int) = 7 from h) (by decide), fun _ => ?_⟩
      show sayF s _ ≠ y
      rw [← h3 _ hin]
      exact hsk
  · left
    rw [h2]
    refine ⟨rfl, ?_, hlast⟩
    show sayF t _ = y
    rw [← h1 _ hmem]
    exact hsay
/-- where it does not apply nothing changes -/
theorem prevails_other {s : Sch} (hs : schB s = true) (hn : s.rs.length ≤ 11) {c d : List Int} (hc : icB s.fs c = true) (hd : icB s.fs d = true) (hne : c ≠ d) {a y : Int} (ha : 0 ≤ a ∧ a ≤ s.q - 1) (hy : 0 ≤ y ∧ y ≤ 999) :
    decR (plusR s (oneR c a y)) d a = decR s d a := by
  have hf := (schB_ok hs).fs
  have ht := plus_ok hs hn (one_rl hs hc ha hy)
  obtain ⟨t, htt⟩ : ∃ t, plusR s (oneR c a y) = t := ⟨_, rfl⟩
  have hlen : t.rs.length = s.rs.length + 1 := by rw [← htt]; exact plus_len
  have hold : ∀ k, k < s.rs.length → t.rs.getD k r0 = s.rs.getD k r0 := fun k hk => by rw [← htt]; exact plus_old hk
  have hso : ∀ k, k < s.rs.length → stF t k = stF s k := fun k hk => by rw [← htt]; exact plus_st hk
  have hsn : stF t s.rs.length = ptF c := by rw [← htt]; exact plus_stn hs hc a y
  have htq : t.q = s.q := by rw [← htt]; rfl
  have htf : t.fs = s.fs := by rw [← htt]; rfl
  rw [htt] at ht ⊢
  rw [decR_ok ht (by rw [htq]; exact ha) (by rw [htf]; exact hd), decR_ok hs ha hd]
  have hap : apQ t (stF t) d a s.rs.length = false := by
    unfold apQ
    rw [hsn, Bool.and_eq_false_iff]
    right
    rw [← Bool.not_eq_true, pt_has hf hc hd]
    exact hne
  have hA : dcA t (stF t) d a = dcA s (stF s) d a := by
    show apF (apQ t (stF t) d a) t.rs.length = apF (apQ s (stF s) d a) s.rs.length
    rw [hlen]
    show (if apQ t (stF t) d a s.rs.length then _ else _) = _
    rw [hap, if_neg (by decide)]
    refine apF_congr _ fun k hk => ?_
    unfold apQ
    rw [hold k hk, hso k hk]
  have hB : dcB t (stF t) d a = dcB s (stF s) d a := by
    unfold dcB
    rw [hA]
    refine List.filter_congr fun x hx => ?_
    obtain ⟨k, rfl, hk, -⟩ := dcA_mem.1 hx
    rw [Bool.eq_iff_iff, top_iff, top_iff, Int.toNat_natCast, hso k hk]
    constructor
    · intro h z hz
      obtain ⟨j, rfl, hj, -⟩ := dcA_mem.1 hz
      have := h _ hz
      rw [Int.toNat_natCast] at this ⊢
      rwa [hso j hj] at this
    · intro h z hz
      obtain ⟨j, rfl, hj, -⟩ := dcA_mem.1 hz
      have := h _ hz
      rw [Int.toNat_natCast] at this ⊢
      rwa [hso j hj]
  have hsay : ∀ x ∈ dcB s (stF s) d a, sayF t x = sayF s x := fun x hx => by
    obtain ⟨k, rfl, hk, -⟩ := dcB_mem.1 hx
    unfold sayF
    rw [Int.toNat_natCast, hold k hk]
  have h0 : dcB s (stF s) d a ≠ [] → (dcB s (stF s) d a).getD 0 0 ∈ dcB s (stF s) d a := fun h => by
    rw [List.getD_eq_getElem?_getD]
    have h1 : 0 < (dcB s (stF s) d a).length := List.length_pos_iff.2 h
    rw [List.getElem?_eq_getElem h1]
    exact List.getElem_mem h1
  rcases dcF_cases t (stF t) d a with ⟨h1, h2⟩ | ⟨h1, ⟨x, hx, h3⟩, h2⟩ | ⟨h1, h3, h2⟩ <;> rw [hB] at h1
  · rcases dcF_cases s (stF s) d a with ⟨g1, g2⟩ | ⟨g1, g3, g2⟩ | ⟨g1, g3, g2⟩
    · rw [h2, g2]
    · exact absurd h1 g1
    · exact absurd h1 g1
  · rw [hB] at hx h3
    rcases dcF_cases s (stF s) d a with ⟨g1, g2⟩ | ⟨g1, g3, g2⟩ | ⟨g1, g3, g2⟩
    · exact absurd g1 h1
    · rw [h2, g2]
    · rw [hsay x hx, hsay _ (h0 h1)] at h3
      exact absurd (g3 x hx) h3
  · rw [hB] at h3
    rcases dcF_cases s (stF s) d a with ⟨g1, g2⟩ | ⟨g1, ⟨x, hx, g3⟩, g2⟩ | ⟨g1, g3, g2⟩
    · exact absurd g1 h1
    · have := h3 x hx
      rw [hsay x hx, hsay _ (h0 h1)] at this
      exact absurd this g3
    · rw [h2, g2, hB, hsay _ (h0 h1)]
end Go.Proofs.YtfbnpiafoaoddaaDoor
/- School, plain: where a rule applies a school is not silent. -/
namespace Go.Proofs.YtfbnpiafoaoddaaDoor
open Go Go.RowKit Go.Shelf
set_option maxHeartbeats 4000000
set_option maxRecDepth 100000
theorem sp_trans {a b c : Nat → Nat} (ha : ∀ k, a k < 65536) (hb : ∀ k, b k < 65536) (hc : ∀ k, c k < 65536) (h1 : spc a b = true) (h2 : spc b c = true) : spc a c = true := by
  unfold spc at h1 h2 ⊢
  rw [Bool.and_eq_true] at h1 h2 ⊢
  have i1 := (in_iff ha hb 5).1 h1.2
  have i2 := (in_iff hb hc 5).1 h2.2
  have i3 : inTo a c 5 = true := (in_iff ha hc 5).2 fun k hk i hi => i2 k hk i (i1 k hk i hi)
  refine ⟨?_, i3⟩
  rw [Bool.not_eq_true', ← Bool.not_eq_true]
  intro h
  have he := eqS_iff.1 h
  have h3 : eqS a b = true := eqS_iff.2 (eq_of_in ha hb h1.2 ((in_iff hb ha 5).2 fun k hk i hi => by rw [he k hk]; exact i2 k hk i hi))
  rw [h3] at h1
  simp at h1
theorem has_min {s : Sch} (hs : schB s = true) : ∀ l : List Int, l ≠ [] → ∃ x ∈ l, ∀ y ∈ l, spc (stF s y.toNat) (stF s x.toNat) = false
  | [], h => absurd rfl h
  | [x], _ => ⟨x, by simp, fun y hy => by rw [List.mem_singleton.1 hy]; exact sp_same _⟩
  | x :: z :: l, _ => by
    obtain ⟨m, hm, h⟩ := has_min hs (z :: l) (by simp)
    rcases hx : spc (stF s x.toNat) (stF s m.toNat) with _ | _
    · refine ⟨m, List.mem_cons_of_mem _ hm, fun y hy => ?_⟩
      rcases List.mem_cons.1 hy with rfl | hy
      · exact hx
      · exact h y hy
    · refine ⟨x, by simp, fun y hy => ?_⟩
      rcases List.mem_cons.1 hy with rfl | hy
      · exact sp_same _
      · rw [← Bool.not_eq_true]
        intro h2
        have h3 := sp_trans (st_lt hs _) (st_lt hs _) (st_lt hs _) h2 hx
        rw [h y hy] at h3
        cases h3
theorem dcB_some {s : Sch} (hs : schB s = true) {c : List Int} {q : Int} (h : dcA s (stF s) c q ≠ []) : dcB s (stF s) c q ≠ [] := by
  obtain ⟨x, hx, hm⟩ := has_min hs _ h
  intro e
  have h2 : x ∈ dcB s (stF s) c q := List.mem_filter.2 ⟨hx, top_iff.2 hm⟩
  rw [e] at h2
  cases h2
/-- where a rule applies, something is said, or different things -/
theorem dcF_sure {s : Sch} (hs : schB s = true) {c : List Int} {q : Int} {k : Nat} (hk : k < s.rs.length) (h : apQ s (stF s) c q k = true) : (dcF s (stF s) c q).2.1 = 0 ∨ (dcF s (stF s) c q).2.1 = 110 := by
  have hne : dcB s (stF s) c q ≠ [] := dcB_some hs fun e => by
    have h2 := dcA_mem.2 ⟨k, rfl, hk, h⟩
    rw [e] at h2
    cases h2
  rcases dcF_cases s (stF s) c q with ⟨h1, -⟩ | ⟨-, -, h2⟩ | ⟨-, -, h2⟩
  · exact absurd h1 hne
  · rw [h2]; exact .inr rfl
  · rw [h2]; exact .inl rfl
/-- what is said is 0 to 999 -/
theorem dcF_range {s : Sch} (hs : schB s = true) (c : List Int) (q : Int) : 0 ≤ (dcF s (stF s) c q).1 ∧ (dcF s (stF s) c q).1 ≤ 999 := by
  rcases dcF_cases s (stF s) c q with ⟨-, h2⟩ | ⟨-, -, h2⟩ | ⟨hne, -, h2⟩
  · rw [h2]; exact ⟨by decide, by decide⟩
  · rw [h2]; exact ⟨by decide, by decide⟩
  · rw [h2]
    have h0 : (dcB s (stF s) c q).getD 0 0 ∈ dcB s (stF s) c q := by
      rw [List.getD_eq_getElem?_getD]
      have h1 : 0 < (dcB s (stF s) c q).length := List.length_pos_iff.2 hne
      rw [List.getElem?_eq_getElem h1]
      exact List.getElem_mem h1
    obtain ⟨k, e, hk, -⟩ := dcB_mem.1 h0
    show 0 ≤ sayF s _ ∧ sayF s _ ≤ 999
    rw [e]
    unfold sayF
    rw [Int.toNat_natCast]
    have h3 := rule_ok hs (mem_at hk)
    unfold rlB at h3
    rw [Bool.and_eq_true, Bool.and_eq_true, Bool.and_eq_true] at h3
    exact of_decide_eq_true h3.2.2.1
/-- a rule without tests applies in each case -/
theorem all_ap {s : Sch} (hs : schB s = true) (hi : ScI s) {c : List Int} (hc : icB s.fs c = true) {k : Nat} (hk : k < s.rs.length) {q : Int} (hq : (s.rs.getD k r0).ask = q) (hw : (s.rs.getD k r0).when_ = []) : apQ s (stF s) c q k = true := by
  unfold apQ
  rw [has_ap hs hi hk hc, hq]
  unfold apB
  rw [hw]
  simp
/-- a case of two features with three choices -/
theorem case3 : ∀ c : Nat, c < 9 → clL [3, 3] c = [((c / 3 : Nat) : Int), ((c % 3 : Nat) : Int)] := by decide
end Go.Proofs.YtfbnpiafoaoddaaDoor
