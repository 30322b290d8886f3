/- School: a range over a function that writes cells of its own between two rounds (the kit's laws know iterators that turn no cells). -/
import Derived.Test.YtmpegkojencbjaaDoorMergesG
import Derived.RangeFuncFrom
import Derived.RangeFuncNested
import Derived.RangeFuncBound
import Derived.RangeFuncCalls
import Derived.RangeFuncLeaves
import Derived.Shelf.Abstract
import Derived.Shelf.RegionOpen
import Derived.OwnWalkIn
import Derived.TacticsInMore
import Derived.LoopNIn
import Derived.LoopIn
set_option linter.unusedSimpArgs false
set_option linter.unusedVariables false
set_option linter.unnecessarySimpa false
namespace Go.Proofs.YtmpegkojencbjaaDoor
open Go Go.RowKit Go.Shelf
set_option maxHeartbeats 2000000
set_option maxRecDepth 100000
/-- all cells stay as they are -/
structure KC (W W' : World) : Prop where
  size : W.heap.size ≤ W'.heap.size
  block : ∀ (k : Nat) (o : Obj), W.heap[k]? = some o → o.isCells = true → W'.heap[k]? = some o
theorem KC.refl (W : World) : KC W W := ⟨Nat.le_refl _, fun _ _ h _ => h⟩
theorem KC.trans {A B C : World} (h : KC A B) (h2 : KC B C) : KC A C := ⟨Nat.le_trans h.size h2.size, fun k o h3 h4 => h2.block k o (h.block k o h3 h4) h4⟩
theorem KC.of_below {W W' : World} (h : Below W.heap.size W W') : KC W W' := ⟨h.size, fun k o h3 _ => by
  rw [h.block k (by
    rcases Nat.lt_or_ge k W.heap.size with hl | hl
    · exact hl
    · rw [Array.getElem?_eq_none hl] at h3; cases h3)]
  exact h3⟩
theorem KC.putObj (W : World) (l : Nat) (o o' : Obj) (h : W.heap[l]? = some o) (ho : o.isCells = false) : KC W (W.putObj l o') := ⟨by simp, fun k x h3 h4 => by
  have hk : k ≠ l := fun e => by rw [e, h] at h3; cases h3; rw [ho] at h4; cases h4
  exact (World.putObj_heap_other hk).trans h3⟩
theorem KC.blk {W W' : World} (h : KC W W') {g : Nat} {t : TypeId} {cs : Array Value} (hb : Blk W g t cs) : Blk W' g t cs := h.block g _ hb rfl
theorem KC.cell {W W' : World} (h : KC W W') {p : Addr} {v : Value} (hc : W.cell? p = some v) : W'.cell? p = some v := by
  unfold World.cell? at hc ⊢
  cases ho : W.heap[p.block]? with
  | none => rw [ho] at hc; simp at hc
  | some o =>
    rw [ho] at hc
    cases o with
    | cells cs t st => rw [h.block p.block _ ho rfl]; exact hc
    | _ => simp at hc
/-- it stands where blocks from B on are written -/
def AbM {β : Type} (B : Nat) (J : β → World → Prop) : Prop :=
  ∀ s W W' row, J s W → W.grownBy W' row → (∀ r, row = some r → B ≤ r) → J s W'
theorem AbM.putObj {β : Type} {B : Nat} {I : β → World → Prop} (h : AbM B I) {s : β} {W : World} {l : Nat} (o' : Obj) (hs : I s W) (hB : B ≤ l) : I s (W.putObj l o') :=
  h s W _ (some l) hs (grownBy_putObj' W l o') (fun r e => by cases e; exact hB)
theorem AbM.alloc {β : Type} {B : Nat} {I : β → World → Prop} (h : AbM B I) {s : β} {W : World} (o : Obj) (hs : I s W) : I s (W.alloc o) :=
  h s W _ none hs (World.grownBy_alloc W o none) (fun r e => by cases e)
/-- what such an iterator's call does, at whatever yield: R holds of each x where it comes; the round leaves cells alone -/
def SeqMem {α : Type} (F : Fence) (n : Nat) (P : Program) (g : Nat) (lb : Array Value) (encs : α → Array Value) (R : α → World → Prop) (S Sp : List α → Prop) (N : Nat) (w : World) : Prop :=
  ∀ (l : Nat) (J Jx : List α → World → Prop) (W : World), Below w.heap.size w W → AbM W.heap.size J →
    (∀ pre x W1, J pre W1 → R x W1 → pre.length < N → YieldAt F (n - 1) P l (encs x) W1 fun e W' =>
      (e = .returned (.bool true) ∧ J (pre ++ [x]) W' ∧ KC W1 W') ∨ (e = .returned (.bool false) ∧ Jx (pre ++ [x]) W')) →
    J [] W →
    CallsIn F n P g (#[.func (.yield l) #[] #[]] ++ lb) W fun e W' => (∃ v, e = .returned v) ∧ ((∃ xs, S xs ∧ J xs W') ∨ (∃ pre, Sp pre ∧ Jx pre W'))
variable {F : Fence} {n : Nat} {P : Program}
theorem wpIn_rangeFunc_mem {α : Type} {g : Operand} {ps : Array Tmp} {assign body : Code} {Q : Exit → Act → World → Prop} {a : Act} {w : World}
    (hro : F.round = none) (h1 : 1 ≤ n) {gf : Nat} {lb : Array Value} (hg : a.eval g = .func (.func gf) #[] lb) (hFg : F.fn gf) (eg : ∀ args w, (callFunc gf args).run P w = .ok (.enter gf args) w)
    {encs : α → Array Value} {R : α → World → Prop} {S Sp : List α → Prop} {N : Nat} {w0 : World} (hseq : SeqMem F (n - 1) P gf lb encs R S Sp N w0) (hRK : ∀ x W W', R x W → KC W W' → R x W')
    (hb0 : Below w0.heap.size w0 w) (hps : ∀ x, (encs x).size = ps.size)
    (I : List α → World → Prop) (Ix : Code → List α → World → Prop) (hI : AbM w.heap.size I) (hIx : ∀ c, OwnFrom w.heap.size (Ix c)) (h0 : I [] w) (a₁ : α → Act)
    (hassign : ∀ (l : Nat) (x : α) (W : World) (K : Act → World → Prop), K (a₁ x) W →
      assign.wpIn (F.inRound l) (n - 1 - 1) P (Exit.then K (fun _ _ _ => False)) { tmps := (ps.zip (encs x)).foldl (fun t (p, v) => t.setIfInBounds p v) a.tmps, defers := [] } W)
    (hbody : ∀ (l : Nat) (pre : List α) (x : α) (W : World), I pre W → R x W → pre.length < N → body.wpIn (F.inRound l) (n - 1 - 1) P (ownPostK KC I Ix (pre ++ [x]) W) (a₁ x) W)
    (hdone : ∀ (D : Nat) (xs : List α) (W : World), w.heap.size ≤ D → S xs → I xs W → W.heap[D]? = some (.deferred (some [])) → Q .normal { a with defers := { target := .collected D, args := #[] } :: a.defers } W)
    (hstop : ∀ (D : Nat) (c : Code) (pre : List α) (W : World), w.heap.size ≤ D → Sp pre → Ix c pre W → W.heap[D]? = some (.deferred (some [])) → c.wpIn F n P Q { a with defers := { target := .collected D, args := #[] } :: a.defers } W) :
    (Code.rangeFunc g ps assign body).wpIn F n P Q a w := by
  refine wpIn_rangeFunc ?_
  intro fn hfn
  rw [hro]
  obtain ⟨rec, hrec⟩ : ∃ rec : LoopState → Option Code → Loop, rec = fun st pe => { state := st, pending := pe, fn, tmps := a.tmps, params := ps, assign, body, defers := w.heap.size } := ⟨_, rfl⟩
  obtain ⟨W1, hW1⟩ : ∃ W1, (w.alloc (.deferred (some []))).alloc (.loop (rec .ready none)) = W1 := ⟨_, rfl⟩
  have hsz : W1.heap.size = w.heap.size + 2 := by rw [← hW1]; simp
  have hL1 : W1.heap[w.heap.size + 1]? = some (.loop (rec .ready none)) := by
    rw [← hW1]; have := World.alloc_heap_new (w.alloc (.deferred (some []))) (.loop (rec .ready none)); rwa [World.size_alloc] at this
  have hK1 : W1.heap[w.heap.size]? = some (.deferred (some [])) := by
    rw [← hW1]; exact (Below.heap_alloc _ _ _ (by simp)).trans (World.alloc_heap_new w _)
  have hI1 : I [] W1 := by rw [← hW1]; exact hI.alloc _ (hI.alloc _ h0)
  have hb1 : Below w0.heap.size w0 W1 := by
    rw [← hW1]; exact hb0.trans ((((Below.refl _ w).alloc (Nat.le_refl _) _).alloc (by simp) _).mono hb0.size)
  have hup : ∀ {row : Option Nat}, (∀ r, row = some r → W1.heap.size ≤ r) → ∀ r, row = some r → w.heap.size ≤ r := fun hr r e => by have := hr r e; omega
  have hst : ∀ {A B : World} {row : Option Nat} {k : Nat} {o : Obj}, A.grownBy B row → (∀ r, row = some r → W1.heap.size ≤ r) → k < w.heap.size + 2 → A.heap[k]? = some o → B.heap[k]? = some o := fun {A B row k o} hg hr hk h => by
    refine (hg.block k ?_ (fun e => ?_)).trans h
    · rcases Nat.lt_or_ge k A.heap.size with hl | hl
      · exact hl
      · rw [Array.getElem?_eq_none hl] at h; cases h
    · have := hr k e.symm; omega
  refine ⟨w.heap.size + 1, [{ target := .collected w.heap.size, args := #[] }], W1, { target := .fn (.func gf) lb, args := #[.func (.yield (w.heap.size + 1)) #[] #[]] }, W1, gf,
    #[.func (.yield (w.heap.size + 1)) #[] #[]] ++ lb, W1, ?_, ?_, ?_, ?_, fun _ => h1, ?_⟩
  · rw [← hW1, hrec]; exact run_enterLoop_outer _ _ _ _ _
  · simp only [resolve, hg]
    simp [go_sem]
  · intro f' hf'; simp [Target.leads] at hf'; subst hf'; exact hFg
  · simp [invoke, go_sem, eg]
  · refine (hseq (w.heap.size + 1)
      (fun pre W => I pre W ∧ W.heap[w.heap.size + 1]? = some (.loop (rec .ready none)) ∧ W.heap[w.heap.size]? = some (.deferred (some [])))
      (fun pre W => ∃ c, Ix c pre W ∧ W.heap[w.heap.size + 1]? = some (.loop (rec .done (some c))) ∧ W.heap[w.heap.size]? = some (.deferred (some [])))
      W1 hb1
      (fun s A B row hs hg' hr => ⟨hI s A B row hs.1 hg' (hup hr), hst hg' hr (by omega) hs.2.1, hst hg' hr (by omega) hs.2.2⟩)
      ?_ ⟨hI1, hL1, hK1⟩).mono ?_
    · rintro pre x W ⟨hi, hl, hk⟩ hRx hlen
      have hlt : w.heap.size + 1 < W.heap.size := (Array.getElem?_eq_some_iff.1 hl).1
      have hy := run_yield (P := P) (args := encs x) hl (by rw [hrec]; exact hps x)
      rw [hrec] at hy
      refine ⟨fn, _, assign, body, hy, roundIn_of_wpIn hfn (hassign _ x W _ ⟨_, run_beginRound hl (by rw [hrec]), ?_⟩)⟩
      have hl2 : (W.putObj (w.heap.size + 1) (.loop { rec .ready none with state := .busy })).heap[w.heap.size + 1]? = some (.loop { rec .ready none with state := .busy }) := World.putObj_heap_same hlt
      have hk2 : (W.putObj (w.heap.size + 1) (.loop { rec .ready none with state := .busy })).heap[w.heap.size]? = some (.deferred (some [])) := (World.putObj_heap_other (by omega)).trans hk
      have hw2 : KC W (W.putObj (w.heap.size + 1) (.loop { rec .ready none with state := .busy })) := KC.putObj _ _ _ _ hl rfl
      refine wpIn_mono (hbody _ pre x _ (hI.putObj _ hi (by omega)) (hRK _ _ _ hRx hw2) hlen) ?_
      have fin : ∀ (jump : Option Code) (W3 : World), KeepsOthers (W.putObj (w.heap.size + 1) (.loop { rec .ready none with state := .busy })) W3 →
          (Instr.endRound (w.heap.size + 1) jump).run P W3 = .ok (.bool jump.isNone) (W3.putObj (w.heap.size + 1) (.loop (rec (if jump.isNone then .ready else .done) jump))) ∧
          W3.heap[w.heap.size + 1]? = some (.loop { rec .ready none with state := .busy }) ∧
          (W3.putObj (w.heap.size + 1) (.loop (rec (if jump.isNone then .ready else .done) jump))).heap[w.heap.size + 1]? = some (.loop (rec (if jump.isNone then .ready else .done) jump)) ∧
          (W3.putObj (w.heap.size + 1) (.loop (rec (if jump.isNone then .ready else .done) jump))).heap[w.heap.size]? = some (.deferred (some [])) := fun jump W3 hk3 => by
        have hl3 := hk3.same _ _ hl2 rfl
        have := run_endRound (P := P) jump hl3
        rw [hrec] at this ⊢
        exact ⟨this, by rw [hrec] at hl3; exact hl3, World.putObj_heap_same (Array.getElem?_eq_some_iff.1 hl3).1, (World.putObj_heap_other (by omega)).trans (hk3.same _ _ hk2 rfl)⟩
      rintro e a3 W3 hp
      cases e with
      | normal =>
        obtain ⟨hk3, hkp3, hi3⟩ := hp
        obtain ⟨hr, hl3, hl4, hk4⟩ := fin none W3 hk3
        exact ⟨_, _, hr, .inl ⟨rfl, ⟨hI.putObj _ hi3 (by omega), hl4, hk4⟩, (hw2.trans hkp3).trans (KC.putObj _ _ _ _ hl3 rfl)⟩⟩
      | ret =>
        obtain ⟨hk3, hi3⟩ := hp
        obtain ⟨hr, hl3, hl4, hk4⟩ := fin (some .ret) W3 hk3
        exact ⟨_, _, hr, .inr ⟨rfl, .ret, (hIx _).putObj _ hi3 (by omega) hl3 rfl, hl4, hk4⟩⟩
      | exit id =>
        obtain ⟨hk3, hi3⟩ := hp
        obtain ⟨hr, hl3, hl4, hk4⟩ := fin (some (.exit id)) W3 hk3
        exact ⟨_, _, hr, .inr ⟨rfl, .exit id, (hIx _).putObj _ hi3 (by omega) hl3 rfl, hl4, hk4⟩⟩
      | goto t =>
        obtain ⟨hk3, hi3⟩ := hp
        obtain ⟨hr, hl3, hl4, hk4⟩ := fin (some (.goto t)) W3 hk3
        exact ⟨_, _, hr, .inr ⟨rfl, .goto t, (hIx _).putObj _ hi3 (by omega) hl3 rfl, hl4, hk4⟩⟩
      | panic ch => exact hp.elim
      | outgrown => exact hp.elim
    · rintro e W2 ⟨⟨v, rfl⟩, (⟨xs, hS, hi, hl, hk⟩ | ⟨pre, hSp, c, hi, hl, hk⟩)⟩
      · exact ⟨none, _, by have := run_endLoop (P := P) hl (by rw [hrec]; simp); rw [hrec] at this; exact this, hdone _ xs _ (Nat.le_refl _) hS (hI.putObj _ hi (by omega)) ((World.putObj_heap_other (by omega)).trans hk)⟩
      · exact ⟨some c, _, by have := run_endLoop (P := P) hl (by rw [hrec]; simp); rw [hrec] at this; exact this, hstop _ c pre _ (Nat.le_refl _) hSp ((hIx c).putObj _ hi (by omega) hl rfl) ((World.putObj_heap_other (by omega)).trans hk)⟩
end Go.Proofs.YtmpegkojencbjaaDoor
/- School, plain: all cases in order, as numbers written in mixed digits. -/
namespace Go.Proofs.YtmpegkojencbjaaDoor
open Go Go.RowKit Go.Shelf
set_option maxHeartbeats 2000000
set_option maxRecDepth 100000
/-- how many choices the n-th feature has -/
def chF (fs : List Int) (n : Nat) : Nat := (fs.getD n 0).toNat
/-- how many cases there are of the first n features -/
def pr (fs : List Int) : Nat → Nat
  | 0 => 1
  | n + 1 => pr fs n * chF fs n
/-- what the k-th case has at j, of the first n features -/
def dg (fs : List Int) : Nat → Nat → Nat → Int
  | 0, _, _ => 0
  | n + 1, k, j => if j = n then ((k % chF fs n : Nat) : Int) else dg fs n (k / chF fs n) j
theorem dg_last (fs : List Int) (n k : Nat) : dg fs (n + 1) k n = ((k % chF fs n : Nat) : Int) := by
  show (if n = n then _ else _) = _; rw [if_pos rfl]
theorem dg_lo (fs : List Int) (n k : Nat) {j : Nat} (h : j ≠ n) : dg fs (n + 1) k j = dg fs n (k / chF fs n) j := by
  show (if j = n then _ else _) = _; rw [if_neg h]
theorem dg_zero (fs : List Int) : ∀ n j, dg fs n 0 j = 0
  | 0, _ => rfl
  | n + 1, j => by
    by_cases h : j = n
    · subst h; rw [dg_last]; simp
    · rw [dg_lo _ _ _ h, Nat.zero_div]; exact dg_zero fs n j
section
variable {fs : List Int}
theorem pr_pos : ∀ {n : Nat}, (∀ j, j < n → 1 ≤ chF fs j) → 1 ≤ pr fs n
  | 0, _ => Nat.le_refl _
  | n + 1, h => by
    have h1 := pr_pos (n := n) (fun j hj => h j (by omega))
    have h2 := h n (by omega)
    exact Nat.mul_pos h1 h2
theorem dg_bd : ∀ {n : Nat} (k : Nat), (∀ j, j < n → 1 ≤ chF fs j) → ∀ j, j < n → 0 ≤ dg fs n k j ∧ dg fs n k j ≤ (chF fs j : Int) - 1
  | 0, _, _, j, hj => by omega
  | n + 1, k, h, j, hj => by
    by_cases e : j = n
    · subst e
      rw [dg_last]
      have := Nat.mod_lt k (h j (by omega))
      omega
    · rw [dg_lo _ _ _ e]
      exact dg_bd (n := n) _ (fun j hj => h j (by omega)) j (by omega)
theorem succ_max {k f : Nat} (hf : 1 ≤ f) (h : k % f = f - 1) : (k + 1) / f = k / f + 1 ∧ (k + 1) % f = 0 := by
  have h1 := Nat.div_add_mod k f
  have h2 : k + 1 = f * (k / f + 1) := by rw [Nat.mul_succ]; omega
  rw [h2]
  exact ⟨by rw [Nat.mul_div_cancel_left _ (by omega)], Nat.mul_mod_right _ _⟩
theorem succ_mid {k f : Nat} (hf : 1 ≤ f) (h : k % f ≠ f - 1) : (k + 1) / f = k / f ∧ (k + 1) % f = k % f + 1 := by
  have h1 := Nat.div_add_mod k f
  have h3 := Nat.mod_lt k hf
  have h2 : k + 1 = f * (k / f) + (k % f + 1) := by omega
  have h4 : k % f + 1 < f := by omega
  have h5 : 0 < f := hf
  constructor
  · rw [h2, Nat.mul_add_div h5, Nat.div_eq_of_lt h4]; simp
  · rw [h2, Nat.mul_add_mod, Nat.mod_eq_of_lt h4]
theorem div_pr {n k : Nat} (hf : 1 ≤ chF fs n) (h : k < pr fs (n + 1)) : k / chF fs n < pr fs n := by
  rw [Nat.div_lt_iff_lt_mul (by omega)]
  exact h
theorem nxt_end : ∀ {n : Nat} {k : Nat}, (∀ j, j < n → 1 ≤ chF fs j) → k < pr fs n → (∀ j, j < n → dg fs n k j = (chF fs j : Int) - 1) → k + 1 = pr fs n
  | 0, k, _, hk, _ => by
    have : pr fs 0 = 1 := rfl
    omega
  | n + 1, k, h, hk, hd => by
    have hf := h n (by omega)
    have h0 := hd n (by omega)
    rw [dg_last] at h0
    have h1 : k % chF fs n = chF fs n - 1 := by omega
    have ih := nxt_end (n := n) (k := k / chF fs n) (fun j hj => h j (by omega)) (div_pr hf hk) (fun j hj => by
      have := hd j (by omega)
      rwa [dg_lo _ _ _ (by omega)] at this)
    have h2 := Nat.div_add_mod k (chF fs n)
    show k + 1 = pr fs n * chF fs n
    rw [← ih, Nat.succ_mul, Nat.mul_comm (k / chF fs n)]
    omega
theorem nxt_some : ∀ {n : Nat} {k i : Nat}, (∀ j, j < n → 1 ≤ chF fs j) → k < pr fs n → i < n → dg fs n k i ≠ (chF fs i : Int) - 1 → (∀ j, i < j → j < n → dg fs n k j = (chF fs j : Int) - 1) →
    k + 1 < pr fs n ∧ ∀ j, j < n → dg fs n (k + 1) j = if j < i then dg fs n k j else if j = i then dg fs n k i + 1 else 0
  | 0, k, i, _, _, hi, _, _ => by omega
  | n + 1, k, i, h, hk, hi, hne, hd => by
    have hf := h n (by omega)
    have hdv := div_pr hf hk
    by_cases e : i = n
    · subst e
      rw [dg_last] at hne
      have h1 : k % chF fs i ≠ chF fs i - 1 := by omega
      obtain ⟨h2, h3⟩ := succ_mid hf h1
      refine ⟨?_, fun j hj => ?_⟩
      · have h4 : (k + 1) / chF fs i < pr fs i := by rw [h2]; exact hdv
        rw [Nat.div_lt_iff_lt_mul (by omega)] at h4
        exact h4
      · by_cases ej : j = i
        · subst ej
          rw [if_neg (by omega), if_pos rfl, dg_last, dg_last, h3]
          simp
        · rw [if_pos (by omega), dg_lo _ _ _ ej, dg_lo _ _ _ ej, h2]
    · have h0 := hd n (by omega) (by omega)
      rw [dg_last] at h0
      have h1 : k % chF fs n = chF fs n - 1 := by omega
      obtain ⟨h2, h3⟩ := succ_max hf h1
      rw [dg_lo _ _ _ e] at hne
      obtain ⟨h4, h5⟩ := nxt_some (n := n) (k := k / chF fs n) (i := i) (fun j hj => h j (by omega)) hdv (by omega) hne (fun j h6 h7 => by
        have := hd j h6 (by omega)
        rwa [dg_lo _ _ _ (by omega)] at this)
      refine ⟨?_, fun j hj => ?_⟩
      · have h6 : (k + 1) / chF fs n < pr fs n := by rw [h2]; exact h4
        rw [Nat.div_lt_iff_lt_mul (by omega)] at h6
        exact h6
      · by_cases ej : j = n
        · subst ej
          rw [if_neg (by omega), if_neg (by omega), dg_last, h3]
          rfl
        · rw [dg_lo _ _ _ ej, h2, h5 j (by omega)]
          by_cases e1 : j < i
          · rw [if_pos e1, if_pos e1, dg_lo _ _ _ ej]
          · rw [if_neg e1, if_neg e1, dg_lo _ _ _ e]
/-- the number of a case -/
def vl (fs : List Int) (c : Nat → Int) : Nat → Nat
  | 0 => 0
  | n + 1 => vl fs c n * chF fs n + (c n).toNat
theorem vl_congr (c c' : Nat → Int) : ∀ n, (∀ j, j < n → c j = c' j) → vl fs c n = vl fs c' n
  | 0, _ => rfl
  | n + 1, h => by
    show vl fs c n * _ + (c n).toNat = vl fs c' n * _ + (c' n).toNat
    rw [vl_congr c c' n (fun j hj => h j (by omega)), h n (by omega)]
theorem vl_dg : ∀ {n k : Nat}, (∀ j, j < n → 1 ≤ chF fs j) → k < pr fs n → vl fs (dg fs n k) n = k
  | 0, k, _, hk => by
    have : pr fs 0 = 1 := rfl
    show 0 = k
    omega
  | n + 1, k, h, hk => by
    have hf := h n (by omega)
    have ih := vl_dg (n := n) (k := k / chF fs n) (fun j hj => h j (by omega)) (div_pr hf hk)
    show vl fs (dg fs (n + 1) k) n * chF fs n + (dg fs (n + 1) k n).toNat = k
    rw [vl_congr (dg fs (n + 1) k) (dg fs n (k / chF fs n)) n (fun j hj => dg_lo _ _ _ (by omega)), ih, dg_last]
    have h2 := Nat.div_add_mod k (chF fs n)
    rw [Nat.mul_comm]
    omega
end
end Go.Proofs.YtmpegkojencbjaaDoor
/- School: the iterator over all cases. -/
namespace Go.Proofs.YtmpegkojencbjaaDoor
open List renaming getElem_toArray → glA, getElem_cons_zero → glB, getElem_cons_succ → glC, setIfInBounds_toArray → glD, set_cons_zero → glE, set_cons_succ → glF
open Go Go.RowKit Go.Shelf
attribute [local go_sem] Oper.semAt_some
set_option maxHeartbeats 4000000
set_option maxRecDepth 100000
theorem cases_any (C : Nat) (w : World) :
    Calls Tryd.prog 63 #[.pointer (some ⟨C, 0, none⟩)] w fun e w' => e = .returned (.func (.func 80) #[] #[.pointer (some ⟨w.heap.size, 0, none⟩)]) ∧ w.alloc (.cells #[.pointer (some ⟨C, 0, none⟩)] 109) = w' := by
  go_enter Tryd.func63, Tryd.ntmps63
  go_wp2_with fail
  go_ret
  exact ⟨rfl, rfl⟩
/-- what the iterator reads -/
structure CiR (W : World) (P C : Nat) (A : Option Addr) (nf fc : Nat) (fs : List Int) : Prop where
  p : W.cell? ⟨P, 0, none⟩ = some (.pointer (some ⟨C, 0, none⟩))
  c : W.cell? ⟨C, 0, none⟩ = some (.slice A nf fc)
  f : ∀ k, k < nf → ∃ b off, A = some ⟨b, off, none⟩ ∧ W.cell? ⟨b, off + k, none⟩ = some (.int .i64 (fs.getD k 0))
theorem CiR.kc {W W' : World} {P C : Nat} {A : Option Addr} {nf fc : Nat} {fs : List Int} (h : CiR W P C A nf fc fs) (hk : KC W W') : CiR W' P C A nf fc fs :=
  ⟨hk.cell h.p, hk.cell h.c, fun k hk1 => by
    obtain ⟨b, off, h1, h2⟩ := h.f k hk1
    exact ⟨b, off, h1, hk.cell h2⟩⟩
/-- all cells stay but those of block g -/
structure KG (g : Nat) (W W' : World) : Prop where
  size : W.heap.size ≤ W'.heap.size
  block : ∀ (k : Nat) (o : Obj), k ≠ g → W.heap[k]? = some o → o.isCells = true → W'.heap[k]? = some o
theorem KG.refl (g : Nat) (W : World) : KG g W W := ⟨Nat.le_refl _, fun _ _ _ h _ => h⟩
theorem KG.kc {g : Nat} {A B C : World} (h : KG g A B) (h2 : KC B C) : KG g A C := ⟨Nat.le_trans h.size h2.size, fun k o h0 h3 h4 => h2.block k o (h.block k o h0 h3 h4) h4⟩
theorem KG.set {g : Nat} {A B : World} (h : KG g A B) (i : Nat) (v : Value) : KG g A (B.setCell ⟨g, i, none⟩ v) :=
  ⟨by rw [size_set]; exact h.size, fun k o h0 h3 h4 => (Below.heap_setCell _ _ _ k h0).trans (h.block k o h0 h3 h4)⟩
theorem KG.cell {g : Nat} {W W' : World} (h : KG g W W') {p : Addr} {v : Value} (hp : p.block ≠ g) (hc : W.cell? p = some v) : W'.cell? p = some v := by
  unfold World.cell? at hc ⊢
  cases ho : W.heap[p.block]? with
  | none => rw [ho] at hc; simp at hc
  | some o =>
    rw [ho] at hc
    cases o with
    | cells cs t st => rw [h.block p.block _ hp ho rfl]; exact hc
    | _ => simp at hc
theorem cell_lt {W : World} {p : Addr} {v : Value} (hc : W.cell? p = some v) : p.block < W.heap.size := by
  unfold World.cell? at hc
  rcases Nat.lt_or_ge p.block W.heap.size with h | h
  · exact h
  · rw [Array.getElem?_eq_none h] at hc; simp at hc
theorem CiR.kg {W W' : World} {P C : Nat} {A : Option Addr} {nf fc : Nat} {fs : List Int} {g : Nat} (h : CiR W P C A nf fc fs) (hg : W.heap.size ≤ g) (hk : KG g W W') : CiR W' P C A nf fc fs :=
  ⟨hk.cell (by have := cell_lt h.p; dsimp only at this ⊢; omega) h.p, hk.cell (by have := cell_lt h.c; dsimp only at this ⊢; omega) h.c, fun k hk1 => by
    obtain ⟨b, off, h1, h2⟩ := h.f k hk1
    exact ⟨b, off, h1, hk.cell (by have := cell_lt h2; dsimp only at this ⊢; omega) h2⟩⟩
/-- case k -/
def csV (fs : List Int) (nf k : Nat) : Array Value := rowV nf fun j => .int .i64 (dg fs nf k j)
/-- the number of the case that lies in block g -/
def csN (fs : List Int) (nf g : Nat) (W : World) : Nat := vl fs (fun j => intOf ((W.cell? ⟨g, j, none⟩).getD (.int .i64 0))) nf
theorem csN_of {fs : List Int} {nf g k : Nat} {W : World} (h1 : ∀ j, j < nf → 1 ≤ chF fs j) (h : Blk W g 3 (csV fs nf k)) (hk : k < pr fs nf) : csN fs nf g W = k := by
  unfold csN
  rw [vl_congr _ (dg fs nf k) nf (fun j hj => by
    rw [h.cell]
    unfold csV
    rw [rowV_get _ _ hj]
    rfl)]
  exact vl_dg h1 hk
theorem AbM.set {β : Type} {B : Nat} {J : β → World → Prop} (h : AbM B J) {s : β} {W : World} (hs : J s W) {g : Nat} (hg : B ≤ g) (i : Nat) (v : Value) : J s (W.setCell ⟨g, i, none⟩ v) :=
  h s W _ (some g) hs (grownBy_setC W g i v) (fun r e => by injection e with e; omega)
theorem cases1_in (F : Fence) (n : Nat) (hF : ∀ f, F.fn f) (hro : F.round = none) (hn : 1 ≤ n) (l P C : Nat) (A : Option Addr) (nf fc : Nat) (fs : List Int) (J Jx : List (Nat × Nat) → World → Prop) (W : World)
    (hR : CiR W P C A nf fc fs) (hfs : ∀ k, k < nf → 1 ≤ fs.getD k 0 ∧ fs.getD k 0 ≤ 4) (hnf : nf ≤ 5) (hnf0 : 1 ≤ nf) (hJ : AbM W.heap.size J)
    (hY : ∀ pre (x : Nat × Nat) W1, J pre W1 → Blk W1 x.2 3 (csV fs nf x.1) → pre.length < pr fs nf → YieldAt F (n - 1) Tryd.prog l #[.slice (some ⟨x.2, 0, none⟩) nf nf] W1 fun e W' =>
      (e = .returned (.bool true) ∧ J (pre ++ [x]) W' ∧ KC W1 W') ∨ (e = .returned (.bool false) ∧ Jx (pre ++ [x]) W')) (h0 : J [] W) :
    CallsIn F n Tryd.prog 80 #[.func (.yield l) #[] #[], .pointer (some ⟨P, 0, none⟩)] W fun e W' => (∃ v, e = .returned v) ∧
      ((∃ ys : List (Nat × Nat), ys.map (·.1) = List.range (pr fs nf) ∧ J ys W') ∨ (∃ pre : List (Nat × Nat), (∃ m, m ≤ pr fs nf ∧ pre.map (·.1) = List.range m) ∧ Jx pre W')) := by
  have g1 := hR.p
  have g2 := hR.c
  have HYY := hide hY
  have HRR := hide hR
  have HFS := hide hfs
  have HJA := hide hJ
  have H0 := hide h0
  have hch : ∀ j, j < nf → 1 ≤ chF fs j := fun j hj => by have := hfs j hj; unfold chF; omega
  have HCH := hide hch
  obtain ⟨i0, hi, hz0, hz1, hz2⟩ := info_parts info_int'
  have gl := run_make_rowN (P := Tryd.prog) 36 3 i0 _ Tryd.underlying36 hi hz0 .i64 .i64 nf nf (Nat.le_refl _) (by rw [hz2]; omega) (by omega) W
  rw [hz1, rowV_ints] at gl
  clear hY hJ h0 hR hfs hch hi hz0 hz1 hz2
  refine callsIn_of_wp Tryd.func80 rfl (hF _) ?_ hro
  simp only [Tryd.ntmps80, List.size_toArray, List.length_cons, List.length_nil, Nat.reduceAdd, Nat.reduceSub, Array.replicate_succ, Array.replicate_zero, List.push_toArray, List.append_toArray, List.nil_append, List.cons_append]
  gi_wp2_with fail
  have HKG : Hid (KG W.heap.size W (W.alloc (.cells (rowV nf fun _ => .int .i64 0) 3))) := hide ((KG.refl _ W).kc (KC.of_below ((Below.refl _ _).alloc (Nat.le_refl _) _)))
  have HB0 : Hid (Blk (W.alloc (.cells (rowV nf fun _ => .int .i64 0) 3)) W.heap.size 3 (csV fs nf 0)) := hide (by
    have h := Blk.new W 3 (rowV nf fun _ => .int .i64 0)
    have e : (rowV nf fun _ => Value.int .i64 0) = csV fs nf 0 := rowV_same _ _ _ (fun k _ => by rw [dg_zero])
    rw [← e]
    exact h)
  have HJ0 : Hid (J [] (W.alloc (.cells (rowV nf fun _ => .int .i64 0) 3))) := hide (HJA.out.alloc _ H0.out)
  generalize (W.alloc (.cells (rowV nf fun _ => .int .i64 0) 3)) = W0 at HKG HB0 HJ0 ⊢
  clear gl g1 g2
  obtain ⟨g, hg⟩ : ∃ x, W.heap.size = x := ⟨_, rfl⟩
  have HGG := hide hg
  rw [hg] at HKG HB0 HJA ⊢
  clear hg
  gi_loopw [4] (fun v4 wr => ∃ (k : Nat) (ys : List (Nat × Nat)), (v4 = undef ∨ ∃ q, v4 = .int .i64 q) ∧ k < pr fs nf ∧ Hid (ys.map (·.1) = List.range k) ∧ Hid (J ys wr) ∧ Hid (KG g W wr) ∧ Hid (Blk wr g 3 (csV fs nf k))) (fun _ wr => pr fs nf - csN fs nf g wr)
  case atStart => exact ⟨0, [], .inl rfl, pr_pos HCH.out, hide rfl, HJ0, HKG, HB0⟩
  case round =>
    obtain ⟨k, ys, -, hk, HYS, HJ, HK, HB⟩ := hrel
    clear HJ0 HKG HB0
    have hmea : csN fs nf g wr = k := csN_of HCH.out HB.out hk
    have HMEA := hide hmea
    clear hmea
    obtain ⟨fn, tmps, assign, body, hy, hR⟩ := HYY.out ys (k, g) wr HJ.out HB.out (by
      have h := congrArg List.length HYS.out
      rw [List.length_map, List.length_range] at h
      omega)
    dsimp only at hy
    have HR := hide hR
    clear hR
    gi_wp2_with fail
    refine HR.out.mono ?_
    rintro e W3 (⟨rfl, hJ3, hk3⟩ | ⟨rfl, hJx3⟩)
    · -- BEGIN1
      have HJ3 := hide hJ3
      have HK3 := hide (HK.out.kc hk3)
      have HB3 := hide (hk3.blk HB.out)
      have hm3 : csN fs nf g W3 = k := csN_of HCH.out HB3.out hk
      clear hJ3 hk3 hy HR HJ HK HB hm3
      have w1 : IntKind.i64.wrap ((nf : Int) - 1) = (nf : Int) - 1 := IntWalk.i64_in _ (by omega)
      gi_wp2_with fail
      have hmix : Tryd.prog.follows .mixedOrders = true := by kernel_rfl
      gi_loopw [4] (fun x wr => ∃ (r : Nat) (iv : Int), x = .int .i64 iv ∧ iv = (r : Int) - 1 ∧ r ≤ nf ∧ Hid (∀ j, r ≤ j → j < nf → dg fs nf k j = (chF fs j : Int) - 1) ∧ Hid (J (ys ++ [(k, g)]) wr) ∧ Hid (KG g W wr) ∧ Hid (Blk wr g 3 (rowV nf fun j => .int .i64 (if j < r then dg fs nf k j else 0)))) (fun x _ => (intOf x + 1).toNat)
      case atStart => exact ⟨nf, _, rfl, rfl, Nat.le_refl _, hide (fun j h1 h2 => by omega), HJ3, HK3, hide (by
        have e : csV fs nf k = rowV nf fun j => .int .i64 (if j < nf then dg fs nf k j else 0) := rowV_same _ _ _ (fun j hj => by rw [if_pos hj])
        rw [← e]; exact HB3.out)⟩
      case round =>
        obtain ⟨r, iv, rfl, hiv, hr, HD, HJ4, HK4, HB4⟩ := hrel
        clear HJ3 HK3 HB3
        rcases r with _ | i
        · obtain rfl : iv = -1 := by omega
          clear hiv
          have hend := nxt_end HCH.out hk (fun j hj => HD.out j (by omega) hj)
          have HEND := hide hend
          clear hend
          gi_wp2_with fail
          refine wpIn_region_J (fun _ : World => True) hmix ?_
          have HJd := hide (HJA.out _ _ _ none HJ4.out (⟨rfl, rfl, rfl, Nat.le_refl _, fun _ _ _ => rfl⟩ : wr.grownBy wr.drew none) (fun r e => by cases e))
          generalize wr.drew = wd at HJd ⊢
          refine wpAnyJ_take 0 (v := ?_) (by first | exact hF | exact wideFn) (trivial) rfl (by kernel_rfl) (by kernel_rfl) (by kernel_rfl) (by kernel_rfl) rfl ?_ (by first | exact fun _ _ _ h => h | exact fun _ _ _ h => hQ2 _ _ _ _ _ h) ?_
          rotate_left
          · intro W hSW
            simp only [glA, glB, glC]
            (try dsimp only at hSW)
            go_simp
            with_reducible rfl
          (try simp only [glA, glB, glC, Act.put, glD, glE, glF])
          refine wpAnyJ_take 1 (v := ?_) (by first | exact hF | exact wideFn) (trivial) rfl (by kernel_rfl) (by kernel_rfl) (by kernel_rfl) (by kernel_rfl) rfl ?_ (by first | exact fun _ _ _ h => h | exact fun _ _ _ h => hQ2 _ _ _ _ _ h) ?_
          rotate_left
          · intro W hSW
            simp only [glA, glB, glC]
            (try dsimp only at hSW)
            go_simp
            with_reducible rfl
          (try simp only [glA, glB, glC, Act.put, glD, glE, glF])
          refine wpAnyJ_take 2 (v := ?_) (by first | exact hF | exact wideFn) (trivial) rfl (by kernel_rfl) (by kernel_rfl) (by kernel_rfl) (by kernel_rfl) rfl ?_ (by first | exact fun _ _ _ h => h | exact fun _ _ _ h => hQ2 _ _ _ _ _ h) ?_
          rotate_left
          · intro W hSW
            simp only [glA, glB, glC]
            (try dsimp only at hSW)
            go_simp
            with_reducible rfl
          (try simp only [glA, glB, glC, Act.put, glD, glE, glF])
          refine wpAnyJ_skip 3 (by first | exact hF | exact wideFn) (trivial) rfl (by kernel_rfl) (by kernel_rfl) (by kernel_rfl) (by kernel_rfl) rfl (by first | exact fun _ _ _ h => h | exact fun _ _ _ h => hQ2 _ _ _ _ _ h) ?_
          (try simp only [glA, glB, glC, Act.put, glD, glE, glF])
          refine wpAnyJ_skip 4 (by first | exact hF | exact wideFn) (trivial) rfl (by kernel_rfl) (by kernel_rfl) (by kernel_rfl) (by kernel_rfl) rfl (by first | exact fun _ _ _ h => h | exact fun _ _ _ h => hQ2 _ _ _ _ _ h) ?_
          (try simp only [glA, glB, glC, Act.put, glD, glE, glF])
          refine wpAnyJ_skip 5 (by first | exact hF | exact wideFn) (trivial) rfl (by kernel_rfl) (by kernel_rfl) (by kernel_rfl) (by kernel_rfl) rfl (by first | exact fun _ _ _ h => h | exact fun _ _ _ h => hQ2 _ _ _ _ _ h) ?_
          (try simp only [glA, glB, glC, Act.put, glD, glE, glF])
          refine wpAnyJ_skip 6 (by first | exact hF | exact wideFn) (trivial) rfl (by kernel_rfl) (by kernel_rfl) (by kernel_rfl) (by kernel_rfl) rfl (by first | exact fun _ _ _ h => h | exact fun _ _ _ h => hQ2 _ _ _ _ _ h) ?_
          (try simp only [glA, glB, glC, Act.put, glD, glE, glF])
          refine wpAnyJ_skip 7 (by first | exact hF | exact wideFn) (trivial) rfl (by kernel_rfl) (by kernel_rfl) (by kernel_rfl) (by kernel_rfl) rfl (by first | exact fun _ _ _ h => h | exact fun _ _ _ h => hQ2 _ _ _ _ _ h) ?_
          (try simp only [glA, glB, glC, Act.put, glD, glE, glF])
          refine wpAnyJ_skip 8 (by first | exact hF | exact wideFn) (trivial) rfl (by kernel_rfl) (by kernel_rfl) (by kernel_rfl) (by kernel_rfl) rfl (by first | exact fun _ _ _ h => h | exact fun _ _ _ h => hQ2 _ _ _ _ _ h) ?_
          (try simp only [glA, glB, glC, Act.put, glD, glE, glF])
          refine wpAnyJ_skip 9 (by first | exact hF | exact wideFn) (trivial) rfl (by kernel_rfl) (by kernel_rfl) (by kernel_rfl) (by kernel_rfl) rfl (by first | exact fun _ _ _ h => h | exact fun _ _ _ h => hQ2 _ _ _ _ _ h) ?_
          (try simp only [glA, glB, glC, Act.put, glD, glE, glF])
          refine wpAnyJ_skip 10 (by first | exact hF | exact wideFn) (trivial) rfl (by kernel_rfl) (by kernel_rfl) (by kernel_rfl) (by kernel_rfl) rfl (by first | exact fun _ _ _ h => h | exact fun _ _ _ h => hQ2 _ _ _ _ _ h) ?_
          (try simp only [glA, glB, glC, Act.put, glD, glE, glF])
          refine wpAnyJ_skip 11 (by first | exact hF | exact wideFn) (trivial) rfl (by kernel_rfl) (by kernel_rfl) (by kernel_rfl) (by kernel_rfl) rfl (by first | exact fun _ _ _ h => h | exact fun _ _ _ h => hQ2 _ _ _ _ _ h) ?_
          (try simp only [glA, glB, glC, Act.put, glD, glE, glF])
          refine wpAnyJ_skip 12 (by first | exact hF | exact wideFn) (trivial) rfl (by kernel_rfl) (by kernel_rfl) (by kernel_rfl) (by kernel_rfl) rfl (by first | exact fun _ _ _ h => h | exact fun _ _ _ h => hQ2 _ _ _ _ _ h) ?_
          (try simp only [glA, glB, glC, Act.put, glD, glE, glF])
          refine wpAnyJ_skip 13 (by first | exact hF | exact wideFn) (trivial) rfl (by kernel_rfl) (by kernel_rfl) (by kernel_rfl) (by kernel_rfl) rfl (by first | exact fun _ _ _ h => h | exact fun _ _ _ h => hQ2 _ _ _ _ _ h) ?_
          (try simp only [glA, glB, glC, Act.put, glD, glE, glF])
          refine wpAnyJ_skip 14 (by first | exact hF | exact wideFn) (trivial) rfl (by kernel_rfl) (by kernel_rfl) (by kernel_rfl) (by kernel_rfl) rfl (by first | exact fun _ _ _ h => h | exact fun _ _ _ h => hQ2 _ _ _ _ _ h) ?_
          (try simp only [glA, glB, glC, Act.put, glD, glE, glF])
          refine wpAnyJ_skip 15 (by first | exact hF | exact wideFn) (trivial) rfl (by kernel_rfl) (by kernel_rfl) (by kernel_rfl) (by kernel_rfl) rfl (by first | exact fun _ _ _ h => h | exact fun _ _ _ h => hQ2 _ _ _ _ _ h) ?_
          (try simp only [glA, glB, glC, Act.put, glD, glE, glF])
          refine wpAnyJ_skip 16 (by first | exact hF | exact wideFn) (trivial) rfl (by kernel_rfl) (by kernel_rfl) (by kernel_rfl) (by kernel_rfl) rfl (by first | exact fun _ _ _ h => h | exact fun _ _ _ h => hQ2 _ _ _ _ _ h) ?_
          (try simp only [glA, glB, glC, Act.put, glD, glE, glF])
          refine wpAnyJ_take 17 (v := ?_) (by first | exact hF | exact wideFn) (trivial) rfl (by kernel_rfl) (by kernel_rfl) (by kernel_rfl) (by kernel_rfl) rfl ?_ (by first | exact fun _ _ _ h => h | exact fun _ _ _ h => hQ2 _ _ _ _ _ h) ?_
          rotate_left
          · intro W hSW
            simp only [glA, glB, glC]
            (try dsimp only at hSW)
            go_simp
            with_reducible rfl
          (try simp only [glA, glB, glC, Act.put, glD, glE, glF])
          refine wpAnyJ_done (by kernel_rfl) ?_
          gi_wp2_with fail
          refine bodyPost_ret (results_none rfl _ _ _) rfl ?_
          exact ⟨⟨_, rfl⟩, .inl ⟨_, by rw [List.map_append, HYS.out, ← HEND.out, List.range_succ]; rfl, HJd.out⟩⟩
        · obtain rfl : iv = (i : Int) := by omega
          clear hiv
          have hin : i < nf := by omega
          have hin' : (i : Int) < (nf : Int) := by omega
          have i0' : (0 : Int) ≤ (i : Int) := by omega
          have hci := HRR.out.kg (by rw [HGG.out]; exact Nat.le_refl _) HK4.out
          obtain ⟨fb, fo, rfl, hff⟩ := hci.f i hin
          have hp := hci.p
          have hc := hci.c
          have hx0 : wr.cell? ⟨g, i, none⟩ = some (.int .i64 (dg fs nf k i)) := by rw [HB4.out.cell, rowV_get _ _ hin, if_pos (by omega)]
          have hf14 := HFS.out i hin
          have hfx : fs.getD i 0 = (chF fs i : Int) := by unfold chF; omega
          have hbd := dg_bd (fs := fs) (n := nf) k HCH.out i hin
          obtain ⟨f, hf⟩ : ∃ f, fs.getD i 0 = f := ⟨_, rfl⟩
          obtain ⟨x, hx⟩ : ∃ f, dg fs nf k i = f := ⟨_, rfl⟩
          rw [hf] at hff hf14 hfx
          rw [hx] at hx0 hbd
          have w2 : IntKind.i64.wrap (f - 1) = f - 1 := IntWalk.i64_in _ (by omega)
          have w3 : IntKind.i64.wrap (x + 1) = x + 1 := IntWalk.i64_in _ (by omega)
          have w4 : IntKind.i64.wrap ((i : Int) - 1) = (i : Int) - 1 := IntWalk.i64_in _ (by omega)
          have HX := hide (And.intro hx hfx)
          have HS : Hid (∀ W', Below wr.heap.size wr W' → (W'.cell? ⟨P, 0, none⟩ = some (.pointer (some ⟨C, 0, none⟩)) ∧ W'.cell? ⟨C, 0, none⟩ = some (.slice (some ⟨fb, fo, none⟩) nf fc)) ∧ W'.cell? ⟨fb, fo + i, none⟩ = some (.int .i64 f) ∧ W'.cell? ⟨g, i, none⟩ = some (.int .i64 x)) := hide fun W' h =>
            ⟨⟨(h.cell (cell_lt hp)).trans hp, (h.cell (cell_lt hc)).trans hc⟩, (h.cell (cell_lt hff)).trans hff, (h.cell (cell_lt hx0)).trans hx0⟩
          clear hx hf hfx hci hp hc hff hx0
          gi_wp2_with fail
          have Bd := hide ((Below.refl wr.heap.size wr).drew)
          refine wpIn_region_J (fun W' : World => (W'.cell? ⟨P, 0, none⟩ = some (.pointer (some ⟨C, 0, none⟩)) ∧ W'.cell? ⟨C, 0, none⟩ = some (.slice (some ⟨fb, fo, none⟩) nf fc)) ∧ W'.cell? ⟨fb, fo + i, none⟩ = some (.int .i64 f) ∧ W'.cell? ⟨g, i, none⟩ = some (.int .i64 x)) hmix ?_
          have HJd := hide (HJA.out _ _ _ none HJ4.out (⟨rfl, rfl, rfl, Nat.le_refl _, fun _ _ _ => rfl⟩ : wr.grownBy wr.drew none) (fun r e => by cases e))
          have HKd := hide (HK4.out.kc (KC.of_below Bd.out))
          have HBd := hide (HB4.out.ext Bd.out)
          have HSd := hide (HS.out _ Bd.out)
          generalize wr.drew = wd at HJd HKd HBd HSd ⊢
          clear HJ4 HK4 HB4 HS Bd
          by_cases hxf : x = f - 1
          · have e1 : (x == f - 1) = true := by rw [hxf]; exact beq_self_eq_true _
            have HD2 : Hid (∀ j, i ≤ j → j < nf → dg fs nf k j = (chF fs j : Int) - 1) := hide (fun j h1 h2 => by
              rcases (by omega : j = i ∨ i + 1 ≤ j) with rfl | h3
              · rw [HX.out.1, hxf, HX.out.2]
              · exact HD.out j h3 h2)
            clear hxf
            refine wpAnyJ_take 0 (v := ?_) (by first | exact hF | exact wideFn) (HSd.out) rfl (by kernel_rfl) (by kernel_rfl) (by kernel_rfl) (by kernel_rfl) rfl ?_ (by first | exact fun _ _ _ h => h | exact fun _ _ _ h => hQ2 _ _ _ _ _ h) ?_
            rotate_left
            · intro W hSW
              simp only [glA, glB, glC]
              (try dsimp only at hSW)
              go_simp
              with_reducible rfl
            (try simp only [glA, glB, glC, Act.put, glD, glE, glF])
            refine wpAnyJ_take 1 (v := ?_) (by first | exact hF | exact wideFn) (HSd.out) rfl (by kernel_rfl) (by kernel_rfl) (by kernel_rfl) (by kernel_rfl) rfl ?_ (by first | exact fun _ _ _ h => h | exact fun _ _ _ h => hQ2 _ _ _ _ _ h) ?_
            rotate_left
            · intro W hSW
              simp only [glA, glB, glC]
              (try dsimp only at hSW)
              go_simp
              with_reducible rfl
            (try simp only [glA, glB, glC, Act.put, glD, glE, glF])
            refine wpAnyJ_take 2 (v := ?_) (by first | exact hF | exact wideFn) (HSd.out) rfl (by kernel_rfl) (by kernel_rfl) (by kernel_rfl) (by kernel_rfl) rfl ?_ (by first | exact fun _ _ _ h => h | exact fun _ _ _ h => hQ2 _ _ _ _ _ h) ?_
            rotate_left
            · intro W hSW
              simp only [glA, glB, glC]
              (try dsimp only at hSW)
              go_simp
              with_reducible rfl
            (try simp only [glA, glB, glC, Act.put, glD, glE, glF])
            refine wpAnyJ_take 3 (v := ?_) (by first | exact hF | exact wideFn) (HSd.out) rfl (by kernel_rfl) (by kernel_rfl) (by kernel_rfl) (by kernel_rfl) rfl ?_ (by first | exact fun _ _ _ h => h | exact fun _ _ _ h => hQ2 _ _ _ _ _ h) ?_
            rotate_left
            · intro W hSW
              simp only [glA, glB, glC]
              (try dsimp only at hSW)
              go_simp
              with_reducible rfl
            (try simp only [glA, glB, glC, Act.put, glD, glE, glF])
            refine wpAnyJ_take 4 (v := ?_) (by first | exact hF | exact wideFn) (HSd.out) rfl (by kernel_rfl) (by kernel_rfl) (by kernel_rfl) (by kernel_rfl) rfl ?_ (by first | exact fun _ _ _ h => h | exact fun _ _ _ h => hQ2 _ _ _ _ _ h) ?_
            rotate_left
            · intro W hSW
              simp only [glA, glB, glC]
              (try dsimp only at hSW)
              go_simp
              with_reducible rfl
            (try simp only [glA, glB, glC, Act.put, glD, glE, glF])
            refine wpAnyJ_take 5 (v := ?_) (by first | exact hF | exact wideFn) (HSd.out) rfl (by kernel_rfl) (by kernel_rfl) (by kernel_rfl) (by kernel_rfl) rfl ?_ (by first | exact fun _ _ _ h => h | exact fun _ _ _ h => hQ2 _ _ _ _ _ h) ?_
            rotate_left
            · intro W hSW
              simp only [glA, glB, glC]
              (try dsimp only at hSW)
              go_simp
              with_reducible rfl
            (try simp only [glA, glB, glC, Act.put, glD, glE, glF])
            refine wpAnyJ_take 6 (v := ?_) (by first | exact hF | exact wideFn) (HSd.out) rfl (by kernel_rfl) (by kernel_rfl) (by kernel_rfl) (by kernel_rfl) rfl ?_ (by first | exact fun _ _ _ h => h | exact fun _ _ _ h => hQ2 _ _ _ _ _ h) ?_
            rotate_left
            · intro W hSW
              simp only [glA, glB, glC]
              (try dsimp only at hSW)
              go_simp
              with_reducible rfl
            (try simp only [glA, glB, glC, Act.put, glD, glE, glF])
            refine wpAnyJ_take 7 (v := ?_) (by first | exact hF | exact wideFn) (HSd.out) rfl (by kernel_rfl) (by kernel_rfl) (by kernel_rfl) (by kernel_rfl) rfl ?_ (by first | exact fun _ _ _ h => h | exact fun _ _ _ h => hQ2 _ _ _ _ _ h) ?_
            rotate_left
            · intro W hSW
              simp only [glA, glB, glC]
              (try dsimp only at hSW)
              go_simp
              with_reducible rfl
            (try simp only [glA, glB, glC, Act.put, glD, glE, glF])
            refine wpAnyJ_take 8 (v := ?_) (by first | exact hF | exact wideFn) (HSd.out) rfl (by kernel_rfl) (by kernel_rfl) (by kernel_rfl) (by kernel_rfl) rfl ?_ (by first | exact fun _ _ _ h => h | exact fun _ _ _ h => hQ2 _ _ _ _ _ h) ?_
            rotate_left
            · intro W hSW
              simp only [glA, glB, glC]
              (try dsimp only at hSW)
              go_simp
              with_reducible rfl
            (try simp only [glA, glB, glC, Act.put, glD, glE, glF])
            refine wpAnyJ_take 9 (v := ?_) (by first | exact hF | exact wideFn) (HSd.out) rfl (by kernel_rfl) (by kernel_rfl) (by kernel_rfl) (by kernel_rfl) rfl ?_ (by first | exact fun _ _ _ h => h | exact fun _ _ _ h => hQ2 _ _ _ _ _ h) ?_
            rotate_left
            · intro W hSW
              simp only [glA, glB, glC]
              (try dsimp only at hSW)
              go_simp
              with_reducible rfl
            (try simp only [glA, glB, glC, Act.put, glD, glE, glF])
            refine wpAnyJ_take 10 (v := ?_) (by first | exact hF | exact wideFn) (HSd.out) rfl (by kernel_rfl) (by kernel_rfl) (by kernel_rfl) (by kernel_rfl) rfl ?_ (by first | exact fun _ _ _ h => h | exact fun _ _ _ h => hQ2 _ _ _ _ _ h) ?_
            rotate_left
            · intro W hSW
              simp only [glA, glB, glC]
              (try dsimp only at hSW)
              go_simp
              with_reducible rfl
            (try simp only [glA, glB, glC, Act.put, glD, glE, glF])
            refine wpAnyJ_take 11 (v := ?_) (by first | exact hF | exact wideFn) (HSd.out) rfl (by kernel_rfl) (by kernel_rfl) (by kernel_rfl) (by kernel_rfl) rfl ?_ (by first | exact fun _ _ _ h => h | exact fun _ _ _ h => hQ2 _ _ _ _ _ h) ?_
            rotate_left
            · intro W hSW
              simp only [glA, glB, glC]
              (try dsimp only at hSW)
              go_simp
              with_reducible rfl
            (try simp only [glA, glB, glC, Act.put, glD, glE, glF])
            refine wpAnyJ_take 12 (v := ?_) (by first | exact hF | exact wideFn) (HSd.out) rfl (by kernel_rfl) (by kernel_rfl) (by kernel_rfl) (by kernel_rfl) rfl ?_ (by first | exact fun _ _ _ h => h | exact fun _ _ _ h => hQ2 _ _ _ _ _ h) ?_
            rotate_left
            · intro W hSW
              simp only [glA, glB, glC]
              (try dsimp only at hSW)
              go_simp
              with_reducible rfl
            (try simp only [glA, glB, glC, Act.put, glD, glE, glF])
            refine wpAnyJ_take 13 (v := ?_) (by first | exact hF | exact wideFn) (HSd.out) rfl (by kernel_rfl) (by kernel_rfl) (by kernel_rfl) (by kernel_rfl) rfl ?_ (by first | exact fun _ _ _ h => h | exact fun _ _ _ h => hQ2 _ _ _ _ _ h) ?_
            rotate_left
            · intro W hSW
              simp only [glA, glB, glC]
              (try dsimp only at hSW)
              go_simp
              with_reducible rfl
            (try simp only [glA, glB, glC, Act.put, glD, glE, glF])
            refine wpAnyJ_take 14 (v := ?_) (by first | exact hF | exact wideFn) (HSd.out) rfl (by kernel_rfl) (by kernel_rfl) (by kernel_rfl) (by kernel_rfl) rfl ?_ (by first | exact fun _ _ _ h => h | exact fun _ _ _ h => hQ2 _ _ _ _ _ h) ?_
            rotate_left
            · intro W hSW
              simp only [glA, glB, glC]
              (try dsimp only at hSW)
              go_simp
              with_reducible rfl
            (try simp only [glA, glB, glC, Act.put, glD, glE, glF])
            refine wpAnyJ_take 15 (v := ?_) (by first | exact hF | exact wideFn) (HSd.out) rfl (by kernel_rfl) (by kernel_rfl) (by kernel_rfl) (by kernel_rfl) rfl ?_ (by first | exact fun _ _ _ h => h | exact fun _ _ _ h => hQ2 _ _ _ _ _ h) ?_
            rotate_left
            · intro W hSW
              simp only [glA, glB, glC]
              (try dsimp only at hSW)
              go_simp
              with_reducible rfl
            (try simp only [glA, glB, glC, Act.put, glD, glE, glF])
            refine wpAnyJ_take 16 (v := ?_) (by first | exact hF | exact wideFn) (HSd.out) rfl (by kernel_rfl) (by kernel_rfl) (by kernel_rfl) (by kernel_rfl) rfl ?_ (by first | exact fun _ _ _ h => h | exact fun _ _ _ h => hQ2 _ _ _ _ _ h) ?_
            rotate_left
            · intro W hSW
              simp only [glA, glB, glC]
              (try dsimp only at hSW)
              go_simp
              with_reducible rfl
            (try simp only [glA, glB, glC, Act.put, glD, glE, glF])
            refine wpAnyJ_take 17 (v := ?_) (by first | exact hF | exact wideFn) (HSd.out) rfl (by kernel_rfl) (by kernel_rfl) (by kernel_rfl) (by kernel_rfl) rfl ?_ (by first | exact fun _ _ _ h => h | exact fun _ _ _ h => hQ2 _ _ _ _ _ h) ?_
            rotate_left
            · intro W hSW
              simp only [glA, glB, glC]
              (try dsimp only at hSW)
              go_simp
              with_reducible rfl
            (try simp only [glA, glB, glC, Act.put, glD, glE, glF])
            refine wpAnyJ_done (by kernel_rfl) ?_
            have cg := HSd.out.2.2
            have fg := HBd.out.frozen i
            have lg := HBd.out.lt
            have HB5 := hide (HBd.out.set_ i (.int .i64 0))
            have HJ5 := hide (HJA.out.set HJd.out (Nat.le_refl g) i (.int .i64 0))
            have HK5 := hide (HKd.out.set i (.int .i64 0))
            gi_wp2_with fail
            go_roundw
            case rel => exact ⟨i, (i : Int) - 1, by first | rfl | rw [w4], rfl, by omega, HD2, HJ5, HK5, hide (by
              have h := HB5.out
              rw [rowV_set] at h
              rw [rowV_same nf _ (upd (fun j => Value.int .i64 (if j < i + 1 then dg fs nf k j else 0)) i (.int .i64 0)) (fun j hj => by
                unfold upd
                by_cases e : j = i
                · subst e; rw [if_pos rfl, if_neg (by omega)]
                · rw [if_neg e]
                  dsimp only
                  by_cases e2 : j < i
                  · rw [if_pos e2, if_pos (by omega)]
                  · rw [if_neg e2, if_neg (by omega)])]
              exact h)⟩
            case measure => first | (simp [intOf]; omega) | simp [intOf]
          · have e1 : (x == f - 1) = false := by rw [beq_eq_false_iff_ne]; exact hxf
            have hnx := nxt_some HCH.out hk hin (by rw [HX.out.1, ← HX.out.2]; exact hxf) (fun j h1 h2 => HD.out j (by omega) h2)
            have HNX := hide hnx
            clear hxf hnx
            refine wpAnyJ_take 0 (v := ?_) (by first | exact hF | exact wideFn) (HSd.out) rfl (by kernel_rfl) (by kernel_rfl) (by kernel_rfl) (by kernel_rfl) rfl ?_ (by first | exact fun _ _ _ h => h | exact fun _ _ _ h => hQ2 _ _ _ _ _ h) ?_
            rotate_left
            · intro W hSW
              simp only [glA, glB, glC]
              (try dsimp only at hSW)
              go_simp
              with_reducible rfl
            (try simp only [glA, glB, glC, Act.put, glD, glE, glF])
            refine wpAnyJ_take 1 (v := ?_) (by first | exact hF | exact wideFn) (HSd.out) rfl (by kernel_rfl) (by kernel_rfl) (by kernel_rfl) (by kernel_rfl) rfl ?_ (by first | exact fun _ _ _ h => h | exact fun _ _ _ h => hQ2 _ _ _ _ _ h) ?_
            rotate_left
            · intro W hSW
              simp only [glA, glB, glC]
              (try dsimp only at hSW)
              go_simp
              with_reducible rfl
            (try simp only [glA, glB, glC, Act.put, glD, glE, glF])
            refine wpAnyJ_take 2 (v := ?_) (by first | exact hF | exact wideFn) (HSd.out) rfl (by kernel_rfl) (by kernel_rfl) (by kernel_rfl) (by kernel_rfl) rfl ?_ (by first | exact fun _ _ _ h => h | exact fun _ _ _ h => hQ2 _ _ _ _ _ h) ?_
            rotate_left
            · intro W hSW
              simp only [glA, glB, glC]
              (try dsimp only at hSW)
              go_simp
              with_reducible rfl
            (try simp only [glA, glB, glC, Act.put, glD, glE, glF])
            refine wpAnyJ_take 3 (v := ?_) (by first | exact hF | exact wideFn) (HSd.out) rfl (by kernel_rfl) (by kernel_rfl) (by kernel_rfl) (by kernel_rfl) rfl ?_ (by first | exact fun _ _ _ h => h | exact fun _ _ _ h => hQ2 _ _ _ _ _ h) ?_
            rotate_left
            · intro W hSW
              simp only [glA, glB, glC]
              (try dsimp only at hSW)
              go_simp
              with_reducible rfl
            (try simp only [glA, glB, glC, Act.put, glD, glE, glF])
            refine wpAnyJ_take 4 (v := ?_) (by first | exact hF | exact wideFn) (HSd.out) rfl (by kernel_rfl) (by kernel_rfl) (by kernel_rfl) (by kernel_rfl) rfl ?_ (by first | exact fun _ _ _ h => h | exact fun _ _ _ h => hQ2 _ _ _ _ _ h) ?_
            rotate_left
            · intro W hSW
              simp only [glA, glB, glC]
              (try dsimp only at hSW)
              go_simp
              with_reducible rfl
            (try simp only [glA, glB, glC, Act.put, glD, glE, glF])
            refine wpAnyJ_take 5 (v := ?_) (by first | exact hF | exact wideFn) (HSd.out) rfl (by kernel_rfl) (by kernel_rfl) (by kernel_rfl) (by kernel_rfl) rfl ?_ (by first | exact fun _ _ _ h => h | exact fun _ _ _ h => hQ2 _ _ _ _ _ h) ?_
            rotate_left
            · intro W hSW
              simp only [glA, glB, glC]
              (try dsimp only at hSW)
              go_simp
              with_reducible rfl
            (try simp only [glA, glB, glC, Act.put, glD, glE, glF])
            refine wpAnyJ_take 6 (v := ?_) (by first | exact hF | exact wideFn) (HSd.out) rfl (by kernel_rfl) (by kernel_rfl) (by kernel_rfl) (by kernel_rfl) rfl ?_ (by first | exact fun _ _ _ h => h | exact fun _ _ _ h => hQ2 _ _ _ _ _ h) ?_
            rotate_left
            · intro W hSW
              simp only [glA, glB, glC]
              (try dsimp only at hSW)
              go_simp
              with_reducible rfl
            (try simp only [glA, glB, glC, Act.put, glD, glE, glF])
            refine wpAnyJ_take 7 (v := ?_) (by first | exact hF | exact wideFn) (HSd.out) rfl (by kernel_rfl) (by kernel_rfl) (by kernel_rfl) (by kernel_rfl) rfl ?_ (by first | exact fun _ _ _ h => h | exact fun _ _ _ h => hQ2 _ _ _ _ _ h) ?_
            rotate_left
            · intro W hSW
              simp only [glA, glB, glC]
              (try dsimp only at hSW)
              go_simp
              with_reducible rfl
            (try simp only [glA, glB, glC, Act.put, glD, glE, glF])
            refine wpAnyJ_take 8 (v := ?_) (by first | exact hF | exact wideFn) (HSd.out) rfl (by kernel_rfl) (by kernel_rfl) (by kernel_rfl) (by kernel_rfl) rfl ?_ (by first | exact fun _ _ _ h => h | exact fun _ _ _ h => hQ2 _ _ _ _ _ h) ?_
            rotate_left
            · intro W hSW
              simp only [glA, glB, glC]
              (try dsimp only at hSW)
              go_simp
              with_reducible rfl
            (try simp only [glA, glB, glC, Act.put, glD, glE, glF])
            refine wpAnyJ_take 9 (v := ?_) (by first | exact hF | exact wideFn) (HSd.out) rfl (by kernel_rfl) (by kernel_rfl) (by kernel_rfl) (by kernel_rfl) rfl ?_ (by first | exact fun _ _ _ h => h | exact fun _ _ _ h => hQ2 _ _ _ _ _ h) ?_
            rotate_left
            · intro W hSW
              simp only [glA, glB, glC]
              (try dsimp only at hSW)
              go_simp
              with_reducible rfl
            (try simp only [glA, glB, glC, Act.put, glD, glE, glF])
            refine wpAnyJ_take 10 (v := ?_) (by first | exact hF | exact wideFn) (HSd.out) rfl (by kernel_rfl) (by kernel_rfl) (by kernel_rfl) (by kernel_rfl) rfl ?_ (by first | exact fun _ _ _ h => h | exact fun _ _ _ h => hQ2 _ _ _ _ _ h) ?_
            rotate_left
            · intro W hSW
              simp only [glA, glB, glC]
              (try dsimp only at hSW)
              go_simp
              with_reducible rfl
            (try simp only [glA, glB, glC, Act.put, glD, glE, glF])
            refine wpAnyJ_take 11 (v := ?_) (by first | exact hF | exact wideFn) (HSd.out) rfl (by kernel_rfl) (by kernel_rfl) (by kernel_rfl) (by kernel_rfl) rfl ?_ (by first | exact fun _ _ _ h => h | exact fun _ _ _ h => hQ2 _ _ _ _ _ h) ?_
            rotate_left
            · intro W hSW
              simp only [glA, glB, glC]
              (try dsimp only at hSW)
              go_simp
              with_reducible rfl
            (try simp only [glA, glB, glC, Act.put, glD, glE, glF])
            refine wpAnyJ_take 12 (v := ?_) (by first | exact hF | exact wideFn) (HSd.out) rfl (by kernel_rfl) (by kernel_rfl) (by kernel_rfl) (by kernel_rfl) rfl ?_ (by first | exact fun _ _ _ h => h | exact fun _ _ _ h => hQ2 _ _ _ _ _ h) ?_
            rotate_left
            · intro W hSW
              simp only [glA, glB, glC]
              (try dsimp only at hSW)
              go_simp
              with_reducible rfl
            (try simp only [glA, glB, glC, Act.put, glD, glE, glF])
            refine wpAnyJ_take 13 (v := ?_) (by first | exact hF | exact wideFn) (HSd.out) rfl (by kernel_rfl) (by kernel_rfl) (by kernel_rfl) (by kernel_rfl) rfl ?_ (by first | exact fun _ _ _ h => h | exact fun _ _ _ h => hQ2 _ _ _ _ _ h) ?_
            rotate_left
            · intro W hSW
              simp only [glA, glB, glC]
              (try dsimp only at hSW)
              go_simp
              with_reducible rfl
            (try simp only [glA, glB, glC, Act.put, glD, glE, glF])
            refine wpAnyJ_take 14 (v := ?_) (by first | exact hF | exact wideFn) (HSd.out) rfl (by kernel_rfl) (by kernel_rfl) (by kernel_rfl) (by kernel_rfl) rfl ?_ (by first | exact fun _ _ _ h => h | exact fun _ _ _ h => hQ2 _ _ _ _ _ h) ?_
            rotate_left
            · intro W hSW
              simp only [glA, glB, glC]
              (try dsimp only at hSW)
              go_simp
              with_reducible rfl
            (try simp only [glA, glB, glC, Act.put, glD, glE, glF])
            refine wpAnyJ_take 15 (v := ?_) (by first | exact hF | exact wideFn) (HSd.out) rfl (by kernel_rfl) (by kernel_rfl) (by kernel_rfl) (by kernel_rfl) rfl ?_ (by first | exact fun _ _ _ h => h | exact fun _ _ _ h => hQ2 _ _ _ _ _ h) ?_
            rotate_left
            · intro W hSW
              simp only [glA, glB, glC]
              (try dsimp only at hSW)
              go_simp
              with_reducible rfl
            (try simp only [glA, glB, glC, Act.put, glD, glE, glF])
            refine wpAnyJ_take 16 (v := ?_) (by first | exact hF | exact wideFn) (HSd.out) rfl (by kernel_rfl) (by kernel_rfl) (by kernel_rfl) (by kernel_rfl) rfl ?_ (by first | exact fun _ _ _ h => h | exact fun _ _ _ h => hQ2 _ _ _ _ _ h) ?_
            rotate_left
            · intro W hSW
              simp only [glA, glB, glC]
              (try dsimp only at hSW)
              go_simp
              with_reducible rfl
            (try simp only [glA, glB, glC, Act.put, glD, glE, glF])
            refine wpAnyJ_take 17 (v := ?_) (by first | exact hF | exact wideFn) (HSd.out) rfl (by kernel_rfl) (by kernel_rfl) (by kernel_rfl) (by kernel_rfl) rfl ?_ (by first | exact fun _ _ _ h => h | exact fun _ _ _ h => hQ2 _ _ _ _ _ h) ?_
            rotate_left
            · intro W hSW
              simp only [glA, glB, glC]
              (try dsimp only at hSW)
              go_simp
              with_reducible rfl
            (try simp only [glA, glB, glC, Act.put, glD, glE, glF])
            refine wpAnyJ_done (by kernel_rfl) ?_
            have cg := HSd.out.2.2
            have fg := HBd.out.frozen i
            have lg := HBd.out.lt
            have HB5 := hide (HBd.out.set_ i (.int .i64 (x + 1)))
            have HJ5 := hide (HJA.out.set HJd.out (Nat.le_refl g) i (.int .i64 (x + 1)))
            have HK5 := hide (HKd.out.set i (.int .i64 (x + 1)))
            have HB6 : Hid (Blk (wd.setCell ⟨g, i, none⟩ (.int .i64 (x + 1))) g 3 (csV fs nf (k + 1))) := hide (by
              have h := HB5.out
              rw [rowV_set] at h
              unfold csV
              rw [rowV_same nf _ (upd (fun j => Value.int .i64 (if j < i + 1 then dg fs nf k j else 0)) i (.int .i64 (x + 1))) (fun j hj => by
                unfold upd
                rw [HNX.out.2 j hj]
                by_cases e : j = i
                · subst e; rw [if_pos rfl, if_neg (Nat.lt_irrefl j), if_pos rfl, HX.out.1]
                · have e3 : (if j = i then Value.int .i64 (x + 1) else (fun j => Value.int .i64 (if j < i + 1 then dg fs nf k j else 0)) j) = Value.int .i64 (if j < i + 1 then dg fs nf k j else 0) := if_neg e
                  rw [e3]
                  by_cases e2 : j < i
                  · rw [if_pos e2, if_pos (by omega)]
                  · rw [if_neg e2, if_neg e, if_neg (by omega)])]
              exact h)
            have HMN : Hid (csN fs nf g (wd.setCell ⟨g, i, none⟩ (.int .i64 (x + 1))) = k + 1) := hide (csN_of HCH.out HB6.out HNX.out.1)
            clear HB5 HBd
            gi_wp2_with fail
            go_roundw
            case rel => exact ⟨k + 1, ys ++ [(k, g)], .inr ⟨_, rfl⟩, HNX.out.1, hide (by rw [List.map_append, HYS.out, List.range_succ]; rfl), HJ5, HK5, HB6⟩
            case measure => rw [HMN.out, HMEA.out]; have := HNX.out.1; omega
      -- END1
    · -- BEGIN2
      have HJ3 := hide hJx3
      clear hJx3 HJ HK HB
      gi_wp2_with fail
      refine bodyPost_ret (results_none rfl _ _ _) rfl ?_
      exact ⟨⟨_, rfl⟩, .inr ⟨_, ⟨k + 1, hk, by rw [List.map_append, HYS.out, List.range_succ]; rfl⟩, HJ3.out⟩⟩
      -- END2
theorem cases_seq (F : Fence) (n : Nat) (hF : ∀ f, F.fn f) (hro : F.round = none) (hn : 1 ≤ n) (P C : Nat) (A : Option Addr) (nf fc : Nat) (fs : List Int) (w : World) (hR : CiR w P C A nf fc fs) (hfs : ∀ k, k < nf → 1 ≤ fs.getD k 0 ∧ fs.getD k 0 ≤ 4) (hnf : nf ≤ 5) (hnf0 : 1 ≤ nf) :
    SeqMem F n Tryd.prog 80 #[.pointer (some ⟨P, 0, none⟩)] (fun x : Nat × Nat => #[.slice (some ⟨x.2, 0, none⟩) nf nf]) (fun x W => Blk W x.2 3 (csV fs nf x.1)) (fun ys => ys.map (·.1) = List.range (pr fs nf)) (fun pre => ∃ m, m ≤ pr fs nf ∧ pre.map (·.1) = List.range m) (pr fs nf) w :=
  fun l J Jx W hW hJ hY h0 => cases1_in F n hF hro hn l P C A nf fc fs J Jx W (hR.kc (KC.of_below hW)) hfs hnf hnf0 hJ hY h0
end Go.Proofs.YtmpegkojencbjaaDoor
/- School: Differ. -/
namespace Go.Proofs.YtmpegkojencbjaaDoor
open Go Go.RowKit Go.Shelf
attribute [local go_sem] Oper.semAt_some
set_option maxHeartbeats 8000000
set_option maxRecDepth 100000
/-- case k as a list -/
def clL (fs : List Int) (k : Nat) : List Int := (List.range fs.length).map (dg fs fs.length k)
theorem clL_len (fs : List Int) (k : Nat) : (clL fs k).length = fs.length := by unfold clL; simp
theorem clL_at (fs : List Int) (k : Nat) {j : Nat} (hj : j < fs.length) : (clL fs k).getD j 0 = dg fs fs.length k j := by
  unfold clL
  rw [List.getD_eq_getElem?_getD, List.getElem?_map, List.getElem?_range hj]
  rfl
/-- what is said in case k, and the error -/
def vdF (s : Sch) (q : Int) (k : Nat) : Int × Int := ((dcF s (stF s) (clL s.fs k) q).1, (dcF s (stF s) (clL s.fs k) q).2.1)
/-- the first case of the first n in which they differ -/
def dfK (s t : Sch) (q : Int) : Nat → Option Nat
  | 0 => none
  | n + 1 => match dfK s t q n with | some k => some k | none => if vdF s q n = vdF t q n then none else some n
theorem dfK_none {s t : Sch} {q : Int} : ∀ {n : Nat}, (∀ k, k < n → vdF s q k = vdF t q k) → dfK s t q n = none
  | 0, _ => rfl
  | n + 1, h => by
    show (match dfK s t q n with | some k => some k | none => if vdF s q n = vdF t q n then none else some n) = none
    rw [dfK_none (fun k hk => h k (by omega)), h n (by omega)]
    simp
theorem dfK_some {s t : Sch} {q : Int} {m : Nat} (h : ∀ k, k < m → vdF s q k = vdF t q k) (h2 : vdF s q m ≠ vdF t q m) : ∀ {n : Nat}, m < n → dfK s t q n = some m
  | 0, hn => by omega
  | n + 1, hn => by
    show (match dfK s t q n with | some k => some k | none => if vdF s q n = vdF t q n then none else some n) = some m
    rcases (by omega : m < n ∨ n = m) with h3 | rfl
    · rw [dfK_some h h2 h3]
    · rw [dfK_none h]
      show (if vdF s q n = vdF t q n then none else some n) = some n
      rw [if_neg h2]
/-- what Differ returns -/
def dfR (s t : Sch) (q : Int) : List Int × Int :=
  if schB s && schB t then
    if 0 ≤ q ∧ q ≤ min s.q t.q - 1 then
      if s.fs = t.fs then (match dfK s t q (pr s.fs s.fs.length) with | some k => (clL s.fs k, 0) | none => ([], 7))
      else ([], 4)
    else ([], 3)
  else ([], 2)
theorem dfR_some {s t : Sch} {q : Int} {k : Nat} (h1 : (schB s && schB t) = true) (h2 : 0 ≤ q ∧ q ≤ min s.q t.q - 1) (h3 : s.fs = t.fs) (h4 : dfK s t q (pr s.fs s.fs.length) = some k) : dfR s t q = (clL s.fs k, 0) := by
  unfold dfR; rw [if_pos h1, if_pos h2, if_pos h3, h4]
theorem dfR_none {s t : Sch} {q : Int} (h1 : (schB s && schB t) = true) (h2 : 0 ≤ q ∧ q ≤ min s.q t.q - 1) (h3 : s.fs = t.fs) (h4 : dfK s t q (pr s.fs s.fs.length) = none) : dfR s t q = ([], 7) := by
  unfold dfR; rw [if_pos h1, if_pos h2, if_pos h3, h4]
def DfPost (w : World) (r : List Int × Int) (e : Ending) (w' : World) : Prop :=
  ∃ v, e = .returned (.tuple #[v, .int .i64 r.2]) ∧ OwnJ w' w.heap.size v r.1 ∧ Below w.heap.size w w'
theorem OpPost.any {w w' : World} {d : Ad_} {s : Sch} {e : Ending} (h : OpPost w d s e w') : ∃ p, e = .returned (.tuple #[.pointer p, .bool (schB s)]) ∧ Below w.heap.size w w' ∧ (schB s = true → ∃ C SA sc, p = some ⟨C, 0, none⟩ ∧ CodeB w w' C d SA sc s) := by
  unfold OpPost at h
  by_cases hs : schB s = true
  · rw [if_pos hs] at h
    obtain ⟨C, SA, sc, rfl, hc⟩ := h
    exact ⟨_, by rw [hs], hc.below, fun _ => ⟨C, SA, sc, rfl, hc⟩⟩
  · rw [if_neg hs] at h
    obtain ⟨rfl, hb⟩ := h
    exact ⟨none, by rw [show schB s = false by simpa using hs], hb, fun h => absurd h hs⟩
/-- while they do not differ -/
def DfI (s t : Sch) (q : Int) (w7 : World) (pre : List (Nat × Nat)) (W : World) : Prop := (∀ y ∈ pre, vdF s q y.1 = vdF t q y.1) ∧ Below w7.heap.size w7 W
/-- where they differ -/
def DfX (s t : Sch) (q : Int) (w : World) (c : Code) (pre : List (Nat × Nat)) (W : World) : Prop :=
  c = .ret ∧ ∃ pre' x, pre = pre' ++ [x] ∧ (∀ y ∈ pre', vdF s q y.1 = vdF t q y.1) ∧ vdF s q x.1 ≠ vdF t q x.1 ∧ ∃ v, Blk W (w.heap.size + 1 + 1 + 1) 36 #[v] ∧ Blk W (w.heap.size + 1 + 1 + 1 + 1) 27 #[.int .i64 0] ∧ OwnJ W w.heap.size v (clL s.fs x.1) ∧ Below w.heap.size w W
theorem dfK_all {s t : Sch} {q : Int} {n : Nat} {xs : List (Nat × Nat)} (h : xs.map (·.1) = List.range n) (h1 : ∀ y ∈ xs, vdF s q y.1 = vdF t q y.1) : ∀ k, k < n → vdF s q k = vdF t q k := fun k hk => by
  have hm : k ∈ xs.map (·.1) := by rw [h]; exact List.mem_range.2 hk
  obtain ⟨y, hy, rfl⟩ := List.mem_map.1 hm
  exact h1 y hy
theorem dfK_last {s t : Sch} {q : Int} {m n : Nat} {pre : List (Nat × Nat)} {x : Nat × Nat} (hm : m ≤ n) (h : (pre ++ [x]).map (·.1) = List.range m) (h1 : ∀ y ∈ pre, vdF s q y.1 = vdF t q y.1) (h2 : vdF s q x.1 ≠ vdF t q x.1) : dfK s t q n = some x.1 := by
  rw [List.map_append] at h
  rcases m with _ | m
  · simp at h
  · rw [List.range_succ] at h
    obtain ⟨h3, h4⟩ := List.append_inj' h (by simp)
    have h5 : x.1 = m := by simpa using h4
    rw [h5] at h2 ⊢
    exact dfK_some (dfK_all h3 h1) h2 hm
theorem Differ_any (d d' : Ad_) (s t : Sch) (q : Int) (w : World) (hd : ScR w w.heap.size d s) (hd' : ScR w w.heap.size d' t) (h1 : s.fs.length ≤ maxLen) (h2 : s.rs.length ≤ maxLen) (h3 : t.fs.length ≤ maxLen) (h4 : t.rs.length ≤ maxLen) :
    Calls Tryd.prog 32 #[scV d s, scV d' t, .int .i64 q] w (DfPost w (dfR s t q)) := by
  obtain ⟨nf, hf⟩ : ∃ n, s.fs.length = n := ⟨_, rfl⟩
  obtain ⟨nr, hr⟩ : ∃ n, s.rs.length = n := ⟨_, rfl⟩
  obtain ⟨Q, hQ⟩ : ∃ n, s.q = n := ⟨_, rfl⟩
  obtain ⟨nf', hf'⟩ : ∃ n, t.fs.length = n := ⟨_, rfl⟩
  obtain ⟨nr', hr'⟩ : ∃ n, t.rs.length = n := ⟨_, rfl⟩
  obtain ⟨Q', hQ'⟩ : ∃ n, t.q = n := ⟨_, rfl⟩
  have HOP : Hid (∀ W, Below w.heap.size w W → Calls Tryd.prog 62 #[.agg #[.slice d.fa nf d.fc, .int .i64 Q, .slice d.ra nr d.rc]] W (OpPost W d s)) := hide fun W hB => by
    have := open_any d s W (hd.below hB) h1 h2
    unfold scV at this
    rw [hf, hr, hQ] at this
    exact this
  have HOP' : Hid (∀ W, Below w.heap.size w W → Calls Tryd.prog 62 #[.agg #[.slice d'.fa nf' d'.fc, .int .i64 Q', .slice d'.ra nr' d'.rc]] W (OpPost W d' t)) := hide fun W hB => by
    have := open_any d' t W (hd'.below hB) h3 h4
    unfold scV at this
    rw [hf', hr', hQ'] at this
    exact this
  unfold scV
  have HN := hide (And.intro hf (And.intro hr hQ))
  have HN' := hide (And.intro hf' (And.intro hr' hQ'))
  have HD := hide hd
  have HD' := hide hd'
  rw [hf, hr, hQ, hf', hr', hQ']
  clear hd hd' hf hr hQ hf' hr' hQ' h1 h2 h3 h4
  refine (callsIn_wide (n := 9)).1 ?_
  obtain ⟨F, hFw⟩ : ∃ F : Fence, F = Fence.wide := ⟨_, rfl⟩
  rw [← hFw]
  have hF : ∀ f, F.fn f := by rw [hFw]; exact fun _ => trivial
  have hro : F.round = none := by rw [hFw]; rfl
  have hwd : ∀ {n f args w R}, Calls Tryd.prog f args w R → CallsIn F n Tryd.prog f args w R := by rw [hFw]; exact fun h => callsIn_wide.2 h
  clear hFw
  refine callsIn_of_wp_marks Tryd.func32 rfl (hF _) ?_ hro
  simp only [Tryd.ntmps32, List.size_toArray, List.length_cons, List.length_nil, Nat.reduceAdd, Nat.reduceSub, Array.replicate_succ, Array.replicate_zero, List.push_toArray, List.append_toArray, List.nil_append, List.cons_append]
  have k3 : Blk (((((w.alloc (.cells #[.slice d.fa nf d.fc, .int .i64 Q, .slice d.ra nr d.rc] 47)).alloc (.cells #[.slice d'.fa nf' d'.fc, .int .i64 Q', .slice d'.ra nr' d'.rc] 47)).alloc (.cells #[.int .i64 q] 3)).alloc (.cells #[.slice none 0 0] 36)).alloc (.cells #[.int .i64 0] 27)) w.heap.size 47 #[.slice d.fa nf d.fc, .int .i64 Q, .slice d.ra nr d.rc] := ((((Blk.new w _ _).alloc _).alloc _).alloc _).alloc _
  have k4 : Blk (((((w.alloc (.cells #[.slice d.fa nf d.fc, .int .i64 Q, .slice d.ra nr d.rc] 47)).alloc (.cells #[.slice d'.fa nf' d'.fc, .int .i64 Q', .slice d'.ra nr' d'.rc] 47)).alloc (.cells #[.int .i64 q] 3)).alloc (.cells #[.slice none 0 0] 36)).alloc (.cells #[.int .i64 0] 27)) (w.heap.size + 1) 47 #[.slice d'.fa nf' d'.fc, .int .i64 Q', .slice d'.ra nr' d'.rc] := by simpa using (((Blk.new (w.alloc (.cells #[.slice d.fa nf d.fc, .int .i64 Q, .slice d.ra nr d.rc] 47)) 47 #[.slice d'.fa nf' d'.fc, .int .i64 Q', .slice d'.ra nr' d'.rc]).alloc _).alloc _).alloc (.cells #[.int .i64 0] 27)
  have k5 : Blk (((((w.alloc (.cells #[.slice d.fa nf d.fc, .int .i64 Q, .slice d.ra nr d.rc] 47)).alloc (.cells #[.slice d'.fa nf' d'.fc, .int .i64 Q', .slice d'.ra nr' d'.rc] 47)).alloc (.cells #[.int .i64 q] 3)).alloc (.cells #[.slice none 0 0] 36)).alloc (.cells #[.int .i64 0] 27)) (w.heap.size + 1 + 1) 3 #[.int .i64 q] := by simpa using ((Blk.new ((w.alloc (.cells #[.slice d.fa nf d.fc, .int .i64 Q, .slice d.ra nr d.rc] 47)).alloc (.cells #[.slice d'.fa nf' d'.fc, .int .i64 Q', .slice d'.ra nr' d'.rc] 47)) 3 #[.int .i64 q]).alloc _).alloc (.cells #[.int .i64 0] 27)
  have k6 : Blk (((((w.alloc (.cells #[.slice d.fa nf d.fc, .int .i64 Q, .slice d.ra nr d.rc] 47)).alloc (.cells #[.slice d'.fa nf' d'.fc, .int .i64 Q', .slice d'.ra nr' d'.rc] 47)).alloc (.cells #[.int .i64 q] 3)).alloc (.cells #[.slice none 0 0] 36)).alloc (.cells #[.int .i64 0] 27)) (w.heap.size + 1 + 1 + 1) 36 #[.slice none 0 0] := by simpa using (Blk.new (((w.alloc (.cells #[.slice d.fa nf d.fc, .int .i64 Q, .slice d.ra nr d.rc] 47)).alloc (.cells #[.slice d'.fa nf' d'.fc, .int .i64 Q', .slice d'.ra nr' d'.rc] 47)).alloc (.cells #[.int .i64 q] 3)) 36 #[.slice none 0 0]).alloc (.cells #[.int .i64 0] 27)
  have k7 : Blk (((((w.alloc (.cells #[.slice d.fa nf d.fc, .int .i64 Q, .slice d.ra nr d.rc] 47)).alloc (.cells #[.slice d'.fa nf' d'.fc, .int .i64 Q', .slice d'.ra nr' d'.rc] 47)).alloc (.cells #[.int .i64 q] 3)).alloc (.cells #[.slice none 0 0] 36)).alloc (.cells #[.int .i64 0] 27)) (w.heap.size + 1 + 1 + 1 + 1) 27 #[.int .i64 0] := by simpa using Blk.new ((((w.alloc (.cells #[.slice d.fa nf d.fc, .int .i64 Q, .slice d.ra nr d.rc] 47)).alloc (.cells #[.slice d'.fa nf' d'.fc, .int .i64 Q', .slice d'.ra nr' d'.rc] 47)).alloc (.cells #[.int .i64 q] 3)).alloc (.cells #[.slice none 0 0] 36)) 27 #[.int .i64 0]
  have HB1 : Hid (Below w.heap.size w (((((w.alloc (.cells #[.slice d.fa nf d.fc, .int .i64 Q, .slice d.ra nr d.rc] 47)).alloc (.cells #[.slice d'.fa nf' d'.fc, .int .i64 Q', .slice d'.ra nr' d'.rc] 47)).alloc (.cells #[.int .i64 q] 3)).alloc (.cells #[.slice none 0 0] 36)).alloc (.cells #[.int .i64 0] 27))) := hide ((((((Below.refl _ _).alloc (Nat.le_refl _) _).alloc (by simp) _).alloc (by simp only [World.size_alloc]; omega) _).alloc (by simp only [World.size_alloc]; omega) _).alloc (by simp only [World.size_alloc]; omega) _)
  gi_wp2_with (gi_at_call 62; (with_reducible refine (hwd (HOP.out _ HB1.out)).mono ?_); intro e w2 hop; obtain ⟨p1, he, hb2, hc2⟩ := hop.any; subst he; obtain ⟨-, x0, x1, x2, -⟩ := blk3 ((k4.ext hb2).alloc (.cells #[.pointer p1] 109)))
  clear x0 x1 x2
  have HC2 := hide hc2
  have HB2 := hide (HB1.out.trans (hb2.mono HB1.out.size))
  have hbA : Below w2.heap.size w2 (w2.alloc (.cells #[.pointer p1] 109)) := (Below.refl _ _).alloc (Nat.le_refl _) _
  have HBA := hide hbA
  replace k3 := (k3.ext hb2).ext hbA
  replace k4 := (k4.ext hb2).ext hbA
  replace k5 := (k5.ext hb2).ext hbA
  replace k6 := (k6.ext hb2).ext hbA
  replace k7 := (k7.ext hb2).ext hbA
  have k8 := Blk.new w2 109 #[.pointer p1]
  have HB3 := hide (HB2.out.trans (hbA.mono HB2.out.size))
  have HD1 := hide (HD.out.below HB1.out)
  clear hbA hc2 hb2
  generalize (w2.alloc (.cells #[.pointer p1] 109)) = w3 at k3 k4 k5 k6 k7 k8 HB3 HBA ⊢
  obtain ⟨b8, hb8⟩ : ∃ x, w2.heap.size = x := ⟨_, rfl⟩
  rw [hb8] at k8 ⊢
  clear hb8
  obtain ⟨-, x0, x1, x2, -⟩ := blk3 k4
  refine (hwd (HOP'.out w3 HB3.out)).mono ?_
  intro e w4 hop
  obtain ⟨p2, he, hb4, hc4⟩ := hop.any
  subst he
  have HC4 := hide hc4
  have HB4 := hide (HB3.out.trans (hb4.mono HB3.out.size))
  have HB34 := hide hb4
  have hbA : Below w4.heap.size w4 (w4.alloc (.cells #[.pointer p2] 109)) := (Below.refl _ _).alloc (Nat.le_refl _) _
  replace k3 := (k3.ext hb4).ext hbA
  replace k4 := (k4.ext hb4).ext hbA
  replace k5 := (k5.ext hb4).ext hbA
  replace k6 := (k6.ext hb4).ext hbA
  replace k7 := (k7.ext hb4).ext hbA
  replace k8 := (k8.ext hb4).ext hbA
  have k10 := Blk.new w4 109 #[.pointer p2]
  have HB5 := hide (HB4.out.trans (hbA.mono HB4.out.size))
  have HBA4 := hide hbA
  have HD3 := hide (HD'.out.below HB3.out)
  clear hbA hc4 hb4 x0 x1 x2
  have K3 := hide k3
  have K4 := hide k4
  have K5 := hide k5
  have K8 := hide k8
  have K10 := hide k10
  obtain ⟨-, x0, x1, x2, -⟩ := blk3 k3
  obtain ⟨-, y0, y1, y2, -⟩ := blk3 k4
  obtain ⟨-, c5, -⟩ := blk1 k5
  obtain ⟨l6, c6, f6⟩ := blk1 k6
  obtain ⟨l7, c7, f7⟩ := blk1 k7
  clear k3 k4 k5 k8 k10
  rcases hvs : schB s with _ | _
  · rw [hvs] at HC2
    have HV : Hid (dfR s t q = ([], 2)) := hide (by unfold dfR; rw [hvs, Bool.false_and]; rfl)
    clear hvs
    gi_wp2_with fail
    have hR6 := (k6.set_ 0 (.slice none 0 0)).far (p := ⟨w.heap.size + 1 + 1 + 1 + 1, 0, none⟩) (by simp only []; omega) (.int .i64 2)
    have hR7 := (k7.far (p := ⟨w.heap.size + 1 + 1 + 1, 0, none⟩) (by simp only []; omega) (.slice none 0 0)).set_ 0 (.int .i64 2)
    have hbz := (HB5.out.setCell (p := ⟨w.heap.size + 1 + 1 + 1, 0, none⟩) (by simp only []; omega) (.slice none 0 0)).setCell (p := ⟨w.heap.size + 1 + 1 + 1 + 1, 0, none⟩) (by simp only []; omega) (.int .i64 2)
    generalize (((w4.alloc (.cells #[.pointer p2] 109)).setCell ⟨w.heap.size + 1 + 1 + 1, 0, none⟩ (.slice none 0 0)).setCell ⟨w.heap.size + 1 + 1 + 1 + 1, 0, none⟩ (.int .i64 2)) = wz at hR6 hR7 hbz ⊢
    have q6 : wz.cell? ⟨w.heap.size + 1 + 1 + 1, 0, none⟩ = some (.slice none 0 0) := by rw [hR6.cell]; rfl
    have q7 : wz.cell? ⟨w.heap.size + 1 + 1 + 1 + 1, 0, none⟩ = some (.int .i64 2) := by rw [hR7.cell]; rfl
    refine ⟨.tuple #[.slice none 0 0, .int .i64 2], by simp [results, Tryd.results32, go_sem, q6, q7], ?_⟩
    rw [HV.out]
    exact ⟨_, rfl, OwnJ.nil _ _, hbz⟩
  rcases hvt : schB t with _ | _
  · have HV : Hid (dfR s t q = ([], 2)) := hide (by unfold dfR; rw [hvs, hvt, Bool.and_false]; rfl)
    rw [hvt] at HC4
    clear hvs hvt
    gi_wp2_with fail
    have hR6 := (k6.set_ 0 (.slice none 0 0)).far (p := ⟨w.heap.size + 1 + 1 + 1 + 1, 0, none⟩) (by simp only []; omega) (.int .i64 2)
    have hR7 := (k7.far (p := ⟨w.heap.size + 1 + 1 + 1, 0, none⟩) (by simp only []; omega) (.slice none 0 0)).set_ 0 (.int .i64 2)
    have hbz := (HB5.out.setCell (p := ⟨w.heap.size + 1 + 1 + 1, 0, none⟩) (by simp only []; omega) (.slice none 0 0)).setCell (p := ⟨w.heap.size + 1 + 1 + 1 + 1, 0, none⟩) (by simp only []; omega) (.int .i64 2)
    generalize (((w4.alloc (.cells #[.pointer p2] 109)).setCell ⟨w.heap.size + 1 + 1 + 1, 0, none⟩ (.slice none 0 0)).setCell ⟨w.heap.size + 1 + 1 + 1 + 1, 0, none⟩ (.int .i64 2)) = wz at hR6 hR7 hbz ⊢
    have q6 : wz.cell? ⟨w.heap.size + 1 + 1 + 1, 0, none⟩ = some (.slice none 0 0) := by rw [hR6.cell]; rfl
    have q7 : wz.cell? ⟨w.heap.size + 1 + 1 + 1 + 1, 0, none⟩ = some (.int .i64 2) := by rw [hR7.cell]; rfl
    refine ⟨.tuple #[.slice none 0 0, .int .i64 2], by simp [results, Tryd.results32, go_sem, q6, q7], ?_⟩
    rw [HV.out]
    exact ⟨_, rfl, OwnJ.nil _ _, hbz⟩
  obtain ⟨C1, S1, e1, hp1, hcode1⟩ := HC2.out hvs
  obtain ⟨C2, S2, e2, hp2, hcode2⟩ := HC4.out hvt
  subst hp1
  subst hp2
  have HOK1 := hide (schB_ok hvs)
  have HOK2 := hide (schB_ok hvt)
  have HVV : Hid ((schB s && schB t) = true) := hide (by rw [hvs, hvt]; rfl)
  have HCR1 := hide ((((hcode1.cr HD1.out).below HBA.out).below HB34.out).below HBA4.out)
  have HCR2 := hide ((hcode2.cr HD3.out).below HBA4.out)
  have HFA := hide (HD.out.fs)
  have HFB := hide (HD'.out.fs)
  have K6 := hide (And.intro k6 k7)
  clear hcode1 hcode2 hvs hvt HC2 HC4 HOP HOP' HB1 HB2 HB3 HBA HB34 HBA4 HD1 HD3 HB4
  obtain ⟨M, hM⟩ : ∃ M, min Q Q' = M := ⟨_, rfl⟩
  have hM14 : 1 ≤ M ∧ M ≤ 4 := by
    have h1 := HOK1.out.q1
    have h2 := HOK1.out.q4
    have h3 := HOK2.out.q1
    have h4 := HOK2.out.q4
    rw [HN.out.2.2] at h1 h2
    rw [HN'.out.2.2] at h3 h4
    omega
  have w5 : IntKind.i64.wrap (M - 1) = M - 1 := IntWalk.i64_in _ (by omega)
  have HM := hide hM
  have HWT := within_any q 0 (M - 1) (w4.alloc (.cells #[.pointer (some ⟨C2, 0, none⟩)] 109))
  simp only [wb] at HWT
  by_cases hq : 0 ≤ q ∧ q ≤ M - 1
  rotate_left
  · rw [decide_eq_false hq] at HWT
    have HV : Hid (dfR s t q = ([], 3)) := hide (by unfold dfR; rw [if_pos HVV.out, if_neg]; rw [HN.out.2.2, HN'.out.2.2, HM.out]; exact hq)
    have HWT := hide HWT
    clear hq
    gi_wp2_with fail
    refine (hwd HWT.out).mono ?_
    rintro e _ ⟨rfl, rfl⟩
    gi_wp2_with fail
    have hR6 := (k6.set_ 0 (.slice none 0 0)).far (p := ⟨w.heap.size + 1 + 1 + 1 + 1, 0, none⟩) (by simp only []; omega) (.int .i64 3)
    have hR7 := (k7.far (p := ⟨w.heap.size + 1 + 1 + 1, 0, none⟩) (by simp only []; omega) (.slice none 0 0)).set_ 0 (.int .i64 3)
    have hbz := (HB5.out.setCell (p := ⟨w.heap.size + 1 + 1 + 1, 0, none⟩) (by simp only []; omega) (.slice none 0 0)).setCell (p := ⟨w.heap.size + 1 + 1 + 1 + 1, 0, none⟩) (by simp only []; omega) (.int .i64 3)
    generalize (((w4.alloc (.cells #[.pointer (some ⟨C2, 0, none⟩)] 109)).setCell ⟨w.heap.size + 1 + 1 + 1, 0, none⟩ (.slice none 0 0)).setCell ⟨w.heap.size + 1 + 1 + 1 + 1, 0, none⟩ (.int .i64 3)) = wz at hR6 hR7 hbz ⊢
    have q6 : wz.cell? ⟨w.heap.size + 1 + 1 + 1, 0, none⟩ = some (.slice none 0 0) := by rw [hR6.cell]; rfl
    have q7 : wz.cell? ⟨w.heap.size + 1 + 1 + 1 + 1, 0, none⟩ = some (.int .i64 3) := by rw [hR7.cell]; rfl
    refine ⟨.tuple #[.slice none 0 0, .int .i64 3], by simp [results, Tryd.results32, go_sem, q6, q7], ?_⟩
    rw [HV.out]
    exact ⟨_, rfl, OwnJ.nil _ _, hbz⟩
  rw [decide_eq_true hq] at HWT
  have HQQ := hide hq
  have HWT := hide HWT
  clear hq
  gi_wp2_with fail
  refine (hwd HWT.out).mono ?_
  rintro e _ ⟨rfl, rfl⟩
  have HEQ : Calls Tryd.prog 65 #[.slice d.fa nf d.fc, .slice d'.fa nf' d'.fc] (w4.alloc (.cells #[.pointer (some ⟨C2, 0, none⟩)] 109)) fun e w' => e = .returned (.bool (decide (s.fs = t.fs))) ∧ Below (w4.alloc (.cells #[.pointer (some ⟨C2, 0, none⟩)] 109)).heap.size (w4.alloc (.cells #[.pointer (some ⟨C2, 0, none⟩)] 109)) w' := by
    have h5 := HOK1.out.nf5
    have := equalI_any d.fa d'.fa d.fc d'.fc s.fs t.fs (w4.alloc (.cells #[.pointer (some ⟨C2, 0, none⟩)] 109)) (by unfold maxLen; omega) ((ER.below HFA.out HB5.out (Nat.le_refl _)).more HB5.out.size) ((ER.below HFB.out HB5.out (Nat.le_refl _)).more HB5.out.size)
    rw [HN.out.1, HN'.out.1] at this
    exact this
  by_cases hfe : s.fs = t.fs
  rotate_left
  · rw [decide_eq_false hfe] at HEQ
    have HV : Hid (dfR s t q = ([], 4)) := hide (by unfold dfR; rw [if_pos HVV.out, if_pos (by rw [HN.out.2.2, HN'.out.2.2, HM.out]; exact HQQ.out), if_neg hfe])
    have HEQ := hide HEQ
    clear hfe
    gi_wp2_with fail
    refine (hwd HEQ.out).mono ?_
    rintro e w6 ⟨rfl, hb6⟩
    obtain ⟨k6, k7⟩ := K6.out
    replace k6 := k6.ext hb6
    replace k7 := k7.ext hb6
    have HB6 := hide (HB5.out.trans (hb6.mono HB5.out.size))
    obtain ⟨l6, c6, f6⟩ := blk1 k6
    obtain ⟨l7, c7, f7⟩ := blk1 k7
    clear hb6
    gi_wp2_with fail
    have hR6 := (k6.set_ 0 (.slice none 0 0)).far (p := ⟨w.heap.size + 1 + 1 + 1 + 1, 0, none⟩) (by simp only []; omega) (.int .i64 4)
    have hR7 := (k7.far (p := ⟨w.heap.size + 1 + 1 + 1, 0, none⟩) (by simp only []; omega) (.slice none 0 0)).set_ 0 (.int .i64 4)
    have hbz := (HB6.out.setCell (p := ⟨w.heap.size + 1 + 1 + 1, 0, none⟩) (by simp only []; omega) (.slice none 0 0)).setCell (p := ⟨w.heap.size + 1 + 1 + 1 + 1, 0, none⟩) (by simp only []; omega) (.int .i64 4)
    generalize ((w6.setCell ⟨w.heap.size + 1 + 1 + 1, 0, none⟩ (.slice none 0 0)).setCell ⟨w.heap.size + 1 + 1 + 1 + 1, 0, none⟩ (.int .i64 4)) = wz at hR6 hR7 hbz ⊢
    have q6 : wz.cell? ⟨w.heap.size + 1 + 1 + 1, 0, none⟩ = some (.slice none 0 0) := by rw [hR6.cell]; rfl
    have q7 : wz.cell? ⟨w.heap.size + 1 + 1 + 1 + 1, 0, none⟩ = some (.int .i64 4) := by rw [hR7.cell]; rfl
    refine ⟨.tuple #[.slice none 0 0, .int .i64 4], by simp [results, Tryd.results32, go_sem, q6, q7], ?_⟩
    rw [HV.out]
    exact ⟨_, rfl, OwnJ.nil _ _, hbz⟩
  rw [decide_eq_true hfe] at HEQ
  have HEQ := hide HEQ
  have HFE := hide hfe
  clear hfe
  gi_wp2_with fail
  refine (hwd HEQ.out).mono ?_
  rintro e w6 ⟨rfl, hb6⟩
  have HB6 := hide (HB5.out.trans (hb6.mono HB5.out.size))
  have K8 := hide (K8.out.ext hb6)
  have K10 := hide (K10.out.ext hb6)
  have K5 := hide (K5.out.ext hb6)
  have K6 := hide (And.intro (K6.out.1.ext hb6) (K6.out.2.ext hb6))
  have HCR1 := hide (HCR1.out.below hb6)
  have HCR2 := hide (HCR2.out.below hb6)
  obtain ⟨b10, hb10⟩ : ∃ x, w4.heap.size = x := ⟨_, rfl⟩
  rw [hb10] at K10 ⊢
  clear hb6 k6 k7 l6 l7 c6 c7 f6 f7 x0 x1 x2 y0 y1 y2 c5 HEQ HWT HB5 hb10 K3 K4 hM w5
  obtain ⟨-, c8, -⟩ := blk1 K8.out
  obtain ⟨-, c10, -⟩ := blk1 K10.out
  gi_wp2_with fail
  refine (hwd (cases_any C1 w6)).mono ?_
  rintro e w7 ⟨rfl, rfl⟩
  gi_wp2_with fail
  have hbA : Below w6.heap.size w6 (w6.alloc (.cells #[.pointer (some ⟨C1, 0, none⟩)] 109)) := (Below.refl _ _).alloc (Nat.le_refl _) _
  have hCi : CiR (w6.alloc (.cells #[.pointer (some ⟨C1, 0, none⟩)] 109)) w6.heap.size C1 d.fa nf d.fc s.fs := by
    have hc := HCR1.out.below hbA
    have h0 := hc.c0
    rw [HN.out.1] at h0
    refine ⟨(blk1 (Blk.new w6 109 #[.pointer (some ⟨C1, 0, none⟩)])).2.1, h0, fun k hk => ?_⟩
    obtain ⟨b, off, h1, -, h2⟩ := VR1.at_ hc.scr.fs (k := k) (by rw [HN.out.1]; exact hk)
    exact ⟨b, off, h1, h2⟩
  have hB7 := HB6.out.trans (hbA.mono HB6.out.size)
  have k5 := K5.out.ext hbA
  have k6 := K6.out.1.ext hbA
  have k7 := K6.out.2.ext hbA
  have k8 := K8.out.ext hbA
  have k10 := K10.out.ext hbA
  have hcr1 := HCR1.out.below hbA
  have hcr2 := HCR2.out.below hbA
  have hnf5 : nf ≤ 5 := by have := HOK1.out.nf5; rw [HN.out.1] at this; exact this
  have hnf1 : 1 ≤ nf := by have := HOK1.out.nf1; rw [HN.out.1] at this; exact this
  clear K5 K6 K8 K10 HCR1 HCR2 HB6 c8 c10
  generalize (w6.alloc (.cells #[.pointer (some ⟨C1, 0, none⟩)] 109)) = w7 at hbA hCi hB7 k5 k6 k7 k8 k10 hcr1 hcr2 ⊢
  generalize w6.heap.size = P at hCi ⊢
  clear hbA
  have hst := cases_seq F (9 - 1) hF hro (by omega) P C1 d.fa nf d.fc s.fs w7 hCi (fun k hk => fsB_at HOK1.out.fs k (by rw [HN.out.1]; exact hk)) hnf5 hnf1
  refine wpIn_rangeFunc_mem hro (by omega) (gf := 80) (lb := #[.pointer (some ⟨P, 0, none⟩)]) rfl (hF _) (enters_of Tryd.func80 (by kernel_rfl) rfl)
    hst (fun x W W' h hk => hk.blk h) (Below.refl _ _) (fun _ => rfl)
    (DfI s t q w7)
    (DfX s t q w)
    ?hI ?hIx ⟨fun y hy => absurd hy (by simp), Below.refl _ _⟩ ?a1 ?hassign ?hbody ?hdone ?hstop
  case hI =>
    rintro pre W W' row ⟨h1, h2⟩ hg hr
    exact ⟨h1, h2.grown hg h2.size hr⟩
  case hIx =>
    rintro c pre W W' row ⟨rfl, pre', x, rfl, h1, h2, v, h3, h4, h5, h6⟩ hg hr
    have hr' := fun r e => (hr r e).2
    exact ⟨rfl, pre', x, rfl, h1, h2, v, h3.keptN hg hr', h4.keptN hg hr', ownN h5 hg hr', h6.trans ⟨hg.os, hg.tape, hg.output, hg.size, fun k hk => hg.block k (by have := h6.size; omega) (fun e => by have := (hr k e.symm).1; have := hB7.size; omega)⟩⟩
  case hassign =>
    intro l x W K hK
    gi_wp2_with fail
    exact hK
  case hbody =>
    rintro l pre x W ⟨h1, h2⟩ hR hlt
    have hlt2 := hR.lt
    have HLI : Hid (∀ W', Below W.heap.size W W' → LI W' W'.heap.size (some ⟨x.2, 0, none⟩) (clL s.fs x.1)) := hide fun W' hB => fun hn => by
      have hR' := hR.ext hB
      refine ⟨x.2, 0, rfl, hR'.lt, fun k i hk hi => ?_⟩
      rw [clL_len, HN.out.1] at hk
      obtain rfl : i = 0 := by omega
      rw [show 0 + k * 1 + 0 = k by omega, hR'.cell]
      unfold csV
      rw [rowV_get _ _ hk]
      dsimp only
      rw [clL_at s.fs x.1 (by rw [HN.out.1]; exact hk), HN.out.1]
    have hdg : ∀ k, k < nf → 0 ≤ (clL s.fs x.1).getD k 0 ∧ (clL s.fs x.1).getD k 0 ≤ 62 := fun k hk => by
      rw [clL_at s.fs x.1 (by rw [HN.out.1]; exact hk)]
      have h5 : ∀ j, j < s.fs.length → 1 ≤ s.fs.getD j 0 ∧ s.fs.getD j 0 ≤ 4 := fun j hj => fsB_at HOK1.out.fs j hj
      have h6 := dg_bd (fs := s.fs) (n := s.fs.length) x.1 (fun j hj => by have := h5 j hj; unfold chF; omega) k (by rw [HN.out.1]; exact hk)
      have h7 := h5 k (by rw [HN.out.1]; exact hk)
      have h8 : (chF s.fs k : Int) = s.fs.getD k 0 := by unfold chF; omega
      omega
    obtain ⟨⟨a1, a2, a3⟩, hr1⟩ : ∃ r, dcF s (stF s) (clL s.fs x.1) q = r := ⟨_, rfl⟩
    obtain ⟨⟨b1, b2, b3⟩, hr2⟩ : ∃ r, dcF t (stF t) (clL s.fs x.1) q = r := ⟨_, rfl⟩
    have hva : vdF s q x.1 = (a1, a2) := by unfold vdF; rw [hr1]
    have hvb : vdF t q x.1 = (b1, b2) := by unfold vdF; rw [← HFE.out, hr2]
    have HC1 : Hid (∀ W', Below W.heap.size W W' → Calls Tryd.prog 64 #[.pointer (some ⟨C1, 0, none⟩), .slice (some ⟨x.2, 0, none⟩) nf nf, .int .i64 q] W' (DcPost W' (a1, a2, a3))) := hide fun W' hB => by
      have := decide_any C1 d S1 e1 s (stF s) (some ⟨x.2, 0, none⟩) nf (clL s.fs x.1) q W' ((hcr1.below h2).below hB) (fun k y => Nat.lt_trans (stF_lt HOK1.out.fs k y) (by decide)) HOK1.out.nr (by rw [clL_len, HN.out.1]; exact hnf5) (fun k hk => hdg k (by rw [clL_len, HN.out.1] at hk; exact hk)) (HLI.out W' hB)
      rw [clL_len, HN.out.1, hr1] at this
      exact this
    have HC2 : Hid (∀ W', Below W.heap.size W W' → Calls Tryd.prog 64 #[.pointer (some ⟨C2, 0, none⟩), .slice (some ⟨x.2, 0, none⟩) nf nf, .int .i64 q] W' (DcPost W' (b1, b2, b3))) := hide fun W' hB => by
      have := decide_any C2 d' S2 e2 t (stF t) (some ⟨x.2, 0, none⟩) nf (clL s.fs x.1) q W' ((hcr2.below h2).below hB) (fun k y => Nat.lt_trans (stF_lt HOK2.out.fs k y) (by decide)) HOK2.out.nr (by rw [clL_len, HN.out.1]; exact hnf5) (fun k hk => hdg k (by rw [clL_len, HN.out.1] at hk; exact hk)) (HLI.out W' hB)
      rw [clL_len, HN.out.1, hr2] at this
      exact this
    have HV := hide (And.intro hva hvb)
    have HH1 := hide h1
    have HH2 := hide h2
    have HB7 := hide hB7
    have G5 := hide (k5.ext h2)
    have G6 := hide (k6.ext h2)
    have G7 := hide (k7.ext h2)
    have G8 := hide (k8.ext h2)
    have G10 := hide (k10.ext h2)
    clear hva hvb hr1 hr2 hdg h1 h2 hR k5 k6 k7 k8 k10 hcr1 hcr2 hCi hst hlt
    obtain ⟨-, c8, -⟩ := blk1 G8.out
    obtain ⟨-, c5, -⟩ := blk1 G5.out
    gi_wp2_with fail
    refine (CallsIn.inRound l (hwd (HC1.out W (Below.refl _ _)))).mono ?_
    rintro e w9 ⟨v9, rfl, ho9, hb9⟩
    obtain ⟨A9, n9, rfl⟩ := own_shape ho9
    dsimp only
    have B9 := hide (hb9.alloc hb9.size (.cells #[.int .i64 a1, .int .i64 a2] 117))
    obtain ⟨-, z10, -⟩ := blk1 (G10.out.ext (hb9.alloc hb9.size (.cells #[.int .i64 a1, .int .i64 a2] 117)))
    obtain ⟨-, z5, -⟩ := blk1 (G5.out.ext (hb9.alloc hb9.size (.cells #[.int .i64 a1, .int .i64 a2] 117)))
    gi_wp2_with fail
    refine (CallsIn.inRound l (hwd (HC2.out _ B9.out))).mono ?_
    rintro e w11 ⟨v11, rfl, ho11, hb11⟩
    obtain ⟨A11, n11, rfl⟩ := own_shape ho11
    dsimp only
    have V1 := (Blk.new w9 117 #[.int .i64 a1, .int .i64 a2]).ext hb11
    have hbB := hb11.alloc hb11.size (.cells #[.int .i64 b1, .int .i64 b2] 117)
    obtain ⟨-, va0, va1, -⟩ := blk2 (V1.alloc (.cells #[.int .i64 b1, .int .i64 b2] 117))
    have BE := hide (B9.out.trans (hbB.mono B9.out.size))
    have HCLN : Hid (∀ W', Below W.heap.size W W' → Calls Tryd.prog 66 #[.slice (some ⟨x.2, 0, none⟩) nf nf] W' (fun e w' => ∃ v, e = .returned v ∧ OwnJ w' W'.heap.size v (clL s.fs x.1) ∧ Below W'.heap.size W' w')) := hide fun W' hB => by
      have := cloneI_any (some ⟨x.2, 0, none⟩) nf (clL s.fs x.1) W' (by rw [clL_len, HN.out.1]; omega) (HLI.out W' hB)
      rw [clL_len, HN.out.1] at this
      exact this
    clear hbB V1 hb11 ho11 hb9 ho9 z10 z5 c8 c5 HC1 HC2 HLI hB7
    by_cases e1 : a1 = b1
    · have e1' : (a1 == b1) = true := by rw [e1]; exact beq_self_eq_true _
      by_cases e2 : a2 = b2
      · have e2' : (a2 == b2) = true := by rw [e2]; exact beq_self_eq_true _
        have HE := hide (show vdF s q x.1 = vdF t q x.1 by rw [HV.out.1, HV.out.2, e1, e2])
        clear e1 e2
        gi_wp2_with fail
        refine ⟨keepsO BE.out, KC.of_below BE.out, fun y hy => ?_, HH2.out.trans (BE.out.mono HH2.out.size)⟩
        rcases List.mem_append.1 hy with h | h
        · exact HH1.out y h
        · rw [List.mem_singleton.1 h]; exact HE.out
      · have e2' : (a2 == b2) = false := by rw [beq_eq_false_iff_ne]; exact e2
        have HE := hide (show vdF s q x.1 ≠ vdF t q x.1 by rw [HV.out.1, HV.out.2]; intro h; injection h with h1 h2; exact e2 h2)
        clear e1 e2
        gi_wp2_with fail
        refine (CallsIn.inRound l (hwd (HCLN.out _ BE.out))).mono ?_
        rintro e w12 ⟨v12, rfl, ho12, hb12⟩
        obtain ⟨A12, n12, hv12⟩ := own_shape ho12
        rw [clL_len, HN.out.1] at hv12
        subst hv12
        have BF := hide (BE.out.trans (hb12.mono BE.out.size))
        have G6' := G6.out.ext BF.out
        have G7' := G7.out.ext BF.out
        obtain ⟨l6, c6, f6⟩ := blk1 G6'
        obtain ⟨l7, c7, f7⟩ := blk1 G7'
        have hR6 := (G6'.set_ 0 (.slice A12 nf n12)).far (p := ⟨w.heap.size + 1 + 1 + 1 + 1, 0, none⟩) (by simp only []; omega) (.int .i64 0)
        have hR7 := (G7'.far (p := ⟨w.heap.size + 1 + 1 + 1, 0, none⟩) (by simp only []; omega) (.slice A12 nf n12)).set_ 0 (.int .i64 0)
        have hBF := HB7.out.trans (HH2.out.trans (BF.out.mono HH2.out.size) |>.mono HB7.out.size)
        have hbz := (hBF.setCell (p := ⟨w.heap.size + 1 + 1 + 1, 0, none⟩) (by simp only []; omega) (.slice A12 nf n12)).setCell (p := ⟨w.heap.size + 1 + 1 + 1 + 1, 0, none⟩) (by simp only []; omega) (.int .i64 0)
        have hoz := World.ownsRow.kept (World.ownsRow.kept ho12 (grownBy_setC w12 (w.heap.size + 1 + 1 + 1) 0 (.slice A12 nf n12)) (.inr (own_blk_ne ho12 G6' (by decide)))) (grownBy_setC _ (w.heap.size + 1 + 1 + 1 + 1) 0 (.int .i64 0)) (.inr (own_blk_ne ho12 G7' (by decide)))
        have hko := ((keepsO BF.out).trans (KeepsOthers.setCell w12 ⟨w.heap.size + 1 + 1 + 1, 0, none⟩ (.slice A12 nf n12))).trans (KeepsOthers.setCell _ ⟨w.heap.size + 1 + 1 + 1 + 1, 0, none⟩ (.int .i64 0))
        clear G6' G7' ho12 hb12 hBF
        gi_wp2_with fail
        refine ⟨hko, rfl, pre, x, rfl, HH1.out, ?_, _, hR6, hR7, ownMono hoz (by have h1 := HB7.out.size; have h2 := HH2.out.size; have h3 := BE.out.size; omega), hbz⟩
        exact HE.out
    · have e1' : (a1 == b1) = false := by rw [beq_eq_false_iff_ne]; exact e1
      have HE := hide (show vdF s q x.1 ≠ vdF t q x.1 by rw [HV.out.1, HV.out.2]; intro h; injection h with h1 h2; exact e1 h1)
      clear e1
      gi_wp2_with fail
      refine (CallsIn.inRound l (hwd (HCLN.out _ BE.out))).mono ?_
      rintro e w12 ⟨v12, rfl, ho12, hb12⟩
      obtain ⟨A12, n12, hv12⟩ := own_shape ho12
      rw [clL_len, HN.out.1] at hv12
      subst hv12
      have BF := hide (BE.out.trans (hb12.mono BE.out.size))
      have G6' := G6.out.ext BF.out
      have G7' := G7.out.ext BF.out
      obtain ⟨l6, c6, f6⟩ := blk1 G6'
      obtain ⟨l7, c7, f7⟩ := blk1 G7'
      have hR6 := (G6'.set_ 0 (.slice A12 nf n12)).far (p := ⟨w.heap.size + 1 + 1 + 1 + 1, 0, none⟩) (by simp only []; omega) (.int .i64 0)
      have hR7 := (G7'.far (p := ⟨w.heap.size + 1 + 1 + 1, 0, none⟩) (by simp only []; omega) (.slice A12 nf n12)).set_ 0 (.int .i64 0)
      have hBF := HB7.out.trans (HH2.out.trans (BF.out.mono HH2.out.size) |>.mono HB7.out.size)
      have hbz := (hBF.setCell (p := ⟨w.heap.size + 1 + 1 + 1, 0, none⟩) (by simp only []; omega) (.slice A12 nf n12)).setCell (p := ⟨w.heap.size + 1 + 1 + 1 + 1, 0, none⟩) (by simp only []; omega) (.int .i64 0)
      have hoz := World.ownsRow.kept (World.ownsRow.kept ho12 (grownBy_setC w12 (w.heap.size + 1 + 1 + 1) 0 (.slice A12 nf n12)) (.inr (own_blk_ne ho12 G6' (by decide)))) (grownBy_setC _ (w.heap.size + 1 + 1 + 1 + 1) 0 (.int .i64 0)) (.inr (own_blk_ne ho12 G7' (by decide)))
      have hko := ((keepsO BF.out).trans (KeepsOthers.setCell w12 ⟨w.heap.size + 1 + 1 + 1, 0, none⟩ (.slice A12 nf n12))).trans (KeepsOthers.setCell _ ⟨w.heap.size + 1 + 1 + 1 + 1, 0, none⟩ (.int .i64 0))
      clear G6' G7' ho12 hb12 hBF
      gi_wp2_with fail
      refine ⟨hko, rfl, pre, x, rfl, HH1.out, ?_, _, hR6, hR7, ownMono hoz (by have h1 := HB7.out.size; have h2 := HH2.out.size; have h3 := BE.out.size; omega), hbz⟩
      exact HE.out
  case hdone =>
    rintro D xs W hD hxs ⟨h1, h2⟩ hK
    have hv : dfR s t q = ([], 7) := dfR_none HVV.out (by rw [HN.out.2.2, HN'.out.2.2, HM.out]; exact HQQ.out) HFE.out (by rw [HN.out.1]; exact dfK_none (dfK_all hxs h1))
    have HV := hide hv
    replace k6 := k6.ext h2
    replace k7 := k7.ext h2
    obtain ⟨l6, c6, f6⟩ := blk1 k6
    obtain ⟨l7, c7, f7⟩ := blk1 k7
    have hBW := hB7.trans (h2.mono hB7.size)
    clear hv h1 h2 hst hCi k5 k8 k10 hcr1 hcr2 hxs
    gi_wp2_with fail
    have hK' := ((KeepsOthers.setCell W ⟨w.heap.size + 1 + 1 + 1, 0, none⟩ (.slice none 0 0)).trans (KeepsOthers.setCell _ ⟨w.heap.size + 1 + 1 + 1 + 1, 0, none⟩ (.int .i64 7))).same D _ hK rfl
    have hR6 := (k6.set_ 0 (.slice none 0 0)).far (p := ⟨w.heap.size + 1 + 1 + 1 + 1, 0, none⟩) (by simp only []; omega) (.int .i64 7)
    have hR7 := (k7.far (p := ⟨w.heap.size + 1 + 1 + 1, 0, none⟩) (by simp only []; omega) (.slice none 0 0)).set_ 0 (.int .i64 7)
    have hbz := (hBW.setCell (p := ⟨w.heap.size + 1 + 1 + 1, 0, none⟩) (by simp only []; omega) (.slice none 0 0)).setCell (p := ⟨w.heap.size + 1 + 1 + 1 + 1, 0, none⟩) (by simp only []; omega) (.int .i64 7)
    generalize ((W.setCell ⟨w.heap.size + 1 + 1 + 1, 0, none⟩ (.slice none 0 0)).setCell ⟨w.heap.size + 1 + 1 + 1 + 1, 0, none⟩ (.int .i64 7)) = wz at hR6 hR7 hbz hK' ⊢
    refine ⟨by simp, .inl ⟨_, _, rfl, run_takeDeferred hK', ?_⟩⟩
    have hgp := grownBy_putObj' wz D (.deferred none)
    have q6 : (wz.putObj D (.deferred none)).cell? ⟨w.heap.size + 1 + 1 + 1, 0, none⟩ = some (.slice none 0 0) := by rw [(hR6.keptN hgp (fun r e => by cases e; exact ⟨_, hK', rfl⟩)).cell]; rfl
    have q7 : (wz.putObj D (.deferred none)).cell? ⟨w.heap.size + 1 + 1 + 1 + 1, 0, none⟩ = some (.int .i64 7) := by rw [(hR7.keptN hgp (fun r e => by cases e; exact ⟨_, hK', rfl⟩)).cell]; rfl
    refine ⟨.tuple #[.slice none 0 0, .int .i64 7], by simp [results, Tryd.results32, go_sem, q6, q7], ?_⟩
    rw [HV.out]
    exact ⟨_, rfl, OwnJ.nil _ _, hbz.trans (belowK_b (w := w) (Nat.le_refl _) _ D _ _ (by have := hB7.size; omega) hK' rfl rfl)⟩
  case hstop =>
    rintro D c pre W hD ⟨m, hm, hSp⟩ ⟨rfl, pre', x, rfl, h1, h2, v, h3, h4, h5, h6⟩ hK
    have hv : dfR s t q = (clL s.fs x.1, 0) := dfR_some HVV.out (by rw [HN.out.2.2, HN'.out.2.2, HM.out]; exact HQQ.out) HFE.out (by rw [HN.out.1]; exact dfK_last hm hSp h1 h2)
    have HV := hide hv
    clear hv h1 h2 hst hCi k5 k8 k10 k6 k7 hcr1 hcr2 hSp
    gi_wp2_with fail
    refine ⟨by simp, .inl ⟨_, _, rfl, run_takeDeferred hK, ?_⟩⟩
    have hgp := grownBy_putObj' W D (.deferred none)
    have hr' : ∀ r, some D = some r → ∃ o : Obj, W.heap[r]? = some o ∧ o.isCells = false := fun r e => by cases e; exact ⟨_, hK, rfl⟩
    have q6 : (W.putObj D (.deferred none)).cell? ⟨w.heap.size + 1 + 1 + 1, 0, none⟩ = some v := by rw [(h3.keptN hgp hr').cell]; rfl
    have q7 : (W.putObj D (.deferred none)).cell? ⟨w.heap.size + 1 + 1 + 1 + 1, 0, none⟩ = some (.int .i64 0) := by rw [(h4.keptN hgp hr').cell]; rfl
    obtain ⟨AV, cv, hav⟩ := own_shape h5
    subst hav
    refine ⟨.tuple #[.slice AV (clL s.fs x.1).length cv, .int .i64 0], by simp [results, Tryd.results32, go_sem, q6, q7], ?_⟩
    rw [HV.out]
    exact ⟨_, rfl, ownN h5 hgp hr', h6.trans (belowK_b (w := w) (Nat.le_refl _) _ D _ _ (by have := hB7.size; omega) hK rfl rfl)⟩
end Go.Proofs.YtmpegkojencbjaaDoor
/- School: the calls that are known, plain. -/
namespace Go.Proofs.YtmpegkojencbjaaDoor
open Go Go.RowKit Go.Shelf
set_option maxRecDepth 100000
def wOne : Wd := .mk #[111, 110, 101]
def wTwo : Wd := .mk #[116, 119, 111]
def wThree : Wd := .mk #[116, 104, 114, 101, 101]
def wFour : Wd := .mk #[102, 111, 117, 114]
def wLay : Wd := .mk #[108, 97, 121]
def wThe : Wd := .mk #[116, 104, 101]
def wRed : Wd := .mk #[114, 101, 100]
def wBricks : Wd := .mk #[98, 114, 105, 99, 107, 115]
theorem known_align : (textB [wOne, wTwo, wThree] && textB [wOne, wFour]) = true := by decide
theorem known_alL : alL [wOne, wTwo, wThree] 0 [wOne, wFour] = [⟨1, 1, wTwo, wFour⟩, ⟨2, 2, wThree, noW⟩] := by decide
theorem known_merge : mgR [wLay, wThe, wBricks] [wLay, wThe, wRed, wBricks] [wLay, wBricks] = ([wLay, wRed, wBricks], 0, 0) := by decide
def hdS : Sch := ⟨[2, 3], 1, [⟨[], 0, 200⟩, ⟨[(0, 2)], 0, 999⟩, ⟨[(1, 5)], 0, 395⟩]⟩
def ldS : Sch := ⟨[2, 3], 1, [⟨[], 0, 200⟩, ⟨[(0, 2)], 0, 999⟩]⟩
theorem known_schB : schB hdS = true := by decide
theorem known_schB2 : schB ldS = true := by decide
theorem known_dec1 : decR hdS [1, 1] 0 = (999, 0, [1]) := by decide
theorem known_dec2 : (decR hdS [1, 0] 0).2.1 = 110 := by decide
theorem known_rs : rsR [-1, 0, 0, 0] [-1, 5, 7, 7] = ([7, 5, 7, 7], 1, 0) := by decide
theorem known_df : dfR hdS ldS 0 = ([0, 0], 0) := by decide
theorem SR.new (W : World) (l : List Wd) : SR (W.alloc (.cells (strs l).toArray 9)) (W.alloc (.cells (strs l).toArray 9)).heap.size (some ⟨W.heap.size, 0, none⟩) l := fun _ => by
  refine ⟨W.heap.size, 0, rfl, by simp, fun k i hk hi => ?_⟩
  obtain rfl : i = 0 := by omega
  rw [show 0 + k * 1 + 0 = k by omega, (Blk.new W 9 (strs l).toArray).cell, List.getElem?_toArray, strs_at l hk]
theorem LI.new (W : World) (l : List Int) : LI (W.alloc (.cells (intJ l).toArray 3)) (W.alloc (.cells (intJ l).toArray 3)).heap.size (some ⟨W.heap.size, 0, none⟩) l := fun _ => by
  refine ⟨W.heap.size, 0, rfl, by simp, fun k i hk hi => ?_⟩
  obtain rfl : i = 0 := by omega
  rw [show 0 + k * 1 + 0 = k by omega, (Blk.new W 3 (intJ l).toArray).cell, List.getElem?_toArray, intJ_at l hk]
theorem SzOk.small {l : List Wd} (h : (decide (l.length ≤ 100) && l.all fun x => decide (x.size ≤ 100)) = true) : SzOk l := by
  rw [Bool.and_eq_true] at h
  have h1 := of_decide_eq_true h.1
  refine ⟨by unfold maxLen; omega, fun x hx => ?_⟩
  have h2 := List.all_eq_true.1 h.2 x hx
  have h3 := of_decide_eq_true h2
  unfold maxLen; omega
/-- where the school of a hundred lies -/
def hdD (b : Nat) : Ad_ := ⟨some ⟨b + 1, 0, none⟩, 2, some ⟨b + 1 + 1 + 1 + 1, 0, none⟩, 3, fun k => if k = 0 then none else if k = 1 then some ⟨b + 1 + 1, 0, none⟩ else some ⟨b + 1 + 1 + 1, 0, none⟩, fun k => if k = 0 then 0 else 1⟩
theorem hundred_any (w : World) : Calls Tryd.prog 48 #[] w fun e w' => e = .returned (scV (hdD w.heap.size) hdS) ∧ ScR w' w'.heap.size (hdD w.heap.size) hdS ∧ Below w.heap.size w w' := by
  go_enter Tryd.func48, Tryd.ntmps48
  go_wp2_with fail
  have b0 : Blk (((((w.alloc (.cells #[.slice (some ⟨w.heap.size + 1, 0, none⟩) 2 2, .int .i64 1, .slice (some ⟨w.heap.size + 1 + 1 + 1 + 1, 0, none⟩) 3 3] 47)).alloc (.cells #[.int .i64 2, .int .i64 3] 3)).alloc (.cells #[.int .i64 0, .int .i64 2] 76)).alloc (.cells #[.int .i64 1, .int .i64 5] 76)).alloc (.cells #[.slice none 0 0, .int .i64 0, .int .i64 200, .slice (some ⟨w.heap.size + 1 + 1, 0, none⟩) 1 1, .int .i64 0, .int .i64 999, .slice (some ⟨w.heap.size + 1 + 1 + 1, 0, none⟩) 1 1, .int .i64 0, .int .i64 395] 73)) w.heap.size 47 #[.slice (some ⟨w.heap.size + 1, 0, none⟩) 2 2, .int .i64 1, .slice (some ⟨w.heap.size + 1 + 1 + 1 + 1, 0, none⟩) 3 3] := ((((Blk.new w _ _).alloc _).alloc _).alloc _).alloc _
  have b1 : Blk (((((w.alloc (.cells #[.slice (some ⟨w.heap.size + 1, 0, none⟩) 2 2, .int .i64 1, .slice (some ⟨w.heap.size + 1 + 1 + 1 + 1, 0, none⟩) 3 3] 47)).alloc (.cells #[.int .i64 2, .int .i64 3] 3)).alloc (.cells #[.int .i64 0, .int .i64 2] 76)).alloc (.cells #[.int .i64 1, .int .i64 5] 76)).alloc (.cells #[.slice none 0 0, .int .i64 0, .int .i64 200, .slice (some ⟨w.heap.size + 1 + 1, 0, none⟩) 1 1, .int .i64 0, .int .i64 999, .slice (some ⟨w.heap.size + 1 + 1 + 1, 0, none⟩) 1 1, .int .i64 0, .int .i64 395] 73)) (w.heap.size + 1) 3 #[.int .i64 2, .int .i64 3] := by simpa using (((Blk.new (w.alloc (.cells #[.slice (some ⟨w.heap.size + 1, 0, none⟩) 2 2, .int .i64 1, .slice (some ⟨w.heap.size + 1 + 1 + 1 + 1, 0, none⟩) 3 3] 47)) 3 #[.int .i64 2, .int .i64 3]).alloc (.cells #[.int .i64 0, .int .i64 2] 76)).alloc (.cells #[.int .i64 1, .int .i64 5] 76)).alloc (.cells #[.slice none 0 0, .int .i64 0, .int .i64 200, .slice (some ⟨w.heap.size + 1 + 1, 0, none⟩) 1 1, .int .i64 0, .int .i64 999, .slice (some ⟨w.heap.size + 1 + 1 + 1, 0, none⟩) 1 1, .int .i64 0, .int .i64 395] 73)
  have b2 : Blk (((((w.alloc (.cells #[.slice (some ⟨w.heap.size + 1, 0, none⟩) 2 2, .int .i64 1, .slice (some ⟨w.heap.size + 1 + 1 + 1 + 1, 0, none⟩) 3 3] 47)).alloc (.cells #[.int .i64 2, .int .i64 3] 3)).alloc (.cells #[.int .i64 0, .int .i64 2] 76)).alloc (.cells #[.int .i64 1, .int .i64 5] 76)).alloc (.cells #[.slice none 0 0, .int .i64 0, .int .i64 200, .slice (some ⟨w.heap.size + 1 + 1, 0, none⟩) 1 1, .int .i64 0, .int .i64 999, .slice (some ⟨w.heap.size + 1 + 1 + 1, 0, none⟩) 1 1, .int .i64 0, .int .i64 395] 73)) (w.heap.size + 1 + 1) 76 #[.int .i64 0, .int .i64 2] := by simpa using ((Blk.new ((w.alloc (.cells #[.slice (some ⟨w.heap.size + 1, 0, none⟩) 2 2, .int .i64 1, .slice (some ⟨w.heap.size + 1 + 1 + 1 + 1, 0, none⟩) 3 3] 47)).alloc (.cells #[.int .i64 2, .int .i64 3] 3)) 76 #[.int .i64 0, .int .i64 2]).alloc (.cells #[.int .i64 1, .int .i64 5] 76)).alloc (.cells #[.slice none 0 0, .int .i64 0, .int .i64 200, .slice (some ⟨w.heap.size + 1 + 1, 0, none⟩) 1 1, .int .i64 0, .int .i64 999, .slice (some ⟨w.heap.size + 1 + 1 + 1, 0, none⟩) 1 1, .int .i64 0, .int .i64 395] 73)
  have b3 : Blk (((((w.alloc (.cells #[.slice (some ⟨w.heap.size + 1, 0, none⟩) 2 2, .int .i64 1, .slice (some ⟨w.heap.size + 1 + 1 + 1 + 1, 0, none⟩) 3 3] 47)).alloc (.cells #[.int .i64 2, .int .i64 3] 3)).alloc (.cells #[.int .i64 0, .int .i64 2] 76)).alloc (.cells #[.int .i64 1, .int .i64 5] 76)).alloc (.cells #[.slice none 0 0, .int .i64 0, .int .i64 200, .slice (some ⟨w.heap.size + 1 + 1, 0, none⟩) 1 1, .int .i64 0, .int .i64 999, .slice (some ⟨w.heap.size + 1 + 1 + 1, 0, none⟩) 1 1, .int .i64 0, .int .i64 395] 73)) (w.heap.size + 1 + 1 + 1) 76 #[.int .i64 1, .int .i64 5] := by simpa using (Blk.new (((w.alloc (.cells #[.slice (some ⟨w.heap.size + 1, 0, none⟩) 2 2, .int .i64 1, .slice (some ⟨w.heap.size + 1 + 1 + 1 + 1, 0, none⟩) 3 3] 47)).alloc (.cells #[.int .i64 2, .int .i64 3] 3)).alloc (.cells #[.int .i64 0, .int .i64 2] 76)) 76 #[.int .i64 1, .int .i64 5]).alloc (.cells #[.slice none 0 0, .int .i64 0, .int .i64 200, .slice (some ⟨w.heap.size + 1 + 1, 0, none⟩) 1 1, .int .i64 0, .int .i64 999, .slice (some ⟨w.heap.size + 1 + 1 + 1, 0, none⟩) 1 1, .int .i64 0, .int .i64 395] 73)
  have b4 : Blk (((((w.alloc (.cells #[.slice (some ⟨w.heap.size + 1, 0, none⟩) 2 2, .int .i64 1, .slice (some ⟨w.heap.size + 1 + 1 + 1 + 1, 0, none⟩) 3 3] 47)).alloc (.cells #[.int .i64 2, .int .i64 3] 3)).alloc (.cells #[.int .i64 0, .int .i64 2] 76)).alloc (.cells #[.int .i64 1, .int .i64 5] 76)).alloc (.cells #[.slice none 0 0, .int .i64 0, .int .i64 200, .slice (some ⟨w.heap.size + 1 + 1, 0, none⟩) 1 1, .int .i64 0, .int .i64 999, .slice (some ⟨w.heap.size + 1 + 1 + 1, 0, none⟩) 1 1, .int .i64 0, .int .i64 395] 73)) (w.heap.size + 1 + 1 + 1 + 1) 73 #[.slice none 0 0, .int .i64 0, .int .i64 200, .slice (some ⟨w.heap.size + 1 + 1, 0, none⟩) 1 1, .int .i64 0, .int .i64 999, .slice (some ⟨w.heap.size + 1 + 1 + 1, 0, none⟩) 1 1, .int .i64 0, .int .i64 395] := by
    simpa using Blk.new ((((w.alloc (.cells #[.slice (some ⟨w.heap.size + 1, 0, none⟩) 2 2, .int .i64 1, .slice (some ⟨w.heap.size + 1 + 1 + 1 + 1, 0, none⟩) 3 3] 47)).alloc (.cells #[.int .i64 2, .int .i64 3] 3)).alloc (.cells #[.int .i64 0, .int .i64 2] 76)).alloc (.cells #[.int .i64 1, .int .i64 5] 76)) 73 #[.slice none 0 0, .int .i64 0, .int .i64 200, .slice (some ⟨w.heap.size + 1 + 1, 0, none⟩) 1 1, .int .i64 0, .int .i64 999, .slice (some ⟨w.heap.size + 1 + 1 + 1, 0, none⟩) 1 1, .int .i64 0, .int .i64 395]
  have hB : Below w.heap.size w (((((w.alloc (.cells #[.slice (some ⟨w.heap.size + 1, 0, none⟩) 2 2, .int .i64 1, .slice (some ⟨w.heap.size + 1 + 1 + 1 + 1, 0, none⟩) 3 3] 47)).alloc (.cells #[.int .i64 2, .int .i64 3] 3)).alloc (.cells #[.int .i64 0, .int .i64 2] 76)).alloc (.cells #[.int .i64 1, .int .i64 5] 76)).alloc (.cells #[.slice none 0 0, .int .i64 0, .int .i64 200, .slice (some ⟨w.heap.size + 1 + 1, 0, none⟩) 1 1, .int .i64 0, .int .i64 999, .slice (some ⟨w.heap.size + 1 + 1 + 1, 0, none⟩) 1 1, .int .i64 0, .int .i64 395] 73)) := (((((Below.refl _ _).alloc (Nat.le_refl _) _).alloc (by simp) _).alloc (by simp only [World.size_alloc]; omega) _).alloc (by simp only [World.size_alloc]; omega) _).alloc (by simp only [World.size_alloc]; omega) _
  generalize (((((w.alloc (.cells #[.slice (some ⟨w.heap.size + 1, 0, none⟩) 2 2, .int .i64 1, .slice (some ⟨w.heap.size + 1 + 1 + 1 + 1, 0, none⟩) 3 3] 47)).alloc (.cells #[.int .i64 2, .int .i64 3] 3)).alloc (.cells #[.int .i64 0, .int .i64 2] 76)).alloc (.cells #[.int .i64 1, .int .i64 5] 76)).alloc (.cells #[.slice none 0 0, .int .i64 0, .int .i64 200, .slice (some ⟨w.heap.size + 1 + 1, 0, none⟩) 1 1, .int .i64 0, .int .i64 999, .slice (some ⟨w.heap.size + 1 + 1 + 1, 0, none⟩) 1 1, .int .i64 0, .int .i64 395] 73)) = w5 at b0 b1 b2 b3 b4 hB ⊢
  obtain ⟨-, q0, q1, q2, -⟩ := blk3 b0
  refine bodyPost_ret (v := .agg #[.slice (some ⟨w.heap.size + 1, 0, none⟩) 2 2, .int .i64 1, .slice (some ⟨w.heap.size + 1 + 1 + 1 + 1, 0, none⟩) 3 3]) (by simp [results, Tryd.results48, go_sem, q0, q1, q2]) rfl ⟨rfl, ⟨fun _ => ⟨w.heap.size + 1, 0, rfl, b1.lt, fun k i hk hi => ?_⟩, ⟨fun _ => ⟨w.heap.size + 1 + 1 + 1 + 1, 0, rfl, b4.lt, fun k i hk hi => ?_⟩, fun k hk => ?_⟩⟩, hB⟩
  · obtain rfl : i = 0 := by omega
    have hk : k < 2 := hk
    rw [b1.cell]
    rcases (by omega : k = 0 ∨ k = 1) with rfl | rfl <;> rfl
  · have hk : k < 3 := hk
    rw [b4.cell]
    rcases (by omega : k = 0 ∨ k = 1 ∨ k = 2) with rfl | rfl | rfl <;> rcases (by omega : i = 0 ∨ i = 1 ∨ i = 2) with rfl | rfl | rfl <;> rfl
  · have hk : k < 3 := hk
    rcases (by omega : k = 0 ∨ k = 1 ∨ k = 2) with rfl | rfl | rfl
    · exact fun h => absurd h (by decide)
    · refine fun _ => ⟨w.heap.size + 1 + 1, 0, rfl, b2.lt, fun k i hk hi => ?_⟩
      have hk : k < 1 := hk
      rw [b2.cell]
      obtain rfl : k = 0 := by omega
      rcases (by omega : i = 0 ∨ i = 1) with rfl | rfl <;> rfl
    · refine fun _ => ⟨w.heap.size + 1 + 1 + 1, 0, rfl, b3.lt, fun k i hk hi => ?_⟩
      have hk : k < 1 := hk
      rw [b3.cell]
      obtain rfl : k = 0 := by omega
      rcases (by omega : i = 0 ∨ i = 1) with rfl | rfl <;> rfl
end Go.Proofs.YtmpegkojencbjaaDoor
/- School: known. -/
namespace Go.Proofs.YtmpegkojencbjaaDoor
open List renaming getElem_toArray → glA, getElem_cons_zero → glB, getElem_cons_succ → glC, setIfInBounds_toArray → glD, set_cons_zero → glE, set_cons_succ → glF
open Go Go.RowKit Go.Shelf
set_option maxHeartbeats 8000000
set_option maxRecDepth 100000
theorem SR.newA {W : World} {b : Nat} (l : List Wd) (h : W.heap.size = b) : SR (W.alloc (.cells (strs l).toArray 9)) (W.alloc (.cells (strs l).toArray 9)).heap.size (some ⟨b, 0, none⟩) l := h ▸ SR.new W l
theorem LI.newA {W : World} {b : Nat} (l : List Int) (h : W.heap.size = b) : LI (W.alloc (.cells (intJ l).toArray 3)) (W.alloc (.cells (intJ l).toArray 3)).heap.size (some ⟨b, 0, none⟩) l := h ▸ LI.new W l
theorem known_a (W : World) : Calls Tryd.prog 17 #[.slice (some ⟨W.heap.size, 0, none⟩) 3 3, .slice (some ⟨W.heap.size + 1, 0, none⟩) 2 2] ((W.alloc (.cells (strs [wOne, wTwo, wThree]).toArray 9)).alloc (.cells (strs [wOne, wFour]).toArray 9)) fun e w' => ∃ A c, e = .returned (.tuple #[.slice A 2 c, .int .i64 0]) ∧ OwnE w' W.heap.size (.slice A 2 c) [⟨1, 1, wTwo, wFour⟩, ⟨2, 2, wThree, noW⟩] ∧ Below W.heap.size W w' := by
  have hB1 : Below (W.alloc (.cells (strs [wOne, wTwo, wThree]).toArray 9)).heap.size (W.alloc (.cells (strs [wOne, wTwo, wThree]).toArray 9)) ((W.alloc (.cells (strs [wOne, wTwo, wThree]).toArray 9)).alloc (.cells (strs [wOne, wFour]).toArray 9)) := (Below.refl _ _).alloc (Nat.le_refl _) _
  have hB0 : Below W.heap.size W ((W.alloc (.cells (strs [wOne, wTwo, wThree]).toArray 9)).alloc (.cells (strs [wOne, wFour]).toArray 9)) := ((Below.refl W.heap.size W).alloc (Nat.le_refl _) _).trans (hB1.mono (by simp))
  have s1 := (ER.below (SR.new W [wOne, wTwo, wThree]) hB1 (Nat.le_refl _)).more hB1.size
  have s2 := SR.newA (W := W.alloc (.cells (strs [wOne, wTwo, wThree]).toArray 9)) (b := W.heap.size + 1) [wOne, wFour] (World.size_alloc _ _)
  have h := Align_any (some ⟨W.heap.size, 0, none⟩) (some ⟨W.heap.size + 1, 0, none⟩) 3 2 [wOne, wTwo, wThree] [wOne, wFour] _ (SzOk.small (by decide)) (SzOk.small (by decide)) s1 s2
  refine h.mono ?_
  rintro e w' ⟨v, rfl, ho, hb⟩
  rw [known_align, if_pos rfl, known_alL] at ho
  obtain ⟨A, c, rfl⟩ := own_shape ho
  refine ⟨A, c, by rw [known_align]; rfl, ho.low (by simp; omega), hB0.trans (hb.mono hB0.size)⟩
theorem known_m (W : World) : Calls Tryd.prog 22 #[.slice (some ⟨W.heap.size, 0, none⟩) 3 3, .slice (some ⟨W.heap.size + 1, 0, none⟩) 4 4, .slice (some ⟨W.heap.size + 1 + 1, 0, none⟩) 2 2] (((W.alloc (.cells (strs [wLay, wThe, wBricks]).toArray 9)).alloc (.cells (strs [wLay, wThe, wRed, wBricks]).toArray 9)).alloc (.cells (strs [wLay, wBricks]).toArray 9)) fun e w' => ∃ A c, e = .returned (.tuple #[.slice A 3 c, .int .i64 0, .int .i64 0]) ∧ OwnS w' W.heap.size (.slice A 3 c) [wLay, wRed, wBricks] ∧ Below W.heap.size W w' := by
  have hB1 : Below (W.alloc (.cells (strs [wLay, wThe, wBricks]).toArray 9)).heap.size (W.alloc (.cells (strs [wLay, wThe, wBricks]).toArray 9)) ((W.alloc (.cells (strs [wLay, wThe, wBricks]).toArray 9)).alloc (.cells (strs [wLay, wThe, wRed, wBricks]).toArray 9)) := (Below.refl _ _).alloc (Nat.le_refl _) _
  have hB2 : Below ((W.alloc (.cells (strs [wLay, wThe, wBricks]).toArray 9)).alloc (.cells (strs [wLay, wThe, wRed, wBricks]).toArray 9)).heap.size ((W.alloc (.cells (strs [wLay, wThe, wBricks]).toArray 9)).alloc (.cells (strs [wLay, wThe, wRed, wBricks]).toArray 9)) (((W.alloc (.cells (strs [wLay, wThe, wBricks]).toArray 9)).alloc (.cells (strs [wLay, wThe, wRed, wBricks]).toArray 9)).alloc (.cells (strs [wLay, wBricks]).toArray 9)) := (Below.refl _ _).alloc (Nat.le_refl _) _
  have hB12 := hB1.trans (hB2.mono hB1.size)
  have hB0 : Below W.heap.size W (((W.alloc (.cells (strs [wLay, wThe, wBricks]).toArray 9)).alloc (.cells (strs [wLay, wThe, wRed, wBricks]).toArray 9)).alloc (.cells (strs [wLay, wBricks]).toArray 9)) := ((Below.refl W.heap.size W).alloc (Nat.le_refl _) _).trans (hB12.mono (by simp))
  have s1 := (ER.below (SR.new W [wLay, wThe, wBricks]) hB12 (Nat.le_refl _)).more hB12.size
  have s2 := (ER.below (SR.newA (W := W.alloc (.cells (strs [wLay, wThe, wBricks]).toArray 9)) (b := W.heap.size + 1) [wLay, wThe, wRed, wBricks] (World.size_alloc _ _)) hB2 (Nat.le_refl _)).more hB2.size
  have s3 := SR.newA (W := (W.alloc (.cells (strs [wLay, wThe, wBricks]).toArray 9)).alloc (.cells (strs [wLay, wThe, wRed, wBricks]).toArray 9)) (b := W.heap.size + 1 + 1) [wLay, wBricks] (by simp only [World.size_alloc])
  have h := Merge_any (some ⟨W.heap.size, 0, none⟩) (some ⟨W.heap.size + 1, 0, none⟩) (some ⟨W.heap.size + 1 + 1, 0, none⟩) 3 4 2 [wLay, wThe, wBricks] [wLay, wThe, wRed, wBricks] [wLay, wBricks] _ (SzOk.small (by decide)) (SzOk.small (by decide)) (SzOk.small (by decide)) s1 s2 s3 (Nat.le_refl _) (by unfold maxLen; decide)
  refine h.mono ?_
  rintro e w' ⟨v, rfl, ho, hb⟩
  rw [known_merge] at ho ⊢
  obtain ⟨A, c, rfl⟩ := own_shape ho
  refine ⟨A, c, rfl, ownMono ho (by simp; omega), hB0.trans (hb.mono hB0.size)⟩
theorem known_r (W : World) : Calls Tryd.prog 25 #[.slice (some ⟨W.heap.size, 0, none⟩) 4 4, .slice (some ⟨W.heap.size + 1, 0, none⟩) 4 4] ((W.alloc (.cells (intJ [-1, 0, 0, 0]).toArray 3)).alloc (.cells (intJ [-1, 5, 7, 7]).toArray 3)) fun e w' => ∃ A c, e = .returned (.tuple #[.slice A 4 c, .int .i64 1, .int .i64 0]) ∧ OwnJ w' W.heap.size (.slice A 4 c) [7, 5, 7, 7] ∧ Below W.heap.size W w' := by
  have hB1 : Below (W.alloc (.cells (intJ [-1, 0, 0, 0]).toArray 3)).heap.size (W.alloc (.cells (intJ [-1, 0, 0, 0]).toArray 3)) ((W.alloc (.cells (intJ [-1, 0, 0, 0]).toArray 3)).alloc (.cells (intJ [-1, 5, 7, 7]).toArray 3)) := (Below.refl _ _).alloc (Nat.le_refl _) _
  have hB0 : Below W.heap.size W ((W.alloc (.cells (intJ [-1, 0, 0, 0]).toArray 3)).alloc (.cells (intJ [-1, 5, 7, 7]).toArray 3)) := ((Below.refl W.heap.size W).alloc (Nat.le_refl _) _).trans (hB1.mono (by simp))
  have s1 := (ER.below (LI.new W [-1, 0, 0, 0]) hB1 (Nat.le_refl _)).more hB1.size
  have s2 := LI.newA (W := W.alloc (.cells (intJ [-1, 0, 0, 0]).toArray 3)) (b := W.heap.size + 1) [-1, 5, 7, 7] (World.size_alloc _ _)
  have h := Restore_any (some ⟨W.heap.size, 0, none⟩) (some ⟨W.heap.size + 1, 0, none⟩) 4 4 [-1, 0, 0, 0] [-1, 5, 7, 7] _ s1 s2
  refine h.mono ?_
  rintro e w' ⟨v, rfl, ho, hb⟩
  rw [known_rs] at ho ⊢
  obtain ⟨A, c, rfl⟩ := own_shape ho
  refine ⟨A, c, rfl, ownMono ho (by simp; omega), hB0.trans (hb.mono hB0.size)⟩
theorem known_d (b : Nat) (W : World) (hd : ScR W W.heap.size (hdD b) hdS) (x : Int) (r : Int × Int × List Int) (hr : decR hdS [1, x] 0 = r) : Calls Tryd.prog 39 #[scV (hdD b) hdS, .slice (some ⟨W.heap.size, 0, none⟩) 2 2, .int .i64 0] (W.alloc (.cells (intJ [1, x]).toArray 3)) (DePost W r) := by
  have hB1 : Below W.heap.size W (W.alloc (.cells (intJ [1, x]).toArray 3)) := (Below.refl _ _).alloc (Nat.le_refl _) _
  have h := Decide_any (hdD b) hdS (some ⟨W.heap.size, 0, none⟩) 2 [1, x] 0 (W.alloc (.cells (intJ [1, x]).toArray 3)) (hd.below hB1) (by unfold maxLen; decide) (by unfold maxLen; decide) (LI.new W [1, x])
  refine h.mono ?_
  rintro e w' ⟨v, rfl, ho, hb⟩
  rw [hr] at ho ⊢
  exact ⟨v, rfl, ownMono ho hB1.size, hB1.trans (hb.mono hB1.size)⟩
theorem OwnS.sr {W : World} {n0 : Nat} {A : Option Addr} {n c : Nat} {l : List Wd} (h : OwnS W n0 (.slice A n c) l) : n = l.length ∧ SR W W.heap.size A l := by
  obtain ⟨A', c', e⟩ := own_shape h
  injection e with e1 e2 e3
  subst e2
  refine ⟨rfl, fun hn => ?_⟩
  rcases h.2 with ⟨h1, h2⟩ | ⟨g, cap, cur, h1, h2, h3, h4, h5, h6, h7⟩
  · omega
  · injection h1 with hA
    subst hA
    have hg := (World.ownsRow.lt h g rfl).2
    refine ⟨g, 0, rfl, hg, fun k i hk hi => ?_⟩
    obtain rfl : i = 0 := by omega
    have hc := World.ownsRow.cells h (g := g) rfl k _ (strs_at l hk)
    have e1 : ((⟨g, 0, none⟩ : Addr).add k) = ⟨g, 0 + k * 1 + 0, none⟩ := by simp [Addr.add]; omega
    rw [e1] at hc
    exact hc
theorem known_f (b1 b2 : Nat) (W : World) (h1 : ScR W W.heap.size (hdD b1) hdS) (h2 : ScR W W.heap.size (hdD b2) hdS) : Calls Tryd.prog 32 #[scV (hdD b1) hdS, .agg #[.slice (some ⟨b2 + 1, 0, none⟩) 2 2, .int .i64 1, .slice (some ⟨b2 + 1 + 1 + 1 + 1, 0, none⟩) 2 3], .int .i64 0] W fun e w' => ∃ A c, e = .returned (.tuple #[.slice A 2 c, .int .i64 0]) ∧ OwnJ w' W.heap.size (.slice A 2 c) [0, 0] ∧ Below W.heap.size W w' := by
  have h3 : ScR W W.heap.size (hdD b2) ldS := by
    refine ⟨h2.fs, ⟨fun _ => ?_, fun k hk => ?_⟩⟩
    · obtain ⟨b, off, e1, e2, e3⟩ := h2.rs.row (by decide)
      refine ⟨b, off, e1, e2, fun k i hk hi => ?_⟩
      have hk : k < 2 := hk
      rw [e3 k i (by show k < 3; omega) hi]
      rcases (by omega : k = 0 ∨ k = 1) with rfl | rfl <;> rfl
    · have hk : k < 2 := hk
      have h := h2.rs.tests k (by show k < 3; omega)
      rcases (by omega : k = 0 ∨ k = 1) with rfl | rfl <;> exact h
  have h := Differ_any (hdD b1) (hdD b2) hdS ldS 0 W h1 h3 (by unfold maxLen; decide) (by unfold maxLen; decide) (by unfold maxLen; decide) (by unfold maxLen; decide)
  refine Calls.mono (show Calls Tryd.prog 32 #[scV (hdD b1) hdS, .agg #[.slice (some ⟨b2 + 1, 0, none⟩) 2 2, .int .i64 1, .slice (some ⟨b2 + 1 + 1 + 1 + 1, 0, none⟩) 2 3], .int .i64 0] W _ from h) ?_
  rintro e w' ⟨v, rfl, ho, hb⟩
  rw [known_df] at ho ⊢
  obtain ⟨A, c, rfl⟩ := own_shape ho
  exact ⟨A, c, rfl, ho, hb⟩
theorem known_any (w : World) : Calls Tryd.prog 15 #[] w fun e w' => e = .returned (.bool true) ∧ Below w.heap.size w w' := by
  go_enter Tryd.func15, Tryd.ntmps15
  go_wp2_with fail
  refine (known_a w).mono ?_
  rintro e w1 ⟨A1, c1, rfl, ho1, hb1⟩
  have O1 := hide ho1
  have B1 := hide hb1
  clear ho1 hb1
  go_wp2_with fail
  refine (known_m w1).mono ?_
  rintro e w2 ⟨A2, c2, rfl, ho2, hb2⟩
  have O1 := hide (O1.out.ext hb2)
  have O2 := hide ho2
  have B2 := hide (B1.out.trans (hb2.mono B1.out.size))
  clear ho2 hb2 B1
  go_wp2_with fail
  refine (known_r w2).mono ?_
  rintro e w3 ⟨A3, c3, rfl, ho3, hb3⟩
  have O1 := hide (O1.out.ext hb3)
  have O2 := hide (O2.out.ext hb3)
  have O3 := hide ho3
  have B3 := hide (B2.out.trans (hb3.mono B2.out.size))
  clear ho3 hb3 B2
  go_wp2_with fail
  refine (hundred_any w3).mono ?_
  rintro e w4 ⟨rfl, hsc, hb4⟩
  have O1 := hide (O1.out.ext hb4)
  have O2 := hide (O2.out.ext hb4)
  have O3 := hide (OwnJ.ext O3.out hb4)
  have B4 := hide (B3.out.trans (hb4.mono B3.out.size))
  have HSC := hide hsc
  clear hsc hb4 B3
  go_wp2_with fail
  refine (known_d w3.heap.size w4 HSC.out 1 _ known_dec1).mono ?_
  rintro e w5 ⟨v5, rfl, ho5, hb5⟩
  dsimp only at ho5 ⊢
  obtain ⟨A5, c5, rfl⟩ := own_shape ho5
  have O1 := hide (O1.out.ext hb5)
  have O2 := hide (O2.out.ext hb5)
  have O3 := hide (OwnJ.ext O3.out hb5)
  have O5 := hide ho5
  have B5 := hide (B4.out.trans (hb5.mono B4.out.size))
  clear ho5 hb5 B4 HSC
  go_wp2_with fail
  refine (hundred_any w5).mono ?_
  rintro e w6 ⟨rfl, hsc, hb6⟩
  have O1 := hide (O1.out.ext hb6)
  have O2 := hide (O2.out.ext hb6)
  have O3 := hide (OwnJ.ext O3.out hb6)
  have O5 := hide (OwnJ.ext O5.out hb6)
  have B6 := hide (B5.out.trans (hb6.mono B5.out.size))
  have HSC := hide hsc
  clear hsc hb6 B5
  go_wp2_with fail
  obtain ⟨⟨r1, r2, r3⟩, hr⟩ : ∃ r, decR hdS [1, 0] 0 = r := ⟨_, rfl⟩
  have hr2 : r2 = 110 := by have := known_dec2; rw [hr] at this; exact this
  subst hr2
  refine (known_d w5.heap.size w6 HSC.out 0 _ hr).mono ?_
  rintro e w7 ⟨v7, rfl, -, hb7⟩
  dsimp only
  have O1 := hide (O1.out.ext hb7)
  have O2 := hide (O2.out.ext hb7)
  have O3 := hide (OwnJ.ext O3.out hb7)
  have O5 := hide (OwnJ.ext O5.out hb7)
  have B7 := hide (B6.out.trans (hb7.mono B6.out.size))
  clear hb7 B6 HSC hr
  obtain ⟨eb, eo, rfl, -, x0, x1, x2, x3⟩ := (O1.out.edS).2.at_ (k := 1) (by decide) rfl
  obtain ⟨sb, so, rfl, -, y1⟩ := VR1.at_ (k := 1) (O2.out.sr).2 (by decide)
  replace x0 : w7.cell? ⟨eb, eo + 4, none⟩ = some (.int .i64 2) := x0
  replace x1 : w7.cell? ⟨eb, eo + 4 + 1, none⟩ = some (.int .i64 2) := x1
  replace x2 : w7.cell? ⟨eb, eo + 4 + 2, none⟩ = some (.string ⟨#[116, 104, 114, 101, 101]⟩) := x2
  replace x3 : w7.cell? ⟨eb, eo + 4 + 3, none⟩ = some (.string ⟨#[]⟩) := x3
  replace y1 : w7.cell? ⟨sb, so + 1, none⟩ = some (.string ⟨#[114, 101, 100]⟩) := y1
  go_upto_region 8 with fail
  clear x0 x1 x2 x3 y1
  go_wp2_with fail
  refine (hundred_any w7).mono ?_
  rintro e w8 ⟨rfl, hsc, hb8⟩
  have e8 : scV (hdD w7.heap.size) hdS = .agg #[.slice (some ⟨w7.heap.size + 1, 0, none⟩) 2 2, .int .i64 1, .slice (some ⟨w7.heap.size + 1 + 1 + 1 + 1, 0, none⟩) 3 3] := rfl
  rw [e8]
  have O3 := hide (OwnJ.ext O3.out hb8)
  have O5 := hide (OwnJ.ext O5.out hb8)
  have B8 := hide (B7.out.trans (hb8.mono B7.out.size))
  have HSC := hide hsc
  generalize w7.heap.size = b7 at HSC ⊢
  clear hsc hb8 B7 O1 O2 e8
  go_upto_region 10 with fail
  have hT := Blk.new w8 47 #[.slice (some ⟨b7 + 1, 0, none⟩) 2 2, .int .i64 1, .slice (some ⟨b7 + 1 + 1 + 1 + 1, 0, none⟩) 2 3]
  have hb9 : Below w8.heap.size w8 (w8.alloc (.cells #[.slice (some ⟨b7 + 1, 0, none⟩) 2 2, .int .i64 1, .slice (some ⟨b7 + 1 + 1 + 1 + 1, 0, none⟩) 2 3] 47)) := (Below.refl _ _).alloc (Nat.le_refl _) _
  have O3 := hide (OwnJ.ext O3.out hb9)
  have O5 := hide (OwnJ.ext O5.out hb9)
  have B9 := hide (B8.out.trans (hb9.mono B8.out.size))
  have HSC := hide (HSC.out.below hb9)
  clear hb9 B8
  generalize (w8.alloc (.cells #[.slice (some ⟨b7 + 1, 0, none⟩) 2 2, .int .i64 1, .slice (some ⟨b7 + 1 + 1 + 1 + 1, 0, none⟩) 2 3] 47)) = w9 at hT O3 O5 B9 HSC ⊢
  generalize w8.heap.size = T at hT ⊢
  have HS : Hid (∀ W, Below w9.heap.size w9 W → W.cell? ⟨T, 0, none⟩ = some (.slice (some ⟨b7 + 1, 0, none⟩) 2 2) ∧ W.cell? ⟨T, 1, none⟩ = some (.int .i64 1) ∧ W.cell? ⟨T, 2, none⟩ = some (.slice (some ⟨b7 + 1 + 1 + 1 + 1, 0, none⟩) 2 3)) := hide fun W h => (fun x => ⟨x.2.1, x.2.2.1, x.2.2.2.1⟩) (blk3 (hT.ext h))
  clear hT
  have Bd := hide ((Below.refl w9.heap.size w9).drew)
  refine wp_region_J (fun W : World => W.cell? ⟨T, 0, none⟩ = some (.slice (some ⟨b7 + 1, 0, none⟩) 2 2) ∧ W.cell? ⟨T, 1, none⟩ = some (.int .i64 1) ∧ W.cell? ⟨T, 2, none⟩ = some (.slice (some ⟨b7 + 1 + 1 + 1 + 1, 0, none⟩) 2 3)) (by kernel_rfl) ?_
  generalize w9.drew = wd at Bd ⊢
  refine wpAnyJ_take 1 (v := ?_) (by first | exact hF | exact wideFn) (HS.out _ Bd.out) rfl (by kernel_rfl) (by kernel_rfl) (by kernel_rfl) (by kernel_rfl) rfl ?_ (by first | exact fun _ _ _ h => h | exact fun _ _ _ h => hQ2 _ _ _ _ _ h) ?_
  rotate_left
  · intro W hSW
    simp only [glA, glB, glC]
    (try dsimp only at hSW)
    go_simp
    with_reducible rfl
  (try simp only [glA, glB, glC, Act.put, glD, glE, glF])
  refine wpAnyJ_one 0 rfl (by kernel_rfl) (fun K hK => ?_)
  simp only [glA, glB, glC]
  go_simp
  refine ⟨trivial, rfl, ?_⟩
  (with_reducible refine (callsIn_wide.2 (hundred_any wd)).mono ?_)
  rintro e w10 ⟨rfl, hsc10, hb10⟩
  have Be := hide (Bd.out.trans (hb10.mono Bd.out.size))
  dsimp only
  refine hK.out _ _ (fun _ => HS.out _ Be.out) ?_
  clear hK K
  (try simp only [glA, glB, glC, Act.put, glD, glE, glF])
  have HKF := hide (known_f wd.heap.size b7 w10 hsc10 ((HSC.out.below Bd.out).below hb10))
  clear hsc10
  refine wpAnyJ_one 2 rfl (by kernel_rfl) (fun K hK => ?_)
  simp only [glA, glB, glC]
  go_simp
  refine ⟨trivial, rfl, ?_⟩
  (with_reducible refine (callsIn_wide.2 HKF.out).mono ?_)
  rintro e w11 ⟨A6, c6, rfl, ho11, hb11⟩
  have Bf := hide (Be.out.trans (hb11.mono Be.out.size))
  dsimp only
  refine hK.out _ _ (fun _ => HS.out _ Bf.out) ?_
  clear hK K
  (try simp only [glA, glB, glC, Act.put, glD, glE, glF])
  refine wpAnyJ_take 3 (v := ?_) (by first | exact hF | exact wideFn) (HS.out _ Bf.out) rfl (by kernel_rfl) (by kernel_rfl) (by kernel_rfl) (by kernel_rfl) rfl ?_ (by first | exact fun _ _ _ h => h | exact fun _ _ _ h => hQ2 _ _ _ _ _ h) ?_
  rotate_left
  · intro W hSW
    simp only [glA, glB, glC]
    (try dsimp only at hSW)
    go_simp
    with_reducible rfl
  (try simp only [glA, glB, glC, Act.put, glD, glE, glF])
  refine wpAnyJ_take 4 (v := ?_) (by first | exact hF | exact wideFn) (HS.out _ Bf.out) rfl (by kernel_rfl) (by kernel_rfl) (by kernel_rfl) (by kernel_rfl) rfl ?_ (by first | exact fun _ _ _ h => h | exact fun _ _ _ h => hQ2 _ _ _ _ _ h) ?_
  rotate_left
  · intro W hSW
    simp only [glA, glB, glC]
    (try dsimp only at hSW)
    go_simp
    with_reducible rfl
  (try simp only [glA, glB, glC, Act.put, glD, glE, glF])
  refine wpAnyJ_take 5 (v := ?_) (by first | exact hF | exact wideFn) (HS.out _ Bf.out) rfl (by kernel_rfl) (by kernel_rfl) (by kernel_rfl) (by kernel_rfl) rfl ?_ (by first | exact fun _ _ _ h => h | exact fun _ _ _ h => hQ2 _ _ _ _ _ h) ?_
  rotate_left
  · intro W hSW
    simp only [glA, glB, glC]
    (try dsimp only at hSW)
    go_simp
    with_reducible rfl
  (try simp only [glA, glB, glC, Act.put, glD, glE, glF])
  refine wpAnyJ_take 6 (v := ?_) (by first | exact hF | exact wideFn) (HS.out _ Bf.out) rfl (by kernel_rfl) (by kernel_rfl) (by kernel_rfl) (by kernel_rfl) rfl ?_ (by first | exact fun _ _ _ h => h | exact fun _ _ _ h => hQ2 _ _ _ _ _ h) ?_
  rotate_left
  · intro W hSW
    simp only [glA, glB, glC]
    (try dsimp only at hSW)
    go_simp
    with_reducible rfl
  (try simp only [glA, glB, glC, Act.put, glD, glE, glF])
  refine wpAnyJ_take 7 (v := ?_) (by first | exact hF | exact wideFn) (HS.out _ Bf.out) rfl (by kernel_rfl) (by kernel_rfl) (by kernel_rfl) (by kernel_rfl) rfl ?_ (by first | exact fun _ _ _ h => h | exact fun _ _ _ h => hQ2 _ _ _ _ _ h) ?_
  rotate_left
  · intro W hSW
    simp only [glA, glB, glC]
    (try dsimp only at hSW)
    go_simp
    with_reducible rfl
  (try simp only [glA, glB, glC, Act.put, glD, glE, glF])
  refine wpAnyJ_done (by kernel_rfl) ?_
  have O3 := hide (OwnJ.ext O3.out Bf.out)
  have O5 := hide (OwnJ.ext O5.out Bf.out)
  have O6 := hide ho11
  have B11 := hide (B9.out.trans (Bf.out.mono B9.out.size))
  clear ho11 hb10 hb11 B9 Be Bf Bd HS HSC HKF
  obtain ⟨ab, ao, rfl, -, x0⟩ := VR1.at_ (k := 0) (O3.out.li).2 (by decide)
  obtain ⟨bb, bo, rfl, -, y0⟩ := VR1.at_ (k := 0) (O5.out.li).2 (by decide)
  obtain ⟨cb, co, hcc, -, z0⟩ := VR1.at_ (k := 0) (O6.out.li).2 (by decide)
  obtain ⟨cb', co', hcc', -, z1⟩ := VR1.at_ (k := 1) (O6.out.li).2 (by decide)
  subst hcc
  injection hcc' with hcc'
  injection hcc' with hcc1 hcc2
  subst hcc1
  subst hcc2
  replace x0 : w11.cell? ⟨ab, ao, none⟩ = some (.int .i64 7) := x0
  replace y0 : w11.cell? ⟨bb, bo, none⟩ = some (.int .i64 1) := y0
  replace z0 : w11.cell? ⟨cb, co, none⟩ = some (.int .i64 0) := z0
  replace z1 : w11.cell? ⟨cb, co + 1, none⟩ = some (.int .i64 0) := z1
  go_wp2_with fail
  go_ret
  exact ⟨rfl, B11.out⟩
end Go.Proofs.YtmpegkojencbjaaDoor
