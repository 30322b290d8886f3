/- Words that hang on no chapter: a range over an iterator that only yields the values of a list (a method value too), with a body that may write. -/
import Derived.Test.YtagjeeimglecnaaDoorFiringsB
import Derived.TacticsIn
import Derived.RangeFuncWrites
import Derived.RangeFuncFrom
import Derived.RangeFuncNested
import Derived.RangeFuncBound
import Derived.RangeFuncCalls
import Derived.RangeFuncLeaves
import Derived.Shelf.Abstract
import Derived.Shelf.RegionOpen
import Derived.OwnWalkIn
import Derived.TacticsInMore
import Derived.LoopNIn
import Derived.LoopIn
import Derived.RangeFuncBox
import Derived.Deep.MidRow
import Derived.Laws.Tables
import Derived.Maps.Own
import Derived.Maps.Views
import Derived.Maps.OwnSet
import Derived.DeepKeys4
set_option linter.unusedSimpArgs false
set_option linter.unusedVariables false
set_option linter.unnecessarySimpa false
namespace Go.Proofs.YtagjeeimglecnaaDoor
open Go Go.RowKit
set_option maxHeartbeats 4000000
set_option maxRecDepth 100000
/-- what such an iterator's call does, at whatever yield -/
def SeqL {α : Type} (F : Fence) (n : Nat) (P : Program) (g : Nat) (fs lb : Array Value) (encs : α → Array Value) (R : World → Prop) (L : List α) (w : World) : Prop :=
  ∀ (l : Nat) (J Jx : List α → World → Prop) (W : World), Below w.heap.size w W → (∀ pre W, J pre W → R W) →
    (∀ pre x W1, pre ++ [x] <+: L → J pre W1 → YieldAt F (n - 1) P l (encs x) W1 fun e W' =>
      (e = .returned (.bool true) ∧ J (pre ++ [x]) W') ∨ (e = .returned (.bool false) ∧ Jx (pre ++ [x]) W')) →
    J [] W →
    CallsIn F n P g (fs ++ #[.func (.yield l) #[] #[]] ++ lb) W fun e W' => (∃ v, e = .returned v) ∧ (J L W' ∨ ∃ pre, pre <+: L ∧ Jx pre W')
variable {F : Fence} {n : Nat} {P : Program}
theorem wpIn_rangeFunc_list {α : Type} {g : Operand} {ps : Array Tmp} {assign body : Code} {Q : Exit → Act → World → Prop} {a : Act} {w : World}
    (hro : F.round = none) (h1 : 1 ≤ n) {gf : Nat} {fs lb : Array Value} (hg : a.eval g = .func (.func gf) fs lb) (hFg : F.fn gf) (eg : ∀ args w, (callFunc gf args).run P w = .ok (.enter gf args) w)
    {encs : α → Array Value} {R : World → Prop} {L : List α} {w0 : World} (hseq : SeqL F (n - 1) P gf fs lb encs R L w0)
    (hb0 : Below w0.heap.size w0 w) (hps : ∀ x, (encs x).size = ps.size)
    (I : List α → World → Prop) (Ix : Code → List α → World → Prop) (hI : OwnFrom w.heap.size I) (hIR : ∀ pre W, I pre W → R W) (hIx : ∀ c, OwnFrom w.heap.size (Ix c)) (h0 : I [] w) (a₁ : α → Act)
    (hassign : ∀ (l : Nat) (x : α) (W : World) (K : Act → World → Prop), K (a₁ x) W →
      assign.wpIn (F.inRound l) (n - 1 - 1) P (Exit.then K (fun _ _ _ => False)) { tmps := (ps.zip (encs x)).foldl (fun t (p, v) => t.setIfInBounds p v) a.tmps, defers := [] } W)
    (hbody : ∀ (l : Nat) (pre : List α) (x : α) (W : World), pre ++ [x] <+: L → I pre W → body.wpIn (F.inRound l) (n - 1 - 1) P (ownPostG w.heap.size (fun _ _ => True) I Ix (pre ++ [x]) W) (a₁ x) W)
    (hdone : ∀ (D : Nat) (W : World), w.heap.size ≤ D → I L W → W.heap[D]? = some (.deferred (some [])) → Q .normal { a with defers := { target := .collected D, args := #[] } :: a.defers } W)
    (hstop : ∀ (D : Nat) (c : Code) (pre : List α) (W : World), w.heap.size ≤ D → pre <+: L → Ix c pre W → W.heap[D]? = some (.deferred (some [])) → c.wpIn F n P Q { a with defers := { target := .collected D, args := #[] } :: a.defers } W) :
    (Code.rangeFunc g ps assign body).wpIn F n P Q a w := by
  refine wpIn_rangeFunc ?_
  intro fn hfn
  rw [hro]
  obtain ⟨rec, hrec⟩ : ∃ rec : LoopState → Option Code → Loop, rec = fun st pe => { state := st, pending := pe, fn, tmps := a.tmps, params := ps, assign, body, defers := w.heap.size } := ⟨_, rfl⟩
  obtain ⟨W1, hW1⟩ : ∃ W1, (w.alloc (.deferred (some []))).alloc (.loop (rec .ready none)) = W1 := ⟨_, rfl⟩
  have hsz : W1.heap.size = w.heap.size + 2 := by rw [← hW1]; simp
  have hL1 : W1.heap[w.heap.size + 1]? = some (.loop (rec .ready none)) := by
    rw [← hW1]; have := World.alloc_heap_new (w.alloc (.deferred (some []))) (.loop (rec .ready none)); rwa [World.size_alloc] at this
  have hK1 : W1.heap[w.heap.size]? = some (.deferred (some [])) := by
    rw [← hW1]; exact (Below.heap_alloc _ _ _ (by simp)).trans (World.alloc_heap_new w _)
  have hI1 : I [] W1 := by rw [← hW1]; exact hI.alloc _ (hI.alloc _ h0)
  have hb1 : Below w0.heap.size w0 W1 := by
    rw [← hW1]; exact hb0.trans ((((Below.refl _ w).alloc (Nat.le_refl _) _).alloc (by simp) _).mono hb0.size)
  have hup : ∀ {row : Option Nat}, (∀ r, row = some r → W1.heap.size ≤ r) → ∀ r, row = some r → w.heap.size ≤ r := fun hr r e => by have := hr r e; omega
  have hst : ∀ {A B : World} {row : Option Nat} {k : Nat} {o : Obj}, A.grownBy B row → (∀ r, row = some r → W1.heap.size ≤ r) → k < w.heap.size + 2 → A.heap[k]? = some o → B.heap[k]? = some o := fun {A B row k o} hg hr hk h => by
    refine (hg.block k ?_ (fun e => ?_)).trans h
    · rcases Nat.lt_or_ge k A.heap.size with hl | hl
      · exact hl
      · rw [Array.getElem?_eq_none hl] at h; cases h
    · have := hr k e.symm; omega
  refine ⟨w.heap.size + 1, [{ target := .collected w.heap.size, args := #[] }], W1, { target := .fn (.func gf) lb, args := fs ++ #[.func (.yield (w.heap.size + 1)) #[] #[]] }, W1, gf,
    fs ++ #[.func (.yield (w.heap.size + 1)) #[] #[]] ++ lb, W1, ?_, ?_, ?_, ?_, fun _ => h1, ?_⟩
  · rw [← hW1, hrec]; exact run_enterLoop_outer _ _ _ _ _
  · simp only [resolve, hg]
    simp [go_sem]
  · intro f' hf'; simp [Target.leads] at hf'; subst hf'; exact hFg
  · simp [invoke, go_sem, eg]
  · refine (hseq (w.heap.size + 1)
      (fun pre W => I pre W ∧ W.heap[w.heap.size + 1]? = some (.loop (rec .ready none)) ∧ W.heap[w.heap.size]? = some (.deferred (some [])))
      (fun pre W => ∃ c, Ix c pre W ∧ W.heap[w.heap.size + 1]? = some (.loop (rec .done (some c))) ∧ W.heap[w.heap.size]? = some (.deferred (some [])))
      W1 hb1
      (fun pre W h => hIR pre W h.1) ?_ ⟨hI1, hL1, hK1⟩).mono ?_
    · rintro pre x W hlen ⟨hi, hl, hk⟩
      have hlt : w.heap.size + 1 < W.heap.size := (Array.getElem?_eq_some_iff.1 hl).1
      have hy := run_yield (P := P) (args := encs x) hl (by rw [hrec]; exact hps x)
      rw [hrec] at hy
      refine ⟨fn, _, assign, body, hy, roundIn_of_wpIn hfn (hassign _ x W _ ⟨_, run_beginRound hl (by rw [hrec]), ?_⟩)⟩
      have hl2 : (W.putObj (w.heap.size + 1) (.loop { rec .ready none with state := .busy })).heap[w.heap.size + 1]? = some (.loop { rec .ready none with state := .busy }) := World.putObj_heap_same hlt
      have hk2 : (W.putObj (w.heap.size + 1) (.loop { rec .ready none with state := .busy })).heap[w.heap.size]? = some (.deferred (some [])) := (World.putObj_heap_other (by omega)).trans hk
      refine wpIn_mono (hbody _ pre x _ hlen (hI.putObj _ hi (by omega) hl rfl)) ?_
      have fin : ∀ (jump : Option Code) (W3 : World), KeepsFrom w.heap.size (W.putObj (w.heap.size + 1) (.loop { rec .ready none with state := .busy })) W3 →
          (Instr.endRound (w.heap.size + 1) jump).run P W3 = .ok (.bool jump.isNone) (W3.putObj (w.heap.size + 1) (.loop (rec (if jump.isNone then .ready else .done) jump))) ∧
          W3.heap[w.heap.size + 1]? = some (.loop { rec .ready none with state := .busy }) ∧
          (W3.putObj (w.heap.size + 1) (.loop (rec (if jump.isNone then .ready else .done) jump))).heap[w.heap.size + 1]? = some (.loop (rec (if jump.isNone then .ready else .done) jump)) ∧
          (W3.putObj (w.heap.size + 1) (.loop (rec (if jump.isNone then .ready else .done) jump))).heap[w.heap.size]? = some (.deferred (some [])) := fun jump W3 hk3 => by
        have hl3 := hk3.same _ _ (by omega) hl2 rfl
        have := run_endRound (P := P) jump hl3
        rw [hrec] at this ⊢
        exact ⟨this, by rw [hrec] at hl3; exact hl3, World.putObj_heap_same (Array.getElem?_eq_some_iff.1 hl3).1, (World.putObj_heap_other (by omega)).trans (hk3.same _ _ (Nat.le_refl _) hk2 rfl)⟩
      rintro e a3 W3 hp
      cases e with
      | normal =>
        obtain ⟨hk3, hkp3, hi3⟩ := hp
        obtain ⟨hr, hl3, hl4, hk4⟩ := fin none W3 hk3
        exact ⟨_, _, hr, .inl ⟨rfl, hI.putObj _ hi3 (by omega) hl3 rfl, hl4, hk4⟩⟩
      | ret =>
        obtain ⟨hk3, hi3⟩ := hp
        obtain ⟨hr, hl3, hl4, hk4⟩ := fin (some .ret) W3 hk3
        exact ⟨_, _, hr, .inr ⟨rfl, .ret, (hIx _).putObj _ hi3 (by omega) hl3 rfl, hl4, hk4⟩⟩
      | exit id =>
        obtain ⟨hk3, hi3⟩ := hp
        obtain ⟨hr, hl3, hl4, hk4⟩ := fin (some (.exit id)) W3 hk3
        exact ⟨_, _, hr, .inr ⟨rfl, .exit id, (hIx _).putObj _ hi3 (by omega) hl3 rfl, hl4, hk4⟩⟩
      | goto t =>
        obtain ⟨hk3, hi3⟩ := hp
        obtain ⟨hr, hl3, hl4, hk4⟩ := fin (some (.goto t)) W3 hk3
        exact ⟨_, _, hr, .inr ⟨rfl, .goto t, (hIx _).putObj _ hi3 (by omega) hl3 rfl, hl4, hk4⟩⟩
      | panic ch => exact hp.elim
      | outgrown => exact hp.elim
    · rintro e W2 ⟨⟨v, rfl⟩, (⟨hi, hl, hk⟩ | ⟨pre, hSp, c, hi, hl, hk⟩)⟩
      · exact ⟨none, _, by have := run_endLoop (P := P) hl (by rw [hrec]; simp); rw [hrec] at this; exact this, hdone _ _ (Nat.le_refl _) (hI.putObj _ hi (by omega) hl rfl) ((World.putObj_heap_other (by omega)).trans hk)⟩
      · exact ⟨some c, _, by have := run_endLoop (P := P) hl (by rw [hrec]; simp); rw [hrec] at this; exact this, hstop _ c pre _ (Nat.le_refl _) hSp ((hIx c).putObj _ hi (by omega) hl rfl) ((World.putObj_heap_other (by omega)).trans hk)⟩
theorem wpListIn_append_run {ops : Array Oper} {rest : List Oper} {Q : Exit → Act → World → Prop} {o : Oper} {a : Act} {w w' : World} (hfn : ∀ f, F.fn f) (hgd : o.guard = none) (s x : Operand) (t : TypeId) {v u r : Value}
    (ho : o.op = .call { callee := .builtin .append, args := #[s, x], argTypes := #[t, t] }) (hs : a.eval s = v) (hx : a.eval x = u)
    (hrun : (Builtin.append_ #[t, t] o.type #[v, u]).run P w = .ok r w') (h : wpListIn F n P ops Q rest (a.put o.dst r) w') : wpListIn F n P ops Q (o :: rest) a w :=
  wpListIn_plain hgd fun _ hK => wpIn_append_run s x t hfn ho hs hx hrun (hK _ _ h)
end Go.Proofs.YtagjeeimglecnaaDoor
/- Rite: the iterator over a set; the list of a set. -/
namespace Go.Proofs.YtagjeeimglecnaaDoor
open Go Go.RowKit Go.Shelf
attribute [local go_sem] Oper.semAt_some
set_option maxHeartbeats 4000000
set_option maxRecDepth 100000
theorem low_bits {s k m : Nat} (h : s = 2 ^ k * (2 * m + 1)) : (∀ j, s.testBit j = if j < k + 1 then decide (j = k) else m.testBit (j - (k + 1))) ∧ ∀ j, (s - 1).testBit j = if j < k + 1 then decide (j < k) else m.testBit (j - (k + 1)) := by
  have hp : 0 < 2 ^ k := Nat.pow_pos (by decide)
  have h1 : s = 2 ^ (k + 1) * m + 2 ^ k := by
    rw [h, Nat.mul_add, Nat.pow_succ, Nat.mul_one, ← Nat.mul_assoc]
  have h2 : s - 1 = 2 ^ (k + 1) * m + (2 ^ k - 1) := by omega
  have l1 : 2 ^ k < 2 ^ (k + 1) := Nat.pow_lt_pow_right (by decide) (by omega)
  constructor
  · intro j
    rw [h1, Nat.testBit_two_pow_mul_add m l1]
    by_cases hj : j < k + 1
    · rw [if_pos hj, if_pos hj, Nat.testBit_two_pow]
      congr 1
      exact propext ⟨fun e => e.symm, fun e => e.symm⟩
    · rw [if_neg hj, if_neg hj]
  · intro j
    rw [h2, Nat.testBit_two_pow_mul_add m (show 2 ^ k - 1 < 2 ^ (k + 1) by omega)]
    by_cases hj : j < k + 1
    · rw [if_pos hj, if_pos hj, Nat.testBit_two_pow_sub_one]
    · rw [if_neg hj, if_neg hj]
theorem range_filter {p q : Nat → Bool} {k : Nat} (hk : p k = true) (hlo : ∀ j, j < k → p j = false) (hq : ∀ j, q j = (p j && decide (j ≠ k))) : ∀ n, k < n → (List.range n).filter p = k :: (List.range n).filter q := by
  intro n
  induction n with
  | zero => intro h; omega
  | succ n ih =>
    intro h
    rw [List.range_succ, List.filter_append, List.filter_append]
    by_cases e : k = n
    · subst e
      have e1 : (List.range k).filter p = [] := List.filter_eq_nil_iff.2 fun j hj => by rw [hlo j (List.mem_range.1 hj)]; simp
      have e2 : (List.range k).filter q = [] := List.filter_eq_nil_iff.2 fun j hj => by rw [hq, hlo j (List.mem_range.1 hj)]; simp
      rw [e1, e2, List.filter_cons_of_pos hk, List.filter_cons_of_neg (by rw [hq]; simp)]
      rfl
    · rw [ih (by omega)]
      have e1 : q n = p n := by rw [hq]; simp [show n ≠ k from fun h => e h.symm]
      have e2 : [n].filter q = [n].filter p := by
        simp only [List.filter_cons, List.filter_nil, e1]
      rw [e2]
      rfl
/-- the least of a set, and the set without it -/
theorem elS_step {s : Nat} (hs : s < 65536) (h0 : s ≠ 0) : elS s = Lib.ctz 16 s :: elS (s &&& (s - 1)) ∧ s &&& (s - 1) < s ∧ Lib.ctz 16 s < 16 := by
  obtain ⟨m, hm, hk⟩ := Lib.ctzFrom_spec 16 s (by omega) hs
  have e : Lib.ctz 16 s = Lib.ctzFrom 16 s := by simp [Lib.ctz, h0]
  rw [e]
  generalize Lib.ctzFrom 16 s = k at hm hk
  obtain ⟨b1, b2⟩ := low_bits hm
  have hq : ∀ j, (s &&& (s - 1)).testBit j = (s.testBit j && decide (j ≠ k)) := fun j => by
    rw [Nat.testBit_and, b1, b2]
    by_cases hj : j < k + 1
    · rw [if_pos hj, if_pos hj]
      by_cases h2 : j = k
      · subst h2; simp
      · simp [h2]
    · rw [if_neg hj, if_neg hj]
      simp
      omega
  refine ⟨?_, ?_, hk⟩
  · exact range_filter (by rw [b1, if_pos (by omega)]; simp) (fun j hj => by rw [b1, if_pos (by omega)]; simp; omega) hq 16 hk
  · have h1 : s &&& (s - 1) ≤ s - 1 := Nat.and_le_right
    omega
theorem all_in (F : Fence) (n : Nat) (hF : ∀ f, F.fn f) (hro : F.round = none) (hn : 1 ≤ n) (hwd : ∀ {n f args w R}, Calls Tryd.prog f args w R → CallsIn F n Tryd.prog f args w R) (l s : Nat) (L : List Nat) (J Jx : List Nat → World → Prop) (W : World) (hs : s < 65536) (hL : elS s = L)
    (hT : ∀ pre W, J pre W → TB W)
    (hY : ∀ pre (x : Nat) W1, pre ++ [x] <+: L → J pre W1 → YieldAt F (n - 1) Tryd.prog l #[.int .i64 x] W1 fun e W' =>
      (e = .returned (.bool true) ∧ J (pre ++ [x]) W') ∨ (e = .returned (.bool false) ∧ Jx (pre ++ [x]) W')) (h0 : J [] W) :
    CallsIn F n Tryd.prog 76 #[.int .u16 s, .func (.yield l) #[] #[]] W fun e W' => (∃ v, e = .returned v) ∧ (J L W' ∨ ∃ pre, pre <+: L ∧ Jx pre W') := by
  have HYY := hide hY
  have HT := hide hT
  have H0 := hide h0
  have HWD : Hid (∀ (n x : Nat) (w : World), x < 65536 → x ≠ 0 → TB w → CallsIn F n Tryd.prog 88 #[.int .u16 x] w fun e w' => e = .returned (.int .i64 (Lib.ctz 16 x : Nat)) ∧ w = w') := hide fun n x w h1 h2 h3 => hwd (tz16_any x w h1 h2 h3)
  clear hY hT h0 hwd
  refine callsIn_of_wp Tryd.func76 rfl (hF _) ?_ hro
  simp only [Tryd.ntmps76, List.size_toArray, List.length_cons, List.length_nil, Nat.reduceAdd, Nat.reduceSub, Array.replicate_succ, Array.replicate_zero, List.push_toArray, List.append_toArray, List.nil_append, List.cons_append]
  gi_wp2_with fail
  gi_loopw [0] (fun i wr => ∃ (s' : Nat) (pre : List Nat), s' < 65536 ∧ i = .int .u16 s' ∧ Hid (pre ++ elS s' = L ∧ J pre wr)) (fun i _ => (intOf i).toNat)
  case atStart => exact ⟨s, [], hs, rfl, hide ⟨hL, H0.out⟩⟩
  case round =>
    obtain ⟨s', pre, hs', rfl, HJ⟩ := hrel
    by_cases hz : s' = 0
    · subst hz
      have e0 : ((0 : Nat) : Int) = 0 := rfl
      have HL : Hid (pre = L) := hide (by have := HJ.out.1; rwa [show elS 0 = [] from rfl, List.append_nil] at this)
      gi_wp2_with fail
      go_end0
      exact ⟨⟨_, rfl⟩, .inl (by rw [← HL.out]; exact HJ.out.2)⟩
    · have hne : ((s' : Int) == 0) = false := by rw [beq_eq_false_iff_ne]; omega
      have hne2 : ((s' : Int) != 0) = true := by rw [bne_iff_ne]; omega
      obtain ⟨e1, e2, e3⟩ := elS_step hs' hz
      have HC := hide (fun n => HWD.out n s' wr hs' hz (HT.out _ _ HJ.out.2))
      obtain ⟨x, hx⟩ : ∃ x, Lib.ctz 16 s' = x := ⟨_, rfl⟩
      rw [hx] at HC e1 e3
      obtain ⟨t, ht⟩ : ∃ t, s' &&& (s' - 1) = t := ⟨_, rfl⟩
      rw [ht] at e1 e2
      have HE := hide e1
      have hpre : pre ++ [x] <+: L := ⟨elS t, by rw [← HJ.out.1, e1]; simp⟩
      obtain ⟨fn, tmps, assign, body, hy, hR⟩ := HYY.out pre x wr hpre HJ.out.2
      (try dsimp only at hy)
      have HR := hide hR
      have w1 : IntKind.u16.wrap ((s' : Int) - 1) = ((s' - 1 : Nat) : Int) := by
        rw [show ((s' : Int) - 1) = ((s' - 1 : Nat) : Int) by omega]
        exact wrap16 (by omega)
      have a1 : bits BinOp.and IntKind.u16 (s' : Int) ((s' - 1 : Nat) : Int) = (t : Int) := by rw [and16 hs' (by omega), ht]
      obtain ⟨z, hz2⟩ : ∃ z, ((s' - 1 : Nat) : Int) = z := ⟨_, rfl⟩
      rw [hz2] at w1 a1
      clear hR hx ht e1 hz2
      gi_wp2_with fail
      refine (HC.out _).mono ?_
      rintro e W2 ⟨rfl, rfl⟩
      gi_wp2_with fail
      refine HR.out.mono ?_
      rintro e W3 (⟨rfl, hJ3⟩ | ⟨rfl, hJx3⟩)
      · have HJ3 := hide hJ3
        clear hJ3
        gi_wp2_with fail
        go_roundw
        case rel => exact ⟨t, pre ++ [x], by omega, rfl, hide ⟨by rw [← HJ.out.1, HE.out]; simp, HJ3.out⟩⟩
        case measure => simp [intOf]; omega
      · have HJ3 := hide hJx3
        clear hJx3
        gi_wp2_with fail
        refine bodyPost_ret (results_none rfl _ _ _) rfl ?_
        exact ⟨⟨_, rfl⟩, .inr ⟨_, hpre, HJ3.out⟩⟩
theorem all_seq (F : Fence) (n : Nat) (hF : ∀ f, F.fn f) (hro : F.round = none) (hn : 1 ≤ n) (hwd : ∀ {n f args w R}, Calls Tryd.prog f args w R → CallsIn F n Tryd.prog f args w R) (s : Nat) (w : World) (hs : s < 65536) :
    SeqL F n Tryd.prog 76 #[.int .u16 s] #[] (fun x : Nat => #[.int .i64 x]) TB (elS s) w := fun l J Jx W _ hT hY h0 =>
  all_in F n hF hro hn hwd l s _ J Jx W hs rfl hT hY h0
end Go.Proofs.YtagjeeimglecnaaDoor
/- Rite: the list of a set, walked. -/
namespace Go.Proofs.YtagjeeimglecnaaDoor
open Go Go.RowKit Go.Shelf
attribute [local go_sem] Oper.semAt_some
set_option maxHeartbeats 4000000
set_option maxRecDepth 100000
/-- numbers, as they are listed -/
def ofN (l : List Nat) : List Int := l.map fun i : Nat => (i : Int)
theorem el_len (s : Nat) : (elS s).length ≤ 16 := by
  unfold elS
  exact Nat.le_trans (List.length_filter_le _ _) (by simp)
theorem grown_below {n0 : Nat} {w W W' : World} {row : Option Nat} (h : Below n0 w W) (hn : n0 ≤ W.heap.size) (hg : W.grownBy W' row) (hr : ∀ r, row = some r → n0 ≤ r) : Below n0 w W' :=
  h.grown hg hn hr
theorem list_any (s : Nat) (w : World) (hs : s < 65536) (hT : TB w) :
    Calls Tryd.prog 63 #[.int .u16 s] w fun e w' => ∃ v, e = .returned v ∧ OwnJ w' w.heap.size v (ofN (elS s)) ∧ Below w.heap.size w w' := by
  refine (callsIn_wide (n := 9)).1 ?_
  obtain ⟨F, hFw⟩ : ∃ F : Fence, F = Fence.wide := ⟨_, rfl⟩
  rw [← hFw]
  have hF : ∀ f, F.fn f := by rw [hFw]; exact fun _ => trivial
  have hro : F.round = none := by rw [hFw]; rfl
  have hwd : ∀ {n f args w R}, Calls Tryd.prog f args w R → CallsIn F n Tryd.prog f args w R := by rw [hFw]; exact fun h => callsIn_wide.2 h
  clear hFw
  have k0 : Blk (w.alloc (.cells #[.slice none 0 0] 34)) w.heap.size 34 #[.slice none 0 0] := Blk.new w _ _
  have k6 : Below w.heap.size w (w.alloc (.cells #[.slice none 0 0] 34)) := (Below.refl _ _).alloc (Nat.le_refl _) _
  have k7 : TB (w.alloc (.cells #[.slice none 0 0] 34)) := hT.ext k6
  have k8 : (w.alloc (.cells #[.slice none 0 0] 34)).heap.size = w.heap.size + 1 := by simp
  refine callsIn_of_wp_marks Tryd.func63 rfl (hF _) ?_ hro
  simp only [Tryd.ntmps63, List.size_toArray, List.length_cons, List.length_nil, Nat.reduceAdd, Nat.reduceSub, Array.replicate_succ, Array.replicate_zero, List.push_toArray, List.append_toArray, List.nil_append, List.cons_append]
  gi_wp2_with fail
  generalize (w.alloc (.cells #[.slice none 0 0] 34)) = W0 at k0 k6 k7 k8 ⊢
  have hst := all_seq F (9 - 1) hF hro (by omega) hwd s W0 hs
  refine wpIn_rangeFunc_list hro (by omega) (gf := 76) (fs := #[.int .u16 s]) (lb := #[]) rfl (hF _) (enters_of Tryd.func76 (by kernel_rfl) rfl)
    hst (Below.refl _ _) (fun _ => rfl)
    (fun pre W => ∃ A c, Blk W w.heap.size 34 #[.slice A pre.length c] ∧ OwnJ W w.heap.size (.slice A pre.length c) (ofN pre) ∧ TB W ∧ Below w.heap.size w W)
    (fun _ _ _ => False) ?hI (fun pre W h => h.choose_spec.choose_spec.2.2.1) (fun _ _ _ _ _ h _ _ => h) ⟨none, 0, k0, OwnJ.nil _ _, k7, k6⟩
    (fun x => { tmps := #[.int .u16 s, undef, .pointer (some ⟨w.heap.size, 0, none⟩), .int .i64 x, .int .u16 s, .func (.func 76) #[.int .u16 s] #[], .int .i64 x, undef, undef, undef, undef, undef], defers := [] }) ?hassign ?hbody ?hdone ?hstop
  case hI =>
    rintro pre W W' row ⟨A, c, h1, h2, h3, h6⟩ hg hr
    have hr' := fun r e => (hr r e).2
    have hb : Below w.heap.size w W' := h6.trans ⟨hg.os, hg.tape, hg.output, hg.size, fun k hk => hg.block k (by have := h6.size; omega) (fun e => by have := (hr k e.symm).1; omega)⟩
    exact ⟨A, c, h1.keptN hg hr', ownN h2 hg hr', hT.ext hb, hb⟩
  case hassign =>
    intro l x W K hK
    gi_wp2
    exact hK
  case hbody =>
    rintro l pre x W hpre ⟨A, c, h1, h2, h3, h6⟩
    obtain ⟨e1, e2, e3⟩ := blk1 h1
    have hlen : pre.length ≤ 16 := by
      have h := hpre.length_le
      have := el_len s
      simp at h
      omega
    have hol : (ofN pre).length = pre.length := by simp [ofN]
    obtain ⟨v', w', hrun, ho, hg⟩ := h2.push (x : Int) (by rw [hol]; omega) h6.size
    obtain ⟨A', c', rfl⟩ := own_shape ho
    rw [List.length_append, hol] at ho hrun
    have q : Boxed W w.heap.size 34 (.slice A pre.length c) := h1
    obtain ⟨q1, q2, q3, q4, q5⟩ := Boxed.appended (tmp := .cells #[.int .i64 x] 3) (size := 1) q (by decide) h2 h6.size (Nat.le_refl _) ho hg
    have eo : ofN (pre ++ [x]) = ofN pre ++ [(x : Int)] := by simp [ofN]
    obtain ⟨f1, f2, f3⟩ := blk1 (t := 34) q1
    have HRUN := hide hrun
    have HQ := hide (And.intro q2 (And.intro q3 (And.intro q4 q5)))
    have HP := hide (And.intro h3 h6)
    clear hrun q1 q2 q3 q4 q5 ho hg h1 h2 q hst k0 k6 k7 k8
    gi_wp2_with (gi_at_builtin; refine wpListIn_append_run (fun f => hF f) rfl (.tmp 7) (.tmp 9) 34 rfl rfl rfl HRUN.out ?_)
    have hb := HP.out.2.trans HQ.out.2.2.2
    have hl2 : (pre ++ [x]).length = pre.length + 1 := by simp
    show KeepsFrom _ _ _ ∧ True ∧ _
    dsimp only
    rw [hl2]
    refine ⟨HQ.out.2.2.1.from _, trivial, A', c', HQ.out.1, ?_, hT.ext hb, hb⟩
    rw [eo]
    unfold OwnJ
    rw [List.length_append, hol]
    have h9 := HQ.out.2.1
    rw [List.length_append, hol] at h9
    exact h9
  case hdone =>
    rintro D W hD ⟨A, c, h1, h2, h3, h6⟩ hK
    obtain ⟨e1, e2, e3⟩ := blk1 h1
    gi_wp2_with fail
    have hKq := (KeepsOthers.setCell W ⟨w.heap.size, 0, none⟩ (.slice A (elS s).length c)).same D _ hK rfl
    refine ⟨by simp, .inl ⟨_, _, rfl, run_takeDeferred hKq, ?_⟩⟩
    have hgp := grownBy_putObj' (W.setCell ⟨w.heap.size, 0, none⟩ (.slice A (elS s).length c)) D (.deferred none)
    have hP : Blk (W.setCell ⟨w.heap.size, 0, none⟩ (.slice A (elS s).length c)) w.heap.size 34 #[.slice A (elS s).length c] := by simpa using h1.set_ 0 (.slice A (elS s).length c)
    obtain ⟨f1, f2, f3⟩ := blk1 (hP.keptN hgp (fun r e => by cases e; exact ⟨_, hKq, rfl⟩))
    refine ⟨.slice A (elS s).length c, by simp [results, Tryd.results63, go_sem, f2], ?_⟩
    refine ⟨_, rfl, ownN (ownsRow_setCell_other h2 (own_blk_ne h2 h1 (by decide)) _) hgp (fun r e => by cases e; exact ⟨_, hKq, rfl⟩), (h6.setCell (p := ⟨w.heap.size, 0, none⟩) (Nat.le_refl _) _).trans (belowK_b (w := w) (Nat.le_refl _) _ D _ _ (by omega) hKq rfl rfl)⟩
  case hstop =>
    rintro D c pre W hD hSp h hK
    exact h.elim
end Go.Proofs.YtagjeeimglecnaaDoor
/- Rite: a rite and its book as they lie; settled, out. -/
namespace Go.Proofs.YtagjeeimglecnaaDoor
open Go Go.RowKit Go.Shelf
set_option maxHeartbeats 4000000
set_option maxRecDepth 100000
/-- where a rite's acts lie -/
structure Rad where
  A : Option Addr
  c : Nat
  na : Nat → Option Addr
  nc : Nat → Nat
  ia : Nat → Option Addr
  ic : Nat → Nat
def acV (a : Rac) (na : Option Addr) (nc : Nat) (ia : Option Addr) (ic : Nat) (i : Nat) : Value :=
  if i = 0 then .string a.nm else if i = 1 then .slice na a.nd.length nc else if i = 2 then .slice ia a.ins.length ic else if i = 3 then .int .i64 a.at_ else if i = 4 then .int .i64 a.fr else if i = 5 then .int .i64 a.to_ else .bool a.ex
/-- a rite that is read -/
structure RtR (w : World) (d : Rad) (r : Rit) : Prop where
  row : ER w w.heap.size 7 d.A r.n fun k i => acV (r.ac k) (d.na k) (d.nc k) (d.ia k) (d.ic k) i
  nd : ∀ k, k < r.n → LI w w.heap.size (d.na k) (r.ac k).nd
  ins : ∀ k, k < r.n → LI w w.heap.size (d.ia k) (r.ac k).ins
theorem RtR.ext {w w' : World} {d : Rad} {r : Rit} (h : RtR w d r) (hb : Below w.heap.size w w') : RtR w' d r :=
  ⟨(ER.below h.row hb (Nat.le_refl _)).more hb.size, fun k hk => (ER.below (h.nd k hk) hb (Nat.le_refl _)).more hb.size, fun k hk => (ER.below (h.ins k hk) hb (Nat.le_refl _)).more hb.size⟩
theorem RtR.at_ {w : World} {d : Rad} {r : Rit} (h : RtR w d r) {k : Nat} (hk : k < r.n) {a : Rac} (ha : r.ac k = a) :
    ∃ b off, d.A = some ⟨b, off, none⟩ ∧ b < w.heap.size ∧ w.cell? ⟨b, off + k * 7, none⟩ = some (.string a.nm) ∧ w.cell? ⟨b, off + k * 7 + 1, none⟩ = some (.slice (d.na k) a.nd.length (d.nc k)) ∧
      w.cell? ⟨b, off + k * 7 + 2, none⟩ = some (.slice (d.ia k) a.ins.length (d.ic k)) ∧ w.cell? ⟨b, off + k * 7 + 3, none⟩ = some (.int .i64 a.at_) ∧ w.cell? ⟨b, off + k * 7 + 4, none⟩ = some (.int .i64 a.fr) ∧
      w.cell? ⟨b, off + k * 7 + 5, none⟩ = some (.int .i64 a.to_) ∧ w.cell? ⟨b, off + k * 7 + 6, none⟩ = some (.bool a.ex) := by
  obtain ⟨b, off, hA, hlt, hc⟩ := h.row (by omega)
  subst ha
  exact ⟨b, off, hA, hlt, hc k 0 hk (by omega), hc k 1 hk (by omega), hc k 2 hk (by omega), hc k 3 hk (by omega), hc k 4 hk (by omega), hc k 5 hk (by omega), hc k 6 hk (by omega)⟩
/-- where a book's sets lie -/
structure Bad where
  pn : Option Addr
  pw : Option Addr
  pr : Option Addr
  pa : Option Addr
/-- a book that is read -/
structure BkR (w : World) (b : Nat) (d : Rad) (q : Bad) (r : Rit) : Prop where
  blk : Blk w b 133 #[.slice d.A r.n d.c, .int .i64 r.last, .int .i64 r.toil, .slice q.pn r.n r.n, .slice q.pw r.n r.n, .slice q.pr r.n r.n, .slice q.pa r.n r.n, .int .u16 (muS r : Nat)]
  rt : RtR w d r
  sn : ER w w.heap.size 1 q.pn r.n fun k _ => .int .u16 (seL (r.ac k).nd : Nat)
  sw : ER w w.heap.size 1 q.pw r.n fun k _ => .int .u16 (waS r k : Nat)
  sr : ER w w.heap.size 1 q.pr r.n fun k _ => .int .u16 (reS r k : Nat)
  sa : ER w w.heap.size 1 q.pa r.n fun k _ => .int .u16 (atS r k : Nat)
theorem BkR.ext {w w' : World} {b : Nat} {d : Rad} {q : Bad} {r : Rit} (h : BkR w b d q r) (hb : Below w.heap.size w w') : BkR w' b d q r :=
  ⟨h.blk.ext hb, h.rt.ext hb, (ER.below h.sn hb (Nat.le_refl _)).more hb.size, (ER.below h.sw hb (Nat.le_refl _)).more hb.size, (ER.below h.sr hb (Nat.le_refl _)).more hb.size, (ER.below h.sa hb (Nat.le_refl _)).more hb.size⟩
theorem bx8 {w : World} {p : Nat} {t : TypeId} {a b c d e f g h : Value} (k : Blk w p t #[a, b, c, d, e, f, g, h]) : p < w.heap.size ∧ w.cell? ⟨p, 0, none⟩ = some a ∧ w.cell? ⟨p, 1, none⟩ = some b ∧ w.cell? ⟨p, 2, none⟩ = some c ∧ w.cell? ⟨p, 3, none⟩ = some d ∧ w.cell? ⟨p, 4, none⟩ = some e ∧ w.cell? ⟨p, 5, none⟩ = some f ∧ w.cell? ⟨p, 6, none⟩ = some g ∧ w.cell? ⟨p, 7, none⟩ = some h :=
  ⟨k.lt, by rw [k.cell]; rfl, by rw [k.cell]; rfl, by rw [k.cell]; rfl, by rw [k.cell]; rfl, by rw [k.cell]; rfl, by rw [k.cell]; rfl, by rw [k.cell]; rfl, by rw [k.cell]; rfl⟩
theorem mkS_yes {p : Nat → Bool} {k : Nat} (h : p k = true) : mkS p (k + 1) = mkS p k ||| 2 ^ k := by rw [mkS, if_pos h]
theorem mkS_no {p : Nat → Bool} {k : Nat} (h : p k = false) : mkS p (k + 1) = mkS p k := by rw [mkS, if_neg (by rw [h]; decide)]
theorem waS_lt (r : Rit) (i : Nat) : waS r i < 65536 := mkS_lt _ 16
theorem p2_lt {k : Nat} (h : k < 16) : 2 ^ k < 65536 := by
  have : 2 ^ k ≤ 2 ^ 15 := Nat.pow_le_pow_right (by decide) (by omega)
  omega
/-- a set that grows bit by bit -/
theorem mk_or {p : Nat → Bool} {k : Nat} (hk : k < 16) (h : p k = true) : bits BinOp.or IntKind.u16 (mkS p k : Nat) ((2 ^ k : Nat) : Int) = ((mkS p (k + 1) : Nat) : Int) := by
  rw [mkS_yes h, or16 (lt16 (mkS_lt p k) (by omega)) (p2_lt hk)]
theorem settled_any (b : Nat) (d : Rad) (q : Bad) (r : Rit) (s : Nat) (w : World) (hr : RiOk r) (hs : s < 65536) (hB : BkR w b d q r) :
    Calls Tryd.prog 51 #[.pointer (some ⟨b, 0, none⟩), .int .u16 s] w fun e w' => e = .returned (.int .u16 (seS r s : Nat)) ∧ Below w.heap.size w w' := by
  have h10 := hr.n10
  have HR := hide hr
  have HSW := hide hB.sw
  obtain ⟨c9, c0, c1, c2, c3, c4, c5, c6, c7⟩ := bx8 hB.blk
  obtain ⟨n, hn⟩ : ∃ n, r.n = n := ⟨_, rfl⟩
  have HN := hide hn
  rw [hn] at c4 h10
  clear hB hr hn c0 c1 c2 c3 c5 c6 c7
  go_enter Tryd.func51, Tryd.ntmps51
  go_wp2_with fail
  go_loopw [4, 5, 6, 12] (fun a _ _ i wr => ∃ k : Nat, k ≤ n ∧ i = .int .i64 k ∧ a = .int .u16 (mkS (seB r s) k : Nat) ∧ Hid (Below w.heap.size w wr)) (fun _ _ _ i _ => n - (intOf i).toNat)
  case atStart => exact ⟨0, Nat.zero_le _, rfl, rfl, hide (Below.refl _ _)⟩
  case round =>
    obtain ⟨k, hk, rfl, rfl, HB⟩ := hrel
    have hst : IntKind.i64.wrap ((k : Int) + 1) = ((k + 1 : Nat) : Int) := by rw [IntWalk.i64_in _ (by omega)]; omega
    by_cases hlt : k < n
    · have hlt' : (k : Int) < (n : Int) := by omega
      obtain ⟨pb, po, hpw, hpl, hc⟩ := VR1.at_ HSW.out (show k < r.n by rw [HN.out]; exact hlt)
      have hpw2 := hpw
      have hc' : wr.cell? ⟨pb, po + k, none⟩ = some (.int .u16 (waS r k : Nat)) := (HB.out.cell (p := ⟨pb, po + k, none⟩) hpl).trans hc
      have a1 := and16 (waS_lt r k) hs
      have hse := wa_se HR.out (show k < r.n by rw [HN.out]; exact hlt) s hs
      rw [hpw]
      clear hc hpw hpw2
      cases hsb : seB r s k with
      | true =>
        have HSB := hide (mk_or (p := seB r s) (by omega) hsb)
        have hne : waS r k &&& s ≠ 0 := hse.2 hsb
        obtain ⟨z, hz⟩ : ∃ z, waS r k &&& s = z := ⟨_, rfl⟩
        rw [hz] at a1 hne
        have hne2 : ((z : Int) == 0) = false := by rw [beq_eq_false_iff_ne]; omega
        have hne3 : ((z : Int) != 0) = true := by rw [bne_iff_ne]; omega
        have HOF := hide (fun W => of1_any k W (by omega))
        clear hz hse hne hsb
        generalize mkS (seB r s) k = m at HSB ⊢
        obtain ⟨m2, hm2⟩ : ∃ x, mkS (seB r s) (k + 1) = x := ⟨_, rfl⟩
        rw [hm2] at HSB
        have HM2 := hide hm2
        clear hm2
        go_wp2_with fail
        refine (HOF.out _).mono ?_
        rintro e w1 ⟨rfl, hb1⟩
        replace HB := hide (HB.out.trans (hb1.mono HB.out.size))
        clear hb1 HOF
        obtain ⟨P, hP⟩ : ∃ P : Nat, 2 ^ k = P := ⟨_, rfl⟩
        rw [hP] at HSB ⊢
        have a2 := HSB.out
        go_wp2_with fail
        go_roundw
        case rel => exact ⟨k + 1, by omega, by go_num, by rw [HM2.out], HB⟩
        case measure => simp [intOf]; omega
      | false =>
        have HSB := hide (mkS_no hsb)
        have hz0 : waS r k &&& s = 0 := by
          rcases Nat.eq_zero_or_pos (waS r k &&& s) with h | h
          · exact h
          · have := hse.1 (by omega); rw [hsb] at this; cases this
        rw [hz0] at a1
        clear hse hsb hz0
        go_wp2_with fail
        go_roundw
        case rel => exact ⟨k + 1, by omega, by go_num, by rw [HSB.out], HB⟩
        case measure => simp [intOf]; omega
    · obtain rfl : n = k := by omega
      have hnl : ¬ (n : Int) < (n : Int) := by omega
      go_wp2_with fail
      go_ret
      exact ⟨by unfold seS; rw [HN.out]; rfl, HB.out⟩
end Go.Proofs.YtagjeeimglecnaaDoor
/- Rite: out, forgotten, complete, on, with. -/
namespace Go.Proofs.YtagjeeimglecnaaDoor
open List renaming getElem_toArray → glA, getElem_cons_zero → glB, getElem_cons_succ → glC, setIfInBounds_toArray → glD, set_cons_zero → glE, set_cons_succ → glF
open Go Go.RowKit Go.Shelf
set_option maxHeartbeats 8000000
set_option maxRecDepth 100000
theorem out_any (b : Nat) (d : Rad) (q : Bad) (r : Rit) (day : Int) (w : World) (hr : RiOk r) (hB : BkR w b d q r) :
    Calls Tryd.prog 84 #[.pointer (some ⟨b, 0, none⟩), .int .i64 day] w fun e w' => e = .returned (.int .u16 (ouS r day : Nat)) ∧ Below w.heap.size w w' := by
  have h10 := hr.n10
  have HRT := hide hB.rt
  obtain ⟨c9, c0, c1, c2, c3, c4, c5, c6, c7⟩ := bx8 hB.blk
  obtain ⟨n, hn⟩ : ∃ n, r.n = n := ⟨_, rfl⟩
  have HN := hide hn
  rw [hn] at c0 h10
  clear hB hr hn c1 c2 c3 c4 c5 c6 c7
  go_enter Tryd.func84, Tryd.ntmps84
  go_wp2_with fail
  go_loopw [4, 5, 6, 13] (fun a _ _ i wr => ∃ k : Nat, k ≤ n ∧ i = .int .i64 k ∧ a = .int .u16 (mkS (fun i => decide ((r.ac i).to_ < day)) k : Nat) ∧ Hid (Below w.heap.size w wr)) (fun _ _ _ i _ => n - (intOf i).toNat)
  case atStart => exact ⟨0, Nat.zero_le _, rfl, rfl, hide (Below.refl _ _)⟩
  case round =>
    obtain ⟨k, hk, rfl, rfl, HB⟩ := hrel
    have hst : IntKind.i64.wrap ((k : Int) + 1) = ((k + 1 : Nat) : Int) := by rw [IntWalk.i64_in _ (by omega)]; omega
    by_cases hlt : k < n
    · have hlt' : (k : Int) < (n : Int) := by omega
      obtain ⟨a, ha⟩ : ∃ a, r.ac k = a := ⟨_, rfl⟩
      obtain ⟨nm, nd, ins, at_, fr, to_, ex⟩ := a
      obtain ⟨pb, po, hA, hpl, x0, x1, x2, x3, x4, x5, x6⟩ := (HRT.out.ext (HB.out.mono (Nat.le_refl _))).at_ (show k < r.n by rw [HN.out]; exact hlt) ha
      dsimp only at x0 x1 x2 x3 x4 x5 x6
      rw [hA]
      have hto : (r.ac k).to_ = to_ := by rw [ha]
      have HBA := hide (HB.out.alloc HB.out.size (.cells #[.string nm, .slice (d.na k) nd.length (d.nc k), .slice (d.ia k) ins.length (d.ic k), .int .i64 at_, .int .i64 fr, .int .i64 to_, .bool ex] 71))
      have y5 : (wr.alloc (.cells #[.string nm, .slice (d.na k) nd.length (d.nc k), .slice (d.ia k) ins.length (d.ic k), .int .i64 at_, .int .i64 fr, .int .i64 to_, .bool ex] 71)).cell? ⟨wr.heap.size, 5, none⟩ = some (.int .i64 to_) := by rw [cell_new]; rfl
      clear hA ha
      go_upto_region 4 with fail
      clear x0 x1 x2 x3 x4 x5 x6
      generalize wr.alloc (.cells #[.string nm, .slice (d.na k) nd.length (d.nc k), .slice (d.ia k) ins.length (d.ic k), .int .i64 at_, .int .i64 fr, .int .i64 to_, .bool ex] 71) = wa at HBA y5 ⊢
      by_cases hd : to_ < day
      · have hd' : day > to_ := hd
        have HSB := hide (mk_or (p := fun i => decide ((r.ac i).to_ < day)) (k := k) (by omega) (by rw [hto]; exact decide_eq_true hd))
        have HOF := hide (fun W => of1_any k W (by omega))
        clear hto
        generalize mkS (fun i => decide ((r.ac i).to_ < day)) k = m at HSB ⊢
        obtain ⟨m2, hm2⟩ : ∃ x, mkS (fun i => decide ((r.ac i).to_ < day)) (k + 1) = x := ⟨_, rfl⟩
        rw [hm2] at HSB
        have HM2 := hide hm2
        clear hm2
        go_wp2_with fail
        refine (HOF.out _).mono ?_
        rintro e w1 ⟨rfl, hb1⟩
        replace HB := hide (HBA.out.trans (hb1.mono HBA.out.size))
        clear hb1 HOF HBA
        obtain ⟨P, hP⟩ : ∃ P : Nat, 2 ^ k = P := ⟨_, rfl⟩
        rw [hP] at HSB ⊢
        have a2 := HSB.out
        go_wp2_with fail
        go_roundw
        case rel => exact ⟨k + 1, by omega, by go_num, by rw [HM2.out], HB⟩
        case measure => simp [intOf]; omega
      · have hd' : ¬ day > to_ := hd
        have HSB := hide (mkS_no (p := fun i => decide ((r.ac i).to_ < day)) (k := k) (by rw [hto]; exact decide_eq_false hd))
        clear hto
        go_wp2_with fail
        go_roundw
        case rel => exact ⟨k + 1, by omega, by go_num, by rw [HSB.out], HBA⟩
        case measure => simp [intOf]; omega
    · obtain rfl : n = k := by omega
      have hnl : ¬ (n : Int) < (n : Int) := by omega
      go_wp2_with fail
      go_ret
      exact ⟨by unfold ouS; rw [HN.out]; rfl, HB.out⟩
theorem forgotten_any (b : Nat) (d : Rad) (q : Bad) (r : Rit) (s : Nat) (day : Int) (w : World) (hr : RiOk r) (hs : s < 65536) (hB : BkR w b d q r) :
    Calls Tryd.prog 67 #[.pointer (some ⟨b, 0, none⟩), .int .u16 s, .int .i64 day] w fun e w' => e = .returned (.int .u16 (foS r s day : Nat)) ∧ Below w.heap.size w w' := by
  have h10 := hr.n10
  have a1 := and16 (lt16 (show muS r < 2 ^ r.n from mkS_lt _ _) (by omega)) (lt16 (show ouS r day < 2 ^ r.n from mkS_lt _ _) (by omega))
  have a2 := not16 (show muS r &&& ouS r day < 65536 from Nat.lt_of_le_of_lt Nat.and_le_left (lt16 (show muS r < 2 ^ r.n from mkS_lt _ _) (by omega))) (seS_lt hr s)
  rw [fo_eq hr] at a2
  have HO := hide (fun W (h : BkR W b d q r) => out_any b d q r day W hr h)
  have HS := hide (fun W (h : BkR W b d q r) => settled_any b d q r s W hr hs h)
  have HB := hide hB
  have HC : Hid (∀ W, Below w.heap.size w W → W.cell? ⟨b, 7, none⟩ = some (.int .u16 (muS r : Nat))) := hide fun W h => (bx8 (hB.blk.ext h)).2.2.2.2.2.2.2.2
  clear hB hr h10
  generalize ouS r day = o at a1 a2 HO
  generalize seS r s = t at a2 HS
  generalize foS r s day = f at a2 ⊢
  obtain ⟨z, hz⟩ : ∃ z, muS r &&& o = z := ⟨_, rfl⟩
  rw [hz] at a1 a2
  clear hz
  generalize muS r = mu at a1 HC
  go_enter Tryd.func67, Tryd.ntmps67
  go_upto_region 1 with fail
  have Bd := hide (Below.refl w.heap.size w).drew
  refine wp_region_J (fun W : World => W.cell? ⟨b, 7, none⟩ = some (.int .u16 (mu : Nat))) (by kernel_rfl) ?_
  generalize w.drew = wd at Bd ⊢
  refine tk_start [0, 1, 2, 3, 4, 5, 8, 9] ?_
  iterate 8
    refine tk_one (v := ?_) (by first | exact hF | exact wideFn) (HC.out _ Bd.out) rfl (by kernel_rfl) (by kernel_rfl) (by kernel_rfl) (by kernel_rfl) rfl ?_ (by first | exact fun _ _ _ h => h | exact fun _ _ _ h => hQ2 _ _ _ _ _ h) ?_
    rotate_left
    · intro W hSW
      simp only [glA, glB, glC]
      (try dsimp only at hSW)
      go_simp
      with_reducible rfl
    (try simp only [glA, glB, glC, Act.put, glD, glE, glF])
  refine tk_end ?_
  refine wpAnyJ_one 6 rfl (by kernel_rfl) (fun K hK => ?_)
  simp only [glA, glB, glC]
  go_simp
  refine ⟨trivial, rfl, ?_⟩
  refine (callsIn_wide.2 (HO.out wd (HB.out.ext Bd.out))).mono ?_
  rintro e w1 ⟨rfl, hb1⟩
  have B1 := hide (Bd.out.trans (hb1.mono Bd.out.size))
  dsimp only
  refine hK.out _ _ (fun _ => HC.out _ B1.out) ?_
  clear hK K
  (try simp only [glA, glB, glC, Act.put, glD, glE, glF])
  clear hb1
  refine wpAnyJ_take 7 (v := ?_) (by first | exact hF | exact wideFn) (HC.out _ B1.out) rfl (by kernel_rfl) (by kernel_rfl) (by kernel_rfl) (by kernel_rfl) rfl ?_ (by first | exact fun _ _ _ h => h | exact fun _ _ _ h => hQ2 _ _ _ _ _ h) ?_
  rotate_left
  · intro W hSW
    simp only [glA, glB, glC]
    (try dsimp only at hSW)
    go_simp
    with_reducible rfl
  (try simp only [glA, glB, glC, Act.put, glD, glE, glF])
  refine wpAnyJ_one 10 rfl (by kernel_rfl) (fun K hK => ?_)
  simp only [glA, glB, glC]
  go_simp
  refine ⟨trivial, rfl, ?_⟩
  refine (callsIn_wide.2 (HS.out w1 (HB.out.ext B1.out))).mono ?_
  rintro e w2 ⟨rfl, hb2⟩
  have B2 := hide (B1.out.trans (hb2.mono B1.out.size))
  dsimp only
  refine hK.out _ _ (fun _ => HC.out _ B2.out) ?_
  clear hK K
  (try simp only [glA, glB, glC, Act.put, glD, glE, glF])
  clear hb2
  refine wpAnyJ_take 11 (v := ?_) (by first | exact hF | exact wideFn) (HC.out _ B2.out) rfl (by kernel_rfl) (by kernel_rfl) (by kernel_rfl) (by kernel_rfl) rfl ?_ (by first | exact fun _ _ _ h => h | exact fun _ _ _ h => hQ2 _ _ _ _ _ h) ?_
  rotate_left
  · intro W hSW
    simp only [glA, glB, glC]
    (try dsimp only at hSW)
    go_simp
    with_reducible rfl
  (try simp only [glA, glB, glC, Act.put, glD, glE, glF])
  refine wpAnyJ_take 12 (v := ?_) (by first | exact hF | exact wideFn) (HC.out _ B2.out) rfl (by kernel_rfl) (by kernel_rfl) (by kernel_rfl) (by kernel_rfl) rfl ?_ (by first | exact fun _ _ _ h => h | exact fun _ _ _ h => hQ2 _ _ _ _ _ h) ?_
  rotate_left
  · intro W hSW
    simp only [glA, glB, glC]
    (try dsimp only at hSW)
    go_simp
    with_reducible rfl
  (try simp only [glA, glB, glC, Act.put, glD, glE, glF])
  refine wpAnyJ_done (by kernel_rfl) ?_
  go_wp2_with fail
  go_ret
  exact ⟨rfl, B2.out⟩
theorem complete_any (b : Nat) (d : Rad) (q : Bad) (r : Rit) (s : Nat) (w : World) (hr : RiOk r) (hs : s < 65536) (hB : BkR w b d q r) :
    Calls Tryd.prog 33 #[.pointer (some ⟨b, 0, none⟩), .int .u16 s] w fun e w' => e = .returned (.bool (coB r s)) ∧ Below w.heap.size w w' := by
  have h10 := hr.n10
  have a2 := not16 (lt16 (show muS r < 2 ^ r.n from mkS_lt _ _) (by omega)) (seS_lt hr s)
  have hco := co_iff hr s
  have HS := hide (fun W (h : BkR W b d q r) => settled_any b d q r s W hr hs h)
  have HB := hide hB
  have HC : Hid (∀ W, Below w.heap.size w W → W.cell? ⟨b, 7, none⟩ = some (.int .u16 (muS r : Nat))) := hide fun W h => (bx8 (hB.blk.ext h)).2.2.2.2.2.2.2.2
  clear hB hr h10
  generalize seS r s = t at a2 HS hco
  obtain ⟨z, hz⟩ : ∃ z, anN (muS r) t = z := ⟨_, rfl⟩
  rw [hz] at a2 hco
  clear hz
  generalize muS r = mu at a2 HC
  have HE : Hid (((z : Int) == 0) = coB r s) := hide (by rw [Bool.eq_iff_iff, ← hco]; simp)
  clear hco
  generalize coB r s = cb at HE ⊢
  go_enter Tryd.func33, Tryd.ntmps33
  go_upto_region 1 with fail
  have Bd := hide (Below.refl w.heap.size w).drew
  refine wp_region_J (fun W : World => W.cell? ⟨b, 7, none⟩ = some (.int .u16 (mu : Nat))) (by kernel_rfl) ?_
  generalize w.drew = wd at Bd ⊢
  refine tk_start [0, 1, 2, 3, 4, 5] ?_
  iterate 6
    refine tk_one (v := ?_) (by first | exact hF | exact wideFn) (HC.out _ Bd.out) rfl (by kernel_rfl) (by kernel_rfl) (by kernel_rfl) (by kernel_rfl) rfl ?_ (by first | exact fun _ _ _ h => h | exact fun _ _ _ h => hQ2 _ _ _ _ _ h) ?_
    rotate_left
    · intro W hSW
      simp only [glA, glB, glC]
      (try dsimp only at hSW)
      go_simp
      with_reducible rfl
    (try simp only [glA, glB, glC, Act.put, glD, glE, glF])
  refine tk_end ?_
  refine wpAnyJ_one 6 rfl (by kernel_rfl) (fun K hK => ?_)
  simp only [glA, glB, glC]
  go_simp
  refine ⟨trivial, rfl, ?_⟩
  refine (callsIn_wide.2 (HS.out wd (HB.out.ext Bd.out))).mono ?_
  rintro e w1 ⟨rfl, hb1⟩
  have B1 := hide (Bd.out.trans (hb1.mono Bd.out.size))
  dsimp only
  refine hK.out _ _ (fun _ => HC.out _ B1.out) ?_
  clear hK K
  (try simp only [glA, glB, glC, Act.put, glD, glE, glF])
  clear hb1
  refine tk_start [7, 8, 9] ?_
  iterate 3
    refine tk_one (v := ?_) (by first | exact hF | exact wideFn) (HC.out _ B1.out) rfl (by kernel_rfl) (by kernel_rfl) (by kernel_rfl) (by kernel_rfl) rfl ?_ (by first | exact fun _ _ _ h => h | exact fun _ _ _ h => hQ2 _ _ _ _ _ h) ?_
    rotate_left
    · intro W hSW
      simp only [glA, glB, glC]
      (try dsimp only at hSW)
      go_simp
      with_reducible rfl
    (try simp only [glA, glB, glC, Act.put, glD, glE, glF])
  refine tk_end ?_
  refine wpAnyJ_done (by kernel_rfl) ?_
  rw [HE.out]
  go_wp2_with fail
  go_ret
  exact ⟨rfl, B1.out⟩
end Go.Proofs.YtagjeeimglecnaaDoor
/- Rite: moments: on, with. -/
namespace Go.Proofs.YtagjeeimglecnaaDoor
open List renaming getElem_toArray → glA, getElem_cons_zero → glB, getElem_cons_succ → glC, setIfInBounds_toArray → glD, set_cons_zero → glE, set_cons_succ → glF
open Go Go.RowKit Go.Shelf
set_option maxHeartbeats 8000000
set_option maxRecDepth 100000
def momV (m : Mom) : Value := .agg #[.int .u16 (m.d : Nat), .int .i64 m.day, .int .i64 m.de]
theorem on_any (m : Mom) (day2 : Int) (w : World) :
    Calls Tryd.prog 48 #[momV m, .int .i64 day2] w fun e w' => e = .returned (momV (m.on day2)) ∧ Below w.heap.size w w' := by
  obtain ⟨D, day, de⟩ := m
  unfold momV Mom.on
  dsimp only
  have hb : Below w.heap.size w ((w.alloc (.cells #[.int .u16 (D : Nat), .int .i64 day, .int .i64 de] 88)).alloc (.cells #[.int .u16 0, .int .i64 0, .int .i64 0] 88)) := ((Below.refl _ _).alloc (Nat.le_refl _) _).alloc (by simp) _
  have q0 : Blk ((w.alloc (.cells #[.int .u16 (D : Nat), .int .i64 day, .int .i64 de] 88)).alloc (.cells #[.int .u16 0, .int .i64 0, .int .i64 0] 88)) w.heap.size 88 #[.int .u16 (D : Nat), .int .i64 day, .int .i64 de] := (Blk.new w _ _).alloc _
  have q1 : Blk ((w.alloc (.cells #[.int .u16 (D : Nat), .int .i64 day, .int .i64 de] 88)).alloc (.cells #[.int .u16 0, .int .i64 0, .int .i64 0] 88)) (w.heap.size + 1) 88 #[.int .u16 0, .int .i64 0, .int .i64 0] := by simpa using Blk.new (w.alloc (.cells #[.int .u16 (D : Nat), .int .i64 day, .int .i64 de] 88)) 88 #[.int .u16 0, .int .i64 0, .int .i64 0]
  have HB := hide hb
  have Q0 := hide q0
  have Q1 := hide q1
  clear hb q0 q1
  by_cases h : day2 = day
  · have h' := h.symm
    subst h'
    rw [if_pos rfl]
    go_enter Tryd.func48, Tryd.ntmps48
    go_upto_region 1 with fail
    generalize ((w.alloc (.cells #[.int .u16 (D : Nat), .int .i64 day, .int .i64 de] 88)).alloc (.cells #[.int .u16 0, .int .i64 0, .int .i64 0] 88)) = w1 at HB Q0 Q1 ⊢
    obtain ⟨a9, a0, a1, a2, a3, a4, a5⟩ := blk3 Q0.out
    obtain ⟨b9, b0, b1, b2, b3, b4, b5⟩ := blk3 Q1.out
    have hne : (day != day) = false := by simp
    go_wp2_with fail
    refine bodyPost_ret (v := .agg #[.int .u16 (D : Nat), .int .i64 day, .int .i64 de]) (by
      have h3 := Q1.out.set3 (.int .u16 (D : Nat)) (.int .i64 day) (.int .i64 de)
      obtain ⟨-, z0, z1, z2, -⟩ := blk3 h3
      simp [results, Tryd.results48, go_sem, z0, z1, z2]) rfl ⟨rfl, set3B HB.out (Nat.le_succ _) _ _ _⟩
  · rw [if_neg h]
    go_enter Tryd.func48, Tryd.ntmps48
    go_upto_region 1 with fail
    generalize ((w.alloc (.cells #[.int .u16 (D : Nat), .int .i64 day, .int .i64 de] 88)).alloc (.cells #[.int .u16 0, .int .i64 0, .int .i64 0] 88)) = w1 at HB Q0 Q1 ⊢
    obtain ⟨a9, a0, a1, a2, a3, a4, a5⟩ := blk3 Q0.out
    have hne : (day2 != day) = true := by simp [h]
    go_upto_region 3 with fail
    clear a9 a0 a1 a2 a3 a4 a5
    have Q2 := hide ((Q0.out.set_ 1 (.int .i64 day2)).set_ 2 (.int .i64 0))
    have HB2 := hide ((HB.out.setCell (p := ⟨w.heap.size, 1, none⟩) (Nat.le_refl _) (.int .i64 day2)).setCell (p := ⟨w.heap.size, 2, none⟩) (Nat.le_refl _) (.int .i64 0))
    have Q3 := hide ((Q1.out.far (p := ⟨w.heap.size, 1, none⟩) (show w.heap.size + 1 ≠ w.heap.size by omega) (.int .i64 day2)).far (p := ⟨w.heap.size, 2, none⟩) (show w.heap.size + 1 ≠ w.heap.size by omega) (.int .i64 0))
    simp only [glD, glE, glF] at Q2
    generalize (w1.setCell ⟨w.heap.size, 1, none⟩ (.int .i64 day2)).setCell ⟨w.heap.size, 2, none⟩ (.int .i64 0) = w2 at HB2 Q2 Q3 ⊢
    obtain ⟨a9, a0, a1, a2, a3, a4, a5⟩ := blk3 Q2.out
    obtain ⟨b9, b0, b1, b2, b3, b4, b5⟩ := blk3 Q3.out
    go_wp2_with fail
    refine bodyPost_ret (v := .agg #[.int .u16 (D : Nat), .int .i64 day2, .int .i64 0]) (by
      have h3 := Q3.out.set3 (.int .u16 (D : Nat)) (.int .i64 day2) (.int .i64 0)
      obtain ⟨-, z0, z1, z2, -⟩ := blk3 h3
      simp [results, Tryd.results48, go_sem, z0, z1, z2]) rfl ⟨rfl, set3B HB2.out (Nat.le_succ _) _ _ _⟩
theorem with_any (m : Mom) (i : Nat) (w : World) (hd : m.d < 65536) (hi : i < 16) (h0 : 0 ≤ m.de) (h1 : m.de ≤ 1000000) :
    Calls Tryd.prog 50 #[momV m, .int .i64 i] w fun e w' => e = .returned (momV (m.wi i)) ∧ Below w.heap.size w w' := by
  obtain ⟨D, day, de⟩ := m
  unfold momV Mom.wi
  dsimp only at hd h0 h1 ⊢
  have hb : Below w.heap.size w ((w.alloc (.cells #[.int .u16 (D : Nat), .int .i64 day, .int .i64 de] 88)).alloc (.cells #[.int .u16 0, .int .i64 0, .int .i64 0] 88)) := ((Below.refl _ _).alloc (Nat.le_refl _) _).alloc (by simp) _
  have q0 : Blk ((w.alloc (.cells #[.int .u16 (D : Nat), .int .i64 day, .int .i64 de] 88)).alloc (.cells #[.int .u16 0, .int .i64 0, .int .i64 0] 88)) w.heap.size 88 #[.int .u16 (D : Nat), .int .i64 day, .int .i64 de] := (Blk.new w _ _).alloc _
  have q1 : Blk ((w.alloc (.cells #[.int .u16 (D : Nat), .int .i64 day, .int .i64 de] 88)).alloc (.cells #[.int .u16 0, .int .i64 0, .int .i64 0] 88)) (w.heap.size + 1) 88 #[.int .u16 0, .int .i64 0, .int .i64 0] := by simpa using Blk.new (w.alloc (.cells #[.int .u16 (D : Nat), .int .i64 day, .int .i64 de] 88)) 88 #[.int .u16 0, .int .i64 0, .int .i64 0]
  have HB := hide hb
  have Q0 := hide q0
  have Q1 := hide q1
  clear hb q0 q1
  have HOF := hide (fun W => of1_any i W hi)
  have a1 := or16 hd (p2_lt hi)
  obtain ⟨P, hP⟩ : ∃ P : Nat, 2 ^ i = P := ⟨_, rfl⟩
  rw [hP] at HOF a1 ⊢
  obtain ⟨Z, hZ⟩ : ∃ Z : Nat, D ||| P = Z := ⟨_, rfl⟩
  rw [hZ] at a1 ⊢
  have a2 : IntKind.i64.wrap (de + 1) = de + 1 := IntWalk.i64_in _ (by omega)
  clear hP hZ
  go_enter Tryd.func50, Tryd.ntmps50
  go_upto_region 1 with fail
  generalize ((w.alloc (.cells #[.int .u16 (D : Nat), .int .i64 day, .int .i64 de] 88)).alloc (.cells #[.int .u16 0, .int .i64 0, .int .i64 0] 88)) = w1 at HB Q0 Q1 ⊢
  obtain ⟨G, hG⟩ : ∃ x, w.heap.size = x := ⟨_, rfl⟩
  have HGG := hide hG
  rw [hG] at Q0 Q1 ⊢
  clear hG
  have HC : Hid (∀ W, Below w1.heap.size w1 W → W.cell? ⟨G, 0, none⟩ = some (.int .u16 (D : Nat))) := hide fun W h => (blk3 (Q0.out.ext h)).2.1
  have Bd := hide (Below.refl w1.heap.size w1).drew
  refine wp_region_J (fun W : World => W.cell? ⟨G, 0, none⟩ = some (.int .u16 (D : Nat))) (by kernel_rfl) ?_
  generalize w1.drew = wd at Bd ⊢
  refine tk_start [0, 1, 2] ?_
  iterate 3
    refine tk_one (v := ?_) (by first | exact hF | exact wideFn) (HC.out _ Bd.out) rfl (by kernel_rfl) (by kernel_rfl) (by kernel_rfl) (by kernel_rfl) rfl ?_ (by first | exact fun _ _ _ h => h | exact fun _ _ _ h => hQ2 _ _ _ _ _ h) ?_
    rotate_left
    · intro W hSW
      simp only [glA, glB, glC]
      (try dsimp only at hSW)
      go_simp
      with_reducible rfl
    (try simp only [glA, glB, glC, Act.put, glD, glE, glF])
  refine tk_end ?_
  refine wpAnyJ_one 3 rfl (by kernel_rfl) (fun K hK => ?_)
  simp only [glA, glB, glC]
  go_simp
  refine hK.out _ _ (fun _ => HC.out _ (Bd.out.alloc Bd.out.size _)) ?_
  clear hK K
  (try simp only [glA, glB, glC, Act.put, glD, glE, glF])
  refine wpAnyJ_one 4 rfl (by kernel_rfl) (fun K hK => ?_)
  simp only [glA, glB, glC]
  go_simp
  refine ⟨trivial, rfl, ?_⟩
  refine (callsIn_wide.2 (HOF.out wd)).mono ?_
  rintro e w2 ⟨rfl, hb2⟩
  have B2 := hide (Bd.out.trans (hb2.mono Bd.out.size))
  dsimp only
  refine hK.out _ _ (fun _ => HC.out _ B2.out) ?_
  clear hK K
  (try simp only [glA, glB, glC, Act.put, glD, glE, glF])
  clear hb2
  replace Q0 := hide (Q0.out.ext B2.out)
  replace Q1 := hide (Q1.out.ext B2.out)
  replace HB := hide (HB.out.trans (B2.out.mono HB.out.size))
  refine wpAnyJ_take 5 (v := ?_) (by first | exact hF | exact wideFn) (HC.out _ B2.out) rfl (by kernel_rfl) (by kernel_rfl) (by kernel_rfl) (by kernel_rfl) rfl ?_ (by first | exact fun _ _ _ h => h | exact fun _ _ _ h => hQ2 _ _ _ _ _ h) ?_
  rotate_left
  · intro W hSW
    simp only [glA, glB, glC]
    (try dsimp only at hSW)
    go_simp
    with_reducible rfl
  (try simp only [glA, glB, glC, Act.put, glD, glE, glF])
  refine wpAnyJ_take 6 (v := ?_) (by first | exact hF | exact wideFn) (HC.out _ B2.out) rfl (by kernel_rfl) (by kernel_rfl) (by kernel_rfl) (by kernel_rfl) rfl ?_ (by first | exact fun _ _ _ h => h | exact fun _ _ _ h => hQ2 _ _ _ _ _ h) ?_
  rotate_left
  · intro W hSW
    simp only [glA, glB, glC]
    (try dsimp only at hSW)
    go_simp
    with_reducible rfl
  (try simp only [glA, glB, glC, Act.put, glD, glE, glF])
  obtain ⟨a9, b0, b1, b2, b3, b4, b5⟩ := blk3 Q0.out
  refine wpAnyJ_one 7 rfl (by kernel_rfl) (fun K hK => ?_)
  simp only [glA, glB, glC]
  go_simp
  refine hK.out _ _ (fun h => absurd h (by rw [show lastOp _ _ _ = true from by kernel_rfl]; simp)) ?_
  clear hK K
  (try simp only [glA, glB, glC, Act.put, glD, glE, glF])
  refine wpAnyJ_done (by kernel_rfl) ?_
  clear a9 b0 b1 b2 b3 b4 b5 B2 Bd HC
  replace HB := hide (HB.out.setCell (p := ⟨G, 0, none⟩) (by show w.heap.size ≤ G; rw [HGG.out]; exact Nat.le_refl _) (.int .u16 (Z : Nat)))
  replace Q1 := hide (Q1.out.far (p := ⟨G, 0, none⟩) (show G + 1 ≠ G by omega) (.int .u16 (Z : Nat)))
  replace Q0 := hide (Q0.out.set_ 0 (.int .u16 (Z : Nat)))
  simp only [glD, glE, glF] at Q0
  generalize w2.setCell ⟨G, 0, none⟩ (.int .u16 (Z : Nat)) = w3 at HB Q0 Q1 ⊢
  obtain ⟨a9, b0, b1, b2, b3, b4, b5⟩ := blk3 Q0.out
  go_upto_region 3 with fail
  clear a9 b0 b1 b2 b3 b4 b5
  replace HB := hide (HB.out.setCell (p := ⟨G, 2, none⟩) (by show w.heap.size ≤ G; rw [HGG.out]; exact Nat.le_refl _) (.int .i64 (de + 1)))
  replace Q1 := hide (Q1.out.far (p := ⟨G, 2, none⟩) (show G + 1 ≠ G by omega) (.int .i64 (de + 1)))
  replace Q0 := hide (Q0.out.set_ 2 (.int .i64 (de + 1)))
  simp only [glD, glE, glF] at Q0
  generalize w3.setCell ⟨G, 2, none⟩ (.int .i64 (de + 1)) = w4 at HB Q0 Q1 ⊢
  obtain ⟨a9, a0, a3, a4, -⟩ := blk3 Q0.out
  obtain ⟨b9, b0, b1, b2, b3, b4, b5⟩ := blk3 Q1.out
  go_wp2_with fail
  refine bodyPost_ret (v := .agg #[.int .u16 (Z : Nat), .int .i64 day, .int .i64 (de + 1)]) (by
    have h3 := Q1.out.set3 (.int .u16 (Z : Nat)) (.int .i64 day) (.int .i64 (de + 1))
    obtain ⟨-, z0, z1, z2, -⟩ := blk3 h3
    simp [results, Tryd.results50, go_sem, z0, z1, z2]) rfl ⟨rfl, set3B HB.out (by rw [HGG.out]; exact Nat.le_succ _) _ _ _⟩
end Go.Proofs.YtagjeeimglecnaaDoor
/- Words that hang on no chapter: a struct stored into a block of its own, whole. -/
namespace Go.Proofs.YtagjeeimglecnaaDoor
open Go Go.RowKit
set_option maxRecDepth 100000
def setsA : Array Value → Nat → List Value → Array Value
  | cs, _, [] => cs
  | cs, o, v :: r => setsA (cs.setIfInBounds o v) (o + 1) r
theorem setsA_get : ∀ (vs : List Value) (cs : Array Value) (o j : Nat), o + vs.length ≤ cs.size → (setsA cs o vs)[j]? = if o ≤ j ∧ j < o + vs.length then vs[j - o]? else cs[j]?
  | [], cs, o, j, _ => by
    rw [if_neg (by simp)]; rfl
  | v :: r, cs, o, j, h => by
    have hl : (v :: r).length = r.length + 1 := rfl
    rw [hl] at h
    show (setsA (cs.setIfInBounds o v) (o + 1) r)[j]? = _
    rw [setsA_get r _ (o + 1) j (by simp; omega), hl]
    by_cases h1 : o + 1 ≤ j ∧ j < o + 1 + r.length
    · rw [if_pos h1, if_pos (by omega), show j - o = (j - (o + 1)) + 1 by omega, List.getElem?_cons_succ]
    · rw [if_neg h1]
      by_cases h2 : j = o
      · subst h2
        rw [if_pos (by omega), Nat.sub_self]
        simp [show j < cs.size by omega]
      · rw [if_neg (by omega)]
        rw [Array.getElem?_setIfInBounds_ne (fun e => h2 e.symm)]
theorem blk_sets {w : World} {g : Nat} {t : TypeId} : ∀ (vs : List Value) (o : Nat) (w : World) (cs : Array Value), Blk w g t cs → Blk (w.setCells g o vs) g t (setsA cs o vs)
  | [], _, _, _, h => h
  | v :: r, o, w, cs, h => blk_sets (w := w) r (o + 1) _ _ (h.set_ o v)
theorem sets_below {B g : Nat} (hg : B ≤ g) : ∀ (vs : List Value) (o : Nat) (w0 w : World), Below B w0 w → Below B w0 (w.setCells g o vs)
  | [], _, _, _, h => h
  | v :: r, o, w0, w, h => sets_below hg r (o + 1) w0 _ (h.setCell (p := ⟨g, o, none⟩) hg v)
theorem sets_size {g : Nat} : ∀ (vs : List Value) (o : Nat) (w : World), (w.setCells g o vs).heap.size = w.heap.size
  | [], _, _ => rfl
  | v :: r, o, w => (sets_size r (o + 1) _).trans (size_set _ _ _)
theorem sets_other {g k : Nat} (hk : k ≠ g) : ∀ (vs : List Value) (o : Nat) (w : World), (w.setCells g o vs).heap[k]? = w.heap[k]?
  | [], _, _ => rfl
  | v :: r, o, w => (sets_other hk r (o + 1) _).trans (Below.heap_setCell w ⟨g, o, none⟩ v k hk)
/-- a struct goes into a block of its own -/
theorem store_blk {P : Program} {w : World} {g : Nat} {t ty : TypeId} {cs cells : Array Value} (h : Blk w g t cs) (hsz : cs.size = cells.size) (hi : (P.info? ty).map (·.size) = some cells.size) (h1 : cells.all (·.oneCell') = true) :
    ∃ w', (Instr.storeAt ty (.pointer (some ⟨g, 0, none⟩)) (.agg cells)).run P w = .ok () w' ∧ Blk w' g t cells ∧ (∀ (B : Nat) (w0 : World), Below B w0 w → B ≤ g → Below B w0 w') ∧ w'.heap.size = w.heap.size ∧ ∀ k, k ≠ g → w'.heap[k]? = w.heap[k]? := by
  refine ⟨w.setCells g 0 cells.toList, run_storeAt_mid w g 0 ty cells (fun j hj => ⟨?_, h.frozen _⟩) hi h1, ?_, fun B w0 hb hg => sets_below hg _ _ _ _ hb, sets_size _ _ _, fun k hk => sets_other hk _ _ _⟩
  · rw [Nat.zero_add, h.cell, Array.getElem?_eq_getElem (by omega)]; rfl
  · have h2 := blk_sets (w := w) cells.toList 0 w cs h
    have e : setsA cs 0 cells.toList = cells := by
      apply Array.ext_getElem?
      intro j
      rw [setsA_get _ _ _ _ (by simp; omega)]
      by_cases hj : j < cells.size
      · rw [if_pos (by simp; omega)]; simp
      · rw [if_neg (by simp; omega), Array.getElem?_eq_none (by omega), Array.getElem?_eq_none (by omega)]
    rw [e] at h2
    exact h2
theorem wpIn_store_run {F : Fence} {n : Nat} {P : Program} {Q : Exit → Act → World → Prop} {o : Oper} {a : Act} {w w' : World} {K : Act → World → Prop} (ty : TypeId) (p x : Operand) {v u : Value} (hfn : ∀ f, F.fn f)
    (ho : o.op = .store ty p x) (hp : a.eval p = v) (hx : a.eval x = u) (hrun : (Instr.storeAt ty v u).run P w = .ok () w') (h : K (a.put o.dst undef) w') : o.wpIn F n P a w K Q := by
  refine ⟨fun f _ => hfn f, ?_⟩
  rw [Oper.semAt_eq _ _ _ (fun c => by rw [ho]; simp)]
  unfold execOp
  simp only [ho, hp, hx, hrun, Sem.run_bind, Sem.run_pure, Result.andThen_ok]
  exact h
/-- a struct built out of parts, in a region that draws its order -/
theorem exec_build {P : Program} {ev : Operand → Value} {o : Oper} {t : TypeId} {parts : Array (Nat × Operand)} {cells : Array Value} {w : World} (ho : o.op = .build t parts) (h : P.built t (parts.map fun x => (x.1, ev x.2)).toList = some cells) :
    (execOp ev o).run P w = .ok (.value (.agg cells)) w := by
  have h2 := run_build w t (parts.map fun x => (x.1, ev x.2)) cells h
  unfold execOp
  simp only [ho]
  simp only [Sem.run_bind, h2, Result.andThen_ok, Sem.run_pure]
end Go.Proofs.YtagjeeimglecnaaDoor
/- Rite: the rule that a deed breaks, walked. -/
namespace Go.Proofs.YtagjeeimglecnaaDoor
open List renaming getElem_toArray → glA, getElem_cons_zero → glB, getElem_cons_succ → glC, setIfInBounds_toArray → glD, set_cons_zero → glE, set_cons_succ → glF
open Go Go.RowKit Go.Shelf
set_option maxHeartbeats 8000000
set_option maxRecDepth 100000
/-- the cells of an act and the moment's set -/
theorem rule_any (b : Nat) (d : Rad) (q : Bad) (r : Rit) (m : Mom) (act : Int) (w : World) (hr : RiOk r) (hd : m.d < 65536) (hB : BkR w b d q r) :
    Calls Tryd.prog 49 #[.pointer (some ⟨b, 0, none⟩), momV m, .int .i64 act] w fun e w' => e = .returned (.int .i64 (brF r m.d m.day m.de act)) ∧ Below w.heap.size w w' := by
  obtain ⟨D, day, de⟩ := m
  unfold momV
  dsimp only at hd ⊢
  have h10 := hr.n10
  have HRO := hide hr
  have HB1 : Hid (Below w.heap.size w (w.alloc (.cells #[.int .u16 (D : Nat), .int .i64 day, .int .i64 de] 88))) := hide ((Below.refl _ _).alloc (Nat.le_refl _) _)
  have G1 := hide (Blk.new w 88 #[.int .u16 (D : Nat), .int .i64 day, .int .i64 de])
  have HBK := hide (hB.ext HB1.out)
  have HW := hide (fun (a x y : Int) W => rwithin_any a x y W)
  have HST := hide (fun W (h : BkR W b d q r) => settled_any b d q r D W hr hd h)
  have HFO := hide (fun W (h : BkR W b d q r) => forgotten_any b d q r D day W hr hd h)
  obtain ⟨n, hn⟩ : ∃ n, r.n = n := ⟨_, rfl⟩
  have HN := hide hn
  rw [hn] at h10
  clear hB hr hn
  obtain ⟨wA, hwA⟩ : ∃ x, w.alloc (.cells #[.int .u16 (D : Nat), .int .i64 day, .int .i64 de] 88) = x := ⟨_, rfl⟩
  rw [hwA] at HB1 G1 HBK
  obtain ⟨c9, c0, c1, c2, c3, c4, c5, c6, c7⟩ := bx8 HBK.out.blk
  rw [HN.out] at c0
  by_cases hact : act < 0 ∨ (n : Int) ≤ act
  · have hbr : brF r D day de act = 2 := by unfold brF; rw [HN.out, if_pos hact]
    rw [hbr]
    have hw : (decide (0 ≤ act) && decide (act ≤ (n : Int) - 1)) = false := by
      rcases hact with h | h
      · rw [decide_eq_false (show ¬ 0 ≤ act by omega)]; rfl
      · rw [decide_eq_false (show ¬ act ≤ (n : Int) - 1 by omega), Bool.and_false]
    have HW2 := hide (HW.out act 0 ((n : Int) - 1))
    rw [hw] at HW2
    have e1 : IntKind.i64.wrap ((n : Int) - 1) = (n : Int) - 1 := IntWalk.i64_in _ (by omega)
    clear hw hact hbr
    go_enter Tryd.func49, Tryd.ntmps49
    go_upto_region 1 with fail
    clear hwA
    go_wp2_with fail
    refine (HW2.out _).mono ?_
    rintro e w2 ⟨rfl, rfl⟩
    go_wp2_with fail
    go_ret
    exact ⟨rfl, HB1.out⟩
  obtain ⟨i, rfl⟩ : ∃ i : Nat, act = (i : Int) := ⟨act.toNat, by omega⟩
  have hi : i < n := by omega
  have hi' : i < r.n := by rw [HN.out]; exact hi
  have hbr : brF r D day de i = if D.testBit i || (!(r.ac i).ex && seB r D i) then 2 else if day < (r.ac i).fr ∨ (r.ac i).to_ < day then 3 else if !neB r D i then 4 else if (r.ac i).ex && !usB r D day i then 5 else if r.toil ≤ de then 6 else 0 := by
    unfold brF
    rw [HN.out, if_neg hact, Int.toNat_natCast]
  have HBR := hide hbr
  clear hbr
  have hw : (decide (0 ≤ (i : Int)) && decide ((i : Int) ≤ (n : Int) - 1)) = true := by
    rw [decide_eq_true (show 0 ≤ (i : Int) by omega), decide_eq_true (show (i : Int) ≤ (n : Int) - 1 by omega)]; rfl
  have HW2 := hide (HW.out i 0 ((n : Int) - 1))
  rw [hw] at HW2
  have e1 : IntKind.i64.wrap ((n : Int) - 1) = (n : Int) - 1 := IntWalk.i64_in _ (by omega)
  obtain ⟨a, ha⟩ : ∃ a, r.ac i = a := ⟨_, rfl⟩
  obtain ⟨nm, nd, ins, at_, fr, to_, ex⟩ := a
  have HSE : Hid ((seS r D).testBit i = seB r D i ∧ seS r D < 65536) := hide ⟨by rw [seS_bit, decide_eq_true hi', Bool.true_and], seS_lt HRO.out D⟩
  have HNE := hide (ne_iff HRO.out hi' D)
  have HUS := hide (us_iff HRO.out D day i)
  have HLT : Hid (reS r i < 65536 ∧ atS r i < 65536 ∧ foS r D day < 65536) := hide ⟨lt16 (show reS r i < 2 ^ r.n from mkS_lt _ _) (by rw [HN.out]; omega), lt16 (show atS r i < 2 ^ r.n from mkS_lt _ _) (by rw [HN.out]; omega), lt16 (show foS r D day < 2 ^ r.n from mkS_lt _ _) (by rw [HN.out]; omega)⟩
  have HA := hide ha
  rw [ha] at HBR HNE
  dsimp only at HBR HNE
  obtain ⟨pb, po, hA, hpl, x0, x1, x2, x3, x4, x5, x6⟩ := HBK.out.rt.at_ hi' ha
  dsimp only at x0 x1 x2 x3 x4 x5 x6
  rw [hA] at c0
  generalize d.na i = na at x1
  generalize d.nc i = nc at x1
  generalize d.ia i = ia at x2
  generalize d.ic i = ic at x2
  obtain ⟨ndl, hnd⟩ : ∃ x, nd.length = x := ⟨_, rfl⟩
  obtain ⟨insl, hins⟩ : ∃ x, ins.length = x := ⟨_, rfl⟩
  rw [hnd] at x1
  rw [hins] at x2
  obtain ⟨G, hG⟩ : ∃ x, w.heap.size = x := ⟨_, rfl⟩
  have HGG := hide hG
  rw [hG] at G1
  generalize d.c = dc at c0
  have HS3 : Hid (∀ W, Below wA.heap.size wA W → ((W.cell? ⟨pb, po + i * 7, none⟩ = some (.string nm) ∧ W.cell? ⟨pb, po + i * 7 + 1, none⟩ = some (.slice na ndl nc) ∧ W.cell? ⟨pb, po + i * 7 + 2, none⟩ = some (.slice ia insl ic) ∧ W.cell? ⟨pb, po + i * 7 + 3, none⟩ = some (.int .i64 at_) ∧ W.cell? ⟨pb, po + i * 7 + 4, none⟩ = some (.int .i64 fr) ∧ W.cell? ⟨pb, po + i * 7 + 5, none⟩ = some (.int .i64 to_) ∧ W.cell? ⟨pb, po + i * 7 + 6, none⟩ = some (.bool ex)) ∧ W.cell? ⟨G, 0, none⟩ = some (.int .u16 (D : Nat)) ∧ W.cell? ⟨b, 0, none⟩ = some (.slice (some ⟨pb, po, none⟩) n dc))) := hide fun W h => ⟨⟨(h.cell (p := ⟨pb, po + i * 7, none⟩) hpl).trans x0, (h.cell (p := ⟨pb, po + i * 7 + 1, none⟩) hpl).trans x1, (h.cell (p := ⟨pb, po + i * 7 + 2, none⟩) hpl).trans x2, (h.cell (p := ⟨pb, po + i * 7 + 3, none⟩) hpl).trans x3, (h.cell (p := ⟨pb, po + i * 7 + 4, none⟩) hpl).trans x4, (h.cell (p := ⟨pb, po + i * 7 + 5, none⟩) hpl).trans x5, (h.cell (p := ⟨pb, po + i * 7 + 6, none⟩) hpl).trans x6⟩, (blk3 (G1.out.ext h)).2.1, (h.cell (p := ⟨b, 0, none⟩) c9).trans c0⟩
  have i0 : (0 : Int) ≤ (i : Int) := by omega
  have i1 : (i : Int) < (n : Int) := by omega
  clear hw hact ha hnd hins x0 x1 x2 x3 x4 x5 x6 hA c1 c2 c3 c4 c5 c6 c7
  go_enter Tryd.func49, Tryd.ntmps49
  go_upto_region 1 with fail
  clear hwA hG
  go_wp2_with fail
  refine (HW2.out _).mono ?_
  rintro e w2 ⟨rfl, rfl⟩
  clear HW2
  go_upto_region 3 with fail
  go_cut [7, 8] (fun p7 p8 w' => ∃ g, p7 = .pointer (some ⟨g, 0, none⟩) ∧ p8 = .int .u16 (seS r D : Nat) ∧ Hid (Blk w' g 71 #[.string nm, .slice na ndl nc, .slice ia insl ic, .int .i64 at_, .int .i64 fr, .int .i64 to_, .bool ex]) ∧ Hid (Below wA.heap.size wA w'))
  case first =>
   as_aux_lemma =>
    have Bd := hide (Below.refl wA.heap.size wA).drew
    have HM := hide (Below.refl wA.heap.size wA)
    obtain ⟨lo, HLO⟩ : ∃ lo, Hid (lo = wA.heap.size) := ⟨_, hide rfl⟩
    refine wp_region_J (fun W : World => ((W.cell? ⟨pb, po + i * 7, none⟩ = some (.string nm) ∧ W.cell? ⟨pb, po + i * 7 + 1, none⟩ = some (.slice na ndl nc) ∧ W.cell? ⟨pb, po + i * 7 + 2, none⟩ = some (.slice ia insl ic) ∧ W.cell? ⟨pb, po + i * 7 + 3, none⟩ = some (.int .i64 at_) ∧ W.cell? ⟨pb, po + i * 7 + 4, none⟩ = some (.int .i64 fr) ∧ W.cell? ⟨pb, po + i * 7 + 5, none⟩ = some (.int .i64 to_) ∧ W.cell? ⟨pb, po + i * 7 + 6, none⟩ = some (.bool ex)) ∧ W.cell? ⟨G, 0, none⟩ = some (.int .u16 (D : Nat)) ∧ W.cell? ⟨b, 0, none⟩ = some (.slice (some ⟨pb, po, none⟩) n dc))) (by kernel_rfl) ?_
    generalize wA.drew = wd at Bd ⊢
    refine tk_start [0, 1, 2, 3, 4, 5, 6, 7, 8, 9, 10] ?_
    iterate 11
      refine tk_one (v := ?_) (by first | exact hF | exact wideFn) (HS3.out _ Bd.out) rfl (by kernel_rfl) (by kernel_rfl) (by kernel_rfl) (by kernel_rfl) rfl ?_ (by first | exact fun _ _ _ h => h | exact fun _ _ _ h => hQ2 _ _ _ _ _ h) ?_
      rotate_left
      · intro W hSW
        simp only [glA, glB, glC]
        (try dsimp only at hSW)
        go_simp
        with_reducible rfl
      (try simp only [glA, glB, glC, Act.put, glD, glE, glF])
    refine tk_end ?_
    refine wpAnyJ_two 11 12 rfl rfl (by kernel_rfl) (fun K hK => ?_) (fun K hK => ?_)
    · simp only [glA, glB, glC]
      go_simp
      refine ⟨trivial, rfl, ?_⟩
      refine (callsIn_wide.2 (HST.out wd (HBK.out.ext Bd.out))).mono ?_
      rintro e w3 ⟨rfl, hb3⟩
      have B3 := hide (Bd.out.trans (hb3.mono Bd.out.size))
      dsimp only
      refine hK.out _ _ (fun _ => HS3.out _ B3.out) ?_
      clear hK K
      (try simp only [glA, glB, glC, Act.put, glD, glE, glF])
      clear hb3
      have B4 := hide (B3.out.alloc B3.out.size (.cells #[.string ⟨#[]⟩, .slice none 0 0, .slice none 0 0, .int .i64 0, .int .i64 0, .int .i64 0, .bool false] 71))
      have K7 := hide (Blk.new w3 71 #[.string ⟨#[]⟩, .slice none 0 0, .slice none 0 0, .int .i64 0, .int .i64 0, .int .i64 0, .bool false])
      have HL := hide B3.out.size
      refine wpAnyJ_one 12 rfl (by kernel_rfl) (fun K hK => ?_)
      simp only [glA, glB, glC]
      go_simp
      refine hK.out _ _ (fun _ => HS3.out _ B4.out) ?_
      clear hK K
      (try simp only [glA, glB, glC, Act.put, glD, glE, glF])
      obtain ⟨g, hg⟩ : ∃ x, w3.heap.size = x := ⟨_, rfl⟩
      rw [hg] at K7 HL ⊢
      clear hg
      generalize w3.alloc (.cells #[.string ⟨#[]⟩, .slice none 0 0, .slice none 0 0, .int .i64 0, .int .i64 0, .int .i64 0, .bool false] 71) = w4 at B4 K7 ⊢
      obtain ⟨wS, hrun, hKS, hBS, -⟩ := store_blk (P := Tryd.prog) (ty := 71) (cells := #[.string nm, .slice na ndl nc, .slice ia insl ic, .int .i64 at_, .int .i64 fr, .int .i64 to_, .bool ex]) K7.out rfl (by kernel_rfl) (by simp [Value.oneCell'])
      have BS := hide (hBS _ _ B4.out HL.out)
      have KS := hide hKS
      refine wpAnyJ_one 13 rfl (by kernel_rfl) (fun K hK => ?_)
      rw [if_pos (by rfl)]
      refine wpIn_store_run 71 (.tmp 7) (.tmp 26) wideFn rfl rfl rfl hrun ?_
      refine hK.out _ _ (fun _ => HS3.out _ BS.out) ?_
      clear hK K hrun hKS hBS K7
      (try simp only [glA, glB, glC, Act.put, glD, glE, glF])
      refine wpAnyJ_take 14 (v := ?_) (by first | exact hF | exact wideFn) (HS3.out _ BS.out) rfl (by kernel_rfl) (by kernel_rfl) (by kernel_rfl) (by kernel_rfl) rfl ?_ (by first | exact fun _ _ _ h => h | exact fun _ _ _ h => hQ2 _ _ _ _ _ h) ?_
      rotate_left
      · intro W hSW
        simp only [glA, glB, glC]
        (try dsimp only at hSW)
        go_simp
        with_reducible rfl
      (try simp only [glA, glB, glC, Act.put, glD, glE, glF])
      refine wpAnyJ_done (by kernel_rfl) ?_
      go_wp2_with fail
      go_meet
      exact ⟨g, rfl, rfl, KS, hide (HM.out.trans (BS.out.mono HM.out.size))⟩
    · have B3 := hide (Bd.out.alloc Bd.out.size (.cells #[.string ⟨#[]⟩, .slice none 0 0, .slice none 0 0, .int .i64 0, .int .i64 0, .int .i64 0, .bool false] 71))
      have K7 := hide (Blk.new wd 71 #[.string ⟨#[]⟩, .slice none 0 0, .slice none 0 0, .int .i64 0, .int .i64 0, .int .i64 0, .bool false])
      have HL : Hid (lo ≤ wd.heap.size) := hide (by rw [HLO.out]; exact Bd.out.size)
      simp only [glA, glB, glC]
      go_simp
      refine hK.out _ _ (fun _ => HS3.out _ B3.out) ?_
      clear hK K
      (try simp only [glA, glB, glC, Act.put, glD, glE, glF])
      obtain ⟨g, hg⟩ : ∃ x, wd.heap.size = x := ⟨_, rfl⟩
      rw [hg] at K7 HL ⊢
      clear hg
      generalize wd.alloc (.cells #[.string ⟨#[]⟩, .slice none 0 0, .slice none 0 0, .int .i64 0, .int .i64 0, .int .i64 0, .bool false] 71) = w3 at B3 K7 ⊢
      refine wpAnyJ_one 11 rfl (by kernel_rfl) (fun K hK => ?_)
      simp only [glA, glB, glC]
      go_simp
      refine ⟨trivial, rfl, ?_⟩
      refine (callsIn_wide.2 (HST.out w3 (HBK.out.ext B3.out))).mono ?_
      rintro e w4 ⟨rfl, hb3⟩
      have B4 := hide (B3.out.trans (hb3.mono B3.out.size))
      dsimp only
      refine hK.out _ _ (fun _ => HS3.out _ B4.out) ?_
      clear hK K
      (try simp only [glA, glB, glC, Act.put, glD, glE, glF])
      replace K7 := hide (K7.out.ext hb3)
      replace HL : Hid (wA.heap.size ≤ g) := hide (by rw [← HLO.out]; exact HL.out)
      clear hb3
      obtain ⟨wS, hrun, hKS, hBS, -⟩ := store_blk (P := Tryd.prog) (ty := 71) (cells := #[.string nm, .slice na ndl nc, .slice ia insl ic, .int .i64 at_, .int .i64 fr, .int .i64 to_, .bool ex]) K7.out rfl (by kernel_rfl) (by simp [Value.oneCell'])
      have BS := hide (hBS _ _ B4.out HL.out)
      have KS := hide hKS
      refine wpAnyJ_one 13 rfl (by kernel_rfl) (fun K hK => ?_)
      rw [if_pos (by rfl)]
      refine wpIn_store_run 71 (.tmp 7) (.tmp 26) wideFn rfl rfl rfl hrun ?_
      refine hK.out _ _ (fun _ => HS3.out _ BS.out) ?_
      clear hK K hrun hKS hBS K7
      (try simp only [glA, glB, glC, Act.put, glD, glE, glF])
      refine wpAnyJ_take 14 (v := ?_) (by first | exact hF | exact wideFn) (HS3.out _ BS.out) rfl (by kernel_rfl) (by kernel_rfl) (by kernel_rfl) (by kernel_rfl) rfl ?_ (by first | exact fun _ _ _ h => h | exact fun _ _ _ h => hQ2 _ _ _ _ _ h) ?_
      rotate_left
      · intro W hSW
        simp only [glA, glB, glC]
        (try dsimp only at hSW)
        go_simp
        with_reducible rfl
      (try simp only [glA, glB, glC, Act.put, glD, glE, glF])
      refine wpAnyJ_done (by kernel_rfl) ?_
      go_wp2_with fail
      go_meet
      exact ⟨g, rfl, rfl, KS, hide (HM.out.trans (BS.out.mono HM.out.size))⟩
  obtain ⟨g, rfl, rfl, HG7, HBG⟩ := hcut
  have HHA := hide (fun W => has_any D i W hd (by omega))
  have HHB := hide (fun W => has_any (seS r D) i W HSE.out.2 (by omega))
  rw [HSE.out.1] at HHB
  obtain ⟨x9, x0, x1, x2, x3, x4, x5, x6⟩ := bx7 HG7.out
  obtain ⟨y9, y0, y1, y2, -⟩ := blk3 (G1.out.ext HBG.out)
  have HBF := hide (HB1.out.trans (HBG.out.mono HB1.out.size))
  replace HBK := hide (HBK.out.ext HBG.out)
  replace G1 := hide (G1.out.ext HBG.out)
  clear HS3 x0 x1 x2 x3 HBG
  cases hda : D.testBit i with
  | true =>
    rw [hda] at HBR HHA
    rw [Bool.true_or, if_pos rfl] at HBR
    clear hda
    go_wp2_with fail
    refine (HHA.out _).mono ?_
    rintro e w4 ⟨rfl, rfl⟩
    go_wp2_with fail
    go_ret
    exact ⟨ret_int HBR.out.symm, HBF.out⟩
  | false =>
    rw [hda, Bool.false_or] at HBR
    rw [hda] at HHA
    clear hda
    cases ex with
    | false =>
      cases hsb : seB r D i with
      | true =>
        rw [hsb] at HBR HHB
        rw [Bool.not_false, Bool.true_and, if_pos rfl] at HBR
        clear hsb
        go_wp2_with fail
        refine (HHA.out _).mono ?_
        rintro e w4 ⟨rfl, rfl⟩
        go_wp2_with fail
        refine (HHB.out _).mono ?_
        rintro e w4 ⟨rfl, rfl⟩
        go_wp2_with fail
        go_ret
        exact ⟨ret_int HBR.out.symm, HBF.out⟩
      | false =>
        rw [hsb] at HBR HHB
        rw [Bool.not_false, Bool.true_and, if_neg (by decide)] at HBR
        rw [Bool.false_and] at HBR
        clear hsb
        go_wp2_with fail
        refine (HHA.out _).mono ?_
        rintro e w4 ⟨rfl, rfl⟩
        go_wp2_with fail
        refine (HHB.out _).mono ?_
        rintro e w4 ⟨rfl, rfl⟩
        go_upto_region 6 with fail
        by_cases h2 : day < fr ∨ to_ < day
        · rw [if_pos h2] at HBR
          have hw : (decide (fr ≤ day) && decide (day ≤ to_)) = false := by
            rcases h2 with h | h
            · rw [decide_eq_false (show ¬ fr ≤ day by omega)]; rfl
            · rw [decide_eq_false (show ¬ day ≤ to_ by omega), Bool.and_false]
          have HW3 := hide (HW.out day fr to_)
          rw [hw] at HW3
          clear hw h2
          go_wp2_with fail
          refine (HW3.out _).mono ?_
          rintro e w5 ⟨rfl, rfl⟩
          go_wp2_with fail
          go_ret
          exact ⟨ret_int HBR.out.symm, HBF.out⟩
        rw [if_neg h2] at HBR
        have hw : (decide (fr ≤ day) && decide (day ≤ to_)) = true := by
          rw [decide_eq_true (show fr ≤ day by omega), decide_eq_true (show day ≤ to_ by omega)]; rfl
        have HW3 := hide (HW.out day fr to_)
        rw [hw] at HW3
        clear hw h2
        go_wp2_with fail
        refine (HW3.out _).mono ?_
        rintro e w5 ⟨rfl, rfl⟩
        go_upto_region 8 with fail
        obtain ⟨nb, no, hpn, hnl, hnc⟩ := VR1.at_ HBK.out.sn hi'
        have c3 := (bx8 HBK.out.blk).2.2.2.2.1
        rw [HN.out, hpn] at c3
        rw [HA.out] at hnc
        dsimp only at hnc
        have a3 := not16 (seL_lt nd) HSE.out.2
        have HSN := hide (seL_lt nd)
        obtain ⟨z, hz⟩ : ∃ z, anN (seL nd) (seS r D) = z := ⟨_, rfl⟩
        rw [hz] at a3 HNE
        generalize seL nd = sn at a3 hnc HSN
        clear hz hpn
        cases hne : neB r D i with
        | false =>
          rw [hne] at HBR HNE
          rw [Bool.not_false, if_pos rfl] at HBR
          have hz1 : ((z : Int) == 0) = false := by
            rw [beq_eq_false_iff_ne]
            intro h
            have := HNE.out.1 (by omega)
            cases this
          have hz2 : ((z : Int) != 0) = true := by rw [bne, hz1]; rfl
          clear hne HNE
          go_wp2_with fail
          go_ret
          exact ⟨ret_int HBR.out.symm, HBF.out⟩
        | true =>
        rw [hne] at HBR HNE
        rw [Bool.not_true, if_neg (by decide)] at HBR
        obtain rfl := HNE.out.2 rfl
        clear hne HNE
        rw [if_neg (by decide)] at HBR
        go_upto_region 10 with fail
        obtain ⟨rb, ro, hpr, hrl, hrc⟩ := VR1.at_ HBK.out.sr hi'
        obtain ⟨ab, ao, hpa, hal, hac⟩ := VR1.at_ HBK.out.sa hi'
        obtain ⟨re, hre⟩ : ∃ x, reS r i = x := ⟨_, rfl⟩
        obtain ⟨at2, hat⟩ : ∃ x, atS r i = x := ⟨_, rfl⟩
        rw [hre] at hrc HLT HUS
        rw [hat] at hac HLT HUS
        have HS10 : Hid (∀ W, Below wc.heap.size wc W → ((W.cell? ⟨g, 6, none⟩ = some (.bool false) ∧ W.cell? ⟨b, 5, none⟩ = some (.slice (some ⟨rb, ro, none⟩) n n) ∧ W.cell? ⟨b, 6, none⟩ = some (.slice (some ⟨ab, ao, none⟩) n n)) ∧ (W.cell? ⟨rb, ro + i, none⟩ = some (.int .u16 (re : Nat)) ∧ W.cell? ⟨ab, ao + i, none⟩ = some (.int .u16 (at2 : Nat))) ∧ W.cell? ⟨G, 0, none⟩ = some (.int .u16 (D : Nat)) ∧ W.cell? ⟨G, 1, none⟩ = some (.int .i64 day))) := hide fun W h => ⟨⟨(bx7 (HG7.out.ext h)).2.2.2.2.2.2.2, by
          have := (bx8 (HBK.out.blk.ext h)).2.2.2.2.2.2.1
          rw [HN.out, hpr] at this
          exact this, by
          have := (bx8 (HBK.out.blk.ext h)).2.2.2.2.2.2.2.1
          rw [HN.out, hpa] at this
          exact this⟩, ⟨(h.cell (p := ⟨rb, ro + i, none⟩) hrl).trans hrc, (h.cell (p := ⟨ab, ao + i, none⟩) hal).trans hac⟩, (blk3 (G1.out.ext h)).2.1, (blk3 (G1.out.ext h)).2.2.1⟩
        have Bd := hide ((Below.refl wc.heap.size wc).drew)
        have Be := hide (HBF.out.trans ((Below.refl wc.heap.size wc).drew.mono HBF.out.size))
        clear hpr hrl hrc hpa hal hac hre hat x4 x5 x6 x9 y0 y1 y2 y9
        refine wp_region_J (fun W : World => ((W.cell? ⟨g, 6, none⟩ = some (.bool false) ∧ W.cell? ⟨b, 5, none⟩ = some (.slice (some ⟨rb, ro, none⟩) n n) ∧ W.cell? ⟨b, 6, none⟩ = some (.slice (some ⟨ab, ao, none⟩) n n)) ∧ (W.cell? ⟨rb, ro + i, none⟩ = some (.int .u16 (re : Nat)) ∧ W.cell? ⟨ab, ao + i, none⟩ = some (.int .u16 (at2 : Nat))) ∧ W.cell? ⟨G, 0, none⟩ = some (.int .u16 (D : Nat)) ∧ W.cell? ⟨G, 1, none⟩ = some (.int .i64 day))) (by kernel_rfl) ?_
        generalize wc.drew = wd at Bd Be ⊢
        refine tk_start [0, 1, 2] ?_
        iterate 3
          refine tk_one (v := ?_) (by first | exact hF | exact wideFn) (HS10.out _ Bd.out) rfl (by kernel_rfl) (by kernel_rfl) (by kernel_rfl) (by kernel_rfl) rfl ?_ (by first | exact fun _ _ _ h => h | exact fun _ _ _ h => hQ2 _ _ _ _ _ h) ?_
          rotate_left
          · intro W hSW
            simp only [glA, glB, glC]
            (try dsimp only at hSW)
            go_simp
            with_reducible rfl
          (try simp only [glA, glB, glC, Act.put, glD, glE, glF])
        refine tk_end ?_
        refine tk_start [3, 4, 5, 6, 7, 8, 9, 10, 11, 12] ?_
        iterate 10
          refine tk_skip (by first | exact hF | exact wideFn) (HS10.out _ Bd.out) rfl (by kernel_rfl) (by kernel_rfl) (by kernel_rfl) (by kernel_rfl) rfl (by first | exact fun _ _ _ h => h | exact fun _ _ _ h => hQ2 _ _ _ _ _ h) ?_
          (try simp only [glA, glB, glC, Act.put, glD, glE, glF])
        refine tk_end ?_
        refine wpAnyJ_take 13 (v := ?_) (by first | exact hF | exact wideFn) (HS10.out _ Bd.out) rfl (by kernel_rfl) (by kernel_rfl) (by kernel_rfl) (by kernel_rfl) rfl ?_ (by first | exact fun _ _ _ h => h | exact fun _ _ _ h => hQ2 _ _ _ _ _ h) ?_
        rotate_left
        · intro W hSW
          simp only [glA, glB, glC]
          (try dsimp only at hSW)
          go_simp
          with_reducible rfl
        (try simp only [glA, glB, glC, Act.put, glD, glE, glF])
        refine wpAnyJ_take 14 (v := ?_) (by first | exact hF | exact wideFn) (HS10.out _ Bd.out) rfl (by kernel_rfl) (by kernel_rfl) (by kernel_rfl) (by kernel_rfl) rfl ?_ (by first | exact fun _ _ _ h => h | exact fun _ _ _ h => hQ2 _ _ _ _ _ h) ?_
        rotate_left
        · intro W hSW
          simp only [glA, glB, glC]
          (try dsimp only at hSW)
          go_simp
          with_reducible rfl
        (try simp only [glA, glB, glC, Act.put, glD, glE, glF])
        refine tk_start [15, 16, 17, 18, 19, 20, 21, 22, 23, 24, 25, 26, 27, 28, 29] ?_
        iterate 15
          refine tk_skip (by first | exact hF | exact wideFn) (HS10.out _ Bd.out) rfl (by kernel_rfl) (by kernel_rfl) (by kernel_rfl) (by kernel_rfl) rfl (by first | exact fun _ _ _ h => h | exact fun _ _ _ h => hQ2 _ _ _ _ _ h) ?_
          (try simp only [glA, glB, glC, Act.put, glD, glE, glF])
        refine tk_end ?_
        refine wpAnyJ_take 30 (v := ?_) (by first | exact hF | exact wideFn) (HS10.out _ Bd.out) rfl (by kernel_rfl) (by kernel_rfl) (by kernel_rfl) (by kernel_rfl) rfl ?_ (by first | exact fun _ _ _ h => h | exact fun _ _ _ h => hQ2 _ _ _ _ _ h) ?_
        rotate_left
        · intro W hSW
          simp only [glA, glB, glC]
          (try dsimp only at hSW)
          go_simp
          with_reducible rfl
        (try simp only [glA, glB, glC, Act.put, glD, glE, glF])
        refine wpAnyJ_take 31 (v := ?_) (by first | exact hF | exact wideFn) (HS10.out _ Bd.out) rfl (by kernel_rfl) (by kernel_rfl) (by kernel_rfl) (by kernel_rfl) rfl ?_ (by first | exact fun _ _ _ h => h | exact fun _ _ _ h => hQ2 _ _ _ _ _ h) ?_
        rotate_left
        · intro W hSW
          simp only [glA, glB, glC]
          (try dsimp only at hSW)
          go_simp
          with_reducible rfl
        (try simp only [glA, glB, glC, Act.put, glD, glE, glF])
        refine wpAnyJ_done (by kernel_rfl) ?_
        go_upto_region 12 with fail
        have HS12 : Hid (∀ W, Below wc.heap.size wc W → (W.cell? ⟨G, 2, none⟩ = some (.int .i64 de) ∧ W.cell? ⟨b, 2, none⟩ = some (.int .i64 r.toil))) := hide fun W h => ⟨(blk3 (G1.out.ext h)).2.2.2.1, (bx8 (HBK.out.blk.ext h)).2.2.2.1⟩
        have Bq := hide (Bd.out.trans ((Below.refl wd.heap.size wd).drew.mono Bd.out.size))
        have Br := hide (Be.out.trans ((Below.refl wd.heap.size wd).drew.mono Be.out.size))
        refine wp_region_J (fun W : World => (W.cell? ⟨G, 2, none⟩ = some (.int .i64 de) ∧ W.cell? ⟨b, 2, none⟩ = some (.int .i64 r.toil))) (by kernel_rfl) ?_
        generalize wd.drew = wq at Bq Br ⊢
        by_cases h5 : r.toil ≤ de
        · rw [if_pos h5] at HBR
          have h5' : de ≥ r.toil := h5
          refine tk_start [0, 1, 2, 3, 4, 5, 6, 7, 8] ?_
          iterate 9
            refine tk_one (v := ?_) (by first | exact hF | exact wideFn) (HS12.out _ Bq.out) rfl (by kernel_rfl) (by kernel_rfl) (by kernel_rfl) (by kernel_rfl) rfl ?_ (by first | exact fun _ _ _ h => h | exact fun _ _ _ h => hQ2 _ _ _ _ _ h) ?_
            rotate_left
            · intro W hSW
              simp only [glA, glB, glC]
              (try dsimp only at hSW)
              go_simp
              with_reducible rfl
            (try simp only [glA, glB, glC, Act.put, glD, glE, glF])
          refine tk_end ?_
          refine wpAnyJ_done (by kernel_rfl) ?_
          go_wp2_with fail
          go_ret
          exact ⟨ret_int HBR.out.symm, Br.out⟩
        · rw [if_neg h5] at HBR
          have h5' : ¬ de ≥ r.toil := h5
          refine tk_start [0, 1, 2, 3, 4, 5, 6, 7, 8] ?_
          iterate 9
            refine tk_one (v := ?_) (by first | exact hF | exact wideFn) (HS12.out _ Bq.out) rfl (by kernel_rfl) (by kernel_rfl) (by kernel_rfl) (by kernel_rfl) rfl ?_ (by first | exact fun _ _ _ h => h | exact fun _ _ _ h => hQ2 _ _ _ _ _ h) ?_
            rotate_left
            · intro W hSW
              simp only [glA, glB, glC]
              (try dsimp only at hSW)
              go_simp
              with_reducible rfl
            (try simp only [glA, glB, glC, Act.put, glD, glE, glF])
          refine tk_end ?_
          refine wpAnyJ_done (by kernel_rfl) ?_
          go_wp2_with fail
          go_ret
          exact ⟨ret_int HBR.out.symm, Br.out⟩
    | true =>
      rw [Bool.not_true, Bool.false_and, if_neg (by decide)] at HBR
      rw [Bool.true_and] at HBR
      go_wp2_with fail
      refine (HHA.out _).mono ?_
      rintro e w4 ⟨rfl, rfl⟩
      go_upto_region 6 with fail
      by_cases h2 : day < fr ∨ to_ < day
      · rw [if_pos h2] at HBR
        have hw : (decide (fr ≤ day) && decide (day ≤ to_)) = false := by
          rcases h2 with h | h
          · rw [decide_eq_false (show ¬ fr ≤ day by omega)]; rfl
          · rw [decide_eq_false (show ¬ day ≤ to_ by omega), Bool.and_false]
        have HW3 := hide (HW.out day fr to_)
        rw [hw] at HW3
        clear hw h2
        go_wp2_with fail
        refine (HW3.out _).mono ?_
        rintro e w5 ⟨rfl, rfl⟩
        go_wp2_with fail
        go_ret
        exact ⟨ret_int HBR.out.symm, HBF.out⟩
      rw [if_neg h2] at HBR
      have hw : (decide (fr ≤ day) && decide (day ≤ to_)) = true := by
        rw [decide_eq_true (show fr ≤ day by omega), decide_eq_true (show day ≤ to_ by omega)]; rfl
      have HW3 := hide (HW.out day fr to_)
      rw [hw] at HW3
      clear hw h2
      go_wp2_with fail
      refine (HW3.out _).mono ?_
      rintro e w5 ⟨rfl, rfl⟩
      go_upto_region 8 with fail
      obtain ⟨nb, no, hpn, hnl, hnc⟩ := VR1.at_ HBK.out.sn hi'
      have c3 := (bx8 HBK.out.blk).2.2.2.2.1
      rw [HN.out, hpn] at c3
      rw [HA.out] at hnc
      dsimp only at hnc
      have a3 := not16 (seL_lt nd) HSE.out.2
      have HSN := hide (seL_lt nd)
      obtain ⟨z, hz⟩ : ∃ z, anN (seL nd) (seS r D) = z := ⟨_, rfl⟩
      rw [hz] at a3 HNE
      generalize seL nd = sn at a3 hnc HSN
      clear hz hpn
      cases hne : neB r D i with
      | false =>
        rw [hne] at HBR HNE
        rw [Bool.not_false, if_pos rfl] at HBR
        have hz1 : ((z : Int) == 0) = false := by
          rw [beq_eq_false_iff_ne]
          intro h
          have := HNE.out.1 (by omega)
          cases this
        have hz2 : ((z : Int) != 0) = true := by rw [bne, hz1]; rfl
        clear hne HNE
        go_wp2_with fail
        go_ret
        exact ⟨ret_int HBR.out.symm, HBF.out⟩
      | true =>
      rw [hne] at HBR HNE
      rw [Bool.not_true, if_neg (by decide)] at HBR
      obtain rfl := HNE.out.2 rfl
      clear hne HNE
      go_upto_region 10 with fail
      obtain ⟨rb, ro, hpr, hrl, hrc⟩ := VR1.at_ HBK.out.sr hi'
      obtain ⟨ab, ao, hpa, hal, hac⟩ := VR1.at_ HBK.out.sa hi'
      obtain ⟨re, hre⟩ : ∃ x, reS r i = x := ⟨_, rfl⟩
      obtain ⟨at2, hat⟩ : ∃ x, atS r i = x := ⟨_, rfl⟩
      rw [hre] at hrc HLT HUS
      rw [hat] at hac HLT HUS
      have HS10 : Hid (∀ W, Below wc.heap.size wc W → ((W.cell? ⟨g, 6, none⟩ = some (.bool true) ∧ W.cell? ⟨b, 5, none⟩ = some (.slice (some ⟨rb, ro, none⟩) n n) ∧ W.cell? ⟨b, 6, none⟩ = some (.slice (some ⟨ab, ao, none⟩) n n)) ∧ (W.cell? ⟨rb, ro + i, none⟩ = some (.int .u16 (re : Nat)) ∧ W.cell? ⟨ab, ao + i, none⟩ = some (.int .u16 (at2 : Nat))) ∧ W.cell? ⟨G, 0, none⟩ = some (.int .u16 (D : Nat)) ∧ W.cell? ⟨G, 1, none⟩ = some (.int .i64 day))) := hide fun W h => ⟨⟨(bx7 (HG7.out.ext h)).2.2.2.2.2.2.2, by
        have := (bx8 (HBK.out.blk.ext h)).2.2.2.2.2.2.1
        rw [HN.out, hpr] at this
        exact this, by
        have := (bx8 (HBK.out.blk.ext h)).2.2.2.2.2.2.2.1
        rw [HN.out, hpa] at this
        exact this⟩, ⟨(h.cell (p := ⟨rb, ro + i, none⟩) hrl).trans hrc, (h.cell (p := ⟨ab, ao + i, none⟩) hal).trans hac⟩, (blk3 (G1.out.ext h)).2.1, (blk3 (G1.out.ext h)).2.2.1⟩
      have Bd := hide ((Below.refl wc.heap.size wc).drew)
      have Be := hide (HBF.out.trans ((Below.refl wc.heap.size wc).drew.mono HBF.out.size))
      clear hpr hrl hrc hpa hal hac hre hat x4 x5 x6 x9 y0 y1 y2 y9
      refine wp_region_J (fun W : World => ((W.cell? ⟨g, 6, none⟩ = some (.bool true) ∧ W.cell? ⟨b, 5, none⟩ = some (.slice (some ⟨rb, ro, none⟩) n n) ∧ W.cell? ⟨b, 6, none⟩ = some (.slice (some ⟨ab, ao, none⟩) n n)) ∧ (W.cell? ⟨rb, ro + i, none⟩ = some (.int .u16 (re : Nat)) ∧ W.cell? ⟨ab, ao + i, none⟩ = some (.int .u16 (at2 : Nat))) ∧ W.cell? ⟨G, 0, none⟩ = some (.int .u16 (D : Nat)) ∧ W.cell? ⟨G, 1, none⟩ = some (.int .i64 day))) (by kernel_rfl) ?_
      generalize wc.drew = wd at Bd Be ⊢
      have a4 := not16 HLT.out.1 HSE.out.2
      have a5 := and16 HLT.out.2.1 HLT.out.2.2
      obtain ⟨z1, hz1⟩ : ∃ z, anN re (seS r D) = z := ⟨_, rfl⟩
      obtain ⟨z2, hz2⟩ : ∃ z, at2 &&& foS r D day = z := ⟨_, rfl⟩
      rw [hz1] at a4 HUS
      rw [hz2] at a5 HUS
      clear hz1 hz2
      by_cases h1 : z1 = 0
      · have f1 : ((z1 : Int) == 0) = true := by rw [h1]; rfl
        refine tk_start [0, 1, 2, 3, 4, 5, 6, 7, 8, 9, 10, 11, 12, 13, 14, 15, 16, 17, 18, 19, 20, 21, 22, 23, 24, 25, 26] ?_
        iterate 27
          refine tk_one (v := ?_) (by first | exact hF | exact wideFn) (HS10.out _ Bd.out) rfl (by kernel_rfl) (by kernel_rfl) (by kernel_rfl) (by kernel_rfl) rfl ?_ (by first | exact fun _ _ _ h => h | exact fun _ _ _ h => hQ2 _ _ _ _ _ h) ?_
          rotate_left
          · intro W hSW
            simp only [glA, glB, glC]
            (try dsimp only at hSW)
            go_simp
            with_reducible rfl
          (try simp only [glA, glB, glC, Act.put, glD, glE, glF])
        refine tk_end ?_
        refine wpAnyJ_one 27 rfl (by kernel_rfl) (fun K hK => ?_)
        simp only [glA, glB, glC]
        go_simp
        refine ⟨trivial, rfl, ?_⟩
        refine (callsIn_wide.2 (HFO.out wd (HBK.out.ext Bd.out))).mono ?_
        rintro e wf ⟨rfl, hbf⟩
        have Bf := hide (Bd.out.trans (hbf.mono Bd.out.size)); have Bg := hide (Be.out.trans (hbf.mono Be.out.size))
        dsimp only
        refine hK.out _ _ (fun _ => HS10.out _ Bf.out) ?_
        clear hK K
        (try simp only [glA, glB, glC, Act.put, glD, glE, glF])
        clear hbf
        by_cases h2 : z2 = 0
        · have f2 : ((z2 : Int) == 0) = true := by rw [h2]; rfl
          have hus := HUS.out.1 ⟨h1, h2⟩
          rw [hus, Bool.not_false, if_pos rfl] at HBR
          clear hus HUS h1 h2
          refine tk_start [28, 29, 30, 31] ?_
          iterate 4
            refine tk_one (v := ?_) (by first | exact hF | exact wideFn) (HS10.out _ Bf.out) rfl (by kernel_rfl) (by kernel_rfl) (by kernel_rfl) (by kernel_rfl) rfl ?_ (by first | exact fun _ _ _ h => h | exact fun _ _ _ h => hQ2 _ _ _ _ _ h) ?_
            rotate_left
            · intro W hSW
              simp only [glA, glB, glC]
              (try dsimp only at hSW)
              go_simp
              with_reducible rfl
            (try simp only [glA, glB, glC, Act.put, glD, glE, glF])
          refine tk_end ?_
          refine wpAnyJ_done (by kernel_rfl) ?_
          go_wp2_with fail
          go_ret
          exact ⟨ret_int HBR.out.symm, Bg.out⟩
        · have f2 : ((z2 : Int) == 0) = false := by rw [beq_eq_false_iff_ne]; omega
          have hus : usB r D day i = true := by
            rcases hb : usB r D day i with _ | _
            · exact absurd (HUS.out.2 hb).2 h2
            · rfl
          rw [hus, Bool.not_true, if_neg (by decide)] at HBR
          clear hus HUS h1 h2
          refine tk_start [28, 29, 30, 31] ?_
          iterate 4
            refine tk_one (v := ?_) (by first | exact hF | exact wideFn) (HS10.out _ Bf.out) rfl (by kernel_rfl) (by kernel_rfl) (by kernel_rfl) (by kernel_rfl) rfl ?_ (by first | exact fun _ _ _ h => h | exact fun _ _ _ h => hQ2 _ _ _ _ _ h) ?_
            rotate_left
            · intro W hSW
              simp only [glA, glB, glC]
              (try dsimp only at hSW)
              go_simp
              with_reducible rfl
            (try simp only [glA, glB, glC, Act.put, glD, glE, glF])
          refine tk_end ?_
          refine wpAnyJ_done (by kernel_rfl) ?_
          go_upto_region 12 with fail
          have HS12 : Hid (∀ W, Below wc.heap.size wc W → (W.cell? ⟨G, 2, none⟩ = some (.int .i64 de) ∧ W.cell? ⟨b, 2, none⟩ = some (.int .i64 r.toil))) := hide fun W h => ⟨(blk3 (G1.out.ext h)).2.2.2.1, (bx8 (HBK.out.blk.ext h)).2.2.2.1⟩
          have Bq := hide (Bf.out.trans ((Below.refl wf.heap.size wf).drew.mono Bf.out.size))
          have Br := hide (Bg.out.trans ((Below.refl wf.heap.size wf).drew.mono Bg.out.size))
          refine wp_region_J (fun W : World => (W.cell? ⟨G, 2, none⟩ = some (.int .i64 de) ∧ W.cell? ⟨b, 2, none⟩ = some (.int .i64 r.toil))) (by kernel_rfl) ?_
          generalize wf.drew = wq at Bq Br ⊢
          by_cases h5 : r.toil ≤ de
          · rw [if_pos h5] at HBR
            have h5' : de ≥ r.toil := h5
            refine tk_start [0, 1, 2, 3, 4, 5, 6, 7, 8] ?_
            iterate 9
              refine tk_one (v := ?_) (by first | exact hF | exact wideFn) (HS12.out _ Bq.out) rfl (by kernel_rfl) (by kernel_rfl) (by kernel_rfl) (by kernel_rfl) rfl ?_ (by first | exact fun _ _ _ h => h | exact fun _ _ _ h => hQ2 _ _ _ _ _ h) ?_
              rotate_left
              · intro W hSW
                simp only [glA, glB, glC]
                (try dsimp only at hSW)
                go_simp
                with_reducible rfl
              (try simp only [glA, glB, glC, Act.put, glD, glE, glF])
            refine tk_end ?_
            refine wpAnyJ_done (by kernel_rfl) ?_
            go_wp2_with fail
            go_ret
            exact ⟨ret_int HBR.out.symm, Br.out⟩
          · rw [if_neg h5] at HBR
            have h5' : ¬ de ≥ r.toil := h5
            refine tk_start [0, 1, 2, 3, 4, 5, 6, 7, 8] ?_
            iterate 9
              refine tk_one (v := ?_) (by first | exact hF | exact wideFn) (HS12.out _ Bq.out) rfl (by kernel_rfl) (by kernel_rfl) (by kernel_rfl) (by kernel_rfl) rfl ?_ (by first | exact fun _ _ _ h => h | exact fun _ _ _ h => hQ2 _ _ _ _ _ h) ?_
              rotate_left
              · intro W hSW
                simp only [glA, glB, glC]
                (try dsimp only at hSW)
                go_simp
                with_reducible rfl
              (try simp only [glA, glB, glC, Act.put, glD, glE, glF])
            refine tk_end ?_
            refine wpAnyJ_done (by kernel_rfl) ?_
            go_wp2_with fail
            go_ret
            exact ⟨ret_int HBR.out.symm, Br.out⟩
      · have f1 : ((z1 : Int) == 0) = false := by rw [beq_eq_false_iff_ne]; omega
        have hus : usB r D day i = true := by
          rcases hb : usB r D day i with _ | _
          · exact absurd (HUS.out.2 hb).1 h1
          · rfl
        rw [hus, Bool.not_true, if_neg (by decide)] at HBR
        clear hus HUS h1
        refine tk_start [0, 1, 2, 3, 4, 5, 6, 7, 8, 9, 10, 11, 12, 13, 14] ?_
        iterate 15
          refine tk_one (v := ?_) (by first | exact hF | exact wideFn) (HS10.out _ Bd.out) rfl (by kernel_rfl) (by kernel_rfl) (by kernel_rfl) (by kernel_rfl) rfl ?_ (by first | exact fun _ _ _ h => h | exact fun _ _ _ h => hQ2 _ _ _ _ _ h) ?_
          rotate_left
          · intro W hSW
            simp only [glA, glB, glC]
            (try dsimp only at hSW)
            go_simp
            with_reducible rfl
          (try simp only [glA, glB, glC, Act.put, glD, glE, glF])
        refine tk_end ?_
        refine tk_start [15, 16, 17, 18, 19, 20, 21, 22, 23, 24, 25, 26, 27, 28, 29] ?_
        iterate 15
          refine tk_skip (by first | exact hF | exact wideFn) (HS10.out _ Bd.out) rfl (by kernel_rfl) (by kernel_rfl) (by kernel_rfl) (by kernel_rfl) rfl (by first | exact fun _ _ _ h => h | exact fun _ _ _ h => hQ2 _ _ _ _ _ h) ?_
          (try simp only [glA, glB, glC, Act.put, glD, glE, glF])
        refine tk_end ?_
        refine wpAnyJ_take 30 (v := ?_) (by first | exact hF | exact wideFn) (HS10.out _ Bd.out) rfl (by kernel_rfl) (by kernel_rfl) (by kernel_rfl) (by kernel_rfl) rfl ?_ (by first | exact fun _ _ _ h => h | exact fun _ _ _ h => hQ2 _ _ _ _ _ h) ?_
        rotate_left
        · intro W hSW
          simp only [glA, glB, glC]
          (try dsimp only at hSW)
          go_simp
          with_reducible rfl
        (try simp only [glA, glB, glC, Act.put, glD, glE, glF])
        refine wpAnyJ_take 31 (v := ?_) (by first | exact hF | exact wideFn) (HS10.out _ Bd.out) rfl (by kernel_rfl) (by kernel_rfl) (by kernel_rfl) (by kernel_rfl) rfl ?_ (by first | exact fun _ _ _ h => h | exact fun _ _ _ h => hQ2 _ _ _ _ _ h) ?_
        rotate_left
        · intro W hSW
          simp only [glA, glB, glC]
          (try dsimp only at hSW)
          go_simp
          with_reducible rfl
        (try simp only [glA, glB, glC, Act.put, glD, glE, glF])
        refine wpAnyJ_done (by kernel_rfl) ?_
        go_upto_region 12 with fail
        have HS12 : Hid (∀ W, Below wc.heap.size wc W → (W.cell? ⟨G, 2, none⟩ = some (.int .i64 de) ∧ W.cell? ⟨b, 2, none⟩ = some (.int .i64 r.toil))) := hide fun W h => ⟨(blk3 (G1.out.ext h)).2.2.2.1, (bx8 (HBK.out.blk.ext h)).2.2.2.1⟩
        have Bq := hide (Bd.out.trans ((Below.refl wd.heap.size wd).drew.mono Bd.out.size))
        have Br := hide (Be.out.trans ((Below.refl wd.heap.size wd).drew.mono Be.out.size))
        refine wp_region_J (fun W : World => (W.cell? ⟨G, 2, none⟩ = some (.int .i64 de) ∧ W.cell? ⟨b, 2, none⟩ = some (.int .i64 r.toil))) (by kernel_rfl) ?_
        generalize wd.drew = wq at Bq Br ⊢
        by_cases h5 : r.toil ≤ de
        · rw [if_pos h5] at HBR
          have h5' : de ≥ r.toil := h5
          refine tk_start [0, 1, 2, 3, 4, 5, 6, 7, 8] ?_
          iterate 9
            refine tk_one (v := ?_) (by first | exact hF | exact wideFn) (HS12.out _ Bq.out) rfl (by kernel_rfl) (by kernel_rfl) (by kernel_rfl) (by kernel_rfl) rfl ?_ (by first | exact fun _ _ _ h => h | exact fun _ _ _ h => hQ2 _ _ _ _ _ h) ?_
            rotate_left
            · intro W hSW
              simp only [glA, glB, glC]
              (try dsimp only at hSW)
              go_simp
              with_reducible rfl
            (try simp only [glA, glB, glC, Act.put, glD, glE, glF])
          refine tk_end ?_
          refine wpAnyJ_done (by kernel_rfl) ?_
          go_wp2_with fail
          go_ret
          exact ⟨ret_int HBR.out.symm, Br.out⟩
        · rw [if_neg h5] at HBR
          have h5' : ¬ de ≥ r.toil := h5
          refine tk_start [0, 1, 2, 3, 4, 5, 6, 7, 8] ?_
          iterate 9
            refine tk_one (v := ?_) (by first | exact hF | exact wideFn) (HS12.out _ Bq.out) rfl (by kernel_rfl) (by kernel_rfl) (by kernel_rfl) (by kernel_rfl) rfl ?_ (by first | exact fun _ _ _ h => h | exact fun _ _ _ h => hQ2 _ _ _ _ _ h) ?_
            rotate_left
            · intro W hSW
              simp only [glA, glB, glC]
              (try dsimp only at hSW)
              go_simp
              with_reducible rfl
            (try simp only [glA, glB, glC, Act.put, glD, glE, glF])
          refine tk_end ?_
          refine wpAnyJ_done (by kernel_rfl) ?_
          go_wp2_with fail
          go_ret
          exact ⟨ret_int HBR.out.symm, Br.out⟩
end Go.Proofs.YtagjeeimglecnaaDoor
/- Rite: next, walked. -/
namespace Go.Proofs.YtagjeeimglecnaaDoor
open Go Go.RowKit Go.Shelf
set_option maxHeartbeats 8000000
set_option maxRecDepth 100000
theorem next_any (b : Nat) (d : Rad) (q : Bad) (r : Rit) (m : Mom) (w : World) (hr : RiOk r) (hd : m.d < 65536) (hB : BkR w b d q r) :
    Calls Tryd.prog 62 #[.pointer (some ⟨b, 0, none⟩), momV m] w fun e w' => e = .returned (.int .u16 (neS r m : Nat)) ∧ Below w.heap.size w w' := by
  have HRU := hide (fun (act : Int) W (h : BkR W b d q r) => rule_any b d q r m act W hr hd h)
  obtain ⟨D, day, de⟩ := m
  unfold momV at HRU ⊢
  unfold neS
  dsimp only at hd HRU ⊢
  have h10 := hr.n10
  have HB1 : Hid (Below w.heap.size w (w.alloc (.cells #[.int .u16 (D : Nat), .int .i64 day, .int .i64 de] 88))) := hide ((Below.refl _ _).alloc (Nat.le_refl _) _)
  have G1 := hide (Blk.new w 88 #[.int .u16 (D : Nat), .int .i64 day, .int .i64 de])
  have HBK := hide (hB.ext HB1.out)
  obtain ⟨n, hn⟩ : ∃ n, r.n = n := ⟨_, rfl⟩
  have HN := hide hn
  rw [hn] at h10
  obtain ⟨p, hp⟩ : ∃ p : Nat → Bool, (fun i : Nat => decide (brF r D day de (i : Int) = 0)) = p := ⟨_, rfl⟩
  have HP : Hid (∀ i : Nat, p i = decide (brF r D day de (i : Int) = 0)) := hide fun i => by rw [← hp]
  rw [hp, hn]
  clear hB hr hn hp
  go_enter Tryd.func62, Tryd.ntmps62
  go_upto_region 1 with fail
  generalize w.alloc (.cells #[.int .u16 (D : Nat), .int .i64 day, .int .i64 de] 88) = w1 at HB1 G1 HBK ⊢
  generalize w.heap.size = G at G1 ⊢
  obtain ⟨c9, c0, c1, c2, c3, c4, c5, c6, c7⟩ := bx8 HBK.out.blk
  rw [HN.out] at c0
  clear c1 c2 c3 c4 c5 c6 c7
  go_wp2_with fail
  clear c0 c9
  go_loopw [4, 5, 12] (fun a _ i wr => ∃ k : Nat, k ≤ n ∧ i = .int .i64 k ∧ a = .int .u16 (mkS p k : Nat) ∧ Hid (Below w1.heap.size w1 wr)) (fun _ _ i _ => n - (intOf i).toNat)
  case atStart => exact ⟨0, Nat.zero_le _, rfl, rfl, hide (Below.refl _ _)⟩
  case round =>
    obtain ⟨k, hk, rfl, rfl, HB⟩ := hrel
    have hst : IntKind.i64.wrap ((k : Int) + 1) = ((k + 1 : Nat) : Int) := by rw [IntWalk.i64_in _ (by omega)]; omega
    by_cases hlt : k < n
    · have hlt' : (k : Int) < (n : Int) := by omega
      obtain ⟨y9, y0, y1, y2, -⟩ := blk3 (G1.out.ext HB.out)
      have HC := hide (HRU.out k wr (HBK.out.ext HB.out))
      have hpk := HP.out k
      generalize brF r D day de k = z at HC hpk
      by_cases hz : z = 0
      · have hz1 : (z == 0) = true := by rw [hz]; rfl
        rw [decide_eq_true hz] at hpk
        have HSB := hide (mk_or (p := p) (by omega) hpk)
        have HOF := hide (fun W => of1_any k W (by omega))
        clear hpk hz
        generalize mkS p k = m at HSB ⊢
        obtain ⟨m2, hm2⟩ : ∃ x, mkS p (k + 1) = x := ⟨_, rfl⟩
        rw [hm2] at HSB
        have HM2 := hide hm2
        clear hm2
        go_wp2_with fail
        refine HC.out.mono ?_
        rintro e w2 ⟨rfl, hb2⟩
        replace HB := hide (HB.out.trans (hb2.mono HB.out.size))
        clear hb2 y0 y1 y2 y9
        go_wp2_with fail
        refine (HOF.out _).mono ?_
        rintro e w3 ⟨rfl, hb3⟩
        replace HB := hide (HB.out.trans (hb3.mono HB.out.size))
        clear hb3 HOF
        obtain ⟨P, hP⟩ : ∃ P : Nat, 2 ^ k = P := ⟨_, rfl⟩
        rw [hP] at HSB ⊢
        have a2 := HSB.out
        go_wp2_with fail
        go_roundw
        case rel => exact ⟨k + 1, by omega, by go_num, by rw [HM2.out], HB⟩
        case measure => simp [intOf]; omega
      · have hz1 : (z == 0) = false := by rw [beq_eq_false_iff_ne]; exact hz
        rw [decide_eq_false hz] at hpk
        have HSB := hide (mkS_no hpk)
        clear hpk hz
        go_wp2_with fail
        refine HC.out.mono ?_
        rintro e w2 ⟨rfl, hb2⟩
        replace HB := hide (HB.out.trans (hb2.mono HB.out.size))
        clear hb2 y0 y1 y2 y9
        go_wp2_with fail
        go_roundw
        case rel => exact ⟨k + 1, by omega, by go_num, by rw [HSB.out], HB⟩
        case measure => simp [intOf]; omega
    · obtain rfl : n = k := by omega
      have hnl : ¬ (n : Int) < (n : Int) := by omega
      go_wp2_with fail
      go_ret
      exact ⟨rfl, HB1.out.trans (HB.out.mono HB1.out.size)⟩
end Go.Proofs.YtagjeeimglecnaaDoor
/- Rite: follow, walked. -/
namespace Go.Proofs.YtagjeeimglecnaaDoor
open List renaming getElem_toArray → glA, getElem_cons_zero → glB, getElem_cons_succ → glC, setIfInBounds_toArray → glD, set_cons_zero → glE, set_cons_succ → glF
open Go Go.RowKit Go.Shelf
set_option maxHeartbeats 8000000
set_option maxRecDepth 100000
def dsV (t : Int × Int) (i : Nat) : Value := if i = 0 then .int .i64 t.1 else .int .i64 t.2
/-- a list of deeds that is read -/
def DsR (w : World) (A : Option Addr) (l : List (Int × Int)) : Prop := ER w w.heap.size 2 A l.length fun k i => dsV (l.getD k (0, 0)) i
theorem DsR.ext {w w' : World} {A : Option Addr} {l : List (Int × Int)} (h : DsR w A l) (hb : Below w.heap.size w w') : DsR w' A l := (ER.below h hb (Nat.le_refl _)).more hb.size
theorem DsR.at_ {w : World} {A : Option Addr} {l : List (Int × Int)} (h : DsR w A l) {k : Nat} (hk : k < l.length) {t : Int × Int} (ht : l.getD k (0, 0) = t) :
    ∃ b off, A = some ⟨b, off, none⟩ ∧ b < w.heap.size ∧ w.cell? ⟨b, off + k * 2, none⟩ = some (.int .i64 t.1) ∧ w.cell? ⟨b, off + k * 2 + 1, none⟩ = some (.int .i64 t.2) := by
  obtain ⟨b, off, hA, hlt, hc⟩ := h (by omega)
  subst ht
  exact ⟨b, off, hA, hlt, hc k 0 hk (by omega), hc k 1 hk (by omega)⟩
theorem br_range {r : Rit} {d : Nat} {day de act : Int} (h : brF r d day de act = 0) : 0 ≤ act ∧ act < r.n := by
  unfold brF at h
  split at h
  · cases h
  · omega
theorem drop_step {l : List (Int × Int)} {k : Nat} (hk : k < l.length) : l.drop k = l.getD k (0, 0) :: l.drop (k + 1) := by
  rw [List.drop_eq_getElem_cons hk, List.getD_eq_getElem?_getD, List.getElem?_eq_getElem hk]; rfl
theorem fol_break {r : Rit} {m : Mom} {l : List (Int × Int)} {k : Nat} (hk : k < l.length) {x : Int × Int} (hx : l.getD k (0, 0) = x) (h : x.1 < m.day ∨ r.last < x.1) : folF r m (l.drop k) k = (m, (k : Int), 1) := by
  rw [drop_step hk, hx]
  show (if x.1 < m.day ∨ r.last < x.1 then _ else _) = _
  rw [if_pos h]
theorem fol_rule {r : Rit} {m : Mom} {l : List (Int × Int)} {k : Nat} (hk : k < l.length) {x : Int × Int} (hx : l.getD k (0, 0) = x) (h : ¬ (x.1 < m.day ∨ r.last < x.1)) (h2 : brF r (m.on x.1).d (m.on x.1).day (m.on x.1).de x.2 ≠ 0) :
    folF r m (l.drop k) k = (m.on x.1, (k : Int), brF r (m.on x.1).d (m.on x.1).day (m.on x.1).de x.2) := by
  rw [drop_step hk, hx]
  show (if x.1 < m.day ∨ r.last < x.1 then _ else _) = _
  rw [if_neg h, if_pos h2]
theorem fol_on {r : Rit} {m : Mom} {l : List (Int × Int)} {k : Nat} (hk : k < l.length) {x : Int × Int} (hx : l.getD k (0, 0) = x) (h : ¬ (x.1 < m.day ∨ r.last < x.1)) (h2 : ¬ brF r (m.on x.1).d (m.on x.1).day (m.on x.1).de x.2 ≠ 0) :
    folF r m (l.drop k) k = folF r ((m.on x.1).wi x.2.toNat) (l.drop (k + 1)) (k + 1) := by
  rw [drop_step hk, hx]
  show (if x.1 < m.day ∨ r.last < x.1 then _ else _) = _
  rw [if_neg h, if_neg h2]
theorem on_d (m : Mom) (day : Int) : (m.on day).d = m.d := by unfold Mom.on; split <;> rfl
theorem on_de {m : Mom} {day : Int} {k : Nat} (h : 0 ≤ m.de ∧ m.de ≤ k) : 0 ≤ (m.on day).de ∧ (m.on day).de ≤ k := by
  unfold Mom.on
  split
  · exact h
  · exact ⟨Int.le_refl _, by show (0 : Int) ≤ k; omega⟩
theorem follow_any (b : Nat) (d : Rad) (q : Bad) (r : Rit) (A : Option Addr) (c : Nat) (l : List (Int × Int)) (w : World) (hr : RiOk r) (hl : l.length ≤ 1000000) (hD : DsR w A l) (hB : BkR w b d q r) :
    Calls Tryd.prog 23 #[.pointer (some ⟨b, 0, none⟩), .slice A l.length c] w fun e w' => e = .returned (.tuple #[momV (folF r m0 l 0).1, .int .i64 (folF r m0 l 0).2.1, .int .i64 (folF r m0 l 0).2.2]) ∧ Below w.heap.size w w' := by
  have h10 := hr.n10
  have HRU : Hid (∀ (m : Mom) (act : Int) (W : World), m.d < 65536 → BkR W b d q r → Calls Tryd.prog 49 #[.pointer (some ⟨b, 0, none⟩), .agg #[.int .u16 (m.d : Nat), .int .i64 m.day, .int .i64 m.de], .int .i64 act] W fun e w' => e = .returned (.int .i64 (brF r m.d m.day m.de act)) ∧ Below W.heap.size W w') := hide (fun m act W hd h => rule_any b d q r m act W hr hd h)
  have HON : Hid (∀ (m : Mom) (day : Int) (W : World), Calls Tryd.prog 48 #[.agg #[.int .u16 (m.d : Nat), .int .i64 m.day, .int .i64 m.de], .int .i64 day] W fun e w' => e = .returned (.agg #[.int .u16 ((m.on day).d : Nat), .int .i64 (m.on day).day, .int .i64 (m.on day).de]) ∧ Below W.heap.size W w') := hide on_any
  have HWI : Hid (∀ (m : Mom) (i : Nat) (W : World), m.d < 65536 → i < 16 → 0 ≤ m.de → m.de ≤ 1000000 → Calls Tryd.prog 50 #[.agg #[.int .u16 (m.d : Nat), .int .i64 m.day, .int .i64 m.de], .int .i64 (i : Int)] W fun e w' => e = .returned (.agg #[.int .u16 ((m.wi i).d : Nat), .int .i64 (m.wi i).day, .int .i64 (m.wi i).de]) ∧ Below W.heap.size W w') := hide with_any
  have HDS := hide hD
  obtain ⟨n, hn⟩ : ∃ n, l.length = n := ⟨_, rfl⟩
  have HN := hide hn
  rw [hn] at hl ⊢
  have HBK := hide hB
  have HF0 : Hid (folF r m0 l 0 = folF r m0 (l.drop 0) 0) := hide (by rw [List.drop_zero])
  have HR10 := hide h10
  clear hB hr hn hD h10
  have HB1 : Hid (Below w.heap.size w (w.alloc (.cells #[.int .u16 0, .int .i64 0, .int .i64 0] 88))) := hide ((Below.refl _ _).alloc (Nat.le_refl _) _)
  have G1 : Hid (Blk (w.alloc (.cells #[.int .u16 0, .int .i64 0, .int .i64 0] 88)) w.heap.size 88 #[.int .u16 (m0.d : Nat), .int .i64 m0.day, .int .i64 m0.de]) := hide (Blk.new w 88 #[.int .u16 0, .int .i64 0, .int .i64 0])
  obtain ⟨R, hR⟩ : ∃ R, folF r m0 l 0 = R := ⟨_, rfl⟩
  rw [hR] at HF0 ⊢
  clear hR
  go_enter Tryd.func23, Tryd.ntmps23
  go_upto_region 1 with fail
  generalize w.alloc (.cells #[.int .u16 0, .int .i64 0, .int .i64 0] 88) = w1 at HB1 G1 ⊢
  obtain ⟨G, hG⟩ : ∃ G, w.heap.size = G := ⟨_, rfl⟩
  have HLO : Hid (w.heap.size ≤ G) := hide (by omega)
  rw [hG] at G1 ⊢
  clear hG
  go_wp2_with fail
  go_loopw [5, 6, 7, 8, 9, 12] (fun _ _ _ _ _ i wr => ∃ (k : Nat) (m : Mom), k ≤ n ∧ i = .int .i64 k ∧ m.d < 65536 ∧ Hid (0 ≤ m.de ∧ m.de ≤ (k : Int)) ∧ Hid (folF r m (l.drop k) k = R) ∧ Hid (Blk wr G 88 #[.int .u16 (m.d : Nat), .int .i64 m.day, .int .i64 m.de]) ∧ Hid (Below w.heap.size w wr)) (fun _ _ _ _ _ i _ => n - (intOf i).toNat)
  case atStart => exact ⟨0, m0, Nat.zero_le _, rfl, by decide, hide (by decide), hide HF0.out.symm, G1, HB1⟩
  case round =>
    obtain ⟨k, m, hk, rfl, hmd, HDE, HF, HG, HB⟩ := hrel
    have hst : IntKind.i64.wrap ((k : Int) + 1) = ((k + 1 : Nat) : Int) := by rw [IntWalk.i64_in _ (by omega)]; omega
    by_cases hlt : k < n
    · have hlt' : (k : Int) < (n : Int) := by omega
      have hkl : k < l.length := by rw [HN.out]; exact hlt
      obtain ⟨x, hx⟩ : ∃ x, l.getD k (0, 0) = x := ⟨_, rfl⟩
      obtain ⟨dd, act⟩ := x
      obtain ⟨lb, lo, rfl, hlb, x0, x1⟩ := (HDS.out.ext HB.out).at_ hkl hx
      dsimp only at x0 x1
      have HX := hide (And.intro hkl hx)
      have HBA := hide (HB.out.alloc HB.out.size (.cells #[.int .i64 dd, .int .i64 act] 38))
      have K1 := hide (Blk.new wr 38 #[.int .i64 dd, .int .i64 act])
      have HG1 := hide (HG.out.ext ((Below.refl wr.heap.size wr).alloc (Nat.le_refl _) (.cells #[.int .i64 dd, .int .i64 act] 38)))
      clear hkl hx
      go_upto_region 4 with fail
      clear x0 x1
      have HNE : Hid (wr.heap.size ≠ G) := hide (by have := HG.out.lt; omega)
      generalize wr.alloc (.cells #[.int .i64 dd, .int .i64 act] 38) = wa at HBA K1 HG1 ⊢
      generalize wr.heap.size = g at K1 HNE ⊢
      have HS4 : Hid (∀ W, Below wa.heap.size wa W → (W.cell? ⟨g, 0, none⟩ = some (.int .i64 dd) ∧ W.cell? ⟨G, 1, none⟩ = some (.int .i64 m.day) ∧ W.cell? ⟨b, 1, none⟩ = some (.int .i64 r.last))) := hide fun W h => ⟨(blk2 (K1.out.ext h)).2.1, (blk3 (HG1.out.ext h)).2.2.1, (bx8 ((HBK.out.ext HBA.out).blk.ext h)).2.2.1⟩
      have Bd := hide (Below.refl wa.heap.size wa).drew
      refine wp_region_J (fun W : World => (W.cell? ⟨g, 0, none⟩ = some (.int .i64 dd) ∧ W.cell? ⟨G, 1, none⟩ = some (.int .i64 m.day) ∧ W.cell? ⟨b, 1, none⟩ = some (.int .i64 r.last))) (by kernel_rfl) ?_
      generalize wa.drew = wd at Bd ⊢
      replace HG1 := hide (HG1.out.ext Bd.out)
      replace K1 := hide (K1.out.ext Bd.out)
      replace HBA := hide (HBA.out.trans (Bd.out.mono HBA.out.size))
      by_cases c1 : dd < m.day
      · have c1' := c1
        refine tk_start [0, 1, 2, 3, 4, 5] ?_
        iterate 6
          refine tk_one (v := ?_) (by first | exact hF | exact wideFn) (HS4.out _ Bd.out) rfl (by kernel_rfl) (by kernel_rfl) (by kernel_rfl) (by kernel_rfl) rfl ?_ (by first | exact fun _ _ _ h => h | exact fun _ _ _ h => hQ2 _ _ _ _ _ h) ?_
          rotate_left
          · intro W hSW
            simp only [glA, glB, glC]
            (try dsimp only at hSW)
            go_simp
            with_reducible rfl
          (try simp only [glA, glB, glC, Act.put, glD, glE, glF])
        refine tk_end ?_
        refine tk_start [6, 7, 8, 9, 10, 11, 12, 13] ?_
        iterate 8
          refine tk_skip (by first | exact hF | exact wideFn) (HS4.out _ Bd.out) rfl (by kernel_rfl) (by kernel_rfl) (by kernel_rfl) (by kernel_rfl) rfl (by first | exact fun _ _ _ h => h | exact fun _ _ _ h => hQ2 _ _ _ _ _ h) ?_
          (try simp only [glA, glB, glC, Act.put, glD, glE, glF])
        refine tk_end ?_
        refine wpAnyJ_take 14 (v := ?_) (by first | exact hF | exact wideFn) (HS4.out _ Bd.out) rfl (by kernel_rfl) (by kernel_rfl) (by kernel_rfl) (by kernel_rfl) rfl ?_ (by first | exact fun _ _ _ h => h | exact fun _ _ _ h => hQ2 _ _ _ _ _ h) ?_
        rotate_left
        · intro W hSW
          simp only [glA, glB, glC]
          (try dsimp only at hSW)
          go_simp
          with_reducible rfl
        (try simp only [glA, glB, glC, Act.put, glD, glE, glF])
        refine wpAnyJ_done (by kernel_rfl) ?_
        clear Bd HS4
        have hpf := fol_break (r := r) (m := m) HX.out.1 HX.out.2 (.inl c1)
        obtain ⟨z9, z0, z1, z2, z3, z4, z5⟩ := blk3 HG1.out
        go_wp2_with fail
        have hS := HG1.out.set3 (.int .u16 (m.d : Nat)) (.int .i64 m.day) (.int .i64 m.de)
        have hBS := set3B HBA.out HLO.out (.int .u16 (m.d : Nat)) (.int .i64 m.day) (.int .i64 m.de)
        obtain ⟨-, q0, q1, q2, -⟩ := blk3 hS
        refine bodyPost_ret (v := .tuple #[.agg #[.int .u16 (m.d : Nat), .int .i64 m.day, .int .i64 m.de], .int .i64 k, .int .i64 1]) (by simp [results, Tryd.results23, go_sem, q0, q1, q2]) rfl ⟨by rw [← HF.out, hpf]; rfl, hBS⟩
      by_cases c2 : r.last < dd
      · have c2' : dd > r.last := c2
        refine tk_start [0, 1, 2, 3, 4, 5, 6, 7, 8, 9, 10, 11, 12, 13, 14] ?_
        iterate 15
          refine tk_one (v := ?_) (by first | exact hF | exact wideFn) (HS4.out _ Bd.out) rfl (by kernel_rfl) (by kernel_rfl) (by kernel_rfl) (by kernel_rfl) rfl ?_ (by first | exact fun _ _ _ h => h | exact fun _ _ _ h => hQ2 _ _ _ _ _ h) ?_
          rotate_left
          · intro W hSW
            simp only [glA, glB, glC]
            (try dsimp only at hSW)
            go_simp
            with_reducible rfl
          (try simp only [glA, glB, glC, Act.put, glD, glE, glF])
        refine tk_end ?_
        refine wpAnyJ_done (by kernel_rfl) ?_
        clear Bd HS4
        have hpf := fol_break (r := r) (m := m) HX.out.1 HX.out.2 (.inr c2)
        obtain ⟨z9, z0, z1, z2, z3, z4, z5⟩ := blk3 HG1.out
        go_wp2_with fail
        have hS := HG1.out.set3 (.int .u16 (m.d : Nat)) (.int .i64 m.day) (.int .i64 m.de)
        have hBS := set3B HBA.out HLO.out (.int .u16 (m.d : Nat)) (.int .i64 m.day) (.int .i64 m.de)
        obtain ⟨-, q0, q1, q2, -⟩ := blk3 hS
        refine bodyPost_ret (v := .tuple #[.agg #[.int .u16 (m.d : Nat), .int .i64 m.day, .int .i64 m.de], .int .i64 k, .int .i64 1]) (by simp [results, Tryd.results23, go_sem, q0, q1, q2]) rfl ⟨by rw [← HF.out, hpf]; rfl, hBS⟩
      have c2' : ¬ dd > r.last := c2
      refine tk_start [0, 1, 2, 3, 4, 5, 6, 7, 8, 9, 10, 11, 12, 13, 14] ?_
      iterate 15
        refine tk_one (v := ?_) (by first | exact hF | exact wideFn) (HS4.out _ Bd.out) rfl (by kernel_rfl) (by kernel_rfl) (by kernel_rfl) (by kernel_rfl) rfl ?_ (by first | exact fun _ _ _ h => h | exact fun _ _ _ h => hQ2 _ _ _ _ _ h) ?_
        rotate_left
        · intro W hSW
          simp only [glA, glB, glC]
          (try dsimp only at hSW)
          go_simp
          with_reducible rfl
        (try simp only [glA, glB, glC, Act.put, glD, glE, glF])
      refine tk_end ?_
      refine wpAnyJ_done (by kernel_rfl) ?_
      clear Bd HS4
      have HC : Hid (¬ (dd < m.day ∨ r.last < dd)) := hide (by omega)
      clear c1 c2 c2'
      obtain ⟨y9, y0, y1, y2, -⟩ := blk3 HG1.out
      obtain ⟨u9, u0, u1, -⟩ := blk2 K1.out
      go_wp2_with fail
      refine (HON.out m dd wd).mono ?_
      rintro e w2 ⟨rfl, hb2⟩
      clear y9 y0 y1 y2 u9 u0 u1
      have HG2 := hide (HG1.out.ext hb2)
      have K2 := hide (K1.out.ext hb2)
      have HB2 := hide (HBA.out.trans (hb2.mono HBA.out.size))
      clear hb2 HG1 K1 HBA HON
      have HXX := HX.out
      have hrul := fun h => fol_rule (r := r) (m := m) HXX.1 HXX.2 HC.out h
      have hgo := fun h => fol_on (r := r) (m := m) HXX.1 HXX.2 HC.out h
      have hm2d := on_d m dd
      have hde2 := on_de (day := dd) HDE.out
      dsimp only at hrul hgo
      obtain ⟨m2, hm2⟩ : ∃ x, m.on dd = x := ⟨_, rfl⟩
      rw [hm2] at hrul hgo hm2d hde2 ⊢
      have HRUL := hide hrul
      have HGO := hide hgo
      have HM2 : Hid (m2.d < 65536) := hide (by rw [hm2d]; exact hmd)
      have HDE2 := hide hde2
      clear hm2 hrul hgo hm2d hde2 HXX
      obtain ⟨z9, z0, z1, z2, z3, z4, z5⟩ := blk3 HG2.out
      go_upto_region 7 with fail
      clear z9 z0 z1 z2 z3 z4 z5
      have HG3 := hide (HG2.out.set3 (.int .u16 (m2.d : Nat)) (.int .i64 m2.day) (.int .i64 m2.de))
      have HB3 := hide (set3B HB2.out HLO.out (.int .u16 (m2.d : Nat)) (.int .i64 m2.day) (.int .i64 m2.de))
      have K3 := hide (((K2.out.far (p := ⟨G, 0, none⟩) HNE.out (.int .u16 (m2.d : Nat))).far (p := ⟨G, 1, none⟩) HNE.out (.int .i64 m2.day)).far (p := ⟨G, 2, none⟩) HNE.out (.int .i64 m2.de))
      generalize (((w2.setCell ⟨G, 0, none⟩ (.int .u16 (m2.d : Nat))).setCell ⟨G, 1, none⟩ (.int .i64 m2.day)).setCell ⟨G, 2, none⟩ (.int .i64 m2.de)) = w3 at HG3 HB3 K3 ⊢
      have HC3 := hide (HRU.out m2 act w3 HM2.out (HBK.out.ext HB3.out))
      obtain ⟨z, hz⟩ : ∃ z, brF r m2.d m2.day m2.de act = z := ⟨_, rfl⟩
      have HZ := hide hz
      rw [hz] at HC3 HRUL HGO
      clear hz
      obtain ⟨y9, y0, y1, y2, -⟩ := blk3 HG3.out
      obtain ⟨u9, u0, u1, -⟩ := blk2 K3.out
      go_wp2_with fail
      refine HC3.out.mono ?_
      rintro e w4 ⟨rfl, hb4⟩
      clear y9 y0 y1 y2 u9 u0 u1
      have HG4 := hide (HG3.out.ext hb4)
      have K4 := hide (K3.out.ext hb4)
      have HB4 := hide (HB3.out.trans (hb4.mono HB3.out.size))
      clear hb4 HG3 K3 HB3 HC3 HG2 K2 HB2
      by_cases hz0 : z = 0
      · subst hz0
        have hge := HGO.out (by decide)
        have HRG := hide (br_range HZ.out)
        obtain ⟨i, rfl⟩ : ∃ i : Nat, act = (i : Int) := ⟨act.toNat, by have := HRG.out; omega⟩
        rw [Int.toNat_natCast] at hge
        have HW4 := hide (HWI.out m2 i w4 HM2.out (by have := HRG.out.2; have := HR10.out; omega) HDE2.out.1 (by have := HDE2.out.2; omega))
        have HGE := hide hge
        have HM3 : Hid ((m2.wi i).d < 65536) := hide (Nat.or_lt_two_pow (n := 16) HM2.out (p2_lt (by have := HRG.out.2; have := HR10.out; omega)))
        have HDE3 : Hid (0 ≤ (m2.wi i).de ∧ (m2.wi i).de ≤ ((k + 1 : Nat) : Int)) := hide (by have := HDE2.out; show 0 ≤ m2.de + 1 ∧ m2.de + 1 ≤ _; omega)
        clear hge
        obtain ⟨y9, y0, y1, y2, -⟩ := blk3 HG4.out
        obtain ⟨u9, u0, u1, -⟩ := blk2 K4.out
        go_wp2_with fail
        refine HW4.out.mono ?_
        rintro e w5 ⟨rfl, hb5⟩
        clear y9 y0 y1 y2 u9 u0 u1
        have HG5 := hide (HG4.out.ext hb5)
        have K5 := hide (K4.out.ext hb5)
        have HB5 := hide (HB4.out.trans (hb5.mono HB4.out.size))
        clear hb5 HG4 K4 HB4 HW4
        obtain ⟨m3, hm3⟩ : ∃ x, m2.wi i = x := ⟨_, rfl⟩
        rw [hm3] at HM3 HDE3 HGE ⊢
        clear hm3
        obtain ⟨z9, z0, z1, z2, z3, z4, z5⟩ := blk3 HG5.out
        go_upto_region 11 with fail
        clear z9 z0 z1 z2 z3 z4 z5
        have HG6 := hide (HG5.out.set3 (.int .u16 (m3.d : Nat)) (.int .i64 m3.day) (.int .i64 m3.de))
        have HB6 := hide (set3B HB5.out HLO.out (.int .u16 (m3.d : Nat)) (.int .i64 m3.day) (.int .i64 m3.de))
        have K6 := hide (((K5.out.far (p := ⟨G, 0, none⟩) HNE.out (.int .u16 (m3.d : Nat))).far (p := ⟨G, 1, none⟩) HNE.out (.int .i64 m3.day)).far (p := ⟨G, 2, none⟩) HNE.out (.int .i64 m3.de))
        generalize (((w5.setCell ⟨G, 0, none⟩ (.int .u16 (m3.d : Nat))).setCell ⟨G, 1, none⟩ (.int .i64 m3.day)).setCell ⟨G, 2, none⟩ (.int .i64 m3.de)) = w6 at HG6 HB6 K6 ⊢
        go_wp2_with fail
        go_roundw
        case rel => exact ⟨k + 1, m3, by omega, by go_num, HM3.out, HDE3, hide (by rw [← HGE.out]; exact HF.out), HG6, HB6⟩
        case measure => simp [intOf]; omega
      · have hzb : (z != 0) = true := by simp [hz0]
        have hpf := HRUL.out hz0
        obtain ⟨z9, z0, z1, z2, z3, z4, z5⟩ := blk3 HG4.out
        go_wp2_with fail
        have hS := HG4.out.set3 (.int .u16 (m2.d : Nat)) (.int .i64 m2.day) (.int .i64 m2.de)
        have hBS := set3B HB4.out HLO.out (.int .u16 (m2.d : Nat)) (.int .i64 m2.day) (.int .i64 m2.de)
        obtain ⟨-, q0, q1, q2, -⟩ := blk3 hS
        refine bodyPost_ret (v := .tuple #[.agg #[.int .u16 (m2.d : Nat), .int .i64 m2.day, .int .i64 m2.de], .int .i64 k, .int .i64 z]) (by simp [results, Tryd.results23, go_sem, q0, q1, q2]) rfl ⟨by rw [← HF.out, hpf]; rfl, hBS⟩
    · obtain rfl : n = k := by omega
      have hnl : ¬ (n : Int) < (n : Int) := by omega
      have hfe : folF r m (l.drop n) n = (m, -1, 0) := by rw [← HN.out, List.drop_length]; rfl
      obtain ⟨z9, z0, z1, z2, z3, z4, z5⟩ := blk3 HG.out
      go_wp2_with fail
      have hS := HG.out.set3 (.int .u16 (m.d : Nat)) (.int .i64 m.day) (.int .i64 m.de)
      have hBS := set3B HB.out HLO.out (.int .u16 (m.d : Nat)) (.int .i64 m.day) (.int .i64 m.de)
      obtain ⟨-, q0, q1, q2, -⟩ := blk3 hS
      refine bodyPost_ret (v := .tuple #[.agg #[.int .u16 (m.d : Nat), .int .i64 m.day, .int .i64 m.de], .int .i64 (-1), .int .i64 0]) (by simp [results, Tryd.results23, go_sem, q0, q1, q2]) rfl ⟨by rw [← HF.out, hfe]; rfl, hBS⟩
end Go.Proofs.YtagjeeimglecnaaDoor
/- Rite: isList; names as a set; what open keeps. -/
namespace Go.Proofs.YtagjeeimglecnaaDoor
open Go Go.RowKit Go.Shelf
set_option maxHeartbeats 8000000
set_option maxRecDepth 100000
/-- the number ahead of place k -/
def lsP (l : List Int) (k : Nat) : Int := if k = 0 then -1 else l.getD (k - 1) 0
theorem isL_at {act acts : Int} {l : List Int} {k : Nat} (hk : k < l.length) {x : Int} (hx : l.getD k 0 = x) (p : Int) :
    isLF act acts p (l.drop k) = if x ≤ p ∨ acts ≤ x ∨ x = act then false else isLF act acts x (l.drop (k + 1)) := by
  rw [List.drop_eq_getElem_cons hk]
  rw [List.getD_eq_getElem?_getD, List.getElem?_eq_getElem hk] at hx
  have hx : l[k] = x := hx
  rw [hx]
  rfl
theorem isList_any (A : Option Addr) (c : Nat) (l : List Int) (act acts : Int) (w : World) (hl : l.length ≤ 1000000) (hA : LI w w.heap.size A l) :
    Calls Tryd.prog 46 #[.slice A l.length c, .int .i64 act, .int .i64 acts] w fun e w' => e = .returned (.bool (isLF act acts (-1) l)) ∧ w = w' := by
  have HA := hide hA
  obtain ⟨n, hn⟩ : ∃ n, l.length = n := ⟨_, rfl⟩
  have HN := hide hn
  rw [hn] at hl ⊢
  obtain ⟨R, hR⟩ : ∃ R, isLF act acts (-1) l = R := ⟨_, rfl⟩
  have HR0 : Hid (isLF act acts (-1) (l.drop 0) = R) := hide (by rw [List.drop_zero]; exact hR)
  rw [hR]
  clear hA hn hR
  go_enter Tryd.func46, Tryd.ntmps46
  go_wp2_with fail
  go_loopw [7, 9, 12] (fun p _ i wr => ∃ (k : Nat) (y : Int), k ≤ n ∧ i = .int .i64 k ∧ p = .int .i64 y ∧ Hid (isLF act acts y (l.drop k) = R) ∧ Hid (w = wr)) (fun _ _ i _ => n - (intOf i).toNat)
  case atStart => exact ⟨0, -1, Nat.zero_le _, rfl, rfl, HR0, hide rfl⟩
  case round =>
    obtain ⟨k, y, hk, rfl, rfl, HR, HW⟩ := hrel
    obtain rfl := HW.out
    have hst : k < n → IntKind.i64.wrap ((k : Int) + 1) = ((k + 1 : Nat) : Int) := fun _ => by rw [IntWalk.i64_in _ (by omega)]; omega
    by_cases hlt : k < n
    · have hlt' : (k : Int) < (n : Int) := by omega
      replace hst := hst hlt
      have hkl : k < l.length := by rw [HN.out]; exact hlt
      obtain ⟨b, off, rfl, hb, hc⟩ := VR1.at_ HA.out hkl
      obtain ⟨x, hx⟩ : ∃ x, l.getD k 0 = x := ⟨_, rfl⟩
      have HS := hide (isL_at (act := act) (acts := acts) hkl hx y)
      replace hc : w.cell? ⟨b, off + k, none⟩ = some (.int .i64 x) := by rw [← hx]; exact hc
      clear hkl hx
      by_cases h1 : x ≤ y
      · rw [if_pos (.inl h1)] at HS
        go_wp2_with fail
        go_ret
        exact ⟨ret_bool (by rw [← HR.out, HS.out]), rfl⟩
      by_cases h2 : acts ≤ x
      · rw [if_pos (.inr (.inl h2))] at HS
        have h2' : x ≥ acts := h2
        go_wp2_with fail
        go_ret
        exact ⟨ret_bool (by rw [← HR.out, HS.out]), rfl⟩
      have h2' : ¬ x ≥ acts := h2
      by_cases h3 : x = act
      · rw [if_pos (.inr (.inr h3))] at HS
        have h3' : (x == act) = true := by rw [h3]; exact beq_self_eq_true _
        clear h3
        go_wp2_with fail
        go_ret
        exact ⟨ret_bool (by rw [← HR.out, HS.out]), rfl⟩
      have h3' : (x == act) = false := by rw [beq_eq_false_iff_ne]; exact h3
      rw [if_neg (by rintro (h | h | h); exact h1 h; exact h2 h; exact h3 h)] at HS
      clear h3
      go_wp2_with fail
      go_roundw
      case rel => exact ⟨k + 1, x, by omega, by go_num, rfl, hide (by rw [← HR.out, HS.out]), by first | exact hide rfl | exact hide trivial⟩
      case measure => simp [intOf]; omega
    · obtain rfl : n = k := by omega
      have hnl : ¬ (n : Int) < (n : Int) := by omega
      have HE : Hid (R = true) := hide (by rw [← HR.out, ← HN.out, List.drop_length]; rfl)
      go_wp2_with fail
      go_ret
      exact ⟨ret_bool (by rw [HE.out]), rfl⟩
-- names
/-- block b is a set of at most n words -/
def NmAt (w : World) (b n : Nat) (p : Wd → Bool) : Prop :=
  ∃ D : DataW Unit, w.ownsMap Tryd.prog 9 (plainElem Tryd.prog 4) b n D ∧ Maps.IsMap D ∧ ∀ z : Wd, D.atKey (.string z.data.toList) (.lit (.bool false)) = .lit (.bool (p z))
theorem NmAt.lt {w : World} {b n : Nat} {p : Wd → Bool} (h : NmAt w b n p) : b < w.heap.size := by
  obtain ⟨D, h1, -⟩ := h
  exact h1.lt
theorem NmAt.made (w : World) : NmAt (w.alloc (.map #[] 0)) w.heap.size 0 (fun _ => false) :=
  ⟨.map [], World.ownsMap_made w _ _ _, Maps.isMap_empty, fun _ => rfl⟩
theorem NmAt.kept {w w' : World} {b n : Nat} {p : Wd → Bool} (h : NmAt w b n p) {row : Option Nat} (hg : w.grownBy w' row) (hne : some b ≠ row) : NmAt w' b n p := by
  obtain ⟨D, h1, h2, h3⟩ := h
  exact ⟨D, h1.kept hg hne, h2, h3⟩
theorem grown_no {W W' : World} (hb : Below W.heap.size W W') : W.grownBy W' none := ⟨hb.os, hb.tape, hb.output, hb.size, fun k hk _ => hb.block k hk⟩
theorem NmAt.ext {w w' : World} {b n : Nat} {p : Wd → Bool} (h : NmAt w b n p) (hb : Below w.heap.size w w') : NmAt w' b n p := h.kept (grown_no hb) (by simp)
theorem NmAt.map {w : World} {b n : Nat} {p : Wd → Bool} (h : NmAt w b n p) : ∃ o : Obj, w.heap[b]? = some o ∧ o.isCells = false := by
  obtain ⟨D, ⟨es, clock, h1, -⟩, -⟩ := h
  exact ⟨_, h1, rfl⟩
theorem key_str (z : Wd) (hz : z.size ≤ maxLen) : keyOf Tryd.prog 9 (.string z) = some (.string z.data.toList) := by
  unfold keyOf mapKey
  rw [Tryd.underlying9]
  show (if z.size ≤ maxLen then some (Lit.string z.data.toList) else none) = _
  rw [if_pos hz]
theorem nm_look {w : World} {b n : Nat} {p : Wd → Bool} (h : NmAt w b n p) (z : Wd) (hz : z.size ≤ maxLen) :
    (Instr.lookup 134 (.map (some b)) (.string z) false).run Tryd.prog w = .ok (.bool (p z)) w := by
  obtain ⟨D, h1, h2, h3⟩ := h
  obtain ⟨v, ps, hrun, hv⟩ := h1.lookup (t := 134) (e := 4) (z := .bool false) (zd := .lit (.bool false)) (zp := []) (Maps.string_keyed Tryd.underlying9) Tryd.underlying134 (by kernel_rfl) (plainElem_bool Tryd.underlying4 false) (key_str z hz)
  rw [h3] at hv
  rw [hrun]
  have hk : v = .bool (p z) := by
    unfold plainElem at hv
    rw [Tryd.underlying4] at hv
    cases v <;> simp at hv
    rw [hv.1]
  rw [hk]
theorem toList_inj {x y : Wd} (h : x.data.toList = y.data.toList) : x = y := by
  cases x; cases y
  simp only [ByteArray.mk.injEq]
  exact Array.toList_inj.1 h
theorem nm_put {w : World} {b n : Nat} {p : Wd → Bool} (h : NmAt w b n p) (hn : n < maxLen) (z : Wd) (hz : z.size ≤ maxLen) :
    ∃ w', (Instr.mapUpdate 134 (.map (some b)) (.string z) (.bool true)).run Tryd.prog w = .ok () w' ∧ NmAt w' b (n + 1) (fun x => decide (x = z) || p x) ∧ w.grownBy w' (some b) := by
  obtain ⟨D, h1, h2, h3⟩ := h
  obtain ⟨w', hrun, hown, hg⟩ := h1.update (t := 134) (e := 4) (val := .bool true) (Maps.string_keyed Tryd.underlying9) Tryd.underlying134 hn (key_str z hz) (plainElem_bool Tryd.underlying4 true)
  refine ⟨w', hrun, ⟨_, hown, h2.put _ _, fun x => ?_⟩, hg⟩
  by_cases e : x = z
  · subst e
    rw [Maps.atKey_put_same h2 (by simp [WideAt.IsKeyLit])]
    simp
  · rw [Maps.atKey_put_other (fun h => e (toList_inj (by injection h))), h3]
    simp [e]
end Go.Proofs.YtagjeeimglecnaaDoor
/- Rite: a map of moments and numbers: what the fewest deeds are, as far as they are known. -/
namespace Go.Proofs.YtagjeeimglecnaaDoor
open Go Go.RowKit Go.Shelf
set_option maxHeartbeats 8000000
set_option maxRecDepth 100000
/-- moments that a rite can come to -/
structure MoOk (r : Rit) (m : Mom) : Prop where
  d : m.d < 65536
  d0 : 0 ≤ m.day
  d1 : m.day ≤ r.last
  e0 : 0 ≤ m.de
  e1 : m.de ≤ r.toil
theorem MoOk.on {r : Rit} {m : Mom} (h : MoOk r m) (hr : RiOk r) {day : Int} (h0 : 0 ≤ day) (h1 : day ≤ r.last) : MoOk r (m.on day) := by
  unfold Mom.on
  split
  · exact h
  · exact ⟨h.d, h0, h1, Int.le_refl _, by have := hr.t1; show (0 : Int) ≤ r.toil; omega⟩
theorem MoOk.wi {r : Rit} {m : Mom} (h : MoOk r m) (hr : RiOk r) {a : Nat} (hb : brF r m.d m.day m.de a = 0) : MoOk r (m.wi a) := by
  have h1 := br_undone hb
  have h2 : ¬ r.toil ≤ m.de := by
    intro ht
    unfold brF at hb
    rw [if_pos ht] at hb
    repeat' split at hb
    all_goals cases hb
  have := hr.n10
  have e1 : (m.wi a).d < 65536 := by
    show m.d ||| 2 ^ a < 2 ^ 16
    refine Nat.or_lt_two_pow h.d (Nat.pow_lt_pow_right (by decide) ?_)
    omega
  have e0 := h.e0
  exact ⟨e1, h.d0, h.d1, by show (0 : Int) ≤ m.de + 1; omega, by show m.de + 1 ≤ r.toil; omega⟩
theorem rt_laid : laidOutB Tryd.prog = true := by kernel_rfl
theorem mo_keyed : Maps.Keyed Tryd.prog 88 := Maps.Keyed.of_law (deep_law_laid rt_laid (m := 2) (by omega) (of_decide_eq_true (by kernel_rfl)) (by kernel_rfl) (by kernel_rfl))
theorem mo_size : Tryd.prog.types.size = (Tryd.prog.types.size - 3) + 3 := by kernel_rfl
theorem mo_keyT : Tryd.prog.keyType 88 = true := by kernel_rfl
theorem mo_formed (a b c : Value) : (Value.agg #[a, b, c]).formed Tryd.prog 88 = true := by kernel_rfl
theorem mo_lits (n : Nat) (d : Nat) (day de : Int) (hd : d < 65536) (h1 : 0 ≤ day ∧ day ≤ 1000000) (h2 : 0 ≤ de ∧ de ≤ 1000000) :
    Tryd.prog.keyLits (n + 3) 88 [.int .u16 d, .int .i64 day, .int .i64 de] = some [.int .u16 d, .int .i64 day, .int .i64 de] := by
  have w1 : (Lit.int .u16 d).wf = true := by simp [Lit.wf, IntKind.min, IntKind.max, IntKind.signed, IntKind.bits]; omega
  have w2 : (Lit.int .i64 day).wf = true := by simp [Lit.wf, IntKind.min, IntKind.max, IntKind.signed, IntKind.bits]; omega
  have w3 : (Lit.int .i64 de).wf = true := by simp [Lit.wf, IntKind.min, IntKind.max, IntKind.signed, IntKind.bits]; omega
  have c0 : Tryd.prog.cellsOf 88 = 3 := by kernel_rfl
  have c1 : Tryd.prog.cellsOf 86 = 1 := by kernel_rfl
  have c2 : Tryd.prog.cellsOf 3 = 1 := by kernel_rfl
  simp [Program.keyLits, Tryd.underlying88, Tryd.underlying86, Tryd.underlying3, c0, c1, c2, w1, w2, w3]
theorem mo_key {r : Rit} (hr : RiOk r) {m : Mom} (h : MoOk r m) : ∃ l, keyOf Tryd.prog 88 (momV m) = some l := by
  obtain ⟨d, day, de⟩ := m
  obtain ⟨h1, h2, h3, h4, h5⟩ := h
  dsimp only at h1 h2 h3 h4 h5
  have := hr.l30
  have := hr.t4
  unfold keyOf momV
  rw [Tryd.underlying88]
  dsimp only
  rw [mo_keyT, mo_formed, mo_size]
  show ∃ l, (if true = true then Option.map _ (Tryd.prog.keyLits (Tryd.prog.types.size - 3 + 1 + 3) 88 [.int .u16 d, .int .i64 day, .int .i64 de]) else none) = some l
  rw [if_pos rfl, mo_lits _ _ _ _ h1 ⟨h2, by omega⟩ ⟨h4, by omega⟩]
  exact ⟨_, rfl⟩
theorem nodup_le {α : Type} [DecidableEq α] : ∀ (l M : List α), l.Pairwise (· ≠ ·) → (∀ x ∈ l, x ∈ M) → l.length ≤ M.length
  | [], _, _, _ => Nat.zero_le _
  | x :: l, M, h, hs => by
    obtain ⟨h1, h2⟩ := List.pairwise_cons.1 h
    have hx := hs x (by simp)
    have := nodup_le l (M.erase x) h2 fun y hy => (List.mem_erase_of_ne (h1 y hy).symm).2 (hs y (by simp [hy]))
    rw [List.length_erase_of_mem hx] at this
    have := List.length_pos_of_mem hx
    simp only [List.length_cons]
    omega
/-- block b holds the numbers of some moments of rite r -/
def FmAt (w : World) (b : Nat) (r : Rit) : Prop :=
  ∃ (es : List (Lit × DataW Unit)) (n : Nat), w.ownsMap Tryd.prog 88 (plainElem Tryd.prog 3) b n (.map es) ∧ ∀ p ∈ es, ∃ m, MoOk r m ∧ keyOf Tryd.prog 88 (momV m) = some p.1 ∧ p.2 = .lit (.int .i64 (fwN r m))
theorem FmAt.lt {w : World} {b : Nat} {r : Rit} (h : FmAt w b r) : b < w.heap.size := by
  obtain ⟨es, n, h1, -⟩ := h
  exact h1.lt
theorem FmAt.made (w : World) (r : Rit) : FmAt (w.alloc (.map #[] 0)) w.heap.size r :=
  ⟨[], 0, World.ownsMap_made w _ _ _, fun p hp => by cases hp⟩
theorem FmAt.kept {w w' : World} {b : Nat} {r : Rit} (h : FmAt w b r) {row : Option Nat} (hg : w.grownBy w' row) (hne : some b ≠ row) : FmAt w' b r := by
  obtain ⟨es, n, h1, h2⟩ := h
  exact ⟨es, n, h1.kept hg hne, h2⟩
theorem FmAt.ext {w w' : World} {b : Nat} {r : Rit} (h : FmAt w b r) (hb : Below w.heap.size w w') : FmAt w' b r := h.kept (grown_no hb) (by simp)
theorem FmAt.map {w : World} {b : Nat} {r : Rit} (h : FmAt w b r) : ∃ o : Obj, w.heap[b]? = some o ∧ o.isCells = false := by
  obtain ⟨es, n, ⟨es', clock, h1, -⟩, -⟩ := h
  exact ⟨_, h1, rfl⟩
def moAt (i : Nat) : Mom := ⟨i % 65536, ((i / 65536 % 32 : Nat) : Int), ((i / 65536 / 32 : Nat) : Int)⟩
theorem moAt_ok {r : Rit} (hr : RiOk r) {m : Mom} (h : MoOk r m) : ∃ i, i < 65536 * 32 * 8 ∧ moAt i = m := by
  obtain ⟨d, day, de⟩ := m
  obtain ⟨h1, h2, h3, h4, h5⟩ := h
  dsimp only at h1 h2 h3 h4 h5
  have := hr.l30
  have := hr.t4
  refine ⟨d + 65536 * (day.toNat + 32 * de.toNat), by omega, ?_⟩
  unfold moAt
  have e1 : (d + 65536 * (day.toNat + 32 * de.toNat)) % 65536 = d := by omega
  have e2 : (d + 65536 * (day.toNat + 32 * de.toNat)) / 65536 = day.toNat + 32 * de.toNat := by omega
  rw [e1, e2]
  have e3 : (day.toNat + 32 * de.toNat) % 32 = day.toNat := by omega
  have e4 : (day.toNat + 32 * de.toNat) / 32 = de.toNat := by omega
  rw [e3, e4]
  congr 1 <;> omega
theorem fm_size {w : World} {b : Nat} {r : Rit} (hr : RiOk r) {es : List (Lit × DataW Unit)} {n : Nat} (h1 : w.ownsMap Tryd.prog 88 (plainElem Tryd.prog 3) b n (.map es))
    (h2 : ∀ p ∈ es, ∃ m, MoOk r m ∧ keyOf Tryd.prog 88 (momV m) = some p.1 ∧ p.2 = .lit (.int .i64 (fwN r m))) : es.length ≤ 65536 * 32 * 8 := by
  classical
  obtain ⟨es', e, hd⟩ := h1.tidy mo_keyed
  injection e with e
  subst e
  have h3 := nodup_le (es.map (·.1)) ((List.range (65536 * 32 * 8)).map fun i => (keyOf Tryd.prog 88 (momV (moAt i))).getD (.bool true)) (List.pairwise_map.2 hd) (fun x hx => by
    obtain ⟨p, hp, rfl⟩ := List.mem_map.1 hx
    obtain ⟨m, hm, hk, -⟩ := h2 p hp
    obtain ⟨i, hi, rfl⟩ := moAt_ok hr hm
    exact List.mem_map.2 ⟨i, List.mem_range.2 hi, by rw [hk]; rfl⟩)
  rw [List.length_map, List.length_map, List.length_range] at h3
  exact h3
theorem fm_look {w : World} {b : Nat} {r : Rit} (hr : RiOk r) (h : FmAt w b r) {m : Mom} (hm : MoOk r m) :
    ∃ (c : Int) (y : Bool), (Instr.lookup 125 (.map (some b)) (momV m) true).run Tryd.prog w = .ok (.tuple #[.int .i64 c, .bool y]) w ∧ (y = true → c = fwN r m) := by
  obtain ⟨es, n, h1, h2⟩ := h
  obtain ⟨l, hl⟩ := mo_key hr hm
  obtain ⟨v, ps, hrun, hv⟩ := h1.look_ok (t := 125) (e := 3) (z := .int .i64 0) (zd := .lit (.int .i64 0)) (zp := []) mo_keyed Tryd.underlying125 (by kernel_rfl) (plainElem_int Tryd.underlying3 (by decide)) hl
  obtain ⟨c, rfl, hc, -⟩ := plainElem_int_inv Tryd.underlying3 hv
  simp only [Prod.mk.injEq] at hc
  refine ⟨c, _, hrun, fun hy => ?_⟩
  obtain ⟨hc, -⟩ := hc
  unfold Maps.has at hy
  obtain ⟨p, hp, hs⟩ := List.any_eq_true.1 hy
  unfold DataW.atKey at hc
  dsimp only at hc
  cases hf : es.find? (fun p => p.1.sameKey l) with
  | none => exact absurd hs (by have := List.find?_eq_none.1 hf p hp; exact this)
  | some q =>
    rw [hf] at hc
    dsimp only at hc
    obtain ⟨m', hm', hk, he⟩ := h2 q (List.mem_of_find?_eq_some hf)
    have e1 : q.1 = l := WideAt.sameKey_eq (List.find?_some (p := fun p : Lit × DataW Unit => p.1.sameKey l) hf)
    rw [e1] at hk
    have e2 := mo_keyed.inj hk hl
    have e3 : m' = m := by
      obtain ⟨a, b, c⟩ := m'
      obtain ⟨a', b', c'⟩ := m
      unfold momV at e2
      simp at e2
      obtain ⟨e4, rfl, rfl⟩ := e2
      congr 1
      first | exact e4 | omega
    subst e3
    rw [he] at hc
    simpa using hc.symm
theorem fm_put {w : World} {b : Nat} {r : Rit} (hr : RiOk r) (h : FmAt w b r) {m : Mom} (hm : MoOk r m) :
    ∃ w', (Instr.mapUpdate 125 (.map (some b)) (momV m) (.int .i64 (fwN r m))).run Tryd.prog w = .ok () w' ∧ FmAt w' b r ∧ w.grownBy w' (some b) := by
  obtain ⟨es, n, h1, h2⟩ := h
  obtain ⟨l, hl⟩ := mo_key hr hm
  have hs := fm_size hr h1 h2
  have h3 : w.ownsMap Tryd.prog 88 (plainElem Tryd.prog 3) b (65536 * 32 * 8) (.map es) := by
    obtain ⟨es', clock, hb, F, -, hD⟩ := h1
    refine ⟨es', clock, hb, F, ?_, hD⟩
    injection hD with hD
    have e := congrArg List.length hD
    rw [length_sorted] at e
    simp at e
    omega
  have hw : (Lit.int .i64 (fwN r m)).wf = true := by
    have := fwN_le r m
    simp [Lit.wf, IntKind.min, IntKind.max, IntKind.signed, IntKind.bits]
    omega
  obtain ⟨w', hrun, hown, hg⟩ := h3.update (t := 125) (e := 3) (val := .int .i64 (fwN r m)) mo_keyed Tryd.underlying125 (by decide) hl (plainElem_int Tryd.underlying3 hw)
  refine ⟨w', hrun, ⟨_, _, hown, fun p hp => ?_⟩, hg⟩
  rcases ChangeMaps.mem_insert_iff.1 hp with rfl | hp
  · exact ⟨m, hm, hl, rfl⟩
  · exact h2 p (List.mem_filter.1 hp).1
end Go.Proofs.YtagjeeimglecnaaDoor
/- Rite: what stays where a map is written. -/
namespace Go.Proofs.YtagjeeimglecnaaDoor
open Go Go.RowKit Go.Shelf
set_option maxHeartbeats 8000000
set_option maxRecDepth 100000
/-- all cells stay -/
def KC (w w' : World) : Prop := w.heap.size ≤ w'.heap.size ∧ ∀ (k : Nat) (o : Obj), w.heap[k]? = some o → o.isCells = true → w'.heap[k]? = some o
theorem KC.refl (w : World) : KC w w := ⟨Nat.le_refl _, fun _ _ h _ => h⟩
theorem KC.trans {a b c : World} (h : KC a b) (k : KC b c) : KC a c := ⟨Nat.le_trans h.1 k.1, fun i o hi ho => k.2 i o (h.2 i o hi ho) ho⟩
theorem KC.of_grown {w w' : World} {row : Option Nat} (hg : w.grownBy w' row) (hr : ∀ r, row = some r → ∃ o : Obj, w.heap[r]? = some o ∧ o.isCells = false) : KC w w' :=
  ⟨hg.size, fun k o hk ho => (hg.block k (Array.getElem?_eq_some_iff.1 hk).1 (fun e => by
    obtain ⟨o', h1, h2⟩ := hr k e.symm
    rw [hk] at h1
    injection h1 with h1
    rw [h1, h2] at ho
    cases ho)).trans hk⟩
theorem KC.below {w w' : World} (hb : Below w.heap.size w w') : KC w w' := ⟨hb.size, fun k o hk _ => (hb.block k (Array.getElem?_eq_some_iff.1 hk).1).trans hk⟩
theorem KC.cell {w w' : World} (h : KC w w') {a : Addr} {v : Value} (hc : w.cell? a = some v) : w'.cell? a = some v := by
  obtain ⟨o, h1, h2⟩ := cells_of_cell hc
  have h3 := h.2 _ _ h1 h2
  rw [← hc]
  unfold World.cell?
  rw [h1, h3]
theorem KC.blk {w w' : World} (h : KC w w') {g : Nat} {t : TypeId} {cs : Array Value} (hB : Blk w g t cs) : Blk w' g t cs := h.2 g _ hB rfl
theorem KC.er {w w' : World} (h : KC w w') {sz n : Nat} {A : Option Addr} {f : Nat → Nat → Value} (hE : ER w w.heap.size sz A n f) : ER w' w'.heap.size sz A n f := fun hm => by
  obtain ⟨b, off, hA, hlt, hc⟩ := hE hm
  exact ⟨b, off, hA, Nat.lt_of_lt_of_le hlt h.1, fun k i hk hi => h.cell (hc k i hk hi)⟩
theorem KC.tb {w w' : World} (h : KC w w') (hT : TB w) : TB w' := ⟨Nat.lt_of_lt_of_le hT.1 h.1, fun j hj => h.cell (hT.2 j hj)⟩
theorem KC.rt {w w' : World} (h : KC w w') {d : Rad} {r : Rit} (hR : RtR w d r) : RtR w' d r :=
  ⟨h.er hR.row, fun k hk => h.er (hR.nd k hk), fun k hk => h.er (hR.ins k hk)⟩
theorem KC.bk {w w' : World} (h : KC w w') {b : Nat} {d : Rad} {q : Bad} {r : Rit} (hB : BkR w b d q r) : BkR w' b d q r :=
  ⟨h.blk hB.blk, h.rt hB.rt, h.er hB.sn, h.er hB.sw, h.er hB.sr, h.er hB.sa⟩
theorem KC.map {w w' : World} {b : Nat} {r : Rit} (hF : FmAt w b r) (hg : w.grownBy w' (some b)) : KC w w' :=
  KC.of_grown hg fun k e => by obtain ⟨o, h1, h2⟩ := hF.map; cases e; exact ⟨o, h1, h2⟩
theorem gr_trans {a b c : World} {p : Nat} (h : a.grownBy b (some p)) (k : b.grownBy c (some p)) : a.grownBy c (some p) :=
  ⟨k.os.trans h.os, k.tape.trans h.tape, k.output.trans h.output, Nat.le_trans h.size k.size, fun i hi e => (k.block i (Nat.lt_of_lt_of_le hi h.size) e).trans (h.block i hi e)⟩
theorem gr_below {a b : World} (h : Below a.heap.size a b) (p : Nat) : a.grownBy b (some p) := ⟨h.os, h.tape, h.output, h.size, fun i hi _ => h.block i hi⟩
/-- the call's own word: nothing but the map turned -/
theorem gr_low {n0 : Nat} {w a b : World} (h : Below n0 w a) (hn : n0 ≤ a.heap.size) {p : Nat} (hg : a.grownBy b (some p)) (hp : n0 ≤ p) : Below n0 w b :=
  h.grown hg hn fun k e => by cases e; exact hp
end Go.Proofs.YtagjeeimglecnaaDoor
