/- KilnBooks: for every list of spaces, every room and every list of calls the law returns true and leaves its arguments as they are. No condition. -/
import Derived.Test.YtlhekifmkkgjlaaBooksI
import Derived.Deep.CutBlock
import Derived.Deep.DeepCutAuto
import Derived.Lib.SmallJoins
import Derived.Deep.Fields
set_option linter.unusedSimpArgs false
set_option linter.unusedVariables false
set_option linter.unnecessarySimpa false
/- KilnBooks, plain: what stays true of the model behind a call (no program in sight). -/
namespace Go.Proofs.Ytlhekifmkkgjlaa
open Go Go.RowKit Go.Shelf
set_option maxRecDepth 100000
theorem fireW_at {ws : Nat → Wa} {x y : Nat → Int} : ∀ {k j : Nat}, j < k → (∀ i, i < k → i ≠ j → (x i).toNat ≠ (x j).toNat) → fireW ws x y k (x j).toNat = fireX (ws (x j).toNat) (y j)
  | 0, j, hj, _ => absurd hj (by omega)
  | k + 1, j, hj, h => by
    show upd (fireW ws x y k) (x k).toNat _ (x j).toNat = _
    by_cases e : j = k
    · subst e
      rw [upd_same, fireW_far (fun i hi => h i (by omega) (by omega))]
      rfl
    · rw [upd_ne _ _ (fun e2 => h k (by omega) (fun e3 => e e3.symm) e2.symm)]
      exact fireW_at (by omega) (fun i hi hne => h i (by omega) hne)
theorem drawW_at {ws : Nat → Wa} {od z : Nat → Int} : ∀ {k j : Nat}, j < k → (∀ i, i < k → i ≠ j → (od i).toNat ≠ (od j).toNat) → drawW ws od z k (od j).toNat = drawn (ws (od j).toNat) (z j)
  | 0, j, hj, _ => absurd hj (by omega)
  | k + 1, j, hj, h => by
    show upd (drawW ws od z k) (od k).toNat _ (od j).toNat = _
    by_cases e : j = k
    · subst e
      rw [upd_same, drawW_far (fun i hi => h i (by omega) (by omega))]
    · rw [upd_ne _ _ (fun e2 => h k (by omega) (fun e3 => e e3.symm) e2.symm)]
      exact drawW_at (by omega) (fun i hi hne => h i (by omega) hne)
theorem fire_zero {n m lm : Nat} {room : Int} {sp : Nat → Int} {ws : Nat → Wa} {x y : Nat → Int} (h : fireEE n m lm room sp ws x y = 0) : m = 0 ∧ 0 < lm ∧ lm ≤ 20 ∧ batsE n ws x y lm = 0 ∧ spaceTo sp x y lm ≤ room := by
  unfold fireEE at h
  by_cases h1 : 0 < m
  · rw [if_pos h1] at h; omega
  · rw [if_neg h1] at h
    by_cases h2 : lm = 0
    · rw [if_pos h2] at h; omega
    · rw [if_neg h2] at h
      by_cases h3 : 20 < lm
      · rw [if_pos h3] at h; omega
      · rw [if_neg h3] at h
        by_cases h4 : batsE n ws x y lm ≠ 0
        · rw [if_pos h4] at h; exact absurd h h4
        · rw [if_neg h4] at h
          by_cases h5 : room < spaceTo sp x y lm
          · rw [if_pos h5] at h; omega
          · exact ⟨by omega, by omega, by omega, by omega, by omega⟩
theorem draw_zero {m lm : Nat} {ws : Nat → Wa} {od z : Nat → Int} (h : drawEE m lm ws od z = 0) : 0 < m ∧ lm = m ∧ anyTo (lostB ws od z) m = false := by
  unfold drawEE at h
  by_cases h1 : m = 0
  · rw [if_pos h1] at h; omega
  · rw [if_neg h1] at h
    by_cases h2 : lm = m
    · rw [if_neg (fun h => h h2)] at h
      rcases h3 : anyTo (lostB ws od z) m with _ | _
      · exact ⟨by omega, h2, rfl⟩
      · rw [h3, if_pos rfl] at h; omega
    · rw [if_pos h2] at h; omega
theorem kindX_ok {c : Call8} {x : Wa} (h : OkW x) (h0 : 0 ≤ c.nn) : OkW (kindX c x) ∧ (kindX c x).burning = x.burning := by
  unfold kindX
  split
  · exact ⟨(mouldX_ok h h0).1, (mouldX_ok h h0).2.2.2.1⟩
  · split
    · exact ⟨(dryX_ok h h0).1, (dryX_ok h h0).2.2.2.1⟩
    · split
      · exact ⟨(layX_ok h h0).1, (layX_ok h h0).2.2.2.1⟩
      · split
        · exact ⟨(breakX_ok h h0).1, (breakX_ok h h0).2.2.2.1⟩
        · exact ⟨(replX_ok h h0).1, (replX_ok h h0).2.2.2.1⟩
theorem do_kind {n m : Nat} {room : Int} {sp : Nat → Int} {ws : Nat → Wa} {od : Nat → Int} {c : Call8} (h3 : c.me ≠ 3) (h4 : c.me ≠ 4) (h : doEE n m room sp ws od c = 0) : (0 ≤ c.ki ∧ c.ki ≤ (n : Int) - 1) ∧ (0 ≤ c.nn ∧ c.nn ≤ 1000000000) ∧ kindE c (ws c.ki.toNat) = 0 := by
  unfold doEE at h
  rw [if_neg h3, if_neg h4] at h
  by_cases h1 : 0 ≤ c.ki ∧ c.ki ≤ (n : Int) - 1
  · rw [if_neg (fun e => e h1)] at h
    by_cases h2 : 0 ≤ c.nn ∧ c.nn ≤ 1000000000
    · rw [if_neg (fun e => e h2)] at h
      exact ⟨h1, h2, h⟩
    · rw [if_pos h2] at h; omega
  · rw [if_pos h1] at h; omega
theorem lostB_no {ws : Nat → Wa} {od z : Nat → Int} {m i : Nat} (h : anyTo (lostB ws od z) m = false) (hi : i < m) : 0 ≤ z i ∧ z i ≤ (ws (od i).toNat).burning := by
  apply Classical.byContradiction
  intro hn
  have h1 : anyTo (lostB ws od z) m = true := (anyTo_iff _ _).2 ⟨i, hi, by unfold lostB; rw [decide_eq_false hn]; rfl⟩
  rw [h] at h1; cases h1
theorem WFb.next {n m : Nat} {room : Int} {sp : Nat → Int} {ws : Nat → Wa} {od am : Nat → Int} {c : Call8} (h : WFb n m room sp ws od am) (hE : doEE n m room sp ws od c = 0) :
    WFb n (doM m c) room sp (doW m ws od c) (doOd od c) (doAm am c) := by
  by_cases h3 : c.me = 3
  · have hE2 : fireEE n m c.bm room sp ws c.bx c.bv = 0 := by unfold doEE at hE; rwa [if_pos h3] at hE
    obtain ⟨rfl, b1, b2, b3, b4⟩ := fire_zero hE2
    have hz := batsE_all b3
    have hw : doW 0 ws od c = fireW ws c.bx c.bv c.bm := by unfold doW; rw [if_pos h3]
    have hm : doM 0 c = c.bm := by unfold doM; rw [if_pos h3]
    have ho : doOd od c = c.bx := by unfold doOd; rw [if_pos h3]
    have ha : doAm am c = c.bv := by unfold doAm; rw [if_pos h3]
    rw [hw, hm, ho, ha]
    have hne : ∀ i j, i < c.bm → j < c.bm → i ≠ j → (c.bx i).toNat ≠ (c.bx j).toNat := fun i j hi hj hij e => by
      obtain ⟨K, e1, -, e3, -⟩ := batE_ok (hz i hi)
      obtain ⟨K', f1, -, f3, -⟩ := batE_ok (hz j hj)
      rw [e1, f1] at e
      have e' : K = K' := e
      subst e'
      rcases (by omega : i < j ∨ j < i) with h | h
      · exact f3 i h (by rw [e1, f1])
      · exact e3 j h (by rw [e1, f1])
    have hc : ∀ k, k < n → (ws k).burning = 0 := fun k hk => h.cold k hk (fun i hi => absurd hi (by omega))
    have hat : ∀ j, j < c.bm → fireW ws c.bx c.bv c.bm (c.bx j).toNat = fireX (ws (c.bx j).toNat) (c.bv j) := fun j hj => fireW_at hj (fun i hi hij => hne i j hi hj hij)
    refine ⟨h.n1, h.n2, b2, h.r0, h.sp, fun k hk => ?_, fun i hi => ?_, fun i j hij hj => ?_, fun i hi => ?_, fun k hk hno => ?_⟩
    · by_cases hx : ∃ j, j < c.bm ∧ (c.bx j).toNat = k
      · obtain ⟨j, hj, rfl⟩ := hx
        rw [hat j hj]
        obtain ⟨K, e1, e2, -, e4, -, e6⟩ := batE_ok (hz j hj)
        rw [e1]
        exact (fireX_ok (h.ok K e2) e4 e6).1
      · rw [fireW_far (fun j hj e => hx ⟨j, hj, e⟩)]
        exact h.ok k hk
    · obtain ⟨K, e1, e2, -⟩ := batE_ok (hz i hi)
      rw [e1]; omega
    · obtain ⟨K, e1, e2, e3, -⟩ := batE_ok (hz j hj)
      exact e3 i hij
    · rw [hat i hi]
      obtain ⟨K, e1, e2, -, e4, -, e6⟩ := batE_ok (hz i hi)
      rw [e1, show ((K : Nat) : Int).toNat = K from rfl, (fireX_ok (h.ok K e2) e4 e6).2.2.2.1, hc K e2]
      omega
    · rw [fireW_far (fun j hj e => hno j hj e)]
      exact hc k hk
  · by_cases h4 : c.me = 4
    · have hE2 : drawEE m c.lm ws od c.lz = 0 := by unfold doEE at hE; rwa [if_neg h3, if_pos h4] at hE
      obtain ⟨b1, b2, b3⟩ := draw_zero hE2
      have hw : doW m ws od c = drawW ws od c.lz m := by unfold doW; rw [if_neg h3, if_pos h4]
      have hm : doM m c = 0 := by unfold doM; rw [if_neg h3, if_pos h4]
      rw [hw, hm]
      have hne : ∀ i j, i < m → j < m → i ≠ j → (od i).toNat ≠ (od j).toNat := fun i j hi hj hij e => by
        obtain ⟨a1, a2⟩ := h.kinds i hi
        obtain ⟨c1, c2⟩ := h.kinds j hj
        rcases (by omega : i < j ∨ j < i) with q | q
        · exact h.dis i j q hj (by omega)
        · exact h.dis j i q hi (by omega)
      have hat : ∀ j, j < m → drawW ws od c.lz m (od j).toNat = drawn (ws (od j).toNat) (c.lz j) := fun j hj => drawW_at hj (fun i hi hij => hne i j hi hj hij)
      refine ⟨h.n1, h.n2, by omega, h.r0, h.sp, fun k hk => ?_, fun i hi => absurd hi (by omega), fun i j hij hj => absurd hj (by omega), fun i hi => absurd hi (by omega), fun k hk _ => ?_⟩
      · by_cases hx : ∃ j, j < m ∧ (od j).toNat = k
        · obtain ⟨j, hj, rfl⟩ := hx
          rw [hat j hj]
          exact (drawn_ok (h.ok _ hk) (lostB_no b3 hj).1 (lostB_no b3 hj).2).1
        · rw [drawW_far (fun j hj e => hx ⟨j, hj, e⟩)]
          exact h.ok k hk
      · by_cases hx : ∃ j, j < m ∧ (od j).toNat = k
        · obtain ⟨j, hj, rfl⟩ := hx
          rw [hat j hj]
          exact (drawn_ok (h.ok _ hk) (lostB_no b3 hj).1 (lostB_no b3 hj).2).2.2.2.1
        · rw [drawW_far (fun j hj e => hx ⟨j, hj, e⟩)]
          exact h.cold k hk (fun i hi e => hx ⟨i, hi, e⟩)
    · obtain ⟨hk1, hn1, -⟩ := do_kind h3 h4 hE
      have hw : doW m ws od c = upd ws c.ki.toNat (kindX c (ws c.ki.toNat)) := by unfold doW; rw [if_neg h3, if_neg h4]
      have hm : doM m c = m := by unfold doM; rw [if_neg h3, if_neg h4]
      have ho : doOd od c = od := by unfold doOd; rw [if_neg h3]
      have ha : doAm am c = am := by unfold doAm; rw [if_neg h3]
      rw [hw, hm, ho, ha]
      have hkx := kindX_ok (c := c) (h.ok c.ki.toNat (by omega)) hn1.1
      have hb : ∀ k, (upd ws c.ki.toNat (kindX c (ws c.ki.toNat)) k).burning = (ws k).burning := fun k => by
        by_cases e : k = c.ki.toNat
        · subst e; rw [upd_same]; exact hkx.2
        · rw [upd_ne _ _ e]
      refine ⟨h.n1, h.n2, h.m2, h.r0, h.sp, fun k hk => ?_, h.kinds, h.dis, fun i hi => (hb _).trans (h.am i hi), fun k hk hno => (hb k).trans (h.cold k hk hno)⟩
      by_cases e : k = c.ki.toNat
      · subst e; rw [upd_same]; exact hkx.1
      · rw [upd_ne _ _ e]; exact h.ok k hk
end Go.Proofs.Ytlhekifmkkgjlaa
/- Chapter 8: a kiln with one kind emptied. -/
namespace Go.Proofs.Ytlhekifmkkgjlaa
open Go Go.RowKit Go.Shelf
set_option maxRecDepth 100000
def drawE (x : Wa) (l : Int) : Int := if 0 ≤ l ∧ l ≤ x.burning then 0 else 2
theorem draw_one (b S n k oc c ab aoff gb goff : Nat) (room l : Int) (spv : Value) (ws : Nat → Wa) (w : World) (hbk : Blk w b 148 #[spv, .int .i64 room, .slice (some ⟨S, 0, none⟩) n n, .slice (some ⟨gb, goff, none⟩) 1 oc]) (hn1 : 1 ≤ n) (hn : n ≤ 20) (hS : Stores w S n ws) (ho : ∀ k, k < n → OkW (ws k)) (hG : IR w w.heap.size (some ⟨gb, goff, none⟩) 1 (fun _ => (k : Int))) (hA : IR w w.heap.size (some ⟨ab, aoff, none⟩) 1 (fun _ => l))
    (hk : k < n) (habS : ab ≠ S) (habb : ab ≠ b) (hgbS : gb ≠ S) (hgbb : gb ≠ b) :
    Calls Try.prog 41 #[.pointer (some ⟨b, 0, none⟩), .slice (some ⟨ab, aoff, none⟩) 1 c] w fun e w' =>
      e = .returned (.int .i64 (drawE (ws k) l)) ∧ ((drawE (ws k) l ≠ 0 ∧ Below w.heap.size w w') ∨ (drawE (ws k) l = 0 ∧ Blk w' b 148 #[spv, .int .i64 room, .slice (some ⟨S, 0, none⟩) n n, .slice none 0 0] ∧ Stores w' S n (upd ws k (drawn (ws k) l)) ∧ Apart w w' S b)) := by
  refine (draw_any b S n 1 oc c ab aoff gb goff room spv ws (fun _ => (k : Int)) (fun _ => l) w hbk hn1 hn hS ho (Nat.le_refl _) (by omega) hG hA (fun _ _ => by omega) (fun i j h1 h2 => by omega) habS habb hgbS hgbb).mono ?_
  have e1 : anyTo (lostB ws (fun _ => (k : Int)) (fun _ => l)) 1 = ! decide (0 ≤ l ∧ l ≤ (ws k).burning) := by
    show (false || lostB ws (fun _ => (k : Int)) (fun _ => l) 0) = _
    rw [Bool.false_or]
    unfold lostB
    dsimp only
    rw [Int.toNat_natCast]
  have e2 : drawW ws (fun _ => (k : Int)) (fun _ => l) 1 = upd ws k (drawn (ws k) l) := by
    show upd ws ((k : Int)).toNat _ = _
    rw [Int.toNat_natCast]
    rfl
  rintro e w' h
  unfold DrawPost at h
  rw [e1, e2] at h
  unfold drawE
  by_cases a : 0 ≤ l ∧ l ≤ (ws k).burning
  · rw [decide_eq_true a] at h
    rcases h with ⟨h1, -⟩ | ⟨-, rfl, h2⟩
    · cases h1
    · simp only [if_pos a]
      exact ⟨trivial, .inr ⟨trivial, h2⟩⟩
  · rw [decide_eq_false a] at h
    rcases h with ⟨-, rfl, h2⟩ | ⟨h1, -⟩
    · simp only [if_neg a]
      exact ⟨trivial, .inl ⟨by omega, h2⟩⟩
    · cases h1
/-- a list of ints of its own block: its address -/
theorem own_addr {w : World} {base n : Nat} {e : TypeId} {ov : Value} {f : Nat → Int} (h : w.ownsRow base e 1 ov n (cellsOf 1 n fun j _ => .int .i64 (f j))) (hn : 0 < n) :
    ∃ g oc, ov = .slice (some ⟨g, 0, none⟩) n oc ∧ base ≤ g ∧ IR w w.heap.size (some ⟨g, 0, none⟩) n f := by
  obtain ⟨g, cap, rfl, -, hlt⟩ := h.form hn
  obtain ⟨A', c', hv, hE, -⟩ := ER.of_own h (by omega)
  injection hv with h1 h2 h3
  subst h1
  exact ⟨g, cap, rfl, (h.lt g rfl).1, hE⟩
end Go.Proofs.Ytlhekifmkkgjlaa
/- KilnBooks: Fire, Draw and the calls with one kind, said in one way. -/
namespace Go.Proofs.Ytlhekifmkkgjlaa
open Go Go.RowKit Go.Shelf
set_option maxHeartbeats 2000000
set_option maxRecDepth 100000
section
variable {W W' : World} {b S n sb soff sc : Nat} {room : Int} {sp : Nat → Int} {ws : Nat → Wa} {m : Nat} {od : Nat → Int} {ov : Value}
theorem apart_grown (hg : W.grownBy W' (some S)) : Apart W W' S b := ⟨hg.os, hg.tape, hg.output, hg.size, fun j hj h1 _ => hg.block j hj (fun e => h1 (by injection e))⟩
/-- behind a call that changes the stores, and no more -/
theorem KB.stores (h : KB W b S n sb soff sc room sp ws m od ov) (ha : Apart W W' S b) {ws' : Nat → Wa} (hb : Blk W' b 148 #[.slice (some ⟨sb, soff, none⟩) n sc, .int .i64 room, .slice (some ⟨S, 0, none⟩) n n, ov]) (hs : Stores W' S n ws') : KB W' b S n sb soff sc room sp ws' m od ov := by
  refine ⟨hb, hs, ir_keep h.sp ha h.ne.1 h.ne.2, ?_, h.ne⟩
  rcases h.burn with h1 | ⟨h0, g, oc, h1, h2, h3, cs, h4⟩
  · exact .inl h1
  · exact .inr ⟨h0, g, oc, h1, ir_keep h2 ha h3.1 h3.2, h3, cs, ha.blk h4 h3.1 h3.2⟩
end
def KPost (E : Int) (b S n sb soff sc : Nat) (room : Int) (sp : Nat → Int) (ws : Nat → Wa) (m : Nat) (od : Nat → Int) (ov : Value) (ws' : Nat → Wa) (m' : Nat) (od' : Nat → Int) (w : World) (e : Ending) (w' : World) : Prop :=
  e = .returned (.int .i64 E) ∧ Apart w w' S b ∧ ((E ≠ 0 ∧ KB w' b S n sb soff sc room sp ws m od ov) ∨ (E = 0 ∧ ∃ ov', KB w' b S n sb soff sc room sp ws' m' od' ov'))
theorem kno {E : Int} {b S n sb soff sc : Nat} {room : Int} {sp : Nat → Int} {ws : Nat → Wa} {m : Nat} {od : Nat → Int} {ov : Value} {ws' : Nat → Wa} {m' : Nat} {od' : Nat → Int} {w w' : World} {e : Ending} (hE : E ≠ 0) (hK : KB w b S n sb soff sc room sp ws m od ov) (he : e = .returned (.int .i64 E)) (hb : Below w.heap.size w w') : KPost E b S n sb soff sc room sp ws m od ov ws' m' od' w e w' :=
  ⟨he, Apart.of_below hb, .inl ⟨hE, hK.ext hb⟩⟩
theorem fire_all (b S n sb soff sc : Nat) (room : Int) (sp : Nat → Int) (ws : Nat → Wa) (m : Nat) (od am : Nat → Int) (ov : Value) (w : World) (hK : KB w b S n sb soff sc room sp ws m od ov) (hw : WFb n m room sp ws od am) (A : Option Addr) (lm c : Nat) (x y : Nat → Int) (hp : PI w w.heap.size A lm x y) (hfar : ∀ p, A = some p → p.block ≠ S ∧ p.block ≠ b) (hlm : lm ≤ 65536) (hin : ∀ i, i < lm → inInt (x i)) :
    Calls Try.prog 40 #[.pointer (some ⟨b, 0, none⟩), .slice A lm c] w (KPost (fireEE n m lm room sp ws x y) b S n sb soff sc room sp ws m od ov (fireW ws x y lm) lm x w) := by
  rcases hK.burn with ⟨rfl, hov⟩ | ⟨h0, g, oc, hov, -⟩
  · by_cases h1 : lm = 0
    · subst h1
      have hE : fireEE n 0 0 room sp ws x y = 2 := by unfold fireEE; rw [if_neg (by omega), if_pos rfl]
      rw [hE]
      exact (fire_empty b S n c A room _ w (by have := hK.book; rwa [hov] at this)).mono fun e w' h => kno (by decide) hK h.1 h.2
    · by_cases h2 : 20 < lm
      · have hE : fireEE n 0 lm room sp ws x y = 5 := by unfold fireEE; rw [if_neg (by omega), if_neg h1, if_pos h2]
        rw [hE]
        exact (fire_long b S n lm c A room _ w (by have := hK.book; rwa [hov] at this) h2 (by unfold maxLen; omega)).mono fun e w' h => kno (by decide) hK h.1 h.2
      · obtain ⟨ab, aoff, hA, -⟩ := hp (by omega)
        subst hA
        have hf := hfar _ rfl
        refine (fire_any b S n lm c ab aoff sb soff sc room sp ws x y w (by have := hK.book; rwa [hov] at this) hw.n1 hw.n2 hK.st hw.ok hK.sp hw.sp hf.1 hf.2 (by omega) (by omega) hp hin).mono ?_
        rintro e w' (⟨h3, h4, h5⟩ | ⟨h3, h4, h5, h6⟩ | ⟨h3, h4, h5, ov', h6, h7, h8, h9⟩)
        · have hE : fireEE n 0 lm room sp ws x y = batsE n ws x y lm := by unfold fireEE; rw [if_neg (by omega), if_neg h1, if_neg h2, if_pos h3]
          rw [hE]
          exact kno h3 hK h4 h5
        · have hE : fireEE n 0 lm room sp ws x y = 8 := by unfold fireEE; rw [if_neg (by omega), if_neg h1, if_neg h2, if_neg (by omega), if_pos h4]
          rw [hE]
          exact kno (by decide) hK h5 h6
        · have hE : fireEE n 0 lm room sp ws x y = 0 := by unfold fireEE; rw [if_neg (by omega), if_neg h1, if_neg h2, if_neg (by omega), if_neg (by omega)]
          rw [hE]
          obtain ⟨g, cap, hv, hg, hgl⟩ := h7.form (by omega)
          obtain ⟨A', c', e1, e2, -⟩ := ER.of_own h7 (by omega)
          subst hv
          injection e1 with e1 e3 e4
          subst e1
          have hbi : ∃ cs, Blk w' g 3 cs := by
            rcases h7.2 with ⟨q1, -⟩ | ⟨g', cap', cur, q1, -, q2, -⟩
            · cases q1
            · injection q1 with q1
              injection q1 with q1
              injection q1 with q1
              subst q1
              exact ⟨cur, q2⟩
          have hbl := hK.book.lt
          have hsl := hK.st.lt
          exact ⟨h5, h9, .inr ⟨rfl, _, h6, h8, ir_keep hK.sp h9 hK.ne.1 hK.ne.2, .inr ⟨by omega, g, cap, rfl, e2, ⟨by omega, by omega⟩, hbi⟩, hK.ne⟩⟩
  · have hE : fireEE n m lm room sp ws x y = 9 := by unfold fireEE; rw [if_pos h0]
    rw [hE]
    exact (fire_hot b S n lm c m oc A _ room _ w (by have := hK.book; rwa [hov] at this) (by omega)).mono fun e w' h => kno (by decide) hK h.1 h.2
theorem draw_all (b S n sb soff sc : Nat) (room : Int) (sp : Nat → Int) (ws : Nat → Wa) (m : Nat) (od am : Nat → Int) (ov : Value) (w : World) (hK : KB w b S n sb soff sc room sp ws m od ov) (hw : WFb n m room sp ws od am) (A : Option Addr) (lm c : Nat) (z : Nat → Int) (hp : IR w w.heap.size A lm z) (hfar : ∀ p, A = some p → p.block ≠ S ∧ p.block ≠ b) (hlm : lm ≤ 65536) :
    Calls Try.prog 41 #[.pointer (some ⟨b, 0, none⟩), .slice A lm c] w (KPost (drawEE m lm ws od z) b S n sb soff sc room sp ws m od ov (drawW ws od z m) 0 od w) := by
  rcases hK.burn with ⟨rfl, hov⟩ | ⟨h0, g, oc, hov, hg, ⟨hgS, hgb⟩, -⟩
  · have hE : drawEE 0 lm ws od z = 9 := by unfold drawEE; rw [if_pos rfl]
    rw [hE]
    exact (draw_cold b S n lm c A room _ w (by have := hK.book; rwa [hov] at this)).mono fun e w' h => kno (by decide) hK h.1 h.2
  · by_cases h1 : lm = m
    · subst h1
      obtain ⟨ab, aoff, hA, -⟩ := hp (by omega)
      subst hA
      have hf := hfar _ rfl
      refine (draw_any b S n lm oc c ab aoff g 0 room _ ws od z w (by have := hK.book; rwa [hov] at this) hw.n1 hw.n2 hK.st hw.ok (by omega) hw.m2 hg hp hw.kinds hw.dis hf.1 hf.2 hgS hgb).mono ?_
      rintro e w' (⟨h3, h4, h5⟩ | ⟨h3, h4, h5, h6, h7⟩)
      · have hE : drawEE lm lm ws od z = 2 := by unfold drawEE; rw [if_neg (by omega), if_neg (by simp), if_pos h3]
        rw [hE]
        exact kno (by decide) hK h4 h5
      · have hE : drawEE lm lm ws od z = 0 := by unfold drawEE; rw [if_neg (by omega), if_neg (by simp), if_neg (by rw [h3]; simp)]
        rw [hE]
        exact ⟨h4, h7, .inr ⟨rfl, _, h5, h6, ir_keep hK.sp h7 hK.ne.1 hK.ne.2, .inl ⟨rfl, rfl⟩, hK.ne⟩⟩
    · have hE : drawEE m lm ws od z = 4 := by unfold drawEE; rw [if_neg (by omega), if_pos h1]
      rw [hE]
      exact (draw_form b S n lm c m oc A _ room _ w (by have := hK.book; rwa [hov] at this) (by omega) hw.m2 (by unfold maxLen; omega) h1).mono fun e w' h => kno (by decide) hK h.1 h.2
theorem kstep {E : Int} {X : Wa} {b S n sb soff sc k : Nat} {room : Int} {sp : Nat → Int} {ws : Nat → Wa} {m : Nat} {od : Nat → Int} {ov : Value} {w w' : World} {e : Ending} (hK : KB w b S n sb soff sc room sp ws m od ov) (hX : E ≠ 0 → X = ws k)
    (h : StepPost b S n (.slice (some ⟨sb, soff, none⟩) n sc) ov room ws k E X w e w') : KPost E b S n sb soff sc room sp ws m od ov (upd ws k X) m od w e w' := by
  obtain ⟨h1, h2, h3, h4⟩ := h
  have ha := apart_grown (b := b) h4
  refine ⟨h1, ha, ?_⟩
  by_cases hE : E = 0
  · exact .inr ⟨hE, ov, hK.stores ha h2 h3⟩
  · refine .inl ⟨hE, hK.stores ha h2 ?_⟩
    rw [hX hE, upd_self] at h3
    exact h3
/-- the answer for a call with one kind -/
def oneE (n : Nat) (ki nn : Int) (E : Int) : Int := if ¬ (0 ≤ ki ∧ ki ≤ (n : Int) - 1) then 7 else if ¬ (0 ≤ nn ∧ nn ≤ 1000000000) then 3 else E
theorem mould_all (b S n sb soff sc : Nat) (room : Int) (sp : Nat → Int) (ws : Nat → Wa) (m : Nat) (od am : Nat → Int) (ov : Value) (w : World) (hK : KB w b S n sb soff sc room sp ws m od ov) (hw : WFb n m room sp ws od am) (ki nn : Int) :
    Calls Try.prog 38 #[.pointer (some ⟨b, 0, none⟩), .int .i64 ki, .int .i64 nn] w (KPost (oneE n ki nn (mouldE (ws ki.toNat) nn)) b S n sb soff sc room sp ws m od ov (upd ws ki.toNat (mouldX (ws ki.toNat) nn)) m od w) := by
  by_cases h1 : (0 ≤ ki ∧ ki ≤ (n : Int) - 1) ∧ 0 ≤ nn ∧ nn ≤ 1000000000
  · obtain ⟨h1, h2⟩ := h1
    obtain ⟨k, rfl⟩ : ∃ k : Nat, ki = k := Int.eq_ofNat_of_zero_le h1.1
    have hE : oneE n (k : Int) nn (mouldE (ws ((k : Int)).toNat) nn) = mouldE (ws k) nn := by unfold oneE; rw [if_neg (fun h => h h1), if_neg (fun h => h h2)]; rfl
    rw [hE]
    exact (mould_step b S n k _ ov room nn ws w hK.book hw.n2 (by omega) hK.st (hw.ok k (by omega)) h2.1 h2.2).mono fun e w' h => kstep hK ((mouldX_ok (hw.ok k (by omega)) h2.1).2.2.2.2.2) h
  · have hE : oneE n ki nn (mouldE (ws ki.toNat) nn) = (if 0 ≤ ki ∧ ki ≤ (n : Int) - 1 then 3 else 7) := by
      unfold oneE
      by_cases h2 : 0 ≤ ki ∧ ki ≤ (n : Int) - 1
      · rw [if_neg (fun h => h h2), if_pos h2, if_pos (fun h => h1 ⟨h2, h⟩)]
      · rw [if_pos h2, if_neg h2]
    rw [hE]
    exact (mould_err b S n _ ov room ki nn w hK.book hw.n2 hw.n1 h1).mono fun e w' h => kno (by split <;> decide) hK h.1 h.2
theorem lay_all (b S n sb soff sc : Nat) (room : Int) (sp : Nat → Int) (ws : Nat → Wa) (m : Nat) (od am : Nat → Int) (ov : Value) (w : World) (hK : KB w b S n sb soff sc room sp ws m od ov) (hw : WFb n m room sp ws od am) (ki nn : Int) :
    Calls Try.prog 42 #[.pointer (some ⟨b, 0, none⟩), .int .i64 ki, .int .i64 nn] w (KPost (oneE n ki nn (layE (ws ki.toNat) nn)) b S n sb soff sc room sp ws m od ov (upd ws ki.toNat (layX (ws ki.toNat) nn)) m od w) := by
  by_cases h1 : (0 ≤ ki ∧ ki ≤ (n : Int) - 1) ∧ 0 ≤ nn ∧ nn ≤ 1000000000
  · obtain ⟨h1, h2⟩ := h1
    obtain ⟨k, rfl⟩ : ∃ k : Nat, ki = k := Int.eq_ofNat_of_zero_le h1.1
    have hE : oneE n (k : Int) nn (layE (ws ((k : Int)).toNat) nn) = layE (ws k) nn := by unfold oneE; rw [if_neg (fun h => h h1), if_neg (fun h => h h2)]; rfl
    rw [hE]
    exact (lay_step b S n k _ ov room nn ws w hK.book hw.n2 (by omega) hK.st (hw.ok k (by omega)) h2.1 h2.2).mono fun e w' h => kstep hK ((layX_ok (hw.ok k (by omega)) h2.1).2.2.2.2.2) h
  · have hE : oneE n ki nn (layE (ws ki.toNat) nn) = (if 0 ≤ ki ∧ ki ≤ (n : Int) - 1 then 3 else 7) := by
      unfold oneE
      by_cases h2 : 0 ≤ ki ∧ ki ≤ (n : Int) - 1
      · rw [if_neg (fun h => h h2), if_pos h2, if_pos (fun h => h1 ⟨h2, h⟩)]
      · rw [if_pos h2, if_neg h2]
    rw [hE]
    exact (lay_err b S n _ ov room ki nn w hK.book hw.n2 hw.n1 h1).mono fun e w' h => kno (by split <;> decide) hK h.1 h.2
theorem break_all (b S n sb soff sc : Nat) (room : Int) (sp : Nat → Int) (ws : Nat → Wa) (m : Nat) (od am : Nat → Int) (ov : Value) (w : World) (hK : KB w b S n sb soff sc room sp ws m od ov) (hw : WFb n m room sp ws od am) (ki nn : Int) :
    Calls Try.prog 43 #[.pointer (some ⟨b, 0, none⟩), .int .i64 ki, .int .i64 nn] w (KPost (oneE n ki nn (breakE (ws ki.toNat) nn)) b S n sb soff sc room sp ws m od ov (upd ws ki.toNat (breakX (ws ki.toNat) nn)) m od w) := by
  by_cases h1 : (0 ≤ ki ∧ ki ≤ (n : Int) - 1) ∧ 0 ≤ nn ∧ nn ≤ 1000000000
  · obtain ⟨h1, h2⟩ := h1
    obtain ⟨k, rfl⟩ : ∃ k : Nat, ki = k := Int.eq_ofNat_of_zero_le h1.1
    have hE : oneE n (k : Int) nn (breakE (ws ((k : Int)).toNat) nn) = breakE (ws k) nn := by unfold oneE; rw [if_neg (fun h => h h1), if_neg (fun h => h h2)]; rfl
    rw [hE]
    exact (break_step b S n k _ ov room nn ws w hK.book hw.n2 (by omega) hK.st (hw.ok k (by omega)) h2.1 h2.2).mono fun e w' h => kstep hK ((breakX_ok (hw.ok k (by omega)) h2.1).2.2.2.2.2) h
  · have hE : oneE n ki nn (breakE (ws ki.toNat) nn) = (if 0 ≤ ki ∧ ki ≤ (n : Int) - 1 then 3 else 7) := by
      unfold oneE
      by_cases h2 : 0 ≤ ki ∧ ki ≤ (n : Int) - 1
      · rw [if_neg (fun h => h h2), if_pos h2, if_pos (fun h => h1 ⟨h2, h⟩)]
      · rw [if_pos h2, if_neg h2]
    rw [hE]
    exact (break_err b S n _ ov room ki nn w hK.book hw.n2 hw.n1 h1).mono fun e w' h => kno (by split <;> decide) hK h.1 h.2
theorem replace_all (b S n sb soff sc : Nat) (room : Int) (sp : Nat → Int) (ws : Nat → Wa) (m : Nat) (od am : Nat → Int) (ov : Value) (w : World) (hK : KB w b S n sb soff sc room sp ws m od ov) (hw : WFb n m room sp ws od am) (ki nn : Int) :
    Calls Try.prog 44 #[.pointer (some ⟨b, 0, none⟩), .int .i64 ki, .int .i64 nn] w (KPost (oneE n ki nn (replE (ws ki.toNat) nn)) b S n sb soff sc room sp ws m od ov (upd ws ki.toNat (replX (ws ki.toNat) nn)) m od w) := by
  by_cases h1 : (0 ≤ ki ∧ ki ≤ (n : Int) - 1) ∧ 0 ≤ nn ∧ nn ≤ 1000000000
  · obtain ⟨h1, h2⟩ := h1
    obtain ⟨k, rfl⟩ : ∃ k : Nat, ki = k := Int.eq_ofNat_of_zero_le h1.1
    have hE : oneE n (k : Int) nn (replE (ws ((k : Int)).toNat) nn) = replE (ws k) nn := by unfold oneE; rw [if_neg (fun h => h h1), if_neg (fun h => h h2)]; rfl
    rw [hE]
    exact (replace_step b S n k _ ov room nn ws w hK.book hw.n2 (by omega) hK.st (hw.ok k (by omega)) h2.1 h2.2).mono fun e w' h => kstep hK ((replX_ok (hw.ok k (by omega)) h2.1).2.2.2.2.2) h
  · have hE : oneE n ki nn (replE (ws ki.toNat) nn) = (if 0 ≤ ki ∧ ki ≤ (n : Int) - 1 then 3 else 7) := by
      unfold oneE
      by_cases h2 : 0 ≤ ki ∧ ki ≤ (n : Int) - 1
      · rw [if_neg (fun h => h h2), if_pos h2, if_pos (fun h => h1 ⟨h2, h⟩)]
      · rw [if_pos h2, if_neg h2]
    rw [hE]
    exact (replace_err b S n _ ov room ki nn w hK.book hw.n2 hw.n1 h1).mono fun e w' h => kno (by split <;> decide) hK h.1 h.2
theorem dry_all (b S n sb soff sc : Nat) (room : Int) (sp : Nat → Int) (ws : Nat → Wa) (m : Nat) (od am : Nat → Int) (ov : Value) (w : World) (hK : KB w b S n sb soff sc room sp ws m od ov) (hw : WFb n m room sp ws od am) (ki nn br : Int) :
    Calls Try.prog 39 #[.pointer (some ⟨b, 0, none⟩), .int .i64 ki, .int .i64 nn, .int .i64 br] w (KPost (oneE n ki nn (dryE (ws ki.toNat) nn br)) b S n sb soff sc room sp ws m od ov (upd ws ki.toNat (dryX (ws ki.toNat) nn br)) m od w) := by
  by_cases h1 : (0 ≤ ki ∧ ki ≤ (n : Int) - 1) ∧ 0 ≤ nn ∧ nn ≤ 1000000000
  · obtain ⟨h1, h2⟩ := h1
    obtain ⟨k, rfl⟩ : ∃ k : Nat, ki = k := Int.eq_ofNat_of_zero_le h1.1
    have hE : oneE n (k : Int) nn (dryE (ws ((k : Int)).toNat) nn br) = dryE (ws k) nn br := by unfold oneE; rw [if_neg (fun h => h h1), if_neg (fun h => h h2)]; rfl
    rw [hE]
    exact (dry_step b S n k _ ov room nn ws w hK.book hw.n2 (by omega) hK.st (hw.ok k (by omega)) h2.1 h2.2 br).mono fun e w' h => kstep hK ((dryX_ok (hw.ok k (by omega)) h2.1).2.2.2.2.2) h
  · have hE : oneE n ki nn (dryE (ws ki.toNat) nn br) = (if 0 ≤ ki ∧ ki ≤ (n : Int) - 1 then 3 else 7) := by
      unfold oneE
      by_cases h2 : 0 ≤ ki ∧ ki ≤ (n : Int) - 1
      · rw [if_neg (fun h => h h2), if_pos h2, if_pos (fun h => h1 ⟨h2, h⟩)]
      · rw [if_pos h2, if_neg h2]
    rw [hE]
    exact (dry_err b S n _ ov room ki nn br w hK.book hw.n2 hw.n1 h1).mono fun e w' h => kno (by split <;> decide) hK h.1 h.2
end Go.Proofs.Ytlhekifmkkgjlaa
/- KilnBooks: do, on a book and on none. -/
namespace Go.Proofs.Ytlhekifmkkgjlaa
open Go Go.RowKit Go.Shelf
set_option maxHeartbeats 2000000
set_option maxRecDepth 100000
theorem KPost.of {E : Int} {b S n sb soff sc : Nat} {room : Int} {sp : Nat → Int} {ws : Nat → Wa} {m : Nat} {od : Nat → Int} {ov : Value} {ws' : Nat → Wa} {m' : Nat} {od' : Nat → Int} {w w1 w' : World} {e : Ending} (h : KPost E b S n sb soff sc room sp ws m od ov ws' m' od' w1 e w') (hb : Below w.heap.size w w1) : KPost E b S n sb soff sc room sp ws m od ov ws' m' od' w e w' := by
  obtain ⟨h1, h2, h3⟩ := h
  exact ⟨h1, ⟨h2.1.trans hb.os, h2.2.1.trans hb.tape, h2.2.2.1.trans hb.output, Nat.le_trans hb.size h2.2.2.2.1, fun j hj hS hB => (h2.2.2.2.2 j (Nat.lt_of_lt_of_le hj hb.size) hS hB).trans (hb.block j hj)⟩, h3⟩
theorem do_any (b S n sb soff sc : Nat) (room : Int) (sp : Nat → Int) (ws : Nat → Wa) (m : Nat) (od am : Nat → Int) (ov : Value) (c : Call8) (w : World) (hK : KB w b S n sb soff sc room sp ws m od ov) (hw : WFb n m room sp ws od am) (hc : CallR w w.heap.size c) (hin : ∀ i, i < c.bm → inInt (c.bx i)) :
    Calls Try.prog 36 #[.pointer (some ⟨b, 0, none⟩), c.val] w (KPost (doEE n m room sp ws od c) b S n sb soff sc room sp ws m od ov (doW m ws od c) (doM m c) (doOd od c) w) := by
  have HB := hide ((Below.refl w.heap.size w).alloc (Nat.le_refl _) (.cells #[.int .i64 c.me, .int .i64 c.ki, .int .i64 c.nn, .int .i64 c.br, .slice c.bA c.bm c.bc, .slice c.lA c.lm c.lc] 81))
  have K3 := hide (Blk.new w 81 #[.int .i64 c.me, .int .i64 c.ki, .int .i64 c.nn, .int .i64 c.br, .slice c.bA c.bm c.bc, .slice c.lA c.lm c.lc])
  have HK := hide (hK.ext HB.out)
  have HW := hide hw
  have HC := hide ((hc.below HB.out (Nat.le_refl _)).more HB.out.size)
  have HIN := hide hin
  clear hK hw hc hin
  unfold Call8.val
  go_enter Try.func36, Try.ntmps36
  go_upto_region 1 with fail
  generalize (w.alloc (.cells #[.int .i64 c.me, .int .i64 c.ki, .int .i64 c.nn, .int .i64 c.br, .slice c.bA c.bm c.bc, .slice c.lA c.lm c.lc] 81)) = W0 at HB K3 HK HC ⊢
  obtain ⟨d0, d1, d2, d3, d4, d5, d6⟩ := bx6 K3.out
  have hsl := HK.out.st.lt
  have hbl := HK.out.book.lt
  by_cases m3 : c.me = 3
  · have b3 : (c.me == 3) = true := by simp [m3]
    have b1 : (c.me == 1) = false := by simp [m3]
    have b2 : (c.me == 2) = false := by simp [m3]
    have hd : doEE n m room sp ws od c = fireEE n m c.bm room sp ws c.bx c.bv := by unfold doEE; rw [if_pos m3]
    have hdw : doW m ws od c = fireW ws c.bx c.bv c.bm := by unfold doW; rw [if_pos m3]
    have hdm : doM m c = c.bm := by unfold doM; rw [if_pos m3]
    have hdo : doOd od c = c.bx := by unfold doOd; rw [if_pos m3]
    have HX := hide (And.intro hd (And.intro hdw (And.intro hdm hdo)))
    clear m3 hd hdw hdm hdo
    obtain ⟨i0, hi, hz0, hz1, hz2⟩ := info_parts info_batch
    have HI := hide (show _ ∧ _ ∧ _ ∧ _ from ⟨hi, hz0, hz1, hz2⟩)
    clear hi hz0 hz1 hz2
    have hbm := HC.out.2.2.1
    go_wp2_with (at_builtin; refine wpList_append_any _ rfl (.tmp 28) (.tmp 30) 79 rfl W0.heap.size 107 i0 _ 2 16 Try.underlying79 HI.out.1 HI.out.2.1 HI.out.2.2.1 HI.out.2.2.2 rfl (by omega) (.slice (some ⟨W0.heap.size, 0, none⟩) 0 0) 0 [] rfl (own_empty W0 107 2) _ c.bA c.bm c.bc (cellsOf 2 c.bm fun k i => if i = 0 then .int .i64 (c.bx k) else .int .i64 (c.bv k)) rfl (ER.reads (HC.out.1.below ((Below.refl W0.heap.size W0).alloc (Nat.le_refl _) _) (Nat.le_refl _)) (by omega)) (pairs_one _ _ _) (by unfold maxLen; omega) (by omega) (by simp) ?_; intro v5 w5 hx5 hg5 ho5; rw [Nat.zero_add, List.nil_append] at hx5; obtain ⟨A5, c5, rfl⟩ := own_shape hx5; have hb5 : Below W0.heap.size W0 w5 := ((Below.refl _ _).alloc (Nat.le_refl _) _).grown hg5 (by simp) (fun j hj => Nat.le_of_eq (by simpa [Value.ownBlock] using hj)); have HX5 := hide hx5; have HB5 := hide hb5; clear hx5 hg5 ho5 hb5)
    obtain ⟨A', c', e1, e2, -⟩ := ER.of_own HX5.out (by omega)
    injection e1 with e1
    subst e1
    have HP5 := hide e2
    have HFR : Hid (∀ p, A5 = some p → p.block ≠ S ∧ p.block ≠ b) := hide (fun p hp => by
      subst hp
      have h1 := HX5.out.lt
      rcases HX5.out.2 with ⟨h2, -⟩ | ⟨g, cap, cur, h2, h3, -⟩
      · cases h2
      · injection h2 with h2
        injection h2 with h2
        subst h2
        show g ≠ S ∧ g ≠ b
        omega)
    clear e2
    have HF := hide (fire_all b S n sb soff sc room sp ws m od am ov w5 (HK.out.ext HB5.out) HW.out A5 c.bm c5 c.bx c.bv HP5.out HFR.out (by omega) HIN.out)
    clear d0 d1 d2 d3 d4 d5 d6
    refine HF.out.mono ?_
    intro e w9 h9
    obtain ⟨rfl, h9⟩ := h9
    go_wp2_with fail
    go_ret
    rw [HX.out.1, HX.out.2.1, HX.out.2.2.1, HX.out.2.2.2]
    exact KPost.of ⟨rfl, h9⟩ (HB.out.trans (HB5.out.mono HB.out.size))
  · have b3 : (c.me == 3) = false := by simp [m3]
    by_cases m4 : c.me = 4
    · have b4 : (c.me == 4) = true := by simp [m4]
      have b1 : (c.me == 1) = false := by simp [m4]
      have b2 : (c.me == 2) = false := by simp [m4]
      have hd : doEE n m room sp ws od c = drawEE m c.lm ws od c.lz := by unfold doEE; rw [if_neg m3, if_pos m4]
      have hdw : doW m ws od c = drawW ws od c.lz m := by unfold doW; rw [if_neg m3, if_pos m4]
      have hdm : doM m c = 0 := by unfold doM; rw [if_neg m3, if_pos m4]
      have hdo : doOd od c = od := by unfold doOd; rw [if_neg m3]
      have HX := hide (And.intro hd (And.intro hdw (And.intro hdm hdo)))
      clear m3 m4 hd hdw hdm hdo
      obtain ⟨i0, hi, hz0, hz1, hz2⟩ := info_parts info_int
      have HI := hide (show _ ∧ _ ∧ _ ∧ _ from ⟨hi, hz0, hz1, hz2⟩)
      clear hi hz0 hz1 hz2
      have hlm := HC.out.2.2.2
      go_wp2_with (at_builtin; refine wpList_append_any _ rfl (.tmp 36) (.tmp 38) 56 rfl W0.heap.size 3 i0 _ 1 8 Try.underlying56 HI.out.1 HI.out.2.1 HI.out.2.2.1 HI.out.2.2.2 rfl (by omega) (.slice (some ⟨W0.heap.size, 0, none⟩) 0 0) 0 [] rfl (own_empty W0 3 1) _ c.lA c.lm c.lc (cellsOf 1 c.lm fun i _ => .int .i64 (c.lz i)) rfl (ER.reads (HC.out.2.1.below ((Below.refl W0.heap.size W0).alloc (Nat.le_refl _) _) (Nat.le_refl _)) (by omega)) (ints_one _ _) (by unfold maxLen; omega) (by omega) (by simp) ?_; intro v5 w5 hx5 hg5 ho5; rw [Nat.zero_add, List.nil_append] at hx5; obtain ⟨A5, c5, rfl⟩ := own_shape hx5; have hb5 : Below W0.heap.size W0 w5 := ((Below.refl _ _).alloc (Nat.le_refl _) _).grown hg5 (by simp) (fun j hj => Nat.le_of_eq (by simpa [Value.ownBlock] using hj)); have HX5 := hide hx5; have HB5 := hide hb5; clear hx5 hg5 ho5 hb5)
      have HP5 := hide (show IR w5 w5.heap.size A5 c.lm c.lz from rowI.ir HX5.out)
      have HFR : Hid (∀ p, A5 = some p → p.block ≠ S ∧ p.block ≠ b) := hide (fun p hp => by
        subst hp
        rcases HX5.out.2 with ⟨h2, -⟩ | ⟨g, cap, cur, h2, h3, -⟩
        · cases h2
        · injection h2 with h2
          injection h2 with h2
          subst h2
          show g ≠ S ∧ g ≠ b
          omega)
      have HF := hide (draw_all b S n sb soff sc room sp ws m od am ov w5 (HK.out.ext HB5.out) HW.out A5 c.lm c5 c.lz HP5.out HFR.out (by omega))
      clear d0 d1 d2 d3 d4 d5 d6
      refine HF.out.mono ?_
      intro e w9 h9
      obtain ⟨rfl, h9⟩ := h9
      go_wp2_with fail
      go_ret
      rw [HX.out.1, HX.out.2.1, HX.out.2.2.1, HX.out.2.2.2]
      exact KPost.of ⟨rfl, h9⟩ (HB.out.trans (HB5.out.mono HB.out.size))
    · have b4 : (c.me == 4) = false := by simp [m4]
      have hdm : doM m c = m := by unfold doM; rw [if_neg m3, if_neg m4]
      have hdo : doOd od c = od := by unfold doOd; rw [if_neg m3]
      have hd : doEE n m room sp ws od c = oneE n c.ki c.nn (kindE c (ws c.ki.toNat)) := by unfold doEE oneE; rw [if_neg m3, if_neg m4]
      have hdw : doW m ws od c = upd ws c.ki.toNat (kindX c (ws c.ki.toNat)) := by unfold doW; rw [if_neg m3, if_neg m4]
      have HX := hide (And.intro hd (And.intro hdw (And.intro hdm hdo)))
      clear m3 m4 hd hdw hdm hdo
      by_cases m1 : c.me = 1
      · have b1 : (c.me == 1) = true := by simp [m1]
        have HKX := hide (show kindE c (ws c.ki.toNat) = mouldE (ws c.ki.toNat) c.nn ∧ kindX c (ws c.ki.toNat) = mouldX (ws c.ki.toNat) c.nn from ⟨by unfold kindE; rw [if_pos m1], by unfold kindX; rw [if_pos m1]⟩)
        clear m1
        have HF := hide (mould_all b S n sb soff sc room sp ws m od am ov W0 HK.out HW.out c.ki c.nn)
        go_wp2_with fail
        refine HF.out.mono ?_
        intro e w9 h9
        obtain ⟨rfl, h9⟩ := h9
        go_wp2_with fail
        go_ret
        rw [HX.out.1, HX.out.2.1, HX.out.2.2.1, HX.out.2.2.2, HKX.out.1, HKX.out.2]
        exact KPost.of ⟨rfl, h9⟩ HB.out
      · have b1 : (c.me == 1) = false := by simp [m1]
        by_cases m2 : c.me = 2
        · have b2 : (c.me == 2) = true := by simp [m2]
          have HKX := hide (show kindE c (ws c.ki.toNat) = dryE (ws c.ki.toNat) c.nn c.br ∧ kindX c (ws c.ki.toNat) = dryX (ws c.ki.toNat) c.nn c.br from ⟨by unfold kindE; rw [if_neg m1, if_pos m2], by unfold kindX; rw [if_neg m1, if_pos m2]⟩)
          clear m1 m2
          have HF := hide (dry_all b S n sb soff sc room sp ws m od am ov W0 HK.out HW.out c.ki c.nn c.br)
          go_wp2_with fail
          refine HF.out.mono ?_
          intro e w9 h9
          obtain ⟨rfl, h9⟩ := h9
          go_wp2_with fail
          go_ret
          rw [HX.out.1, HX.out.2.1, HX.out.2.2.1, HX.out.2.2.2, HKX.out.1, HKX.out.2]
          exact KPost.of ⟨rfl, h9⟩ HB.out
        · have b2 : (c.me == 2) = false := by simp [m2]
          by_cases m5 : c.me = 5
          · have b5 : (c.me == 5) = true := by simp [m5]
            have HKX := hide (show kindE c (ws c.ki.toNat) = layE (ws c.ki.toNat) c.nn ∧ kindX c (ws c.ki.toNat) = layX (ws c.ki.toNat) c.nn from ⟨by unfold kindE; rw [if_neg m1, if_neg m2, if_pos m5], by unfold kindX; rw [if_neg m1, if_neg m2, if_pos m5]⟩)
            clear m1 m2 m5
            have HF := hide (lay_all b S n sb soff sc room sp ws m od am ov W0 HK.out HW.out c.ki c.nn)
            go_wp2_with fail
            refine HF.out.mono ?_
            intro e w9 h9
            obtain ⟨rfl, h9⟩ := h9
            go_wp2_with fail
            go_ret
            rw [HX.out.1, HX.out.2.1, HX.out.2.2.1, HX.out.2.2.2, HKX.out.1, HKX.out.2]
            exact KPost.of ⟨rfl, h9⟩ HB.out
          · have b5 : (c.me == 5) = false := by simp [m5]
            by_cases m6 : c.me = 6
            · have b6 : (c.me == 6) = true := by simp [m6]
              have HKX := hide (show kindE c (ws c.ki.toNat) = breakE (ws c.ki.toNat) c.nn ∧ kindX c (ws c.ki.toNat) = breakX (ws c.ki.toNat) c.nn from ⟨by unfold kindE; rw [if_neg m1, if_neg m2, if_neg m5, if_pos m6], by unfold kindX; rw [if_neg m1, if_neg m2, if_neg m5, if_pos m6]⟩)
              clear m1 m2 m5 m6
              have HF := hide (break_all b S n sb soff sc room sp ws m od am ov W0 HK.out HW.out c.ki c.nn)
              go_wp2_with fail
              refine HF.out.mono ?_
              intro e w9 h9
              obtain ⟨rfl, h9⟩ := h9
              go_wp2_with fail
              go_ret
              rw [HX.out.1, HX.out.2.1, HX.out.2.2.1, HX.out.2.2.2, HKX.out.1, HKX.out.2]
              exact KPost.of ⟨rfl, h9⟩ HB.out
            · have b6 : (c.me == 6) = false := by simp [m6]
              have HKX := hide (show kindE c (ws c.ki.toNat) = replE (ws c.ki.toNat) c.nn ∧ kindX c (ws c.ki.toNat) = replX (ws c.ki.toNat) c.nn from ⟨by unfold kindE; rw [if_neg m1, if_neg m2, if_neg m5, if_neg m6], by unfold kindX; rw [if_neg m1, if_neg m2, if_neg m5, if_neg m6]⟩)
              clear m1 m2 m5 m6
              have HF := hide (replace_all b S n sb soff sc room sp ws m od am ov W0 HK.out HW.out c.ki c.nn)
              go_wp2_with fail
              refine HF.out.mono ?_
              intro e w9 h9
              obtain ⟨rfl, h9⟩ := h9
              go_wp2_with fail
              go_ret
              rw [HX.out.1, HX.out.2.1, HX.out.2.2.1, HX.out.2.2.2, HKX.out.1, HKX.out.2]
              exact KPost.of ⟨rfl, h9⟩ HB.out
theorem do_nil (c : Call8) (w : World) (hc : CallR w w.heap.size c) : Calls Try.prog 36 #[.pointer none, c.val] w fun e w' => e = .returned (.int .i64 1) ∧ Below w.heap.size w w' := by
  have HB := hide ((Below.refl w.heap.size w).alloc (Nat.le_refl _) (.cells #[.int .i64 c.me, .int .i64 c.ki, .int .i64 c.nn, .int .i64 c.br, .slice c.bA c.bm c.bc, .slice c.lA c.lm c.lc] 81))
  have K3 := hide (Blk.new w 81 #[.int .i64 c.me, .int .i64 c.ki, .int .i64 c.nn, .int .i64 c.br, .slice c.bA c.bm c.bc, .slice c.lA c.lm c.lc])
  have HC := hide ((hc.below HB.out (Nat.le_refl _)).more HB.out.size)
  clear hc
  unfold Call8.val
  go_enter Try.func36, Try.ntmps36
  go_upto_region 1 with fail
  generalize (w.alloc (.cells #[.int .i64 c.me, .int .i64 c.ki, .int .i64 c.nn, .int .i64 c.br, .slice c.bA c.bm c.bc, .slice c.lA c.lm c.lc] 81)) = W0 at HB K3 HC ⊢
  obtain ⟨d0, d1, d2, d3, d4, d5, d6⟩ := bx6 K3.out
  by_cases m3 : c.me = 3
  · have b3 : (c.me == 3) = true := by simp [m3]
    have b1 : (c.me == 1) = false := by simp [m3]
    have b2 : (c.me == 2) = false := by simp [m3]
    obtain ⟨i0, hi, hz0, hz1, hz2⟩ := info_parts info_batch
    have HI := hide (show _ ∧ _ ∧ _ ∧ _ from ⟨hi, hz0, hz1, hz2⟩)
    clear hi hz0 hz1 hz2 m3
    have hbm := HC.out.2.2.1
    go_wp2_with (at_builtin; refine wpList_append_any _ rfl (.tmp 28) (.tmp 30) 79 rfl W0.heap.size 107 i0 _ 2 16 Try.underlying79 HI.out.1 HI.out.2.1 HI.out.2.2.1 HI.out.2.2.2 rfl (by omega) (.slice (some ⟨W0.heap.size, 0, none⟩) 0 0) 0 [] rfl (own_empty W0 107 2) _ c.bA c.bm c.bc (cellsOf 2 c.bm fun k i => if i = 0 then .int .i64 (c.bx k) else .int .i64 (c.bv k)) rfl (ER.reads (HC.out.1.below ((Below.refl W0.heap.size W0).alloc (Nat.le_refl _) _) (Nat.le_refl _)) (by omega)) (pairs_one _ _ _) (by unfold maxLen; omega) (by omega) (by simp) ?_; intro v5 w5 hx5 hg5 ho5; rw [Nat.zero_add, List.nil_append] at hx5; obtain ⟨A5, c5, rfl⟩ := own_shape hx5; have hb5 : Below W0.heap.size W0 w5 := ((Below.refl _ _).alloc (Nat.le_refl _) _).grown hg5 (by simp) (fun j hj => Nat.le_of_eq (by simpa [Value.ownBlock] using hj)); have HB5 := hide hb5; clear hx5 hg5 ho5 hb5)
    clear d0 d1 d2 d3 d4 d5 d6
    refine (fire_nil c.bm c5 A5 w5).mono ?_
    rintro e w1 ⟨rfl, hb1⟩
    go_wp2_with fail
    go_ret
    exact ⟨rfl, (HB.out.trans (HB5.out.mono HB.out.size)).trans (hb1.mono (by have := HB.out.size; have := HB5.out.size; omega))⟩
  · have b3 : (c.me == 3) = false := by simp [m3]
    by_cases m4 : c.me = 4
    · have b4 : (c.me == 4) = true := by simp [m4]
      have b1 : (c.me == 1) = false := by simp [m4]
      have b2 : (c.me == 2) = false := by simp [m4]
      obtain ⟨i0, hi, hz0, hz1, hz2⟩ := info_parts info_int
      have HI := hide (show _ ∧ _ ∧ _ ∧ _ from ⟨hi, hz0, hz1, hz2⟩)
      clear hi hz0 hz1 hz2 m3 m4
      have hlm := HC.out.2.2.2
      go_wp2_with (at_builtin; refine wpList_append_any _ rfl (.tmp 36) (.tmp 38) 56 rfl W0.heap.size 3 i0 _ 1 8 Try.underlying56 HI.out.1 HI.out.2.1 HI.out.2.2.1 HI.out.2.2.2 rfl (by omega) (.slice (some ⟨W0.heap.size, 0, none⟩) 0 0) 0 [] rfl (own_empty W0 3 1) _ c.lA c.lm c.lc (cellsOf 1 c.lm fun i _ => .int .i64 (c.lz i)) rfl (ER.reads (HC.out.2.1.below ((Below.refl W0.heap.size W0).alloc (Nat.le_refl _) _) (Nat.le_refl _)) (by omega)) (ints_one _ _) (by unfold maxLen; omega) (by omega) (by simp) ?_; intro v5 w5 hx5 hg5 ho5; rw [Nat.zero_add, List.nil_append] at hx5; obtain ⟨A5, c5, rfl⟩ := own_shape hx5; have hb5 : Below W0.heap.size W0 w5 := ((Below.refl _ _).alloc (Nat.le_refl _) _).grown hg5 (by simp) (fun j hj => Nat.le_of_eq (by simpa [Value.ownBlock] using hj)); have HB5 := hide hb5; clear hx5 hg5 ho5 hb5)
      clear d0 d1 d2 d3 d4 d5 d6
      refine (draw_nil c.lm c5 A5 w5).mono ?_
      rintro e w1 ⟨rfl, hb1⟩
      go_wp2_with fail
      go_ret
      exact ⟨rfl, (HB.out.trans (HB5.out.mono HB.out.size)).trans (hb1.mono (by have := HB.out.size; have := HB5.out.size; omega))⟩
    · have b4 : (c.me == 4) = false := by simp [m4]
      clear m3 m4
      by_cases m1 : c.me = 1
      · have b1 : (c.me == 1) = true := by simp [m1]
        clear m1
        go_wp2_with fail
        refine (mould_nil c.ki c.nn W0).mono ?_
        rintro e w1 ⟨rfl, hb1⟩
        go_wp2_with fail
        go_ret
        exact ⟨rfl, HB.out.trans (hb1.mono HB.out.size)⟩
      · have b1 : (c.me == 1) = false := by simp [m1]
        clear m1
        by_cases m2 : c.me = 2
        · have b2 : (c.me == 2) = true := by simp [m2]
          clear m2
          go_wp2_with fail
          refine (dry_nil c.ki c.nn c.br W0).mono ?_
          rintro e w1 ⟨rfl, hb1⟩
          go_wp2_with fail
          go_ret
          exact ⟨rfl, HB.out.trans (hb1.mono HB.out.size)⟩
        · have b2 : (c.me == 2) = false := by simp [m2]
          clear m2
          by_cases m5 : c.me = 5
          · have b5 : (c.me == 5) = true := by simp [m5]
            clear m5
            go_wp2_with fail
            refine (lay_nil c.ki c.nn W0).mono ?_
            rintro e w1 ⟨rfl, hb1⟩
            go_wp2_with fail
            go_ret
            exact ⟨rfl, HB.out.trans (hb1.mono HB.out.size)⟩
          · have b5 : (c.me == 5) = false := by simp [m5]
            clear m5
            by_cases m6 : c.me = 6
            · have b6 : (c.me == 6) = true := by simp [m6]
              clear m6
              go_wp2_with fail
              refine (break_nil c.ki c.nn W0).mono ?_
              rintro e w1 ⟨rfl, hb1⟩
              go_wp2_with fail
              go_ret
              exact ⟨rfl, HB.out.trans (hb1.mono HB.out.size)⟩
            · have b6 : (c.me == 6) = false := by simp [m6]
              clear m6
              go_wp2_with fail
              refine (replace_nil c.ki c.nn W0).mono ?_
              rintro e w1 ⟨rfl, hb1⟩
              go_wp2_with fail
              go_ret
              exact ⟨rfl, HB.out.trans (hb1.mono HB.out.size)⟩
end Go.Proofs.Ytlhekifmkkgjlaa
/- Chapter 8's known calls: known. -/
namespace Go.Proofs.Ytlhekifmkkgjlaa
open Go Go.RowKit Go.Shelf
set_option maxHeartbeats 2000000
def KnownLoads (w : World) (e : Ending) (w' : World) : Prop := ∃ (q g0 c0 g2 c2 : Nat), e = .returned (.tuple #[.slice (some ⟨q, 0, none⟩) 2 2, .slice (some ⟨g2, 0, none⟩) 2 c2, .int .i64 0]) ∧ Below w.heap.size w w' ∧
  (q < w'.heap.size ∧ g0 < w'.heap.size ∧ g2 < w'.heap.size) ∧ w'.cell? ⟨q, 0, none⟩ = some (.slice (some ⟨g0, 0, none⟩) 2 c0) ∧ w'.cell? ⟨g0, 2, none⟩ = some (.int .i64 2) ∧ w'.cell? ⟨g0, 3, none⟩ = some (.int .i64 1) ∧
  w'.cell? ⟨g2, 2, none⟩ = some (.int .i64 7) ∧ w'.cell? ⟨g2, 3, none⟩ = some (.int .i64 1)
theorem known_loads (z0 : Nat) (w : World) (hs : StkR w w.heap.size (twoS z0)) :
    Calls Try.prog 32 #[.agg #[.int .i64 2, .int .i64 1, .slice (some ⟨z0 + 5, 0, none⟩) 2 2]] w (KnownLoads w) := by
  refine (Loads_ok (twoS z0) w hs (two_stack z0) (by rw [two_hangs]; decide) (two_loadsB z0)).mono ?_
  rintro e w' ⟨z, v, hz, rfl, hB, hrow, hown⟩
  have o0 := hown 0 (Nat.zero_le _)
  have o2 := hown 2 (Nat.le_refl _)
  rw [two_loads0] at o0
  rw [two_loads2] at o2
  obtain ⟨g0, c0, hv0, -, l0, a0, a1, -, -⟩ := o0.at_ (c := 1) (by simp)
  obtain ⟨g2, c2, hv2, -, l2, b0, b1, -, -⟩ := o2.at_ (c := 1) (by simp)
  have hr := hrow.cell 0
  rw [rowV_get _ _ (show 0 < (twoS z0).nt from Nat.zero_lt_succ 1), hv0] at hr
  refine ⟨z + 3, g0, c0, g2, c2, ?_, hB, ⟨hrow.lt, l0, l2⟩, hr, a0, a1, b0, b1⟩
  rw [show v (twoS z0).nt = v 2 from rfl, hv2]
  rfl
theorem grown_cell {w w' : World} {S b : Nat} (hg : w.grownBy w' (some S)) (hlt : b < w.heap.size) (hne : b ≠ S) (o : Nat) : w'.cell? ⟨b, o, none⟩ = w.cell? ⟨b, o, none⟩ :=
  World.cell?_of_block (hg.block b hlt (fun e => hne (by injection e)))
theorem grown_below {w w1 w2 : World} {B S : Nat} (h : Below B w w1) (hg : w1.grownBy w2 (some S)) (hB : B ≤ w1.heap.size) (hS : B ≤ S) : Below B w w2 :=
  ⟨hg.os.trans h.os, hg.tape.trans h.tape, hg.output.trans h.output, Nat.le_trans h.size hg.size, fun k hk => (hg.block k (by omega) (fun e => by injection e; omega)).trans (h.block k hk)⟩
theorem known_any (w : World) : Calls Try.prog 13 #[] w fun e w' => e = .returned (.bool true) ∧ Below w.heap.size w w' := by
  go_enter Try.func13, Try.ntmps13
  go_wp2_with fail
  refine (known_moulds _).mono ?_
  rintro e w1 ⟨rfl, hb1⟩
  have B2 := hide ((hb1.alloc hb1.size (.cells #[.int .i64 977, .int .i64 999] 25)).alloc (by have := hb1.size; simp only [World.size_alloc]; omega) (.cells #[.int .i64 500, .int .i64 1000, .int .i64 500, .int .i64 1000] 121))
  have K1 := hide ((Blk.new w1 25 #[.int .i64 977, .int .i64 999]).alloc (.cells #[.int .i64 500, .int .i64 1000, .int .i64 500, .int .i64 1000] 121))
  have KY := hide (Blk.new (w1.alloc (.cells #[.int .i64 977, .int .i64 999] 25)) 121 #[.int .i64 500, .int .i64 1000, .int .i64 500, .int .i64 1000])
  have z1 := hb1.size
  clear hb1
  go_wp2_with fail
  refine (known_need _ _ _ ?_).mono ?_
  · refine fun _ => ⟨_, 0, rfl, ?_, fun k i hk hi => ?_⟩
    · simp
    · have hc := KY.out.cell (0 + k * 2 + i)
      simp only [World.size_alloc] at hc
      rw [hc]
      rcases (by omega : k = 0 ∨ k = 1) with rfl | rfl <;> rcases (by omega : i = 0 ∨ i = 1) with rfl | rfl <;> rfl
  rintro e w2 ⟨rfl, hb2⟩
  have B3 := hide (B2.out.trans (hb2.mono B2.out.size))
  have K2 := hide (K1.out.ext hb2)
  clear hb2 B2 K1 KY
  go_wp2_with fail
  refine (two_any _).mono ?_
  rintro e w3 ⟨rfl, hs3, hb3⟩
  have B4 := hide (B3.out.trans (hb3.mono B3.out.size))
  have K3 := hide (K2.out.ext hb3)
  have HL := hide (known_loads w2.heap.size w3 hs3)
  clear hb3 B3 K2 hs3
  go_wp2_with fail
  refine HL.out.mono ?_
  rintro e w4 ⟨q, g0, c0, g2, c2, rfl, hb4, hlt, hcs⟩
  have B5 := hide (B4.out.trans (hb4.mono B4.out.size))
  have K4 := hide (K3.out.ext hb4)
  have HLT := hide hlt
  have HCS := hide hcs
  have HN := hide (new_ok (some ⟨w4.heap.size, 0, none⟩) 1 1 (fun _ => 1) 9 (w4.alloc (.cells #[.int .i64 1] 3)) (by simpa using IR.one w4 1 3) (by decide))
  clear hb4 B4 K3 hlt hcs HL
  go_wp2_with fail
  refine HN.out.mono ?_
  rintro e w5 ⟨b, S, rfl, ⟨Ab, cb, hbk, -, hst, hS0, hb0⟩, hb5⟩
  simp only [World.size_alloc] at hb5 hS0 hb0
  have hb5' : Below w4.heap.size w4 w5 := ((Below.refl w4.heap.size w4).alloc (Nat.le_refl _) (.cells #[.int .i64 1] 3)).trans (hb5.mono (by omega))
  have B6 := hide (B5.out.trans (hb5'.mono B5.out.size))
  have K5 := hide (K4.out.ext hb5')
  obtain ⟨l1, l2, l3⟩ := HLT.out
  obtain ⟨h1, h2, h3, h4, h5⟩ := HCS.out
  have x1 := (hb5'.cell (p := ⟨q, 0, none⟩) l1).trans h1
  have x2 := (hb5'.cell (p := ⟨g0, 2, none⟩) l2).trans h2
  have x3 := (hb5'.cell (p := ⟨g0, 3, none⟩) l2).trans h3
  have x4 := (hb5'.cell (p := ⟨g2, 2, none⟩) l3).trans h4
  have x5 := (hb5'.cell (p := ⟨g2, 3, none⟩) l3).trans h5
  have hK4 := K4.out.lt
  have HX := hide (And.intro x2 (And.intro x3 (And.intro x4 x5)))
  have HX1 := hide x1
  have HBK := hide hbk
  have HST := hide hst
  have z5 := hb5'.size
  have HLS := hide (And.intro l1 (And.intro l2 (And.intro l3 hS0)))
  have hB5 := B5.out.size
  clear hb5 hb5' hbk hst h1 h2 h3 h4 h5 x2 x3 x4 x5 hb0 B5 K4 HLT HCS HN
  go_wp2_with fail
  refine (known_mould b S _ _ 9 w5 HBK.out HST.out).mono ?_
  rintro e w6 ⟨rfl, hbk6, hst6, hg6⟩
  have HBK6 := hide hbk6
  have HST6 := hide hst6
  have HG6 := hide hg6
  clear hbk6 hst6 hg6 x1
  go_wp2_with fail
  refine (known_dry b S _ _ 9 w6 HBK6.out HST6.out).mono ?_
  rintro e w7 ⟨rfl, hbk7, hst7, hg7⟩
  have HBK7 := hide hbk7
  have HST7 := hide hst7
  have HG7 := hide hg7
  clear hbk7 hst7 hg7
  go_wp2_with fail
  refine (count_ok b S 1 0 _ _ 9 ⟨2, 7, 0, 0, 0, 1, 0⟩ w7 HBK7.out (by omega) (by omega) (HST7.out.2 0 (by omega)) ⟨by decide, by decide, by decide, by decide, by decide, by decide, by decide, by decide, by decide⟩).mono ?_
  rintro e w8 ⟨rfl, hb8⟩
  have z6 := HG6.out.size
  have z7 := HG7.out.size
  have far : ∀ c, c < w4.heap.size → ∀ o, w8.cell? ⟨c, o, none⟩ = w5.cell? ⟨c, o, none⟩ := fun c hc o =>
    (hb8.cell (p := ⟨c, o, none⟩) (by simp only []; omega)).trans ((grown_cell HG7.out (by omega) (by omega) o).trans (grown_cell HG6.out (by omega) (by omega) o))
  have hK := K5.out
  have y1 := (far q l1 0).trans HX1.out
  have y2 := (far g0 l2 2).trans HX.out.1
  have y3 := (far g0 l2 3).trans HX.out.2.1
  have y4 := (far g2 l3 2).trans HX.out.2.2.1
  have y5 := (far g2 l3 3).trans HX.out.2.2.2
  obtain ⟨-, k0, k1, -, -⟩ := blk2 hK
  have y6 := (far w1.heap.size hK4 0).trans k0
  have y7 := (far w1.heap.size hK4 1).trans k1
  have B9 := hide ((grown_below (grown_below B6.out HG6.out B6.out.size (by omega)) HG7.out (by omega) (by omega)).trans (hb8.mono (by omega)))
  have z8 := hb8.size
  have u1 : q < w8.heap.size := by omega
  have u2 : g0 < w8.heap.size := by omega
  have u3 : g2 < w8.heap.size := by omega
  have u4 : w1.heap.size < w8.heap.size := by omega
  unfold agg7
  dsimp only
  clear far k0 k1 hb8 hK
  go_wp2_with fail
  go_ret
  exact ⟨rfl, B9.out.alloc (by omega) _⟩
end Go.Proofs.Ytlhekifmkkgjlaa
/- The law KilnBooks: what its walk keeps. -/
namespace Go.Proofs.Ytlhekifmkkgjlaa
open Go Go.RowKit Go.Shelf
set_option maxHeartbeats 2000000
set_option maxRecDepth 100000
def Call8.cell (c : Call8) (i : Nat) : Value := if i = 0 then .int .i64 c.me else if i = 1 then .int .i64 c.ki else if i = 2 then .int .i64 c.nn else if i = 3 then .int .i64 c.br else if i = 4 then .slice c.bA c.bm c.bc else .slice c.lA c.lm c.lc
/-- a list of calls that is read -/
def CsR (W : World) (CA : Option Addr) (q : Nat) (cs : Nat → Call8) : Prop :=
  ER W W.heap.size 6 CA q (fun k i => (cs k).cell i) ∧ ∀ k, k < q → PI W W.heap.size (cs k).bA (cs k).bm (cs k).bx (cs k).bv ∧ IR W W.heap.size (cs k).lA (cs k).lm (cs k).lz ∧ (cs k).bm ≤ maxLen ∧ (cs k).lm ≤ maxLen ∧ ∀ i, i < (cs k).bm → inInt ((cs k).bx i)
theorem CsR.at_ {W : World} {CA : Option Addr} {q : Nat} {cs : Nat → Call8} (h : CsR W CA q cs) {k : Nat} (hk : k < q) : ∃ b off, CA = some ⟨b, off, none⟩ ∧ b < W.heap.size ∧ W.cell? ⟨b, off + k * 6, none⟩ = some (.int .i64 (cs k).me) ∧ W.cell? ⟨b, off + k * 6 + 1, none⟩ = some (.int .i64 (cs k).ki) ∧ W.cell? ⟨b, off + k * 6 + 2, none⟩ = some (.int .i64 (cs k).nn) ∧
    W.cell? ⟨b, off + k * 6 + 3, none⟩ = some (.int .i64 (cs k).br) ∧ W.cell? ⟨b, off + k * 6 + 4, none⟩ = some (.slice (cs k).bA (cs k).bm (cs k).bc) ∧ W.cell? ⟨b, off + k * 6 + 5, none⟩ = some (.slice (cs k).lA (cs k).lm (cs k).lc) := by
  obtain ⟨b, off, hA, hb, hc⟩ := h.1 (by omega)
  exact ⟨b, off, hA, hb, by simpa [Call8.cell] using hc k 0 hk (by omega), by simpa [Call8.cell] using hc k 1 hk (by omega), by simpa [Call8.cell] using hc k 2 hk (by omega), by simpa [Call8.cell] using hc k 3 hk (by omega), by simpa [Call8.cell] using hc k 4 hk (by omega), by simpa [Call8.cell] using hc k 5 hk (by omega)⟩
section
variable {W W' : World} {S b : Nat}
theorem Apart.wl (ha : Apart W W' S b) {g n : Nat} {ws : Nat → Wa} (h : WL W g n ws) (h1 : g ≠ S) (h2 : g ≠ b) : WL W' g n ws := by
  obtain ⟨⟨cs, hc⟩, hK⟩ := h
  have hc' := ha.blk hc h1 h2
  refine ⟨⟨cs, hc'⟩, fun k hk => ?_⟩
  have h3 := KindW_iff.1 (hK k hk)
  exact KindW_iff.2 ⟨hc'.lt, fun j => hc'.frozen j, fun j hj => by rw [hc'.cell, ← hc.cell]; exact h3.2.2 j hj⟩
theorem Apart.er (ha : Apart W W' S b) {sz n : Nat} {A : Option Addr} {f : Nat → Nat → Value} (h : ER W W.heap.size sz A n f) (hf : ∀ p, A = some p → p.block ≠ S ∧ p.block ≠ b) : ER W' W'.heap.size sz A n f := fun hn => by
  obtain ⟨b', o, e1, e2, e3⟩ := h hn
  have := hf _ e1
  exact ⟨b', o, e1, Nat.lt_of_lt_of_le e2 ha.2.2.2.1, fun k i hk hi => (ha.cell (p := ⟨b', o + k * sz + i, none⟩) e2 this.1 this.2).trans (e3 k i hk hi)⟩
theorem Apart.below (ha : Apart W W' S b) {w : World} (h : Below w.heap.size w W) (h1 : w.heap.size ≤ S) (h2 : w.heap.size ≤ b) : Below w.heap.size w W' :=
  h.trans ⟨ha.1, ha.2.1, ha.2.2.1, ha.2.2.2.1, fun k hk => ha.2.2.2.2 k (by have := h.size; omega) (by omega) (by omega)⟩
end
/-- at the head of a round: the program's book, and the reference's in box gt -/
structure BI (w : World) (b S n sb soff sc rA rsc : Nat) (room : Int) (sp : Nat → Int) (gt : Nat) (ws : Nat → Wa) (m : Nat) (od am : Nat → Int) (ov : Value) (g wc : Nat) (BA : Option Addr) (bc : Nat) (wr : World) : Prop where
  below : Below w.heap.size w wr
  kb : KB wr b S n sb soff sc room sp ws m od ov
  wf : WFb n m room sp ws od am
  bx : Blk wr gt 87 #[.bool false, .slice (some ⟨rA, 0, none⟩) n rsc, .int .i64 room, .slice (some ⟨g, 0, none⟩) n wc, .slice BA m bc]
  wl : WL wr g n ws
  bu : PI wr wr.heap.size BA m od am
  rs : IR wr wr.heap.size (some ⟨rA, 0, none⟩) n sp
  far : rA ≠ S ∧ rA ≠ b ∧ rA ≠ gt ∧ sb ≠ gt ∧ ∀ p, BA = some p → p.block ≠ S ∧ p.block ≠ b ∧ p.block ≠ gt
  lo : w.heap.size ≤ b ∧ w.heap.size ≤ S ∧ w.heap.size ≤ gt
section
variable {w wr w' : World} {b S n sb soff sc rA rsc : Nat} {room : Int} {sp : Nat → Int} {gt : Nat} {ws : Nat → Wa} {m : Nat} {od am : Nat → Int} {ov : Value} {g wc : Nat} {BA : Option Addr} {bc : Nat}
theorem BI.ext (h : BI w b S n sb soff sc rA rsc room sp gt ws m od am ov g wc BA bc wr) (hb : Below wr.heap.size wr w') : BI w b S n sb soff sc rA rsc room sp gt ws m od am ov g wc BA bc w' :=
  ⟨h.below.trans (hb.mono h.below.size), h.kb.ext hb, h.wf, h.bx.ext hb, h.wl.ext hb, (h.bu.below hb (Nat.le_refl _)).more hb.size, (h.rs.below hb (Nat.le_refl _)).more hb.size, h.far, h.lo⟩
end
/-- what the reference's Do has given, in box g14 -/
def AfterDo (n m : Nat) (room : Int) (sp : Nat → Int) (ws : Nat → Wa) (od am : Nat → Int) (c : Call8) (rA rsc g wc : Nat) (BA : Option Addr) (bc g14 : Nat) (wr W : World) : Prop :=
  ∃ g' c' BA' m' bc', Blk W g14 87 #[.bool false, .slice (some ⟨rA, 0, none⟩) n rsc, .int .i64 room, .slice (some ⟨g', 0, none⟩) n c', .slice BA' m' bc'] ∧
    ((doEE n m room sp ws od c ≠ 0 ∧ g' = g ∧ c' = wc ∧ BA' = BA ∧ m' = m ∧ bc' = bc) ∨
     (doEE n m room sp ws od c = 0 ∧ m' = doM m c ∧ WL W g' n (doW m ws od c) ∧ PI W W.heap.size BA' (doM m c) (doOd od c) (doAm am c) ∧ wr.heap.size ≤ g' ∧ ∀ p, BA' = some p → BA = some p ∨ wr.heap.size ≤ p.block))
theorem AfterDo.ext {n m : Nat} {room : Int} {sp : Nat → Int} {ws : Nat → Wa} {od am : Nat → Int} {c : Call8} {rA rsc g wc : Nat} {BA : Option Addr} {bc g14 : Nat} {wr W W' : World} (h : AfterDo n m room sp ws od am c rA rsc g wc BA bc g14 wr W) (hb : Below W.heap.size W W') : AfterDo n m room sp ws od am c rA rsc g wc BA bc g14 wr W' := by
  obtain ⟨g', c', BA', m', bc', h1, h2⟩ := h
  refine ⟨g', c', BA', m', bc', h1.ext hb, ?_⟩
  rcases h2 with h2 | ⟨h2, h3, h4, h5, h6⟩
  · exact .inl h2
  · exact .inr ⟨h2, h3, h4.ext hb, (h5.below hb (Nat.le_refl _)).more hb.size, h6⟩
/-- behind the program's call and the reference's: their books are alike again, once the answer is stored -/
theorem BI.step {w wr wc1 w2 : World} {b S n sb soff sc rA rsc : Nat} {room : Int} {sp : Nat → Int} {gt : Nat} {ws : Nat → Wa} {m : Nat} {od am : Nat → Int} {ov : Value} {g wc : Nat} {BA : Option Addr} {bc g14 : Nat} {c : Call8} {e : Ending}
    (h : BI w b S n sb soff sc rA rsc room sp gt ws m od am ov g wc BA bc wr) (hb : Below wr.heap.size wr wc1) (hd : AfterDo n m room sp ws od am c rA rsc g wc BA bc g14 wr wc1) (hk : KPost (doEE n m room sp ws od c) b S n sb soff sc room sp ws m od ov (doW m ws od c) (doM m c) (doOd od c) wc1 e w2) :
    Below w.heap.size w w2 ∧ Blk w2 gt 87 #[.bool false, .slice (some ⟨rA, 0, none⟩) n rsc, .int .i64 room, .slice (some ⟨g, 0, none⟩) n wc, .slice BA m bc] ∧
    ∃ ws2 m2 od2 am2 ov2 g2 wc2 BA2 bc2, Blk w2 g14 87 #[.bool false, .slice (some ⟨rA, 0, none⟩) n rsc, .int .i64 room, .slice (some ⟨g2, 0, none⟩) n wc2, .slice BA2 m2 bc2] ∧
      ∀ W', w2.grownBy W' (some gt) → Blk W' gt 87 #[.bool false, .slice (some ⟨rA, 0, none⟩) n rsc, .int .i64 room, .slice (some ⟨g2, 0, none⟩) n wc2, .slice BA2 m2 bc2] → BI w b S n sb soff sc rA rsc room sp gt ws2 m2 od2 am2 ov2 g2 wc2 BA2 bc2 W' := by
  have h1 := h.ext hb
  obtain ⟨-, ha, hcase⟩ := hk
  obtain ⟨g', c', BA', m', bc', hx, hy⟩ := hd
  have hbne : ∀ {g : Nat} {cs : Array Value}, Blk wc1 g 87 cs → g ≠ S ∧ g ≠ b := fun hB => ⟨fun e => by
    subst e
    obtain ⟨cs', hc'⟩ := h1.kb.st.1
    exact hB.ne_ hc' (by decide) rfl, fun e => by subst e; exact hB.ne_ h1.kb.book (by decide) rfl⟩
  have hwne : ∀ {g : Nat} {ws : Nat → Wa}, WL wc1 g n ws → g ≠ S ∧ g ≠ b := fun hB => ⟨fun e => by
    subst e
    obtain ⟨cs, hc⟩ := hB.1
    obtain ⟨cs', hc'⟩ := h1.kb.st.1
    exact hc.ne_ hc' (by decide) rfl, fun e => by
    subst e
    obtain ⟨cs, hc⟩ := hB.1
    exact hc.ne_ h1.kb.book (by decide) rfl⟩
  have hbel : Below w.heap.size w w2 := ha.below h1.below h.lo.2.1 h.lo.1
  have hsl := h1.kb.st.lt
  have hbl := h1.kb.book.lt
  have hrz := hb.size
  have hsr := h.kb.st.lt
  have hbr := h.kb.book.lt
  have hrs := ha.er h1.rs (fun p hp => by injection hp with hp; subst hp; exact ⟨h.far.1, h.far.2.1⟩)
  have hgl := h1.bx.lt
  have hgr := h.bx.lt
  have hkeep : ∀ {A : Option Addr} {sz k : Nat} {f : Nat → Nat → Value} {W' : World}, w2.grownBy W' (some gt) → (∀ p, A = some p → p.block ≠ gt) → ER w2 w2.heap.size sz A k f → ER W' W'.heap.size sz A k f := fun hg hne he hn => by
    obtain ⟨b', o, e1, e2, e3⟩ := he hn
    exact ⟨b', o, e1, Nat.lt_of_lt_of_le e2 hg.size, fun i j hi hj => (World.cell?_of_block (hg.block b' e2 (fun e => hne _ e1 (by injection e)))).trans (e3 i j hi hj)⟩
  have hKB : ∀ {ws2 : Nat → Wa} {m2 : Nat} {od2 : Nat → Int} {ov2 : Value} {W' : World} {cs : Array Value}, KB w2 b S n sb soff sc room sp ws2 m2 od2 ov2 → w2.grownBy W' (some gt) → Blk W' gt 87 cs → KB W' b S n sb soff sc room sp ws2 m2 od2 ov2 := fun hq hg hB => by
    have hgt := (hbne h1.bx)
    refine ⟨hq.book.grown hg (fun e => hgt.2 (by injection e with e; exact e.symm)), hq.st.grown hg (fun e => hgt.1 (by injection e with e; exact e.symm)), hkeep hg (fun p hp => by injection hp with hp; subst hp; exact h.far.2.2.2.1) hq.sp, ?_, hq.ne⟩
    rcases hq.burn with q1 | ⟨q0, g, oc, q1, q2, q3, cs', q4⟩
    · exact .inl q1
    · have hne : g ≠ gt := fun e => by
        subst e
        have h9 := ha.blk h1.bx hgt.1 hgt.2
        exact q4.ne_ h9 (by decide) rfl
      exact .inr ⟨q0, g, oc, q1, hkeep hg (fun p hp => by injection hp with hp; subst hp; exact hne) q2, q3, cs', q4.grown hg (fun e => hne (by injection e))⟩
  have hgtb := hbne h1.bx
  have hWL : ∀ {g : Nat} {ws : Nat → Wa} {W' : World}, WL w2 g n ws → w2.grownBy W' (some gt) → WL W' g n ws := fun hq hg => hq.grown hg (fun e => by
    injection e with e
    obtain ⟨cs, hc⟩ := hq.1
    have h9 := ha.blk h1.bx hgtb.1 hgtb.2
    exact hc.ne_ h9 (by decide) e)
  refine ⟨hbel, ha.blk h1.bx hgtb.1 hgtb.2, ?_⟩
  have hx2 := ha.blk hx (hbne hx).1 (hbne hx).2
  have hbl2 : ∀ {W' : World}, w2.grownBy W' (some gt) → Below w.heap.size w W' := fun hg => hbel.grown hg hbel.size (fun j hj => by injection hj with hj; have := h.lo.2.2; omega)
  rcases hy with ⟨hE, q1, q2, q3, q4, q5⟩ | ⟨hE, q1, y1, y2, y3, y4⟩
  · rw [q1, q2, q3, q4, q5] at hx2
    rcases hcase with ⟨-, hK2⟩ | ⟨hE', -⟩
    · exact ⟨ws, m, od, am, ov, g, wc, BA, bc, hx2, fun W' hg hB => ⟨hbl2 hg, hKB hK2 hg hB, h.wf, hB, hWL (ha.wl h1.wl (hwne h1.wl).1 (hwne h1.wl).2) hg, hkeep hg (fun p hp => (h.far.2.2.2.2 p hp).2.2) (ha.er h1.bu (fun p hp => ⟨(h.far.2.2.2.2 p hp).1, (h.far.2.2.2.2 p hp).2.1⟩)), hkeep hg (fun p hp => by injection hp with hp; subst hp; exact h.far.2.2.1) hrs, h.far, h.lo⟩⟩
    · exact absurd hE' hE
  · rw [q1] at hx2
    rcases hcase with ⟨hE', -⟩ | ⟨-, ov2, hK2⟩
    · exact absurd hE hE'
    · have hfar : ∀ p, BA' = some p → p.block ≠ S ∧ p.block ≠ b ∧ p.block ≠ gt := fun p hp => by
        rcases y4 p hp with q | q
        · exact h.far.2.2.2.2 p q
        · exact ⟨by omega, by omega, by omega⟩
      exact ⟨doW m ws od c, doM m c, doOd od c, doAm am c, ov2, g', c', BA', bc', hx2, fun W' hg hB => ⟨hbl2 hg, hKB hK2 hg hB, h.wf.next hE, hB, hWL (ha.wl y1 (hwne y1).1 (hwne y1).2) hg, hkeep hg (fun p hp => (hfar p hp).2.2) (ha.er y2 (fun p hp => ⟨(hfar p hp).1, (hfar p hp).2.1⟩)), hkeep hg (fun p hp => by injection hp with hp; subst hp; exact h.far.2.2.1) hrs, ⟨h.far.1, h.far.2.1, h.far.2.2.1, h.far.2.2.2.1, hfar⟩, h.lo⟩⟩
end Go.Proofs.Ytlhekifmkkgjlaa
/- KilnBooks: how its walk begins; what Do answers, in one form. -/
namespace Go.Proofs.Ytlhekifmkkgjlaa
open Go Go.RowKit Go.Shelf
set_option maxHeartbeats 2000000
set_option maxRecDepth 100000
theorem own_blk_q {w : World} {base n : Nat} {e : TypeId} {g cap : Nat} {xs : List Value} (h : w.ownsRow base e 1 (.slice (some ⟨g, 0, none⟩) n cap) n xs) : ∃ cur, Blk w g e cur := by
  rcases h.2 with ⟨h1, -⟩ | ⟨b, cap', cur, hv, -, hh, -⟩
  · cases h1
  · injection hv with h1
    injection h1 with h1
    injection h1 with h1
    subst h1
    exact ⟨cur, hh⟩
theorem below_grown {w w' : World} (h : Below w.heap.size w w') (r : Option Nat) : w.grownBy w' r := ⟨h.os, h.tape, h.output, h.size, fun k hk _ => h.block k hk⟩
theorem RDoPost.one {SA : Option Addr} {n sc : Nat} {room : Int} {g wc : Nat} {BA : Option Addr} {m bc : Nat} {sp : Nat → Int} {ws : Nat → Wa} {od am : Nat → Int} {c : Call8} {w : World} {e : Ending} {w' : World} (h : RDoPost SA n sc room g wc BA m bc sp ws od am c w e w') :
    ∃ g' c' BA' m' bc', e = .returned (.tuple #[bkV SA n sc room (some ⟨g', 0, none⟩) c' BA' m' bc', .int .i64 (doEE n m room sp ws od c)]) ∧ Below w.heap.size w w' ∧
      ((doEE n m room sp ws od c ≠ 0 ∧ g' = g ∧ c' = wc ∧ BA' = BA ∧ m' = m ∧ bc' = bc) ∨
       (doEE n m room sp ws od c = 0 ∧ m' = doM m c ∧ WL w' g' n (doW m ws od c) ∧ PI w' w'.heap.size BA' (doM m c) (doOd od c) (doAm am c) ∧ w.heap.size ≤ g' ∧ ∀ p, BA' = some p → (BA = some p ∧ doM m c = m) ∨ w.heap.size ≤ p.block)) := by
  rcases h with ⟨h1, h2, h3⟩ | ⟨h1, g', c', BA', bc', h2, h3, h4, h5, h6, h7⟩
  · exact ⟨g, wc, BA, m, bc, h2, h3, .inl ⟨h1, rfl, rfl, rfl, rfl, rfl⟩⟩
  · exact ⟨g', c', BA', doM m c, bc', by rw [h1]; exact h2, h7, .inr ⟨h1, rfl, h3, h4, h5, h6⟩⟩
/-- the answer is stored in its box -/
theorem AfterDo.of {n m : Nat} {room : Int} {sp : Nat → Int} {ws : Nat → Wa} {od am : Nat → Int} {c : Call8} {rA rsc g wc : Nat} {BA : Option Addr} {bc g14 : Nat} {wr wd w5 W : World} {g' c' : Nat} {BA' : Option Addr} {m' bc' : Nat}
    (h : (doEE n m room sp ws od c ≠ 0 ∧ g' = g ∧ c' = wc ∧ BA' = BA ∧ m' = m ∧ bc' = bc) ∨
       (doEE n m room sp ws od c = 0 ∧ m' = doM m c ∧ WL w5 g' n (doW m ws od c) ∧ PI w5 w5.heap.size BA' (doM m c) (doOd od c) (doAm am c) ∧ wd.heap.size ≤ g' ∧ ∀ p, BA' = some p → (BA = some p ∧ doM m c = m) ∨ wd.heap.size ≤ p.block))
    (hbu : PI wr wr.heap.size BA m od am) (hz : wr.heap.size ≤ wd.heap.size) (hg : w5.grownBy W (some g14)) (hgo : wr.heap.size ≤ g14) (hne : g14 < wd.heap.size ∨ w5.heap.size ≤ g14)
    (hB : Blk W g14 87 #[.bool false, .slice (some ⟨rA, 0, none⟩) n rsc, .int .i64 room, .slice (some ⟨g', 0, none⟩) n c', .slice BA' m' bc']) : AfterDo n m room sp ws od am c rA rsc g wc BA bc g14 wr W := by
  refine ⟨g', c', BA', m', bc', hB, ?_⟩
  rcases h with h | ⟨h1, h2, h3, h4, h5, h6⟩
  · exact .inl h
  · have hl := h3.lt
    refine .inr ⟨h1, h2, h3.grown hg (fun e => by injection e with e; omega), fun hn => ?_, by omega, fun p hp => ?_⟩
    · obtain ⟨b, o, e1, e2, e3⟩ := h4 hn
      have hbn : b ≠ g14 := by
        rcases h6 _ e1 with ⟨q1, q2⟩ | q
        · obtain ⟨b2, o2, r1, r2, -⟩ := hbu (by omega)
          rw [q1] at r1
          injection r1 with r1
          injection r1 with r1
          omega
        · have q' : wd.heap.size ≤ b := q
          omega
      exact ⟨b, o, e1, Nat.lt_of_lt_of_le e2 hg.size, fun k i hk hi => (World.cell?_of_block (hg.block b e2 (fun e => hbn (by injection e)))).trans (e3 k i hk hi)⟩
    · rcases h6 p hp with ⟨q, -⟩ | q
      · exact .inl q
      · exact .inr (by omega)
theorem wf_new {n : Nat} {room : Int} {sp : Nat → Int} {od am : Nat → Int} (h : newOk n sp room = true) : WFb n 0 room sp (fun _ => Wa.zero) od am := by
  simp only [newOk, Bool.and_eq_true, decide_eq_true_eq] at h
  obtain ⟨⟨⟨h1, h2⟩, hw⟩, h3⟩ := h
  exact ⟨h1, h2, by omega, h3, fun k hk => (wiB_iff _ _ _ _).1 hw k hk, fun k _ => ⟨by decide, by decide, by decide, by decide, by decide, by decide, by decide, by decide, by decide⟩, fun i hi => absurd hi (by omega), fun i j _ hj => absurd hj (by omega), fun i hi => absurd hi (by omega), fun k _ _ => rfl⟩
theorem kb_new {W : World} {base b S n : Nat} {room : Int} {sp od : Nat → Int} (h : BookAt W base b S n sp room (fun _ => Wa.zero) (.slice none 0 0)) (hn : 1 ≤ n) :
    base ≤ S ∧ base ≤ b ∧ ∃ sb sc, KB W b S n sb 0 sc room sp (fun _ => Wa.zero) 0 od (.slice none 0 0) ∧ sb < W.heap.size := by
  obtain ⟨A, c, h1, h2, h3, h4, h5⟩ := h
  obtain ⟨g, oc, h6, h7, h8⟩ := own_addr h2 (by omega)
  injection h6 with h6 h9 h10
  subst h6 h10
  obtain ⟨cur, hcur⟩ := own_blk_q h2
  obtain ⟨cs, hcs⟩ := h3.1
  exact ⟨h4, h5, g, c, ⟨h1, h3, h8, .inl ⟨rfl, rfl⟩, fun e => hcur.ne_ hcs (by decide) e, fun e => hcur.ne_ h1 (by decide) e⟩, hcur.lt⟩
/-- both books are made -/
theorem BI.init {w w1 w2 w3 : World} {base b S n rA rsc g wc : Nat} {room : Int} {sp od am : Nat → Int} (hb : BookAt w1 base b S n sp room (fun _ => Wa.zero) (.slice none 0 0)) (hok : newOk n sp room = true) (hw : w.heap.size ≤ base) (b1 : Below w.heap.size w w1)
    (b2 : Below w1.heap.size w1 w2) (hsp : IR w2 w2.heap.size (some ⟨rA, 0, none⟩) n sp) (hwl : WL w2 g n (fun _ => Wa.zero)) (hrA : w1.heap.size ≤ rA) (b3 : Below w2.heap.size w2 w3)
    (hbx : Blk w3 w2.heap.size 87 #[.bool false, .slice (some ⟨rA, 0, none⟩) n rsc, .int .i64 room, .slice (some ⟨g, 0, none⟩) n wc, .slice none 0 0]) :
    ∃ sb sc, BI w b S n sb 0 sc rA rsc room sp w2.heap.size (fun _ => Wa.zero) 0 od am (.slice none 0 0) g wc none 0 w3 := by
  have hwf := wf_new (od := od) (am := am) hok
  obtain ⟨h4, h5, sb, sc, hK, hsb⟩ := kb_new (od := od) hb hwf.n1
  have hK2 := (hK.ext b2).ext b3
  have l1 := hK.book.lt
  have l2 := hK.st.lt
  have z2 := b2.size
  have z1 := b1.size
  have l3 : rA < w2.heap.size := by
    obtain ⟨b', o, e1, e2, -⟩ := hsp (by have := hwf.n1; omega)
    injection e1 with e1
    injection e1 with e1
    omega
  exact ⟨sb, sc, (b1.trans (b2.mono z1)).trans (b3.mono (by omega)), hK2, hwf, hbx, hwl.ext b3, ER.nil _ _ _ _ _, (hsp.below b3 (Nat.le_refl _)).more b3.size, ⟨by omega, by omega, by omega, by omega, fun p hp => by cases hp⟩, ⟨by omega, by omega, by omega⟩⟩
theorem grown_box (w : World) (o : Obj) (a b c d e : Value) : w.grownBy (set5 (w.alloc o) w.heap.size a b c d e) (some w.heap.size) :=
  grownBy_setS (grownBy_setS (grownBy_setS (grownBy_setS (grownBy_setS (below_grown ((Below.refl w.heap.size w).alloc (Nat.le_refl _) o) _) _ _) _ _) _ _) _ _) _ _
end Go.Proofs.Ytlhekifmkkgjlaa
/- The law KilnBooks, walked. -/
namespace Go.Proofs.Ytlhekifmkkgjlaa
open Go Go.RowKit Go.Shelf
set_option maxHeartbeats 8000000
set_option maxRecDepth 100000
theorem books_guard (SA : Option Addr) (n c : Nat) (room : Int) (CA : Option Addr) (q cc : Nat) (w : World) (hn : n ≤ maxLen) (hq : q ≤ maxLen) (hg : 25 < n ∨ 60 < q) : Calls Try.prog 9 #[.slice SA n c, .int .i64 room, .slice CA q cc] w fun e w' => e = .returned (.bool true) ∧ Below w.heap.size w w' := by
  have HK := hide known_any
  unfold maxLen at hn hq
  by_cases h1 : 25 < n
  · have h1' : (25 : Int) < (n : Int) := by omega
    clear hg h1
    go_enter Try.func9, Try.ntmps9
    go_wp2_with fail
    refine (HK.out _).mono ?_
    rintro e w9 ⟨rfl, hb9⟩
    go_wp2_with fail
    go_ret
    exact ⟨rfl, hb9⟩
  · have h1' : ¬ (25 : Int) < (n : Int) := by omega
    have h2' : (60 : Int) < (q : Int) := by omega
    clear hg h1
    go_enter Try.func9, Try.ntmps9
    go_wp2_with fail
    refine (HK.out _).mono ?_
    rintro e w9 ⟨rfl, hb9⟩
    go_wp2_with fail
    go_ret
    exact ⟨rfl, hb9⟩
theorem books_main (SA : Option Addr) (n c : Nat) (sp : Nat → Int) (room : Int) (CA : Option Addr) (q cc : Nat) (cs : Nat → Call8) (w : World) (hS : IR w w.heap.size SA n sp) (hC : CsR w CA q cs) (hn : n ≤ 25) (hq : q ≤ 60) : Calls Try.prog 9 #[.slice SA n c, .int .i64 room, .slice CA q cc] w fun e w' => e = .returned (.bool true) ∧ Below w.heap.size w w' := by
  have HK := hide known_any
  have HS := hide hS
  have HC := hide hC
  obtain ⟨i0, hi, hz0, hz1, hz2⟩ := info_parts info_int
  have HI := hide (show _ ∧ _ ∧ _ ∧ _ from ⟨hi, hz0, hz1, hz2⟩)
  clear hS hC hi hz0 hz1 hz2
  have n25 : ¬ (25 : Int) < (n : Int) := by omega
  have q60 : ¬ (60 : Int) < (q : Int) := by omega
  go_enter Try.func9, Try.ntmps9
  go_wp2_with fail
  clear n25 q60
  go_loopw [7] (fun i wr => ∃ k : Nat, i = .int .i64 k ∧ k ≤ q ∧ w = wr ∧ Hid (∀ j, j < k → (cs j).bm ≤ 25 ∧ (cs j).lm ≤ 25)) (fun i _ => q - (intOf i).toNat)
  case atStart => exact ⟨0, rfl, by omega, rfl, hide (fun j hj => absurd hj (by omega))⟩
  case round =>
    obtain ⟨k, rfl, hk, rfl, HL⟩ := hrel
    by_cases hlt : k < q
    · -- BEGIN1
      obtain ⟨cb, coff, hA, hcb, c0, c1, c2, c3, c4, c5⟩ := HC.out.at_ hlt
      obtain ⟨-, -, m1, m2, -⟩ := HC.out.2 k hlt
      unfold maxLen at m1 m2
      have q1 : (0 : Int) ≤ (k : Int) := by omega
      have q2 : (k : Int) < (q : Int) := by omega
      subst hA
      clear c0 c1 c2 c3
      by_cases h1 : 25 < (cs k).bm
      · have h1' : (25 : Int) < ((cs k).bm : Int) := by omega
        go_wp2_with fail
        refine (HK.out _).mono ?_
        rintro e w9 ⟨rfl, hb9⟩
        go_wp2_with fail
        go_ret
        exact ⟨rfl, hb9⟩
      · have h1' : ¬ (25 : Int) < ((cs k).bm : Int) := by omega
        by_cases h2 : 25 < (cs k).lm
        · have h2' : (25 : Int) < ((cs k).lm : Int) := by omega
          go_wp2_with fail
          refine (HK.out _).mono ?_
          rintro e w9 ⟨rfl, hb9⟩
          go_wp2_with fail
          go_ret
          exact ⟨rfl, hb9⟩
        · have h2' : ¬ (25 : Int) < ((cs k).lm : Int) := by omega
          have HN : Hid (∀ j, j < k + 1 → (cs j).bm ≤ 25 ∧ (cs j).lm ≤ 25) := hide (fun j hj => by
            by_cases e : j = k
            · subst e; exact ⟨by omega, by omega⟩
            · exact HL.out j (by omega))
          go_wp2_with fail
          go_roundw
          case rel => exact ⟨k + 1, by go_num, by omega, by trivial, HN⟩
          case measure => simp [intOf]; omega
      -- END1
    · obtain rfl : q = k := by omega
      have HCR : Hid (∀ k, k < q → CallR w w.heap.size (cs k)) := hide (fun k hk => ⟨(HC.out.2 k hk).1, (HC.out.2 k hk).2.1, HL.out k hk⟩)
      clear HL
      go_wp2_with (at_builtin; refine wpList_append_any _ rfl (.tmp 58) (.tmp 59) 56 rfl w.heap.size 3 i0 _ 1 8 Try.underlying56 HI.out.1 HI.out.2.1 HI.out.2.2.1 HI.out.2.2.2 rfl (by omega) (.slice (some ⟨w.heap.size, 0, none⟩) 0 0) 0 [] rfl (own_empty w 3 1) _ SA n c (cellsOf 1 n fun i _ => .int .i64 (sp i)) rfl (ER.reads (HS.out.below ((Below.refl w.heap.size w).alloc (Nat.le_refl _) _) (Nat.le_refl _)) (by omega)) (ints_one _ _) (by unfold maxLen; omega) (by omega) (by simp) ?_; intro v5 w5 hx5 hg5 ho5; rw [Nat.zero_add, List.nil_append] at hx5; obtain ⟨A5, c5, rfl⟩ := own_shape hx5; have hb5 : Below w.heap.size w w5 := ((Below.refl _ _).alloc (Nat.le_refl _) _).grown hg5 (by simp) (fun j hj => Nat.le_of_eq (by simpa [Value.ownBlock] using hj)); have HX5 := hide hx5; have HB5 := hide hb5; clear hx5 hg5 ho5 hb5)
      obtain ⟨A', c', e1, e2, -⟩ := ER.of_own HX5.out (by omega)
      injection e1 with e1
      subst e1
      have HP5 : Hid (IR w5 w5.heap.size A5 n sp) := hide e2
      clear e2
      rcases hok : newOk n sp room with _ | _
      · -- BEGIN2
        refine (new_err A5 n c5 sp room w5 (by omega) HP5.out hok).mono ?_
        rintro e w6 ⟨rfl, hb6⟩
        have HB6 := hide (HB5.out.trans (hb6.mono HB5.out.size))
        have HR := hide (refNew_any SA n c sp room w6 ((HS.out.below HB6.out (Nat.le_refl _)).more HB6.out.size) (by omega))
        clear hb6
        go_wp2_with fail
        refine HR.out.mono ?_
        rintro e w7 (⟨-, rfl, hb7⟩ | ⟨h, -⟩)
        · have HB7 := hide ((HB6.out.trans (hb7.mono HB6.out.size)).alloc (by have := hb7.size; have := HB6.out.size; omega) (.cells #[.bool false, .slice none 0 0, .int .i64 0, .slice none 0 0, .slice none 0 0] 87))
          clear hb7
          unfold zbkV
          go_wp2_with fail
          refine (HK.out _).mono ?_
          rintro e w9 ⟨rfl, hb9⟩
          go_wp2_with fail
          go_ret
          exact ⟨rfl, HB7.out.trans (hb9.mono HB7.out.size)⟩
        · rw [hok] at h; cases h
        -- END2
      · refine (new_ok A5 n c5 sp room w5 HP5.out hok).mono ?_
        rintro e w6 ⟨b, S, rfl, hbook, hb6⟩
        have HB6 := hide (HB5.out.trans (hb6.mono HB5.out.size))
        have HBK := hide hbook
        have HR := hide (refNew_any SA n c sp room w6 ((HS.out.below HB6.out (Nat.le_refl _)).more HB6.out.size) (by omega))
        clear hb6 hbook
        go_wp2_with fail
        refine HR.out.mono ?_
        rintro e w7 (⟨h, -⟩ | ⟨-, rA, rsc, g, wc, rfl, hsp7, hwl7, hrA, hg7, hb7⟩)
        · rw [hok] at h; cases h
        have HBI := hide (BI.init (od := fun _ => 0) (am := fun _ => 0) HBK.out hok HB5.out.size HB6.out hb7 hsp7 hwl7 hrA ((Below.refl w7.heap.size w7).alloc (Nat.le_refl _) (.cells #[.bool false, .slice (some ⟨rA, 0, none⟩) n rsc, .int .i64 room, .slice (some ⟨g, 0, none⟩) n wc, .slice none 0 0] 87)) (Blk.new w7 87 _))
        clear hsp7 hwl7 hrA hg7 hb7
        unfold bkV
        go_wp2_with fail
        generalize (w7.alloc (.cells #[.bool false, .slice (some ⟨rA, 0, none⟩) n rsc, .int .i64 room, .slice (some ⟨g, 0, none⟩) n wc, .slice none 0 0] 87)) = w8 at HBI ⊢
        generalize w7.heap.size = gt at HBI ⊢
        obtain ⟨sb, sc, hbi⟩ := HBI.out
        have HBI0 := hide hbi
        clear hbi HBI HR HBK HB5 HB6 HX5 HP5
        go_loopw [13] (fun i wr => ∃ (k : Nat) (ws : Nat → Wa) (m : Nat) (od am : Nat → Int) (ov : Value) (g wc : Nat) (BA : Option Addr) (bc : Nat), i = .int .i64 k ∧ k ≤ q ∧ Hid (BI w b S n sb 0 sc rA rsc room sp gt ws m od am ov g wc BA bc wr)) (fun i _ => q - (intOf i).toNat)
        case atStart => exact ⟨0, _, _, _, _, _, _, _, _, _, rfl, by omega, HBI0⟩
        case round =>
          obtain ⟨k, ws, m, od, am, ov, g, wc, BA, bc, rfl, hk, HB⟩ := hrel
          by_cases hlt : k < q
          · obtain ⟨cb, coff, hA, hcb, hc0⟩ := HC.out.at_ hlt
            have HCC : Hid (∀ W, Below w.heap.size w W → W.cell? ⟨cb, coff + k * 6, none⟩ = some (.int .i64 (cs k).me) ∧ W.cell? ⟨cb, coff + k * 6 + 1, none⟩ = some (.int .i64 (cs k).ki) ∧ W.cell? ⟨cb, coff + k * 6 + 2, none⟩ = some (.int .i64 (cs k).nn) ∧ W.cell? ⟨cb, coff + k * 6 + 3, none⟩ = some (.int .i64 (cs k).br) ∧ W.cell? ⟨cb, coff + k * 6 + 4, none⟩ = some (.slice (cs k).bA (cs k).bm (cs k).bc) ∧ W.cell? ⟨cb, coff + k * 6 + 5, none⟩ = some (.slice (cs k).lA (cs k).lm (cs k).lc)) := hide (fun W h => ⟨(h.cell (p := ⟨cb, coff + k * 6, none⟩) hcb).trans hc0.1, (h.cell (p := ⟨cb, coff + k * 6 + 1, none⟩) hcb).trans hc0.2.1, (h.cell (p := ⟨cb, coff + k * 6 + 2, none⟩) hcb).trans hc0.2.2.1, (h.cell (p := ⟨cb, coff + k * 6 + 3, none⟩) hcb).trans hc0.2.2.2.1, (h.cell (p := ⟨cb, coff + k * 6 + 4, none⟩) hcb).trans hc0.2.2.2.2.1, (h.cell (p := ⟨cb, coff + k * 6 + 5, none⟩) hcb).trans hc0.2.2.2.2.2⟩)
            have q1 : (0 : Int) ≤ (k : Int) := by omega
            have q2 : (k : Int) < (q : Int) := by omega
            subst hA
            clear hc0
            obtain ⟨w1, hw1⟩ : ∃ w1, w1 = wr := ⟨_, rfl⟩
            subst hw1
            go_upto_region 18 with fail
            go_cut [14, 15] (fun p14 p15 wx => ∃ g14 : Nat, p14 = .pointer (some ⟨g14, 0, none⟩) ∧ p15 = .int .i64 (doEE n m room sp ws od (cs k)) ∧ Hid (Below w1.heap.size w1 wx) ∧ Hid (AfterDo n m room sp ws od am (cs k) rA rsc g wc BA bc g14 w1 wx))
            case first =>
              -- BEGIN3
              have Bd := hide (Below.refl w1.heap.size w1).drew
              have HSB : Hid (∀ W, Below w1.heap.size w1 W → (W.cell? ⟨gt, 0, none⟩ = some (.bool false) ∧ W.cell? ⟨gt, 1, none⟩ = some (.slice (some ⟨rA, 0, none⟩) n rsc) ∧ W.cell? ⟨gt, 2, none⟩ = some (.int .i64 room) ∧ W.cell? ⟨gt, 3, none⟩ = some (.slice (some ⟨g, 0, none⟩) n wc) ∧ W.cell? ⟨gt, 4, none⟩ = some (.slice BA m bc)) ∧ W.cell? ⟨cb, coff + k * 6, none⟩ = some (.int .i64 (cs k).me) ∧ W.cell? ⟨cb, coff + k * 6 + 1, none⟩ = some (.int .i64 (cs k).ki) ∧ W.cell? ⟨cb, coff + k * 6 + 2, none⟩ = some (.int .i64 (cs k).nn) ∧ W.cell? ⟨cb, coff + k * 6 + 3, none⟩ = some (.int .i64 (cs k).br) ∧ W.cell? ⟨cb, coff + k * 6 + 4, none⟩ = some (.slice (cs k).bA (cs k).bm (cs k).bc) ∧ W.cell? ⟨cb, coff + k * 6 + 5, none⟩ = some (.slice (cs k).lA (cs k).lm (cs k).lc)) := hide (fun W h => ⟨(by obtain ⟨-, a1, a2, a3, a4, a5, -⟩ := bx5' (HB.out.bx.ext h); exact ⟨a1, a2, a3, a4, a5⟩), HCC.out W (HB.out.below.trans (h.mono HB.out.below.size))⟩)
              have HDO := hide (fun W (h : Below w1.heap.size w1 W) => refDo_any (some ⟨rA, 0, none⟩) n rsc room g wc BA m bc sp ws od am (cs k) W (HB.out.wl.ext h) HB.out.wf.n1 HB.out.wf.n2 HB.out.wf.m2 ((HB.out.bu.below h (Nat.le_refl _)).more h.size) (((HCR.out k hlt).below (HB.out.below.trans (h.mono HB.out.below.size)) (Nat.le_refl _)).more (HB.out.below.trans (h.mono HB.out.below.size)).size) ((HB.out.rs.below h (Nat.le_refl _)).more h.size) HB.out.wf.sp HB.out.wf.ok HB.out.wf.r0.1 HB.out.wf.r0.2 HB.out.wf.kinds HB.out.wf.dis HB.out.wf.am)
              unfold bkV Call8.val at HDO
              refine wp_region_J (fun W : World => (W.cell? ⟨gt, 0, none⟩ = some (.bool false) ∧ W.cell? ⟨gt, 1, none⟩ = some (.slice (some ⟨rA, 0, none⟩) n rsc) ∧ W.cell? ⟨gt, 2, none⟩ = some (.int .i64 room) ∧ W.cell? ⟨gt, 3, none⟩ = some (.slice (some ⟨g, 0, none⟩) n wc) ∧ W.cell? ⟨gt, 4, none⟩ = some (.slice BA m bc)) ∧ W.cell? ⟨cb, coff + k * 6, none⟩ = some (.int .i64 (cs k).me) ∧ W.cell? ⟨cb, coff + k * 6 + 1, none⟩ = some (.int .i64 (cs k).ki) ∧ W.cell? ⟨cb, coff + k * 6 + 2, none⟩ = some (.int .i64 (cs k).nn) ∧ W.cell? ⟨cb, coff + k * 6 + 3, none⟩ = some (.int .i64 (cs k).br) ∧ W.cell? ⟨cb, coff + k * 6 + 4, none⟩ = some (.slice (cs k).bA (cs k).bm (cs k).bc) ∧ W.cell? ⟨cb, coff + k * 6 + 5, none⟩ = some (.slice (cs k).lA (cs k).lm (cs k).lc)) (by kernel_rfl) ?_
              have hzd : w1.drew.heap.size = w1.heap.size := rfl
              have HZD := hide hzd
              clear hzd
              generalize w1.drew = wd at Bd HZD ⊢
              refine wpAnyJ_take 0 (v := ?_) (by first | exact hF | exact wideFn) (HSB.out _ Bd.out) rfl (by kernel_rfl) (by kernel_rfl) (by kernel_rfl) (by kernel_rfl) rfl ?_ (by first | exact fun _ _ _ h => h | exact fun _ _ _ h => hQ2 _ _ _ _ _ h) ?_
              rotate_left
              · intro W hSW
                simp only [List.getElem_toArray, List.getElem_cons_zero, List.getElem_cons_succ]
                (try dsimp only at hSW)
                go_simp
                with_reducible rfl
              (try simp only [List.getElem_toArray, List.getElem_cons_zero, List.getElem_cons_succ, Act.put, List.setIfInBounds_toArray, List.set_cons_zero, List.set_cons_succ])
              refine wpAnyJ_take 1 (v := ?_) (by first | exact hF | exact wideFn) (HSB.out _ Bd.out) rfl (by kernel_rfl) (by kernel_rfl) (by kernel_rfl) (by kernel_rfl) rfl ?_ (by first | exact fun _ _ _ h => h | exact fun _ _ _ h => hQ2 _ _ _ _ _ h) ?_
              rotate_left
              · intro W hSW
                simp only [List.getElem_toArray, List.getElem_cons_zero, List.getElem_cons_succ]
                (try dsimp only at hSW)
                go_simp
                with_reducible rfl
              (try simp only [List.getElem_toArray, List.getElem_cons_zero, List.getElem_cons_succ, Act.put, List.setIfInBounds_toArray, List.set_cons_zero, List.set_cons_succ])
              refine wpAnyJ_take 2 (v := ?_) (by first | exact hF | exact wideFn) (HSB.out _ Bd.out) rfl (by kernel_rfl) (by kernel_rfl) (by kernel_rfl) (by kernel_rfl) rfl ?_ (by first | exact fun _ _ _ h => h | exact fun _ _ _ h => hQ2 _ _ _ _ _ h) ?_
              rotate_left
              · intro W hSW
                simp only [List.getElem_toArray, List.getElem_cons_zero, List.getElem_cons_succ]
                (try dsimp only at hSW)
                go_simp
                with_reducible rfl
              (try simp only [List.getElem_toArray, List.getElem_cons_zero, List.getElem_cons_succ, Act.put, List.setIfInBounds_toArray, List.set_cons_zero, List.set_cons_succ])
              refine wpAnyJ_take 3 (v := ?_) (by first | exact hF | exact wideFn) (HSB.out _ Bd.out) rfl (by kernel_rfl) (by kernel_rfl) (by kernel_rfl) (by kernel_rfl) rfl ?_ (by first | exact fun _ _ _ h => h | exact fun _ _ _ h => hQ2 _ _ _ _ _ h) ?_
              rotate_left
              · intro W hSW
                simp only [List.getElem_toArray, List.getElem_cons_zero, List.getElem_cons_succ]
                (try dsimp only at hSW)
                go_simp
                with_reducible rfl
              (try simp only [List.getElem_toArray, List.getElem_cons_zero, List.getElem_cons_succ, Act.put, List.setIfInBounds_toArray, List.set_cons_zero, List.set_cons_succ])
              refine wpAnyJ_take 4 (v := ?_) (by first | exact hF | exact wideFn) (HSB.out _ Bd.out) rfl (by kernel_rfl) (by kernel_rfl) (by kernel_rfl) (by kernel_rfl) rfl ?_ (by first | exact fun _ _ _ h => h | exact fun _ _ _ h => hQ2 _ _ _ _ _ h) ?_
              rotate_left
              · intro W hSW
                simp only [List.getElem_toArray, List.getElem_cons_zero, List.getElem_cons_succ]
                (try dsimp only at hSW)
                go_simp
                with_reducible rfl
              (try simp only [List.getElem_toArray, List.getElem_cons_zero, List.getElem_cons_succ, Act.put, List.setIfInBounds_toArray, List.set_cons_zero, List.set_cons_succ])
              refine wpAnyJ_two 5 9 rfl rfl (by kernel_rfl) (fun K hK => ?_) (fun K hK => ?_)
              · simp only [List.getElem_toArray, List.getElem_cons_zero, List.getElem_cons_succ]
                go_simp
                refine ⟨trivial, rfl, ?_⟩
                refine (callsIn_wide.2 (HDO.out _ Bd.out)).mono ?_
                rintro e w15 hp
                obtain ⟨g5, c5', BA5, m5, bc5, rfl, hb5, hq5⟩ := RDoPost.one hp; unfold bkV; have HB15 := hide (Bd.out.trans (hb5.mono Bd.out.size)); have HQ5 := hide hq5; clear hp hb5 hq5
                dsimp only
                refine hK.out _ _ (fun _ => HSB.out _ HB15.out) ?_
                clear hK K
                (try simp only [List.getElem_toArray, List.getElem_cons_zero, List.getElem_cons_succ, Act.put, List.setIfInBounds_toArray, List.set_cons_zero, List.set_cons_succ])
                refine wpAnyJ_take 6 (v := ?_) (by first | exact hF | exact wideFn) (HSB.out _ HB15.out) rfl (by kernel_rfl) (by kernel_rfl) (by kernel_rfl) (by kernel_rfl) rfl ?_ (by first | exact fun _ _ _ h => h | exact fun _ _ _ h => hQ2 _ _ _ _ _ h) ?_
                rotate_left
                · intro W hSW
                  simp only [List.getElem_toArray, List.getElem_cons_zero, List.getElem_cons_succ]
                  (try dsimp only at hSW)
                  go_simp
                  with_reducible rfl
                (try simp only [List.getElem_toArray, List.getElem_cons_zero, List.getElem_cons_succ, Act.put, List.setIfInBounds_toArray, List.set_cons_zero, List.set_cons_succ])
                refine wpAnyJ_take 7 (v := ?_) (by first | exact hF | exact wideFn) (HSB.out _ HB15.out) rfl (by kernel_rfl) (by kernel_rfl) (by kernel_rfl) (by kernel_rfl) rfl ?_ (by first | exact fun _ _ _ h => h | exact fun _ _ _ h => hQ2 _ _ _ _ _ h) ?_
                rotate_left
                · intro W hSW
                  simp only [List.getElem_toArray, List.getElem_cons_zero, List.getElem_cons_succ]
                  (try dsimp only at hSW)
                  go_simp
                  with_reducible rfl
                (try simp only [List.getElem_toArray, List.getElem_cons_zero, List.getElem_cons_succ, Act.put, List.setIfInBounds_toArray, List.set_cons_zero, List.set_cons_succ])
                refine wpAnyJ_take 8 (v := ?_) (by first | exact hF | exact wideFn) (HSB.out _ HB15.out) rfl (by kernel_rfl) (by kernel_rfl) (by kernel_rfl) (by kernel_rfl) rfl ?_ (by first | exact fun _ _ _ h => h | exact fun _ _ _ h => hQ2 _ _ _ _ _ h) ?_
                rotate_left
                · intro W hSW
                  simp only [List.getElem_toArray, List.getElem_cons_zero, List.getElem_cons_succ]
                  (try dsimp only at hSW)
                  go_simp
                  with_reducible rfl
                (try simp only [List.getElem_toArray, List.getElem_cons_zero, List.getElem_cons_succ, Act.put, List.setIfInBounds_toArray, List.set_cons_zero, List.set_cons_succ])
                refine wpAnyJ_one 9 rfl (by kernel_rfl) (fun K hK => ?_)
                have HB2 := hide (HB15.out.alloc HB15.out.size (.cells #[.bool false, .slice none 0 0, .int .i64 0, .slice none 0 0, .slice none 0 0] 87))
                simp only [List.getElem_toArray, List.getElem_cons_zero, List.getElem_cons_succ]
                go_simp
                refine hK.out _ _ (fun _ => HSB.out _ HB2.out) ?_
                clear hK K
                (try simp only [List.getElem_toArray, List.getElem_cons_zero, List.getElem_cons_succ, Act.put, List.setIfInBounds_toArray, List.set_cons_zero, List.set_cons_succ])
                have KZ := hide (Blk.new w15 87 #[.bool false, .slice none 0 0, .int .i64 0, .slice none 0 0, .slice none 0 0])
                have HG := hide (grown_box w15 (.cells #[.bool false, .slice none 0 0, .int .i64 0, .slice none 0 0, .slice none 0 0] 87) (.bool false) (.slice (some ⟨rA, 0, none⟩) n rsc) (.int .i64 room) (.slice (some ⟨g5, 0, none⟩) n c5') (.slice BA5 m5 bc5))
                have hs15 := HB15.out.size
                have hz15 := HZD.out
                have HAD := hide (AfterDo.of (wr := w1) HQ5.out HB.out.bu (by omega) HG.out (by omega) (.inr (Nat.le_refl _)) (set5_blk KZ.out))
                have HBB := hide (set5_B HB2.out hs15 (.bool false) (.slice (some ⟨rA, 0, none⟩) n rsc) (.int .i64 room) (.slice (some ⟨g5, 0, none⟩) n c5') (.slice BA5 m5 bc5))
                unfold set5 at HAD HBB
                clear HG hs15 hz15
                generalize (w15.alloc (.cells #[.bool false, .slice none 0 0, .int .i64 0, .slice none 0 0, .slice none 0 0] 87)) = W2 at KZ HAD HBB HB2 ⊢
                obtain ⟨p0, p1, p2, p3, p4, p5, f1, f2, f3, f4, f5⟩ := bx5' KZ.out
                refine wpAnyJ_one 10 rfl (by kernel_rfl) (fun K hK => ?_)
                simp only [List.getElem_toArray, List.getElem_cons_zero, List.getElem_cons_succ]
                go_simp
                refine hK.out _ _ (fun h => absurd h (by rw [show lastOp _ _ _ = true from by kernel_rfl]; simp)) ?_
                clear hK K
                (try simp only [List.getElem_toArray, List.getElem_cons_zero, List.getElem_cons_succ, Act.put, List.setIfInBounds_toArray, List.set_cons_zero, List.set_cons_succ])
                refine wpAnyJ_pure 11 (v := ?_) (by first | exact hF | exact wideFn) rfl (by kernel_rfl) (by kernel_rfl) (by kernel_rfl) (by kernel_rfl) rfl (by kernel_rfl) ?_ (by first | exact fun _ _ _ h => h | exact fun _ _ _ h => hQ2 _ _ _ _ _ h) ?_
                rotate_left
                · simp only [List.getElem_toArray, List.getElem_cons_zero, List.getElem_cons_succ]
                  go_simp
                  with_reducible rfl
                (try simp only [List.getElem_toArray, List.getElem_cons_zero, List.getElem_cons_succ, Act.put, List.setIfInBounds_toArray, List.set_cons_zero, List.set_cons_succ])
                refine wpAnyJ_done (by kernel_rfl) ?_
                go_wp2_with fail
                go_meet
                exact ⟨_, rfl, rfl, HBB, HAD⟩
              · have HB1 := hide (Bd.out.alloc Bd.out.size (.cells #[.bool false, .slice none 0 0, .int .i64 0, .slice none 0 0, .slice none 0 0] 87))
                simp only [List.getElem_toArray, List.getElem_cons_zero, List.getElem_cons_succ]
                go_simp
                refine hK.out _ _ (fun _ => HSB.out _ HB1.out) ?_
                clear hK K
                (try simp only [List.getElem_toArray, List.getElem_cons_zero, List.getElem_cons_succ, Act.put, List.setIfInBounds_toArray, List.set_cons_zero, List.set_cons_succ])
                have KZ0 := hide (Blk.new wd 87 #[.bool false, .slice none 0 0, .int .i64 0, .slice none 0 0, .slice none 0 0])
                have HSZ := hide (show (wd.alloc (.cells #[.bool false, .slice none 0 0, .int .i64 0, .slice none 0 0, .slice none 0 0] 87)).heap.size = wd.heap.size + 1 by simp)
                generalize (wd.alloc (.cells #[.bool false, .slice none 0 0, .int .i64 0, .slice none 0 0, .slice none 0 0] 87)) = W1 at KZ0 HB1 HSZ ⊢
                refine wpAnyJ_one 5 rfl (by kernel_rfl) (fun K hK => ?_)
                simp only [List.getElem_toArray, List.getElem_cons_zero, List.getElem_cons_succ]
                go_simp
                refine ⟨trivial, rfl, ?_⟩
                refine (callsIn_wide.2 (HDO.out _ HB1.out)).mono ?_
                rintro e w15 hp
                obtain ⟨g5, c5', BA5, m5, bc5, rfl, hb5, hq5⟩ := RDoPost.one hp; unfold bkV; have HB15 := hide (HB1.out.trans (hb5.mono HB1.out.size)); have HQ5 := hide hq5; have KZ := hide (KZ0.out.ext hb5); clear hp hb5 hq5
                dsimp only
                refine hK.out _ _ (fun _ => HSB.out _ HB15.out) ?_
                clear hK K
                (try simp only [List.getElem_toArray, List.getElem_cons_zero, List.getElem_cons_succ, Act.put, List.setIfInBounds_toArray, List.set_cons_zero, List.set_cons_succ])
                refine wpAnyJ_take 6 (v := ?_) (by first | exact hF | exact wideFn) (HSB.out _ HB15.out) rfl (by kernel_rfl) (by kernel_rfl) (by kernel_rfl) (by kernel_rfl) rfl ?_ (by first | exact fun _ _ _ h => h | exact fun _ _ _ h => hQ2 _ _ _ _ _ h) ?_
                rotate_left
                · intro W hSW
                  simp only [List.getElem_toArray, List.getElem_cons_zero, List.getElem_cons_succ]
                  (try dsimp only at hSW)
                  go_simp
                  with_reducible rfl
                (try simp only [List.getElem_toArray, List.getElem_cons_zero, List.getElem_cons_succ, Act.put, List.setIfInBounds_toArray, List.set_cons_zero, List.set_cons_succ])
                refine wpAnyJ_take 7 (v := ?_) (by first | exact hF | exact wideFn) (HSB.out _ HB15.out) rfl (by kernel_rfl) (by kernel_rfl) (by kernel_rfl) (by kernel_rfl) rfl ?_ (by first | exact fun _ _ _ h => h | exact fun _ _ _ h => hQ2 _ _ _ _ _ h) ?_
                rotate_left
                · intro W hSW
                  simp only [List.getElem_toArray, List.getElem_cons_zero, List.getElem_cons_succ]
                  (try dsimp only at hSW)
                  go_simp
                  with_reducible rfl
                (try simp only [List.getElem_toArray, List.getElem_cons_zero, List.getElem_cons_succ, Act.put, List.setIfInBounds_toArray, List.set_cons_zero, List.set_cons_succ])
                refine wpAnyJ_take 8 (v := ?_) (by first | exact hF | exact wideFn) (HSB.out _ HB15.out) rfl (by kernel_rfl) (by kernel_rfl) (by kernel_rfl) (by kernel_rfl) rfl ?_ (by first | exact fun _ _ _ h => h | exact fun _ _ _ h => hQ2 _ _ _ _ _ h) ?_
                rotate_left
                · intro W hSW
                  simp only [List.getElem_toArray, List.getElem_cons_zero, List.getElem_cons_succ]
                  (try dsimp only at hSW)
                  go_simp
                  with_reducible rfl
                (try simp only [List.getElem_toArray, List.getElem_cons_zero, List.getElem_cons_succ, Act.put, List.setIfInBounds_toArray, List.set_cons_zero, List.set_cons_succ])
                have HG := hide (grown_set5 w15 wd.heap.size (.bool false) (.slice (some ⟨rA, 0, none⟩) n rsc) (.int .i64 room) (.slice (some ⟨g5, 0, none⟩) n c5') (.slice BA5 m5 bc5))
                have hz15 := HZD.out
                have hs15 := HSZ.out
                have HAD := hide (AfterDo.of (wr := w1) HQ5.out HB.out.bu (by omega) HG.out (by omega) (.inl (by omega)) (set5_blk KZ.out))
                have HBB := hide (set5_B HB15.out (show w1.heap.size ≤ wd.heap.size by omega) (.bool false) (.slice (some ⟨rA, 0, none⟩) n rsc) (.int .i64 room) (.slice (some ⟨g5, 0, none⟩) n c5') (.slice BA5 m5 bc5))
                unfold set5 at HAD HBB
                clear HG hs15 hz15
                obtain ⟨p0, p1, p2, p3, p4, p5, f1, f2, f3, f4, f5⟩ := bx5' KZ.out
                refine wpAnyJ_one 10 rfl (by kernel_rfl) (fun K hK => ?_)
                simp only [List.getElem_toArray, List.getElem_cons_zero, List.getElem_cons_succ]
                go_simp
                refine hK.out _ _ (fun h => absurd h (by rw [show lastOp _ _ _ = true from by kernel_rfl]; simp)) ?_
                clear hK K
                (try simp only [List.getElem_toArray, List.getElem_cons_zero, List.getElem_cons_succ, Act.put, List.setIfInBounds_toArray, List.set_cons_zero, List.set_cons_succ])
                refine wpAnyJ_pure 11 (v := ?_) (by first | exact hF | exact wideFn) rfl (by kernel_rfl) (by kernel_rfl) (by kernel_rfl) (by kernel_rfl) rfl (by kernel_rfl) ?_ (by first | exact fun _ _ _ h => h | exact fun _ _ _ h => hQ2 _ _ _ _ _ h) ?_
                rotate_left
                · simp only [List.getElem_toArray, List.getElem_cons_zero, List.getElem_cons_succ]
                  go_simp
                  with_reducible rfl
                (try simp only [List.getElem_toArray, List.getElem_cons_zero, List.getElem_cons_succ, Act.put, List.setIfInBounds_toArray, List.set_cons_zero, List.set_cons_succ])
                refine wpAnyJ_done (by kernel_rfl) ?_
                go_wp2_with fail
                go_meet
                exact ⟨_, rfl, rfl, HBB, HAD⟩
              -- END3
            case rest =>
              obtain ⟨g14, rfl, rfl, HBC, HAD⟩ := hcut
              -- BEGIN4
              have HE := hide (HB.out.ext HBC.out)
              obtain ⟨d0, d1, d2, d3, d4, d5⟩ := HCC.out _ HE.out.below
              have HDA := hide (do_any b S n sb 0 sc room sp ws m od am ov (cs k) wc HE.out.kb HE.out.wf (((HCR.out k hlt).below HE.out.below (Nat.le_refl _)).more HE.out.below.size) (HC.out.2 k hlt).2.2.2.2)
              unfold Call8.val at HDA
              go_wp2_with fail
              refine HDA.out.mono ?_
              intro e w2 hp
              have hst := BI.step HB.out HBC.out HAD.out hp
              obtain ⟨rfl, -⟩ := hp
              obtain ⟨hbel2, hgt2, ws2, m2, od2, am2, ov2, g2, wc2, BA2, bc2, hx2, hstep⟩ := hst
              clear d0 d1 d2 d3 d4 d5 HDA
              obtain ⟨d0, d1, d2, d3, d4, d5⟩ := HCC.out _ hbel2
              have HDN := hide (do_nil (cs k) w2 (((HCR.out k hlt).below hbel2 (Nat.le_refl _)).more hbel2.size))
              unfold Call8.val at HDN
              have HX2 := hide hx2
              have HGT2 := hide hgt2
              have HST := hide hstep
              clear hx2 hgt2 hstep hbel2
              generalize doEE n m room sp ws od (cs k) = E
              go_wp2_with fail
              refine HDN.out.mono ?_
              rintro e w3 ⟨rfl, hb3⟩
              have HBN := hide (HST.out ((((((w3.setCell ⟨gt, 0, none⟩ (.bool false)).setCell ⟨gt, 1, none⟩ (.slice (some ⟨rA, 0, none⟩) n rsc)).setCell ⟨gt, 2, none⟩ (.int .i64 room)).setCell ⟨gt, 3, none⟩ (.slice (some ⟨g2, 0, none⟩) n wc2)).setCell ⟨gt, 4, none⟩ (.slice BA2 m2 bc2))) (grownBy_setS (grownBy_setS (grownBy_setS (grownBy_setS (grownBy_setS (below_grown hb3 _) _ _) _ _) _ _) _ _) _ _) (set5_blk (HGT2.out.ext hb3)))
              clear d0 d1 d2 d3 d4 d5
              obtain ⟨p0, p1, p2, p3, p4, p5, f1, f2, f3, f4, f5⟩ := bx5' (HGT2.out.ext hb3)
              obtain ⟨x0, x1, x2, x3, x4, x5, -⟩ := bx5' (HX2.out.ext hb3)
              clear hb3
              go_upto_region 25 with fail
              clear p0 p1 p2 p3 p4 p5 f1 f2 f3 f4 f5 x0 x1 x2 x3 x4 x5 HST HX2 HGT2 HE HAD HBC HB
              generalize ((((((w3.setCell ⟨gt, 0, none⟩ (.bool false)).setCell ⟨gt, 1, none⟩ (.slice (some ⟨rA, 0, none⟩) n rsc)).setCell ⟨gt, 2, none⟩ (.int .i64 room)).setCell ⟨gt, 3, none⟩ (.slice (some ⟨g2, 0, none⟩) n wc2)).setCell ⟨gt, 4, none⟩ (.slice BA2 m2 bc2))) = w4 at HBN ⊢
              go_wp2_with fail
              go_loopw [17] (fun i wr => ∃ j : Nat, i = .int .i64 j ∧ j ≤ n ∧ Hid (BI w b S n sb 0 sc rA rsc room sp gt ws2 m2 od2 am2 ov2 g2 wc2 BA2 bc2 wr)) (fun i _ => n - (intOf i).toNat)
              case atStart => exact ⟨0, rfl, by omega, HBN⟩
              case round =>
                obtain ⟨j, rfl, hj, HB⟩ := hrel
                by_cases hlt2 : j < n
                · have HCO := hide (count_ok b S n j _ ov2 room (ws2 j) wr HB.out.kb.book HB.out.wf.n2 hlt2 (HB.out.kb.st.2 j hlt2) (HB.out.wf.ok j hlt2))
                  unfold agg7 at HCO
                  go_wp2_with fail
                  refine HCO.out.mono ?_
                  rintro e w5 ⟨rfl, hb5⟩
                  have HE := hide (HB.out.ext ((hb5).alloc hb5.size (.cells #[.int .i64 (ws2 j).wet, .int .i64 (ws2 j).dry, .int .i64 (ws2 j).burning, .int .i64 (ws2 j).fired, .int .i64 (ws2 j).laid, .int .i64 (ws2 j).broken, .int .i64 (ws2 j).missing] 94)))
                  have HT := hide (Blk.new w5 94 #[.int .i64 (ws2 j).wet, .int .i64 (ws2 j).dry, .int .i64 (ws2 j).burning, .int .i64 (ws2 j).fired, .int .i64 (ws2 j).laid, .int .i64 (ws2 j).broken, .int .i64 (ws2 j).missing])
                  clear hb5
                  go_upto_region 29 with fail
                  generalize (w5.alloc (.cells #[.int .i64 (ws2 j).wet, .int .i64 (ws2 j).dry, .int .i64 (ws2 j).burning, .int .i64 (ws2 j).fired, .int .i64 (ws2 j).laid, .int .i64 (ws2 j).broken, .int .i64 (ws2 j).missing] 94)) = w6 at HE HT ⊢
                  generalize w5.heap.size = g18 at HT ⊢
                  have Bd := hide (Below.refl w6.heap.size w6).drew
                  have HSB : Hid (∀ W, Below w6.heap.size w6 W → (W.cell? ⟨g18, 0, none⟩ = some (.int .i64 (ws2 j).wet) ∧ W.cell? ⟨g18, 1, none⟩ = some (.int .i64 (ws2 j).dry) ∧ W.cell? ⟨g18, 2, none⟩ = some (.int .i64 (ws2 j).burning) ∧ W.cell? ⟨g18, 3, none⟩ = some (.int .i64 (ws2 j).fired) ∧ W.cell? ⟨g18, 4, none⟩ = some (.int .i64 (ws2 j).laid) ∧ W.cell? ⟨g18, 5, none⟩ = some (.int .i64 (ws2 j).broken) ∧ W.cell? ⟨g18, 6, none⟩ = some (.int .i64 (ws2 j).missing)) ∧ W.cell? ⟨gt, 3, none⟩ = some (.slice (some ⟨g2, 0, none⟩) n wc2) ∧ W.cell? ⟨g2, j * 7, none⟩ = some (.int .i64 (ws2 j).wet) ∧ W.cell? ⟨g2, j * 7 + 1, none⟩ = some (.int .i64 (ws2 j).dry) ∧ W.cell? ⟨g2, j * 7 + 2, none⟩ = some (.int .i64 (ws2 j).burning) ∧ W.cell? ⟨g2, j * 7 + 3, none⟩ = some (.int .i64 (ws2 j).fired) ∧ W.cell? ⟨g2, j * 7 + 4, none⟩ = some (.int .i64 (ws2 j).laid) ∧ W.cell? ⟨g2, j * 7 + 5, none⟩ = some (.int .i64 (ws2 j).broken) ∧ W.cell? ⟨g2, j * 7 + 6, none⟩ = some (.int .i64 (ws2 j).missing)) := hide (fun W h => ⟨(bx7 (HT.out.ext h)).2, (bx5' (HE.out.bx.ext h)).2.2.2.2.1, ((HE.out.wl.ext h).2 j hlt2).2.2⟩)
                  have q1 : (0 : Int) ≤ (j : Int) := by omega
                  have q2 : (j : Int) < (n : Int) := by omega
                  refine wp_region_J (fun W : World => (W.cell? ⟨g18, 0, none⟩ = some (.int .i64 (ws2 j).wet) ∧ W.cell? ⟨g18, 1, none⟩ = some (.int .i64 (ws2 j).dry) ∧ W.cell? ⟨g18, 2, none⟩ = some (.int .i64 (ws2 j).burning) ∧ W.cell? ⟨g18, 3, none⟩ = some (.int .i64 (ws2 j).fired) ∧ W.cell? ⟨g18, 4, none⟩ = some (.int .i64 (ws2 j).laid) ∧ W.cell? ⟨g18, 5, none⟩ = some (.int .i64 (ws2 j).broken) ∧ W.cell? ⟨g18, 6, none⟩ = some (.int .i64 (ws2 j).missing)) ∧ W.cell? ⟨gt, 3, none⟩ = some (.slice (some ⟨g2, 0, none⟩) n wc2) ∧ W.cell? ⟨g2, j * 7, none⟩ = some (.int .i64 (ws2 j).wet) ∧ W.cell? ⟨g2, j * 7 + 1, none⟩ = some (.int .i64 (ws2 j).dry) ∧ W.cell? ⟨g2, j * 7 + 2, none⟩ = some (.int .i64 (ws2 j).burning) ∧ W.cell? ⟨g2, j * 7 + 3, none⟩ = some (.int .i64 (ws2 j).fired) ∧ W.cell? ⟨g2, j * 7 + 4, none⟩ = some (.int .i64 (ws2 j).laid) ∧ W.cell? ⟨g2, j * 7 + 5, none⟩ = some (.int .i64 (ws2 j).broken) ∧ W.cell? ⟨g2, j * 7 + 6, none⟩ = some (.int .i64 (ws2 j).missing)) (by kernel_rfl) ?_
                  have HED := hide (HE.out.ext Bd.out)
                  generalize w6.drew = wd at Bd HED ⊢
                  refine wpAnyJ_take 0 (v := ?_) (by first | exact hF | exact wideFn) (HSB.out _ Bd.out) rfl (by kernel_rfl) (by kernel_rfl) (by kernel_rfl) (by kernel_rfl) rfl ?_ (by first | exact fun _ _ _ h => h | exact fun _ _ _ h => hQ2 _ _ _ _ _ h) ?_
                  rotate_left
                  · intro W hSW
                    simp only [List.getElem_toArray, List.getElem_cons_zero, List.getElem_cons_succ]
                    (try dsimp only at hSW)
                    go_simp
                    with_reducible rfl
                  (try simp only [List.getElem_toArray, List.getElem_cons_zero, List.getElem_cons_succ, Act.put, List.setIfInBounds_toArray, List.set_cons_zero, List.set_cons_succ])
                  refine wpAnyJ_take 1 (v := ?_) (by first | exact hF | exact wideFn) (HSB.out _ Bd.out) rfl (by kernel_rfl) (by kernel_rfl) (by kernel_rfl) (by kernel_rfl) rfl ?_ (by first | exact fun _ _ _ h => h | exact fun _ _ _ h => hQ2 _ _ _ _ _ h) ?_
                  rotate_left
                  · intro W hSW
                    simp only [List.getElem_toArray, List.getElem_cons_zero, List.getElem_cons_succ]
                    (try dsimp only at hSW)
                    go_simp
                    with_reducible rfl
                  (try simp only [List.getElem_toArray, List.getElem_cons_zero, List.getElem_cons_succ, Act.put, List.setIfInBounds_toArray, List.set_cons_zero, List.set_cons_succ])
                  refine wpAnyJ_take 2 (v := ?_) (by first | exact hF | exact wideFn) (HSB.out _ Bd.out) rfl (by kernel_rfl) (by kernel_rfl) (by kernel_rfl) (by kernel_rfl) rfl ?_ (by first | exact fun _ _ _ h => h | exact fun _ _ _ h => hQ2 _ _ _ _ _ h) ?_
                  rotate_left
                  · intro W hSW
                    simp only [List.getElem_toArray, List.getElem_cons_zero, List.getElem_cons_succ]
                    (try dsimp only at hSW)
                    go_simp
                    with_reducible rfl
                  (try simp only [List.getElem_toArray, List.getElem_cons_zero, List.getElem_cons_succ, Act.put, List.setIfInBounds_toArray, List.set_cons_zero, List.set_cons_succ])
                  refine wpAnyJ_take 3 (v := ?_) (by first | exact hF | exact wideFn) (HSB.out _ Bd.out) rfl (by kernel_rfl) (by kernel_rfl) (by kernel_rfl) (by kernel_rfl) rfl ?_ (by first | exact fun _ _ _ h => h | exact fun _ _ _ h => hQ2 _ _ _ _ _ h) ?_
                  rotate_left
                  · intro W hSW
                    simp only [List.getElem_toArray, List.getElem_cons_zero, List.getElem_cons_succ]
                    (try dsimp only at hSW)
                    go_simp
                    with_reducible rfl
                  (try simp only [List.getElem_toArray, List.getElem_cons_zero, List.getElem_cons_succ, Act.put, List.setIfInBounds_toArray, List.set_cons_zero, List.set_cons_succ])
                  refine wpAnyJ_take 4 (v := ?_) (by first | exact hF | exact wideFn) (HSB.out _ Bd.out) rfl (by kernel_rfl) (by kernel_rfl) (by kernel_rfl) (by kernel_rfl) rfl ?_ (by first | exact fun _ _ _ h => h | exact fun _ _ _ h => hQ2 _ _ _ _ _ h) ?_
                  rotate_left
                  · intro W hSW
                    simp only [List.getElem_toArray, List.getElem_cons_zero, List.getElem_cons_succ]
                    (try dsimp only at hSW)
                    go_simp
                    with_reducible rfl
                  (try simp only [List.getElem_toArray, List.getElem_cons_zero, List.getElem_cons_succ, Act.put, List.setIfInBounds_toArray, List.set_cons_zero, List.set_cons_succ])
                  refine wpAnyJ_take 5 (v := ?_) (by first | exact hF | exact wideFn) (HSB.out _ Bd.out) rfl (by kernel_rfl) (by kernel_rfl) (by kernel_rfl) (by kernel_rfl) rfl ?_ (by first | exact fun _ _ _ h => h | exact fun _ _ _ h => hQ2 _ _ _ _ _ h) ?_
                  rotate_left
                  · intro W hSW
                    simp only [List.getElem_toArray, List.getElem_cons_zero, List.getElem_cons_succ]
                    (try dsimp only at hSW)
                    go_simp
                    with_reducible rfl
                  (try simp only [List.getElem_toArray, List.getElem_cons_zero, List.getElem_cons_succ, Act.put, List.setIfInBounds_toArray, List.set_cons_zero, List.set_cons_succ])
                  refine wpAnyJ_take 6 (v := ?_) (by first | exact hF | exact wideFn) (HSB.out _ Bd.out) rfl (by kernel_rfl) (by kernel_rfl) (by kernel_rfl) (by kernel_rfl) rfl ?_ (by first | exact fun _ _ _ h => h | exact fun _ _ _ h => hQ2 _ _ _ _ _ h) ?_
                  rotate_left
                  · intro W hSW
                    simp only [List.getElem_toArray, List.getElem_cons_zero, List.getElem_cons_succ]
                    (try dsimp only at hSW)
                    go_simp
                    with_reducible rfl
                  (try simp only [List.getElem_toArray, List.getElem_cons_zero, List.getElem_cons_succ, Act.put, List.setIfInBounds_toArray, List.set_cons_zero, List.set_cons_succ])
                  refine wpAnyJ_take 7 (v := ?_) (by first | exact hF | exact wideFn) (HSB.out _ Bd.out) rfl (by kernel_rfl) (by kernel_rfl) (by kernel_rfl) (by kernel_rfl) rfl ?_ (by first | exact fun _ _ _ h => h | exact fun _ _ _ h => hQ2 _ _ _ _ _ h) ?_
                  rotate_left
                  · intro W hSW
                    simp only [List.getElem_toArray, List.getElem_cons_zero, List.getElem_cons_succ]
                    (try dsimp only at hSW)
                    go_simp
                    with_reducible rfl
                  (try simp only [List.getElem_toArray, List.getElem_cons_zero, List.getElem_cons_succ, Act.put, List.setIfInBounds_toArray, List.set_cons_zero, List.set_cons_succ])
                  refine wpAnyJ_take 8 (v := ?_) (by first | exact hF | exact wideFn) (HSB.out _ Bd.out) rfl (by kernel_rfl) (by kernel_rfl) (by kernel_rfl) (by kernel_rfl) rfl ?_ (by first | exact fun _ _ _ h => h | exact fun _ _ _ h => hQ2 _ _ _ _ _ h) ?_
                  rotate_left
                  · intro W hSW
                    simp only [List.getElem_toArray, List.getElem_cons_zero, List.getElem_cons_succ]
                    (try dsimp only at hSW)
                    go_simp
                    with_reducible rfl
                  (try simp only [List.getElem_toArray, List.getElem_cons_zero, List.getElem_cons_succ, Act.put, List.setIfInBounds_toArray, List.set_cons_zero, List.set_cons_succ])
                  refine wpAnyJ_take 9 (v := ?_) (by first | exact hF | exact wideFn) (HSB.out _ Bd.out) rfl (by kernel_rfl) (by kernel_rfl) (by kernel_rfl) (by kernel_rfl) rfl ?_ (by first | exact fun _ _ _ h => h | exact fun _ _ _ h => hQ2 _ _ _ _ _ h) ?_
                  rotate_left
                  · intro W hSW
                    simp only [List.getElem_toArray, List.getElem_cons_zero, List.getElem_cons_succ]
                    (try dsimp only at hSW)
                    go_simp
                    with_reducible rfl
                  (try simp only [List.getElem_toArray, List.getElem_cons_zero, List.getElem_cons_succ, Act.put, List.setIfInBounds_toArray, List.set_cons_zero, List.set_cons_succ])
                  refine wpAnyJ_take 10 (v := ?_) (by first | exact hF | exact wideFn) (HSB.out _ Bd.out) rfl (by kernel_rfl) (by kernel_rfl) (by kernel_rfl) (by kernel_rfl) rfl ?_ (by first | exact fun _ _ _ h => h | exact fun _ _ _ h => hQ2 _ _ _ _ _ h) ?_
                  rotate_left
                  · intro W hSW
                    simp only [List.getElem_toArray, List.getElem_cons_zero, List.getElem_cons_succ]
                    (try dsimp only at hSW)
                    go_simp
                    with_reducible rfl
                  (try simp only [List.getElem_toArray, List.getElem_cons_zero, List.getElem_cons_succ, Act.put, List.setIfInBounds_toArray, List.set_cons_zero, List.set_cons_succ])
                  refine wpAnyJ_done (by kernel_rfl) ?_
                  go_wp2_with fail
                  go_roundw
                  case rel => exact ⟨j + 1, by go_num, by omega, HED⟩
                  case measure => simp [intOf]; omega
                · obtain rfl : n = j := by omega
                  go_wp2_with fail
                  go_roundw
                  case rel => exact ⟨k + 1, _, _, _, _, _, _, _, _, _, by go_num, by omega, HB⟩
                  case measure => simp [intOf]; omega
              -- END4
          · obtain rfl : q = k := by omega
            -- BEGIN5
            have HC1 := hide (count_no b S n _ ov room (n : Int) wr HB.out.kb.book HB.out.wf.n2 HB.out.wf.n1 (by omega))
            unfold agg7 Wa.zero at HC1
            dsimp only at HC1
            go_wp2_with fail
            refine HC1.out.mono ?_
            rintro e w1 ⟨rfl, hb1⟩
            have HE1 := hide (HB.out.ext (hb1.alloc hb1.size (.cells #[.int .i64 0, .int .i64 0, .int .i64 0, .int .i64 0, .int .i64 0, .int .i64 0, .int .i64 0] 94)))
            have KA := hide (Blk.new w1 94 #[.int .i64 0, .int .i64 0, .int .i64 0, .int .i64 0, .int .i64 0, .int .i64 0, .int .i64 0])
            clear hb1
            go_upto_region 32 with fail
            generalize (w1.alloc (.cells #[.int .i64 0, .int .i64 0, .int .i64 0, .int .i64 0, .int .i64 0, .int .i64 0, .int .i64 0] 94)) = w2 at HE1 KA ⊢
            generalize w1.heap.size = ga at KA ⊢
            have HC2 := hide (count_no b S n _ ov room (-1) w2 HE1.out.kb.book HE1.out.wf.n2 HE1.out.wf.n1 (by omega))
            unfold agg7 Wa.zero at HC2
            dsimp only at HC2
            go_wp2_with fail
            refine HC2.out.mono ?_
            rintro e w3 ⟨rfl, hb3⟩
            have HE2 := hide (HE1.out.ext (hb3.alloc hb3.size (.cells #[.int .i64 0, .int .i64 0, .int .i64 0, .int .i64 0, .int .i64 0, .int .i64 0, .int .i64 0] 94)))
            have KA2 := hide (KA.out.ext (hb3.alloc hb3.size (.cells #[.int .i64 0, .int .i64 0, .int .i64 0, .int .i64 0, .int .i64 0, .int .i64 0, .int .i64 0] 94)))
            have KB2 := hide (Blk.new w3 94 #[.int .i64 0, .int .i64 0, .int .i64 0, .int .i64 0, .int .i64 0, .int .i64 0, .int .i64 0])
            clear hb3
            go_upto_region 33 with fail
            generalize (w3.alloc (.cells #[.int .i64 0, .int .i64 0, .int .i64 0, .int .i64 0, .int .i64 0, .int .i64 0, .int .i64 0] 94)) = w4 at HE2 KA2 KB2 ⊢
            generalize w3.heap.size = gb at KB2 ⊢
            have HC3 := hide (count_nil 0 w4)
            unfold agg7 Wa.zero at HC3
            dsimp only at HC3
            go_wp2_with fail
            refine HC3.out.mono ?_
            rintro e w5 ⟨rfl, hb5⟩
            have HE3 := hide (HE2.out.ext (hb5.alloc hb5.size (.cells #[.int .i64 0, .int .i64 0, .int .i64 0, .int .i64 0, .int .i64 0, .int .i64 0, .int .i64 0] 94)))
            have KA3 := hide (KA2.out.ext (hb5.alloc hb5.size (.cells #[.int .i64 0, .int .i64 0, .int .i64 0, .int .i64 0, .int .i64 0, .int .i64 0, .int .i64 0] 94)))
            have KB3 := hide (KB2.out.ext (hb5.alloc hb5.size (.cells #[.int .i64 0, .int .i64 0, .int .i64 0, .int .i64 0, .int .i64 0, .int .i64 0, .int .i64 0] 94)))
            have KC3 := hide (Blk.new w5 94 #[.int .i64 0, .int .i64 0, .int .i64 0, .int .i64 0, .int .i64 0, .int .i64 0, .int .i64 0])
            clear hb5
            go_upto_region 34 with fail
            generalize (w5.alloc (.cells #[.int .i64 0, .int .i64 0, .int .i64 0, .int .i64 0, .int .i64 0, .int .i64 0, .int .i64 0] 94)) = w6 at HE3 KA3 KB3 KC3 ⊢
            generalize w5.heap.size = gc at KC3 ⊢
            obtain ⟨x0, x1, x2, x3, x4, x5, x6, x7⟩ := bx7 KA3.out
            obtain ⟨y0, y1, y2, y3, y4, y5, y6, y7⟩ := bx7 KB3.out
            obtain ⟨z0, z1, z2, z3, z4, z5, z6, z7⟩ := bx7 KC3.out
            go_wp2_with fail
            refine (HK.out _).mono ?_
            rintro e w9 ⟨rfl, hb9⟩
            go_wp2_with fail
            go_ret
            exact ⟨rfl, HE3.out.below.trans (hb9.mono HE3.out.below.size)⟩
            -- END5
theorem books_law (SA : Option Addr) (n c : Nat) (sp : Nat → Int) (room : Int) (CA : Option Addr) (q cc : Nat) (cs : Nat → Call8) (w : World) (hS : IR w w.heap.size SA n sp) (hC : CsR w CA q cs) (hn : n ≤ maxLen) (hq : q ≤ maxLen) : Calls Try.prog 9 #[.slice SA n c, .int .i64 room, .slice CA q cc] w fun e w' => e = .returned (.bool true) ∧ Below w.heap.size w w' := by
  by_cases hg : 25 < n ∨ 60 < q
  · exact books_guard SA n c room CA q cc w hn hq hg
  · exact books_main SA n c sp room CA q cc cs w hS hC (by omega) (by omega)
end Go.Proofs.Ytlhekifmkkgjlaa
/- Arguments of chapter 8 opened: structs of numbers, numbers. -/
namespace Go.Proofs.Ytlhekifmkkgjlaa
open Go Go.RowKit Go.ChangeShapes Go.WideShapes Go.ChangeAt
section
variable {H : Type} {enc : TypeId × Value → H} {r : Reach} {b0 : Nat} {W : World} {v : Value} {d : DataW H} {p : List MemPlace}
set_option maxRecDepth 100000
theorem arr2 {cs : Array Value} (h : cs.size = 2) : ∃ a b, cs = #[a, b] := by
  rcases cs with ⟨l⟩
  match l, h with
  | [a, b], _ => exact ⟨a, b, rfl⟩
theorem arr4 {cs : Array Value} (h : cs.size = 4) : ∃ a b c e, cs = #[a, b, c, e] := by
  rcases cs with ⟨l⟩
  match l, h with
  | [a, b, c, e], _ => exact ⟨a, b, c, e, rfl⟩
theorem spread_cells {fuel : Nat} {a b : Value} {x : DataW H × List MemPlace} (h : DataW.trod enc Try.prog W 0 (fun _ => true) true fuel 25 [a, b] = some x) : ∃ s t, a = .int .i64 s ∧ b = .int .i64 t := by
  obtain ⟨y0, y1, n, -, -, h0, h1⟩ := trod_struct2 Try.underlying25 h
  have g0 : DataW.trod enc Try.prog W 0 (fun _ => true) true n 3 [a] = some y0 := h0
  have g1 : DataW.trod enc Try.prog W 0 (fun _ => true) true n 3 [b] = some y1 := h1
  exact ⟨_, _, (int_of_trod Try.underlying3 g0).1, (int_of_trod Try.underlying3 g1).1⟩
theorem open_spread (hval : Value.okWide Try.prog W r b0 25 v) (h : DataW.Trod enc Try.prog W 0 (fun _ => true) true 25 v d p) : ∃ a b, v = .agg #[.int .i64 a, .int .i64 b] := by
  obtain ⟨cs, rfl, hsz⟩ := okWide_struct Try.underlying25 hval
  obtain ⟨a, b, rfl⟩ := arr2 (hsz.trans (by kernel_rfl))
  obtain ⟨fuel, h⟩ := h
  obtain ⟨s, t, rfl, rfl⟩ := spread_cells (W := W) (show DataW.trod enc Try.prog W 0 (fun _ => true) true fuel 25 [a, b] = _ from h)
  exact ⟨s, t, rfl⟩
theorem open_clay (hval : Value.okWide Try.prog W r b0 40 v) (h : DataW.Trod enc Try.prog W 0 (fun _ => true) true 40 v d p) : ∃ a b c e, v = .agg #[.int .i64 a, .int .i64 b, .int .i64 c, .int .i64 e] := by
  obtain ⟨cs, rfl, hsz⟩ := okWide_struct Try.underlying40 hval
  obtain ⟨a, b, c, e, rfl⟩ := arr4 (hsz.trans (by kernel_rfl))
  obtain ⟨fuel, h⟩ := h
  obtain ⟨y0, y1, n, -, -, h0, h1⟩ := trod_struct2 Try.underlying40 h
  have g0 : DataW.trod enc Try.prog W 0 (fun _ => true) true n 25 [a, b] = some y0 := by
    have e2 : Try.prog.cellsOf 25 = 2 := by kernel_rfl
    simpa [Value.cells, e2] using h0
  have g1 : DataW.trod enc Try.prog W 0 (fun _ => true) true n 25 [c, e] = some y1 := by
    have e2 : Try.prog.cellsOf 25 = 2 := by kernel_rfl
    simpa [Value.cells, e2] using h1
  obtain ⟨s, t, rfl, rfl⟩ := spread_cells g0
  obtain ⟨s', t', rfl, rfl⟩ := spread_cells g1
  exact ⟨s, t, s', t', rfl⟩
/-- the capacity of a slice of structs of two ints -/
theorem cap_pairs {W : World} {t e : TypeId} {f0 f1 : Field} {A : Option Addr} {n c : Nat} {d : DataW H} {p : List MemPlace} (ht : Try.prog.underlying t = some (.slice e)) (he : Try.prog.underlying e = some (.struct #[f0, f1]))
    (ce : Try.prog.cellsOf e = 2) (o0 : f0.offset = 0) (o1 : f1.offset = 1) (c0 : Try.prog.cellsOf f0.type = 1) (c1 : Try.prog.cellsOf f1.type = 1)
    (h : DataW.Trod enc Try.prog W 0 (fun _ => true) true t (.slice A n c) d p) : c ≤ maxLen := by
  obtain ⟨fuel, h⟩ := h
  rw [cells_slice] at h
  rcases Deep.open_slice_pairs ht he ce o0 o1 c0 c1 h with ⟨h1, -⟩ | ⟨a, len, cap, m, n, V0, V1, D0, D1, P0, P1, h1, hb, hl, hm, hmm, hx, hc⟩
  · injection h1 with h1
    injection h1 with h1 h2 h3
    subst h3
    simp [maxLen]
  · injection h1 with h1
    injection h1 with h1 h2 h3
    omega
end
end Go.Proofs.Ytlhekifmkkgjlaa
/- A slice of structs whose fields are one cell each, opened; a list of yard deeds. -/
namespace Go.Proofs.Ytlhekifmkkgjlaa
open Go Go.RowKit Go.ChangeShapes Go.WideShapes Go.ChangeAt
section
variable {H : Type} {enc : TypeId × Value → H} {r : Reach} {b0 : Nat} {W : World} {v : Value} {d : DataW H} {p : List MemPlace}
set_option maxRecDepth 100000
/-- a slice of structs of one-cell fields -/
theorem open_cells {t e : TypeId} {fs : Array Field} {x : DataW H × List MemPlace} {fuel : Nat} (ht : Try.prog.underlying t = some (.slice e)) (he : Try.prog.underlying e = some (.struct fs)) (hone : Deep.oneCellFields Try.prog fs = true)
    (ce : Try.prog.cellsOf e = fs.size) (hpos : 0 < fs.size) (h : DataW.trod enc Try.prog W 0 (fun _ => true) true fuel t [v] = some x) (hlt : ∀ y ∈ x.2, y.block < W.heap.size) :
    ∃ A n c V, v = .slice A n c ∧ n ≤ maxLen ∧ n ≤ c ∧ ER W W.heap.size fs.size A n V ∧ ∀ i k f, i < n → fs[k]? = some f → ∃ m y, DataW.trod enc Try.prog W 0 (fun _ => true) true m f.type [V i k] = some y ∧ (∀ z ∈ y.2, z.block < W.heap.size) := by
  rcases Deep.open_slice ht h with ⟨h1, -⟩ | ⟨a, len, cap, m, n, D, Pl, h1, hb, hl, hm, hmm, hx, hc⟩
  · injection h1 with h1
    subst h1
    exact ⟨none, 0, 0, fun _ _ => .nilIface, rfl, by simp [maxLen], Nat.le_refl _, ER.nil _ _ _ _ _, fun i k f hi => absurd hi (by omega)⟩
  · injection h1 with h1
    subst h1
    simp only [if_true] at hmm
    subst hmm
    rw [ce] at hc hx
    obtain ⟨C, hC⟩ := Deep.choose_lt hc
    refine ⟨some a, len, m, fun i k => (C i).getD k undef, rfl, by omega, hl, fun hn => ?_, fun i k f hi hf => ?_⟩
    · obtain ⟨-, hl0, hc0⟩ := World.cells?_some (hC 0 (by omega)).1
      have h0 := hc0 0 hpos
      rw [List.getElem?_eq_getElem (by omega)] at h0
      obtain ⟨b, off, spot⟩ := a
      have hsp : spot = none := by simpa [Addr.add] using World.cell?_spot h0
      subst hsp
      refine ⟨b, off, rfl, ?_, fun k i hk hi => ?_⟩
      · have hb1 := hlt (.cell b (off + 0)) (by
          rw [hx]
          exact List.mem_append_left _ (MemPlace.mem_row.2 ⟨0, Nat.mul_pos (by omega) hpos, rfl⟩))
        exact hb1
      · obtain ⟨-, hl1, hc1⟩ := World.cells?_some (hC k (by omega)).1
        have h2 := hc1 i hi
        rw [Deep.add_add, add_lit', List.getElem?_eq_getElem (by omega)] at h2
        rw [show off + k * fs.size + i = off + (k * fs.size + i) by omega, h2]
        simp [List.getD, List.getElem?_eq_getElem (show i < (C k).length by omega)]
    · obtain ⟨-, hl1, -⟩ := World.cells?_some (hC i (by omega)).1
      obtain ⟨xs, m', -, hxy, -, hxl, hf2⟩ := DataW.trod_struct he (hC i (by omega)).2
      have hk : k < fs.size := (Array.getElem?_eq_some_iff.1 hf).1
      obtain ⟨ho, hc1⟩ := Deep.hone_of hone k f hf
      have g := hf2 k f hf
      rw [ho, hc1, Deep.take1_drop (C i) k undef (by omega), List.getElem?_eq_getElem (by omega)] at g
      refine ⟨m', _, g, fun z hz => hlt z ?_⟩
      rw [hx]
      simp only [Prod.mk.injEq] at hxy
      refine List.mem_append_right _ (List.mem_flatMap.2 ⟨i, by simp; omega, ?_⟩)
      rw [hxy.2]
      exact List.mem_flatMap.2 ⟨_, List.getElem_mem _, hz⟩
theorem u8_of_trod {W : World} {t : TypeId} {v : Value} {x : DataW H × List MemPlace} {fuel : Nat} (ht : Try.prog.underlying t = some (.int .u8)) (h : DataW.trod enc Try.prog W 0 (fun _ => true) true fuel t [v] = some x) :
    v = .int .u8 (intOf v) ∧ 0 ≤ intOf v ∧ intOf v ≤ 255 := by
  obtain ⟨z, hz, -, hw⟩ := DataW.trod_int ht h
  injection hz with hz
  subst hz
  exact ⟨rfl, by simpa [intOf, Lit.wf, IntKind.min, IntKind.max, IntKind.signed, IntKind.bits] using hw⟩
/-- a list of yard deeds -/
theorem open_yards (hval : Value.okWide Try.prog W r b0 98 v) (h : DataW.Trod enc Try.prog W 0 (fun _ => true) true 98 v d p) (hlt : ∀ x ∈ p, x.block < W.heap.size) :
    ∃ (A : Option Addr) (n c : Nat) (u : Nat → Nat → Int), v = .slice A n c ∧ n ≤ maxLen ∧ ER W W.heap.size 4 A n (fun k i => .int .u8 (u k i)) ∧ ∀ k i, k < n → i < 4 → 0 ≤ u k i ∧ u k i ≤ 255 := by
  obtain ⟨fuel, h⟩ := h
  obtain ⟨A, n, c, rfl⟩ := okWide_slice Try.underlying98 hval
  rw [cells_slice] at h
  obtain ⟨A', n', c', V, h1, hn, hnc, hE, hV⟩ := open_cells Try.underlying98 Try.underlying102 (by kernel_rfl) (by kernel_rfl) (by decide) h hlt
  injection h1 with h1 h2 h3
  subst h1 h2 h3
  have key : ∀ k i, k < n → i < 4 → V k i = .int .u8 (intOf (V k i)) ∧ 0 ≤ intOf (V k i) ∧ intOf (V k i) ≤ 255 := fun k i hk hi => by
    rcases (by omega : i = 0 ∨ i = 1 ∨ i = 2 ∨ i = 3) with rfl | rfl | rfl | rfl
    · obtain ⟨m, y, g, -⟩ := hV k 0 _ hk rfl
      exact u8_of_trod Try.underlying5 g
    · obtain ⟨m, y, g, -⟩ := hV k 1 _ hk rfl
      exact u8_of_trod Try.underlying5 g
    · obtain ⟨m, y, g, -⟩ := hV k 2 _ hk rfl
      exact u8_of_trod Try.underlying5 g
    · obtain ⟨m, y, g, -⟩ := hV k 3 _ hk rfl
      exact u8_of_trod Try.underlying5 g
  refine ⟨A, n, c, fun k i => intOf (V k i), rfl, hn, fun hn0 => ?_, fun k i hk hi => (key k i hk hi).2⟩
  obtain ⟨b, off, hA, hb, hc⟩ := hE hn0
  refine ⟨b, off, hA, hb, fun k i hk hi => ?_⟩
  have h1 := hc k i hk hi
  rw [(key k i hk hi).1] at h1
  exact h1
end
end Go.Proofs.Ytlhekifmkkgjlaa
/- Arguments of chapter 8 opened: a list of calls. -/
namespace Go.Proofs.Ytlhekifmkkgjlaa
open Go Go.RowKit Go.ChangeShapes Go.WideShapes Go.ChangeAt
section
variable {H : Type} {enc : TypeId × Value → H} {r : Reach} {b0 : Nat} {W : World} {v : Value} {d : DataW H} {p : List MemPlace}
set_option maxRecDepth 100000
instance : Inhabited Call8 := ⟨⟨0, 0, 0, 0, none, 0, 0, fun _ => 0, fun _ => 0, none, 0, 0, fun _ => 0⟩⟩
/-- a list of batches, its numbers within 64 bits -/
theorem open_batches_c {x : DataW H × List MemPlace} {fuel : Nat} (h : DataW.trod enc Try.prog W 0 (fun _ => true) true fuel 79 [v] = some x) (hlt : ∀ y ∈ x.2, y.block < W.heap.size) :
    ∃ A n c x y, v = .slice A n c ∧ n ≤ maxLen ∧ PI W W.heap.size A n x y ∧ ∀ i, i < n → inInt (x i) := by
  obtain ⟨A, n, c, V0, V1, rfl, hn, hnc, hP, hV⟩ := open_pairs_c Try.underlying79 Try.underlying107 (by kernel_rfl) rfl rfl (by kernel_rfl) (by kernel_rfl) h hlt
  refine ⟨A, n, c, fun i => intOf (V0 i), fun i => intOf (V1 i), rfl, hn, fun hn0 => ?_, fun i hi => ?_⟩
  · obtain ⟨b, off, hA, hb, hc⟩ := hP hn0
    refine ⟨b, off, hA, hb, fun k i hk hi => ?_⟩
    obtain ⟨m, x0, x1, g0, g1, -, -⟩ := hV k hk
    rw [hc k i hk hi]
    rcases (by omega : i = 0 ∨ i = 1) with rfl | rfl
    · simpa using (int_of_trod Try.underlying3 g0).1
    · simpa using (int_of_trod Try.underlying3 g1).1
  · obtain ⟨m, x0, x1, g0, g1, -, -⟩ := hV i hi
    exact (int_of_trod Try.underlying3 g0).2
theorem open_ints_t (hval : Value.okWide Try.prog W r b0 56 v) (h : DataW.Trod enc Try.prog W 0 (fun _ => true) true 56 v d p) (hlt : ∀ x ∈ p, x.block < W.heap.size) :
    ∃ (A : Option Addr) (n c : Nat) (z : Nat → Int), v = .slice A n c ∧ n ≤ maxLen ∧ IR W W.heap.size A n z := by
  obtain ⟨fuel, h⟩ := h
  obtain ⟨A, n, c, rfl⟩ := okWide_slice Try.underlying56 hval
  rw [cells_slice] at h
  obtain ⟨A', n', c', z, h1, h2, -, h3, -⟩ := open_ints_c Try.underlying56 h hlt
  exact ⟨A', n', c', z, h1, h2, h3⟩
theorem open_calls (hval : Value.okWide Try.prog W r b0 78 v) (h : DataW.Trod enc Try.prog W 0 (fun _ => true) true 78 v d p) (hlt : ∀ x ∈ p, x.block < W.heap.size) :
    ∃ (A : Option Addr) (n c : Nat) (cs : Nat → Call8), v = .slice A n c ∧ n ≤ maxLen ∧ CsR W A n cs := by
  obtain ⟨fuel, h⟩ := h
  obtain ⟨A, n, c, rfl⟩ := okWide_slice Try.underlying78 hval
  rw [cells_slice] at h
  obtain ⟨A', n', c', V, h1, hn, hnc, hE, hV⟩ := open_cells Try.underlying78 Try.underlying81 (by kernel_rfl) (by kernel_rfl) (by decide) h hlt
  injection h1 with h1 h2 h3
  subst h1 h2 h3
  have key : ∀ k, k < n → ∃ q : Call8, (∀ i, i < 6 → V k i = q.cell i) ∧ PI W W.heap.size q.bA q.bm q.bx q.bv ∧ IR W W.heap.size q.lA q.lm q.lz ∧ q.bm ≤ maxLen ∧ q.lm ≤ maxLen ∧ ∀ i, i < q.bm → inInt (q.bx i) := fun k hk => by
    obtain ⟨m0, y0, g0, l0⟩ := hV k 0 _ hk rfl
    obtain ⟨m1, y1, g1, l1⟩ := hV k 1 _ hk rfl
    obtain ⟨m2, y2, g2, l2⟩ := hV k 2 _ hk rfl
    obtain ⟨m3, y3, g3, l3⟩ := hV k 3 _ hk rfl
    obtain ⟨m4, y4, g4, l4⟩ := hV k 4 _ hk rfl
    obtain ⟨m5, y5, g5, l5⟩ := hV k 5 _ hk rfl
    have e0 := (int_of_trod Try.underlying3 g0).1
    have e1 := (int_of_trod Try.underlying3 g1).1
    have e2 := (int_of_trod Try.underlying3 g2).1
    have e3 := (int_of_trod Try.underlying3 g3).1
    obtain ⟨A4, n4, c4, x4, z4, e4, h4, r4, i4⟩ := open_batches_c g4 l4
    obtain ⟨A5, n5, c5, z5, e5, h5, -, r5, -⟩ := open_ints_c Try.underlying56 g5 l5
    refine ⟨⟨intOf (V k 0), intOf (V k 1), intOf (V k 2), intOf (V k 3), A4, n4, c4, x4, z4, A5, n5, c5, z5⟩, fun i hi => ?_, r4, r5, h4, h5, i4⟩
    rcases (by omega : i = 0 ∨ i = 1 ∨ i = 2 ∨ i = 3 ∨ i = 4 ∨ i = 5) with rfl | rfl | rfl | rfl | rfl | rfl
    · exact e0
    · exact e1
    · exact e2
    · exact e3
    · exact e4
    · exact e5
  obtain ⟨cs, hq⟩ := Deep.choose_lt key
  refine ⟨A, n, c, cs, rfl, hn, fun hn0 => ?_, fun k hk => (hq k hk).2⟩
  obtain ⟨b, off, hA, hb, hc⟩ := hE hn0
  exact ⟨b, off, hA, hb, fun k i hk hi => (hc k i hk hi).trans (congrArg some ((hq k hk).1 i hi))⟩
end
end Go.Proofs.Ytlhekifmkkgjlaa
namespace Go.Proofs.Ytlhekifmkkgjlaa.kilnBooks
open Go Go.ChangeShapes Go.WideShapes Go.ChangeAt Go.RowKit
set_option maxRecDepth 100000 in
theorem lifted (os : Os) (started : os.Started) (H : Type) (enc : TypeId × Value → H) :
    ReturnsInHanded {} Try.checked os 9 .any (Rows.kilnBooksSpec.pre6 enc Try.prog Try.f9 Rows.kilnBooksRow.domain false) (Rows.kilnBooksSpec.post enc Try.prog Try.f9 false true false false) := by
  refine returnsInHanded_of_change (C := Try.checked) own_knob started (by kernel_rfl) Try.func9
    (ChangeSpec.witness6 (enc := enc) (C := Try.checked) false ⟨#[], #[.slice none 0 0, .int .i64 0, .slice none 0 0], []⟩ 8 (by kernel_rfl) (by kernel_rfl) (by kernel_rfl) (by kernel_rfl)) ?_
  intro W base args ds gs before hval0 hW hcnd _
  have hval : ∀ (j : Nat) t v, Try.f9.params[j]? = some t → args[j]? = some v → Value.okWide Try.prog W .any base t v := hval0
  have hW' := hW
  have hlt : ∀ p ∈ before, p.block < W.heap.size := fun p hp => hW.lt p hp
  obtain ⟨p, q, hA0, hV, rfl, hfz, hnd⟩ := hW
  have hA : DataW.TrodAll enc Try.prog W 0 (fun _ => true) true Try.f9.params.toList args.toList ds p := hA0
  rw [Try.params9] at hA hval
  obtain ⟨v0, vs0, d0, ds0, p0, q0, hargs, rfl, rfl, h0, r0⟩ := trodAll_cons hA
  obtain ⟨v1, vs1, d1, ds1, p1, q1, rfl, rfl, rfl, h1, r1⟩ := trodAll_cons r0
  obtain ⟨v2, vs2, d2, ds2, p2, q2, rfl, rfl, rfl, h2, r2⟩ := trodAll_cons r1
  obtain ⟨rfl, rfl, rfl⟩ := trodAll_nil r2
  obtain rfl : args = #[v0, v1, v2] := by cases args; simp_all
  obtain ⟨rfl, rfl⟩ := trodVars_none hV
  have k0 := hval 0 56 v0 rfl rfl
  have k1 := hval 1 3 v1 rfl rfl
  have k2 := hval 2 78 v2 rfl rfl
  obtain ⟨SA, n, c, sp, rfl, hn, hS⟩ := open_ints_t k0 h0 (fun z hz => hlt z (by simp [hz]))
  obtain ⟨room, rfl, rfl, rfl, -⟩ := open_int Try.underlying3 k1 h1
  obtain ⟨CA, q', cc, cs, rfl, hq, hC⟩ := open_calls k2 h2 (fun z hz => hlt z (by simp [hz]))
  clear hA0 hval0
  refine (books_law SA n c sp room CA q' cc cs W hS hC hn hq).mono fun e W' ⟨he, hb⟩ => ?_
  subst he
  exact ⟨_, rfl, law_post hW' hb rfl rfl (by kernel_rfl) ⟨rfl, rfl, rfl⟩⟩
theorem over : Rows.kilnBooksRow.holds Try.pinned (OpenSpec.ofChange Rows.kilnBooksSpec) :=
  OpenClaim.holds_of_wide 9 Try.f9 rfl rfl rfl rfl rfl rfl rfl ⟨rfl, rfl, rfl, rfl, rfl⟩ rfl rfl rfl rfl rfl (by kernel_rfl) Try.func9 (by kernel_rfl)
    (of_decide_eq_true (by kernel_rfl)) (by unfold Func.isWrapper; first | (rw [if_pos (by decide +kernel)]; kernel_rfl) | (rw [if_neg (by decide +kernel)]; exact ⟨rfl, rfl⟩))
    (fun os started H enc _ => lifted os started H enc)
theorem proved : Rows.KilnBooksSaid := over
end Go.Proofs.Ytlhekifmkkgjlaa.kilnBooks
