/- School, plain: the schools of the top laws: two features with three choices, a rule for all cases, and one for each choice that is told. -/
import Derived.Test.YtfbnpiafoaoddaaDoorMergesF
import Derived.Laws.OwnMore
import Derived.Maps.AppendAt
set_option linter.unusedSimpArgs false
set_option linter.unusedVariables false
set_option linter.unnecessarySimpa false
namespace Go.Proofs.YtfbnpiafoaoddaaDoor
open Go Go.RowKit Go.Shelf
set_option maxHeartbeats 4000000
set_option maxRecDepth 100000
/-- the rule for all cases, and the one for a choice -/
def lk0 (u : Nat → Int) : Rl := ⟨[], 0, u 0 % 1000⟩
def lkR (u : Nat → Int) (i : Nat) : Rl := ⟨[(((i / 3 : Nat) : Int), ((2 ^ (i % 3) : Nat) : Int))], 0, u (i + 1) % 1000⟩
/-- the rules behind n choices -/
def lkF (u : Nat → Int) : Nat → List Rl
  | 0 => [lk0 u]
  | i + 1 => if 0 < u (i + 1) % 3 then lkF u i ++ [lkR u i] else lkF u i
def lkS (u : Nat → Int) : Sch := ⟨[3, 3], 1, lkF u 6⟩
theorem lkF_mem (u : Nat → Int) : ∀ n r, r ∈ lkF u n → r = lk0 u ∨ ∃ i, i < n ∧ r = lkR u i
  | 0, r, h => .inl (List.mem_singleton.1 h)
  | n + 1, r, h => by
    have ih := lkF_mem u n r
    unfold lkF at h
    split at h
    · rcases List.mem_append.1 h with h | h
      · rcases ih h with h | ⟨i, hi, h⟩
        · exact .inl h
        · exact .inr ⟨i, by omega, h⟩
      · exact .inr ⟨n, by omega, List.mem_singleton.1 h⟩
    · rcases ih h with h | ⟨i, hi, h⟩
      · exact .inl h
      · exact .inr ⟨i, by omega, h⟩
theorem lkF_len (u : Nat → Int) : ∀ n, 1 ≤ (lkF u n).length ∧ (lkF u n).length ≤ n + 1
  | 0 => ⟨Nat.le_refl _, Nat.le_refl _⟩
  | n + 1 => by
    have ih := lkF_len u n
    unfold lkF
    split
    · rw [List.length_append, List.length_singleton]; omega
    · omega
theorem lkF_first (u : Nat → Int) : ∀ n, (lkF u n).getD 0 r0 = lk0 u
  | 0 => rfl
  | n + 1 => by
    have ih := lkF_first u n
    have hl := (lkF_len u n).1
    unfold lkF
    split
    · rw [List.getD_eq_getElem?_getD, List.getElem?_append_left (by omega), ← List.getD_eq_getElem?_getD, ih]
    · exact ih
theorem lk_test : ∀ i, i < 6 → tstB 2 (evF [3, 3]) (((i / 3 : Nat) : Int), ((2 ^ (i % 3) : Nat) : Int)) = true := by
  intro i hi
  rcases (by omega : i = 0 ∨ i = 1 ∨ i = 2 ∨ i = 3 ∨ i = 4 ∨ i = 5) with h | h | h | h | h | h <;> subst h <;> decide
theorem lk_ok (u : Nat → Int) : schB (lkS u) = true := by
  unfold schB
  rw [Bool.and_eq_true, Bool.and_eq_true, Bool.and_eq_true, Bool.and_eq_true]
  refine ⟨rfl, rfl, decide_eq_true ?_, rfl, List.all_eq_true.2 fun r hr => ?_⟩
  · have := (lkF_len u 6).2
    show (lkF u 6).length ≤ 12
    omega
  · unfold rlB
    rw [Bool.and_eq_true, Bool.and_eq_true, Bool.and_eq_true]
    rcases lkF_mem u 6 r hr with rfl | ⟨i, hi, rfl⟩
    · refine ⟨rfl, rfl, decide_eq_true ?_, rfl⟩
      show 0 ≤ u 0 % 1000 ∧ u 0 % 1000 ≤ 999
      omega
    · refine ⟨rfl, rfl, decide_eq_true ?_, ?_⟩
      · show 0 ≤ u (i + 1) % 1000 ∧ u (i + 1) % 1000 ≤ 999
        omega
      · show [(((i / 3 : Nat) : Int), ((2 ^ (i % 3) : Nat) : Int))].all (tstB 2 (evF [3, 3])) = true
        rw [List.all_cons, lk_test i hi]
        rfl
theorem lk_sc (u : Nat → Int) : ScI (lkS u) := by
  intro r hr t ht
  rcases lkF_mem u 6 r hr with rfl | ⟨i, hi, rfl⟩
  · cases ht
  · have ht2 : t = (((i / 3 : Nat) : Int), ((2 ^ (i % 3) : Nat) : Int)) := List.mem_singleton.1 ht
    rw [ht2]
    rcases (by omega : i % 3 = 0 ∨ i % 3 = 1 ∨ i % 3 = 2) with h | h | h <;> rw [h] <;> (dsimp only; decide)
/-- in each case something is said, or different things -/
theorem lk_says (u : Nat → Int) {c : Nat} (hc : c < 9) :
    ((vdF (lkS u) 0 c).2 = 0 ∨ (vdF (lkS u) 0 c).2 = 110) ∧ 0 ≤ (vdF (lkS u) 0 c).1 ∧ (vdF (lkS u) 0 c).1 ≤ 999 := by
  have hs := lk_ok u
  have hic : icB (lkS u).fs (clL (lkS u).fs c) = true := cl_ic (schB_ok hs).fs c
  have h0 : 0 < (lkS u).rs.length := (lkF_len u 6).1
  refine ⟨dcF_sure hs h0 (all_ap hs (lk_sc u) hic h0 ?_ ?_), dcF_range hs _ _⟩
  · show ((lkF u 6).getD 0 r0).ask = 0
    rw [lkF_first]; rfl
  · show ((lkF u 6).getD 0 r0).when_ = []
    rw [lkF_first]; rfl
theorem lk_dec (u : Nat → Int) {c : Nat} (hc : c < 9) : ((decR (lkS u) [((c / 3 : Nat) : Int), ((c % 3 : Nat) : Int)] 0).1, (decR (lkS u) [((c / 3 : Nat) : Int), ((c % 3 : Nat) : Int)] 0).2.1) = vdF (lkS u) 0 c := by
  have hs := lk_ok u
  have hic : icB (lkS u).fs (clL (lkS u).fs c) = true := cl_ic (schB_ok hs).fs c
  have e : clL (lkS u).fs c = [((c / 3 : Nat) : Int), ((c % 3 : Nat) : Int)] := case3 c hc
  rw [← e, decR_ok hs ⟨by decide, by show (0 : Int) ≤ 1 - 1; decide⟩ hic]
  rfl
/-- what Differ returns of two such schools -/
theorem lk_diff (u v : Nat → Int) : ((dfR (lkS u) (lkS v) 0).2 = 0 ∨ (dfR (lkS u) (lkS v) 0).2 = 7) ∧ ((dfR (lkS u) (lkS v) 0).2 = 7 → ∀ c, c < 9 → vdF (lkS u) 0 c = vdF (lkS v) 0 c) := by
  have hb : (schB (lkS u) && schB (lkS v)) = true := by rw [lk_ok, lk_ok]; rfl
  have hq : (0 : Int) ≤ 0 ∧ (0 : Int) ≤ min (lkS u).q (lkS v).q - 1 := ⟨Int.le_refl _, by show (0 : Int) ≤ min 1 1 - 1; decide⟩
  have hp : pr (lkS u).fs (lkS u).fs.length = 9 := rfl
  have hk : ∀ n, (dfK (lkS u) (lkS v) 0 n = none ∧ ∀ k, k < n → vdF (lkS u) 0 k = vdF (lkS v) 0 k) ∨ ∃ k, dfK (lkS u) (lkS v) 0 n = some k := by
    intro n
    cases h : dfK (lkS u) (lkS v) 0 n with
    | some k => exact .inr ⟨k, rfl⟩
    | none =>
      refine .inl ⟨rfl, ?_⟩
      induction n with
      | zero => intro k hk; omega
      | succ n ih =>
        have h' : (match dfK (lkS u) (lkS v) 0 n with | some k => some k | none => if vdF (lkS u) 0 n = vdF (lkS v) 0 n then none else some n) = none := h
        cases h2 : dfK (lkS u) (lkS v) 0 n with
        | some k => rw [h2] at h'; cases h'
        | none =>
          rw [h2] at h'
          dsimp only at h'
          intro k hk
          rcases (by omega : k < n ∨ k = n) with h3 | rfl
          · exact ih h2 k h3
          · rcases Classical.em (vdF (lkS u) 0 k = vdF (lkS v) 0 k) with h4 | h4
            · exact h4
            · rw [if_neg h4] at h'; cases h'
  rcases hk (pr (lkS u).fs (lkS u).fs.length) with ⟨h1, h2⟩ | ⟨k, h1⟩
  · rw [dfR_none hb hq rfl h1]
    exact ⟨.inr rfl, fun _ c hc => h2 c (by rw [hp]; exact hc)⟩
  · rw [dfR_some hb hq rfl h1]
    exact ⟨.inl rfl, fun h => absurd (show (0 : Int) = 7 from h) (by decide)⟩
end Go.Proofs.YtfbnpiafoaoddaaDoor
/- Link: the school of the top laws, made. -/
namespace Go.Proofs.YtfbnpiafoaoddaaDoor
open Go Go.RowKit Go.Shelf
set_option maxHeartbeats 8000000
set_option maxRecDepth 100000
/-- what linkSchool keeps -/
structure LkI (w W : World) (T : Nat) (u : Nat → Int) (fa : Option Addr) (fc : Nat) (rs : List Rl) (V : Value) (L : List R3) : Prop where
  below : Below w.heap.size w W
  lo : w.heap.size + 2 ≤ T
  blkG : Blk W w.heap.size 23 (rowV 7 fun k => .int .u16 (u k))
  blkR : Blk W (w.heap.size + 1) 29 #[.slice none 0 0, .int .i64 0, .slice none 0 0]
  blk : Blk W T 29 #[.slice fa 2 fc, .int .i64 1, V]
  fsO : OwnJ W w.heap.size (.slice fa 2 fc) [3, 3]
  rsO : Own3 W w.heap.size V L
  len : L.length = rs.length
  rl : ∀ j, j < rs.length → ∃ a c, L.getD j r30 = (.slice a (rs.getD j r0).when_.length c, (rs.getD j r0).ask, (rs.getD j r0).say) ∧ OwnQ W w.heap.size (.slice a (rs.getD j r0).when_.length c) (rs.getD j r0).when_
section
variable {w W W' : World} {T : Nat} {u : Nat → Int} {fa : Option Addr} {fc : Nat} {rs : List Rl} {V : Value} {L : List R3}
theorem LkI.ext (h : LkI w W T u fa fc rs V L) (hb : Below W.heap.size W W') : LkI w W' T u fa fc rs V L :=
  ⟨h.below.trans (hb.mono h.below.size), h.lo, h.blkG.ext hb, h.blkR.ext hb, h.blk.ext hb, h.fsO.ext hb, h.rsO.ext hb, h.len, fun j hj => by
    obtain ⟨a, c, h1, h2⟩ := h.rl j hj
    exact ⟨a, c, h1, h2.ext hb⟩⟩
theorem LkI.put (h : LkI w W T u fa fc rs V L) (r : Rl) (a : Option Addr) (c : Nat) (hk : rs.length ≤ 1000)
    (ho : OwnQ W w.heap.size (.slice a r.when_.length c) r.when_) :
    ∃ A c' w6, (Builtin.append_ #[27, 27] 27 #[V, .slice (some ⟨W.heap.size, 0, none⟩) 1 1]).run Tryd.prog (W.alloc (.cells #[.slice a r.when_.length c, .int .i64 r.ask, .int .i64 r.say] 56)) = .ok (.slice A (rs.length + 1) c') w6 ∧
      Blk w6 T 29 #[.slice fa 2 fc, .int .i64 1, V] ∧ Blk w6 w.heap.size 23 (rowV 7 fun k => .int .u16 (u k)) ∧
      LkI w (w6.setCell ⟨T, 2, none⟩ (.slice A (rs.length + 1) c')) T u fa fc (rs ++ [r]) (.slice A (rs.length + 1) c') (L ++ [(.slice a r.when_.length c, r.ask, r.say)]) := by
  obtain ⟨A, c', w6, hr, h6, hg⟩ := h.rsO.push (.slice a r.when_.length c, r.ask, r.say) rfl (by rw [h.len]; omega) h.below.size
  rw [h.len] at hr h6
  have hBA : Below W.heap.size W (W.alloc (.cells #[.slice a r.when_.length c, .int .i64 r.ask, .int .i64 r.say] 56)) := (Below.refl _ _).alloc (Nat.le_refl _) _
  have h5 := h.ext hBA
  have ho5 := ho.ext hBA
  dsimp only at hg hr
  have kx6 : KX (W.alloc (.cells #[.slice a r.when_.length c, .int .i64 r.ask, .int .i64 r.say] 56)) w6 T V.ownBlock := (KX.refl _ _ _).grown hg
  have kx7 := kx6.set 2 (.slice A (rs.length + 1) c')
  have nT := own_blk_ne h5.rsO h5.blk (by decide)
  have nG := own_blk_ne h5.rsO h5.blkG (by decide)
  have nR := own_blk_ne h5.rsO h5.blkR (by decide)
  have l1 := h.lo
  have b6 : Blk w6 T 29 #[.slice fa 2 fc, .int .i64 1, V] := h5.blk.grown hg (fun e => nT e.symm)
  have g6 : Blk w6 w.heap.size 23 (rowV 7 fun k => .int .u16 (u k)) := h5.blkG.grown hg (fun e => nG e.symm)
  refine ⟨A, c', w6, hr, b6, g6, ⟨?_, h.lo, blk_kx h5.blkG kx7 (by omega) (fun e => nG e.symm), blk_kx h5.blkR kx7 (by omega) (fun e => nR e.symm), ?_, ?_, ?_, ?_, fun j hj => ?_⟩⟩
  · exact (h5.below.grown hg h5.below.size (fun j hj => (World.ownsRow.lt h5.rsO j hj).1)).setCell (p := ⟨T, 2, none⟩) (by show w.heap.size ≤ T; omega) _
  · exact b6.set_ 2 _
  · exact own_kx h5.fsO kx7 (own_blk_ne h5.fsO h5.blk (by decide)) (own_own_ne h5.fsO h5.rsO (by decide))
  · have kx8 : KX w6 (w6.setCell ⟨T, 2, none⟩ (.slice A (rs.length + 1) c')) T none := (KX.refl w6 T none).set 2 _
    exact own_kx h6 kx8 (own_blk_ne h6 b6 (by decide)) none_or
  · rw [List.length_append, List.length_append, h.len]; rfl
  · rw [List.length_append, List.length_singleton] at hj
    by_cases e : j = rs.length
    · subst e
      have e1 : (rs ++ [r]).getD rs.length r0 = r := by
        rw [List.getD_eq_getElem?_getD, List.getElem?_append_right (Nat.le_refl _), Nat.sub_self]; rfl
      rw [e1]
      refine ⟨a, c, ?_, own_kx ho5 kx7 (own_blk_ne ho5 h5.blk (by decide)) (own_own_ne ho5 h5.rsO (by decide))⟩
      rw [List.getD_eq_getElem?_getD, List.getElem?_append_right (by rw [h.len]; exact Nat.le_refl _), h.len, Nat.sub_self]
      rfl
    · have hj2 : j < rs.length := by omega
      have e1 : (rs ++ [r]).getD j r0 = rs.getD j r0 := by
        rw [List.getD_eq_getElem?_getD, List.getElem?_append_left hj2, ← List.getD_eq_getElem?_getD]
      rw [e1]
      obtain ⟨a1, c1, e2, o1⟩ := h5.rl j hj2
      refine ⟨a1, c1, ?_, own_kx o1 kx7 (own_blk_ne o1 h5.blk (by decide)) (own_own_ne o1 h5.rsO (by decide))⟩
      rw [← e2, List.getD_eq_getElem?_getD, List.getElem?_append_left (by rw [h.len]; exact hj2), List.getD_eq_getElem?_getD]
/-- what is made is a school whose lists are own -/
theorem LkI.own (h : LkI w W T u fa fc rs V L) (w' : World) (hk : KX W w' (w.heap.size + 1) none) : ∃ d' : Ad_, V = .slice d'.ra rs.length d'.rc ∧ d'.fa = fa ∧ d'.fc = fc ∧ ScO w' w.heap.size d' ⟨[3, 3], 1, rs⟩ := by
  obtain ⟨A, c, hV⟩ := own_shape h.rsO
  rw [h.len] at hV
  subst hV
  have hc : ∀ j, ∃ ac : Option Addr × Nat, j < rs.length → L.getD j r30 = (.slice ac.1 (rs.getD j r0).when_.length ac.2, (rs.getD j r0).ask, (rs.getD j r0).say) ∧ OwnQ W w.heap.size (.slice ac.1 (rs.getD j r0).when_.length ac.2) (rs.getD j r0).when_ := fun j => by
    by_cases hj : j < rs.length
    · obtain ⟨a, c, h1, h2⟩ := h.rl j hj
      exact ⟨(a, c), fun _ => ⟨h1, h2⟩⟩
    · exact ⟨(none, 0), fun h => absurd h hj⟩
  obtain ⟨f, hf⟩ := Classical.axiomOfChoice hc
  refine ⟨⟨fa, fc, A, c, fun j => (f j).1, fun j => (f j).2⟩, rfl, rfl, rfl, ScO.kx ?_ h.blkR hk⟩
  have e1 := h.rsO
  exact ⟨h.fsO, L, e1, h.len, fun j hj => hf j hj⟩
end
theorem OwnQ.one (W : World) (base : Nat) (t : Int × Int) (hb : base ≤ W.heap.size) : OwnQ (W.alloc (.cells #[.int .i64 t.1, .int .i64 t.2] 59)) base (.slice (some ⟨W.heap.size, 0, none⟩) 1 1) [t] :=
  World.ownsRow_lit W #[.int .i64 t.1, .int .i64 t.2] 1 hb (by unfold maxLen; decide) rfl
theorem lk_init (u : Nat → Int) (w : World) : LkI w (((((w.alloc (.cells (rowV 7 fun k => .int .u16 (u k)) 23)).alloc (.cells #[.slice none 0 0, .int .i64 0, .slice none 0 0] 29)).alloc (.cells #[.int .i64 3, .int .i64 3] 3)).alloc (.cells #[.slice none 0 0, .int .i64 0, .int .i64 (u 0 % 1000)] 56)).alloc (.cells #[.slice (some ⟨w.heap.size + 2, 0, none⟩) 2 2, .int .i64 1, .slice (some ⟨w.heap.size + 3, 0, none⟩) 1 1] 29)) (w.heap.size + 4) u (some ⟨w.heap.size + 2, 0, none⟩) 2 [lk0 u] (.slice (some ⟨w.heap.size + 3, 0, none⟩) 1 1) [(.slice none 0 0, 0, u 0 % 1000)] := by
  have b0 : Blk (((((w.alloc (.cells (rowV 7 fun k => .int .u16 (u k)) 23)).alloc (.cells #[.slice none 0 0, .int .i64 0, .slice none 0 0] 29)).alloc (.cells #[.int .i64 3, .int .i64 3] 3)).alloc (.cells #[.slice none 0 0, .int .i64 0, .int .i64 (u 0 % 1000)] 56)).alloc (.cells #[.slice (some ⟨w.heap.size + 2, 0, none⟩) 2 2, .int .i64 1, .slice (some ⟨w.heap.size + 3, 0, none⟩) 1 1] 29)) w.heap.size 23 (rowV 7 fun k => .int .u16 (u k)) := ((((Blk.new w _ _).alloc _).alloc _).alloc _).alloc _
  have b1 : Blk (((((w.alloc (.cells (rowV 7 fun k => .int .u16 (u k)) 23)).alloc (.cells #[.slice none 0 0, .int .i64 0, .slice none 0 0] 29)).alloc (.cells #[.int .i64 3, .int .i64 3] 3)).alloc (.cells #[.slice none 0 0, .int .i64 0, .int .i64 (u 0 % 1000)] 56)).alloc (.cells #[.slice (some ⟨w.heap.size + 2, 0, none⟩) 2 2, .int .i64 1, .slice (some ⟨w.heap.size + 3, 0, none⟩) 1 1] 29)) (w.heap.size + 1) 29 #[.slice none 0 0, .int .i64 0, .slice none 0 0] := by simpa using (((Blk.new (w.alloc (.cells (rowV 7 fun k => .int .u16 (u k)) 23)) 29 #[.slice none 0 0, .int .i64 0, .slice none 0 0]).alloc (.cells #[.int .i64 3, .int .i64 3] 3)).alloc (.cells #[.slice none 0 0, .int .i64 0, .int .i64 (u 0 % 1000)] 56)).alloc (.cells #[.slice (some ⟨w.heap.size + 2, 0, none⟩) 2 2, .int .i64 1, .slice (some ⟨w.heap.size + 3, 0, none⟩) 1 1] 29)
  have b4 : Blk (((((w.alloc (.cells (rowV 7 fun k => .int .u16 (u k)) 23)).alloc (.cells #[.slice none 0 0, .int .i64 0, .slice none 0 0] 29)).alloc (.cells #[.int .i64 3, .int .i64 3] 3)).alloc (.cells #[.slice none 0 0, .int .i64 0, .int .i64 (u 0 % 1000)] 56)).alloc (.cells #[.slice (some ⟨w.heap.size + 2, 0, none⟩) 2 2, .int .i64 1, .slice (some ⟨w.heap.size + 3, 0, none⟩) 1 1] 29)) (w.heap.size + 4) 29 #[.slice (some ⟨w.heap.size + 2, 0, none⟩) 2 2, .int .i64 1, .slice (some ⟨w.heap.size + 3, 0, none⟩) 1 1] := by simpa using Blk.new ((((w.alloc (.cells (rowV 7 fun k => .int .u16 (u k)) 23)).alloc (.cells #[.slice none 0 0, .int .i64 0, .slice none 0 0] 29)).alloc (.cells #[.int .i64 3, .int .i64 3] 3)).alloc (.cells #[.slice none 0 0, .int .i64 0, .int .i64 (u 0 % 1000)] 56)) 29 #[.slice (some ⟨w.heap.size + 2, 0, none⟩) 2 2, .int .i64 1, .slice (some ⟨w.heap.size + 3, 0, none⟩) 1 1]
  have s2 : ((w.alloc (.cells (rowV 7 fun k => .int .u16 (u k)) 23)).alloc (.cells #[.slice none 0 0, .int .i64 0, .slice none 0 0] 29)).heap.size = w.heap.size + 2 := by simp
  have s3 : (((w.alloc (.cells (rowV 7 fun k => .int .u16 (u k)) 23)).alloc (.cells #[.slice none 0 0, .int .i64 0, .slice none 0 0] 29)).alloc (.cells #[.int .i64 3, .int .i64 3] 3)).heap.size = w.heap.size + 3 := by simp
  have hB : Below w.heap.size w (((((w.alloc (.cells (rowV 7 fun k => .int .u16 (u k)) 23)).alloc (.cells #[.slice none 0 0, .int .i64 0, .slice none 0 0] 29)).alloc (.cells #[.int .i64 3, .int .i64 3] 3)).alloc (.cells #[.slice none 0 0, .int .i64 0, .int .i64 (u 0 % 1000)] 56)).alloc (.cells #[.slice (some ⟨w.heap.size + 2, 0, none⟩) 2 2, .int .i64 1, .slice (some ⟨w.heap.size + 3, 0, none⟩) 1 1] 29)) := (((((Below.refl _ _).alloc (Nat.le_refl _) _).alloc (by simp) _).alloc (by simp only [World.size_alloc]; omega) _).alloc (by simp only [World.size_alloc]; omega) _).alloc (by simp only [World.size_alloc]; omega) _
  have j2 : OwnJ (((w.alloc (.cells (rowV 7 fun k => .int .u16 (u k)) 23)).alloc (.cells #[.slice none 0 0, .int .i64 0, .slice none 0 0] 29)).alloc (.cells #[.int .i64 3, .int .i64 3] 3)) w.heap.size (.slice (some ⟨w.heap.size + 2, 0, none⟩) 2 2) [3, 3] := by
    have := World.ownsRow_lit (base := w.heap.size) (e := 3) (size := 1) ((w.alloc (.cells (rowV 7 fun k => .int .u16 (u k)) 23)).alloc (.cells #[.slice none 0 0, .int .i64 0, .slice none 0 0] 29)) #[.int .i64 3, .int .i64 3] 2 (by rw [s2]; omega) (by unfold maxLen; decide) rfl
    rw [s2] at this
    exact this
  have j3 : Own3 ((((w.alloc (.cells (rowV 7 fun k => .int .u16 (u k)) 23)).alloc (.cells #[.slice none 0 0, .int .i64 0, .slice none 0 0] 29)).alloc (.cells #[.int .i64 3, .int .i64 3] 3)).alloc (.cells #[.slice none 0 0, .int .i64 0, .int .i64 (u 0 % 1000)] 56)) w.heap.size (.slice (some ⟨w.heap.size + 3, 0, none⟩) 1 1) [(.slice none 0 0, 0, u 0 % 1000)] := by
    have := World.ownsRow_lit (base := w.heap.size) (e := 56) (size := 3) (((w.alloc (.cells (rowV 7 fun k => .int .u16 (u k)) 23)).alloc (.cells #[.slice none 0 0, .int .i64 0, .slice none 0 0] 29)).alloc (.cells #[.int .i64 3, .int .i64 3] 3)) #[.slice none 0 0, .int .i64 0, .int .i64 (u 0 % 1000)] 1 (by rw [s3]; omega) (by unfold maxLen; decide) rfl
    rw [s3] at this
    exact this
  refine ⟨hB, by omega, b0, b1, b4, (World.ownsRow.alloc (World.ownsRow.alloc j2 _) _), World.ownsRow.alloc j3 _, rfl, fun j hj => ?_⟩
  obtain rfl : j = 0 := by simpa using hj
  exact ⟨none, 0, rfl, ⟨rfl, .inl ⟨rfl, rfl⟩⟩⟩
end Go.Proofs.YtfbnpiafoaoddaaDoor
/- Link: linkSchool walked. -/
namespace Go.Proofs.YtfbnpiafoaoddaaDoor
open List renaming getElem_toArray → glA, getElem_cons_zero → glB, getElem_cons_succ → glC, setIfInBounds_toArray → glD, set_cons_zero → glE, set_cons_succ → glF
open Go Go.RowKit Go.Shelf
set_option maxHeartbeats 8000000
set_option maxRecDepth 100000
def LkPost (w : World) (u : Nat → Int) (e : Ending) (w' : World) : Prop := ∃ d, e = .returned (scV d (lkS u)) ∧ ScO w' w.heap.size d (lkS u) ∧ Below w.heap.size w w'
theorem linkSchool_any (u : Nat → Int) (w : World) (hu : ∀ k, k < 7 → 0 ≤ u k ∧ u k ≤ 65535) :
    Calls Tryd.prog 5 #[.agg #[.int .u16 (u 0), .int .u16 (u 1), .int .u16 (u 2), .int .u16 (u 3), .int .u16 (u 4), .int .u16 (u 5), .int .u16 (u 6)]] w (LkPost w u) := by
  have HU := hide hu
  have HI0 : Hid (LkI w (((((w.alloc (.cells #[.int .u16 (u 0), .int .u16 (u 1), .int .u16 (u 2), .int .u16 (u 3), .int .u16 (u 4), .int .u16 (u 5), .int .u16 (u 6)] 23)).alloc (.cells #[.slice none 0 0, .int .i64 0, .slice none 0 0] 29)).alloc (.cells #[.int .i64 3, .int .i64 3] 3)).alloc (.cells #[.slice none 0 0, .int .i64 0, .int .i64 (u 0 % 1000)] 56)).alloc (.cells #[.slice (some ⟨w.heap.size + 1 + 1, 0, none⟩) 2 2, .int .i64 1, .slice (some ⟨w.heap.size + 1 + 1 + 1, 0, none⟩) 1 1] 29)) (w.heap.size + 1 + 1 + 1 + 1) u (some ⟨w.heap.size + 1 + 1, 0, none⟩) 2 [lk0 u] (.slice (some ⟨w.heap.size + 1 + 1 + 1, 0, none⟩) 1 1) [(.slice none 0 0, 0, u 0 % 1000)]) := hide (lk_init u w)
  obtain ⟨h0, h1⟩ := hu 0 (by omega)
  have e1 : (u 0).tmod 1000 = u 0 % 1000 := Int.tmod_eq_emod_of_nonneg h0
  have e2 : IntKind.i64.wrap (u 0 % 1000) = u 0 % 1000 := IntWalk.i64_in _ (by omega)
  clear hu
  go_enter Tryd.func5, Tryd.ntmps5
  go_upto_region 2 with fail
  generalize (((((w.alloc (.cells #[.int .u16 (u 0), .int .u16 (u 1), .int .u16 (u 2), .int .u16 (u 3), .int .u16 (u 4), .int .u16 (u 5), .int .u16 (u 6)] 23)).alloc (.cells #[.slice none 0 0, .int .i64 0, .slice none 0 0] 29)).alloc (.cells #[.int .i64 3, .int .i64 3] 3)).alloc (.cells #[.slice none 0 0, .int .i64 0, .int .i64 (u 0 % 1000)] 56)).alloc (.cells #[.slice (some ⟨w.heap.size + 1 + 1, 0, none⟩) 2 2, .int .i64 1, .slice (some ⟨w.heap.size + 1 + 1 + 1, 0, none⟩) 1 1] 29)) = w5 at HI0 ⊢
  obtain ⟨T, hT⟩ : ∃ x, w.heap.size + 1 + 1 + 1 + 1 = x := ⟨_, rfl⟩
  rw [hT] at HI0 ⊢
  have HTT := hide hT
  clear hT
  obtain ⟨fa, hfa⟩ : ∃ x, (some ⟨w.heap.size + 1 + 1, 0, none⟩ : Option Addr) = x := ⟨_, rfl⟩
  rw [hfa] at HI0 ⊢
  clear hfa
  clear e1 e2 h0 h1
  go_wp2_with fail
  go_loopw [4] (fun i wr => ∃ (k : Nat) (V : Value) (L : List R3), k ≤ 6 ∧ i = .int .i64 k ∧ Hid (LkI w wr T u fa 2 (lkF u k) V L)) (fun i _ => 6 - (intOf i).toNat)
  case atStart => exact ⟨0, _, _, Nat.zero_le _, rfl, HI0⟩
  case round =>
    obtain ⟨k, V, L, hk, rfl, HK⟩ := hrel
    clear HI0
    have hst : IntKind.i64.wrap ((k : Int) + 1) = ((k + 1 : Nat) : Int) := by rw [IntWalk.i64_in _ (by omega)]; omega
    by_cases hlt : k < 6
    · have hlt' : (k : Int) < 6 := by omega
      obtain ⟨h0, h1⟩ := HU.out (k + 1) (by omega)
      have q1 : wr.cell? ⟨w.heap.size, k + 1, none⟩ = some (.int .u16 (u (k + 1))) := by rw [HK.out.blkG.cell]; exact rowV_get 7 _ (by omega)
      obtain ⟨s, hs⟩ : ∃ x, u (k + 1) = x := ⟨_, rfl⟩
      rw [hs] at h0 h1 q1
      have e1 : s.tmod 3 = s % 3 := Int.tmod_eq_emod_of_nonneg h0
      have k7 : k + 1 < 7 := by omega
      by_cases h3 : 0 < s % 3
      · go_upto_region 6 with fail
        obtain ⟨AV, cV, hv⟩ := own_shape HK.out.rsO
        rw [HK.out.len] at hv
        subst hv
        have hnl := lkF_len u k
        have HR1 : Hid (lkF u (k + 1) = lkF u k ++ [lkR u k]) := hide (by rw [lkF, hs, if_pos h3])
        have HS := hide hs
        clear hs
        have e2 : (k : Int).tdiv 3 = ((k / 3 : Nat) : Int) := by rw [Int.tdiv_eq_ediv_of_nonneg (by omega)]; omega
        have e3 : (k : Int).tmod 3 = ((k % 3 : Nat) : Int) := by rw [Int.tmod_eq_emod_of_nonneg (by omega)]; omega
        have hc3 : k % 3 = 0 ∨ k % 3 = 1 ∨ k % 3 = 2 := by omega
        have hkR : lkR u k = ⟨[(((k / 3 : Nat) : Int), ((2 ^ (k % 3) : Nat) : Int))], 0, s % 1000⟩ := by unfold lkR; rw [HS.out]
        rw [hkR] at HR1
        obtain ⟨P, hP⟩ : ∃ x : Int, ((2 ^ (k % 3) : Nat) : Int) = x := ⟨_, rfl⟩
        have hPi : (2 : Int) ^ (((k % 3 : Nat) : Int)).toNat = P := by rw [← hP, Int.toNat_natCast, Int.natCast_pow]; rfl
        have hPb : 1 ≤ P ∧ P ≤ 4 := by rcases hc3 with h | h | h <;> (rw [← hP, h]; decide)
        rw [hP] at HR1
        have hab : 0 ≤ ((k / 3 : Nat) : Int) ∧ ((k / 3 : Nat) : Int) ≤ 1 := by omega
        have hcb : 0 ≤ ((k % 3 : Nat) : Int) ∧ ((k % 3 : Nat) : Int) ≤ 2 := by omega
        generalize ((k / 3 : Nat) : Int) = a at e2 hab HR1
        generalize ((k % 3 : Nat) : Int) = c1 at e3 hcb hPi
        have p1 : IntKind.u64.wrap c1 = c1 := IntWalk.u64_in _ (by omega)
        have p2 : IntKind.i64.wrap (1 * 2 ^ c1.toNat) = P := by rw [Int.one_mul, hPi]; exact IntWalk.i64_in _ (by omega)
        have p3 : IntKind.i64.wrap (2 ^ c1.toNat) = P := by rw [hPi]; exact IntWalk.i64_in _ (by omega)
        have p4 : c1 ≤ 64 := by omega
        have i0 : (0 : Int) ≤ (k : Int) + 1 := by omega
        have i7 : (k : Int) + 1 < 7 := by omega
        have p5 : 0 ≤ c1 := hcb.1
        have p6 : IntKind.i64.wrap a = a := IntWalk.i64_in _ (by omega)
        have s1 : s.tmod 1000 = s % 1000 := Int.tmod_eq_emod_of_nonneg h0
        have s2 : IntKind.i64.wrap (s % 1000) = s % 1000 := IntWalk.i64_in _ (by omega)
        clear hP hPi hc3 hkR e1 q1
        obtain ⟨rs, hrs⟩ : ∃ x, lkF u k = x := ⟨_, rfl⟩
        rw [hrs] at HK hnl HR1
        clear hrs
        obtain ⟨nl, hnl2⟩ : ∃ x, rs.length = x := ⟨_, rfl⟩
        have HNL := hide hnl2
        rw [hnl2] at HK hnl
        clear hnl2
        have HST : Hid (∀ W, Blk W T 29 #[.slice fa 2 2, .int .i64 1, .slice AV nl cV] → Blk W w.heap.size 23 (rowV 7 fun k => .int .u16 (u k)) → (W.cell? ⟨T, 2, none⟩ = some (.slice AV nl cV) ∧ W.cell? ⟨w.heap.size, k + 1, none⟩ = some (.int .u16 s))) := hide fun W h1 h2 => ⟨(blk3 h1).2.2.2.1, by rw [h2.cell, ← HS.out]; exact rowV_get 7 _ (by omega)⟩
        replace HK := hide (HK.out.ext (Below.refl wr.heap.size wr).drew)
        refine wp_region_J (fun W : World => (W.cell? ⟨T, 2, none⟩ = some (.slice AV nl cV) ∧ W.cell? ⟨w.heap.size, k + 1, none⟩ = some (.int .u16 s))) (by kernel_rfl) ?_
        generalize wr.drew = wd at HK ⊢
        refine wpAnyJ_take 0 (v := ?_) (by first | exact hF | exact wideFn) (HST.out _ HK.out.blk HK.out.blkG) rfl (by kernel_rfl) (by kernel_rfl) (by kernel_rfl) (by kernel_rfl) rfl ?_ (by first | exact fun _ _ _ h => h | exact fun _ _ _ h => hQ2 _ _ _ _ _ h) ?_
        rotate_left
        · intro W hSW
          simp only [glA, glB, glC]
          (try dsimp only at hSW)
          go_simp
          with_reducible rfl
        (try simp only [glA, glB, glC, Act.put, glD, glE, glF])
        refine wpAnyJ_take 1 (v := ?_) (by first | exact hF | exact wideFn) (HST.out _ HK.out.blk HK.out.blkG) rfl (by kernel_rfl) (by kernel_rfl) (by kernel_rfl) (by kernel_rfl) rfl ?_ (by first | exact fun _ _ _ h => h | exact fun _ _ _ h => hQ2 _ _ _ _ _ h) ?_
        rotate_left
        · intro W hSW
          simp only [glA, glB, glC]
          (try dsimp only at hSW)
          go_simp
          with_reducible rfl
        (try simp only [glA, glB, glC, Act.put, glD, glE, glF])
        refine wpAnyJ_take 2 (v := ?_) (by first | exact hF | exact wideFn) (HST.out _ HK.out.blk HK.out.blkG) rfl (by kernel_rfl) (by kernel_rfl) (by kernel_rfl) (by kernel_rfl) rfl ?_ (by first | exact fun _ _ _ h => h | exact fun _ _ _ h => hQ2 _ _ _ _ _ h) ?_
        rotate_left
        · intro W hSW
          simp only [glA, glB, glC]
          (try dsimp only at hSW)
          go_simp
          with_reducible rfl
        (try simp only [glA, glB, glC, Act.put, glD, glE, glF])
        refine wpAnyJ_take 3 (v := ?_) (by first | exact hF | exact wideFn) (HST.out _ HK.out.blk HK.out.blkG) rfl (by kernel_rfl) (by kernel_rfl) (by kernel_rfl) (by kernel_rfl) rfl ?_ (by first | exact fun _ _ _ h => h | exact fun _ _ _ h => hQ2 _ _ _ _ _ h) ?_
        rotate_left
        · intro W hSW
          simp only [glA, glB, glC]
          (try dsimp only at hSW)
          go_simp
          with_reducible rfl
        (try simp only [glA, glB, glC, Act.put, glD, glE, glF])
        refine wpAnyJ_take 4 (v := ?_) (by first | exact hF | exact wideFn) (HST.out _ HK.out.blk HK.out.blkG) rfl (by kernel_rfl) (by kernel_rfl) (by kernel_rfl) (by kernel_rfl) rfl ?_ (by first | exact fun _ _ _ h => h | exact fun _ _ _ h => hQ2 _ _ _ _ _ h) ?_
        rotate_left
        · intro W hSW
          simp only [glA, glB, glC]
          (try dsimp only at hSW)
          go_simp
          with_reducible rfl
        (try simp only [glA, glB, glC, Act.put, glD, glE, glF])
        refine wpAnyJ_take 5 (v := ?_) (by first | exact hF | exact wideFn) (HST.out _ HK.out.blk HK.out.blkG) rfl (by kernel_rfl) (by kernel_rfl) (by kernel_rfl) (by kernel_rfl) rfl ?_ (by first | exact fun _ _ _ h => h | exact fun _ _ _ h => hQ2 _ _ _ _ _ h) ?_
        rotate_left
        · intro W hSW
          simp only [glA, glB, glC]
          (try dsimp only at hSW)
          go_simp
          with_reducible rfl
        (try simp only [glA, glB, glC, Act.put, glD, glE, glF])
        refine wpAnyJ_take 6 (v := ?_) (by first | exact hF | exact wideFn) (HST.out _ HK.out.blk HK.out.blkG) rfl (by kernel_rfl) (by kernel_rfl) (by kernel_rfl) (by kernel_rfl) rfl ?_ (by first | exact fun _ _ _ h => h | exact fun _ _ _ h => hQ2 _ _ _ _ _ h) ?_
        rotate_left
        · intro W hSW
          simp only [glA, glB, glC]
          (try dsimp only at hSW)
          go_simp
          with_reducible rfl
        (try simp only [glA, glB, glC, Act.put, glD, glE, glF])
        refine wpAnyJ_take 7 (v := ?_) (by first | exact hF | exact wideFn) (HST.out _ HK.out.blk HK.out.blkG) rfl (by kernel_rfl) (by kernel_rfl) (by kernel_rfl) (by kernel_rfl) rfl ?_ (by first | exact fun _ _ _ h => h | exact fun _ _ _ h => hQ2 _ _ _ _ _ h) ?_
        rotate_left
        · intro W hSW
          simp only [glA, glB, glC]
          (try dsimp only at hSW)
          go_simp
          with_reducible rfl
        (try simp only [glA, glB, glC, Act.put, glD, glE, glF])
        refine wpAnyJ_take 8 (v := ?_) (by first | exact hF | exact wideFn) (HST.out _ HK.out.blk HK.out.blkG) rfl (by kernel_rfl) (by kernel_rfl) (by kernel_rfl) (by kernel_rfl) rfl ?_ (by first | exact fun _ _ _ h => h | exact fun _ _ _ h => hQ2 _ _ _ _ _ h) ?_
        rotate_left
        · intro W hSW
          simp only [glA, glB, glC]
          (try dsimp only at hSW)
          go_simp
          with_reducible rfl
        (try simp only [glA, glB, glC, Act.put, glD, glE, glF])
        refine wpAnyJ_take 10 (v := ?_) (by first | exact hF | exact wideFn) (HST.out _ HK.out.blk HK.out.blkG) rfl (by kernel_rfl) (by kernel_rfl) (by kernel_rfl) (by kernel_rfl) rfl ?_ (by first | exact fun _ _ _ h => h | exact fun _ _ _ h => hQ2 _ _ _ _ _ h) ?_
        rotate_left
        · intro W hSW
          simp only [glA, glB, glC]
          (try dsimp only at hSW)
          go_simp
          with_reducible rfl
        (try simp only [glA, glB, glC, Act.put, glD, glE, glF])
        refine wpAnyJ_take 11 (v := ?_) (by first | exact hF | exact wideFn) (HST.out _ HK.out.blk HK.out.blkG) rfl (by kernel_rfl) (by kernel_rfl) (by kernel_rfl) (by kernel_rfl) rfl ?_ (by first | exact fun _ _ _ h => h | exact fun _ _ _ h => hQ2 _ _ _ _ _ h) ?_
        rotate_left
        · intro W hSW
          simp only [glA, glB, glC]
          (try dsimp only at hSW)
          go_simp
          with_reducible rfl
        (try simp only [glA, glB, glC, Act.put, glD, glE, glF])
        refine wpAnyJ_take 12 (v := ?_) (by first | exact hF | exact wideFn) (HST.out _ HK.out.blk HK.out.blkG) rfl (by kernel_rfl) (by kernel_rfl) (by kernel_rfl) (by kernel_rfl) rfl ?_ (by first | exact fun _ _ _ h => h | exact fun _ _ _ h => hQ2 _ _ _ _ _ h) ?_
        rotate_left
        · intro W hSW
          simp only [glA, glB, glC]
          (try dsimp only at hSW)
          go_simp
          with_reducible rfl
        (try simp only [glA, glB, glC, Act.put, glD, glE, glF])
        refine wpAnyJ_take 13 (v := ?_) (by first | exact hF | exact wideFn) (HST.out _ HK.out.blk HK.out.blkG) rfl (by kernel_rfl) (by kernel_rfl) (by kernel_rfl) (by kernel_rfl) rfl ?_ (by first | exact fun _ _ _ h => h | exact fun _ _ _ h => hQ2 _ _ _ _ _ h) ?_
        rotate_left
        · intro W hSW
          simp only [glA, glB, glC]
          (try dsimp only at hSW)
          go_simp
          with_reducible rfl
        (try simp only [glA, glB, glC, Act.put, glD, glE, glF])
        refine wpAnyJ_take 14 (v := ?_) (by first | exact hF | exact wideFn) (HST.out _ HK.out.blk HK.out.blkG) rfl (by kernel_rfl) (by kernel_rfl) (by kernel_rfl) (by kernel_rfl) rfl ?_ (by first | exact fun _ _ _ h => h | exact fun _ _ _ h => hQ2 _ _ _ _ _ h) ?_
        rotate_left
        · intro W hSW
          simp only [glA, glB, glC]
          (try dsimp only at hSW)
          go_simp
          with_reducible rfl
        (try simp only [glA, glB, glC, Act.put, glD, glE, glF])
        refine wpAnyJ_take 15 (v := ?_) (by first | exact hF | exact wideFn) (HST.out _ HK.out.blk HK.out.blkG) rfl (by kernel_rfl) (by kernel_rfl) (by kernel_rfl) (by kernel_rfl) rfl ?_ (by first | exact fun _ _ _ h => h | exact fun _ _ _ h => hQ2 _ _ _ _ _ h) ?_
        rotate_left
        · intro W hSW
          simp only [glA, glB, glC]
          (try dsimp only at hSW)
          go_simp
          with_reducible rfl
        (try simp only [glA, glB, glC, Act.put, glD, glE, glF])
        have hBT : Below wd.heap.size wd (wd.alloc (.cells #[.int .i64 a, .int .i64 P] 59)) := (Below.refl _ _).alloc (Nat.le_refl _) _
        have HKT := hide (HK.out.ext hBT)
        have HQ := hide (OwnQ.one wd w.heap.size (a, P) HK.out.below.size)
        clear hBT
        refine wpAnyJ_one 9 rfl (by kernel_rfl) (fun K hK => ?_)
        simp only [glA, glB, glC]
        go_simp
        refine hK.out _ _ (fun _ => HST.out _ HKT.out.blk HKT.out.blkG) ?_
        clear hK K
        (try simp only [glA, glB, glC, Act.put, glD, glE, glF])
        generalize wd.alloc (.cells #[.int .i64 a, .int .i64 P] 59) = wt at HKT HQ ⊢
        refine wpAnyJ_take 16 (v := ?_) (by first | exact hF | exact wideFn) (HST.out _ HKT.out.blk HKT.out.blkG) rfl (by kernel_rfl) (by kernel_rfl) (by kernel_rfl) (by kernel_rfl) rfl ?_ (by first | exact fun _ _ _ h => h | exact fun _ _ _ h => hQ2 _ _ _ _ _ h) ?_
        rotate_left
        · intro W hSW
          simp only [glA, glB, glC]
          (try dsimp only at hSW)
          go_simp
          with_reducible rfl
        (try simp only [glA, glB, glC, Act.put, glD, glE, glF])
        obtain ⟨A6, c6, w6, hrun, hb6, hg6, hput⟩ := HKT.out.put ⟨[(a, P)], 0, s % 1000⟩ (some ⟨wd.heap.size, 0, none⟩) 1 (by rw [HNL.out]; omega) HQ.out
        rw [HNL.out] at hrun hput
        have HRUN := hide hrun
        have HPUT := hide hput
        have HB6 := hide hb6
        have HG6 := hide hg6
        have hBR : Below wt.heap.size wt (wt.alloc (.cells #[.slice (some ⟨wd.heap.size, 0, none⟩) 1 1, .int .i64 0, .int .i64 (s % 1000)] 56)) := (Below.refl _ _).alloc (Nat.le_refl _) _
        have HKR := hide (HKT.out.ext hBR)
        clear hrun hput hb6 hg6 hBR HQ
        refine wpAnyJ_one 17 rfl (by kernel_rfl) (fun K hK => ?_)
        simp only [glA, glB, glC]
        go_simp
        refine hK.out _ _ (fun _ => HST.out _ HKR.out.blk HKR.out.blkG) ?_
        clear hK K
        (try simp only [glA, glB, glC, Act.put, glD, glE, glF])
        refine wpAnyJ_one 18 rfl (by kernel_rfl) (fun K hK => ?_)
        rw [if_pos (by rfl)]
        refine wpIn_append_run (.tmp 24) (.tmp 40) 27 wideFn rfl rfl rfl HRUN.out ?_
        refine hK.out _ _ (fun _ => HST.out _ HB6.out HG6.out) ?_
        clear hK K
        (try simp only [glA, glB, glC, Act.put, glD, glE, glF])
        refine wpAnyJ_take 19 (v := ?_) (by first | exact hF | exact wideFn) (HST.out _ HB6.out HG6.out) rfl (by kernel_rfl) (by kernel_rfl) (by kernel_rfl) (by kernel_rfl) rfl ?_ (by first | exact fun _ _ _ h => h | exact fun _ _ _ h => hQ2 _ _ _ _ _ h) ?_
        rotate_left
        · intro W hSW
          simp only [glA, glB, glC]
          (try dsimp only at hSW)
          go_simp
          with_reducible rfl
        (try simp only [glA, glB, glC, Act.put, glD, glE, glF])
        obtain ⟨z6, z0, z1, z2, z3, z4, z5⟩ := blk3 HB6.out
        refine wpAnyJ_one 20 rfl (by kernel_rfl) (fun K hK => ?_)
        simp only [glA, glB, glC]
        go_simp
        refine hK.out _ _ (fun h => absurd h (by rw [show lastOp _ _ _ = true from by kernel_rfl]; simp)) ?_
        clear hK K
        (try simp only [glA, glB, glC, Act.put, glD, glE, glF])
        refine wpAnyJ_done (by kernel_rfl) ?_
        clear z0 z1 z2 z3 z4 z5 z6 HKR HKT HK HRUN HB6 HG6
        go_wp2_with fail
        go_roundw
        case rel => exact ⟨k + 1, _, _, by omega, by go_num, by rw [HR1.out]; exact HPUT⟩
        case measure => simp [intOf]; omega
      · go_wp2_with fail
        go_roundw
        case rel => exact ⟨k + 1, V, L, by omega, by go_num, by unfold lkF; rw [hs, if_neg h3]; exact HK⟩
        case measure => simp [intOf]; omega
    · obtain rfl : k = 6 := by omega
      have hnl : ¬ ((6 : Nat) : Int) < 6 := by omega
      obtain ⟨AV, cV, hv⟩ := own_shape HK.out.rsO
      rw [HK.out.len] at hv
      subst hv
      obtain ⟨nl, hnl2⟩ : ∃ x, (lkF u 6).length = x := ⟨_, rfl⟩
      have HNL := hide hnl2
      rw [hnl2] at HK
      clear hnl2
      obtain ⟨t1, t2, t3, t4, -⟩ := blk3 HK.out.blk
      obtain ⟨r1, r2, r3, r4, -⟩ := blk3 HK.out.blkR
      have rf0 := HK.out.blkR.frozen 0
      have rf1 := HK.out.blkR.frozen 1
      have rf2 := HK.out.blkR.frozen 2
      go_wp2_with fail
      have hw8 := HK.out.blkR.set3 (.slice fa 2 2) (.int .i64 1) (.slice AV nl cV)
      have kx : KX wr (((wr.setCell ⟨w.heap.size + 1, 0, none⟩ (.slice fa 2 2)).setCell ⟨w.heap.size + 1, 1, none⟩ (.int .i64 1)).setCell ⟨w.heap.size + 1, 2, none⟩ (.slice AV nl cV)) (w.heap.size + 1) none := (((KX.refl wr (w.heap.size + 1) none).set 0 _).set 1 _).set 2 _
      have hbf : Below w.heap.size w (((wr.setCell ⟨w.heap.size + 1, 0, none⟩ (.slice fa 2 2)).setCell ⟨w.heap.size + 1, 1, none⟩ (.int .i64 1)).setCell ⟨w.heap.size + 1, 2, none⟩ (.slice AV nl cV)) := ((HK.out.below.setCell (p := ⟨w.heap.size + 1, 0, none⟩) (Nat.le_succ _) _).setCell (p := ⟨w.heap.size + 1, 1, none⟩) (Nat.le_succ _) _).setCell (p := ⟨w.heap.size + 1, 2, none⟩) (Nat.le_succ _) _
      obtain ⟨d', hd1, hd2, hd3, hd4⟩ := HK.out.own _ kx
      injection hd1 with z1 z2 z3
      have hv : scV d' (lkS u) = .agg #[.slice fa 2 2, .int .i64 1, .slice AV nl cV] := by
        unfold scV
        show Value.agg #[.slice d'.fa 2 d'.fc, .int .i64 1, .slice d'.ra (lkF u 6).length d'.rc] = _
        rw [hd2, hd3, z1, z3, HNL.out]
      generalize (((wr.setCell ⟨w.heap.size + 1, 0, none⟩ (.slice fa 2 2)).setCell ⟨w.heap.size + 1, 1, none⟩ (.int .i64 1)).setCell ⟨w.heap.size + 1, 2, none⟩ (.slice AV nl cV)) = w8 at hw8 hbf hd4 ⊢
      obtain ⟨-, q0', q1', q2', -⟩ := blk3 hw8
      refine bodyPost_ret (v := .agg #[.slice fa 2 2, .int .i64 1, .slice AV nl cV]) (by simp [results, Tryd.results5, go_sem, q0', q1', q2']) rfl ⟨d', by rw [hv], hd4, hbf⟩
end Go.Proofs.YtfbnpiafoaoddaaDoor
/- School: own lists of words. -/
namespace Go.Proofs.YtfbnpiafoaoddaaDoor
open Go Go.RowKit Go.Shelf
set_option maxHeartbeats 2000000
set_option maxRecDepth 100000
theorem info_str : (Tryd.prog.info? 9).map (fun i => (i.zero, i.size, i.bytes)) = some (some (.string noW), 1, 16) := by kernel_rfl
def strs (l : List Wd) : List Value := l.map .string
theorem strs_one (l : List Wd) : ∀ u ∈ strs l, u.oneCell' = true := by
  intro u hu
  obtain ⟨x, -, rfl⟩ := List.mem_map.1 hu
  rfl
theorem strs_len (l : List Wd) : (strs l).length = l.length := by simp [strs]
theorem strs_append (l m : List Wd) : strs (l ++ m) = strs l ++ strs m := by simp [strs]
/-- an own list of words -/
def OwnS (W : World) (n0 : Nat) (v : Value) (l : List Wd) : Prop := W.ownsRow n0 9 1 v l.length (strs l)
theorem OwnS.nil (W : World) (n0 : Nat) : OwnS W n0 (.slice none 0 0) [] := ⟨rfl, .inl ⟨rfl, rfl⟩⟩
theorem OwnS.ext {W W' : World} {n0 : Nat} {v : Value} {l : List Wd} (h : OwnS W n0 v l) (hb : Below W.heap.size W W') : OwnS W' n0 v l := ownBelow h hb
theorem strs_at (l : List Wd) {k : Nat} (hk : k < l.length) : (strs l)[k]? = some (.string (l.getD k noW)) := by
  unfold strs
  rw [List.getElem?_map, List.getElem?_eq_getElem hk, List.getD_eq_getElem?_getD, List.getElem?_eq_getElem hk]; rfl
theorem OwnS.pushes {W : World} {base : Nat} {v : Value} {l : List Wd} (h : OwnS W base v l) (A : Option Addr) (c : Nat) (m : List Wd) (hA : SR W W.heap.size A m) (hl : l.length + m.length ≤ 1000000) (hb : base ≤ W.heap.size) :
    ∃ v' w', (Builtin.append_ #[48, 48] 48 #[v, .slice A m.length c]).run Tryd.prog W = .ok v' w' ∧ OwnS w' base v' (l ++ m) ∧ W.grownBy w' v.ownBlock ∧ (v'.ownBlock = v.ownBlock ∨ v'.ownBlock = some W.heap.size) := by
  obtain ⟨i0, hi, hz0, hz1, hz2⟩ := info_parts info_str
  cases A with
  | none =>
    have hm : m = [] := by
      rcases hm : m with _ | ⟨x, m⟩
      · rfl
      · exfalso
        obtain ⟨b, off, hA, -⟩ := hA (by rw [hm]; simp)
        cases hA
    subst hm
    refine ⟨v, W, run_append_none0 (P := Tryd.prog) _ _ 9 i0 1 Tryd.underlying48 hi v l.length c (strs l) h, by simpa using h, World.grownBy.refl _ _, .inl rfl⟩
  | some a =>
    have hcells : ∀ j u, (strs m)[j]? = some u → W.cell? (a.add j) = some u := by
      intro j u hj
      have hlt : j < m.length := by
        have := (List.getElem?_eq_some_iff.1 hj).1
        rwa [strs_len] at this
      obtain ⟨b, off, hA', -, hc⟩ := VR1.at_ hA hlt
      injection hA' with hA'
      subst hA'
      rw [strs_at m hlt] at hj
      have e4 : ((⟨b, off, none⟩ : Addr).add j) = ⟨b, off + j, none⟩ := by simp [Addr.add]
      rw [e4, ← hj]
      exact hc
    obtain ⟨v', w', hr, h2, h3, -, h4⟩ := run_append_own_at (P := Tryd.prog) (w := W) base 48 48 9 i0 _ 1 16 Tryd.underlying48 hi hz0 hz1 hz2 rfl (by decide) v l.length (strs l) h
      a m.length c (strs m) (by rw [strs_len]; omega) hcells (strs_one m) (by unfold maxLen; omega) (by omega) hb
    refine ⟨v', w', hr, ?_, h3, h4⟩
    unfold OwnS
    rw [strs_append, List.length_append]
    exact h2
end Go.Proofs.YtfbnpiafoaoddaaDoor
/- Link: chapter 11's examples of the top laws. -/
namespace Go.Proofs.YtfbnpiafoaoddaaDoor
open Go Go.RowKit Go.Shelf
set_option maxHeartbeats 8000000
set_option maxRecDepth 100000
def wOne : Wd := .mk #[111, 110, 101]
def wTwo : Wd := .mk #[116, 119, 111]
def wThree : Wd := .mk #[116, 104, 114, 101, 101]
def wFour : Wd := .mk #[102, 111, 117, 114]
theorem known_align : (textB [wOne, wTwo, wThree] && textB [wOne, wFour]) = true := by decide
theorem known_alL : alL [wOne, wTwo, wThree] 0 [wOne, wFour] = [⟨1, 1, wTwo, wFour⟩, ⟨2, 2, wThree, noW⟩] := by decide
theorem known_rs : rsR [-1, 0, 0, 0] [-1, 5, 7, 7] = ([7, 5, 7, 7], 1, 0) := by decide
theorem SR.new (W : World) (l : List Wd) : SR (W.alloc (.cells (strs l).toArray 9)) (W.alloc (.cells (strs l).toArray 9)).heap.size (some ⟨W.heap.size, 0, none⟩) l := fun _ => by
  refine ⟨W.heap.size, 0, rfl, by simp, fun k i hk hi => ?_⟩
  obtain rfl : i = 0 := by omega
  rw [show 0 + k * 1 + 0 = k by omega, (Blk.new W 9 (strs l).toArray).cell, List.getElem?_toArray, strs_at l hk]
theorem LI.new (W : World) (l : List Int) : LI (W.alloc (.cells (intJ l).toArray 3)) (W.alloc (.cells (intJ l).toArray 3)).heap.size (some ⟨W.heap.size, 0, none⟩) l := fun _ => by
  refine ⟨W.heap.size, 0, rfl, by simp, fun k i hk hi => ?_⟩
  obtain rfl : i = 0 := by omega
  rw [show 0 + k * 1 + 0 = k by omega, (Blk.new W 3 (intJ l).toArray).cell, List.getElem?_toArray, intJ_at l hk]
theorem SzOk.small {l : List Wd} (h : (decide (l.length ≤ 100) && l.all fun x => decide (x.size ≤ 100)) = true) : SzOk l := by
  rw [Bool.and_eq_true] at h
  have h1 := of_decide_eq_true h.1
  refine ⟨by unfold maxLen; omega, fun x hx => ?_⟩
  have h2 := List.all_eq_true.1 h.2 x hx
  have h3 := of_decide_eq_true h2
  unfold maxLen; omega
theorem SR.newA {W : World} {b : Nat} (l : List Wd) (h : W.heap.size = b) : SR (W.alloc (.cells (strs l).toArray 9)) (W.alloc (.cells (strs l).toArray 9)).heap.size (some ⟨b, 0, none⟩) l := h ▸ SR.new W l
theorem LI.newA {W : World} {b : Nat} (l : List Int) (h : W.heap.size = b) : LI (W.alloc (.cells (intJ l).toArray 3)) (W.alloc (.cells (intJ l).toArray 3)).heap.size (some ⟨b, 0, none⟩) l := h ▸ LI.new W l
theorem known_a (W : World) : Calls Tryd.prog 12 #[.slice (some ⟨W.heap.size, 0, none⟩) 3 3, .slice (some ⟨W.heap.size + 1, 0, none⟩) 2 2] ((W.alloc (.cells (strs [wOne, wTwo, wThree]).toArray 9)).alloc (.cells (strs [wOne, wFour]).toArray 9)) fun e w' => ∃ A c, e = .returned (.tuple #[.slice A 2 c, .int .i64 0]) ∧ OwnE w' W.heap.size (.slice A 2 c) [⟨1, 1, wTwo, wFour⟩, ⟨2, 2, wThree, noW⟩] ∧ Below W.heap.size W w' := by
  have hB1 : Below (W.alloc (.cells (strs [wOne, wTwo, wThree]).toArray 9)).heap.size (W.alloc (.cells (strs [wOne, wTwo, wThree]).toArray 9)) ((W.alloc (.cells (strs [wOne, wTwo, wThree]).toArray 9)).alloc (.cells (strs [wOne, wFour]).toArray 9)) := (Below.refl _ _).alloc (Nat.le_refl _) _
  have hB0 : Below W.heap.size W ((W.alloc (.cells (strs [wOne, wTwo, wThree]).toArray 9)).alloc (.cells (strs [wOne, wFour]).toArray 9)) := ((Below.refl W.heap.size W).alloc (Nat.le_refl _) _).trans (hB1.mono (by simp))
  have s1 := (ER.below (SR.new W [wOne, wTwo, wThree]) hB1 (Nat.le_refl _)).more hB1.size
  have s2 := SR.newA (W := W.alloc (.cells (strs [wOne, wTwo, wThree]).toArray 9)) (b := W.heap.size + 1) [wOne, wFour] (World.size_alloc _ _)
  have h := Align_any (some ⟨W.heap.size, 0, none⟩) (some ⟨W.heap.size + 1, 0, none⟩) 3 2 [wOne, wTwo, wThree] [wOne, wFour] _ (SzOk.small (by decide)) (SzOk.small (by decide)) s1 s2
  refine h.mono ?_
  rintro e w' ⟨v, rfl, ho, hb⟩
  rw [known_align, if_pos rfl, known_alL] at ho
  obtain ⟨A, c, rfl⟩ := own_shape ho
  refine ⟨A, c, by rw [known_align]; rfl, ho.low (by simp; omega), hB0.trans (hb.mono hB0.size)⟩
theorem known_r (W : World) : Calls Tryd.prog 13 #[.slice (some ⟨W.heap.size, 0, none⟩) 4 4, .slice (some ⟨W.heap.size + 1, 0, none⟩) 4 4] ((W.alloc (.cells (intJ [-1, 0, 0, 0]).toArray 3)).alloc (.cells (intJ [-1, 5, 7, 7]).toArray 3)) fun e w' => ∃ A c, e = .returned (.tuple #[.slice A 4 c, .int .i64 1, .int .i64 0]) ∧ OwnJ w' W.heap.size (.slice A 4 c) [7, 5, 7, 7] ∧ Below W.heap.size W w' := by
  have hB1 : Below (W.alloc (.cells (intJ [-1, 0, 0, 0]).toArray 3)).heap.size (W.alloc (.cells (intJ [-1, 0, 0, 0]).toArray 3)) ((W.alloc (.cells (intJ [-1, 0, 0, 0]).toArray 3)).alloc (.cells (intJ [-1, 5, 7, 7]).toArray 3)) := (Below.refl _ _).alloc (Nat.le_refl _) _
  have hB0 : Below W.heap.size W ((W.alloc (.cells (intJ [-1, 0, 0, 0]).toArray 3)).alloc (.cells (intJ [-1, 5, 7, 7]).toArray 3)) := ((Below.refl W.heap.size W).alloc (Nat.le_refl _) _).trans (hB1.mono (by simp))
  have s1 := (ER.below (LI.new W [-1, 0, 0, 0]) hB1 (Nat.le_refl _)).more hB1.size
  have s2 := LI.newA (W := W.alloc (.cells (intJ [-1, 0, 0, 0]).toArray 3)) (b := W.heap.size + 1) [-1, 5, 7, 7] (World.size_alloc _ _)
  have h := Restore_any (some ⟨W.heap.size, 0, none⟩) (some ⟨W.heap.size + 1, 0, none⟩) 4 4 [-1, 0, 0, 0] [-1, 5, 7, 7] _ s1 s2
  refine h.mono ?_
  rintro e w' ⟨v, rfl, ho, hb⟩
  rw [known_rs] at ho ⊢
  obtain ⟨A, c, rfl⟩ := own_shape ho
  refine ⟨A, c, rfl, ownMono ho (by simp; omega), hB0.trans (hb.mono hB0.size)⟩
theorem ed_first {W : World} {n0 : Nat} {A : Option Addr} {n c : Nat} {e : Ed} {l : List Ed} (h : OwnE W n0 (.slice A n c) (e :: l)) : ∃ b, A = some ⟨b, 0, none⟩ ∧ W.cell? ⟨b, 0, none⟩ = some (.int .i64 e.ki) := by
  rcases h.2 with ⟨h1, h2⟩ | ⟨g, cap, cur, h1, h2, h3, h4, h5, h6, h7⟩
  · simp at h2
  · injection h1 with hA
    subst hA
    have hc := World.ownsRow.cells h (g := g) rfl 0 _ (show (cellsE (e :: l))[0]? = some (.int .i64 e.ki) from rfl)
    exact ⟨g, rfl, by simpa [Addr.add] using hc⟩
theorem linkTexts_any (w : World) : Calls Tryd.prog 4 #[] w fun e w' => e = .returned (.bool true) ∧ Below w.heap.size w w' := by
  go_enter Tryd.func4, Tryd.ntmps4
  go_wp2_with fail
  refine (known_a w).mono ?_
  rintro e w1 ⟨A1, c1, rfl, ho1, hb1⟩
  have O1 := hide ho1
  have B1 := hide hb1
  clear ho1 hb1
  go_wp2_with fail
  refine (known_r w1).mono ?_
  rintro e w3 ⟨A3, c3, rfl, ho3, hb3⟩
  have O1 := hide (O1.out.ext hb3)
  have O3 := hide ho3
  have B3 := hide (B1.out.trans (hb3.mono B1.out.size))
  clear ho3 hb3 B1
  obtain ⟨eb, rfl, x0⟩ := ed_first O1.out
  obtain ⟨ab, ao, rfl, -, y0⟩ := VR1.at_ (k := 0) (O3.out.li).2 (by decide)
  replace y0 : w3.cell? ⟨ab, ao, none⟩ = some (.int .i64 7) := y0
  go_wp2_with fail
  go_ret
  exact ⟨rfl, B3.out⟩
end Go.Proofs.YtfbnpiafoaoddaaDoor
/- Link: what TopMoulded's walk needs: stages out of numbers that leave enough; the two schools as they lie. -/
namespace Go.Proofs.YtfbnpiafoaoddaaDoor
open Go Go.RowKit Go.Shelf
set_option maxHeartbeats 8000000
set_option maxRecDepth 100000
section
variable {F : Fence} {n : Nat} {P : Program} {ops : Array Oper} {Q : Exit → Act → World → Prop} {md : Region.Mode} {S : World → Prop}
/-- one of three operations comes up -/
theorem wpAnyJ_three (i j l : Nat) {oi oj ol : Oper} {fuel : Nat} {listed : Array Bool} {a : Act} {w : World} (hi : ops[i]? = some oi) (hj : ops[j]? = some oj) (hl : ops[l]? = some ol) (hr : Region.ready md ops listed = [i, j, l])
    (h : ∀ K : Act → World → Prop, Hid (∀ a w, (lastOp md ops i = false → S w) → wpAnyJ F n P md ops Q S fuel (listed.setIfInBounds i true) a w → K a w) → if Region.wanted oi (yielded ops a.tmps) = true then oi.wpIn F n P a w K Q else (∀ f, oi.about P w a.eval = some f → F.fn f) ∧ K (a.put oi.dst undef) w)
    (h' : ∀ K : Act → World → Prop, Hid (∀ a w, (lastOp md ops j = false → S w) → wpAnyJ F n P md ops Q S fuel (listed.setIfInBounds j true) a w → K a w) → if Region.wanted oj (yielded ops a.tmps) = true then oj.wpIn F n P a w K Q else (∀ f, oj.about P w a.eval = some f → F.fn f) ∧ K (a.put oj.dst undef) w)
    (h'' : ∀ K : Act → World → Prop, Hid (∀ a w, (lastOp md ops l = false → S w) → wpAnyJ F n P md ops Q S fuel (listed.setIfInBounds l true) a w → K a w) → if Region.wanted ol (yielded ops a.tmps) = true then ol.wpIn F n P a w K Q else (∀ f, ol.about P w a.eval = some f → F.fn f) ∧ K (a.put ol.dst undef) w) :
    wpAnyJ F n P md ops Q S (fuel + 1) listed a w := by
  refine ⟨fun h0 => (by rw [hr] at h0; cases h0), fun k hk => ?_⟩
  rw [hr] at hk
  rcases List.mem_cons.1 hk with rfl | hk
  · have h1 := h (fun a' w' => (lastOp md ops k = false → S w') ∧ wpAnyJ F n P md ops Q S fuel (listed.setIfInBounds k true) a' w') (show Hid _ from fun a w h1 h2 => ⟨h1, h2⟩)
    unfold wpOpIn
    simp only [hi]
    exact h1
  · rcases List.mem_cons.1 hk with rfl | hk
    · have h1 := h' (fun a' w' => (lastOp md ops k = false → S w') ∧ wpAnyJ F n P md ops Q S fuel (listed.setIfInBounds k true) a' w') (show Hid _ from fun a w h1 h2 => ⟨h1, h2⟩)
      unfold wpOpIn
      simp only [hj]
      exact h1
    · obtain rfl := List.mem_singleton.1 hk
      have h1 := h'' (fun a' w' => (lastOp md ops k = false → S w') ∧ wpAnyJ F n P md ops Q S fuel (listed.setIfInBounds k true) a' w') (show Hid _ from fun a w h1 h2 => ⟨h1, h2⟩)
      unfold wpOpIn
      simp only [hl]
      exact h1
end
-- stages
def sxF (u : Nat → Nat → Int) (m k : Nat) : Int := ((stL u m).getD k (0, 0)).1
def syF (u : Nat → Nat → Int) (m k : Nat) : Int := ((stL u m).getD k (0, 0)).2
theorem st_stages {u : Nat → Nat → Int} {m : Nat} (hu : ∀ k i, k < m → i < 2 → 0 ≤ u k i ∧ u k i ≤ 65535) : Stages m (sxF u m) (syF u m) ∧ ∀ i, i < m → 0 ≤ syF u m i ∧ syF u m i ≤ 8999 := by
  have h : ∀ i, i < m → 0 ≤ sxF u m i ∧ sxF u m i ≤ syF u m i ∧ syF u m i ≤ 8999 := fun i hi => by
    unfold sxF syF
    rw [stL_at u m i hi]
    exact sty_ok (hu i 0 hi (by omega)).1 (hu i 1 hi (by omega)).1
  exact ⟨fun i hi => ⟨(h i hi).1, (h i hi).2.1, by have := h i hi; omega⟩, fun i hi => ⟨by have := h i hi; omega, (h i hi).2.2⟩⟩
theorem stages_law (A : Option Addr) (m c : Nat) (u : Nat → Nat → Int) (W : World) (hm : m ≤ 1000) (hR : ER W W.heap.size 2 A m (fun k i => .int .u16 (u k i))) (hu : ∀ k i, k < m → i < 2 → 0 ≤ u k i ∧ u k i ≤ 65535) :
    Calls Tryd.prog 9 #[.slice A m c] W fun e w' => ∃ A' c', e = .returned (.slice A' m c') ∧ PI w' w'.heap.size A' m (sxF u m) (syF u m) ∧ Below W.heap.size W w' := by
  refine (linkStages_any A m c u W hm hR hu).mono ?_
  rintro e w' ⟨A', c', rfl, ho, hb⟩
  have h := ho.pi.2
  rw [stL_len] at h
  exact ⟨A', c', rfl, h, hb⟩
theorem ex_least (p : Nat → Bool) : ∀ N, p N = true → ∃ r, r ≤ N ∧ p r = true ∧ ∀ i, i < r → p i = false := by
  intro N
  induction N using Nat.strongRecOn with
  | _ N ih =>
    intro h
    by_cases hx : ∃ i, i < N ∧ p i = true
    · obtain ⟨i, hi, hp⟩ := hx
      obtain ⟨r, h1, h2, h3⟩ := ih i hi hp
      exact ⟨r, by omega, h2, h3⟩
    · refine ⟨N, Nat.le_refl _, h, fun i hi => ?_⟩
      rcases hp : p i with _ | _
      · rfl
      · exact absurd ⟨i, hi, hp⟩ hx
theorem aft_order {x y : Nat → Int} {n : Int} (h0 : 0 ≤ n) : ∀ k, (∀ i, i < k → 0 ≤ x i ∧ x i ≤ y i ∧ y i ≤ 10000) → aft y k n ≤ aft x k n
  | 0, _ => Int.le_refl _
  | k + 1, hs => by
    have ih := aft_order (x := x) (y := y) h0 k fun i hi => hs i (by omega)
    have h1 := (aft_bd y n h0 k fun i hi => ⟨by have := hs i (by omega); omega, (hs i (by omega)).2.2⟩).1
    obtain ⟨s1, s2, s3⟩ := hs k (by omega)
    unfold aft
    generalize aft y k n = p at *
    generalize aft x k n = q at *
    have h3 : q * x k = p * x k + (q - p) * x k := by rw [← Int.add_mul]; congr 1; omega
    have h4 : (q - p) * x k ≤ (q - p) * 10000 := Int.mul_le_mul_of_nonneg_left (by omega) (by omega)
    have h5 : p * x k ≤ p * y k := Int.mul_le_mul_of_nonneg_left s2 h1
    omega
theorem need_low {m : Nat} {x y : Nat → Int} (hm : m ≤ 6) (hs : Stages m x y) (hy : ∀ i, i < m → 0 ≤ y i ∧ y i ≤ 8999) (n : Int) (h0 : 0 ≤ n) (h1 : n ≤ 999) :
    ∃ r : Nat, r ≤ 1000000000 ∧ n ≤ (r : Int) ∧ n ≤ aft y m r ∧ (0 < r → aft y m ((r : Int) - 1) < n) ∧ aft y m r ≤ aft x m r ∧ ∀ (W : World) (A : Option Addr) (c : Nat), PI W W.heap.size A m x y →
      Calls Tryd.prog 8 #[.int .i64 n, .slice A m c] W fun e w' => e = .returned (.tuple #[.int .i64 (r : Int), .int .i64 0]) ∧ Below W.heap.size W w' := by
  have hl := aft_low y m hm hy
  have hlm : 1007 ≤ lowA m := by
    rcases (by omega : m = 0 ∨ m = 1 ∨ m = 2 ∨ m = 3 ∨ m = 4 ∨ m = 5 ∨ m = 6) with h | h | h | h | h | h | h <;> rw [h] <;> decide
  obtain ⟨r, r1, r2, r3⟩ := ex_least (fun i => decide (n ≤ aft y m i)) 1000000000 (decide_eq_true (by show n ≤ aft y m ((1000000000 : Nat) : Int); exact Int.le_trans (by omega) hl))
  have r2' : n ≤ aft y m r := of_decide_eq_true r2
  have hbd := aft_bd y (r : Int) (by omega) m fun i hi => ⟨(hy i hi).1, by have := hy i hi; omega⟩
  refine ⟨r, r1, by omega, r2', fun hr => ?_, aft_order (by omega) m (fun i hi => hs i hi), fun W A c hR => ?_⟩
  · have h2 := of_decide_eq_false (r3 (r - 1) (by omega))
    rw [show ((r - 1 : Nat) : Int) = (r : Int) - 1 by omega] at h2
    omega
  · refine (need_ok n A m c x y W (by omega) hR hs h0 (by omega)).mono ?_
    rintro e w' ⟨r', h2, rfl, hb⟩
    have e1 : r' = r := h2.uniq ⟨by omega, r3, fun _ => r2⟩
    subst e1
    exact ⟨by rw [if_pos r1, if_pos r1], hb⟩
-- schools
def ScE (W : World) (d : Ad_) (s : Sch) : Prop := ∃ base, ScO W base d s
theorem ScE.ext {W W' : World} {d : Ad_} {s : Sch} (h : ScE W d s) (hb : Below W.heap.size W W') : ScE W' d s := by
  obtain ⟨b, h⟩ := h
  exact ⟨b, h.ext hb⟩
theorem ScE.kx {W W' : World} {X : Nat} {d : Ad_} {s : Sch} {cs : Array Value} (h : ScE W d s) (hX : Blk W X 29 cs) (hk : KX W W' X none) : ScE W' d s := by
  obtain ⟨b, h⟩ := h
  exact ⟨b, h.kx hX hk⟩
theorem ScE.read {W : World} {d : Ad_} {s : Sch} (h : ScE W d s) : ScR W W.heap.size d s := by
  obtain ⟨b, h⟩ := h
  exact h.read
theorem lk_law (u : Nat → Int) (n : Nat) (hn : (lkF u 6).length = n) (hu : ∀ k, k < 7 → 0 ≤ u k ∧ u k ≤ 65535) (W : World) :
    Calls Tryd.prog 5 #[.agg #[.int .u16 (u 0), .int .u16 (u 1), .int .u16 (u 2), .int .u16 (u 3), .int .u16 (u 4), .int .u16 (u 5), .int .u16 (u 6)]] W fun e w' => ∃ d : Ad_, e = .returned (.agg #[.slice d.fa 2 d.fc, .int .i64 1, .slice d.ra n d.rc]) ∧ ScE w' d (lkS u) ∧ Below W.heap.size W w' := by
  subst hn
  refine (linkSchool_any u W hu).mono ?_
  rintro e w' ⟨d, rfl, h, hb⟩
  exact ⟨d, rfl, ⟨_, h⟩, hb⟩
theorem dec_law (u : Nat → Int) (n : Nat) (hn : (lkF u 6).length = n) (d : Ad_) (W : World) (h : ScE W d (lkS u)) (k : Nat) (hk : k < 9) (a c : Int) (ha : ((k / 3 : Nat) : Int) = a) (hc : ((k % 3 : Nat) : Int) = c) :
    Calls Tryd.prog 7 #[.agg #[.slice d.fa 2 d.fc, .int .i64 1, .slice d.ra n d.rc], .slice (some ⟨W.heap.size, 0, none⟩) 2 2, .int .i64 0] (W.alloc (.cells #[.int .i64 a, .int .i64 c] 3)) fun e w' => ∃ v, e = .returned (.tuple #[.int .i64 (vdF (lkS u) 0 k).1, v, .int .i64 (vdF (lkS u) 0 k).2]) ∧ Below W.heap.size W w' := by
  subst hn ha hc
  have hb : Below W.heap.size W (W.alloc (.cells #[.int .i64 ((k / 3 : Nat) : Int), .int .i64 ((k % 3 : Nat) : Int)] 3)) := (Below.refl _ _).alloc (Nat.le_refl _) _
  have hl := (lkF_len u 6).2
  refine (Decide_any d (lkS u) (some ⟨W.heap.size, 0, none⟩) 2 [((k / 3 : Nat) : Int), ((k % 3 : Nat) : Int)] 0 _ ((h.ext hb).read) (show 2 ≤ maxLen by unfold maxLen; decide) (by show (lkF u 6).length ≤ maxLen; unfold maxLen; omega) (LI.new W [((k / 3 : Nat) : Int), ((k % 3 : Nat) : Int)])).mono ?_
  rintro e w' ⟨v, rfl, -, hb2⟩
  have := lk_dec u hk
  exact ⟨v, by rw [← this], hb.trans (hb2.mono hb.size)⟩
theorem diff_law (u v : Nat → Int) (n1 n2 : Nat) (h1 : (lkF u 6).length = n1) (h2 : (lkF v 6).length = n2) (d1 d2 : Ad_) (W : World) (hd1 : ScE W d1 (lkS u)) (hd2 : ScE W d2 (lkS v)) :
    Calls Tryd.prog 6 #[.agg #[.slice d1.fa 2 d1.fc, .int .i64 1, .slice d1.ra n1 d1.rc], .agg #[.slice d2.fa 2 d2.fc, .int .i64 1, .slice d2.ra n2 d2.rc], .int .i64 0] W fun e w' => ∃ x, e = .returned (.tuple #[x, .int .i64 (dfR (lkS u) (lkS v) 0).2]) ∧ Below W.heap.size W w' := by
  subst h1 h2
  have hl1 := (lkF_len u 6).2
  have hl2 := (lkF_len v 6).2
  refine (Differ_any d1 d2 (lkS u) (lkS v) 0 W hd1.read hd2.read (show 2 ≤ maxLen by unfold maxLen; decide) (by show (lkF u 6).length ≤ maxLen; unfold maxLen; omega) (show 2 ≤ maxLen by unfold maxLen; decide) (by show (lkF v 6).length ≤ maxLen; unfold maxLen; omega)).mono ?_
  rintro e w' ⟨x, rfl, -, hb⟩
  exact ⟨x, rfl, hb⟩
/-- the two schools as they lie -/
structure LwI (w W : World) (T7 T8 n1 n2 : Nat) (d1 d2 : Ad_) (s t : Sch) : Prop where
  b7 : Blk W T7 29 #[.slice d1.fa 2 d1.fc, .int .i64 1, .slice d1.ra n1 d1.rc]
  b8 : Blk W T8 29 #[.slice d2.fa 2 d2.fc, .int .i64 1, .slice d2.ra n2 d2.rc]
  r1 : ScE W d1 s
  r2 : ScE W d2 t
  below : Below w.heap.size w W
theorem LwI.ext {w W W' : World} {T7 T8 n1 n2 : Nat} {d1 d2 : Ad_} {s t : Sch} (h : LwI w W T7 T8 n1 n2 d1 d2 s t) (hb : Below W.heap.size W W') : LwI w W' T7 T8 n1 n2 d1 d2 s t :=
  ⟨h.b7.ext hb, h.b8.ext hb, h.r1.ext hb, h.r2.ext hb, h.below.trans (hb.mono h.below.size)⟩
end Go.Proofs.YtfbnpiafoaoddaaDoor
/- Link: TopMoulded, walked. -/
namespace Go.Proofs.YtfbnpiafoaoddaaDoor
open List renaming getElem_toArray → glA, getElem_cons_zero → glB, getElem_cons_succ → glC, setIfInBounds_toArray → glD, set_cons_zero → glE, set_cons_succ → glF
open Go Go.RowKit Go.Shelf
set_option maxHeartbeats 40000000
set_option maxRecDepth 100000
theorem moulded_any (a b : Nat → Int) (A : Option Addr) (m c : Nat) (u : Nat → Nat → Int) (w : World) (hm : m ≤ maxLen) (ha : ∀ k, k < 7 → 0 ≤ a k ∧ a k ≤ 65535) (hb : ∀ k, k < 7 → 0 ≤ b k ∧ b k ≤ 65535)
    (hR : ER w w.heap.size 2 A m (fun k i => .int .u16 (u k i))) (hu : ∀ k i, k < m → i < 2 → 0 ≤ u k i ∧ u k i ≤ 65535) :
    Calls Tryd.prog 3 #[.agg #[.int .u16 (a 0), .int .u16 (a 1), .int .u16 (a 2), .int .u16 (a 3), .int .u16 (a 4), .int .u16 (a 5), .int .u16 (a 6)], .agg #[.int .u16 (b 0), .int .u16 (b 1), .int .u16 (b 2), .int .u16 (b 3), .int .u16 (b 4), .int .u16 (b 5), .int .u16 (b 6)], .slice A m c] w fun e w' => e = .returned (.bool true) ∧ Below w.heap.size w w' := by
  unfold maxLen at hm
  obtain ⟨n1, hn1⟩ : ∃ n, (lkF a 6).length = n := ⟨_, rfl⟩
  obtain ⟨n2, hn2⟩ : ∃ n, (lkF b 6).length = n := ⟨_, rfl⟩
  have HL1 := hide (lk_law a n1 hn1 ha)
  have HL2 := hide (lk_law b n2 hn2 hb)
  have HD1 := hide (dec_law a n1 hn1)
  have HD2 := hide (dec_law b n2 hn2)
  have HDF := hide (diff_law a b n1 n2 hn1 hn2)
  have HLT := hide linkTexts_any
  have HLK := hide linkKiln_any
  have HB0 : Hid (Below w.heap.size w ((w.alloc (.cells #[.int .u16 (a 0), .int .u16 (a 1), .int .u16 (a 2), .int .u16 (a 3), .int .u16 (a 4), .int .u16 (a 5), .int .u16 (a 6)] 23)).alloc (.cells #[.int .u16 (b 0), .int .u16 (b 1), .int .u16 (b 2), .int .u16 (b 3), .int .u16 (b 4), .int .u16 (b 5), .int .u16 (b 6)] 23))) := hide (((Below.refl _ _).alloc (Nat.le_refl _) _).alloc (by simp) _)
  have hG1 := (Blk.new w 23 #[.int .u16 (a 0), .int .u16 (a 1), .int .u16 (a 2), .int .u16 (a 3), .int .u16 (a 4), .int .u16 (a 5), .int .u16 (a 6)]).alloc (.cells #[.int .u16 (b 0), .int .u16 (b 1), .int .u16 (b 2), .int .u16 (b 3), .int .u16 (b 4), .int .u16 (b 5), .int .u16 (b 6)] 23)
  have hG2 := Blk.new (w.alloc (.cells #[.int .u16 (a 0), .int .u16 (a 1), .int .u16 (a 2), .int .u16 (a 3), .int .u16 (a 4), .int .u16 (a 5), .int .u16 (a 6)] 23)) 23 #[.int .u16 (b 0), .int .u16 (b 1), .int .u16 (b 2), .int .u16 (b 3), .int .u16 (b 4), .int .u16 (b 5), .int .u16 (b 6)]
  rw [World.size_alloc] at hG2
  have HG := hide (And.intro hG1 hG2)
  have HRU := hide (And.intro hR hu)
  clear hG1 hG2 hR hu ha hb hn1 hn2
  go_enter Tryd.func3, Tryd.ntmps3
  go_upto_region 1 with fail
  generalize ((w.alloc (.cells #[.int .u16 (a 0), .int .u16 (a 1), .int .u16 (a 2), .int .u16 (a 3), .int .u16 (a 4), .int .u16 (a 5), .int .u16 (a 6)] 23)).alloc (.cells #[.int .u16 (b 0), .int .u16 (b 1), .int .u16 (b 2), .int .u16 (b 3), .int .u16 (b 4), .int .u16 (b 5), .int .u16 (b 6)] 23)) = w2 at HB0 HG ⊢
  obtain ⟨G2, hG2⟩ : ∃ x, w.heap.size + 1 = x := ⟨_, rfl⟩
  rw [hG2] at HG ⊢
  obtain ⟨G1, hG1⟩ : ∃ x, w.heap.size = x := ⟨_, rfl⟩
  have HB0' := HB0
  rw [hG1] at HG ⊢
  clear hG1 hG2
  have HSB : Hid (∀ W, Below w2.heap.size w2 W → ((W.cell? ⟨G1, 0, none⟩ = some (.int .u16 (a 0)) ∧ W.cell? ⟨G1, 1, none⟩ = some (.int .u16 (a 1)) ∧ W.cell? ⟨G1, 2, none⟩ = some (.int .u16 (a 2)) ∧ W.cell? ⟨G1, 3, none⟩ = some (.int .u16 (a 3)) ∧ W.cell? ⟨G1, 4, none⟩ = some (.int .u16 (a 4)) ∧ W.cell? ⟨G1, 5, none⟩ = some (.int .u16 (a 5)) ∧ W.cell? ⟨G1, 6, none⟩ = some (.int .u16 (a 6))) ∧ (W.cell? ⟨G2, 0, none⟩ = some (.int .u16 (b 0)) ∧ W.cell? ⟨G2, 1, none⟩ = some (.int .u16 (b 1)) ∧ W.cell? ⟨G2, 2, none⟩ = some (.int .u16 (b 2)) ∧ W.cell? ⟨G2, 3, none⟩ = some (.int .u16 (b 3)) ∧ W.cell? ⟨G2, 4, none⟩ = some (.int .u16 (b 4)) ∧ W.cell? ⟨G2, 5, none⟩ = some (.int .u16 (b 5)) ∧ W.cell? ⟨G2, 6, none⟩ = some (.int .u16 (b 6))))) := hide fun W h => ⟨(bx7 (HG.out.1.ext h)).2, (bx7 (HG.out.2.ext h)).2⟩
  clear HG HB0'
  by_cases h6 : (m : Int) > 6
  · go_wp2_with fail
    refine (HLT.out _).mono ?_
    rintro e w3 ⟨rfl, hb3⟩
    go_wp2_with fail
    go_ret
    exact ⟨rfl, HB0.out.trans (hb3.mono HB0.out.size)⟩
  have hm6 : m ≤ 6 := by omega
  go_upto_region 3 with fail
  go_cut [7, 8] (fun p7 p8 w' => ∃ (T7 T8 : Nat) (d1 d2 : Ad_), p7 = .pointer (some ⟨T7, 0, none⟩) ∧ p8 = .pointer (some ⟨T8, 0, none⟩) ∧ Hid (LwI w2 w' T7 T8 n1 n2 d1 d2 (lkS a) (lkS b)))
  case first =>
   as_aux_lemma =>
    have HM : Hid (Below w2.heap.size w2 w2.drew) := hide (Below.refl w2.heap.size w2).drew
    refine wp_region_J (fun W : World => ((W.cell? ⟨G1, 0, none⟩ = some (.int .u16 (a 0)) ∧ W.cell? ⟨G1, 1, none⟩ = some (.int .u16 (a 1)) ∧ W.cell? ⟨G1, 2, none⟩ = some (.int .u16 (a 2)) ∧ W.cell? ⟨G1, 3, none⟩ = some (.int .u16 (a 3)) ∧ W.cell? ⟨G1, 4, none⟩ = some (.int .u16 (a 4)) ∧ W.cell? ⟨G1, 5, none⟩ = some (.int .u16 (a 5)) ∧ W.cell? ⟨G1, 6, none⟩ = some (.int .u16 (a 6))) ∧ (W.cell? ⟨G2, 0, none⟩ = some (.int .u16 (b 0)) ∧ W.cell? ⟨G2, 1, none⟩ = some (.int .u16 (b 1)) ∧ W.cell? ⟨G2, 2, none⟩ = some (.int .u16 (b 2)) ∧ W.cell? ⟨G2, 3, none⟩ = some (.int .u16 (b 3)) ∧ W.cell? ⟨G2, 4, none⟩ = some (.int .u16 (b 4)) ∧ W.cell? ⟨G2, 5, none⟩ = some (.int .u16 (b 5)) ∧ W.cell? ⟨G2, 6, none⟩ = some (.int .u16 (b 6))))) (by kernel_rfl) ?_
    obtain ⟨wL0, hwL0⟩ : ∃ x, w2.drew = x := ⟨_, rfl⟩
    rw [hwL0] at HM ⊢
    clear hwL0
    replace HSB : Hid (∀ W, Below wL0.heap.size wL0 W → ((W.cell? ⟨G1, 0, none⟩ = some (.int .u16 (a 0)) ∧ W.cell? ⟨G1, 1, none⟩ = some (.int .u16 (a 1)) ∧ W.cell? ⟨G1, 2, none⟩ = some (.int .u16 (a 2)) ∧ W.cell? ⟨G1, 3, none⟩ = some (.int .u16 (a 3)) ∧ W.cell? ⟨G1, 4, none⟩ = some (.int .u16 (a 4)) ∧ W.cell? ⟨G1, 5, none⟩ = some (.int .u16 (a 5)) ∧ W.cell? ⟨G1, 6, none⟩ = some (.int .u16 (a 6))) ∧ (W.cell? ⟨G2, 0, none⟩ = some (.int .u16 (b 0)) ∧ W.cell? ⟨G2, 1, none⟩ = some (.int .u16 (b 1)) ∧ W.cell? ⟨G2, 2, none⟩ = some (.int .u16 (b 2)) ∧ W.cell? ⟨G2, 3, none⟩ = some (.int .u16 (b 3)) ∧ W.cell? ⟨G2, 4, none⟩ = some (.int .u16 (b 4)) ∧ W.cell? ⟨G2, 5, none⟩ = some (.int .u16 (b 5)) ∧ W.cell? ⟨G2, 6, none⟩ = some (.int .u16 (b 6))))) := hide fun W h => HSB.out W (HM.out.trans (h.mono HM.out.size))
    have BL0 := hide (Below.refl wL0.heap.size wL0)
    obtain ⟨lo, HLO⟩ : ∃ lo, Hid (lo = wL0.heap.size) := ⟨_, hide rfl⟩
    refine wpAnyJ_take 0 (v := ?_) (by first | exact hF | exact wideFn) (HSB.out _ BL0.out) rfl (by kernel_rfl) (by kernel_rfl) (by kernel_rfl) (by kernel_rfl) rfl ?_ (by first | exact fun _ _ _ h => h | exact fun _ _ _ h => hQ2 _ _ _ _ _ h) ?_
    rotate_left
    · intro W hSW
      simp only [glA, glB, glC]
      (try dsimp only at hSW)
      go_simp
      with_reducible rfl
    (try simp only [glA, glB, glC, Act.put, glD, glE, glF])
    refine wpAnyJ_take 2 (v := ?_) (by first | exact hF | exact wideFn) (HSB.out _ BL0.out) rfl (by kernel_rfl) (by kernel_rfl) (by kernel_rfl) (by kernel_rfl) rfl ?_ (by first | exact fun _ _ _ h => h | exact fun _ _ _ h => hQ2 _ _ _ _ _ h) ?_
    rotate_left
    · intro W hSW
      simp only [glA, glB, glC]
      (try dsimp only at hSW)
      go_simp
      with_reducible rfl
    (try simp only [glA, glB, glC, Act.put, glD, glE, glF])
    refine wpAnyJ_three 1 4 5 rfl rfl rfl (by kernel_rfl) (fun K hK => ?_) (fun K hK => ?_) (fun K hK => ?_)
    · simp only [glA, glB, glC]
      go_simp
      refine ⟨trivial, rfl, ?_⟩
      refine (callsIn_wide.2 (HL1.out wL0)).mono ?_
      rintro e wL1 ⟨d1, rfl, hd1, hb⟩
      have BL1 := hide (BL0.out.trans (hb.mono BL0.out.size))
      dsimp only
      refine hK.out _ _ (fun _ => HSB.out _ BL1.out) ?_
      clear hK K
      (try simp only [glA, glB, glC, Act.put, glD, glE, glF])
      (try replace R1 := hide (R1.out.ext hb))
      (try replace R2 := hide (R2.out.ext hb))
      (try replace K7 := hide (K7.out.ext hb))
      (try replace K8 := hide (K8.out.ext hb))
      clear hb
      have R1 := hide hd1
      clear hd1
      refine wpAnyJ_three 3 4 5 rfl rfl rfl (by kernel_rfl) (fun K hK => ?_) (fun K hK => ?_) (fun K hK => ?_)
      · simp only [glA, glB, glC]
        go_simp
        refine ⟨trivial, rfl, ?_⟩
        refine (callsIn_wide.2 (HL2.out wL1)).mono ?_
        rintro e wL2 ⟨d2, rfl, hd2, hb⟩
        have BL2 := hide (BL1.out.trans (hb.mono BL1.out.size))
        dsimp only
        refine hK.out _ _ (fun _ => HSB.out _ BL2.out) ?_
        clear hK K
        (try simp only [glA, glB, glC, Act.put, glD, glE, glF])
        (try replace R1 := hide (R1.out.ext hb))
        (try replace R2 := hide (R2.out.ext hb))
        (try replace K7 := hide (K7.out.ext hb))
        (try replace K8 := hide (K8.out.ext hb))
        clear hb
        have R2 := hide hd2
        clear hd2
        refine wpAnyJ_two 4 5 rfl rfl (by kernel_rfl) (fun K hK => ?_) (fun K hK => ?_)
        · have BL3 := hide (BL2.out.alloc BL2.out.size (.cells #[.slice none 0 0, .int .i64 0, .slice none 0 0] 29))
          have hb : Below wL2.heap.size wL2 (wL2.alloc (.cells #[.slice none 0 0, .int .i64 0, .slice none 0 0] 29)) := (Below.refl _ _).alloc (Nat.le_refl _) _
          have HL7 : Hid (lo ≤ wL2.heap.size) := hide (by rw [HLO.out]; exact BL2.out.size)
          (try have NE : Hid (T8 ≠ wL2.heap.size) := hide (by have := K8.out.lt; omega))
          (try replace R1 := hide (R1.out.ext hb))
          (try replace R2 := hide (R2.out.ext hb))
          (try replace K7 := hide (K7.out.ext hb))
          (try replace K8 := hide (K8.out.ext hb))
          clear hb
          have K7 := hide (Blk.new wL2 29 #[.slice none 0 0, .int .i64 0, .slice none 0 0])
          simp only [glA, glB, glC]
          go_simp
          refine hK.out _ _ (fun _ => HSB.out _ BL3.out) ?_
          clear hK K
          (try simp only [glA, glB, glC, Act.put, glD, glE, glF])
          obtain ⟨T7, hT⟩ : ∃ x, wL2.heap.size = x := ⟨_, rfl⟩
          rw [hT] at K7 HL7 ⊢
          (try rw [hT] at NE)
          clear hT
          obtain ⟨wL3, hw⟩ : ∃ x, wL2.alloc (.cells #[.slice none 0 0, .int .i64 0, .slice none 0 0] 29) = x := ⟨_, rfl⟩
          rw [hw] at K7 BL3 ⊢
          (try rw [hw] at R1)
          (try rw [hw] at R2)
          (try rw [hw] at K8)
          clear hw
          refine wpAnyJ_one 5 rfl (by kernel_rfl) (fun K hK => ?_)
          have BL4 := hide (BL3.out.alloc BL3.out.size (.cells #[.slice none 0 0, .int .i64 0, .slice none 0 0] 29))
          have hb : Below wL3.heap.size wL3 (wL3.alloc (.cells #[.slice none 0 0, .int .i64 0, .slice none 0 0] 29)) := (Below.refl _ _).alloc (Nat.le_refl _) _
          have HL8 : Hid (lo ≤ wL3.heap.size) := hide (by rw [HLO.out]; exact BL3.out.size)
          (try have NE : Hid (T7 ≠ wL3.heap.size) := hide (by have := K7.out.lt; omega))
          (try replace R1 := hide (R1.out.ext hb))
          (try replace R2 := hide (R2.out.ext hb))
          (try replace K7 := hide (K7.out.ext hb))
          (try replace K8 := hide (K8.out.ext hb))
          clear hb
          have K8 := hide (Blk.new wL3 29 #[.slice none 0 0, .int .i64 0, .slice none 0 0])
          simp only [glA, glB, glC]
          go_simp
          refine hK.out _ _ (fun _ => HSB.out _ BL4.out) ?_
          clear hK K
          (try simp only [glA, glB, glC, Act.put, glD, glE, glF])
          obtain ⟨T8, hT⟩ : ∃ x, wL3.heap.size = x := ⟨_, rfl⟩
          rw [hT] at K8 HL8 ⊢
          (try rw [hT] at NE)
          clear hT
          obtain ⟨wL4, hw⟩ : ∃ x, wL3.alloc (.cells #[.slice none 0 0, .int .i64 0, .slice none 0 0] 29) = x := ⟨_, rfl⟩
          rw [hw] at K8 BL4 ⊢
          (try rw [hw] at R1)
          (try rw [hw] at R2)
          (try rw [hw] at K7)
          clear hw
          have ne : T7 ≠ T8 := by first | exact NE.out | exact NE.out.symm
          obtain ⟨z9, z0, z1, z2, z3, z4, z5⟩ := blk3 K7.out
          have hbs := set3B BL4.out (by rw [← HLO.out]; exact HL7.out : wL0.heap.size ≤ T7) (.slice d1.fa 2 d1.fc) (.int .i64 1) (.slice d1.ra n1 d1.rc)
          have kx : KX wL4 (((wL4.setCell ⟨T7, 0, none⟩ (.slice d1.fa 2 d1.fc)).setCell ⟨T7, 1, none⟩ (.int .i64 1)).setCell ⟨T7, 2, none⟩ (.slice d1.ra n1 d1.rc)) T7 none := (((KX.refl wL4 T7 none).set 0 _).set 1 _).set 2 _
          have k7 := K7.out.set3 (.slice d1.fa 2 d1.fc) (.int .i64 1) (.slice d1.ra n1 d1.rc)
          have k8 := blk_kx K8.out kx ne.symm (by simp)
          have r1 := R1.out.kx K7.out kx
          have r2 := R2.out.kx K7.out kx
          have HBS := hide hbs
          clear hbs kx
          refine wpAnyJ_one 6 rfl (by kernel_rfl) (fun K hK => ?_)
          simp only [glA, glB, glC]
          go_simp
          refine hK.out _ _ (fun _ => HSB.out _ HBS.out) ?_
          clear hK K
          (try simp only [glA, glB, glC, Act.put, glD, glE, glF])
          obtain ⟨wS, hw⟩ : ∃ x, (((wL4.setCell ⟨T7, 0, none⟩ (.slice d1.fa 2 d1.fc)).setCell ⟨T7, 1, none⟩ (.int .i64 1)).setCell ⟨T7, 2, none⟩ (.slice d1.ra n1 d1.rc)) = x := ⟨_, rfl⟩
          rw [hw] at HBS k7 k8 r1 r2 ⊢
          clear hw z0 z1 z2 z3 z4 z5 z9
          obtain ⟨z9, z0, z1, z2, z3, z4, z5⟩ := blk3 k8
          have K7S := hide k7
          have K8S := hide k8
          have R1S := hide r1
          have R2S := hide r2
          clear k7 k8 r1 r2
          refine wpAnyJ_one 7 rfl (by kernel_rfl) (fun K hK => ?_)
          simp only [glA, glB, glC]
          go_simp
          refine hK.out _ _ (fun h => absurd h (by rw [show lastOp _ _ _ = true from by kernel_rfl]; simp)) ?_
          clear hK K
          (try simp only [glA, glB, glC, Act.put, glD, glE, glF])
          refine wpAnyJ_done (by kernel_rfl) ?_
          go_wp2_with fail
          go_meet
          have kx : KX wS (((wS.setCell ⟨T8, 0, none⟩ (.slice d2.fa 2 d2.fc)).setCell ⟨T8, 1, none⟩ (.int .i64 1)).setCell ⟨T8, 2, none⟩ (.slice d2.ra n2 d2.rc)) T8 none := (((KX.refl wS T8 none).set 0 _).set 1 _).set 2 _
          exact ⟨T7, T8, d1, d2, rfl, rfl, hide ⟨blk_kx K7S.out kx ne (by simp), K8S.out.set3 _ _ _, R1S.out.kx K8S.out kx, R2S.out.kx K8S.out kx, HM.out.trans ((set3B HBS.out (by rw [← HLO.out]; exact HL8.out : wL0.heap.size ≤ T8) _ _ _).mono HM.out.size)⟩⟩
        · have BL3 := hide (BL2.out.alloc BL2.out.size (.cells #[.slice none 0 0, .int .i64 0, .slice none 0 0] 29))
          have hb : Below wL2.heap.size wL2 (wL2.alloc (.cells #[.slice none 0 0, .int .i64 0, .slice none 0 0] 29)) := (Below.refl _ _).alloc (Nat.le_refl _) _
          have HL8 : Hid (lo ≤ wL2.heap.size) := hide (by rw [HLO.out]; exact BL2.out.size)
          (try have NE : Hid (T7 ≠ wL2.heap.size) := hide (by have := K7.out.lt; omega))
          (try replace R1 := hide (R1.out.ext hb))
          (try replace R2 := hide (R2.out.ext hb))
          (try replace K7 := hide (K7.out.ext hb))
          (try replace K8 := hide (K8.out.ext hb))
          clear hb
          have K8 := hide (Blk.new wL2 29 #[.slice none 0 0, .int .i64 0, .slice none 0 0])
          simp only [glA, glB, glC]
          go_simp
          refine hK.out _ _ (fun _ => HSB.out _ BL3.out) ?_
          clear hK K
          (try simp only [glA, glB, glC, Act.put, glD, glE, glF])
          obtain ⟨T8, hT⟩ : ∃ x, wL2.heap.size = x := ⟨_, rfl⟩
          rw [hT] at K8 HL8 ⊢
          (try rw [hT] at NE)
          clear hT
          obtain ⟨wL3, hw⟩ : ∃ x, wL2.alloc (.cells #[.slice none 0 0, .int .i64 0, .slice none 0 0] 29) = x := ⟨_, rfl⟩
          rw [hw] at K8 BL3 ⊢
          (try rw [hw] at R1)
          (try rw [hw] at R2)
          (try rw [hw] at K7)
          clear hw
          refine wpAnyJ_one 4 rfl (by kernel_rfl) (fun K hK => ?_)
          have BL4 := hide (BL3.out.alloc BL3.out.size (.cells #[.slice none 0 0, .int .i64 0, .slice none 0 0] 29))
          have hb : Below wL3.heap.size wL3 (wL3.alloc (.cells #[.slice none 0 0, .int .i64 0, .slice none 0 0] 29)) := (Below.refl _ _).alloc (Nat.le_refl _) _
          have HL7 : Hid (lo ≤ wL3.heap.size) := hide (by rw [HLO.out]; exact BL3.out.size)
          (try have NE : Hid (T8 ≠ wL3.heap.size) := hide (by have := K8.out.lt; omega))
          (try replace R1 := hide (R1.out.ext hb))
          (try replace R2 := hide (R2.out.ext hb))
          (try replace K7 := hide (K7.out.ext hb))
          (try replace K8 := hide (K8.out.ext hb))
          clear hb
          have K7 := hide (Blk.new wL3 29 #[.slice none 0 0, .int .i64 0, .slice none 0 0])
          simp only [glA, glB, glC]
          go_simp
          refine hK.out _ _ (fun _ => HSB.out _ BL4.out) ?_
          clear hK K
          (try simp only [glA, glB, glC, Act.put, glD, glE, glF])
          obtain ⟨T7, hT⟩ : ∃ x, wL3.heap.size = x := ⟨_, rfl⟩
          rw [hT] at K7 HL7 ⊢
          (try rw [hT] at NE)
          clear hT
          obtain ⟨wL4, hw⟩ : ∃ x, wL3.alloc (.cells #[.slice none 0 0, .int .i64 0, .slice none 0 0] 29) = x := ⟨_, rfl⟩
          rw [hw] at K7 BL4 ⊢
          (try rw [hw] at R1)
          (try rw [hw] at R2)
          (try rw [hw] at K8)
          clear hw
          have ne : T7 ≠ T8 := by first | exact NE.out | exact NE.out.symm
          obtain ⟨z9, z0, z1, z2, z3, z4, z5⟩ := blk3 K7.out
          have hbs := set3B BL4.out (by rw [← HLO.out]; exact HL7.out : wL0.heap.size ≤ T7) (.slice d1.fa 2 d1.fc) (.int .i64 1) (.slice d1.ra n1 d1.rc)
          have kx : KX wL4 (((wL4.setCell ⟨T7, 0, none⟩ (.slice d1.fa 2 d1.fc)).setCell ⟨T7, 1, none⟩ (.int .i64 1)).setCell ⟨T7, 2, none⟩ (.slice d1.ra n1 d1.rc)) T7 none := (((KX.refl wL4 T7 none).set 0 _).set 1 _).set 2 _
          have k7 := K7.out.set3 (.slice d1.fa 2 d1.fc) (.int .i64 1) (.slice d1.ra n1 d1.rc)
          have k8 := blk_kx K8.out kx ne.symm (by simp)
          have r1 := R1.out.kx K7.out kx
          have r2 := R2.out.kx K7.out kx
          have HBS := hide hbs
          clear hbs kx
          refine wpAnyJ_one 6 rfl (by kernel_rfl) (fun K hK => ?_)
          simp only [glA, glB, glC]
          go_simp
          refine hK.out _ _ (fun _ => HSB.out _ HBS.out) ?_
          clear hK K
          (try simp only [glA, glB, glC, Act.put, glD, glE, glF])
          obtain ⟨wS, hw⟩ : ∃ x, (((wL4.setCell ⟨T7, 0, none⟩ (.slice d1.fa 2 d1.fc)).setCell ⟨T7, 1, none⟩ (.int .i64 1)).setCell ⟨T7, 2, none⟩ (.slice d1.ra n1 d1.rc)) = x := ⟨_, rfl⟩
          rw [hw] at HBS k7 k8 r1 r2 ⊢
          clear hw z0 z1 z2 z3 z4 z5 z9
          obtain ⟨z9, z0, z1, z2, z3, z4, z5⟩ := blk3 k8
          have K7S := hide k7
          have K8S := hide k8
          have R1S := hide r1
          have R2S := hide r2
          clear k7 k8 r1 r2
          refine wpAnyJ_one 7 rfl (by kernel_rfl) (fun K hK => ?_)
          simp only [glA, glB, glC]
          go_simp
          refine hK.out _ _ (fun h => absurd h (by rw [show lastOp _ _ _ = true from by kernel_rfl]; simp)) ?_
          clear hK K
          (try simp only [glA, glB, glC, Act.put, glD, glE, glF])
          refine wpAnyJ_done (by kernel_rfl) ?_
          go_wp2_with fail
          go_meet
          have kx : KX wS (((wS.setCell ⟨T8, 0, none⟩ (.slice d2.fa 2 d2.fc)).setCell ⟨T8, 1, none⟩ (.int .i64 1)).setCell ⟨T8, 2, none⟩ (.slice d2.ra n2 d2.rc)) T8 none := (((KX.refl wS T8 none).set 0 _).set 1 _).set 2 _
          exact ⟨T7, T8, d1, d2, rfl, rfl, hide ⟨blk_kx K7S.out kx ne (by simp), K8S.out.set3 _ _ _, R1S.out.kx K8S.out kx, R2S.out.kx K8S.out kx, HM.out.trans ((set3B HBS.out (by rw [← HLO.out]; exact HL8.out : wL0.heap.size ≤ T8) _ _ _).mono HM.out.size)⟩⟩
      · have BL2 := hide (BL1.out.alloc BL1.out.size (.cells #[.slice none 0 0, .int .i64 0, .slice none 0 0] 29))
        have hb : Below wL1.heap.size wL1 (wL1.alloc (.cells #[.slice none 0 0, .int .i64 0, .slice none 0 0] 29)) := (Below.refl _ _).alloc (Nat.le_refl _) _
        have HL7 : Hid (lo ≤ wL1.heap.size) := hide (by rw [HLO.out]; exact BL1.out.size)
        (try have NE : Hid (T8 ≠ wL1.heap.size) := hide (by have := K8.out.lt; omega))
        (try replace R1 := hide (R1.out.ext hb))
        (try replace R2 := hide (R2.out.ext hb))
        (try replace K7 := hide (K7.out.ext hb))
        (try replace K8 := hide (K8.out.ext hb))
        clear hb
        have K7 := hide (Blk.new wL1 29 #[.slice none 0 0, .int .i64 0, .slice none 0 0])
        simp only [glA, glB, glC]
        go_simp
        refine hK.out _ _ (fun _ => HSB.out _ BL2.out) ?_
        clear hK K
        (try simp only [glA, glB, glC, Act.put, glD, glE, glF])
        obtain ⟨T7, hT⟩ : ∃ x, wL1.heap.size = x := ⟨_, rfl⟩
        rw [hT] at K7 HL7 ⊢
        (try rw [hT] at NE)
        clear hT
        obtain ⟨wL2, hw⟩ : ∃ x, wL1.alloc (.cells #[.slice none 0 0, .int .i64 0, .slice none 0 0] 29) = x := ⟨_, rfl⟩
        rw [hw] at K7 BL2 ⊢
        (try rw [hw] at R1)
        (try rw [hw] at R2)
        (try rw [hw] at K8)
        clear hw
        refine wpAnyJ_two 3 5 rfl rfl (by kernel_rfl) (fun K hK => ?_) (fun K hK => ?_)
        · simp only [glA, glB, glC]
          go_simp
          refine ⟨trivial, rfl, ?_⟩
          refine (callsIn_wide.2 (HL2.out wL2)).mono ?_
          rintro e wL3 ⟨d2, rfl, hd2, hb⟩
          have BL3 := hide (BL2.out.trans (hb.mono BL2.out.size))
          dsimp only
          refine hK.out _ _ (fun _ => HSB.out _ BL3.out) ?_
          clear hK K
          (try simp only [glA, glB, glC, Act.put, glD, glE, glF])
          (try replace R1 := hide (R1.out.ext hb))
          (try replace R2 := hide (R2.out.ext hb))
          (try replace K7 := hide (K7.out.ext hb))
          (try replace K8 := hide (K8.out.ext hb))
          clear hb
          have R2 := hide hd2
          clear hd2
          refine wpAnyJ_one 5 rfl (by kernel_rfl) (fun K hK => ?_)
          have BL4 := hide (BL3.out.alloc BL3.out.size (.cells #[.slice none 0 0, .int .i64 0, .slice none 0 0] 29))
          have hb : Below wL3.heap.size wL3 (wL3.alloc (.cells #[.slice none 0 0, .int .i64 0, .slice none 0 0] 29)) := (Below.refl _ _).alloc (Nat.le_refl _) _
          have HL8 : Hid (lo ≤ wL3.heap.size) := hide (by rw [HLO.out]; exact BL3.out.size)
          (try have NE : Hid (T7 ≠ wL3.heap.size) := hide (by have := K7.out.lt; omega))
          (try replace R1 := hide (R1.out.ext hb))
          (try replace R2 := hide (R2.out.ext hb))
          (try replace K7 := hide (K7.out.ext hb))
          (try replace K8 := hide (K8.out.ext hb))
          clear hb
          have K8 := hide (Blk.new wL3 29 #[.slice none 0 0, .int .i64 0, .slice none 0 0])
          simp only [glA, glB, glC]
          go_simp
          refine hK.out _ _ (fun _ => HSB.out _ BL4.out) ?_
          clear hK K
          (try simp only [glA, glB, glC, Act.put, glD, glE, glF])
          obtain ⟨T8, hT⟩ : ∃ x, wL3.heap.size = x := ⟨_, rfl⟩
          rw [hT] at K8 HL8 ⊢
          (try rw [hT] at NE)
          clear hT
          obtain ⟨wL4, hw⟩ : ∃ x, wL3.alloc (.cells #[.slice none 0 0, .int .i64 0, .slice none 0 0] 29) = x := ⟨_, rfl⟩
          rw [hw] at K8 BL4 ⊢
          (try rw [hw] at R1)
          (try rw [hw] at R2)
          (try rw [hw] at K7)
          clear hw
          have ne : T7 ≠ T8 := by first | exact NE.out | exact NE.out.symm
          obtain ⟨z9, z0, z1, z2, z3, z4, z5⟩ := blk3 K7.out
          have hbs := set3B BL4.out (by rw [← HLO.out]; exact HL7.out : wL0.heap.size ≤ T7) (.slice d1.fa 2 d1.fc) (.int .i64 1) (.slice d1.ra n1 d1.rc)
          have kx : KX wL4 (((wL4.setCell ⟨T7, 0, none⟩ (.slice d1.fa 2 d1.fc)).setCell ⟨T7, 1, none⟩ (.int .i64 1)).setCell ⟨T7, 2, none⟩ (.slice d1.ra n1 d1.rc)) T7 none := (((KX.refl wL4 T7 none).set 0 _).set 1 _).set 2 _
          have k7 := K7.out.set3 (.slice d1.fa 2 d1.fc) (.int .i64 1) (.slice d1.ra n1 d1.rc)
          have k8 := blk_kx K8.out kx ne.symm (by simp)
          have r1 := R1.out.kx K7.out kx
          have r2 := R2.out.kx K7.out kx
          have HBS := hide hbs
          clear hbs kx
          refine wpAnyJ_one 6 rfl (by kernel_rfl) (fun K hK => ?_)
          simp only [glA, glB, glC]
          go_simp
          refine hK.out _ _ (fun _ => HSB.out _ HBS.out) ?_
          clear hK K
          (try simp only [glA, glB, glC, Act.put, glD, glE, glF])
          obtain ⟨wS, hw⟩ : ∃ x, (((wL4.setCell ⟨T7, 0, none⟩ (.slice d1.fa 2 d1.fc)).setCell ⟨T7, 1, none⟩ (.int .i64 1)).setCell ⟨T7, 2, none⟩ (.slice d1.ra n1 d1.rc)) = x := ⟨_, rfl⟩
          rw [hw] at HBS k7 k8 r1 r2 ⊢
          clear hw z0 z1 z2 z3 z4 z5 z9
          obtain ⟨z9, z0, z1, z2, z3, z4, z5⟩ := blk3 k8
          have K7S := hide k7
          have K8S := hide k8
          have R1S := hide r1
          have R2S := hide r2
          clear k7 k8 r1 r2
          refine wpAnyJ_one 7 rfl (by kernel_rfl) (fun K hK => ?_)
          simp only [glA, glB, glC]
          go_simp
          refine hK.out _ _ (fun h => absurd h (by rw [show lastOp _ _ _ = true from by kernel_rfl]; simp)) ?_
          clear hK K
          (try simp only [glA, glB, glC, Act.put, glD, glE, glF])
          refine wpAnyJ_done (by kernel_rfl) ?_
          go_wp2_with fail
          go_meet
          have kx : KX wS (((wS.setCell ⟨T8, 0, none⟩ (.slice d2.fa 2 d2.fc)).setCell ⟨T8, 1, none⟩ (.int .i64 1)).setCell ⟨T8, 2, none⟩ (.slice d2.ra n2 d2.rc)) T8 none := (((KX.refl wS T8 none).set 0 _).set 1 _).set 2 _
          exact ⟨T7, T8, d1, d2, rfl, rfl, hide ⟨blk_kx K7S.out kx ne (by simp), K8S.out.set3 _ _ _, R1S.out.kx K8S.out kx, R2S.out.kx K8S.out kx, HM.out.trans ((set3B HBS.out (by rw [← HLO.out]; exact HL8.out : wL0.heap.size ≤ T8) _ _ _).mono HM.out.size)⟩⟩
        · have BL3 := hide (BL2.out.alloc BL2.out.size (.cells #[.slice none 0 0, .int .i64 0, .slice none 0 0] 29))
          have hb : Below wL2.heap.size wL2 (wL2.alloc (.cells #[.slice none 0 0, .int .i64 0, .slice none 0 0] 29)) := (Below.refl _ _).alloc (Nat.le_refl _) _
          have HL8 : Hid (lo ≤ wL2.heap.size) := hide (by rw [HLO.out]; exact BL2.out.size)
          (try have NE : Hid (T7 ≠ wL2.heap.size) := hide (by have := K7.out.lt; omega))
          (try replace R1 := hide (R1.out.ext hb))
          (try replace R2 := hide (R2.out.ext hb))
          (try replace K7 := hide (K7.out.ext hb))
          (try replace K8 := hide (K8.out.ext hb))
          clear hb
          have K8 := hide (Blk.new wL2 29 #[.slice none 0 0, .int .i64 0, .slice none 0 0])
          simp only [glA, glB, glC]
          go_simp
          refine hK.out _ _ (fun _ => HSB.out _ BL3.out) ?_
          clear hK K
          (try simp only [glA, glB, glC, Act.put, glD, glE, glF])
          obtain ⟨T8, hT⟩ : ∃ x, wL2.heap.size = x := ⟨_, rfl⟩
          rw [hT] at K8 HL8 ⊢
          (try rw [hT] at NE)
          clear hT
          obtain ⟨wL3, hw⟩ : ∃ x, wL2.alloc (.cells #[.slice none 0 0, .int .i64 0, .slice none 0 0] 29) = x := ⟨_, rfl⟩
          rw [hw] at K8 BL3 ⊢
          (try rw [hw] at R1)
          (try rw [hw] at R2)
          (try rw [hw] at K7)
          clear hw
          refine wpAnyJ_one 3 rfl (by kernel_rfl) (fun K hK => ?_)
          simp only [glA, glB, glC]
          go_simp
          refine ⟨trivial, rfl, ?_⟩
          refine (callsIn_wide.2 (HL2.out wL3)).mono ?_
          rintro e wL4 ⟨d2, rfl, hd2, hb⟩
          have BL4 := hide (BL3.out.trans (hb.mono BL3.out.size))
          dsimp only
          refine hK.out _ _ (fun _ => HSB.out _ BL4.out) ?_
          clear hK K
          (try simp only [glA, glB, glC, Act.put, glD, glE, glF])
          (try replace R1 := hide (R1.out.ext hb))
          (try replace R2 := hide (R2.out.ext hb))
          (try replace K7 := hide (K7.out.ext hb))
          (try replace K8 := hide (K8.out.ext hb))
          clear hb
          have R2 := hide hd2
          clear hd2
          have ne : T7 ≠ T8 := by first | exact NE.out | exact NE.out.symm
          obtain ⟨z9, z0, z1, z2, z3, z4, z5⟩ := blk3 K7.out
          have hbs := set3B BL4.out (by rw [← HLO.out]; exact HL7.out : wL0.heap.size ≤ T7) (.slice d1.fa 2 d1.fc) (.int .i64 1) (.slice d1.ra n1 d1.rc)
          have kx : KX wL4 (((wL4.setCell ⟨T7, 0, none⟩ (.slice d1.fa 2 d1.fc)).setCell ⟨T7, 1, none⟩ (.int .i64 1)).setCell ⟨T7, 2, none⟩ (.slice d1.ra n1 d1.rc)) T7 none := (((KX.refl wL4 T7 none).set 0 _).set 1 _).set 2 _
          have k7 := K7.out.set3 (.slice d1.fa 2 d1.fc) (.int .i64 1) (.slice d1.ra n1 d1.rc)
          have k8 := blk_kx K8.out kx ne.symm (by simp)
          have r1 := R1.out.kx K7.out kx
          have r2 := R2.out.kx K7.out kx
          have HBS := hide hbs
          clear hbs kx
          refine wpAnyJ_one 6 rfl (by kernel_rfl) (fun K hK => ?_)
          simp only [glA, glB, glC]
          go_simp
          refine hK.out _ _ (fun _ => HSB.out _ HBS.out) ?_
          clear hK K
          (try simp only [glA, glB, glC, Act.put, glD, glE, glF])
          obtain ⟨wS, hw⟩ : ∃ x, (((wL4.setCell ⟨T7, 0, none⟩ (.slice d1.fa 2 d1.fc)).setCell ⟨T7, 1, none⟩ (.int .i64 1)).setCell ⟨T7, 2, none⟩ (.slice d1.ra n1 d1.rc)) = x := ⟨_, rfl⟩
          rw [hw] at HBS k7 k8 r1 r2 ⊢
          clear hw z0 z1 z2 z3 z4 z5 z9
          obtain ⟨z9, z0, z1, z2, z3, z4, z5⟩ := blk3 k8
          have K7S := hide k7
          have K8S := hide k8
          have R1S := hide r1
          have R2S := hide r2
          clear k7 k8 r1 r2
          refine wpAnyJ_one 7 rfl (by kernel_rfl) (fun K hK => ?_)
          simp only [glA, glB, glC]
          go_simp
          refine hK.out _ _ (fun h => absurd h (by rw [show lastOp _ _ _ = true from by kernel_rfl]; simp)) ?_
          clear hK K
          (try simp only [glA, glB, glC, Act.put, glD, glE, glF])
          refine wpAnyJ_done (by kernel_rfl) ?_
          go_wp2_with fail
          go_meet
          have kx : KX wS (((wS.setCell ⟨T8, 0, none⟩ (.slice d2.fa 2 d2.fc)).setCell ⟨T8, 1, none⟩ (.int .i64 1)).setCell ⟨T8, 2, none⟩ (.slice d2.ra n2 d2.rc)) T8 none := (((KX.refl wS T8 none).set 0 _).set 1 _).set 2 _
          exact ⟨T7, T8, d1, d2, rfl, rfl, hide ⟨blk_kx K7S.out kx ne (by simp), K8S.out.set3 _ _ _, R1S.out.kx K8S.out kx, R2S.out.kx K8S.out kx, HM.out.trans ((set3B HBS.out (by rw [← HLO.out]; exact HL8.out : wL0.heap.size ≤ T8) _ _ _).mono HM.out.size)⟩⟩
      · have BL2 := hide (BL1.out.alloc BL1.out.size (.cells #[.slice none 0 0, .int .i64 0, .slice none 0 0] 29))
        have hb : Below wL1.heap.size wL1 (wL1.alloc (.cells #[.slice none 0 0, .int .i64 0, .slice none 0 0] 29)) := (Below.refl _ _).alloc (Nat.le_refl _) _
        have HL8 : Hid (lo ≤ wL1.heap.size) := hide (by rw [HLO.out]; exact BL1.out.size)
        (try have NE : Hid (T7 ≠ wL1.heap.size) := hide (by have := K7.out.lt; omega))
        (try replace R1 := hide (R1.out.ext hb))
        (try replace R2 := hide (R2.out.ext hb))
        (try replace K7 := hide (K7.out.ext hb))
        (try replace K8 := hide (K8.out.ext hb))
        clear hb
        have K8 := hide (Blk.new wL1 29 #[.slice none 0 0, .int .i64 0, .slice none 0 0])
        simp only [glA, glB, glC]
        go_simp
        refine hK.out _ _ (fun _ => HSB.out _ BL2.out) ?_
        clear hK K
        (try simp only [glA, glB, glC, Act.put, glD, glE, glF])
        obtain ⟨T8, hT⟩ : ∃ x, wL1.heap.size = x := ⟨_, rfl⟩
        rw [hT] at K8 HL8 ⊢
        (try rw [hT] at NE)
        clear hT
        obtain ⟨wL2, hw⟩ : ∃ x, wL1.alloc (.cells #[.slice none 0 0, .int .i64 0, .slice none 0 0] 29) = x := ⟨_, rfl⟩
        rw [hw] at K8 BL2 ⊢
        (try rw [hw] at R1)
        (try rw [hw] at R2)
        (try rw [hw] at K7)
        clear hw
        refine wpAnyJ_two 3 4 rfl rfl (by kernel_rfl) (fun K hK => ?_) (fun K hK => ?_)
        · simp only [glA, glB, glC]
          go_simp
          refine ⟨trivial, rfl, ?_⟩
          refine (callsIn_wide.2 (HL2.out wL2)).mono ?_
          rintro e wL3 ⟨d2, rfl, hd2, hb⟩
          have BL3 := hide (BL2.out.trans (hb.mono BL2.out.size))
          dsimp only
          refine hK.out _ _ (fun _ => HSB.out _ BL3.out) ?_
          clear hK K
          (try simp only [glA, glB, glC, Act.put, glD, glE, glF])
          (try replace R1 := hide (R1.out.ext hb))
          (try replace R2 := hide (R2.out.ext hb))
          (try replace K7 := hide (K7.out.ext hb))
          (try replace K8 := hide (K8.out.ext hb))
          clear hb
          have R2 := hide hd2
          clear hd2
          refine wpAnyJ_one 4 rfl (by kernel_rfl) (fun K hK => ?_)
          have BL4 := hide (BL3.out.alloc BL3.out.size (.cells #[.slice none 0 0, .int .i64 0, .slice none 0 0] 29))
          have hb : Below wL3.heap.size wL3 (wL3.alloc (.cells #[.slice none 0 0, .int .i64 0, .slice none 0 0] 29)) := (Below.refl _ _).alloc (Nat.le_refl _) _
          have HL7 : Hid (lo ≤ wL3.heap.size) := hide (by rw [HLO.out]; exact BL3.out.size)
          (try have NE : Hid (T8 ≠ wL3.heap.size) := hide (by have := K8.out.lt; omega))
          (try replace R1 := hide (R1.out.ext hb))
          (try replace R2 := hide (R2.out.ext hb))
          (try replace K7 := hide (K7.out.ext hb))
          (try replace K8 := hide (K8.out.ext hb))
          clear hb
          have K7 := hide (Blk.new wL3 29 #[.slice none 0 0, .int .i64 0, .slice none 0 0])
          simp only [glA, glB, glC]
          go_simp
          refine hK.out _ _ (fun _ => HSB.out _ BL4.out) ?_
          clear hK K
          (try simp only [glA, glB, glC, Act.put, glD, glE, glF])
          obtain ⟨T7, hT⟩ : ∃ x, wL3.heap.size = x := ⟨_, rfl⟩
          rw [hT] at K7 HL7 ⊢
          (try rw [hT] at NE)
          clear hT
          obtain ⟨wL4, hw⟩ : ∃ x, wL3.alloc (.cells #[.slice none 0 0, .int .i64 0, .slice none 0 0] 29) = x := ⟨_, rfl⟩
          rw [hw] at K7 BL4 ⊢
          (try rw [hw] at R1)
          (try rw [hw] at R2)
          (try rw [hw] at K8)
          clear hw
          have ne : T7 ≠ T8 := by first | exact NE.out | exact NE.out.symm
          obtain ⟨z9, z0, z1, z2, z3, z4, z5⟩ := blk3 K7.out
          have hbs := set3B BL4.out (by rw [← HLO.out]; exact HL7.out : wL0.heap.size ≤ T7) (.slice d1.fa 2 d1.fc) (.int .i64 1) (.slice d1.ra n1 d1.rc)
          have kx : KX wL4 (((wL4.setCell ⟨T7, 0, none⟩ (.slice d1.fa 2 d1.fc)).setCell ⟨T7, 1, none⟩ (.int .i64 1)).setCell ⟨T7, 2, none⟩ (.slice d1.ra n1 d1.rc)) T7 none := (((KX.refl wL4 T7 none).set 0 _).set 1 _).set 2 _
          have k7 := K7.out.set3 (.slice d1.fa 2 d1.fc) (.int .i64 1) (.slice d1.ra n1 d1.rc)
          have k8 := blk_kx K8.out kx ne.symm (by simp)
          have r1 := R1.out.kx K7.out kx
          have r2 := R2.out.kx K7.out kx
          have HBS := hide hbs
          clear hbs kx
          refine wpAnyJ_one 6 rfl (by kernel_rfl) (fun K hK => ?_)
          simp only [glA, glB, glC]
          go_simp
          refine hK.out _ _ (fun _ => HSB.out _ HBS.out) ?_
          clear hK K
          (try simp only [glA, glB, glC, Act.put, glD, glE, glF])
          obtain ⟨wS, hw⟩ : ∃ x, (((wL4.setCell ⟨T7, 0, none⟩ (.slice d1.fa 2 d1.fc)).setCell ⟨T7, 1, none⟩ (.int .i64 1)).setCell ⟨T7, 2, none⟩ (.slice d1.ra n1 d1.rc)) = x := ⟨_, rfl⟩
          rw [hw] at HBS k7 k8 r1 r2 ⊢
          clear hw z0 z1 z2 z3 z4 z5 z9
          obtain ⟨z9, z0, z1, z2, z3, z4, z5⟩ := blk3 k8
          have K7S := hide k7
          have K8S := hide k8
          have R1S := hide r1
          have R2S := hide r2
          clear k7 k8 r1 r2
          refine wpAnyJ_one 7 rfl (by kernel_rfl) (fun K hK => ?_)
          simp only [glA, glB, glC]
          go_simp
          refine hK.out _ _ (fun h => absurd h (by rw [show lastOp _ _ _ = true from by kernel_rfl]; simp)) ?_
          clear hK K
          (try simp only [glA, glB, glC, Act.put, glD, glE, glF])
          refine wpAnyJ_done (by kernel_rfl) ?_
          go_wp2_with fail
          go_meet
          have kx : KX wS (((wS.setCell ⟨T8, 0, none⟩ (.slice d2.fa 2 d2.fc)).setCell ⟨T8, 1, none⟩ (.int .i64 1)).setCell ⟨T8, 2, none⟩ (.slice d2.ra n2 d2.rc)) T8 none := (((KX.refl wS T8 none).set 0 _).set 1 _).set 2 _
          exact ⟨T7, T8, d1, d2, rfl, rfl, hide ⟨blk_kx K7S.out kx ne (by simp), K8S.out.set3 _ _ _, R1S.out.kx K8S.out kx, R2S.out.kx K8S.out kx, HM.out.trans ((set3B HBS.out (by rw [← HLO.out]; exact HL8.out : wL0.heap.size ≤ T8) _ _ _).mono HM.out.size)⟩⟩
        · have BL3 := hide (BL2.out.alloc BL2.out.size (.cells #[.slice none 0 0, .int .i64 0, .slice none 0 0] 29))
          have hb : Below wL2.heap.size wL2 (wL2.alloc (.cells #[.slice none 0 0, .int .i64 0, .slice none 0 0] 29)) := (Below.refl _ _).alloc (Nat.le_refl _) _
          have HL7 : Hid (lo ≤ wL2.heap.size) := hide (by rw [HLO.out]; exact BL2.out.size)
          (try have NE : Hid (T8 ≠ wL2.heap.size) := hide (by have := K8.out.lt; omega))
          (try replace R1 := hide (R1.out.ext hb))
          (try replace R2 := hide (R2.out.ext hb))
          (try replace K7 := hide (K7.out.ext hb))
          (try replace K8 := hide (K8.out.ext hb))
          clear hb
          have K7 := hide (Blk.new wL2 29 #[.slice none 0 0, .int .i64 0, .slice none 0 0])
          simp only [glA, glB, glC]
          go_simp
          refine hK.out _ _ (fun _ => HSB.out _ BL3.out) ?_
          clear hK K
          (try simp only [glA, glB, glC, Act.put, glD, glE, glF])
          obtain ⟨T7, hT⟩ : ∃ x, wL2.heap.size = x := ⟨_, rfl⟩
          rw [hT] at K7 HL7 ⊢
          (try rw [hT] at NE)
          clear hT
          obtain ⟨wL3, hw⟩ : ∃ x, wL2.alloc (.cells #[.slice none 0 0, .int .i64 0, .slice none 0 0] 29) = x := ⟨_, rfl⟩
          rw [hw] at K7 BL3 ⊢
          (try rw [hw] at R1)
          (try rw [hw] at R2)
          (try rw [hw] at K8)
          clear hw
          refine wpAnyJ_one 3 rfl (by kernel_rfl) (fun K hK => ?_)
          simp only [glA, glB, glC]
          go_simp
          refine ⟨trivial, rfl, ?_⟩
          refine (callsIn_wide.2 (HL2.out wL3)).mono ?_
          rintro e wL4 ⟨d2, rfl, hd2, hb⟩
          have BL4 := hide (BL3.out.trans (hb.mono BL3.out.size))
          dsimp only
          refine hK.out _ _ (fun _ => HSB.out _ BL4.out) ?_
          clear hK K
          (try simp only [glA, glB, glC, Act.put, glD, glE, glF])
          (try replace R1 := hide (R1.out.ext hb))
          (try replace R2 := hide (R2.out.ext hb))
          (try replace K7 := hide (K7.out.ext hb))
          (try replace K8 := hide (K8.out.ext hb))
          clear hb
          have R2 := hide hd2
          clear hd2
          have ne : T7 ≠ T8 := by first | exact NE.out | exact NE.out.symm
          obtain ⟨z9, z0, z1, z2, z3, z4, z5⟩ := blk3 K7.out
          have hbs := set3B BL4.out (by rw [← HLO.out]; exact HL7.out : wL0.heap.size ≤ T7) (.slice d1.fa 2 d1.fc) (.int .i64 1) (.slice d1.ra n1 d1.rc)
          have kx : KX wL4 (((wL4.setCell ⟨T7, 0, none⟩ (.slice d1.fa 2 d1.fc)).setCell ⟨T7, 1, none⟩ (.int .i64 1)).setCell ⟨T7, 2, none⟩ (.slice d1.ra n1 d1.rc)) T7 none := (((KX.refl wL4 T7 none).set 0 _).set 1 _).set 2 _
          have k7 := K7.out.set3 (.slice d1.fa 2 d1.fc) (.int .i64 1) (.slice d1.ra n1 d1.rc)
          have k8 := blk_kx K8.out kx ne.symm (by simp)
          have r1 := R1.out.kx K7.out kx
          have r2 := R2.out.kx K7.out kx
          have HBS := hide hbs
          clear hbs kx
          refine wpAnyJ_one 6 rfl (by kernel_rfl) (fun K hK => ?_)
          simp only [glA, glB, glC]
          go_simp
          refine hK.out _ _ (fun _ => HSB.out _ HBS.out) ?_
          clear hK K
          (try simp only [glA, glB, glC, Act.put, glD, glE, glF])
          obtain ⟨wS, hw⟩ : ∃ x, (((wL4.setCell ⟨T7, 0, none⟩ (.slice d1.fa 2 d1.fc)).setCell ⟨T7, 1, none⟩ (.int .i64 1)).setCell ⟨T7, 2, none⟩ (.slice d1.ra n1 d1.rc)) = x := ⟨_, rfl⟩
          rw [hw] at HBS k7 k8 r1 r2 ⊢
          clear hw z0 z1 z2 z3 z4 z5 z9
          obtain ⟨z9, z0, z1, z2, z3, z4, z5⟩ := blk3 k8
          have K7S := hide k7
          have K8S := hide k8
          have R1S := hide r1
          have R2S := hide r2
          clear k7 k8 r1 r2
          refine wpAnyJ_one 7 rfl (by kernel_rfl) (fun K hK => ?_)
          simp only [glA, glB, glC]
          go_simp
          refine hK.out _ _ (fun h => absurd h (by rw [show lastOp _ _ _ = true from by kernel_rfl]; simp)) ?_
          clear hK K
          (try simp only [glA, glB, glC, Act.put, glD, glE, glF])
          refine wpAnyJ_done (by kernel_rfl) ?_
          go_wp2_with fail
          go_meet
          have kx : KX wS (((wS.setCell ⟨T8, 0, none⟩ (.slice d2.fa 2 d2.fc)).setCell ⟨T8, 1, none⟩ (.int .i64 1)).setCell ⟨T8, 2, none⟩ (.slice d2.ra n2 d2.rc)) T8 none := (((KX.refl wS T8 none).set 0 _).set 1 _).set 2 _
          exact ⟨T7, T8, d1, d2, rfl, rfl, hide ⟨blk_kx K7S.out kx ne (by simp), K8S.out.set3 _ _ _, R1S.out.kx K8S.out kx, R2S.out.kx K8S.out kx, HM.out.trans ((set3B HBS.out (by rw [← HLO.out]; exact HL8.out : wL0.heap.size ≤ T8) _ _ _).mono HM.out.size)⟩⟩
    · have BL1 := hide (BL0.out.alloc BL0.out.size (.cells #[.slice none 0 0, .int .i64 0, .slice none 0 0] 29))
      have hb : Below wL0.heap.size wL0 (wL0.alloc (.cells #[.slice none 0 0, .int .i64 0, .slice none 0 0] 29)) := (Below.refl _ _).alloc (Nat.le_refl _) _
      have HL7 : Hid (lo ≤ wL0.heap.size) := hide (by rw [HLO.out]; exact BL0.out.size)
      (try have NE : Hid (T8 ≠ wL0.heap.size) := hide (by have := K8.out.lt; omega))
      (try replace R1 := hide (R1.out.ext hb))
      (try replace R2 := hide (R2.out.ext hb))
      (try replace K7 := hide (K7.out.ext hb))
      (try replace K8 := hide (K8.out.ext hb))
      clear hb
      have K7 := hide (Blk.new wL0 29 #[.slice none 0 0, .int .i64 0, .slice none 0 0])
      simp only [glA, glB, glC]
      go_simp
      refine hK.out _ _ (fun _ => HSB.out _ BL1.out) ?_
      clear hK K
      (try simp only [glA, glB, glC, Act.put, glD, glE, glF])
      obtain ⟨T7, hT⟩ : ∃ x, wL0.heap.size = x := ⟨_, rfl⟩
      rw [hT] at K7 HL7 ⊢
      (try rw [hT] at NE)
      clear hT
      obtain ⟨wL1, hw⟩ : ∃ x, wL0.alloc (.cells #[.slice none 0 0, .int .i64 0, .slice none 0 0] 29) = x := ⟨_, rfl⟩
      rw [hw] at K7 BL1 ⊢
      (try rw [hw] at R1)
      (try rw [hw] at R2)
      (try rw [hw] at K8)
      clear hw
      refine wpAnyJ_two 1 5 rfl rfl (by kernel_rfl) (fun K hK => ?_) (fun K hK => ?_)
      · simp only [glA, glB, glC]
        go_simp
        refine ⟨trivial, rfl, ?_⟩
        refine (callsIn_wide.2 (HL1.out wL1)).mono ?_
        rintro e wL2 ⟨d1, rfl, hd1, hb⟩
        have BL2 := hide (BL1.out.trans (hb.mono BL1.out.size))
        dsimp only
        refine hK.out _ _ (fun _ => HSB.out _ BL2.out) ?_
        clear hK K
        (try simp only [glA, glB, glC, Act.put, glD, glE, glF])
        (try replace R1 := hide (R1.out.ext hb))
        (try replace R2 := hide (R2.out.ext hb))
        (try replace K7 := hide (K7.out.ext hb))
        (try replace K8 := hide (K8.out.ext hb))
        clear hb
        have R1 := hide hd1
        clear hd1
        refine wpAnyJ_two 3 5 rfl rfl (by kernel_rfl) (fun K hK => ?_) (fun K hK => ?_)
        · simp only [glA, glB, glC]
          go_simp
          refine ⟨trivial, rfl, ?_⟩
          refine (callsIn_wide.2 (HL2.out wL2)).mono ?_
          rintro e wL3 ⟨d2, rfl, hd2, hb⟩
          have BL3 := hide (BL2.out.trans (hb.mono BL2.out.size))
          dsimp only
          refine hK.out _ _ (fun _ => HSB.out _ BL3.out) ?_
          clear hK K
          (try simp only [glA, glB, glC, Act.put, glD, glE, glF])
          (try replace R1 := hide (R1.out.ext hb))
          (try replace R2 := hide (R2.out.ext hb))
          (try replace K7 := hide (K7.out.ext hb))
          (try replace K8 := hide (K8.out.ext hb))
          clear hb
          have R2 := hide hd2
          clear hd2
          refine wpAnyJ_one 5 rfl (by kernel_rfl) (fun K hK => ?_)
          have BL4 := hide (BL3.out.alloc BL3.out.size (.cells #[.slice none 0 0, .int .i64 0, .slice none 0 0] 29))
          have hb : Below wL3.heap.size wL3 (wL3.alloc (.cells #[.slice none 0 0, .int .i64 0, .slice none 0 0] 29)) := (Below.refl _ _).alloc (Nat.le_refl _) _
          have HL8 : Hid (lo ≤ wL3.heap.size) := hide (by rw [HLO.out]; exact BL3.out.size)
          (try have NE : Hid (T7 ≠ wL3.heap.size) := hide (by have := K7.out.lt; omega))
          (try replace R1 := hide (R1.out.ext hb))
          (try replace R2 := hide (R2.out.ext hb))
          (try replace K7 := hide (K7.out.ext hb))
          (try replace K8 := hide (K8.out.ext hb))
          clear hb
          have K8 := hide (Blk.new wL3 29 #[.slice none 0 0, .int .i64 0, .slice none 0 0])
          simp only [glA, glB, glC]
          go_simp
          refine hK.out _ _ (fun _ => HSB.out _ BL4.out) ?_
          clear hK K
          (try simp only [glA, glB, glC, Act.put, glD, glE, glF])
          obtain ⟨T8, hT⟩ : ∃ x, wL3.heap.size = x := ⟨_, rfl⟩
          rw [hT] at K8 HL8 ⊢
          (try rw [hT] at NE)
          clear hT
          obtain ⟨wL4, hw⟩ : ∃ x, wL3.alloc (.cells #[.slice none 0 0, .int .i64 0, .slice none 0 0] 29) = x := ⟨_, rfl⟩
          rw [hw] at K8 BL4 ⊢
          (try rw [hw] at R1)
          (try rw [hw] at R2)
          (try rw [hw] at K7)
          clear hw
          have ne : T7 ≠ T8 := by first | exact NE.out | exact NE.out.symm
          obtain ⟨z9, z0, z1, z2, z3, z4, z5⟩ := blk3 K7.out
          have hbs := set3B BL4.out (by rw [← HLO.out]; exact HL7.out : wL0.heap.size ≤ T7) (.slice d1.fa 2 d1.fc) (.int .i64 1) (.slice d1.ra n1 d1.rc)
          have kx : KX wL4 (((wL4.setCell ⟨T7, 0, none⟩ (.slice d1.fa 2 d1.fc)).setCell ⟨T7, 1, none⟩ (.int .i64 1)).setCell ⟨T7, 2, none⟩ (.slice d1.ra n1 d1.rc)) T7 none := (((KX.refl wL4 T7 none).set 0 _).set 1 _).set 2 _
          have k7 := K7.out.set3 (.slice d1.fa 2 d1.fc) (.int .i64 1) (.slice d1.ra n1 d1.rc)
          have k8 := blk_kx K8.out kx ne.symm (by simp)
          have r1 := R1.out.kx K7.out kx
          have r2 := R2.out.kx K7.out kx
          have HBS := hide hbs
          clear hbs kx
          refine wpAnyJ_one 6 rfl (by kernel_rfl) (fun K hK => ?_)
          simp only [glA, glB, glC]
          go_simp
          refine hK.out _ _ (fun _ => HSB.out _ HBS.out) ?_
          clear hK K
          (try simp only [glA, glB, glC, Act.put, glD, glE, glF])
          obtain ⟨wS, hw⟩ : ∃ x, (((wL4.setCell ⟨T7, 0, none⟩ (.slice d1.fa 2 d1.fc)).setCell ⟨T7, 1, none⟩ (.int .i64 1)).setCell ⟨T7, 2, none⟩ (.slice d1.ra n1 d1.rc)) = x := ⟨_, rfl⟩
          rw [hw] at HBS k7 k8 r1 r2 ⊢
          clear hw z0 z1 z2 z3 z4 z5 z9
          obtain ⟨z9, z0, z1, z2, z3, z4, z5⟩ := blk3 k8
          have K7S := hide k7
          have K8S := hide k8
          have R1S := hide r1
          have R2S := hide r2
          clear k7 k8 r1 r2
          refine wpAnyJ_one 7 rfl (by kernel_rfl) (fun K hK => ?_)
          simp only [glA, glB, glC]
          go_simp
          refine hK.out _ _ (fun h => absurd h (by rw [show lastOp _ _ _ = true from by kernel_rfl]; simp)) ?_
          clear hK K
          (try simp only [glA, glB, glC, Act.put, glD, glE, glF])
          refine wpAnyJ_done (by kernel_rfl) ?_
          go_wp2_with fail
          go_meet
          have kx : KX wS (((wS.setCell ⟨T8, 0, none⟩ (.slice d2.fa 2 d2.fc)).setCell ⟨T8, 1, none⟩ (.int .i64 1)).setCell ⟨T8, 2, none⟩ (.slice d2.ra n2 d2.rc)) T8 none := (((KX.refl wS T8 none).set 0 _).set 1 _).set 2 _
          exact ⟨T7, T8, d1, d2, rfl, rfl, hide ⟨blk_kx K7S.out kx ne (by simp), K8S.out.set3 _ _ _, R1S.out.kx K8S.out kx, R2S.out.kx K8S.out kx, HM.out.trans ((set3B HBS.out (by rw [← HLO.out]; exact HL8.out : wL0.heap.size ≤ T8) _ _ _).mono HM.out.size)⟩⟩
        · have BL3 := hide (BL2.out.alloc BL2.out.size (.cells #[.slice none 0 0, .int .i64 0, .slice none 0 0] 29))
          have hb : Below wL2.heap.size wL2 (wL2.alloc (.cells #[.slice none 0 0, .int .i64 0, .slice none 0 0] 29)) := (Below.refl _ _).alloc (Nat.le_refl _) _
          have HL8 : Hid (lo ≤ wL2.heap.size) := hide (by rw [HLO.out]; exact BL2.out.size)
          (try have NE : Hid (T7 ≠ wL2.heap.size) := hide (by have := K7.out.lt; omega))
          (try replace R1 := hide (R1.out.ext hb))
          (try replace R2 := hide (R2.out.ext hb))
          (try replace K7 := hide (K7.out.ext hb))
          (try replace K8 := hide (K8.out.ext hb))
          clear hb
          have K8 := hide (Blk.new wL2 29 #[.slice none 0 0, .int .i64 0, .slice none 0 0])
          simp only [glA, glB, glC]
          go_simp
          refine hK.out _ _ (fun _ => HSB.out _ BL3.out) ?_
          clear hK K
          (try simp only [glA, glB, glC, Act.put, glD, glE, glF])
          obtain ⟨T8, hT⟩ : ∃ x, wL2.heap.size = x := ⟨_, rfl⟩
          rw [hT] at K8 HL8 ⊢
          (try rw [hT] at NE)
          clear hT
          obtain ⟨wL3, hw⟩ : ∃ x, wL2.alloc (.cells #[.slice none 0 0, .int .i64 0, .slice none 0 0] 29) = x := ⟨_, rfl⟩
          rw [hw] at K8 BL3 ⊢
          (try rw [hw] at R1)
          (try rw [hw] at R2)
          (try rw [hw] at K7)
          clear hw
          refine wpAnyJ_one 3 rfl (by kernel_rfl) (fun K hK => ?_)
          simp only [glA, glB, glC]
          go_simp
          refine ⟨trivial, rfl, ?_⟩
          refine (callsIn_wide.2 (HL2.out wL3)).mono ?_
          rintro e wL4 ⟨d2, rfl, hd2, hb⟩
          have BL4 := hide (BL3.out.trans (hb.mono BL3.out.size))
          dsimp only
          refine hK.out _ _ (fun _ => HSB.out _ BL4.out) ?_
          clear hK K
          (try simp only [glA, glB, glC, Act.put, glD, glE, glF])
          (try replace R1 := hide (R1.out.ext hb))
          (try replace R2 := hide (R2.out.ext hb))
          (try replace K7 := hide (K7.out.ext hb))
          (try replace K8 := hide (K8.out.ext hb))
          clear hb
          have R2 := hide hd2
          clear hd2
          have ne : T7 ≠ T8 := by first | exact NE.out | exact NE.out.symm
          obtain ⟨z9, z0, z1, z2, z3, z4, z5⟩ := blk3 K7.out
          have hbs := set3B BL4.out (by rw [← HLO.out]; exact HL7.out : wL0.heap.size ≤ T7) (.slice d1.fa 2 d1.fc) (.int .i64 1) (.slice d1.ra n1 d1.rc)
          have kx : KX wL4 (((wL4.setCell ⟨T7, 0, none⟩ (.slice d1.fa 2 d1.fc)).setCell ⟨T7, 1, none⟩ (.int .i64 1)).setCell ⟨T7, 2, none⟩ (.slice d1.ra n1 d1.rc)) T7 none := (((KX.refl wL4 T7 none).set 0 _).set 1 _).set 2 _
          have k7 := K7.out.set3 (.slice d1.fa 2 d1.fc) (.int .i64 1) (.slice d1.ra n1 d1.rc)
          have k8 := blk_kx K8.out kx ne.symm (by simp)
          have r1 := R1.out.kx K7.out kx
          have r2 := R2.out.kx K7.out kx
          have HBS := hide hbs
          clear hbs kx
          refine wpAnyJ_one 6 rfl (by kernel_rfl) (fun K hK => ?_)
          simp only [glA, glB, glC]
          go_simp
          refine hK.out _ _ (fun _ => HSB.out _ HBS.out) ?_
          clear hK K
          (try simp only [glA, glB, glC, Act.put, glD, glE, glF])
          obtain ⟨wS, hw⟩ : ∃ x, (((wL4.setCell ⟨T7, 0, none⟩ (.slice d1.fa 2 d1.fc)).setCell ⟨T7, 1, none⟩ (.int .i64 1)).setCell ⟨T7, 2, none⟩ (.slice d1.ra n1 d1.rc)) = x := ⟨_, rfl⟩
          rw [hw] at HBS k7 k8 r1 r2 ⊢
          clear hw z0 z1 z2 z3 z4 z5 z9
          obtain ⟨z9, z0, z1, z2, z3, z4, z5⟩ := blk3 k8
          have K7S := hide k7
          have K8S := hide k8
          have R1S := hide r1
          have R2S := hide r2
          clear k7 k8 r1 r2
          refine wpAnyJ_one 7 rfl (by kernel_rfl) (fun K hK => ?_)
          simp only [glA, glB, glC]
          go_simp
          refine hK.out _ _ (fun h => absurd h (by rw [show lastOp _ _ _ = true from by kernel_rfl]; simp)) ?_
          clear hK K
          (try simp only [glA, glB, glC, Act.put, glD, glE, glF])
          refine wpAnyJ_done (by kernel_rfl) ?_
          go_wp2_with fail
          go_meet
          have kx : KX wS (((wS.setCell ⟨T8, 0, none⟩ (.slice d2.fa 2 d2.fc)).setCell ⟨T8, 1, none⟩ (.int .i64 1)).setCell ⟨T8, 2, none⟩ (.slice d2.ra n2 d2.rc)) T8 none := (((KX.refl wS T8 none).set 0 _).set 1 _).set 2 _
          exact ⟨T7, T8, d1, d2, rfl, rfl, hide ⟨blk_kx K7S.out kx ne (by simp), K8S.out.set3 _ _ _, R1S.out.kx K8S.out kx, R2S.out.kx K8S.out kx, HM.out.trans ((set3B HBS.out (by rw [← HLO.out]; exact HL8.out : wL0.heap.size ≤ T8) _ _ _).mono HM.out.size)⟩⟩
      · have BL2 := hide (BL1.out.alloc BL1.out.size (.cells #[.slice none 0 0, .int .i64 0, .slice none 0 0] 29))
        have hb : Below wL1.heap.size wL1 (wL1.alloc (.cells #[.slice none 0 0, .int .i64 0, .slice none 0 0] 29)) := (Below.refl _ _).alloc (Nat.le_refl _) _
        have HL8 : Hid (lo ≤ wL1.heap.size) := hide (by rw [HLO.out]; exact BL1.out.size)
        (try have NE : Hid (T7 ≠ wL1.heap.size) := hide (by have := K7.out.lt; omega))
        (try replace R1 := hide (R1.out.ext hb))
        (try replace R2 := hide (R2.out.ext hb))
        (try replace K7 := hide (K7.out.ext hb))
        (try replace K8 := hide (K8.out.ext hb))
        clear hb
        have K8 := hide (Blk.new wL1 29 #[.slice none 0 0, .int .i64 0, .slice none 0 0])
        simp only [glA, glB, glC]
        go_simp
        refine hK.out _ _ (fun _ => HSB.out _ BL2.out) ?_
        clear hK K
        (try simp only [glA, glB, glC, Act.put, glD, glE, glF])
        obtain ⟨T8, hT⟩ : ∃ x, wL1.heap.size = x := ⟨_, rfl⟩
        rw [hT] at K8 HL8 ⊢
        (try rw [hT] at NE)
        clear hT
        obtain ⟨wL2, hw⟩ : ∃ x, wL1.alloc (.cells #[.slice none 0 0, .int .i64 0, .slice none 0 0] 29) = x := ⟨_, rfl⟩
        rw [hw] at K8 BL2 ⊢
        (try rw [hw] at R1)
        (try rw [hw] at R2)
        (try rw [hw] at K7)
        clear hw
        refine wpAnyJ_one 1 rfl (by kernel_rfl) (fun K hK => ?_)
        simp only [glA, glB, glC]
        go_simp
        refine ⟨trivial, rfl, ?_⟩
        refine (callsIn_wide.2 (HL1.out wL2)).mono ?_
        rintro e wL3 ⟨d1, rfl, hd1, hb⟩
        have BL3 := hide (BL2.out.trans (hb.mono BL2.out.size))
        dsimp only
        refine hK.out _ _ (fun _ => HSB.out _ BL3.out) ?_
        clear hK K
        (try simp only [glA, glB, glC, Act.put, glD, glE, glF])
        (try replace R1 := hide (R1.out.ext hb))
        (try replace R2 := hide (R2.out.ext hb))
        (try replace K7 := hide (K7.out.ext hb))
        (try replace K8 := hide (K8.out.ext hb))
        clear hb
        have R1 := hide hd1
        clear hd1
        refine wpAnyJ_one 3 rfl (by kernel_rfl) (fun K hK => ?_)
        simp only [glA, glB, glC]
        go_simp
        refine ⟨trivial, rfl, ?_⟩
        refine (callsIn_wide.2 (HL2.out wL3)).mono ?_
        rintro e wL4 ⟨d2, rfl, hd2, hb⟩
        have BL4 := hide (BL3.out.trans (hb.mono BL3.out.size))
        dsimp only
        refine hK.out _ _ (fun _ => HSB.out _ BL4.out) ?_
        clear hK K
        (try simp only [glA, glB, glC, Act.put, glD, glE, glF])
        (try replace R1 := hide (R1.out.ext hb))
        (try replace R2 := hide (R2.out.ext hb))
        (try replace K7 := hide (K7.out.ext hb))
        (try replace K8 := hide (K8.out.ext hb))
        clear hb
        have R2 := hide hd2
        clear hd2
        have ne : T7 ≠ T8 := by first | exact NE.out | exact NE.out.symm
        obtain ⟨z9, z0, z1, z2, z3, z4, z5⟩ := blk3 K7.out
        have hbs := set3B BL4.out (by rw [← HLO.out]; exact HL7.out : wL0.heap.size ≤ T7) (.slice d1.fa 2 d1.fc) (.int .i64 1) (.slice d1.ra n1 d1.rc)
        have kx : KX wL4 (((wL4.setCell ⟨T7, 0, none⟩ (.slice d1.fa 2 d1.fc)).setCell ⟨T7, 1, none⟩ (.int .i64 1)).setCell ⟨T7, 2, none⟩ (.slice d1.ra n1 d1.rc)) T7 none := (((KX.refl wL4 T7 none).set 0 _).set 1 _).set 2 _
        have k7 := K7.out.set3 (.slice d1.fa 2 d1.fc) (.int .i64 1) (.slice d1.ra n1 d1.rc)
        have k8 := blk_kx K8.out kx ne.symm (by simp)
        have r1 := R1.out.kx K7.out kx
        have r2 := R2.out.kx K7.out kx
        have HBS := hide hbs
        clear hbs kx
        refine wpAnyJ_one 6 rfl (by kernel_rfl) (fun K hK => ?_)
        simp only [glA, glB, glC]
        go_simp
        refine hK.out _ _ (fun _ => HSB.out _ HBS.out) ?_
        clear hK K
        (try simp only [glA, glB, glC, Act.put, glD, glE, glF])
        obtain ⟨wS, hw⟩ : ∃ x, (((wL4.setCell ⟨T7, 0, none⟩ (.slice d1.fa 2 d1.fc)).setCell ⟨T7, 1, none⟩ (.int .i64 1)).setCell ⟨T7, 2, none⟩ (.slice d1.ra n1 d1.rc)) = x := ⟨_, rfl⟩
        rw [hw] at HBS k7 k8 r1 r2 ⊢
        clear hw z0 z1 z2 z3 z4 z5 z9
        obtain ⟨z9, z0, z1, z2, z3, z4, z5⟩ := blk3 k8
        have K7S := hide k7
        have K8S := hide k8
        have R1S := hide r1
        have R2S := hide r2
        clear k7 k8 r1 r2
        refine wpAnyJ_one 7 rfl (by kernel_rfl) (fun K hK => ?_)
        simp only [glA, glB, glC]
        go_simp
        refine hK.out _ _ (fun h => absurd h (by rw [show lastOp _ _ _ = true from by kernel_rfl]; simp)) ?_
        clear hK K
        (try simp only [glA, glB, glC, Act.put, glD, glE, glF])
        refine wpAnyJ_done (by kernel_rfl) ?_
        go_wp2_with fail
        go_meet
        have kx : KX wS (((wS.setCell ⟨T8, 0, none⟩ (.slice d2.fa 2 d2.fc)).setCell ⟨T8, 1, none⟩ (.int .i64 1)).setCell ⟨T8, 2, none⟩ (.slice d2.ra n2 d2.rc)) T8 none := (((KX.refl wS T8 none).set 0 _).set 1 _).set 2 _
        exact ⟨T7, T8, d1, d2, rfl, rfl, hide ⟨blk_kx K7S.out kx ne (by simp), K8S.out.set3 _ _ _, R1S.out.kx K8S.out kx, R2S.out.kx K8S.out kx, HM.out.trans ((set3B HBS.out (by rw [← HLO.out]; exact HL8.out : wL0.heap.size ≤ T8) _ _ _).mono HM.out.size)⟩⟩
    · have BL1 := hide (BL0.out.alloc BL0.out.size (.cells #[.slice none 0 0, .int .i64 0, .slice none 0 0] 29))
      have hb : Below wL0.heap.size wL0 (wL0.alloc (.cells #[.slice none 0 0, .int .i64 0, .slice none 0 0] 29)) := (Below.refl _ _).alloc (Nat.le_refl _) _
      have HL8 : Hid (lo ≤ wL0.heap.size) := hide (by rw [HLO.out]; exact BL0.out.size)
      (try have NE : Hid (T7 ≠ wL0.heap.size) := hide (by have := K7.out.lt; omega))
      (try replace R1 := hide (R1.out.ext hb))
      (try replace R2 := hide (R2.out.ext hb))
      (try replace K7 := hide (K7.out.ext hb))
      (try replace K8 := hide (K8.out.ext hb))
      clear hb
      have K8 := hide (Blk.new wL0 29 #[.slice none 0 0, .int .i64 0, .slice none 0 0])
      simp only [glA, glB, glC]
      go_simp
      refine hK.out _ _ (fun _ => HSB.out _ BL1.out) ?_
      clear hK K
      (try simp only [glA, glB, glC, Act.put, glD, glE, glF])
      obtain ⟨T8, hT⟩ : ∃ x, wL0.heap.size = x := ⟨_, rfl⟩
      rw [hT] at K8 HL8 ⊢
      (try rw [hT] at NE)
      clear hT
      obtain ⟨wL1, hw⟩ : ∃ x, wL0.alloc (.cells #[.slice none 0 0, .int .i64 0, .slice none 0 0] 29) = x := ⟨_, rfl⟩
      rw [hw] at K8 BL1 ⊢
      (try rw [hw] at R1)
      (try rw [hw] at R2)
      (try rw [hw] at K7)
      clear hw
      refine wpAnyJ_two 1 4 rfl rfl (by kernel_rfl) (fun K hK => ?_) (fun K hK => ?_)
      · simp only [glA, glB, glC]
        go_simp
        refine ⟨trivial, rfl, ?_⟩
        refine (callsIn_wide.2 (HL1.out wL1)).mono ?_
        rintro e wL2 ⟨d1, rfl, hd1, hb⟩
        have BL2 := hide (BL1.out.trans (hb.mono BL1.out.size))
        dsimp only
        refine hK.out _ _ (fun _ => HSB.out _ BL2.out) ?_
        clear hK K
        (try simp only [glA, glB, glC, Act.put, glD, glE, glF])
        (try replace R1 := hide (R1.out.ext hb))
        (try replace R2 := hide (R2.out.ext hb))
        (try replace K7 := hide (K7.out.ext hb))
        (try replace K8 := hide (K8.out.ext hb))
        clear hb
        have R1 := hide hd1
        clear hd1
        refine wpAnyJ_two 3 4 rfl rfl (by kernel_rfl) (fun K hK => ?_) (fun K hK => ?_)
        · simp only [glA, glB, glC]
          go_simp
          refine ⟨trivial, rfl, ?_⟩
          refine (callsIn_wide.2 (HL2.out wL2)).mono ?_
          rintro e wL3 ⟨d2, rfl, hd2, hb⟩
          have BL3 := hide (BL2.out.trans (hb.mono BL2.out.size))
          dsimp only
          refine hK.out _ _ (fun _ => HSB.out _ BL3.out) ?_
          clear hK K
          (try simp only [glA, glB, glC, Act.put, glD, glE, glF])
          (try replace R1 := hide (R1.out.ext hb))
          (try replace R2 := hide (R2.out.ext hb))
          (try replace K7 := hide (K7.out.ext hb))
          (try replace K8 := hide (K8.out.ext hb))
          clear hb
          have R2 := hide hd2
          clear hd2
          refine wpAnyJ_one 4 rfl (by kernel_rfl) (fun K hK => ?_)
          have BL4 := hide (BL3.out.alloc BL3.out.size (.cells #[.slice none 0 0, .int .i64 0, .slice none 0 0] 29))
          have hb : Below wL3.heap.size wL3 (wL3.alloc (.cells #[.slice none 0 0, .int .i64 0, .slice none 0 0] 29)) := (Below.refl _ _).alloc (Nat.le_refl _) _
          have HL7 : Hid (lo ≤ wL3.heap.size) := hide (by rw [HLO.out]; exact BL3.out.size)
          (try have NE : Hid (T8 ≠ wL3.heap.size) := hide (by have := K8.out.lt; omega))
          (try replace R1 := hide (R1.out.ext hb))
          (try replace R2 := hide (R2.out.ext hb))
          (try replace K7 := hide (K7.out.ext hb))
          (try replace K8 := hide (K8.out.ext hb))
          clear hb
          have K7 := hide (Blk.new wL3 29 #[.slice none 0 0, .int .i64 0, .slice none 0 0])
          simp only [glA, glB, glC]
          go_simp
          refine hK.out _ _ (fun _ => HSB.out _ BL4.out) ?_
          clear hK K
          (try simp only [glA, glB, glC, Act.put, glD, glE, glF])
          obtain ⟨T7, hT⟩ : ∃ x, wL3.heap.size = x := ⟨_, rfl⟩
          rw [hT] at K7 HL7 ⊢
          (try rw [hT] at NE)
          clear hT
          obtain ⟨wL4, hw⟩ : ∃ x, wL3.alloc (.cells #[.slice none 0 0, .int .i64 0, .slice none 0 0] 29) = x := ⟨_, rfl⟩
          rw [hw] at K7 BL4 ⊢
          (try rw [hw] at R1)
          (try rw [hw] at R2)
          (try rw [hw] at K8)
          clear hw
          have ne : T7 ≠ T8 := by first | exact NE.out | exact NE.out.symm
          obtain ⟨z9, z0, z1, z2, z3, z4, z5⟩ := blk3 K7.out
          have hbs := set3B BL4.out (by rw [← HLO.out]; exact HL7.out : wL0.heap.size ≤ T7) (.slice d1.fa 2 d1.fc) (.int .i64 1) (.slice d1.ra n1 d1.rc)
          have kx : KX wL4 (((wL4.setCell ⟨T7, 0, none⟩ (.slice d1.fa 2 d1.fc)).setCell ⟨T7, 1, none⟩ (.int .i64 1)).setCell ⟨T7, 2, none⟩ (.slice d1.ra n1 d1.rc)) T7 none := (((KX.refl wL4 T7 none).set 0 _).set 1 _).set 2 _
          have k7 := K7.out.set3 (.slice d1.fa 2 d1.fc) (.int .i64 1) (.slice d1.ra n1 d1.rc)
          have k8 := blk_kx K8.out kx ne.symm (by simp)
          have r1 := R1.out.kx K7.out kx
          have r2 := R2.out.kx K7.out kx
          have HBS := hide hbs
          clear hbs kx
          refine wpAnyJ_one 6 rfl (by kernel_rfl) (fun K hK => ?_)
          simp only [glA, glB, glC]
          go_simp
          refine hK.out _ _ (fun _ => HSB.out _ HBS.out) ?_
          clear hK K
          (try simp only [glA, glB, glC, Act.put, glD, glE, glF])
          obtain ⟨wS, hw⟩ : ∃ x, (((wL4.setCell ⟨T7, 0, none⟩ (.slice d1.fa 2 d1.fc)).setCell ⟨T7, 1, none⟩ (.int .i64 1)).setCell ⟨T7, 2, none⟩ (.slice d1.ra n1 d1.rc)) = x := ⟨_, rfl⟩
          rw [hw] at HBS k7 k8 r1 r2 ⊢
          clear hw z0 z1 z2 z3 z4 z5 z9
          obtain ⟨z9, z0, z1, z2, z3, z4, z5⟩ := blk3 k8
          have K7S := hide k7
          have K8S := hide k8
          have R1S := hide r1
          have R2S := hide r2
          clear k7 k8 r1 r2
          refine wpAnyJ_one 7 rfl (by kernel_rfl) (fun K hK => ?_)
          simp only [glA, glB, glC]
          go_simp
          refine hK.out _ _ (fun h => absurd h (by rw [show lastOp _ _ _ = true from by kernel_rfl]; simp)) ?_
          clear hK K
          (try simp only [glA, glB, glC, Act.put, glD, glE, glF])
          refine wpAnyJ_done (by kernel_rfl) ?_
          go_wp2_with fail
          go_meet
          have kx : KX wS (((wS.setCell ⟨T8, 0, none⟩ (.slice d2.fa 2 d2.fc)).setCell ⟨T8, 1, none⟩ (.int .i64 1)).setCell ⟨T8, 2, none⟩ (.slice d2.ra n2 d2.rc)) T8 none := (((KX.refl wS T8 none).set 0 _).set 1 _).set 2 _
          exact ⟨T7, T8, d1, d2, rfl, rfl, hide ⟨blk_kx K7S.out kx ne (by simp), K8S.out.set3 _ _ _, R1S.out.kx K8S.out kx, R2S.out.kx K8S.out kx, HM.out.trans ((set3B HBS.out (by rw [← HLO.out]; exact HL8.out : wL0.heap.size ≤ T8) _ _ _).mono HM.out.size)⟩⟩
        · have BL3 := hide (BL2.out.alloc BL2.out.size (.cells #[.slice none 0 0, .int .i64 0, .slice none 0 0] 29))
          have hb : Below wL2.heap.size wL2 (wL2.alloc (.cells #[.slice none 0 0, .int .i64 0, .slice none 0 0] 29)) := (Below.refl _ _).alloc (Nat.le_refl _) _
          have HL7 : Hid (lo ≤ wL2.heap.size) := hide (by rw [HLO.out]; exact BL2.out.size)
          (try have NE : Hid (T8 ≠ wL2.heap.size) := hide (by have := K8.out.lt; omega))
          (try replace R1 := hide (R1.out.ext hb))
          (try replace R2 := hide (R2.out.ext hb))
          (try replace K7 := hide (K7.out.ext hb))
          (try replace K8 := hide (K8.out.ext hb))
          clear hb
          have K7 := hide (Blk.new wL2 29 #[.slice none 0 0, .int .i64 0, .slice none 0 0])
          simp only [glA, glB, glC]
          go_simp
          refine hK.out _ _ (fun _ => HSB.out _ BL3.out) ?_
          clear hK K
          (try simp only [glA, glB, glC, Act.put, glD, glE, glF])
          obtain ⟨T7, hT⟩ : ∃ x, wL2.heap.size = x := ⟨_, rfl⟩
          rw [hT] at K7 HL7 ⊢
          (try rw [hT] at NE)
          clear hT
          obtain ⟨wL3, hw⟩ : ∃ x, wL2.alloc (.cells #[.slice none 0 0, .int .i64 0, .slice none 0 0] 29) = x := ⟨_, rfl⟩
          rw [hw] at K7 BL3 ⊢
          (try rw [hw] at R1)
          (try rw [hw] at R2)
          (try rw [hw] at K8)
          clear hw
          refine wpAnyJ_one 3 rfl (by kernel_rfl) (fun K hK => ?_)
          simp only [glA, glB, glC]
          go_simp
          refine ⟨trivial, rfl, ?_⟩
          refine (callsIn_wide.2 (HL2.out wL3)).mono ?_
          rintro e wL4 ⟨d2, rfl, hd2, hb⟩
          have BL4 := hide (BL3.out.trans (hb.mono BL3.out.size))
          dsimp only
          refine hK.out _ _ (fun _ => HSB.out _ BL4.out) ?_
          clear hK K
          (try simp only [glA, glB, glC, Act.put, glD, glE, glF])
          (try replace R1 := hide (R1.out.ext hb))
          (try replace R2 := hide (R2.out.ext hb))
          (try replace K7 := hide (K7.out.ext hb))
          (try replace K8 := hide (K8.out.ext hb))
          clear hb
          have R2 := hide hd2
          clear hd2
          have ne : T7 ≠ T8 := by first | exact NE.out | exact NE.out.symm
          obtain ⟨z9, z0, z1, z2, z3, z4, z5⟩ := blk3 K7.out
          have hbs := set3B BL4.out (by rw [← HLO.out]; exact HL7.out : wL0.heap.size ≤ T7) (.slice d1.fa 2 d1.fc) (.int .i64 1) (.slice d1.ra n1 d1.rc)
          have kx : KX wL4 (((wL4.setCell ⟨T7, 0, none⟩ (.slice d1.fa 2 d1.fc)).setCell ⟨T7, 1, none⟩ (.int .i64 1)).setCell ⟨T7, 2, none⟩ (.slice d1.ra n1 d1.rc)) T7 none := (((KX.refl wL4 T7 none).set 0 _).set 1 _).set 2 _
          have k7 := K7.out.set3 (.slice d1.fa 2 d1.fc) (.int .i64 1) (.slice d1.ra n1 d1.rc)
          have k8 := blk_kx K8.out kx ne.symm (by simp)
          have r1 := R1.out.kx K7.out kx
          have r2 := R2.out.kx K7.out kx
          have HBS := hide hbs
          clear hbs kx
          refine wpAnyJ_one 6 rfl (by kernel_rfl) (fun K hK => ?_)
          simp only [glA, glB, glC]
          go_simp
          refine hK.out _ _ (fun _ => HSB.out _ HBS.out) ?_
          clear hK K
          (try simp only [glA, glB, glC, Act.put, glD, glE, glF])
          obtain ⟨wS, hw⟩ : ∃ x, (((wL4.setCell ⟨T7, 0, none⟩ (.slice d1.fa 2 d1.fc)).setCell ⟨T7, 1, none⟩ (.int .i64 1)).setCell ⟨T7, 2, none⟩ (.slice d1.ra n1 d1.rc)) = x := ⟨_, rfl⟩
          rw [hw] at HBS k7 k8 r1 r2 ⊢
          clear hw z0 z1 z2 z3 z4 z5 z9
          obtain ⟨z9, z0, z1, z2, z3, z4, z5⟩ := blk3 k8
          have K7S := hide k7
          have K8S := hide k8
          have R1S := hide r1
          have R2S := hide r2
          clear k7 k8 r1 r2
          refine wpAnyJ_one 7 rfl (by kernel_rfl) (fun K hK => ?_)
          simp only [glA, glB, glC]
          go_simp
          refine hK.out _ _ (fun h => absurd h (by rw [show lastOp _ _ _ = true from by kernel_rfl]; simp)) ?_
          clear hK K
          (try simp only [glA, glB, glC, Act.put, glD, glE, glF])
          refine wpAnyJ_done (by kernel_rfl) ?_
          go_wp2_with fail
          go_meet
          have kx : KX wS (((wS.setCell ⟨T8, 0, none⟩ (.slice d2.fa 2 d2.fc)).setCell ⟨T8, 1, none⟩ (.int .i64 1)).setCell ⟨T8, 2, none⟩ (.slice d2.ra n2 d2.rc)) T8 none := (((KX.refl wS T8 none).set 0 _).set 1 _).set 2 _
          exact ⟨T7, T8, d1, d2, rfl, rfl, hide ⟨blk_kx K7S.out kx ne (by simp), K8S.out.set3 _ _ _, R1S.out.kx K8S.out kx, R2S.out.kx K8S.out kx, HM.out.trans ((set3B HBS.out (by rw [← HLO.out]; exact HL8.out : wL0.heap.size ≤ T8) _ _ _).mono HM.out.size)⟩⟩
      · have BL2 := hide (BL1.out.alloc BL1.out.size (.cells #[.slice none 0 0, .int .i64 0, .slice none 0 0] 29))
        have hb : Below wL1.heap.size wL1 (wL1.alloc (.cells #[.slice none 0 0, .int .i64 0, .slice none 0 0] 29)) := (Below.refl _ _).alloc (Nat.le_refl _) _
        have HL7 : Hid (lo ≤ wL1.heap.size) := hide (by rw [HLO.out]; exact BL1.out.size)
        (try have NE : Hid (T8 ≠ wL1.heap.size) := hide (by have := K8.out.lt; omega))
        (try replace R1 := hide (R1.out.ext hb))
        (try replace R2 := hide (R2.out.ext hb))
        (try replace K7 := hide (K7.out.ext hb))
        (try replace K8 := hide (K8.out.ext hb))
        clear hb
        have K7 := hide (Blk.new wL1 29 #[.slice none 0 0, .int .i64 0, .slice none 0 0])
        simp only [glA, glB, glC]
        go_simp
        refine hK.out _ _ (fun _ => HSB.out _ BL2.out) ?_
        clear hK K
        (try simp only [glA, glB, glC, Act.put, glD, glE, glF])
        obtain ⟨T7, hT⟩ : ∃ x, wL1.heap.size = x := ⟨_, rfl⟩
        rw [hT] at K7 HL7 ⊢
        (try rw [hT] at NE)
        clear hT
        obtain ⟨wL2, hw⟩ : ∃ x, wL1.alloc (.cells #[.slice none 0 0, .int .i64 0, .slice none 0 0] 29) = x := ⟨_, rfl⟩
        rw [hw] at K7 BL2 ⊢
        (try rw [hw] at R1)
        (try rw [hw] at R2)
        (try rw [hw] at K8)
        clear hw
        refine wpAnyJ_one 1 rfl (by kernel_rfl) (fun K hK => ?_)
        simp only [glA, glB, glC]
        go_simp
        refine ⟨trivial, rfl, ?_⟩
        refine (callsIn_wide.2 (HL1.out wL2)).mono ?_
        rintro e wL3 ⟨d1, rfl, hd1, hb⟩
        have BL3 := hide (BL2.out.trans (hb.mono BL2.out.size))
        dsimp only
        refine hK.out _ _ (fun _ => HSB.out _ BL3.out) ?_
        clear hK K
        (try simp only [glA, glB, glC, Act.put, glD, glE, glF])
        (try replace R1 := hide (R1.out.ext hb))
        (try replace R2 := hide (R2.out.ext hb))
        (try replace K7 := hide (K7.out.ext hb))
        (try replace K8 := hide (K8.out.ext hb))
        clear hb
        have R1 := hide hd1
        clear hd1
        refine wpAnyJ_one 3 rfl (by kernel_rfl) (fun K hK => ?_)
        simp only [glA, glB, glC]
        go_simp
        refine ⟨trivial, rfl, ?_⟩
        refine (callsIn_wide.2 (HL2.out wL3)).mono ?_
        rintro e wL4 ⟨d2, rfl, hd2, hb⟩
        have BL4 := hide (BL3.out.trans (hb.mono BL3.out.size))
        dsimp only
        refine hK.out _ _ (fun _ => HSB.out _ BL4.out) ?_
        clear hK K
        (try simp only [glA, glB, glC, Act.put, glD, glE, glF])
        (try replace R1 := hide (R1.out.ext hb))
        (try replace R2 := hide (R2.out.ext hb))
        (try replace K7 := hide (K7.out.ext hb))
        (try replace K8 := hide (K8.out.ext hb))
        clear hb
        have R2 := hide hd2
        clear hd2
        have ne : T7 ≠ T8 := by first | exact NE.out | exact NE.out.symm
        obtain ⟨z9, z0, z1, z2, z3, z4, z5⟩ := blk3 K7.out
        have hbs := set3B BL4.out (by rw [← HLO.out]; exact HL7.out : wL0.heap.size ≤ T7) (.slice d1.fa 2 d1.fc) (.int .i64 1) (.slice d1.ra n1 d1.rc)
        have kx : KX wL4 (((wL4.setCell ⟨T7, 0, none⟩ (.slice d1.fa 2 d1.fc)).setCell ⟨T7, 1, none⟩ (.int .i64 1)).setCell ⟨T7, 2, none⟩ (.slice d1.ra n1 d1.rc)) T7 none := (((KX.refl wL4 T7 none).set 0 _).set 1 _).set 2 _
        have k7 := K7.out.set3 (.slice d1.fa 2 d1.fc) (.int .i64 1) (.slice d1.ra n1 d1.rc)
        have k8 := blk_kx K8.out kx ne.symm (by simp)
        have r1 := R1.out.kx K7.out kx
        have r2 := R2.out.kx K7.out kx
        have HBS := hide hbs
        clear hbs kx
        refine wpAnyJ_one 6 rfl (by kernel_rfl) (fun K hK => ?_)
        simp only [glA, glB, glC]
        go_simp
        refine hK.out _ _ (fun _ => HSB.out _ HBS.out) ?_
        clear hK K
        (try simp only [glA, glB, glC, Act.put, glD, glE, glF])
        obtain ⟨wS, hw⟩ : ∃ x, (((wL4.setCell ⟨T7, 0, none⟩ (.slice d1.fa 2 d1.fc)).setCell ⟨T7, 1, none⟩ (.int .i64 1)).setCell ⟨T7, 2, none⟩ (.slice d1.ra n1 d1.rc)) = x := ⟨_, rfl⟩
        rw [hw] at HBS k7 k8 r1 r2 ⊢
        clear hw z0 z1 z2 z3 z4 z5 z9
        obtain ⟨z9, z0, z1, z2, z3, z4, z5⟩ := blk3 k8
        have K7S := hide k7
        have K8S := hide k8
        have R1S := hide r1
        have R2S := hide r2
        clear k7 k8 r1 r2
        refine wpAnyJ_one 7 rfl (by kernel_rfl) (fun K hK => ?_)
        simp only [glA, glB, glC]
        go_simp
        refine hK.out _ _ (fun h => absurd h (by rw [show lastOp _ _ _ = true from by kernel_rfl]; simp)) ?_
        clear hK K
        (try simp only [glA, glB, glC, Act.put, glD, glE, glF])
        refine wpAnyJ_done (by kernel_rfl) ?_
        go_wp2_with fail
        go_meet
        have kx : KX wS (((wS.setCell ⟨T8, 0, none⟩ (.slice d2.fa 2 d2.fc)).setCell ⟨T8, 1, none⟩ (.int .i64 1)).setCell ⟨T8, 2, none⟩ (.slice d2.ra n2 d2.rc)) T8 none := (((KX.refl wS T8 none).set 0 _).set 1 _).set 2 _
        exact ⟨T7, T8, d1, d2, rfl, rfl, hide ⟨blk_kx K7S.out kx ne (by simp), K8S.out.set3 _ _ _, R1S.out.kx K8S.out kx, R2S.out.kx K8S.out kx, HM.out.trans ((set3B HBS.out (by rw [← HLO.out]; exact HL8.out : wL0.heap.size ≤ T8) _ _ _).mono HM.out.size)⟩⟩
  obtain ⟨T7, T8, d1, d2, rfl, rfl, HW⟩ := hcut
  clear HL1 HL2 HSB
  obtain ⟨DE, hDE⟩ : ∃ x, (dfR (lkS a) (lkS b) 0).2 = x := ⟨_, rfl⟩
  have hdf := lk_diff a b
  rw [hDE] at hdf HDF
  have HDE := hide hdf.1
  have HEQ := hide hdf.2
  clear hDE hdf
  obtain ⟨t0, t1, t2, t3, -⟩ := blk3 HW.out.b7
  obtain ⟨s0, s1, s2, s3, -⟩ := blk3 HW.out.b8
  go_wp2_with fail
  refine (HDF.out d1 d2 _ HW.out.r1 HW.out.r2).mono ?_
  rintro e w4 ⟨x9, rfl, hb4⟩
  replace HW := hide (HW.out.ext hb4)
  clear hb4 t0 t1 t2 t3 s0 s1 s2 s3 HDF
  go_upto_region 5 with fail
  go_cut [41] (fun v w' => v = .bool false ∧ w' = w4)
  case first =>
    rcases HDE.out with h | h <;> (subst h; go_wp2_with fail; go_meet; exact ⟨rfl, rfl⟩)
  obtain ⟨rfl, rfl⟩ := hcut
  go_wp2_with fail
  go_loopw [11, 12, 13, 14, 15, 16, 17, 18, 19, 20, 21] (fun i _ _ _ _ _ _ _ _ _ _ wr => ∃ k : Nat, k ≤ 9 ∧ i = .int .i64 k ∧ Hid (LwI w2 wr T7 T8 n1 n2 d1 d2 (lkS a) (lkS b))) (fun i _ _ _ _ _ _ _ _ _ _ _ => 9 - (intOf i).toNat)
  case atStart => exact ⟨0, Nat.zero_le _, rfl, HW⟩
  case round =>
    obtain ⟨k, hk, rfl, HR⟩ := hrel
    clear HW
    have hst : IntKind.i64.wrap ((k : Int) + 1) = ((k + 1 : Nat) : Int) := by rw [IntWalk.i64_in _ (by omega)]; omega
    by_cases hlt : k < 9
    · have hlt' : (k : Int) < 9 := by omega
      have e2 : (k : Int).tdiv 3 = ((k / 3 : Nat) : Int) := by rw [Int.tdiv_eq_ediv_of_nonneg (by omega)]; omega
      have e3 : (k : Int).tmod 3 = ((k % 3 : Nat) : Int) := by rw [Int.tmod_eq_emod_of_nonneg (by omega)]; omega
      obtain ⟨q, hq⟩ : ∃ x : Int, ((k / 3 : Nat) : Int) = x := ⟨_, rfl⟩
      obtain ⟨p, hp⟩ : ∃ x : Int, ((k % 3 : Nat) : Int) = x := ⟨_, rfl⟩
      have p6 : IntKind.i64.wrap q = q := IntWalk.i64_in _ (by omega)
      have HC1 := hide (fun W h => HD1.out d1 W h k hlt q p hq hp)
      have HC2 := hide (fun W h => HD2.out d2 W h k hlt q p hq hp)
      rw [hq] at e2
      rw [hp] at e3
      obtain ⟨f1, m0, m1⟩ := lk_says a hlt
      have heq : DE = 7 → vdF (lkS a) 0 k = vdF (lkS b) 0 k := fun h => HEQ.out h k hlt
      clear hq hp
      generalize vdF (lkS a) 0 k = r1 at HC1 f1 m0 m1 heq
      generalize vdF (lkS b) 0 k = r2 at HC2 heq
      obtain ⟨N1, F1⟩ := r1
      obtain ⟨N2, F2⟩ := r2
      dsimp only at HC1 HC2 f1 m0 m1
      have HF := hide f1
      have HN := hide (And.intro m0 m1)
      have HH := hide heq
      clear f1 m0 m1 heq
      obtain ⟨t0, t1, t2, t3, -⟩ := blk3 HR.out.b7
      go_wp2_with fail
      refine (HC1.out wr HR.out.r1).mono ?_
      rintro e w5 ⟨x5, rfl, hb5⟩
      replace HR := hide (HR.out.ext hb5)
      clear hb5 t0 t1 t2 t3 HC1
      obtain ⟨s0, s1, s2, s3, -⟩ := blk3 HR.out.b8
      go_wp2_with fail
      refine (HC2.out w5 HR.out.r2).mono ?_
      rintro e w6 ⟨x6, rfl, hb6⟩
      replace HR := hide (HR.out.ext hb6)
      clear hb6 s0 s1 s2 s3 HC2
      go_upto_region 12 with fail
      go_cut [87] (fun v w' => v = .bool false ∧ w' = w6)
      case first =>
       as_aux_lemma =>
        rcases HDE.out with h | h
        · subst h
          rcases HF.out with h2 | h2 <;> (subst h2; go_wp2_with fail; go_meet; exact ⟨rfl, rfl⟩)
        · have h3 := HH.out h
          injection h3 with h4 h5
          subst h h4 h5
          rcases HF.out with h2 | h2 <;> (subst h2; go_wp2_with fail; go_meet; exact ⟨rfl, rfl⟩)
      obtain ⟨rfl, rfl⟩ := hcut
      rcases HF.out with hf | hf
      · subst hf
        have hN := HN.out
        have hst2 := st_stages HRU.out.2
        obtain ⟨r, q1, q2, q3, q4, q5, q6⟩ := need_low hm6 hst2.1 hst2.2 N1 hN.1 hN.2
        have HND := hide q6
        have HSG : Hid (∀ W, Below w2.heap.size w2 W → Calls Tryd.prog 9 #[.slice A m c] W fun e w' => ∃ A' c', e = .returned (.slice A' m c') ∧ PI w' w'.heap.size A' m (sxF u m) (syF u m) ∧ Below W.heap.size W w') := hide fun W h => stages_law A m c u W (by omega) ((ER.below HRU.out.1 (HB0.out.trans (h.mono HB0.out.size)) (Nat.le_refl _)).more (HB0.out.trans (h.mono HB0.out.size)).size) HRU.out.2
        have HLF := hide (fun W A' c' hp => left_ok (r : Int) A' m c' (sxF u m) (syF u m) W (by omega) hp hst2.1 (by omega) (by omega))
        have HLL := hide (fun (h : 0 < r) W A' c' hp => left_ok ((r : Int) - 1) A' m c' (sxF u m) (syF u m) W (by omega) hp hst2.1 (by omega) (by omega))
        clear hN hst2 q6
        generalize aft (syF u m) m r = lo at q3 q5 HLF
        generalize aft (sxF u m) m r = hi at q5 HLF
        generalize aft (syF u m) m ((r : Int) - 1) = lo1 at q4 HLL
        generalize aft (sxF u m) m ((r : Int) - 1) = hi1 at HLL
        go_wp2_with fail
        refine (HSG.out _ HR.out.below).mono ?_
        rintro e w7 ⟨A7, c7, rfl, hp7, hb7⟩
        replace HR := hide (HR.out.ext hb7)
        have HP := hide hp7
        clear hp7 hb7
        go_wp2_with fail
        refine (HND.out _ _ _ HP.out).mono ?_
        rintro e w8 ⟨rfl, hb8⟩
        replace HR := hide (HR.out.ext hb8)
        clear hb8 HP HND
        go_wp2_with fail
        refine (HSG.out _ HR.out.below).mono ?_
        rintro e w9 ⟨A9, c9, rfl, hp9, hb9⟩
        replace HR := hide (HR.out.ext hb9)
        have HP := hide hp9
        clear hp9 hb9
        go_wp2_with fail
        refine (HLF.out _ _ _ HP.out).mono ?_
        rintro e w10 ⟨rfl, hb10⟩
        replace HR := hide ((HR.out.ext hb10).ext ((Below.refl _ _).alloc (Nat.le_refl _) (.cells #[.int .i64 lo, .int .i64 hi] 41)))
        clear hb10 HP HLF
        have g1 : ¬ (r : Int) < N1 := by omega
        have g2 : ¬ lo < N1 := by omega
        have g3 : ¬ hi < lo := by omega
        by_cases hr : 0 < r
        · have hr' : (r : Int) > 0 := by omega
          have p1 : IntKind.i64.wrap ((r : Int) - 1) = (r : Int) - 1 := IntWalk.i64_in _ (by omega)
          have g4 : ¬ lo1 ≥ N1 := by have := q4 hr; omega
          replace HLL := hide (HLL.out hr)
          clear q4
          go_wp2_with fail
          refine (HSG.out _ HR.out.below).mono ?_
          rintro e w11 ⟨A11, c11, rfl, hp11, hb11⟩
          replace HR := hide (HR.out.ext hb11)
          have HP := hide hp11
          clear hp11 hb11
          go_wp2_with fail
          refine (HLL.out _ _ _ HP.out).mono ?_
          rintro e w12 ⟨rfl, hb12⟩
          replace HR := hide ((HR.out.ext hb12).ext ((Below.refl _ _).alloc (Nat.le_refl _) (.cells #[.int .i64 lo1, .int .i64 hi1] 41)))
          clear hb12 HP HLL
          go_wp2_with fail
          go_roundw
          case rel => exact ⟨k + 1, by omega, by go_num, HR⟩
          case measure => simp [intOf]; omega
        · have hr' : ¬ (r : Int) > 0 := by omega
          clear q4
          go_wp2_with fail
          go_roundw
          case rel => exact ⟨k + 1, by omega, by go_num, HR⟩
          case measure => simp [intOf]; omega
      · subst hf
        go_wp2_with fail
        go_roundw
        case rel => exact ⟨k + 1, by omega, by go_num, HR⟩
        case measure => simp [intOf]; omega
    · obtain rfl : k = 9 := by omega
      have hnl : ¬ ((9 : Nat) : Int) < 9 := by omega
      go_wp2_with fail
      refine (HLT.out _).mono ?_
      rintro e w5 ⟨rfl, hb5⟩
      replace HR := hide (HR.out.ext hb5)
      clear hb5
      go_wp2_with fail
      refine (HLK.out _).mono ?_
      rintro e w6 ⟨rfl, hb6⟩
      replace HR := hide (HR.out.ext hb6)
      go_wp2_with fail
      go_ret
      exact ⟨rfl, HB0.out.trans (HR.out.below.mono HB0.out.size)⟩
end Go.Proofs.YtfbnpiafoaoddaaDoor
