/- School: a copied school whose lists are own; a rule is put behind its rules. -/
import Derived.Test.YtmpegkojencbjaaDoorMergesI
set_option linter.unusedSimpArgs false
set_option linter.unusedVariables false
set_option linter.unnecessarySimpa false
namespace Go.Proofs.YtmpegkojencbjaaDoor
open List renaming getElem_toArray → glA, getElem_cons_zero → glB, getElem_cons_succ → glC, setIfInBounds_toArray → glD, set_cons_zero → glE, set_cons_succ → glF
open Go Go.RowKit Go.Shelf
set_option maxHeartbeats 8000000
set_option maxRecDepth 100000
/-- a school whose lists are own -/
structure ScO (W : World) (base : Nat) (d : Ad_) (s : Sch) : Prop where
  fs : OwnJ W base (.slice d.fa s.fs.length d.fc) s.fs
  rs : ∃ L : List R3, Own3 W base (.slice d.ra s.rs.length d.rc) L ∧ L.length = s.rs.length ∧ ∀ j, j < s.rs.length → L.getD j r30 = (.slice (d.ta j) (s.rs.getD j r0).when_.length (d.tc j), (s.rs.getD j r0).ask, (s.rs.getD j r0).say) ∧ OwnQ W base (.slice (d.ta j) (s.rs.getD j r0).when_.length (d.tc j)) (s.rs.getD j r0).when_
theorem ScO.ext {W W' : World} {base : Nat} {d : Ad_} {s : Sch} (h : ScO W base d s) (hb : Below W.heap.size W W') : ScO W' base d s := by
  obtain ⟨L, h1, h2, h3⟩ := h.rs
  exact ⟨h.fs.ext hb, L, h1.ext hb, h2, fun j hj => ⟨(h3 j hj).1, (h3 j hj).2.ext hb⟩⟩
theorem ScO.read {W : World} {base : Nat} {d : Ad_} {s : Sch} (h : ScO W base d s) : ScR W W.heap.size d s := by
  obtain ⟨L, h1, h2, h3⟩ := h.rs
  refine ⟨(OwnJ.li h.fs).2, ⟨?_, fun k hk => (OwnQ.tsR (h3 k hk).2).2⟩⟩
  have h4 := (Own3.row h1).2
  rw [h2] at h4
  intro hn
  obtain ⟨b, off, hA, hb, hc⟩ := h4 hn
  refine ⟨b, off, hA, hb, fun k i hk1 hi => ?_⟩
  rw [hc k i hk1 hi]
  show some (r3V (L.getD k r30) i) = some (rlV (s.rs.getD k r0) (d.ta k) (d.tc k) i)
  rw [(h3 k hk1).1]
  rcases (by omega : i = 0 ∨ i = 1 ∨ i = 2) with rfl | rfl | rfl <;> rfl
theorem CpI.own {w W : World} {G R T : Nat} {d : Ad_} {s : Sch} {fa : Option Addr} {fc : Nat} {V : Value} {L : List R3} (h : CpI w W G R T d s fa fc s.rs.length V L) (w' : World) (hk : KX W w' R none) : ∃ d', V = .slice d'.ra s.rs.length d'.rc ∧ d'.fa = fa ∧ d'.fc = fc ∧ ScO w' w.heap.size d' s := by
  obtain ⟨A, c, hV⟩ := own_shape h.rsO
  rw [h.len] at hV
  subst hV
  have hc : ∀ j, ∃ ac : Option Addr × Nat, j < s.rs.length → L.getD j r30 = (.slice ac.1 (s.rs.getD j r0).when_.length ac.2, (s.rs.getD j r0).ask, (s.rs.getD j r0).say) ∧ OwnQ W w.heap.size (.slice ac.1 (s.rs.getD j r0).when_.length ac.2) (s.rs.getD j r0).when_ := fun j => by
    by_cases hj : j < s.rs.length
    · obtain ⟨a, c, h1, h2⟩ := h.rl j hj
      exact ⟨(a, c), fun _ => ⟨h1, h2⟩⟩
    · exact ⟨(none, 0), fun h => absurd h hj⟩
  obtain ⟨f, hf⟩ := Classical.axiomOfChoice hc
  refine ⟨⟨fa, fc, A, c, fun j => (f j).1, fun j => (f j).2⟩, rfl, rfl, rfl, ?_⟩
  refine ⟨own_kx h.fsO hk (own_blk_ne h.fsO h.blkR (by decide)) none_or, L, own_kx h.rsO hk (own_blk_ne h.rsO h.blkR (by decide)) none_or, h.len, fun j hj => ?_⟩
  have o3 := (hf j hj).2
  exact ⟨(hf j hj).1, own_kx o3 hk (own_blk_ne o3 h.blkR (by decide)) none_or⟩
def CpOwn (w : World) (s : Sch) (e : Ending) (w' : World) : Prop :=
  ∃ d', e = .returned (scV d' s) ∧ ScO w' w.heap.size d' s ∧ Below w.heap.size w w'
/-- a rule is put behind the rules of a school that lies in a block of its own -/
theorem ScO.plus {W : World} {base T : Nat} {d : Ad_} {s : Sch} (h : ScO W base d s) (hn : s.rs.length ≤ 1000) (hb : base ≤ W.heap.size) (A : Option Addr) (c b2 : Nat) (r : Rl) (hq : OwnQ W b2 (.slice A r.when_.length c) r.when_)
    (hT : Blk W T 47 #[.slice d.fa s.fs.length d.fc, .int .i64 s.q, .slice d.ra s.rs.length d.rc]) :
    ∃ B c' w6, (Builtin.append_ #[45, 45] 45 #[.slice d.ra s.rs.length d.rc, .slice (some ⟨W.heap.size, 0, none⟩) 1 1]).run Tryd.prog (W.alloc (.cells #[.slice A r.when_.length c, .int .i64 r.ask, .int .i64 r.say] 73)) = .ok (.slice B (s.rs.length + 1) c') w6 ∧
      Blk w6 T 47 #[.slice d.fa s.fs.length d.fc, .int .i64 s.q, .slice d.ra s.rs.length d.rc] ∧
      KX (W.alloc (.cells #[.slice A r.when_.length c, .int .i64 r.ask, .int .i64 r.say] 73)) (w6.setCell ⟨T, 2, none⟩ (.slice B (s.rs.length + 1) c')) T (Value.slice d.ra s.rs.length d.rc).ownBlock ∧
      Blk (w6.setCell ⟨T, 2, none⟩ (.slice B (s.rs.length + 1) c')) T 47 #[.slice d.fa s.fs.length d.fc, .int .i64 s.q, .slice B (s.rs.length + 1) c'] ∧
      (∀ (lo : Nat) (w0 : World), Below lo w0 W → lo ≤ base → lo ≤ T → Below lo w0 (w6.setCell ⟨T, 2, none⟩ (.slice B (s.rs.length + 1) c'))) ∧
      ∃ d', scV d' (plusR s r) = .agg #[.slice d.fa s.fs.length d.fc, .int .i64 s.q, .slice B (s.rs.length + 1) c'] ∧ ScR (w6.setCell ⟨T, 2, none⟩ (.slice B (s.rs.length + 1) c')) (w6.setCell ⟨T, 2, none⟩ (.slice B (s.rs.length + 1) c')).heap.size d' (plusR s r) := by
  obtain ⟨L, h1, h2, h3⟩ := h.rs
  obtain ⟨B, c', w6, hr, h6, hg⟩ := h1.push (.slice A r.when_.length c, r.ask, r.say) rfl (by rw [h2]; omega) hb
  rw [h2] at hr h6
  dsimp only at hr hg
  have hBA : Below W.heap.size W (W.alloc (.cells #[.slice A r.when_.length c, .int .i64 r.ask, .int .i64 r.say] 73)) := (Below.refl _ _).alloc (Nat.le_refl _) _
  have t5 := hT.ext hBA
  have q5 := hq.ext hBA
  have f5 := h.fs.ext hBA
  have r5 := h1.ext hBA
  have kx6 : KX (W.alloc (.cells #[.slice A r.when_.length c, .int .i64 r.ask, .int .i64 r.say] 73)) w6 T (Value.slice d.ra s.rs.length d.rc).ownBlock := (KX.refl _ _ _).grown hg
  have kx7 := kx6.set 2 (.slice B (s.rs.length + 1) c')
  have nT := own_blk_ne r5 t5 (by decide)
  have b6 : Blk w6 T 47 #[.slice d.fa s.fs.length d.fc, .int .i64 s.q, .slice d.ra s.rs.length d.rc] := t5.grown hg (fun e => nT e.symm)
  have kx8 : KX w6 (w6.setCell ⟨T, 2, none⟩ (.slice B (s.rs.length + 1) c')) T none := (KX.refl w6 T none).set 2 _
  have o6 := own_kx h6 kx8 (own_blk_ne h6 b6 (by decide)) none_or
  refine ⟨B, c', w6, hr, b6, kx7, b6.set_ 2 _, fun lo w0 h0 hlo hlt => ?_, ⟨d.fa, d.fc, B, c', fun k => if k = s.rs.length then A else d.ta k, fun k => if k = s.rs.length then c else d.tc k⟩, ?_, ⟨?_, ?_, fun k hk => ?_⟩⟩
  · exact ((h0.trans (hBA.mono (Nat.le_trans hlo hb))).grown hg (Nat.le_trans (Nat.le_trans hlo hb) hBA.size) (fun j hj => Nat.le_trans hlo (World.ownsRow.lt r5 j hj).1)).setCell (p := ⟨T, 2, none⟩) hlt _
  · unfold scV
    dsimp only
    rw [plus_len]
    rfl
  · exact (OwnJ.li (own_kx f5 kx7 (own_blk_ne f5 t5 (by decide)) (own_own_ne f5 r5 (by decide)))).2
  · have h7 := (Own3.row (show Own3 _ base (.slice B (s.rs.length + 1) c') (L ++ [(.slice A r.when_.length c, r.ask, r.say)]) from o6)).2
    rw [List.length_append, h2] at h7
    show ER _ _ 3 B (plusR s r).rs.length _
    rw [plus_len]
    intro hn
    obtain ⟨b, off, hA, hb, hc⟩ := h7 hn
    refine ⟨b, off, hA, hb, fun k i hk1 hi => ?_⟩
    rw [hc k i hk1 hi]
    dsimp only
    by_cases e : k = s.rs.length
    · subst e
      rw [if_pos rfl, if_pos rfl, plus_new, List.getD_eq_getElem?_getD, List.getElem?_append_right (by rw [h2]; exact Nat.le_refl _), h2, Nat.sub_self]
      rcases (by omega : i = 0 ∨ i = 1 ∨ i = 2) with rfl | rfl | rfl <;> rfl
    · have hk2 : k < s.rs.length := by have : k < s.rs.length + 1 := hk1; omega
      rw [if_neg e, if_neg e, plus_old hk2, List.getD_eq_getElem?_getD, List.getElem?_append_left (by rw [h2]; exact hk2), ← List.getD_eq_getElem?_getD, (h3 k hk2).1]
      rcases (by omega : i = 0 ∨ i = 1 ∨ i = 2) with rfl | rfl | rfl <;> rfl
  · rw [plus_len] at hk
    dsimp only
    by_cases e : k = s.rs.length
    · subst e
      rw [if_pos rfl, plus_new]
      exact (OwnQ.tsR (own_kx q5 kx7 (own_blk_ne q5 t5 (by decide)) (own_own_ne q5 r5 (by decide)))).2
    · have hk2 : k < s.rs.length := by omega
      rw [if_neg e, plus_old hk2]
      have o1 := (h3 k hk2).2.ext hBA
      exact (OwnQ.tsR (own_kx o1 kx7 (own_blk_ne o1 t5 (by decide)) (own_own_ne o1 r5 (by decide)))).2
theorem push_ij {W : World} {base : Nat} {v : Value} {xs : List Value} (h : W.ownsRow base 3 1 v xs.length xs) (x : Value) (hx : x.oneCell' = true) (hl : xs.length ≤ 100000) (hb : base ≤ W.heap.size) :
    ∃ A c w', (Builtin.append_ #[36, 36] 36 #[v, .slice (some ⟨W.heap.size, 0, none⟩) 1 1]).run Tryd.prog (W.alloc (.cells #[x] 3)) = .ok (.slice A (xs.length + 1) c) w' ∧
      w'.ownsRow base 3 1 (.slice A (xs.length + 1) c) (xs ++ [x]).length (xs ++ [x]) ∧ (W.alloc (.cells #[x] 3)).grownBy w' v.ownBlock ∧
      ((Value.slice A (xs.length + 1) c).ownBlock = v.ownBlock ∨ (Value.slice A (xs.length + 1) c).ownBlock = some (W.heap.size + 1)) := by
  obtain ⟨i0, hi, hz0, hz1, hz2⟩ := info_parts info_int'
  obtain ⟨v', w', hr, h2, h3, -, h4⟩ := run_append_own_at (P := Tryd.prog) (w := W.alloc (.cells #[x] 3)) base 36 36 3 i0 _ 1 8 Tryd.underlying36 hi hz0 hz1 hz2 rfl (by decide) v xs.length xs (ownBelow h ((Below.refl _ _).alloc (Nat.le_refl _) _))
    ⟨W.heap.size, 0, none⟩ 1 1 [x] rfl (fun j u hj => by
      match j, hj with
      | 0, hj =>
        simp at hj
        subst hj
        have := (Blk.new W 3 #[x]).cell 0
        simpa [Addr.add] using this
      | j + 1, hj => simp at hj) (by simpa using hx) (by unfold maxLen; omega) (by omega) (by simp; omega)
  obtain ⟨A, c, rfl⟩ := own_shape h2
  refine ⟨A, c, w', hr, ?_, h3, ?_⟩
  · rw [List.length_append]; exact h2
  · simpa using h4
/-- what the loop of Prevails keeps: two own lists of numbers, and a rule with an own list of tests -/
structure PvI (w0 W : World) (X : Nat) (VC VO TV : Value) (c o : List Int) (l : List (Int × Int)) (ask say : Int) : Prop where
  below : Below w0.heap.size w0 W
  lo : w0.heap.size ≤ X
  blk : Blk W X 73 #[TV, .int .i64 ask, .int .i64 say]
  cO : OwnJ W w0.heap.size VC c
  oO : OwnJ W w0.heap.size VO o
  ne : VC.ownBlock = none ∨ VO.ownBlock = none ∨ VC.ownBlock ≠ VO.ownBlock
  tO : OwnQ W w0.heap.size TV l
theorem PvI.ext {w0 W W' : World} {X : Nat} {VC VO TV : Value} {c o : List Int} {l : List (Int × Int)} {ask say : Int} (h : PvI w0 W X VC VO TV c o l ask say) (hb : Below W.heap.size W W') : PvI w0 W' X VC VO TV c o l ask say :=
  ⟨h.below.trans (hb.mono h.below.size), h.lo, h.blk.ext hb, h.cO.ext hb, h.oO.ext hb, h.ne, h.tO.ext hb⟩
theorem ne_or {a b : Option Nat} (h : a = none ∨ b = none ∨ a ≠ b) : (a = none ∨ a ≠ b) ∧ (b = none ∨ b ≠ a) := by
  rcases h with h | h | h
  · subst h
    cases b with
    | none => exact ⟨.inl rfl, .inl rfl⟩
    | some b => exact ⟨.inl rfl, .inr (by simp)⟩
  · subst h
    cases a with
    | none => exact ⟨.inl rfl, .inl rfl⟩
    | some a => exact ⟨.inr (by simp), .inl rfl⟩
  · exact ⟨.inr h, .inr (fun e => h e.symm)⟩
theorem PvI.pushC {w0 W : World} {X : Nat} {VC VO TV : Value} {c o : List Int} {l : List (Int × Int)} {ask say : Int} (h : PvI w0 W X VC VO TV c o l ask say) (x : Int) (hl : c.length ≤ 1000) :
    ∃ A cc w', (Builtin.append_ #[36, 36] 36 #[VC, .slice (some ⟨W.heap.size, 0, none⟩) 1 1]).run Tryd.prog (W.alloc (.cells #[.int .i64 x] 3)) = .ok (.slice A (c.length + 1) cc) w' ∧ PvI w0 w' X (.slice A (c.length + 1) cc) VO TV (c ++ [x]) o l ask say := by
  have hlen : (intJ c).length = c.length := by unfold intJ; simp
  have hc := h.cO
  unfold OwnJ at hc
  rw [← hlen] at hc
  obtain ⟨A, cc, w', hr, h1, hg, ha⟩ := push_ij hc (.int .i64 x) rfl (by rw [hlen]; omega) h.below.size
  rw [hlen] at hr h1 ha
  have hBA : Below W.heap.size W (W.alloc (.cells #[.int .i64 x] 3)) := (Below.refl _ _).alloc (Nat.le_refl _) _
  have h5 := h.ext hBA
  have hz : (W.alloc (.cells #[.int .i64 x] 3)).heap.size = W.heap.size + 1 := by simp
  refine ⟨A, cc, w', hr, ⟨?_, h.lo, ?_, ?_, own_grown h5.oO hg (ne_or h.ne).2, ?_, own_grown h5.tO hg (own_own_ne h5.tO h5.cO (by decide))⟩⟩
  · exact h5.below.grown hg h5.below.size (fun j hj => (World.ownsRow.lt h5.cO j hj).1)
  · exact h5.blk.grown hg (fun e => own_blk_ne h5.cO h5.blk (by decide) e.symm)
  · have e : intJ (c ++ [x]) = intJ c ++ [Value.int .i64 x] := by unfold intJ; simp
    unfold OwnJ
    rw [e]
    have e2 : (c ++ [x]).length = (intJ c ++ [Value.int .i64 x]).length := by simp [hlen]
    rw [e2]
    exact h1
  · rcases ha with ha | ha
    · rw [ha]; exact h.ne
    · cases hvo : VO.ownBlock with
      | none => exact .inr (.inl rfl)
      | some g =>
        refine .inr (.inr ?_)
        rw [ha]
        have := (World.ownsRow.lt h.oO g hvo).2
        intro e
        injection e with e
        omega
theorem PvI.pushO {w0 W : World} {X : Nat} {VC VO TV : Value} {c o : List Int} {l : List (Int × Int)} {ask say : Int} (h : PvI w0 W X VC VO TV c o l ask say) (x : Int) (hl : o.length ≤ 1000) :
    ∃ A cc w', (Builtin.append_ #[36, 36] 36 #[VO, .slice (some ⟨W.heap.size, 0, none⟩) 1 1]).run Tryd.prog (W.alloc (.cells #[.int .i64 x] 3)) = .ok (.slice A (o.length + 1) cc) w' ∧ PvI w0 w' X VC (.slice A (o.length + 1) cc) TV c (o ++ [x]) l ask say := by
  have h' : PvI w0 W X VO VC TV o c l ask say := ⟨h.below, h.lo, h.blk, h.oO, h.cO, by rcases h.ne with h | h | h; exact .inr (.inl h); exact .inl h; exact .inr (.inr fun e => h e.symm), h.tO⟩
  obtain ⟨A, cc, w', hr, h2⟩ := h'.pushC x hl
  exact ⟨A, cc, w', hr, ⟨h2.below, h2.lo, h2.blk, h2.oO, h2.cO, by rcases h2.ne with h | h | h; exact .inr (.inl h); exact .inl h; exact .inr (.inr fun e => h e.symm), h2.tO⟩⟩
theorem OwnQ.nil (W : World) (n0 : Nat) : OwnQ W n0 (.slice none 0 0) [] := ⟨rfl, .inl ⟨rfl, rfl⟩⟩
/-- a test goes to the rule's list -/
theorem PvI.pushT {w0 W : World} {X : Nat} {VC VO TV : Value} {c o : List Int} {l : List (Int × Int)} {ask say : Int} (h : PvI w0 W X VC VO TV c o l ask say) (t : Int × Int) (hl : l.length ≤ 1000) :
    ∃ A cc w', (Builtin.append_ #[71, 71] 71 #[TV, .slice (some ⟨W.heap.size, 0, none⟩) 1 1]).run Tryd.prog (W.alloc (.cells #[.int .i64 t.1, .int .i64 t.2] 76)) = .ok (.slice A (l.length + 1) cc) w' ∧
      Blk w' X 73 #[TV, .int .i64 ask, .int .i64 say] ∧ Below W.heap.size W (W.alloc (.cells #[.int .i64 t.1, .int .i64 t.2] 76)) ∧ Below w0.heap.size w0 w' ∧ OwnJ w' w0.heap.size VC c ∧
      PvI w0 (w'.setCell ⟨X, 0, none⟩ (.slice A (l.length + 1) cc)) X VC VO (.slice A (l.length + 1) cc) c o (l ++ [t]) ask say := by
  have hBA : Below W.heap.size W (W.alloc (.cells #[.int .i64 t.1, .int .i64 t.2] 76)) := (Below.refl _ _).alloc (Nat.le_refl _) _
  have h5 := h.ext hBA
  have hts : TsR (W.alloc (.cells #[.int .i64 t.1, .int .i64 t.2] 76)) (W.alloc (.cells #[.int .i64 t.1, .int .i64 t.2] 76)).heap.size (some ⟨W.heap.size, 0, none⟩) [t] := by
    intro _
    have hB := Blk.new W 76 #[.int .i64 t.1, .int .i64 t.2]
    refine ⟨W.heap.size, 0, rfl, hB.lt, fun k i hk hi => ?_⟩
    obtain rfl : k = 0 := by simp at hk; exact hk
    rcases (by omega : i = 0 ∨ i = 1) with rfl | rfl
    · exact (blk2 hB).2.1
    · exact (blk2 hB).2.2.1
  obtain ⟨v', w', hr, h6, hg⟩ := h5.tO.pushes (some ⟨W.heap.size, 0, none⟩) 1 [t] hts (by simp; omega) (Nat.le_trans h.below.size hBA.size)
  obtain ⟨A, cc, hv⟩ := own_shape h6
  rw [List.length_append] at hv
  have hv' : v' = .slice A (l.length + 1) cc := hv
  subst hv'
  clear hv
  have b6 : Blk w' X 73 #[TV, .int .i64 ask, .int .i64 say] := h5.blk.grown hg (fun e => own_blk_ne h5.tO h5.blk (by decide) e.symm)
  have hb6 : Below w0.heap.size w0 w' := h5.below.grown hg h5.below.size (fun j hj => (World.ownsRow.lt h5.tO j hj).1)
  have c6 := own_grown h5.cO hg (own_own_ne h5.cO h5.tO (by decide))
  have o6 := own_grown h5.oO hg (own_own_ne h5.oO h5.tO (by decide))
  have kx : KX w' (w'.setCell ⟨X, 0, none⟩ (.slice A (l.length + 1) cc)) X none := (KX.refl _ _ _).set 0 _
  refine ⟨A, cc, w', hr, b6, hBA, hb6, c6, ⟨hb6.setCell (p := ⟨X, 0, none⟩) h.lo _, h.lo, b6.set_ 0 _, own_kx c6 kx (own_blk_ne c6 b6 (by decide)) none_or, own_kx o6 kx (own_blk_ne o6 b6 (by decide)) none_or, h.ne, own_kx h6 kx (own_blk_ne h6 b6 (by decide)) none_or⟩⟩
theorem copied_own (d : Ad_) (s : Sch) (w : World) (hd : ScR w w.heap.size d s) (h1 : s.fs.length ≤ 1000) (h2 : s.rs.length ≤ 1000) (h3 : ∀ r ∈ s.rs, r.when_.length ≤ 1000) :
    Calls Tryd.prog 31 #[scV d s] w (CpOwn w s) := by
  have HD := hide hd
  have HT := hide h3
  obtain ⟨nf, hf⟩ : ∃ n, s.fs.length = n := ⟨_, rfl⟩
  obtain ⟨nr, hr⟩ : ∃ n, s.rs.length = n := ⟨_, rfl⟩
  obtain ⟨Q, hQ⟩ : ∃ n, s.q = n := ⟨_, rfl⟩
  have HN := hide (And.intro hf (And.intro hr hQ))
  have HNU : Hid (∀ W, Below w.heap.size w W → Calls Tryd.prog 24 #[.slice d.fa nf d.fc] W fun e w' => ∃ v, e = .returned v ∧ OwnJ w' W.heap.size v s.fs ∧ Below W.heap.size W w') := hide fun W h => by
    have := numbers_any d.fa d.fc s.fs W (by omega) (hd.below h).fs
    rwa [hf] at this
  unfold scV
  rw [hf, hr, hQ]
  rw [hf] at h1
  rw [hr] at h2
  have G1 := (Blk.new w 47 #[.slice d.fa nf d.fc, .int .i64 Q, .slice d.ra nr d.rc]).alloc (.cells #[.slice none 0 0, .int .i64 0, .slice none 0 0] 47)
  have R1 : Blk ((w.alloc (.cells #[.slice d.fa nf d.fc, .int .i64 Q, .slice d.ra nr d.rc] 47)).alloc (.cells #[.slice none 0 0, .int .i64 0, .slice none 0 0] 47)) (w.heap.size + 1) 47 #[.slice none 0 0, .int .i64 0, .slice none 0 0] := by simpa using Blk.new (w.alloc (.cells #[.slice d.fa nf d.fc, .int .i64 Q, .slice d.ra nr d.rc] 47)) 47 #[.slice none 0 0, .int .i64 0, .slice none 0 0]
  have B2 : Hid (Below w.heap.size w ((w.alloc (.cells #[.slice d.fa nf d.fc, .int .i64 Q, .slice d.ra nr d.rc] 47)).alloc (.cells #[.slice none 0 0, .int .i64 0, .slice none 0 0] 47))) := hide (((Below.refl _ _).alloc (Nat.le_refl _) _).alloc (by simp) _)
  have HSZ : Hid (((w.alloc (.cells #[.slice d.fa nf d.fc, .int .i64 Q, .slice d.ra nr d.rc] 47)).alloc (.cells #[.slice none 0 0, .int .i64 0, .slice none 0 0] 47)).heap.size = w.heap.size + 2) := hide (by simp)
  clear hd hf hr hQ h3
  unfold CpOwn
  go_enter Tryd.func31, Tryd.ntmps31
  go_upto_region 1 with fail
  generalize ((w.alloc (.cells #[.slice d.fa nf d.fc, .int .i64 Q, .slice d.ra nr d.rc] 47)).alloc (.cells #[.slice none 0 0, .int .i64 0, .slice none 0 0] 47)) = w2 at B2 G1 R1 HSZ ⊢
  obtain ⟨G, hG⟩ : ∃ x, w.heap.size = x := ⟨_, rfl⟩
  have HG := hide hG
  rw [hG] at G1 R1 ⊢
  have HG1 := hide G1
  have HR1 := hide R1
  clear hG G1 R1
  go_cut [3] (fun v w' => ∃ T fa fc, v = .pointer (some ⟨T, 0, none⟩) ∧ Hid (CpI w w' G (G + 1) T d s fa fc 0 (.slice none 0 0) []))
  case first =>
   as_aux_lemma =>
    have Bd := hide (B2.out.trans ((Below.refl w2.heap.size w2).drew.mono B2.out.size))
    have Gd := hide (HG1.out.ext (Below.refl w2.heap.size w2).drew)
    have Rd := hide (HR1.out.ext (Below.refl w2.heap.size w2).drew)
    have HSd : Hid (w2.drew.heap.size = w.heap.size + 2) := hide HSZ.out
    refine wp_region_J (fun W : World => (W.cell? ⟨G, 0, none⟩ = some (.slice d.fa nf d.fc) ∧ W.cell? ⟨G, 1, none⟩ = some (.int .i64 Q))) (by kernel_rfl) ?_
    generalize w2.drew = wd at Bd Gd Rd HSd ⊢
    clear B2 HG1 HR1 HSZ
    have HC : Hid (∀ W, Below wd.heap.size wd W → (W.cell? ⟨G, 0, none⟩ = some (.slice d.fa nf d.fc) ∧ W.cell? ⟨G, 1, none⟩ = some (.int .i64 Q))) := hide fun W h => by
      obtain ⟨-, q0, q1, q2, -⟩ := blk3 (Gd.out.ext h)
      exact ⟨q0, q1⟩
    refine wpAnyJ_take 0 (v := ?_) (by first | exact hF | exact wideFn) (HC.out _ (Below.refl _ _)) rfl (by kernel_rfl) (by kernel_rfl) (by kernel_rfl) (by kernel_rfl) rfl ?_ (by first | exact fun _ _ _ h => h | exact fun _ _ _ h => hQ2 _ _ _ _ _ h) ?_
    rotate_left
    · intro W hSW
      simp only [glA, glB, glC]
      (try dsimp only at hSW)
      go_simp
      with_reducible rfl
    (try simp only [glA, glB, glC, Act.put, glD, glE, glF])
    refine wpAnyJ_take 1 (v := ?_) (by first | exact hF | exact wideFn) (HC.out _ (Below.refl _ _)) rfl (by kernel_rfl) (by kernel_rfl) (by kernel_rfl) (by kernel_rfl) rfl ?_ (by first | exact fun _ _ _ h => h | exact fun _ _ _ h => hQ2 _ _ _ _ _ h) ?_
    rotate_left
    · intro W hSW
      simp only [glA, glB, glC]
      (try dsimp only at hSW)
      go_simp
      with_reducible rfl
    (try simp only [glA, glB, glC, Act.put, glD, glE, glF])
    refine wpAnyJ_take 3 (v := ?_) (by first | exact hF | exact wideFn) (HC.out _ (Below.refl _ _)) rfl (by kernel_rfl) (by kernel_rfl) (by kernel_rfl) (by kernel_rfl) rfl ?_ (by first | exact fun _ _ _ h => h | exact fun _ _ _ h => hQ2 _ _ _ _ _ h) ?_
    rotate_left
    · intro W hSW
      simp only [glA, glB, glC]
      (try dsimp only at hSW)
      go_simp
      with_reducible rfl
    (try simp only [glA, glB, glC, Act.put, glD, glE, glF])
    refine wpAnyJ_take 4 (v := ?_) (by first | exact hF | exact wideFn) (HC.out _ (Below.refl _ _)) rfl (by kernel_rfl) (by kernel_rfl) (by kernel_rfl) (by kernel_rfl) rfl ?_ (by first | exact fun _ _ _ h => h | exact fun _ _ _ h => hQ2 _ _ _ _ _ h) ?_
    rotate_left
    · intro W hSW
      simp only [glA, glB, glC]
      (try dsimp only at hSW)
      go_simp
      with_reducible rfl
    (try simp only [glA, glB, glC, Act.put, glD, glE, glF])
    refine wpAnyJ_two 2 6 rfl rfl (by kernel_rfl) (fun K hK => ?_) (fun K hK => ?_)
    · simp only [glA, glB, glC]
      go_simp
      refine ⟨trivial, rfl, ?_⟩
      refine (callsIn_wide.2 (HNU.out wd Bd.out)).mono ?_
      rintro e w3 ⟨v, rfl, ho, hb3⟩
      obtain ⟨A', c', rfl⟩ := own_shape ho
      dsimp only
      refine hK.out _ _ (fun _ => HC.out _ hb3) ?_
      clear hK K
      (try simp only [glA, glB, glC, Act.put, glD, glE, glF])
      rw [HN.out.1]
      have hf := HN.out.1
      refine wpAnyJ_take 5 (v := ?_) (by first | exact hF | exact wideFn) (HC.out _ hb3) rfl (by kernel_rfl) (by kernel_rfl) (by kernel_rfl) (by kernel_rfl) rfl ?_ (by first | exact fun _ _ _ h => h | exact fun _ _ _ h => hQ2 _ _ _ _ _ h) ?_
      rotate_left
      · intro W hSW
        simp only [glA, glB, glC]
        (try dsimp only at hSW)
        go_simp
        with_reducible rfl
      (try simp only [glA, glB, glC, Act.put, glD, glE, glF])
      refine wpAnyJ_one 6 rfl (by kernel_rfl) (fun K hK => ?_)
      simp only [glA, glB, glC]
      go_simp
      refine hK.out _ _ (fun _ => HC.out _ (hb3.alloc hb3.size _)) ?_
      clear hK K
      (try simp only [glA, glB, glC, Act.put, glD, glE, glF])
      refine wpAnyJ_one 7 rfl (by kernel_rfl) (fun K hK => ?_)
      simp only [glA, glB, glC]
      go_simp
      refine hK.out _ _ (fun _ => HC.out _ (hb3.alloc hb3.size _)) ?_
      clear hK K
      (try simp only [glA, glB, glC, Act.put, glD, glE, glF])
      refine wpAnyJ_done (by kernel_rfl) ?_
      go_wp2_with fail
      go_meet
      refine ⟨w3.heap.size, A', c', rfl, hide ?_⟩
      have z1 := HSd.out
      have z2 := hb3.size
      have z3 := HG.out
      refine ⟨(Bd.out.trans (hb3.mono Bd.out.size)).alloc (Nat.le_trans Bd.out.size hb3.size) _, Nat.le_of_eq HG.out, by omega, by omega, by omega, by omega, ?_, (Rd.out.ext hb3).alloc _, ?_, ?_, Own3.nil _ _, rfl, fun j hj => absurd hj (by omega)⟩
      · rw [HN.out.1, HN.out.2.1, HN.out.2.2]; exact (Gd.out.ext hb3).alloc _
      · rw [HN.out.1, HN.out.2.2]; exact Blk.new _ _ _
      · exact (ho.low2 Bd.out.size).ext ((Below.refl _ _).alloc (Nat.le_refl _) _)
    · simp only [glA, glB, glC]
      go_simp
      refine hK.out _ _ (fun _ => (HC.out _ ((Below.refl _ _).alloc (Nat.le_refl _) _))) ?_
      clear hK K
      (try simp only [glA, glB, glC, Act.put, glD, glE, glF])
      have Bz : Hid (Below wd.heap.size wd (wd.alloc (.cells #[.slice none 0 0, .int .i64 0, .slice none 0 0] 47))) := hide ((Below.refl _ _).alloc (Nat.le_refl _) _)
      have T1 := hide (Blk.new wd 47 #[.slice none 0 0, .int .i64 0, .slice none 0 0])
      have HSa : Hid ((wd.alloc (.cells #[.slice none 0 0, .int .i64 0, .slice none 0 0] 47)).heap.size = wd.heap.size + 1) := hide (by simp)
      obtain ⟨T, hT⟩ : ∃ x, wd.heap.size = x := ⟨_, rfl⟩
      have HTT := hide hT
      rw [hT] at T1 ⊢
      clear hT
      generalize (wd.alloc (.cells #[.slice none 0 0, .int .i64 0, .slice none 0 0] 47)) = wa at Bz T1 HSa ⊢
      refine wpAnyJ_one 2 rfl (by kernel_rfl) (fun K hK => ?_)
      simp only [glA, glB, glC]
      go_simp
      refine ⟨trivial, rfl, ?_⟩
      refine (callsIn_wide.2 (HNU.out wa (Bd.out.trans (Bz.out.mono Bd.out.size)))).mono ?_
      rintro e w3 ⟨v, rfl, ho, hb3⟩
      obtain ⟨A', c', rfl⟩ := own_shape ho
      dsimp only
      refine hK.out _ _ (fun _ => HC.out _ (Bz.out.trans (hb3.mono Bz.out.size))) ?_
      clear hK K
      (try simp only [glA, glB, glC, Act.put, glD, glE, glF])
      rw [HN.out.1]
      refine wpAnyJ_take 5 (v := ?_) (by first | exact hF | exact wideFn) (HC.out _ (Bz.out.trans (hb3.mono Bz.out.size))) rfl (by kernel_rfl) (by kernel_rfl) (by kernel_rfl) (by kernel_rfl) rfl ?_ (by first | exact fun _ _ _ h => h | exact fun _ _ _ h => hQ2 _ _ _ _ _ h) ?_
      rotate_left
      · intro W hSW
        simp only [glA, glB, glC]
        (try dsimp only at hSW)
        go_simp
        with_reducible rfl
      (try simp only [glA, glB, glC, Act.put, glD, glE, glF])
      obtain ⟨y9, y0, y1, y2, -⟩ := blk3 (T1.out.ext hb3)
      have yf0 := (T1.out.ext hb3).frozen 0
      have yf1 := (T1.out.ext hb3).frozen 1
      have yf2 := (T1.out.ext hb3).frozen 2
      have z1 := HSd.out
      have z2 := hb3.size
      have z3 := HG.out
      have z4 := HTT.out
      have z5 := HSa.out
      have hbS : Below wd.heap.size wd (((w3.setCell ⟨T, 0, none⟩ (.slice A' nf c')).setCell ⟨T, 1, none⟩ (.int .i64 Q)).setCell ⟨T, 2, none⟩ (.slice none 0 0)) := (((Bz.out.trans (hb3.mono Bz.out.size)).setCell (p := ⟨T, 0, none⟩) (by show wd.heap.size ≤ T; omega) _).setCell (p := ⟨T, 1, none⟩) (by show wd.heap.size ≤ T; omega) _).setCell (p := ⟨T, 2, none⟩) (by show wd.heap.size ≤ T; omega) _
      have HBS := hide hbS
      clear hbS z1 z2 z3 z4 z5
      refine wpAnyJ_one 7 rfl (by kernel_rfl) (fun K hK => ?_)
      simp only [glA, glB, glC]
      go_simp
      refine hK.out _ _ (fun _ => HC.out _ HBS.out) ?_
      clear hK K
      (try simp only [glA, glB, glC, Act.put, glD, glE, glF])
      refine wpAnyJ_done (by kernel_rfl) ?_
      go_wp2_with fail
      go_meet
      have z1 := HSd.out
      have z2 := hb3.size
      have z3 := HG.out
      have z4 := HTT.out
      have z5 := HSa.out
      refine ⟨T, A', c', rfl, hide ?_⟩
      refine ⟨Bd.out.trans (HBS.out.mono Bd.out.size), Nat.le_of_eq HG.out, by omega, by omega, by omega, by omega, ?_, ?_, ?_, ?_, Own3.nil _ _, rfl, fun j hj => absurd hj (by omega)⟩
      · rw [HN.out.1, HN.out.2.1, HN.out.2.2]; exact Gd.out.below HBS.out Gd.out.lt
      · exact Rd.out.below HBS.out Rd.out.lt
      · rw [HN.out.1, HN.out.2.2]; exact (T1.out.ext hb3).set3 _ _ _
      · have hlo : T < wa.heap.size := by omega
        rw [← HN.out.1]
        exact OwnJ.low2 (ownsRow_setCell_below (ownsRow_setCell_below (ownsRow_setCell_below ho (a := ⟨T, 0, none⟩) hlo _) (a := ⟨T, 1, none⟩) hlo _) (a := ⟨T, 2, none⟩) hlo _) (by omega)
  obtain ⟨T, fa, fc, rfl, HI⟩ := hcut
  clear B2 HG1 HR1 HSZ HNU
  go_wp2_with fail
  go_loopw [4] (fun i wr => ∃ (k : Nat) (V : Value) (L : List R3), k ≤ nr ∧ i = .int .i64 k ∧ Hid (CpI w wr G (G + 1) T d s fa fc k V L)) (fun i _ => nr - (intOf i).toNat)
  case atStart => exact ⟨0, _, _, Nat.zero_le _, rfl, HI⟩
  case round =>
    obtain ⟨k, V, L, hk, rfl, HK⟩ := hrel
    clear HI
    have hgb := HK.out.blkG
    rw [HN.out.1, HN.out.2.1, HN.out.2.2] at hgb
    obtain ⟨q9, q0, q1, q2, -⟩ := blk3 hgb
    clear hgb
    by_cases hlt : k < nr
    · -- BEGIN2
      have hlt' : (k : Int) < (nr : Int) := by omega
      have k0 : (0 : Int) ≤ (k : Int) := by omega
      have hst : IntKind.i64.wrap ((k : Int) + 1) = ((k + 1 : Nat) : Int) := by rw [IntWalk.i64_in _ (by omega)]; omega
      have hkl : k < s.rs.length := by rw [HN.out.2.1]; exact hlt
      obtain ⟨x, hx⟩ : ∃ x, s.rs.getD k r0 = x := ⟨_, rfl⟩
      have htl : x.when_.length ≤ 1000 := HT.out x (by rw [← hx, List.getD_eq_getElem?_getD, List.getElem?_eq_getElem hkl]; exact List.getElem_mem _)
      have htr := HD.out.rs.tests k hkl
      rw [hx] at htr
      obtain ⟨b, off, hra, hb, a0, a1, a2⟩ := HD.out.rs.at_ hkl hx
      rw [hra] at q2 ⊢
      have c0 := (HK.out.below.cell (p := ⟨b, off + k * 3, none⟩) hb).trans a0
      have c1 := (HK.out.below.cell (p := ⟨b, off + k * 3 + 1, none⟩) hb).trans a1
      have c2 := (HK.out.below.cell (p := ⟨b, off + k * 3 + 2, none⟩) hb).trans a2
      have HXX := hide hx
      have HTR := hide htr
      obtain ⟨ta, hta⟩ : ∃ y, d.ta k = y := ⟨_, rfl⟩
      obtain ⟨tc, htc⟩ : ∃ y, d.tc k = y := ⟨_, rfl⟩
      rw [hta] at HTR
      rw [hta, htc] at c0
      obtain ⟨tn, htn⟩ : ∃ y, x.when_.length = y := ⟨_, rfl⟩
      obtain ⟨ask, hask⟩ : ∃ y, x.ask = y := ⟨_, rfl⟩
      obtain ⟨say, hsay⟩ : ∃ y, x.say = y := ⟨_, rfl⟩
      rw [htn] at c0
      rw [hask] at c1
      rw [hsay] at c2
      have HV := hide (And.intro htn (And.intro hask hsay))
      clear hx htr a0 a1 a2 hta htc htn hask hsay
      go_upto_region 6 with fail
      have HB1 : Hid (Below wr.heap.size wr (wr.alloc (.cells #[.slice ta tn tc, .int .i64 ask, .int .i64 say] 73))) := hide ((Below.refl _ _).alloc (Nat.le_refl _) _)
      have E1 := hide (Blk.new wr 73 #[.slice ta tn tc, .int .i64 ask, .int .i64 say])
      have HZ1 : Hid ((wr.alloc (.cells #[.slice ta tn tc, .int .i64 ask, .int .i64 say] 73)).heap.size = wr.heap.size + 1) := hide (by simp)
      obtain ⟨g, hg⟩ : ∃ x, wr.heap.size = x := ⟨_, rfl⟩
      have HGG := hide hg
      rw [hg] at E1 ⊢
      clear hg c0 c1 c2 q9 q0 q1 q2
      generalize (wr.alloc (.cells #[.slice ta tn tc, .int .i64 ask, .int .i64 say] 73)) = w1 at HB1 E1 HZ1 ⊢
      go_cut [27] (fun v w' => ∃ A1 c1, Hid (CpI w w' G (G + 1) T d s fa fc k V L) ∧ Hid (Blk w' g 73 #[.slice A1 tn c1, .int .i64 ask, .int .i64 say]) ∧ Hid (OwnQ w' w.heap.size (.slice A1 tn c1) x.when_))
      case first =>
       as_aux_lemma =>
        have hBA : Below w1.heap.size w1 (w1.alloc (.cells #[] 76)) := (Below.refl _ _).alloc (Nat.le_refl _) _
        have hbw : Below w.heap.size w w1 := HK.out.below.trans (HB1.out.mono HK.out.below.size)
        obtain ⟨v', w3, hrun, ho, hgr⟩ := (OwnQ.made0 w1).pushes ta tc x.when_ ((ER.below HTR.out (hbw.trans (hBA.mono hbw.size)) (Nat.le_refl _)).more (Nat.le_trans hbw.size hBA.size)) (by simp; omega) hBA.size
        rw [List.nil_append] at ho
        rw [HV.out.1] at hrun
        obtain ⟨A1, c1, hv⟩ := own_shape ho
        rw [HV.out.1] at hv
        subst hv
        have hb3 : Below w1.heap.size w1 w3 := hBA.grown hgr hBA.size (fun k hk => (World.ownsRow.lt (OwnQ.made0 w1) k hk).1)
        have E3 := hide (E1.out.ext hb3)
        have HRUN := hide hrun
        have HO := hide ho
        have HB3 := hide (HB1.out.trans (hb3.mono HB1.out.size))
        obtain ⟨f1, f2, f3, f4, f5⟩ := blk3 E1.out
        obtain ⟨e1, e2, e3, e4, e5⟩ := blk3 E3.out
        have ef := E3.out.frozen 0
        clear hrun ho hgr hb3 hBA hbw e5 f5
        go_wp2_with (at_builtin; refine wpList_append_run rfl (.tmp 24) (.tmp 26) 71 rfl rfl rfl HRUN.out ?_)
        go_meet
        have z1 := HZ1.out
        have z2 := HGG.out
        have hbs : Below wr.heap.size wr (w3.setCell ⟨g, 0, none⟩ (.slice A1 tn c1)) := HB3.out.setCell (p := ⟨g, 0, none⟩) (by show wr.heap.size ≤ g; omega) _
        refine ⟨A1, c1, hide (HK.out.ext hbs), hide (E3.out.set_ 0 _), hide ?_⟩
        have := ownsRow_setCell_below HO.out (a := ⟨g, 0, none⟩) (show g < w1.heap.size by omega) (.slice A1 tn c1)
        exact OwnQ.low this (by have := HK.out.below.size; omega)
      obtain ⟨A1, c1, HI2, HE2, HO2⟩ := hcut
      clear HB1 E1 HZ1 HK HGG
      obtain ⟨AV, cV, hV⟩ := own_shape HI2.out.rsO
      rw [HI2.out.len] at hV
      subst hV
      obtain ⟨A', c', w6, hrun, hb6, hput⟩ := HI2.out.put A1 c1 (by omega) (by rw [HXX.out, HV.out.1]; exact HO2.out)
      rw [HXX.out, HV.out.1, HV.out.2.1, HV.out.2.2] at hrun
      have htb := HI2.out.blk
      rw [HN.out.1, HN.out.2.2] at htb
      obtain ⟨t1, t2, t3, t4, t5⟩ := blk3 htb
      obtain ⟨e1, e2, e3, e4, e5⟩ := blk3 HE2.out
      rw [HN.out.1, HN.out.2.2] at hb6
      obtain ⟨f1, f2, f3, f4, f5⟩ := blk3 hb6
      have ff := hb6.frozen 2
      have HRUN := hide hrun
      have HPUT := hide hput
      clear hrun hput htb hb6 t5 e5 f5 HI2 HE2 HO2
      go_wp2_with (at_builtin; refine wpList_append_run rfl (.tmp 30) (.tmp 32) 45 rfl rfl rfl HRUN.out ?_)
      go_roundw
      case rel => exact ⟨k + 1, _, _, by omega, by go_num, HPUT⟩
      case measure => simp [intOf]; omega
      -- END2
    · obtain rfl : k = nr := by omega
      have hnl : ¬ (k : Int) < (k : Int) := by omega
      obtain ⟨AV, cV, hV⟩ := own_shape HK.out.rsO
      rw [HK.out.len] at hV
      subst hV
      have htb := HK.out.blk
      rw [HN.out.1, HN.out.2.2] at htb
      obtain ⟨t1, t2, t3, t4, -⟩ := blk3 htb
      obtain ⟨r1, r2, r3, r4, -⟩ := blk3 HK.out.blkR
      have rf0 := HK.out.blkR.frozen 0
      have rf1 := HK.out.blkR.frozen 1
      have rf2 := HK.out.blkR.frozen 2
      clear htb
      go_wp2_with fail
      have hw8 := HK.out.blkR.set3 (.slice fa nf fc) (.int .i64 Q) (.slice AV k cV)
      have kx : KX wr (((wr.setCell ⟨G + 1, 0, none⟩ (.slice fa nf fc)).setCell ⟨G + 1, 1, none⟩ (.int .i64 Q)).setCell ⟨G + 1, 2, none⟩ (.slice AV k cV)) (G + 1) none := (((KX.refl wr (G + 1) none).set 0 _).set 1 _).set 2 _
      have hbf : Below w.heap.size w (((wr.setCell ⟨G + 1, 0, none⟩ (.slice fa nf fc)).setCell ⟨G + 1, 1, none⟩ (.int .i64 Q)).setCell ⟨G + 1, 2, none⟩ (.slice AV k cV)) := ((HK.out.below.setCell (p := ⟨G + 1, 0, none⟩) HK.out.loR _).setCell (p := ⟨G + 1, 1, none⟩) HK.out.loR _).setCell (p := ⟨G + 1, 2, none⟩) HK.out.loR _
      have hk' : CpI w wr G (G + 1) T d s fa fc s.rs.length (.slice AV k cV) L := by rw [HN.out.2.1]; exact HK.out
      obtain ⟨d', hd1, hd2, hd3, hd4⟩ := hk'.own _ kx
      injection hd1 with z1 z2 z3
      have hv : scV d' s = .agg #[.slice fa nf fc, .int .i64 Q, .slice AV k cV] := by
        unfold scV
        rw [hd2, hd3, HN.out.1, HN.out.2.1, HN.out.2.2, z1, z3]
      generalize (((wr.setCell ⟨G + 1, 0, none⟩ (.slice fa nf fc)).setCell ⟨G + 1, 1, none⟩ (.int .i64 Q)).setCell ⟨G + 1, 2, none⟩ (.slice AV k cV)) = w8 at hw8 hbf hd4 ⊢
      obtain ⟨-, q0', q1', q2', -⟩ := blk3 hw8
      refine bodyPost_ret (v := .agg #[.slice fa nf fc, .int .i64 Q, .slice AV k cV]) (by simp [results, Tryd.results31, go_sem, q0', q1', q2']) rfl ⟨d', by rw [hv], hd4, hbf⟩
end Go.Proofs.YtmpegkojencbjaaDoor
/- School, plain: what a school decides, by its rules. -/
namespace Go.Proofs.YtmpegkojencbjaaDoor
open Go Go.RowKit Go.Shelf
set_option maxHeartbeats 4000000
set_option maxRecDepth 100000
/-- what a rule asks -/
def apQ (s : Sch) (st : Nat → Nat → Nat) (c : List Int) (q : Int) (i : Nat) : Bool := ((s.rs.getD i r0).ask == q) && hsB (st i) c
theorem dcA_mem {s : Sch} {st : Nat → Nat → Nat} {c : List Int} {q : Int} {x : Int} : x ∈ dcA s st c q ↔ ∃ k : Nat, x = (k : Int) ∧ k < s.rs.length ∧ apQ s st c q k = true := by
  constructor
  · intro h
    exact apF_mem _ _ _ h
  · rintro ⟨k, rfl, h1, h2⟩
    exact apF_in h1 h2
theorem top_iff {st : Nat → Nat → Nat} {ap : List Int} {i : Int} : topB st ap i = true ↔ ∀ x ∈ ap, spc (st x.toNat) (st i.toNat) = false := by
  unfold topB
  rw [Bool.not_eq_true', ← Bool.not_eq_true, anyTo_iff]
  constructor
  · intro h x hx
    obtain ⟨k, hk, rfl⟩ := List.getElem_of_mem hx
    rw [← Bool.not_eq_true]
    intro h2
    exact h ⟨k, hk, by rw [List.getD_eq_getElem?_getD, List.getElem?_eq_getElem hk]; exact h2⟩
  · rintro h ⟨k, hk, h2⟩
    rw [List.getD_eq_getElem?_getD, List.getElem?_eq_getElem hk] at h2
    have h3 := h _ (List.getElem_mem hk)
    change spc (st (ap[k]).toNat) _ = true at h2
    rw [h3] at h2
    cases h2
theorem dcB_mem {s : Sch} {st : Nat → Nat → Nat} {c : List Int} {q : Int} {x : Int} : x ∈ dcB s st c q ↔ ∃ k : Nat, x = (k : Int) ∧ k < s.rs.length ∧ apQ s st c q k = true ∧ ∀ j, j < s.rs.length → apQ s st c q j = true → spc (st j) (st k) = false := by
  unfold dcB
  rw [List.mem_filter, dcA_mem, top_iff]
  constructor
  · rintro ⟨⟨k, rfl, h1, h2⟩, h3⟩
    refine ⟨k, rfl, h1, h2, fun j hj hq => ?_⟩
    have := h3 (j : Int) (dcA_mem.2 ⟨j, rfl, hj, hq⟩)
    simpa using this
  · rintro ⟨k, rfl, h1, h2, h3⟩
    refine ⟨⟨k, rfl, h1, h2⟩, fun x hx => ?_⟩
    obtain ⟨j, rfl, hj, hq⟩ := dcA_mem.1 hx
    simpa using h3 j hj hq
/-- what is said by a rule -/
def sayF (s : Sch) (x : Int) : Int := (s.rs.getD x.toNat r0).say
theorem clB_iff {s : Sch} {l : List Int} : clB s l = true ↔ ∃ x ∈ l, sayF s x ≠ sayF s (l.getD 0 0) := by
  unfold clB sayF
  rw [anyTo_iff]
  constructor
  · rintro ⟨k, hk, h⟩
    have e : l.getD k 0 = l[k] := by rw [List.getD_eq_getElem?_getD, List.getElem?_eq_getElem hk]; rfl
    rw [e] at h
    exact ⟨_, List.getElem_mem hk, by simpa using h⟩
  · rintro ⟨x, hx, h⟩
    obtain ⟨k, hk, rfl⟩ := List.getElem_of_mem hx
    refine ⟨k, hk, ?_⟩
    have e : l.getD k 0 = l[k] := by rw [List.getD_eq_getElem?_getD, List.getElem?_eq_getElem hk]; rfl
    rw [e]
    simpa using h
theorem dcF_cases (s : Sch) (st : Nat → Nat → Nat) (c : List Int) (q : Int) :
    (dcB s st c q = [] ∧ dcF s st c q = (0, 7, [])) ∨ (dcB s st c q ≠ [] ∧ (∃ x ∈ dcB s st c q, sayF s x ≠ sayF s ((dcB s st c q).getD 0 0)) ∧ dcF s st c q = (0, 110, [])) ∨
      (dcB s st c q ≠ [] ∧ (∀ x ∈ dcB s st c q, sayF s x = sayF s ((dcB s st c q).getD 0 0)) ∧ dcF s st c q = (sayF s ((dcB s st c q).getD 0 0), 0, dcB s st c q)) := by
  unfold dcF
  by_cases h : (dcB s st c q).length = 0
  · rw [if_pos h]
    exact .inl ⟨List.length_eq_zero_iff.1 h, rfl⟩
  · rw [if_neg h]
    have hne : dcB s st c q ≠ [] := fun e => h (by rw [e]; rfl)
    right
    rcases h2 : clB s (dcB s st c q) with _ | _
    · right
      refine ⟨hne, fun x hx => ?_, rfl⟩
      rcases Classical.em (sayF s x = sayF s ((dcB s st c q).getD 0 0)) with h3 | h3
      · exact h3
      · rw [clB_iff.2 ⟨x, hx, h3⟩] at h2
        cases h2
    · exact .inl ⟨hne, clB_iff.1 h2, rfl⟩
theorem dcF_len (s : Sch) (st : Nat → Nat → Nat) (c : List Int) (q : Int) : (dcF s st c q).2.2.length ≤ s.rs.length := by
  rcases dcF_cases s st c q with ⟨-, h⟩ | ⟨-, -, h⟩ | ⟨-, -, h⟩ <;> rw [h]
  · exact Nat.zero_le _
  · exact Nat.zero_le _
  · exact Nat.le_trans (List.length_filter_le _ _) (apF_len _ _)
theorem decR_len (s : Sch) (c : List Int) (q : Int) : (decR s c q).2.2.length ≤ s.rs.length := by
  unfold decR
  split
  · split
    · split
      · exact dcF_len _ _ _ _
      · exact Nat.zero_le _
    · exact Nat.zero_le _
  · exact Nat.zero_le _
theorem decR_ok {s : Sch} {c : List Int} {q : Int} (hs : schB s = true) (hq : 0 ≤ q ∧ q ≤ s.q - 1) (hc : icB s.fs c = true) : decR s c q = dcF s (stF s) c q := by
  unfold decR
  rw [if_pos hs, if_pos hq, if_pos hc]
theorem dcF_old {s : Sch} {st : Nat → Nat → Nat} {c : List Int} {q : Int} (h : (dcF s st c q).2.1 = 0) : (dcF s st c q).2.2 ≠ [] := by
  rcases dcF_cases s st c q with ⟨-, h2⟩ | ⟨-, -, h2⟩ | ⟨h1, -, h2⟩
  · rw [h2] at h; cases h
  · rw [h2] at h; cases h
  · rw [h2]; exact h1
end Go.Proofs.YtmpegkojencbjaaDoor
/- School, plain: what a rule for one case alone decides. -/
namespace Go.Proofs.YtmpegkojencbjaaDoor
open Go Go.RowKit Go.Shelf
set_option maxHeartbeats 4000000
set_option maxRecDepth 100000
theorem sp_same (a : Nat → Nat) : spc a a = false := by
  unfold spc
  rw [eqS_iff.2 fun _ _ => rfl]
  rfl
theorem eq_of_in {a b : Nat → Nat} (ha : ∀ k, a k < 65536) (hb : ∀ k, b k < 65536) (h1 : inTo a b 5 = true) (h2 : inTo b a 5 = true) : ∀ j, j < 5 → a j = b j := by
  rw [in_iff ha hb] at h1
  rw [in_iff hb ha] at h2
  intro j hj
  refine Nat.eq_of_testBit_eq fun i => ?_
  rw [Bool.eq_iff_iff]
  exact ⟨h1 j hj i, h2 j hj i⟩
theorem sp_anti {a b : Nat → Nat} (ha : ∀ k, a k < 65536) (hb : ∀ k, b k < 65536) (h : spc a b = true) : spc b a = false := by
  unfold spc at h ⊢
  rw [Bool.and_eq_true] at h
  rw [Bool.and_eq_false_iff]
  right
  rw [← Bool.not_eq_true]
  intro h2
  rw [eqS_iff.2 (eq_of_in ha hb h.2 h2)] at h
  simp at h
theorem st_lt {s : Sch} (hs : schB s = true) (k j : Nat) : stF s k j < 65536 := by
  rcases st_shape hs k with h | ⟨-, h2, h3⟩
  · rw [h]; decide
  · rcases Nat.lt_or_ge j s.fs.length with hj | hj
    · have h4 := fsB_at (schB_ok hs).fs j hj
      have h5 : stF s k j < 2 ^ 4 := Nat.lt_pow_two_of_testBit _ fun i hi => by
        rw [← Bool.not_eq_true]
        intro h6
        have := h3 j i h6
        omega
      omega
    · rw [h2 j hj]; decide
theorem pt_in {s : Sch} (hs : schB s = true) {c : List Int} (hc : icB s.fs c = true) {k : Nat} (h : hsB (stF s k) c = true) : inTo (ptF c) (stF s k) 5 = true := by
  rw [in_iff (pt_small (schB_ok hs).fs hc) (st_lt hs k)]
  rw [has_iff (st_lt hs k)] at h
  intro j _ i hi
  obtain ⟨h1, rfl⟩ := (pt_bit _ _ _).1 hi
  exact h j h1
/-- no rule that applies in a case is more special than the one for this case alone -/
theorem not_sp_pt {s : Sch} (hs : schB s = true) {c : List Int} (hc : icB s.fs c = true) {k : Nat} (h : hsB (stF s k) c = true) : spc (stF s k) (ptF c) = false := by
  unfold spc
  rw [Bool.and_eq_false_iff]
  rcases h2 : inTo (stF s k) (ptF c) 5 with _ | _
  · exact .inr rfl
  · left
    rw [eqS_iff.2 (eq_of_in (st_lt hs k) (pt_small (schB_ok hs).fs hc) h2 (pt_in hs hc h))]
    rfl
/-- a rule that applies in a case is beaten by the one for this case alone, if it asks for more -/
theorem pt_eq {s : Sch} (hs : schB s = true) {c : List Int} (hc : icB s.fs c = true) {k : Nat} (h : hsB (stF s k) c = true) (h2 : spc (ptF c) (stF s k) = false) : ∀ j, j < 5 → stF s k j = ptF c j := by
  unfold spc at h2
  rw [pt_in hs hc h, Bool.and_true] at h2
  have h3 : eqS (ptF c) (stF s k) = true := by simpa using h2
  exact fun j hj => (eqS_iff.1 h3 j hj).symm
theorem sp_congr {a a' b b' : Nat → Nat} (h : ∀ j, j < 5 → a j = a' j) (h2 : ∀ j, j < 5 → b j = b' j) : spc a b = spc a' b' := by
  unfold spc eqS inTo
  rw [h 0 (by decide), h 1 (by decide), h 2 (by decide), h 3 (by decide), h 4 (by decide), h2 0 (by decide), h2 1 (by decide), h2 2 (by decide), h2 3 (by decide), h2 4 (by decide)]
  congr 1
  rw [decide_eq_decide]
  exact ⟨fun h3 k hk => by rw [← h k hk, ← h2 k hk]; exact h3 k hk, fun h3 k hk => by rw [h k hk, h2 k hk]; exact h3 k hk⟩
/-- THE SPECIAL PREVAILS -/
theorem prevails {s : Sch} (hs : schB s = true) (hn : s.rs.length ≤ 11) {c : List Int} (hc : icB s.fs c = true) {a y : Int} (ha : 0 ≤ a ∧ a ≤ s.q - 1) (hy : 0 ≤ y ∧ y ≤ 999) :
    ((decR (plusR s (oneR c a y)) c a).2.1 = 0 ∧ (decR (plusR s (oneR c a y)) c a).1 = y ∧ ∃ l, (decR (plusR s (oneR c a y)) c a).2.2 = l ++ [(s.rs.length : Int)]) ∨
      ((decR (plusR s (oneR c a y)) c a).2.1 = 110 ∧ (decR s c a).2.1 ≠ 7 ∧ ((decR s c a).2.1 = 0 → (decR s c a).1 ≠ y)) := by
  have hf := (schB_ok hs).fs
  have ht := plus_ok hs hn (one_rl hs hc ha hy)
  obtain ⟨t, htt⟩ : ∃ t, plusR s (oneR c a y) = t := ⟨_, rfl⟩
  have hlen : t.rs.length = s.rs.length + 1 := by rw [← htt]; exact plus_len
  have hold : ∀ k, k < s.rs.length → t.rs.getD k r0 = s.rs.getD k r0 := fun k hk => by rw [← htt]; exact plus_old hk
  have hnew : t.rs.getD s.rs.length r0 = oneR c a y := by rw [← htt]; exact plus_new
  have hso : ∀ k, k < s.rs.length → stF t k = stF s k := fun k hk => by rw [← htt]; exact plus_st hk
  have hsn : stF t s.rs.length = ptF c := by rw [← htt]; exact plus_stn hs hc a y
  have htq : t.q = s.q := by rw [← htt]; rfl
  have htf : t.fs = s.fs := by rw [← htt]; rfl
  rw [htt] at ht ⊢
  rw [decR_ok ht (by rw [htq]; exact ha) (by rw [htf]; exact hc), decR_ok hs ha hc]
  have hap : apQ t (stF t) c a s.rs.length = true := by
    unfold apQ
    rw [hnew, hsn, (pt_has hf hc hc).2 rfl]
    simp [oneR]
  have hapo : ∀ k, k < s.rs.length → apQ t (stF t) c a k = apQ s (stF s) c a k := fun k hk => by
    unfold apQ
    rw [hold k hk, hso k hk]
  have hhas : ∀ k, apQ s (stF s) c a k = true → hsB (stF s k) c = true := fun k h => by
    unfold apQ at h
    rw [Bool.and_eq_true] at h
    exact h.2
  -- the new rule decides
  have hlast : ∃ l, dcB t (stF t) c a = l ++ [(s.rs.length : Int)] := by
    have e : dcA t (stF t) c a = apF (apQ t (stF t) c a) s.rs.length ++ [(s.rs.length : Int)] := by
      show apF (apQ t (stF t) c a) t.rs.length = _
      rw [hlen]
      show (if apQ t (stF t) c a s.rs.length then _ else _) = _
      rw [if_pos hap]
    have htop : topB (stF t) (dcA t (stF t) c a) (s.rs.length : Int) = true := by
      rw [top_iff]
      intro x hx
      obtain ⟨k, rfl, h1, h2⟩ := dcA_mem.1 hx
      rw [Int.toNat_natCast, Int.toNat_natCast, hsn]
      rcases (by omega : k < s.rs.length ∨ k = s.rs.length) with h3 | h3
      · rw [hso k h3]
        exact not_sp_pt hs hc (hhas k (by rw [← hapo k h3]; exact h2))
      · rw [h3, hsn]
        exact sp_same _
    unfold dcB
    rw [e] at htop ⊢
    rw [List.filter_append]
    exact ⟨_, by rw [show List.filter (topB (stF t) (apF (apQ t (stF t) c a) s.rs.length ++ [(s.rs.length : Int)])) [(s.rs.length : Int)] = [(s.rs.length : Int)] from by
      rw [List.filter_cons, if_pos htop]; rfl]⟩
  have hmem : (s.rs.length : Int) ∈ dcB t (stF t) c a := by
    obtain ⟨l, hl⟩ := hlast
    rw [hl]; simp
  have hsay : sayF t (s.rs.length : Int) = y := by
    unfold sayF
    rw [Int.toNat_natCast, hnew]
    rfl
  rcases dcF_cases t (stF t) c a with ⟨h1, -⟩ | ⟨-, ⟨x, hx, hne⟩, h2⟩ | ⟨-, h1, h2⟩
  · rw [h1] at hmem; cases hmem
  · right
    refine ⟨by rw [h2], ?_⟩
    -- somebody else asks for this case alone
    have hz : ∃ z ∈ dcB t (stF t) c a, sayF t z ≠ y := by
      by_cases e : sayF t x = y
      · refine ⟨(dcB t (stF t) c a).getD 0 0, ?_, fun e2 => hne (by rw [e, e2])⟩
        rw [List.getD_eq_getElem?_getD]
        obtain ⟨l, hl⟩ := hlast
        have h0 : 0 < (dcB t (stF t) c a).length := by rw [hl]; simp
        rw [List.getElem?_eq_getElem h0]
        exact List.getElem_mem h0
      · exact ⟨x, hx, e⟩
    obtain ⟨z, hz, hzy⟩ := hz
    obtain ⟨k, rfl, hk, hq, hb⟩ := dcB_mem.1 hz
    have hkn : k < s.rs.length := by
      rcases (by omega : k < s.rs.length ∨ k = s.rs.length) with h3 | h3
      · exact h3
      · rw [h3] at hzy; exact absurd hsay hzy
    have hqs : apQ s (stF s) c a k = true := by rw [← hapo k hkn]; exact hq
    have hkk := hhas k hqs
    have hbn := hb s.rs.length (by omega) hap
    rw [hsn, hso k hkn] at hbn
    have hse := pt_eq hs hc hkk hbn
    have hin : (k : Int) ∈ dcB s (stF s) c a := by
      refine dcB_mem.2 ⟨k, rfl, hkn, hqs, fun j hj hjq => ?_⟩
      rw [sp_congr (b := stF s k) (b' := ptF c) (fun _ _ => rfl) hse]
      exact not_sp_pt hs hc (hhas j hjq)
    have hsk : sayF s (k : Int) ≠ y := by
      intro e
      apply hzy
      rw [← e]
      unfold sayF
      rw [Int.toNat_natCast, hold k hkn]
    rcases dcF_cases s (stF s) c a with ⟨h3, -⟩ | ⟨-, -, h4⟩ | ⟨-, h3, h4⟩
    · rw [h3] at hin; cases hin
    · rw [h4]; exact ⟨by decide, fun h => absurd h (by decide)⟩
    · rw [h4]
      refine ⟨fun h => absurd (show (0 : Int) = 7 from h) (by decide), fun _ => ?_⟩
      show sayF s _ ≠ y
      rw [← h3 _ hin]
      exact hsk
  · left
    rw [h2]
    refine ⟨rfl, ?_, hlast⟩
    show sayF t _ = y
    rw [← h1 _ hmem]
    exact hsay
/-- where it does not apply nothing changes -/
theorem prevails_other {s : Sch} (hs : schB s = true) (hn : s.rs.length ≤ 11) {c d : List Int} (hc : icB s.fs c = true) (hd : icB s.fs d = true) (hne : c ≠ d) {a y : Int} (ha : 0 ≤ a ∧ a ≤ s.q - 1) (hy : 0 ≤ y ∧ y ≤ 999) :
    decR (plusR s (oneR c a y)) d a = decR s d a := by
  have hf := (schB_ok hs).fs
  have ht := plus_ok hs hn (one_rl hs hc ha hy)
  obtain ⟨t, htt⟩ : ∃ t, plusR s (oneR c a y) = t := ⟨_, rfl⟩
  have hlen : t.rs.length = s.rs.length + 1 := by rw [← htt]; exact plus_len
  have hold : ∀ k, k < s.rs.length → t.rs.getD k r0 = s.rs.getD k r0 := fun k hk => by rw [← htt]; exact plus_old hk
  have hso : ∀ k, k < s.rs.length → stF t k = stF s k := fun k hk => by rw [← htt]; exact plus_st hk
  have hsn : stF t s.rs.length = ptF c := by rw [← htt]; exact plus_stn hs hc a y
  have htq : t.q = s.q := by rw [← htt]; rfl
  have htf : t.fs = s.fs := by rw [← htt]; rfl
  rw [htt] at ht ⊢
  rw [decR_ok ht (by rw [htq]; exact ha) (by rw [htf]; exact hd), decR_ok hs ha hd]
  have hap : apQ t (stF t) d a s.rs.length = false := by
    unfold apQ
    rw [hsn, Bool.and_eq_false_iff]
    right
    rw [← Bool.not_eq_true, pt_has hf hc hd]
    exact hne
  have hA : dcA t (stF t) d a = dcA s (stF s) d a := by
    show apF (apQ t (stF t) d a) t.rs.length = apF (apQ s (stF s) d a) s.rs.length
    rw [hlen]
    show (if apQ t (stF t) d a s.rs.length then _ else _) = _
    rw [hap, if_neg (by decide)]
    refine apF_congr _ fun k hk => ?_
    unfold apQ
    rw [hold k hk, hso k hk]
  have hB : dcB t (stF t) d a = dcB s (stF s) d a := by
    unfold dcB
    rw [hA]
    refine List.filter_congr fun x hx => ?_
    obtain ⟨k, rfl, hk, -⟩ := dcA_mem.1 hx
    rw [Bool.eq_iff_iff, top_iff, top_iff, Int.toNat_natCast, hso k hk]
    constructor
    · intro h z hz
      obtain ⟨j, rfl, hj, -⟩ := dcA_mem.1 hz
      have := h _ hz
      rw [Int.toNat_natCast] at this ⊢
      rwa [hso j hj] at this
    · intro h z hz
      obtain ⟨j, rfl, hj, -⟩ := dcA_mem.1 hz
      have := h _ hz
      rw [Int.toNat_natCast] at this ⊢
      rwa [hso j hj]
  have hsay : ∀ x ∈ dcB s (stF s) d a, sayF t x = sayF s x := fun x hx => by
    obtain ⟨k, rfl, hk, -⟩ := dcB_mem.1 hx
    unfold sayF
    rw [Int.toNat_natCast, hold k hk]
  have h0 : dcB s (stF s) d a ≠ [] → (dcB s (stF s) d a).getD 0 0 ∈ dcB s (stF s) d a := fun h => by
    rw [List.getD_eq_getElem?_getD]
    have h1 : 0 < (dcB s (stF s) d a).length := List.length_pos_iff.2 h
    rw [List.getElem?_eq_getElem h1]
    exact List.getElem_mem h1
  rcases dcF_cases t (stF t) d a with ⟨h1, h2⟩ | ⟨h1, ⟨x, hx, h3⟩, h2⟩ | ⟨h1, h3, h2⟩ <;> rw [hB] at h1
  · rcases dcF_cases s (stF s) d a with ⟨g1, g2⟩ | ⟨g1, g3, g2⟩ | ⟨g1, g3, g2⟩
    · rw [h2, g2]
    · exact absurd h1 g1
    · exact absurd h1 g1
  · rw [hB] at hx h3
    rcases dcF_cases s (stF s) d a with ⟨g1, g2⟩ | ⟨g1, g3, g2⟩ | ⟨g1, g3, g2⟩
    · exact absurd g1 h1
    · rw [h2, g2]
    · rw [hsay x hx, hsay _ (h0 h1)] at h3
      exact absurd (g3 x hx) h3
  · rw [hB] at h3
    rcases dcF_cases s (stF s) d a with ⟨g1, g2⟩ | ⟨g1, ⟨x, hx, g3⟩, g2⟩ | ⟨g1, g3, g2⟩
    · exact absurd g1 h1
    · have := h3 x hx
      rw [hsay x hx, hsay _ (h0 h1)] at this
      exact absurd this g3
    · rw [h2, g2, hB, hsay _ (h0 h1)]
end Go.Proofs.YtmpegkojencbjaaDoor
/- School: Special, walked. -/
namespace Go.Proofs.YtmpegkojencbjaaDoor
open List renaming getElem_toArray → glA, getElem_cons_zero → glB, getElem_cons_succ → glC, setIfInBounds_toArray → glD, set_cons_zero → glE, set_cons_succ → glF
open Go Go.RowKit Go.Shelf
set_option maxHeartbeats 4000000
set_option maxRecDepth 100000
/-- what Special returns -/
def spR (s : Sch) (i j : Int) : Bool × Int :=
  if schB s then if (0 ≤ i ∧ i ≤ (s.rs.length : Int) - 1) ∧ (0 ≤ j ∧ j ≤ (s.rs.length : Int) - 1) then (spc (stF s i.toNat) (stF s j.toNat), 0) else (false, 3) else (false, 2)
theorem Special_any (d : Ad_) (s : Sch) (i j : Int) (w : World) (hd : ScR w w.heap.size d s) (hz : ScZ s) :
    Calls Tryd.prog 38 #[scV d s, .int .i64 i, .int .i64 j] w fun e w' => e = .returned (.tuple #[.bool (spR s i j).1, .int .i64 (spR s i j).2]) ∧ Below w.heap.size w w' := by
  have hz2 := hz.nr
  unfold maxLen at hz2
  obtain ⟨nf, hf⟩ : ∃ n, s.fs.length = n := ⟨_, rfl⟩
  obtain ⟨nr, hr⟩ : ∃ n, s.rs.length = n := ⟨_, rfl⟩
  obtain ⟨Q, hQ⟩ : ∃ n, s.q = n := ⟨_, rfl⟩
  have HOP : Hid (∀ W, Below w.heap.size w W → Calls Tryd.prog 62 #[.agg #[.slice d.fa nf d.fc, .int .i64 Q, .slice d.ra nr d.rc]] W (OpPost W d s)) := hide fun W hB => by
    have := open_any d s W (hd.below hB) hz.nf hz.nr
    unfold scV at this
    rw [hf, hr, hQ] at this
    exact this
  unfold scV
  have HN := hide (And.intro hf (And.intro hr hQ))
  have HD := hide hd
  obtain ⟨R, hR⟩ : ∃ r, spR s i j = r := ⟨_, rfl⟩
  rw [hf, hr, hQ, hR]
  rw [hr] at hz2
  have HR := hide hR
  have HB0 := hide ((Below.refl w.heap.size w).alloc (Nat.le_refl _) (.cells #[.slice d.fa nf d.fc, .int .i64 Q, .slice d.ra nr d.rc] 47))
  have G1 := Blk.new w 47 #[.slice d.fa nf d.fc, .int .i64 Q, .slice d.ra nr d.rc]
  clear hd hf hr hQ hz hR
  go_enter Tryd.func38, Tryd.ntmps38
  go_upto_region 1 with fail
  generalize (w.alloc (.cells #[.slice d.fa nf d.fc, .int .i64 Q, .slice d.ra nr d.rc] 47)) = w1 at HB0 G1 ⊢
  have HG1 := hide G1
  obtain ⟨G, hG⟩ : ∃ x, w.heap.size = x := ⟨_, rfl⟩
  rw [hG] at G1 HG1 ⊢
  obtain ⟨-, g0, g1, g2, -⟩ := blk3 G1
  clear G1 hG
  go_wp2_with fail
  refine (HOP.out w1 HB0.out).mono ?_
  intro e w2 hop
  unfold OpPost at hop
  by_cases hs : schB s = true
  rotate_left
  · rw [if_neg hs] at hop
    obtain ⟨rfl, hb2⟩ := hop
    have hRR : R = (false, 2) := by rw [← HR.out]; unfold spR; rw [if_neg hs]
    subst hRR
    have HB2 := hide (HB0.out.trans (hb2.mono HB0.out.size))
    clear hb2 hs g0 g1 g2
    go_wp2_with fail
    go_ret2
    exact ⟨rfl, HB2.out⟩
  rw [if_pos hs] at hop
  obtain ⟨C, SA, sc, rfl, hcode⟩ := hop
  have HB2 := hide (HB0.out.trans (hcode.below.mono HB0.out.size))
  have HCR := hide (hcode.cr (HD.out.below HB0.out))
  have G2 := HG1.out.ext hcode.below
  have HS := hide hs
  clear hcode g0 g1 g2 hs HG1
  obtain ⟨-, g0, g1, g2, -⟩ := blk3 G2
  have wn : IntKind.i64.wrap ((nr : Int) - 1) = (nr : Int) - 1 := IntWalk.i64_in _ (by omega)
  have HWI := within_any i 0 ((nr : Int) - 1) w2
  have HWJ := within_any j 0 ((nr : Int) - 1) w2
  simp only [wb] at HWI HWJ
  by_cases hi : 0 ≤ i ∧ i ≤ (nr : Int) - 1
  rotate_left
  · rw [decide_eq_false hi] at HWI
    have HWI := hide HWI
    have hRR : R = (false, 3) := by rw [← HR.out]; unfold spR; rw [if_pos HS.out, HN.out.2.1, if_neg (fun h => hi h.1)]
    subst hRR
    clear hi HWJ
    go_wp2_with fail
    refine HWI.out.mono ?_
    rintro e _ ⟨rfl, rfl⟩
    go_wp2_with fail
    go_ret2
    exact ⟨rfl, HB2.out⟩
  rw [decide_eq_true hi] at HWI
  by_cases hj : 0 ≤ j ∧ j ≤ (nr : Int) - 1
  rotate_left
  · rw [decide_eq_false hj] at HWJ
    have HWI := hide HWI
    have HWJ := hide HWJ
    have hRR : R = (false, 3) := by rw [← HR.out]; unfold spR; rw [if_pos HS.out, HN.out.2.1, if_neg (fun h => hj h.2)]
    subst hRR
    clear hi hj
    go_wp2_with fail
    refine HWI.out.mono ?_
    rintro e _ ⟨rfl, rfl⟩
    go_wp2_with fail
    refine HWJ.out.mono ?_
    rintro e _ ⟨rfl, rfl⟩
    go_wp2_with fail
    go_ret2
    exact ⟨rfl, HB2.out⟩
  rw [decide_eq_true hj] at HWJ
  have HWI := hide HWI
  have HWJ := hide HWJ
  have hRR : R = (spc (stF s i.toNat) (stF s j.toNat), 0) := by rw [← HR.out]; unfold spR; rw [if_pos HS.out, HN.out.2.1, if_pos ⟨hi, hj⟩]
  have HOK := hide (schB_ok HS.out)
  obtain ⟨i, rfl⟩ : ∃ n : Nat, i = (n : Int) := ⟨i.toNat, by omega⟩
  obtain ⟨j, rfl⟩ : ∃ n : Nat, j = (n : Int) := ⟨j.toNat, by omega⟩
  rw [Int.toNat_natCast, Int.toNat_natCast] at hRR
  have hin : i < nr := by omega
  have hjn : j < nr := by omega
  have HSP : Hid (∀ W, Calls Tryd.prog 68 #[.agg #[.int .i64 ((stF s i 0 : Nat) : Int), .int .i64 ((stF s i 1 : Nat) : Int), .int .i64 ((stF s i 2 : Nat) : Int), .int .i64 ((stF s i 3 : Nat) : Int), .int .i64 ((stF s i 4 : Nat) : Int)], .agg #[.int .i64 ((stF s j 0 : Nat) : Int), .int .i64 ((stF s j 1 : Nat) : Int), .int .i64 ((stF s j 2 : Nat) : Int), .int .i64 ((stF s j 3 : Nat) : Int), .int .i64 ((stF s j 4 : Nat) : Int)]] W fun e w' => e = .returned (.bool (spc (stF s i) (stF s j))) ∧ Below W.heap.size W w') :=
    hide fun W => special_any (stF s i) (stF s j) W (fun k => Nat.lt_trans (stF_lt HOK.out.fs i k) (by decide)) (fun k => Nat.lt_trans (stF_lt HOK.out.fs j k) (by decide))
  obtain ⟨r, hr⟩ : ∃ r, spc (stF s i) (stF s j) = r := ⟨_, rfl⟩
  rw [hr] at hRR HSP
  subst hRR
  clear hr hi hj
  have HS6 : Hid (∀ W, Below w2.heap.size w2 W → ∃ sb so, SA = some ⟨sb, so, none⟩ ∧ (W.cell? ⟨C, 3, none⟩ = some (.slice (some ⟨sb, so, none⟩) nr sc) ∧
   (W.cell? ⟨sb, so + i * 5, none⟩ = some (.int .i64 ((stF s i 0 : Nat) : Int)) ∧ W.cell? ⟨sb, so + i * 5 + 1, none⟩ = some (.int .i64 ((stF s i 1 : Nat) : Int)) ∧ W.cell? ⟨sb, so + i * 5 + 2, none⟩ = some (.int .i64 ((stF s i 2 : Nat) : Int)) ∧ W.cell? ⟨sb, so + i * 5 + 3, none⟩ = some (.int .i64 ((stF s i 3 : Nat) : Int)) ∧ W.cell? ⟨sb, so + i * 5 + 4, none⟩ = some (.int .i64 ((stF s i 4 : Nat) : Int))) ∧
   (W.cell? ⟨sb, so + j * 5, none⟩ = some (.int .i64 ((stF s j 0 : Nat) : Int)) ∧ W.cell? ⟨sb, so + j * 5 + 1, none⟩ = some (.int .i64 ((stF s j 1 : Nat) : Int)) ∧ W.cell? ⟨sb, so + j * 5 + 2, none⟩ = some (.int .i64 ((stF s j 2 : Nat) : Int)) ∧ W.cell? ⟨sb, so + j * 5 + 3, none⟩ = some (.int .i64 ((stF s j 3 : Nat) : Int)) ∧ W.cell? ⟨sb, so + j * 5 + 4, none⟩ = some (.int .i64 ((stF s j 4 : Nat) : Int))))) := hide fun W h => by
    have hc := HCR.out.below h
    have c3 := hc.c3
    rw [HN.out.2.1] at c3
    obtain ⟨sb, so, hsa, hsb, hsc⟩ := hc.st (by rw [HN.out.2.1]; omega)
    have ki : i < s.rs.length := by rw [HN.out.2.1]; exact hin
    have kj : j < s.rs.length := by rw [HN.out.2.1]; exact hjn
    rw [hsa] at c3
    exact ⟨sb, so, hsa, c3, ⟨hsc i 0 ki (by omega), hsc i 1 ki (by omega), hsc i 2 ki (by omega), hsc i 3 ki (by omega), hsc i 4 ki (by omega)⟩, hsc j 0 kj (by omega), hsc j 1 kj (by omega), hsc j 2 kj (by omega), hsc j 3 kj (by omega), hsc j 4 kj (by omega)⟩
  obtain ⟨sb, so, rfl, -⟩ := HS6.out _ (Below.refl _ _)
  have HS6' : Hid (∀ W, Below w2.heap.size w2 W → (W.cell? ⟨C, 3, none⟩ = some (.slice (some ⟨sb, so, none⟩) nr sc) ∧
   (W.cell? ⟨sb, so + i * 5, none⟩ = some (.int .i64 ((stF s i 0 : Nat) : Int)) ∧ W.cell? ⟨sb, so + i * 5 + 1, none⟩ = some (.int .i64 ((stF s i 1 : Nat) : Int)) ∧ W.cell? ⟨sb, so + i * 5 + 2, none⟩ = some (.int .i64 ((stF s i 2 : Nat) : Int)) ∧ W.cell? ⟨sb, so + i * 5 + 3, none⟩ = some (.int .i64 ((stF s i 3 : Nat) : Int)) ∧ W.cell? ⟨sb, so + i * 5 + 4, none⟩ = some (.int .i64 ((stF s i 4 : Nat) : Int))) ∧
   (W.cell? ⟨sb, so + j * 5, none⟩ = some (.int .i64 ((stF s j 0 : Nat) : Int)) ∧ W.cell? ⟨sb, so + j * 5 + 1, none⟩ = some (.int .i64 ((stF s j 1 : Nat) : Int)) ∧ W.cell? ⟨sb, so + j * 5 + 2, none⟩ = some (.int .i64 ((stF s j 2 : Nat) : Int)) ∧ W.cell? ⟨sb, so + j * 5 + 3, none⟩ = some (.int .i64 ((stF s j 3 : Nat) : Int)) ∧ W.cell? ⟨sb, so + j * 5 + 4, none⟩ = some (.int .i64 ((stF s j 4 : Nat) : Int))))) := hide fun W h => by
    obtain ⟨sb', so', e, h2⟩ := HS6.out W h
    injection e with e
    injection e with e1 e2
    subst e1 e2
    exact h2
  clear HS6
  have i0 : (0 : Int) ≤ (i : Int) := by omega
  have j0 : (0 : Int) ≤ (j : Int) := by omega
  have i1 : (i : Int) < (nr : Int) := by omega
  have j1 : (j : Int) < (nr : Int) := by omega
  go_wp2_with fail
  refine HWI.out.mono ?_
  rintro e _ ⟨rfl, rfl⟩
  go_wp2_with fail
  refine HWJ.out.mono ?_
  rintro e _ ⟨rfl, rfl⟩
  go_upto_region 6 with fail
  clear g0 g1 g2 G2
  have Bd := hide ((Below.refl w2.heap.size w2).drew)
  refine wp_region_J (fun W : World => (W.cell? ⟨C, 3, none⟩ = some (.slice (some ⟨sb, so, none⟩) nr sc) ∧
   (W.cell? ⟨sb, so + i * 5, none⟩ = some (.int .i64 ((stF s i 0 : Nat) : Int)) ∧ W.cell? ⟨sb, so + i * 5 + 1, none⟩ = some (.int .i64 ((stF s i 1 : Nat) : Int)) ∧ W.cell? ⟨sb, so + i * 5 + 2, none⟩ = some (.int .i64 ((stF s i 2 : Nat) : Int)) ∧ W.cell? ⟨sb, so + i * 5 + 3, none⟩ = some (.int .i64 ((stF s i 3 : Nat) : Int)) ∧ W.cell? ⟨sb, so + i * 5 + 4, none⟩ = some (.int .i64 ((stF s i 4 : Nat) : Int))) ∧
   (W.cell? ⟨sb, so + j * 5, none⟩ = some (.int .i64 ((stF s j 0 : Nat) : Int)) ∧ W.cell? ⟨sb, so + j * 5 + 1, none⟩ = some (.int .i64 ((stF s j 1 : Nat) : Int)) ∧ W.cell? ⟨sb, so + j * 5 + 2, none⟩ = some (.int .i64 ((stF s j 2 : Nat) : Int)) ∧ W.cell? ⟨sb, so + j * 5 + 3, none⟩ = some (.int .i64 ((stF s j 3 : Nat) : Int)) ∧ W.cell? ⟨sb, so + j * 5 + 4, none⟩ = some (.int .i64 ((stF s j 4 : Nat) : Int))))) (by kernel_rfl) ?_
  generalize w2.drew = wd at Bd ⊢
  refine wpAnyJ_take 0 (v := ?_) (by first | exact hF | exact wideFn) (HS6'.out _ Bd.out) rfl (by kernel_rfl) (by kernel_rfl) (by kernel_rfl) (by kernel_rfl) rfl ?_ (by first | exact fun _ _ _ h => h | exact fun _ _ _ h => hQ2 _ _ _ _ _ h) ?_
  rotate_left
  · intro W hSW
    simp only [glA, glB, glC]
    (try dsimp only at hSW)
    go_simp
    with_reducible rfl
  (try simp only [glA, glB, glC, Act.put, glD, glE, glF])
  refine wpAnyJ_take 1 (v := ?_) (by first | exact hF | exact wideFn) (HS6'.out _ Bd.out) rfl (by kernel_rfl) (by kernel_rfl) (by kernel_rfl) (by kernel_rfl) rfl ?_ (by first | exact fun _ _ _ h => h | exact fun _ _ _ h => hQ2 _ _ _ _ _ h) ?_
  rotate_left
  · intro W hSW
    simp only [glA, glB, glC]
    (try dsimp only at hSW)
    go_simp
    with_reducible rfl
  (try simp only [glA, glB, glC, Act.put, glD, glE, glF])
  refine wpAnyJ_take 2 (v := ?_) (by first | exact hF | exact wideFn) (HS6'.out _ Bd.out) rfl (by kernel_rfl) (by kernel_rfl) (by kernel_rfl) (by kernel_rfl) rfl ?_ (by first | exact fun _ _ _ h => h | exact fun _ _ _ h => hQ2 _ _ _ _ _ h) ?_
  rotate_left
  · intro W hSW
    simp only [glA, glB, glC]
    (try dsimp only at hSW)
    go_simp
    with_reducible rfl
  (try simp only [glA, glB, glC, Act.put, glD, glE, glF])
  refine wpAnyJ_take 3 (v := ?_) (by first | exact hF | exact wideFn) (HS6'.out _ Bd.out) rfl (by kernel_rfl) (by kernel_rfl) (by kernel_rfl) (by kernel_rfl) rfl ?_ (by first | exact fun _ _ _ h => h | exact fun _ _ _ h => hQ2 _ _ _ _ _ h) ?_
  rotate_left
  · intro W hSW
    simp only [glA, glB, glC]
    (try dsimp only at hSW)
    go_simp
    with_reducible rfl
  (try simp only [glA, glB, glC, Act.put, glD, glE, glF])
  refine wpAnyJ_take 4 (v := ?_) (by first | exact hF | exact wideFn) (HS6'.out _ Bd.out) rfl (by kernel_rfl) (by kernel_rfl) (by kernel_rfl) (by kernel_rfl) rfl ?_ (by first | exact fun _ _ _ h => h | exact fun _ _ _ h => hQ2 _ _ _ _ _ h) ?_
  rotate_left
  · intro W hSW
    simp only [glA, glB, glC]
    (try dsimp only at hSW)
    go_simp
    with_reducible rfl
  (try simp only [glA, glB, glC, Act.put, glD, glE, glF])
  refine wpAnyJ_take 5 (v := ?_) (by first | exact hF | exact wideFn) (HS6'.out _ Bd.out) rfl (by kernel_rfl) (by kernel_rfl) (by kernel_rfl) (by kernel_rfl) rfl ?_ (by first | exact fun _ _ _ h => h | exact fun _ _ _ h => hQ2 _ _ _ _ _ h) ?_
  rotate_left
  · intro W hSW
    simp only [glA, glB, glC]
    (try dsimp only at hSW)
    go_simp
    with_reducible rfl
  (try simp only [glA, glB, glC, Act.put, glD, glE, glF])
  refine wpAnyJ_take 6 (v := ?_) (by first | exact hF | exact wideFn) (HS6'.out _ Bd.out) rfl (by kernel_rfl) (by kernel_rfl) (by kernel_rfl) (by kernel_rfl) rfl ?_ (by first | exact fun _ _ _ h => h | exact fun _ _ _ h => hQ2 _ _ _ _ _ h) ?_
  rotate_left
  · intro W hSW
    simp only [glA, glB, glC]
    (try dsimp only at hSW)
    go_simp
    with_reducible rfl
  (try simp only [glA, glB, glC, Act.put, glD, glE, glF])
  refine wpAnyJ_take 7 (v := ?_) (by first | exact hF | exact wideFn) (HS6'.out _ Bd.out) rfl (by kernel_rfl) (by kernel_rfl) (by kernel_rfl) (by kernel_rfl) rfl ?_ (by first | exact fun _ _ _ h => h | exact fun _ _ _ h => hQ2 _ _ _ _ _ h) ?_
  rotate_left
  · intro W hSW
    simp only [glA, glB, glC]
    (try dsimp only at hSW)
    go_simp
    with_reducible rfl
  (try simp only [glA, glB, glC, Act.put, glD, glE, glF])
  refine wpAnyJ_take 8 (v := ?_) (by first | exact hF | exact wideFn) (HS6'.out _ Bd.out) rfl (by kernel_rfl) (by kernel_rfl) (by kernel_rfl) (by kernel_rfl) rfl ?_ (by first | exact fun _ _ _ h => h | exact fun _ _ _ h => hQ2 _ _ _ _ _ h) ?_
  rotate_left
  · intro W hSW
    simp only [glA, glB, glC]
    (try dsimp only at hSW)
    go_simp
    with_reducible rfl
  (try simp only [glA, glB, glC, Act.put, glD, glE, glF])
  refine wpAnyJ_take 9 (v := ?_) (by first | exact hF | exact wideFn) (HS6'.out _ Bd.out) rfl (by kernel_rfl) (by kernel_rfl) (by kernel_rfl) (by kernel_rfl) rfl ?_ (by first | exact fun _ _ _ h => h | exact fun _ _ _ h => hQ2 _ _ _ _ _ h) ?_
  rotate_left
  · intro W hSW
    simp only [glA, glB, glC]
    (try dsimp only at hSW)
    go_simp
    with_reducible rfl
  (try simp only [glA, glB, glC, Act.put, glD, glE, glF])
  refine wpAnyJ_take 10 (v := ?_) (by first | exact hF | exact wideFn) (HS6'.out _ Bd.out) rfl (by kernel_rfl) (by kernel_rfl) (by kernel_rfl) (by kernel_rfl) rfl ?_ (by first | exact fun _ _ _ h => h | exact fun _ _ _ h => hQ2 _ _ _ _ _ h) ?_
  rotate_left
  · intro W hSW
    simp only [glA, glB, glC]
    (try dsimp only at hSW)
    go_simp
    with_reducible rfl
  (try simp only [glA, glB, glC, Act.put, glD, glE, glF])
  refine wpAnyJ_take 11 (v := ?_) (by first | exact hF | exact wideFn) (HS6'.out _ Bd.out) rfl (by kernel_rfl) (by kernel_rfl) (by kernel_rfl) (by kernel_rfl) rfl ?_ (by first | exact fun _ _ _ h => h | exact fun _ _ _ h => hQ2 _ _ _ _ _ h) ?_
  rotate_left
  · intro W hSW
    simp only [glA, glB, glC]
    (try dsimp only at hSW)
    go_simp
    with_reducible rfl
  (try simp only [glA, glB, glC, Act.put, glD, glE, glF])
  refine wpAnyJ_take 12 (v := ?_) (by first | exact hF | exact wideFn) (HS6'.out _ Bd.out) rfl (by kernel_rfl) (by kernel_rfl) (by kernel_rfl) (by kernel_rfl) rfl ?_ (by first | exact fun _ _ _ h => h | exact fun _ _ _ h => hQ2 _ _ _ _ _ h) ?_
  rotate_left
  · intro W hSW
    simp only [glA, glB, glC]
    (try dsimp only at hSW)
    go_simp
    with_reducible rfl
  (try simp only [glA, glB, glC, Act.put, glD, glE, glF])
  refine wpAnyJ_take 13 (v := ?_) (by first | exact hF | exact wideFn) (HS6'.out _ Bd.out) rfl (by kernel_rfl) (by kernel_rfl) (by kernel_rfl) (by kernel_rfl) rfl ?_ (by first | exact fun _ _ _ h => h | exact fun _ _ _ h => hQ2 _ _ _ _ _ h) ?_
  rotate_left
  · intro W hSW
    simp only [glA, glB, glC]
    (try dsimp only at hSW)
    go_simp
    with_reducible rfl
  (try simp only [glA, glB, glC, Act.put, glD, glE, glF])
  refine wpAnyJ_one 14 rfl (by kernel_rfl) (fun K hK => ?_)
  simp only [glA, glB, glC]
  go_simp
  refine ⟨trivial, rfl, ?_⟩
  (with_reducible refine (callsIn_wide.2 (HSP.out wd)).mono ?_)
  rintro e w3 ⟨rfl, hb3⟩
  have B3 := hide (Bd.out.trans (hb3.mono Bd.out.size))
  dsimp only
  refine hK.out _ _ (fun _ => HS6'.out _ B3.out) ?_
  clear hK K
  (try simp only [glA, glB, glC, Act.put, glD, glE, glF])
  refine wpAnyJ_take 15 (v := ?_) (by first | exact hF | exact wideFn) (HS6'.out _ B3.out) rfl (by kernel_rfl) (by kernel_rfl) (by kernel_rfl) (by kernel_rfl) rfl ?_ (by first | exact fun _ _ _ h => h | exact fun _ _ _ h => hQ2 _ _ _ _ _ h) ?_
  rotate_left
  · intro W hSW
    simp only [glA, glB, glC]
    (try dsimp only at hSW)
    go_simp
    with_reducible rfl
  (try simp only [glA, glB, glC, Act.put, glD, glE, glF])
  refine wpAnyJ_take 16 (v := ?_) (by first | exact hF | exact wideFn) (HS6'.out _ B3.out) rfl (by kernel_rfl) (by kernel_rfl) (by kernel_rfl) (by kernel_rfl) rfl ?_ (by first | exact fun _ _ _ h => h | exact fun _ _ _ h => hQ2 _ _ _ _ _ h) ?_
  rotate_left
  · intro W hSW
    simp only [glA, glB, glC]
    (try dsimp only at hSW)
    go_simp
    with_reducible rfl
  (try simp only [glA, glB, glC, Act.put, glD, glE, glF])
  refine wpAnyJ_done (by kernel_rfl) ?_
  go_wp2_with fail
  go_ret2
  exact ⟨rfl, HB2.out.trans (B3.out.mono HB2.out.size)⟩
end Go.Proofs.YtmpegkojencbjaaDoor
