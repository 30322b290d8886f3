/- KilnCounts: what the switch of a round leaves, branch by branch (no program in sight). -/
import Derived.Test.YtlhekifmkkgjlaaMl
set_option linter.unusedSimpArgs false
set_option linter.unusedVariables false
set_option linter.unnecessarySimpa false
namespace Go.Proofs.Ytlhekifmkkgjlaa
open Go Go.RowKit Go.Shelf
set_option maxRecDepth 100000
theorem two_cells {w : World} {g : Nat} {t : TypeId} {f : Nat → Int} (h : Blk w g t #[.int .i64 (f 0), .int .i64 (f 1)]) {K : Nat} (hK : K < 2) : g < w.heap.size ∧ w.cell? ⟨g, K, none⟩ = some (.int .i64 (f K)) ∧ w.frozen? ⟨g, K, none⟩ = false := by
  refine ⟨h.lt, ?_, h.frozen K⟩
  rw [h.cell]
  rcases (by omega : K = 0 ∨ K = 1) with rfl | rfl <;> rfl
theorem two_set {w : World} {g : Nat} {t : TypeId} {f : Nat → Int} (h : Blk w g t #[.int .i64 (f 0), .int .i64 (f 1)]) {K : Nat} (hK : K < 2) (v : Int) : Blk (w.setCell ⟨g, K, none⟩ (.int .i64 v)) g t #[.int .i64 (upd f K v 0), .int .i64 (upd f K v 1)] := by
  have h1 := h.set_ K (.int .i64 v)
  rcases (by omega : K = 0 ∨ K = 1) with rfl | rfl
  · simpa [upd] using h1
  · simpa [upd] using h1
theorem seven_cells {w : World} {g : Nat} {t : TypeId} {f : Nat → Wa} (h : Blk w g t (cells7 (f 0) (f 1))) {K : Nat} (hK : K < 2) : g < w.heap.size ∧ w.cell? ⟨g, K * 7, none⟩ = some (.int .i64 (f K).wet) ∧ w.cell? ⟨g, K * 7 + 1, none⟩ = some (.int .i64 (f K).dry) ∧ w.cell? ⟨g, K * 7 + 2, none⟩ = some (.int .i64 (f K).burning) ∧ w.cell? ⟨g, K * 7 + 3, none⟩ = some (.int .i64 (f K).fired) ∧ w.cell? ⟨g, K * 7 + 4, none⟩ = some (.int .i64 (f K).laid) ∧ w.cell? ⟨g, K * 7 + 5, none⟩ = some (.int .i64 (f K).broken) ∧ w.cell? ⟨g, K * 7 + 6, none⟩ = some (.int .i64 (f K).missing) := by
  refine ⟨h.lt, ?_⟩
  simp only [h.cell]
  rcases (by omega : K = 0 ∨ K = 1) with rfl | rfl <;> exact ⟨rfl, rfl, rfl, rfl, rfl, rfl, rfl⟩
/-- seven cells written from offset o on -/
def row7 (w : World) (g o : Nat) (x : Wa) : World := ((((((w.setCell ⟨g, o, none⟩ (.int .i64 x.wet)).setCell ⟨g, o + 1, none⟩ (.int .i64 x.dry)).setCell ⟨g, o + 2, none⟩ (.int .i64 x.burning)).setCell ⟨g, o + 3, none⟩ (.int .i64 x.fired)).setCell ⟨g, o + 4, none⟩ (.int .i64 x.laid)).setCell ⟨g, o + 5, none⟩ (.int .i64 x.broken)).setCell ⟨g, o + 6, none⟩ (.int .i64 x.missing)
theorem row7_grown (w : World) (g o : Nat) (x : Wa) : w.grownBy (row7 w g o x) (some g) := grownBy_setS (grownBy_setS (grownBy_setS (grownBy_setS (grownBy_setS (grownBy_setS (grownBy_setS (World.grownBy.refl w _) _ _) _ _) _ _) _ _) _ _) _ _) _ _
theorem seven_set {w : World} {g : Nat} {t : TypeId} {f : Nat → Wa} (h : Blk w g t (cells7 (f 0) (f 1))) {K : Nat} (hK : K < 2) (x : Wa) : Blk (row7 w g (K * 7) x) g t (cells7 (upd f K x 0) (upd f K x 1)) := by
  have h1 := ((((((h.set_ (K * 7) (.int .i64 x.wet)).set_ (K * 7 + 1) (.int .i64 x.dry)).set_ (K * 7 + 2) (.int .i64 x.burning)).set_ (K * 7 + 3) (.int .i64 x.fired)).set_ (K * 7 + 4) (.int .i64 x.laid)).set_ (K * 7 + 5) (.int .i64 x.broken)).set_ (K * 7 + 6) (.int .i64 x.missing)
  rcases (by omega : K = 0 ∨ K = 1) with rfl | rfl
  · simpa [upd, cells7, row7] using h1
  · simpa [upd, cells7, row7] using h1
section
variable {w0 wr w' : World} {b S p sb soff sc : Nat} {ov : Value} {bu : Bool} {ws : Nat → Wa} {mo la pu mo' la' pu' : Nat → Int} {old old' : Nat → Wa}
theorem IR.kept {g g' n o : Nat} {x : Nat → Int} (h : IR wr wr.heap.size (some ⟨g', o, none⟩) n x) (hg : wr.grownBy w' (some g)) (hne : g' ≠ g) : IR w' w'.heap.size (some ⟨g', o, none⟩) n x := fun hn => by
  obtain ⟨q, r, h1, h2, h3⟩ := h hn
  injection h1 with h1
  injection h1 with h4 h5
  subst h4 h5
  exact ⟨g', o, rfl, Nat.lt_of_lt_of_le h2 hg.size, fun i j hi hj => (World.cell?_of_block (w := wr) (hg.block g' h2 (fun e => by injection e; omega))).trans (h3 i j hi hj)⟩
theorem Burns.kept (h : Burns wr b S p ov bu ws pu) {g : Nat} (hg : wr.grownBy w' (some g)) (hgp : g ≤ p + 3) : Burns w' b S p ov bu ws pu := by
  rcases h with h | ⟨c1, kb, g', oc, c2, c3, c4, c5, c6, c7⟩
  · exact .inl h
  · exact .inr ⟨c1, kb, g', oc, c2, c3, c4.kept hg (by omega), c5, c6, c7⟩
theorem CI0.own {g : Nat} (h : CI0 w0 b S p sb soff sc ov ws mo la pu old wr) (hg : wr.grownBy w' (some g)) (h1 : p ≤ g)
    (moB : Blk w' p 99 #[.int .i64 (mo' 0), .int .i64 (mo' 1)]) (putB : Blk w' (p + 1) 99 #[.int .i64 (pu' 0), .int .i64 (pu' 1)]) (laB : Blk w' (p + 2) 99 #[.int .i64 (la' 0), .int .i64 (la' 1)]) (be : Blk w' (p + 3) 100 (cells7 (old' 0) (old' 1))) :
    CI0 w0 b S p sb soff sc ov ws mo' la' pu' old' w' := by
  obtain ⟨l1, l2, l3, l4, l5, l6, l7, l8⟩ := h.low
  refine ⟨h.below.grown hg h.below.size (fun j hj => by injection hj with hj; omega), h.book.grown hg (fun e => by injection e; omega), ?_, h.ok, h.sp.kept hg (by omega), moB, putB, laB, be, h.low⟩
  obtain ⟨⟨cs, h2⟩, h3⟩ := h.st
  exact ⟨⟨cs, h2.grown hg (fun e => by injection e; omega)⟩, fun k hk => by
    obtain ⟨k1, k2, k3, k4, k5, k6, k7, k8, k9⟩ := h3 k hk
    have hb := hg.block S k1 (fun e => by injection e; omega)
    exact ⟨Nat.lt_of_lt_of_le k1 hg.size, fun i => (World.frozen?_of_block (w := wr) hb).trans (k2 i), (World.cell?_of_block (w := wr) hb).trans k3, (World.cell?_of_block (w := wr) hb).trans k4, (World.cell?_of_block (w := wr) hb).trans k5, (World.cell?_of_block (w := wr) hb).trans k6, (World.cell?_of_block (w := wr) hb).trans k7, (World.cell?_of_block (w := wr) hb).trans k8, (World.cell?_of_block (w := wr) hb).trans k9⟩⟩
theorem CI.setMo (h : CI w0 b S p sb soff sc ov bu ws mo la pu old wr) {K : Nat} (hK : K < 2) (v : Int) : CI w0 b S p sb soff sc ov bu ws (upd mo K v) la pu old (wr.setCell ⟨p, K, none⟩ (.int .i64 v)) := by
  have hg := grownBy_setS (World.grownBy.refl wr (some p)) K (.int .i64 v)
  exact ⟨h.toCI0.own hg (Nat.le_refl _) (two_set h.moB hK v) (h.putB.grown hg (fun e => by injection e; omega)) (h.laB.grown hg (fun e => by injection e; omega)) (h.be.grown hg (fun e => by injection e; omega)), h.burn.kept hg (by omega)⟩
theorem CI.setLa (h : CI w0 b S p sb soff sc ov bu ws mo la pu old wr) {K : Nat} (hK : K < 2) (v : Int) : CI w0 b S p sb soff sc ov bu ws mo (upd la K v) pu old (wr.setCell ⟨p + 2, K, none⟩ (.int .i64 v)) := by
  have hg := grownBy_setS (World.grownBy.refl wr (some (p + 2))) K (.int .i64 v)
  exact ⟨h.toCI0.own hg (by omega) (h.moB.grown hg (fun e => by injection e; omega)) (h.putB.grown hg (fun e => by injection e; omega)) (two_set h.laB hK v) (h.be.grown hg (fun e => by injection e; omega)), h.burn.kept hg (by omega)⟩
theorem CI.setBe (h : CI w0 b S p sb soff sc ov bu ws mo la pu old wr) {K : Nat} (hK : K < 2) (x : Wa) : CI w0 b S p sb soff sc ov bu ws mo la pu (upd old K x) (row7 wr (p + 3) (K * 7) x) := by
  have hg := row7_grown wr (p + 3) (K * 7) x
  exact ⟨h.toCI0.own hg (by omega) (h.moB.grown hg (fun e => by injection e; omega)) (h.putB.grown hg (fun e => by injection e; omega)) (h.laB.grown hg (fun e => by injection e; omega)) (seven_set h.be hK x), h.burn.kept hg (by omega)⟩
def put3 (w : World) (g K : Nat) (v : Int) : World := ((w.setCell ⟨g, 0, none⟩ (.int .i64 0)).setCell ⟨g, 1, none⟩ (.int .i64 0)).setCell ⟨g, K, none⟩ (.int .i64 v)
theorem CI0.setPut (h : CI0 w0 b S p sb soff sc ov ws mo la pu old wr) {K : Nat} (hK : K < 2) (v : Int) : CI0 w0 b S p sb soff sc ov ws mo la (fun j => if j = K then v else 0) old (put3 wr (p + 1) K v) ∧ wr.grownBy (put3 wr (p + 1) K v) (some (p + 1)) := by
  have hg : wr.grownBy (put3 wr (p + 1) K v) (some (p + 1)) := grownBy_setS (grownBy_setS (grownBy_setS (World.grownBy.refl wr (some (p + 1))) 0 _) 1 _) K _
  refine ⟨h.own hg (by omega) (h.moB.grown hg (fun e => by injection e; omega)) ?_ (h.laB.grown hg (fun e => by injection e; omega)) (h.be.grown hg (fun e => by injection e; omega)), hg⟩
  have h1 := ((h.putB.set_ 0 (.int .i64 0)).set_ 1 (.int .i64 0)).set_ K (.int .i64 v)
  rcases (by omega : K = 0 ∨ K = 1) with rfl | rfl
  · simpa [put3] using h1
  · simpa [put3] using h1
theorem CI.alike (h : CI w0 b S p sb soff sc ov bu ws mo la pu old wr) (h1 : ∀ j, j < 2 → mo' j = mo j) (h2 : ∀ j, j < 2 → la' j = la j) (h3 : ∀ j, j < 2 → old' j = old j) : CI w0 b S p sb soff sc ov bu ws mo' la' pu old' wr := by
  obtain ⟨⟨a1, a2, a3, a4, a5, a6, a7, a8, a9, a10⟩, a11⟩ := h
  refine ⟨⟨a1, a2, a3, a4, a5, ?_, a7, ?_, ?_, a10⟩, a11⟩
  · rw [h1 0 (by omega), h1 1 (by omega)]; exact a6
  · rw [h2 0 (by omega), h2 1 (by omega)]; exact a8
  · rw [h3 0 (by omega), h3 1 (by omega)]; exact a9
end
/-- what the switch leaves: the answer E, the kinds ws' -/
def SWR (w : World) (b S p sb sc yb : Nat) (ws : Nat → Wa) (K q : Nat) (y : Array Value) (e bu : Value) (wc : World) : Prop :=
  ∃ (E : Int) (bb : Bool) (ov : Value) (ws' : Nat → Wa) (pu : Nat → Int), e = .int .i64 E ∧ bu = .bool bb ∧ Hid (CI w b S p sb 0 sc ov bb ws' (fun j => (ws' j).sum) (fun j => (ws' j).laid) pu ws wc) ∧ Hid (Blk wc yb 102 y) ∧ Hid (∀ j, j < 2 → (ws j).broken ≤ (ws' j).broken ∧ (E ≠ 0 → ws' j = ws j) ∧ (q ≠ 3 → j ≠ K → ws' j = ws j))
section
variable {w wc : World} {b S p sb sc yb K q : Nat} {ov : Value} {bb : Bool} {ws : Nat → Wa} {pu : Nat → Int} {y : Array Value} {E : Int} {X : Wa}
theorem SWR.same (h : CI w b S p sb 0 sc ov bb ws (fun j => (ws j).sum) (fun j => (ws j).laid) pu ws wc) (hy : Blk wc yb 102 y) : SWR w b S p sb sc yb ws K q y (.int .i64 E) (.bool bb) wc :=
  ⟨E, bb, ov, ws, pu, rfl, rfl, h, hy, fun j _ => ⟨Int.le_refl _, fun _ => rfl, fun _ _ => rfl⟩⟩
theorem updSum {f : Wa → Int} {j : Nat} (h : f X = f (ws K)) : f (upd ws K X j) = f (ws j) := by
  by_cases e : j = K
  · subst e; rw [upd_same]; exact h
  · rw [upd_ne _ _ e]
theorem SWR.facts (hbr : (ws K).broken ≤ X.broken) (hE : E ≠ 0 → X = ws K) : ∀ j, j < 2 → (ws j).broken ≤ (upd ws K X j).broken ∧ (E ≠ 0 → upd ws K X j = ws j) ∧ (q ≠ 3 → j ≠ K → upd ws K X j = ws j) := fun j _ => by
  by_cases e : j = K
  · subst e
    rw [upd_same]
    exact ⟨hbr, hE, fun _ h => absurd rfl h⟩
  · rw [upd_ne _ _ e]
    exact ⟨Int.le_refl _, fun _ => rfl, fun _ _ => rfl⟩
theorem SWR.plain (h : CI w b S p sb 0 sc ov bb (upd ws K X) (fun j => (ws j).sum) (fun j => (ws j).laid) pu ws wc) (hy : Blk wc yb 102 y) (hs : X.sum = (ws K).sum) (hl : X.laid = (ws K).laid) (hbr : (ws K).broken ≤ X.broken) (hE : E ≠ 0 → X = ws K) :
    SWR w b S p sb sc yb ws K q y (.int .i64 E) (.bool bb) wc :=
  ⟨E, bb, ov, upd ws K X, pu, rfl, rfl, h.alike (fun j _ => updSum (f := Wa.sum) hs) (fun j _ => updSum (f := Wa.laid) hl) (fun _ _ => rfl), hy, SWR.facts hbr hE⟩
theorem SWR.mo (h : CI w b S p sb 0 sc ov bb (upd ws K X) (fun j => (ws j).sum) (fun j => (ws j).laid) pu ws wc) (hy : Blk wc yb 102 y) (hK : K < 2) (hyp : p + 3 < yb) (hl : X.laid = (ws K).laid) (hbr : (ws K).broken ≤ X.broken) {v : Int} (hs : X.sum = v) :
    SWR w b S p sb sc yb ws K q y (.int .i64 0) (.bool bb) (wc.setCell ⟨p, K, none⟩ (.int .i64 v)) :=
  ⟨0, bb, ov, upd ws K X, pu, rfl, rfl, (h.setMo hK v).alike (fun j _ => by
    by_cases e : j = K
    · subst e; rw [upd_same, upd_same]; exact hs
    · rw [upd_ne _ _ e, upd_ne _ _ e]) (fun j _ => updSum (f := Wa.laid) hl) (fun _ _ => rfl), hy.far (by show yb ≠ p; omega) _, SWR.facts hbr (fun h => absurd rfl h)⟩
theorem SWR.la (h : CI w b S p sb 0 sc ov bb (upd ws K X) (fun j => (ws j).sum) (fun j => (ws j).laid) pu ws wc) (hy : Blk wc yb 102 y) (hK : K < 2) (hyp : p + 3 < yb) (hs : X.sum = (ws K).sum) (hbr : (ws K).broken ≤ X.broken) {v : Int} (hl : X.laid = v) :
    SWR w b S p sb sc yb ws K q y (.int .i64 0) (.bool bb) (wc.setCell ⟨p + 2, K, none⟩ (.int .i64 v)) :=
  ⟨0, bb, ov, upd ws K X, pu, rfl, rfl, (h.setLa hK v).alike (fun j _ => updSum (f := Wa.sum) hs) (fun j _ => by
    by_cases e : j = K
    · subst e; rw [upd_same, upd_same]; exact hl
    · rw [upd_ne _ _ e, upd_ne _ _ e]) (fun _ _ => rfl), hy.far (by show yb ≠ p + 2; omega) _, SWR.facts hbr (fun h => absurd rfl h)⟩
theorem SWR.fire {N : Int} (h : CI0 w b S p sb 0 sc ov (upd ws K (fireX (ws K) N)) (fun j => (ws j).sum) (fun j => (ws j).laid) pu ws wc) (hbn : Burns wc b S p ov true (upd ws K (fireX (ws K) N)) (fun j => if j = K then N else 0)) (hy : Blk wc yb 102 y) (hK : K < 2) (hyp : p + 3 < yb) (ho : OkW (ws K)) (h0 : 1 ≤ N) (h1 : N ≤ (ws K).dry) :
    SWR w b S p sb sc yb ws K q y (.int .i64 0) (.bool true) (put3 wc (p + 1) K N) := by
  obtain ⟨f1, f2, f3, f4, f5⟩ := fireX_ok ho h0 h1
  obtain ⟨g1, g2⟩ := h.setPut hK N
  refine ⟨0, true, ov, upd ws K (fireX (ws K) N), _, rfl, rfl, CI.alike ⟨g1, hbn.kept g2 (by omega)⟩ (fun j _ => updSum (f := Wa.sum) f5) (fun j _ => updSum (f := Wa.laid) f2) (fun _ _ => rfl), ?_, SWR.facts (by omega) (fun h => absurd rfl h)⟩
  exact ((hy.far (by show yb ≠ p + 1; omega) _).far (by show yb ≠ p + 1; omega) _).far (by show yb ≠ p + 1; omega) _
theorem SWR.draw {l : Int} (h : CI w b S p sb 0 sc (.slice none 0 0) false (upd ws K (Proofs.Ytlhekifmkkgjlaa.drawn (ws K) l)) (fun j => (ws j).sum) (fun j => (ws j).laid) pu ws wc) (hy : Blk wc yb 102 y) {K' : Nat} (ho : OkW (ws K)) (h0 : 0 ≤ l) (h1 : l ≤ (ws K).burning) :
    SWR w b S p sb sc yb ws K' 3 y (.int .i64 0) (.bool false) wc := by
  obtain ⟨f1, f2, f3, f4, f5⟩ := drawn_ok ho h0 h1
  refine ⟨0, false, _, upd ws K (Proofs.Ytlhekifmkkgjlaa.drawn (ws K) l), pu, rfl, rfl, h.alike (fun j _ => updSum (f := Wa.sum) f5) (fun j _ => updSum (f := Wa.laid) f2) (fun _ _ => rfl), hy, fun j hj => ?_⟩
  obtain ⟨a1, a2, -⟩ := SWR.facts (ws := ws) (K := K) (q := 3) (E := 0) f3 (fun h => absurd rfl h) j hj
  exact ⟨a1, a2, fun h => absurd rfl h⟩
/-- what was put into a hot kiln -/
theorem Burns.put {wr : World} (h : Burns wr b S p ov true ws pu) (ho : ∀ k, k < 2 → OkW (ws k)) : 0 ≤ pu 0 ∧ pu 0 ≤ 1000000000 ∧ 0 ≤ pu 1 ∧ pu 1 ≤ 1000000000 ∧ ∃ kb g oc : Nat, kb < 2 ∧ ov = .slice (some ⟨g, 0, none⟩) 1 oc ∧ IR wr wr.heap.size (some ⟨g, 0, none⟩) 1 (fun _ => (kb : Int)) ∧ pu 0 + pu 1 = (ws kb).burning ∧ p + 3 < g ∧ ∀ i, i < 2 → i ≠ kb → (ws i).burning = 0 := by
  rcases h with ⟨h, -⟩ | ⟨-, kb, g, oc, h1, h2, h3, h4, h5, h6⟩
  · cases h
  · obtain ⟨o1, o2, o3, o4, o5, o6, o7, o8, o9⟩ := ho kb h1
    have hh : 0 ≤ pu 0 ∧ pu 0 ≤ 1000000000 ∧ 0 ≤ pu 1 ∧ pu 1 ≤ 1000000000 ∧ pu 0 + pu 1 = (ws kb).burning := by
      rcases (by omega : kb = 0 ∨ kb = 1) with rfl | rfl
      · obtain ⟨c1, c2⟩ := h5 1 (by omega) (by omega)
        rw [c2]; omega
      · obtain ⟨c1, c2⟩ := h5 0 (by omega) (by omega)
        rw [c2]; omega
    obtain ⟨a1, a2, a3, a4, a5⟩ := hh
    exact ⟨a1, a2, a3, a4, kb, g, oc, h1, h2, h3, a5, h6, fun i hi hne => (h5 i hi hne).1⟩
theorem burns_hot {wr : World} (h : Burns wr b S p ov bb ws pu) {j : Nat} (hj : j < 2) : 0 < (ws j).burning → bb = true := fun h0 => by
  rcases h with ⟨-, -, h⟩ | ⟨h, -⟩
  · have := h j hj; omega
  · exact h
theorem old_next {ws' : Nat → Wa} {j : Nat} (h : X = ws' j) (i : Nat) : (if i < j + 1 then ws' i else ws i) = upd (fun i => if i < j then ws' i else ws i) j X i := by
  by_cases e : i = j
  · subst e
    rw [upd_same, if_pos (by omega), h]
  · rw [upd_ne _ _ e]
    by_cases l : i < j
    · rw [if_pos l, if_pos (by omega)]
    · rw [if_neg l, if_neg (by omega)]
theorem Blk.row7 {w : World} {g h o : Nat} {t : TypeId} {cs : Array Value} {x : Wa} (hb : Blk w g t cs) (hne : g ≠ h) : Blk (Proofs.Ytlhekifmkkgjlaa.row7 w h o x) g t cs :=
  ((((((hb.far (p := ⟨h, o, none⟩) hne _).far (p := ⟨h, o + 1, none⟩) hne _).far (p := ⟨h, o + 2, none⟩) hne _).far (p := ⟨h, o + 3, none⟩) hne _).far (p := ⟨h, o + 4, none⟩) hne _).far (p := ⟨h, o + 5, none⟩) hne _).far (p := ⟨h, o + 6, none⟩) hne _
theorem okW_sum {x : Wa} (h : OkW x) : 0 ≤ x.sum ∧ x.sum ≤ 1000000000 := by
  obtain ⟨h1, h2, h3, h4, h5, h6, h7, h8, h9⟩ := h
  unfold Wa.sum
  omega
theorem okW_laid {x : Wa} (h : OkW x) : 0 ≤ x.laid ∧ x.laid ≤ 1000000000 := by
  obtain ⟨h1, h2, h3, h4, h5, h6, h7, h8, h9⟩ := h
  omega
end
end Go.Proofs.Ytlhekifmkkgjlaa
