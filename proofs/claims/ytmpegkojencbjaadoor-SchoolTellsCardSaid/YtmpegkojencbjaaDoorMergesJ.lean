/- School: own lists of tests, own lists of rules. -/
import Derived.Test.YtmpegkojencbjaaDoorMergesI
import Derived.Deep.CutBlock
import Derived.Deep.DeepCutAuto
import Derived.IntWalk
import Derived.Deep.QuietTactic
import Derived.BigQuiet
import Derived.RangeFuncWrites
import Derived.Maps.Own
import Derived.Maps.OwnIn
import Derived.Maps.Views
set_option linter.unusedSimpArgs false
set_option linter.unusedVariables false
set_option linter.unnecessarySimpa false
namespace Go.Proofs.YtmpegkojencbjaaDoor
open Go Go.RowKit Go.Shelf
set_option maxHeartbeats 4000000
set_option maxRecDepth 100000
theorem info_test : (Tryd.prog.info? 76).map (fun i => (i.zero, i.size, i.bytes)) = some (some (.agg #[.int .i64 0, .int .i64 0]), 2, 16) := by kernel_rfl
theorem info_rule : (Tryd.prog.info? 73).map (fun i => (i.zero, i.size, i.bytes)) = some (some (.agg #[.slice none 0 0, .int .i64 0, .int .i64 0]), 3, 40) := by kernel_rfl
def tsC (t : Int × Int) : List Value := [.int .i64 t.1, .int .i64 t.2]
def cellsQ (l : List (Int × Int)) : List Value := l.flatMap tsC
theorem cellsQ_append (l m : List (Int × Int)) : cellsQ (l ++ m) = cellsQ l ++ cellsQ m := by simp [cellsQ, List.flatMap_append]
theorem cellsQ_len (l : List (Int × Int)) : (cellsQ l).length = l.length * 2 := by
  induction l with
  | nil => rfl
  | cons x l ih => show (tsC x ++ cellsQ l).length = _; rw [List.length_append, ih, List.length_cons]; show 2 + _ = _; omega
theorem cellsQ_one (l : List (Int × Int)) : ∀ u ∈ cellsQ l, u.oneCell' = true := by
  intro u hu
  unfold cellsQ at hu
  obtain ⟨e, -, he⟩ := List.mem_flatMap.1 hu
  simp only [tsC, List.mem_cons, List.not_mem_nil, or_false] at he
  rcases he with rfl | rfl <;> rfl
theorem cellsQ_at (l : List (Int × Int)) : ∀ (k i : Nat), k < l.length → i < 2 → (cellsQ l)[k * 2 + i]? = some (tsV (l.getD k (0, 0)) i) := by
  induction l with
  | nil => intro k i hk; simp at hk
  | cons x l ih =>
    intro k i hk hi
    show (tsC x ++ cellsQ l)[k * 2 + i]? = _
    cases k with
    | zero => rcases (by omega : i = 0 ∨ i = 1) with rfl | rfl <;> rfl
    | succ k =>
      rw [List.getElem?_append_right (by show 2 ≤ _; omega)]
      have : (k + 1) * 2 + i - (tsC x).length = k * 2 + i := by show _ - 2 = _; omega
      rw [this, ih k i (by simpa using hk) hi]
      rfl
/-- an own list of tests -/
def OwnQ (W : World) (n0 : Nat) (v : Value) (l : List (Int × Int)) : Prop := W.ownsRow n0 76 2 v l.length (cellsQ l)
theorem OwnQ.ext {W W' : World} {n0 : Nat} {v : Value} {l : List (Int × Int)} (h : OwnQ W n0 v l) (hb : Below W.heap.size W W') : OwnQ W' n0 v l := ownBelow h hb
theorem OwnQ.made0 (W : World) : OwnQ (W.alloc (.cells #[] 76)) W.heap.size (.slice (some ⟨W.heap.size, 0, none⟩) 0 0) [] :=
  World.ownsRow_made W #[] 0 (Nat.le_refl _) (by unfold maxLen; omega) rfl
theorem OwnQ.pushes {W : World} {base : Nat} {v : Value} {l : List (Int × Int)} (h : OwnQ W base v l) (A : Option Addr) (c : Nat) (m : List (Int × Int)) (hA : TsR W W.heap.size A m) (hl : l.length + m.length ≤ 1000000) (hb : base ≤ W.heap.size) :
    ∃ v' w', (Builtin.append_ #[71, 71] 71 #[v, .slice A m.length c]).run Tryd.prog W = .ok v' w' ∧ OwnQ w' base v' (l ++ m) ∧ W.grownBy w' v.ownBlock := by
  obtain ⟨i0, hi, hz0, hz1, hz2⟩ := info_parts info_test
  cases A with
  | none =>
    have hm : m = [] := by
      rcases hm : m with _ | ⟨x, m⟩
      · rfl
      · exfalso
        obtain ⟨b, off, hA, -⟩ := hA (by rw [hm]; simp)
        cases hA
    subst hm
    refine ⟨v, W, run_append_none0 (P := Tryd.prog) _ _ 76 i0 2 Tryd.underlying71 hi v l.length c (cellsQ l) h, by simpa using h, World.grownBy.refl _ _⟩
  | some a =>
    have hcells : ∀ j u, (cellsQ m)[j]? = some u → W.cell? (a.add j) = some u := by
      intro j u hj
      have hlt : j < m.length * 2 := by
        have := (List.getElem?_eq_some_iff.1 hj).1
        rwa [cellsQ_len] at this
      obtain ⟨b, off, hA', -, hc⟩ := hA (by omega)
      injection hA' with hA'
      subst hA'
      have hk : j / 2 < m.length := by omega
      have hi4 : j % 2 < 2 := by omega
      have e1 : j / 2 * 2 + j % 2 = j := by omega
      have e2 := cellsQ_at m (j / 2) (j % 2) hk hi4
      rw [e1, hj] at e2
      have e3 := hc (j / 2) (j % 2) hk hi4
      rw [show off + j / 2 * 2 + j % 2 = off + j by omega, ← e2] at e3
      have e4 : ((⟨b, off, none⟩ : Addr).add j) = ⟨b, off + j, none⟩ := by simp [Addr.add]
      rw [e4]
      exact e3
    obtain ⟨v', w', hr, h2, h3, -⟩ := run_append_own (P := Tryd.prog) (w := W) base 71 71 76 i0 _ 2 16 Tryd.underlying71 hi hz0 hz1 hz2 rfl (by decide) v l.length (cellsQ l) h
      a m.length c (cellsQ m) (cellsQ_len m) hcells (cellsQ_one m) (by unfold maxLen; omega) (by omega) hb
    refine ⟨v', w', hr, ?_, h3⟩
    unfold OwnQ
    rw [cellsQ_append, List.length_append]
    exact h2
/-- an own list of tests is read -/
theorem OwnQ.tsR {W : World} {n0 : Nat} {A : Option Addr} {n c : Nat} {l : List (Int × Int)} (h : OwnQ W n0 (.slice A n c) l) : n = l.length ∧ TsR W W.heap.size A l := by
  obtain ⟨A', c', e⟩ := own_shape h
  injection e with e1 e2 e3
  subst e1
  refine ⟨e2, fun hn => ?_⟩
  rcases h.2 with ⟨h1, h2⟩ | ⟨g, cap, cur, h1, h2, h3, h4, h5, h6, h7⟩
  · omega
  · injection h1 with hA
    subst hA
    have hg := (World.ownsRow.lt h g rfl).2
    refine ⟨g, 0, rfl, hg, fun k i hk hi => ?_⟩
    have hc := World.ownsRow.cells h (g := g) rfl (k * 2 + i) _ (cellsQ_at l k i hk hi)
    have e1 : ((⟨g, 0, none⟩ : Addr).add (k * 2 + i)) = ⟨g, 0 + k * 2 + i, none⟩ := by simp [Addr.add]; omega
    rw [e1] at hc
    exact hc
-- rules: the values of a rule's three cells
abbrev R3 := Value × Int × Int
def r3C (r : R3) : List Value := [r.1, .int .i64 r.2.1, .int .i64 r.2.2]
def cells3 (l : List R3) : List Value := l.flatMap r3C
theorem cells3_append (l m : List R3) : cells3 (l ++ m) = cells3 l ++ cells3 m := by simp [cells3, List.flatMap_append]
theorem cells3_one (l : List R3) (h : ∀ r ∈ l, r.1.oneCell' = true) : ∀ u ∈ cells3 l, u.oneCell' = true := by
  intro u hu
  unfold cells3 at hu
  obtain ⟨e, hm, he⟩ := List.mem_flatMap.1 hu
  simp only [r3C, List.mem_cons, List.not_mem_nil, or_false] at he
  rcases he with rfl | rfl | rfl
  · exact h e hm
  · rfl
  · rfl
def r3V (r : R3) (i : Nat) : Value := if i = 0 then r.1 else if i = 1 then .int .i64 r.2.1 else .int .i64 r.2.2
def r30 : R3 := (.slice none 0 0, 0, 0)
theorem cells3_at (l : List R3) : ∀ (k i : Nat), k < l.length → i < 3 → (cells3 l)[k * 3 + i]? = some (r3V (l.getD k r30) i) := by
  induction l with
  | nil => intro k i hk; simp at hk
  | cons x l ih =>
    intro k i hk hi
    show (r3C x ++ cells3 l)[k * 3 + i]? = _
    cases k with
    | zero => rcases (by omega : i = 0 ∨ i = 1 ∨ i = 2) with rfl | rfl | rfl <;> rfl
    | succ k =>
      rw [List.getElem?_append_right (by show 3 ≤ _; omega)]
      have : (k + 1) * 3 + i - (r3C x).length = k * 3 + i := by show _ - 3 = _; omega
      rw [this, ih k i (by simpa using hk) hi]
      rfl
/-- an own list of rules -/
def Own3 (W : World) (n0 : Nat) (v : Value) (l : List R3) : Prop := W.ownsRow n0 73 3 v l.length (cells3 l)
theorem Own3.nil (W : World) (n0 : Nat) : Own3 W n0 (.slice none 0 0) [] := ⟨rfl, .inl ⟨rfl, rfl⟩⟩
theorem Own3.ext {W W' : World} {n0 : Nat} {v : Value} {l : List R3} (h : Own3 W n0 v l) (hb : Below W.heap.size W W') : Own3 W' n0 v l := ownBelow h hb
theorem cell_three_new (w : World) (a b c : Value) (t : TypeId) : ∀ (j : Nat) (u : Value), [a, b, c][j]? = some u → (w.alloc (.cells #[a, b, c] t)).cell? ((⟨w.heap.size, 0, none⟩ : Addr).add j) = some u := by
  intro j u h
  have hB := Blk.new w t #[a, b, c]
  match j, h with
  | 0, h => simpa [Addr.add] using (show (w.alloc (.cells #[a, b, c] t)).cell? ⟨w.heap.size, 0, none⟩ = some u by rw [hB.cell]; simpa using h)
  | 1, h => simpa [Addr.add] using (show (w.alloc (.cells #[a, b, c] t)).cell? ⟨w.heap.size, 1, none⟩ = some u by rw [hB.cell]; simpa using h)
  | 2, h => simpa [Addr.add] using (show (w.alloc (.cells #[a, b, c] t)).cell? ⟨w.heap.size, 2, none⟩ = some u by rw [hB.cell]; simpa using h)
  | j + 3, h => simp at h
theorem Own3.push {W : World} {base : Nat} {v : Value} {l : List R3} (h : Own3 W base v l) (r : R3) (h1 : r.1.oneCell' = true) (hl : l.length ≤ 1000000) (hb : base ≤ W.heap.size) :
    ∃ A c w', (Builtin.append_ #[45, 45] 45 #[v, .slice (some ⟨W.heap.size, 0, none⟩) 1 1]).run Tryd.prog (W.alloc (.cells #[r.1, .int .i64 r.2.1, .int .i64 r.2.2] 73)) = .ok (.slice A (l.length + 1) c) w' ∧
      Own3 w' base (.slice A (l.length + 1) c) (l ++ [r]) ∧ (W.alloc (.cells #[r.1, .int .i64 r.2.1, .int .i64 r.2.2] 73)).grownBy w' v.ownBlock := by
  obtain ⟨i0, hi, hz0, hz1, hz2⟩ := info_parts info_rule
  obtain ⟨v', w', hr, h2, h3, -⟩ := run_append_own (P := Tryd.prog) (w := W.alloc (.cells #[r.1, .int .i64 r.2.1, .int .i64 r.2.2] 73)) base 45 45 73 i0 _ 3 40 Tryd.underlying45 hi hz0 hz1 hz2 rfl (by decide) v l.length (cells3 l) (World.ownsRow.alloc h _)
    ⟨W.heap.size, 0, none⟩ 1 1 (r3C r) rfl (cell_three_new _ _ _ _ _) (by have := cells3_one [r] (fun x hx => by rw [List.mem_singleton.1 hx]; exact h1); simpa [cells3] using this) (by unfold maxLen; omega) (by omega) (by simp; omega)
  obtain ⟨A, c, rfl⟩ := own_shape h2
  refine ⟨A, c, w', hr, ?_, h3⟩
  unfold Own3
  rw [cells3_append, List.length_append]
  simpa [cells3] using h2
theorem Own3.row {W : World} {n0 : Nat} {A : Option Addr} {n c : Nat} {l : List R3} (h : Own3 W n0 (.slice A n c) l) : n = l.length ∧ ER W W.heap.size 3 A l.length fun k i => r3V (l.getD k r30) i := by
  obtain ⟨A', c', e⟩ := own_shape h
  injection e with e1 e2 e3
  subst e1
  refine ⟨e2, fun hn => ?_⟩
  rcases h.2 with ⟨h1, h2⟩ | ⟨g, cap, cur, h1, h2, h3, h4, h5, h6, h7⟩
  · omega
  · injection h1 with hA
    subst hA
    have hg := (World.ownsRow.lt h g rfl).2
    refine ⟨g, 0, rfl, hg, fun k i hk hi => ?_⟩
    have hc := World.ownsRow.cells h (g := g) rfl (k * 3 + i) _ (cells3_at l k i hk hi)
    have e1 : ((⟨g, 0, none⟩ : Addr).add (k * 3 + i)) = ⟨g, 0 + k * 3 + i, none⟩ := by simp [Addr.add]; omega
    rw [e1] at hc
    exact hc
end Go.Proofs.YtmpegkojencbjaaDoor
/- School: the law's copied. -/
namespace Go.Proofs.YtmpegkojencbjaaDoor
open Go Go.RowKit Go.Shelf
set_option maxHeartbeats 8000000
set_option maxRecDepth 100000
/-- what a loop of copied keeps -/
structure CpI (w W : World) (G R T : Nat) (d : Ad_) (s : Sch) (fa : Option Addr) (fc : Nat) (k : Nat) (V : Value) (L : List R3) : Prop where
  below : Below w.heap.size w W
  loG : w.heap.size ≤ G
  loR : w.heap.size ≤ R
  lo : w.heap.size ≤ T
  neG : G ≠ T
  neR : R ≠ T
  blkG : Blk W G 47 #[.slice d.fa s.fs.length d.fc, .int .i64 s.q, .slice d.ra s.rs.length d.rc]
  blkR : Blk W R 47 #[.slice none 0 0, .int .i64 0, .slice none 0 0]
  blk : Blk W T 47 #[.slice fa s.fs.length fc, .int .i64 s.q, V]
  fsO : OwnJ W w.heap.size (.slice fa s.fs.length fc) s.fs
  rsO : Own3 W w.heap.size V L
  len : L.length = k
  rl : ∀ j, j < k → ∃ a c, L.getD j r30 = (.slice a (s.rs.getD j r0).when_.length c, (s.rs.getD j r0).ask, (s.rs.getD j r0).say) ∧ OwnQ W w.heap.size (.slice a (s.rs.getD j r0).when_.length c) (s.rs.getD j r0).when_
section
variable {w W W' : World} {G R T : Nat} {d : Ad_} {s : Sch} {fa : Option Addr} {fc k : Nat} {V : Value} {L : List R3}
theorem CpI.ext (h : CpI w W G R T d s fa fc k V L) (hb : Below W.heap.size W W') : CpI w W' G R T d s fa fc k V L :=
  ⟨h.below.trans (hb.mono h.below.size), h.loG, h.loR, h.lo, h.neG, h.neR, h.blkG.ext hb, h.blkR.ext hb, h.blk.ext hb, h.fsO.ext hb, h.rsO.ext hb, h.len, fun j hj => by
    obtain ⟨a, c, h1, h2⟩ := h.rl j hj
    exact ⟨a, c, h1, h2.ext hb⟩⟩
theorem none_or {v : Value} : v.ownBlock = none ∨ v.ownBlock ≠ none := by
  cases v.ownBlock with
  | none => exact .inl rfl
  | some k => exact .inr (by simp)
theorem blk_kx {X g : Nat} {row : Option Nat} {t : TypeId} {cs : Array Value} (h : Blk W g t cs) (hk : KX W W' X row) (h1 : g ≠ X) (h2 : some g ≠ row) : Blk W' g t cs := (hk.block g h.lt h1 h2).trans h
/-- a rule goes to the list -/
theorem CpI.put (h : CpI w W G R T d s fa fc k V L) (a : Option Addr) (c : Nat) (hk : k ≤ 1000)
    (ho : OwnQ W w.heap.size (.slice a (s.rs.getD k r0).when_.length c) (s.rs.getD k r0).when_) :
    ∃ A c' w6, (Builtin.append_ #[45, 45] 45 #[V, .slice (some ⟨W.heap.size, 0, none⟩) 1 1]).run Tryd.prog (W.alloc (.cells #[.slice a (s.rs.getD k r0).when_.length c, .int .i64 (s.rs.getD k r0).ask, .int .i64 (s.rs.getD k r0).say] 73)) = .ok (.slice A (k + 1) c') w6 ∧
      Blk w6 T 47 #[.slice fa s.fs.length fc, .int .i64 s.q, V] ∧
      CpI w (w6.setCell ⟨T, 2, none⟩ (.slice A (k + 1) c')) G R T d s fa fc (k + 1) (.slice A (k + 1) c') (L ++ [(.slice a (s.rs.getD k r0).when_.length c, (s.rs.getD k r0).ask, (s.rs.getD k r0).say)]) := by
  obtain ⟨A, c', w6, hr, h6, hg⟩ := h.rsO.push (.slice a (s.rs.getD k r0).when_.length c, (s.rs.getD k r0).ask, (s.rs.getD k r0).say) rfl (by rw [h.len]; omega) h.below.size
  rw [h.len] at hr h6
  have hBA : Below W.heap.size W (W.alloc (.cells #[.slice a (s.rs.getD k r0).when_.length c, .int .i64 (s.rs.getD k r0).ask, .int .i64 (s.rs.getD k r0).say] 73)) := (Below.refl _ _).alloc (Nat.le_refl _) _
  have h5 := h.ext hBA
  have ho5 := ho.ext hBA
  dsimp only at hg hr
  have kx6 : KX (W.alloc (.cells #[.slice a (s.rs.getD k r0).when_.length c, .int .i64 (s.rs.getD k r0).ask, .int .i64 (s.rs.getD k r0).say] 73)) w6 T V.ownBlock := (KX.refl _ _ _).grown hg
  have kx7 := kx6.set 2 (.slice A (k + 1) c')
  have nT := own_blk_ne h5.rsO h5.blk (by decide)
  have nG := own_blk_ne h5.rsO h5.blkG (by decide)
  have nR := own_blk_ne h5.rsO h5.blkR (by decide)
  have b6 : Blk w6 T 47 #[.slice fa s.fs.length fc, .int .i64 s.q, V] := h5.blk.grown hg (fun e => nT e.symm)
  refine ⟨A, c', w6, hr, b6, ⟨?_, h.loG, h.loR, h.lo, h.neG, h.neR, blk_kx h5.blkG kx7 h.neG (fun e => nG e.symm), blk_kx h5.blkR kx7 h.neR (fun e => nR e.symm), ?_, ?_, ?_, ?_, fun j hj => ?_⟩⟩
  · exact (h5.below.grown hg h5.below.size (fun j hj => (World.ownsRow.lt h5.rsO j hj).1)).setCell h.lo _
  · exact b6.set_ 2 _
  · exact own_kx h5.fsO kx7 (own_blk_ne h5.fsO h5.blk (by decide)) (own_own_ne h5.fsO h5.rsO (by decide))
  · have kx8 : KX w6 (w6.setCell ⟨T, 2, none⟩ (.slice A (k + 1) c')) T none := (KX.refl w6 T none).set 2 _
    exact own_kx h6 kx8 (own_blk_ne h6 b6 (by decide)) none_or
  · rw [List.length_append, h.len]; rfl
  · by_cases e : j = k
    · subst e
      refine ⟨a, c, ?_, own_kx ho5 kx7 (own_blk_ne ho5 h5.blk (by decide)) (own_own_ne ho5 h5.rsO (by decide))⟩
      rw [List.getD_eq_getElem?_getD, List.getElem?_append_right (by rw [h.len]; exact Nat.le_refl _), h.len, Nat.sub_self]
      rfl
    · obtain ⟨a1, c1, e1, o1⟩ := h5.rl j (by omega)
      refine ⟨a1, c1, ?_, own_kx o1 kx7 (own_blk_ne o1 h5.blk (by decide)) (own_own_ne o1 h5.rsO (by decide))⟩
      rw [← e1, List.getD_eq_getElem?_getD, List.getElem?_append_left (by rw [h.len]; omega), List.getD_eq_getElem?_getD]
/-- what is copied is read as the same school -/
theorem CpI.read (h : CpI w W G R T d s fa fc s.rs.length V L) (w' : World) (hk : KX W w' R none) : ∃ d', V = .slice d'.ra s.rs.length d'.rc ∧ d'.fa = fa ∧ d'.fc = fc ∧ ScR w' w'.heap.size d' s := by
  obtain ⟨A, c, hV⟩ := own_shape h.rsO
  rw [h.len] at hV
  subst hV
  have hc : ∀ j, ∃ ac : Option Addr × Nat, j < s.rs.length → L.getD j r30 = (.slice ac.1 (s.rs.getD j r0).when_.length ac.2, (s.rs.getD j r0).ask, (s.rs.getD j r0).say) ∧ OwnQ W w.heap.size (.slice ac.1 (s.rs.getD j r0).when_.length ac.2) (s.rs.getD j r0).when_ := fun j => by
    by_cases hj : j < s.rs.length
    · obtain ⟨a, c, h1, h2⟩ := h.rl j hj
      exact ⟨(a, c), fun _ => ⟨h1, h2⟩⟩
    · exact ⟨(none, 0), fun h => absurd h hj⟩
  obtain ⟨f, hf⟩ := Classical.axiomOfChoice hc
  refine ⟨⟨fa, fc, A, c, fun j => (f j).1, fun j => (f j).2⟩, rfl, rfl, rfl, ?_⟩
  have o1 := own_kx h.fsO hk (own_blk_ne h.fsO h.blkR (by decide)) none_or
  have o2 := own_kx h.rsO hk (own_blk_ne h.rsO h.blkR (by decide)) none_or
  refine ⟨(OwnJ.li o1).2, ⟨?_, fun k hk2 => ?_⟩⟩
  · have h3 := (Own3.row o2).2
    rw [h.len] at h3
    intro hn
    obtain ⟨b, off, hA, hb, hc⟩ := h3 hn
    refine ⟨b, off, hA, hb, fun k i hk1 hi => ?_⟩
    rw [hc k i hk1 hi]
    show some (r3V (L.getD k r30) i) = some (rlV (s.rs.getD k r0) (f k).1 (f k).2 i)
    rw [(hf k hk1).1]
    rcases (by omega : i = 0 ∨ i = 1 ∨ i = 2) with rfl | rfl | rfl <;> rfl
  · have o3 := (hf k hk2).2
    exact (OwnQ.tsR (own_kx o3 hk (own_blk_ne o3 h.blkR (by decide)) none_or)).2
end
def CpPost (w : World) (s : Sch) (e : Ending) (w' : World) : Prop :=
  ∃ d', e = .returned (scV d' s) ∧ ScR w' w'.heap.size d' s ∧ Below w.heap.size w w'
end Go.Proofs.YtmpegkojencbjaaDoor
/- School: the law's copied, walked. -/
namespace Go.Proofs.YtmpegkojencbjaaDoor
open List renaming getElem_toArray → glA, getElem_cons_zero → glB, getElem_cons_succ → glC, setIfInBounds_toArray → glD, set_cons_zero → glE, set_cons_succ → glF
open Go Go.RowKit Go.Shelf
set_option maxHeartbeats 8000000
set_option maxRecDepth 100000
theorem OwnJ.low2 {W : World} {n0 n1 : Nat} {v : Value} {l : List Int} (h : OwnJ W n0 v l) (hb : n1 ≤ n0) : OwnJ W n1 v l := ⟨h.1, h.2.imp id fun ⟨g, cap, cur, h1, h2, h3⟩ => ⟨g, cap, cur, h1, Nat.le_trans hb h2, h3⟩⟩
theorem OwnQ.low {W : World} {n0 n1 : Nat} {v : Value} {l : List (Int × Int)} (h : OwnQ W n0 v l) (hb : n1 ≤ n0) : OwnQ W n1 v l := ⟨h.1, h.2.imp id fun ⟨g, cap, cur, h1, h2, h3⟩ => ⟨g, cap, cur, h1, Nat.le_trans hb h2, h3⟩⟩
theorem copied_any (d : Ad_) (s : Sch) (w : World) (hd : ScR w w.heap.size d s) (h1 : s.fs.length ≤ 1000) (h2 : s.rs.length ≤ 1000) (h3 : ∀ r ∈ s.rs, r.when_.length ≤ 1000) :
    Calls Tryd.prog 31 #[scV d s] w (CpPost w s) := by
  have HD := hide hd
  have HT := hide h3
  obtain ⟨nf, hf⟩ : ∃ n, s.fs.length = n := ⟨_, rfl⟩
  obtain ⟨nr, hr⟩ : ∃ n, s.rs.length = n := ⟨_, rfl⟩
  obtain ⟨Q, hQ⟩ : ∃ n, s.q = n := ⟨_, rfl⟩
  have HN := hide (And.intro hf (And.intro hr hQ))
  have HNU : Hid (∀ W, Below w.heap.size w W → Calls Tryd.prog 24 #[.slice d.fa nf d.fc] W fun e w' => ∃ v, e = .returned v ∧ OwnJ w' W.heap.size v s.fs ∧ Below W.heap.size W w') := hide fun W h => by
    have := numbers_any d.fa d.fc s.fs W (by omega) (hd.below h).fs
    rwa [hf] at this
  unfold scV
  rw [hf, hr, hQ]
  rw [hf] at h1
  rw [hr] at h2
  have G1 := (Blk.new w 47 #[.slice d.fa nf d.fc, .int .i64 Q, .slice d.ra nr d.rc]).alloc (.cells #[.slice none 0 0, .int .i64 0, .slice none 0 0] 47)
  have R1 : Blk ((w.alloc (.cells #[.slice d.fa nf d.fc, .int .i64 Q, .slice d.ra nr d.rc] 47)).alloc (.cells #[.slice none 0 0, .int .i64 0, .slice none 0 0] 47)) (w.heap.size + 1) 47 #[.slice none 0 0, .int .i64 0, .slice none 0 0] := by simpa using Blk.new (w.alloc (.cells #[.slice d.fa nf d.fc, .int .i64 Q, .slice d.ra nr d.rc] 47)) 47 #[.slice none 0 0, .int .i64 0, .slice none 0 0]
  have B2 : Hid (Below w.heap.size w ((w.alloc (.cells #[.slice d.fa nf d.fc, .int .i64 Q, .slice d.ra nr d.rc] 47)).alloc (.cells #[.slice none 0 0, .int .i64 0, .slice none 0 0] 47))) := hide (((Below.refl _ _).alloc (Nat.le_refl _) _).alloc (by simp) _)
  have HSZ : Hid (((w.alloc (.cells #[.slice d.fa nf d.fc, .int .i64 Q, .slice d.ra nr d.rc] 47)).alloc (.cells #[.slice none 0 0, .int .i64 0, .slice none 0 0] 47)).heap.size = w.heap.size + 2) := hide (by simp)
  clear hd hf hr hQ h3
  unfold CpPost
  go_enter Tryd.func31, Tryd.ntmps31
  go_upto_region 1 with fail
  generalize ((w.alloc (.cells #[.slice d.fa nf d.fc, .int .i64 Q, .slice d.ra nr d.rc] 47)).alloc (.cells #[.slice none 0 0, .int .i64 0, .slice none 0 0] 47)) = w2 at B2 G1 R1 HSZ ⊢
  obtain ⟨G, hG⟩ : ∃ x, w.heap.size = x := ⟨_, rfl⟩
  have HG := hide hG
  rw [hG] at G1 R1 ⊢
  have HG1 := hide G1
  have HR1 := hide R1
  clear hG G1 R1
  go_cut [3] (fun v w' => ∃ T fa fc, v = .pointer (some ⟨T, 0, none⟩) ∧ Hid (CpI w w' G (G + 1) T d s fa fc 0 (.slice none 0 0) []))
  case first =>
   as_aux_lemma =>
    have Bd := hide (B2.out.trans ((Below.refl w2.heap.size w2).drew.mono B2.out.size))
    have Gd := hide (HG1.out.ext (Below.refl w2.heap.size w2).drew)
    have Rd := hide (HR1.out.ext (Below.refl w2.heap.size w2).drew)
    have HSd : Hid (w2.drew.heap.size = w.heap.size + 2) := hide HSZ.out
    refine wp_region_J (fun W : World => (W.cell? ⟨G, 0, none⟩ = some (.slice d.fa nf d.fc) ∧ W.cell? ⟨G, 1, none⟩ = some (.int .i64 Q))) (by kernel_rfl) ?_
    generalize w2.drew = wd at Bd Gd Rd HSd ⊢
    clear B2 HG1 HR1 HSZ
    have HC : Hid (∀ W, Below wd.heap.size wd W → (W.cell? ⟨G, 0, none⟩ = some (.slice d.fa nf d.fc) ∧ W.cell? ⟨G, 1, none⟩ = some (.int .i64 Q))) := hide fun W h => by
      obtain ⟨-, q0, q1, q2, -⟩ := blk3 (Gd.out.ext h)
      exact ⟨q0, q1⟩
    refine wpAnyJ_take 0 (v := ?_) (by first | exact hF | exact wideFn) (HC.out _ (Below.refl _ _)) rfl (by kernel_rfl) (by kernel_rfl) (by kernel_rfl) (by kernel_rfl) rfl ?_ (by first | exact fun _ _ _ h => h | exact fun _ _ _ h => hQ2 _ _ _ _ _ h) ?_
    rotate_left
    · intro W hSW
      simp only [glA, glB, glC]
      (try dsimp only at hSW)
      go_simp
      with_reducible rfl
    (try simp only [glA, glB, glC, Act.put, glD, glE, glF])
    refine wpAnyJ_take 1 (v := ?_) (by first | exact hF | exact wideFn) (HC.out _ (Below.refl _ _)) rfl (by kernel_rfl) (by kernel_rfl) (by kernel_rfl) (by kernel_rfl) rfl ?_ (by first | exact fun _ _ _ h => h | exact fun _ _ _ h => hQ2 _ _ _ _ _ h) ?_
    rotate_left
    · intro W hSW
      simp only [glA, glB, glC]
      (try dsimp only at hSW)
      go_simp
      with_reducible rfl
    (try simp only [glA, glB, glC, Act.put, glD, glE, glF])
    refine wpAnyJ_take 3 (v := ?_) (by first | exact hF | exact wideFn) (HC.out _ (Below.refl _ _)) rfl (by kernel_rfl) (by kernel_rfl) (by kernel_rfl) (by kernel_rfl) rfl ?_ (by first | exact fun _ _ _ h => h | exact fun _ _ _ h => hQ2 _ _ _ _ _ h) ?_
    rotate_left
    · intro W hSW
      simp only [glA, glB, glC]
      (try dsimp only at hSW)
      go_simp
      with_reducible rfl
    (try simp only [glA, glB, glC, Act.put, glD, glE, glF])
    refine wpAnyJ_take 4 (v := ?_) (by first | exact hF | exact wideFn) (HC.out _ (Below.refl _ _)) rfl (by kernel_rfl) (by kernel_rfl) (by kernel_rfl) (by kernel_rfl) rfl ?_ (by first | exact fun _ _ _ h => h | exact fun _ _ _ h => hQ2 _ _ _ _ _ h) ?_
    rotate_left
    · intro W hSW
      simp only [glA, glB, glC]
      (try dsimp only at hSW)
      go_simp
      with_reducible rfl
    (try simp only [glA, glB, glC, Act.put, glD, glE, glF])
    refine wpAnyJ_two 2 6 rfl rfl (by kernel_rfl) (fun K hK => ?_) (fun K hK => ?_)
    · simp only [glA, glB, glC]
      go_simp
      refine ⟨trivial, rfl, ?_⟩
      refine (callsIn_wide.2 (HNU.out wd Bd.out)).mono ?_
      rintro e w3 ⟨v, rfl, ho, hb3⟩
      obtain ⟨A', c', rfl⟩ := own_shape ho
      dsimp only
      refine hK.out _ _ (fun _ => HC.out _ hb3) ?_
      clear hK K
      (try simp only [glA, glB, glC, Act.put, glD, glE, glF])
      rw [HN.out.1]
      have hf := HN.out.1
      refine wpAnyJ_take 5 (v := ?_) (by first | exact hF | exact wideFn) (HC.out _ hb3) rfl (by kernel_rfl) (by kernel_rfl) (by kernel_rfl) (by kernel_rfl) rfl ?_ (by first | exact fun _ _ _ h => h | exact fun _ _ _ h => hQ2 _ _ _ _ _ h) ?_
      rotate_left
      · intro W hSW
        simp only [glA, glB, glC]
        (try dsimp only at hSW)
        go_simp
        with_reducible rfl
      (try simp only [glA, glB, glC, Act.put, glD, glE, glF])
      refine wpAnyJ_one 6 rfl (by kernel_rfl) (fun K hK => ?_)
      simp only [glA, glB, glC]
      go_simp
      refine hK.out _ _ (fun _ => HC.out _ (hb3.alloc hb3.size _)) ?_
      clear hK K
      (try simp only [glA, glB, glC, Act.put, glD, glE, glF])
      refine wpAnyJ_one 7 rfl (by kernel_rfl) (fun K hK => ?_)
      simp only [glA, glB, glC]
      go_simp
      refine hK.out _ _ (fun _ => HC.out _ (hb3.alloc hb3.size _)) ?_
      clear hK K
      (try simp only [glA, glB, glC, Act.put, glD, glE, glF])
      refine wpAnyJ_done (by kernel_rfl) ?_
      go_wp2_with fail
      go_meet
      refine ⟨w3.heap.size, A', c', rfl, hide ?_⟩
      have z1 := HSd.out
      have z2 := hb3.size
      have z3 := HG.out
      refine ⟨(Bd.out.trans (hb3.mono Bd.out.size)).alloc (Nat.le_trans Bd.out.size hb3.size) _, Nat.le_of_eq HG.out, by omega, by omega, by omega, by omega, ?_, (Rd.out.ext hb3).alloc _, ?_, ?_, Own3.nil _ _, rfl, fun j hj => absurd hj (by omega)⟩
      · rw [HN.out.1, HN.out.2.1, HN.out.2.2]; exact (Gd.out.ext hb3).alloc _
      · rw [HN.out.1, HN.out.2.2]; exact Blk.new _ _ _
      · exact (ho.low2 Bd.out.size).ext ((Below.refl _ _).alloc (Nat.le_refl _) _)
    · simp only [glA, glB, glC]
      go_simp
      refine hK.out _ _ (fun _ => (HC.out _ ((Below.refl _ _).alloc (Nat.le_refl _) _))) ?_
      clear hK K
      (try simp only [glA, glB, glC, Act.put, glD, glE, glF])
      have Bz : Hid (Below wd.heap.size wd (wd.alloc (.cells #[.slice none 0 0, .int .i64 0, .slice none 0 0] 47))) := hide ((Below.refl _ _).alloc (Nat.le_refl _) _)
      have T1 := hide (Blk.new wd 47 #[.slice none 0 0, .int .i64 0, .slice none 0 0])
      have HSa : Hid ((wd.alloc (.cells #[.slice none 0 0, .int .i64 0, .slice none 0 0] 47)).heap.size = wd.heap.size + 1) := hide (by simp)
      obtain ⟨T, hT⟩ : ∃ x, wd.heap.size = x := ⟨_, rfl⟩
      have HTT := hide hT
      rw [hT] at T1 ⊢
      clear hT
      generalize (wd.alloc (.cells #[.slice none 0 0, .int .i64 0, .slice none 0 0] 47)) = wa at Bz T1 HSa ⊢
      refine wpAnyJ_one 2 rfl (by kernel_rfl) (fun K hK => ?_)
      simp only [glA, glB, glC]
      go_simp
      refine ⟨trivial, rfl, ?_⟩
      refine (callsIn_wide.2 (HNU.out wa (Bd.out.trans (Bz.out.mono Bd.out.size)))).mono ?_
      rintro e w3 ⟨v, rfl, ho, hb3⟩
      obtain ⟨A', c', rfl⟩ := own_shape ho
      dsimp only
      refine hK.out _ _ (fun _ => HC.out _ (Bz.out.trans (hb3.mono Bz.out.size))) ?_
      clear hK K
      (try simp only [glA, glB, glC, Act.put, glD, glE, glF])
      rw [HN.out.1]
      refine wpAnyJ_take 5 (v := ?_) (by first | exact hF | exact wideFn) (HC.out _ (Bz.out.trans (hb3.mono Bz.out.size))) rfl (by kernel_rfl) (by kernel_rfl) (by kernel_rfl) (by kernel_rfl) rfl ?_ (by first | exact fun _ _ _ h => h | exact fun _ _ _ h => hQ2 _ _ _ _ _ h) ?_
      rotate_left
      · intro W hSW
        simp only [glA, glB, glC]
        (try dsimp only at hSW)
        go_simp
        with_reducible rfl
      (try simp only [glA, glB, glC, Act.put, glD, glE, glF])
      obtain ⟨y9, y0, y1, y2, -⟩ := blk3 (T1.out.ext hb3)
      have yf0 := (T1.out.ext hb3).frozen 0
      have yf1 := (T1.out.ext hb3).frozen 1
      have yf2 := (T1.out.ext hb3).frozen 2
      have z1 := HSd.out
      have z2 := hb3.size
      have z3 := HG.out
      have z4 := HTT.out
      have z5 := HSa.out
      have hbS : Below wd.heap.size wd (((w3.setCell ⟨T, 0, none⟩ (.slice A' nf c')).setCell ⟨T, 1, none⟩ (.int .i64 Q)).setCell ⟨T, 2, none⟩ (.slice none 0 0)) := (((Bz.out.trans (hb3.mono Bz.out.size)).setCell (p := ⟨T, 0, none⟩) (by show wd.heap.size ≤ T; omega) _).setCell (p := ⟨T, 1, none⟩) (by show wd.heap.size ≤ T; omega) _).setCell (p := ⟨T, 2, none⟩) (by show wd.heap.size ≤ T; omega) _
      have HBS := hide hbS
      clear hbS z1 z2 z3 z4 z5
      refine wpAnyJ_one 7 rfl (by kernel_rfl) (fun K hK => ?_)
      simp only [glA, glB, glC]
      go_simp
      refine hK.out _ _ (fun _ => HC.out _ HBS.out) ?_
      clear hK K
      (try simp only [glA, glB, glC, Act.put, glD, glE, glF])
      refine wpAnyJ_done (by kernel_rfl) ?_
      go_wp2_with fail
      go_meet
      have z1 := HSd.out
      have z2 := hb3.size
      have z3 := HG.out
      have z4 := HTT.out
      have z5 := HSa.out
      refine ⟨T, A', c', rfl, hide ?_⟩
      refine ⟨Bd.out.trans (HBS.out.mono Bd.out.size), Nat.le_of_eq HG.out, by omega, by omega, by omega, by omega, ?_, ?_, ?_, ?_, Own3.nil _ _, rfl, fun j hj => absurd hj (by omega)⟩
      · rw [HN.out.1, HN.out.2.1, HN.out.2.2]; exact Gd.out.below HBS.out Gd.out.lt
      · exact Rd.out.below HBS.out Rd.out.lt
      · rw [HN.out.1, HN.out.2.2]; exact (T1.out.ext hb3).set3 _ _ _
      · have hlo : T < wa.heap.size := by omega
        rw [← HN.out.1]
        exact OwnJ.low2 (ownsRow_setCell_below (ownsRow_setCell_below (ownsRow_setCell_below ho (a := ⟨T, 0, none⟩) hlo _) (a := ⟨T, 1, none⟩) hlo _) (a := ⟨T, 2, none⟩) hlo _) (by omega)
  obtain ⟨T, fa, fc, rfl, HI⟩ := hcut
  clear B2 HG1 HR1 HSZ HNU
  go_wp2_with fail
  go_loopw [4] (fun i wr => ∃ (k : Nat) (V : Value) (L : List R3), k ≤ nr ∧ i = .int .i64 k ∧ Hid (CpI w wr G (G + 1) T d s fa fc k V L)) (fun i _ => nr - (intOf i).toNat)
  case atStart => exact ⟨0, _, _, Nat.zero_le _, rfl, HI⟩
  case round =>
    obtain ⟨k, V, L, hk, rfl, HK⟩ := hrel
    clear HI
    have hgb := HK.out.blkG
    rw [HN.out.1, HN.out.2.1, HN.out.2.2] at hgb
    obtain ⟨q9, q0, q1, q2, -⟩ := blk3 hgb
    clear hgb
    by_cases hlt : k < nr
    · -- BEGIN2
      have hlt' : (k : Int) < (nr : Int) := by omega
      have k0 : (0 : Int) ≤ (k : Int) := by omega
      have hst : IntKind.i64.wrap ((k : Int) + 1) = ((k + 1 : Nat) : Int) := by rw [IntWalk.i64_in _ (by omega)]; omega
      have hkl : k < s.rs.length := by rw [HN.out.2.1]; exact hlt
      obtain ⟨x, hx⟩ : ∃ x, s.rs.getD k r0 = x := ⟨_, rfl⟩
      have htl : x.when_.length ≤ 1000 := HT.out x (by rw [← hx, List.getD_eq_getElem?_getD, List.getElem?_eq_getElem hkl]; exact List.getElem_mem _)
      have htr := HD.out.rs.tests k hkl
      rw [hx] at htr
      obtain ⟨b, off, hra, hb, a0, a1, a2⟩ := HD.out.rs.at_ hkl hx
      rw [hra] at q2 ⊢
      have c0 := (HK.out.below.cell (p := ⟨b, off + k * 3, none⟩) hb).trans a0
      have c1 := (HK.out.below.cell (p := ⟨b, off + k * 3 + 1, none⟩) hb).trans a1
      have c2 := (HK.out.below.cell (p := ⟨b, off + k * 3 + 2, none⟩) hb).trans a2
      have HXX := hide hx
      have HTR := hide htr
      obtain ⟨ta, hta⟩ : ∃ y, d.ta k = y := ⟨_, rfl⟩
      obtain ⟨tc, htc⟩ : ∃ y, d.tc k = y := ⟨_, rfl⟩
      rw [hta] at HTR
      rw [hta, htc] at c0
      obtain ⟨tn, htn⟩ : ∃ y, x.when_.length = y := ⟨_, rfl⟩
      obtain ⟨ask, hask⟩ : ∃ y, x.ask = y := ⟨_, rfl⟩
      obtain ⟨say, hsay⟩ : ∃ y, x.say = y := ⟨_, rfl⟩
      rw [htn] at c0
      rw [hask] at c1
      rw [hsay] at c2
      have HV := hide (And.intro htn (And.intro hask hsay))
      clear hx htr a0 a1 a2 hta htc htn hask hsay
      go_upto_region 6 with fail
      have HB1 : Hid (Below wr.heap.size wr (wr.alloc (.cells #[.slice ta tn tc, .int .i64 ask, .int .i64 say] 73))) := hide ((Below.refl _ _).alloc (Nat.le_refl _) _)
      have E1 := hide (Blk.new wr 73 #[.slice ta tn tc, .int .i64 ask, .int .i64 say])
      have HZ1 : Hid ((wr.alloc (.cells #[.slice ta tn tc, .int .i64 ask, .int .i64 say] 73)).heap.size = wr.heap.size + 1) := hide (by simp)
      obtain ⟨g, hg⟩ : ∃ x, wr.heap.size = x := ⟨_, rfl⟩
      have HGG := hide hg
      rw [hg] at E1 ⊢
      clear hg c0 c1 c2 q9 q0 q1 q2
      generalize (wr.alloc (.cells #[.slice ta tn tc, .int .i64 ask, .int .i64 say] 73)) = w1 at HB1 E1 HZ1 ⊢
      go_cut [27] (fun v w' => ∃ A1 c1, Hid (CpI w w' G (G + 1) T d s fa fc k V L) ∧ Hid (Blk w' g 73 #[.slice A1 tn c1, .int .i64 ask, .int .i64 say]) ∧ Hid (OwnQ w' w.heap.size (.slice A1 tn c1) x.when_))
      case first =>
       as_aux_lemma =>
        have hBA : Below w1.heap.size w1 (w1.alloc (.cells #[] 76)) := (Below.refl _ _).alloc (Nat.le_refl _) _
        have hbw : Below w.heap.size w w1 := HK.out.below.trans (HB1.out.mono HK.out.below.size)
        obtain ⟨v', w3, hrun, ho, hgr⟩ := (OwnQ.made0 w1).pushes ta tc x.when_ ((ER.below HTR.out (hbw.trans (hBA.mono hbw.size)) (Nat.le_refl _)).more (Nat.le_trans hbw.size hBA.size)) (by simp; omega) hBA.size
        rw [List.nil_append] at ho
        rw [HV.out.1] at hrun
        obtain ⟨A1, c1, hv⟩ := own_shape ho
        rw [HV.out.1] at hv
        subst hv
        have hb3 : Below w1.heap.size w1 w3 := hBA.grown hgr hBA.size (fun k hk => (World.ownsRow.lt (OwnQ.made0 w1) k hk).1)
        have E3 := hide (E1.out.ext hb3)
        have HRUN := hide hrun
        have HO := hide ho
        have HB3 := hide (HB1.out.trans (hb3.mono HB1.out.size))
        obtain ⟨f1, f2, f3, f4, f5⟩ := blk3 E1.out
        obtain ⟨e1, e2, e3, e4, e5⟩ := blk3 E3.out
        have ef := E3.out.frozen 0
        clear hrun ho hgr hb3 hBA hbw e5 f5
        go_wp2_with (at_builtin; refine wpList_append_run rfl (.tmp 24) (.tmp 26) 71 rfl rfl rfl HRUN.out ?_)
        go_meet
        have z1 := HZ1.out
        have z2 := HGG.out
        have hbs : Below wr.heap.size wr (w3.setCell ⟨g, 0, none⟩ (.slice A1 tn c1)) := HB3.out.setCell (p := ⟨g, 0, none⟩) (by show wr.heap.size ≤ g; omega) _
        refine ⟨A1, c1, hide (HK.out.ext hbs), hide (E3.out.set_ 0 _), hide ?_⟩
        have := ownsRow_setCell_below HO.out (a := ⟨g, 0, none⟩) (show g < w1.heap.size by omega) (.slice A1 tn c1)
        exact OwnQ.low this (by have := HK.out.below.size; omega)
      obtain ⟨A1, c1, HI2, HE2, HO2⟩ := hcut
      clear HB1 E1 HZ1 HK HGG
      obtain ⟨AV, cV, hV⟩ := own_shape HI2.out.rsO
      rw [HI2.out.len] at hV
      subst hV
      obtain ⟨A', c', w6, hrun, hb6, hput⟩ := HI2.out.put A1 c1 (by omega) (by rw [HXX.out, HV.out.1]; exact HO2.out)
      rw [HXX.out, HV.out.1, HV.out.2.1, HV.out.2.2] at hrun
      have htb := HI2.out.blk
      rw [HN.out.1, HN.out.2.2] at htb
      obtain ⟨t1, t2, t3, t4, t5⟩ := blk3 htb
      obtain ⟨e1, e2, e3, e4, e5⟩ := blk3 HE2.out
      rw [HN.out.1, HN.out.2.2] at hb6
      obtain ⟨f1, f2, f3, f4, f5⟩ := blk3 hb6
      have ff := hb6.frozen 2
      have HRUN := hide hrun
      have HPUT := hide hput
      clear hrun hput htb hb6 t5 e5 f5 HI2 HE2 HO2
      go_wp2_with (at_builtin; refine wpList_append_run rfl (.tmp 30) (.tmp 32) 45 rfl rfl rfl HRUN.out ?_)
      go_roundw
      case rel => exact ⟨k + 1, _, _, by omega, by go_num, HPUT⟩
      case measure => simp [intOf]; omega
      -- END2
    · obtain rfl : k = nr := by omega
      have hnl : ¬ (k : Int) < (k : Int) := by omega
      obtain ⟨AV, cV, hV⟩ := own_shape HK.out.rsO
      rw [HK.out.len] at hV
      subst hV
      have htb := HK.out.blk
      rw [HN.out.1, HN.out.2.2] at htb
      obtain ⟨t1, t2, t3, t4, -⟩ := blk3 htb
      obtain ⟨r1, r2, r3, r4, -⟩ := blk3 HK.out.blkR
      have rf0 := HK.out.blkR.frozen 0
      have rf1 := HK.out.blkR.frozen 1
      have rf2 := HK.out.blkR.frozen 2
      clear htb
      go_wp2_with fail
      have hw8 := HK.out.blkR.set3 (.slice fa nf fc) (.int .i64 Q) (.slice AV k cV)
      have kx : KX wr (((wr.setCell ⟨G + 1, 0, none⟩ (.slice fa nf fc)).setCell ⟨G + 1, 1, none⟩ (.int .i64 Q)).setCell ⟨G + 1, 2, none⟩ (.slice AV k cV)) (G + 1) none := (((KX.refl wr (G + 1) none).set 0 _).set 1 _).set 2 _
      have hbf : Below w.heap.size w (((wr.setCell ⟨G + 1, 0, none⟩ (.slice fa nf fc)).setCell ⟨G + 1, 1, none⟩ (.int .i64 Q)).setCell ⟨G + 1, 2, none⟩ (.slice AV k cV)) := ((HK.out.below.setCell (p := ⟨G + 1, 0, none⟩) HK.out.loR _).setCell (p := ⟨G + 1, 1, none⟩) HK.out.loR _).setCell (p := ⟨G + 1, 2, none⟩) HK.out.loR _
      have hk' : CpI w wr G (G + 1) T d s fa fc s.rs.length (.slice AV k cV) L := by rw [HN.out.2.1]; exact HK.out
      obtain ⟨d', hd1, hd2, hd3, hd4⟩ := hk'.read _ kx
      injection hd1 with z1 z2 z3
      have hv : scV d' s = .agg #[.slice fa nf fc, .int .i64 Q, .slice AV k cV] := by
        unfold scV
        rw [hd2, hd3, HN.out.1, HN.out.2.1, HN.out.2.2, z1, z3]
      generalize (((wr.setCell ⟨G + 1, 0, none⟩ (.slice fa nf fc)).setCell ⟨G + 1, 1, none⟩ (.int .i64 Q)).setCell ⟨G + 1, 2, none⟩ (.slice AV k cV)) = w8 at hw8 hbf hd4 ⊢
      obtain ⟨-, q0', q1', q2', -⟩ := blk3 hw8
      refine bodyPost_ret (v := .agg #[.slice fa nf fc, .int .i64 Q, .slice AV k cV]) (by simp [results, Tryd.results31, go_sem, q0', q1', q2']) rfl ⟨d', by rw [hv], hd4, hbf⟩
end Go.Proofs.YtmpegkojencbjaaDoor
/- School: the reference's Decide. -/
namespace Go.Proofs.YtmpegkojencbjaaDoor
open List renaming getElem_toArray → glA, getElem_cons_zero → glB, getElem_cons_succ → glC, setIfInBounds_toArray → glD, set_cons_zero → glE, set_cons_succ → glF
open Go Go.RowKit Go.Shelf
set_option maxHeartbeats 16000000
set_option maxRecDepth 100000
/-- rules that are asked, apply, and are not beaten -/
def byQ (s : Sch) (c : List Int) (q : Int) (i : Nat) : Bool := asB s c q i && tpF (fun k => ((s.rs.getD k r0).ask == q) && (spP s k i && apB (s.rs.getD k r0) c)) s.rs.length
theorem apF_succ (Q : Nat → Bool) (n : Nat) : apF Q (n + 1) = if Q n then apF Q n ++ [(n : Int)] else apF Q n := rfl
theorem dcF_nil {s : Sch} {st : Nat → Nat → Nat} {c : List Int} {q : Int} {l : List Int} (e : dcB s st c q = l) (h : l.length = 0) : dcF s st c q = (0, 7, []) := by
  unfold dcF
  rw [e, if_pos h]
theorem dcF_clash {s : Sch} {st : Nat → Nat → Nat} {c : List Int} {q : Int} {l : List Int} (e : dcB s st c q = l) {k : Nat} (hk : k < l.length) (h : sayF s (l.getD k 0) ≠ sayF s (l.getD 0 0)) : dcF s st c q = (0, 110, []) := by
  unfold dcF
  rw [e, if_neg (by omega), if_pos]
  refine clB_iff.2 ⟨_, ?_, h⟩
  rw [List.getD_eq_getElem?_getD, List.getElem?_eq_getElem hk]
  exact List.getElem_mem hk
theorem dcF_says {s : Sch} {st : Nat → Nat → Nat} {c : List Int} {q : Int} {l : List Int} (e : dcB s st c q = l) (hl : 0 < l.length) (h : ∀ k, k < l.length → sayF s (l.getD k 0) = sayF s (l.getD 0 0)) : dcF s st c q = (sayF s (l.getD 0 0), 0, l) := by
  unfold dcF
  rw [e, if_neg (by omega), if_neg]
  · rfl
  · intro h2
    obtain ⟨x, hx, h3⟩ := clB_iff.1 h2
    obtain ⟨k, hk, rfl⟩ := List.getElem_of_mem hx
    have := h k hk
    have e : l.getD k 0 = l[k] := by rw [List.getD_eq_getElem?_getD, List.getElem?_eq_getElem hk]; rfl
    rw [e] at this
    exact h3 this
theorem ownJ_cells {W : World} {base n c : Nat} {A : Option Addr} {l : List Int} (h : OwnJ W base (.slice A n c) l) (hl : l.length = n) (hn : 0 < n) :
    ∃ g, A = some ⟨g, 0, none⟩ ∧ g < W.heap.size ∧ ∀ j, j < n → W.cell? ⟨g, j, none⟩ = some (.int .i64 (l.getD j 0)) := by
  subst hl
  have key : ∀ j, j < l.length → ∃ g, A = some ⟨g, 0, none⟩ ∧ g < W.heap.size ∧ base ≤ g ∧ W.cell? ⟨g, j, none⟩ = some (.int .i64 (l.getD j 0)) := fun j hj => own_one h (by
    unfold intJ
    rw [List.getElem?_map, List.getD_eq_getElem?_getD, List.getElem?_eq_getElem hj]
    rfl)
  obtain ⟨g, h1, h2, -, -⟩ := key 0 hn
  refine ⟨g, h1, h2, fun j hj => ?_⟩
  obtain ⟨g', h3, -, -, h4⟩ := key j hj
  rw [h1] at h3
  injection h3 with h3
  injection h3 with h3
  rw [h3]
  exact h4
theorem refDecide_any (d : Ad_) (s : Sch) (TA A : Option Addr) (tc cc : Nat) (c : List Int) (q : Int) (w : World) (hd : ScR w w.heap.size d s) (hs : schB s = true) (hi : ScI s) (hc : icB s.fs c = true) (hA : LI w w.heap.size A c) (hT : ∃ b, TbB w b (.slice TA s.rs.length tc) s.rs.length s.rs.length (spP s)) :
    Calls Tryd.prog 36 #[scV d s, .slice TA s.rs.length tc, .slice A s.fs.length cc, .int .i64 q] w (DePost w (dcF s (stF s) c q)) := by
  have hok := schB_ok hs
  have HD := hide hd
  have HAP : Hid (∀ i, i < s.rs.length → ∀ W, Below w.heap.size w W → Calls Tryd.prog 67 #[.agg #[.slice (d.ta i) (s.rs.getD i r0).when_.length (d.tc i), .int .i64 (s.rs.getD i r0).ask, .int .i64 (s.rs.getD i r0).say], .slice A s.fs.length cc] W (fun e w' => e = .returned (.bool (apB (s.rs.getD i r0) c)) ∧ Below W.heap.size W w')) :=
    hide fun i hin W hB => ap_rule hd hs hi hin hc W hB A cc ((ER.below hA hB (Nat.le_refl _)).more hB.size)
  have HTB : Hid (∀ W, Below w.heap.size w W → ∃ b, TbB W b (.slice TA s.rs.length tc) s.rs.length s.rs.length (spP s)) := hide fun W h => by
    obtain ⟨b, h2⟩ := hT
    exact ⟨b, h2.ext h⟩
  have HBY : Hid (apF (byQ s c q) s.rs.length = dcB s (stF s) c q) := hide (by_eq hs hi hc q)
  obtain ⟨nf, hf⟩ : ∃ n, s.fs.length = n := ⟨_, rfl⟩
  obtain ⟨nr, hr⟩ : ∃ n, s.rs.length = n := ⟨_, rfl⟩
  obtain ⟨Q, hQ⟩ : ∃ n, s.q = n := ⟨_, rfl⟩
  obtain ⟨fa, hfa⟩ : ∃ x, d.fa = x := ⟨_, rfl⟩
  obtain ⟨ra, hra⟩ : ∃ x, d.ra = x := ⟨_, rfl⟩
  obtain ⟨R, hR⟩ : ∃ x, dcF s (stF s) c q = x := ⟨_, rfl⟩
  have HN := hide (And.intro hf hr)
  have HR := hide hR
  have hnr := hok.nr
  unfold scV
  rw [hf] at HAP
  rw [hf, hr, hQ, hfa, hra, hR]
  rw [hr] at hnr HAP HTB HBY
  have HRA := hide hra
  have HB0 := hide ((Below.refl w.heap.size w).alloc (Nat.le_refl _) (.cells #[.slice fa nf d.fc, .int .i64 Q, .slice ra nr d.rc] 47))
  have G1 := Blk.new w 47 #[.slice fa nf d.fc, .int .i64 Q, .slice ra nr d.rc]
  have HNP := hide (apF_len (byQ s c q))
  have HME : Hid (∀ n x, x ∈ apF (byQ s c q) n → ∃ k : Nat, x = (k : Int) ∧ k < n) := hide (fun n x hx => by
    obtain ⟨k, h1, h2, -⟩ := apF_mem _ n x hx
    exact ⟨k, h1, h2⟩)
  clear hd hf hr hQ hok hs hfa hra hi hc hA hT hR
  go_enter Tryd.func36, Tryd.ntmps36
  go_upto_region 1 with fail
  generalize (w.alloc (.cells #[.slice fa nf d.fc, .int .i64 Q, .slice ra nr d.rc] 47)) = w1 at HB0 G1 ⊢
  generalize w.heap.size = G at G1 ⊢
  have HG1 := hide G1
  clear G1
  go_upto_region 2 with fail
  have HO0 := hide (OwnJ.made0 w1)
  have HB2 : Hid (Below w1.heap.size w1 (w1.alloc (.cells #[] 3))) := hide ((Below.refl _ _).alloc (Nat.le_refl _) _)
  generalize (w1.alloc (.cells #[] 3)) = w2 at HO0 HB2 ⊢
  obtain ⟨O0, hO0⟩ : ∃ x, Value.slice (some ⟨w1.heap.size, 0, none⟩) 0 0 = x := ⟨_, rfl⟩
  rw [hO0] at HO0 ⊢
  clear hO0
  go_wp2_with fail
  go_loopw [11, 12] (fun v11 v12 wr => ∃ i : Nat, i ≤ nr ∧ v12 = .int .i64 i ∧ Hid (OwnJ wr w1.heap.size v11 (apF (byQ s c q) i)) ∧ Hid (Below w1.heap.size w1 wr)) (fun _ v12 _ => nr - (intOf v12).toNat)
  case atStart => exact ⟨0, Nat.zero_le _, rfl, HO0, HB2⟩
  case round =>
    obtain ⟨i, hin, rfl, HO, HB⟩ := hrel
    clear HO0 HB2
    obtain ⟨OA, oc, hv⟩ := own_shape HO.out
    subst hv
    obtain ⟨on, hon⟩ : ∃ n, (apF (byQ s c q) i).length = n := ⟨_, rfl⟩
    rw [hon] at HO ⊢
    have HON := hide hon
    have hon12 : on ≤ 12 := by have := HNP.out i; omega
    clear hon
    obtain ⟨-, -, -, g2, -⟩ := blk3 (HG1.out.ext HB.out)
    have HBG := hide (HB0.out.trans (HB.out.mono HB0.out.size))
    by_cases hlt : i < nr
    · -- BEGIN1
      have hlt' : (i : Int) < (nr : Int) := by omega
      have i0 : (0 : Int) ≤ (i : Int) := by omega
      have hsti : IntKind.i64.wrap ((i : Int) + 1) = ((i + 1 : Nat) : Int) := by rw [IntWalk.i64_in _ (by omega)]; omega
      have hi_ : i < s.rs.length := by rw [HN.out.2]; exact hlt
      obtain ⟨r1, hr1⟩ : ∃ r, s.rs.getD i r0 = r := ⟨_, rfl⟩
      obtain ⟨rb, ro, hra, hrb, a0, a1, a2⟩ := HD.out.rs.at_ hi_ hr1
      rw [HRA.out] at hra
      subst hra
      obtain ⟨ta1, hta1⟩ : ∃ x, d.ta i = x := ⟨_, rfl⟩
      obtain ⟨tc1, htc1⟩ : ∃ x, d.tc i = x := ⟨_, rfl⟩
      obtain ⟨nt1, hnt1⟩ : ∃ x, r1.when_.length = x := ⟨_, rfl⟩
      obtain ⟨as1, has1⟩ : ∃ x, r1.ask = x := ⟨_, rfl⟩
      obtain ⟨sa1, hsa1⟩ : ∃ x, r1.say = x := ⟨_, rfl⟩
      have HA1 := hide (HAP.out i hlt)
      rw [hr1, hta1, htc1, hnt1, has1, hsa1] at HA1
      rw [hta1, hnt1, htc1] at a0
      rw [has1] at a1
      rw [hsa1] at a2
      have c0 := (HBG.out.cell (p := ⟨rb, ro + i * 3, none⟩) hrb).trans a0
      have c1 := (HBG.out.cell (p := ⟨rb, ro + i * 3 + 1, none⟩) hrb).trans a1
      have c2 := (HBG.out.cell (p := ⟨rb, ro + i * 3 + 2, none⟩) hrb).trans a2
      have hasb : asB s c q i = ((as1 == q) && apB r1 c) := by unfold asB; rw [hr1, has1]
      obtain ⟨b1, hb1⟩ : ∃ x, apB r1 c = x := ⟨_, rfl⟩
      rw [hb1] at HA1 hasb
      have HAS := hide hasb
      have HRB := hide hrb
      clear hr1 hrb a0 a1 a2 hta1 htc1 hnt1 has1 hsa1 hi_ hasb hb1
      by_cases hq : as1 = q
      rotate_left
      · -- BEGIN7
        have e1 : (as1 == q) = false := by rw [beq_eq_false_iff_ne]; exact hq
        have hz : apF (byQ s c q) (i + 1) = apF (byQ s c q) i := by
          rw [apF_succ, if_neg]
          unfold byQ
          rw [HAS.out, e1]
          simp
        have HZ := hide hz
        clear hz HA1 e1
        go_wp2_with fail
        go_roundw
        case rel => exact ⟨i + 1, by omega, by go_num, by rw [HZ.out]; exact HO, HB⟩
        case measure => simp [intOf]; omega
        -- END7
      rw [show (as1 == q) = true from by rw [hq]; exact beq_self_eq_true _, Bool.true_and] at HAS
      obtain rfl : q = as1 := hq.symm
      rcases b1 with _ | _
      · -- BEGIN8
        have hz : apF (byQ s c q) (i + 1) = apF (byQ s c q) i := by
          rw [apF_succ, if_neg]
          unfold byQ
          rw [HAS.out]
          simp
        have HZ := hide hz
        clear hz
        go_wp2_with fail
        refine (HA1.out wr HBG.out).mono ?_
        rintro e w5 ⟨rfl, hb5⟩
        have HB5 := hide (HB.out.trans (hb5.mono HB.out.size))
        have HO5 := hide (OwnJ.ext HO.out hb5)
        clear hb5
        go_wp2_with fail
        go_roundw
        case rel => exact ⟨i + 1, by omega, by go_num, by rw [HZ.out]; exact HO5, HB5⟩
        case measure => simp [intOf]; omega
        -- END8
      -- BEGIN9
      go_wp2_with fail
      refine (HA1.out wr HBG.out).mono ?_
      rintro e w5 ⟨rfl, hb5⟩
      have HB5 := hide (HB.out.trans (hb5.mono HB.out.size))
      have HO5 := hide (OwnJ.ext HO.out hb5)
      clear hb5 c0 c1 c2 g2 HBG HB HO HA1
      obtain ⟨tp, htp⟩ : ∃ f : Nat → Bool, (fun k => ((s.rs.getD k r0).ask == q) && (spP s k i && apB (s.rs.getD k r0) c)) = f := ⟨_, rfl⟩
      have HTP := hide htp
      have hby : byQ s c q i = tpF tp nr := by
        unfold byQ
        rw [HAS.out, htp, HN.out.2, Bool.true_and]
      have HBQ := hide hby
      have HT0 : Hid (tpF tp 0 = true) := hide rfl
      clear htp hby
      go_wp2_with fail
      go_loopw [13, 14] (fun v13 v14 wr => ∃ k : Nat, k ≤ nr ∧ v13 = .bool (tpF tp k) ∧ v14 = .int .i64 k ∧ Hid (OwnJ wr w1.heap.size (.slice OA on oc) (apF (byQ s c q) i)) ∧ Hid (Below w1.heap.size w1 wr)) (fun _ v14 _ => nr - (intOf v14).toNat)
      case atStart => exact ⟨0, Nat.zero_le _, by rw [HT0.out], rfl, HO5, HB5⟩
      case round =>
        obtain ⟨k, hk, rfl, rfl, HO, HB⟩ := hrel
        clear HO5 HB5
        obtain ⟨-, -, -, g2, -⟩ := blk3 (HG1.out.ext HB.out)
        have HBG := hide (HB0.out.trans (HB.out.mono HB0.out.size))
        obtain ⟨tk, htk⟩ : ∃ x, tpF tp k = x := ⟨_, rfl⟩
        have HTK := hide htk
        rw [htk]
        clear htk
        by_cases hkl : k < nr
        · -- BEGIN2
          have hkl' : (k : Int) < (nr : Int) := by omega
          have k0 : (0 : Int) ≤ (k : Int) := by omega
          have hstk : IntKind.i64.wrap ((k : Int) + 1) = ((k + 1 : Nat) : Int) := by rw [IntWalk.i64_in _ (by omega)]; omega
          rcases tk with _ | _
          · have HNX : Hid (tpF tp (k + 1) = false) := hide (by show (tpF tp k && _) = false; rw [HTK.out]; rfl)
            go_wp2_with fail
            go_roundw
            case rel => exact ⟨k + 1, by omega, by rw [HNX.out], by go_num, HO, HB⟩
            case measure => simp [intOf]; omega
          have hk_ : k < s.rs.length := by rw [HN.out.2]; exact hkl
          obtain ⟨r2, hr2⟩ : ∃ r, s.rs.getD k r0 = r := ⟨_, rfl⟩
          obtain ⟨rb', ro', hra, hrb, a0, a1, a2⟩ := HD.out.rs.at_ hk_ hr2
          rw [HRA.out] at hra
          injection hra with hra
          injection hra with z1 z2
          subst z1 z2
          obtain ⟨ta2, hta2⟩ : ∃ x, d.ta k = x := ⟨_, rfl⟩
          obtain ⟨tc2, htc2⟩ : ∃ x, d.tc k = x := ⟨_, rfl⟩
          obtain ⟨nt2, hnt2⟩ : ∃ x, r2.when_.length = x := ⟨_, rfl⟩
          obtain ⟨as2, has2⟩ : ∃ x, r2.ask = x := ⟨_, rfl⟩
          obtain ⟨sa2, hsa2⟩ : ∃ x, r2.say = x := ⟨_, rfl⟩
          have HA2 := hide (HAP.out k hkl)
          rw [hr2, hta2, htc2, hnt2, has2, hsa2] at HA2
          rw [hta2, hnt2, htc2] at a0
          rw [has2] at a1
          rw [hsa2] at a2
          have c0 := (HBG.out.cell (p := ⟨rb, ro + k * 3, none⟩) hrb).trans a0
          have c1 := (HBG.out.cell (p := ⟨rb, ro + k * 3 + 1, none⟩) hrb).trans a1
          have c2 := (HBG.out.cell (p := ⟨rb, ro + k * 3 + 2, none⟩) hrb).trans a2
          obtain ⟨b2, hb2⟩ : ∃ x, apB r2 c = x := ⟨_, rfl⟩
          obtain ⟨b, hTb⟩ := HTB.out wr HBG.out
          obtain ⟨tg, tr, tz, e1', e2, e3, e4, e5⟩ := hTb.at_ hkl hlt
          subst e1'
          obtain ⟨sp, hsp⟩ : ∃ x, spP s k i = x := ⟨_, rfl⟩
          rw [hsp] at e5
          have HNX : Hid (tpF tp (k + 1) = !((as2 == q) && (sp && b2))) := hide (by
            show (tpF tp k && !(tp k)) = _
            rw [HTK.out, ← HTP.out, Bool.true_and]
            dsimp only
            rw [hr2, has2, hsp, hb2])
          rw [hb2] at HA2
          clear hr2 hrb a0 a1 a2 hta2 htc2 hnt2 has2 hsa2 hk_ hsp hb2 hTb
          by_cases hq : as2 = q
          rotate_left
          · have e1 : (as2 == q) = false := by rw [beq_eq_false_iff_ne]; exact hq
            rw [e1] at HNX
            clear hq HA2
            go_wp2_with fail
            go_roundw
            case rel => exact ⟨k + 1, by omega, by rw [HNX.out]; rfl, by go_num, HO, HB⟩
            case measure => simp [intOf]; omega
          rw [show (as2 == q) = true from by rw [hq]; exact beq_self_eq_true _, Bool.true_and] at HNX
          obtain rfl : q = as2 := hq.symm
          rcases sp with _ | _
          · clear HA2
            go_wp2_with fail
            go_roundw
            case rel => exact ⟨k + 1, by omega, by rw [HNX.out]; rfl, by go_num, HO, HB⟩
            case measure => simp [intOf]; omega
          go_wp2_with fail
          refine (HA2.out wr HBG.out).mono ?_
          rintro e w6 ⟨rfl, hb6⟩
          have HB6 := hide (HB.out.trans (hb6.mono HB.out.size))
          have HO6 := hide (OwnJ.ext HO.out hb6)
          clear hb6
          rcases b2 with _ | _
          all_goals
            go_wp2_with fail
            go_roundw
            case rel => exact ⟨k + 1, by omega, by rw [HNX.out]; rfl, by go_num, HO6, HB6⟩
            case measure => simp [intOf]; omega
          -- END2
        · -- BEGIN3
          obtain rfl : k = nr := by omega
          have hnl : ¬ (k : Int) < (k : Int) := by omega
          rw [HTK.out] at HBQ
          rcases tk with _ | _
          · have hz : apF (byQ s c q) (i + 1) = apF (byQ s c q) i := by rw [apF_succ, HBQ.out, if_neg (by decide)]
            have HZ := hide hz
            clear hz
            go_wp2_with fail
            go_roundw
            case rel => exact ⟨i + 1, by omega, by go_num, by rw [HZ.out]; exact HO, HB⟩
            case measure => simp [intOf]; omega
          · have hz : apF (byQ s c q) (i + 1) = apF (byQ s c q) i ++ [(i : Int)] := by rw [apF_succ, HBQ.out, if_pos rfl]
            have HZ := hide hz
            obtain ⟨v6, w6, hrun, ho6, hg6⟩ := HO.out.push (i : Int) (by rw [HON.out]; omega) HB.out.size
            have HB6 := hide ((HB.out.alloc HB.out.size (.cells #[.int .i64 (i : Int)] 3)).grown hg6 (Nat.le_trans HB.out.size (by simp)) (fun j hj => (World.ownsRow.lt HO.out j hj).1))
            have HO6 := hide ho6
            have HRUN := hide hrun
            clear hrun ho6 hg6 hz
            go_wp2_with (at_builtin; refine wpList_append_run rfl (.tmp 80) (.tmp 82) 36 rfl rfl rfl HRUN.out ?_)
            go_roundw
            case rel => exact ⟨i + 1, by omega, by go_num, by rw [HZ.out]; exact HO6, HB6⟩
            case measure => simp [intOf]; omega
          -- END3
      -- END9
      -- END1
    · -- BEGIN4
      obtain rfl : nr = i := by omega
      have hnl : ¬ (nr : Int) < (nr : Int) := by omega
      obtain ⟨l, hl⟩ : ∃ l, apF (byQ s c q) nr = l := ⟨_, rfl⟩
      rw [hl] at HO HON HBY
      have HLM := hide (HME.out nr)
      rw [hl] at HLM
      have HBE : Hid (dcB s (stF s) c q = l) := hide HBY.out.symm
      clear hl HME HAP HTB HNP HBY
      rcases Nat.eq_zero_or_pos on with h0 | h0
      · subst h0
        have HRR : Hid (R = (0, 7, [])) := hide (by rw [← HR.out]; exact dcF_nil HBE.out HON.out)
        go_wp2_with fail
        go_ret3
        rw [HRR.out]
        exact ⟨_, rfl, OwnJ.nil _ _, HBG.out⟩
      have hn0 : ((on : Int) == 0) = false := by rw [beq_eq_false_iff_ne]; omega
      have HLR := hide (HO.out.li.2)
      obtain ⟨og, hA, hog, hcl⟩ : ∃ og, OA = some ⟨og, 0, none⟩ ∧ og < wr.heap.size ∧ ∀ j, j < on → wr.cell? ⟨og, j, none⟩ = some (.int .i64 (l.getD j 0)) := ownJ_cells HO.out HON.out h0
      subst hA
      have HCL := hide hcl
      obtain ⟨x0, hx0, hx0l⟩ := HLM.out (l.getD 0 0) (by
        rw [List.getD_eq_getElem?_getD, List.getElem?_eq_getElem (by rw [HON.out]; exact h0)]
        exact List.getElem_mem _)
      have hi_ : x0 < s.rs.length := by rw [HN.out.2]; exact hx0l
      obtain ⟨r1, hr1⟩ : ∃ r, s.rs.getD x0 r0 = r := ⟨_, rfl⟩
      obtain ⟨rb, ro, hra, hrb, a0, a1, a2⟩ := HD.out.rs.at_ hi_ hr1
      rw [HRA.out] at hra
      subst hra
      obtain ⟨s0, hs0⟩ : ∃ x, r1.say = x := ⟨_, rfl⟩
      rw [hs0] at a2
      have hsay0 : sayF s (l.getD 0 0) = s0 := by unfold sayF; rw [hx0, Int.toNat_natCast, hr1, hs0]
      have HS0 := hide hsay0
      have HX0 := hide hx0
      have HA2 := hide (And.intro hrb a2)
      have x00 : (0 : Int) ≤ (x0 : Int) := by omega
      have x0l : (x0 : Int) < (nr : Int) := by omega
      have hon0 : (0 : Int) < (on : Int) := by omega
      clear hcl hr1 a0 a1 a2 hs0 hsay0 hx0 hi_
      go_wp2_with fail
      clear g2
      obtain ⟨w4, hw4⟩ : ∃ x, x = wr := ⟨_, rfl⟩
      rw [← hw4] at HB HBG HCL HO HLR hog ⊢
      clear hw4
      go_loopw [15] (fun v15 wr => ∃ m : Nat, m ≤ on ∧ v15 = .int .i64 m ∧ Hid (∀ k, k < m → sayF s (l.getD k 0) = sayF s (l.getD 0 0)) ∧ Hid (Below w4.heap.size w4 wr)) (fun v15 _ => on - (intOf v15).toNat)
      case atStart => exact ⟨0, Nat.zero_le _, rfl, hide (fun k hk => absurd hk (by omega)), hide (Below.refl _ _)⟩
      case round =>
        obtain ⟨m, hm, rfl, HX, HW⟩ := hrel
        by_cases hml : m < on
        · -- BEGIN5
          have hml' : (m : Int) < (on : Int) := by omega
          have m0 : (0 : Int) ≤ (m : Int) := by omega
          have hstm : IntKind.i64.wrap ((m : Int) + 1) = ((m + 1 : Nat) : Int) := by rw [IntWalk.i64_in _ (by omega)]; omega
          obtain ⟨x, hx, hxl⟩ := HLM.out (l.getD m 0) (by
            rw [List.getD_eq_getElem?_getD, List.getElem?_eq_getElem (by rw [HON.out]; exact hml)]
            exact List.getElem_mem _)
          have hi_ : x < s.rs.length := by rw [HN.out.2]; exact hxl
          obtain ⟨r1, hr1⟩ : ∃ r, s.rs.getD x r0 = r := ⟨_, rfl⟩
          obtain ⟨rb', ro', hra, hrb, a0, a1, a2⟩ := HD.out.rs.at_ hi_ hr1
          rw [HRA.out] at hra
          injection hra with hra
          injection hra with z1 z2
          subst z1 z2
          obtain ⟨sx, hsx⟩ : ∃ x, r1.say = x := ⟨_, rfl⟩
          rw [hsx] at a2
          have hsay : sayF s (l.getD m 0) = sx := by unfold sayF; rw [hx, Int.toNat_natCast, hr1, hsx]
          have HSX := hide hsay
          have HS : Hid (∀ W, Below w4.heap.size w4 W → (W.cell? ⟨G, 2, none⟩ = some (.slice (some ⟨rb, ro, none⟩) nr d.rc) ∧ W.cell? ⟨og, m, none⟩ = some (.int .i64 (x : Nat)) ∧ W.cell? ⟨og, 0, none⟩ = some (.int .i64 (x0 : Nat)) ∧
           W.cell? ⟨rb, ro + x * 3 + 2, none⟩ = some (.int .i64 sx) ∧ W.cell? ⟨rb, ro + x0 * 3 + 2, none⟩ = some (.int .i64 s0))) := hide fun W h => by
            obtain ⟨-, -, -, g2, -⟩ := blk3 (HG1.out.ext (HB.out.trans (h.mono HB.out.size)))
            have hb := HBG.out.trans (h.mono HBG.out.size)
            exact ⟨g2, ((h.cell (p := ⟨og, m, none⟩) hog).trans (HCL.out m hml)).trans (by rw [hx]), ((h.cell (p := ⟨og, 0, none⟩) hog).trans (HCL.out 0 h0)).trans (by rw [HX0.out]),
              (hb.cell (p := ⟨rb, ro + x * 3 + 2, none⟩) hrb).trans a2, (hb.cell (p := ⟨rb, ro + x0 * 3 + 2, none⟩) hrb).trans HA2.out.2⟩
          have x1 : (0 : Int) ≤ (x : Int) := by omega
          have x2 : (x : Int) < (nr : Int) := by omega
          clear hr1 a0 a1 a2 hsx hsay hx hi_ hrb
          go_upto_region 18 with fail
          have Bd := hide (HW.out.trans ((Below.refl wr.heap.size wr).drew.mono HW.out.size))
          refine wp_region_J (fun W : World => (W.cell? ⟨G, 2, none⟩ = some (.slice (some ⟨rb, ro, none⟩) nr d.rc) ∧ W.cell? ⟨og, m, none⟩ = some (.int .i64 (x : Nat)) ∧ W.cell? ⟨og, 0, none⟩ = some (.int .i64 (x0 : Nat)) ∧
           W.cell? ⟨rb, ro + x * 3 + 2, none⟩ = some (.int .i64 sx) ∧ W.cell? ⟨rb, ro + x0 * 3 + 2, none⟩ = some (.int .i64 s0))) (by kernel_rfl) ?_
          generalize wr.drew = wd at Bd ⊢
          refine wpAnyJ_take 0 (v := ?_) (by first | exact hF | exact wideFn) (HS.out _ Bd.out) rfl (by kernel_rfl) (by kernel_rfl) (by kernel_rfl) (by kernel_rfl) rfl ?_ (by first | exact fun _ _ _ h => h | exact fun _ _ _ h => hQ2 _ _ _ _ _ h) ?_
          rotate_left
          · intro W hSW
            simp only [glA, glB, glC]
            (try dsimp only at hSW)
            go_simp
            with_reducible rfl
          (try simp only [glA, glB, glC, Act.put, glD, glE, glF])
          refine wpAnyJ_take 1 (v := ?_) (by first | exact hF | exact wideFn) (HS.out _ Bd.out) rfl (by kernel_rfl) (by kernel_rfl) (by kernel_rfl) (by kernel_rfl) rfl ?_ (by first | exact fun _ _ _ h => h | exact fun _ _ _ h => hQ2 _ _ _ _ _ h) ?_
          rotate_left
          · intro W hSW
            simp only [glA, glB, glC]
            (try dsimp only at hSW)
            go_simp
            with_reducible rfl
          (try simp only [glA, glB, glC, Act.put, glD, glE, glF])
          refine wpAnyJ_take 2 (v := ?_) (by first | exact hF | exact wideFn) (HS.out _ Bd.out) rfl (by kernel_rfl) (by kernel_rfl) (by kernel_rfl) (by kernel_rfl) rfl ?_ (by first | exact fun _ _ _ h => h | exact fun _ _ _ h => hQ2 _ _ _ _ _ h) ?_
          rotate_left
          · intro W hSW
            simp only [glA, glB, glC]
            (try dsimp only at hSW)
            go_simp
            with_reducible rfl
          (try simp only [glA, glB, glC, Act.put, glD, glE, glF])
          refine wpAnyJ_take 3 (v := ?_) (by first | exact hF | exact wideFn) (HS.out _ Bd.out) rfl (by kernel_rfl) (by kernel_rfl) (by kernel_rfl) (by kernel_rfl) rfl ?_ (by first | exact fun _ _ _ h => h | exact fun _ _ _ h => hQ2 _ _ _ _ _ h) ?_
          rotate_left
          · intro W hSW
            simp only [glA, glB, glC]
            (try dsimp only at hSW)
            go_simp
            with_reducible rfl
          (try simp only [glA, glB, glC, Act.put, glD, glE, glF])
          refine wpAnyJ_take 4 (v := ?_) (by first | exact hF | exact wideFn) (HS.out _ Bd.out) rfl (by kernel_rfl) (by kernel_rfl) (by kernel_rfl) (by kernel_rfl) rfl ?_ (by first | exact fun _ _ _ h => h | exact fun _ _ _ h => hQ2 _ _ _ _ _ h) ?_
          rotate_left
          · intro W hSW
            simp only [glA, glB, glC]
            (try dsimp only at hSW)
            go_simp
            with_reducible rfl
          (try simp only [glA, glB, glC, Act.put, glD, glE, glF])
          refine wpAnyJ_take 5 (v := ?_) (by first | exact hF | exact wideFn) (HS.out _ Bd.out) rfl (by kernel_rfl) (by kernel_rfl) (by kernel_rfl) (by kernel_rfl) rfl ?_ (by first | exact fun _ _ _ h => h | exact fun _ _ _ h => hQ2 _ _ _ _ _ h) ?_
          rotate_left
          · intro W hSW
            simp only [glA, glB, glC]
            (try dsimp only at hSW)
            go_simp
            with_reducible rfl
          (try simp only [glA, glB, glC, Act.put, glD, glE, glF])
          refine wpAnyJ_take 6 (v := ?_) (by first | exact hF | exact wideFn) (HS.out _ Bd.out) rfl (by kernel_rfl) (by kernel_rfl) (by kernel_rfl) (by kernel_rfl) rfl ?_ (by first | exact fun _ _ _ h => h | exact fun _ _ _ h => hQ2 _ _ _ _ _ h) ?_
          rotate_left
          · intro W hSW
            simp only [glA, glB, glC]
            (try dsimp only at hSW)
            go_simp
            with_reducible rfl
          (try simp only [glA, glB, glC, Act.put, glD, glE, glF])
          refine wpAnyJ_take 7 (v := ?_) (by first | exact hF | exact wideFn) (HS.out _ Bd.out) rfl (by kernel_rfl) (by kernel_rfl) (by kernel_rfl) (by kernel_rfl) rfl ?_ (by first | exact fun _ _ _ h => h | exact fun _ _ _ h => hQ2 _ _ _ _ _ h) ?_
          rotate_left
          · intro W hSW
            simp only [glA, glB, glC]
            (try dsimp only at hSW)
            go_simp
            with_reducible rfl
          (try simp only [glA, glB, glC, Act.put, glD, glE, glF])
          refine wpAnyJ_take 8 (v := ?_) (by first | exact hF | exact wideFn) (HS.out _ Bd.out) rfl (by kernel_rfl) (by kernel_rfl) (by kernel_rfl) (by kernel_rfl) rfl ?_ (by first | exact fun _ _ _ h => h | exact fun _ _ _ h => hQ2 _ _ _ _ _ h) ?_
          rotate_left
          · intro W hSW
            simp only [glA, glB, glC]
            (try dsimp only at hSW)
            go_simp
            with_reducible rfl
          (try simp only [glA, glB, glC, Act.put, glD, glE, glF])
          refine wpAnyJ_take 9 (v := ?_) (by first | exact hF | exact wideFn) (HS.out _ Bd.out) rfl (by kernel_rfl) (by kernel_rfl) (by kernel_rfl) (by kernel_rfl) rfl ?_ (by first | exact fun _ _ _ h => h | exact fun _ _ _ h => hQ2 _ _ _ _ _ h) ?_
          rotate_left
          · intro W hSW
            simp only [glA, glB, glC]
            (try dsimp only at hSW)
            go_simp
            with_reducible rfl
          (try simp only [glA, glB, glC, Act.put, glD, glE, glF])
          refine wpAnyJ_take 10 (v := ?_) (by first | exact hF | exact wideFn) (HS.out _ Bd.out) rfl (by kernel_rfl) (by kernel_rfl) (by kernel_rfl) (by kernel_rfl) rfl ?_ (by first | exact fun _ _ _ h => h | exact fun _ _ _ h => hQ2 _ _ _ _ _ h) ?_
          rotate_left
          · intro W hSW
            simp only [glA, glB, glC]
            (try dsimp only at hSW)
            go_simp
            with_reducible rfl
          (try simp only [glA, glB, glC, Act.put, glD, glE, glF])
          refine wpAnyJ_take 11 (v := ?_) (by first | exact hF | exact wideFn) (HS.out _ Bd.out) rfl (by kernel_rfl) (by kernel_rfl) (by kernel_rfl) (by kernel_rfl) rfl ?_ (by first | exact fun _ _ _ h => h | exact fun _ _ _ h => hQ2 _ _ _ _ _ h) ?_
          rotate_left
          · intro W hSW
            simp only [glA, glB, glC]
            (try dsimp only at hSW)
            go_simp
            with_reducible rfl
          (try simp only [glA, glB, glC, Act.put, glD, glE, glF])
          refine wpAnyJ_take 12 (v := ?_) (by first | exact hF | exact wideFn) (HS.out _ Bd.out) rfl (by kernel_rfl) (by kernel_rfl) (by kernel_rfl) (by kernel_rfl) rfl ?_ (by first | exact fun _ _ _ h => h | exact fun _ _ _ h => hQ2 _ _ _ _ _ h) ?_
          rotate_left
          · intro W hSW
            simp only [glA, glB, glC]
            (try dsimp only at hSW)
            go_simp
            with_reducible rfl
          (try simp only [glA, glB, glC, Act.put, glD, glE, glF])
          refine wpAnyJ_take 13 (v := ?_) (by first | exact hF | exact wideFn) (HS.out _ Bd.out) rfl (by kernel_rfl) (by kernel_rfl) (by kernel_rfl) (by kernel_rfl) rfl ?_ (by first | exact fun _ _ _ h => h | exact fun _ _ _ h => hQ2 _ _ _ _ _ h) ?_
          rotate_left
          · intro W hSW
            simp only [glA, glB, glC]
            (try dsimp only at hSW)
            go_simp
            with_reducible rfl
          (try simp only [glA, glB, glC, Act.put, glD, glE, glF])
          refine wpAnyJ_take 14 (v := ?_) (by first | exact hF | exact wideFn) (HS.out _ Bd.out) rfl (by kernel_rfl) (by kernel_rfl) (by kernel_rfl) (by kernel_rfl) rfl ?_ (by first | exact fun _ _ _ h => h | exact fun _ _ _ h => hQ2 _ _ _ _ _ h) ?_
          rotate_left
          · intro W hSW
            simp only [glA, glB, glC]
            (try dsimp only at hSW)
            go_simp
            with_reducible rfl
          (try simp only [glA, glB, glC, Act.put, glD, glE, glF])
          refine wpAnyJ_take 15 (v := ?_) (by first | exact hF | exact wideFn) (HS.out _ Bd.out) rfl (by kernel_rfl) (by kernel_rfl) (by kernel_rfl) (by kernel_rfl) rfl ?_ (by first | exact fun _ _ _ h => h | exact fun _ _ _ h => hQ2 _ _ _ _ _ h) ?_
          rotate_left
          · intro W hSW
            simp only [glA, glB, glC]
            (try dsimp only at hSW)
            go_simp
            with_reducible rfl
          (try simp only [glA, glB, glC, Act.put, glD, glE, glF])
          refine wpAnyJ_take 16 (v := ?_) (by first | exact hF | exact wideFn) (HS.out _ Bd.out) rfl (by kernel_rfl) (by kernel_rfl) (by kernel_rfl) (by kernel_rfl) rfl ?_ (by first | exact fun _ _ _ h => h | exact fun _ _ _ h => hQ2 _ _ _ _ _ h) ?_
          rotate_left
          · intro W hSW
            simp only [glA, glB, glC]
            (try dsimp only at hSW)
            go_simp
            with_reducible rfl
          (try simp only [glA, glB, glC, Act.put, glD, glE, glF])
          by_cases he : sx = s0
          · have HX2 : Hid (∀ k, k < m + 1 → sayF s (l.getD k 0) = sayF s (l.getD 0 0)) := hide (fun k hk => by
              rcases (by omega : k < m ∨ k = m) with h | h
              · exact HX.out k h
              · rw [h, HSX.out, HS0.out]; exact he)
            obtain rfl : s0 = sx := he.symm
            refine wpAnyJ_take 17 (v := ?_) (by first | exact hF | exact wideFn) (HS.out _ Bd.out) rfl (by kernel_rfl) (by kernel_rfl) (by kernel_rfl) (by kernel_rfl) rfl ?_ (by first | exact fun _ _ _ h => h | exact fun _ _ _ h => hQ2 _ _ _ _ _ h) ?_
            rotate_left
            · intro W hSW
              simp only [glA, glB, glC]
              (try dsimp only at hSW)
              go_simp
              with_reducible rfl
            (try simp only [glA, glB, glC, Act.put, glD, glE, glF])
            refine wpAnyJ_done (by kernel_rfl) ?_
            go_wp2_with fail
            go_roundw
            case rel => exact ⟨m + 1, by omega, by go_num, HX2, Bd⟩
            case measure => simp [intOf]; omega
          · have HRR : Hid (R = (0, 110, [])) := hide (by
              rw [← HR.out]
              exact dcF_clash HBE.out (by rw [HON.out]; exact hml) (by rw [HSX.out, HS0.out]; exact he))
            refine wpAnyJ_take 17 (v := ?_) (by first | exact hF | exact wideFn) (HS.out _ Bd.out) rfl (by kernel_rfl) (by kernel_rfl) (by kernel_rfl) (by kernel_rfl) rfl ?_ (by first | exact fun _ _ _ h => h | exact fun _ _ _ h => hQ2 _ _ _ _ _ h) ?_
            rotate_left
            · intro W hSW
              simp only [glA, glB, glC]
              (try dsimp only at hSW)
              go_simp
              with_reducible rfl
            (try simp only [glA, glB, glC, Act.put, glD, glE, glF])
            refine wpAnyJ_done (by kernel_rfl) ?_
            go_wp2_with fail
            go_ret3
            rw [HRR.out]
            exact ⟨_, rfl, OwnJ.nil _ _, HBG.out.trans (Bd.out.mono HBG.out.size)⟩
          -- END5
        · -- BEGIN6
          obtain rfl : m = on := by omega
          have hnl2 : ¬ (m : Int) < (m : Int) := by omega
          have HRR : Hid (R = (s0, 0, l)) := hide (by
            rw [← HR.out, ← HS0.out]
            exact dcF_says HBE.out (by rw [HON.out]; exact h0) (by rw [HON.out]; exact HX.out))
          have HS : Hid (∀ W, Below w4.heap.size w4 W → (W.cell? ⟨G, 2, none⟩ = some (.slice (some ⟨rb, ro, none⟩) nr d.rc) ∧ W.cell? ⟨og, 0, none⟩ = some (.int .i64 (x0 : Nat)) ∧
           W.cell? ⟨rb, ro + x0 * 3 + 2, none⟩ = some (.int .i64 s0))) := hide fun W h => by
            obtain ⟨-, -, -, g2, -⟩ := blk3 (HG1.out.ext (HB.out.trans (h.mono HB.out.size)))
            have hb := HBG.out.trans (h.mono HBG.out.size)
            exact ⟨g2, ((h.cell (p := ⟨og, 0, none⟩) hog).trans (HCL.out 0 h0)).trans (by rw [HX0.out]), (hb.cell (p := ⟨rb, ro + x0 * 3 + 2, none⟩) HA2.out.1).trans HA2.out.2⟩
          have HO2 := hide (OwnJ.low2 HO.out HB0.out.size)
          go_upto_region 20 with fail
          have Bd := hide (HW.out.trans ((Below.refl wr.heap.size wr).drew.mono HW.out.size))
          refine wp_region_J (fun W : World => (W.cell? ⟨G, 2, none⟩ = some (.slice (some ⟨rb, ro, none⟩) nr d.rc) ∧ W.cell? ⟨og, 0, none⟩ = some (.int .i64 (x0 : Nat)) ∧
           W.cell? ⟨rb, ro + x0 * 3 + 2, none⟩ = some (.int .i64 s0))) (by kernel_rfl) ?_
          generalize wr.drew = wd at Bd ⊢
          refine wpAnyJ_take 0 (v := ?_) (by first | exact hF | exact wideFn) (HS.out _ Bd.out) rfl (by kernel_rfl) (by kernel_rfl) (by kernel_rfl) (by kernel_rfl) rfl ?_ (by first | exact fun _ _ _ h => h | exact fun _ _ _ h => hQ2 _ _ _ _ _ h) ?_
          rotate_left
          · intro W hSW
            simp only [glA, glB, glC]
            (try dsimp only at hSW)
            go_simp
            with_reducible rfl
          (try simp only [glA, glB, glC, Act.put, glD, glE, glF])
          refine wpAnyJ_take 1 (v := ?_) (by first | exact hF | exact wideFn) (HS.out _ Bd.out) rfl (by kernel_rfl) (by kernel_rfl) (by kernel_rfl) (by kernel_rfl) rfl ?_ (by first | exact fun _ _ _ h => h | exact fun _ _ _ h => hQ2 _ _ _ _ _ h) ?_
          rotate_left
          · intro W hSW
            simp only [glA, glB, glC]
            (try dsimp only at hSW)
            go_simp
            with_reducible rfl
          (try simp only [glA, glB, glC, Act.put, glD, glE, glF])
          refine wpAnyJ_take 2 (v := ?_) (by first | exact hF | exact wideFn) (HS.out _ Bd.out) rfl (by kernel_rfl) (by kernel_rfl) (by kernel_rfl) (by kernel_rfl) rfl ?_ (by first | exact fun _ _ _ h => h | exact fun _ _ _ h => hQ2 _ _ _ _ _ h) ?_
          rotate_left
          · intro W hSW
            simp only [glA, glB, glC]
            (try dsimp only at hSW)
            go_simp
            with_reducible rfl
          (try simp only [glA, glB, glC, Act.put, glD, glE, glF])
          refine wpAnyJ_take 3 (v := ?_) (by first | exact hF | exact wideFn) (HS.out _ Bd.out) rfl (by kernel_rfl) (by kernel_rfl) (by kernel_rfl) (by kernel_rfl) rfl ?_ (by first | exact fun _ _ _ h => h | exact fun _ _ _ h => hQ2 _ _ _ _ _ h) ?_
          rotate_left
          · intro W hSW
            simp only [glA, glB, glC]
            (try dsimp only at hSW)
            go_simp
            with_reducible rfl
          (try simp only [glA, glB, glC, Act.put, glD, glE, glF])
          refine wpAnyJ_take 4 (v := ?_) (by first | exact hF | exact wideFn) (HS.out _ Bd.out) rfl (by kernel_rfl) (by kernel_rfl) (by kernel_rfl) (by kernel_rfl) rfl ?_ (by first | exact fun _ _ _ h => h | exact fun _ _ _ h => hQ2 _ _ _ _ _ h) ?_
          rotate_left
          · intro W hSW
            simp only [glA, glB, glC]
            (try dsimp only at hSW)
            go_simp
            with_reducible rfl
          (try simp only [glA, glB, glC, Act.put, glD, glE, glF])
          refine wpAnyJ_take 5 (v := ?_) (by first | exact hF | exact wideFn) (HS.out _ Bd.out) rfl (by kernel_rfl) (by kernel_rfl) (by kernel_rfl) (by kernel_rfl) rfl ?_ (by first | exact fun _ _ _ h => h | exact fun _ _ _ h => hQ2 _ _ _ _ _ h) ?_
          rotate_left
          · intro W hSW
            simp only [glA, glB, glC]
            (try dsimp only at hSW)
            go_simp
            with_reducible rfl
          (try simp only [glA, glB, glC, Act.put, glD, glE, glF])
          refine wpAnyJ_take 6 (v := ?_) (by first | exact hF | exact wideFn) (HS.out _ Bd.out) rfl (by kernel_rfl) (by kernel_rfl) (by kernel_rfl) (by kernel_rfl) rfl ?_ (by first | exact fun _ _ _ h => h | exact fun _ _ _ h => hQ2 _ _ _ _ _ h) ?_
          rotate_left
          · intro W hSW
            simp only [glA, glB, glC]
            (try dsimp only at hSW)
            go_simp
            with_reducible rfl
          (try simp only [glA, glB, glC, Act.put, glD, glE, glF])
          refine wpAnyJ_take 7 (v := ?_) (by first | exact hF | exact wideFn) (HS.out _ Bd.out) rfl (by kernel_rfl) (by kernel_rfl) (by kernel_rfl) (by kernel_rfl) rfl ?_ (by first | exact fun _ _ _ h => h | exact fun _ _ _ h => hQ2 _ _ _ _ _ h) ?_
          rotate_left
          · intro W hSW
            simp only [glA, glB, glC]
            (try dsimp only at hSW)
            go_simp
            with_reducible rfl
          (try simp only [glA, glB, glC, Act.put, glD, glE, glF])
          refine wpAnyJ_take 8 (v := ?_) (by first | exact hF | exact wideFn) (HS.out _ Bd.out) rfl (by kernel_rfl) (by kernel_rfl) (by kernel_rfl) (by kernel_rfl) rfl ?_ (by first | exact fun _ _ _ h => h | exact fun _ _ _ h => hQ2 _ _ _ _ _ h) ?_
          rotate_left
          · intro W hSW
            simp only [glA, glB, glC]
            (try dsimp only at hSW)
            go_simp
            with_reducible rfl
          (try simp only [glA, glB, glC, Act.put, glD, glE, glF])
          refine wpAnyJ_take 9 (v := ?_) (by first | exact hF | exact wideFn) (HS.out _ Bd.out) rfl (by kernel_rfl) (by kernel_rfl) (by kernel_rfl) (by kernel_rfl) rfl ?_ (by first | exact fun _ _ _ h => h | exact fun _ _ _ h => hQ2 _ _ _ _ _ h) ?_
          rotate_left
          · intro W hSW
            simp only [glA, glB, glC]
            (try dsimp only at hSW)
            go_simp
            with_reducible rfl
          (try simp only [glA, glB, glC, Act.put, glD, glE, glF])
          refine wpAnyJ_take 10 (v := ?_) (by first | exact hF | exact wideFn) (HS.out _ Bd.out) rfl (by kernel_rfl) (by kernel_rfl) (by kernel_rfl) (by kernel_rfl) rfl ?_ (by first | exact fun _ _ _ h => h | exact fun _ _ _ h => hQ2 _ _ _ _ _ h) ?_
          rotate_left
          · intro W hSW
            simp only [glA, glB, glC]
            (try dsimp only at hSW)
            go_simp
            with_reducible rfl
          (try simp only [glA, glB, glC, Act.put, glD, glE, glF])
          refine wpAnyJ_take 11 (v := ?_) (by first | exact hF | exact wideFn) (HS.out _ Bd.out) rfl (by kernel_rfl) (by kernel_rfl) (by kernel_rfl) (by kernel_rfl) rfl ?_ (by first | exact fun _ _ _ h => h | exact fun _ _ _ h => hQ2 _ _ _ _ _ h) ?_
          rotate_left
          · intro W hSW
            simp only [glA, glB, glC]
            (try dsimp only at hSW)
            go_simp
            with_reducible rfl
          (try simp only [glA, glB, glC, Act.put, glD, glE, glF])
          refine wpAnyJ_done (by kernel_rfl) ?_
          go_wp2_with fail
          go_ret3
          rw [HRR.out]
          exact ⟨_, rfl, OwnJ.ext HO2.out Bd.out, HBG.out.trans (Bd.out.mono HBG.out.size)⟩
          -- END6
      -- END4
end Go.Proofs.YtmpegkojencbjaaDoor
/- A range over an iterator that writes cells of its own, with a body that writes a map made ahead of the loop; a map of counts by errors. -/
namespace Go.Proofs.YtmpegkojencbjaaDoor
open Go Go.RowKit Go.Shelf
set_option maxHeartbeats 4000000
set_option maxRecDepth 100000
variable {F : Fence} {n : Nat} {P : Program}
theorem wpIn_rangeFunc_memG {α : Type} {g : Operand} {ps : Array Tmp} {assign body : Code} {Q : Exit → Act → World → Prop} {a : Act} {w : World}
    (hro : F.round = none) (h1 : 1 ≤ n) {gf : Nat} {lb : Array Value} (hg : a.eval g = .func (.func gf) #[] lb) (hFg : F.fn gf) (eg : ∀ args w, (callFunc gf args).run P w = .ok (.enter gf args) w)
    {encs : α → Array Value} {R : α → World → Prop} {S Sp : List α → Prop} {N : Nat} {w0 : World} (hseq : SeqMem F (n - 1) P gf lb encs R S Sp N w0) (hRK : ∀ x W W', R x W → KC W W' → R x W')
    (hb0 : Below w0.heap.size w0 w) (hps : ∀ x, (encs x).size = ps.size)
    (I : List α → World → Prop) (Ix : Code → List α → World → Prop) (hI : AbM w.heap.size I) (hIx : ∀ c, OwnFrom w.heap.size (Ix c)) (h0 : I [] w) (a₁ : α → Act)
    (hassign : ∀ (l : Nat) (x : α) (W : World) (K : Act → World → Prop), K (a₁ x) W →
      assign.wpIn (F.inRound l) (n - 1 - 1) P (Exit.then K (fun _ _ _ => False)) { tmps := (ps.zip (encs x)).foldl (fun t (p, v) => t.setIfInBounds p v) a.tmps, defers := [] } W)
    (hbody : ∀ (l : Nat) (pre : List α) (x : α) (W : World), I pre W → R x W → pre.length < N → body.wpIn (F.inRound l) (n - 1 - 1) P (ownPostG w.heap.size KC I Ix (pre ++ [x]) W) (a₁ x) W)
    (hdone : ∀ (D : Nat) (xs : List α) (W : World), w.heap.size ≤ D → S xs → I xs W → W.heap[D]? = some (.deferred (some [])) → Q .normal { a with defers := { target := .collected D, args := #[] } :: a.defers } W)
    (hstop : ∀ (D : Nat) (c : Code) (pre : List α) (W : World), w.heap.size ≤ D → Sp pre → Ix c pre W → W.heap[D]? = some (.deferred (some [])) → c.wpIn F n P Q { a with defers := { target := .collected D, args := #[] } :: a.defers } W) :
    (Code.rangeFunc g ps assign body).wpIn F n P Q a w := by
  refine wpIn_rangeFunc ?_
  intro fn hfn
  rw [hro]
  obtain ⟨rec, hrec⟩ : ∃ rec : LoopState → Option Code → Loop, rec = fun st pe => { state := st, pending := pe, fn, tmps := a.tmps, params := ps, assign, body, defers := w.heap.size } := ⟨_, rfl⟩
  obtain ⟨W1, hW1⟩ : ∃ W1, (w.alloc (.deferred (some []))).alloc (.loop (rec .ready none)) = W1 := ⟨_, rfl⟩
  have hsz : W1.heap.size = w.heap.size + 2 := by rw [← hW1]; simp
  have hL1 : W1.heap[w.heap.size + 1]? = some (.loop (rec .ready none)) := by
    rw [← hW1]; have := World.alloc_heap_new (w.alloc (.deferred (some []))) (.loop (rec .ready none)); rwa [World.size_alloc] at this
  have hK1 : W1.heap[w.heap.size]? = some (.deferred (some [])) := by
    rw [← hW1]; exact (Below.heap_alloc _ _ _ (by simp)).trans (World.alloc_heap_new w _)
  have hI1 : I [] W1 := by rw [← hW1]; exact hI.alloc _ (hI.alloc _ h0)
  have hb1 : Below w0.heap.size w0 W1 := by
    rw [← hW1]; exact hb0.trans ((((Below.refl _ w).alloc (Nat.le_refl _) _).alloc (by simp) _).mono hb0.size)
  have hup : ∀ {row : Option Nat}, (∀ r, row = some r → W1.heap.size ≤ r) → ∀ r, row = some r → w.heap.size ≤ r := fun hr r e => by have := hr r e; omega
  have hst : ∀ {A B : World} {row : Option Nat} {k : Nat} {o : Obj}, A.grownBy B row → (∀ r, row = some r → W1.heap.size ≤ r) → k < w.heap.size + 2 → A.heap[k]? = some o → B.heap[k]? = some o := fun {A B row k o} hg hr hk h => by
    refine (hg.block k ?_ (fun e => ?_)).trans h
    · rcases Nat.lt_or_ge k A.heap.size with hl | hl
      · exact hl
      · rw [Array.getElem?_eq_none hl] at h; cases h
    · have := hr k e.symm; omega
  refine ⟨w.heap.size + 1, [{ target := .collected w.heap.size, args := #[] }], W1, { target := .fn (.func gf) lb, args := #[.func (.yield (w.heap.size + 1)) #[] #[]] }, W1, gf,
    #[.func (.yield (w.heap.size + 1)) #[] #[]] ++ lb, W1, ?_, ?_, ?_, ?_, fun _ => h1, ?_⟩
  · rw [← hW1, hrec]; exact run_enterLoop_outer _ _ _ _ _
  · simp only [resolve, hg]
    simp [go_sem]
  · intro f' hf'; simp [Target.leads] at hf'; subst hf'; exact hFg
  · simp [invoke, go_sem, eg]
  · refine (hseq (w.heap.size + 1)
      (fun pre W => I pre W ∧ W.heap[w.heap.size + 1]? = some (.loop (rec .ready none)) ∧ W.heap[w.heap.size]? = some (.deferred (some [])))
      (fun pre W => ∃ c, Ix c pre W ∧ W.heap[w.heap.size + 1]? = some (.loop (rec .done (some c))) ∧ W.heap[w.heap.size]? = some (.deferred (some [])))
      W1 hb1
      (fun s A B row hs hg' hr => ⟨hI s A B row hs.1 hg' (hup hr), hst hg' hr (by omega) hs.2.1, hst hg' hr (by omega) hs.2.2⟩)
      ?_ ⟨hI1, hL1, hK1⟩).mono ?_
    · rintro pre x W ⟨hi, hl, hk⟩ hRx hlen
      have hlt : w.heap.size + 1 < W.heap.size := (Array.getElem?_eq_some_iff.1 hl).1
      have hy := run_yield (P := P) (args := encs x) hl (by rw [hrec]; exact hps x)
      rw [hrec] at hy
      refine ⟨fn, _, assign, body, hy, roundIn_of_wpIn hfn (hassign _ x W _ ⟨_, run_beginRound hl (by rw [hrec]), ?_⟩)⟩
      have hl2 : (W.putObj (w.heap.size + 1) (.loop { rec .ready none with state := .busy })).heap[w.heap.size + 1]? = some (.loop { rec .ready none with state := .busy }) := World.putObj_heap_same hlt
      have hk2 : (W.putObj (w.heap.size + 1) (.loop { rec .ready none with state := .busy })).heap[w.heap.size]? = some (.deferred (some [])) := (World.putObj_heap_other (by omega)).trans hk
      have hw2 : KC W (W.putObj (w.heap.size + 1) (.loop { rec .ready none with state := .busy })) := KC.putObj _ _ _ _ hl rfl
      refine wpIn_mono (hbody _ pre x _ (hI.putObj _ hi (by omega)) (hRK _ _ _ hRx hw2) hlen) ?_
      have fin : ∀ (jump : Option Code) (W3 : World), KeepsFrom w.heap.size (W.putObj (w.heap.size + 1) (.loop { rec .ready none with state := .busy })) W3 →
          (Instr.endRound (w.heap.size + 1) jump).run P W3 = .ok (.bool jump.isNone) (W3.putObj (w.heap.size + 1) (.loop (rec (if jump.isNone then .ready else .done) jump))) ∧
          W3.heap[w.heap.size + 1]? = some (.loop { rec .ready none with state := .busy }) ∧
          (W3.putObj (w.heap.size + 1) (.loop (rec (if jump.isNone then .ready else .done) jump))).heap[w.heap.size + 1]? = some (.loop (rec (if jump.isNone then .ready else .done) jump)) ∧
          (W3.putObj (w.heap.size + 1) (.loop (rec (if jump.isNone then .ready else .done) jump))).heap[w.heap.size]? = some (.deferred (some [])) := fun jump W3 hk3 => by
        have hl3 := hk3.same _ _ (by omega) hl2 rfl
        have := run_endRound (P := P) jump hl3
        rw [hrec] at this ⊢
        exact ⟨this, by rw [hrec] at hl3; exact hl3, World.putObj_heap_same (Array.getElem?_eq_some_iff.1 hl3).1, (World.putObj_heap_other (by omega)).trans (hk3.same _ _ (Nat.le_refl _) hk2 rfl)⟩
      rintro e a3 W3 hp
      cases e with
      | normal =>
        obtain ⟨hk3, hkp3, hi3⟩ := hp
        obtain ⟨hr, hl3, hl4, hk4⟩ := fin none W3 hk3
        exact ⟨_, _, hr, .inl ⟨rfl, ⟨hI.putObj _ hi3 (by omega), hl4, hk4⟩, (hw2.trans hkp3).trans (KC.putObj _ _ _ _ hl3 rfl)⟩⟩
      | ret =>
        obtain ⟨hk3, hi3⟩ := hp
        obtain ⟨hr, hl3, hl4, hk4⟩ := fin (some .ret) W3 hk3
        exact ⟨_, _, hr, .inr ⟨rfl, .ret, (hIx _).putObj _ hi3 (by omega) hl3 rfl, hl4, hk4⟩⟩
      | exit id =>
        obtain ⟨hk3, hi3⟩ := hp
        obtain ⟨hr, hl3, hl4, hk4⟩ := fin (some (.exit id)) W3 hk3
        exact ⟨_, _, hr, .inr ⟨rfl, .exit id, (hIx _).putObj _ hi3 (by omega) hl3 rfl, hl4, hk4⟩⟩
      | goto t =>
        obtain ⟨hk3, hi3⟩ := hp
        obtain ⟨hr, hl3, hl4, hk4⟩ := fin (some (.goto t)) W3 hk3
        exact ⟨_, _, hr, .inr ⟨rfl, .goto t, (hIx _).putObj _ hi3 (by omega) hl3 rfl, hl4, hk4⟩⟩
      | panic ch => exact hp.elim
      | outgrown => exact hp.elim
    · rintro e W2 ⟨⟨v, rfl⟩, (⟨xs, hS, hi, hl, hk⟩ | ⟨pre, hSp, c, hi, hl, hk⟩)⟩
      · exact ⟨none, _, by have := run_endLoop (P := P) hl (by rw [hrec]; simp); rw [hrec] at this; exact this, hdone _ xs _ (Nat.le_refl _) hS (hI.putObj _ hi (by omega)) ((World.putObj_heap_other (by omega)).trans hk)⟩
      · exact ⟨some c, _, by have := run_endLoop (P := P) hl (by rw [hrec]; simp); rw [hrec] at this; exact this, hstop _ c pre _ (Nat.le_refl _) hSp ((hIx c).putObj _ hi (by omega) hl rfl) ((World.putObj_heap_other (by omega)).trans hk)⟩
/-- block b is a map from at most n errors to numbers: f z at z -/
def CntAt (w : World) (b n : Nat) (f : Int → Int) : Prop :=
  ∃ D : DataW Unit, w.ownsMap Tryd.prog 27 (plainElem Tryd.prog 3) b n D ∧ Maps.IsMap D ∧ ∀ z, D.atKey (.int .i64 z) (.lit (.int .i64 0)) = .lit (.int .i64 (f z))
theorem CntAt.lt {w : World} {b n : Nat} {f : Int → Int} (h : CntAt w b n f) : b < w.heap.size := by
  obtain ⟨D, h1, -⟩ := h
  exact h1.lt
theorem CntAt.made (w : World) : CntAt (w.alloc (.map #[] 0)) w.heap.size 0 (fun _ => 0) :=
  ⟨.map [], World.ownsMap_made w _ _ _, Maps.isMap_empty, fun _ => rfl⟩
theorem CntAt.kept {w w' : World} {b n : Nat} {f : Int → Int} (h : CntAt w b n f) {row : Option Nat} (hg : w.grownBy w' row) (hne : some b ≠ row) : CntAt w' b n f := by
  obtain ⟨D, h1, h2, h3⟩ := h
  exact ⟨D, h1.kept hg hne, h2, h3⟩
theorem CntAt.alloc {w : World} {b n : Nat} {f : Int → Int} (h : CntAt w b n f) (o : Obj) : CntAt (w.alloc o) b n f := h.kept (World.grownBy_alloc w o none) (by simp)
theorem grown_no {W W' : World} (hb : Below W.heap.size W W') : W.grownBy W' none := ⟨hb.os, hb.tape, hb.output, hb.size, fun k hk _ => hb.block k hk⟩
theorem CntAt.ext {w w' : World} {b n : Nat} {f : Int → Int} (h : CntAt w b n f) (hb : Below w.heap.size w w') : CntAt w' b n f := h.kept (grown_no hb) (by simp)
theorem CntAt.map {w : World} {b n : Nat} {f : Int → Int} (h : CntAt w b n f) : ∃ o : Obj, w.heap[b]? = some o ∧ o.isCells = false := by
  obtain ⟨D, ⟨es, clock, h1, -⟩, -⟩ := h
  exact ⟨_, h1, rfl⟩
def inI64 (z : Int) : Prop := -9223372036854775808 ≤ z ∧ z ≤ 9223372036854775807
theorem wf_inI64 {z : Int} (h : inI64 z) : (Lit.int .i64 z).wf = true := by
  simpa [Lit.wf, IntKind.min, IntKind.max, IntKind.signed, IntKind.bits, inI64] using h
theorem key_err {z : Int} (h : inI64 z) : keyOf Tryd.prog 27 (.int .i64 z) = some (.int .i64 z) := Maps.keyOf_int_mk Tryd.underlying27 (wf_inI64 h)
theorem cnt_look {w : World} {b n : Nat} {f : Int → Int} (h : CntAt w b n f) {z : Int} (hz : inI64 z) :
    (Instr.lookup 112 (.map (some b)) (.int .i64 z) false).run Tryd.prog w = .ok (.int .i64 (f z)) w := by
  obtain ⟨D, h1, h2, h3⟩ := h
  obtain ⟨v, ps, hrun, hv⟩ := h1.lookup (t := 112) (e := 3) (z := .int .i64 0) (zd := .lit (.int .i64 0)) (zp := []) (Maps.int_keyed Tryd.underlying27) Tryd.underlying112 (by kernel_rfl) (plainElem_int Tryd.underlying3 (by decide)) (key_err hz)
  rw [h3] at hv
  rw [hrun]
  obtain ⟨c, rfl, hc, -⟩ := plainElem_int_inv Tryd.underlying3 hv
  injection hc with hc _
  simp at hc
  rw [hc]
theorem cnt_put {w : World} {b n : Nat} {f : Int → Int} (h : CntAt w b n f) (hn : n < maxLen) {z x : Int} (hz : inI64 z) (hx : inI64 x) :
    ∃ w', (Instr.mapUpdate 112 (.map (some b)) (.int .i64 z) (.int .i64 x)).run Tryd.prog w = .ok () w' ∧ CntAt w' b (n + 1) (fun y => if y = z then x else f y) ∧ w.grownBy w' (some b) := by
  obtain ⟨D, h1, h2, h3⟩ := h
  obtain ⟨w', hrun, hown, hg⟩ := h1.update (t := 112) (e := 3) (val := .int .i64 x) (Maps.int_keyed Tryd.underlying27) Tryd.underlying112 hn (key_err hz) (plainElem_int Tryd.underlying3 (wf_inI64 hx))
  refine ⟨w', hrun, ⟨_, hown, h2.put _ _, fun y => ?_⟩, hg⟩
  by_cases e : y = z
  · subst e
    rw [Maps.atKey_put_same h2 (by simp [WideAt.IsKeyLit])]
    show _ = DataW.lit (.int .i64 (if y = y then x else f y))
    rw [if_pos rfl]
  · rw [Maps.atKey_put_other (fun h => e (by injection h)), h3]
    show _ = DataW.lit (.int .i64 (if y = z then x else f y))
    rw [if_neg e]
end Go.Proofs.YtmpegkojencbjaaDoor
/- School: Gaps. -/
namespace Go.Proofs.YtmpegkojencbjaaDoor
open List renaming getElem_toArray → glA, getElem_cons_zero → glB, getElem_cons_succ → glC, setIfInBounds_toArray → glD, set_cons_zero → glE, set_cons_succ → glF
open Go Go.RowKit Go.Shelf
attribute [local go_sem] Oper.semAt_some
set_option maxHeartbeats 8000000
set_option maxRecDepth 100000
/-- in how many of the first n cases the answer is error z -/
def gpN (s : Sch) (q z : Int) : Nat → Int
  | 0 => 0
  | k + 1 => gpN s q z k + if (vdF s q k).2 = z then 1 else 0
/-- what Gaps returns -/
def gpR (s : Sch) (q : Int) : Int × Int × Int :=
  if schB s then if 0 ≤ q ∧ q ≤ s.q - 1 then (gpN s q 7 (pr s.fs s.fs.length), gpN s q 110 (pr s.fs s.fs.length), 0) else (0, 0, 3) else (0, 0, 2)
/-- in how many of these cases the answer is error z -/
def cnE (s : Sch) (q : Int) (pre : List (Nat × Nat)) (z : Int) : Int := ((pre.filter fun y => decide ((vdF s q y.1).2 = z)).length : Int)
theorem cnE_add (s : Sch) (q : Int) (pre : List (Nat × Nat)) (x : Nat × Nat) (z : Int) : cnE s q (pre ++ [x]) z = cnE s q pre z + if (vdF s q x.1).2 = z then 1 else 0 := by
  unfold cnE
  rw [List.filter_append, List.length_append]
  by_cases h : (vdF s q x.1).2 = z
  · rw [if_pos h]; simp [h]
  · rw [if_neg h]; simp [h]
theorem cnE_bd (s : Sch) (q : Int) (pre : List (Nat × Nat)) (z : Int) : 0 ≤ cnE s q pre z ∧ cnE s q pre z ≤ pre.length := by
  unfold cnE
  have := List.length_filter_le (fun y : Nat × Nat => decide ((vdF s q y.1).2 = z)) pre
  omega
theorem cnE_all (s : Sch) (q z : Int) : ∀ (n : Nat) (xs : List (Nat × Nat)), xs.map (·.1) = List.range n → cnE s q xs z = gpN s q z n
  | 0, xs, h => by
    have : xs = [] := by simpa using h
    subst this; rfl
  | n + 1, xs, h => by
    rcases List.eq_nil_or_concat xs with e | ⟨pre, x, e⟩
    · subst e
      rw [List.range_succ] at h
      simp at h
    · subst e
      rw [List.concat_eq_append] at h ⊢
      rw [List.map_append, List.range_succ] at h
      obtain ⟨h1, h2⟩ := List.append_inj' h (by simp)
      have h3 : x.1 = n := by simpa using h2
      rw [cnE_add, cnE_all s q z n pre h1, h3]
      rfl
theorem dcF_err (s : Sch) (st : Nat → Nat → Nat) (c : List Int) (q : Int) : (dcF s st c q).2.1 = 0 ∨ (dcF s st c q).2.1 = 7 ∨ (dcF s st c q).2.1 = 110 := by
  unfold dcF
  split
  · exact .inr (.inl rfl)
  · split
    · exact .inr (.inr rfl)
    · exact .inl rfl
theorem dcF_in (s : Sch) (st : Nat → Nat → Nat) (c : List Int) (q : Int) : inI64 (dcF s st c q).2.1 := by
  unfold inI64
  rcases dcF_err s st c q with h | h | h <;> rw [h] <;> decide
theorem pr_le {fs : List Int} : ∀ n, (∀ j, j < n → chF fs j ≤ 4) → pr fs n ≤ 4 ^ n
  | 0, _ => Nat.le_refl _
  | n + 1, h => by
    have ih := pr_le n (fun j hj => h j (by omega))
    have h1 := h n (by omega)
    show pr fs n * chF fs n ≤ 4 ^ (n + 1)
    rw [Nat.pow_succ]
    exact Nat.mul_le_mul ih h1
theorem KC.of_map {W W' : World} {b : Nat} (hg : W.grownBy W' (some b)) (hm : ∃ o : Obj, W.heap[b]? = some o ∧ o.isCells = false) : KC W W' :=
  ⟨hg.size, fun k o h3 h4 => by
    obtain ⟨o', h1, h2⟩ := hm
    refine (hg.block k (Array.getElem?_eq_some_iff.1 h3).1 (fun e => ?_)).trans h3
    injection e with e
    rw [e, h1] at h3
    injection h3 with h3
    rw [h3, h4] at h2
    cases h2⟩
/-- what the rounds keep -/
def GpI (s : Sch) (q : Int) (w3 w7 : World) (M : Nat) (pre : List (Nat × Nat)) (W : World) : Prop :=
  Below w3.heap.size w3 W ∧ Blk W (M + 1) 112 #[.map (some M)] ∧ CntAt W M pre.length (cnE s q pre) ∧ w7.heap.size ≤ W.heap.size
def GpPost (w : World) (r : Int × Int × Int) (e : Ending) (w' : World) : Prop :=
  e = .returned (.tuple #[.int .i64 r.1, .int .i64 r.2.1, .int .i64 r.2.2]) ∧ Below w.heap.size w w'
theorem Gaps_any (d : Ad_) (s : Sch) (q : Int) (w : World) (hd : ScR w w.heap.size d s) (h1 : s.fs.length ≤ maxLen) (h2 : s.rs.length ≤ maxLen) :
    Calls Tryd.prog 30 #[scV d s, .int .i64 q] w (GpPost w (gpR s q)) := by
  obtain ⟨nf, hf⟩ : ∃ n, s.fs.length = n := ⟨_, rfl⟩
  obtain ⟨nr, hr⟩ : ∃ n, s.rs.length = n := ⟨_, rfl⟩
  obtain ⟨Q, hQ⟩ : ∃ n, s.q = n := ⟨_, rfl⟩
  have HOP : Hid (∀ W, Below w.heap.size w W → Calls Tryd.prog 62 #[.agg #[.slice d.fa nf d.fc, .int .i64 Q, .slice d.ra nr d.rc]] W (OpPost W d s)) := hide fun W hB => by
    have := open_any d s W (hd.below hB) h1 h2
    unfold scV at this
    rw [hf, hr, hQ] at this
    exact this
  unfold scV
  have HN := hide (And.intro hf (And.intro hr hQ))
  have HD := hide hd
  rw [hf, hr, hQ]
  clear hd hf hr hQ h1 h2
  refine (callsIn_wide (n := 9)).1 ?_
  obtain ⟨F, hFw⟩ : ∃ F : Fence, F = Fence.wide := ⟨_, rfl⟩
  rw [← hFw]
  have hF : ∀ f, F.fn f := by rw [hFw]; exact fun _ => trivial
  have hro : F.round = none := by rw [hFw]; rfl
  have hwd : ∀ {n f args w R}, Calls Tryd.prog f args w R → CallsIn F n Tryd.prog f args w R := by rw [hFw]; exact fun h => callsIn_wide.2 h
  clear hFw
  refine callsIn_of_wp_marks Tryd.func30 rfl (hF _) ?_ hro
  simp only [Tryd.ntmps30, List.size_toArray, List.length_cons, List.length_nil, Nat.reduceAdd, Nat.reduceSub, Array.replicate_succ, Array.replicate_zero, List.push_toArray, List.append_toArray, List.nil_append, List.cons_append]
  have k3 : Blk ((w.alloc (.cells #[.slice d.fa nf d.fc, .int .i64 Q, .slice d.ra nr d.rc] 47)).alloc (.cells #[.int .i64 q] 3)) w.heap.size 47 #[.slice d.fa nf d.fc, .int .i64 Q, .slice d.ra nr d.rc] := (Blk.new w _ _).alloc _
  have k5 : Blk ((w.alloc (.cells #[.slice d.fa nf d.fc, .int .i64 Q, .slice d.ra nr d.rc] 47)).alloc (.cells #[.int .i64 q] 3)) (w.heap.size + 1) 3 #[.int .i64 q] := by simpa using Blk.new (w.alloc (.cells #[.slice d.fa nf d.fc, .int .i64 Q, .slice d.ra nr d.rc] 47)) 3 #[.int .i64 q]
  have HB1 : Hid (Below w.heap.size w ((w.alloc (.cells #[.slice d.fa nf d.fc, .int .i64 Q, .slice d.ra nr d.rc] 47)).alloc (.cells #[.int .i64 q] 3))) := hide (((Below.refl _ _).alloc (Nat.le_refl _) _).alloc (by simp) _)
  rcases hvs : schB s with _ | _
  · have HV : Hid (gpR s q = (0, 0, 2)) := hide (by unfold gpR; rw [hvs]; rfl)
    gi_wp2_with (gi_at_call 62; (with_reducible refine (hwd (HOP.out _ HB1.out)).mono ?_); intro e w2 hop; obtain ⟨p1, he, hb2, -⟩ := hop.any; rw [hvs] at he; subst he)
    refine ⟨.tuple #[.int .i64 0, .int .i64 0, .int .i64 2], by simp [results, Tryd.results30, go_sem], ?_⟩
    rw [HV.out]
    exact ⟨rfl, HB1.out.trans ((hb2.alloc hb2.size _).mono HB1.out.size)⟩
  have HOK := hide (schB_ok hvs)
  have hq14 : 1 ≤ Q ∧ Q ≤ 4 := by rw [← HN.out.2.2]; exact ⟨HOK.out.q1, HOK.out.q4⟩
  have w5 : IntKind.i64.wrap (Q - 1) = Q - 1 := IntWalk.i64_in _ (by omega)
  gi_wp2_with (gi_at_call 62; (with_reducible refine (hwd (HOP.out _ HB1.out)).mono ?_); intro e w2 hop; obtain ⟨p1, he, hb2, hc2⟩ := hop.any; rw [hvs] at he; subst he; obtain ⟨C1, S1, e1, hp1, hcode1⟩ := hc2 hvs; subst hp1; obtain ⟨-, x0, x1, x2, -⟩ := blk3 ((k3.ext hb2).alloc (.cells #[.pointer (some ⟨C1, 0, none⟩)] 109)); obtain ⟨-, c5, -⟩ := blk1 ((k5.ext hb2).alloc (.cells #[.pointer (some ⟨C1, 0, none⟩)] 109)))
  have hbA : Below w2.heap.size w2 (w2.alloc (.cells #[.pointer (some ⟨C1, 0, none⟩)] 109)) := (Below.refl _ _).alloc (Nat.le_refl _) _
  have HB2 := hide (HB1.out.trans (hb2.mono HB1.out.size))
  have K5 := hide ((k5.ext hb2).ext hbA)
  have K7 := hide (Blk.new w2 109 #[.pointer (some ⟨C1, 0, none⟩)])
  have HB3 := hide (HB2.out.trans (hbA.mono HB2.out.size))
  have HCR := hide ((hcode1.cr (HD.out.below HB1.out)).below hbA)
  have HS := hide hvs
  obtain ⟨b7, hb7⟩ : ∃ x, w2.heap.size = x := ⟨_, rfl⟩
  rw [hb7] at K7 ⊢
  clear hbA hb2 hc2 hcode1 k3 k5 hvs hb7 HOP HB1 HB2
  generalize (w2.alloc (.cells #[.pointer (some ⟨C1, 0, none⟩)] 109)) = w3 at K5 K7 HB3 HCR x0 x1 x2 c5 ⊢
  have HWT := within_any q 0 (Q - 1) w3
  simp only [wb] at HWT
  by_cases hq : 0 ≤ q ∧ q ≤ Q - 1
  rotate_left
  · rw [decide_eq_false hq] at HWT
    have HV : Hid (gpR s q = (0, 0, 3)) := hide (by unfold gpR; rw [if_pos HS.out, if_neg]; rw [HN.out.2.2]; exact hq)
    have HWT := hide HWT
    clear hq
    refine (hwd HWT.out).mono ?_
    rintro e _ ⟨rfl, rfl⟩
    gi_wp2_with fail
    refine ⟨.tuple #[.int .i64 0, .int .i64 0, .int .i64 3], by simp [results, Tryd.results30, go_sem], ?_⟩
    rw [HV.out]
    exact ⟨rfl, HB3.out⟩
  rw [decide_eq_true hq] at HWT
  have HV : Hid (gpR s q = (gpN s q 7 (pr s.fs s.fs.length), gpN s q 110 (pr s.fs s.fs.length), 0)) := hide (by unfold gpR; rw [if_pos HS.out, if_pos (by rw [HN.out.2.2]; exact hq)])
  have HWT := hide HWT
  clear hq
  refine (hwd HWT.out).mono ?_
  rintro e _ ⟨rfl, rfl⟩
  have M0 := CntAt.made w3
  have k7 := (K7.out.alloc (.map #[] 0)).alloc (.cells #[.map (some w3.heap.size)] 112)
  obtain ⟨-, z7, -⟩ := blk1 k7
  have hmm := @run_makeMap Tryd.prog
  gi_wp2_with fail
  refine (hwd (cases_any C1 _)).mono ?_
  rintro e w7 ⟨rfl, rfl⟩
  gi_wp2_with fail
  obtain ⟨M, hM⟩ : ∃ x, w3.heap.size = x := ⟨_, rfl⟩
  have hbA : Below w3.heap.size w3 (((w3.alloc (.map #[] 0)).alloc (.cells #[.map (some w3.heap.size)] 112)).alloc (.cells #[.pointer (some ⟨C1, 0, none⟩)] 109)) := (((Below.refl _ _).alloc (Nat.le_refl _) _).alloc (by simp) _).alloc (by simp only [World.size_alloc]; omega) _
  have hsz : (((w3.alloc (.map #[] 0)).alloc (.cells #[.map (some w3.heap.size)] 112)).alloc (.cells #[.pointer (some ⟨C1, 0, none⟩)] 109)).heap.size = M + 3 := by simp; omega
  have M7 := (M0.alloc (.cells #[.map (some w3.heap.size)] 112)).alloc (.cells #[.pointer (some ⟨C1, 0, none⟩)] 109)
  have T7 := (Blk.new (w3.alloc (.map #[] 0)) 112 #[.map (some w3.heap.size)]).alloc (.cells #[.pointer (some ⟨C1, 0, none⟩)] 109)
  have P7 := Blk.new ((w3.alloc (.map #[] 0)).alloc (.cells #[.map (some w3.heap.size)] 112)) 109 #[.pointer (some ⟨C1, 0, none⟩)]
  have e1' : (w3.alloc (.map #[] 0)).heap.size = M + 1 := by simp; omega
  have e2' : ((w3.alloc (.map #[] 0)).alloc (.cells #[.map (some w3.heap.size)] 112)).heap.size = M + 1 + 1 := by simp; omega
  rw [e1'] at T7
  rw [e2'] at P7
  have HCi : CiR (((w3.alloc (.map #[] 0)).alloc (.cells #[.map (some w3.heap.size)] 112)).alloc (.cells #[.pointer (some ⟨C1, 0, none⟩)] 109)) (M + 1 + 1) C1 d.fa nf d.fc s.fs := by
    have hc := HCR.out.below hbA
    have h0 := hc.c0
    rw [HN.out.1] at h0
    refine ⟨(blk1 P7).2.1, h0, fun k hk => ?_⟩
    obtain ⟨b, off, h1, -, h2⟩ := VR1.at_ hc.scr.fs (k := k) (by rw [HN.out.1]; exact hk)
    exact ⟨b, off, h1, h2⟩
  have hB7 := HB3.out.trans (hbA.mono HB3.out.size)
  have hnf5 : nf ≤ 5 := by have := HOK.out.nf5; rw [HN.out.1] at this; exact this
  have hnf1 : 1 ≤ nf := by have := HOK.out.nf1; rw [HN.out.1] at this; exact this
  try simp only [e1', e2', hM]
  rw [hM] at M7 T7 hsz hbA hB7 HCi
  have HCR3 := hide HCR.out
  have hM3 := hide hM
  clear z7 k7 x0 x1 x2 c5 e1' e2' P7 M0 hmm
  generalize (((w3.alloc (.map #[] 0)).alloc (.cells #[.map (some M)] 112)).alloc (.cells #[.pointer (some ⟨C1, 0, none⟩)] 109)) = w7 at M7 T7 hsz hbA hB7 HCi ⊢
  have hst := cases_seq F (9 - 1) hF hro (by omega) (M + 1 + 1) C1 d.fa nf d.fc s.fs w7 HCi (fun k hk => fsB_at HOK.out.fs k (by rw [HN.out.1]; exact hk)) hnf5 hnf1
  have hpr : pr s.fs nf ≤ 1024 := by
    have h1 := pr_le (fs := s.fs) nf (fun j hj => by have := fsB_at HOK.out.fs j (by rw [HN.out.1]; exact hj); unfold chF; omega)
    have h2 : 4 ^ nf ≤ 4 ^ 5 := Nat.pow_le_pow_right (by decide) hnf5
    exact Nat.le_trans h1 h2
  have hlo : w3.heap.size ≤ w7.heap.size := by rw [hM3.out, hsz]; omega
  refine wpIn_rangeFunc_memG hro (by omega) (gf := 80) (lb := #[.pointer (some ⟨M + 1 + 1, 0, none⟩)]) rfl (hF _) (enters_of Tryd.func80 (by kernel_rfl) rfl)
    hst (fun x W W' h hk => hk.blk h) (Below.refl _ _) (fun _ => rfl)
    (GpI s q w3 w7 M)
    (fun _ _ _ => False)
    ?hI ?hIx ⟨by rw [hM3.out]; exact hbA, T7, M7, Nat.le_refl _⟩ ?a1 ?hassign ?hbody ?hdone ?hstop
  case hI =>
    rintro pre W W' row ⟨h1, h2, h3, h4⟩ hg hr
    exact ⟨h1.grown hg h1.size (fun k hk => Nat.le_trans hlo (hr k hk)), h2.grown hg (fun e => by have := hr _ e.symm; omega), h3.kept hg (fun e => by have := hr _ e.symm; omega), Nat.le_trans h4 hg.size⟩
  case hIx =>
    intro c pre W W' row h
    exact h.elim
  case hassign =>
    intro l x W K hK
    gi_wp2_with fail
    exact hK
  case hbody =>
    rintro l pre x W ⟨h1, h2, h3, h4⟩ hR hlt
    have HLI : Hid (∀ W', Below W.heap.size W W' → LI W' W'.heap.size (some ⟨x.2, 0, none⟩) (clL s.fs x.1)) := hide fun W' hB => fun hn => by
      have hR' := hR.ext hB
      refine ⟨x.2, 0, rfl, hR'.lt, fun k i hk hi => ?_⟩
      rw [clL_len, HN.out.1] at hk
      obtain rfl : i = 0 := by omega
      rw [show 0 + k * 1 + 0 = k by omega, hR'.cell]
      unfold csV
      rw [rowV_get _ _ hk]
      dsimp only
      rw [clL_at s.fs x.1 (by rw [HN.out.1]; exact hk), HN.out.1]
    have hdg : ∀ k, k < nf → 0 ≤ (clL s.fs x.1).getD k 0 ∧ (clL s.fs x.1).getD k 0 ≤ 62 := fun k hk => by
      rw [clL_at s.fs x.1 (by rw [HN.out.1]; exact hk)]
      have h5 : ∀ j, j < s.fs.length → 1 ≤ s.fs.getD j 0 ∧ s.fs.getD j 0 ≤ 4 := fun j hj => fsB_at HOK.out.fs j hj
      have h6 := dg_bd (fs := s.fs) (n := s.fs.length) x.1 (fun j hj => by have := h5 j hj; unfold chF; omega) k (by rw [HN.out.1]; exact hk)
      have h7 := h5 k (by rw [HN.out.1]; exact hk)
      have h8 : (chF s.fs k : Int) = s.fs.getD k 0 := by unfold chF; omega
      omega
    have hin := dcF_in s (stF s) (clL s.fs x.1) q
    obtain ⟨⟨a1, a2, a3⟩, hr1⟩ : ∃ r, dcF s (stF s) (clL s.fs x.1) q = r := ⟨_, rfl⟩
    have hva : (vdF s q x.1).2 = a2 := by unfold vdF; rw [hr1]
    rw [hr1] at hin
    have hdc := decide_any C1 d S1 e1 s (stF s) (some ⟨x.2, 0, none⟩) nf (clL s.fs x.1) q W (HCR3.out.below h1) (fun k y => Nat.lt_trans (stF_lt HOK.out.fs k y) (by decide)) HOK.out.nr (by rw [clL_len, HN.out.1]; exact hnf5) (fun k hk => hdg k (by rw [clL_len, HN.out.1] at hk; exact hk)) (HLI.out W (Below.refl _ _))
    rw [clL_len, HN.out.1, hr1] at hdc
    have HDC := hide hdc
    have HH1 := hide h1
    have HT := hide h2
    have HC := hide h3
    have HSZ := hide h4
    have hpl : pre.length < 1024 := by omega
    obtain ⟨cn, hcn⟩ : ∃ y, cnE s q pre a2 = y := ⟨_, rfl⟩
    have hcb := cnE_bd s q pre a2
    rw [hcn] at hcb
    have wcn : IntKind.i64.wrap (cn + 1) = cn + 1 := IntWalk.i64_in _ (by omega)
    have hci : inI64 (cn + 1) := by unfold inI64; omega
    have HVA := hide hva
    have HCN := hide hcn
    obtain ⟨-, c7, -⟩ := blk1 (K7.out.ext h1)
    obtain ⟨-, c5, -⟩ := blk1 (K5.out.ext h1)
    clear hdc hdg hR HLI h1 h2 h3 h4 hlt hr1 hst HCi M7 T7 hva hcb
    gi_wp2_with fail
    refine (CallsIn.inRound l (hwd HDC.out)).mono ?_
    rintro e w9 ⟨v9, rfl, ho9, hb9⟩
    obtain ⟨A9, n9, rfl⟩ := own_shape ho9
    dsimp only
    have hbB := hb9.alloc hb9.size (.cells #[.int .i64 a1, .int .i64 a2] 117)
    obtain ⟨-, va0, va1, -⟩ := blk2 (Blk.new w9 117 #[.int .i64 a1, .int .i64 a2])
    have C10 := (HC.out.ext hb9).alloc (.cells #[.int .i64 a1, .int .i64 a2] 117)
    have T10 := (HT.out.ext hb9).alloc (.cells #[.int .i64 a1, .int .i64 a2] 117)
    obtain ⟨-, t10, -⟩ := blk1 T10
    have hlk := cnt_look C10 hin
    rw [hcn] at hlk
    obtain ⟨w11, hrun, hcnt, hg11⟩ := cnt_put C10 (by unfold maxLen; omega) hin hci
    have HCNT := hide hcnt
    have HG11 := hide hg11
    have HT10 := hide T10
    have HMP := hide C10.map
    have HBB := hide hbB
    clear C10 T10 hcnt hg11 ho9 hbB hcn
    gi_wp2_with fail
    have hms : M < w7.heap.size := by omega
    refine ⟨((keepsO HBB.out).from _).trans (KeepsFrom.of_grownBy HG11.out (fun j e => by injection e with e; omega)), (KC.of_below HBB.out).trans (KC.of_map HG11.out HMP.out), ?_, ?_, ?_, ?_⟩
    · exact (HH1.out.trans (HBB.out.mono HH1.out.size)).grown HG11.out (Nat.le_trans HH1.out.size HBB.out.size) (fun k e => by injection e with e; have := hM3.out; omega)
    · exact HT10.out.grown HG11.out (fun e => by injection e with e; omega)
    · have h := HCNT.out
      have e : (fun y => if y = a2 then cn + 1 else cnE s q pre y) = cnE s q (pre ++ [x]) := by
        funext z
        rw [cnE_add, HVA.out]
        by_cases hz : z = a2
        · rw [if_pos hz, if_pos hz.symm, hz, HCN.out]
        · rw [if_neg hz, if_neg (fun h => hz h.symm), Int.add_zero]
      rw [e] at h
      rw [List.length_append]
      exact h
    · exact Nat.le_trans HSZ.out (Nat.le_trans HBB.out.size HG11.out.size)
  case hdone =>
    rintro D xs W hD hxs ⟨h1, h2, h3, h4⟩ hK
    have e7 := cnE_all s q 7 _ xs hxs
    have e110 := cnE_all s q 110 _ xs hxs
    rw [← HN.out.1] at e7 e110
    obtain ⟨n7, hn7⟩ : ∃ y, gpN s q 7 (pr s.fs s.fs.length) = y := ⟨_, rfl⟩
    obtain ⟨n110, hn110⟩ : ∃ y, gpN s q 110 (pr s.fs s.fs.length) = y := ⟨_, rfl⟩
    rw [hn7] at e7
    rw [hn110] at e110
    have HNN := hide (And.intro hn7 hn110)
    have hcd := h3.ext (Below.refl W.heap.size W).drew
    have hlk7 := cnt_look hcd (z := 7) (by unfold inI64; decide)
    have hlk110 := cnt_look hcd (z := 110) (by unfold inI64; decide)
    rw [e7] at hlk7
    rw [e110] at hlk110
    have t10 := (blk1 (h2.ext (Below.refl W.heap.size W).drew)).2.1
    have hS : (W.drew.cell? ⟨M + 1, 0, none⟩ = some (.map (some M)) ∧ (Instr.lookup 112 (.map (some M)) (.int .i64 7) false).run Tryd.prog W.drew = .ok (.int .i64 n7) W.drew ∧ (Instr.lookup 112 (.map (some M)) (.int .i64 110) false).run Tryd.prog W.drew = .ok (.int .i64 n110) W.drew) := ⟨t10, hlk7, hlk110⟩
    have HBW := hide (HB3.out.trans ((h1.trans ((Below.refl W.heap.size W).drew.mono h1.size)).mono HB3.out.size))
    have hK' : W.drew.heap[D]? = some (.deferred (some [])) := hK
    have HKK := hide hK'
    have hDw : w.heap.size ≤ D := by have := hB7.size; omega
    clear h1 h2 h3 h4 hst HCi M7 T7 e7 e110 hxs hcd hlk7 hlk110 t10 hK hK' hn7 hn110
    gi_wp2_with fail
    refine wpIn_cut (fun _ a' w' => a' = { tmps := #[.agg #[.slice d.fa nf d.fc, .int .i64 Q, .slice d.ra nr d.rc], .int .i64 q, .pointer (some ⟨w.heap.size, 0, none⟩), .pointer (some ⟨w.heap.size + 1, 0, none⟩), .int .i64 n7, .int .i64 n110, .int .i64 0, .pointer (some ⟨b7, 0, none⟩), .bool true, .pointer (some ⟨M + 1, 0, none⟩), undef, undef, undef, .tuple #[.pointer (some ⟨C1, 0, none⟩), .bool true], .agg #[.slice d.fa nf d.fc, .int .i64 Q, .slice d.ra nr d.rc], .tuple #[.pointer (some ⟨C1, 0, none⟩), .bool true], .pointer (some ⟨C1, 0, none⟩), .bool true, .bool false, .bool true, .bool false, .bool false, .int .i64 q, .pointer (some ⟨w.heap.size, 1, none⟩), .int .i64 Q, .int .i64 (Q - 1), .bool true, .bool false, .map (some M), .pointer (some ⟨C1, 0, none⟩), .func (.func 80) #[] #[.pointer (some ⟨M + 1 + 1, 0, none⟩)], undef, undef, undef, undef, undef, undef, undef, undef, undef, undef, undef, undef, undef, .map (some M), .int .i64 n7, .map (some M), .int .i64 n110], defers := [{ target := .collected D, args := #[] }] } ∧ w' = W.drew) ?first ?rest
    case first =>
      refine wpIn_region_J (fun W : World => (W.cell? ⟨M + 1, 0, none⟩ = some (.map (some M)) ∧ (Instr.lookup 112 (.map (some M)) (.int .i64 7) false).run Tryd.prog W = .ok (.int .i64 n7) W ∧ (Instr.lookup 112 (.map (some M)) (.int .i64 110) false).run Tryd.prog W = .ok (.int .i64 n110) W)) (by kernel_rfl) ?_
      refine wpAnyJ_take 0 (v := ?_) (by first | exact hF | exact wideFn) hS rfl (by kernel_rfl) (by kernel_rfl) (by kernel_rfl) (by kernel_rfl) rfl ?_ (by first | exact fun _ _ _ h => h | exact fun _ _ _ h => hQ2 _ _ _ _ _ h) ?_
      rotate_left
      · intro W hSW
        simp only [glA, glB, glC]
        (try dsimp only at hSW)
        go_simp
        with_reducible rfl
      (try simp only [glA, glB, glC, Act.put, glD, glE, glF])
      refine wpAnyJ_take 1 (v := ?_) (by first | exact hF | exact wideFn) hS rfl (by kernel_rfl) (by kernel_rfl) (by kernel_rfl) (by kernel_rfl) rfl ?_ (by first | exact fun _ _ _ h => h | exact fun _ _ _ h => hQ2 _ _ _ _ _ h) ?_
      rotate_left
      · intro W hSW
        simp only [glA, glB, glC]
        (try dsimp only at hSW)
        go_simp
        with_reducible rfl
      (try simp only [glA, glB, glC, Act.put, glD, glE, glF])
      refine wpAnyJ_take 2 (v := ?_) (by first | exact hF | exact wideFn) hS rfl (by kernel_rfl) (by kernel_rfl) (by kernel_rfl) (by kernel_rfl) rfl ?_ (by first | exact fun _ _ _ h => h | exact fun _ _ _ h => hQ2 _ _ _ _ _ h) ?_
      rotate_left
      · intro W hSW
        simp only [glA, glB, glC]
        (try dsimp only at hSW)
        go_simp
        with_reducible rfl
      (try simp only [glA, glB, glC, Act.put, glD, glE, glF])
      refine wpAnyJ_take 3 (v := ?_) (by first | exact hF | exact wideFn) hS rfl (by kernel_rfl) (by kernel_rfl) (by kernel_rfl) (by kernel_rfl) rfl ?_ (by first | exact fun _ _ _ h => h | exact fun _ _ _ h => hQ2 _ _ _ _ _ h) ?_
      rotate_left
      · intro W hSW
        simp only [glA, glB, glC]
        (try dsimp only at hSW)
        go_simp
        with_reducible rfl
      (try simp only [glA, glB, glC, Act.put, glD, glE, glF])
      refine wpAnyJ_take 4 (v := ?_) (by first | exact hF | exact wideFn) hS rfl (by kernel_rfl) (by kernel_rfl) (by kernel_rfl) (by kernel_rfl) rfl ?_ (by first | exact fun _ _ _ h => h | exact fun _ _ _ h => hQ2 _ _ _ _ _ h) ?_
      rotate_left
      · intro W hSW
        simp only [glA, glB, glC]
        (try dsimp only at hSW)
        go_simp
        with_reducible rfl
      (try simp only [glA, glB, glC, Act.put, glD, glE, glF])
      refine wpAnyJ_take 5 (v := ?_) (by first | exact hF | exact wideFn) hS rfl (by kernel_rfl) (by kernel_rfl) (by kernel_rfl) (by kernel_rfl) rfl ?_ (by first | exact fun _ _ _ h => h | exact fun _ _ _ h => hQ2 _ _ _ _ _ h) ?_
      rotate_left
      · intro W hSW
        simp only [glA, glB, glC]
        (try dsimp only at hSW)
        go_simp
        with_reducible rfl
      (try simp only [glA, glB, glC, Act.put, glD, glE, glF])
      refine wpAnyJ_take 6 (v := ?_) (by first | exact hF | exact wideFn) hS rfl (by kernel_rfl) (by kernel_rfl) (by kernel_rfl) (by kernel_rfl) rfl ?_ (by first | exact fun _ _ _ h => h | exact fun _ _ _ h => hQ2 _ _ _ _ _ h) ?_
      rotate_left
      · intro W hSW
        simp only [glA, glB, glC]
        (try dsimp only at hSW)
        go_simp
        with_reducible rfl
      (try simp only [glA, glB, glC, Act.put, glD, glE, glF])
      refine wpAnyJ_done (by kernel_rfl) ?_
      exact ⟨rfl, rfl⟩
    case rest =>
     rintro a' w' ⟨rfl, rfl⟩
     generalize W.drew = wd at hS HBW HKK ⊢
     gi_wp2_with fail
     refine ⟨by simp, .inl ⟨_, _, rfl, run_takeDeferred HKK.out, ?_⟩⟩
     refine ⟨.tuple #[.int .i64 n7, .int .i64 n110, .int .i64 0], by simp [results, Tryd.results30, go_sem], ?_⟩
     rw [HV.out, HNN.out.1, HNN.out.2]
     exact ⟨rfl, HBW.out.trans (belowK_b (w := w) (Nat.le_refl _) _ D _ _ hDw HKK.out rfl rfl)⟩
  case hstop =>
    intro D c pre W hD hS h
    exact h.elim
end Go.Proofs.YtmpegkojencbjaaDoor
/- School, plain: what Differ, Gaps and Decide have to do with each other; the case before a case; an own list of numbers that is written. -/
namespace Go.Proofs.YtmpegkojencbjaaDoor
open Go Go.RowKit Go.Shelf
set_option maxHeartbeats 4000000
set_option maxRecDepth 100000
theorem dfK_comm (s t : Sch) (q : Int) : ∀ n, dfK s t q n = dfK t s q n
  | 0 => rfl
  | n + 1 => by
    show (match dfK s t q n with | some k => some k | none => if vdF s q n = vdF t q n then none else some n) = (match dfK t s q n with | some k => some k | none => if vdF t q n = vdF s q n then none else some n)
    rw [dfK_comm s t q n]
    cases dfK t s q n with
    | some k => rfl
    | none =>
      by_cases h : vdF s q n = vdF t q n
      · simp only [h, if_true]
      · simp only [h, if_false]
        rw [if_neg (fun e => h e.symm)]
theorem dfR_comm (s t : Sch) (q : Int) : dfR s t q = dfR t s q := by
  unfold dfR
  rw [Bool.and_comm, Int.min_comm]
  by_cases h : s.fs = t.fs
  · rw [if_pos h, if_pos h.symm, dfK_comm s t q, h]
  · have h' : ¬ t.fs = s.fs := fun e => h e.symm
    simp only [if_neg h, if_neg h']
theorem dfK_is {s t : Sch} {q : Int} : ∀ n, (dfK s t q n = none ∧ ∀ k, k < n → vdF s q k = vdF t q k) ∨ ∃ k, k < n ∧ dfK s t q n = some k ∧ vdF s q k ≠ vdF t q k ∧ ∀ j, j < k → vdF s q j = vdF t q j
  | 0 => .inl ⟨rfl, fun k hk => absurd hk (by omega)⟩
  | n + 1 => by
    rcases dfK_is (s := s) (t := t) (q := q) n with ⟨h1, h2⟩ | ⟨k, hk, h1, h2, h3⟩
    · by_cases h : vdF s q n = vdF t q n
      · have hall : ∀ k, k < n + 1 → vdF s q k = vdF t q k := fun k hk => by
          rcases (by omega : k < n ∨ k = n) with h4 | rfl
          · exact h2 k h4
          · exact h
        exact .inl ⟨dfK_none hall, hall⟩
      · exact .inr ⟨n, by omega, dfK_some h2 h (by omega), h, h2⟩
    · exact .inr ⟨k, by omega, dfK_some h3 h2 (by omega), h2, h3⟩
theorem dfR_cases {s t : Sch} {q : Int} (hs : schB s = true) (ht : schB t = true) :
    dfR s t q = ([], 3) ∨ dfR s t q = ([], 4) ∨ (0 ≤ q ∧ q ≤ min s.q t.q - 1 ∧ s.fs = t.fs ∧
      ((dfR s t q = ([], 7) ∧ ∀ k, k < pr s.fs s.fs.length → vdF s q k = vdF t q k) ∨
        ∃ k, k < pr s.fs s.fs.length ∧ dfR s t q = (clL s.fs k, 0) ∧ vdF s q k ≠ vdF t q k ∧ ∀ j, j < k → vdF s q j = vdF t q j)) := by
  have hst : (schB s && schB t) = true := by rw [hs, ht]; rfl
  by_cases hq : 0 ≤ q ∧ q ≤ min s.q t.q - 1
  · by_cases hf : s.fs = t.fs
    · refine .inr (.inr ⟨hq.1, hq.2, hf, ?_⟩)
      rcases dfK_is (s := s) (t := t) (q := q) (pr s.fs s.fs.length) with ⟨h1, h2⟩ | ⟨k, hk, h1, h2, h3⟩
      · exact .inl ⟨dfR_none hst hq hf h1, h2⟩
      · exact .inr ⟨k, hk, dfR_some hst hq hf h1, h2, h3⟩
    · refine .inr (.inl ?_)
      unfold dfR
      rw [if_pos hst, if_pos hq, if_neg hf]
  · refine .inl ?_
    unfold dfR
    rw [if_pos hst, if_neg hq]
theorem dfR_self {s : Sch} {q : Int} (hs : schB s = true) : (dfR s s q).2 = 3 ∨ (dfR s s q).2 = 7 := by
  rcases dfR_cases (q := q) hs hs with h | h | ⟨-, -, -, h | ⟨k, -, -, h, -⟩⟩
  · rw [h]; exact .inl rfl
  · exfalso
    have hst : (schB s && schB s) = true := by rw [hs]; rfl
    unfold dfR at h
    rw [if_pos hst] at h
    by_cases hq : 0 ≤ q ∧ q ≤ min s.q s.q - 1
    · rw [if_pos hq, if_pos rfl] at h
      cases hk : dfK s s q (pr s.fs s.fs.length) with
      | none => rw [hk] at h; injection h with _ h; exact absurd h (by decide)
      | some k => rw [hk] at h; injection h with _ h; exact absurd h (by decide)
    · rw [if_neg hq] at h; injection h with _ h; exact absurd h (by decide)
  · rw [h.1]; exact .inr rfl
  · exact absurd rfl h
theorem gpN_eq {s t : Sch} {q z : Int} : ∀ n, (∀ k, k < n → vdF s q k = vdF t q k) → gpN s q z n = gpN t q z n
  | 0, _ => rfl
  | n + 1, h => by
    show gpN s q z n + _ = gpN t q z n + _
    rw [gpN_eq n (fun k hk => h k (by omega)), h n (by omega)]
theorem min_le {a b q : Int} (h : q ≤ min a b - 1) : q ≤ a - 1 ∧ q ≤ b - 1 := by omega
theorem gpR_eq {s t : Sch} {q : Int} (hs : schB s = true) (ht : schB t = true) (h0 : 0 ≤ q) (h1 : q ≤ min s.q t.q - 1) (hf : s.fs = t.fs) (h : ∀ k, k < pr s.fs s.fs.length → vdF s q k = vdF t q k) : gpR s q = gpR t q ∧ (gpR s q).2.2 = 0 := by
  obtain ⟨h2, h3⟩ := min_le h1
  unfold gpR
  rw [if_pos hs, if_pos ht, if_pos ⟨h0, h2⟩, if_pos ⟨h0, h3⟩, ← hf, gpN_eq _ h, gpN_eq _ h]
  exact ⟨rfl, rfl⟩
theorem cl_case {fs : List Int} (hf : fsB fs = true) (k : Nat) : icB fs (clL fs k) = true := by
  have h5 : ∀ j, j < fs.length → 1 ≤ fs.getD j 0 ∧ fs.getD j 0 ≤ 4 := fun j hj => fsB_at hf j hj
  have key : ∀ n, n ≤ fs.length → csB (clL fs k) fs n = true := fun n => by
    induction n with
    | zero => intro _; rfl
    | succ n ih =>
      intro hn
      show (csB (clL fs k) fs n && decide _) = true
      rw [ih (by omega), Bool.true_and]
      refine decide_eq_true ?_
      rw [clL_at fs k (by omega)]
      have h6 := dg_bd (fs := fs) (n := fs.length) k (fun j hj => by have := h5 j hj; unfold chF; omega) n (by omega)
      have h7 := h5 n (by omega)
      have h8 : (chF fs n : Int) = fs.getD n 0 := by unfold chF; omega
      omega
  unfold icB
  rw [decide_eq_true (clL_len fs k), key _ (Nat.le_refl _)]; rfl
theorem decR_at {s : Sch} {q : Int} (hs : schB s = true) (h0 : 0 ≤ q) (h1 : q ≤ s.q - 1) (k : Nat) : ((decR s (clL s.fs k) q).1, (decR s (clL s.fs k) q).2.1) = vdF s q k := by
  unfold decR vdF
  rw [if_pos hs, if_pos ⟨h0, h1⟩, if_pos (cl_case (schB_ok hs).fs k)]
/-- the last of n numbers of which P is not true -/
theorem last_no (P : Nat → Bool) : ∀ n, (∀ j, j < n → P j = true) ∨ ∃ i, i < n ∧ P i = false ∧ ∀ j, i < j → j < n → P j = true
  | 0 => .inl fun j hj => absurd hj (by omega)
  | n + 1 => by
    cases hp : P n with
    | false => exact .inr ⟨n, by omega, hp, fun j h1 h2 => absurd h1 (by omega)⟩
    | true =>
      rcases last_no P n with h | ⟨i, hi, h1, h2⟩
      · refine .inl fun j hj => ?_
        rcases (by omega : j < n ∨ j = n) with h3 | rfl
        · exact h j h3
        · exact hp
      · refine .inr ⟨i, by omega, h1, fun j h3 h4 => ?_⟩
        rcases (by omega : j < n ∨ j = n) with h5 | rfl
        · exact h2 j h3 h5
        · exact hp
/-- the case before a case: the last choice that is not 0 is one less, what stands behind it is the last one -/
theorem dg_pred {fs : List Int} {n k : Nat} (h1 : ∀ j, j < n → 1 ≤ chF fs j) (hk : k + 1 < pr fs n) {i : Nat} (hi : i < n) (hne : dg fs n (k + 1) i ≠ 0) (hz : ∀ j, i < j → j < n → dg fs n (k + 1) j = 0) :
    ∀ j, j < n → dg fs n k j = if j < i then dg fs n (k + 1) j else if j = i then dg fs n (k + 1) i - 1 else (chF fs j : Int) - 1 := by
  rcases last_no (fun j => decide (dg fs n k j = (chF fs j : Int) - 1)) n with h | ⟨m, hm, h2, h3⟩
  · have := nxt_end h1 (by omega) (fun j hj => of_decide_eq_true (h j hj))
    omega
  · obtain ⟨-, h4⟩ := nxt_some h1 (by omega) hm (of_decide_eq_false h2) (fun j h5 h6 => of_decide_eq_true (h3 j h5 h6))
    have h5 := h4 m hm
    rw [if_neg (by omega), if_pos rfl] at h5
    have h6 := dg_bd (fs := fs) (n := n) k h1
    have hmi : m = i := by
      rcases Nat.lt_trichotomy m i with h7 | h7 | h7
      · have h8 := h4 i hi
        rw [if_neg (by omega), if_neg (by omega)] at h8
        exact absurd h8 hne
      · exact h7
      · have h8 := hz m h7 hm
        have := h6 m hm
        omega
    subst hmi
    intro j hj
    have h9 := h4 j hj
    rcases Nat.lt_trichotomy j m with h7 | h7 | h7
    · rw [if_pos h7] at h9 ⊢
      exact h9.symm
    · subst h7
      rw [if_neg (by omega), if_pos rfl]
      omega
    · rw [if_neg (by omega), if_neg (by omega)]
      exact of_decide_eq_true (h3 j h7 hj)
/-- a list by its places -/
def lsF (n : Nat) (f : Nat → Int) : List Int := (List.range n).map f
theorem lsF_len (n : Nat) (f : Nat → Int) : (lsF n f).length = n := by unfold lsF; simp
theorem lsF_at (n : Nat) (f : Nat → Int) {k : Nat} (hk : k < n) : (lsF n f).getD k 0 = f k := by
  unfold lsF
  rw [List.getD_eq_getElem?_getD, List.getElem?_map, List.getElem?_range hk]; rfl
theorem lsF_congr {n : Nat} {f g : Nat → Int} (h : ∀ k, k < n → f k = g k) : lsF n f = lsF n g := by
  unfold lsF
  exact List.map_congr_left fun k hk => h k (List.mem_range.1 hk)
theorem clL_ls (fs : List Int) (k : Nat) : clL fs k = lsF fs.length (dg fs fs.length k) := rfl
/-- an own list that is written at one place -/
theorem OwnJ.put {W : World} {base g c n : Nat} {f : Nat → Int} (h : OwnJ W base (.slice (some ⟨g, 0, none⟩) n c) (lsF n f)) {i : Nat} (hi : i < n) (x : Int) :
    OwnJ (W.setCell ⟨g, i, none⟩ (.int .i64 x)) base (.slice (some ⟨g, 0, none⟩) n c) (lsF n (upd f i x)) := by
  obtain ⟨h1, h2⟩ := h
  rw [lsF_len] at h1 h2
  refine ⟨by rw [intJ_len, Nat.mul_one], ?_⟩
  rw [lsF_len]
  rcases h2 with ⟨h2, -⟩ | ⟨g', cap, cur, h2, h3, h4, h5, h6, h7, h8⟩
  · injection h2 with h2; cases h2
  · injection h2 with e1 e2 e3
    injection e1 with e1
    injection e1 with e1
    subst e1 e3
    refine .inr ⟨g, c, cur.setIfInBounds i (.int .i64 x), rfl, h3, Blk.set_ (t := 3) h4 i _, h5, h6, by simpa using h7, ?_⟩
    apply List.ext_getElem?
    intro j
    rw [List.getElem?_take]
    by_cases hj : j < n * 1
    · rw [if_pos hj, Array.getElem?_toList, Array.getElem?_setIfInBounds]
      have hsz : cur.size = c := by rw [h7, Nat.mul_one]
      have hr : (intJ (lsF n (upd f i x)))[j]? = some (.int .i64 (upd f i x j)) := by
        rw [intJ_at _ (by rw [lsF_len]; omega), lsF_at _ _ (by omega)]
      rw [hr]
      by_cases e : i = j
      · subst e
        rw [if_pos rfl, if_pos (by omega), upd_same]
      · rw [if_neg e, upd_ne _ _ (fun h => e h.symm)]
        have h9 : (cur.toList.take (n * 1))[j]? = (intJ (lsF n f))[j]? := by rw [h8]
        rw [List.getElem?_take, if_pos hj, Array.getElem?_toList, intJ_at _ (by rw [lsF_len]; omega), lsF_at _ _ (by omega)] at h9
        exact h9
    · rw [if_neg hj, List.getElem?_eq_none (by rw [intJ_len, lsF_len]; omega)]
theorem OwnJ.cell_at {W : World} {base n c : Nat} {A : Option Addr} {f : Nat → Int} (h : OwnJ W base (.slice A n c) (lsF n f)) (hn : 0 < n) :
    ∃ g, A = some ⟨g, 0, none⟩ ∧ base ≤ g ∧ g < W.heap.size ∧ ∀ i, i < n → W.cell? ⟨g, i, none⟩ = some (.int .i64 (f i)) ∧ W.frozen? ⟨g, i, none⟩ = false := by
  obtain ⟨-, h2⟩ := h
  rw [lsF_len] at h2
  rcases h2 with ⟨-, h3⟩ | ⟨g, cap, cur, h2, h3, h4, h5, h6, h7, h8⟩
  · omega
  · injection h2 with e1
    have hb : Blk W g 3 cur := h4
    refine ⟨g, e1, h3, hb.lt, fun i hi => ⟨?_, hb.frozen i⟩⟩
    have h9 : (cur.toList.take (n * 1))[i]? = (intJ (lsF n f))[i]? := by rw [h8]
    rw [List.getElem?_take, if_pos (by omega), Array.getElem?_toList, intJ_at _ (by rw [lsF_len]; exact hi), lsF_at _ _ hi] at h9
    rw [hb.cell, h9]
end Go.Proofs.YtmpegkojencbjaaDoor
