/- Chapter 8, the reference: the book, its list of kinds; All, with. -/
import Derived.Test.YtlhekifmkkgjlaaBooksE
import Derived.Deep.CutBlock
import Derived.Deep.DeepCutAuto
set_option linter.unusedSimpArgs false
set_option linter.unusedVariables false
set_option linter.unnecessarySimpa false
namespace Go.Proofs.Ytlhekifmkkgjlaa
open Go Go.RowKit Go.Shelf
set_option maxHeartbeats 4000000
set_option maxRecDepth 100000
theorem info_wares : (Try.prog.info? 94).map (fun i => (i.zero, i.size, i.bytes)) = some (some (.agg #[.int .i64 0, .int .i64 0, .int .i64 0, .int .i64 0, .int .i64 0, .int .i64 0, .int .i64 0]), 7, 56) := by kernel_rfl
/-- a list of n kinds in block g -/
def WL (w : World) (g n : Nat) (ws : Nat → Wa) : Prop := (∃ cs : Array Value, Blk w g 94 cs) ∧ ∀ k, k < n → KindW w g (k * 7) (ws k)
def waV (x : Wa) (i : Nat) : Value := .int .i64 (x.get i)
section
variable {w w' : World} {g n : Nat} {ws : Nat → Wa}
theorem WL.lt (h : WL w g n ws) : g < w.heap.size := by obtain ⟨⟨cs, hc⟩, -⟩ := h; exact hc.lt
theorem WL.below {B : Nat} (h : WL w g n ws) (hb : Below B w w') (hg : g < B) : WL w' g n ws := by
  obtain ⟨⟨cs, hc⟩, hk⟩ := h
  exact ⟨⟨cs, hc.below hb hg⟩, fun k hkn => (hk k hkn).below hb hg⟩
theorem WL.ext (h : WL w g n ws) (hb : Below w.heap.size w w') : WL w' g n ws := h.below hb h.lt
theorem WL.grown (h : WL w g n ws) {row : Option Nat} (hg : w.grownBy w' row) (hr : some g ≠ row) : WL w' g n ws := by
  obtain ⟨⟨cs, hc⟩, hK⟩ := h
  have hc' := hc.grown hg hr
  refine ⟨⟨cs, hc'⟩, fun k hk => ?_⟩
  have h1 := KindW_iff.1 (hK k hk)
  refine KindW_iff.2 ⟨hc'.lt, fun j => hc'.frozen j, fun j hj => ?_⟩
  rw [hc'.cell, ← hc.cell]
  exact h1.2.2 j hj
theorem WL.same {ws' : Nat → Wa} (h : WL w g n ws) (e : ∀ k, k < n → ws k = ws' k) : WL w g n ws' := ⟨h.1, fun k hk => e k hk ▸ h.2 k hk⟩
theorem WL.er (h : WL w g n ws) : ER w w.heap.size 7 (some ⟨g, 0, none⟩) n (fun k i => waV (ws k) i) := fun _ => ⟨g, 0, rfl, h.lt, fun k i hk hi => by
  have h1 := (KindW_iff.1 (h.2 k hk)).2.2 i hi
  simpa [waV] using h1⟩
theorem WL.set (h : WL w g n ws) {k i : Nat} (hk : k < n) (hi : i < 7) (v : Int) : WL (w.setCell ⟨g, k * 7 + i, none⟩ (.int .i64 v)) g n (upd ws k ((ws k).put i v)) := by
  obtain ⟨⟨cs, hc⟩, hK⟩ := h
  refine ⟨⟨_, hc.set_ _ _⟩, fun k' hk' => ?_⟩
  have h1 := KindW_iff.1 (hK k' hk')
  have h2 := KindW_iff.1 (hK k hk)
  refine KindW_iff.2 ⟨by rw [size_set]; exact h1.1, fun j => by rw [World.frozen?_setCell]; exact h1.2.1 j, fun j hj => ?_⟩
  by_cases e : k' = k
  · subst e
    rw [upd_same, Wa.get_put _ hi hj]
    by_cases ej : j = i
    · subst ej
      rw [if_pos rfl]
      exact World.cell?_setCell_same' _ _ _ (by rw [h2.2.2 j hj]; rfl)
    · rw [if_neg ej, World.cell?_setCell_other _ _ _ _ (fun h => by injection h; omega)]
      exact h1.2.2 j hj
  · rw [upd_ne _ _ e, World.cell?_setCell_other _ _ _ _ (fun h => by injection h; omega)]
    exact h1.2.2 j hj
theorem WL.of_own {base c : Nat} {A : Option Addr} (h : w.ownsRow base 94 7 (.slice A n c) n (cellsOf 7 n fun k i => waV (ws k) i)) (hn : 0 < n) : ∃ g, A = some ⟨g, 0, none⟩ ∧ base ≤ g ∧ WL w g n ws := by
  rcases h.2 with ⟨h1, -⟩ | ⟨b, cap, cur, hv, hb, hh, hnc, -⟩
  · injection h1 with h1 h2 h3; omega
  · injection hv with h1 h2 h3
    subst h1
    have hB : Blk w b 94 cur := hh
    refine ⟨b, rfl, hb, ⟨cur, hB⟩, fun k hk => KindW_iff.2 ⟨hB.lt, fun j => hB.frozen j, fun i hi => ?_⟩⟩
    have := h.cells (g := b) rfl (k * 7 + i) _ (cellsOf_get 7 n _ k i hk hi)
    rw [add_lit'] at this
    simpa [waV] using this
end
def set7At (W : World) (g o : Nat) (x : Wa) : World := ((((((W.setCell ⟨g, o, none⟩ (.int .i64 x.wet)).setCell ⟨g, o + 1, none⟩ (.int .i64 x.dry)).setCell ⟨g, o + 2, none⟩ (.int .i64 x.burning)).setCell ⟨g, o + 3, none⟩ (.int .i64 x.fired)).setCell ⟨g, o + 4, none⟩ (.int .i64 x.laid)).setCell ⟨g, o + 5, none⟩ (.int .i64 x.broken)).setCell ⟨g, o + 6, none⟩ (.int .i64 x.missing)
theorem put7 (x y : Wa) : ((((((y.put 0 x.wet).put 1 x.dry).put 2 x.burning).put 3 x.fired).put 4 x.laid).put 5 x.broken).put 6 x.missing = x := by
  cases x; cases y; rfl
theorem WL.set7 {w : World} {g n k : Nat} {ws : Nat → Wa} (h : WL w g n ws) (hk : k < n) (x : Wa) : WL (set7At w g (k * 7) x) g n (upd ws k x) := by
  have h7 := ((((((h.set (i := 0) hk (by omega) x.wet).set (k := k) (i := 1) hk (by omega) x.dry).set (k := k) (i := 2) hk (by omega) x.burning).set (k := k) (i := 3) hk (by omega) x.fired).set (k := k) (i := 4) hk (by omega) x.laid).set (k := k) (i := 5) hk (by omega) x.broken).set (k := k) (i := 6) hk (by omega) x.missing
  simp only [upd_upd, upd_same, put7] at h7
  exact h7
theorem size_set7At (W : World) (g o : Nat) (x : Wa) : (set7At W g o x).heap.size = W.heap.size := by simp [set7At, size_set]
theorem grown_set7At {w W : World} {g : Nat} (h : w.grownBy W (some g)) (o : Nat) (x : Wa) : w.grownBy (set7At W g o x) (some g) :=
  grownBy_setS (grownBy_setS (grownBy_setS (grownBy_setS (grownBy_setS (grownBy_setS (grownBy_setS h _ _) _ _) _ _) _ _) _ _) _ _) _ _
theorem set7At_B {B g o : Nat} {x : Wa} {w W : World} (h : Below B w W) (hg : B ≤ g) : Below B w (set7At W g o x) :=
  ((((((h.setCell (p := ⟨g, o, none⟩) hg _).setCell (p := ⟨g, o + 1, none⟩) hg _).setCell (p := ⟨g, o + 2, none⟩) hg _).setCell (p := ⟨g, o + 3, none⟩) hg _).setCell (p := ⟨g, o + 4, none⟩) hg _).setCell (p := ⟨g, o + 5, none⟩) hg _).setCell (p := ⟨g, o + 6, none⟩) hg _
def set5 (W : World) (g : Nat) (a b c d e : Value) : World := ((((W.setCell ⟨g, 0, none⟩ a).setCell ⟨g, 1, none⟩ b).setCell ⟨g, 2, none⟩ c).setCell ⟨g, 3, none⟩ d).setCell ⟨g, 4, none⟩ e
theorem grown_set5 (W : World) (g : Nat) (a b c d e : Value) : W.grownBy (set5 W g a b c d e) (some g) := grownBy_setS (grownBy_setS (grownBy_setS (grownBy_setS (grownBy_setS (World.grownBy.refl W _) _ _) _ _) _ _) _ _) _ _
theorem set5_B {B g : Nat} {w W : World} (h : Below B w W) (hg : B ≤ g) (a b c d e : Value) : Below B w (set5 W g a b c d e) :=
  ((((h.setCell (p := ⟨g, 0, none⟩) hg _).setCell (p := ⟨g, 1, none⟩) hg _).setCell (p := ⟨g, 2, none⟩) hg _).setCell (p := ⟨g, 3, none⟩) hg _).setCell (p := ⟨g, 4, none⟩) hg _
theorem set5_blk {W : World} {g : Nat} {t : TypeId} {a b c d e a' b' c' d' e' : Value} (h : Blk W g t #[a', b', c', d', e']) : Blk (set5 W g a b c d e) g t #[a, b, c, d, e] := by
  unfold set5
  simpa using ((((h.set_ 0 a).set_ 1 b).set_ 2 c).set_ 3 d).set_ 4 e
theorem size_set5 (W : World) (g : Nat) (a b c d e : Value) : (set5 W g a b c d e).heap.size = W.heap.size := by simp [set5, size_set]
theorem refAll_any (x : Wa) (w : World) (ho : OkW x) : Calls Try.prog 78 #[agg7 x] w fun e w' => e = .returned (.int .i64 x.sum) ∧ Below w.heap.size w w' := by
  obtain ⟨a, b, c, d, e, f, g⟩ := x
  obtain ⟨o1, o2, o3, o4, o5, o6, o7, o8, o9⟩ := ho
  dsimp only at o1 o2 o3 o4 o5 o6 o7 o8 o9
  unfold agg7 Wa.sum
  dsimp only
  go_enter Try.func78, Try.ntmps78
  go_wp2_with fail
  go_ret
  exact ⟨rfl, (Below.refl _ _).alloc (Nat.le_refl _) _⟩
/-- the value of a book of the reference -/
def bkV (SA : Option Addr) (n sc : Nat) (room : Int) (WA : Option Addr) (wc : Nat) (BA : Option Addr) (m bc : Nat) : Value := .agg #[.bool false, .slice SA n sc, .int .i64 room, .slice WA n wc, .slice BA m bc]
theorem cells7_one (n : Nat) (ws : Nat → Wa) : ∀ u ∈ cellsOf 7 n (fun k i => waV (ws k) i), u.oneCell' = true := by
  intro u hu
  unfold cellsOf at hu
  obtain ⟨j, -, rfl⟩ := List.mem_map.1 hu
  rfl
def WithPost (SA : Option Addr) (n sc : Nat) (room : Int) (BA : Option Addr) (m bc : Nat) (ws : Nat → Wa) (w : World) (e : Ending) (w' : World) : Prop :=
  ∃ g' c', e = .returned (bkV SA n sc room (some ⟨g', 0, none⟩) c' BA m bc) ∧ WL w' g' n ws ∧ w.heap.size ≤ g' ∧ Below w.heap.size w w'
theorem bx5' {w : World} {p : Nat} {t : TypeId} {a b c d e : Value} (h : Blk w p t #[a, b, c, d, e]) : p < w.heap.size ∧ w.cell? ⟨p, 0, none⟩ = some a ∧ w.cell? ⟨p, 1, none⟩ = some b ∧ w.cell? ⟨p, 2, none⟩ = some c ∧ w.cell? ⟨p, 3, none⟩ = some d ∧ w.cell? ⟨p, 4, none⟩ = some e ∧
    w.frozen? ⟨p, 0, none⟩ = false ∧ w.frozen? ⟨p, 1, none⟩ = false ∧ w.frozen? ⟨p, 2, none⟩ = false ∧ w.frozen? ⟨p, 3, none⟩ = false ∧ w.frozen? ⟨p, 4, none⟩ = false := by
  obtain ⟨h0, h1, h2, h3, h4, h5⟩ := bx5 h
  exact ⟨h0, h1, h2, h3, h4, h5, h.frozen 0, h.frozen 1, h.frozen 2, h.frozen 3, h.frozen 4⟩
theorem refWith_any (SA : Option Addr) (n sc : Nat) (room : Int) (g wc : Nat) (BA : Option Addr) (m bc k : Nat) (x : Wa) (ws : Nat → Wa) (w : World) (hW : WL w g n ws) (hn : n ≤ 20) (hk : k < n) :
    Calls Try.prog 79 #[bkV SA n sc room (some ⟨g, 0, none⟩) wc BA m bc, .int .i64 k, agg7 x] w (WithPost SA n sc room BA m bc (upd ws k x) w) := by
  obtain ⟨i0, hi, hz0, hz1, hz2⟩ := info_parts info_wares
  have HI := hide (show _ ∧ _ ∧ _ ∧ _ from ⟨hi, hz0, hz1, hz2⟩)
  have HB0 := hide ((((Below.refl w.heap.size w).alloc (Nat.le_refl _) (.cells #[.bool false, .slice SA n sc, .int .i64 room, .slice (some ⟨g, 0, none⟩) n wc, .slice BA m bc] 87)).alloc (by simp) (.cells #[.int .i64 x.wet, .int .i64 x.dry, .int .i64 x.burning, .int .i64 x.fired, .int .i64 x.laid, .int .i64 x.broken, .int .i64 x.missing] 94)).alloc (by simp only [World.size_alloc]; omega) (.cells #[.bool false, .slice none 0 0, .int .i64 0, .slice none 0 0, .slice none 0 0] 87))
  have K3 := hide (((Blk.new w 87 #[.bool false, .slice SA n sc, .int .i64 room, .slice (some ⟨g, 0, none⟩) n wc, .slice BA m bc]).alloc (.cells #[.int .i64 x.wet, .int .i64 x.dry, .int .i64 x.burning, .int .i64 x.fired, .int .i64 x.laid, .int .i64 x.broken, .int .i64 x.missing] 94)).alloc (.cells #[.bool false, .slice none 0 0, .int .i64 0, .slice none 0 0, .slice none 0 0] 87))
  have K5 : Hid (Blk (((w.alloc (.cells #[.bool false, .slice SA n sc, .int .i64 room, .slice (some ⟨g, 0, none⟩) n wc, .slice BA m bc] 87)).alloc (.cells #[.int .i64 x.wet, .int .i64 x.dry, .int .i64 x.burning, .int .i64 x.fired, .int .i64 x.laid, .int .i64 x.broken, .int .i64 x.missing] 94)).alloc (.cells #[.bool false, .slice none 0 0, .int .i64 0, .slice none 0 0, .slice none 0 0] 87)) (w.heap.size + 1) 94 #[.int .i64 x.wet, .int .i64 x.dry, .int .i64 x.burning, .int .i64 x.fired, .int .i64 x.laid, .int .i64 x.broken, .int .i64 x.missing]) := hide (by simpa using (Blk.new (w.alloc (.cells #[.bool false, .slice SA n sc, .int .i64 room, .slice (some ⟨g, 0, none⟩) n wc, .slice BA m bc] 87)) 94 #[.int .i64 x.wet, .int .i64 x.dry, .int .i64 x.burning, .int .i64 x.fired, .int .i64 x.laid, .int .i64 x.broken, .int .i64 x.missing]).alloc (.cells #[.bool false, .slice none 0 0, .int .i64 0, .slice none 0 0, .slice none 0 0] 87))
  have K6 : Hid (Blk (((w.alloc (.cells #[.bool false, .slice SA n sc, .int .i64 room, .slice (some ⟨g, 0, none⟩) n wc, .slice BA m bc] 87)).alloc (.cells #[.int .i64 x.wet, .int .i64 x.dry, .int .i64 x.burning, .int .i64 x.fired, .int .i64 x.laid, .int .i64 x.broken, .int .i64 x.missing] 94)).alloc (.cells #[.bool false, .slice none 0 0, .int .i64 0, .slice none 0 0, .slice none 0 0] 87)) (w.heap.size + 1 + 1) 87 #[.bool false, .slice none 0 0, .int .i64 0, .slice none 0 0, .slice none 0 0]) := hide (by simpa using Blk.new ((w.alloc (.cells #[.bool false, .slice SA n sc, .int .i64 room, .slice (some ⟨g, 0, none⟩) n wc, .slice BA m bc] 87)).alloc (.cells #[.int .i64 x.wet, .int .i64 x.dry, .int .i64 x.burning, .int .i64 x.fired, .int .i64 x.laid, .int .i64 x.broken, .int .i64 x.missing] 94)) 87 #[.bool false, .slice none 0 0, .int .i64 0, .slice none 0 0, .slice none 0 0])
  have HWL := hide (hW.ext HB0.out)
  have hgl := hW.lt
  unfold agg7
  clear hi hz0 hz1 hz2 hW
  unfold bkV
  go_enter Try.func79, Try.ntmps79
  go_upto_region 1 with fail
  have hsz : (((w.alloc (.cells #[.bool false, .slice SA n sc, .int .i64 room, .slice (some ⟨g, 0, none⟩) n wc, .slice BA m bc] 87)).alloc (.cells #[.int .i64 x.wet, .int .i64 x.dry, .int .i64 x.burning, .int .i64 x.fired, .int .i64 x.laid, .int .i64 x.broken, .int .i64 x.missing] 94)).alloc (.cells #[.bool false, .slice none 0 0, .int .i64 0, .slice none 0 0, .slice none 0 0] 87)).heap.size = w.heap.size + 3 := by simp
  generalize (((w.alloc (.cells #[.bool false, .slice SA n sc, .int .i64 room, .slice (some ⟨g, 0, none⟩) n wc, .slice BA m bc] 87)).alloc (.cells #[.int .i64 x.wet, .int .i64 x.dry, .int .i64 x.burning, .int .i64 x.fired, .int .i64 x.laid, .int .i64 x.broken, .int .i64 x.missing] 94)).alloc (.cells #[.bool false, .slice none 0 0, .int .i64 0, .slice none 0 0, .slice none 0 0] 87)) = W0 at HB0 K3 K5 K6 HWL hsz ⊢
  have HSZ := hide hsz
  clear hsz
  obtain ⟨a0, a1, a2, a3, a4, a5, f1, f2, f3, f4, f5⟩ := bx5' K3.out
  go_upto_region 2 with (at_builtin; refine wpList_append_any _ rfl (.tmp 7) (.tmp 9) 85 rfl W0.heap.size 94 i0 _ 7 56 Try.underlying85 HI.out.1 HI.out.2.1 HI.out.2.2.1 HI.out.2.2.2 rfl (by omega) (.slice (some ⟨W0.heap.size, 0, none⟩) 0 0) 0 [] rfl (own_empty W0 94 7) _ (some ⟨g, 0, none⟩) n wc (cellsOf 7 n fun k i => waV (ws k) i) rfl (ER.reads (ER.below HWL.out.er ((Below.refl W0.heap.size W0).alloc (Nat.le_refl _) _) (Nat.le_refl _)) (by omega)) (cells7_one _ _) (by unfold maxLen; omega) (by omega) (by simp) ?_; intro v5 w5 hx5 hg5 ho5; rw [Nat.zero_add, List.nil_append] at hx5; obtain ⟨A5, c5, rfl⟩ := own_shape hx5; obtain ⟨g5, rfl, hg5l, HW5⟩ := WL.of_own hx5 (by omega); have hb5 : Below W0.heap.size W0 w5 := ((Below.refl _ _).alloc (Nat.le_refl _) _).grown hg5 (by simp) (fun j hj => Nat.le_of_eq (by simpa [Value.ownBlock] using hj)); have HWX := hide HW5; have HBX := hide (HB0.out.trans (hb5.mono HB0.out.size)); have K3b := hide (K3.out.ext hb5); have K5b := hide (K5.out.ext hb5); have K6b := hide (K6.out.ext hb5); have z5 := hb5.size; clear hx5 hg5 ho5 hb5 HW5 a0 a1 a2 a3 a4 a5 f1 f2 f3 f4 f5; obtain ⟨a0, a1, a2, a3, a4, a5, f1, f2, f3, f4, f5⟩ := bx5' K3b.out)
  have hz0 := HSZ.out
  have hg5w : w.heap.size + 3 ≤ g5 := by omega
  have K3c := hide (K3b.out.set_ 3 (.slice (some ⟨g5, 0, none⟩) n c5))
  have K5c := hide (K5b.out.far (p := ⟨w.heap.size, 3, none⟩) (by show w.heap.size + 1 ≠ w.heap.size; omega) (.slice (some ⟨g5, 0, none⟩) n c5))
  have K6c := hide (K6b.out.far (p := ⟨w.heap.size, 3, none⟩) (by show w.heap.size + 1 + 1 ≠ w.heap.size; omega) (.slice (some ⟨g5, 0, none⟩) n c5))
  have HBY := hide (HBX.out.setCell (p := ⟨w.heap.size, 3, none⟩) (Nat.le_refl _) (.slice (some ⟨g5, 0, none⟩) n c5))
  have HWY := hide (HWX.out.grown (grownBy_setC w5 w.heap.size 3 (.slice (some ⟨g5, 0, none⟩) n c5)) (fun e => by injection e; omega))
  clear K3b K5b K6b K3 K5 K6 HBX HWX HB0 HSZ hz0 a0 a1 a2 a3 a4 a5 f1 f2 f3 f4 f5 hg5l z5
  generalize w5.setCell ⟨w.heap.size, 3, none⟩ (.slice (some ⟨g5, 0, none⟩) n c5) = W6 at K3c K5c K6c HBY HWY ⊢
  replace K3c : Hid (Blk W6 w.heap.size 87 #[.bool false, .slice SA n sc, .int .i64 room, .slice (some ⟨g5, 0, none⟩) n c5, .slice BA m bc]) := K3c
  obtain ⟨a0, a1, a2, a3, a4, a5, f1, f2, f3, f4, f5⟩ := bx5' K3c.out
  obtain ⟨b0, b1, b2, b3, b4, b5, b6, b7⟩ := bx7 K5c.out
  obtain ⟨e0, ef, e1, e2, e3, e4, e5, e6, e7⟩ := HWY.out.2 k hk
  have q0 := ef (k * 7)
  have q1 := ef (k * 7 + 1)
  have q2 := ef (k * 7 + 2)
  have q3 := ef (k * 7 + 3)
  have q4 := ef (k * 7 + 4)
  have q5 := ef (k * 7 + 5)
  have q6 := ef (k * 7 + 6)
  have i1 : (0 : Int) ≤ (k : Int) := by omega
  have i2 : (k : Int) < (n : Int) := by omega
  have HS7 := hide (HWY.out.set7 hk x)
  have hg7 := grown_set7At (World.grownBy.refl W6 (some g5)) (k * 7) x
  have K3d := hide (K3c.out.grown hg7 (fun e => by injection e; omega))
  have K6d := hide (K6c.out.grown hg7 (fun e => by injection e; omega))
  have HBZ := hide (set7At_B (x := x) (o := k * 7) HBY.out (by omega : w.heap.size ≤ g5))
  clear ef hg7
  go_upto_region 3 with fail
  unfold set7At at HS7 K3d K6d HBZ
  generalize ((((((W6.setCell ⟨g5, k * 7, none⟩ (.int .i64 x.wet)).setCell ⟨g5, k * 7 + 1, none⟩ (.int .i64 x.dry)).setCell ⟨g5, k * 7 + 2, none⟩ (.int .i64 x.burning)).setCell ⟨g5, k * 7 + 3, none⟩ (.int .i64 x.fired)).setCell ⟨g5, k * 7 + 4, none⟩ (.int .i64 x.laid)).setCell ⟨g5, k * 7 + 5, none⟩ (.int .i64 x.broken)).setCell ⟨g5, k * 7 + 6, none⟩ (.int .i64 x.missing) = W7 at HS7 K3d K6d HBZ ⊢
  clear a0 a1 a2 a3 a4 a5 f1 f2 f3 f4 f5 b0 b1 b2 b3 b4 b5 b6 b7 e0 e1 e2 e3 e4 e5 e6 e7 q0 q1 q2 q3 q4 q5 q6 K3c K5c K6c HBY HWY
  obtain ⟨a0, a1, a2, a3, a4, a5, f1, f2, f3, f4, f5⟩ := bx5' K3d.out
  obtain ⟨c0, c1, c2, c3, c4, c5', h1, h2, h3, h4, h5⟩ := bx5' K6d.out
  go_wp2_with fail
  refine bodyPost_ret (v := bkV SA n sc room (some ⟨g5, 0, none⟩) c5 BA m bc) (by simp [results, Try.results79, go_sem, bkV, *]) rfl ⟨g5, c5, rfl, ?_, by omega, ?_⟩
  · exact HS7.out.grown (grown_set5 W7 (w.heap.size + 1 + 1) _ _ _ _ _) (fun e => by injection e; omega)
  · exact set5_B HBZ.out (by omega) _ _ _ _ _
end Go.Proofs.Ytlhekifmkkgjlaa
/- Chapter 8, the reference: in, Rests. -/
namespace Go.Proofs.Ytlhekifmkkgjlaa
open Go Go.RowKit Go.Shelf
set_option maxHeartbeats 4000000
set_option maxRecDepth 100000
def inB (n a b : Int) : Bool := decide (a ≤ n) && decide (n ≤ b)
theorem refIn_any (n a b : Int) (w : World) : Calls Try.prog 70 #[.int .i64 n, .int .i64 a, .int .i64 b] w fun e w' => e = .returned (.bool (inB n a b)) ∧ w = w' := by
  by_cases h1 : a ≤ n
  · go_enter Try.func70, Try.ntmps70
    go_wp2_with fail
    go_ret
    exact ⟨by simp [inB, h1], rfl⟩
  · have hx : inB n a b = false := by simp [inB, h1]
    have HX := hide hx
    clear hx
    go_enter Try.func70, Try.ntmps70
    go_wp2_with fail
    go_ret
    exact ⟨by rw [HX.out]; rfl, rfl⟩
/-- the cells below k on which a brick rests -/
def restTo (s : Stk) (t : Nat) (b : Int) (k : Nat) : List Nat := (cellsTo (s.cf t) b k).filter fun c => covB s ((t : Int) - 1) c
theorem restTo_all (s : Stk) (t : Nat) (b : Int) : restTo s t b (s.cn t) = restL s t b := rfl
theorem restTo_no {s : Stk} {t : Nat} {b : Int} {k : Nat} (h : s.cf t k ≠ b) : restTo s t b (k + 1) = restTo s t b k := by unfold restTo; rw [cellsTo_no h]
theorem restTo_off {s : Stk} {t : Nat} {b : Int} {k : Nat} (h : s.cf t k = b) (hc : covB s ((t : Int) - 1) k = false) : restTo s t b (k + 1) = restTo s t b k := by
  unfold restTo; rw [cellsTo_yes h, List.filter_append, List.filter_cons_of_neg (by simp [hc]), List.filter_nil, List.append_nil]
theorem restTo_on {s : Stk} {t : Nat} {b : Int} {k : Nat} (h : s.cf t k = b) (hc : covB s ((t : Int) - 1) k = true) : restTo s t b (k + 1) = restTo s t b k ++ [k] := by
  unfold restTo; rw [cellsTo_yes h, List.filter_append, List.filter_cons_of_pos (by simp [hc]), List.filter_nil]
theorem restTo_len (s : Stk) (t : Nat) (b : Int) (k : Nat) : (restTo s t b k).length ≤ k := Nat.le_trans (List.length_filter_le _ _) (cellsTo_len _ _ _)
def RestInv (w : World) (s : Stk) (t : Nat) (b : Int) (k : Nat) (v : Value) (wr : World) : Prop :=
  Below w.heap.size w wr ∧ Blk wr w.heap.size 55 #[.int .i64 s.wd, .int .i64 s.hg, .slice s.A s.nt s.cap] ∧ wr.ownsRow w.heap.size 3 1 v (restTo s t b k).length ((restTo s t b k).map iv')
theorem RestInv.push {w wr w2 : World} {s : Stk} {t : Nat} {b : Int} {k : Nat} {v v' : Value} (h : RestInv w s t b k v wr) (he : restTo s t b (k + 1) = restTo s t b k ++ [k]) (hg : (wr.alloc (.cells #[.int .i64 k] 3)).grownBy w2 v.ownBlock)
    (ho : w2.ownsRow w.heap.size 3 1 v' ((restTo s t b k).length + 1) ((restTo s t b k).map iv' ++ [.int .i64 k])) : RestInv w s t b (k + 1) v' w2 := by
  obtain ⟨h1, h2, h3⟩ := h
  have h4 := World.ownsRow.alloc h3 (.cells #[.int .i64 k] 3)
  have h5 := h2.alloc (.cells #[.int .i64 k] 3)
  refine ⟨(h1.alloc h1.size _).grown hg (by have := h1.size; simp; omega) (fun j hj => (h3.lt j hj).1), h5.grown hg (fun e => own_blk_ne h4 h5 (by decide) e.symm), ?_⟩
  rw [he, List.length_append, List.map_append]
  exact ho
theorem refRests_any (s : Stk) (t : Nat) (b : Int) (w : World) (hs : StkR w w.heap.size s) (ht : t < s.nt) (hc : ∀ k, k < s.nt → s.cn k = s.cn t) :
    Calls Try.prog 71 #[.agg #[.int .i64 s.wd, .int .i64 s.hg, .slice s.A s.nt s.cap], .int .i64 t, .int .i64 b] w (RestsPost s t b w) := by
  obtain ⟨i0, hi, hz0, hz1, hz2⟩ := info_parts info_int
  have HI := hide (show _ ∧ _ ∧ _ ∧ _ from ⟨hi, hz0, hz1, hz2⟩)
  obtain ⟨tb, toff, hA, htb, hu, -⟩ := P2.at_ hs.2.1 ht
  obtain ⟨m1, -, hI, -⟩ := hs.2.2 t ht
  have m0 := hs.1
  unfold Stk.u at hu
  have HII := hide hI
  have HSS := hide hs
  have HCC := hide hc
  have HU := hide hu
  have HAA := hide hA
  have i1 : (0 : Int) ≤ (t : Int) := by omega
  have i2 : (t : Int) < (s.nt : Int) := by omega
  clear hi hz0 hz1 hz2 hs hc hI hu hA
  go_enter Try.func71, Try.ntmps71
  go_wp2_with fail
  have HR0 : Hid (RestInv w s t b 0 (.slice (some ⟨w.heap.size + 1, 0, none⟩) 0 0) ((w.alloc (.cells #[.int .i64 s.wd, .int .i64 s.hg, .slice s.A s.nt s.cap] 55)).alloc (.cells #[] 3))) := hide ⟨((Below.refl _ _).alloc (Nat.le_refl _) _).alloc (by simp) _, (Blk.new w _ _).alloc _, by
    have h := own_empty (w.alloc (.cells #[.int .i64 s.wd, .int .i64 s.hg, .slice s.A s.nt s.cap] 55)) 3 1
    simp only [World.size_alloc] at h
    exact ownMono h (by omega)⟩
  generalize ((w.alloc (.cells #[.int .i64 s.wd, .int .i64 s.hg, .slice s.A s.nt s.cap] 55)).alloc (.cells #[] 3)) = W0 at HR0 ⊢
  go_loopw [7, 8] (fun v i wr => ∃ k : Nat, i = .int .i64 k ∧ k ≤ s.cn t ∧ Hid (RestInv w s t b k v wr)) (fun _ i _ => s.cn t - (intOf i).toNat)
  case atStart => exact ⟨0, rfl, by omega, HR0⟩
  case round =>
    obtain ⟨k, rfl, hk, HR⟩ := hrel
    obtain ⟨a0, a1, a2, a3, -, -, -⟩ := blk3 HR.out.2.1
    rw [HAA.out] at a3
    have u1 := (HR.out.1.cell (p := ⟨tb, toff + t * 2, none⟩) htb).trans HU.out
    have l1 := restTo_len s t b k
    by_cases hlt : k < s.cn t
    · obtain ⟨cb, coff, hca, hcb, hcc⟩ := (HII.out.below HR.out.1 (Nat.le_refl _)).at_ hlt
      rw [hca] at u1
      have j1 : (0 : Int) ≤ (k : Int) := by omega
      have j2 : (k : Int) < (s.cn t : Int) := by omega
      obtain ⟨vA, vc, rfl⟩ := own_shape HR.out.2.2
      by_cases hx : s.cf t k = b
      · have HX := hide hx
        have hxb : (s.cf t k == b) = true := by simpa using hx
        clear hx
        by_cases ht0 : t = 0
        · have HV : Hid (covB s ((t : Int) - 1) k = true) := hide (by unfold covB; rw [decide_eq_true (by omega), Bool.true_or])
          have ht1 : ((t : Int) == 0) = true := by simp [ht0]
          clear ht0
          go_wp2_with (at_builtin; refine wpList_append_own _ rfl _ _ 56 rfl w.heap.size 3 i0 (.int .i64 0) 1 8 Try.underlying56 HI.out.1 HI.out.2.1 HI.out.2.2.1 HI.out.2.2.2 rfl (by decide) _ _ _ rfl (HR.out.2.2.alloc _) ⟨wr.heap.size, 0, none⟩ 1 1 [.int .i64 k] rfl rfl (cell_one_new _ _ _) (by simp [Value.oneCell']) (by unfold maxLen; omega) (by omega) (by have := HR.out.1.size; simp; omega) ?_; intro v2 w2 hown2 hg2 _; have HN := hide (HR.out.push (restTo_on HX.out HV.out) hg2 hown2); clear hown2 hg2)
          go_roundw
          case rel => exact ⟨k + 1, by go_num, by omega, HN⟩
          case measure => simp [intOf]; omega
        · have ht1 : ((t : Int) == 0) = false := by simp; omega
          obtain ⟨tb2, toff2, hA2, htb2, hu2, -⟩ := P2.at_ HSS.out.2.1 (show t - 1 < s.nt by omega)
          obtain ⟨-, -, hI2, -⟩ := HSS.out.2.2 (t - 1) (by omega)
          rw [HAA.out] at hA2
          injection hA2 with hA2
          injection hA2 with hA2 hA3
          subst hA2 hA3
          unfold Stk.u at hu2
          obtain ⟨cb2, coff2, hca2, hcb2, hcc2⟩ := (hI2.below HR.out.1 (Nat.le_refl _)).at_ (show k < s.cn (t - 1) by rw [HCC.out _ (by omega)]; exact hlt)
          have u2 := (HR.out.1.cell (p := ⟨tb, toff + (t - 1) * 2, none⟩) htb2).trans hu2
          rw [hca2, HCC.out (t - 1) (by omega)] at u2
          have ht3 : ((t : Int) - 1).toNat = t - 1 := by omega
          have ht4 : (0 : Int) ≤ (t : Int) - 1 := by omega
          have hcv : covB s ((t : Int) - 1) k = decide (0 ≤ s.cf (t - 1) k) := by
            unfold covB; rw [decide_eq_false (by omega), decide_eq_true (by omega), Bool.false_or, Bool.true_and, ht3]
          by_cases hcov : 0 ≤ s.cf (t - 1) k
          · have HV : Hid (covB s ((t : Int) - 1) k = true) := hide (by rw [hcv]; exact decide_eq_true hcov)
            clear hcv hu2 hI2 ht0
            go_wp2_with (at_builtin; refine wpList_append_own _ rfl _ _ 56 rfl w.heap.size 3 i0 (.int .i64 0) 1 8 Try.underlying56 HI.out.1 HI.out.2.1 HI.out.2.2.1 HI.out.2.2.2 rfl (by decide) _ _ _ rfl (HR.out.2.2.alloc _) ⟨wr.heap.size, 0, none⟩ 1 1 [.int .i64 k] rfl rfl (cell_one_new _ _ _) (by simp [Value.oneCell']) (by unfold maxLen; omega) (by omega) (by have := HR.out.1.size; simp; omega) ?_; intro v2 w2 hown2 hg2 _; have HN := hide (HR.out.push (restTo_on HX.out HV.out) hg2 hown2); clear hown2 hg2)
            go_roundw
            case rel => exact ⟨k + 1, by go_num, by omega, HN⟩
            case measure => simp [intOf]; omega
          · have HV : Hid (covB s ((t : Int) - 1) k = false) := hide (by rw [hcv]; exact decide_eq_false hcov)
            clear hcv hu2 hI2 ht0
            have HN : Hid (RestInv w s t b (k + 1) (.slice vA (restTo s t b k).length vc) wr) := hide ⟨HR.out.1, HR.out.2.1, by rw [restTo_off HX.out HV.out]; exact HR.out.2.2⟩
            go_wp2_with fail
            go_roundw
            case rel => exact ⟨k + 1, by go_num, by omega, HN⟩
            case measure => simp [intOf]; omega
      · have HX := hide hx
        have hxb : (s.cf t k == b) = false := by simpa using hx
        clear hx
        have HN : Hid (RestInv w s t b (k + 1) (.slice vA (restTo s t b k).length vc) wr) := hide ⟨HR.out.1, HR.out.2.1, by rw [restTo_no HX.out]; exact HR.out.2.2⟩
        go_wp2_with fail
        go_roundw
        case rel => exact ⟨k + 1, by go_num, by omega, HN⟩
        case measure => simp [intOf]; omega
    · obtain rfl : k = s.cn t := by omega
      obtain ⟨vA, vc, rfl⟩ := own_shape HR.out.2.2
      go_wp2_with fail
      go_ret
      exact ⟨_, rfl, by have h := HR.out.2.2; rw [restTo_all] at h; exact h, HR.out.1⟩
end Go.Proofs.Ytlhekifmkkgjlaa
/- Chapter 8, the reference: Stack. -/
namespace Go.Proofs.Ytlhekifmkkgjlaa
open Go Go.RowKit Go.Shelf
set_option maxHeartbeats 8000000
set_option maxRecDepth 100000
theorem info_bool : (Try.prog.info? 4).map (fun i => (i.zero, i.size, i.bytes)) = some (some (.bool false), 1, 1) := by kernel_rfl
theorem rowV_bools (n : Nat) : madeCells (Value.bool false).cells (n * 1) = rowV n (fun _ => .bool false) := by
  apply Array.ext_getElem?
  intro j
  simp only [rowV, madeCells, Array.getElem?_map, Array.getElem?_range, List.getElem?_toArray, List.getElem?_map, Nat.mul_one]
  by_cases hj : j < n
  · simp [hj, Value.cells, Nat.mod_one]
  · simp [hj]
def hasTo (x : Nat → Int) (i b : Nat) : Bool := anyTo (fun c => x c == (b : Int)) i
theorem stack_no {s : Stk} (h : ¬ (((1 ≤ s.wd ∧ s.wd ≤ 12) ∧ (1 ≤ s.hg ∧ s.hg ≤ 12)) ∧ s.nt ≤ 10 ∧ ∀ k, k < s.nt → tierB (s.wd * s.hg) (s.cn k) (s.wn k) (s.cf k) (s.wf k) = true)) : stackB s = false := by
  rcases e : stackB s with _ | _
  · rfl
  · exact absurd ((stackB_iff s).1 e) h
theorem inB_iff (n a b : Int) : inB n a b = true ↔ a ≤ n ∧ n ≤ b := by simp [inB]
theorem inB_no {n a b : Int} (h : inB n a b = false) : ¬ (a ≤ n ∧ n ≤ b) := fun e => by rw [(inB_iff n a b).2 e] at h; cases h
theorem hasTo_succ (x : Nat → Int) (j b : Nat) : hasTo x (j + 1) b = (hasTo x j b || (x j == (b : Int))) := rfl
theorem has_on {w : World} {g n j q : Nat} {t : TypeId} {x : Nat → Int} (h : Blk w g t (rowV n fun b => .bool (hasTo x j b))) (hq : x j = (q : Int)) : Blk (w.setCell ⟨g, q, none⟩ (.bool true)) g t (rowV n fun b => .bool (hasTo x (j + 1) b)) := by
  have h1 := h.set_ q (.bool true)
  rw [rowV_set] at h1
  rw [rowV_same n _ (upd (fun b => Value.bool (hasTo x j b)) q (.bool true)) (fun b _ => by
    rw [hasTo_succ, hq]
    by_cases e : b = q
    · subst e; rw [upd_same]; simp
    · rw [upd_ne _ _ e]
      have : ((q : Int) == (b : Int)) = false := by simp; omega
      rw [this, Bool.or_false])]
  exact h1
theorem has_off {w : World} {g n j : Nat} {t : TypeId} {x : Nat → Int} (h : Blk w g t (rowV n fun b => .bool (hasTo x j b))) (hq : x j < 0) : Blk w g t (rowV n fun b => .bool (hasTo x (j + 1) b)) := by
  rw [rowV_same n _ (fun b => Value.bool (hasTo x j b)) (fun b _ => by
    rw [hasTo_succ]
    have : (x j == (b : Int)) = false := by simp; omega
    rw [this, Bool.or_false])]
  exact h
theorem has_all {cn wn : Nat} {x : Nat → Int} {b : Nat} (h : allB cn wn x = true) (hb : b < wn) (hh : hasTo x cn b = false) : False := by
  unfold allB at h
  rw [Bool.not_eq_true', ← Bool.not_eq_true, anyTo_iff] at h
  exact h ⟨b, hb, by unfold hasTo at hh; rw [hh]; rfl⟩
theorem tier_yes {m : Int} {cn wn : Nat} {x y : Nat → Int} (h1 : (cn : Int) = m) (h2 : (wn : Int) ≤ m) (h3 : ∀ b, b < wn → 0 ≤ y b ∧ y b ≤ 1000) (h4 : ∀ c, c < cn → -1 ≤ x c ∧ x c ≤ (wn : Int) - 1) (h5 : ∀ b, b < wn → hasTo x cn b = true) : tierB m cn wn x y = true := by
  unfold tierB
  simp only [Bool.and_eq_true, decide_eq_true_eq, wiB_iff]
  refine ⟨h1, h2, h3, h4, ?_⟩
  unfold allB
  rw [Bool.not_eq_true', ← Bool.not_eq_true, anyTo_iff]
  rintro ⟨b, hb, h6⟩
  have := h5 b hb
  unfold hasTo at this
  rw [this] at h6
  cases h6
def StackInv (w : World) (s : Stk) (wr : World) : Prop := Below w.heap.size w wr ∧ Blk wr w.heap.size 55 #[.int .i64 s.wd, .int .i64 s.hg, .slice s.A s.nt s.cap]
theorem StackInv.ext {w wr w' : World} {s : Stk} (h : StackInv w s wr) (hb : Below wr.heap.size wr w') : StackInv w s w' := ⟨h.1.trans (hb.mono h.1.size), h.2.ext hb⟩
theorem refStack_any (s : Stk) (w : World) (hs : StkR w w.heap.size s) : Calls Try.prog 28 #[.agg #[.int .i64 s.wd, .int .i64 s.hg, .slice s.A s.nt s.cap]] w fun e w' => e = .returned (.bool (stackB s)) ∧ Below w.heap.size w w' := by
  have m0 := hs.1
  have HSS := hide hs
  obtain ⟨i0, hi, hz0, hz1, hz2⟩ := info_parts info_bool
  have HGL := hide (fun (n : Nat) (hn : n ≤ 1000000) (W : World) => (show _ from by
    have gl := run_make_rowN (P := Try.prog) 139 4 i0 _ Try.underlying139 hi hz0 .i64 .i64 n n (Nat.le_refl _) (by rw [hz2]; omega) (by omega) W
    rw [hz1, rowV_bools] at gl
    exact gl : (Instr.makeSlice 139 (.int .i64 (n : Int)) (.int .i64 (n : Int))).run Try.prog W = .ok (.slice (some ⟨W.heap.size, 0, none⟩) n n) (W.alloc (.cells (rowV n (fun _ => .bool false)) 4))))
  have HR0 : Hid (StackInv w s (w.alloc (.cells #[.int .i64 s.wd, .int .i64 s.hg, .slice s.A s.nt s.cap] 55))) := hide ⟨(Below.refl _ _).alloc (Nat.le_refl _) _, Blk.new w _ _⟩
  clear hs hi hz0 hz1 hz2
  rcases hd1 : inB s.wd 1 12 with _ | _
  · have HX : Hid (stackB s = false) := hide (stack_no fun e => inB_no hd1 e.1.1)
    go_enter Try.func28, Try.ntmps28
    go_wp2_with ((with_reducible refine (refIn_any _ _ _ _).mono ?_); rintro e w' ⟨rfl, rfl⟩)
    go_ret
    exact ⟨by rw [HX.out]; rfl, HR0.out.1⟩
  rcases hd2 : inB s.hg 1 12 with _ | _
  · have HX : Hid (stackB s = false) := hide (stack_no fun e => inB_no hd2 e.1.2)
    go_enter Try.func28, Try.ntmps28
    go_wp2_with ((with_reducible refine (refIn_any _ _ _ _).mono ?_); rintro e w' ⟨rfl, rfl⟩)
    go_ret
    exact ⟨by rw [HX.out]; rfl, HR0.out.1⟩
  by_cases hd3 : 10 < s.nt
  · have HX : Hid (stackB s = false) := hide (stack_no fun e => by omega)
    have hd4 : (10 : Int) < (s.nt : Int) := by omega
    go_enter Try.func28, Try.ntmps28
    go_wp2_with ((with_reducible refine (refIn_any _ _ _ _).mono ?_); rintro e w' ⟨rfl, rfl⟩)
    go_ret
    exact ⟨by rw [HX.out]; rfl, HR0.out.1⟩
  have hd4 : ¬ (10 : Int) < (s.nt : Int) := by omega
  obtain ⟨w1, w2⟩ := (inB_iff _ _ _).1 hd1
  obtain ⟨g1, g2⟩ := (inB_iff _ _ _).1 hd2
  have hmb := mul_bd (a := s.wd) (b := s.hg) (M := 12) (N := 12) (by omega) (by omega) (by omega) (by omega)
  have hw0 : IntKind.i64.wrap (s.wd * s.hg) = s.wd * s.hg := IntWalk.i64_in _ (by omega)
  go_enter Try.func28, Try.ntmps28
  go_wp2_with ((with_reducible refine (refIn_any _ _ _ _).mono ?_); rintro e w' ⟨rfl, rfl⟩)
  generalize (w.alloc (.cells #[.int .i64 s.wd, .int .i64 s.hg, .slice s.A s.nt s.cap] 55)) = W1 at HR0 ⊢
  clear hd1 hd2
  go_loopw [3] (fun i wr => ∃ k : Nat, i = .int .i64 k ∧ k ≤ s.nt ∧ Hid (∀ t, t < k → tierB (s.wd * s.hg) (s.cn t) (s.wn t) (s.cf t) (s.wf t) = true) ∧ Hid (StackInv w s wr)) (fun i _ => s.nt - (intOf i).toNat)
  case atStart => exact ⟨0, rfl, by omega, hide (fun t h => absurd h (by omega)), HR0⟩
  case round =>
    obtain ⟨k, rfl, hk, HT, HR⟩ := hrel
    obtain ⟨a0, a1, a2, a3, -, -, -⟩ := blk3 HR.out.2
    by_cases hlt : k < s.nt
    · obtain ⟨tb, toff, hA, htb, hu, hv⟩ := P2.at_ (HSS.out.2.1.below HR.out.1 (Nat.le_refl _)) hlt
      obtain ⟨l1, l2, hIc, hIw⟩ := HSS.out.2.2 k hlt
      have HIC := hide hIc
      have HIW := hide hIw
      unfold Stk.u at hu
      unfold Stk.v at hv
      rw [hA] at a3
      have i1 : (0 : Int) ≤ (k : Int) := by omega
      have i2 : (k : Int) < (s.nt : Int) := by omega
      clear hIc hIw hA
      go_upto_region 7 with fail
      have KT := hide (Blk.new wr 72 #[.slice (s.ca k) (s.cn k) (s.cc k), .slice (s.wa k) (s.wn k) (s.wc k)])
      have HRa := hide (HR.out.ext ((Below.refl _ wr).alloc (Nat.le_refl _) (.cells #[.slice (s.ca k) (s.cn k) (s.cc k), .slice (s.wa k) (s.wn k) (s.wc k)] 72)))
      clear a0 a1 a2 a3 hu hv HR
      generalize (wr.alloc (.cells #[.slice (s.ca k) (s.cn k) (s.cc k), .slice (s.wa k) (s.wn k) (s.wc k)] 72)) = wa at KT HRa ⊢
      generalize wr.heap.size = g at KT ⊢
      obtain ⟨b0, b1, b2, b3, -, -, -⟩ := blk3 HRa.out.2
      obtain ⟨t0, t1, t2⟩ := bx2 KT.out
      by_cases hcn : (s.cn k : Int) = s.wd * s.hg
      · by_cases hwn : s.wn k ≤ s.cn k
        · have hcn2 : ((s.cn k : Int) != s.wd * s.hg) = false := by simp [hcn]
          have hwn2 : ¬ (s.cn k : Int) < (s.wn k : Int) := by omega
          have hgl := HGL.out (s.wn k) l2 wa
          have HCN := hide hcn
          clear hcn
          go_wp2_with fail
          clear hgl b0 b1 b2 b3 t0 t1 t2
          have HRb := hide (HRa.out.ext ((Below.refl _ wa).alloc (Nat.le_refl _) (.cells (rowV (s.wn k) fun _ => .bool false) 4)))
          have KTb := hide (KT.out.alloc (.cells (rowV (s.wn k) fun _ => .bool false) 4))
          have KH := hide (Blk.new wa 4 (rowV (s.wn k) fun _ => .bool false))
          have hhg : g ≠ wa.heap.size := by have := KT.out.lt; omega
          have hhw : w.heap.size < wa.heap.size := by have := HRa.out.2.lt; omega
          clear HRa KT
          generalize (wa.alloc (.cells (rowV (s.wn k) fun _ => .bool false) 4)) = wb at HRb KTb KH ⊢
          generalize wa.heap.size = hb at KH hhg hhw ⊢
          obtain ⟨wo, hwo⟩ : ∃ wo : World, wo = wr := ⟨_, rfl⟩
          go_loopw [6] (fun i wr => ∃ j : Nat, i = .int .i64 j ∧ j ≤ s.cn k ∧ Hid (∀ c, c < j → -1 ≤ s.cf k c ∧ s.cf k c ≤ (s.wn k : Int) - 1) ∧ Hid (StackInv w s wr) ∧ Hid (Blk wr g 72 #[.slice (s.ca k) (s.cn k) (s.cc k), .slice (s.wa k) (s.wn k) (s.wc k)]) ∧ Hid (Blk wr hb 4 (rowV (s.wn k) fun b => .bool (hasTo (s.cf k) j b)))) (fun i _ => s.cn k - (intOf i).toNat)
          case atStart => exact ⟨0, rfl, by omega, hide (fun c h => absurd h (by omega)), HRb, KTb, KH⟩
          case round =>
            obtain ⟨j, rfl, hj, HCF, HRc, KTc, KHc⟩ := hrel
            obtain ⟨t0, t1, t2⟩ := bx2 KTc.out
            by_cases hlt2 : j < s.cn k
            · obtain ⟨cb, coff, hca, hcb, hcc⟩ := (HIC.out.below HRc.out.1 (Nat.le_refl _)).at_ hlt2
              rw [hca] at t1
              have HCA := hide hca
              clear hca
              have j1 : (0 : Int) ≤ (j : Int) := by omega
              have j2 : (j : Int) < (s.cn k : Int) := by omega
              have hww : IntKind.i64.wrap ((s.wn k : Int) - 1) = (s.wn k : Int) - 1 := IntWalk.i64_in _ (by omega)
              go_wp2_with fail
              have hHeld : wr.drew.cell? ⟨g, 0, none⟩ = some (.slice (some ⟨cb, coff, none⟩) (s.cn k) (s.cc k)) ∧ wr.drew.cell? ⟨g, 1, none⟩ = some (.slice (s.wa k) (s.wn k) (s.wc k)) ∧ wr.drew.cell? ⟨cb, coff + j, none⟩ = some (.int .i64 (s.cf k j)) := ⟨t1, t2, hcc⟩
              refine wp_region_J (fun W : World => W.cell? ⟨g, 0, none⟩ = some (.slice (some ⟨cb, coff, none⟩) (s.cn k) (s.cc k)) ∧ W.cell? ⟨g, 1, none⟩ = some (.slice (s.wa k) (s.wn k) (s.wc k)) ∧ W.cell? ⟨cb, coff + j, none⟩ = some (.int .i64 (s.cf k j))) (by kernel_rfl) ?_
              rcases hin : inB (s.cf k j) (-1) ((s.wn k : Int) - 1) with _ | _
              · have HX : Hid (stackB s = false) := hide (stack_no fun e => by have := e.2.2 k hlt; simp only [tierB, Bool.and_eq_true, decide_eq_true_eq, wiB_iff] at this; exact inB_no hin (this.2.2.2.1 j hlt2))
                refine wpAnyJ_take 0 (v := ?_) (by first | exact hF | exact wideFn) hHeld rfl (by kernel_rfl) (by kernel_rfl) (by kernel_rfl) (by kernel_rfl) rfl ?_ (by first | exact fun _ _ _ h => h | exact fun _ _ _ h => hQ2 _ _ _ _ _ h) ?_
                rotate_left
                · intro W hSW
                  simp only [List.getElem_toArray, List.getElem_cons_zero, List.getElem_cons_succ]
                  (try dsimp only at hSW)
                  go_simp
                  with_reducible rfl
                (try simp only [List.getElem_toArray, List.getElem_cons_zero, List.getElem_cons_succ, Act.put, List.setIfInBounds_toArray, List.set_cons_zero, List.set_cons_succ])
                refine wpAnyJ_take 1 (v := ?_) (by first | exact hF | exact wideFn) hHeld rfl (by kernel_rfl) (by kernel_rfl) (by kernel_rfl) (by kernel_rfl) rfl ?_ (by first | exact fun _ _ _ h => h | exact fun _ _ _ h => hQ2 _ _ _ _ _ h) ?_
                rotate_left
                · intro W hSW
                  simp only [List.getElem_toArray, List.getElem_cons_zero, List.getElem_cons_succ]
                  (try dsimp only at hSW)
                  go_simp
                  with_reducible rfl
                (try simp only [List.getElem_toArray, List.getElem_cons_zero, List.getElem_cons_succ, Act.put, List.setIfInBounds_toArray, List.set_cons_zero, List.set_cons_succ])
                refine wpAnyJ_take 2 (v := ?_) (by first | exact hF | exact wideFn) hHeld rfl (by kernel_rfl) (by kernel_rfl) (by kernel_rfl) (by kernel_rfl) rfl ?_ (by first | exact fun _ _ _ h => h | exact fun _ _ _ h => hQ2 _ _ _ _ _ h) ?_
                rotate_left
                · intro W hSW
                  simp only [List.getElem_toArray, List.getElem_cons_zero, List.getElem_cons_succ]
                  (try dsimp only at hSW)
                  go_simp
                  with_reducible rfl
                (try simp only [List.getElem_toArray, List.getElem_cons_zero, List.getElem_cons_succ, Act.put, List.setIfInBounds_toArray, List.set_cons_zero, List.set_cons_succ])
                refine wpAnyJ_take 3 (v := ?_) (by first | exact hF | exact wideFn) hHeld rfl (by kernel_rfl) (by kernel_rfl) (by kernel_rfl) (by kernel_rfl) rfl ?_ (by first | exact fun _ _ _ h => h | exact fun _ _ _ h => hQ2 _ _ _ _ _ h) ?_
                rotate_left
                · intro W hSW
                  simp only [List.getElem_toArray, List.getElem_cons_zero, List.getElem_cons_succ]
                  (try dsimp only at hSW)
                  go_simp
                  with_reducible rfl
                (try simp only [List.getElem_toArray, List.getElem_cons_zero, List.getElem_cons_succ, Act.put, List.setIfInBounds_toArray, List.set_cons_zero, List.set_cons_succ])
                refine wpAnyJ_take 4 (v := ?_) (by first | exact hF | exact wideFn) hHeld rfl (by kernel_rfl) (by kernel_rfl) (by kernel_rfl) (by kernel_rfl) rfl ?_ (by first | exact fun _ _ _ h => h | exact fun _ _ _ h => hQ2 _ _ _ _ _ h) ?_
                rotate_left
                · intro W hSW
                  simp only [List.getElem_toArray, List.getElem_cons_zero, List.getElem_cons_succ]
                  (try dsimp only at hSW)
                  go_simp
                  with_reducible rfl
                (try simp only [List.getElem_toArray, List.getElem_cons_zero, List.getElem_cons_succ, Act.put, List.setIfInBounds_toArray, List.set_cons_zero, List.set_cons_succ])
                refine wpAnyJ_take 5 (v := ?_) (by first | exact hF | exact wideFn) hHeld rfl (by kernel_rfl) (by kernel_rfl) (by kernel_rfl) (by kernel_rfl) rfl ?_ (by first | exact fun _ _ _ h => h | exact fun _ _ _ h => hQ2 _ _ _ _ _ h) ?_
                rotate_left
                · intro W hSW
                  simp only [List.getElem_toArray, List.getElem_cons_zero, List.getElem_cons_succ]
                  (try dsimp only at hSW)
                  go_simp
                  with_reducible rfl
                (try simp only [List.getElem_toArray, List.getElem_cons_zero, List.getElem_cons_succ, Act.put, List.setIfInBounds_toArray, List.set_cons_zero, List.set_cons_succ])
                refine wpAnyJ_take 6 (v := ?_) (by first | exact hF | exact wideFn) hHeld rfl (by kernel_rfl) (by kernel_rfl) (by kernel_rfl) (by kernel_rfl) rfl ?_ (by first | exact fun _ _ _ h => h | exact fun _ _ _ h => hQ2 _ _ _ _ _ h) ?_
                rotate_left
                · intro W hSW
                  simp only [List.getElem_toArray, List.getElem_cons_zero, List.getElem_cons_succ]
                  (try dsimp only at hSW)
                  go_simp
                  with_reducible rfl
                (try simp only [List.getElem_toArray, List.getElem_cons_zero, List.getElem_cons_succ, Act.put, List.setIfInBounds_toArray, List.set_cons_zero, List.set_cons_succ])
                refine wpAnyJ_take 7 (v := ?_) (by first | exact hF | exact wideFn) hHeld rfl (by kernel_rfl) (by kernel_rfl) (by kernel_rfl) (by kernel_rfl) rfl ?_ (by first | exact fun _ _ _ h => h | exact fun _ _ _ h => hQ2 _ _ _ _ _ h) ?_
                rotate_left
                · intro W hSW
                  simp only [List.getElem_toArray, List.getElem_cons_zero, List.getElem_cons_succ]
                  (try dsimp only at hSW)
                  go_simp
                  with_reducible rfl
                (try simp only [List.getElem_toArray, List.getElem_cons_zero, List.getElem_cons_succ, Act.put, List.setIfInBounds_toArray, List.set_cons_zero, List.set_cons_succ])
                refine wpAnyJ_take 8 (v := ?_) (by first | exact hF | exact wideFn) hHeld rfl (by kernel_rfl) (by kernel_rfl) (by kernel_rfl) (by kernel_rfl) rfl ?_ (by first | exact fun _ _ _ h => h | exact fun _ _ _ h => hQ2 _ _ _ _ _ h) ?_
                rotate_left
                · intro W hSW
                  simp only [List.getElem_toArray, List.getElem_cons_zero, List.getElem_cons_succ]
                  (try dsimp only at hSW)
                  go_simp
                  with_reducible rfl
                (try simp only [List.getElem_toArray, List.getElem_cons_zero, List.getElem_cons_succ, Act.put, List.setIfInBounds_toArray, List.set_cons_zero, List.set_cons_succ])
                refine wpAnyJ_one 9 rfl (by kernel_rfl) (fun K hK => ?_)
                simp only [List.getElem_toArray, List.getElem_cons_zero, List.getElem_cons_succ]
                go_simp
                refine ⟨trivial, rfl, ?_⟩
                refine (callsIn_wide.2 (refIn_any (s.cf k j) (-1) ((s.wn k : Int) - 1) _)).mono ?_
                rintro e w' ⟨rfl, rfl⟩
                skip
                dsimp only
                refine hK.out _ _ (fun _ => hHeld) ?_
                clear hK K
                (try simp only [List.getElem_toArray, List.getElem_cons_zero, List.getElem_cons_succ, Act.put, List.setIfInBounds_toArray, List.set_cons_zero, List.set_cons_succ])
                refine wpAnyJ_take 10 (v := ?_) (by first | exact hF | exact wideFn) hHeld rfl (by kernel_rfl) (by kernel_rfl) (by kernel_rfl) (by kernel_rfl) rfl ?_ (by first | exact fun _ _ _ h => h | exact fun _ _ _ h => hQ2 _ _ _ _ _ h) ?_
                rotate_left
                · intro W hSW
                  simp only [List.getElem_toArray, List.getElem_cons_zero, List.getElem_cons_succ]
                  (try dsimp only at hSW)
                  go_simp
                  with_reducible rfl
                (try simp only [List.getElem_toArray, List.getElem_cons_zero, List.getElem_cons_succ, Act.put, List.setIfInBounds_toArray, List.set_cons_zero, List.set_cons_succ])
                refine wpAnyJ_done (by kernel_rfl) ?_
                go_wp2_with fail
                go_ret
                exact ⟨by rw [HX.out]; rfl, HRc.out.1.drew⟩
              · have hin2 := (inB_iff _ _ _).1 hin
                refine wpAnyJ_take 0 (v := ?_) (by first | exact hF | exact wideFn) hHeld rfl (by kernel_rfl) (by kernel_rfl) (by kernel_rfl) (by kernel_rfl) rfl ?_ (by first | exact fun _ _ _ h => h | exact fun _ _ _ h => hQ2 _ _ _ _ _ h) ?_
                rotate_left
                · intro W hSW
                  simp only [List.getElem_toArray, List.getElem_cons_zero, List.getElem_cons_succ]
                  (try dsimp only at hSW)
                  go_simp
                  with_reducible rfl
                (try simp only [List.getElem_toArray, List.getElem_cons_zero, List.getElem_cons_succ, Act.put, List.setIfInBounds_toArray, List.set_cons_zero, List.set_cons_succ])
                refine wpAnyJ_take 1 (v := ?_) (by first | exact hF | exact wideFn) hHeld rfl (by kernel_rfl) (by kernel_rfl) (by kernel_rfl) (by kernel_rfl) rfl ?_ (by first | exact fun _ _ _ h => h | exact fun _ _ _ h => hQ2 _ _ _ _ _ h) ?_
                rotate_left
                · intro W hSW
                  simp only [List.getElem_toArray, List.getElem_cons_zero, List.getElem_cons_succ]
                  (try dsimp only at hSW)
                  go_simp
                  with_reducible rfl
                (try simp only [List.getElem_toArray, List.getElem_cons_zero, List.getElem_cons_succ, Act.put, List.setIfInBounds_toArray, List.set_cons_zero, List.set_cons_succ])
                refine wpAnyJ_take 2 (v := ?_) (by first | exact hF | exact wideFn) hHeld rfl (by kernel_rfl) (by kernel_rfl) (by kernel_rfl) (by kernel_rfl) rfl ?_ (by first | exact fun _ _ _ h => h | exact fun _ _ _ h => hQ2 _ _ _ _ _ h) ?_
                rotate_left
                · intro W hSW
                  simp only [List.getElem_toArray, List.getElem_cons_zero, List.getElem_cons_succ]
                  (try dsimp only at hSW)
                  go_simp
                  with_reducible rfl
                (try simp only [List.getElem_toArray, List.getElem_cons_zero, List.getElem_cons_succ, Act.put, List.setIfInBounds_toArray, List.set_cons_zero, List.set_cons_succ])
                refine wpAnyJ_take 3 (v := ?_) (by first | exact hF | exact wideFn) hHeld rfl (by kernel_rfl) (by kernel_rfl) (by kernel_rfl) (by kernel_rfl) rfl ?_ (by first | exact fun _ _ _ h => h | exact fun _ _ _ h => hQ2 _ _ _ _ _ h) ?_
                rotate_left
                · intro W hSW
                  simp only [List.getElem_toArray, List.getElem_cons_zero, List.getElem_cons_succ]
                  (try dsimp only at hSW)
                  go_simp
                  with_reducible rfl
                (try simp only [List.getElem_toArray, List.getElem_cons_zero, List.getElem_cons_succ, Act.put, List.setIfInBounds_toArray, List.set_cons_zero, List.set_cons_succ])
                refine wpAnyJ_take 4 (v := ?_) (by first | exact hF | exact wideFn) hHeld rfl (by kernel_rfl) (by kernel_rfl) (by kernel_rfl) (by kernel_rfl) rfl ?_ (by first | exact fun _ _ _ h => h | exact fun _ _ _ h => hQ2 _ _ _ _ _ h) ?_
                rotate_left
                · intro W hSW
                  simp only [List.getElem_toArray, List.getElem_cons_zero, List.getElem_cons_succ]
                  (try dsimp only at hSW)
                  go_simp
                  with_reducible rfl
                (try simp only [List.getElem_toArray, List.getElem_cons_zero, List.getElem_cons_succ, Act.put, List.setIfInBounds_toArray, List.set_cons_zero, List.set_cons_succ])
                refine wpAnyJ_take 5 (v := ?_) (by first | exact hF | exact wideFn) hHeld rfl (by kernel_rfl) (by kernel_rfl) (by kernel_rfl) (by kernel_rfl) rfl ?_ (by first | exact fun _ _ _ h => h | exact fun _ _ _ h => hQ2 _ _ _ _ _ h) ?_
                rotate_left
                · intro W hSW
                  simp only [List.getElem_toArray, List.getElem_cons_zero, List.getElem_cons_succ]
                  (try dsimp only at hSW)
                  go_simp
                  with_reducible rfl
                (try simp only [List.getElem_toArray, List.getElem_cons_zero, List.getElem_cons_succ, Act.put, List.setIfInBounds_toArray, List.set_cons_zero, List.set_cons_succ])
                refine wpAnyJ_take 6 (v := ?_) (by first | exact hF | exact wideFn) hHeld rfl (by kernel_rfl) (by kernel_rfl) (by kernel_rfl) (by kernel_rfl) rfl ?_ (by first | exact fun _ _ _ h => h | exact fun _ _ _ h => hQ2 _ _ _ _ _ h) ?_
                rotate_left
                · intro W hSW
                  simp only [List.getElem_toArray, List.getElem_cons_zero, List.getElem_cons_succ]
                  (try dsimp only at hSW)
                  go_simp
                  with_reducible rfl
                (try simp only [List.getElem_toArray, List.getElem_cons_zero, List.getElem_cons_succ, Act.put, List.setIfInBounds_toArray, List.set_cons_zero, List.set_cons_succ])
                refine wpAnyJ_take 7 (v := ?_) (by first | exact hF | exact wideFn) hHeld rfl (by kernel_rfl) (by kernel_rfl) (by kernel_rfl) (by kernel_rfl) rfl ?_ (by first | exact fun _ _ _ h => h | exact fun _ _ _ h => hQ2 _ _ _ _ _ h) ?_
                rotate_left
                · intro W hSW
                  simp only [List.getElem_toArray, List.getElem_cons_zero, List.getElem_cons_succ]
                  (try dsimp only at hSW)
                  go_simp
                  with_reducible rfl
                (try simp only [List.getElem_toArray, List.getElem_cons_zero, List.getElem_cons_succ, Act.put, List.setIfInBounds_toArray, List.set_cons_zero, List.set_cons_succ])
                refine wpAnyJ_take 8 (v := ?_) (by first | exact hF | exact wideFn) hHeld rfl (by kernel_rfl) (by kernel_rfl) (by kernel_rfl) (by kernel_rfl) rfl ?_ (by first | exact fun _ _ _ h => h | exact fun _ _ _ h => hQ2 _ _ _ _ _ h) ?_
                rotate_left
                · intro W hSW
                  simp only [List.getElem_toArray, List.getElem_cons_zero, List.getElem_cons_succ]
                  (try dsimp only at hSW)
                  go_simp
                  with_reducible rfl
                (try simp only [List.getElem_toArray, List.getElem_cons_zero, List.getElem_cons_succ, Act.put, List.setIfInBounds_toArray, List.set_cons_zero, List.set_cons_succ])
                refine wpAnyJ_one 9 rfl (by kernel_rfl) (fun K hK => ?_)
                simp only [List.getElem_toArray, List.getElem_cons_zero, List.getElem_cons_succ]
                go_simp
                refine ⟨trivial, rfl, ?_⟩
                refine (callsIn_wide.2 (refIn_any (s.cf k j) (-1) ((s.wn k : Int) - 1) _)).mono ?_
                rintro e w' ⟨rfl, rfl⟩
                skip
                dsimp only
                refine hK.out _ _ (fun _ => hHeld) ?_
                clear hK K
                (try simp only [List.getElem_toArray, List.getElem_cons_zero, List.getElem_cons_succ, Act.put, List.setIfInBounds_toArray, List.set_cons_zero, List.set_cons_succ])
                refine wpAnyJ_take 10 (v := ?_) (by first | exact hF | exact wideFn) hHeld rfl (by kernel_rfl) (by kernel_rfl) (by kernel_rfl) (by kernel_rfl) rfl ?_ (by first | exact fun _ _ _ h => h | exact fun _ _ _ h => hQ2 _ _ _ _ _ h) ?_
                rotate_left
                · intro W hSW
                  simp only [List.getElem_toArray, List.getElem_cons_zero, List.getElem_cons_succ]
                  (try dsimp only at hSW)
                  go_simp
                  with_reducible rfl
                (try simp only [List.getElem_toArray, List.getElem_cons_zero, List.getElem_cons_succ, Act.put, List.setIfInBounds_toArray, List.set_cons_zero, List.set_cons_succ])
                refine wpAnyJ_done (by kernel_rfl) ?_
                have HRd := hide (HRc.out.ext (Below.refl _ _).drew)
                have KTd := hide KTc.out.drew
                have KHd := hide KHc.out.drew
                have HCFn : Hid (∀ c, c < j + 1 → -1 ≤ s.cf k c ∧ s.cf k c ≤ (s.wn k : Int) - 1) := hide (fun c hc => by
                  by_cases e : c = j
                  · subst e; exact hin2
                  · exact HCF.out c (by omega))
                have hcc2 : wr.drew.cell? ⟨cb, coff + j, none⟩ = some (.int .i64 (s.cf k j)) := hcc
                clear hHeld hin hww
                generalize wr.drew = wd at HRd KTd KHd hcc2 ⊢
                obtain ⟨t0, t1', t2'⟩ := bx2 KTd.out
                rw [HCA.out] at t1'
                by_cases hneg : 0 ≤ s.cf k j
                · obtain ⟨q, hq⟩ := Int.eq_ofNat_of_zero_le hneg
                  have HQ := hide hq
                  rw [hq] at hcc2
                  have hqn : q < s.wn k := by omega
                  have q1 : (0 : Int) ≤ (q : Int) := by omega
                  have q2 : (q : Int) < (s.wn k : Int) := by omega
                  have hqc : wd.cell? ⟨hb, q, none⟩ = some (.bool (hasTo (s.cf k) j q)) := by rw [KHd.out.cell, rowV_get _ _ hqn]
                  have hqf := KHd.out.frozen q
                  have hql := KHd.out.lt
                  clear hneg hq hcc hin2 t1 t2
                  go_wp2_with fail
                  go_roundw
                  case rel => exact ⟨j + 1, by go_num, by omega, HCFn, hide ⟨HRd.out.1.setCell (p := ⟨hb, q, none⟩) (by show w.heap.size ≤ hb; omega) _, HRd.out.2.far (p := ⟨hb, q, none⟩) (by show w.heap.size ≠ hb; omega) _⟩, hide (KTd.out.far (p := ⟨hb, q, none⟩) hhg _), hide (has_on KHd.out HQ.out)⟩
                  case measure => simp [intOf]; omega
                · have hcc3 : s.cf k j < 0 := by omega
                  clear hcc hin2 t1 t2
                  go_wp2_with fail
                  go_roundw
                  case rel => exact ⟨j + 1, by go_num, by omega, HCFn, HRd, KTd, hide (has_off KHd.out hcc3)⟩
                  case measure => simp [intOf]; omega
            · obtain rfl : j = s.cn k := by omega
              go_wp2_with fail
              go_loopw [7] (fun i wr => ∃ j : Nat, i = .int .i64 j ∧ j ≤ s.wn k ∧ Hid (∀ b, b < j → hasTo (s.cf k) (s.cn k) b = true ∧ 0 ≤ s.wf k b ∧ s.wf k b ≤ 1000) ∧ Hid (StackInv w s wr) ∧ Hid (Blk wr g 72 #[.slice (s.ca k) (s.cn k) (s.cc k), .slice (s.wa k) (s.wn k) (s.wc k)]) ∧ Hid (Blk wr hb 4 (rowV (s.wn k) fun b => .bool (hasTo (s.cf k) (s.cn k) b)))) (fun i _ => s.wn k - (intOf i).toNat)
              case atStart => exact ⟨0, rfl, by omega, hide (fun c h => absurd h (by omega)), HRc, KTc, KHc⟩
              case round =>
                obtain ⟨j, rfl, hj, HWF, HRe, KTe, KHe⟩ := hrel
                obtain ⟨t0', t1', t2'⟩ := bx2 KTe.out
                by_cases hlt3 : j < s.wn k
                · obtain ⟨eb, eoff, hwa, heb, hec⟩ := (HIW.out.below HRe.out.1 (Nat.le_refl _)).at_ hlt3
                  rw [hwa] at t2'
                  clear hwa
                  have j1 : (0 : Int) ≤ (j : Int) := by omega
                  have j2 : (j : Int) < (s.wn k : Int) := by omega
                  have hqc : wr.cell? ⟨hb, j, none⟩ = some (.bool (hasTo (s.cf k) (s.cn k) j)) := by rw [KHe.out.cell, rowV_get _ _ hlt3]
                  rcases hh : hasTo (s.cf k) (s.cn k) j with _ | _
                  · rw [hh] at hqc
                    have HX : Hid (stackB s = false) := hide (stack_no fun e => by have := e.2.2 k hlt; simp only [tierB, Bool.and_eq_true, decide_eq_true_eq] at this; exact has_all this.2.2.2.2 hlt3 hh)
                    clear hh
                    go_wp2_with fail
                    go_ret
                    exact ⟨by rw [HX.out]; rfl, HRe.out.1⟩
                  · rw [hh] at hqc
                    rcases hin : inB (s.wf k j) 0 1000 with _ | _
                    · have HX : Hid (stackB s = false) := hide (stack_no fun e => by have := e.2.2 k hlt; simp only [tierB, Bool.and_eq_true, decide_eq_true_eq, wiB_iff] at this; exact inB_no hin (this.2.2.1 j hlt3))
                      clear hh
                      go_wp2_with ((with_reducible refine (refIn_any _ _ _ _).mono ?_); rintro e w' ⟨rfl, rfl⟩)
                      go_ret
                      exact ⟨by rw [HX.out]; rfl, HRe.out.1⟩
                    · have hin2 := (inB_iff _ _ _).1 hin
                      have HWFn : Hid (∀ b, b < j + 1 → hasTo (s.cf k) (s.cn k) b = true ∧ 0 ≤ s.wf k b ∧ s.wf k b ≤ 1000) := hide (fun b hb => by
                        by_cases e : b = j
                        · subst e; exact ⟨hh, hin2⟩
                        · exact HWF.out b (by omega))
                      clear hh hin2
                      go_wp2_with ((with_reducible refine (refIn_any _ _ _ _).mono ?_); rintro e w' ⟨rfl, rfl⟩)
                      go_roundw
                      case rel => exact ⟨j + 1, by go_num, by omega, HWFn, HRe, KTe, KHe⟩
                      case measure => simp [intOf]; omega
                · obtain rfl : j = s.wn k := by omega
                  have HTn : Hid (∀ t, t < k + 1 → tierB (s.wd * s.hg) (s.cn t) (s.wn t) (s.cf t) (s.wf t) = true) := hide (fun t ht => by
                    by_cases e : t = k
                    · subst e
                      exact tier_yes HCN.out (by have := HCN.out; omega) (fun b hb => (HWF.out b hb).2) HCF.out (fun b hb => (HWF.out b hb).1)
                    · exact HT.out t (by omega))
                  go_wp2_with fail
                  go_roundw
                  case rel => exact ⟨k + 1, by go_num, by omega, HTn, HRe⟩
                  case measure => simp [intOf]; omega
        · have hcn2 : ((s.cn k : Int) != s.wd * s.hg) = false := by simp [hcn]
          have hwn2 : (s.cn k : Int) < (s.wn k : Int) := by omega
          have HX : Hid (stackB s = false) := hide (stack_no fun e => by have := e.2.2 k hlt; simp only [tierB, Bool.and_eq_true, decide_eq_true_eq] at this; omega)
          clear hcn
          go_wp2_with fail
          go_ret
          exact ⟨by rw [HX.out]; rfl, HRa.out.1⟩
      · have hcn2 : ((s.cn k : Int) != s.wd * s.hg) = true := by simp [hcn]
        have HX : Hid (stackB s = false) := hide (stack_no fun e => by have := e.2.2 k hlt; simp only [tierB, Bool.and_eq_true, decide_eq_true_eq] at this; omega)
        clear hcn
        go_wp2_with fail
        go_ret
        exact ⟨by rw [HX.out]; rfl, HRa.out.1⟩
    · obtain rfl : k = s.nt := by omega
      have HX : Hid (stackB s = true) := hide ((stackB_iff s).2 ⟨⟨⟨w1, w2⟩, ⟨g1, g2⟩⟩, by omega, HT.out⟩)
      go_wp2_with fail
      go_ret
      exact ⟨by rw [HX.out]; rfl, HR.out.1⟩
end Go.Proofs.Ytlhekifmkkgjlaa
/- Chapter 8, the reference: New. -/
namespace Go.Proofs.Ytlhekifmkkgjlaa
open Go Go.RowKit Go.Shelf
set_option maxHeartbeats 4000000
set_option maxRecDepth 100000
/-- a list of numbers copied to an empty list -/
theorem copyI {W : World} {base g n c : Nat} {A : Option Addr} {x : Nat → Int} (h0 : W.ownsRow base 3 1 (.slice (some ⟨g, 0, none⟩) 0 0) 0 []) (hR : IR W W.heap.size A n x) (hn : n ≤ 65536) (hb : base ≤ W.heap.size) :
    ∃ A' c' w', (Builtin.append_ #[56, 56] 56 #[.slice (some ⟨g, 0, none⟩) 0 0, .slice A n c]).run Try.prog W = .ok (.slice A' n c') w' ∧ rowI w' base A' n c' x ∧ Below base W w' ∧ W.grownBy w' (some g) := by
  obtain ⟨i0, hi, hz0, hz1, hz2⟩ := info_parts info_int
  obtain ⟨v, w', hrun, hown, hg, -⟩ := run_append_any (P := Try.prog) W base 56 56 3 i0 _ 1 8 Try.underlying56 hi hz0 hz1 hz2 rfl (by omega) (.slice (some ⟨g, 0, none⟩) 0 0) 0 [] h0 _ A n c (cellsOf 1 n fun i _ => .int .i64 (x i)) (ER.reads hR (by omega)) (ints_one _ _) (by unfold maxLen; omega) (by omega) hb
  rw [Nat.zero_add, List.nil_append] at hown
  obtain ⟨A', c', rfl⟩ := own_shape hown
  exact ⟨A', c', w', hrun, hown, (Below.refl _ _).grown hg hb (fun j hj => (h0.lt j hj).1), hg⟩
theorem rowI.at0 {w : World} {base n c : Nat} {A : Option Addr} {x : Nat → Int} (h : rowI w base A n c x) (hn : 0 < n) : ∃ g, A = some ⟨g, 0, none⟩ ∧ base ≤ g ∧ IR w w.heap.size (some ⟨g, 0, none⟩) n x := by
  obtain ⟨g, cap, hv, hb, hlt⟩ := h.form hn
  injection hv with h1 h2 h3
  subst h1
  exact ⟨g, rfl, hb, h.ir⟩
theorem wl_made (w : World) (n : Nat) : WL (w.alloc (.cells (madeCells #[.int .i64 0, .int .i64 0, .int .i64 0, .int .i64 0, .int .i64 0, .int .i64 0, .int .i64 0] (n * 7)) 94)) w.heap.size n (fun _ => Wa.zero) := by
  have hB := Blk.new w 94 (madeCells #[.int .i64 0, .int .i64 0, .int .i64 0, .int .i64 0, .int .i64 0, .int .i64 0, .int .i64 0] (n * 7))
  refine ⟨⟨_, hB⟩, fun k hk => ?_⟩
  have hc : ∀ i, i < n * 7 → (w.alloc (.cells (madeCells #[.int .i64 0, .int .i64 0, .int .i64 0, .int .i64 0, .int .i64 0, .int .i64 0, .int .i64 0] (n * 7)) 94)).cell? ⟨w.heap.size, i, none⟩ = some (.int .i64 0) := by
    intro i hi
    rw [hB.cell]
    have h7 : i % 7 < 7 := Nat.mod_lt _ (by omega)
    simp only [madeCells, Array.getElem?_map, Array.getElem?_range, hi, if_true, Option.map_some]
    congr 1
    rcases (by omega : i % 7 = 0 ∨ i % 7 = 1 ∨ i % 7 = 2 ∨ i % 7 = 3 ∨ i % 7 = 4 ∨ i % 7 = 5 ∨ i % 7 = 6) with h | h | h | h | h | h | h <;> simp [h]
  exact ⟨hB.lt, fun i => hB.frozen i, hc _ (by omega), hc _ (by omega), hc _ (by omega), hc _ (by omega), hc _ (by omega), hc _ (by omega), hc _ (by omega)⟩
def zbkV : Value := .agg #[.bool false, .slice none 0 0, .int .i64 0, .slice none 0 0, .slice none 0 0]
def RefNewPost (n : Nat) (sp : Nat → Int) (room : Int) (w : World) (e : Ending) (w' : World) : Prop :=
  (newOk n sp room = false ∧ e = .returned (.tuple #[zbkV, .bool false]) ∧ Below w.heap.size w w') ∨
  (newOk n sp room = true ∧ ∃ a sc g wc, e = .returned (.tuple #[bkV (some ⟨a, 0, none⟩) n sc room (some ⟨g, 0, none⟩) wc none 0 0, .bool true]) ∧ IR w' w'.heap.size (some ⟨a, 0, none⟩) n sp ∧ WL w' g n (fun _ => Wa.zero) ∧ w.heap.size ≤ a ∧ w.heap.size ≤ g ∧ Below w.heap.size w w')
theorem refNew_any (A : Option Addr) (n c : Nat) (sp : Nat → Int) (room : Int) (w : World) (hR : IR w w.heap.size A n sp) (hn : n ≤ 65536) :
    Calls Try.prog 34 #[.slice A n c, .int .i64 room] w (RefNewPost n sp room w) := by
  obtain ⟨i0, hi, hz0, hz1, hz2⟩ := info_parts info_wares
  have HGL := hide (fun (hm : n ≤ 20) (W : World) => (show _ from by
    have gl := run_make_rowN (P := Try.prog) 85 94 i0 _ Try.underlying85 hi hz0 .i64 .i64 n n (Nat.le_refl _) (by rw [hz2]; omega) (by omega) W
    rw [hz1] at gl
    exact gl : (Instr.makeSlice 85 (.int .i64 (n : Int)) (.int .i64 (n : Int))).run Try.prog W = .ok (.slice (some ⟨W.heap.size, 0, none⟩) n n) (W.alloc (.cells (madeCells #[.int .i64 0, .int .i64 0, .int .i64 0, .int .i64 0, .int .i64 0, .int .i64 0, .int .i64 0] (n * 7)) 94))))
  have HB0 := hide ((Below.refl w.heap.size w).alloc (Nat.le_refl _) (.cells #[.bool false, .slice none 0 0, .int .i64 0, .slice none 0 0, .slice none 0 0] 87))
  have KZ := hide (Blk.new w 87 #[.bool false, .slice none 0 0, .int .i64 0, .slice none 0 0, .slice none 0 0])
  have HRR := hide hR
  clear hR hi hz0 hz1 hz2
  go_enter Try.func34, Try.ntmps34
  go_wp2_with fail
  have hzl : w.heap.size < (w.alloc (.cells #[.bool false, .slice none 0 0, .int .i64 0, .slice none 0 0, .slice none 0 0] 87)).heap.size := by simp
  have HZL := hide hzl
  clear hzl
  generalize (w.alloc (.cells #[.bool false, .slice none 0 0, .int .i64 0, .slice none 0 0, .slice none 0 0] 87)) = W0 at HB0 KZ HZL ⊢
  go_loop [6] (fun i => ∃ k : Nat, i = .int .i64 k ∧ k ≤ n ∧ Hid (anyTo (fun k => outB 1 1000 (sp k)) k = false)) (fun i => n - (intOf i).toNat)
  case atStart => exact ⟨0, rfl, by omega, hide rfl⟩
  case round =>
    obtain ⟨k, rfl, hk, HN⟩ := hrel
    by_cases hlt : k < n
    · obtain ⟨cb, coff, rfl, hcb, hcc⟩ := (HRR.out.below HB0.out (Nat.le_refl _)).at_ hlt
      have j1 : (0 : Int) ≤ (k : Int) := by omega
      have j2 : (k : Int) < (n : Int) := by omega
      rcases hx : inB (sp k) 1 1000 with _ | _
      · have hno : newOk n sp room = false := by
          unfold newOk
          have : wiB 1 1000 sp n = false := by
            unfold wiB
            rw [Bool.not_eq_false', anyTo_iff]
            exact ⟨k, hlt, by unfold outB; unfold inB at hx; simp at hx ⊢; omega⟩
          rw [this]; simp
        have HNO := hide hno
        obtain ⟨c0, c1, c2, c3, c4, c5, h1, h2, h3, h4, h5⟩ := bx5' KZ.out
        have HC := refIn_any (sp k) 1 1000 W0
        rw [hx] at HC
        have HCC := hide HC
        clear hno hx HC
        go_wp2_with (go_at_call 70; refine HCC.out.mono ?_; rintro e w1 ⟨rfl, rfl⟩)
        refine bodyPost_ret (v := .tuple #[zbkV, .bool false]) (by simp [results, Try.results34, go_sem, zbkV, *]) rfl (.inl ⟨HNO.out, rfl, set5_B HB0.out (Nat.le_refl _) _ _ _ _ _⟩)
      · have HY : Hid (anyTo (fun k => outB 1 1000 (sp k)) (k + 1) = false) := hide (by
          show (anyTo _ k || outB 1 1000 (sp k)) = false
          rw [HN.out]; unfold outB; unfold inB at hx; simp at hx ⊢; omega)
        have HC := refIn_any (sp k) 1 1000 W0
        rw [hx] at HC
        have HCC := hide HC
        clear hx HC
        go_wp2_with (go_at_call 70; refine HCC.out.mono ?_; rintro e w1 ⟨rfl, rfl⟩)
        go_round
        case rel => exact ⟨k + 1, by go_num, by omega, HY⟩
        case measure => simp [intOf]; omega
    · obtain rfl : n = k := by omega
      have hw : wiB 1 1000 sp n = true := by unfold wiB; rw [HN.out]; rfl
      rcases hx : inB (n : Int) 1 20 with _ | _
      · have hno : newOk n sp room = false := by
          unfold newOk; unfold inB at hx; rw [hw]; simp at hx ⊢; omega
        have HNO := hide hno
        obtain ⟨c0, c1, c2, c3, c4, c5, h1, h2, h3, h4, h5⟩ := bx5' KZ.out
        have HC := refIn_any (n : Int) 1 20 W0
        rw [hx] at HC
        have HCC := hide HC
        clear hno hx HC hw
        go_wp2_with (go_at_call 70; refine HCC.out.mono ?_; rintro e w1 ⟨rfl, rfl⟩)
        refine bodyPost_ret (v := .tuple #[zbkV, .bool false]) (by simp [results, Try.results34, go_sem, zbkV, *]) rfl (.inl ⟨HNO.out, rfl, set5_B HB0.out (Nat.le_refl _) _ _ _ _ _⟩)
      · rcases hy : inB room 0 1000000000 with _ | _
        · have hno : newOk n sp room = false := by
            unfold newOk; unfold inB at hx hy; rw [hw]; simp at hx hy ⊢; omega
          have HNO := hide hno
          obtain ⟨c0, c1, c2, c3, c4, c5, h1, h2, h3, h4, h5⟩ := bx5' KZ.out
          have HC := refIn_any (n : Int) 1 20 W0
          have HD := refIn_any room 0 1000000000 W0
          rw [hx] at HC
          rw [hy] at HD
          have HCC := hide HC
          have HDD := hide HD
          clear hno hx hy HC HD hw
          go_wp2_with (first | (go_at_call 70; (with_reducible refine HCC.out.mono ?_); rintro e w1 ⟨rfl, rfl⟩) | (go_at_call 70; refine HDD.out.mono ?_; rintro e w1 ⟨rfl, rfl⟩))
          refine bodyPost_ret (v := .tuple #[zbkV, .bool false]) (by simp [results, Try.results34, go_sem, zbkV, *]) rfl (.inl ⟨HNO.out, rfl, set5_B HB0.out (Nat.le_refl _) _ _ _ _ _⟩)
        · have hyes : newOk n sp room = true := by
            unfold newOk; unfold inB at hx hy; rw [hw]; simp at hx hy ⊢; omega
          obtain ⟨hn0, hn20⟩ : 0 < n ∧ n ≤ 20 := by unfold inB at hx; simp at hx; omega
          have HYES := hide hyes
          have HC := refIn_any (n : Int) 1 20 W0
          have HD := refIn_any room 0 1000000000 W0
          rw [hx] at HC
          rw [hy] at HD
          have HCC := hide HC
          have HDD := hide HD
          clear hyes hx hy HC HD hw
          go_wp2_with (first | (go_at_call 70; (with_reducible refine HCC.out.mono ?_); rintro e w1 ⟨rfl, rfl⟩) | (go_at_call 70; refine HDD.out.mono ?_; rintro e w1 ⟨rfl, rfl⟩))
          have Bd := hide (Below.refl W0.heap.size W0).drew
          refine wp_region_J (fun W : World => True) (by kernel_rfl) ?_
          generalize W0.drew = wd at Bd ⊢
          refine wpAnyJ_take 1 (v := ?_) (by first | exact hF | exact wideFn) trivial rfl (by kernel_rfl) (by kernel_rfl) (by kernel_rfl) (by kernel_rfl) rfl ?_ (by first | exact fun _ _ _ h => h | exact fun _ _ _ h => hQ2 _ _ _ _ _ h) ?_
          rotate_left
          · intro W hSW
            simp only [List.getElem_toArray, List.getElem_cons_zero, List.getElem_cons_succ]
            (try dsimp only at hSW)
            go_simp
            with_reducible rfl
          (try simp only [List.getElem_toArray, List.getElem_cons_zero, List.getElem_cons_succ, Act.put, List.setIfInBounds_toArray, List.set_cons_zero, List.set_cons_succ])
          refine wpAnyJ_take 3 (v := ?_) (by first | exact hF | exact wideFn) trivial rfl (by kernel_rfl) (by kernel_rfl) (by kernel_rfl) (by kernel_rfl) rfl ?_ (by first | exact fun _ _ _ h => h | exact fun _ _ _ h => hQ2 _ _ _ _ _ h) ?_
          rotate_left
          · intro W hSW
            simp only [List.getElem_toArray, List.getElem_cons_zero, List.getElem_cons_succ]
            (try dsimp only at hSW)
            go_simp
            with_reducible rfl
          (try simp only [List.getElem_toArray, List.getElem_cons_zero, List.getElem_cons_succ, Act.put, List.setIfInBounds_toArray, List.set_cons_zero, List.set_cons_succ])
          refine wpAnyJ_take 4 (v := ?_) (by first | exact hF | exact wideFn) trivial rfl (by kernel_rfl) (by kernel_rfl) (by kernel_rfl) (by kernel_rfl) rfl ?_ (by first | exact fun _ _ _ h => h | exact fun _ _ _ h => hQ2 _ _ _ _ _ h) ?_
          rotate_left
          · intro W hSW
            simp only [List.getElem_toArray, List.getElem_cons_zero, List.getElem_cons_succ]
            (try dsimp only at hSW)
            go_simp
            with_reducible rfl
          (try simp only [List.getElem_toArray, List.getElem_cons_zero, List.getElem_cons_succ, Act.put, List.setIfInBounds_toArray, List.set_cons_zero, List.set_cons_succ])
          refine wpAnyJ_take 5 (v := ?_) (by first | exact hF | exact wideFn) trivial rfl (by kernel_rfl) (by kernel_rfl) (by kernel_rfl) (by kernel_rfl) rfl ?_ (by first | exact fun _ _ _ h => h | exact fun _ _ _ h => hQ2 _ _ _ _ _ h) ?_
          rotate_left
          · intro W hSW
            simp only [List.getElem_toArray, List.getElem_cons_zero, List.getElem_cons_succ]
            (try dsimp only at hSW)
            go_simp
            with_reducible rfl
          (try simp only [List.getElem_toArray, List.getElem_cons_zero, List.getElem_cons_succ, Act.put, List.setIfInBounds_toArray, List.set_cons_zero, List.set_cons_succ])
          refine wpAnyJ_two 0 6 rfl rfl (by kernel_rfl) (fun K hK => ?_) (fun K hK => ?_)
          · have Be := hide (Bd.out.alloc Bd.out.size (.cells #[] 3))
            have HO0 := hide (own_empty wd 3 1)
            simp only [List.getElem_toArray, List.getElem_cons_zero, List.getElem_cons_succ]
            go_simp
            refine hK.out _ _ (fun _ => trivial) ?_
            clear hK K
            (try simp only [List.getElem_toArray, List.getElem_cons_zero, List.getElem_cons_succ, Act.put, List.setIfInBounds_toArray, List.set_cons_zero, List.set_cons_succ])
            have hz1 := Bd.out.size
            have hz2 : wd.heap.size < (wd.alloc (.cells #[] 3)).heap.size := by simp
            generalize (wd.alloc (.cells #[] 3)) = we at Be HO0 hz2 ⊢
            generalize wd.heap.size = gi at HO0 hz1 hz2 ⊢
            refine wpAnyJ_two 2 6 rfl rfl (by kernel_rfl) (fun K hK => ?_) (fun K hK => ?_)
            · obtain ⟨Aa, ca, w2, hrun, hri, hb2, hgr⟩ := copyI (c := c) (ownMono HO0.out hz1) ((HRR.out.below (HB0.out.trans (Be.out.mono HB0.out.size)) (Nat.le_refl _)).more (by have := HB0.out.size; have := Be.out.size; omega)) hn Be.out.size
              have HRUN := hide hrun
              clear hrun
              rw [if_pos (by rfl)]
              refine wpIn_append_run (.tmp 30) (.tmp 31) 56 wideFn rfl rfl rfl HRUN.out ?_
              refine hK.out _ _ (fun _ => trivial) ?_
              clear hK K
              (try simp only [List.getElem_toArray, List.getElem_cons_zero, List.getElem_cons_succ, Act.put, List.setIfInBounds_toArray, List.set_cons_zero, List.set_cons_succ])
              have gl := HGL.out hn20 w2
              refine wpAnyJ_one 6 rfl (by kernel_rfl) (fun K hK => ?_)
              have HWLF := hide (wl_made w2 n)
              have HBF := hide ((Be.out.trans hb2).alloc (Be.out.trans hb2).size (.cells (madeCells #[.int .i64 0, .int .i64 0, .int .i64 0, .int .i64 0, .int .i64 0, .int .i64 0, .int .i64 0] (n * 7)) 94))
              have HRI := hide (show rowI (w2.alloc (.cells (madeCells #[.int .i64 0, .int .i64 0, .int .i64 0, .int .i64 0, .int .i64 0, .int .i64 0, .int .i64 0] (n * 7)) 94)) W0.heap.size Aa n ca sp from World.ownsRow.alloc hri _)
              have hgw : W0.heap.size ≤ w2.heap.size := (Be.out.trans hb2).size
              simp only [List.getElem_toArray, List.getElem_cons_zero, List.getElem_cons_succ]
              go_simp
              refine hK.out _ _ (fun _ => trivial) ?_
              clear hK K
              (try simp only [List.getElem_toArray, List.getElem_cons_zero, List.getElem_cons_succ, Act.put, List.setIfInBounds_toArray, List.set_cons_zero, List.set_cons_succ])
              clear gl hri hb2 hgr
              generalize (w2.alloc (.cells (madeCells #[.int .i64 0, .int .i64 0, .int .i64 0, .int .i64 0, .int .i64 0, .int .i64 0, .int .i64 0] (n * 7)) 94)) = WF at HWLF HBF HRI ⊢
              generalize w2.heap.size = gw at HWLF hgw ⊢
              refine wpAnyJ_take 7 (v := ?_) (by first | exact hF | exact wideFn) trivial rfl (by kernel_rfl) (by kernel_rfl) (by kernel_rfl) (by kernel_rfl) rfl ?_ (by first | exact fun _ _ _ h => h | exact fun _ _ _ h => hQ2 _ _ _ _ _ h) ?_
              rotate_left
              · intro W hSW
                simp only [List.getElem_toArray, List.getElem_cons_zero, List.getElem_cons_succ]
                (try dsimp only at hSW)
                go_simp
                with_reducible rfl
              (try simp only [List.getElem_toArray, List.getElem_cons_zero, List.getElem_cons_succ, Act.put, List.setIfInBounds_toArray, List.set_cons_zero, List.set_cons_succ])
              have KZ2 := hide (KZ.out.ext HBF.out)
              obtain ⟨c0, c1, c2, c3, c4, c5, f1, f2, f3, f4, f5⟩ := bx5' KZ2.out
              refine wpAnyJ_one 8 rfl (by kernel_rfl) (fun K hK => ?_)
              simp only [List.getElem_toArray, List.getElem_cons_zero, List.getElem_cons_succ]
              go_simp
              refine hK.out _ _ (fun h => absurd h (by rw [show lastOp _ _ _ = true from by kernel_rfl]; simp)) ?_
              clear hK K
              (try simp only [List.getElem_toArray, List.getElem_cons_zero, List.getElem_cons_succ, Act.put, List.setIfInBounds_toArray, List.set_cons_zero, List.set_cons_succ])
              refine wpAnyJ_pure 9 (v := ?_) (by first | exact hF | exact wideFn) rfl (by kernel_rfl) (by kernel_rfl) (by kernel_rfl) (by kernel_rfl) rfl (by kernel_rfl) ?_ (by first | exact fun _ _ _ h => h | exact fun _ _ _ h => hQ2 _ _ _ _ _ h) ?_
              rotate_left
              · simp only [List.getElem_toArray, List.getElem_cons_zero, List.getElem_cons_succ]
                go_simp
                with_reducible rfl
              (try simp only [List.getElem_toArray, List.getElem_cons_zero, List.getElem_cons_succ, Act.put, List.setIfInBounds_toArray, List.set_cons_zero, List.set_cons_succ])
              refine wpAnyJ_done (by kernel_rfl) ?_
              go_wp2_with fail
              obtain ⟨ga, rfl, hga, hir⟩ := HRI.out.at0 hn0
              have HG5 := grown_set5 WF w.heap.size (.bool false) (.slice (some ⟨ga, 0, none⟩) n ca) (.int .i64 room) (.slice (some ⟨gw, 0, none⟩) n n) (.slice none 0 0)
              have hlz := HZL.out
              refine bodyPost_ret (v := .tuple #[bkV (some ⟨ga, 0, none⟩) n ca room (some ⟨gw, 0, none⟩) n none 0 0, .bool true]) (by simp [results, Try.results34, go_sem, bkV, *]) rfl (.inr ⟨HYES.out, ga, ca, gw, n, rfl, ?_, HWLF.out.grown HG5 (fun e => by injection e; omega), by omega, by omega, set5_B (HB0.out.trans (HBF.out.mono HB0.out.size)) (Nat.le_refl _) _ _ _ _ _⟩)
              exact (rowI.kept HRI.out HG5 (.inr (by simp [Value.ownBlock]; omega))).ir
            · have gl := HGL.out hn20 we
              have HW0 := hide (wl_made we n)
              have Bf := hide (Be.out.alloc Be.out.size (.cells (madeCells #[.int .i64 0, .int .i64 0, .int .i64 0, .int .i64 0, .int .i64 0, .int .i64 0, .int .i64 0] (n * 7)) 94))
              have HO1 := hide (World.ownsRow.alloc HO0.out (.cells (madeCells #[.int .i64 0, .int .i64 0, .int .i64 0, .int .i64 0, .int .i64 0, .int .i64 0, .int .i64 0] (n * 7)) 94))
              have hgw : W0.heap.size ≤ we.heap.size := Be.out.size
              simp only [List.getElem_toArray, List.getElem_cons_zero, List.getElem_cons_succ]
              go_simp
              refine hK.out _ _ (fun _ => trivial) ?_
              clear hK K
              (try simp only [List.getElem_toArray, List.getElem_cons_zero, List.getElem_cons_succ, Act.put, List.setIfInBounds_toArray, List.set_cons_zero, List.set_cons_succ])
              clear gl
              generalize (we.alloc (.cells (madeCells #[.int .i64 0, .int .i64 0, .int .i64 0, .int .i64 0, .int .i64 0, .int .i64 0, .int .i64 0] (n * 7)) 94)) = wf at HW0 Bf HO1 ⊢
              have hgg : gi < we.heap.size := hz2
              generalize we.heap.size = gw at HW0 hgw hgg ⊢
              obtain ⟨Aa, ca, w2, hrun, hri, hb2, hgr⟩ := copyI (c := c) (ownMono HO1.out hz1) ((HRR.out.below (HB0.out.trans (Bf.out.mono HB0.out.size)) (Nat.le_refl _)).more (by have := HB0.out.size; have := Bf.out.size; omega)) hn Bf.out.size
              have HRUN := hide hrun
              clear hrun
              refine wpAnyJ_one 2 rfl (by kernel_rfl) (fun K hK => ?_)
              rw [if_pos (by rfl)]
              refine wpIn_append_run (.tmp 30) (.tmp 31) 56 wideFn rfl rfl rfl HRUN.out ?_
              refine hK.out _ _ (fun _ => trivial) ?_
              clear hK K
              (try simp only [List.getElem_toArray, List.getElem_cons_zero, List.getElem_cons_succ, Act.put, List.setIfInBounds_toArray, List.set_cons_zero, List.set_cons_succ])
              have hne : gw ≠ gi := by omega
              have HWLF := hide (HW0.out.grown hgr (fun e => hne (by injection e)))
              have HBF := hide (Bf.out.trans hb2)
              have HRI := hide hri
              clear hri hgr hb2
              generalize hWF : w2 = WF at HWLF HBF HRI ⊢
              refine wpAnyJ_take 7 (v := ?_) (by first | exact hF | exact wideFn) trivial rfl (by kernel_rfl) (by kernel_rfl) (by kernel_rfl) (by kernel_rfl) rfl ?_ (by first | exact fun _ _ _ h => h | exact fun _ _ _ h => hQ2 _ _ _ _ _ h) ?_
              rotate_left
              · intro W hSW
                simp only [List.getElem_toArray, List.getElem_cons_zero, List.getElem_cons_succ]
                (try dsimp only at hSW)
                go_simp
                with_reducible rfl
              (try simp only [List.getElem_toArray, List.getElem_cons_zero, List.getElem_cons_succ, Act.put, List.setIfInBounds_toArray, List.set_cons_zero, List.set_cons_succ])
              have KZ2 := hide (KZ.out.ext HBF.out)
              obtain ⟨c0, c1, c2, c3, c4, c5, f1, f2, f3, f4, f5⟩ := bx5' KZ2.out
              refine wpAnyJ_one 8 rfl (by kernel_rfl) (fun K hK => ?_)
              simp only [List.getElem_toArray, List.getElem_cons_zero, List.getElem_cons_succ]
              go_simp
              refine hK.out _ _ (fun h => absurd h (by rw [show lastOp _ _ _ = true from by kernel_rfl]; simp)) ?_
              clear hK K
              (try simp only [List.getElem_toArray, List.getElem_cons_zero, List.getElem_cons_succ, Act.put, List.setIfInBounds_toArray, List.set_cons_zero, List.set_cons_succ])
              refine wpAnyJ_pure 9 (v := ?_) (by first | exact hF | exact wideFn) rfl (by kernel_rfl) (by kernel_rfl) (by kernel_rfl) (by kernel_rfl) rfl (by kernel_rfl) ?_ (by first | exact fun _ _ _ h => h | exact fun _ _ _ h => hQ2 _ _ _ _ _ h) ?_
              rotate_left
              · simp only [List.getElem_toArray, List.getElem_cons_zero, List.getElem_cons_succ]
                go_simp
                with_reducible rfl
              (try simp only [List.getElem_toArray, List.getElem_cons_zero, List.getElem_cons_succ, Act.put, List.setIfInBounds_toArray, List.set_cons_zero, List.set_cons_succ])
              refine wpAnyJ_done (by kernel_rfl) ?_
              go_wp2_with fail
              obtain ⟨ga, rfl, hga, hir⟩ := HRI.out.at0 hn0
              have HG5 := grown_set5 WF w.heap.size (.bool false) (.slice (some ⟨ga, 0, none⟩) n ca) (.int .i64 room) (.slice (some ⟨gw, 0, none⟩) n n) (.slice none 0 0)
              have hlz := HZL.out
              refine bodyPost_ret (v := .tuple #[bkV (some ⟨ga, 0, none⟩) n ca room (some ⟨gw, 0, none⟩) n none 0 0, .bool true]) (by simp [results, Try.results34, go_sem, bkV, *]) rfl (.inr ⟨HYES.out, ga, ca, gw, n, rfl, ?_, HWLF.out.grown HG5 (fun e => by injection e; omega), by omega, by omega, set5_B (HB0.out.trans (HBF.out.mono HB0.out.size)) (Nat.le_refl _) _ _ _ _ _⟩)
              exact (rowI.kept HRI.out HG5 (.inr (by simp [Value.ownBlock]; omega))).ir
          · have gl := HGL.out hn20 wd
            have HW0 := hide (wl_made wd n)
            have Be := hide (Bd.out.alloc Bd.out.size (.cells (madeCells #[.int .i64 0, .int .i64 0, .int .i64 0, .int .i64 0, .int .i64 0, .int .i64 0, .int .i64 0] (n * 7)) 94))
            have hgw : W0.heap.size ≤ wd.heap.size := Bd.out.size
            simp only [List.getElem_toArray, List.getElem_cons_zero, List.getElem_cons_succ]
            go_simp
            refine hK.out _ _ (fun _ => trivial) ?_
            clear hK K
            (try simp only [List.getElem_toArray, List.getElem_cons_zero, List.getElem_cons_succ, Act.put, List.setIfInBounds_toArray, List.set_cons_zero, List.set_cons_succ])
            clear gl
            have hz2 : wd.heap.size < (wd.alloc (.cells (madeCells #[.int .i64 0, .int .i64 0, .int .i64 0, .int .i64 0, .int .i64 0, .int .i64 0, .int .i64 0] (n * 7)) 94)).heap.size := by simp
            generalize (wd.alloc (.cells (madeCells #[.int .i64 0, .int .i64 0, .int .i64 0, .int .i64 0, .int .i64 0, .int .i64 0, .int .i64 0] (n * 7)) 94)) = we at HW0 Be hz2 ⊢
            generalize wd.heap.size = gw at HW0 hgw hz2 ⊢
            refine wpAnyJ_one 0 rfl (by kernel_rfl) (fun K hK => ?_)
            have Bf := hide (Be.out.alloc Be.out.size (.cells #[] 3))
            have HO1 := hide (own_empty we 3 1)
            have HW1 := hide (HW0.out.ext ((Below.refl we.heap.size we).alloc (Nat.le_refl _) (.cells #[] 3)))
            simp only [List.getElem_toArray, List.getElem_cons_zero, List.getElem_cons_succ]
            go_simp
            refine hK.out _ _ (fun _ => trivial) ?_
            clear hK K
            (try simp only [List.getElem_toArray, List.getElem_cons_zero, List.getElem_cons_succ, Act.put, List.setIfInBounds_toArray, List.set_cons_zero, List.set_cons_succ])
            have hz1 := Be.out.size
            generalize (we.alloc (.cells #[] 3)) = wf at Bf HO1 HW1 ⊢
            generalize we.heap.size = gi at HO1 hz1 hz2 ⊢
            obtain ⟨Aa, ca, w2, hrun, hri, hb2, hgr⟩ := copyI (c := c) (ownMono HO1.out hz1) ((HRR.out.below (HB0.out.trans (Bf.out.mono HB0.out.size)) (Nat.le_refl _)).more (by have := HB0.out.size; have := Bf.out.size; omega)) hn Bf.out.size
            have HRUN := hide hrun
            clear hrun
            refine wpAnyJ_one 2 rfl (by kernel_rfl) (fun K hK => ?_)
            rw [if_pos (by rfl)]
            refine wpIn_append_run (.tmp 30) (.tmp 31) 56 wideFn rfl rfl rfl HRUN.out ?_
            refine hK.out _ _ (fun _ => trivial) ?_
            clear hK K
            (try simp only [List.getElem_toArray, List.getElem_cons_zero, List.getElem_cons_succ, Act.put, List.setIfInBounds_toArray, List.set_cons_zero, List.set_cons_succ])
            have hne : gw ≠ gi := by omega
            have HWLF := hide (HW1.out.grown hgr (fun e => hne (by injection e)))
            have HBF := hide (Bf.out.trans hb2)
            have HRI := hide hri
            clear hri hgr hb2
            generalize hWF : w2 = WF at HWLF HBF HRI ⊢
            refine wpAnyJ_take 7 (v := ?_) (by first | exact hF | exact wideFn) trivial rfl (by kernel_rfl) (by kernel_rfl) (by kernel_rfl) (by kernel_rfl) rfl ?_ (by first | exact fun _ _ _ h => h | exact fun _ _ _ h => hQ2 _ _ _ _ _ h) ?_
            rotate_left
            · intro W hSW
              simp only [List.getElem_toArray, List.getElem_cons_zero, List.getElem_cons_succ]
              (try dsimp only at hSW)
              go_simp
              with_reducible rfl
            (try simp only [List.getElem_toArray, List.getElem_cons_zero, List.getElem_cons_succ, Act.put, List.setIfInBounds_toArray, List.set_cons_zero, List.set_cons_succ])
            have KZ2 := hide (KZ.out.ext HBF.out)
            obtain ⟨c0, c1, c2, c3, c4, c5, f1, f2, f3, f4, f5⟩ := bx5' KZ2.out
            refine wpAnyJ_one 8 rfl (by kernel_rfl) (fun K hK => ?_)
            simp only [List.getElem_toArray, List.getElem_cons_zero, List.getElem_cons_succ]
            go_simp
            refine hK.out _ _ (fun h => absurd h (by rw [show lastOp _ _ _ = true from by kernel_rfl]; simp)) ?_
            clear hK K
            (try simp only [List.getElem_toArray, List.getElem_cons_zero, List.getElem_cons_succ, Act.put, List.setIfInBounds_toArray, List.set_cons_zero, List.set_cons_succ])
            refine wpAnyJ_pure 9 (v := ?_) (by first | exact hF | exact wideFn) rfl (by kernel_rfl) (by kernel_rfl) (by kernel_rfl) (by kernel_rfl) rfl (by kernel_rfl) ?_ (by first | exact fun _ _ _ h => h | exact fun _ _ _ h => hQ2 _ _ _ _ _ h) ?_
            rotate_left
            · simp only [List.getElem_toArray, List.getElem_cons_zero, List.getElem_cons_succ]
              go_simp
              with_reducible rfl
            (try simp only [List.getElem_toArray, List.getElem_cons_zero, List.getElem_cons_succ, Act.put, List.setIfInBounds_toArray, List.set_cons_zero, List.set_cons_succ])
            refine wpAnyJ_done (by kernel_rfl) ?_
            go_wp2_with fail
            obtain ⟨ga, rfl, hga, hir⟩ := HRI.out.at0 hn0
            have HG5 := grown_set5 WF w.heap.size (.bool false) (.slice (some ⟨ga, 0, none⟩) n ca) (.int .i64 room) (.slice (some ⟨gw, 0, none⟩) n n) (.slice none 0 0)
            have hlz := HZL.out
            refine bodyPost_ret (v := .tuple #[bkV (some ⟨ga, 0, none⟩) n ca room (some ⟨gw, 0, none⟩) n none 0 0, .bool true]) (by simp [results, Try.results34, go_sem, bkV, *]) rfl (.inr ⟨HYES.out, ga, ca, gw, n, rfl, ?_, HWLF.out.grown HG5 (fun e => by injection e; omega), by omega, by omega, set5_B (HB0.out.trans (HBF.out.mono HB0.out.size)) (Nat.le_refl _) _ _ _ _ _⟩)
            exact (rowI.kept HRI.out HG5 (.inr (by simp [Value.ownBlock]; omega))).ir
end Go.Proofs.Ytlhekifmkkgjlaa
/- Chapter 8, the reference: fire. -/
namespace Go.Proofs.Ytlhekifmkkgjlaa
open Go Go.RowKit Go.Shelf
set_option maxHeartbeats 8000000
set_option maxRecDepth 100000
theorem info_batch : (Try.prog.info? 107).map (fun i => (i.zero, i.size, i.bytes)) = some (some (.agg #[.int .i64 0, .int .i64 0]), 2, 16) := by kernel_rfl
theorem pairs_one (n : Nat) (x y : Nat → Int) : ∀ u ∈ cellsOf 2 n (fun k i => if i = 0 then Value.int .i64 (x k) else .int .i64 (y k)), u.oneCell' = true := by
  intro u hu
  unfold cellsOf at hu
  obtain ⟨j, -, rfl⟩ := List.mem_map.1 hu
  dsimp only
  split <;> rfl
/-- a list of batches copied to an empty list -/
theorem copyP {W : World} {base g n c : Nat} {A : Option Addr} {x y : Nat → Int} (h0 : W.ownsRow base 107 2 (.slice (some ⟨g, 0, none⟩) 0 0) 0 []) (hR : PI W W.heap.size A n x y) (hn : n ≤ 65536) (hb : base ≤ W.heap.size) :
    ∃ A' c' w', (Builtin.append_ #[79, 79] 79 #[.slice (some ⟨g, 0, none⟩) 0 0, .slice A n c]).run Try.prog W = .ok (.slice A' n c') w' ∧ w'.ownsRow base 107 2 (.slice A' n c') n (cellsOf 2 n fun k i => if i = 0 then .int .i64 (x k) else .int .i64 (y k)) ∧ Below base W w' ∧ W.grownBy w' (some g) := by
  obtain ⟨i0, hi, hz0, hz1, hz2⟩ := info_parts info_batch
  obtain ⟨v, w', hrun, hown, hg, -⟩ := run_append_any (P := Try.prog) W base 79 79 107 i0 _ 2 16 Try.underlying79 hi hz0 hz1 hz2 rfl (by omega) (.slice (some ⟨g, 0, none⟩) 0 0) 0 [] h0 _ A n c _ (ER.reads hR (by omega)) (pairs_one _ _ _) (by unfold maxLen; omega) (by omega) hb
  rw [Nat.zero_add, List.nil_append] at hown
  obtain ⟨A', c', rfl⟩ := own_shape hown
  exact ⟨A', c', w', hrun, hown, (Below.refl _ _).grown hg hb (fun j hj => (h0.lt j hj).1), hg⟩
theorem pi_own {w : World} {base n c : Nat} {A : Option Addr} {x y : Nat → Int} (h : w.ownsRow base 107 2 (.slice A n c) n (cellsOf 2 n fun k i => if i = 0 then .int .i64 (x k) else .int .i64 (y k))) (hn : 0 < n) :
    ∃ g, A = some ⟨g, 0, none⟩ ∧ base ≤ g ∧ g < w.heap.size ∧ PI w w.heap.size (some ⟨g, 0, none⟩) n x y := by
  obtain ⟨g, cap, hv, hb, hlt⟩ := h.form hn
  obtain ⟨A', c', h1, h2, -⟩ := ER.of_own h (by omega)
  injection hv with e1 e2 e3
  subst e1
  injection h1 with e1 e2 e3
  subst e1
  exact ⟨g, rfl, hb, hlt, h2⟩
/-- the answer to Fire -/
def fireEE (n m lm : Nat) (room : Int) (sp : Nat → Int) (ws : Nat → Wa) (x y : Nat → Int) : Int :=
  if 0 < m then 9 else if lm = 0 then 2 else if 20 < lm then 5 else if batsE n ws x y lm ≠ 0 then batsE n ws x y lm else if room < spaceTo sp x y lm then 8 else 0
def RFirePost (SA : Option Addr) (n sc : Nat) (room : Int) (g wc : Nat) (BA : Option Addr) (m bc lm : Nat) (sp : Nat → Int) (ws : Nat → Wa) (x y : Nat → Int) (w : World) (e : Ending) (w' : World) : Prop :=
  (fireEE n m lm room sp ws x y ≠ 0 ∧ e = .returned (.tuple #[bkV SA n sc room (some ⟨g, 0, none⟩) wc BA m bc, .int .i64 (fireEE n m lm room sp ws x y)]) ∧ Below w.heap.size w w') ∨
  (fireEE n m lm room sp ws x y = 0 ∧ ∃ g' c' h hc, e = .returned (.tuple #[bkV SA n sc room (some ⟨g', 0, none⟩) c' (some ⟨h, 0, none⟩) lm hc, .int .i64 0]) ∧ WL w' g' n (fireW ws x y lm) ∧ PI w' w'.heap.size (some ⟨h, 0, none⟩) lm x y ∧ w.heap.size ≤ g' ∧ w.heap.size ≤ h ∧ Below w.heap.size w w')
/-- the boxes of fire and draw: the book that came in, and the answer's -/
structure FB (w : World) (SA : Option Addr) (n sc : Nat) (room : Int) (g wc : Nat) (BA : Option Addr) (m bc : Nat) (ws : Nat → Wa) (wr : World) : Prop where
  below : Below w.heap.size w wr
  b2 : Blk wr w.heap.size 87 #[.bool false, .slice SA n sc, .int .i64 room, .slice (some ⟨g, 0, none⟩) n wc, .slice BA m bc]
  b4 : Blk wr (w.heap.size + 1) 87 #[.bool false, .slice none 0 0, .int .i64 0, .slice none 0 0, .slice none 0 0]
  wl : WL wr g n ws
  lo : g < w.heap.size
section
variable {w wr w' : World} {SA : Option Addr} {n sc : Nat} {room : Int} {g wc : Nat} {BA : Option Addr} {m bc : Nat} {ws : Nat → Wa}
theorem FB.ext (h : FB w SA n sc room g wc BA m bc ws wr) (hb : Below wr.heap.size wr w') : FB w SA n sc room g wc BA m bc ws w' :=
  ⟨h.below.trans (hb.mono h.below.size), h.b2.ext hb, h.b4.ext hb, h.wl.ext hb, h.lo⟩
theorem FB.set (h : FB w SA n sc room g wc BA m bc ws wr) {q : Nat} (hg : wr.grownBy w' (some q)) (hq : w.heap.size + 1 < q) : FB w SA n sc room g wc BA m bc ws w' :=
  ⟨h.below.grown hg h.below.size (fun j hj => by injection hj with hj; omega), h.b2.grown hg (fun e => by injection e; omega), h.b4.grown hg (fun e => by injection e; omega), h.wl.grown hg (fun e => by have := h.lo; injection e; omega), h.lo⟩
end
/-- a further box with the book that is made -/
structure FC (w : World) (SA : Option Addr) (n sc : Nat) (room : Int) (g wc : Nat) (BA : Option Addr) (m bc : Nat) (ws : Nat → Wa) (g7 gw cw : Nat) (ws' : Nat → Wa) (wr : World) : Prop extends FB w SA n sc room g wc BA m bc ws wr where
  b7 : Blk wr g7 87 #[.bool false, .slice SA n sc, .int .i64 room, .slice (some ⟨gw, 0, none⟩) n cw, .slice BA m bc]
  wl7 : WL wr gw n ws'
  lo7 : w.heap.size + 1 < g7
  lo8 : gw = g ∨ w.heap.size ≤ gw
section
variable {w wr w' : World} {SA : Option Addr} {n sc : Nat} {room : Int} {g wc : Nat} {BA : Option Addr} {m bc : Nat} {ws ws' : Nat → Wa} {g7 gw cw : Nat}
theorem FC.ext (h : FC w SA n sc room g wc BA m bc ws g7 gw cw ws' wr) (hb : Below wr.heap.size wr w') : FC w SA n sc room g wc BA m bc ws g7 gw cw ws' w' :=
  ⟨h.toFB.ext hb, h.b7.ext hb, h.wl7.ext hb, h.lo7, h.lo8⟩
theorem FC.set (h : FC w SA n sc room g wc BA m bc ws g7 gw cw ws' wr) {q : Nat} (hg : wr.grownBy w' (some q)) (hq : w.heap.size + 1 < q) (hq7 : q ≠ g7) (hqw : q ≠ gw) : FC w SA n sc room g wc BA m bc ws g7 gw cw ws' w' :=
  ⟨h.toFB.set hg hq, h.b7.grown hg (fun e => hq7 (by injection e with e; exact e.symm)), h.wl7.grown hg (fun e => hqw (by injection e with e; exact e.symm)), h.lo7, h.lo8⟩
/-- the list of kinds is changed -/
theorem FC.turn (h : FC w SA n sc room g wc BA m bc ws g7 gw cw ws' wr) {gw2 cw2 : Nat} {ws2 : Nat → Wa} (hw : WL wr gw2 n ws2) (hg2 : w.heap.size ≤ gw2) :
    FC w SA n sc room g wc BA m bc ws g7 gw2 cw2 ws2 (set5 wr g7 (.bool false) (.slice SA n sc) (.int .i64 room) (.slice (some ⟨gw2, 0, none⟩) n cw2) (.slice BA m bc)) := by
  have hg := grown_set5 wr g7 (.bool false) (.slice SA n sc) (.int .i64 room) (.slice (some ⟨gw2, 0, none⟩) n cw2) (.slice BA m bc)
  have hne : gw2 ≠ g7 := by
    obtain ⟨cs, hc⟩ := hw.1
    exact hc.ne_ h.b7 (by decide)
  exact ⟨h.toFB.set hg h.lo7, set5_blk h.b7, hw.grown hg (fun e => hne (by injection e)), h.lo7, .inr hg2⟩
end
end Go.Proofs.Ytlhekifmkkgjlaa
