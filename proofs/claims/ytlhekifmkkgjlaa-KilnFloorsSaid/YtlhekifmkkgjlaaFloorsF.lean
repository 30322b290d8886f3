/- kiln.Free, walked. -/
import Derived.Test.YtlhekifmkkgjlaaFloorsE
import Derived.Deep.CutBlock
import Derived.Deep.DeepCutAuto
import Derived.Lib.SmallJoins
import Derived.OpenShut
import Derived.Deep.Fields
set_option linter.unusedSimpArgs false
set_option linter.unusedVariables false
set_option linter.unnecessarySimpa false
namespace Go.Proofs.Ytlhekifmkkgjlaa
open Go Go.RowKit Go.Shelf
attribute [local go_sem] Oper.semAt_some
set_option maxHeartbeats 4000000
set_option maxRecDepth 100000
/-- what a round over the bricks keeps: the pile's box p, the list's box q -/
structure FO (w W : World) (s : Stk) (p q : Nat) (l : List (Nat × Nat)) : Prop where
  below : Below w.heap.size w W
  pile : PileB W p s
  box : ∃ v, Blk W q 112 #[v] ∧ OwnB W w.heap.size v l
section
variable {w W W' : World} {s : Stk} {p q : Nat} {l : List (Nat × Nat)}
theorem FO.keptN (h : FO w W s p q l) {row : Option Nat} (hg : W.grownBy W' row) (hr : ∀ g, row = some g → w.heap.size ≤ g ∧ ∃ o : Obj, W.heap[g]? = some o ∧ o.isCells = false) : FO w W' s p q l := by
  have hr' := fun g e => (hr g e).2
  obtain ⟨v, h1, h2⟩ := h.box
  exact ⟨h.below.trans ⟨hg.os, hg.tape, hg.output, hg.size, fun k hk => hg.block k (by have := h.below.size; omega) (fun e => by have := (hr k e.symm).1; omega)⟩, Blk.keptN h.pile hg hr', v, h1.keptN hg hr', ownN h2 hg hr'⟩
theorem FO.ext (h : FO w W s p q l) (hb : Below W.heap.size W W') : FO w W' s p q l := by
  obtain ⟨v, h1, h2⟩ := h.box
  exact ⟨h.below.trans (hb.mono h.below.size), Blk.ext h.pile hb, v, h1.ext hb, ownBelow h2 hb⟩
theorem FO.put (h : FO w W s p q l) {g : Nat} (hg : w.heap.size ≤ g) (h1 : g ≠ p) (h2 : g ≠ q) {u : Value} (hG : Blk W g 4 #[u]) (x : Value) : FO w (W.setCell ⟨g, 0, none⟩ x) s p q l := by
  obtain ⟨v, k1, k2⟩ := h.box
  exact ⟨h.below.setCell (p := ⟨g, 0, none⟩) hg x, Blk.far h.pile (p := ⟨g, 0, none⟩) (by simp only []; omega) x, v, k1.far (p := ⟨g, 0, none⟩) (by simp only []; omega) x, ownsRow_setCell_other k2 (own_blk_ne k2 hG (by decide)) _⟩
end
theorem FO.push {w W W2 : World} {s : Stk} {p q : Nat} {l : List (Nat × Nat)} (h : FO w W s p q l) {v v' : Value} {t j : Nat} (hv1 : Blk W q 112 #[v]) (hv2 : OwnB W w.heap.size v l) (hg : (W.alloc (.cells #[.int .i64 t, .int .i64 j] 59)).grownBy W2 v.ownBlock)
    (ho : W2.ownsRow w.heap.size 59 2 v' (l.length + 1) (cellsL l ++ [.int .i64 t, .int .i64 j])) (hq : w.heap.size ≤ q) (hp : p ≠ q) :
    KeepsOthers W (W2.setCell ⟨q, 0, none⟩ v') ∧ Below w.heap.size W (W2.setCell ⟨q, 0, none⟩ v') ∧ FO w (W2.setCell ⟨q, 0, none⟩ v') s p q (l ++ [(t, j)]) := by
  obtain ⟨q1, q2, q3, q4, q5⟩ := Boxed.appended hv1 (by decide) hv2 h.below.size hq ho hg
  have hpb : Blk (W.alloc (.cells #[.int .i64 t, .int .i64 j] 59)) p 131 _ := Blk.alloc h.pile _
  refine ⟨q4, q5, h.below.trans q5, (hpb.grown hg (fun e => own_blk_ne (World.ownsRow.alloc hv2 _) hpb (by decide) e.symm)).far (p := ⟨q, 0, none⟩) (by simp only []; omega) v', v', q2, ?_⟩
  unfold OwnB
  rw [cellsL_append, List.length_append]
  exact q3
/-- an own list of bricks, as sorting reads it -/
theorem OwnB.sbr {W : World} {n0 : Nat} {v : Value} {l : List (Nat × Nat)} (h : OwnB W n0 v l) : (v = .slice none 0 0 ∧ l = []) ∨ ∃ g cap, v = .slice (some ⟨g, 0, none⟩) l.length cap ∧ n0 ≤ g ∧ SBR W g l.length (rowOf l) := by
  obtain ⟨h1, h2⟩ := h
  rcases h2 with ⟨h2, h0⟩ | ⟨g, cap, cur, rfl, hb, hg, hn, hm, hs, ht⟩
  · refine .inl ⟨h2, List.eq_nil_of_length_eq_zero h0⟩
  · have hB : Blk W g 59 cur := hg
    have hget : ∀ j u, j < l.length * 2 → (cellsL l)[j]? = some u → W.cell? ⟨g, j, none⟩ = some u := by
      intro j u hj hu
      rw [hB.cell, ← Array.getElem?_toList]
      rw [← ht, List.getElem?_take_of_lt hj] at hu
      exact hu
    exact .inr ⟨g, cap, rfl, hb, ⟨⟨_, hB⟩, fun k hk => ⟨hget _ _ (by omega) (cellsL_get l k hk).1, hget _ _ (by omega) (cellsL_get l k hk).2⟩⟩⟩
theorem SBR.pi {W : World} {g n : Nat} {f : Nat → Int × Int} (h : SBR W g n f) {x y : Nat → Int} (hf : ∀ k, k < n → f k = (x k, y k)) : PI W W.heap.size (some ⟨g, 0, none⟩) n x y := fun _ =>
  ⟨g, 0, rfl, h.lt, fun k i hk hi => by
    obtain ⟨h1, h2⟩ := h.cells k hk
    rw [hf k hk] at h1 h2
    rcases (by omega : i = 0 ∨ i = 1) with rfl | rfl
    · simpa using h1
    · simpa using h2⟩
/-- what a round over the cells of a brick keeps: fb: the box of free, b: that of the brick, c: that of the walk over the cells -/
structure FN (w W4 W : World) (s : Stk) (p q : Nat) (l : List (Nat × Nat)) (n1 fb b c t j : Nat) (ok : Bool) : Prop where
  fo : FO w W s p q l
  fr : Blk W fb 4 #[.bool ok]
  bk : Blk W b 59 #[.int .i64 t, .int .i64 j]
  ck : Blk W c 59 #[.int .i64 t, .int .i64 j]
  kf : KeepsFrom n1 W4 W
  bw : Below w.heap.size W4 W
section
variable {w W4 W W5 : World} {s : Stk} {p q : Nat} {l : List (Nat × Nat)} {n1 fb b c t j : Nat} {ok : Bool}
theorem FN.keptN (h : FN w W4 W s p q l n1 fb b c t j ok) {row : Option Nat} (hg : W.grownBy W5 row) (hr : ∀ r, row = some r → W4.heap.size ≤ r ∧ ∃ o : Obj, W.heap[r]? = some o ∧ o.isCells = false) (hz : w.heap.size ≤ W4.heap.size) : FN w W4 W5 s p q l n1 fb b c t j ok := by
  have hr' := fun r e => (hr r e).2
  exact ⟨h.fo.keptN hg (fun r e => ⟨by have := (hr r e).1; omega, (hr r e).2⟩), h.fr.keptN hg hr', h.bk.keptN hg hr', h.ck.keptN hg hr', ownFrom_keepsFrom (Nat.le_refl _) () W W5 row h.kf hg hr, h.bw.trans ⟨hg.os, hg.tape, hg.output, hg.size, fun k hk => hg.block k (by have := h.bw.size; omega) (fun e => by have := (hr k e.symm).1; omega)⟩⟩
theorem FN.step (h : FN w W4 W s p q l n1 fb b c t j ok) (hb : Below W.heap.size W W5) (h0 : w.heap.size ≤ fb) (h1 : fb ≠ p) (h2 : fb ≠ q) (h3 : fb ≠ b) (h4 : fb ≠ c) (ok' : Bool) :
    KeepsOthers W (W5.setCell ⟨fb, 0, none⟩ (.bool ok')) ∧ KpB w.heap.size c W (W5.setCell ⟨fb, 0, none⟩ (.bool ok')) ∧ FN w W4 (W5.setCell ⟨fb, 0, none⟩ (.bool ok')) s p q l n1 fb b c t j ok' := by
  have k1 : KeepsOthers W (W5.setCell ⟨fb, 0, none⟩ (.bool ok')) := (keepsO hb).trans (KeepsOthers.setCell _ _ _)
  have c1 := (h.ck.ext hb).far (p := ⟨fb, 0, none⟩) (by simp only []; omega) (.bool ok')
  refine ⟨k1, ⟨(hb.mono h.fo.below.size).setCell (p := ⟨fb, 0, none⟩) h0 _, c1.trans h.ck.symm⟩, (h.fo.ext hb).put h0 h1 h2 (h.fr.ext hb) _, ?_, (h.bk.ext hb).far (p := ⟨fb, 0, none⟩) (by simp only []; omega) _, c1, h.kf.trans (k1.from _), h.bw.trans ((hb.mono h.fo.below.size).setCell (p := ⟨fb, 0, none⟩) h0 _)⟩
  simpa using (h.fr.ext hb).set_ 0 (.bool ok')
end
theorem ER.kept {W W' : World} {sz n : Nat} {A : Option Addr} {f : Nat → Nat → Value} (h : ER W W.heap.size sz A n f) {r : Nat} (hg : W.grownBy W' (some r)) (hr : ∀ p, A = some p → p.block ≠ r) : ER W' W'.heap.size sz A n f := fun hn => by
  obtain ⟨b, o, e1, e2, e3⟩ := h hn
  refine ⟨b, o, e1, Nat.lt_of_lt_of_le e2 hg.size, fun k i hk hi => ?_⟩
  have hne := hr _ e1
  exact (World.cell?_of_block (hg.block b e2 (fun e => hne (by injection e)))).trans (e3 k i hk hi)
/-- what Free answers -/
def FreePost (s : Stk) (w : World) (e : Ending) (w' : World) : Prop :=
  ∃ A c, e = .returned (.tuple #[.slice A (freeDn s s.nt).length c, .int .i64 0]) ∧ PI w' w'.heap.size A (freeDn s s.nt).length (fun k => (rowOf (freeDn s s.nt) k).1) (fun k => (rowOf (freeDn s s.nt) k).2) ∧ Below w.heap.size w w'
theorem Free_arg (s : Stk) (w : World) (hs : StkR w w.heap.size s) (h : stackB s = false) :
    Calls Try.prog 47 #[.agg #[.int .i64 s.wd, .int .i64 s.hg, .slice s.A s.nt s.cap]] w fun e w' => e = .returned (.tuple #[.slice none 0 0, .int .i64 2]) ∧ Below w.heap.size w w' := by
  have HB := hide ((Below.refl w.heap.size w).alloc (Nat.le_refl _) (.cells #[.int .i64 s.wd, .int .i64 s.hg, .slice s.A s.nt s.cap] 55))
  have HC := hide (newPile_any s (w.alloc (.cells #[.int .i64 s.wd, .int .i64 s.hg, .slice s.A s.nt s.cap] 55)) ((hs.below HB.out (Nat.le_refl _)).more HB.out.size))
  rw [stkE_no h] at HC
  clear h hs
  go_enter Try.func47, Try.ntmps47
  go_wp2_with fail
  refine HC.out.mono ?_
  rintro e w1 ⟨rfl, hb1⟩
  go_wp2_with fail
  go_ret2
  have hB := HB.out.trans (hb1.mono HB.out.size)
  exact ⟨rfl, hB.alloc hB.size _⟩
theorem bricks_len_bd {s : Stk} (h : stackB s = true) : (bricksTo s.wn s.nt).length ≤ 1440 := by
  have key : ∀ k, k ≤ s.nt → (bricksTo s.wn k).length ≤ k * 144 := by
    intro k
    induction k with
    | zero => intro _; simp [bricksTo]
    | succ k ih =>
      intro hk
      rw [bricksTo_succ, List.length_append]
      have h1 := ih (by omega)
      have h2 := tier_facts h (show k < s.nt by omega)
      have h3 : (rowTo k (s.wn k)).length = s.wn k := by simp [rowTo]
      omega
  have h1 := key s.nt (Nat.le_refl _)
  have h2 := ((stackB_iff s).1 h).2.1
  omega
theorem Free_ok (s : Stk) (w : World) (hs : StkR w w.heap.size s) (h : stackB s = true) :
    Calls Try.prog 47 #[.agg #[.int .i64 s.wd, .int .i64 s.hg, .slice s.A s.nt s.cap]] w (FreePost s w) := by
  refine (callsIn_wide (n := 20)).1 ?_
  obtain ⟨F, hFw⟩ : ∃ F : Fence, F = Fence.wide := ⟨_, rfl⟩
  rw [← hFw]
  have hF : ∀ f, F.fn f := by rw [hFw]; exact fun _ => trivial
  have hro : F.round = none := by rw [hFw]; rfl
  have hwd : ∀ {n f args w R}, Calls Try.prog f args w R → CallsIn F n Try.prog f args w R := by rw [hFw]; exact fun h => callsIn_wide.2 h
  clear hFw
  have HCN : Hid (∀ k i, k < s.nt → i < s.nt → s.cn k = s.cn i) := hide (fun k i hk hi => by have h1 := stack_cn h k hk; have h2 := stack_cn h i hi; omega)
  have HLB := hide (bricks_len_bd h)
  have HB := hide ((Below.refl w.heap.size w).alloc (Nat.le_refl _) (.cells #[.int .i64 s.wd, .int .i64 s.hg, .slice s.A s.nt s.cap] 55))
  have HC := hide (newPile_any s (w.alloc (.cells #[.int .i64 s.wd, .int .i64 s.hg, .slice s.A s.nt s.cap] 55)) ((hs.below HB.out (Nat.le_refl _)).more HB.out.size))
  rw [stkE_ok h] at HC
  have HSS := hide hs
  clear h hs
  refine callsIn_of_wp_marks Try.func47 rfl (hF _) ?_ hro
  simp only [Try.ntmps47, List.size_toArray, List.length_cons, List.length_nil, Nat.reduceAdd, Nat.reduceSub, Array.replicate_succ, Array.replicate_zero, List.push_toArray, List.append_toArray, List.nil_append, List.cons_append]
  gi_wp2_with fail
  refine (hwd HC.out).mono ?_
  rintro e w1 ⟨rfl, hb1⟩
  have HB1 := hide (HB.out.trans (hb1.mono HB.out.size))
  have hz1 : w.heap.size + 1 ≤ w1.heap.size := by have := hb1.size; simpa using this
  clear hb1
  gi_wp2_with (gi_at_call 93; refine (hwd (bricks_any s _)).mono ?_; rintro e w2 ⟨rfl, rfl⟩)
  have k0 : PileB (((w1.alloc (.cells #[.int .i64 s.wd, .int .i64 s.hg, .slice s.A s.nt s.cap] 131)).alloc (.cells #[.slice none 0 0] 112)).alloc (.cells #[.int .i64 s.wd, .int .i64 s.hg, .slice s.A s.nt s.cap] 131)) w1.heap.size s := ((Blk.new w1 _ _).alloc _).alloc _
  have k1 : Blk (((w1.alloc (.cells #[.int .i64 s.wd, .int .i64 s.hg, .slice s.A s.nt s.cap] 131)).alloc (.cells #[.slice none 0 0] 112)).alloc (.cells #[.int .i64 s.wd, .int .i64 s.hg, .slice s.A s.nt s.cap] 131)) (w1.heap.size + 1) 112 #[.slice none 0 0] := by simpa using (Blk.new (w1.alloc (.cells #[.int .i64 s.wd, .int .i64 s.hg, .slice s.A s.nt s.cap] 131)) 112 #[.slice none 0 0]).alloc (.cells #[.int .i64 s.wd, .int .i64 s.hg, .slice s.A s.nt s.cap] 131)
  have k2 : PileB (((w1.alloc (.cells #[.int .i64 s.wd, .int .i64 s.hg, .slice s.A s.nt s.cap] 131)).alloc (.cells #[.slice none 0 0] 112)).alloc (.cells #[.int .i64 s.wd, .int .i64 s.hg, .slice s.A s.nt s.cap] 131)) (w1.heap.size + 1 + 1) s := by unfold PileB; simpa using Blk.new ((w1.alloc (.cells #[.int .i64 s.wd, .int .i64 s.hg, .slice s.A s.nt s.cap] 131)).alloc (.cells #[.slice none 0 0] 112)) 131 #[.int .i64 s.wd, .int .i64 s.hg, .slice s.A s.nt s.cap]
  have k5 : (((w1.alloc (.cells #[.int .i64 s.wd, .int .i64 s.hg, .slice s.A s.nt s.cap] 131)).alloc (.cells #[.slice none 0 0] 112)).alloc (.cells #[.int .i64 s.wd, .int .i64 s.hg, .slice s.A s.nt s.cap] 131)).heap.size = w1.heap.size + 3 := by simp
  have k6 : Below w.heap.size w (((w1.alloc (.cells #[.int .i64 s.wd, .int .i64 s.hg, .slice s.A s.nt s.cap] 131)).alloc (.cells #[.slice none 0 0] 112)).alloc (.cells #[.int .i64 s.wd, .int .i64 s.hg, .slice s.A s.nt s.cap] 131)) := ((HB1.out.alloc (by omega) _).alloc (by simp only [World.size_alloc]; omega) _).alloc (by simp only [World.size_alloc]; omega) _
  generalize (((w1.alloc (.cells #[.int .i64 s.wd, .int .i64 s.hg, .slice s.A s.nt s.cap] 131)).alloc (.cells #[.slice none 0 0] 112)).alloc (.cells #[.int .i64 s.wd, .int .i64 s.hg, .slice s.A s.nt s.cap] 131)) = W0 at k0 k1 k2 k5 k6 ⊢
  have F0 : FO w W0 s w1.heap.size (w1.heap.size + 1) [] := ⟨k6, k0, _, k1, by simp [cellsL], .inl ⟨rfl, rfl⟩⟩
  have hst := bricks_stops F (20 - 1) hF hro (by omega) (w1.heap.size + 1 + 1) w.heap.size s W0 k2 (by omega) (HSS.out.below k6 (Nat.le_refl _))
  clear k0 k1 k2 k6
  obtain ⟨i0, hi, hz0, hz1', hz2⟩ := info_parts info_brick
  refine wpIn_rangeFunc_ownH hro (by omega) (gf := 111) (lb := #[.pointer (some ⟨w1.heap.size + 1 + 1, 0, none⟩)]) rfl (hF _) (enters_of Try.func111 (by kernel_rfl) rfl)
    hst Below.trans (fun W l o o' hl h hc hk => belowK_b (by omega) W l o o' hl h hc hk) (Below.refl _ _) (fun _ => rfl)
    (fun pre W => FO w W s w1.heap.size (w1.heap.size + 1) ((pre.map (·.1)).filter (freeB s)))
    (fun _ _ _ => False) ?hI (fun _ _ _ _ _ h _ _ => h) F0
    (fun x a' W => ∃ b, w1.heap.size + 2 ≤ b ∧ Blk W b 59 #[.int .i64 x.1.1, .int .i64 x.1.2] ∧ a' = { tmps := #[.agg #[.int .i64 s.wd, .int .i64 s.hg, .slice s.A s.nt s.cap], .pointer (some ⟨w.heap.size, 0, none⟩), .slice none 0 0, .int .i64 0, .pointer (some ⟨w1.heap.size, 0, none⟩), .int .i64 0, .pointer (some ⟨w1.heap.size + 1, 0, none⟩), .pointer (some ⟨b, 0, none⟩), undef, undef, .tuple #[.agg #[.int .i64 s.wd, .int .i64 s.hg, .slice s.A s.nt s.cap], .int .i64 0], .agg #[.int .i64 s.wd, .int .i64 s.hg, .slice s.A s.nt s.cap], .tuple #[.agg #[.int .i64 s.wd, .int .i64 s.hg, .slice s.A s.nt s.cap], .int .i64 0], .agg #[.int .i64 s.wd, .int .i64 s.hg, .slice s.A s.nt s.cap], .int .i64 0, .int .i64 0, .bool false, undef, .agg #[.int .i64 s.wd, .int .i64 s.hg, .slice s.A s.nt s.cap], .func (.func 111) #[] #[.pointer (some ⟨w1.heap.size + 1 + 1, 0, none⟩)], .agg #[.int .i64 x.1.1, .int .i64 x.1.2], undef, undef, undef, undef, undef, undef, undef, undef, undef, undef, undef, undef, undef, undef, undef, undef, undef, undef, undef, undef, undef, undef], defers := [] })
    ?hAx ?hassign ?hbody ?hdone ?hstop
  case hI =>
    rintro pre W W' row h hg hr
    exact h.keptN hg (fun r e => ⟨by have := (hr r e).1; omega, (hr r e).2⟩)
  case hAx =>
    rintro x a' _ W W' row ⟨b, h1, h2, h3⟩ hg hr
    exact ⟨b, h1, h2.keptN hg (fun r e => (hr r e).2), h3⟩
  case hassign =>
    rintro l pre x W K h hK
    have z0 := h.below.size
    have z1 : w1.heap.size + 1 < W.heap.size := by obtain ⟨v, h1, -⟩ := h.box; exact h1.lt
    gi_wp2
    have hb := (Below.refl W.heap.size W).alloc (Nat.le_refl _) (.cells #[.int .i64 x.1.1, .int .i64 x.1.2] 59)
    exact hK _ _ ((keepsO hb).from _) (hb.mono z0) (h.ext hb) ⟨W.heap.size, by omega, Blk.new _ _ _, rfl⟩
  case hbody =>
    rintro l pre ⟨⟨t, j⟩, ht, hj⟩ a' W hl ⟨rl, hlr⟩ h ⟨b, hb4, hb, rfl⟩ hpl
    dsimp only at hb ht hj ⊢
    have hlen : ((pre.map (·.1)).filter (freeB s)).length ≤ 1440 := by
      have h1 := List.length_filter_le (freeB s) (pre.map (·.1))
      rw [List.length_map] at h1
      have := HLB.out
      omega
    have hgoal : ∀ W', FO w W' s w1.heap.size (w1.heap.size + 1) (if freeB s (t, j) = true then (pre.map (·.1)).filter (freeB s) ++ [(t, j)] else (pre.map (·.1)).filter (freeB s)) → KeepsFrom W0.heap.size W W' → Below w.heap.size W W' → KeepsFrom W0.heap.size W W' ∧ Below w.heap.size W W' ∧ FO w W' s w1.heap.size (w1.heap.size + 1) (((pre ++ [(⟨(t, j), ht, hj⟩ : Brk s)]).map (·.1)).filter (freeB s)) := by
      intro W' h1 h2 h3
      refine ⟨h2, h3, ?_⟩
      rw [List.map_append, List.filter_append, List.map_cons, List.map_nil]
      by_cases hf : freeB s (t, j) = true
      · rw [if_pos hf] at h1
        rw [List.filter_cons_of_pos hf, List.filter_nil]; exact h1
      · rw [if_neg hf] at h1
        rw [List.filter_cons_of_neg hf, List.filter_nil, List.append_nil]; exact h1
    have hk5 : w1.heap.size + 3 ≤ W0.heap.size := by omega
    have HG := hide hgoal
    clear hgoal hpl k5
    generalize (pre.map (·.1)).filter (freeB s) = L at h HG hlen
    have z0 := h.below.size
    have z1 : w1.heap.size + 1 < W.heap.size := by obtain ⟨v, h1, -⟩ := h.box; exact h1.lt
    have zb := hb.lt
    have P := hide h
    have PB := hide hb
    have HLR := hide hlr
    obtain ⟨d0, d1, d2, -, -⟩ := blk2 hb
    obtain ⟨x0, x1, x2, x3, -, -, -⟩ := blk3 h.pile
    have t1 : (t : Int) ≤ 1000000 := by have := HSS.out.1; omega
    clear h hb hlr hst F0 HB HB1 HC
    gi_wp2_with (gi_at_call 69; refine (CallsIn.inRound l (hwd (cells_any s t j _))).mono ?_; rintro e w4 ⟨rfl, rfl⟩)
    have hb9 : Below W.heap.size W (((W.alloc (.cells #[.bool true] 4)).alloc (.cells #[.int .i64 s.wd, .int .i64 s.hg, .slice s.A s.nt s.cap] 131)).alloc (.cells #[.int .i64 t, .int .i64 j] 59)) := (((Below.refl _ _).alloc (Nat.le_refl _) _).alloc (by simp) _).alloc (by simp only [World.size_alloc]; omega) _
    have l4 := P.out.ext hb9
    have k4 := (keepsO hb9).from W0.heap.size
    have b8 : Blk (((W.alloc (.cells #[.bool true] 4)).alloc (.cells #[.int .i64 s.wd, .int .i64 s.hg, .slice s.A s.nt s.cap] 131)).alloc (.cells #[.int .i64 t, .int .i64 j] 59)) W.heap.size 4 #[.bool true] := ((Blk.new W _ _).alloc _).alloc _
    have b14 : PileB (((W.alloc (.cells #[.bool true] 4)).alloc (.cells #[.int .i64 s.wd, .int .i64 s.hg, .slice s.A s.nt s.cap] 131)).alloc (.cells #[.int .i64 t, .int .i64 j] 59)) (W.heap.size + 1) s := by unfold PileB; simpa using (Blk.new (W.alloc (.cells #[.bool true] 4)) 131 #[.int .i64 s.wd, .int .i64 s.hg, .slice s.A s.nt s.cap]).alloc (.cells #[.int .i64 t, .int .i64 j] 59)
    have b15 : Blk (((W.alloc (.cells #[.bool true] 4)).alloc (.cells #[.int .i64 s.wd, .int .i64 s.hg, .slice s.A s.nt s.cap] 131)).alloc (.cells #[.int .i64 t, .int .i64 j] 59)) (W.heap.size + 1 + 1) 59 #[.int .i64 t, .int .i64 j] := by simpa using Blk.new ((W.alloc (.cells #[.bool true] 4)).alloc (.cells #[.int .i64 s.wd, .int .i64 s.hg, .slice s.A s.nt s.cap] 131)) 59 #[.int .i64 t, .int .i64 j]
    have hz4 : (((W.alloc (.cells #[.bool true] 4)).alloc (.cells #[.int .i64 s.wd, .int .i64 s.hg, .slice s.A s.nt s.cap] 131)).alloc (.cells #[.int .i64 t, .int .i64 j] 59)).heap.size = W.heap.size + 3 := by simp
    have bb := PB.out.ext hb9
    have hlr4 : ∃ r0, (((W.alloc (.cells #[.bool true] 4)).alloc (.cells #[.int .i64 s.wd, .int .i64 s.hg, .slice s.A s.nt s.cap] 131)).alloc (.cells #[.int .i64 t, .int .i64 j] 59)).heap[l]? = some (.loop r0) := ⟨rl, k4.same _ _ hl HLR.out rfl⟩
    have HB9 := hide hb9
    generalize (((W.alloc (.cells #[.bool true] 4)).alloc (.cells #[.int .i64 s.wd, .int .i64 s.hg, .slice s.A s.nt s.cap] 131)).alloc (.cells #[.int .i64 t, .int .i64 j] 59)) = W4 at l4 k4 b8 b14 b15 hz4 hlr4 bb HB9 ⊢
    obtain ⟨rl4, hlr4⟩ := hlr4
    clear hb9 x0 x1 x2 x3 d0 d1 d2
    have hst := SeqStopsK.inRound l (cells_stops F (20 - 1 - 1 - 1) hF hro (by omega) (W.heap.size + 1) (W.heap.size + 1 + 1) w.heap.size t j s W4 b14 b15 (by omega) (HSS.out.below l4.below (Nat.le_refl _)) ht)
    refine wpIn_rangeFunc_ownN rfl hlr4 (by omega) (gf := 102) (lb := #[.pointer (some ⟨W.heap.size + 1, 0, none⟩), .pointer (some ⟨W.heap.size + 1 + 1, 0, none⟩)]) rfl (hF _) (enters_of Try.func102 (by kernel_rfl) rfl)
      hst KpB.trans (KpB.putObj (by omega) (by omega)) (Below.refl _ _) (fun _ => rfl)
      (fun pre W' => FN w W4 W' s w1.heap.size (w1.heap.size + 1) L W0.heap.size W.heap.size b (W.heap.size + 1 + 1) t j ((pre.map (·.1)).all fun c => !covB s ((t : Int) + 1) c))
      (fun _ _ _ => False) ?hI2 (fun _ _ _ _ _ h _ _ => h) ⟨l4, b8, bb, b15, KeepsFrom.refl _ _, Below.refl _ _⟩
      (fun x a' W' => a' = { tmps := #[.agg #[.int .i64 s.wd, .int .i64 s.hg, .slice s.A s.nt s.cap], .pointer (some ⟨w.heap.size, 0, none⟩), .slice none 0 0, .int .i64 0, .pointer (some ⟨w1.heap.size, 0, none⟩), .int .i64 0, .pointer (some ⟨w1.heap.size + 1, 0, none⟩), .pointer (some ⟨b, 0, none⟩), .pointer (some ⟨W.heap.size, 0, none⟩), .int .i64 x.1, .tuple #[.agg #[.int .i64 s.wd, .int .i64 s.hg, .slice s.A s.nt s.cap], .int .i64 0], .agg #[.int .i64 s.wd, .int .i64 s.hg, .slice s.A s.nt s.cap], .tuple #[.agg #[.int .i64 s.wd, .int .i64 s.hg, .slice s.A s.nt s.cap], .int .i64 0], .agg #[.int .i64 s.wd, .int .i64 s.hg, .slice s.A s.nt s.cap], .int .i64 0, .int .i64 0, .bool false, undef, .agg #[.int .i64 s.wd, .int .i64 s.hg, .slice s.A s.nt s.cap], .func (.func 111) #[] #[.pointer (some ⟨w1.heap.size + 1 + 1, 0, none⟩)], .agg #[.int .i64 t, .int .i64 j], .agg #[.int .i64 s.wd, .int .i64 s.hg, .slice s.A s.nt s.cap], .agg #[.int .i64 t, .int .i64 j], .func (.func 102) #[] #[.pointer (some ⟨W.heap.size + 1, 0, none⟩), .pointer (some ⟨W.heap.size + 1 + 1, 0, none⟩)], .int .i64 x.1, undef, undef, undef, undef, undef, undef, undef, undef, undef, undef, undef, undef, undef, undef, undef, undef, undef, undef], defers := [] }) (fun _ _ _ _ _ _ h _ _ => h) ?hassign2 ?hbody2 ?hdone2 ?hstop2
    case hI2 =>
      rintro pre2 W' W'' row q hg hr
      exact q.keptN hg hr (by omega)
    case hassign2 =>
      rintro l2 pre2 x W' K hI hK
      gi_wp2
      exact hK _ _ (KeepsFrom.refl _ _) (KpB.refl _ _ _) hI rfl
    case hbody2 =>
      rintro l2 pre2 ⟨c, hc⟩ a2 W' - - q rfl -
      obtain ⟨d0, d1, d2, d3, d4⟩ := blk2 q.bk
      obtain ⟨e0, e1, e2⟩ := blk1 q.fr
      obtain ⟨x0, x1, x2, x3, -, -, -⟩ := blk3 q.fo.pile
      have hap : ∀ bb, ((pre2 ++ [(⟨c, hc⟩ : Cell (s.cn t))]).map (·.1)).all (fun c => !covB s ((t : Int) + 1) c) = bb ↔ ((pre2.map (·.1)).all (fun c => !covB s ((t : Int) + 1) c) && !covB s ((t : Int) + 1) c) = bb := by
        intro bb; rw [List.map_append, List.all_append]; simp
      have HAP := hide hap
      have HCV := hide (covered_any s ((t : Int) + 1) c W' ((HSS.out.below q.fo.below (Nat.le_refl _)).more q.fo.below.size) (fun k _ hkn => by rw [HCN.out k t hkn ht]; exact hc))
      have w2 : IntKind.i64.wrap ((t : Int) + 1) = (t : Int) + 1 := IntWalk.i64_in _ (by omega)
      clear hap hst
      generalize hok : ((pre2.map (·.1)).all fun c => !covB s ((t : Int) + 1) c) = ok at q HAP e1
      generalize hcv : covB s ((t : Int) + 1) c = cv at HAP HCV
      have Q := hide q
      have HST := hide (fun W5 (hb : Below W'.heap.size W' W5) ok' => q.step hb (by omega) (by omega) (by omega) (by omega) (by omega) ok')
      clear q hok hcv
      rcases ok with _ | _
      · have HA := hide ((HAP.out false).2 rfl)
        gi_wp2_with fail
        obtain ⟨r1, r2, r3⟩ := HST.out _ (Below.refl _ _) false
        exact ⟨r1.from _, r2, by dsimp only; rw [HA.out]; exact r3⟩
      · rcases cv with _ | _
        · have HA := hide ((HAP.out true).2 rfl)
          gi_wp2_with (gi_at_call 94; refine (CallsIn.inRound l2 (CallsIn.inRound l (hwd HCV.out))).mono ?_; rintro e w5 ⟨rfl, hb5⟩; obtain ⟨f0, f1, f2⟩ := blk1 (Q.out.fr.ext hb5))
          obtain ⟨r1, r2, r3⟩ := HST.out _ hb5 true
          exact ⟨r1.from _, r2, by dsimp only; rw [HA.out]; exact r3⟩
        · have HA := hide ((HAP.out false).2 rfl)
          gi_wp2_with (gi_at_call 94; refine (CallsIn.inRound l2 (CallsIn.inRound l (hwd HCV.out))).mono ?_; rintro e w5 ⟨rfl, hb5⟩; obtain ⟨f0, f1, f2⟩ := blk1 (Q.out.fr.ext hb5))
          obtain ⟨r1, r2, r3⟩ := HST.out _ hb5 false
          exact ⟨r1.from _, r2, by dsimp only; rw [HA.out]; exact r3⟩
    case hdone2 =>
      rintro xs W5 hxs q
      rw [hxs, ← freeTo_all] at q
      replace q : FN w W4 W5 s w1.heap.size (w1.heap.size + 1) L W0.heap.size W.heap.size b (W.heap.size + 1 + 1) t j (freeB s (t, j)) := q
      have KF := hide (k4.trans q.kf)
      have hbw : Below w.heap.size W W5 := (HB9.out.mono z0).trans q.bw
      have HBW := hide hbw
      obtain ⟨e0, e1, e2⟩ := blk1 q.fr
      obtain ⟨d0, d1, d2, d3, d4⟩ := blk2 q.bk
      clear hst hxs hbw
      rcases hfr : freeB s (t, j) with _ | _
      · rw [hfr] at q e1 HG
        have Q := hide q
        clear q hfr
        gi_wp2_with fail
        exact HG.out _ (by rw [if_neg (by simp)]; exact Q.out.fo) KF.out HBW.out
      · rw [hfr] at q e1 HG
        obtain ⟨v, hv1, hv2⟩ := q.fo.box
        obtain ⟨A, c, rfl⟩ := own_shape hv2
        have Q := hide q
        have V1 := hide hv1
        have V2 := hide hv2
        obtain ⟨g0, g1, g2⟩ := blk1 hv1
        clear q hfr hv1 hv2
        gi_wp2_with (gi_at_builtin; refine wpListIn_append_own _ rfl _ _ 112 rfl w.heap.size 59 i0 (.agg #[.int .i64 0, .int .i64 0]) 2 16 Try.underlying112 hi hz0 hz1' hz2 rfl (by decide) _ _ _ rfl (World.ownsRow.alloc V2.out _) ⟨W5.heap.size, 0, none⟩ 1 1 [.int .i64 t, .int .i64 j] rfl rfl (cell_two_new _ _ _ _) (by simp [Value.oneCell']) (by unfold maxLen; omega) (by omega) (by have := Q.out.fo.below.size; simp; omega) ?_; intro v' w6 hown6 hg6 _; obtain ⟨A6, c6, rfl⟩ := own_shape hown6; obtain ⟨q1, q2, q3⟩ := Q.out.fo.push V1.out V2.out hg6 hown6 (by omega) (by omega); have hq0 : Blk w6 (w1.heap.size + 1) 112 #[.slice A L.length c] := Blk.grown (V1.out.alloc (.cells #[.int .i64 t, .int .i64 j] 59)) hg6 (fun e => own_blk_ne (World.ownsRow.alloc V2.out (.cells #[.int .i64 t, .int .i64 j] 59)) (V1.out.alloc (.cells #[.int .i64 t, .int .i64 j] 59)) (by decide) e.symm); obtain ⟨g0', g1', g2'⟩ := blk1 hq0; clear hown6 hg6 hq0)
        gi_wp2_with fail
        exact HG.out _ q3 (KF.out.trans (q1.from _)) (HBW.out.trans q2)
    case hstop2 =>
      rintro c pre2 W' hSp h
      exact h.elim
  case hdone =>
    rintro D xs W hD hxs h hK
    rw [hxs] at h
    replace h : FO w W s w1.heap.size (w1.heap.size + 1) (freeAsc s s.nt) := h
    obtain ⟨v, hv1, hv2⟩ := h.box
    have HBW := hide h.below
    have V1 := hide hv1
    have HK := hide hK
    have hDw : w.heap.size ≤ D := by omega
    obtain ⟨g0, g1, g2⟩ := blk1 hv1
    rcases OwnB.sbr hv2 with ⟨rfl, hl⟩ | ⟨g, cap, rfl, hg, hr⟩
    · have HL := hide hl
      clear hst F0 HB HB1 HC h hv1 hv2 hxs hl hK HLB HCN
      gi_wp2_with ((gi_at_call 95; refine (hwd (sortStable_nil _)).mono ?_; rintro e w2 ⟨rfl, rfl⟩))
      have hfd : (freeDn s s.nt).length = 0 := by rw [← freeAsc_len, HL.out]; rfl
      refine ⟨by simp, .inl ⟨_, _, rfl, run_takeDeferred HK.out, ?_⟩⟩
      refine ⟨.tuple #[.slice none 0 0, .int .i64 0], by simp [results, Try.results47, go_sem], ?_⟩
      exact ⟨none, 0, by rw [hfd], by rw [hfd]; exact ER.nil _ _ _ _ _, HBW.out.trans (belowK_b (w := w) (Nat.le_refl _) _ D _ _ hDw HK.out rfl rfl)⟩
    · have HR := hide hr
      have hlen : (freeAsc s s.nt).length ≤ 1440 := Nat.le_trans (List.length_filter_le _ _) HLB.out
      have HCS := hide (sortStable_any bkO g (freeAsc s s.nt).length cap (rowOf (freeAsc s s.nt)) W hr (by omega) (rowOf_ahead s HSS.out.1))
      have hgq : g ≠ w1.heap.size + 1 := fun e => by
        obtain ⟨cs, hc⟩ := hr.blk
        subst e
        exact hc.ne_ hv1 (by decide) rfl
      clear hst F0 HB HB1 HC h hv1 hv2 hxs hr hK HLB HCN
      gi_wp2_with ((gi_at_call 95; refine (hwd HCS.out).mono ?_; rintro e w2 ⟨rfl, f', hr2, hm2, hg2⟩; have V2 := hide (V1.out.grown hg2 (fun e => hgq (by injection e with e; exact e.symm))); obtain ⟨g0', g1', g2'⟩ := blk1 V2.out))
      have hDg : g ≠ D := fun e => by
        obtain ⟨cs, hc⟩ := HR.out.blk
        subst e
        have h1 := HK.out
        rw [show W.heap[g]? = some (.cells cs 59) from hc] at h1
        cases h1
      have hK2 : w2.heap[D]? = some (.deferred (some [])) := (hg2.block D (Array.getElem?_eq_some_iff.1 HK.out).1 (fun e => hDg (by injection e with e; exact e.symm))).trans HK.out
      have hB2 : Below w.heap.size w w2 := HBW.out.grown hg2 HBW.out.size (fun j hj => by injection hj with hj; omega)
      refine ⟨by simp, .inl ⟨_, _, rfl, run_takeDeferred hK2, ?_⟩⟩
      refine ⟨.tuple #[.slice (some ⟨g, 0, none⟩) (freeAsc s s.nt).length cap, .int .i64 0], by simp [results, Try.results47, go_sem], ?_⟩
      have hP := hr2.pi (x := fun k => (rowOf (freeDn s s.nt) k).1) (y := fun k => (rowOf (freeDn s s.nt) k).2) (fun k hk => free_sorted s hm2 hk)
      have hgp := grownBy_putObj' w2 D (.deferred none)
      have hP2 := hP.kept hgp (fun p hp => by injection hp with hp; subst hp; exact hDg)
      rw [freeAsc_len] at hP2 ⊢
      exact ⟨_, cap, rfl, hP2, hB2.trans (belowK_b (w := w) (Nat.le_refl _) _ D _ _ hDw hK2 rfl rfl)⟩
  case hstop =>
    rintro D c pre W hD hSp h hK
    exact h.elim
end Go.Proofs.Ytlhekifmkkgjlaa
/- Chapter 8: a copy of a stack, walked. -/
namespace Go.Proofs.Ytlhekifmkkgjlaa
open Go Go.RowKit Go.Shelf
set_option maxHeartbeats 4000000
set_option maxRecDepth 100000
theorem ints_one (n : Nat) (x : Nat → Int) : ∀ u ∈ cellsOf 1 n (fun i _ => Value.int .i64 (x i)), u.oneCell' = true := by
  intro u hu
  unfold cellsOf at hu
  obtain ⟨j, -, rfl⟩ := List.mem_map.1 hu
  rfl
theorem tier_read (w : World) (a b : Value) (e : TypeId) : Reads (w.alloc (.cells #[a, b] e)) (w.heap.size + 1) 2 (some ⟨w.heap.size, 0, none⟩) 1 [a, b] := by
  have h : ER (w.alloc (.cells #[a, b] e)) (w.heap.size + 1) 2 (some ⟨w.heap.size, 0, none⟩) 1 (fun _ i => if i = 0 then a else b) := fun _ => ⟨w.heap.size, 0, rfl, by omega, fun k i hk hi => by
    obtain rfl : k = 0 := by omega
    obtain ⟨-, z1, z2⟩ := bx2 (Blk.new w e #[a, b])
    rcases (by omega : i = 0 ∨ i = 1) with rfl | rfl
    · simpa using z1
    · simpa using z2⟩
  have h2 := h.reads (by omega)
  have e2 : cellsOf 2 1 (fun _ i => if i = 0 then a else b) = [a, b] := by
    simp [cellsOf, List.range_succ]
  rw [e2] at h2
  exact h2
/-- with room for all tiers -/
def OwnPostC (s : Stk) (w : World) (e : Ending) (w' : World) : Prop :=
  ∃ A c ca wa cc wc, e = .returned (.agg #[.int .i64 s.wd, .int .i64 s.hg, .slice A s.nt c]) ∧ StkR w' w'.heap.size (s.at A c ca wa cc wc) ∧ Below w.heap.size w w' ∧ s.nt ≤ c
theorem own_cap (s : Stk) (w : World) (hs : StkR w w.heap.size s) (hn : s.nt ≤ 65536) (hm : ∀ k, k < s.nt → s.cn k ≤ 65536 ∧ s.wn k ≤ 65536) : Calls Try.prog 27 #[.agg #[.int .i64 s.wd, .int .i64 s.hg, .slice s.A s.nt s.cap]] w (OwnPostC s w) := by
  have HSS := hide hs
  have HM := hide hm
  obtain ⟨i0, hi, hz0, hz1, hz2⟩ := info_parts info_int
  obtain ⟨t0, hti, htz0, htz1, htz2⟩ := info_parts info_tier
  have HI := hide (show _ ∧ _ ∧ _ ∧ _ from ⟨hi, hz0, hz1, hz2⟩)
  have HT := hide (show _ ∧ _ ∧ _ ∧ _ from ⟨hti, htz0, htz1, htz2⟩)
  clear hs hm hi hz0 hz1 hz2 hti htz0 htz1 htz2
  go_enter Try.func27, Try.ntmps27
  go_wp2_with fail
  have HR0 : Hid (OwnRel w s 0 (.slice (some ⟨w.heap.size + 1 + 1, 0, none⟩) 0 0) (fun _ => none) (fun _ => none) (fun _ => 0) (fun _ => 0) (((w.alloc (.cells #[.int .i64 s.wd, .int .i64 s.hg, .slice s.A s.nt s.cap] 55)).alloc (.cells #[.int .i64 0, .int .i64 0, .slice none 0 0] 55)).alloc (.cells #[] 72))) := hide ⟨(((Below.refl _ _).alloc (Nat.le_refl _) _).alloc (by simp) _).alloc (by simp only [World.size_alloc]; omega) _, ((Blk.new w _ _).alloc _).alloc _, by simpa using (Blk.new (w.alloc (.cells #[.int .i64 s.wd, .int .i64 s.hg, .slice s.A s.nt s.cap] 55)) 55 #[.int .i64 0, .int .i64 0, .slice none 0 0]).alloc (.cells #[] 72),
    by
      have h := own_empty ((w.alloc (.cells #[.int .i64 s.wd, .int .i64 s.hg, .slice s.A s.nt s.cap] 55)).alloc (.cells #[.int .i64 0, .int .i64 0, .slice none 0 0] 55)) 72 2
      simp only [World.size_alloc] at h
      exact ownMono h (by omega), fun j hj => absurd hj (by omega)⟩
  generalize (((w.alloc (.cells #[.int .i64 s.wd, .int .i64 s.hg, .slice s.A s.nt s.cap] 55)).alloc (.cells #[.int .i64 0, .int .i64 0, .slice none 0 0] 55)).alloc (.cells #[] 72)) = W0 at HR0 ⊢
  go_loopw [3, 4] (fun v i wr => ∃ k : Nat, i = .int .i64 k ∧ k ≤ s.nt ∧ ∃ ca wa cc wc, Hid (OwnRel w s k v ca wa cc wc wr)) (fun _ i _ => s.nt - (intOf i).toNat)
  case atStart => exact ⟨0, rfl, by omega, _, _, _, _, HR0⟩
  case round =>
    obtain ⟨k, rfl, hk, ca, wa, cc, wc, HR⟩ := hrel
    obtain ⟨a0, a1, a2, a3, -, -, -⟩ := blk3 HR.out.bx
    by_cases hlt : k < s.nt
    · obtain ⟨tb, toff, hA, htb, hu, hv⟩ := P2.at_ (HSS.out.2.1) hlt
      obtain ⟨l1, l2⟩ := HM.out k hlt
      obtain ⟨-, -, hIc, hIw⟩ := HSS.out.2.2 k hlt
      have HIC := hide (fun W (h : Below w.heap.size w W) => (hIc.below h (Nat.le_refl _)).more h.size)
      have HIW := hide (fun W (h : Below w.heap.size w W) => (hIw.below h (Nat.le_refl _)).more h.size)
      unfold Stk.u at hu
      unfold Stk.v at hv
      rw [hA] at a3
      have HS : Hid (∀ W, Below w.heap.size w W → Blk W w.heap.size 55 #[.int .i64 s.wd, .int .i64 s.hg, .slice s.A s.nt s.cap] → W.cell? ⟨w.heap.size, 2, none⟩ = some (.slice (some ⟨tb, toff, none⟩) s.nt s.cap) ∧ W.cell? ⟨tb, toff + k * 2, none⟩ = some (.slice (s.ca k) (s.cn k) (s.cc k)) ∧ W.cell? ⟨tb, toff + k * 2 + 1, none⟩ = some (.slice (s.wa k) (s.wn k) (s.wc k))) := hide (fun W hb hB => by
        obtain ⟨-, -, -, h3, -, -, -⟩ := blk3 hB
        rw [hA] at h3
        exact ⟨h3, (hb.cell (p := ⟨tb, toff + k * 2, none⟩) htb).trans hu, (hb.cell (p := ⟨tb, toff + k * 2 + 1, none⟩) htb).trans hv⟩)
      have i1 : (0 : Int) ≤ (k : Int) := by omega
      have i2 : (k : Int) < (s.nt : Int) := by omega
      obtain ⟨vA, vc, rfl⟩ := own_shape HR.out.own
      clear hu hv hA hIc hIw
      go_upto_block 1 with fail
      go_cut [3] (fun v' wq => ∃ ca' wa' cc' wc', Hid (OwnRel w s (k + 1) v' ca' wa' cc' wc' wq))
      case first =>
        have HRd := hide (HR.out.ext (Below.refl _ _).drew)
        have HSB : Hid (∀ W, Below wr.heap.size wr W → W.cell? ⟨w.heap.size, 2, none⟩ = some (.slice (some ⟨tb, toff, none⟩) s.nt s.cap) ∧ W.cell? ⟨tb, toff + k * 2, none⟩ = some (.slice (s.ca k) (s.cn k) (s.cc k)) ∧ W.cell? ⟨tb, toff + k * 2 + 1, none⟩ = some (.slice (s.wa k) (s.wn k) (s.wc k))) := hide (fun W h => HS.out W (HR.out.below.trans (h.mono HR.out.below.size)) (HR.out.bx.ext h))
        have Bd := hide (Below.refl wr.heap.size wr).drew
        clear a0 a1 a2 a3
        go_wp2_with fail
        refine wp_region_J (fun W : World => W.cell? ⟨w.heap.size, 2, none⟩ = some (.slice (some ⟨tb, toff, none⟩) s.nt s.cap) ∧ W.cell? ⟨tb, toff + k * 2, none⟩ = some (.slice (s.ca k) (s.cn k) (s.cc k)) ∧ W.cell? ⟨tb, toff + k * 2 + 1, none⟩ = some (.slice (s.wa k) (s.wn k) (s.wc k))) (by kernel_rfl) ?_
        refine wpAnyJ_take 0 (v := ?_) (by first | exact hF | exact wideFn) (HSB.out _ Bd.out) rfl (by kernel_rfl) (by kernel_rfl) (by kernel_rfl) (by kernel_rfl) rfl ?_ (by first | exact fun _ _ _ h => h | exact fun _ _ _ h => hQ2 _ _ _ _ _ h) ?_
        rotate_left
        · intro W hSW
          simp only [List.getElem_toArray, List.getElem_cons_zero, List.getElem_cons_succ]
          (try dsimp only at hSW)
          go_simp
          with_reducible rfl
        (try simp only [List.getElem_toArray, List.getElem_cons_zero, List.getElem_cons_succ, Act.put, List.setIfInBounds_toArray, List.set_cons_zero, List.set_cons_succ])
        refine wpAnyJ_take 2 (v := ?_) (by first | exact hF | exact wideFn) (HSB.out _ Bd.out) rfl (by kernel_rfl) (by kernel_rfl) (by kernel_rfl) (by kernel_rfl) rfl ?_ (by first | exact fun _ _ _ h => h | exact fun _ _ _ h => hQ2 _ _ _ _ _ h) ?_
        rotate_left
        · intro W hSW
          simp only [List.getElem_toArray, List.getElem_cons_zero, List.getElem_cons_succ]
          (try dsimp only at hSW)
          go_simp
          with_reducible rfl
        (try simp only [List.getElem_toArray, List.getElem_cons_zero, List.getElem_cons_succ, Act.put, List.setIfInBounds_toArray, List.set_cons_zero, List.set_cons_succ])
        refine wpAnyJ_take 3 (v := ?_) (by first | exact hF | exact wideFn) (HSB.out _ Bd.out) rfl (by kernel_rfl) (by kernel_rfl) (by kernel_rfl) (by kernel_rfl) rfl ?_ (by first | exact fun _ _ _ h => h | exact fun _ _ _ h => hQ2 _ _ _ _ _ h) ?_
        rotate_left
        · intro W hSW
          simp only [List.getElem_toArray, List.getElem_cons_zero, List.getElem_cons_succ]
          (try dsimp only at hSW)
          go_simp
          with_reducible rfl
        (try simp only [List.getElem_toArray, List.getElem_cons_zero, List.getElem_cons_succ, Act.put, List.setIfInBounds_toArray, List.set_cons_zero, List.set_cons_succ])
        refine wpAnyJ_take 4 (v := ?_) (by first | exact hF | exact wideFn) (HSB.out _ Bd.out) rfl (by kernel_rfl) (by kernel_rfl) (by kernel_rfl) (by kernel_rfl) rfl ?_ (by first | exact fun _ _ _ h => h | exact fun _ _ _ h => hQ2 _ _ _ _ _ h) ?_
        rotate_left
        · intro W hSW
          simp only [List.getElem_toArray, List.getElem_cons_zero, List.getElem_cons_succ]
          (try dsimp only at hSW)
          go_simp
          with_reducible rfl
        (try simp only [List.getElem_toArray, List.getElem_cons_zero, List.getElem_cons_succ, Act.put, List.setIfInBounds_toArray, List.set_cons_zero, List.set_cons_succ])
        refine wpAnyJ_take 5 (v := ?_) (by first | exact hF | exact wideFn) (HSB.out _ Bd.out) rfl (by kernel_rfl) (by kernel_rfl) (by kernel_rfl) (by kernel_rfl) rfl ?_ (by first | exact fun _ _ _ h => h | exact fun _ _ _ h => hQ2 _ _ _ _ _ h) ?_
        rotate_left
        · intro W hSW
          simp only [List.getElem_toArray, List.getElem_cons_zero, List.getElem_cons_succ]
          (try dsimp only at hSW)
          go_simp
          with_reducible rfl
        (try simp only [List.getElem_toArray, List.getElem_cons_zero, List.getElem_cons_succ, Act.put, List.setIfInBounds_toArray, List.set_cons_zero, List.set_cons_succ])
        refine wpAnyJ_take 6 (v := ?_) (by first | exact hF | exact wideFn) (HSB.out _ Bd.out) rfl (by kernel_rfl) (by kernel_rfl) (by kernel_rfl) (by kernel_rfl) rfl ?_ (by first | exact fun _ _ _ h => h | exact fun _ _ _ h => hQ2 _ _ _ _ _ h) ?_
        rotate_left
        · intro W hSW
          simp only [List.getElem_toArray, List.getElem_cons_zero, List.getElem_cons_succ]
          (try dsimp only at hSW)
          go_simp
          with_reducible rfl
        (try simp only [List.getElem_toArray, List.getElem_cons_zero, List.getElem_cons_succ, Act.put, List.setIfInBounds_toArray, List.set_cons_zero, List.set_cons_succ])
        refine wpAnyJ_take 7 (v := ?_) (by first | exact hF | exact wideFn) (HSB.out _ Bd.out) rfl (by kernel_rfl) (by kernel_rfl) (by kernel_rfl) (by kernel_rfl) rfl ?_ (by first | exact fun _ _ _ h => h | exact fun _ _ _ h => hQ2 _ _ _ _ _ h) ?_
        rotate_left
        · intro W hSW
          simp only [List.getElem_toArray, List.getElem_cons_zero, List.getElem_cons_succ]
          (try dsimp only at hSW)
          go_simp
          with_reducible rfl
        (try simp only [List.getElem_toArray, List.getElem_cons_zero, List.getElem_cons_succ, Act.put, List.setIfInBounds_toArray, List.set_cons_zero, List.set_cons_succ])
        refine wpAnyJ_take 10 (v := ?_) (by first | exact hF | exact wideFn) (HSB.out _ Bd.out) rfl (by kernel_rfl) (by kernel_rfl) (by kernel_rfl) (by kernel_rfl) rfl ?_ (by first | exact fun _ _ _ h => h | exact fun _ _ _ h => hQ2 _ _ _ _ _ h) ?_
        rotate_left
        · intro W hSW
          simp only [List.getElem_toArray, List.getElem_cons_zero, List.getElem_cons_succ]
          (try dsimp only at hSW)
          go_simp
          with_reducible rfl
        (try simp only [List.getElem_toArray, List.getElem_cons_zero, List.getElem_cons_succ, Act.put, List.setIfInBounds_toArray, List.set_cons_zero, List.set_cons_succ])
        refine wpAnyJ_take 11 (v := ?_) (by first | exact hF | exact wideFn) (HSB.out _ Bd.out) rfl (by kernel_rfl) (by kernel_rfl) (by kernel_rfl) (by kernel_rfl) rfl ?_ (by first | exact fun _ _ _ h => h | exact fun _ _ _ h => hQ2 _ _ _ _ _ h) ?_
        rotate_left
        · intro W hSW
          simp only [List.getElem_toArray, List.getElem_cons_zero, List.getElem_cons_succ]
          (try dsimp only at hSW)
          go_simp
          with_reducible rfl
        (try simp only [List.getElem_toArray, List.getElem_cons_zero, List.getElem_cons_succ, Act.put, List.setIfInBounds_toArray, List.set_cons_zero, List.set_cons_succ])
        refine wpAnyJ_take 12 (v := ?_) (by first | exact hF | exact wideFn) (HSB.out _ Bd.out) rfl (by kernel_rfl) (by kernel_rfl) (by kernel_rfl) (by kernel_rfl) rfl ?_ (by first | exact fun _ _ _ h => h | exact fun _ _ _ h => hQ2 _ _ _ _ _ h) ?_
        rotate_left
        · intro W hSW
          simp only [List.getElem_toArray, List.getElem_cons_zero, List.getElem_cons_succ]
          (try dsimp only at hSW)
          go_simp
          with_reducible rfl
        (try simp only [List.getElem_toArray, List.getElem_cons_zero, List.getElem_cons_succ, Act.put, List.setIfInBounds_toArray, List.set_cons_zero, List.set_cons_succ])
        refine wpAnyJ_take 13 (v := ?_) (by first | exact hF | exact wideFn) (HSB.out _ Bd.out) rfl (by kernel_rfl) (by kernel_rfl) (by kernel_rfl) (by kernel_rfl) rfl ?_ (by first | exact fun _ _ _ h => h | exact fun _ _ _ h => hQ2 _ _ _ _ _ h) ?_
        rotate_left
        · intro W hSW
          simp only [List.getElem_toArray, List.getElem_cons_zero, List.getElem_cons_succ]
          (try dsimp only at hSW)
          go_simp
          with_reducible rfl
        (try simp only [List.getElem_toArray, List.getElem_cons_zero, List.getElem_cons_succ, Act.put, List.setIfInBounds_toArray, List.set_cons_zero, List.set_cons_succ])
        refine wpAnyJ_take 14 (v := ?_) (by first | exact hF | exact wideFn) (HSB.out _ Bd.out) rfl (by kernel_rfl) (by kernel_rfl) (by kernel_rfl) (by kernel_rfl) rfl ?_ (by first | exact fun _ _ _ h => h | exact fun _ _ _ h => hQ2 _ _ _ _ _ h) ?_
        rotate_left
        · intro W hSW
          simp only [List.getElem_toArray, List.getElem_cons_zero, List.getElem_cons_succ]
          (try dsimp only at hSW)
          go_simp
          with_reducible rfl
        (try simp only [List.getElem_toArray, List.getElem_cons_zero, List.getElem_cons_succ, Act.put, List.setIfInBounds_toArray, List.set_cons_zero, List.set_cons_succ])
        refine wpAnyJ_take 15 (v := ?_) (by first | exact hF | exact wideFn) (HSB.out _ Bd.out) rfl (by kernel_rfl) (by kernel_rfl) (by kernel_rfl) (by kernel_rfl) rfl ?_ (by first | exact fun _ _ _ h => h | exact fun _ _ _ h => hQ2 _ _ _ _ _ h) ?_
        rotate_left
        · intro W hSW
          simp only [List.getElem_toArray, List.getElem_cons_zero, List.getElem_cons_succ]
          (try dsimp only at hSW)
          go_simp
          with_reducible rfl
        (try simp only [List.getElem_toArray, List.getElem_cons_zero, List.getElem_cons_succ, Act.put, List.setIfInBounds_toArray, List.set_cons_zero, List.set_cons_succ])
        generalize wr.drew = wd at HRd Bd ⊢
        have hzd : w.heap.size + 1 + 1 ≤ wd.heap.size := by have := HRd.out.rb.lt; omega
        have hwd : wr.heap.size ≤ wd.heap.size := Bd.out.size
        have HSW := hide (fun W (h : Below wd.heap.size wd W) => HSB.out W (Bd.out.trans (h.mono hwd)))
        clear HSB HR
        refine wpAnyJ_two 1 9 rfl rfl (by kernel_rfl) (fun K hK => ?_) (fun K hK => ?_)
        · have hB1 : Below wd.heap.size wd (wd.alloc (.cells #[] 3)) := (Below.refl _ _).alloc (Nat.le_refl _) _
          simp only [List.getElem_toArray, List.getElem_cons_zero, List.getElem_cons_succ]
          go_simp
          refine hK.out _ _ (fun _ => HSW.out _ hB1) ?_
          clear hK K
          (try simp only [List.getElem_toArray, List.getElem_cons_zero, List.getElem_cons_succ, Act.put, List.setIfInBounds_toArray, List.set_cons_zero, List.set_cons_succ])
          refine wpAnyJ_two 8 9 rfl rfl (by kernel_rfl) (fun K hK => ?_) (fun K hK => ?_)
          · obtain ⟨v8, w8, hrun8, hown8, hg8, -⟩ := run_append_any (P := Try.prog) (wd.alloc (.cells #[] 3)) w.heap.size 56 56 3 i0 _ 1 8 Try.underlying56 HI.out.1 HI.out.2.1 HI.out.2.2.1 HI.out.2.2.2 rfl (by omega) (.slice (some ⟨wd.heap.size, 0, none⟩) 0 0) 0 [] (ownMono (own_empty wd 3 1) (show w.heap.size ≤ wd.heap.size by omega)) _ (s.ca k) (s.cn k) (s.cc k) (cellsOf 1 (s.cn k) fun i _ => .int .i64 (s.cf k i)) (ER.reads (HIC.out _ (HRd.out.below.trans (hB1.mono HRd.out.below.size))) (by omega)) (ints_one _ _) (by unfold maxLen; omega) (by omega) (by simp; omega)
            have hB8 : Below wd.heap.size wd w8 := hB1.grown hg8 (by simp) (by simp [Value.ownBlock])
            rw [Nat.zero_add, List.nil_append] at hown8
            obtain ⟨A8, c8, rfl⟩ := own_shape hown8
            rw [if_pos (by rfl)]
            refine wpIn_append_run (.tmp 14) (.tmp 20) 56 wideFn rfl rfl rfl hrun8 ?_
            refine hK.out _ _ (fun _ => (HSW.out _ hB8)) ?_
            clear hK K
            (try simp only [List.getElem_toArray, List.getElem_cons_zero, List.getElem_cons_succ, Act.put, List.setIfInBounds_toArray, List.set_cons_zero, List.set_cons_succ])
            refine wpAnyJ_one 9 rfl (by kernel_rfl) (fun K hK => ?_)
            have hB3 : Below wd.heap.size wd (w8.alloc (.cells #[] 3)) := hB8.alloc hB8.size _
            simp only [List.getElem_toArray, List.getElem_cons_zero, List.getElem_cons_succ]
            go_simp
            refine hK.out _ _ (fun _ => HSW.out _ hB3) ?_
            clear hK K
            (try simp only [List.getElem_toArray, List.getElem_cons_zero, List.getElem_cons_succ, Act.put, List.setIfInBounds_toArray, List.set_cons_zero, List.set_cons_succ])
            have hr21 : rowI (w8.alloc (.cells #[] 3)) w.heap.size A8 (s.cn k) c8 (s.cf k) := World.ownsRow.alloc hown8 _
            have hr22 := ownMono (own_empty w8 3 1) (show w.heap.size ≤ w8.heap.size by have := hB8.size; omega)
            have hne : (Value.slice A8 (s.cn k) c8).ownBlock ≠ some w8.heap.size := fun e => by have := (hown8.lt _ e).2; omega
            refine wpAnyJ_one 16 rfl (by kernel_rfl) (fun K hK => ?_)
            obtain ⟨v16, w16, hrun16, hown16, hg16, -⟩ := run_append_any (P := Try.prog) (w8.alloc (.cells #[] 3)) w.heap.size 56 56 3 i0 _ 1 8 Try.underlying56 HI.out.1 HI.out.2.1 HI.out.2.2.1 HI.out.2.2.2 rfl (by omega) (.slice (some ⟨w8.heap.size, 0, none⟩) 0 0) 0 [] hr22 _ (s.wa k) (s.wn k) (s.wc k) (cellsOf 1 (s.wn k) fun i _ => .int .i64 (s.wf k i)) (ER.reads (HIW.out _ (HRd.out.below.trans (hB3.mono HRd.out.below.size))) (by omega)) (ints_one _ _) (by unfold maxLen; omega) (by omega) (by have := hB3.size; omega)
            have hB16 : Below wd.heap.size wd w16 := hB3.grown hg16 hB3.size (by have := hB8.size; simp [Value.ownBlock] <;> omega)
            rw [Nat.zero_add, List.nil_append] at hown16
            obtain ⟨A16, c16, rfl⟩ := own_shape hown16
            rw [if_pos (by rfl)]
            refine wpIn_append_run (.tmp 22) (.tmp 28) 56 wideFn rfl rfl rfl hrun16 ?_
            refine hK.out _ _ (fun _ => (HSW.out _ hB16)) ?_
            clear hK K
            (try simp only [List.getElem_toArray, List.getElem_cons_zero, List.getElem_cons_succ, Act.put, List.setIfInBounds_toArray, List.set_cons_zero, List.set_cons_succ])
            have hr21b := hr21.kept hg16 (.inr hne)
            refine wpAnyJ_take 17 (v := ?_) (by first | exact hF | exact wideFn) (HSW.out _ hB16) rfl (by kernel_rfl) (by kernel_rfl) (by kernel_rfl) (by kernel_rfl) rfl ?_ (by first | exact fun _ _ _ h => h | exact fun _ _ _ h => hQ2 _ _ _ _ _ h) ?_
            rotate_left
            · intro W hSW
              simp only [List.getElem_toArray, List.getElem_cons_zero, List.getElem_cons_succ]
              (try dsimp only at hSW)
              go_simp
              with_reducible rfl
            (try simp only [List.getElem_toArray, List.getElem_cons_zero, List.getElem_cons_succ, Act.put, List.setIfInBounds_toArray, List.set_cons_zero, List.set_cons_succ])
            refine wpAnyJ_one 18 rfl (by kernel_rfl) (fun K hK => ?_)
            have hB18 : Below wd.heap.size wd (w16.alloc (.cells #[.slice A8 (s.cn k) c8, .slice A16 (s.wn k) c16] 72)) := hB16.alloc hB16.size _
            simp only [List.getElem_toArray, List.getElem_cons_zero, List.getElem_cons_succ]
            go_simp
            refine hK.out _ _ (fun _ => HSW.out _ hB18) ?_
            clear hK K
            (try simp only [List.getElem_toArray, List.getElem_cons_zero, List.getElem_cons_succ, Act.put, List.setIfInBounds_toArray, List.set_cons_zero, List.set_cons_succ])
            refine wpAnyJ_one 19 rfl (by kernel_rfl) (fun K hK => ?_)
            have ho16 := ownBelow HRd.out.own hB16
            obtain ⟨v19, w19, hrun19, hown19, hg19, -⟩ := run_append_any (P := Try.prog) (w16.alloc (.cells #[.slice A8 (s.cn k) c8, .slice A16 (s.wn k) c16] 72)) w.heap.size 53 53 72 t0 _ 2 48 Try.underlying53 HT.out.1 HT.out.2.1 HT.out.2.2.1 HT.out.2.2.2 rfl (by omega) _ k _ (World.ownsRow.alloc ho16 _) (w16.heap.size + 1) (some ⟨w16.heap.size, 0, none⟩) 1 1 [.slice A8 (s.cn k) c8, .slice A16 (s.wn k) c16] (tier_read w16 _ _ _) (by intro u hu; simp at hu; rcases hu with rfl | rfl <;> rfl) (by unfold maxLen; omega) (by omega) (by have := hB16.size; simp; omega)
            have HN := hide (HRd.out.step hB16 hr21b hown16 ((World.grownBy_alloc w16 (.cells #[.slice A8 (s.cn k) c8, .slice A16 (s.wn k) c16] 72) _).trans hg19) hown19)
            rw [if_pos (by rfl)]
            refine wpIn_append_run (.tmp 13) (.tmp 31) 53 wideFn rfl rfl rfl hrun19 ?_
            refine hK.out _ _ (fun _ => HS.out _ HN.out.below HN.out.bx) ?_
            clear hK K
            (try simp only [List.getElem_toArray, List.getElem_cons_zero, List.getElem_cons_succ, Act.put, List.setIfInBounds_toArray, List.set_cons_zero, List.set_cons_succ])
            refine wpAnyJ_one 20 rfl (by kernel_rfl) (fun K hK => ?_)
            simp only [List.getElem_toArray, List.getElem_cons_zero, List.getElem_cons_succ]
            go_simp
            refine hK.out _ _ (fun h => absurd h (by rw [show lastOp _ _ _ = true from by kernel_rfl]; simp)) ?_
            clear hK K
            (try simp only [List.getElem_toArray, List.getElem_cons_zero, List.getElem_cons_succ, Act.put, List.setIfInBounds_toArray, List.set_cons_zero, List.set_cons_succ])
            refine wpAnyJ_done (by kernel_rfl) ?_
            go_wp2_with fail
            go_meet
            exact ⟨_, _, _, _, HN⟩
          · have hB2 : Below wd.heap.size wd ((wd.alloc (.cells #[] 3)).alloc (.cells #[] 3)) := hB1.alloc (by simp) _
            simp only [List.getElem_toArray, List.getElem_cons_zero, List.getElem_cons_succ]
            go_simp
            refine hK.out _ _ (fun _ => HSW.out _ hB2) ?_
            clear hK K
            (try simp only [List.getElem_toArray, List.getElem_cons_zero, List.getElem_cons_succ, Act.put, List.setIfInBounds_toArray, List.set_cons_zero, List.set_cons_succ])
            refine wpAnyJ_one 8 rfl (by kernel_rfl) (fun K hK => ?_)
            obtain ⟨v8, w8, hrun8, hown8, hg8, hob8⟩ := run_append_any (P := Try.prog) ((wd.alloc (.cells #[] 3)).alloc (.cells #[] 3)) w.heap.size 56 56 3 i0 _ 1 8 Try.underlying56 HI.out.1 HI.out.2.1 HI.out.2.2.1 HI.out.2.2.2 rfl (by omega) (.slice (some ⟨wd.heap.size, 0, none⟩) 0 0) 0 [] ((ownMono (own_empty wd 3 1) (show w.heap.size ≤ wd.heap.size by omega)).alloc _) _ (s.ca k) (s.cn k) (s.cc k) (cellsOf 1 (s.cn k) fun i _ => .int .i64 (s.cf k i)) (ER.reads (HIC.out _ (HRd.out.below.trans (hB2.mono HRd.out.below.size))) (by omega)) (ints_one _ _) (by unfold maxLen; omega) (by omega) (by simp; omega)
            have hB8 : Below wd.heap.size wd w8 := hB2.grown hg8 (by simp <;> omega) (by simp [Value.ownBlock] <;> omega)
            rw [Nat.zero_add, List.nil_append] at hown8
            obtain ⟨A8, c8, rfl⟩ := own_shape hown8
            rw [if_pos (by rfl)]
            refine wpIn_append_run (.tmp 14) (.tmp 20) 56 wideFn rfl rfl rfl hrun8 ?_
            refine hK.out _ _ (fun _ => (HSW.out _ hB8)) ?_
            clear hK K
            (try simp only [List.getElem_toArray, List.getElem_cons_zero, List.getElem_cons_succ, Act.put, List.setIfInBounds_toArray, List.set_cons_zero, List.set_cons_succ])
            have hr22 : w8.ownsRow w.heap.size 3 1 (.slice (some ⟨wd.heap.size + 1, 0, none⟩) 0 0) 0 [] := World.ownsRow.kept (by simpa using ownMono (own_empty (wd.alloc (.cells #[] 3)) 3 1) (show w.heap.size ≤ (wd.alloc (.cells #[] 3)).heap.size by simp; omega)) hg8 (.inr (by simp [Value.ownBlock]))
            have hne : (Value.slice A8 (s.cn k) c8).ownBlock ≠ some (wd.heap.size + 1) := fun e => by
              rcases hob8 with h | h <;> rw [h] at e <;> simp [Value.ownBlock] at e <;> omega
            have hB3 := hB8
            have hr21 : rowI w8 w.heap.size A8 (s.cn k) c8 (s.cf k) := hown8
            refine wpAnyJ_one 16 rfl (by kernel_rfl) (fun K hK => ?_)
            obtain ⟨v16, w16, hrun16, hown16, hg16, -⟩ := run_append_any (P := Try.prog) w8 w.heap.size 56 56 3 i0 _ 1 8 Try.underlying56 HI.out.1 HI.out.2.1 HI.out.2.2.1 HI.out.2.2.2 rfl (by omega) (.slice (some ⟨(wd.heap.size + 1), 0, none⟩) 0 0) 0 [] hr22 _ (s.wa k) (s.wn k) (s.wc k) (cellsOf 1 (s.wn k) fun i _ => .int .i64 (s.wf k i)) (ER.reads (HIW.out _ (HRd.out.below.trans (hB3.mono HRd.out.below.size))) (by omega)) (ints_one _ _) (by unfold maxLen; omega) (by omega) (by have := hB3.size; omega)
            have hB16 : Below wd.heap.size wd w16 := hB3.grown hg16 hB3.size (by have := hB8.size; simp [Value.ownBlock] <;> omega)
            rw [Nat.zero_add, List.nil_append] at hown16
            obtain ⟨A16, c16, rfl⟩ := own_shape hown16
            rw [if_pos (by rfl)]
            refine wpIn_append_run (.tmp 22) (.tmp 28) 56 wideFn rfl rfl rfl hrun16 ?_
            refine hK.out _ _ (fun _ => (HSW.out _ hB16)) ?_
            clear hK K
            (try simp only [List.getElem_toArray, List.getElem_cons_zero, List.getElem_cons_succ, Act.put, List.setIfInBounds_toArray, List.set_cons_zero, List.set_cons_succ])
            have hr21b := hr21.kept hg16 (.inr hne)
            refine wpAnyJ_take 17 (v := ?_) (by first | exact hF | exact wideFn) (HSW.out _ hB16) rfl (by kernel_rfl) (by kernel_rfl) (by kernel_rfl) (by kernel_rfl) rfl ?_ (by first | exact fun _ _ _ h => h | exact fun _ _ _ h => hQ2 _ _ _ _ _ h) ?_
            rotate_left
            · intro W hSW
              simp only [List.getElem_toArray, List.getElem_cons_zero, List.getElem_cons_succ]
              (try dsimp only at hSW)
              go_simp
              with_reducible rfl
            (try simp only [List.getElem_toArray, List.getElem_cons_zero, List.getElem_cons_succ, Act.put, List.setIfInBounds_toArray, List.set_cons_zero, List.set_cons_succ])
            refine wpAnyJ_one 18 rfl (by kernel_rfl) (fun K hK => ?_)
            have hB18 : Below wd.heap.size wd (w16.alloc (.cells #[.slice A8 (s.cn k) c8, .slice A16 (s.wn k) c16] 72)) := hB16.alloc hB16.size _
            simp only [List.getElem_toArray, List.getElem_cons_zero, List.getElem_cons_succ]
            go_simp
            refine hK.out _ _ (fun _ => HSW.out _ hB18) ?_
            clear hK K
            (try simp only [List.getElem_toArray, List.getElem_cons_zero, List.getElem_cons_succ, Act.put, List.setIfInBounds_toArray, List.set_cons_zero, List.set_cons_succ])
            refine wpAnyJ_one 19 rfl (by kernel_rfl) (fun K hK => ?_)
            have ho16 := ownBelow HRd.out.own hB16
            obtain ⟨v19, w19, hrun19, hown19, hg19, -⟩ := run_append_any (P := Try.prog) (w16.alloc (.cells #[.slice A8 (s.cn k) c8, .slice A16 (s.wn k) c16] 72)) w.heap.size 53 53 72 t0 _ 2 48 Try.underlying53 HT.out.1 HT.out.2.1 HT.out.2.2.1 HT.out.2.2.2 rfl (by omega) _ k _ (World.ownsRow.alloc ho16 _) (w16.heap.size + 1) (some ⟨w16.heap.size, 0, none⟩) 1 1 [.slice A8 (s.cn k) c8, .slice A16 (s.wn k) c16] (tier_read w16 _ _ _) (by intro u hu; simp at hu; rcases hu with rfl | rfl <;> rfl) (by unfold maxLen; omega) (by omega) (by have := hB16.size; simp; omega)
            have HN := hide (HRd.out.step hB16 hr21b hown16 ((World.grownBy_alloc w16 (.cells #[.slice A8 (s.cn k) c8, .slice A16 (s.wn k) c16] 72) _).trans hg19) hown19)
            rw [if_pos (by rfl)]
            refine wpIn_append_run (.tmp 13) (.tmp 31) 53 wideFn rfl rfl rfl hrun19 ?_
            refine hK.out _ _ (fun _ => HS.out _ HN.out.below HN.out.bx) ?_
            clear hK K
            (try simp only [List.getElem_toArray, List.getElem_cons_zero, List.getElem_cons_succ, Act.put, List.setIfInBounds_toArray, List.set_cons_zero, List.set_cons_succ])
            refine wpAnyJ_one 20 rfl (by kernel_rfl) (fun K hK => ?_)
            simp only [List.getElem_toArray, List.getElem_cons_zero, List.getElem_cons_succ]
            go_simp
            refine hK.out _ _ (fun h => absurd h (by rw [show lastOp _ _ _ = true from by kernel_rfl]; simp)) ?_
            clear hK K
            (try simp only [List.getElem_toArray, List.getElem_cons_zero, List.getElem_cons_succ, Act.put, List.setIfInBounds_toArray, List.set_cons_zero, List.set_cons_succ])
            refine wpAnyJ_done (by kernel_rfl) ?_
            go_wp2_with fail
            go_meet
            exact ⟨_, _, _, _, HN⟩
        · have hB1 : Below wd.heap.size wd (wd.alloc (.cells #[] 3)) := (Below.refl _ _).alloc (Nat.le_refl _) _
          simp only [List.getElem_toArray, List.getElem_cons_zero, List.getElem_cons_succ]
          go_simp
          refine hK.out _ _ (fun _ => HSW.out _ hB1) ?_
          clear hK K
          (try simp only [List.getElem_toArray, List.getElem_cons_zero, List.getElem_cons_succ, Act.put, List.setIfInBounds_toArray, List.set_cons_zero, List.set_cons_succ])
          refine wpAnyJ_one 1 rfl (by kernel_rfl) (fun K hK => ?_)
          have hB2 : Below wd.heap.size wd ((wd.alloc (.cells #[] 3)).alloc (.cells #[] 3)) := hB1.alloc (by simp) _
          simp only [List.getElem_toArray, List.getElem_cons_zero, List.getElem_cons_succ]
          go_simp
          refine hK.out _ _ (fun _ => HSW.out _ hB2) ?_
          clear hK K
          (try simp only [List.getElem_toArray, List.getElem_cons_zero, List.getElem_cons_succ, Act.put, List.setIfInBounds_toArray, List.set_cons_zero, List.set_cons_succ])
          refine wpAnyJ_one 8 rfl (by kernel_rfl) (fun K hK => ?_)
          obtain ⟨v8, w8, hrun8, hown8, hg8, hob8⟩ := run_append_any (P := Try.prog) ((wd.alloc (.cells #[] 3)).alloc (.cells #[] 3)) w.heap.size 56 56 3 i0 _ 1 8 Try.underlying56 HI.out.1 HI.out.2.1 HI.out.2.2.1 HI.out.2.2.2 rfl (by omega) (.slice (some ⟨(wd.heap.size + 1), 0, none⟩) 0 0) 0 [] (by simpa using ownMono (own_empty (wd.alloc (.cells #[] 3)) 3 1) (show w.heap.size ≤ (wd.alloc (.cells #[] 3)).heap.size by simp; omega)) _ (s.ca k) (s.cn k) (s.cc k) (cellsOf 1 (s.cn k) fun i _ => .int .i64 (s.cf k i)) (ER.reads (HIC.out _ (HRd.out.below.trans (hB2.mono HRd.out.below.size))) (by omega)) (ints_one _ _) (by unfold maxLen; omega) (by omega) (by simp; omega)
          have hB8 : Below wd.heap.size wd w8 := hB2.grown hg8 (by simp <;> omega) (by simp [Value.ownBlock] <;> omega)
          rw [Nat.zero_add, List.nil_append] at hown8
          obtain ⟨A8, c8, rfl⟩ := own_shape hown8
          rw [if_pos (by rfl)]
          refine wpIn_append_run (.tmp 14) (.tmp 20) 56 wideFn rfl rfl rfl hrun8 ?_
          refine hK.out _ _ (fun _ => (HSW.out _ hB8)) ?_
          clear hK K
          (try simp only [List.getElem_toArray, List.getElem_cons_zero, List.getElem_cons_succ, Act.put, List.setIfInBounds_toArray, List.set_cons_zero, List.set_cons_succ])
          have hr22 : w8.ownsRow w.heap.size 3 1 (.slice (some ⟨wd.heap.size, 0, none⟩) 0 0) 0 [] := World.ownsRow.kept ((ownMono (own_empty wd 3 1) (show w.heap.size ≤ wd.heap.size by omega)).alloc _) hg8 (.inr (by simp [Value.ownBlock]))
          have hne : (Value.slice A8 (s.cn k) c8).ownBlock ≠ some wd.heap.size := fun e => by
            rcases hob8 with h | h <;> rw [h] at e <;> simp [Value.ownBlock] at e <;> omega
          have hB3 := hB8
          have hr21 : rowI w8 w.heap.size A8 (s.cn k) c8 (s.cf k) := hown8
          refine wpAnyJ_one 16 rfl (by kernel_rfl) (fun K hK => ?_)
          obtain ⟨v16, w16, hrun16, hown16, hg16, -⟩ := run_append_any (P := Try.prog) w8 w.heap.size 56 56 3 i0 _ 1 8 Try.underlying56 HI.out.1 HI.out.2.1 HI.out.2.2.1 HI.out.2.2.2 rfl (by omega) (.slice (some ⟨wd.heap.size, 0, none⟩) 0 0) 0 [] hr22 _ (s.wa k) (s.wn k) (s.wc k) (cellsOf 1 (s.wn k) fun i _ => .int .i64 (s.wf k i)) (ER.reads (HIW.out _ (HRd.out.below.trans (hB3.mono HRd.out.below.size))) (by omega)) (ints_one _ _) (by unfold maxLen; omega) (by omega) (by have := hB3.size; omega)
          have hB16 : Below wd.heap.size wd w16 := hB3.grown hg16 hB3.size (by have := hB8.size; simp [Value.ownBlock] <;> omega)
          rw [Nat.zero_add, List.nil_append] at hown16
          obtain ⟨A16, c16, rfl⟩ := own_shape hown16
          rw [if_pos (by rfl)]
          refine wpIn_append_run (.tmp 22) (.tmp 28) 56 wideFn rfl rfl rfl hrun16 ?_
          refine hK.out _ _ (fun _ => (HSW.out _ hB16)) ?_
          clear hK K
          (try simp only [List.getElem_toArray, List.getElem_cons_zero, List.getElem_cons_succ, Act.put, List.setIfInBounds_toArray, List.set_cons_zero, List.set_cons_succ])
          have hr21b := hr21.kept hg16 (.inr hne)
          refine wpAnyJ_take 17 (v := ?_) (by first | exact hF | exact wideFn) (HSW.out _ hB16) rfl (by kernel_rfl) (by kernel_rfl) (by kernel_rfl) (by kernel_rfl) rfl ?_ (by first | exact fun _ _ _ h => h | exact fun _ _ _ h => hQ2 _ _ _ _ _ h) ?_
          rotate_left
          · intro W hSW
            simp only [List.getElem_toArray, List.getElem_cons_zero, List.getElem_cons_succ]
            (try dsimp only at hSW)
            go_simp
            with_reducible rfl
          (try simp only [List.getElem_toArray, List.getElem_cons_zero, List.getElem_cons_succ, Act.put, List.setIfInBounds_toArray, List.set_cons_zero, List.set_cons_succ])
          refine wpAnyJ_one 18 rfl (by kernel_rfl) (fun K hK => ?_)
          have hB18 : Below wd.heap.size wd (w16.alloc (.cells #[.slice A8 (s.cn k) c8, .slice A16 (s.wn k) c16] 72)) := hB16.alloc hB16.size _
          simp only [List.getElem_toArray, List.getElem_cons_zero, List.getElem_cons_succ]
          go_simp
          refine hK.out _ _ (fun _ => HSW.out _ hB18) ?_
          clear hK K
          (try simp only [List.getElem_toArray, List.getElem_cons_zero, List.getElem_cons_succ, Act.put, List.setIfInBounds_toArray, List.set_cons_zero, List.set_cons_succ])
          refine wpAnyJ_one 19 rfl (by kernel_rfl) (fun K hK => ?_)
          have ho16 := ownBelow HRd.out.own hB16
          obtain ⟨v19, w19, hrun19, hown19, hg19, -⟩ := run_append_any (P := Try.prog) (w16.alloc (.cells #[.slice A8 (s.cn k) c8, .slice A16 (s.wn k) c16] 72)) w.heap.size 53 53 72 t0 _ 2 48 Try.underlying53 HT.out.1 HT.out.2.1 HT.out.2.2.1 HT.out.2.2.2 rfl (by omega) _ k _ (World.ownsRow.alloc ho16 _) (w16.heap.size + 1) (some ⟨w16.heap.size, 0, none⟩) 1 1 [.slice A8 (s.cn k) c8, .slice A16 (s.wn k) c16] (tier_read w16 _ _ _) (by intro u hu; simp at hu; rcases hu with rfl | rfl <;> rfl) (by unfold maxLen; omega) (by omega) (by have := hB16.size; simp; omega)
          have HN := hide (HRd.out.step hB16 hr21b hown16 ((World.grownBy_alloc w16 (.cells #[.slice A8 (s.cn k) c8, .slice A16 (s.wn k) c16] 72) _).trans hg19) hown19)
          rw [if_pos (by rfl)]
          refine wpIn_append_run (.tmp 13) (.tmp 31) 53 wideFn rfl rfl rfl hrun19 ?_
          refine hK.out _ _ (fun _ => HS.out _ HN.out.below HN.out.bx) ?_
          clear hK K
          (try simp only [List.getElem_toArray, List.getElem_cons_zero, List.getElem_cons_succ, Act.put, List.setIfInBounds_toArray, List.set_cons_zero, List.set_cons_succ])
          refine wpAnyJ_one 20 rfl (by kernel_rfl) (fun K hK => ?_)
          simp only [List.getElem_toArray, List.getElem_cons_zero, List.getElem_cons_succ]
          go_simp
          refine hK.out _ _ (fun h => absurd h (by rw [show lastOp _ _ _ = true from by kernel_rfl]; simp)) ?_
          clear hK K
          (try simp only [List.getElem_toArray, List.getElem_cons_zero, List.getElem_cons_succ, Act.put, List.setIfInBounds_toArray, List.set_cons_zero, List.set_cons_succ])
          refine wpAnyJ_done (by kernel_rfl) ?_
          go_wp2_with fail
          go_meet
          exact ⟨_, _, _, _, HN⟩
      case rest =>
        obtain ⟨ca', wa', cc', wc', HN⟩ := hcut
        go_wp2_with fail
        go_roundw
        case rel => exact ⟨k + 1, by go_num, by omega, ca', wa', cc', wc', HN⟩
        case measure => simp [intOf]; omega
    · obtain rfl : k = s.nt := by omega
      obtain ⟨vA, vc, rfl⟩ := own_shape HR.out.own
      obtain ⟨b0, b1, b2, b3, b4, b5, b6⟩ := blk3 HR.out.rb
      obtain ⟨-, -, -, -, a4, a5, a6⟩ := blk3 HR.out.bx
      go_wp2_with fail
      refine bodyPost_ret (v := .agg #[.int .i64 s.wd, .int .i64 s.hg, .slice vA s.nt vc]) (by simp [results, Try.results27, go_sem, *]) rfl ⟨vA, vc, ca, wa, cc, wc, rfl, ?_, ?_, ?_⟩
      · exact (HR.out.shut _ _ _ _).2 HSS.out
      · exact (HR.out.shut _ _ _ _).1
      · obtain ⟨A', c', hv, -, hnc⟩ := ER.of_own HR.out.own (by omega)
        injection hv with h1 h2 h3
        rw [h3]; exact hnc
theorem own_any (s : Stk) (w : World) (hs : StkR w w.heap.size s) (hn : s.nt ≤ 65536) (hm : ∀ k, k < s.nt → s.cn k ≤ 65536 ∧ s.wn k ≤ 65536) : Calls Try.prog 27 #[.agg #[.int .i64 s.wd, .int .i64 s.hg, .slice s.A s.nt s.cap]] w (OwnPost s w) := by
  refine (own_cap s w hs hn hm).mono ?_
  rintro e w' ⟨A, c, ca, wa, cc, wc, h1, h2, h3, -⟩
  exact ⟨A, c, ca, wa, cc, wc, h1, h2, h3⟩
end Go.Proofs.Ytlhekifmkkgjlaa
/- The law KilnStacks: what Loads and Free answer, said in one way whatever the stack. -/
namespace Go.Proofs.Ytlhekifmkkgjlaa
open Go Go.RowKit Go.Shelf
set_option maxHeartbeats 2000000
set_option maxRecDepth 100000
def ldE (s : Stk) : Int := if stackB s = false then 2 else if 0 ≤ (hangF s).1 then 80 else if LoadsB s = false then 10 else 0
/-- a list of lists of loads that is read -/
def LsR (W : World) (z n : Nat) (L : Nat → List (Nat × Nat)) : Prop := ∃ v : Nat → Value, Blk W z 65 (rowV n v) ∧ ∀ k, k < n → ∃ n0, OwnL W n0 (v k) (L k)
theorem OwnL.ext' {W W' : World} {n0 : Nat} {v : Value} {l : List (Nat × Nat)} (h : OwnL W n0 v l) (hb : Below W.heap.size W W') : OwnL W' n0 v l := ownBelow h hb
theorem LsR.ext {W W' : World} {z n : Nat} {L : Nat → List (Nat × Nat)} (h : LsR W z n L) (hb : Below W.heap.size W W') : LsR W' z n L := by
  obtain ⟨v, h1, h2⟩ := h
  exact ⟨v, h1.ext hb, fun k hk => by obtain ⟨n0, h3⟩ := h2 k hk; exact ⟨n0, h3.ext' hb⟩⟩
/-- an own list of loads is read as pairs -/
theorem OwnL.pi {W : World} {n0 : Nat} {v : Value} {l : List (Nat × Nat)} (h : OwnL W n0 v l) : ∃ A c, v = .slice A l.length c ∧ PI W W.heap.size A l.length (fun k => ((l.getD k (0, 1)).1 : Int)) (fun k => ((l.getD k (0, 1)).2 : Int)) := by
  obtain ⟨A, c, rfl⟩ := own_shape h
  refine ⟨A, c, rfl, fun hn => ?_⟩
  obtain ⟨g, cap, hv, -, hg, -⟩ := h.at_ (c := 0) hn
  injection hv with hA
  subst hA
  refine ⟨g, 0, rfl, hg, fun k i hk hi => ?_⟩
  obtain ⟨g', cap', hv', -, -, h1, h2, -⟩ := h.at_ (c := k) hk
  injection hv' with hA'
  injection hA' with hA'
  injection hA' with hA'
  subst hA'
  rcases (by omega : i = 0 ∨ i = 1) with rfl | rfl
  · simpa using h1
  · simpa using h2
theorem LsR.at_ {W : World} {z n : Nat} {L : Nat → List (Nat × Nat)} (h : LsR W z n L) {k : Nat} (hk : k < n) :
    ∃ A c, z < W.heap.size ∧ W.cell? ⟨z, k, none⟩ = some (.slice A (L k).length c) ∧ PI W W.heap.size A (L k).length (fun i => (((L k).getD i (0, 1)).1 : Int)) (fun i => (((L k).getD i (0, 1)).2 : Int)) := by
  obtain ⟨v, h1, h2⟩ := h
  obtain ⟨n0, h3⟩ := h2 k hk
  obtain ⟨A, c, hv, hP⟩ := h3.pi
  refine ⟨A, c, h1.lt, ?_, hP⟩
  rw [h1.cell, ← hv]
  simp [rowV, hk]
/-- what Loads answers -/
def LdPost (s : Stk) (w : World) (e : Ending) (w' : World) : Prop :=
  ∃ (AA : Option Addr) (an ac : Nat) (FA : Option Addr) (fn fc : Nat), e = .returned (.tuple #[.slice AA an ac, .slice FA fn fc, .int .i64 (ldE s)]) ∧ Below w.heap.size w w' ∧ (ldE s ≠ 0 → an = 0 ∧ fn = 0) ∧
    (ldE s = 0 → ∃ z, AA = some ⟨z, 0, none⟩ ∧ an = s.nt ∧ LsR w' z s.nt (LoadsL s) ∧ fn = (LoadsL s s.nt).length ∧ PI w' w'.heap.size FA fn (fun i => (((LoadsL s s.nt).getD i (0, 1)).1 : Int)) (fun i => (((LoadsL s s.nt).getD i (0, 1)).2 : Int)))
theorem Loads_any (s : Stk) (w : World) (hs : StkR w w.heap.size s) : Calls Try.prog 32 #[.agg #[.int .i64 s.wd, .int .i64 s.hg, .slice s.A s.nt s.cap]] w (LdPost s w) := by
  rcases h1 : stackB s with _ | _
  · have hE : ldE s = 2 := by unfold ldE; rw [if_pos h1]
    refine (Loads_arg s w hs h1).mono ?_
    rintro e w' ⟨rfl, hb⟩
    exact ⟨none, 0, 0, none, 0, 0, by rw [hE], hb, fun _ => ⟨rfl, rfl⟩, fun h => by omega⟩
  · by_cases h4 : 0 ≤ (hangF s).1
    · have hE : ldE s = 80 := by unfold ldE; rw [h1, if_neg (by simp), if_pos h4]
      refine (Loads_falls s w hs h1 h4).mono ?_
      rintro e w' ⟨rfl, hb⟩
      exact ⟨none, 0, 0, none, 0, 0, by rw [hE], hb, fun _ => ⟨rfl, rfl⟩, fun h => by omega⟩
    · rcases h5 : LoadsB s with _ | _
      · have hE : ldE s = 10 := by unfold ldE; rw [h1, if_neg (by simp), if_neg h4, if_pos h5]
        refine (Loads_over s w hs h1 (by omega) h5).mono ?_
        rintro e w' ⟨rfl, hb⟩
        exact ⟨none, 0, 0, none, 0, 0, by rw [hE], hb, fun _ => ⟨rfl, rfl⟩, fun h => by omega⟩
      · have hE : ldE s = 0 := by unfold ldE; rw [h1, if_neg (by simp), if_neg h4, h5, if_neg (by simp)]
        refine (Loads_ok s w hs h1 (by omega) h5).mono ?_
        rintro e w' ⟨z, v, hz, rfl, hb, hrow, hown⟩
        obtain ⟨FA, fc, hv, hP⟩ := (hown s.nt (Nat.le_refl _)).pi
        exact ⟨_, s.nt, s.nt, FA, _, fc, by rw [hE, hv], hb, fun h => absurd hE h, fun _ => ⟨_, rfl, rfl, ⟨v, hrow, fun k hk => ⟨_, hown k (by omega)⟩⟩, rfl, hP⟩⟩
section
variable (s : Stk) (A : Option Addr) (c : Nat) (ca wa : Nat → Option Addr) (cc wc : Nat → Nat)
theorem freeTo_at (t b : Nat) : ∀ n, freeTo (s.at A c ca wa cc wc) t b n = freeTo s t b n
  | 0 => rfl
  | n + 1 => by
    show (freeTo (s.at A c ca wa cc wc) t b n && _) = (freeTo s t b n && _)
    rw [freeTo_at t b n]; rfl
theorem freeB_at : freeB (s.at A c ca wa cc wc) = freeB s := by
  funext p
  exact freeTo_at s A c ca wa cc wc p.1 p.2 _
theorem freeDn_at : ∀ r, freeDn (s.at A c ca wa cc wc) r = freeDn s r
  | 0 => rfl
  | r + 1 => by
    show freeDn (s.at A c ca wa cc wc) r ++ freeRow (s.at A c ca wa cc wc) (s.nt - 1 - r) (s.wn (s.nt - 1 - r)) = freeDn s r ++ freeRow s (s.nt - 1 - r) (s.wn (s.nt - 1 - r))
    rw [freeDn_at r]
    unfold freeRow
    rw [freeB_at]
end
/-- what Free answers, whatever the stack -/
def FrPost (s : Stk) (w : World) (e : Ending) (w' : World) : Prop :=
  ∃ (A : Option Addr) (n c : Nat), e = .returned (.tuple #[.slice A n c, .int .i64 (stkE s)]) ∧ Below w.heap.size w w' ∧ (stackB s = false → n = 0) ∧
    (stackB s = true → n = (freeDn s s.nt).length ∧ PI w' w'.heap.size A n (fun k => (rowOf (freeDn s s.nt) k).1) (fun k => (rowOf (freeDn s s.nt) k).2))
theorem Free_any (s : Stk) (w : World) (hs : StkR w w.heap.size s) : Calls Try.prog 47 #[.agg #[.int .i64 s.wd, .int .i64 s.hg, .slice s.A s.nt s.cap]] w (FrPost s w) := by
  rcases h1 : stackB s with _ | _
  · refine (Free_arg s w hs h1).mono ?_
    rintro e w' ⟨rfl, hb⟩
    exact ⟨none, 0, 0, by rw [stkE_no h1], hb, fun _ => rfl, fun h => by rw [h1] at h; cases h⟩
  · refine (Free_ok s w hs h1).mono ?_
    rintro e w' ⟨A, c, rfl, hP, hb⟩
    exact ⟨A, _, c, by rw [stkE_ok h1], hb, ⟨fun h => (by rw [h1] at h; cases h), fun _ => ⟨rfl, hP⟩⟩⟩
/-- the own list of the reference's Free, read -/
theorem OwnB.pi {W : World} {n0 : Nat} {v : Value} {l : List (Nat × Nat)} (h : OwnB W n0 v l) : ∃ A c, v = .slice A l.length c ∧ PI W W.heap.size A l.length (fun k => (rowOf l k).1) (fun k => (rowOf l k).2) := by
  rcases h.sbr with ⟨rfl, rfl⟩ | ⟨g, cap, rfl, -, hr⟩
  · exact ⟨none, 0, rfl, ER.nil _ _ _ _ _⟩
  · exact ⟨_, cap, rfl, hr.pi fun k _ => rfl⟩
theorem free_len_bd {s : Stk} (h : stackB s = true) (r : Nat) (hr : r ≤ s.nt) : (freeDn s r).length ≤ 1440 := by
  have h1 := (freeDn_asc s hr).length_eq
  rw [List.length_append] at h1
  have h2 : (freeAsc s s.nt).length ≤ 1440 := Nat.le_trans (List.length_filter_le _ _) (bricks_len_bd h)
  omega
end Go.Proofs.Ytlhekifmkkgjlaa
/- KilnFloors, plain: lowest terms, what presses on a cell, free bricks bear nothing, the floor bears all weights, and without the highest tier no load is greater (no program in sight). -/
namespace Go.Proofs.Ytlhekifmkkgjlaa
open Go Go.RowKit Go.Shelf
set_option maxRecDepth 100000
/-- in lowest terms -/
def LdC (x : Nat × Nat) : Prop := Nat.gcd x.1 x.2 = 1
theorem LdC_zero : LdC (0, 1) := rfl
theorem lowP_c {n d : Nat} (h : 0 < d) : LdC (lowP n d) := by
  have hg : 0 < Nat.gcd n d := Nat.gcd_pos_of_pos_right _ h
  unfold LdC lowP
  dsimp only
  rw [Nat.gcd_div (Nat.gcd_dvd_left _ _) (Nat.gcd_dvd_right _ _)]
  exact Nat.div_self hg
theorem lowS_c {n d : Nat} (h : 0 < d) : LdC (lowS n d) := by
  unfold lowS
  rcases hf : fitP (lowP n d) with _ | _
  · rw [capP_no hf]; exact LdC_zero
  · rw [capP_yes hf]; exact lowP_c h
theorem onBrk_c {s : Stk} {t i : Nat} {on : List (Nat × Nat)} (ok : Bool) (ho : ∀ x ∈ on, LdOk x) : LdC (onBrk s t i on ok).1 := by
  unfold onBrk
  generalize cellsTo (s.cf t) i (s.cn t) = cs
  have key : ∀ (cs : List Nat) (st : (Nat × Nat) × Bool), LdOk st.1 → LdC st.1 → LdC (cs.foldl (addSt on) st).1 := by
    intro cs
    induction cs with
    | nil => intro st _ h; exact h
    | cons c cs ih =>
      intro st h h2
      rw [List.foldl_cons]
      exact ih _ (addSt_ok on st c h ho) (lowS_c (Nat.mul_pos h.2.1 (getD_ok ho c).2.1))
  exact key cs _ LdOk_zero LdC_zero
theorem layOn_c {l : List (Nat × Nat)} (h : ∀ x ∈ l, LdC x) (cs : List Nat) {x : Nat × Nat} (hx : LdC x) : ∀ y ∈ layOn l cs x, LdC y := by
  unfold layOn
  induction cs generalizing l with
  | nil => exact h
  | cons c cs ih =>
    rw [List.foldl_cons]
    exact ih (fun y hy => (List.mem_or_eq_of_mem_set hy).elim (h y) (fun e => e ▸ hx))
theorem tierR_c {s : Stk} {m t : Nat} {on l : List (Nat × Nat)} {ok : Bool} (ho : ∀ x ∈ on, LdOk x) (hl : ∀ x ∈ l, LdC x) : ∀ k : Nat, (∀ i : Nat, i < k → 0 < (restL s t i).length) → (∀ x ∈ (tierR s m t on l ok k).1, LdC x) ∧ ∀ x ∈ (tierR s m t on l ok k).2.1, LdC x
  | 0, _ => ⟨fun x hx => by
      have : x = (0, 1) := (List.mem_replicate.1 (show x ∈ List.replicate m (0, 1) from hx)).2
      rw [this]; exact LdC_zero, hl⟩
  | k + 1, hr => by
    have ih := tierR_c (m := m) (ok := ok) ho hl k (fun i hi => hr i (by omega))
    rw [tierR_succ]
    generalize tierR s m t on l ok k = st at ih ⊢
    have hon := onBrk_ok (s := s) (t := t) (i := k) st.2.2 ho
    have hdn : LdOk (dnBrk s t k (onBrk s t k on st.2.2).1) := lowS_ok _ _ (by
      show 0 < (onBrk s t k on st.2.2).1.2 * 1
      have := hon.2.1; omega)
    unfold brkSt
    refine ⟨layOn_c ih.1 _ (lowS_c (Nat.mul_pos hdn.2.1 (hr k (by omega)))), fun x hx => ?_⟩
    rcases List.mem_append.1 hx with hx | hx
    · exact ih.2 x hx
    · rw [List.mem_singleton.1 hx]; exact onBrk_c _ ho
theorem loads_c (s : Stk) (m : Nat) (hr : ∀ t i : Nat, t < s.nt → i < s.wn t → 0 < (restL s t i).length) : ∀ d r, r + d = s.nt → ∀ k, k ≤ s.nt → ∀ x ∈ (loadsF s m (backTo s.nt r)).1 k, LdC x
  | 0, r, h, k, hk => by
    obtain rfl : r = s.nt := by omega
    rw [loads_top]
    intro x hx
    unfold ld0 at hx
    dsimp only at hx
    split at hx
    · rw [(List.mem_replicate.1 hx).2]; exact LdC_zero
    · simp at hx
  | d + 1, r, h, k, hk => by
    have ih := loads_c s m hr d (r + 1) (by omega)
    have iho := loads_ok s m hr d (r + 1) (by omega)
    rw [loads_step (by omega)]
    have ht := tierR_c (s := s) (m := m) (t := r) (ok := (loadsF s m (backTo s.nt (r + 1))).2) (iho s.nt (by omega)) (ih r (by omega)) (s.wn r) (fun i hi => hr r i (by omega) hi)
    unfold tierSt
    dsimp only
    by_cases e : k = s.nt
    · subst e
      rw [upd_same]
      exact ht.1
    · rw [upd_ne _ _ e]
      by_cases e2 : k = r
      · subst e2
        rw [upd_same]
        exact ht.2
      · rw [upd_ne _ _ e2]
        exact ih k hk
theorem LoadsL_c {s : Stk} (hf : (hangF s).1 < 0) {k : Nat} (hk : k ≤ s.nt) : ∀ x ∈ LoadsL s k, LdC x := loads_c s (flr s) (rest_pos hf) s.nt 0 (by omega) k hk
theorem getD_c {l : List (Nat × Nat)} (h : ∀ x ∈ l, LdC x) (c : Nat) : LdC (l.getD c (0, 1)) := by
  rw [List.getD_eq_getElem?_getD]
  cases hc : l[c]? with
  | none => exact LdC_zero
  | some x => exact h x (List.mem_of_getElem? hc)
/-- what a tier presses on a cell below -/
theorem tier_vals {s : Stk} {t : Nat} {on : List (Nat × Nat)} {ok : Bool} (ho : ∀ x ∈ on, LdOk x) (hw : ∀ i : Nat, i < s.wn t → (s.wf t i).toNat ≤ 1000000000) (hr : ∀ i : Nat, i < s.wn t → 0 < (restL s t i).length) :
    ∀ k : Nat, k ≤ s.wn t → (tierR s (s.cn t) t on [] ok k).2.2 = true → ∀ i c, i < k → c < s.cn t → restP s t i c = true →
      qR ((tierR s (s.cn t) t on [] ok k).1.getD c (0, 1)) * ((restL s t i).length : Rat) = sumTo (fun c => if s.cf t c = (i : Int) then qR (on.getD c (0, 1)) else 0) (s.cn t) + wtR s t i
  | 0, _, _, i, c, hi, _, _ => absurd hi (by omega)
  | k + 1, hk, h, i, c, hi, hc, hp => by
    have hlen : (tierR s (s.cn t) t on [] ok k).1.length = s.cn t := tierR_len ..
    rw [tierR_succ] at h ⊢
    generalize htr : tierR s (s.cn t) t on [] ok k = st at h hlen ⊢
    unfold brkSt at h
    simp only [Bool.and_eq_true] at h
    obtain ⟨⟨h1, h2⟩, h3⟩ := h
    obtain ⟨h4, hon⟩ := onBrk_sum ho h1
    have hlon := onBrk_ok (s := s) (t := t) (i := k) st.2.2 ho
    have hwk := hw k (by omega)
    have hrk := hr k (by omega)
    have hdn : qR (dnBrk s t k (onBrk s t k on st.2.2).1) = qR (onBrk s t k on st.2.2).1 + wtR s t k := by
      unfold dnBrk
      rw [qR_add (y := wtP s t k) hlon (LdOk_nat hwk) h2]
      unfold wtP
      rw [qR_nat]; rfl
    have hdo : LdOk (dnBrk s t k (onBrk s t k on st.2.2).1) := lowS_ok _ _ (Nat.mul_pos hlon.2.1 (by unfold wtP; simp))
    have hsh : ((restL s t k).length : Rat) * qR (shBrk s t k (dnBrk s t k (onBrk s t k on st.2.2).1)) = qR (dnBrk s t k (onBrk s t k on st.2.2).1) := by
      unfold shBrk
      rw [qR_lowS (Nat.mul_pos hdo.2.1 hrk) h3]
      generalize dnBrk s t k (onBrk s t k on st.2.2).1 = y at hdo ⊢
      have e2 : ((y.2 * (restL s t k).length : Nat) : Rat) = (y.2 : Rat) * ((restL s t k).length : Rat) := by push_cast; rfl
      rw [e2]
      have p1 := natR_pos hdo.2.1
      have p2 := natR_pos hrk
      exact share_eq _ _ _ p1 p2
    show qR ((layOn st.1 (restL s t k) _).getD c (0, 1)) * _ = _
    rw [layOn_get _ c _ st.1 (fun a ha => by rw [hlen]; exact (mem_restL.1 ha).1)]
    by_cases e : i = k
    · subst e
      rw [if_pos (mem_restL.2 ⟨hc, hp⟩), Rat.mul_comm, hsh, hdn, hon]
    · have hne : c ∉ restL s t k := fun hm => by
        have h5 := (mem_restL.1 hm).2
        unfold restP at h5 hp
        simp only [Bool.and_eq_true, decide_eq_true_eq] at h5 hp
        omega
      rw [if_neg hne, ← htr]
      exact tier_vals ho hw hr k (by omega) (by rw [htr]; exact h4) i c (by omega) hc hp
section
variable {s : Stk}
theorem gL_parts (h : stackB s = true) {r : Nat} (hr : r < s.nt) :
    (gL s r).1 s.nt = (tierR s (s.cn r) r ((gL s (r + 1)).1 s.nt) [] (gL s (r + 1)).2 (s.wn r)).1 ∧ (gL s r).2 = (tierR s (s.cn r) r ((gL s (r + 1)).1 s.nt) [] (gL s (r + 1)).2 (s.wn r)).2.2 := by
  have f1 := (tier_facts h hr).1
  have hnil : (gL s (r + 1)).1 r = [] := by
    have h1 := loads_cnt s (flr s) (s.nt - (r + 1)) (r + 1) (by omega) r hr
    rw [if_neg (by omega)] at h1
    exact List.eq_nil_of_length_eq_zero h1
  rw [gL_step hr]
  unfold tierSt
  dsimp only
  rw [upd_same, hnil, f1]
  exact ⟨rfl, rfl⟩
theorem top_rep (s : Stk) : (gL s s.nt).1 s.nt = List.replicate (flr s) (0, 1) := by
  show (loadsF s (flr s) (backTo s.nt s.nt)).1 s.nt = _
  rw [loads_top]; simp [ld0]
theorem top_none {c : Nat} (hc : c < flr s) : ((gL s s.nt).1 s.nt).getD c (0, 1) = (0, 1) := by
  rw [top_rep, List.getD_eq_getElem?_getD, List.getElem?_replicate, if_pos hc]; rfl
theorem gL_onok (hf : (hangF s).1 < 0) {r : Nat} (hr : r ≤ s.nt) : ∀ x ∈ (gL s r).1 s.nt, LdOk x := loads_ok s (flr s) (rest_pos hf) (s.nt - r) r (by omega) s.nt (Nat.le_refl _)
/-- where no brick lies nothing presses -/
theorem press_zero (h : stackB s = true) (hf : (hangF s).1 < 0) {r : Nat} (hr : r < s.nt) (hok : (gL s r).2 = true) {c : Nat} (hc : c < flr s) (hn : s.cf r c < 0 ∨ covB s ((r : Int) - 1) c = false) : ((gL s r).1 s.nt).getD c (0, 1) = (0, 1) := by
  obtain ⟨f1, f2, f3, f4, f5⟩ := tier_facts h hr
  obtain ⟨e1, e2⟩ := gL_parts h hr
  rw [e2] at hok
  obtain ⟨-, htk⟩ := tier_sums (on := (gL s (r + 1)).1 s.nt) (ok := (gL s (r + 1)).2) (gL_onok hf (by omega)) (fun i hi => by have := f3 i hi; omega) (fun i hi => rest_pos hf r i hr hi) (s.wn r) (Nat.le_refl _) hok
  rw [e1]
  rcases hn with hn | hn
  · exact htk.zero c (by omega) (.inl hn)
  · exact htk.zero c (by omega) (.inr (.inr hn))
/-- where a brick lies, and rests, it presses its share -/
theorem press_val (h : stackB s = true) (hf : (hangF s).1 < 0) {r : Nat} (hr : r < s.nt) (hok : (gL s r).2 = true) {i c : Nat} (hi : i < s.wn r) (hc : c < flr s) (hp : restP s r i c = true) :
    qR (((gL s r).1 s.nt).getD c (0, 1)) * ((restL s r i).length : Rat) = sumTo (fun c => if s.cf r c = (i : Int) then qR (((gL s (r + 1)).1 s.nt).getD c (0, 1)) else 0) (flr s) + wtR s r i := by
  obtain ⟨f1, f2, f3, f4, f5⟩ := tier_facts h hr
  obtain ⟨e1, e2⟩ := gL_parts h hr
  rw [e2] at hok
  have := tier_vals (on := (gL s (r + 1)).1 s.nt) (ok := (gL s (r + 1)).2) (gL_onok hf (by omega)) (fun i hi => by have := f3 i hi; omega) (fun i hi => rest_pos hf r i hr hi) (s.wn r) (Nat.le_refl _) hok i c hi (by omega) hp
  rw [e1, ← f1]
  exact this
theorem freeTo_false {t b n : Nat} (h : freeTo s t b n = true) {c : Nat} (hc : c < n) (hb : s.cf t c = (b : Int)) : lieB s t c = false := by
  induction n with
  | zero => omega
  | succ n ih =>
    have h' : (freeTo s t b n && !(decide (s.cf t n = (b : Int)) && lieB s t n)) = true := h
    rw [Bool.and_eq_true] at h'
    by_cases e : c = n
    · subst e
      have h2 := h'.2
      rw [decide_eq_true hb, Bool.true_and] at h2
      simpa using h2
    · exact ih h'.1 (by omega)
/-- on a free brick nothing presses -/
theorem free_zero (h : stackB s = true) (hf : (hangF s).1 < 0) (ho : LoadsB s = true) {t i : Nat} (ht : t < s.nt) (hi : i < s.wn t) (hfr : freeB s (t, i) = true) : ((LoadsL s t).getD i (0, 1)).1 = 0 := by
  obtain ⟨hT, hokr⟩ := tower h hf s.nt 0 (by omega) ho
  have h1 := hT.loads t i (by omega) ht hi
  have f1 := (tier_facts h ht).1
  rw [sumTo_zero (n := flr s) (fun c hc => by
    by_cases e : s.cf t c = (i : Int)
    · rw [if_pos e]
      have hl := freeTo_false (show freeTo s t i (s.cn t) = true from hfr) (c := c) (by omega) e
      unfold lieB at hl
      by_cases e2 : t + 1 < s.nt
      · rw [decide_eq_true e2, Bool.true_and, decide_eq_false_iff_not] at hl
        rw [press_zero h hf e2 (hokr (t + 1) (by omega) (by omega)) hc (.inl (by omega))]
        exact qR_zero
      · have e3 : t + 1 = s.nt := by omega
        rw [e3, top_none hc]
        exact qR_zero
    · rw [if_neg e])] at h1
  have hx := getD_ok (LoadsL_ok hf (show t ≤ s.nt by omega)) i
  replace h1 : qR ((LoadsL s t).getD i (0, 1)) = 0 := h1
  generalize (LoadsL s t).getD i (0, 1) = x at h1 hx ⊢
  have hp := natR_pos hx.2.1
  have h6 : (x.1 : Rat) = qR x * x.2 := by unfold qR; grind
  rw [h1] at h6
  have h7 : (x.1 : Rat) = ((0 : Nat) : Rat) := by rw [h6]; grind
  exact_mod_cast h7
end
/-- the weight of the first k tiers -/
def natRow (s : Stk) (t : Nat) : Nat → Nat
  | 0 => 0
  | i + 1 => natRow s t i + (s.wf t i).toNat
def natW (s : Stk) : Nat → Nat
  | 0 => 0
  | k + 1 => natW s k + natRow s k (s.wn k)
theorem natRow_R (s : Stk) (t k : Nat) : ((natRow s t k : Nat) : Rat) = sumTo (wtR s t) k := by
  induction k with
  | zero => rfl
  | succ k ih =>
    show ((natRow s t k + (s.wf t k).toNat : Nat) : Rat) = sumTo (wtR s t) k + wtR s t k
    rw [← ih]; unfold wtR; push_cast; rfl
theorem natW_R (s : Stk) : ∀ d r, ((natW s r : Nat) : Rat) + wUp s d r = ((natW s (r + d) : Nat) : Rat)
  | 0, r => by show _ + (0 : Rat) = _; rw [Nat.add_zero]; grind
  | d + 1, r => by
    have ih := natW_R s d (r + 1)
    rw [show r + (d + 1) = r + 1 + d by omega, ← ih]
    show _ + (wSum s r + _) = ((natW s r + natRow s r (s.wn r) : Nat) : Rat) + _
    have e : ((natW s r + natRow s r (s.wn r) : Nat) : Rat) = (natW s r : Rat) + wSum s r := by
      unfold wSum; rw [← natRow_R]; push_cast; rfl
    rw [e]; grind
theorem natRow_bd {s : Stk} (h : stackB s = true) {t : Nat} (ht : t < s.nt) : ∀ k, k ≤ s.wn t → natRow s t k ≤ k * 1000
  | 0, _ => by simp [natRow]
  | k + 1, hk => by
    have ih := natRow_bd h ht k (by omega)
    have f3 := (tier_facts h ht).2.2.1 k (by omega)
    show natRow s t k + (s.wf t k).toNat ≤ _
    omega
theorem natW_bd {s : Stk} (h : stackB s = true) : ∀ k, k ≤ s.nt → natW s k ≤ k * 144000
  | 0, _ => by simp [natW]
  | k + 1, hk => by
    have ih := natW_bd h k (by omega)
    have f := tier_facts h (show k < s.nt by omega)
    have := natRow_bd h (show k < s.nt by omega) (s.wn k) (Nat.le_refl _)
    show natW s k + natRow s k (s.wn k) ≤ _
    omega
/-- all that presses on the floor is the weight of all bricks -/
theorem floor_sum {s : Stk} (h : stackB s = true) (hf : (hangF s).1 < 0) (ho : LoadsB s = true) : sumS (flr s) (LoadsL s s.nt) = ((natW s s.nt : Nat) : Rat) := by
  obtain ⟨hT, -⟩ := tower h hf s.nt 0 (by omega) ho
  have h1 := hT.sum
  have h2 := natW_R s s.nt 0
  rw [Nat.zero_add] at h2
  rw [← h2, ← h1]
  show _ = ((0 : Nat) : Rat) + _
  show sumS (flr s) ((gL s 0).1 s.nt) = _
  grind
theorem whole_of {x : Nat × Nat} {n : Nat} (hx : 0 < x.2) (hc : LdC x) (h : qR x = (n : Rat)) : x = (n, 1) := by
  obtain ⟨a, b⟩ := x
  dsimp only at hx
  unfold LdC at hc
  dsimp only at hc
  have hp := natR_pos hx
  have h6 : (a : Rat) = qR (a, b) * b := by unfold qR; grind
  rw [h] at h6
  have h7 : (a : Rat) = ((n * b : Nat) : Rat) := by rw [h6]; push_cast; rfl
  have h8 : a = n * b := by exact_mod_cast h7
  rw [h8, Nat.gcd_mul_left_left] at hc
  subst hc
  rw [h8, Nat.mul_one]
theorem le_cross {x y : Nat × Nat} (hx : 0 < x.2) (hy : 0 < y.2) (h : qR x ≤ qR y) : x.1 * y.2 ≤ y.1 * x.2 := by
  have p1 := natR_pos hx
  have p2 := natR_pos hy
  have q1 : (0 : Rat) ≤ x.2 := Rat.natCast_nonneg
  have q2 : (0 : Rat) ≤ y.2 := Rat.natCast_nonneg
  have h6 : (x.1 : Rat) = qR x * x.2 := by unfold qR; grind
  have h7 : (y.1 : Rat) = qR y * y.2 := by unfold qR; grind
  have h8 : qR x * ((x.2 : Rat) * y.2) ≤ qR y * ((x.2 : Rat) * y.2) := Rat.mul_le_mul_of_nonneg_right h (Rat.mul_nonneg q1 q2)
  have h9 : ((x.1 * y.2 : Nat) : Rat) ≤ ((y.1 * x.2 : Nat) : Rat) := by
    have e1 : ((x.1 * y.2 : Nat) : Rat) = qR x * ((x.2 : Rat) * y.2) := by push_cast; rw [h6]; grind
    have e2 : ((y.1 * x.2 : Nat) : Rat) = qR y * ((x.2 : Rat) * y.2) := by push_cast; rw [h7]; grind
    rw [e1, e2]; exact h8
  exact Rat.natCast_le_natCast.1 h9
end Go.Proofs.Ytlhekifmkkgjlaa
/- KilnFloors, plain: without the highest tier no load is greater; the free bricks in order, those of the highest tier first. -/
namespace Go.Proofs.Ytlhekifmkkgjlaa
open Go Go.RowKit Go.Shelf
set_option maxRecDepth 100000
/-- without its highest tier -/
def Stk.low (s : Stk) : Stk := { s with nt := s.nt - 1 }
section
variable {s : Stk}
theorem low_stack (h : stackB s = true) : stackB s.low = true := by
  rw [stackB_iff] at h ⊢
  exact ⟨h.1, by show s.nt - 1 ≤ 10; omega, fun k hk => h.2.2 k (by have : k < s.nt - 1 := hk; omega)⟩
theorem low_flr : flr s.low = flr s := rfl
theorem low_cov {t c : Nat} (ht : t < s.nt - 1) : covB s.low ((t : Int) - 1) c = covB s ((t : Int) - 1) c := by
  unfold covB
  show (decide ((t : Int) - 1 < 0) || decide ((t : Int) - 1 < ((s.nt - 1 : Nat) : Int)) && _) = _
  rw [decide_eq_true (show (t : Int) - 1 < ((s.nt - 1 : Nat) : Int) by omega), decide_eq_true (show (t : Int) - 1 < (s.nt : Int) by omega)]
  rfl
theorem low_rest {t : Nat} (ht : t < s.nt - 1) (b : Int) : restL s.low t b = restL s t b := by
  unfold restL
  refine List.filter_congr fun c _ => low_cov ht
theorem low_restP {t c : Nat} (ht : t < s.nt - 1) (b : Int) : restP s.low t b c = restP s t b c := by
  unfold restP
  rw [low_cov ht]; rfl
theorem low_hang (hf : (hangF s).1 < 0) : (hangF s.low).1 < 0 := by
  have h := hangF_none hf
  unfold hangF
  rw [firstOf_none (fun x hx => by
    obtain ⟨h1, h2⟩ := (mem_bricksTo _ _ _ _).1 hx
    have h1' : x.1 < s.nt - 1 := h1
    have h3 := h x.1 x.2 (by omega) h2
    unfold hangP at h3 ⊢
    rw [low_rest h1']; exact h3)]
  show (-1 : Int) < 0
  omega
theorem mul_mono {a b l : Rat} (hl : 0 < l) (h : a * l ≤ b * l) : a ≤ b := by
  have h1 := Rat.inv_pos.2 hl
  have h2 : a * l * l⁻¹ ≤ b * l * l⁻¹ := Rat.mul_le_mul_of_nonneg_right h (by grind)
  have e : l * l⁻¹ = 1 := Rat.mul_inv_cancel _ (by grind)
  rw [Rat.mul_assoc, Rat.mul_assoc, e, Rat.mul_one, Rat.mul_one] at h2
  exact h2
/-- without the highest tier nothing presses more -/
theorem low_press (h : stackB s = true) (hf : (hangF s).1 < 0) (ho : LoadsB s = true) (ho' : LoadsB s.low = true) : ∀ d r, r + d = s.nt - 1 → ∀ c, c < flr s → qR (((gL s.low r).1 s.low.nt).getD c (0, 1)) ≤ qR (((gL s r).1 s.nt).getD c (0, 1)) := by
  obtain ⟨-, hokr⟩ := tower h hf s.nt 0 (by omega) ho
  have hl := low_stack h
  have hlf := low_hang hf
  obtain ⟨-, hokl⟩ := tower hl hlf s.low.nt 0 (by omega) ho'
  intro d
  induction d with
  | zero =>
    intro r hr c hc
    have hr' : r = s.low.nt := hr
    subst hr'
    rw [top_none (s := s.low) hc, qR_zero]
    exact qR_nonneg (getD_ok (gL_onok hf (by show s.nt - 1 ≤ s.nt; omega)) c)
  | succ d ih =>
    intro r hr c hc
    have hrn : r < s.nt - 1 := by omega
    have hrs : r < s.nt := by omega
    have hrl : r < s.low.nt := hrn
    have iho := ih (r + 1) (by omega)
    have hnn := qR_nonneg (getD_ok (gL_onok hf (show r ≤ s.nt by omega)) c)
    obtain ⟨f1, f2, f3, f4, f5⟩ := tier_facts h hrs
    by_cases hn : s.cf r c < 0 ∨ covB s ((r : Int) - 1) c = false
    · rw [press_zero hl hlf hrl (hokl r (by omega) (by omega)) hc (by
        rcases hn with hn | hn
        · exact .inl hn
        · exact .inr (by rw [low_cov hrn]; exact hn)), qR_zero]
      exact hnn
    · have hn1 : ¬ s.cf r c < 0 := fun e => hn (.inl e)
      have hn2 : covB s ((r : Int) - 1) c = true := by
        rcases e : covB s ((r : Int) - 1) c with _ | _
        · exact absurd (.inr e) hn
        · rfl
      obtain ⟨i, hi⟩ := Int.eq_ofNat_of_zero_le (show 0 ≤ s.cf r c by omega)
      have hiw : i < s.wn r := by have := (f4 c (by omega)).2; omega
      have hp : restP s r i c = true := by unfold restP; rw [hn2, hi]; simp
      have v1 := press_val h hf hrs (hokr r (by omega) (by omega)) hiw hc hp
      have v2 := press_val (s := s.low) hl hlf hrl (hokl r (by omega) (by omega)) hiw hc (by rw [low_restP hrn]; exact hp)
      rw [low_rest hrn] at v2
      have hlen := rest_pos hf r i hrs hiw
      have hlr : (0 : Rat) < ((restL s r i).length : Rat) := by
        have h1 := natR_pos hlen
        have h2 : (0 : Rat) ≤ ((restL s r i).length : Rat) := Rat.natCast_nonneg
        grind
      refine mul_mono hlr ?_
      rw [v1, v2]
      have hsum : sumTo (fun c => if s.low.cf r c = (i : Int) then qR (((gL s.low (r + 1)).1 s.low.nt).getD c (0, 1)) else 0) (flr s) ≤ sumTo (fun c => if s.cf r c = (i : Int) then qR (((gL s (r + 1)).1 s.nt).getD c (0, 1)) else 0) (flr s) := by
        refine sumTo_le fun c hc => ?_
        by_cases e : s.cf r c = (i : Int)
        · rw [if_pos e, if_pos (show s.low.cf r c = (i : Int) from e)]; exact iho c hc
        · rw [if_neg e, if_neg (show ¬ s.low.cf r c = (i : Int) from e)]; exact Rat.le_refl
      have e3 : wtR s.low r i = wtR s r i := rfl
      have e4 : flr s.low = flr s := rfl
      rw [e3, e4]
      generalize sumTo (fun c => if s.low.cf r c = (i : Int) then qR (((gL s.low (r + 1)).1 s.low.nt).getD c (0, 1)) else 0) (flr s) = a at hsum ⊢
      generalize sumTo (fun c => if s.cf r c = (i : Int) then qR (((gL s (r + 1)).1 s.nt).getD c (0, 1)) else 0) (flr s) = b at hsum ⊢
      grind
theorem low_loads (h : stackB s = true) (hf : (hangF s).1 < 0) (ho : LoadsB s = true) (ho' : LoadsB s.low = true) {t i : Nat} (ht : t < s.nt - 1) (hi : i < s.wn t) :
    ((LoadsL s.low t).getD i (0, 1)).1 * ((LoadsL s t).getD i (0, 1)).2 ≤ ((LoadsL s t).getD i (0, 1)).1 * ((LoadsL s.low t).getD i (0, 1)).2 := by
  obtain ⟨hT, -⟩ := tower h hf s.nt 0 (by omega) ho
  obtain ⟨hT', -⟩ := tower (low_stack h) (low_hang hf) s.low.nt 0 (by omega) ho'
  have h1 := hT.loads t i (by omega) (by omega) hi
  have h2 := hT'.loads t i (by omega) ht hi
  have hx := getD_ok (LoadsL_ok hf (show t ≤ s.nt by omega)) i
  have hy := getD_ok (LoadsL_ok (low_hang hf) (show t ≤ s.low.nt by have : s.low.nt = s.nt - 1 := rfl; omega)) i
  refine le_cross hy.2.1 hx.2.1 ?_
  refine (show qR ((LoadsL s.low t).getD i (0, 1)) = _ from h2) ▸ (show qR ((LoadsL s t).getD i (0, 1)) = _ from h1) ▸ ?_
  refine sumTo_le fun c hc => ?_
  have hc' : c < flr s := hc
  by_cases e : s.cf t c = (i : Int)
  · rw [if_pos e, if_pos (show s.low.cf t c = (i : Int) from e)]
    exact low_press h hf ho ho' (s.nt - 1 - (t + 1)) (t + 1) (by omega) c hc'
  · rw [if_neg e, if_neg (show ¬ s.low.cf t c = (i : Int) from e)]; exact Rat.le_refl
/-- all bricks of the highest tier are free, and stand first -/
theorem free_top (h : 0 < s.nt) : ∀ r, 1 ≤ r → r ≤ s.nt → ∃ rest, freeDn s r = rowTo (s.nt - 1) (s.wn (s.nt - 1)) ++ rest ∧ ∀ p ∈ rest, p.1 < s.nt - 1
  | 0, h1, _ => absurd h1 (by omega)
  | 1, _, _ => by
    refine ⟨[], ?_, by simp⟩
    show freeDn s 0 ++ freeRow s (s.nt - 1 - 0) (s.wn (s.nt - 1 - 0)) = _
    rw [Nat.sub_zero, List.append_nil]
    show [] ++ _ = _
    rw [List.nil_append]
    unfold freeRow
    rw [List.filter_eq_self]
    intro p hp
    unfold rowTo at hp
    obtain ⟨i, -, rfl⟩ := List.mem_map.1 hp
    show freeTo s (s.nt - 1) i (s.cn (s.nt - 1)) = true
    generalize s.cn (s.nt - 1) = n
    induction n with
    | zero => rfl
    | succ n ih =>
      show (freeTo s (s.nt - 1) i n && !(_ && lieB s (s.nt - 1) n)) = true
      have : lieB s (s.nt - 1) n = false := by unfold lieB; rw [decide_eq_false (by omega), Bool.false_and]
      rw [ih, this]; simp
  | r + 2, _, h2 => by
    obtain ⟨rest, e1, e2⟩ := free_top h (r + 1) (by omega) (by omega)
    refine ⟨rest ++ freeRow s (s.nt - 1 - (r + 1)) (s.wn (s.nt - 1 - (r + 1))), ?_, fun p hp => ?_⟩
    · show freeDn s (r + 1) ++ _ = _
      rw [e1, List.append_assoc]
    · rcases List.mem_append.1 hp with hp | hp
      · exact e2 p hp
      · have := (freeRow_mem hp).1; omega
theorem free_tops (h : 0 < s.nt) : s.wn (s.nt - 1) ≤ (freeDn s s.nt).length ∧ ∀ i, i < (freeDn s s.nt).length → (((freeDn s s.nt).getD i (0, 1)).1 = s.nt - 1 ↔ i < s.wn (s.nt - 1)) := by
  obtain ⟨rest, e1, e2⟩ := free_top h s.nt (by omega) (Nat.le_refl _)
  have hl : (rowTo (s.nt - 1) (s.wn (s.nt - 1))).length = s.wn (s.nt - 1) := by simp [rowTo]
  rw [e1]
  refine ⟨by rw [List.length_append]; omega, fun i hi => ?_⟩
  rw [List.getD_eq_getElem?_getD]
  by_cases hlt : i < s.wn (s.nt - 1)
  · rw [List.getElem?_append_left (by omega)]
    have : (rowTo (s.nt - 1) (s.wn (s.nt - 1)))[i]? = some (s.nt - 1, i) := by simp [rowTo, hlt]
    rw [this]
    exact ⟨fun _ => hlt, fun _ => rfl⟩
  · rw [List.getElem?_append_right (by omega), hl]
    rw [List.length_append, hl] at hi
    have hi2 : i - s.wn (s.nt - 1) < rest.length := by omega
    rw [List.getElem?_eq_getElem hi2]
    have := e2 _ (List.getElem_mem hi2)
    show rest[i - s.wn (s.nt - 1)].1 = _ ↔ _
    constructor
    · intro e; omega
    · intro e; omega
/-- of a list of free bricks, what the law asks -/
theorem free_at {i : Nat} (hi : i < (freeDn s s.nt).length) : ((freeDn s s.nt).getD i (0, 1)).1 < s.nt ∧ ((freeDn s s.nt).getD i (0, 1)).2 < s.wn ((freeDn s s.nt).getD i (0, 1)).1 ∧ freeB s ((freeDn s s.nt).getD i (0, 1)) = true := by
  have hm : (freeDn s s.nt).getD i (0, 1) ∈ freeDn s s.nt := by
    rw [List.getD_eq_getElem?_getD, List.getElem?_eq_getElem hi]
    exact List.getElem_mem hi
  generalize (freeDn s s.nt).getD i (0, 1) = p at hm ⊢
  have h := freeDn_asc s (Nat.le_refl s.nt)
  rw [Nat.sub_self] at h
  have h1 : p ∈ freeAsc s s.nt := h.mem_iff.1 (List.mem_append.2 (.inr hm))
  obtain ⟨h2, h3⟩ := List.mem_filter.1 h1
  obtain ⟨h4, h5⟩ := (mem_bricksTo _ _ p.1 p.2).1 h2
  exact ⟨h4, h5, h3⟩
theorem free_next {i : Nat} (hi : i + 1 < (freeDn s s.nt).length) : bkLt ((freeDn s s.nt).getD i (0, 1)) ((freeDn s s.nt).getD (i + 1) (0, 1)) := by
  have h := List.pairwise_iff_getElem.1 (freeDn_sorted s (Nat.le_refl s.nt)) i (i + 1) (by omega) hi (by omega)
  rw [List.getD_eq_getElem?_getD, List.getD_eq_getElem?_getD, List.getElem?_eq_getElem (by omega), List.getElem?_eq_getElem hi]
  exact h
end
end Go.Proofs.Ytlhekifmkkgjlaa
/- KilnFloors: divisor and lowest of the law, walked. -/
namespace Go.Proofs.Ytlhekifmkkgjlaa
open Go Go.RowKit Go.Shelf
set_option maxHeartbeats 2000000
set_option maxRecDepth 100000
theorem divisor_any (n d G : Nat) (w : World) (hn : n ≤ 4000000000000000000) (hd : d ≤ 4000000000000000000) (hG : Nat.gcd n d = G) :
    Calls Try.prog 52 #[.int .i64 n, .int .i64 d] w fun e w' => e = .returned (.int .i64 G) ∧ Below w.heap.size w w' := by
  have HG := hide hG
  clear hG
  go_enter Try.func52, Try.ntmps52
  go_wp2_with fail
  go_loopw [0, 1] (fun i j wr => ∃ a b : Nat, i = .int .i64 a ∧ j = .int .i64 b ∧ a ≤ 4000000000000000000 ∧ b ≤ 4000000000000000000 ∧ Hid (Nat.gcd a b = G) ∧ Hid (Below w.heap.size w wr)) (fun _ j _ => (intOf j).toNat)
  case atStart => exact ⟨n, d, rfl, rfl, hn, hd, HG, hide (Below.refl _ _)⟩
  case round =>
    obtain ⟨a, b, rfl, rfl, ha, hb, H, hB⟩ := hrel
    rcases Nat.eq_zero_or_pos b with rfl | hb0
    · have ha' : a = G := by have := H.out; simpa using this
      subst ha'
      go_wp2_with fail
      go_ret
      exact ⟨rfl, hB.out⟩
    · have hb1 : ((b : Int) != 0) = true := by simp; omega
      have hb2 : (0 : Int) < (b : Int) := by omega
      have hm : a % b < b := Nat.mod_lt _ hb0
      have e1 : ((a : Int)).tmod (b : Int) = ((a % b : Nat) : Int) := by rw [Int.tmod_eq_emod_of_nonneg (by omega)]; rfl
      have e3 : IntKind.i64.wrap ((a % b : Nat) : Int) = ((a % b : Nat) : Int) := IntWalk.i64_in _ (by omega)
      go_wp2_with fail
      go_region
      clear e1 e3
      go_wp2_with fail
      go_roundw
      case rel => exact ⟨b, a % b, rfl, rfl, hb, by omega, hide (by rw [gcd_step]; exact H.out), hide hB.out.drew⟩
      case measure => simp [intOf]; omega
theorem lowestL_any (x : Nat × Nat) (w : World) (h : LdOk x) (hc : LdC x) : Calls Try.prog 51 #[.agg #[.int .i64 x.1, .int .i64 x.2]] w fun e w' => e = .returned (.bool true) ∧ Below w.heap.size w w' := by
  obtain ⟨h1, h2, h3⟩ := h
  have HB := hide ((Below.refl w.heap.size w).alloc (Nat.le_refl _) (.cells #[.int .i64 x.1, .int .i64 x.2] 76))
  have K0 := hide (Blk.new w 76 #[.int .i64 x.1, .int .i64 x.2])
  have HD := hide (divisor_any x.1 x.2 1 (w.alloc (.cells #[.int .i64 x.1, .int .i64 x.2] 76)) (by omega) (by omega) hc)
  clear hc
  generalize x.1 = a at *
  generalize x.2 = b at *
  have i1 : (0 : Int) ≤ (a : Int) := by omega
  have i2 : (a : Int) ≤ 1000000000 := by omega
  have i3 : (1 : Int) ≤ (b : Int) := by omega
  have i4 : (b : Int) ≤ 1000000000 := by omega
  go_enter Try.func51, Try.ntmps51
  go_wp2_with fail
  refine HD.out.mono ?_
  rintro e w2 ⟨rfl, hb2⟩
  go_wp2_with fail
  go_ret
  exact ⟨rfl, HB.out.trans (hb2.mono HB.out.size)⟩
/-- bounds, behind a name: a great numeral in a walk's context ends in a recursion error -/
def Big (n : Nat) : Prop := n ≤ 4000000000000000000
theorem divisor_big (n d G : Nat) (w : World) (hn : Big n) (hd : Big d) (hG : Nat.gcd n d = G) :
    Calls Try.prog 52 #[.int .i64 n, .int .i64 d] w fun e w' => e = .returned (.int .i64 G) ∧ Below w.heap.size w w' := divisor_any n d G w hn hd hG
/-- what the sum of two loads is -/
structure AddF (xn xd yn yd n d : Nat) : Prop where
  w1 : IntKind.i64.wrap ((xn : Int) * (yd : Int)) = (xn : Int) * (yd : Int)
  w2 : IntKind.i64.wrap ((yn : Int) * (xd : Int)) = (yn : Int) * (xd : Int)
  w3 : IntKind.i64.wrap ((xd : Int) * (yd : Int)) = (xd : Int) * (yd : Int)
  en : (xn : Int) * (yd : Int) + (yn : Int) * (xd : Int) = (n : Int)
  ed : (xd : Int) * (yd : Int) = (d : Int)
  w4 : IntKind.i64.wrap (n : Int) = n
  w5 : IntKind.i64.wrap (d : Int) = d
  hn : addN (xn, xd) (yn, yd) = n
  hd : addD (xn, xd) (yn, yd) = d
  bn : Big n
  bd : Big d
  d0 : 0 < d
theorem add_facts {xn xd yn yd : Nat} (hx : LdOk (xn, xd)) (hy : LdOk (yn, yd)) : ∃ n d, AddF xn xd yn yd n d := by
  obtain ⟨x1, x2, x3⟩ := hx
  obtain ⟨y1, y2, y3⟩ := hy
  dsimp only at x1 x2 x3 y1 y2 y3
  have m1 : xn * yd ≤ 1000000000 * 1000000000 := mulN_bd x1 y3
  have m2 : yn * xd ≤ 1000000000 * 1000000000 := mulN_bd y1 x3
  have m3 : xd * yd ≤ 1000000000 * 1000000000 := mulN_bd x3 y3
  have m4 : 0 < xd * yd := Nat.mul_pos x2 y2
  have e1 : (xn : Int) * (yd : Int) = ((xn * yd : Nat) : Int) := by simp
  have e2 : (yn : Int) * (xd : Int) = ((yn * xd : Nat) : Int) := by simp
  have e3 : (xd : Int) * (yd : Int) = ((xd * yd : Nat) : Int) := by simp
  refine ⟨xn * yd + yn * xd, xd * yd, ⟨?_, ?_, ?_, ?_, e3, ?_, ?_, rfl, rfl, ?_, ?_, m4⟩⟩
  · rw [e1]; exact IntWalk.i64_in _ (by omega)
  · rw [e2]; exact IntWalk.i64_in _ (by omega)
  · rw [e3]; exact IntWalk.i64_in _ (by omega)
  · rw [e1, e2]; push_cast; rfl
  · exact IntWalk.i64_in _ (by omega)
  · exact IntWalk.i64_in _ (by omega)
  · unfold Big; omega
  · unfold Big; omega
/-- what the division by the divisor is -/
structure DivF (n d G NN DD : Nat) : Prop where
  g : Nat.gcd n d = G
  g0 : 0 < G
  x : ((n : Int) / (G : Int) = (NN : Int) ∧ (d : Int) / (G : Int) = (DD : Int)) ∧ wrap64 (NN : Int) = NN ∧ wrap64 (DD : Int) = DD
  lp : lowP n d = (NN, DD)
  t : (n : Int).tdiv (G : Int) = (NN : Int) ∧ (d : Int).tdiv (G : Int) = (DD : Int)
  v : IntKind.i64.wrap (NN : Int) = NN ∧ IntKind.i64.wrap (DD : Int) = DD
theorem div_facts {n d : Nat} (hn : Big n) (hd : Big d) (h0 : 0 < d) : ∃ G NN DD, DivF n d G NN DD := by
  unfold Big at hn hd
  have q1 : n / Nat.gcd n d ≤ n := Nat.div_le_self _ _
  have q2 : d / Nat.gcd n d ≤ d := Nat.div_le_self _ _
  obtain ⟨N, hN⟩ : ∃ N, n / Nat.gcd n d = N := ⟨_, rfl⟩
  obtain ⟨D, hD⟩ : ∃ D, d / Nat.gcd n d = D := ⟨_, rfl⟩
  rw [hN] at q1
  rw [hD] at q2
  refine ⟨Nat.gcd n d, N, D, ⟨rfl, Nat.gcd_pos_of_pos_right _ h0, ⟨⟨?_, ?_⟩, IntWalk.wrap64_in _ (by omega), IntWalk.wrap64_in _ (by omega)⟩, ?_, ⟨?_, ?_⟩, IntWalk.i64_in _ (by omega), IntWalk.i64_in _ (by omega)⟩⟩
  · rw [← hN]; rfl
  · rw [← hD]; rfl
  · unfold lowP; rw [hN, hD]
  · rw [Int.tdiv_eq_ediv_of_nonneg (by omega), ← hN]; rfl
  · rw [Int.tdiv_eq_ediv_of_nonneg (by omega), ← hD]; rfl
end Go.Proofs.Ytlhekifmkkgjlaa
/- Chapter 8's known calls: known. -/
namespace Go.Proofs.Ytlhekifmkkgjlaa
open Go Go.RowKit Go.Shelf
set_option maxHeartbeats 2000000
def KnownLoads (w : World) (e : Ending) (w' : World) : Prop := ∃ (q g0 c0 g2 c2 : Nat), e = .returned (.tuple #[.slice (some ⟨q, 0, none⟩) 2 2, .slice (some ⟨g2, 0, none⟩) 2 c2, .int .i64 0]) ∧ Below w.heap.size w w' ∧
  (q < w'.heap.size ∧ g0 < w'.heap.size ∧ g2 < w'.heap.size) ∧ w'.cell? ⟨q, 0, none⟩ = some (.slice (some ⟨g0, 0, none⟩) 2 c0) ∧ w'.cell? ⟨g0, 2, none⟩ = some (.int .i64 2) ∧ w'.cell? ⟨g0, 3, none⟩ = some (.int .i64 1) ∧
  w'.cell? ⟨g2, 2, none⟩ = some (.int .i64 7) ∧ w'.cell? ⟨g2, 3, none⟩ = some (.int .i64 1)
theorem known_loads (z0 : Nat) (w : World) (hs : StkR w w.heap.size (twoS z0)) :
    Calls Try.prog 32 #[.agg #[.int .i64 2, .int .i64 1, .slice (some ⟨z0 + 5, 0, none⟩) 2 2]] w (KnownLoads w) := by
  refine (Loads_ok (twoS z0) w hs (two_stack z0) (by rw [two_hangs]; decide) (two_loadsB z0)).mono ?_
  rintro e w' ⟨z, v, hz, rfl, hB, hrow, hown⟩
  have o0 := hown 0 (Nat.zero_le _)
  have o2 := hown 2 (Nat.le_refl _)
  rw [two_loads0] at o0
  rw [two_loads2] at o2
  obtain ⟨g0, c0, hv0, -, l0, a0, a1, -, -⟩ := o0.at_ (c := 1) (by simp)
  obtain ⟨g2, c2, hv2, -, l2, b0, b1, -, -⟩ := o2.at_ (c := 1) (by simp)
  have hr := hrow.cell 0
  rw [rowV_get _ _ (show 0 < (twoS z0).nt from Nat.zero_lt_succ 1), hv0] at hr
  refine ⟨z + 3, g0, c0, g2, c2, ?_, hB, ⟨hrow.lt, l0, l2⟩, hr, a0, a1, b0, b1⟩
  rw [show v (twoS z0).nt = v 2 from rfl, hv2]
  rfl
theorem grown_cell {w w' : World} {S b : Nat} (hg : w.grownBy w' (some S)) (hlt : b < w.heap.size) (hne : b ≠ S) (o : Nat) : w'.cell? ⟨b, o, none⟩ = w.cell? ⟨b, o, none⟩ :=
  World.cell?_of_block (hg.block b hlt (fun e => hne (by injection e)))
theorem grown_below {w w1 w2 : World} {B S : Nat} (h : Below B w w1) (hg : w1.grownBy w2 (some S)) (hB : B ≤ w1.heap.size) (hS : B ≤ S) : Below B w w2 :=
  ⟨hg.os.trans h.os, hg.tape.trans h.tape, hg.output.trans h.output, Nat.le_trans h.size hg.size, fun k hk => (hg.block k (by omega) (fun e => by injection e; omega)).trans (h.block k hk)⟩
theorem known_any (w : World) : Calls Try.prog 13 #[] w fun e w' => e = .returned (.bool true) ∧ Below w.heap.size w w' := by
  go_enter Try.func13, Try.ntmps13
  go_wp2_with fail
  refine (known_moulds _).mono ?_
  rintro e w1 ⟨rfl, hb1⟩
  have B2 := hide ((hb1.alloc hb1.size (.cells #[.int .i64 977, .int .i64 999] 25)).alloc (by have := hb1.size; simp only [World.size_alloc]; omega) (.cells #[.int .i64 500, .int .i64 1000, .int .i64 500, .int .i64 1000] 121))
  have K1 := hide ((Blk.new w1 25 #[.int .i64 977, .int .i64 999]).alloc (.cells #[.int .i64 500, .int .i64 1000, .int .i64 500, .int .i64 1000] 121))
  have KY := hide (Blk.new (w1.alloc (.cells #[.int .i64 977, .int .i64 999] 25)) 121 #[.int .i64 500, .int .i64 1000, .int .i64 500, .int .i64 1000])
  have z1 := hb1.size
  clear hb1
  go_wp2_with fail
  refine (known_need _ _ _ ?_).mono ?_
  · refine fun _ => ⟨_, 0, rfl, ?_, fun k i hk hi => ?_⟩
    · simp
    · have hc := KY.out.cell (0 + k * 2 + i)
      simp only [World.size_alloc] at hc
      rw [hc]
      rcases (by omega : k = 0 ∨ k = 1) with rfl | rfl <;> rcases (by omega : i = 0 ∨ i = 1) with rfl | rfl <;> rfl
  rintro e w2 ⟨rfl, hb2⟩
  have B3 := hide (B2.out.trans (hb2.mono B2.out.size))
  have K2 := hide (K1.out.ext hb2)
  clear hb2 B2 K1 KY
  go_wp2_with fail
  refine (two_any _).mono ?_
  rintro e w3 ⟨rfl, hs3, hb3⟩
  have B4 := hide (B3.out.trans (hb3.mono B3.out.size))
  have K3 := hide (K2.out.ext hb3)
  have HL := hide (known_loads w2.heap.size w3 hs3)
  clear hb3 B3 K2 hs3
  go_wp2_with fail
  refine HL.out.mono ?_
  rintro e w4 ⟨q, g0, c0, g2, c2, rfl, hb4, hlt, hcs⟩
  have B5 := hide (B4.out.trans (hb4.mono B4.out.size))
  have K4 := hide (K3.out.ext hb4)
  have HLT := hide hlt
  have HCS := hide hcs
  have HN := hide (new_ok (some ⟨w4.heap.size, 0, none⟩) 1 1 (fun _ => 1) 9 (w4.alloc (.cells #[.int .i64 1] 3)) (by simpa using IR.one w4 1 3) (by decide))
  clear hb4 B4 K3 hlt hcs HL
  go_wp2_with fail
  refine HN.out.mono ?_
  rintro e w5 ⟨b, S, rfl, ⟨Ab, cb, hbk, -, hst, hS0, hb0⟩, hb5⟩
  simp only [World.size_alloc] at hb5 hS0 hb0
  have hb5' : Below w4.heap.size w4 w5 := ((Below.refl w4.heap.size w4).alloc (Nat.le_refl _) (.cells #[.int .i64 1] 3)).trans (hb5.mono (by omega))
  have B6 := hide (B5.out.trans (hb5'.mono B5.out.size))
  have K5 := hide (K4.out.ext hb5')
  obtain ⟨l1, l2, l3⟩ := HLT.out
  obtain ⟨h1, h2, h3, h4, h5⟩ := HCS.out
  have x1 := (hb5'.cell (p := ⟨q, 0, none⟩) l1).trans h1
  have x2 := (hb5'.cell (p := ⟨g0, 2, none⟩) l2).trans h2
  have x3 := (hb5'.cell (p := ⟨g0, 3, none⟩) l2).trans h3
  have x4 := (hb5'.cell (p := ⟨g2, 2, none⟩) l3).trans h4
  have x5 := (hb5'.cell (p := ⟨g2, 3, none⟩) l3).trans h5
  have hK4 := K4.out.lt
  have HX := hide (And.intro x2 (And.intro x3 (And.intro x4 x5)))
  have HX1 := hide x1
  have HBK := hide hbk
  have HST := hide hst
  have z5 := hb5'.size
  have HLS := hide (And.intro l1 (And.intro l2 (And.intro l3 hS0)))
  have hB5 := B5.out.size
  clear hb5 hb5' hbk hst h1 h2 h3 h4 h5 x2 x3 x4 x5 hb0 B5 K4 HLT HCS HN
  go_wp2_with fail
  refine (known_mould b S _ _ 9 w5 HBK.out HST.out).mono ?_
  rintro e w6 ⟨rfl, hbk6, hst6, hg6⟩
  have HBK6 := hide hbk6
  have HST6 := hide hst6
  have HG6 := hide hg6
  clear hbk6 hst6 hg6 x1
  go_wp2_with fail
  refine (known_dry b S _ _ 9 w6 HBK6.out HST6.out).mono ?_
  rintro e w7 ⟨rfl, hbk7, hst7, hg7⟩
  have HBK7 := hide hbk7
  have HST7 := hide hst7
  have HG7 := hide hg7
  clear hbk7 hst7 hg7
  go_wp2_with fail
  refine (count_ok b S 1 0 _ _ 9 ⟨2, 7, 0, 0, 0, 1, 0⟩ w7 HBK7.out (by omega) (by omega) (HST7.out.2 0 (by omega)) ⟨by decide, by decide, by decide, by decide, by decide, by decide, by decide, by decide, by decide⟩).mono ?_
  rintro e w8 ⟨rfl, hb8⟩
  have z6 := HG6.out.size
  have z7 := HG7.out.size
  have far : ∀ c, c < w4.heap.size → ∀ o, w8.cell? ⟨c, o, none⟩ = w5.cell? ⟨c, o, none⟩ := fun c hc o =>
    (hb8.cell (p := ⟨c, o, none⟩) (by simp only []; omega)).trans ((grown_cell HG7.out (by omega) (by omega) o).trans (grown_cell HG6.out (by omega) (by omega) o))
  have hK := K5.out
  have y1 := (far q l1 0).trans HX1.out
  have y2 := (far g0 l2 2).trans HX.out.1
  have y3 := (far g0 l2 3).trans HX.out.2.1
  have y4 := (far g2 l3 2).trans HX.out.2.2.1
  have y5 := (far g2 l3 3).trans HX.out.2.2.2
  obtain ⟨-, k0, k1, -, -⟩ := blk2 hK
  have y6 := (far w1.heap.size hK4 0).trans k0
  have y7 := (far w1.heap.size hK4 1).trans k1
  have B9 := hide ((grown_below (grown_below B6.out HG6.out B6.out.size (by omega)) HG7.out (by omega) (by omega)).trans (hb8.mono (by omega)))
  have z8 := hb8.size
  have u1 : q < w8.heap.size := by omega
  have u2 : g0 < w8.heap.size := by omega
  have u3 : g2 < w8.heap.size := by omega
  have u4 : w1.heap.size < w8.heap.size := by omega
  unfold agg7
  dsimp only
  clear far k0 k1 hb8 hK
  go_wp2_with fail
  go_ret
  exact ⟨rfl, B9.out.alloc (by omega) _⟩
end Go.Proofs.Ytlhekifmkkgjlaa
/- Arguments of chapter 8 opened: structs of numbers, numbers. -/
namespace Go.Proofs.Ytlhekifmkkgjlaa
open Go Go.RowKit Go.ChangeShapes Go.WideShapes Go.ChangeAt
section
variable {H : Type} {enc : TypeId × Value → H} {r : Reach} {b0 : Nat} {W : World} {v : Value} {d : DataW H} {p : List MemPlace}
set_option maxRecDepth 100000
theorem arr2 {cs : Array Value} (h : cs.size = 2) : ∃ a b, cs = #[a, b] := by
  rcases cs with ⟨l⟩
  match l, h with
  | [a, b], _ => exact ⟨a, b, rfl⟩
theorem arr4 {cs : Array Value} (h : cs.size = 4) : ∃ a b c e, cs = #[a, b, c, e] := by
  rcases cs with ⟨l⟩
  match l, h with
  | [a, b, c, e], _ => exact ⟨a, b, c, e, rfl⟩
theorem spread_cells {fuel : Nat} {a b : Value} {x : DataW H × List MemPlace} (h : DataW.trod enc Try.prog W 0 (fun _ => true) true fuel 25 [a, b] = some x) : ∃ s t, a = .int .i64 s ∧ b = .int .i64 t := by
  obtain ⟨y0, y1, n, -, -, h0, h1⟩ := trod_struct2 Try.underlying25 h
  have g0 : DataW.trod enc Try.prog W 0 (fun _ => true) true n 3 [a] = some y0 := h0
  have g1 : DataW.trod enc Try.prog W 0 (fun _ => true) true n 3 [b] = some y1 := h1
  exact ⟨_, _, (int_of_trod Try.underlying3 g0).1, (int_of_trod Try.underlying3 g1).1⟩
theorem open_spread (hval : Value.okWide Try.prog W r b0 25 v) (h : DataW.Trod enc Try.prog W 0 (fun _ => true) true 25 v d p) : ∃ a b, v = .agg #[.int .i64 a, .int .i64 b] := by
  obtain ⟨cs, rfl, hsz⟩ := okWide_struct Try.underlying25 hval
  obtain ⟨a, b, rfl⟩ := arr2 (hsz.trans (by kernel_rfl))
  obtain ⟨fuel, h⟩ := h
  obtain ⟨s, t, rfl, rfl⟩ := spread_cells (W := W) (show DataW.trod enc Try.prog W 0 (fun _ => true) true fuel 25 [a, b] = _ from h)
  exact ⟨s, t, rfl⟩
theorem open_clay (hval : Value.okWide Try.prog W r b0 40 v) (h : DataW.Trod enc Try.prog W 0 (fun _ => true) true 40 v d p) : ∃ a b c e, v = .agg #[.int .i64 a, .int .i64 b, .int .i64 c, .int .i64 e] := by
  obtain ⟨cs, rfl, hsz⟩ := okWide_struct Try.underlying40 hval
  obtain ⟨a, b, c, e, rfl⟩ := arr4 (hsz.trans (by kernel_rfl))
  obtain ⟨fuel, h⟩ := h
  obtain ⟨y0, y1, n, -, -, h0, h1⟩ := trod_struct2 Try.underlying40 h
  have g0 : DataW.trod enc Try.prog W 0 (fun _ => true) true n 25 [a, b] = some y0 := by
    have e2 : Try.prog.cellsOf 25 = 2 := by kernel_rfl
    simpa [Value.cells, e2] using h0
  have g1 : DataW.trod enc Try.prog W 0 (fun _ => true) true n 25 [c, e] = some y1 := by
    have e2 : Try.prog.cellsOf 25 = 2 := by kernel_rfl
    simpa [Value.cells, e2] using h1
  obtain ⟨s, t, rfl, rfl⟩ := spread_cells g0
  obtain ⟨s', t', rfl, rfl⟩ := spread_cells g1
  exact ⟨s, t, s', t', rfl⟩
/-- the capacity of a slice of structs of two ints -/
theorem cap_pairs {W : World} {t e : TypeId} {f0 f1 : Field} {A : Option Addr} {n c : Nat} {d : DataW H} {p : List MemPlace} (ht : Try.prog.underlying t = some (.slice e)) (he : Try.prog.underlying e = some (.struct #[f0, f1]))
    (ce : Try.prog.cellsOf e = 2) (o0 : f0.offset = 0) (o1 : f1.offset = 1) (c0 : Try.prog.cellsOf f0.type = 1) (c1 : Try.prog.cellsOf f1.type = 1)
    (h : DataW.Trod enc Try.prog W 0 (fun _ => true) true t (.slice A n c) d p) : c ≤ maxLen := by
  obtain ⟨fuel, h⟩ := h
  rw [cells_slice] at h
  rcases Deep.open_slice_pairs ht he ce o0 o1 c0 c1 h with ⟨h1, -⟩ | ⟨a, len, cap, m, n, V0, V1, D0, D1, P0, P1, h1, hb, hl, hm, hmm, hx, hc⟩
  · injection h1 with h1
    injection h1 with h1 h2 h3
    subst h3
    simp [maxLen]
  · injection h1 with h1
    injection h1 with h1 h2 h3
    omega
end
end Go.Proofs.Ytlhekifmkkgjlaa
/- Arguments of chapter 8 opened: arrays of numbers of 16 bits. -/
namespace Go.Proofs.Ytlhekifmkkgjlaa
open Go Go.RowKit Go.ChangeShapes Go.WideShapes Go.ChangeAt
section
variable {H : Type} {enc : TypeId × Value → H} {r : Reach} {b0 : Nat} {W : World} {v : Value} {d : DataW H} {p : List MemPlace}
set_option maxRecDepth 100000
/-- an array of numbers of 16 bits -/
theorem u16_of_trod {W : World} {t : TypeId} {v : Value} {x : DataW H × List MemPlace} {fuel : Nat} (ht : Try.prog.underlying t = some (.int .u16)) (h : DataW.trod enc Try.prog W 0 (fun _ => true) true fuel t [v] = some x) :
    ∃ z, v = .int .u16 z ∧ 0 ≤ z ∧ z ≤ 65535 := by
  obtain ⟨z, hz, -, hw⟩ := DataW.trod_int ht h
  injection hz with hz
  exact ⟨z, hz, by simpa [Lit.wf, IntKind.min, IntKind.max, IntKind.signed, IntKind.bits] using hw⟩
theorem array_cells {n : Nat} {t e : TypeId} (ht : Try.prog.underlying t = some (.array n e)) (hval : Value.okWide Try.prog W r b0 t v) : ∃ cs, v = .agg cs ∧ cs.size = Try.prog.cellsOf t := by
  unfold Value.okWide at hval
  cases v <;> simp_all
theorem open_u16x4 (hval : Value.okWide Try.prog W r b0 49 v) (h : DataW.Trod enc Try.prog W 0 (fun _ => true) true 49 v d p) :
    ∃ a b c e, v = .agg #[.int .u16 a, .int .u16 b, .int .u16 c, .int .u16 e] ∧ (0 ≤ a ∧ a ≤ 65535) ∧ (0 ≤ b ∧ b ≤ 65535) ∧ (0 ≤ c ∧ c ≤ 65535) ∧ (0 ≤ e ∧ e ≤ 65535) := by
  obtain ⟨cs, rfl, hsz⟩ := array_cells Try.underlying49 hval
  obtain ⟨c0, c1, c2, c3, rfl⟩ := arr4 (hsz.trans (by kernel_rfl))
  obtain ⟨fuel, h⟩ := h
  obtain ⟨xs, m, -, -, -, hl, hx⟩ := DataW.trod_array Try.underlying49 h
  have ce : Try.prog.cellsOf 48 = 1 := by kernel_rfl
  rw [ce] at hx
  have y0 := hx 0 (by omega)
  have y1 := hx 1 (by omega)
  have y2 := hx 2 (by omega)
  have y3 := hx 3 (by omega)
  rw [List.getElem?_eq_getElem (by omega)] at y0 y1 y2 y3
  obtain ⟨z0, rfl, k0⟩ := u16_of_trod Try.underlying48 (show DataW.trod enc Try.prog W 0 (fun _ => true) true m 48 [c0] = _ from y0)
  obtain ⟨z1, rfl, k1⟩ := u16_of_trod Try.underlying48 (show DataW.trod enc Try.prog W 0 (fun _ => true) true m 48 [c1] = _ from y1)
  obtain ⟨z2, rfl, k2⟩ := u16_of_trod Try.underlying48 (show DataW.trod enc Try.prog W 0 (fun _ => true) true m 48 [c2] = _ from y2)
  obtain ⟨z3, rfl, k3⟩ := u16_of_trod Try.underlying48 (show DataW.trod enc Try.prog W 0 (fun _ => true) true m 48 [c3] = _ from y3)
  exact ⟨_, _, _, _, rfl, k0, k1, k2, k3⟩
theorem open_u16x2 (hval : Value.okWide Try.prog W r b0 50 v) (h : DataW.Trod enc Try.prog W 0 (fun _ => true) true 50 v d p) :
    ∃ a b, v = .agg #[.int .u16 a, .int .u16 b] ∧ (0 ≤ a ∧ a ≤ 65535) ∧ (0 ≤ b ∧ b ≤ 65535) := by
  obtain ⟨cs, rfl, hsz⟩ := array_cells Try.underlying50 hval
  obtain ⟨c0, c1, rfl⟩ := arr2 (hsz.trans (by kernel_rfl))
  obtain ⟨fuel, h⟩ := h
  obtain ⟨xs, m, -, -, -, hl, hx⟩ := DataW.trod_array Try.underlying50 h
  have ce : Try.prog.cellsOf 48 = 1 := by kernel_rfl
  rw [ce] at hx
  have y0 := hx 0 (by omega)
  have y1 := hx 1 (by omega)
  rw [List.getElem?_eq_getElem (by omega)] at y0 y1
  obtain ⟨z0, rfl, k0⟩ := u16_of_trod Try.underlying48 (show DataW.trod enc Try.prog W 0 (fun _ => true) true m 48 [c0] = _ from y0)
  obtain ⟨z1, rfl, k1⟩ := u16_of_trod Try.underlying48 (show DataW.trod enc Try.prog W 0 (fun _ => true) true m 48 [c1] = _ from y1)
  exact ⟨_, _, rfl, k0, k1⟩
end
end Go.Proofs.Ytlhekifmkkgjlaa
/- A slice of structs whose fields are one cell each, opened; a list of yard deeds. -/
namespace Go.Proofs.Ytlhekifmkkgjlaa
open Go Go.RowKit Go.ChangeShapes Go.WideShapes Go.ChangeAt
section
variable {H : Type} {enc : TypeId × Value → H} {r : Reach} {b0 : Nat} {W : World} {v : Value} {d : DataW H} {p : List MemPlace}
set_option maxRecDepth 100000
/-- a slice of structs of one-cell fields -/
theorem open_cells {t e : TypeId} {fs : Array Field} {x : DataW H × List MemPlace} {fuel : Nat} (ht : Try.prog.underlying t = some (.slice e)) (he : Try.prog.underlying e = some (.struct fs)) (hone : Deep.oneCellFields Try.prog fs = true)
    (ce : Try.prog.cellsOf e = fs.size) (hpos : 0 < fs.size) (h : DataW.trod enc Try.prog W 0 (fun _ => true) true fuel t [v] = some x) (hlt : ∀ y ∈ x.2, y.block < W.heap.size) :
    ∃ A n c V, v = .slice A n c ∧ n ≤ maxLen ∧ n ≤ c ∧ ER W W.heap.size fs.size A n V ∧ ∀ i k f, i < n → fs[k]? = some f → ∃ m y, DataW.trod enc Try.prog W 0 (fun _ => true) true m f.type [V i k] = some y ∧ (∀ z ∈ y.2, z.block < W.heap.size) := by
  rcases Deep.open_slice ht h with ⟨h1, -⟩ | ⟨a, len, cap, m, n, D, Pl, h1, hb, hl, hm, hmm, hx, hc⟩
  · injection h1 with h1
    subst h1
    exact ⟨none, 0, 0, fun _ _ => .nilIface, rfl, by simp [maxLen], Nat.le_refl _, ER.nil _ _ _ _ _, fun i k f hi => absurd hi (by omega)⟩
  · injection h1 with h1
    subst h1
    simp only [if_true] at hmm
    subst hmm
    rw [ce] at hc hx
    obtain ⟨C, hC⟩ := Deep.choose_lt hc
    refine ⟨some a, len, m, fun i k => (C i).getD k undef, rfl, by omega, hl, fun hn => ?_, fun i k f hi hf => ?_⟩
    · obtain ⟨-, hl0, hc0⟩ := World.cells?_some (hC 0 (by omega)).1
      have h0 := hc0 0 hpos
      rw [List.getElem?_eq_getElem (by omega)] at h0
      obtain ⟨b, off, spot⟩ := a
      have hsp : spot = none := by simpa [Addr.add] using World.cell?_spot h0
      subst hsp
      refine ⟨b, off, rfl, ?_, fun k i hk hi => ?_⟩
      · have hb1 := hlt (.cell b (off + 0)) (by
          rw [hx]
          exact List.mem_append_left _ (MemPlace.mem_row.2 ⟨0, Nat.mul_pos (by omega) hpos, rfl⟩))
        exact hb1
      · obtain ⟨-, hl1, hc1⟩ := World.cells?_some (hC k (by omega)).1
        have h2 := hc1 i hi
        rw [Deep.add_add, add_lit', List.getElem?_eq_getElem (by omega)] at h2
        rw [show off + k * fs.size + i = off + (k * fs.size + i) by omega, h2]
        simp [List.getD, List.getElem?_eq_getElem (show i < (C k).length by omega)]
    · obtain ⟨-, hl1, -⟩ := World.cells?_some (hC i (by omega)).1
      obtain ⟨xs, m', -, hxy, -, hxl, hf2⟩ := DataW.trod_struct he (hC i (by omega)).2
      have hk : k < fs.size := (Array.getElem?_eq_some_iff.1 hf).1
      obtain ⟨ho, hc1⟩ := Deep.hone_of hone k f hf
      have g := hf2 k f hf
      rw [ho, hc1, Deep.take1_drop (C i) k undef (by omega), List.getElem?_eq_getElem (by omega)] at g
      refine ⟨m', _, g, fun z hz => hlt z ?_⟩
      rw [hx]
      simp only [Prod.mk.injEq] at hxy
      refine List.mem_append_right _ (List.mem_flatMap.2 ⟨i, by simp; omega, ?_⟩)
      rw [hxy.2]
      exact List.mem_flatMap.2 ⟨_, List.getElem_mem _, hz⟩
theorem u8_of_trod {W : World} {t : TypeId} {v : Value} {x : DataW H × List MemPlace} {fuel : Nat} (ht : Try.prog.underlying t = some (.int .u8)) (h : DataW.trod enc Try.prog W 0 (fun _ => true) true fuel t [v] = some x) :
    v = .int .u8 (intOf v) ∧ 0 ≤ intOf v ∧ intOf v ≤ 255 := by
  obtain ⟨z, hz, -, hw⟩ := DataW.trod_int ht h
  injection hz with hz
  subst hz
  exact ⟨rfl, by simpa [intOf, Lit.wf, IntKind.min, IntKind.max, IntKind.signed, IntKind.bits] using hw⟩
/-- a list of yard deeds -/
theorem open_yards (hval : Value.okWide Try.prog W r b0 98 v) (h : DataW.Trod enc Try.prog W 0 (fun _ => true) true 98 v d p) (hlt : ∀ x ∈ p, x.block < W.heap.size) :
    ∃ (A : Option Addr) (n c : Nat) (u : Nat → Nat → Int), v = .slice A n c ∧ n ≤ maxLen ∧ ER W W.heap.size 4 A n (fun k i => .int .u8 (u k i)) ∧ ∀ k i, k < n → i < 4 → 0 ≤ u k i ∧ u k i ≤ 255 := by
  obtain ⟨fuel, h⟩ := h
  obtain ⟨A, n, c, rfl⟩ := okWide_slice Try.underlying98 hval
  rw [cells_slice] at h
  obtain ⟨A', n', c', V, h1, hn, hnc, hE, hV⟩ := open_cells Try.underlying98 Try.underlying102 (by kernel_rfl) (by kernel_rfl) (by decide) h hlt
  injection h1 with h1 h2 h3
  subst h1 h2 h3
  have key : ∀ k i, k < n → i < 4 → V k i = .int .u8 (intOf (V k i)) ∧ 0 ≤ intOf (V k i) ∧ intOf (V k i) ≤ 255 := fun k i hk hi => by
    rcases (by omega : i = 0 ∨ i = 1 ∨ i = 2 ∨ i = 3) with rfl | rfl | rfl | rfl
    · obtain ⟨m, y, g, -⟩ := hV k 0 _ hk rfl
      exact u8_of_trod Try.underlying5 g
    · obtain ⟨m, y, g, -⟩ := hV k 1 _ hk rfl
      exact u8_of_trod Try.underlying5 g
    · obtain ⟨m, y, g, -⟩ := hV k 2 _ hk rfl
      exact u8_of_trod Try.underlying5 g
    · obtain ⟨m, y, g, -⟩ := hV k 3 _ hk rfl
      exact u8_of_trod Try.underlying5 g
  refine ⟨A, n, c, fun k i => intOf (V k i), rfl, hn, fun hn0 => ?_, fun k i hk hi => (key k i hk hi).2⟩
  obtain ⟨b, off, hA, hb, hc⟩ := hE hn0
  refine ⟨b, off, hA, hb, fun k i hk hi => ?_⟩
  have h1 := hc k i hk hi
  rw [(key k i hk hi).1] at h1
  exact h1
end
end Go.Proofs.Ytlhekifmkkgjlaa
/- Arguments of chapter 8 opened: a stack; a list of numbers of 16 bits. -/
namespace Go.Proofs.Ytlhekifmkkgjlaa
open Go Go.RowKit Go.ChangeShapes Go.WideShapes Go.ChangeAt
section
variable {H : Type} {enc : TypeId × Value → H} {r : Reach} {b0 : Nat} {W : World} {v : Value} {d : DataW H} {p : List MemPlace}
set_option maxRecDepth 100000
theorem arr3 {cs : Array Value} (h : cs.size = 3) : ∃ a b c, cs = #[a, b, c] := by
  rcases cs with ⟨l⟩
  match l, h with
  | [a, b, c], _ => exact ⟨a, b, c, rfl⟩
/-- a stack that is read, whatever its lengths -/
def StkQ (w : World) (s : Stk) : Prop := s.nt ≤ maxLen ∧ P2 w w.heap.size s.A s.nt s.u s.v ∧ ∀ k, k < s.nt → s.cn k ≤ maxLen ∧ s.wn k ≤ maxLen ∧ IR w w.heap.size (s.ca k) (s.cn k) (s.cf k) ∧ IR w w.heap.size (s.wa k) (s.wn k) (s.wf k)
theorem StkQ.loose {w : World} {s : Stk} (h : StkQ w s) : StkV w s := ⟨h.1, h.2.1, fun k hk => ⟨(h.2.2 k hk).1, (h.2.2 k hk).2.1⟩⟩
theorem StkQ.tight {w : World} {s : Stk} (h : StkQ w s) (hn : s.nt ≤ 1000000) (hm : ∀ k, k < s.nt → s.cn k ≤ 1000000 ∧ s.wn k ≤ 1000000) : StkR w w.heap.size s := ⟨hn, h.2.1, fun k hk => ⟨(hm k hk).1, (hm k hk).2, (h.2.2 k hk).2.2.1, (h.2.2 k hk).2.2.2⟩⟩
theorem open_tiers {x : DataW H × List MemPlace} {fuel : Nat} (h : DataW.trod enc Try.prog W 0 (fun _ => true) true fuel 53 [v] = some x) (hlt : ∀ y ∈ x.2, y.block < W.heap.size) (wd hg : Int) :
    ∃ s : Stk, v = .slice s.A s.nt s.cap ∧ s.wd = wd ∧ s.hg = hg ∧ StkQ W s := by
  obtain ⟨A, n, c, V, rfl, hn, hnc, hE, hV⟩ := open_cells Try.underlying53 Try.underlying72 (by kernel_rfl) (by kernel_rfl) (by decide) h hlt
  have key : ∀ i, i < n → ∃ q : (Option Addr × Nat × Nat × (Nat → Int)) × (Option Addr × Nat × Nat × (Nat → Int)), V i 0 = .slice q.1.1 q.1.2.1 q.1.2.2.1 ∧ q.1.2.1 ≤ maxLen ∧ IR W W.heap.size q.1.1 q.1.2.1 q.1.2.2.2 ∧ V i 1 = .slice q.2.1 q.2.2.1 q.2.2.2.1 ∧ q.2.2.1 ≤ maxLen ∧ IR W W.heap.size q.2.1 q.2.2.1 q.2.2.2.2 := fun i hi => by
    obtain ⟨m0, y0, g0, l0⟩ := hV i 0 _ hi rfl
    obtain ⟨m1, y1, g1, l1⟩ := hV i 1 _ hi rfl
    obtain ⟨A0, n0, c0, z0, e0, h0, -, r0, -⟩ := open_ints_c Try.underlying56 g0 l0
    obtain ⟨A1, n1, c1, z1, e1, h1, -, r1, -⟩ := open_ints_c Try.underlying56 g1 l1
    exact ⟨((A0, n0, c0, z0), (A1, n1, c1, z1)), e0, h0, r0, e1, h1, r1⟩
  obtain ⟨q, hq⟩ := Deep.choose_lt key
  refine ⟨⟨wd, hg, A, n, c, fun i => (q i).1.1, fun i => (q i).2.1, fun i => (q i).1.2.1, fun i => (q i).1.2.2.1, fun i => (q i).2.2.1, fun i => (q i).2.2.2.1, fun i => (q i).1.2.2.2, fun i => (q i).2.2.2.2⟩, rfl, rfl, rfl, hn, fun hn0 => ?_, fun k hk => ?_⟩
  · obtain ⟨b, off, hA, hb, hc⟩ := hE hn0
    refine ⟨b, off, hA, hb, fun k i hk hi => ?_⟩
    have h1 := hc k i hk hi
    obtain ⟨e0, -, -, e1, -, -⟩ := hq k hk
    rcases (by omega : i = 0 ∨ i = 1) with rfl | rfl
    · rw [e0] at h1; exact h1
    · rw [e1] at h1; exact h1
  · obtain ⟨-, l0, r0, -, l1, r1⟩ := hq k hk
    exact ⟨l0, l1, r0, r1⟩
/-- a stack -/
theorem open_stack (hval : Value.okWide Try.prog W r b0 55 v) (h : DataW.Trod enc Try.prog W 0 (fun _ => true) true 55 v d p) (hlt : ∀ x ∈ p, x.block < W.heap.size) :
    ∃ s : Stk, v = .agg #[.int .i64 s.wd, .int .i64 s.hg, .slice s.A s.nt s.cap] ∧ StkQ W s := by
  obtain ⟨cs, rfl, hsz⟩ := okWide_struct Try.underlying55 hval
  obtain ⟨a, b, c, rfl⟩ := arr3 (hsz.trans (by kernel_rfl))
  obtain ⟨fuel, h⟩ := h
  have h' : DataW.trod enc Try.prog W 0 (fun _ => true) true fuel 55 [a, b, c] = some (d, p) := h
  obtain ⟨xs, m, -, hxy, -, hxl, hf⟩ := DataW.trod_struct Try.underlying55 h'
  have g0 := hf 0 _ rfl
  have g1 := hf 1 _ rfl
  have g2 := hf 2 _ rfl
  rw [List.getElem?_eq_getElem (by rw [hxl]; decide)] at g0 g1 g2
  have k0 : DataW.trod enc Try.prog W 0 (fun _ => true) true m 3 [a] = _ := g0
  have k1 : DataW.trod enc Try.prog W 0 (fun _ => true) true m 3 [b] = _ := g1
  have k2 : DataW.trod enc Try.prog W 0 (fun _ => true) true m 53 [c] = _ := g2
  have e0 := (int_of_trod Try.underlying3 k0).1
  have e1 := (int_of_trod Try.underlying3 k1).1
  simp only [Prod.mk.injEq] at hxy
  obtain ⟨s, hv, hw, hh, hq⟩ := open_tiers k2 (fun y hy => hlt y (by
    rw [hxy.2]
    exact List.mem_flatMap.2 ⟨_, List.getElem_mem _, hy⟩)) (intOf a) (intOf b)
  exact ⟨s, by rw [hw, hh, ← hv, ← e0, ← e1], hq⟩
/-- a list of numbers of 16 bits -/
theorem open_u16s (hval : Value.okWide Try.prog W r b0 70 v) (h : DataW.Trod enc Try.prog W 0 (fun _ => true) true 70 v d p) (hlt : ∀ x ∈ p, x.block < W.heap.size) :
    ∃ (A : Option Addr) (n c : Nat) (u : Nat → Int), v = .slice A n c ∧ n ≤ maxLen ∧ ER W W.heap.size 1 A n (fun k _ => .int .u16 (u k)) ∧ ∀ k, k < n → 0 ≤ u k ∧ u k ≤ 65535 := by
  obtain ⟨fuel, h⟩ := h
  obtain ⟨A, n, c, rfl⟩ := okWide_slice Try.underlying70 hval
  rw [cells_slice] at h
  rcases Deep.open_slice1 Try.underlying70 (by kernel_rfl) h with ⟨h1, -⟩ | ⟨a, len, cap, m, n', V, D, Pl, h1, hb, hl, hm, hmm, hx, hc⟩
  · injection h1 with h1
    injection h1 with h1 h2 h3
    subst h1 h2 h3
    exact ⟨none, 0, 0, fun _ => 0, rfl, by simp [maxLen], ER.nil _ _ _ _ _, fun k hk => absurd hk (by omega)⟩
  · injection h1 with h1
    injection h1 with h1 h2 h3
    subst h1 h2 h3
    simp only [if_true] at hmm
    subst hmm
    obtain ⟨u, hu⟩ := Deep.choose_lt (fun i (hi : i < m) => u16_of_trod (W := W) Try.underlying48 (hc i hi).2)
    refine ⟨some a, n, m, u, rfl, by omega, fun hn => ?_, fun k hk => (hu k (by omega)).2⟩
    have h0 := (hc 0 (by omega)).1
    obtain ⟨b, off, spot⟩ := a
    have hsp : spot = none := by simpa [Addr.add] using World.cell?_spot h0
    subst hsp
    refine ⟨b, off, rfl, ?_, fun k i hk hi => ?_⟩
    · have hb1 := hlt (.cell b (off + 0)) (by
        rw [show p = _ from congrArg Prod.snd hx]
        exact List.mem_append_left _ (MemPlace.mem_row.2 ⟨0, by omega, rfl⟩))
      exact hb1
    · obtain rfl : i = 0 := by omega
      have h2 := (hc k (by omega)).1
      rw [add_lit', (hu k (by omega)).1] at h2
      simpa using h2
end
end Go.Proofs.Ytlhekifmkkgjlaa
/- The law KilnFloors: what its walk asks, plain. -/
namespace Go.Proofs.Ytlhekifmkkgjlaa
open Go Go.RowKit Go.Shelf
set_option maxHeartbeats 4000000
set_option maxRecDepth 100000
theorem ldE_zero {s : Stk} (h : ldE s = 0) : stackB s = true ∧ (hangF s).1 < 0 ∧ LoadsB s = true := by
  unfold ldE at h
  rcases h1 : stackB s with _ | _
  · rw [if_pos h1] at h; omega
  · rw [h1, if_neg (by simp)] at h
    by_cases h4 : 0 ≤ (hangF s).1
    · rw [if_pos h4] at h; omega
    · rw [if_neg h4] at h
      rcases h5 : LoadsB s with _ | _
      · rw [if_pos h5] at h; omega
      · exact ⟨rfl, by omega, rfl⟩
theorem hangF_m1 {s : Stk} (h : (hangF s).1 < 0) : hangF s = (-1, -1) := by
  unfold hangF at h ⊢
  unfold firstOf at h ⊢
  split
  · rename_i x hx
    rw [hx] at h
    dsimp only at h
    omega
  · rfl
theorem ldE_low {s : Stk} (h : stackB s = true) (hf : (hangF s).1 < 0) : ldE s.low = if LoadsB s.low = false then 10 else 0 := by
  unfold ldE
  rw [low_stack h, if_neg (by simp), if_neg (by have := low_hang hf; omega)]
theorem StkR.low {w : World} {B : Nat} {s : Stk} (h : StkR w B s) : StkR w B s.low :=
  ⟨Nat.le_trans (Nat.sub_le _ _) h.1, fun hn => by
    have hn' : 0 < s.nt - 1 := hn
    obtain ⟨b, off, e1, e2, e3⟩ := h.2.1 (by omega)
    exact ⟨b, off, e1, e2, fun k i hk hi => e3 k i (by have : k < s.nt - 1 := hk; omega) hi⟩, fun k hk => h.2.2 k (by have : k < s.nt - 1 := hk; omega)⟩
theorem floors_guard (s : Stk) (w : World) (hs : StkV w s) (hg : anyTo (bigB s 36) s.nt = true ∨ 8 < s.nt ∨ s.nt < 1) : Calls Try.prog 12 #[.agg #[.int .i64 s.wd, .int .i64 s.hg, .slice s.A s.nt s.cap]] w fun e w' => e = .returned (.bool true) ∧ Below w.heap.size w w' := by
  have HK := hide known_any
  have HS := hide hs
  have HG := hide hg
  have hn := hs.1
  unfold maxLen at hn
  have HB := hide ((Below.refl w.heap.size w).alloc (Nat.le_refl _) (.cells #[.int .i64 s.wd, .int .i64 s.hg, .slice s.A s.nt s.cap] 55))
  have KS := hide (Blk.new w 55 #[.int .i64 s.wd, .int .i64 s.hg, .slice s.A s.nt s.cap])
  clear hs hg
  go_enter Try.func12, Try.ntmps12
  go_wp2_with fail
  generalize (w.alloc (.cells #[.int .i64 s.wd, .int .i64 s.hg, .slice s.A s.nt s.cap] 55)) = W1 at HB KS ⊢
  obtain ⟨a0, a1, a2, a3, a4, a5, a6⟩ := blk3 KS.out
  go_loop [3] (fun i => ∃ k : Nat, i = .int .i64 k ∧ k ≤ s.nt ∧ Hid (anyTo (bigB s 36) k = false)) (fun i => s.nt - (intOf i).toNat)
  case atStart => exact ⟨0, rfl, by omega, hide rfl⟩
  case round =>
    obtain ⟨k, rfl, hk, HN⟩ := hrel
    by_cases hlt : k < s.nt
    · obtain ⟨tb, toff, hA, htb, hu, hv⟩ := P2.at_ (HS.out.2.1.below HB.out (Nat.le_refl _)) hlt
      obtain ⟨l1, l2⟩ := HS.out.2.2 k hlt
      unfold maxLen at l1 l2
      rw [hA] at a3
      have i1 : (0 : Int) ≤ (k : Int) := by omega
      have i2 : (k : Int) < (s.nt : Int) := by omega
      unfold Stk.u at hu
      unfold Stk.v at hv
      by_cases c1 : 36 < s.cn k
      · have c1' : (36 : Int) < (s.cn k : Int) := by omega
        clear c1
        go_wp2_with fail
        refine (HK.out _).mono ?_
        rintro e w99 ⟨rfl, hb99⟩
        go_wp2_with fail
        go_ret
        exact ⟨rfl, (HB.out).trans (hb99.mono (HB.out).size)⟩
      · have c1' : ¬ (36 : Int) < (s.cn k : Int) := by omega
        by_cases c2 : 36 < s.wn k
        · have c2' : (36 : Int) < (s.wn k : Int) := by omega
          clear c1 c2
          go_wp2_with fail
          refine (HK.out _).mono ?_
          rintro e w99 ⟨rfl, hb99⟩
          go_wp2_with fail
          go_ret
          exact ⟨rfl, (HB.out).trans (hb99.mono (HB.out).size)⟩
        · have c2' : ¬ (36 : Int) < (s.wn k : Int) := by omega
          have HX : Hid (bigB s 36 k = false) := hide (by unfold bigB; rw [decide_eq_false c1, decide_eq_false c2]; rfl)
          clear c1 c2
          go_wp2_with fail
          go_round
          case rel => exact ⟨k + 1, by go_num, by omega, hide (by show (anyTo (bigB s 36) k || bigB s 36 k) = false; rw [HN.out, HX.out]; rfl)⟩
          case measure => simp [intOf]; omega
    · obtain rfl : k = s.nt := by omega
      have hg2 : 8 < s.nt ∨ s.nt < 1 := by
        rcases HG.out with h | h
        · rw [HN.out] at h; cases h
        · exact h
      by_cases c8 : s.nt < 1
      · have c8' : (s.nt : Int) < 1 := by omega
        clear hg2 c8
        go_wp2_with fail
        refine (HK.out _).mono ?_
        rintro e w99 ⟨rfl, hb99⟩
        go_wp2_with fail
        go_ret
        exact ⟨rfl, (HB.out).trans (hb99.mono (HB.out).size)⟩
      · have c8' : ¬ (s.nt : Int) < 1 := by omega
        have c9' : (8 : Int) < (s.nt : Int) := by omega
        clear hg2 c8
        go_wp2_with fail
        refine (HK.out _).mono ?_
        rintro e w99 ⟨rfl, hb99⟩
        go_wp2_with fail
        go_ret
        exact ⟨rfl, (HB.out).trans (hb99.mono (HB.out).size)⟩
end Go.Proofs.Ytlhekifmkkgjlaa
