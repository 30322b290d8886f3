/- kiln.Free, walked. -/
import Derived.Test.YtlhekifmkkgjlaaStacksE
import Derived.Deep.CutBlock
import Derived.Deep.DeepCutAuto
set_option linter.unusedSimpArgs false
set_option linter.unusedVariables false
set_option linter.unnecessarySimpa false
namespace Go.Proofs.Ytlhekifmkkgjlaa
open Go Go.RowKit Go.Shelf
attribute [local go_sem] Oper.semAt_some
set_option maxHeartbeats 4000000
set_option maxRecDepth 100000
/-- what a round over the bricks keeps: the pile's box p, the list's box q -/
structure FO (w W : World) (s : Stk) (p q : Nat) (l : List (Nat × Nat)) : Prop where
  below : Below w.heap.size w W
  pile : PileB W p s
  box : ∃ v, Blk W q 112 #[v] ∧ OwnB W w.heap.size v l
section
variable {w W W' : World} {s : Stk} {p q : Nat} {l : List (Nat × Nat)}
theorem FO.keptN (h : FO w W s p q l) {row : Option Nat} (hg : W.grownBy W' row) (hr : ∀ g, row = some g → w.heap.size ≤ g ∧ ∃ o : Obj, W.heap[g]? = some o ∧ o.isCells = false) : FO w W' s p q l := by
  have hr' := fun g e => (hr g e).2
  obtain ⟨v, h1, h2⟩ := h.box
  exact ⟨h.below.trans ⟨hg.os, hg.tape, hg.output, hg.size, fun k hk => hg.block k (by have := h.below.size; omega) (fun e => by have := (hr k e.symm).1; omega)⟩, Blk.keptN h.pile hg hr', v, h1.keptN hg hr', ownN h2 hg hr'⟩
theorem FO.ext (h : FO w W s p q l) (hb : Below W.heap.size W W') : FO w W' s p q l := by
  obtain ⟨v, h1, h2⟩ := h.box
  exact ⟨h.below.trans (hb.mono h.below.size), Blk.ext h.pile hb, v, h1.ext hb, ownBelow h2 hb⟩
theorem FO.put (h : FO w W s p q l) {g : Nat} (hg : w.heap.size ≤ g) (h1 : g ≠ p) (h2 : g ≠ q) {u : Value} (hG : Blk W g 4 #[u]) (x : Value) : FO w (W.setCell ⟨g, 0, none⟩ x) s p q l := by
  obtain ⟨v, k1, k2⟩ := h.box
  exact ⟨h.below.setCell (p := ⟨g, 0, none⟩) hg x, Blk.far h.pile (p := ⟨g, 0, none⟩) (by simp only []; omega) x, v, k1.far (p := ⟨g, 0, none⟩) (by simp only []; omega) x, ownsRow_setCell_other k2 (own_blk_ne k2 hG (by decide)) _⟩
end
theorem FO.push {w W W2 : World} {s : Stk} {p q : Nat} {l : List (Nat × Nat)} (h : FO w W s p q l) {v v' : Value} {t j : Nat} (hv1 : Blk W q 112 #[v]) (hv2 : OwnB W w.heap.size v l) (hg : (W.alloc (.cells #[.int .i64 t, .int .i64 j] 59)).grownBy W2 v.ownBlock)
    (ho : W2.ownsRow w.heap.size 59 2 v' (l.length + 1) (cellsL l ++ [.int .i64 t, .int .i64 j])) (hq : w.heap.size ≤ q) (hp : p ≠ q) :
    KeepsOthers W (W2.setCell ⟨q, 0, none⟩ v') ∧ Below w.heap.size W (W2.setCell ⟨q, 0, none⟩ v') ∧ FO w (W2.setCell ⟨q, 0, none⟩ v') s p q (l ++ [(t, j)]) := by
  obtain ⟨q1, q2, q3, q4, q5⟩ := Boxed.appended hv1 (by decide) hv2 h.below.size hq ho hg
  have hpb : Blk (W.alloc (.cells #[.int .i64 t, .int .i64 j] 59)) p 131 _ := Blk.alloc h.pile _
  refine ⟨q4, q5, h.below.trans q5, (hpb.grown hg (fun e => own_blk_ne (World.ownsRow.alloc hv2 _) hpb (by decide) e.symm)).far (p := ⟨q, 0, none⟩) (by simp only []; omega) v', v', q2, ?_⟩
  unfold OwnB
  rw [cellsL_append, List.length_append]
  exact q3
/-- an own list of bricks, as sorting reads it -/
theorem OwnB.sbr {W : World} {n0 : Nat} {v : Value} {l : List (Nat × Nat)} (h : OwnB W n0 v l) : (v = .slice none 0 0 ∧ l = []) ∨ ∃ g cap, v = .slice (some ⟨g, 0, none⟩) l.length cap ∧ n0 ≤ g ∧ SBR W g l.length (rowOf l) := by
  obtain ⟨h1, h2⟩ := h
  rcases h2 with ⟨h2, h0⟩ | ⟨g, cap, cur, rfl, hb, hg, hn, hm, hs, ht⟩
  · refine .inl ⟨h2, List.eq_nil_of_length_eq_zero h0⟩
  · have hB : Blk W g 59 cur := hg
    have hget : ∀ j u, j < l.length * 2 → (cellsL l)[j]? = some u → W.cell? ⟨g, j, none⟩ = some u := by
      intro j u hj hu
      rw [hB.cell, ← Array.getElem?_toList]
      rw [← ht, List.getElem?_take_of_lt hj] at hu
      exact hu
    exact .inr ⟨g, cap, rfl, hb, ⟨⟨_, hB⟩, fun k hk => ⟨hget _ _ (by omega) (cellsL_get l k hk).1, hget _ _ (by omega) (cellsL_get l k hk).2⟩⟩⟩
theorem SBR.pi {W : World} {g n : Nat} {f : Nat → Int × Int} (h : SBR W g n f) {x y : Nat → Int} (hf : ∀ k, k < n → f k = (x k, y k)) : PI W W.heap.size (some ⟨g, 0, none⟩) n x y := fun _ =>
  ⟨g, 0, rfl, h.lt, fun k i hk hi => by
    obtain ⟨h1, h2⟩ := h.cells k hk
    rw [hf k hk] at h1 h2
    rcases (by omega : i = 0 ∨ i = 1) with rfl | rfl
    · simpa using h1
    · simpa using h2⟩
/-- what a round over the cells of a brick keeps: fb: the box of free, b: that of the brick, c: that of the walk over the cells -/
structure FN (w W4 W : World) (s : Stk) (p q : Nat) (l : List (Nat × Nat)) (n1 fb b c t j : Nat) (ok : Bool) : Prop where
  fo : FO w W s p q l
  fr : Blk W fb 4 #[.bool ok]
  bk : Blk W b 59 #[.int .i64 t, .int .i64 j]
  ck : Blk W c 59 #[.int .i64 t, .int .i64 j]
  kf : KeepsFrom n1 W4 W
  bw : Below w.heap.size W4 W
section
variable {w W4 W W5 : World} {s : Stk} {p q : Nat} {l : List (Nat × Nat)} {n1 fb b c t j : Nat} {ok : Bool}
theorem FN.keptN (h : FN w W4 W s p q l n1 fb b c t j ok) {row : Option Nat} (hg : W.grownBy W5 row) (hr : ∀ r, row = some r → W4.heap.size ≤ r ∧ ∃ o : Obj, W.heap[r]? = some o ∧ o.isCells = false) (hz : w.heap.size ≤ W4.heap.size) : FN w W4 W5 s p q l n1 fb b c t j ok := by
  have hr' := fun r e => (hr r e).2
  exact ⟨h.fo.keptN hg (fun r e => ⟨by have := (hr r e).1; omega, (hr r e).2⟩), h.fr.keptN hg hr', h.bk.keptN hg hr', h.ck.keptN hg hr', ownFrom_keepsFrom (Nat.le_refl _) () W W5 row h.kf hg hr, h.bw.trans ⟨hg.os, hg.tape, hg.output, hg.size, fun k hk => hg.block k (by have := h.bw.size; omega) (fun e => by have := (hr k e.symm).1; omega)⟩⟩
theorem FN.step (h : FN w W4 W s p q l n1 fb b c t j ok) (hb : Below W.heap.size W W5) (h0 : w.heap.size ≤ fb) (h1 : fb ≠ p) (h2 : fb ≠ q) (h3 : fb ≠ b) (h4 : fb ≠ c) (ok' : Bool) :
    KeepsOthers W (W5.setCell ⟨fb, 0, none⟩ (.bool ok')) ∧ KpB w.heap.size c W (W5.setCell ⟨fb, 0, none⟩ (.bool ok')) ∧ FN w W4 (W5.setCell ⟨fb, 0, none⟩ (.bool ok')) s p q l n1 fb b c t j ok' := by
  have k1 : KeepsOthers W (W5.setCell ⟨fb, 0, none⟩ (.bool ok')) := (keepsO hb).trans (KeepsOthers.setCell _ _ _)
  have c1 := (h.ck.ext hb).far (p := ⟨fb, 0, none⟩) (by simp only []; omega) (.bool ok')
  refine ⟨k1, ⟨(hb.mono h.fo.below.size).setCell (p := ⟨fb, 0, none⟩) h0 _, c1.trans h.ck.symm⟩, (h.fo.ext hb).put h0 h1 h2 (h.fr.ext hb) _, ?_, (h.bk.ext hb).far (p := ⟨fb, 0, none⟩) (by simp only []; omega) _, c1, h.kf.trans (k1.from _), h.bw.trans ((hb.mono h.fo.below.size).setCell (p := ⟨fb, 0, none⟩) h0 _)⟩
  simpa using (h.fr.ext hb).set_ 0 (.bool ok')
end
theorem ER.kept {W W' : World} {sz n : Nat} {A : Option Addr} {f : Nat → Nat → Value} (h : ER W W.heap.size sz A n f) {r : Nat} (hg : W.grownBy W' (some r)) (hr : ∀ p, A = some p → p.block ≠ r) : ER W' W'.heap.size sz A n f := fun hn => by
  obtain ⟨b, o, e1, e2, e3⟩ := h hn
  refine ⟨b, o, e1, Nat.lt_of_lt_of_le e2 hg.size, fun k i hk hi => ?_⟩
  have hne := hr _ e1
  exact (World.cell?_of_block (hg.block b e2 (fun e => hne (by injection e)))).trans (e3 k i hk hi)
/-- what Free answers -/
def FreePost (s : Stk) (w : World) (e : Ending) (w' : World) : Prop :=
  ∃ A c, e = .returned (.tuple #[.slice A (freeDn s s.nt).length c, .int .i64 0]) ∧ PI w' w'.heap.size A (freeDn s s.nt).length (fun k => (rowOf (freeDn s s.nt) k).1) (fun k => (rowOf (freeDn s s.nt) k).2) ∧ Below w.heap.size w w'
theorem Free_arg (s : Stk) (w : World) (hs : StkR w w.heap.size s) (h : stackB s = false) :
    Calls Try.prog 47 #[.agg #[.int .i64 s.wd, .int .i64 s.hg, .slice s.A s.nt s.cap]] w fun e w' => e = .returned (.tuple #[.slice none 0 0, .int .i64 2]) ∧ Below w.heap.size w w' := by
  have HB := hide ((Below.refl w.heap.size w).alloc (Nat.le_refl _) (.cells #[.int .i64 s.wd, .int .i64 s.hg, .slice s.A s.nt s.cap] 55))
  have HC := hide (newPile_any s (w.alloc (.cells #[.int .i64 s.wd, .int .i64 s.hg, .slice s.A s.nt s.cap] 55)) ((hs.below HB.out (Nat.le_refl _)).more HB.out.size))
  rw [stkE_no h] at HC
  clear h hs
  go_enter Try.func47, Try.ntmps47
  go_wp2_with fail
  refine HC.out.mono ?_
  rintro e w1 ⟨rfl, hb1⟩
  go_wp2_with fail
  go_ret2
  have hB := HB.out.trans (hb1.mono HB.out.size)
  exact ⟨rfl, hB.alloc hB.size _⟩
theorem bricks_len_bd {s : Stk} (h : stackB s = true) : (bricksTo s.wn s.nt).length ≤ 1440 := by
  have key : ∀ k, k ≤ s.nt → (bricksTo s.wn k).length ≤ k * 144 := by
    intro k
    induction k with
    | zero => intro _; simp [bricksTo]
    | succ k ih =>
      intro hk
      rw [bricksTo_succ, List.length_append]
      have h1 := ih (by omega)
      have h2 := tier_facts h (show k < s.nt by omega)
      have h3 : (rowTo k (s.wn k)).length = s.wn k := by simp [rowTo]
      omega
  have h1 := key s.nt (Nat.le_refl _)
  have h2 := ((stackB_iff s).1 h).2.1
  omega
theorem Free_ok (s : Stk) (w : World) (hs : StkR w w.heap.size s) (h : stackB s = true) :
    Calls Try.prog 47 #[.agg #[.int .i64 s.wd, .int .i64 s.hg, .slice s.A s.nt s.cap]] w (FreePost s w) := by
  refine (callsIn_wide (n := 20)).1 ?_
  obtain ⟨F, hFw⟩ : ∃ F : Fence, F = Fence.wide := ⟨_, rfl⟩
  rw [← hFw]
  have hF : ∀ f, F.fn f := by rw [hFw]; exact fun _ => trivial
  have hro : F.round = none := by rw [hFw]; rfl
  have hwd : ∀ {n f args w R}, Calls Try.prog f args w R → CallsIn F n Try.prog f args w R := by rw [hFw]; exact fun h => callsIn_wide.2 h
  clear hFw
  have HCN : Hid (∀ k i, k < s.nt → i < s.nt → s.cn k = s.cn i) := hide (fun k i hk hi => by have h1 := stack_cn h k hk; have h2 := stack_cn h i hi; omega)
  have HLB := hide (bricks_len_bd h)
  have HB := hide ((Below.refl w.heap.size w).alloc (Nat.le_refl _) (.cells #[.int .i64 s.wd, .int .i64 s.hg, .slice s.A s.nt s.cap] 55))
  have HC := hide (newPile_any s (w.alloc (.cells #[.int .i64 s.wd, .int .i64 s.hg, .slice s.A s.nt s.cap] 55)) ((hs.below HB.out (Nat.le_refl _)).more HB.out.size))
  rw [stkE_ok h] at HC
  have HSS := hide hs
  clear h hs
  refine callsIn_of_wp_marks Try.func47 rfl (hF _) ?_ hro
  simp only [Try.ntmps47, List.size_toArray, List.length_cons, List.length_nil, Nat.reduceAdd, Nat.reduceSub, Array.replicate_succ, Array.replicate_zero, List.push_toArray, List.append_toArray, List.nil_append, List.cons_append]
  gi_wp2_with fail
  refine (hwd HC.out).mono ?_
  rintro e w1 ⟨rfl, hb1⟩
  have HB1 := hide (HB.out.trans (hb1.mono HB.out.size))
  have hz1 : w.heap.size + 1 ≤ w1.heap.size := by have := hb1.size; simpa using this
  clear hb1
  gi_wp2_with (gi_at_call 93; refine (hwd (bricks_any s _)).mono ?_; rintro e w2 ⟨rfl, rfl⟩)
  have k0 : PileB (((w1.alloc (.cells #[.int .i64 s.wd, .int .i64 s.hg, .slice s.A s.nt s.cap] 131)).alloc (.cells #[.slice none 0 0] 112)).alloc (.cells #[.int .i64 s.wd, .int .i64 s.hg, .slice s.A s.nt s.cap] 131)) w1.heap.size s := ((Blk.new w1 _ _).alloc _).alloc _
  have k1 : Blk (((w1.alloc (.cells #[.int .i64 s.wd, .int .i64 s.hg, .slice s.A s.nt s.cap] 131)).alloc (.cells #[.slice none 0 0] 112)).alloc (.cells #[.int .i64 s.wd, .int .i64 s.hg, .slice s.A s.nt s.cap] 131)) (w1.heap.size + 1) 112 #[.slice none 0 0] := by simpa using (Blk.new (w1.alloc (.cells #[.int .i64 s.wd, .int .i64 s.hg, .slice s.A s.nt s.cap] 131)) 112 #[.slice none 0 0]).alloc (.cells #[.int .i64 s.wd, .int .i64 s.hg, .slice s.A s.nt s.cap] 131)
  have k2 : PileB (((w1.alloc (.cells #[.int .i64 s.wd, .int .i64 s.hg, .slice s.A s.nt s.cap] 131)).alloc (.cells #[.slice none 0 0] 112)).alloc (.cells #[.int .i64 s.wd, .int .i64 s.hg, .slice s.A s.nt s.cap] 131)) (w1.heap.size + 1 + 1) s := by unfold PileB; simpa using Blk.new ((w1.alloc (.cells #[.int .i64 s.wd, .int .i64 s.hg, .slice s.A s.nt s.cap] 131)).alloc (.cells #[.slice none 0 0] 112)) 131 #[.int .i64 s.wd, .int .i64 s.hg, .slice s.A s.nt s.cap]
  have k5 : (((w1.alloc (.cells #[.int .i64 s.wd, .int .i64 s.hg, .slice s.A s.nt s.cap] 131)).alloc (.cells #[.slice none 0 0] 112)).alloc (.cells #[.int .i64 s.wd, .int .i64 s.hg, .slice s.A s.nt s.cap] 131)).heap.size = w1.heap.size + 3 := by simp
  have k6 : Below w.heap.size w (((w1.alloc (.cells #[.int .i64 s.wd, .int .i64 s.hg, .slice s.A s.nt s.cap] 131)).alloc (.cells #[.slice none 0 0] 112)).alloc (.cells #[.int .i64 s.wd, .int .i64 s.hg, .slice s.A s.nt s.cap] 131)) := ((HB1.out.alloc (by omega) _).alloc (by simp only [World.size_alloc]; omega) _).alloc (by simp only [World.size_alloc]; omega) _
  generalize (((w1.alloc (.cells #[.int .i64 s.wd, .int .i64 s.hg, .slice s.A s.nt s.cap] 131)).alloc (.cells #[.slice none 0 0] 112)).alloc (.cells #[.int .i64 s.wd, .int .i64 s.hg, .slice s.A s.nt s.cap] 131)) = W0 at k0 k1 k2 k5 k6 ⊢
  have F0 : FO w W0 s w1.heap.size (w1.heap.size + 1) [] := ⟨k6, k0, _, k1, by simp [cellsL], .inl ⟨rfl, rfl⟩⟩
  have hst := bricks_stops F (20 - 1) hF hro (by omega) (w1.heap.size + 1 + 1) w.heap.size s W0 k2 (by omega) (HSS.out.below k6 (Nat.le_refl _))
  clear k0 k1 k2 k6
  obtain ⟨i0, hi, hz0, hz1', hz2⟩ := info_parts info_brick
  refine wpIn_rangeFunc_ownH hro (by omega) (gf := 111) (lb := #[.pointer (some ⟨w1.heap.size + 1 + 1, 0, none⟩)]) rfl (hF _) (enters_of Try.func111 (by kernel_rfl) rfl)
    hst Below.trans (fun W l o o' hl h hc hk => belowK_b (by omega) W l o o' hl h hc hk) (Below.refl _ _) (fun _ => rfl)
    (fun pre W => FO w W s w1.heap.size (w1.heap.size + 1) ((pre.map (·.1)).filter (freeB s)))
    (fun _ _ _ => False) ?hI (fun _ _ _ _ _ h _ _ => h) F0
    (fun x a' W => ∃ b, w1.heap.size + 2 ≤ b ∧ Blk W b 59 #[.int .i64 x.1.1, .int .i64 x.1.2] ∧ a' = { tmps := #[.agg #[.int .i64 s.wd, .int .i64 s.hg, .slice s.A s.nt s.cap], .pointer (some ⟨w.heap.size, 0, none⟩), .slice none 0 0, .int .i64 0, .pointer (some ⟨w1.heap.size, 0, none⟩), .int .i64 0, .pointer (some ⟨w1.heap.size + 1, 0, none⟩), .pointer (some ⟨b, 0, none⟩), undef, undef, .tuple #[.agg #[.int .i64 s.wd, .int .i64 s.hg, .slice s.A s.nt s.cap], .int .i64 0], .agg #[.int .i64 s.wd, .int .i64 s.hg, .slice s.A s.nt s.cap], .tuple #[.agg #[.int .i64 s.wd, .int .i64 s.hg, .slice s.A s.nt s.cap], .int .i64 0], .agg #[.int .i64 s.wd, .int .i64 s.hg, .slice s.A s.nt s.cap], .int .i64 0, .int .i64 0, .bool false, undef, .agg #[.int .i64 s.wd, .int .i64 s.hg, .slice s.A s.nt s.cap], .func (.func 111) #[] #[.pointer (some ⟨w1.heap.size + 1 + 1, 0, none⟩)], .agg #[.int .i64 x.1.1, .int .i64 x.1.2], undef, undef, undef, undef, undef, undef, undef, undef, undef, undef, undef, undef, undef, undef, undef, undef, undef, undef, undef, undef, undef, undef], defers := [] })
    ?hAx ?hassign ?hbody ?hdone ?hstop
  case hI =>
    rintro pre W W' row h hg hr
    exact h.keptN hg (fun r e => ⟨by have := (hr r e).1; omega, (hr r e).2⟩)
  case hAx =>
    rintro x a' _ W W' row ⟨b, h1, h2, h3⟩ hg hr
    exact ⟨b, h1, h2.keptN hg (fun r e => (hr r e).2), h3⟩
  case hassign =>
    rintro l pre x W K h hK
    have z0 := h.below.size
    have z1 : w1.heap.size + 1 < W.heap.size := by obtain ⟨v, h1, -⟩ := h.box; exact h1.lt
    gi_wp2
    have hb := (Below.refl W.heap.size W).alloc (Nat.le_refl _) (.cells #[.int .i64 x.1.1, .int .i64 x.1.2] 59)
    exact hK _ _ ((keepsO hb).from _) (hb.mono z0) (h.ext hb) ⟨W.heap.size, by omega, Blk.new _ _ _, rfl⟩
  case hbody =>
    rintro l pre ⟨⟨t, j⟩, ht, hj⟩ a' W hl ⟨rl, hlr⟩ h ⟨b, hb4, hb, rfl⟩ hpl
    dsimp only at hb ht hj ⊢
    have hlen : ((pre.map (·.1)).filter (freeB s)).length ≤ 1440 := by
      have h1 := List.length_filter_le (freeB s) (pre.map (·.1))
      rw [List.length_map] at h1
      have := HLB.out
      omega
    have hgoal : ∀ W', FO w W' s w1.heap.size (w1.heap.size + 1) (if freeB s (t, j) = true then (pre.map (·.1)).filter (freeB s) ++ [(t, j)] else (pre.map (·.1)).filter (freeB s)) → KeepsFrom W0.heap.size W W' → Below w.heap.size W W' → KeepsFrom W0.heap.size W W' ∧ Below w.heap.size W W' ∧ FO w W' s w1.heap.size (w1.heap.size + 1) (((pre ++ [(⟨(t, j), ht, hj⟩ : Brk s)]).map (·.1)).filter (freeB s)) := by
      intro W' h1 h2 h3
      refine ⟨h2, h3, ?_⟩
      rw [List.map_append, List.filter_append, List.map_cons, List.map_nil]
      by_cases hf : freeB s (t, j) = true
      · rw [if_pos hf] at h1
        rw [List.filter_cons_of_pos hf, List.filter_nil]; exact h1
      · rw [if_neg hf] at h1
        rw [List.filter_cons_of_neg hf, List.filter_nil, List.append_nil]; exact h1
    have hk5 : w1.heap.size + 3 ≤ W0.heap.size := by omega
    have HG := hide hgoal
    clear hgoal hpl k5
    generalize (pre.map (·.1)).filter (freeB s) = L at h HG hlen
    have z0 := h.below.size
    have z1 : w1.heap.size + 1 < W.heap.size := by obtain ⟨v, h1, -⟩ := h.box; exact h1.lt
    have zb := hb.lt
    have P := hide h
    have PB := hide hb
    have HLR := hide hlr
    obtain ⟨d0, d1, d2, -, -⟩ := blk2 hb
    obtain ⟨x0, x1, x2, x3, -, -, -⟩ := blk3 h.pile
    have t1 : (t : Int) ≤ 1000000 := by have := HSS.out.1; omega
    clear h hb hlr hst F0 HB HB1 HC
    gi_wp2_with (gi_at_call 69; refine (CallsIn.inRound l (hwd (cells_any s t j _))).mono ?_; rintro e w4 ⟨rfl, rfl⟩)
    have hb9 : Below W.heap.size W (((W.alloc (.cells #[.bool true] 4)).alloc (.cells #[.int .i64 s.wd, .int .i64 s.hg, .slice s.A s.nt s.cap] 131)).alloc (.cells #[.int .i64 t, .int .i64 j] 59)) := (((Below.refl _ _).alloc (Nat.le_refl _) _).alloc (by simp) _).alloc (by simp only [World.size_alloc]; omega) _
    have l4 := P.out.ext hb9
    have k4 := (keepsO hb9).from W0.heap.size
    have b8 : Blk (((W.alloc (.cells #[.bool true] 4)).alloc (.cells #[.int .i64 s.wd, .int .i64 s.hg, .slice s.A s.nt s.cap] 131)).alloc (.cells #[.int .i64 t, .int .i64 j] 59)) W.heap.size 4 #[.bool true] := ((Blk.new W _ _).alloc _).alloc _
    have b14 : PileB (((W.alloc (.cells #[.bool true] 4)).alloc (.cells #[.int .i64 s.wd, .int .i64 s.hg, .slice s.A s.nt s.cap] 131)).alloc (.cells #[.int .i64 t, .int .i64 j] 59)) (W.heap.size + 1) s := by unfold PileB; simpa using (Blk.new (W.alloc (.cells #[.bool true] 4)) 131 #[.int .i64 s.wd, .int .i64 s.hg, .slice s.A s.nt s.cap]).alloc (.cells #[.int .i64 t, .int .i64 j] 59)
    have b15 : Blk (((W.alloc (.cells #[.bool true] 4)).alloc (.cells #[.int .i64 s.wd, .int .i64 s.hg, .slice s.A s.nt s.cap] 131)).alloc (.cells #[.int .i64 t, .int .i64 j] 59)) (W.heap.size + 1 + 1) 59 #[.int .i64 t, .int .i64 j] := by simpa using Blk.new ((W.alloc (.cells #[.bool true] 4)).alloc (.cells #[.int .i64 s.wd, .int .i64 s.hg, .slice s.A s.nt s.cap] 131)) 59 #[.int .i64 t, .int .i64 j]
    have hz4 : (((W.alloc (.cells #[.bool true] 4)).alloc (.cells #[.int .i64 s.wd, .int .i64 s.hg, .slice s.A s.nt s.cap] 131)).alloc (.cells #[.int .i64 t, .int .i64 j] 59)).heap.size = W.heap.size + 3 := by simp
    have bb := PB.out.ext hb9
    have hlr4 : ∃ r0, (((W.alloc (.cells #[.bool true] 4)).alloc (.cells #[.int .i64 s.wd, .int .i64 s.hg, .slice s.A s.nt s.cap] 131)).alloc (.cells #[.int .i64 t, .int .i64 j] 59)).heap[l]? = some (.loop r0) := ⟨rl, k4.same _ _ hl HLR.out rfl⟩
    have HB9 := hide hb9
    generalize (((W.alloc (.cells #[.bool true] 4)).alloc (.cells #[.int .i64 s.wd, .int .i64 s.hg, .slice s.A s.nt s.cap] 131)).alloc (.cells #[.int .i64 t, .int .i64 j] 59)) = W4 at l4 k4 b8 b14 b15 hz4 hlr4 bb HB9 ⊢
    obtain ⟨rl4, hlr4⟩ := hlr4
    clear hb9 x0 x1 x2 x3 d0 d1 d2
    have hst := SeqStopsK.inRound l (cells_stops F (20 - 1 - 1 - 1) hF hro (by omega) (W.heap.size + 1) (W.heap.size + 1 + 1) w.heap.size t j s W4 b14 b15 (by omega) (HSS.out.below l4.below (Nat.le_refl _)) ht)
    refine wpIn_rangeFunc_ownN rfl hlr4 (by omega) (gf := 102) (lb := #[.pointer (some ⟨W.heap.size + 1, 0, none⟩), .pointer (some ⟨W.heap.size + 1 + 1, 0, none⟩)]) rfl (hF _) (enters_of Try.func102 (by kernel_rfl) rfl)
      hst KpB.trans (KpB.putObj (by omega) (by omega)) (Below.refl _ _) (fun _ => rfl)
      (fun pre W' => FN w W4 W' s w1.heap.size (w1.heap.size + 1) L W0.heap.size W.heap.size b (W.heap.size + 1 + 1) t j ((pre.map (·.1)).all fun c => !covB s ((t : Int) + 1) c))
      (fun _ _ _ => False) ?hI2 (fun _ _ _ _ _ h _ _ => h) ⟨l4, b8, bb, b15, KeepsFrom.refl _ _, Below.refl _ _⟩
      (fun x a' W' => a' = { tmps := #[.agg #[.int .i64 s.wd, .int .i64 s.hg, .slice s.A s.nt s.cap], .pointer (some ⟨w.heap.size, 0, none⟩), .slice none 0 0, .int .i64 0, .pointer (some ⟨w1.heap.size, 0, none⟩), .int .i64 0, .pointer (some ⟨w1.heap.size + 1, 0, none⟩), .pointer (some ⟨b, 0, none⟩), .pointer (some ⟨W.heap.size, 0, none⟩), .int .i64 x.1, .tuple #[.agg #[.int .i64 s.wd, .int .i64 s.hg, .slice s.A s.nt s.cap], .int .i64 0], .agg #[.int .i64 s.wd, .int .i64 s.hg, .slice s.A s.nt s.cap], .tuple #[.agg #[.int .i64 s.wd, .int .i64 s.hg, .slice s.A s.nt s.cap], .int .i64 0], .agg #[.int .i64 s.wd, .int .i64 s.hg, .slice s.A s.nt s.cap], .int .i64 0, .int .i64 0, .bool false, undef, .agg #[.int .i64 s.wd, .int .i64 s.hg, .slice s.A s.nt s.cap], .func (.func 111) #[] #[.pointer (some ⟨w1.heap.size + 1 + 1, 0, none⟩)], .agg #[.int .i64 t, .int .i64 j], .agg #[.int .i64 s.wd, .int .i64 s.hg, .slice s.A s.nt s.cap], .agg #[.int .i64 t, .int .i64 j], .func (.func 102) #[] #[.pointer (some ⟨W.heap.size + 1, 0, none⟩), .pointer (some ⟨W.heap.size + 1 + 1, 0, none⟩)], .int .i64 x.1, undef, undef, undef, undef, undef, undef, undef, undef, undef, undef, undef, undef, undef, undef, undef, undef, undef, undef], defers := [] }) (fun _ _ _ _ _ _ h _ _ => h) ?hassign2 ?hbody2 ?hdone2 ?hstop2
    case hI2 =>
      rintro pre2 W' W'' row q hg hr
      exact q.keptN hg hr (by omega)
    case hassign2 =>
      rintro l2 pre2 x W' K hI hK
      gi_wp2
      exact hK _ _ (KeepsFrom.refl _ _) (KpB.refl _ _ _) hI rfl
    case hbody2 =>
      rintro l2 pre2 ⟨c, hc⟩ a2 W' - - q rfl -
      obtain ⟨d0, d1, d2, d3, d4⟩ := blk2 q.bk
      obtain ⟨e0, e1, e2⟩ := blk1 q.fr
      obtain ⟨x0, x1, x2, x3, -, -, -⟩ := blk3 q.fo.pile
      have hap : ∀ bb, ((pre2 ++ [(⟨c, hc⟩ : Cell (s.cn t))]).map (·.1)).all (fun c => !covB s ((t : Int) + 1) c) = bb ↔ ((pre2.map (·.1)).all (fun c => !covB s ((t : Int) + 1) c) && !covB s ((t : Int) + 1) c) = bb := by
        intro bb; rw [List.map_append, List.all_append]; simp
      have HAP := hide hap
      have HCV := hide (covered_any s ((t : Int) + 1) c W' ((HSS.out.below q.fo.below (Nat.le_refl _)).more q.fo.below.size) (fun k _ hkn => by rw [HCN.out k t hkn ht]; exact hc))
      have w2 : IntKind.i64.wrap ((t : Int) + 1) = (t : Int) + 1 := IntWalk.i64_in _ (by omega)
      clear hap hst
      generalize hok : ((pre2.map (·.1)).all fun c => !covB s ((t : Int) + 1) c) = ok at q HAP e1
      generalize hcv : covB s ((t : Int) + 1) c = cv at HAP HCV
      have Q := hide q
      have HST := hide (fun W5 (hb : Below W'.heap.size W' W5) ok' => q.step hb (by omega) (by omega) (by omega) (by omega) (by omega) ok')
      clear q hok hcv
      rcases ok with _ | _
      · have HA := hide ((HAP.out false).2 rfl)
        gi_wp2_with fail
        obtain ⟨r1, r2, r3⟩ := HST.out _ (Below.refl _ _) false
        exact ⟨r1.from _, r2, by dsimp only; rw [HA.out]; exact r3⟩
      · rcases cv with _ | _
        · have HA := hide ((HAP.out true).2 rfl)
          gi_wp2_with (gi_at_call 94; refine (CallsIn.inRound l2 (CallsIn.inRound l (hwd HCV.out))).mono ?_; rintro e w5 ⟨rfl, hb5⟩; obtain ⟨f0, f1, f2⟩ := blk1 (Q.out.fr.ext hb5))
          obtain ⟨r1, r2, r3⟩ := HST.out _ hb5 true
          exact ⟨r1.from _, r2, by dsimp only; rw [HA.out]; exact r3⟩
        · have HA := hide ((HAP.out false).2 rfl)
          gi_wp2_with (gi_at_call 94; refine (CallsIn.inRound l2 (CallsIn.inRound l (hwd HCV.out))).mono ?_; rintro e w5 ⟨rfl, hb5⟩; obtain ⟨f0, f1, f2⟩ := blk1 (Q.out.fr.ext hb5))
          obtain ⟨r1, r2, r3⟩ := HST.out _ hb5 false
          exact ⟨r1.from _, r2, by dsimp only; rw [HA.out]; exact r3⟩
    case hdone2 =>
      rintro xs W5 hxs q
      rw [hxs, ← freeTo_all] at q
      replace q : FN w W4 W5 s w1.heap.size (w1.heap.size + 1) L W0.heap.size W.heap.size b (W.heap.size + 1 + 1) t j (freeB s (t, j)) := q
      have KF := hide (k4.trans q.kf)
      have hbw : Below w.heap.size W W5 := (HB9.out.mono z0).trans q.bw
      have HBW := hide hbw
      obtain ⟨e0, e1, e2⟩ := blk1 q.fr
      obtain ⟨d0, d1, d2, d3, d4⟩ := blk2 q.bk
      clear hst hxs hbw
      rcases hfr : freeB s (t, j) with _ | _
      · rw [hfr] at q e1 HG
        have Q := hide q
        clear q hfr
        gi_wp2_with fail
        exact HG.out _ (by rw [if_neg (by simp)]; exact Q.out.fo) KF.out HBW.out
      · rw [hfr] at q e1 HG
        obtain ⟨v, hv1, hv2⟩ := q.fo.box
        obtain ⟨A, c, rfl⟩ := own_shape hv2
        have Q := hide q
        have V1 := hide hv1
        have V2 := hide hv2
        obtain ⟨g0, g1, g2⟩ := blk1 hv1
        clear q hfr hv1 hv2
        gi_wp2_with (gi_at_builtin; refine wpListIn_append_own _ rfl _ _ 112 rfl w.heap.size 59 i0 (.agg #[.int .i64 0, .int .i64 0]) 2 16 Try.underlying112 hi hz0 hz1' hz2 rfl (by decide) _ _ _ rfl (World.ownsRow.alloc V2.out _) ⟨W5.heap.size, 0, none⟩ 1 1 [.int .i64 t, .int .i64 j] rfl rfl (cell_two_new _ _ _ _) (by simp [Value.oneCell']) (by unfold maxLen; omega) (by omega) (by have := Q.out.fo.below.size; simp; omega) ?_; intro v' w6 hown6 hg6 _; obtain ⟨A6, c6, rfl⟩ := own_shape hown6; obtain ⟨q1, q2, q3⟩ := Q.out.fo.push V1.out V2.out hg6 hown6 (by omega) (by omega); have hq0 : Blk w6 (w1.heap.size + 1) 112 #[.slice A L.length c] := Blk.grown (V1.out.alloc (.cells #[.int .i64 t, .int .i64 j] 59)) hg6 (fun e => own_blk_ne (World.ownsRow.alloc V2.out (.cells #[.int .i64 t, .int .i64 j] 59)) (V1.out.alloc (.cells #[.int .i64 t, .int .i64 j] 59)) (by decide) e.symm); obtain ⟨g0', g1', g2'⟩ := blk1 hq0; clear hown6 hg6 hq0)
        gi_wp2_with fail
        exact HG.out _ q3 (KF.out.trans (q1.from _)) (HBW.out.trans q2)
    case hstop2 =>
      rintro c pre2 W' hSp h
      exact h.elim
  case hdone =>
    rintro D xs W hD hxs h hK
    rw [hxs] at h
    replace h : FO w W s w1.heap.size (w1.heap.size + 1) (freeAsc s s.nt) := h
    obtain ⟨v, hv1, hv2⟩ := h.box
    have HBW := hide h.below
    have V1 := hide hv1
    have HK := hide hK
    have hDw : w.heap.size ≤ D := by omega
    obtain ⟨g0, g1, g2⟩ := blk1 hv1
    rcases OwnB.sbr hv2 with ⟨rfl, hl⟩ | ⟨g, cap, rfl, hg, hr⟩
    · have HL := hide hl
      clear hst F0 HB HB1 HC h hv1 hv2 hxs hl hK HLB HCN
      gi_wp2_with ((gi_at_call 95; refine (hwd (sortStable_nil _)).mono ?_; rintro e w2 ⟨rfl, rfl⟩))
      have hfd : (freeDn s s.nt).length = 0 := by rw [← freeAsc_len, HL.out]; rfl
      refine ⟨by simp, .inl ⟨_, _, rfl, run_takeDeferred HK.out, ?_⟩⟩
      refine ⟨.tuple #[.slice none 0 0, .int .i64 0], by simp [results, Try.results47, go_sem], ?_⟩
      exact ⟨none, 0, by rw [hfd], by rw [hfd]; exact ER.nil _ _ _ _ _, HBW.out.trans (belowK_b (w := w) (Nat.le_refl _) _ D _ _ hDw HK.out rfl rfl)⟩
    · have HR := hide hr
      have hlen : (freeAsc s s.nt).length ≤ 1440 := Nat.le_trans (List.length_filter_le _ _) HLB.out
      have HCS := hide (sortStable_any bkO g (freeAsc s s.nt).length cap (rowOf (freeAsc s s.nt)) W hr (by omega) (rowOf_ahead s HSS.out.1))
      have hgq : g ≠ w1.heap.size + 1 := fun e => by
        obtain ⟨cs, hc⟩ := hr.blk
        subst e
        exact hc.ne_ hv1 (by decide) rfl
      clear hst F0 HB HB1 HC h hv1 hv2 hxs hr hK HLB HCN
      gi_wp2_with ((gi_at_call 95; refine (hwd HCS.out).mono ?_; rintro e w2 ⟨rfl, f', hr2, hm2, hg2⟩; have V2 := hide (V1.out.grown hg2 (fun e => hgq (by injection e with e; exact e.symm))); obtain ⟨g0', g1', g2'⟩ := blk1 V2.out))
      have hDg : g ≠ D := fun e => by
        obtain ⟨cs, hc⟩ := HR.out.blk
        subst e
        have h1 := HK.out
        rw [show W.heap[g]? = some (.cells cs 59) from hc] at h1
        cases h1
      have hK2 : w2.heap[D]? = some (.deferred (some [])) := (hg2.block D (Array.getElem?_eq_some_iff.1 HK.out).1 (fun e => hDg (by injection e with e; exact e.symm))).trans HK.out
      have hB2 : Below w.heap.size w w2 := HBW.out.grown hg2 HBW.out.size (fun j hj => by injection hj with hj; omega)
      refine ⟨by simp, .inl ⟨_, _, rfl, run_takeDeferred hK2, ?_⟩⟩
      refine ⟨.tuple #[.slice (some ⟨g, 0, none⟩) (freeAsc s s.nt).length cap, .int .i64 0], by simp [results, Try.results47, go_sem], ?_⟩
      have hP := hr2.pi (x := fun k => (rowOf (freeDn s s.nt) k).1) (y := fun k => (rowOf (freeDn s s.nt) k).2) (fun k hk => free_sorted s hm2 hk)
      have hgp := grownBy_putObj' w2 D (.deferred none)
      have hP2 := hP.kept hgp (fun p hp => by injection hp with hp; subst hp; exact hDg)
      rw [freeAsc_len] at hP2 ⊢
      exact ⟨_, cap, rfl, hP2, hB2.trans (belowK_b (w := w) (Nat.le_refl _) _ D _ _ hDw hK2 rfl rfl)⟩
  case hstop =>
    rintro D c pre W hD hSp h hK
    exact h.elim
end Go.Proofs.Ytlhekifmkkgjlaa
/- The law's comparisons of lists: alike lists are told alike. -/
namespace Go.Proofs.Ytlhekifmkkgjlaa
open Go Go.RowKit Go.Shelf
set_option maxHeartbeats 2000000
set_option maxRecDepth 100000
theorem bricks_same (A B : Option Addr) (n c d : Nat) (x y : Nat → Int) (w : World) (hn : n ≤ maxLen) (hA : PI w w.heap.size A n x y) (hB : PI w w.heap.size B n x y) :
    Calls Try.prog 48 #[.slice A n c, .slice B n d] w fun e w' => e = .returned (.bool true) ∧ Below w.heap.size w w' := by
  unfold maxLen at hn
  have HA := hide hA
  have HB := hide hB
  clear hA hB
  go_enter Try.func48, Try.ntmps48
  go_wp2_with fail
  go_loopw [5] (fun i wr => ∃ k : Nat, i = .int .i64 k ∧ k ≤ n ∧ Hid (Below w.heap.size w wr)) (fun i _ => n - (intOf i).toNat)
  case atStart => exact ⟨0, rfl, by omega, hide (Below.refl _ _)⟩
  case round =>
    obtain ⟨k, rfl, hk, HW⟩ := hrel
    by_cases hlt : k < n
    · obtain ⟨ab, ao, hA, hab, a1, a2⟩ := HA.out.at_ hlt
      obtain ⟨bb, bo, hB, hbb, b1, b2⟩ := HB.out.at_ hlt
      subst hA hB
      have i1 : (0 : Int) ≤ (k : Int) := by omega
      have i2 : (k : Int) < (n : Int) := by omega
      have HSB : Hid (∀ W, Below w.heap.size w W → (W.cell? ⟨ab, ao + k * 2, none⟩ = some (.int .i64 (x k)) ∧ W.cell? ⟨ab, ao + k * 2 + 1, none⟩ = some (.int .i64 (y k))) ∧ W.cell? ⟨bb, bo + k * 2, none⟩ = some (.int .i64 (x k)) ∧ W.cell? ⟨bb, bo + k * 2 + 1, none⟩ = some (.int .i64 (y k))) := hide (fun W h => ⟨⟨(h.cell (p := ⟨ab, ao + k * 2, none⟩) hab).trans a1, (h.cell (p := ⟨ab, ao + k * 2 + 1, none⟩) hab).trans a2⟩, (h.cell (p := ⟨bb, bo + k * 2, none⟩) hbb).trans b1, (h.cell (p := ⟨bb, bo + k * 2 + 1, none⟩) hbb).trans b2⟩)
      clear a1 a2 b1 b2
      go_upto_region 6 with fail
      have Bd := hide (HW.out.trans ((Below.refl wr.heap.size wr).drew.mono HW.out.size))
      refine wp_region_J (fun W : World => (W.cell? ⟨ab, ao + k * 2, none⟩ = some (.int .i64 (x k)) ∧ W.cell? ⟨ab, ao + k * 2 + 1, none⟩ = some (.int .i64 (y k))) ∧ W.cell? ⟨bb, bo + k * 2, none⟩ = some (.int .i64 (x k)) ∧ W.cell? ⟨bb, bo + k * 2 + 1, none⟩ = some (.int .i64 (y k))) (by kernel_rfl) ?_
      generalize wr.drew = wd at Bd ⊢
      refine wpAnyJ_take 0 (v := ?_) (by first | exact hF | exact wideFn) (HSB.out _ Bd.out) rfl (by kernel_rfl) (by kernel_rfl) (by kernel_rfl) (by kernel_rfl) rfl ?_ (by first | exact fun _ _ _ h => h | exact fun _ _ _ h => hQ2 _ _ _ _ _ h) ?_
      rotate_left
      · intro W hSW
        simp only [List.getElem_toArray, List.getElem_cons_zero, List.getElem_cons_succ]
        (try dsimp only at hSW)
        go_simp
        with_reducible rfl
      (try simp only [List.getElem_toArray, List.getElem_cons_zero, List.getElem_cons_succ, Act.put, List.setIfInBounds_toArray, List.set_cons_zero, List.set_cons_succ])
      refine wpAnyJ_take 1 (v := ?_) (by first | exact hF | exact wideFn) (HSB.out _ Bd.out) rfl (by kernel_rfl) (by kernel_rfl) (by kernel_rfl) (by kernel_rfl) rfl ?_ (by first | exact fun _ _ _ h => h | exact fun _ _ _ h => hQ2 _ _ _ _ _ h) ?_
      rotate_left
      · intro W hSW
        simp only [List.getElem_toArray, List.getElem_cons_zero, List.getElem_cons_succ]
        (try dsimp only at hSW)
        go_simp
        with_reducible rfl
      (try simp only [List.getElem_toArray, List.getElem_cons_zero, List.getElem_cons_succ, Act.put, List.setIfInBounds_toArray, List.set_cons_zero, List.set_cons_succ])
      refine wpAnyJ_take 2 (v := ?_) (by first | exact hF | exact wideFn) (HSB.out _ Bd.out) rfl (by kernel_rfl) (by kernel_rfl) (by kernel_rfl) (by kernel_rfl) rfl ?_ (by first | exact fun _ _ _ h => h | exact fun _ _ _ h => hQ2 _ _ _ _ _ h) ?_
      rotate_left
      · intro W hSW
        simp only [List.getElem_toArray, List.getElem_cons_zero, List.getElem_cons_succ]
        (try dsimp only at hSW)
        go_simp
        with_reducible rfl
      (try simp only [List.getElem_toArray, List.getElem_cons_zero, List.getElem_cons_succ, Act.put, List.setIfInBounds_toArray, List.set_cons_zero, List.set_cons_succ])
      refine wpAnyJ_take 3 (v := ?_) (by first | exact hF | exact wideFn) (HSB.out _ Bd.out) rfl (by kernel_rfl) (by kernel_rfl) (by kernel_rfl) (by kernel_rfl) rfl ?_ (by first | exact fun _ _ _ h => h | exact fun _ _ _ h => hQ2 _ _ _ _ _ h) ?_
      rotate_left
      · intro W hSW
        simp only [List.getElem_toArray, List.getElem_cons_zero, List.getElem_cons_succ]
        (try dsimp only at hSW)
        go_simp
        with_reducible rfl
      (try simp only [List.getElem_toArray, List.getElem_cons_zero, List.getElem_cons_succ, Act.put, List.setIfInBounds_toArray, List.set_cons_zero, List.set_cons_succ])
      refine wpAnyJ_take 4 (v := ?_) (by first | exact hF | exact wideFn) (HSB.out _ Bd.out) rfl (by kernel_rfl) (by kernel_rfl) (by kernel_rfl) (by kernel_rfl) rfl ?_ (by first | exact fun _ _ _ h => h | exact fun _ _ _ h => hQ2 _ _ _ _ _ h) ?_
      rotate_left
      · intro W hSW
        simp only [List.getElem_toArray, List.getElem_cons_zero, List.getElem_cons_succ]
        (try dsimp only at hSW)
        go_simp
        with_reducible rfl
      (try simp only [List.getElem_toArray, List.getElem_cons_zero, List.getElem_cons_succ, Act.put, List.setIfInBounds_toArray, List.set_cons_zero, List.set_cons_succ])
      refine wpAnyJ_take 5 (v := ?_) (by first | exact hF | exact wideFn) (HSB.out _ Bd.out) rfl (by kernel_rfl) (by kernel_rfl) (by kernel_rfl) (by kernel_rfl) rfl ?_ (by first | exact fun _ _ _ h => h | exact fun _ _ _ h => hQ2 _ _ _ _ _ h) ?_
      rotate_left
      · intro W hSW
        simp only [List.getElem_toArray, List.getElem_cons_zero, List.getElem_cons_succ]
        (try dsimp only at hSW)
        go_simp
        with_reducible rfl
      (try simp only [List.getElem_toArray, List.getElem_cons_zero, List.getElem_cons_succ, Act.put, List.setIfInBounds_toArray, List.set_cons_zero, List.set_cons_succ])
      refine wpAnyJ_take 6 (v := ?_) (by first | exact hF | exact wideFn) (HSB.out _ Bd.out) rfl (by kernel_rfl) (by kernel_rfl) (by kernel_rfl) (by kernel_rfl) rfl ?_ (by first | exact fun _ _ _ h => h | exact fun _ _ _ h => hQ2 _ _ _ _ _ h) ?_
      rotate_left
      · intro W hSW
        simp only [List.getElem_toArray, List.getElem_cons_zero, List.getElem_cons_succ]
        (try dsimp only at hSW)
        go_simp
        with_reducible rfl
      (try simp only [List.getElem_toArray, List.getElem_cons_zero, List.getElem_cons_succ, Act.put, List.setIfInBounds_toArray, List.set_cons_zero, List.set_cons_succ])
      refine wpAnyJ_take 7 (v := ?_) (by first | exact hF | exact wideFn) (HSB.out _ Bd.out) rfl (by kernel_rfl) (by kernel_rfl) (by kernel_rfl) (by kernel_rfl) rfl ?_ (by first | exact fun _ _ _ h => h | exact fun _ _ _ h => hQ2 _ _ _ _ _ h) ?_
      rotate_left
      · intro W hSW
        simp only [List.getElem_toArray, List.getElem_cons_zero, List.getElem_cons_succ]
        (try dsimp only at hSW)
        go_simp
        with_reducible rfl
      (try simp only [List.getElem_toArray, List.getElem_cons_zero, List.getElem_cons_succ, Act.put, List.setIfInBounds_toArray, List.set_cons_zero, List.set_cons_succ])
      refine wpAnyJ_take 8 (v := ?_) (by first | exact hF | exact wideFn) (HSB.out _ Bd.out) rfl (by kernel_rfl) (by kernel_rfl) (by kernel_rfl) (by kernel_rfl) rfl ?_ (by first | exact fun _ _ _ h => h | exact fun _ _ _ h => hQ2 _ _ _ _ _ h) ?_
      rotate_left
      · intro W hSW
        simp only [List.getElem_toArray, List.getElem_cons_zero, List.getElem_cons_succ]
        (try dsimp only at hSW)
        go_simp
        with_reducible rfl
      (try simp only [List.getElem_toArray, List.getElem_cons_zero, List.getElem_cons_succ, Act.put, List.setIfInBounds_toArray, List.set_cons_zero, List.set_cons_succ])
      refine wpAnyJ_done (by kernel_rfl) ?_
      go_wp2_with fail
      go_roundw
      case rel => exact ⟨k + 1, by go_num, by omega, Bd⟩
      case measure => simp [intOf]; omega
    · obtain rfl : n = k := by omega
      go_wp2_with fail
      go_ret
      exact ⟨rfl, HW.out⟩
theorem loads_same (A B : Option Addr) (n c d : Nat) (x y : Nat → Int) (w : World) (hn : n ≤ maxLen) (hA : PI w w.heap.size A n x y) (hB : PI w w.heap.size B n x y) :
    Calls Try.prog 50 #[.slice A n c, .slice B n d] w fun e w' => e = .returned (.bool true) ∧ Below w.heap.size w w' := by
  unfold maxLen at hn
  have HA := hide hA
  have HB := hide hB
  clear hA hB
  go_enter Try.func50, Try.ntmps50
  go_wp2_with fail
  go_loopw [5] (fun i wr => ∃ k : Nat, i = .int .i64 k ∧ k ≤ n ∧ Hid (Below w.heap.size w wr)) (fun i _ => n - (intOf i).toNat)
  case atStart => exact ⟨0, rfl, by omega, hide (Below.refl _ _)⟩
  case round =>
    obtain ⟨k, rfl, hk, HW⟩ := hrel
    by_cases hlt : k < n
    · obtain ⟨ab, ao, hA, hab, a1, a2⟩ := HA.out.at_ hlt
      obtain ⟨bb, bo, hB, hbb, b1, b2⟩ := HB.out.at_ hlt
      subst hA hB
      have i1 : (0 : Int) ≤ (k : Int) := by omega
      have i2 : (k : Int) < (n : Int) := by omega
      have HSB : Hid (∀ W, Below w.heap.size w W → (W.cell? ⟨ab, ao + k * 2, none⟩ = some (.int .i64 (x k)) ∧ W.cell? ⟨ab, ao + k * 2 + 1, none⟩ = some (.int .i64 (y k))) ∧ W.cell? ⟨bb, bo + k * 2, none⟩ = some (.int .i64 (x k)) ∧ W.cell? ⟨bb, bo + k * 2 + 1, none⟩ = some (.int .i64 (y k))) := hide (fun W h => ⟨⟨(h.cell (p := ⟨ab, ao + k * 2, none⟩) hab).trans a1, (h.cell (p := ⟨ab, ao + k * 2 + 1, none⟩) hab).trans a2⟩, (h.cell (p := ⟨bb, bo + k * 2, none⟩) hbb).trans b1, (h.cell (p := ⟨bb, bo + k * 2 + 1, none⟩) hbb).trans b2⟩)
      clear a1 a2 b1 b2
      go_upto_region 6 with fail
      have Bd := hide (HW.out.trans ((Below.refl wr.heap.size wr).drew.mono HW.out.size))
      refine wp_region_J (fun W : World => (W.cell? ⟨ab, ao + k * 2, none⟩ = some (.int .i64 (x k)) ∧ W.cell? ⟨ab, ao + k * 2 + 1, none⟩ = some (.int .i64 (y k))) ∧ W.cell? ⟨bb, bo + k * 2, none⟩ = some (.int .i64 (x k)) ∧ W.cell? ⟨bb, bo + k * 2 + 1, none⟩ = some (.int .i64 (y k))) (by kernel_rfl) ?_
      generalize wr.drew = wd at Bd ⊢
      refine wpAnyJ_take 0 (v := ?_) (by first | exact hF | exact wideFn) (HSB.out _ Bd.out) rfl (by kernel_rfl) (by kernel_rfl) (by kernel_rfl) (by kernel_rfl) rfl ?_ (by first | exact fun _ _ _ h => h | exact fun _ _ _ h => hQ2 _ _ _ _ _ h) ?_
      rotate_left
      · intro W hSW
        simp only [List.getElem_toArray, List.getElem_cons_zero, List.getElem_cons_succ]
        (try dsimp only at hSW)
        go_simp
        with_reducible rfl
      (try simp only [List.getElem_toArray, List.getElem_cons_zero, List.getElem_cons_succ, Act.put, List.setIfInBounds_toArray, List.set_cons_zero, List.set_cons_succ])
      refine wpAnyJ_take 1 (v := ?_) (by first | exact hF | exact wideFn) (HSB.out _ Bd.out) rfl (by kernel_rfl) (by kernel_rfl) (by kernel_rfl) (by kernel_rfl) rfl ?_ (by first | exact fun _ _ _ h => h | exact fun _ _ _ h => hQ2 _ _ _ _ _ h) ?_
      rotate_left
      · intro W hSW
        simp only [List.getElem_toArray, List.getElem_cons_zero, List.getElem_cons_succ]
        (try dsimp only at hSW)
        go_simp
        with_reducible rfl
      (try simp only [List.getElem_toArray, List.getElem_cons_zero, List.getElem_cons_succ, Act.put, List.setIfInBounds_toArray, List.set_cons_zero, List.set_cons_succ])
      refine wpAnyJ_take 2 (v := ?_) (by first | exact hF | exact wideFn) (HSB.out _ Bd.out) rfl (by kernel_rfl) (by kernel_rfl) (by kernel_rfl) (by kernel_rfl) rfl ?_ (by first | exact fun _ _ _ h => h | exact fun _ _ _ h => hQ2 _ _ _ _ _ h) ?_
      rotate_left
      · intro W hSW
        simp only [List.getElem_toArray, List.getElem_cons_zero, List.getElem_cons_succ]
        (try dsimp only at hSW)
        go_simp
        with_reducible rfl
      (try simp only [List.getElem_toArray, List.getElem_cons_zero, List.getElem_cons_succ, Act.put, List.setIfInBounds_toArray, List.set_cons_zero, List.set_cons_succ])
      refine wpAnyJ_take 3 (v := ?_) (by first | exact hF | exact wideFn) (HSB.out _ Bd.out) rfl (by kernel_rfl) (by kernel_rfl) (by kernel_rfl) (by kernel_rfl) rfl ?_ (by first | exact fun _ _ _ h => h | exact fun _ _ _ h => hQ2 _ _ _ _ _ h) ?_
      rotate_left
      · intro W hSW
        simp only [List.getElem_toArray, List.getElem_cons_zero, List.getElem_cons_succ]
        (try dsimp only at hSW)
        go_simp
        with_reducible rfl
      (try simp only [List.getElem_toArray, List.getElem_cons_zero, List.getElem_cons_succ, Act.put, List.setIfInBounds_toArray, List.set_cons_zero, List.set_cons_succ])
      refine wpAnyJ_take 4 (v := ?_) (by first | exact hF | exact wideFn) (HSB.out _ Bd.out) rfl (by kernel_rfl) (by kernel_rfl) (by kernel_rfl) (by kernel_rfl) rfl ?_ (by first | exact fun _ _ _ h => h | exact fun _ _ _ h => hQ2 _ _ _ _ _ h) ?_
      rotate_left
      · intro W hSW
        simp only [List.getElem_toArray, List.getElem_cons_zero, List.getElem_cons_succ]
        (try dsimp only at hSW)
        go_simp
        with_reducible rfl
      (try simp only [List.getElem_toArray, List.getElem_cons_zero, List.getElem_cons_succ, Act.put, List.setIfInBounds_toArray, List.set_cons_zero, List.set_cons_succ])
      refine wpAnyJ_take 5 (v := ?_) (by first | exact hF | exact wideFn) (HSB.out _ Bd.out) rfl (by kernel_rfl) (by kernel_rfl) (by kernel_rfl) (by kernel_rfl) rfl ?_ (by first | exact fun _ _ _ h => h | exact fun _ _ _ h => hQ2 _ _ _ _ _ h) ?_
      rotate_left
      · intro W hSW
        simp only [List.getElem_toArray, List.getElem_cons_zero, List.getElem_cons_succ]
        (try dsimp only at hSW)
        go_simp
        with_reducible rfl
      (try simp only [List.getElem_toArray, List.getElem_cons_zero, List.getElem_cons_succ, Act.put, List.setIfInBounds_toArray, List.set_cons_zero, List.set_cons_succ])
      refine wpAnyJ_take 6 (v := ?_) (by first | exact hF | exact wideFn) (HSB.out _ Bd.out) rfl (by kernel_rfl) (by kernel_rfl) (by kernel_rfl) (by kernel_rfl) rfl ?_ (by first | exact fun _ _ _ h => h | exact fun _ _ _ h => hQ2 _ _ _ _ _ h) ?_
      rotate_left
      · intro W hSW
        simp only [List.getElem_toArray, List.getElem_cons_zero, List.getElem_cons_succ]
        (try dsimp only at hSW)
        go_simp
        with_reducible rfl
      (try simp only [List.getElem_toArray, List.getElem_cons_zero, List.getElem_cons_succ, Act.put, List.setIfInBounds_toArray, List.set_cons_zero, List.set_cons_succ])
      refine wpAnyJ_take 7 (v := ?_) (by first | exact hF | exact wideFn) (HSB.out _ Bd.out) rfl (by kernel_rfl) (by kernel_rfl) (by kernel_rfl) (by kernel_rfl) rfl ?_ (by first | exact fun _ _ _ h => h | exact fun _ _ _ h => hQ2 _ _ _ _ _ h) ?_
      rotate_left
      · intro W hSW
        simp only [List.getElem_toArray, List.getElem_cons_zero, List.getElem_cons_succ]
        (try dsimp only at hSW)
        go_simp
        with_reducible rfl
      (try simp only [List.getElem_toArray, List.getElem_cons_zero, List.getElem_cons_succ, Act.put, List.setIfInBounds_toArray, List.set_cons_zero, List.set_cons_succ])
      refine wpAnyJ_take 8 (v := ?_) (by first | exact hF | exact wideFn) (HSB.out _ Bd.out) rfl (by kernel_rfl) (by kernel_rfl) (by kernel_rfl) (by kernel_rfl) rfl ?_ (by first | exact fun _ _ _ h => h | exact fun _ _ _ h => hQ2 _ _ _ _ _ h) ?_
      rotate_left
      · intro W hSW
        simp only [List.getElem_toArray, List.getElem_cons_zero, List.getElem_cons_succ]
        (try dsimp only at hSW)
        go_simp
        with_reducible rfl
      (try simp only [List.getElem_toArray, List.getElem_cons_zero, List.getElem_cons_succ, Act.put, List.setIfInBounds_toArray, List.set_cons_zero, List.set_cons_succ])
      refine wpAnyJ_done (by kernel_rfl) ?_
      go_wp2_with fail
      go_roundw
      case rel => exact ⟨k + 1, by go_num, by omega, Bd⟩
      case measure => simp [intOf]; omega
    · obtain rfl : n = k := by omega
      go_wp2_with fail
      go_ret
      exact ⟨rfl, HW.out⟩
end Go.Proofs.Ytlhekifmkkgjlaa
/- Chapter 8: is a brick crushed (the closure of Crushed). -/
namespace Go.Proofs.Ytlhekifmkkgjlaa
open Go Go.RowKit Go.Shelf
attribute [local go_sem] Oper.semAt_some
set_option maxHeartbeats 4000000
set_option maxRecDepth 100000
/-- is a brick with load x crushed, where each of n cells bears b -/
def crushB (x : Nat × Nat) (n : Nat) (b : Int) : Bool := decide ((x.1 : Int) > (n * b) * x.2)
def crushP (s : Stk) (be : Nat → Int) (t i : Nat) : Bool := crushB ((LoadsL s t).getD i (0, 1)) (cellsTo (s.cf t) i (s.cn t)).length (be t)
theorem crushed1_any (lq pq bq z3 lb lo ln lc : Nat) (BA : Option Addr) (bn bc : Nat) (be : Nat → Int) (s : Stk) (t i : Nat) (x : Nat × Nat) (w : World) (ht : t < s.nt) (hi : i < ln) (hln : ln ≤ 1000000)
    (hl : Blk w lq 64 #[.slice (some ⟨z3, 0, none⟩) s.nt s.nt]) (hp : PileB w pq s) (hb : Blk w bq 56 #[.slice BA bn bc]) (hs : StkR w w.heap.size s) (hz3 : z3 < w.heap.size) (hlb : lb < w.heap.size)
    (hrow : w.cell? ⟨z3, t, none⟩ = some (.slice (some ⟨lb, lo, none⟩) ln lc)) (hx1 : w.cell? ⟨lb, lo + i * 2, none⟩ = some (.int .i64 x.1)) (hx2 : w.cell? ⟨lb, lo + i * 2 + 1, none⟩ = some (.int .i64 x.2)) (hok : LdOk x)
    (hbe : IR w w.heap.size BA bn be) (htb : t < bn) (hbn : bn ≤ 1000000) (hb0 : 0 ≤ be t) (hb1 : be t ≤ 1000000) (hcn : s.cn t ≤ 144) :
    Calls Try.prog 68 #[.agg #[.int .i64 t, .int .i64 i], .pointer (some ⟨lq, 0, none⟩), .pointer (some ⟨pq, 0, none⟩), .pointer (some ⟨bq, 0, none⟩)] w fun e w' => e = .returned (.bool (crushB x (cellsTo (s.cf t) i (s.cn t)).length (be t))) ∧ Below w.heap.size w w' := by
  refine (callsIn_wide (n := 9)).1 ?_
  obtain ⟨F, hFw⟩ : ∃ F : Fence, F = Fence.wide := ⟨_, rfl⟩
  rw [← hFw]
  have hF : ∀ f, F.fn f := by rw [hFw]; exact fun _ => trivial
  have hro : F.round = none := by rw [hFw]; rfl
  have hwd : ∀ {n f args w R}, Calls Try.prog f args w R → CallsIn F n Try.prog f args w R := by rw [hFw]; exact fun h => callsIn_wide.2 h
  have HF := hide hFw
  clear hFw
  refine callsIn_of_wp_marks Try.func68 rfl (hF _) ?_ hro
  simp only [Try.ntmps68, List.size_toArray, List.length_cons, List.length_nil, Nat.reduceAdd, Nat.reduceSub, Array.replicate_succ, Array.replicate_zero, List.push_toArray, List.append_toArray, List.nil_append, List.cons_append]
  gi_wp2_with fail
  have HB := hide ((Below.refl w.heap.size w).alloc (Nat.le_refl _) (.cells #[.int .i64 t, .int .i64 i] 59))
  have HBR := hide (Blk.new w 59 #[.int .i64 t, .int .i64 i])
  have hz0 : (w.alloc (.cells #[.int .i64 t, .int .i64 i] 59)).heap.size = w.heap.size + 1 := by simp
  generalize (w.alloc (.cells #[.int .i64 t, .int .i64 i] 59)) = W1 at HB HBR hz0 ⊢
  have HZ := hide hz0
  generalize hb0 : w.heap.size = b0 at HBR hz0 ⊢
  have HS : Hid (∀ W, Below W1.heap.size W1 W → W.cell? ⟨lq, 0, none⟩ = some (.slice (some ⟨z3, 0, none⟩) s.nt s.nt) ∧ W.cell? ⟨b0, 0, none⟩ = some (.int .i64 t) ∧ W.cell? ⟨b0, 1, none⟩ = some (.int .i64 i) ∧ W.cell? ⟨z3, t, none⟩ = some (.slice (some ⟨lb, lo, none⟩) ln lc) ∧ W.cell? ⟨lb, lo + i * 2, none⟩ = some (.int .i64 x.1) ∧ W.cell? ⟨lb, lo + i * 2 + 1, none⟩ = some (.int .i64 x.2)) := hide (fun W h => by
    have h1 : Below w.heap.size w W := HB.out.trans (h.mono (by omega))
    obtain ⟨d1, d2, d3, -, -⟩ := blk2 (HBR.out.ext h)
    obtain ⟨e1, e2, e3⟩ := blk1 (hl.ext h1)
    exact ⟨e2, d2, d3, (h1.cell (p := ⟨z3, t, none⟩) hz3).trans hrow, (h1.cell (p := ⟨lb, lo + i * 2, none⟩) hlb).trans hx1, (h1.cell (p := ⟨lb, lo + i * 2 + 1, none⟩) hlb).trans hx2⟩)
  have i1 : (0 : Int) ≤ (t : Int) := by omega
  have i2 : (t : Int) < (s.nt : Int) := by omega
  have i3 : (0 : Int) ≤ (i : Int) := by omega
  have i4 : (i : Int) < (ln : Int) := by omega
  have HL := hide hl
  have HP := hide hp
  have HBB := hide hb
  have HSS := hide hs
  have HBE := hide hbe
  clear hl hp hb hs hbe hrow hx1 hx2 hb0
  refine wpIn_cut (fun a a' w' => ∃ g6 g7, a' = ({ tmps := #[.agg #[.int .i64 t, .int .i64 i], .pointer (some ⟨lq, 0, none⟩), .pointer (some ⟨pq, 0, none⟩), .pointer (some ⟨bq, 0, none⟩), .pointer (some ⟨b0, 0, none⟩), .bool false, .pointer (some ⟨g6, 0, none⟩), .pointer (some ⟨g7, 0, none⟩), .slice (some ⟨z3, 0, none⟩) s.nt s.nt, .pointer (some ⟨b0, 0, none⟩), .int .i64 t, .pointer (some ⟨z3, t, none⟩), .slice (some ⟨lb, lo, none⟩) ln lc, .pointer (some ⟨b0, 1, none⟩), .int .i64 i, .pointer (some ⟨lb, lo + i * 2, none⟩), .agg #[.int .i64 x.1, .int .i64 x.2], undef, undef, undef, undef, undef, undef, undef, undef, undef, undef, undef, undef, undef, undef, undef, undef, undef, undef], defers := [] } : Act) ∧ Hid (Blk w' g6 3 #[.int .i64 0]) ∧ Hid (Blk w' g7 76 #[.int .i64 x.1, .int .i64 x.2]) ∧ g6 ≠ g7 ∧ W1.heap.size ≤ g6 ∧ W1.heap.size ≤ g7 ∧ Hid (Below W1.heap.size W1 w')) ?_ ?_
  · have Bd := hide (Below.refl W1.heap.size W1).drew
    refine wpIn_region_J (fun W : World => W.cell? ⟨lq, 0, none⟩ = some (.slice (some ⟨z3, 0, none⟩) s.nt s.nt) ∧ W.cell? ⟨b0, 0, none⟩ = some (.int .i64 t) ∧ W.cell? ⟨b0, 1, none⟩ = some (.int .i64 i) ∧ W.cell? ⟨z3, t, none⟩ = some (.slice (some ⟨lb, lo, none⟩) ln lc) ∧ W.cell? ⟨lb, lo + i * 2, none⟩ = some (.int .i64 x.1) ∧ W.cell? ⟨lb, lo + i * 2 + 1, none⟩ = some (.int .i64 x.2)) (by kernel_rfl) ?_
    refine wpAnyJ_take 0 (v := ?_) (by first | exact hF | exact wideFn) (HS.out _ Bd.out) rfl (by kernel_rfl) (by kernel_rfl) (by kernel_rfl) (by kernel_rfl) rfl ?_ (by first | exact fun _ _ _ h => h | exact fun _ _ _ h => hQ2 _ _ _ _ _ h) ?_
    rotate_left
    · intro W hSW
      simp only [List.getElem_toArray, List.getElem_cons_zero, List.getElem_cons_succ]
      (try dsimp only at hSW)
      go_simp
      with_reducible rfl
    (try simp only [List.getElem_toArray, List.getElem_cons_zero, List.getElem_cons_succ, Act.put, List.setIfInBounds_toArray, List.set_cons_zero, List.set_cons_succ])
    refine wpAnyJ_take 1 (v := ?_) (by first | exact hF | exact wideFn) (HS.out _ Bd.out) rfl (by kernel_rfl) (by kernel_rfl) (by kernel_rfl) (by kernel_rfl) rfl ?_ (by first | exact fun _ _ _ h => h | exact fun _ _ _ h => hQ2 _ _ _ _ _ h) ?_
    rotate_left
    · intro W hSW
      simp only [List.getElem_toArray, List.getElem_cons_zero, List.getElem_cons_succ]
      (try dsimp only at hSW)
      go_simp
      with_reducible rfl
    (try simp only [List.getElem_toArray, List.getElem_cons_zero, List.getElem_cons_succ, Act.put, List.setIfInBounds_toArray, List.set_cons_zero, List.set_cons_succ])
    refine wpAnyJ_take 2 (v := ?_) (by first | exact hF | exact wideFn) (HS.out _ Bd.out) rfl (by kernel_rfl) (by kernel_rfl) (by kernel_rfl) (by kernel_rfl) rfl ?_ (by first | exact fun _ _ _ h => h | exact fun _ _ _ h => hQ2 _ _ _ _ _ h) ?_
    rotate_left
    · intro W hSW
      simp only [List.getElem_toArray, List.getElem_cons_zero, List.getElem_cons_succ]
      (try dsimp only at hSW)
      go_simp
      with_reducible rfl
    (try simp only [List.getElem_toArray, List.getElem_cons_zero, List.getElem_cons_succ, Act.put, List.setIfInBounds_toArray, List.set_cons_zero, List.set_cons_succ])
    refine wpAnyJ_take 3 (v := ?_) (by first | exact hF | exact wideFn) (HS.out _ Bd.out) rfl (by kernel_rfl) (by kernel_rfl) (by kernel_rfl) (by kernel_rfl) rfl ?_ (by first | exact fun _ _ _ h => h | exact fun _ _ _ h => hQ2 _ _ _ _ _ h) ?_
    rotate_left
    · intro W hSW
      simp only [List.getElem_toArray, List.getElem_cons_zero, List.getElem_cons_succ]
      (try dsimp only at hSW)
      go_simp
      with_reducible rfl
    (try simp only [List.getElem_toArray, List.getElem_cons_zero, List.getElem_cons_succ, Act.put, List.setIfInBounds_toArray, List.set_cons_zero, List.set_cons_succ])
    refine wpAnyJ_take 4 (v := ?_) (by first | exact hF | exact wideFn) (HS.out _ Bd.out) rfl (by kernel_rfl) (by kernel_rfl) (by kernel_rfl) (by kernel_rfl) rfl ?_ (by first | exact fun _ _ _ h => h | exact fun _ _ _ h => hQ2 _ _ _ _ _ h) ?_
    rotate_left
    · intro W hSW
      simp only [List.getElem_toArray, List.getElem_cons_zero, List.getElem_cons_succ]
      (try dsimp only at hSW)
      go_simp
      with_reducible rfl
    (try simp only [List.getElem_toArray, List.getElem_cons_zero, List.getElem_cons_succ, Act.put, List.setIfInBounds_toArray, List.set_cons_zero, List.set_cons_succ])
    refine wpAnyJ_take 5 (v := ?_) (by first | exact hF | exact wideFn) (HS.out _ Bd.out) rfl (by kernel_rfl) (by kernel_rfl) (by kernel_rfl) (by kernel_rfl) rfl ?_ (by first | exact fun _ _ _ h => h | exact fun _ _ _ h => hQ2 _ _ _ _ _ h) ?_
    rotate_left
    · intro W hSW
      simp only [List.getElem_toArray, List.getElem_cons_zero, List.getElem_cons_succ]
      (try dsimp only at hSW)
      go_simp
      with_reducible rfl
    (try simp only [List.getElem_toArray, List.getElem_cons_zero, List.getElem_cons_succ, Act.put, List.setIfInBounds_toArray, List.set_cons_zero, List.set_cons_succ])
    refine wpAnyJ_take 6 (v := ?_) (by first | exact hF | exact wideFn) (HS.out _ Bd.out) rfl (by kernel_rfl) (by kernel_rfl) (by kernel_rfl) (by kernel_rfl) rfl ?_ (by first | exact fun _ _ _ h => h | exact fun _ _ _ h => hQ2 _ _ _ _ _ h) ?_
    rotate_left
    · intro W hSW
      simp only [List.getElem_toArray, List.getElem_cons_zero, List.getElem_cons_succ]
      (try dsimp only at hSW)
      go_simp
      with_reducible rfl
    (try simp only [List.getElem_toArray, List.getElem_cons_zero, List.getElem_cons_succ, Act.put, List.setIfInBounds_toArray, List.set_cons_zero, List.set_cons_succ])
    refine wpAnyJ_take 7 (v := ?_) (by first | exact hF | exact wideFn) (HS.out _ Bd.out) rfl (by kernel_rfl) (by kernel_rfl) (by kernel_rfl) (by kernel_rfl) rfl ?_ (by first | exact fun _ _ _ h => h | exact fun _ _ _ h => hQ2 _ _ _ _ _ h) ?_
    rotate_left
    · intro W hSW
      simp only [List.getElem_toArray, List.getElem_cons_zero, List.getElem_cons_succ]
      (try dsimp only at hSW)
      go_simp
      with_reducible rfl
    (try simp only [List.getElem_toArray, List.getElem_cons_zero, List.getElem_cons_succ, Act.put, List.setIfInBounds_toArray, List.set_cons_zero, List.set_cons_succ])
    refine wpAnyJ_take 8 (v := ?_) (by first | exact hF | exact wideFn) (HS.out _ Bd.out) rfl (by kernel_rfl) (by kernel_rfl) (by kernel_rfl) (by kernel_rfl) rfl ?_ (by first | exact fun _ _ _ h => h | exact fun _ _ _ h => hQ2 _ _ _ _ _ h) ?_
    rotate_left
    · intro W hSW
      simp only [List.getElem_toArray, List.getElem_cons_zero, List.getElem_cons_succ]
      (try dsimp only at hSW)
      go_simp
      with_reducible rfl
    (try simp only [List.getElem_toArray, List.getElem_cons_zero, List.getElem_cons_succ, Act.put, List.setIfInBounds_toArray, List.set_cons_zero, List.set_cons_succ])
    refine wpAnyJ_two 9 10 rfl rfl (by kernel_rfl) (fun K hK => ?_) (fun K hK => ?_)
    · simp only [List.getElem_toArray, List.getElem_cons_zero, List.getElem_cons_succ]
      go_simp
      refine hK.out _ _ (fun _ => HS.out _ (Bd.out.alloc Bd.out.size _)) ?_
      clear hK K
      (try simp only [List.getElem_toArray, List.getElem_cons_zero, List.getElem_cons_succ, Act.put, List.setIfInBounds_toArray, List.set_cons_zero, List.set_cons_succ])
      refine wpAnyJ_one 10 rfl (by kernel_rfl) (fun K hK => ?_)
      simp only [List.getElem_toArray, List.getElem_cons_zero, List.getElem_cons_succ]
      go_simp
      refine hK.out _ _ (fun _ => HS.out _ ((Bd.out.alloc Bd.out.size _).alloc (by simp) _)) ?_
      clear hK K
      (try simp only [List.getElem_toArray, List.getElem_cons_zero, List.getElem_cons_succ, Act.put, List.setIfInBounds_toArray, List.set_cons_zero, List.set_cons_succ])
      have hA : Blk ((W1.alloc (.cells #[.int .i64 0] 3)).alloc (.cells #[.int .i64 0, .int .i64 0] 76)).drew (b0 + 1) 3 #[.int .i64 0] := by have h := ((Blk.new W1 3 #[.int .i64 0]).alloc (.cells #[.int .i64 0, .int .i64 0] 76)).drew; simpa [hz0] using h
      have hC : Blk ((W1.alloc (.cells #[.int .i64 0] 3)).alloc (.cells #[.int .i64 0, .int .i64 0] 76)).drew (b0 + 1 + 1) 76 #[.int .i64 0, .int .i64 0] := by have h := (by simpa [hz0] using (Blk.new (W1.alloc (.cells #[.int .i64 0] 3)) 76 #[.int .i64 0, .int .i64 0]).drew); simpa [hz0] using h
      have hBb : Below W1.heap.size W1 ((W1.alloc (.cells #[.int .i64 0] 3)).alloc (.cells #[.int .i64 0, .int .i64 0] 76)).drew := ((Below.refl W1.heap.size W1).alloc (Nat.le_refl _) _).alloc (by simp) _ |>.drew
      have HA := hide hA
      have HC := hide hC
      have HBb := hide hBb
      clear hA hC hBb
      generalize ((W1.alloc (.cells #[.int .i64 0] 3)).alloc (.cells #[.int .i64 0, .int .i64 0] 76)).drew = W2 at HA HC HBb ⊢
      obtain ⟨p1, p2, p3⟩ := blk1 HA.out
      obtain ⟨q1, q2, q3, q4, q5⟩ := blk2 HC.out
      refine wpAnyJ_one 11 rfl (by kernel_rfl) (fun K hK => ?_)
      simp only [List.getElem_toArray, List.getElem_cons_zero, List.getElem_cons_succ]
      go_simp
      refine hK.out _ _ (fun _ => HS.out _ (HBb.out.setCell (p := ⟨(b0 + 1), 0, none⟩) (by simp only [hz0]; omega) _)) ?_
      clear hK K
      (try simp only [List.getElem_toArray, List.getElem_cons_zero, List.getElem_cons_succ, Act.put, List.setIfInBounds_toArray, List.set_cons_zero, List.set_cons_succ])
      refine wpAnyJ_one 12 rfl (by kernel_rfl) (fun K hK => ?_)
      simp only [List.getElem_toArray, List.getElem_cons_zero, List.getElem_cons_succ]
      go_simp
      refine hK.out _ _ (fun h => absurd h (by rw [show lastOp _ _ _ = true from by kernel_rfl]; simp)) ?_
      clear hK K
      (try simp only [List.getElem_toArray, List.getElem_cons_zero, List.getElem_cons_succ, Act.put, List.setIfInBounds_toArray, List.set_cons_zero, List.set_cons_succ])
      refine wpAnyJ_done (by kernel_rfl) ?_
      exact ⟨(b0 + 1), (b0 + 1 + 1), rfl, hide ((HA.out.set_ 0 (.int .i64 0)).far (by simp) _ |>.far (by simp) _), hide (((HC.out.far (by simp) _).set2 (.int .i64 x.1) (.int .i64 x.2))), by omega, by omega, by omega, hide (((HBb.out.setCell (p := ⟨(b0 + 1), 0, none⟩) (by simp only [hz0]; omega) _).setCell (p := ⟨(b0 + 1 + 1), 0, none⟩) (by simp only [hz0]; omega) _).setCell (p := ⟨(b0 + 1 + 1), 1, none⟩) (by simp only [hz0]; omega) _)⟩
    · simp only [List.getElem_toArray, List.getElem_cons_zero, List.getElem_cons_succ]
      go_simp
      refine hK.out _ _ (fun _ => HS.out _ (Bd.out.alloc Bd.out.size _)) ?_
      clear hK K
      (try simp only [List.getElem_toArray, List.getElem_cons_zero, List.getElem_cons_succ, Act.put, List.setIfInBounds_toArray, List.set_cons_zero, List.set_cons_succ])
      refine wpAnyJ_one 9 rfl (by kernel_rfl) (fun K hK => ?_)
      simp only [List.getElem_toArray, List.getElem_cons_zero, List.getElem_cons_succ]
      go_simp
      refine hK.out _ _ (fun _ => HS.out _ ((Bd.out.alloc Bd.out.size _).alloc (by simp) _)) ?_
      clear hK K
      (try simp only [List.getElem_toArray, List.getElem_cons_zero, List.getElem_cons_succ, Act.put, List.setIfInBounds_toArray, List.set_cons_zero, List.set_cons_succ])
      have hA : Blk ((W1.alloc (.cells #[.int .i64 0, .int .i64 0] 76)).alloc (.cells #[.int .i64 0] 3)).drew (b0 + 1 + 1) 3 #[.int .i64 0] := by have h := (by simpa [hz0] using (Blk.new (W1.alloc (.cells #[.int .i64 0, .int .i64 0] 76)) 3 #[.int .i64 0]).drew); simpa [hz0] using h
      have hC : Blk ((W1.alloc (.cells #[.int .i64 0, .int .i64 0] 76)).alloc (.cells #[.int .i64 0] 3)).drew (b0 + 1) 76 #[.int .i64 0, .int .i64 0] := by have h := ((Blk.new W1 76 #[.int .i64 0, .int .i64 0]).alloc (.cells #[.int .i64 0] 3)).drew; simpa [hz0] using h
      have hBb : Below W1.heap.size W1 ((W1.alloc (.cells #[.int .i64 0, .int .i64 0] 76)).alloc (.cells #[.int .i64 0] 3)).drew := ((Below.refl W1.heap.size W1).alloc (Nat.le_refl _) _).alloc (by simp) _ |>.drew
      have HA := hide hA
      have HC := hide hC
      have HBb := hide hBb
      clear hA hC hBb
      generalize ((W1.alloc (.cells #[.int .i64 0, .int .i64 0] 76)).alloc (.cells #[.int .i64 0] 3)).drew = W2 at HA HC HBb ⊢
      obtain ⟨p1, p2, p3⟩ := blk1 HA.out
      obtain ⟨q1, q2, q3, q4, q5⟩ := blk2 HC.out
      refine wpAnyJ_one 11 rfl (by kernel_rfl) (fun K hK => ?_)
      simp only [List.getElem_toArray, List.getElem_cons_zero, List.getElem_cons_succ]
      go_simp
      refine hK.out _ _ (fun _ => HS.out _ (HBb.out.setCell (p := ⟨(b0 + 1 + 1), 0, none⟩) (by simp only [hz0]; omega) _)) ?_
      clear hK K
      (try simp only [List.getElem_toArray, List.getElem_cons_zero, List.getElem_cons_succ, Act.put, List.setIfInBounds_toArray, List.set_cons_zero, List.set_cons_succ])
      refine wpAnyJ_one 12 rfl (by kernel_rfl) (fun K hK => ?_)
      simp only [List.getElem_toArray, List.getElem_cons_zero, List.getElem_cons_succ]
      go_simp
      refine hK.out _ _ (fun h => absurd h (by rw [show lastOp _ _ _ = true from by kernel_rfl]; simp)) ?_
      clear hK K
      (try simp only [List.getElem_toArray, List.getElem_cons_zero, List.getElem_cons_succ, Act.put, List.setIfInBounds_toArray, List.set_cons_zero, List.set_cons_succ])
      refine wpAnyJ_done (by kernel_rfl) ?_
      exact ⟨(b0 + 1 + 1), (b0 + 1), rfl, hide ((HA.out.set_ 0 (.int .i64 0)).far (by simp) _ |>.far (by simp) _), hide (((HC.out.far (by simp) _).set2 (.int .i64 x.1) (.int .i64 x.2))), by omega, by omega, by omega, hide (((HBb.out.setCell (p := ⟨(b0 + 1 + 1), 0, none⟩) (by simp only [hz0]; omega) _).setCell (p := ⟨(b0 + 1), 0, none⟩) (by simp only [hz0]; omega) _).setCell (p := ⟨(b0 + 1), 1, none⟩) (by simp only [hz0]; omega) _)⟩
  · rintro a' w2 ⟨g6, g7, rfl, HA, HC, hne, hg6, hg7, HB2⟩
    dsimp only
    have hB3 : Below w.heap.size w w2 := HB.out.trans (HB2.out.mono (by have := HZ.out; omega))
    have HB3 := hide hB3
    have HP2 := hide (Blk.ext HP.out hB3)
    have HBR2 := hide (HBR.out.ext HB2.out)
    have HQ2 := hide (HBB.out.ext hB3)
    have hg : w.heap.size < g6 ∧ w.heap.size < g7 ∧ w.heap.size < w2.heap.size := ⟨by have := HZ.out; omega, by have := HZ.out; omega, by have := HZ.out; have := HB2.out.size; omega⟩
    obtain ⟨x0, x1, x2, x3, -, -, -⟩ := blk3 HP2.out
    obtain ⟨d1, d2, d3, -, -⟩ := blk2 HBR2.out
    clear HS HB2 hB3
    gi_wp2_with (gi_at_call 69; refine (hwd (cells_any s t i _)).mono ?_; rintro e w3 ⟨rfl, rfl⟩)
    have k3 : PileB ((w2.alloc (.cells #[.int .i64 s.wd, .int .i64 s.hg, .slice s.A s.nt s.cap] 131)).alloc (.cells #[.int .i64 t, .int .i64 i] 59)) w2.heap.size s := (Blk.new w2 _ _).alloc _
    have k4 : Blk ((w2.alloc (.cells #[.int .i64 s.wd, .int .i64 s.hg, .slice s.A s.nt s.cap] 131)).alloc (.cells #[.int .i64 t, .int .i64 i] 59)) (w2.heap.size + 1) 59 #[.int .i64 t, .int .i64 i] := by simpa using Blk.new (w2.alloc (.cells #[.int .i64 s.wd, .int .i64 s.hg, .slice s.A s.nt s.cap] 131)) 59 #[.int .i64 t, .int .i64 i]
    have k5 : ((w2.alloc (.cells #[.int .i64 s.wd, .int .i64 s.hg, .slice s.A s.nt s.cap] 131)).alloc (.cells #[.int .i64 t, .int .i64 i] 59)).heap.size = w2.heap.size + 2 := by simp
    have kB : Below w2.heap.size w2 ((w2.alloc (.cells #[.int .i64 s.wd, .int .i64 s.hg, .slice s.A s.nt s.cap] 131)).alloc (.cells #[.int .i64 t, .int .i64 i] 59)) := ((Below.refl _ _).alloc (Nat.le_refl _) _).alloc (by simp) _
    generalize ((w2.alloc (.cells #[.int .i64 s.wd, .int .i64 s.hg, .slice s.A s.nt s.cap] 131)).alloc (.cells #[.int .i64 t, .int .i64 i] 59)) = W0 at k3 k4 k5 kB ⊢
    have k6 : Below w.heap.size w W0 := HB3.out.trans (kB.mono (by omega))
    have hst := cells_stops F (9 - 1) hF hro (by omega) w2.heap.size (w2.heap.size + 1) w.heap.size t i s W0 k3 k4 (by omega) (HSS.out.below k6 (Nat.le_refl _)) ht
    have HA0 := hide (HA.out.ext kB)
    have HC0 := hide (HC.out.ext kB)
    have HQ0 := hide (HQ2.out.ext kB)
    have HBR0 := hide (HBR2.out.ext kB)
    have h67 : g6 < w2.heap.size ∧ g7 < w2.heap.size ∧ b0 < w2.heap.size ∧ bq < w.heap.size := ⟨HA.out.lt, HC.out.lt, HBR2.out.lt, HBB.out.lt⟩
    have h6b : g6 ≠ b0 := by omega
    have hW0 : w.heap.size ≤ W0.heap.size := k6.size
    refine wpIn_rangeFunc_ownF hro (by omega) (gf := 102) (lb := #[.pointer (some ⟨w2.heap.size, 0, none⟩), .pointer (some ⟨w2.heap.size + 1, 0, none⟩)]) rfl (hF _) (enters_of Try.func102 (by kernel_rfl) rfl)
      hst KpB.trans (KpB.putObj (by omega) (by omega)) (Below.refl _ _) (fun _ => rfl)
      (fun pre W => Blk W g6 3 #[.int .i64 (pre.length * be t)] ∧ Blk W g7 76 #[.int .i64 x.1, .int .i64 x.2] ∧ Blk W bq 56 #[.slice BA bn bc] ∧ Blk W b0 59 #[.int .i64 t, .int .i64 i] ∧ Blk W (w2.heap.size + 1) 59 #[.int .i64 t, .int .i64 i] ∧ Below w.heap.size w W)
      (fun _ _ _ => False) ?hI (fun _ _ _ _ _ h _ _ => h) ⟨by simpa using HA0.out, HC0.out, HQ0.out, HBR0.out, k4, k6⟩
      (fun y => { tmps := #[.agg #[.int .i64 t, .int .i64 i], .pointer (some ⟨lq, 0, none⟩), .pointer (some ⟨pq, 0, none⟩), .pointer (some ⟨bq, 0, none⟩), .pointer (some ⟨b0, 0, none⟩), .bool false, .pointer (some ⟨g6, 0, none⟩), .pointer (some ⟨g7, 0, none⟩), .slice (some ⟨z3, 0, none⟩) s.nt s.nt, .pointer (some ⟨b0, 0, none⟩), .int .i64 t, .pointer (some ⟨z3, t, none⟩), .slice (some ⟨lb, lo, none⟩) ln lc, .pointer (some ⟨b0, 1, none⟩), .int .i64 i, .pointer (some ⟨lb, lo + i * 2, none⟩), .agg #[.int .i64 x.1, .int .i64 x.2], .agg #[.int .i64 s.wd, .int .i64 s.hg, .slice s.A s.nt s.cap], .agg #[.int .i64 t, .int .i64 i], .func (.func 102) #[] #[.pointer (some ⟨w2.heap.size, 0, none⟩), .pointer (some ⟨w2.heap.size + 1, 0, none⟩)], .int .i64 y.1, undef, undef, undef, undef, undef, undef, undef, undef, undef, undef, undef, undef, undef, undef], defers := [] }) ?hassign ?hbody ?hdone ?hstop
    case hI =>
      rintro pre W W' row ⟨h1, h2, h3, h4, h5, h6⟩ hg hr
      have hr' := fun r e => (hr r e).2
      exact ⟨h1.keptN hg hr', h2.keptN hg hr', h3.keptN hg hr', h4.keptN hg hr', h5.keptN hg hr', h6.trans ⟨hg.os, hg.tape, hg.output, hg.size, fun k hk => hg.block k (by have := h6.size; omega) (fun e => by have := (hr k e.symm).1; omega)⟩⟩
    case hassign =>
      intro l y W K hK
      gi_wp2
      exact hK
    case hbody =>
      rintro l pre y W ⟨h1, h2, h3, h4, h5, h6⟩ hlt
      dsimp only
      have hlen : pre.length + 1 ≤ 144 := by
        have h2 := cellsTo_len (s.cf t) i (s.cn t)
        omega
      obtain ⟨cb, coff, rfl, hcb, hcc⟩ := (HBE.out.below h6 (Nat.le_refl _)).at_ htb
      have hm := mul_bd (a := (pre.length : Int)) (b := be t) (M := 144) (N := 1000000) (by omega) (by omega) hb0 hb1
      have hw1 : IntKind.i64.wrap ((pre.length : Int) * be t + be t) = (((pre ++ [y]).length : Nat) : Int) * be t := by
        rw [IntWalk.i64_in _ (by omega), List.length_append]
        show _ = ((pre.length + 1 : Nat) : Int) * be t
        rw [Int.natCast_add, Int.add_mul]; omega
      obtain ⟨e1, e2, e3⟩ := blk1 h1
      obtain ⟨f1, f2, f3⟩ := blk1 h3
      obtain ⟨r1, r2, r3, -, -⟩ := blk2 h4
      have hHeld : W.drew.cell? ⟨g6, 0, none⟩ = some (.int .i64 (pre.length * be t)) ∧ W.drew.cell? ⟨bq, 0, none⟩ = some (.slice (some ⟨cb, coff, none⟩) bn bc) ∧ W.drew.cell? ⟨b0, 0, none⟩ = some (.int .i64 t) ∧ W.drew.cell? ⟨cb, coff + t, none⟩ = some (.int .i64 (be t)) := ⟨e2, f2, r2, hcc⟩
      have j1 : (t : Int) < (bn : Int) := by omega
      generalize hV : (((pre ++ [y]).length : Nat) : Int) * be t = V at hw1 ⊢
      have HV := hide hV
      generalize hU : (pre.length : Int) * be t = U at hw1 hHeld h1 e2
      have P1 := hide h1
      have P2 := hide h2
      have P3 := hide h3
      have P4 := hide h4
      have P5 := hide h5
      clear hst k3 k4 k5 k6 h1 h2 h3 h4 h5 e2 f2 r2 r3 hcc hm hU hV hlt HA0 HC0 HQ0 HBR0 d1 d2 d3 x0 x1 x2 x3
      gi_wp2_with fail
      refine wpIn_region_J (fun W' : World => W'.cell? ⟨g6, 0, none⟩ = some (.int .i64 U) ∧ W'.cell? ⟨bq, 0, none⟩ = some (.slice (some ⟨cb, coff, none⟩) bn bc) ∧ W'.cell? ⟨b0, 0, none⟩ = some (.int .i64 t) ∧ W'.cell? ⟨cb, coff + t, none⟩ = some (.int .i64 (be t))) (by kernel_rfl) ?_
      refine wpAnyJ_take 0 (v := ?_) (by first | exact hF | exact wideFn) hHeld rfl (by kernel_rfl) (by kernel_rfl) (by kernel_rfl) (by kernel_rfl) rfl ?_ (by first | exact fun _ _ _ h => h | exact fun _ _ _ h => hQ2 _ _ _ _ _ h) ?_
      rotate_left
      · intro W hSW
        simp only [List.getElem_toArray, List.getElem_cons_zero, List.getElem_cons_succ]
        (try dsimp only at hSW)
        go_simp
        with_reducible rfl
      (try simp only [List.getElem_toArray, List.getElem_cons_zero, List.getElem_cons_succ, Act.put, List.setIfInBounds_toArray, List.set_cons_zero, List.set_cons_succ])
      refine wpAnyJ_take 1 (v := ?_) (by first | exact hF | exact wideFn) hHeld rfl (by kernel_rfl) (by kernel_rfl) (by kernel_rfl) (by kernel_rfl) rfl ?_ (by first | exact fun _ _ _ h => h | exact fun _ _ _ h => hQ2 _ _ _ _ _ h) ?_
      rotate_left
      · intro W hSW
        simp only [List.getElem_toArray, List.getElem_cons_zero, List.getElem_cons_succ]
        (try dsimp only at hSW)
        go_simp
        with_reducible rfl
      (try simp only [List.getElem_toArray, List.getElem_cons_zero, List.getElem_cons_succ, Act.put, List.setIfInBounds_toArray, List.set_cons_zero, List.set_cons_succ])
      refine wpAnyJ_take 2 (v := ?_) (by first | exact hF | exact wideFn) hHeld rfl (by kernel_rfl) (by kernel_rfl) (by kernel_rfl) (by kernel_rfl) rfl ?_ (by first | exact fun _ _ _ h => h | exact fun _ _ _ h => hQ2 _ _ _ _ _ h) ?_
      rotate_left
      · intro W hSW
        simp only [List.getElem_toArray, List.getElem_cons_zero, List.getElem_cons_succ]
        (try dsimp only at hSW)
        go_simp
        with_reducible rfl
      (try simp only [List.getElem_toArray, List.getElem_cons_zero, List.getElem_cons_succ, Act.put, List.setIfInBounds_toArray, List.set_cons_zero, List.set_cons_succ])
      refine wpAnyJ_take 3 (v := ?_) (by first | exact hF | exact wideFn) hHeld rfl (by kernel_rfl) (by kernel_rfl) (by kernel_rfl) (by kernel_rfl) rfl ?_ (by first | exact fun _ _ _ h => h | exact fun _ _ _ h => hQ2 _ _ _ _ _ h) ?_
      rotate_left
      · intro W hSW
        simp only [List.getElem_toArray, List.getElem_cons_zero, List.getElem_cons_succ]
        (try dsimp only at hSW)
        go_simp
        with_reducible rfl
      (try simp only [List.getElem_toArray, List.getElem_cons_zero, List.getElem_cons_succ, Act.put, List.setIfInBounds_toArray, List.set_cons_zero, List.set_cons_succ])
      refine wpAnyJ_take 4 (v := ?_) (by first | exact hF | exact wideFn) hHeld rfl (by kernel_rfl) (by kernel_rfl) (by kernel_rfl) (by kernel_rfl) rfl ?_ (by first | exact fun _ _ _ h => h | exact fun _ _ _ h => hQ2 _ _ _ _ _ h) ?_
      rotate_left
      · intro W hSW
        simp only [List.getElem_toArray, List.getElem_cons_zero, List.getElem_cons_succ]
        (try dsimp only at hSW)
        go_simp
        with_reducible rfl
      (try simp only [List.getElem_toArray, List.getElem_cons_zero, List.getElem_cons_succ, Act.put, List.setIfInBounds_toArray, List.set_cons_zero, List.set_cons_succ])
      refine wpAnyJ_take 5 (v := ?_) (by first | exact hF | exact wideFn) hHeld rfl (by kernel_rfl) (by kernel_rfl) (by kernel_rfl) (by kernel_rfl) rfl ?_ (by first | exact fun _ _ _ h => h | exact fun _ _ _ h => hQ2 _ _ _ _ _ h) ?_
      rotate_left
      · intro W hSW
        simp only [List.getElem_toArray, List.getElem_cons_zero, List.getElem_cons_succ]
        (try dsimp only at hSW)
        go_simp
        with_reducible rfl
      (try simp only [List.getElem_toArray, List.getElem_cons_zero, List.getElem_cons_succ, Act.put, List.setIfInBounds_toArray, List.set_cons_zero, List.set_cons_succ])
      refine wpAnyJ_take 6 (v := ?_) (by first | exact hF | exact wideFn) hHeld rfl (by kernel_rfl) (by kernel_rfl) (by kernel_rfl) (by kernel_rfl) rfl ?_ (by first | exact fun _ _ _ h => h | exact fun _ _ _ h => hQ2 _ _ _ _ _ h) ?_
      rotate_left
      · intro W hSW
        simp only [List.getElem_toArray, List.getElem_cons_zero, List.getElem_cons_succ]
        (try dsimp only at hSW)
        go_simp
        with_reducible rfl
      (try simp only [List.getElem_toArray, List.getElem_cons_zero, List.getElem_cons_succ, Act.put, List.setIfInBounds_toArray, List.set_cons_zero, List.set_cons_succ])
      refine wpAnyJ_one 7 rfl (by kernel_rfl) (fun K hK => ?_)
      simp only [List.getElem_toArray, List.getElem_cons_zero, List.getElem_cons_succ]
      go_simp
      refine hK.out _ _ (fun h => absurd h (by rw [show lastOp _ _ _ = true from by kernel_rfl]; simp)) ?_
      clear hK K
      (try simp only [List.getElem_toArray, List.getElem_cons_zero, List.getElem_cons_succ, Act.put, List.setIfInBounds_toArray, List.set_cons_zero, List.set_cons_succ])
      refine wpAnyJ_done (by kernel_rfl) ?_
      gi_wp2_with fail
      have hbd : Below w.heap.size W (W.drew.setCell ⟨g6, 0, none⟩ (.int .i64 V)) := ((Below.refl _ _).drew).setCell (by show w.heap.size ≤ g6; omega) _
      refine ⟨(keepsO ((Below.refl _ _).drew)).trans (KeepsOthers.setCell _ _ _), ⟨hbd, (P5.out.drew.far (p := ⟨g6, 0, none⟩) (by show w2.heap.size + 1 ≠ g6; omega) _).trans P5.out.symm⟩, ?_, P2.out.drew.far (p := ⟨g6, 0, none⟩) (Ne.symm hne) _, P3.out.drew.far (p := ⟨g6, 0, none⟩) (by show bq ≠ g6; omega) _, P4.out.drew.far (p := ⟨g6, 0, none⟩) (Ne.symm h6b) _, P5.out.drew.far (p := ⟨g6, 0, none⟩) (by show w2.heap.size + 1 ≠ g6; omega) _, h6.trans hbd⟩
      rw [HV.out]
      exact P1.out.drew.set_ 0 (.int .i64 V)
    case hdone =>
      rintro D xs W hD hxs ⟨h1, h2, h3, h4, h5, h6⟩ hK
      dsimp only
      have hlx : xs.length = (cellsTo (s.cf t) i (s.cn t)).length := by rw [← hxs, List.length_map]
      rw [hlx] at h1
      have hn144 : (cellsTo (s.cf t) i (s.cn t)).length ≤ 144 := by
        have h2 := cellsTo_len (s.cf t) i (s.cn t)
        omega
      obtain ⟨o1, o2, o3⟩ := hok
      generalize hN : (cellsTo (s.cf t) i (s.cn t)).length = N at h1 hn144
      have hm := mul_bd (a := (N : Int)) (b := be t) (M := 144) (N := 1000000) (by omega) (by omega) hb0 hb1
      have hm2 := mul_bd (a := (N : Int) * be t) (b := (x.2 : Int)) (M := 144 * 1000000) (N := 1000000000) (by omega) (by omega) (by omega) (by omega)
      have hw1 : IntKind.i64.wrap ((N : Int) * be t * x.2) = (N : Int) * be t * x.2 := IntWalk.i64_in _ (by omega)
      obtain ⟨e1, e2, e3⟩ := blk1 h1
      obtain ⟨r1, r2, r3, -, -⟩ := blk2 h2
      have HN := hide hN
      have H6 := hide h6
      clear hst k3 k4 k5 k6 h1 h2 h3 h4 h5 hlx hxs hN h6 hm hm2 HA0 HC0 HQ0 HBR0 d1 d2 d3 x0 x1 x2 x3
      gi_wp2_with fail
      refine ⟨by simp, .inl ⟨_, _, rfl, run_takeDeferred hK, ?_⟩⟩
      refine ⟨.bool (decide ((N : Int) * be t * x.2 < x.1)), by simp [results, Try.results68, go_sem], ?_⟩
      exact ⟨by rw [HN.out]; rfl, H6.out.trans (belowK_b (w := w) (Nat.le_refl _) _ D _ _ (by omega) hK rfl rfl)⟩
    case hstop =>
      rintro D c pre W hD hSp h hK
      exact h.elim
end Go.Proofs.Ytlhekifmkkgjlaa
/- Chapter 8: Crushed. -/
namespace Go.Proofs.Ytlhekifmkkgjlaa
open Go Go.RowKit Go.Shelf
set_option maxHeartbeats 4000000
set_option maxRecDepth 100000
theorem Crushed_arg (BA : Option Addr) (bn bc : Nat) (be : Nat → Int) (s : Stk) (w : World) (hs : StkR w w.heap.size s) (hbe : IR w w.heap.size BA bn be) (hbn : bn ≤ 1000000) (h : stackB s = false) : Calls Try.prog 26 #[.agg #[.int .i64 s.wd, .int .i64 s.hg, .slice s.A s.nt s.cap], .slice BA bn bc] w fun e w' => e = .returned (.tuple #[.agg #[.int .i64 0, .int .i64 0], .int .i64 2]) ∧ Below w.heap.size w w' := by
  have he := stkE_no h
  have HB := hide ((((Below.refl w.heap.size w).alloc (Nat.le_refl _) (.cells #[.int .i64 s.wd, .int .i64 s.hg, .slice s.A s.nt s.cap] 55)).alloc (by simp) (.cells #[.slice BA bn bc] 56)).alloc (by simp only [World.size_alloc]; omega) (.cells #[.int .i64 0, .int .i64 0] 59))
  have KS := hide (((Blk.new w 55 #[.int .i64 s.wd, .int .i64 s.hg, .slice s.A s.nt s.cap]).alloc (.cells #[.slice BA bn bc] 56)).alloc (.cells #[.int .i64 0, .int .i64 0] 59))
  have KB := hide (show Blk (((w.alloc (.cells #[.int .i64 s.wd, .int .i64 s.hg, .slice s.A s.nt s.cap] 55)).alloc (.cells #[.slice BA bn bc] 56)).alloc (.cells #[.int .i64 0, .int .i64 0] 59)) (w.heap.size + 1) 56 #[.slice BA bn bc] from by simpa using (Blk.new (w.alloc (.cells #[.int .i64 s.wd, .int .i64 s.hg, .slice s.A s.nt s.cap] 55)) 56 #[.slice BA bn bc]).alloc (.cells #[.int .i64 0, .int .i64 0] 59))
  have KK := hide (show Blk (((w.alloc (.cells #[.int .i64 s.wd, .int .i64 s.hg, .slice s.A s.nt s.cap] 55)).alloc (.cells #[.slice BA bn bc] 56)).alloc (.cells #[.int .i64 0, .int .i64 0] 59)) (w.heap.size + 1 + 1) 59 #[.int .i64 0, .int .i64 0] from by simpa using Blk.new ((w.alloc (.cells #[.int .i64 s.wd, .int .i64 s.hg, .slice s.A s.nt s.cap] 55)).alloc (.cells #[.slice BA bn bc] 56)) 59 #[.int .i64 0, .int .i64 0])
  have HSS := hide hs
  have HBE := hide hbe
  clear hs hbe
  go_enter Try.func26, Try.ntmps26
  go_wp2_with fail
  generalize (((w.alloc (.cells #[.int .i64 s.wd, .int .i64 s.hg, .slice s.A s.nt s.cap] 55)).alloc (.cells #[.slice BA bn bc] 56)).alloc (.cells #[.int .i64 0, .int .i64 0] 59)) = W3 at HB KS KB KK ⊢
  refine (newPile_any s _ ((HSS.out.below HB.out (Nat.le_refl _)).more HB.out.size)).mono ?_
  rintro e w1 ⟨rfl, hb1⟩
  have HB1 := hide (HB.out.trans (hb1.mono HB.out.size))
  have KS1 := hide (KS.out.ext hb1)
  have KB1 := hide (KB.out.ext hb1)
  have KK1 := hide (KK.out.ext hb1)
  obtain ⟨a0, a1, a2, a3, a4, a5, a6⟩ := blk3 KS1.out
  obtain ⟨b0, b1, b2⟩ := blk1 KB1.out
  obtain ⟨c0, c1, c2, c3, c4⟩ := blk2 KK1.out
  clear hb1 KS KB KK HB
  rw [he]
  clear he h
  go_wp2_with fail
  refine bodyPost_ret (v := .tuple #[.agg #[.int .i64 0, .int .i64 0], .int .i64 2]) (by simp [results, Try.results26, go_sem, *]) rfl ⟨rfl, ?_⟩
  exact (set2B HB1.out (by omega) _ _).alloc (by have := HB1.out.size; simp [size_set]; omega) _
theorem Crushed_form (BA : Option Addr) (bn bc : Nat) (be : Nat → Int) (s : Stk) (w : World) (hs : StkR w w.heap.size s) (hbe : IR w w.heap.size BA bn be) (hbn : bn ≤ 1000000) (h : stackB s = true) (hf : bn ≠ s.nt) : Calls Try.prog 26 #[.agg #[.int .i64 s.wd, .int .i64 s.hg, .slice s.A s.nt s.cap], .slice BA bn bc] w fun e w' => e = .returned (.tuple #[.agg #[.int .i64 0, .int .i64 0], .int .i64 4]) ∧ Below w.heap.size w w' := by
  have he := stkE_ok h
  have hn := hs.1
  have HB := hide ((((Below.refl w.heap.size w).alloc (Nat.le_refl _) (.cells #[.int .i64 s.wd, .int .i64 s.hg, .slice s.A s.nt s.cap] 55)).alloc (by simp) (.cells #[.slice BA bn bc] 56)).alloc (by simp only [World.size_alloc]; omega) (.cells #[.int .i64 0, .int .i64 0] 59))
  have KS := hide (((Blk.new w 55 #[.int .i64 s.wd, .int .i64 s.hg, .slice s.A s.nt s.cap]).alloc (.cells #[.slice BA bn bc] 56)).alloc (.cells #[.int .i64 0, .int .i64 0] 59))
  have KB := hide (show Blk (((w.alloc (.cells #[.int .i64 s.wd, .int .i64 s.hg, .slice s.A s.nt s.cap] 55)).alloc (.cells #[.slice BA bn bc] 56)).alloc (.cells #[.int .i64 0, .int .i64 0] 59)) (w.heap.size + 1) 56 #[.slice BA bn bc] from by simpa using (Blk.new (w.alloc (.cells #[.int .i64 s.wd, .int .i64 s.hg, .slice s.A s.nt s.cap] 55)) 56 #[.slice BA bn bc]).alloc (.cells #[.int .i64 0, .int .i64 0] 59))
  have KK := hide (show Blk (((w.alloc (.cells #[.int .i64 s.wd, .int .i64 s.hg, .slice s.A s.nt s.cap] 55)).alloc (.cells #[.slice BA bn bc] 56)).alloc (.cells #[.int .i64 0, .int .i64 0] 59)) (w.heap.size + 1 + 1) 59 #[.int .i64 0, .int .i64 0] from by simpa using Blk.new ((w.alloc (.cells #[.int .i64 s.wd, .int .i64 s.hg, .slice s.A s.nt s.cap] 55)).alloc (.cells #[.slice BA bn bc] 56)) 59 #[.int .i64 0, .int .i64 0])
  have HSS := hide hs
  have HBE := hide hbe
  clear hs hbe
  go_enter Try.func26, Try.ntmps26
  go_wp2_with fail
  generalize (((w.alloc (.cells #[.int .i64 s.wd, .int .i64 s.hg, .slice s.A s.nt s.cap] 55)).alloc (.cells #[.slice BA bn bc] 56)).alloc (.cells #[.int .i64 0, .int .i64 0] 59)) = W3 at HB KS KB KK ⊢
  refine (newPile_any s _ ((HSS.out.below HB.out (Nat.le_refl _)).more HB.out.size)).mono ?_
  rintro e w1 ⟨rfl, hb1⟩
  have HB1 := hide (HB.out.trans (hb1.mono HB.out.size))
  have KS1 := hide (KS.out.ext hb1)
  have KB1 := hide (KB.out.ext hb1)
  have KK1 := hide (KK.out.ext hb1)
  obtain ⟨a0, a1, a2, a3, a4, a5, a6⟩ := blk3 KS1.out
  obtain ⟨b0, b1, b2⟩ := blk1 KB1.out
  obtain ⟨c0, c1, c2, c3, c4⟩ := blk2 KK1.out
  clear hb1 KS KB KK HB
  rw [he]
  clear he h
  have hf2 : ((bn : Int) != (s.nt : Int)) = true := by simp; omega
  have hf3 : ¬ (bn : Int) = (s.nt : Int) := by omega
  go_wp2_with fail
  refine bodyPost_ret (v := .tuple #[.agg #[.int .i64 0, .int .i64 0], .int .i64 4]) (by simp [results, Try.results26, go_sem, *]) rfl ⟨rfl, ?_⟩
  exact (set2B HB1.out (by omega) _ _).alloc (by have := HB1.out.size; simp [size_set]; omega) _
theorem Crushed_range (BA : Option Addr) (bn bc : Nat) (be : Nat → Int) (s : Stk) (w : World) (hs : StkR w w.heap.size s) (hbe : IR w w.heap.size BA bn be) (hbn : bn ≤ 1000000) (h : stackB s = true) (hf : bn = s.nt) (hr : wiB 0 1000000 be bn = false) : Calls Try.prog 26 #[.agg #[.int .i64 s.wd, .int .i64 s.hg, .slice s.A s.nt s.cap], .slice BA bn bc] w fun e w' => e = .returned (.tuple #[.agg #[.int .i64 0, .int .i64 0], .int .i64 3]) ∧ Below w.heap.size w w' := by
  have he := stkE_ok h
  have hn := hs.1
  have HFN := hide hf
  clear hf
  have HB := hide ((((Below.refl w.heap.size w).alloc (Nat.le_refl _) (.cells #[.int .i64 s.wd, .int .i64 s.hg, .slice s.A s.nt s.cap] 55)).alloc (by simp) (.cells #[.slice BA bn bc] 56)).alloc (by simp only [World.size_alloc]; omega) (.cells #[.int .i64 0, .int .i64 0] 59))
  have KS := hide (((Blk.new w 55 #[.int .i64 s.wd, .int .i64 s.hg, .slice s.A s.nt s.cap]).alloc (.cells #[.slice BA bn bc] 56)).alloc (.cells #[.int .i64 0, .int .i64 0] 59))
  have KB := hide (show Blk (((w.alloc (.cells #[.int .i64 s.wd, .int .i64 s.hg, .slice s.A s.nt s.cap] 55)).alloc (.cells #[.slice BA bn bc] 56)).alloc (.cells #[.int .i64 0, .int .i64 0] 59)) (w.heap.size + 1) 56 #[.slice BA bn bc] from by simpa using (Blk.new (w.alloc (.cells #[.int .i64 s.wd, .int .i64 s.hg, .slice s.A s.nt s.cap] 55)) 56 #[.slice BA bn bc]).alloc (.cells #[.int .i64 0, .int .i64 0] 59))
  have KK := hide (show Blk (((w.alloc (.cells #[.int .i64 s.wd, .int .i64 s.hg, .slice s.A s.nt s.cap] 55)).alloc (.cells #[.slice BA bn bc] 56)).alloc (.cells #[.int .i64 0, .int .i64 0] 59)) (w.heap.size + 1 + 1) 59 #[.int .i64 0, .int .i64 0] from by simpa using Blk.new ((w.alloc (.cells #[.int .i64 s.wd, .int .i64 s.hg, .slice s.A s.nt s.cap] 55)).alloc (.cells #[.slice BA bn bc] 56)) 59 #[.int .i64 0, .int .i64 0])
  have HSS := hide hs
  have HBE := hide hbe
  clear hs hbe
  go_enter Try.func26, Try.ntmps26
  go_wp2_with fail
  generalize (((w.alloc (.cells #[.int .i64 s.wd, .int .i64 s.hg, .slice s.A s.nt s.cap] 55)).alloc (.cells #[.slice BA bn bc] 56)).alloc (.cells #[.int .i64 0, .int .i64 0] 59)) = W3 at HB KS KB KK ⊢
  refine (newPile_any s _ ((HSS.out.below HB.out (Nat.le_refl _)).more HB.out.size)).mono ?_
  rintro e w1 ⟨rfl, hb1⟩
  have HB1 := hide (HB.out.trans (hb1.mono HB.out.size))
  have KS1 := hide (KS.out.ext hb1)
  have KB1 := hide (KB.out.ext hb1)
  have KK1 := hide (KK.out.ext hb1)
  obtain ⟨a0, a1, a2, a3, a4, a5, a6⟩ := blk3 KS1.out
  obtain ⟨b0, b1, b2⟩ := blk1 KB1.out
  obtain ⟨c0, c1, c2, c3, c4⟩ := blk2 KK1.out
  clear hb1 KS KB KK HB
  rw [he]
  clear he h
  have hf2 : ((bn : Int) != (s.nt : Int)) = false := by simp [HFN.out]
  have HR := hide (fun W (hb : Below w.heap.size w W) => within_any 0 1000000 BA bn bc be W (by unfold maxLen; omega) ((HBE.out.below hb (Nat.le_refl _)).more hb.size))
  rw [hr] at HR
  clear hr
  go_wp2_with fail
  refine (HR.out _ (HB1.out.alloc HB1.out.size _)).mono ?_
  rintro e w2 ⟨rfl, hb2⟩
  have HB2 := hide ((HB1.out.alloc HB1.out.size (.cells #[.int .i64 s.wd, .int .i64 s.hg, .slice s.A s.nt s.cap] 131)).trans (hb2.mono (by have := HB1.out.size; simp only [World.size_alloc]; omega)))
  have KS2 := hide ((KS1.out.alloc (.cells #[.int .i64 s.wd, .int .i64 s.hg, .slice s.A s.nt s.cap] 131)).ext hb2)
  have KB2 := hide ((KB1.out.alloc (.cells #[.int .i64 s.wd, .int .i64 s.hg, .slice s.A s.nt s.cap] 131)).ext hb2)
  have KK2 := hide ((KK1.out.alloc (.cells #[.int .i64 s.wd, .int .i64 s.hg, .slice s.A s.nt s.cap] 131)).ext hb2)
  have KP2 := hide (Blk.ext (Blk.new w1 131 #[.int .i64 s.wd, .int .i64 s.hg, .slice s.A s.nt s.cap]) hb2)
  clear hb2 a0 a1 a2 a3 a4 a5 a6 b0 b1 b2 c0 c1 c2 c3 c4
  obtain ⟨a0, a1, a2, a3, a4, a5, a6⟩ := blk3 KS2.out
  obtain ⟨b0, b1, b2⟩ := blk1 KB2.out
  obtain ⟨c0, c1, c2, c3, c4⟩ := blk2 KK2.out
  go_wp2_with fail
  refine bodyPost_ret (v := .tuple #[.agg #[.int .i64 0, .int .i64 0], .int .i64 3]) (by simp [results, Try.results26, go_sem, *]) rfl ⟨rfl, ?_⟩
  exact set2B HB2.out (by omega) _ _
theorem Crushed_loads (BA : Option Addr) (bn bc : Nat) (be : Nat → Int) (s : Stk) (w : World) (hs : StkR w w.heap.size s) (hbe : IR w w.heap.size BA bn be) (hbn : bn ≤ 1000000) (E : Int) (hE : E ≠ 0) (h : stackB s = true) (hf : bn = s.nt) (hr : wiB 0 1000000 be bn = true)
    (hl : ∀ W, Below w.heap.size w W → Calls Try.prog 32 #[.agg #[.int .i64 s.wd, .int .i64 s.hg, .slice s.A s.nt s.cap]] W fun e w' => e = .returned (.tuple #[.slice none 0 0, .slice none 0 0, .int .i64 E]) ∧ Below W.heap.size W w') : Calls Try.prog 26 #[.agg #[.int .i64 s.wd, .int .i64 s.hg, .slice s.A s.nt s.cap], .slice BA bn bc] w fun e w' => e = .returned (.tuple #[.agg #[.int .i64 0, .int .i64 0], .int .i64 E]) ∧ Below w.heap.size w w' := by
  have he := stkE_ok h
  have hn := hs.1
  have HFN := hide hf
  clear hf
  have HL := hide hl
  clear hl
  have HB := hide ((((Below.refl w.heap.size w).alloc (Nat.le_refl _) (.cells #[.int .i64 s.wd, .int .i64 s.hg, .slice s.A s.nt s.cap] 55)).alloc (by simp) (.cells #[.slice BA bn bc] 56)).alloc (by simp only [World.size_alloc]; omega) (.cells #[.int .i64 0, .int .i64 0] 59))
  have KS := hide (((Blk.new w 55 #[.int .i64 s.wd, .int .i64 s.hg, .slice s.A s.nt s.cap]).alloc (.cells #[.slice BA bn bc] 56)).alloc (.cells #[.int .i64 0, .int .i64 0] 59))
  have KB := hide (show Blk (((w.alloc (.cells #[.int .i64 s.wd, .int .i64 s.hg, .slice s.A s.nt s.cap] 55)).alloc (.cells #[.slice BA bn bc] 56)).alloc (.cells #[.int .i64 0, .int .i64 0] 59)) (w.heap.size + 1) 56 #[.slice BA bn bc] from by simpa using (Blk.new (w.alloc (.cells #[.int .i64 s.wd, .int .i64 s.hg, .slice s.A s.nt s.cap] 55)) 56 #[.slice BA bn bc]).alloc (.cells #[.int .i64 0, .int .i64 0] 59))
  have KK := hide (show Blk (((w.alloc (.cells #[.int .i64 s.wd, .int .i64 s.hg, .slice s.A s.nt s.cap] 55)).alloc (.cells #[.slice BA bn bc] 56)).alloc (.cells #[.int .i64 0, .int .i64 0] 59)) (w.heap.size + 1 + 1) 59 #[.int .i64 0, .int .i64 0] from by simpa using Blk.new ((w.alloc (.cells #[.int .i64 s.wd, .int .i64 s.hg, .slice s.A s.nt s.cap] 55)).alloc (.cells #[.slice BA bn bc] 56)) 59 #[.int .i64 0, .int .i64 0])
  have HSS := hide hs
  have HBE := hide hbe
  clear hs hbe
  go_enter Try.func26, Try.ntmps26
  go_wp2_with fail
  generalize (((w.alloc (.cells #[.int .i64 s.wd, .int .i64 s.hg, .slice s.A s.nt s.cap] 55)).alloc (.cells #[.slice BA bn bc] 56)).alloc (.cells #[.int .i64 0, .int .i64 0] 59)) = W3 at HB KS KB KK ⊢
  refine (newPile_any s _ ((HSS.out.below HB.out (Nat.le_refl _)).more HB.out.size)).mono ?_
  rintro e w1 ⟨rfl, hb1⟩
  have HB1 := hide (HB.out.trans (hb1.mono HB.out.size))
  have KS1 := hide (KS.out.ext hb1)
  have KB1 := hide (KB.out.ext hb1)
  have KK1 := hide (KK.out.ext hb1)
  obtain ⟨a0, a1, a2, a3, a4, a5, a6⟩ := blk3 KS1.out
  obtain ⟨b0, b1, b2⟩ := blk1 KB1.out
  obtain ⟨c0, c1, c2, c3, c4⟩ := blk2 KK1.out
  clear hb1 KS KB KK HB
  rw [he]
  clear he h
  have hf2 : ((bn : Int) != (s.nt : Int)) = false := by simp [HFN.out]
  have hE2 : (E != 0) = true := by simpa using hE
  have HR := hide (fun W (hb : Below w.heap.size w W) => within_any 0 1000000 BA bn bc be W (by unfold maxLen; omega) ((HBE.out.below hb (Nat.le_refl _)).more hb.size))
  rw [hr] at HR
  clear hr
  go_wp2_with fail
  refine (HR.out _ (HB1.out.alloc HB1.out.size _)).mono ?_
  rintro e w2 ⟨rfl, hb2⟩
  have HB2 := hide ((HB1.out.alloc HB1.out.size (.cells #[.int .i64 s.wd, .int .i64 s.hg, .slice s.A s.nt s.cap] 131)).trans (hb2.mono (by have := HB1.out.size; simp only [World.size_alloc]; omega)))
  have KS2 := hide ((KS1.out.alloc (.cells #[.int .i64 s.wd, .int .i64 s.hg, .slice s.A s.nt s.cap] 131)).ext hb2)
  have KB2 := hide ((KB1.out.alloc (.cells #[.int .i64 s.wd, .int .i64 s.hg, .slice s.A s.nt s.cap] 131)).ext hb2)
  have KK2 := hide ((KK1.out.alloc (.cells #[.int .i64 s.wd, .int .i64 s.hg, .slice s.A s.nt s.cap] 131)).ext hb2)
  have KP2 := hide (Blk.ext (Blk.new w1 131 #[.int .i64 s.wd, .int .i64 s.hg, .slice s.A s.nt s.cap]) hb2)
  clear hb2 a0 a1 a2 a3 a4 a5 a6 b0 b1 b2 c0 c1 c2 c3 c4
  obtain ⟨a0, a1, a2, a3, a4, a5, a6⟩ := blk3 KS2.out
  obtain ⟨b0, b1, b2⟩ := blk1 KB2.out
  obtain ⟨c0, c1, c2, c3, c4⟩ := blk2 KK2.out
  go_wp2_with fail
  refine (HL.out _ HB2.out).mono ?_
  rintro e w3 ⟨rfl, hb3⟩
  have HB3 := hide (HB2.out.trans (hb3.mono HB2.out.size))
  have KK3 := hide (KK2.out.ext hb3)
  clear hb3 a0 a1 a2 a3 a4 a5 a6 b0 b1 b2 c0 c1 c2 c3 c4
  obtain ⟨c0, c1, c2, c3, c4⟩ := blk2 KK3.out
  go_wp2_with fail
  refine bodyPost_ret (v := .tuple #[.agg #[.int .i64 0, .int .i64 0], .int .i64 E]) (by simp [results, Try.results26, go_sem, *]) rfl ⟨rfl, ?_⟩
  exact (set2B HB3.out (by omega) _ _).alloc (by have := HB3.out.size; simp [size_set]; omega) _
theorem Crushed_ok (BA : Option Addr) (bn bc : Nat) (be : Nat → Int) (s : Stk) (w : World) (hs : StkR w w.heap.size s) (hbe : IR w w.heap.size BA bn be) (hbn : bn ≤ 1000000) (h : stackB s = true) (hf : bn = s.nt) (hr : wiB 0 1000000 be bn = true) (hh : (hangF s).1 < 0) (ho : LoadsB s = true) :
    Calls Try.prog 26 #[.agg #[.int .i64 s.wd, .int .i64 s.hg, .slice s.A s.nt s.cap], .slice BA bn bc] w fun e w' => e = .returned (.tuple #[brV (firstOf (crushP s be) (bricksTo s.wn s.nt)), .int .i64 0]) ∧ Below w.heap.size w w' := by
  have he := stkE_ok h
  have hn := hs.1
  have HFN := hide hf
  clear hf
  have HL := hide (fun W (hb : Below w.heap.size w W) => Loads_ok s W ((hs.below hb (Nat.le_refl _)).more hb.size) h hh ho)
  have HH := hide hh
  have HST := hide h
  clear hh ho
  have HB := hide ((((Below.refl w.heap.size w).alloc (Nat.le_refl _) (.cells #[.int .i64 s.wd, .int .i64 s.hg, .slice s.A s.nt s.cap] 55)).alloc (by simp) (.cells #[.slice BA bn bc] 56)).alloc (by simp only [World.size_alloc]; omega) (.cells #[.int .i64 0, .int .i64 0] 59))
  have KS := hide (((Blk.new w 55 #[.int .i64 s.wd, .int .i64 s.hg, .slice s.A s.nt s.cap]).alloc (.cells #[.slice BA bn bc] 56)).alloc (.cells #[.int .i64 0, .int .i64 0] 59))
  have KB := hide (show Blk (((w.alloc (.cells #[.int .i64 s.wd, .int .i64 s.hg, .slice s.A s.nt s.cap] 55)).alloc (.cells #[.slice BA bn bc] 56)).alloc (.cells #[.int .i64 0, .int .i64 0] 59)) (w.heap.size + 1) 56 #[.slice BA bn bc] from by simpa using (Blk.new (w.alloc (.cells #[.int .i64 s.wd, .int .i64 s.hg, .slice s.A s.nt s.cap] 55)) 56 #[.slice BA bn bc]).alloc (.cells #[.int .i64 0, .int .i64 0] 59))
  have KK := hide (show Blk (((w.alloc (.cells #[.int .i64 s.wd, .int .i64 s.hg, .slice s.A s.nt s.cap] 55)).alloc (.cells #[.slice BA bn bc] 56)).alloc (.cells #[.int .i64 0, .int .i64 0] 59)) (w.heap.size + 1 + 1) 59 #[.int .i64 0, .int .i64 0] from by simpa using Blk.new ((w.alloc (.cells #[.int .i64 s.wd, .int .i64 s.hg, .slice s.A s.nt s.cap] 55)).alloc (.cells #[.slice BA bn bc] 56)) 59 #[.int .i64 0, .int .i64 0])
  have HSS := hide hs
  have HBE := hide hbe
  clear hs hbe
  go_enter Try.func26, Try.ntmps26
  go_wp2_with fail
  generalize (((w.alloc (.cells #[.int .i64 s.wd, .int .i64 s.hg, .slice s.A s.nt s.cap] 55)).alloc (.cells #[.slice BA bn bc] 56)).alloc (.cells #[.int .i64 0, .int .i64 0] 59)) = W3 at HB KS KB KK ⊢
  refine (newPile_any s _ ((HSS.out.below HB.out (Nat.le_refl _)).more HB.out.size)).mono ?_
  rintro e w1 ⟨rfl, hb1⟩
  have HB1 := hide (HB.out.trans (hb1.mono HB.out.size))
  have KS1 := hide (KS.out.ext hb1)
  have KB1 := hide (KB.out.ext hb1)
  have KK1 := hide (KK.out.ext hb1)
  obtain ⟨a0, a1, a2, a3, a4, a5, a6⟩ := blk3 KS1.out
  obtain ⟨b0, b1, b2⟩ := blk1 KB1.out
  obtain ⟨c0, c1, c2, c3, c4⟩ := blk2 KK1.out
  clear hb1 KS KB KK HB
  rw [he]
  clear he h
  have hf2 : ((bn : Int) != (s.nt : Int)) = false := by simp [HFN.out]
  have HR := hide (fun W (hb : Below w.heap.size w W) => within_any 0 1000000 BA bn bc be W (by unfold maxLen; omega) ((HBE.out.below hb (Nat.le_refl _)).more hb.size))
  rw [hr] at HR
  have HWI := hide hr
  clear hr
  go_wp2_with fail
  refine (HR.out _ (HB1.out.alloc HB1.out.size _)).mono ?_
  rintro e w2 ⟨rfl, hb2⟩
  have HB2 := hide ((HB1.out.alloc HB1.out.size (.cells #[.int .i64 s.wd, .int .i64 s.hg, .slice s.A s.nt s.cap] 131)).trans (hb2.mono (by have := HB1.out.size; simp only [World.size_alloc]; omega)))
  have KS2 := hide ((KS1.out.alloc (.cells #[.int .i64 s.wd, .int .i64 s.hg, .slice s.A s.nt s.cap] 131)).ext hb2)
  have KB2 := hide ((KB1.out.alloc (.cells #[.int .i64 s.wd, .int .i64 s.hg, .slice s.A s.nt s.cap] 131)).ext hb2)
  have KK2 := hide ((KK1.out.alloc (.cells #[.int .i64 s.wd, .int .i64 s.hg, .slice s.A s.nt s.cap] 131)).ext hb2)
  have KP2 := hide (Blk.ext (Blk.new w1 131 #[.int .i64 s.wd, .int .i64 s.hg, .slice s.A s.nt s.cap]) hb2)
  clear hb2 a0 a1 a2 a3 a4 a5 a6 b0 b1 b2 c0 c1 c2 c3 c4
  obtain ⟨a0, a1, a2, a3, a4, a5, a6⟩ := blk3 KS2.out
  obtain ⟨b0, b1, b2⟩ := blk1 KB2.out
  obtain ⟨c0, c1, c2, c3, c4⟩ := blk2 KK2.out
  go_wp2_with fail
  refine (HL.out _ HB2.out).mono ?_
  rintro e w3 ⟨z, v, hz, rfl, hb3, hrow, hown⟩
  have HB3 := hide (HB2.out.trans (hb3.mono HB2.out.size))
  have KK3 := hide (KK2.out.ext hb3)
  have KB3 := hide (KB2.out.ext hb3)
  have KP3 := hide (Blk.ext KP2.out hb3)
  have HRW := hide hrow
  have HOW := hide hown
  have hz3 := hrow.lt
  clear hb3 hrow hown a0 a1 a2 a3 a4 a5 a6 b0 b1 b2 c0 c1 c2 c3 c4
  obtain ⟨q0, q1, q2, q3, q4, q5, q6⟩ := blk3 KP3.out
  go_wp2_with fail
  have HBZ := hide (HB3.out.alloc HB3.out.size (.cells #[.slice (some ⟨z + 3, 0, none⟩) s.nt s.nt] 64))
  have KL := hide (Blk.new w3 64 #[.slice (some ⟨z + 3, 0, none⟩) s.nt s.nt])
  have KPZ := hide (KP3.out.alloc (.cells #[.slice (some ⟨z + 3, 0, none⟩) s.nt s.nt] 64))
  have KBZ := hide (KB3.out.alloc (.cells #[.slice (some ⟨z + 3, 0, none⟩) s.nt s.nt] 64))
  have KKZ := hide (KK3.out.alloc (.cells #[.slice (some ⟨z + 3, 0, none⟩) s.nt s.nt] 64))
  have HRZ := hide (HRW.out.alloc (.cells #[.slice (some ⟨z + 3, 0, none⟩) s.nt s.nt] 64))
  have HOZ := hide (fun k (hk : k ≤ s.nt) => World.ownsRow.alloc (HOW.out k hk) (.cells #[.slice (some ⟨z + 3, 0, none⟩) s.nt s.nt] 64))
  have hzz : w3.heap.size < (w3.alloc (.cells #[.slice (some ⟨z + 3, 0, none⟩) s.nt s.nt] 64)).heap.size := by simp
  generalize (w3.alloc (.cells #[.slice (some ⟨z + 3, 0, none⟩) s.nt s.nt] 64)) = w4 at HBZ KL KPZ KBZ KKZ HRZ HOZ hzz ⊢
  refine (first_any 68 #[.pointer (some ⟨w3.heap.size, 0, none⟩), .pointer (some ⟨w1.heap.size, 0, none⟩), .pointer (some ⟨w.heap.size + 1, 0, none⟩)] (crushP s be) s w4 ((HSS.out.below HBZ.out (Nat.le_refl _)).more HBZ.out.size) (enters_of Try.func68 (by kernel_rfl) rfl) (fun W x hW => ?_)).mono ?_
  · obtain ⟨⟨t, i⟩, ht, hi⟩ := x
    dsimp only at ht hi
    have hWb := HBZ.out.trans (hW.mono HBZ.out.size)
    have hlen := LoadsL_len ht
    obtain ⟨g, cap, hv, hob, hg, x1, x2, -, -⟩ := OwnL.at_ (HOZ.out t (by omega)) (c := i) (by rw [hlen]; exact hi)
    have hokx : LdOk ((LoadsL s t).getD i (0, 1)) := getD_ok (LoadsL_ok HH.out (by omega)) i
    have hbb := (wiB_iff _ _ _ _).1 HWI.out t (by rw [HFN.out]; exact ht)
    have hrw : W.cell? ⟨z + 3, t, none⟩ = some (.slice (some ⟨g, 0, none⟩) (LoadsL s t).length cap) := by
      rw [(HRZ.out.ext hW).cell, rowV_get _ _ ht, hv]
    have hcn : s.cn t ≤ 144 := by
      have h1 := stack_cn HST.out t ht
      have h2 := (stackB_iff s).1 HST.out
      have h3 := mul_bd (a := s.wd) (b := s.hg) (M := 12) (N := 12) (by omega) (by omega) (by omega) (by omega)
      omega
    exact crushed1_any w3.heap.size w1.heap.size (w.heap.size + 1) (z + 3) g 0 (LoadsL s t).length cap BA bn bc be s t i ((LoadsL s t).getD i (0, 1)) W ht (by rw [hlen]; exact hi)
      (by rw [hlen]; exact (HSS.out.2.2 t ht).2.1) (KL.out.ext hW) (Blk.ext KPZ.out hW) (KBZ.out.ext hW) ((HSS.out.below hWb (Nat.le_refl _)).more hWb.size) (by have := hW.size; have := HRZ.out.lt; omega) (by have := hW.size; omega)
      hrw ((hW.cell (p := ⟨g, 0 + i * 2, none⟩) hg).trans (by simpa using x1)) ((hW.cell (p := ⟨g, 0 + i * 2 + 1, none⟩) hg).trans (by simpa using x2)) hokx
      ((HBE.out.below hWb (Nat.le_refl _)).more hWb.size) (by rw [HFN.out]; exact ht) hbn hbb.1 hbb.2 hcn
  · generalize hRR : firstOf (crushP s be) (bricksTo s.wn s.nt) = R
    have HRR := hide hRR
    clear hRR
    unfold brV
    rintro e w5 ⟨rfl, hb5⟩
    have HB5 := hide (HBZ.out.trans (hb5.mono HBZ.out.size))
    have K5 := hide (KKZ.out.ext hb5)
    clear hb5 q0 q1 q2 q3 q4 q5 q6
    obtain ⟨c0, c1, c2, c3, c4⟩ := blk2 K5.out
    go_wp2_with fail
    have hP := K5.out.set2 (.int .i64 R.1) (.int .i64 R.2)
    obtain ⟨f1, f2, f3, f4, f5⟩ := blk2 hP
    refine bodyPost_ret (v := .tuple #[.agg #[.int .i64 R.1, .int .i64 R.2], .int .i64 0]) (by simp [results, Try.results26, go_sem, *]) rfl ⟨by rw [HRR.out]; rfl, ?_⟩
    exact set2B HB5.out (by omega) _ _
end Go.Proofs.Ytlhekifmkkgjlaa
/- The law KilnCrushes: what Crushed answers, whatever its arguments. -/
namespace Go.Proofs.Ytlhekifmkkgjlaa
open Go Go.RowKit Go.Shelf
set_option maxRecDepth 100000
def crE (s : Stk) (bn : Nat) (be : Nat → Int) : Int :=
  if stackB s = false then 2 else if bn ≠ s.nt then 4 else if wiB 0 1000000 be bn = false then 3 else if 0 ≤ (hangF s).1 then 80 else if LoadsB s = false then 10 else 0
def crB (s : Stk) (bn : Nat) (be : Nat → Int) : Int × Int := if crE s bn be = 0 then firstOf (crushP s be) (bricksTo s.wn s.nt) else (0, 0)
theorem crushed_all (BA : Option Addr) (bn bc : Nat) (be : Nat → Int) (s : Stk) (w : World) (hs : StkR w w.heap.size s) (hbe : IR w w.heap.size BA bn be) (hbn : bn ≤ 1000000) :
    Calls Try.prog 26 #[.agg #[.int .i64 s.wd, .int .i64 s.hg, .slice s.A s.nt s.cap], .slice BA bn bc] w fun e w' => e = .returned (.tuple #[brV (crB s bn be), .int .i64 (crE s bn be)]) ∧ Below w.heap.size w w' := by
  have no : ∀ E : Int, E ≠ 0 → crE s bn be = E → crB s bn be = (0, 0) := fun E h1 h2 => by unfold crB; rw [if_neg (by omega)]
  rcases h1 : stackB s with _ | _
  · have hE : crE s bn be = 2 := by unfold crE; rw [if_pos h1]
    rw [no _ (by omega) hE, hE]
    exact Crushed_arg BA bn bc be s w hs hbe hbn h1
  · by_cases h2 : bn = s.nt
    · rcases h3 : wiB 0 1000000 be bn with _ | _
      · have hE : crE s bn be = 3 := by unfold crE; rw [h1, if_neg (by simp), if_neg (by omega), if_pos h3]
        rw [no _ (by omega) hE, hE]
        exact Crushed_range BA bn bc be s w hs hbe hbn h1 h2 h3
      · by_cases h4 : 0 ≤ (hangF s).1
        · have hE : crE s bn be = 80 := by unfold crE; rw [h1, if_neg (by simp), if_neg (by omega), h3, if_neg (by simp), if_pos h4]
          rw [no _ (by omega) hE, hE]
          exact Crushed_loads BA bn bc be s w hs hbe hbn 80 (by omega) h1 h2 h3 (fun W hb => Loads_falls s W ((hs.below hb (Nat.le_refl _)).more hb.size) h1 h4)
        · rcases h5 : LoadsB s with _ | _
          · have hE : crE s bn be = 10 := by unfold crE; rw [h1, if_neg (by simp), if_neg (by omega), h3, if_neg (by simp), if_neg h4, if_pos h5]
            rw [no _ (by omega) hE, hE]
            exact Crushed_loads BA bn bc be s w hs hbe hbn 10 (by omega) h1 h2 h3 (fun W hb => Loads_over s W ((hs.below hb (Nat.le_refl _)).more hb.size) h1 (by omega) h5)
          · have hE : crE s bn be = 0 := by unfold crE; rw [h1, if_neg (by simp), if_neg (by omega), h3, if_neg (by simp), if_neg h4, h5, if_neg (by simp)]
            have hB : crB s bn be = firstOf (crushP s be) (bricksTo s.wn s.nt) := by unfold crB; rw [if_pos hE]
            rw [hE, hB]
            exact Crushed_ok BA bn bc be s w hs hbe hbn h1 h2 h3 (by omega) h5
    · have hE : crE s bn be = 4 := by unfold crE; rw [h1, if_neg (by simp), if_pos h2]
      rw [no _ (by omega) hE, hE]
      exact Crushed_form BA bn bc be s w hs hbe hbn h1 h2
end Go.Proofs.Ytlhekifmkkgjlaa
/- Chapter 8: a copy of a stack, walked. -/
namespace Go.Proofs.Ytlhekifmkkgjlaa
open Go Go.RowKit Go.Shelf
set_option maxHeartbeats 4000000
set_option maxRecDepth 100000
theorem ints_one (n : Nat) (x : Nat → Int) : ∀ u ∈ cellsOf 1 n (fun i _ => Value.int .i64 (x i)), u.oneCell' = true := by
  intro u hu
  unfold cellsOf at hu
  obtain ⟨j, -, rfl⟩ := List.mem_map.1 hu
  rfl
theorem tier_read (w : World) (a b : Value) (e : TypeId) : Reads (w.alloc (.cells #[a, b] e)) (w.heap.size + 1) 2 (some ⟨w.heap.size, 0, none⟩) 1 [a, b] := by
  have h : ER (w.alloc (.cells #[a, b] e)) (w.heap.size + 1) 2 (some ⟨w.heap.size, 0, none⟩) 1 (fun _ i => if i = 0 then a else b) := fun _ => ⟨w.heap.size, 0, rfl, by omega, fun k i hk hi => by
    obtain rfl : k = 0 := by omega
    obtain ⟨-, z1, z2⟩ := bx2 (Blk.new w e #[a, b])
    rcases (by omega : i = 0 ∨ i = 1) with rfl | rfl
    · simpa using z1
    · simpa using z2⟩
  have h2 := h.reads (by omega)
  have e2 : cellsOf 2 1 (fun _ i => if i = 0 then a else b) = [a, b] := by
    simp [cellsOf, List.range_succ]
  rw [e2] at h2
  exact h2
theorem own_any (s : Stk) (w : World) (hs : StkR w w.heap.size s) (hn : s.nt ≤ 65536) (hm : ∀ k, k < s.nt → s.cn k ≤ 65536 ∧ s.wn k ≤ 65536) : Calls Try.prog 27 #[.agg #[.int .i64 s.wd, .int .i64 s.hg, .slice s.A s.nt s.cap]] w (OwnPost s w) := by
  have HSS := hide hs
  have HM := hide hm
  obtain ⟨i0, hi, hz0, hz1, hz2⟩ := info_parts info_int
  obtain ⟨t0, hti, htz0, htz1, htz2⟩ := info_parts info_tier
  have HI := hide (show _ ∧ _ ∧ _ ∧ _ from ⟨hi, hz0, hz1, hz2⟩)
  have HT := hide (show _ ∧ _ ∧ _ ∧ _ from ⟨hti, htz0, htz1, htz2⟩)
  clear hs hm hi hz0 hz1 hz2 hti htz0 htz1 htz2
  go_enter Try.func27, Try.ntmps27
  go_wp2_with fail
  have HR0 : Hid (OwnRel w s 0 (.slice (some ⟨w.heap.size + 1 + 1, 0, none⟩) 0 0) (fun _ => none) (fun _ => none) (fun _ => 0) (fun _ => 0) (((w.alloc (.cells #[.int .i64 s.wd, .int .i64 s.hg, .slice s.A s.nt s.cap] 55)).alloc (.cells #[.int .i64 0, .int .i64 0, .slice none 0 0] 55)).alloc (.cells #[] 72))) := hide ⟨(((Below.refl _ _).alloc (Nat.le_refl _) _).alloc (by simp) _).alloc (by simp only [World.size_alloc]; omega) _, ((Blk.new w _ _).alloc _).alloc _, by simpa using (Blk.new (w.alloc (.cells #[.int .i64 s.wd, .int .i64 s.hg, .slice s.A s.nt s.cap] 55)) 55 #[.int .i64 0, .int .i64 0, .slice none 0 0]).alloc (.cells #[] 72),
    by
      have h := own_empty ((w.alloc (.cells #[.int .i64 s.wd, .int .i64 s.hg, .slice s.A s.nt s.cap] 55)).alloc (.cells #[.int .i64 0, .int .i64 0, .slice none 0 0] 55)) 72 2
      simp only [World.size_alloc] at h
      exact ownMono h (by omega), fun j hj => absurd hj (by omega)⟩
  generalize (((w.alloc (.cells #[.int .i64 s.wd, .int .i64 s.hg, .slice s.A s.nt s.cap] 55)).alloc (.cells #[.int .i64 0, .int .i64 0, .slice none 0 0] 55)).alloc (.cells #[] 72)) = W0 at HR0 ⊢
  go_loopw [3, 4] (fun v i wr => ∃ k : Nat, i = .int .i64 k ∧ k ≤ s.nt ∧ ∃ ca wa cc wc, Hid (OwnRel w s k v ca wa cc wc wr)) (fun _ i _ => s.nt - (intOf i).toNat)
  case atStart => exact ⟨0, rfl, by omega, _, _, _, _, HR0⟩
  case round =>
    obtain ⟨k, rfl, hk, ca, wa, cc, wc, HR⟩ := hrel
    obtain ⟨a0, a1, a2, a3, -, -, -⟩ := blk3 HR.out.bx
    by_cases hlt : k < s.nt
    · obtain ⟨tb, toff, hA, htb, hu, hv⟩ := P2.at_ (HSS.out.2.1) hlt
      obtain ⟨l1, l2⟩ := HM.out k hlt
      obtain ⟨-, -, hIc, hIw⟩ := HSS.out.2.2 k hlt
      have HIC := hide (fun W (h : Below w.heap.size w W) => (hIc.below h (Nat.le_refl _)).more h.size)
      have HIW := hide (fun W (h : Below w.heap.size w W) => (hIw.below h (Nat.le_refl _)).more h.size)
      unfold Stk.u at hu
      unfold Stk.v at hv
      rw [hA] at a3
      have HS : Hid (∀ W, Below w.heap.size w W → Blk W w.heap.size 55 #[.int .i64 s.wd, .int .i64 s.hg, .slice s.A s.nt s.cap] → W.cell? ⟨w.heap.size, 2, none⟩ = some (.slice (some ⟨tb, toff, none⟩) s.nt s.cap) ∧ W.cell? ⟨tb, toff + k * 2, none⟩ = some (.slice (s.ca k) (s.cn k) (s.cc k)) ∧ W.cell? ⟨tb, toff + k * 2 + 1, none⟩ = some (.slice (s.wa k) (s.wn k) (s.wc k))) := hide (fun W hb hB => by
        obtain ⟨-, -, -, h3, -, -, -⟩ := blk3 hB
        rw [hA] at h3
        exact ⟨h3, (hb.cell (p := ⟨tb, toff + k * 2, none⟩) htb).trans hu, (hb.cell (p := ⟨tb, toff + k * 2 + 1, none⟩) htb).trans hv⟩)
      have i1 : (0 : Int) ≤ (k : Int) := by omega
      have i2 : (k : Int) < (s.nt : Int) := by omega
      obtain ⟨vA, vc, rfl⟩ := own_shape HR.out.own
      clear hu hv hA hIc hIw
      go_upto_block 1 with fail
      go_cut [3] (fun v' wq => ∃ ca' wa' cc' wc', Hid (OwnRel w s (k + 1) v' ca' wa' cc' wc' wq))
      case first =>
        have HRd := hide (HR.out.ext (Below.refl _ _).drew)
        have HSB : Hid (∀ W, Below wr.heap.size wr W → W.cell? ⟨w.heap.size, 2, none⟩ = some (.slice (some ⟨tb, toff, none⟩) s.nt s.cap) ∧ W.cell? ⟨tb, toff + k * 2, none⟩ = some (.slice (s.ca k) (s.cn k) (s.cc k)) ∧ W.cell? ⟨tb, toff + k * 2 + 1, none⟩ = some (.slice (s.wa k) (s.wn k) (s.wc k))) := hide (fun W h => HS.out W (HR.out.below.trans (h.mono HR.out.below.size)) (HR.out.bx.ext h))
        have Bd := hide (Below.refl wr.heap.size wr).drew
        clear a0 a1 a2 a3
        go_wp2_with fail
        refine wp_region_J (fun W : World => W.cell? ⟨w.heap.size, 2, none⟩ = some (.slice (some ⟨tb, toff, none⟩) s.nt s.cap) ∧ W.cell? ⟨tb, toff + k * 2, none⟩ = some (.slice (s.ca k) (s.cn k) (s.cc k)) ∧ W.cell? ⟨tb, toff + k * 2 + 1, none⟩ = some (.slice (s.wa k) (s.wn k) (s.wc k))) (by kernel_rfl) ?_
        refine wpAnyJ_take 0 (v := ?_) (by first | exact hF | exact wideFn) (HSB.out _ Bd.out) rfl (by kernel_rfl) (by kernel_rfl) (by kernel_rfl) (by kernel_rfl) rfl ?_ (by first | exact fun _ _ _ h => h | exact fun _ _ _ h => hQ2 _ _ _ _ _ h) ?_
        rotate_left
        · intro W hSW
          simp only [List.getElem_toArray, List.getElem_cons_zero, List.getElem_cons_succ]
          (try dsimp only at hSW)
          go_simp
          with_reducible rfl
        (try simp only [List.getElem_toArray, List.getElem_cons_zero, List.getElem_cons_succ, Act.put, List.setIfInBounds_toArray, List.set_cons_zero, List.set_cons_succ])
        refine wpAnyJ_take 2 (v := ?_) (by first | exact hF | exact wideFn) (HSB.out _ Bd.out) rfl (by kernel_rfl) (by kernel_rfl) (by kernel_rfl) (by kernel_rfl) rfl ?_ (by first | exact fun _ _ _ h => h | exact fun _ _ _ h => hQ2 _ _ _ _ _ h) ?_
        rotate_left
        · intro W hSW
          simp only [List.getElem_toArray, List.getElem_cons_zero, List.getElem_cons_succ]
          (try dsimp only at hSW)
          go_simp
          with_reducible rfl
        (try simp only [List.getElem_toArray, List.getElem_cons_zero, List.getElem_cons_succ, Act.put, List.setIfInBounds_toArray, List.set_cons_zero, List.set_cons_succ])
        refine wpAnyJ_take 3 (v := ?_) (by first | exact hF | exact wideFn) (HSB.out _ Bd.out) rfl (by kernel_rfl) (by kernel_rfl) (by kernel_rfl) (by kernel_rfl) rfl ?_ (by first | exact fun _ _ _ h => h | exact fun _ _ _ h => hQ2 _ _ _ _ _ h) ?_
        rotate_left
        · intro W hSW
          simp only [List.getElem_toArray, List.getElem_cons_zero, List.getElem_cons_succ]
          (try dsimp only at hSW)
          go_simp
          with_reducible rfl
        (try simp only [List.getElem_toArray, List.getElem_cons_zero, List.getElem_cons_succ, Act.put, List.setIfInBounds_toArray, List.set_cons_zero, List.set_cons_succ])
        refine wpAnyJ_take 4 (v := ?_) (by first | exact hF | exact wideFn) (HSB.out _ Bd.out) rfl (by kernel_rfl) (by kernel_rfl) (by kernel_rfl) (by kernel_rfl) rfl ?_ (by first | exact fun _ _ _ h => h | exact fun _ _ _ h => hQ2 _ _ _ _ _ h) ?_
        rotate_left
        · intro W hSW
          simp only [List.getElem_toArray, List.getElem_cons_zero, List.getElem_cons_succ]
          (try dsimp only at hSW)
          go_simp
          with_reducible rfl
        (try simp only [List.getElem_toArray, List.getElem_cons_zero, List.getElem_cons_succ, Act.put, List.setIfInBounds_toArray, List.set_cons_zero, List.set_cons_succ])
        refine wpAnyJ_take 5 (v := ?_) (by first | exact hF | exact wideFn) (HSB.out _ Bd.out) rfl (by kernel_rfl) (by kernel_rfl) (by kernel_rfl) (by kernel_rfl) rfl ?_ (by first | exact fun _ _ _ h => h | exact fun _ _ _ h => hQ2 _ _ _ _ _ h) ?_
        rotate_left
        · intro W hSW
          simp only [List.getElem_toArray, List.getElem_cons_zero, List.getElem_cons_succ]
          (try dsimp only at hSW)
          go_simp
          with_reducible rfl
        (try simp only [List.getElem_toArray, List.getElem_cons_zero, List.getElem_cons_succ, Act.put, List.setIfInBounds_toArray, List.set_cons_zero, List.set_cons_succ])
        refine wpAnyJ_take 6 (v := ?_) (by first | exact hF | exact wideFn) (HSB.out _ Bd.out) rfl (by kernel_rfl) (by kernel_rfl) (by kernel_rfl) (by kernel_rfl) rfl ?_ (by first | exact fun _ _ _ h => h | exact fun _ _ _ h => hQ2 _ _ _ _ _ h) ?_
        rotate_left
        · intro W hSW
          simp only [List.getElem_toArray, List.getElem_cons_zero, List.getElem_cons_succ]
          (try dsimp only at hSW)
          go_simp
          with_reducible rfl
        (try simp only [List.getElem_toArray, List.getElem_cons_zero, List.getElem_cons_succ, Act.put, List.setIfInBounds_toArray, List.set_cons_zero, List.set_cons_succ])
        refine wpAnyJ_take 7 (v := ?_) (by first | exact hF | exact wideFn) (HSB.out _ Bd.out) rfl (by kernel_rfl) (by kernel_rfl) (by kernel_rfl) (by kernel_rfl) rfl ?_ (by first | exact fun _ _ _ h => h | exact fun _ _ _ h => hQ2 _ _ _ _ _ h) ?_
        rotate_left
        · intro W hSW
          simp only [List.getElem_toArray, List.getElem_cons_zero, List.getElem_cons_succ]
          (try dsimp only at hSW)
          go_simp
          with_reducible rfl
        (try simp only [List.getElem_toArray, List.getElem_cons_zero, List.getElem_cons_succ, Act.put, List.setIfInBounds_toArray, List.set_cons_zero, List.set_cons_succ])
        refine wpAnyJ_take 10 (v := ?_) (by first | exact hF | exact wideFn) (HSB.out _ Bd.out) rfl (by kernel_rfl) (by kernel_rfl) (by kernel_rfl) (by kernel_rfl) rfl ?_ (by first | exact fun _ _ _ h => h | exact fun _ _ _ h => hQ2 _ _ _ _ _ h) ?_
        rotate_left
        · intro W hSW
          simp only [List.getElem_toArray, List.getElem_cons_zero, List.getElem_cons_succ]
          (try dsimp only at hSW)
          go_simp
          with_reducible rfl
        (try simp only [List.getElem_toArray, List.getElem_cons_zero, List.getElem_cons_succ, Act.put, List.setIfInBounds_toArray, List.set_cons_zero, List.set_cons_succ])
        refine wpAnyJ_take 11 (v := ?_) (by first | exact hF | exact wideFn) (HSB.out _ Bd.out) rfl (by kernel_rfl) (by kernel_rfl) (by kernel_rfl) (by kernel_rfl) rfl ?_ (by first | exact fun _ _ _ h => h | exact fun _ _ _ h => hQ2 _ _ _ _ _ h) ?_
        rotate_left
        · intro W hSW
          simp only [List.getElem_toArray, List.getElem_cons_zero, List.getElem_cons_succ]
          (try dsimp only at hSW)
          go_simp
          with_reducible rfl
        (try simp only [List.getElem_toArray, List.getElem_cons_zero, List.getElem_cons_succ, Act.put, List.setIfInBounds_toArray, List.set_cons_zero, List.set_cons_succ])
        refine wpAnyJ_take 12 (v := ?_) (by first | exact hF | exact wideFn) (HSB.out _ Bd.out) rfl (by kernel_rfl) (by kernel_rfl) (by kernel_rfl) (by kernel_rfl) rfl ?_ (by first | exact fun _ _ _ h => h | exact fun _ _ _ h => hQ2 _ _ _ _ _ h) ?_
        rotate_left
        · intro W hSW
          simp only [List.getElem_toArray, List.getElem_cons_zero, List.getElem_cons_succ]
          (try dsimp only at hSW)
          go_simp
          with_reducible rfl
        (try simp only [List.getElem_toArray, List.getElem_cons_zero, List.getElem_cons_succ, Act.put, List.setIfInBounds_toArray, List.set_cons_zero, List.set_cons_succ])
        refine wpAnyJ_take 13 (v := ?_) (by first | exact hF | exact wideFn) (HSB.out _ Bd.out) rfl (by kernel_rfl) (by kernel_rfl) (by kernel_rfl) (by kernel_rfl) rfl ?_ (by first | exact fun _ _ _ h => h | exact fun _ _ _ h => hQ2 _ _ _ _ _ h) ?_
        rotate_left
        · intro W hSW
          simp only [List.getElem_toArray, List.getElem_cons_zero, List.getElem_cons_succ]
          (try dsimp only at hSW)
          go_simp
          with_reducible rfl
        (try simp only [List.getElem_toArray, List.getElem_cons_zero, List.getElem_cons_succ, Act.put, List.setIfInBounds_toArray, List.set_cons_zero, List.set_cons_succ])
        refine wpAnyJ_take 14 (v := ?_) (by first | exact hF | exact wideFn) (HSB.out _ Bd.out) rfl (by kernel_rfl) (by kernel_rfl) (by kernel_rfl) (by kernel_rfl) rfl ?_ (by first | exact fun _ _ _ h => h | exact fun _ _ _ h => hQ2 _ _ _ _ _ h) ?_
        rotate_left
        · intro W hSW
          simp only [List.getElem_toArray, List.getElem_cons_zero, List.getElem_cons_succ]
          (try dsimp only at hSW)
          go_simp
          with_reducible rfl
        (try simp only [List.getElem_toArray, List.getElem_cons_zero, List.getElem_cons_succ, Act.put, List.setIfInBounds_toArray, List.set_cons_zero, List.set_cons_succ])
        refine wpAnyJ_take 15 (v := ?_) (by first | exact hF | exact wideFn) (HSB.out _ Bd.out) rfl (by kernel_rfl) (by kernel_rfl) (by kernel_rfl) (by kernel_rfl) rfl ?_ (by first | exact fun _ _ _ h => h | exact fun _ _ _ h => hQ2 _ _ _ _ _ h) ?_
        rotate_left
        · intro W hSW
          simp only [List.getElem_toArray, List.getElem_cons_zero, List.getElem_cons_succ]
          (try dsimp only at hSW)
          go_simp
          with_reducible rfl
        (try simp only [List.getElem_toArray, List.getElem_cons_zero, List.getElem_cons_succ, Act.put, List.setIfInBounds_toArray, List.set_cons_zero, List.set_cons_succ])
        generalize wr.drew = wd at HRd Bd ⊢
        have hzd : w.heap.size + 1 + 1 ≤ wd.heap.size := by have := HRd.out.rb.lt; omega
        have hwd : wr.heap.size ≤ wd.heap.size := Bd.out.size
        have HSW := hide (fun W (h : Below wd.heap.size wd W) => HSB.out W (Bd.out.trans (h.mono hwd)))
        clear HSB HR
        refine wpAnyJ_two 1 9 rfl rfl (by kernel_rfl) (fun K hK => ?_) (fun K hK => ?_)
        · have hB1 : Below wd.heap.size wd (wd.alloc (.cells #[] 3)) := (Below.refl _ _).alloc (Nat.le_refl _) _
          simp only [List.getElem_toArray, List.getElem_cons_zero, List.getElem_cons_succ]
          go_simp
          refine hK.out _ _ (fun _ => HSW.out _ hB1) ?_
          clear hK K
          (try simp only [List.getElem_toArray, List.getElem_cons_zero, List.getElem_cons_succ, Act.put, List.setIfInBounds_toArray, List.set_cons_zero, List.set_cons_succ])
          refine wpAnyJ_two 8 9 rfl rfl (by kernel_rfl) (fun K hK => ?_) (fun K hK => ?_)
          · obtain ⟨v8, w8, hrun8, hown8, hg8, -⟩ := run_append_any (P := Try.prog) (wd.alloc (.cells #[] 3)) w.heap.size 56 56 3 i0 _ 1 8 Try.underlying56 HI.out.1 HI.out.2.1 HI.out.2.2.1 HI.out.2.2.2 rfl (by omega) (.slice (some ⟨wd.heap.size, 0, none⟩) 0 0) 0 [] (ownMono (own_empty wd 3 1) (show w.heap.size ≤ wd.heap.size by omega)) _ (s.ca k) (s.cn k) (s.cc k) (cellsOf 1 (s.cn k) fun i _ => .int .i64 (s.cf k i)) (ER.reads (HIC.out _ (HRd.out.below.trans (hB1.mono HRd.out.below.size))) (by omega)) (ints_one _ _) (by unfold maxLen; omega) (by omega) (by simp; omega)
            have hB8 : Below wd.heap.size wd w8 := hB1.grown hg8 (by simp) (by simp [Value.ownBlock])
            rw [Nat.zero_add, List.nil_append] at hown8
            obtain ⟨A8, c8, rfl⟩ := own_shape hown8
            rw [if_pos (by rfl)]
            refine wpIn_append_run (.tmp 14) (.tmp 20) 56 wideFn rfl rfl rfl hrun8 ?_
            refine hK.out _ _ (fun _ => (HSW.out _ hB8)) ?_
            clear hK K
            (try simp only [List.getElem_toArray, List.getElem_cons_zero, List.getElem_cons_succ, Act.put, List.setIfInBounds_toArray, List.set_cons_zero, List.set_cons_succ])
            refine wpAnyJ_one 9 rfl (by kernel_rfl) (fun K hK => ?_)
            have hB3 : Below wd.heap.size wd (w8.alloc (.cells #[] 3)) := hB8.alloc hB8.size _
            simp only [List.getElem_toArray, List.getElem_cons_zero, List.getElem_cons_succ]
            go_simp
            refine hK.out _ _ (fun _ => HSW.out _ hB3) ?_
            clear hK K
            (try simp only [List.getElem_toArray, List.getElem_cons_zero, List.getElem_cons_succ, Act.put, List.setIfInBounds_toArray, List.set_cons_zero, List.set_cons_succ])
            have hr21 : rowI (w8.alloc (.cells #[] 3)) w.heap.size A8 (s.cn k) c8 (s.cf k) := World.ownsRow.alloc hown8 _
            have hr22 := ownMono (own_empty w8 3 1) (show w.heap.size ≤ w8.heap.size by have := hB8.size; omega)
            have hne : (Value.slice A8 (s.cn k) c8).ownBlock ≠ some w8.heap.size := fun e => by have := (hown8.lt _ e).2; omega
            refine wpAnyJ_one 16 rfl (by kernel_rfl) (fun K hK => ?_)
            obtain ⟨v16, w16, hrun16, hown16, hg16, -⟩ := run_append_any (P := Try.prog) (w8.alloc (.cells #[] 3)) w.heap.size 56 56 3 i0 _ 1 8 Try.underlying56 HI.out.1 HI.out.2.1 HI.out.2.2.1 HI.out.2.2.2 rfl (by omega) (.slice (some ⟨w8.heap.size, 0, none⟩) 0 0) 0 [] hr22 _ (s.wa k) (s.wn k) (s.wc k) (cellsOf 1 (s.wn k) fun i _ => .int .i64 (s.wf k i)) (ER.reads (HIW.out _ (HRd.out.below.trans (hB3.mono HRd.out.below.size))) (by omega)) (ints_one _ _) (by unfold maxLen; omega) (by omega) (by have := hB3.size; omega)
            have hB16 : Below wd.heap.size wd w16 := hB3.grown hg16 hB3.size (by have := hB8.size; simp [Value.ownBlock] <;> omega)
            rw [Nat.zero_add, List.nil_append] at hown16
            obtain ⟨A16, c16, rfl⟩ := own_shape hown16
            rw [if_pos (by rfl)]
            refine wpIn_append_run (.tmp 22) (.tmp 28) 56 wideFn rfl rfl rfl hrun16 ?_
            refine hK.out _ _ (fun _ => (HSW.out _ hB16)) ?_
            clear hK K
            (try simp only [List.getElem_toArray, List.getElem_cons_zero, List.getElem_cons_succ, Act.put, List.setIfInBounds_toArray, List.set_cons_zero, List.set_cons_succ])
            have hr21b := hr21.kept hg16 (.inr hne)
            refine wpAnyJ_take 17 (v := ?_) (by first | exact hF | exact wideFn) (HSW.out _ hB16) rfl (by kernel_rfl) (by kernel_rfl) (by kernel_rfl) (by kernel_rfl) rfl ?_ (by first | exact fun _ _ _ h => h | exact fun _ _ _ h => hQ2 _ _ _ _ _ h) ?_
            rotate_left
            · intro W hSW
              simp only [List.getElem_toArray, List.getElem_cons_zero, List.getElem_cons_succ]
              (try dsimp only at hSW)
              go_simp
              with_reducible rfl
            (try simp only [List.getElem_toArray, List.getElem_cons_zero, List.getElem_cons_succ, Act.put, List.setIfInBounds_toArray, List.set_cons_zero, List.set_cons_succ])
            refine wpAnyJ_one 18 rfl (by kernel_rfl) (fun K hK => ?_)
            have hB18 : Below wd.heap.size wd (w16.alloc (.cells #[.slice A8 (s.cn k) c8, .slice A16 (s.wn k) c16] 72)) := hB16.alloc hB16.size _
            simp only [List.getElem_toArray, List.getElem_cons_zero, List.getElem_cons_succ]
            go_simp
            refine hK.out _ _ (fun _ => HSW.out _ hB18) ?_
            clear hK K
            (try simp only [List.getElem_toArray, List.getElem_cons_zero, List.getElem_cons_succ, Act.put, List.setIfInBounds_toArray, List.set_cons_zero, List.set_cons_succ])
            refine wpAnyJ_one 19 rfl (by kernel_rfl) (fun K hK => ?_)
            have ho16 := ownBelow HRd.out.own hB16
            obtain ⟨v19, w19, hrun19, hown19, hg19, -⟩ := run_append_any (P := Try.prog) (w16.alloc (.cells #[.slice A8 (s.cn k) c8, .slice A16 (s.wn k) c16] 72)) w.heap.size 53 53 72 t0 _ 2 48 Try.underlying53 HT.out.1 HT.out.2.1 HT.out.2.2.1 HT.out.2.2.2 rfl (by omega) _ k _ (World.ownsRow.alloc ho16 _) (w16.heap.size + 1) (some ⟨w16.heap.size, 0, none⟩) 1 1 [.slice A8 (s.cn k) c8, .slice A16 (s.wn k) c16] (tier_read w16 _ _ _) (by intro u hu; simp at hu; rcases hu with rfl | rfl <;> rfl) (by unfold maxLen; omega) (by omega) (by have := hB16.size; simp; omega)
            have HN := hide (HRd.out.step hB16 hr21b hown16 ((World.grownBy_alloc w16 (.cells #[.slice A8 (s.cn k) c8, .slice A16 (s.wn k) c16] 72) _).trans hg19) hown19)
            rw [if_pos (by rfl)]
            refine wpIn_append_run (.tmp 13) (.tmp 31) 53 wideFn rfl rfl rfl hrun19 ?_
            refine hK.out _ _ (fun _ => HS.out _ HN.out.below HN.out.bx) ?_
            clear hK K
            (try simp only [List.getElem_toArray, List.getElem_cons_zero, List.getElem_cons_succ, Act.put, List.setIfInBounds_toArray, List.set_cons_zero, List.set_cons_succ])
            refine wpAnyJ_one 20 rfl (by kernel_rfl) (fun K hK => ?_)
            simp only [List.getElem_toArray, List.getElem_cons_zero, List.getElem_cons_succ]
            go_simp
            refine hK.out _ _ (fun h => absurd h (by rw [show lastOp _ _ _ = true from by kernel_rfl]; simp)) ?_
            clear hK K
            (try simp only [List.getElem_toArray, List.getElem_cons_zero, List.getElem_cons_succ, Act.put, List.setIfInBounds_toArray, List.set_cons_zero, List.set_cons_succ])
            refine wpAnyJ_done (by kernel_rfl) ?_
            go_wp2_with fail
            go_meet
            exact ⟨_, _, _, _, HN⟩
          · have hB2 : Below wd.heap.size wd ((wd.alloc (.cells #[] 3)).alloc (.cells #[] 3)) := hB1.alloc (by simp) _
            simp only [List.getElem_toArray, List.getElem_cons_zero, List.getElem_cons_succ]
            go_simp
            refine hK.out _ _ (fun _ => HSW.out _ hB2) ?_
            clear hK K
            (try simp only [List.getElem_toArray, List.getElem_cons_zero, List.getElem_cons_succ, Act.put, List.setIfInBounds_toArray, List.set_cons_zero, List.set_cons_succ])
            refine wpAnyJ_one 8 rfl (by kernel_rfl) (fun K hK => ?_)
            obtain ⟨v8, w8, hrun8, hown8, hg8, hob8⟩ := run_append_any (P := Try.prog) ((wd.alloc (.cells #[] 3)).alloc (.cells #[] 3)) w.heap.size 56 56 3 i0 _ 1 8 Try.underlying56 HI.out.1 HI.out.2.1 HI.out.2.2.1 HI.out.2.2.2 rfl (by omega) (.slice (some ⟨wd.heap.size, 0, none⟩) 0 0) 0 [] ((ownMono (own_empty wd 3 1) (show w.heap.size ≤ wd.heap.size by omega)).alloc _) _ (s.ca k) (s.cn k) (s.cc k) (cellsOf 1 (s.cn k) fun i _ => .int .i64 (s.cf k i)) (ER.reads (HIC.out _ (HRd.out.below.trans (hB2.mono HRd.out.below.size))) (by omega)) (ints_one _ _) (by unfold maxLen; omega) (by omega) (by simp; omega)
            have hB8 : Below wd.heap.size wd w8 := hB2.grown hg8 (by simp <;> omega) (by simp [Value.ownBlock] <;> omega)
            rw [Nat.zero_add, List.nil_append] at hown8
            obtain ⟨A8, c8, rfl⟩ := own_shape hown8
            rw [if_pos (by rfl)]
            refine wpIn_append_run (.tmp 14) (.tmp 20) 56 wideFn rfl rfl rfl hrun8 ?_
            refine hK.out _ _ (fun _ => (HSW.out _ hB8)) ?_
            clear hK K
            (try simp only [List.getElem_toArray, List.getElem_cons_zero, List.getElem_cons_succ, Act.put, List.setIfInBounds_toArray, List.set_cons_zero, List.set_cons_succ])
            have hr22 : w8.ownsRow w.heap.size 3 1 (.slice (some ⟨wd.heap.size + 1, 0, none⟩) 0 0) 0 [] := World.ownsRow.kept (by simpa using ownMono (own_empty (wd.alloc (.cells #[] 3)) 3 1) (show w.heap.size ≤ (wd.alloc (.cells #[] 3)).heap.size by simp; omega)) hg8 (.inr (by simp [Value.ownBlock]))
            have hne : (Value.slice A8 (s.cn k) c8).ownBlock ≠ some (wd.heap.size + 1) := fun e => by
              rcases hob8 with h | h <;> rw [h] at e <;> simp [Value.ownBlock] at e <;> omega
            have hB3 := hB8
            have hr21 : rowI w8 w.heap.size A8 (s.cn k) c8 (s.cf k) := hown8
            refine wpAnyJ_one 16 rfl (by kernel_rfl) (fun K hK => ?_)
            obtain ⟨v16, w16, hrun16, hown16, hg16, -⟩ := run_append_any (P := Try.prog) w8 w.heap.size 56 56 3 i0 _ 1 8 Try.underlying56 HI.out.1 HI.out.2.1 HI.out.2.2.1 HI.out.2.2.2 rfl (by omega) (.slice (some ⟨(wd.heap.size + 1), 0, none⟩) 0 0) 0 [] hr22 _ (s.wa k) (s.wn k) (s.wc k) (cellsOf 1 (s.wn k) fun i _ => .int .i64 (s.wf k i)) (ER.reads (HIW.out _ (HRd.out.below.trans (hB3.mono HRd.out.below.size))) (by omega)) (ints_one _ _) (by unfold maxLen; omega) (by omega) (by have := hB3.size; omega)
            have hB16 : Below wd.heap.size wd w16 := hB3.grown hg16 hB3.size (by have := hB8.size; simp [Value.ownBlock] <;> omega)
            rw [Nat.zero_add, List.nil_append] at hown16
            obtain ⟨A16, c16, rfl⟩ := own_shape hown16
            rw [if_pos (by rfl)]
            refine wpIn_append_run (.tmp 22) (.tmp 28) 56 wideFn rfl rfl rfl hrun16 ?_
            refine hK.out _ _ (fun _ => (HSW.out _ hB16)) ?_
            clear hK K
            (try simp only [List.getElem_toArray, List.getElem_cons_zero, List.getElem_cons_succ, Act.put, List.setIfInBounds_toArray, List.set_cons_zero, List.set_cons_succ])
            have hr21b := hr21.kept hg16 (.inr hne)
            refine wpAnyJ_take 17 (v := ?_) (by first | exact hF | exact wideFn) (HSW.out _ hB16) rfl (by kernel_rfl) (by kernel_rfl) (by kernel_rfl) (by kernel_rfl) rfl ?_ (by first | exact fun _ _ _ h => h | exact fun _ _ _ h => hQ2 _ _ _ _ _ h) ?_
            rotate_left
            · intro W hSW
              simp only [List.getElem_toArray, List.getElem_cons_zero, List.getElem_cons_succ]
              (try dsimp only at hSW)
              go_simp
              with_reducible rfl
            (try simp only [List.getElem_toArray, List.getElem_cons_zero, List.getElem_cons_succ, Act.put, List.setIfInBounds_toArray, List.set_cons_zero, List.set_cons_succ])
            refine wpAnyJ_one 18 rfl (by kernel_rfl) (fun K hK => ?_)
            have hB18 : Below wd.heap.size wd (w16.alloc (.cells #[.slice A8 (s.cn k) c8, .slice A16 (s.wn k) c16] 72)) := hB16.alloc hB16.size _
            simp only [List.getElem_toArray, List.getElem_cons_zero, List.getElem_cons_succ]
            go_simp
            refine hK.out _ _ (fun _ => HSW.out _ hB18) ?_
            clear hK K
            (try simp only [List.getElem_toArray, List.getElem_cons_zero, List.getElem_cons_succ, Act.put, List.setIfInBounds_toArray, List.set_cons_zero, List.set_cons_succ])
            refine wpAnyJ_one 19 rfl (by kernel_rfl) (fun K hK => ?_)
            have ho16 := ownBelow HRd.out.own hB16
            obtain ⟨v19, w19, hrun19, hown19, hg19, -⟩ := run_append_any (P := Try.prog) (w16.alloc (.cells #[.slice A8 (s.cn k) c8, .slice A16 (s.wn k) c16] 72)) w.heap.size 53 53 72 t0 _ 2 48 Try.underlying53 HT.out.1 HT.out.2.1 HT.out.2.2.1 HT.out.2.2.2 rfl (by omega) _ k _ (World.ownsRow.alloc ho16 _) (w16.heap.size + 1) (some ⟨w16.heap.size, 0, none⟩) 1 1 [.slice A8 (s.cn k) c8, .slice A16 (s.wn k) c16] (tier_read w16 _ _ _) (by intro u hu; simp at hu; rcases hu with rfl | rfl <;> rfl) (by unfold maxLen; omega) (by omega) (by have := hB16.size; simp; omega)
            have HN := hide (HRd.out.step hB16 hr21b hown16 ((World.grownBy_alloc w16 (.cells #[.slice A8 (s.cn k) c8, .slice A16 (s.wn k) c16] 72) _).trans hg19) hown19)
            rw [if_pos (by rfl)]
            refine wpIn_append_run (.tmp 13) (.tmp 31) 53 wideFn rfl rfl rfl hrun19 ?_
            refine hK.out _ _ (fun _ => HS.out _ HN.out.below HN.out.bx) ?_
            clear hK K
            (try simp only [List.getElem_toArray, List.getElem_cons_zero, List.getElem_cons_succ, Act.put, List.setIfInBounds_toArray, List.set_cons_zero, List.set_cons_succ])
            refine wpAnyJ_one 20 rfl (by kernel_rfl) (fun K hK => ?_)
            simp only [List.getElem_toArray, List.getElem_cons_zero, List.getElem_cons_succ]
            go_simp
            refine hK.out _ _ (fun h => absurd h (by rw [show lastOp _ _ _ = true from by kernel_rfl]; simp)) ?_
            clear hK K
            (try simp only [List.getElem_toArray, List.getElem_cons_zero, List.getElem_cons_succ, Act.put, List.setIfInBounds_toArray, List.set_cons_zero, List.set_cons_succ])
            refine wpAnyJ_done (by kernel_rfl) ?_
            go_wp2_with fail
            go_meet
            exact ⟨_, _, _, _, HN⟩
        · have hB1 : Below wd.heap.size wd (wd.alloc (.cells #[] 3)) := (Below.refl _ _).alloc (Nat.le_refl _) _
          simp only [List.getElem_toArray, List.getElem_cons_zero, List.getElem_cons_succ]
          go_simp
          refine hK.out _ _ (fun _ => HSW.out _ hB1) ?_
          clear hK K
          (try simp only [List.getElem_toArray, List.getElem_cons_zero, List.getElem_cons_succ, Act.put, List.setIfInBounds_toArray, List.set_cons_zero, List.set_cons_succ])
          refine wpAnyJ_one 1 rfl (by kernel_rfl) (fun K hK => ?_)
          have hB2 : Below wd.heap.size wd ((wd.alloc (.cells #[] 3)).alloc (.cells #[] 3)) := hB1.alloc (by simp) _
          simp only [List.getElem_toArray, List.getElem_cons_zero, List.getElem_cons_succ]
          go_simp
          refine hK.out _ _ (fun _ => HSW.out _ hB2) ?_
          clear hK K
          (try simp only [List.getElem_toArray, List.getElem_cons_zero, List.getElem_cons_succ, Act.put, List.setIfInBounds_toArray, List.set_cons_zero, List.set_cons_succ])
          refine wpAnyJ_one 8 rfl (by kernel_rfl) (fun K hK => ?_)
          obtain ⟨v8, w8, hrun8, hown8, hg8, hob8⟩ := run_append_any (P := Try.prog) ((wd.alloc (.cells #[] 3)).alloc (.cells #[] 3)) w.heap.size 56 56 3 i0 _ 1 8 Try.underlying56 HI.out.1 HI.out.2.1 HI.out.2.2.1 HI.out.2.2.2 rfl (by omega) (.slice (some ⟨(wd.heap.size + 1), 0, none⟩) 0 0) 0 [] (by simpa using ownMono (own_empty (wd.alloc (.cells #[] 3)) 3 1) (show w.heap.size ≤ (wd.alloc (.cells #[] 3)).heap.size by simp; omega)) _ (s.ca k) (s.cn k) (s.cc k) (cellsOf 1 (s.cn k) fun i _ => .int .i64 (s.cf k i)) (ER.reads (HIC.out _ (HRd.out.below.trans (hB2.mono HRd.out.below.size))) (by omega)) (ints_one _ _) (by unfold maxLen; omega) (by omega) (by simp; omega)
          have hB8 : Below wd.heap.size wd w8 := hB2.grown hg8 (by simp <;> omega) (by simp [Value.ownBlock] <;> omega)
          rw [Nat.zero_add, List.nil_append] at hown8
          obtain ⟨A8, c8, rfl⟩ := own_shape hown8
          rw [if_pos (by rfl)]
          refine wpIn_append_run (.tmp 14) (.tmp 20) 56 wideFn rfl rfl rfl hrun8 ?_
          refine hK.out _ _ (fun _ => (HSW.out _ hB8)) ?_
          clear hK K
          (try simp only [List.getElem_toArray, List.getElem_cons_zero, List.getElem_cons_succ, Act.put, List.setIfInBounds_toArray, List.set_cons_zero, List.set_cons_succ])
          have hr22 : w8.ownsRow w.heap.size 3 1 (.slice (some ⟨wd.heap.size, 0, none⟩) 0 0) 0 [] := World.ownsRow.kept ((ownMono (own_empty wd 3 1) (show w.heap.size ≤ wd.heap.size by omega)).alloc _) hg8 (.inr (by simp [Value.ownBlock]))
          have hne : (Value.slice A8 (s.cn k) c8).ownBlock ≠ some wd.heap.size := fun e => by
            rcases hob8 with h | h <;> rw [h] at e <;> simp [Value.ownBlock] at e <;> omega
          have hB3 := hB8
          have hr21 : rowI w8 w.heap.size A8 (s.cn k) c8 (s.cf k) := hown8
          refine wpAnyJ_one 16 rfl (by kernel_rfl) (fun K hK => ?_)
          obtain ⟨v16, w16, hrun16, hown16, hg16, -⟩ := run_append_any (P := Try.prog) w8 w.heap.size 56 56 3 i0 _ 1 8 Try.underlying56 HI.out.1 HI.out.2.1 HI.out.2.2.1 HI.out.2.2.2 rfl (by omega) (.slice (some ⟨wd.heap.size, 0, none⟩) 0 0) 0 [] hr22 _ (s.wa k) (s.wn k) (s.wc k) (cellsOf 1 (s.wn k) fun i _ => .int .i64 (s.wf k i)) (ER.reads (HIW.out _ (HRd.out.below.trans (hB3.mono HRd.out.below.size))) (by omega)) (ints_one _ _) (by unfold maxLen; omega) (by omega) (by have := hB3.size; omega)
          have hB16 : Below wd.heap.size wd w16 := hB3.grown hg16 hB3.size (by have := hB8.size; simp [Value.ownBlock] <;> omega)
          rw [Nat.zero_add, List.nil_append] at hown16
          obtain ⟨A16, c16, rfl⟩ := own_shape hown16
          rw [if_pos (by rfl)]
          refine wpIn_append_run (.tmp 22) (.tmp 28) 56 wideFn rfl rfl rfl hrun16 ?_
          refine hK.out _ _ (fun _ => (HSW.out _ hB16)) ?_
          clear hK K
          (try simp only [List.getElem_toArray, List.getElem_cons_zero, List.getElem_cons_succ, Act.put, List.setIfInBounds_toArray, List.set_cons_zero, List.set_cons_succ])
          have hr21b := hr21.kept hg16 (.inr hne)
          refine wpAnyJ_take 17 (v := ?_) (by first | exact hF | exact wideFn) (HSW.out _ hB16) rfl (by kernel_rfl) (by kernel_rfl) (by kernel_rfl) (by kernel_rfl) rfl ?_ (by first | exact fun _ _ _ h => h | exact fun _ _ _ h => hQ2 _ _ _ _ _ h) ?_
          rotate_left
          · intro W hSW
            simp only [List.getElem_toArray, List.getElem_cons_zero, List.getElem_cons_succ]
            (try dsimp only at hSW)
            go_simp
            with_reducible rfl
          (try simp only [List.getElem_toArray, List.getElem_cons_zero, List.getElem_cons_succ, Act.put, List.setIfInBounds_toArray, List.set_cons_zero, List.set_cons_succ])
          refine wpAnyJ_one 18 rfl (by kernel_rfl) (fun K hK => ?_)
          have hB18 : Below wd.heap.size wd (w16.alloc (.cells #[.slice A8 (s.cn k) c8, .slice A16 (s.wn k) c16] 72)) := hB16.alloc hB16.size _
          simp only [List.getElem_toArray, List.getElem_cons_zero, List.getElem_cons_succ]
          go_simp
          refine hK.out _ _ (fun _ => HSW.out _ hB18) ?_
          clear hK K
          (try simp only [List.getElem_toArray, List.getElem_cons_zero, List.getElem_cons_succ, Act.put, List.setIfInBounds_toArray, List.set_cons_zero, List.set_cons_succ])
          refine wpAnyJ_one 19 rfl (by kernel_rfl) (fun K hK => ?_)
          have ho16 := ownBelow HRd.out.own hB16
          obtain ⟨v19, w19, hrun19, hown19, hg19, -⟩ := run_append_any (P := Try.prog) (w16.alloc (.cells #[.slice A8 (s.cn k) c8, .slice A16 (s.wn k) c16] 72)) w.heap.size 53 53 72 t0 _ 2 48 Try.underlying53 HT.out.1 HT.out.2.1 HT.out.2.2.1 HT.out.2.2.2 rfl (by omega) _ k _ (World.ownsRow.alloc ho16 _) (w16.heap.size + 1) (some ⟨w16.heap.size, 0, none⟩) 1 1 [.slice A8 (s.cn k) c8, .slice A16 (s.wn k) c16] (tier_read w16 _ _ _) (by intro u hu; simp at hu; rcases hu with rfl | rfl <;> rfl) (by unfold maxLen; omega) (by omega) (by have := hB16.size; simp; omega)
          have HN := hide (HRd.out.step hB16 hr21b hown16 ((World.grownBy_alloc w16 (.cells #[.slice A8 (s.cn k) c8, .slice A16 (s.wn k) c16] 72) _).trans hg19) hown19)
          rw [if_pos (by rfl)]
          refine wpIn_append_run (.tmp 13) (.tmp 31) 53 wideFn rfl rfl rfl hrun19 ?_
          refine hK.out _ _ (fun _ => HS.out _ HN.out.below HN.out.bx) ?_
          clear hK K
          (try simp only [List.getElem_toArray, List.getElem_cons_zero, List.getElem_cons_succ, Act.put, List.setIfInBounds_toArray, List.set_cons_zero, List.set_cons_succ])
          refine wpAnyJ_one 20 rfl (by kernel_rfl) (fun K hK => ?_)
          simp only [List.getElem_toArray, List.getElem_cons_zero, List.getElem_cons_succ]
          go_simp
          refine hK.out _ _ (fun h => absurd h (by rw [show lastOp _ _ _ = true from by kernel_rfl]; simp)) ?_
          clear hK K
          (try simp only [List.getElem_toArray, List.getElem_cons_zero, List.getElem_cons_succ, Act.put, List.setIfInBounds_toArray, List.set_cons_zero, List.set_cons_succ])
          refine wpAnyJ_done (by kernel_rfl) ?_
          go_wp2_with fail
          go_meet
          exact ⟨_, _, _, _, HN⟩
      case rest =>
        obtain ⟨ca', wa', cc', wc', HN⟩ := hcut
        go_wp2_with fail
        go_roundw
        case rel => exact ⟨k + 1, by go_num, by omega, ca', wa', cc', wc', HN⟩
        case measure => simp [intOf]; omega
    · obtain rfl : k = s.nt := by omega
      obtain ⟨vA, vc, rfl⟩ := own_shape HR.out.own
      obtain ⟨b0, b1, b2, b3, b4, b5, b6⟩ := blk3 HR.out.rb
      obtain ⟨-, -, -, -, a4, a5, a6⟩ := blk3 HR.out.bx
      go_wp2_with fail
      refine bodyPost_ret (v := .agg #[.int .i64 s.wd, .int .i64 s.hg, .slice vA s.nt vc]) (by simp [results, Try.results27, go_sem, *]) rfl ⟨vA, vc, ca, wa, cc, wc, rfl, ?_, ?_⟩
      · exact (HR.out.shut _ _ _ _).2 HSS.out
      · exact (HR.out.shut _ _ _ _).1
end Go.Proofs.Ytlhekifmkkgjlaa
