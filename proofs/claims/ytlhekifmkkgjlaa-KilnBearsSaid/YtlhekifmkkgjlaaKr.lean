/- Contracts of chapter 8 on stacks: the first brick of a kind. -/
import Derived.Test.YtlhekifmkkgjlaaKq
set_option linter.unusedSimpArgs false
set_option linter.unusedVariables false
set_option linter.unnecessarySimpa false
namespace Go.Proofs.Ytlhekifmkkgjlaa
open Go Go.RowKit Go.Shelf
attribute [local go_sem] Oper.semAt_some
set_option maxHeartbeats 1000000
theorem Blk.set2 {w : World} {g : Nat} {t : TypeId} {a b : Value} (h : Blk w g t #[a, b]) (u v : Value) : Blk ((w.setCell ⟨g, 0, none⟩ u).setCell ⟨g, 1, none⟩ v) g t #[u, v] := by
  simpa using (h.set_ 0 u).set_ 1 v
def firstOf (p : Nat → Nat → Bool) (l : List (Nat × Nat)) : Int × Int := match l.find? fun x => p x.1 x.2 with
  | some x => ((x.1 : Int), (x.2 : Int))
  | none => (-1, -1)
def brV (x : Int × Int) : Value := .agg #[.int .i64 x.1, .int .i64 x.2]
theorem firstOf_none {p : Nat → Nat → Bool} {l : List (Nat × Nat)} (h : ∀ x ∈ l, p x.1 x.2 = false) : firstOf p l = (-1, -1) := by
  have : (l.find? fun x => p x.1 x.2) = none := by rw [List.find?_eq_none]; intro x hx; simp [h x hx]
  simp [firstOf, this]
theorem firstOf_some {p : Nat → Nat → Bool} {l pre : List (Nat × Nat)} {x : Nat × Nat} (h : pre ++ [x] <+: l) (hp : ∀ y ∈ pre, p y.1 y.2 = false) (hx : p x.1 x.2 = true) : firstOf p l = ((x.1 : Int), (x.2 : Int)) := by
  obtain ⟨r, rfl⟩ := h
  have h1 : (pre.find? fun x => p x.1 x.2) = none := by rw [List.find?_eq_none]; intro y hy; simp [hp y hy]
  have h2 : ((pre ++ [x] ++ r).find? fun x => p x.1 x.2) = some x := by
    rw [List.append_assoc, List.find?_append, h1]; simp [hx]
  simp only [firstOf]; rw [h2]
theorem first_any (g : FuncId) (lb : Array Value) (p : Nat → Nat → Bool) (s : Stk) (w : World) (hs : StkR w w.heap.size s)
    (eg : ∀ args w, (callFunc g args).run Try.prog w = .ok (.enter g args) w)
    (hp : ∀ W (x : Brk s), Below w.heap.size w W → Calls Try.prog g (#[.agg #[.int .i64 x.1.1, .int .i64 x.1.2]] ++ lb) W fun e W' => e = .returned (.bool (p x.1.1 x.1.2)) ∧ Below W.heap.size W W') :
    Calls Try.prog 67 #[.agg #[.int .i64 s.wd, .int .i64 s.hg, .slice s.A s.nt s.cap], .func (.func g) #[] lb] w fun e w' => e = .returned (brV (firstOf p (bricksTo s.wn s.nt))) ∧ Below w.heap.size w w' := by
  refine (callsIn_wide (n := 9)).1 ?_
  obtain ⟨F, hFw⟩ : ∃ F : Fence, F = Fence.wide := ⟨_, rfl⟩
  rw [← hFw]
  have hF : ∀ f, F.fn f := by rw [hFw]; exact fun _ => trivial
  have hro : F.round = none := by rw [hFw]; rfl
  have hwd : ∀ {n f args w R}, Calls Try.prog f args w R → CallsIn F n Try.prog f args w R := by rw [hFw]; exact fun h => callsIn_wide.2 h
  have HP := hide hp
  clear hFw hp
  refine callsIn_of_wp_marks Try.func67 rfl (hF _) ?_ hro
  simp only [Try.ntmps67, List.size_toArray, List.length_cons, List.length_nil, Nat.reduceAdd, Nat.reduceSub, Array.replicate_succ, Array.replicate_zero, List.push_toArray, List.append_toArray, List.nil_append, List.cons_append]
  gi_wp2_with (gi_at_call 93; refine (hwd (bricks_any s _)).mono ?_; rintro e w1 ⟨rfl, rfl⟩)
  have k1 : Blk ((((w.alloc (.cells #[.int .i64 s.wd, .int .i64 s.hg, .slice s.A s.nt s.cap] 131)).alloc (.cells #[.func (.func g) #[] lb] 137)).alloc (.cells #[.int .i64 0, .int .i64 0] 59)).alloc (.cells #[.int .i64 s.wd, .int .i64 s.hg, .slice s.A s.nt s.cap] 131)) (w.heap.size + 1) 137 #[.func (.func g) #[] lb] := by simpa using ((Blk.new (w.alloc (.cells #[.int .i64 s.wd, .int .i64 s.hg, .slice s.A s.nt s.cap] 131)) 137 #[.func (.func g) #[] lb]).alloc _).alloc _
  have k2 : Blk ((((w.alloc (.cells #[.int .i64 s.wd, .int .i64 s.hg, .slice s.A s.nt s.cap] 131)).alloc (.cells #[.func (.func g) #[] lb] 137)).alloc (.cells #[.int .i64 0, .int .i64 0] 59)).alloc (.cells #[.int .i64 s.wd, .int .i64 s.hg, .slice s.A s.nt s.cap] 131)) (w.heap.size + 1 + 1) 59 #[.int .i64 0, .int .i64 0] := by simpa using (Blk.new ((w.alloc (.cells #[.int .i64 s.wd, .int .i64 s.hg, .slice s.A s.nt s.cap] 131)).alloc (.cells #[.func (.func g) #[] lb] 137)) 59 #[.int .i64 0, .int .i64 0]).alloc (.cells #[.int .i64 s.wd, .int .i64 s.hg, .slice s.A s.nt s.cap] 131)
  have k3 : PileB ((((w.alloc (.cells #[.int .i64 s.wd, .int .i64 s.hg, .slice s.A s.nt s.cap] 131)).alloc (.cells #[.func (.func g) #[] lb] 137)).alloc (.cells #[.int .i64 0, .int .i64 0] 59)).alloc (.cells #[.int .i64 s.wd, .int .i64 s.hg, .slice s.A s.nt s.cap] 131)) (w.heap.size + 1 + 1 + 1) s := by unfold PileB; simpa using Blk.new (((w.alloc (.cells #[.int .i64 s.wd, .int .i64 s.hg, .slice s.A s.nt s.cap] 131)).alloc (.cells #[.func (.func g) #[] lb] 137)).alloc (.cells #[.int .i64 0, .int .i64 0] 59)) 131 #[.int .i64 s.wd, .int .i64 s.hg, .slice s.A s.nt s.cap]
  have k5 : ((((w.alloc (.cells #[.int .i64 s.wd, .int .i64 s.hg, .slice s.A s.nt s.cap] 131)).alloc (.cells #[.func (.func g) #[] lb] 137)).alloc (.cells #[.int .i64 0, .int .i64 0] 59)).alloc (.cells #[.int .i64 s.wd, .int .i64 s.hg, .slice s.A s.nt s.cap] 131)).heap.size = w.heap.size + 4 := by simp
  have k6 : Below w.heap.size w ((((w.alloc (.cells #[.int .i64 s.wd, .int .i64 s.hg, .slice s.A s.nt s.cap] 131)).alloc (.cells #[.func (.func g) #[] lb] 137)).alloc (.cells #[.int .i64 0, .int .i64 0] 59)).alloc (.cells #[.int .i64 s.wd, .int .i64 s.hg, .slice s.A s.nt s.cap] 131)) := ((((Below.refl _ _).alloc (Nat.le_refl _) _).alloc (by simp) _).alloc (by simp only [World.size_alloc]; omega) _).alloc (by simp only [World.size_alloc]; omega) _
  generalize ((((w.alloc (.cells #[.int .i64 s.wd, .int .i64 s.hg, .slice s.A s.nt s.cap] 131)).alloc (.cells #[.func (.func g) #[] lb] 137)).alloc (.cells #[.int .i64 0, .int .i64 0] 59)).alloc (.cells #[.int .i64 s.wd, .int .i64 s.hg, .slice s.A s.nt s.cap] 131)) = W0 at k1 k2 k3 k5 k6 ⊢
  have hst := bricks_stops F (9 - 1) hF hro (by omega) (w.heap.size + 1 + 1 + 1) w.heap.size s W0 k3 (by omega) (hs.below k6 (Nat.le_refl _))
  refine wpIn_rangeFunc_ownH hro (by omega) (gf := 111) (lb := #[.pointer (some ⟨w.heap.size + 1 + 1 + 1, 0, none⟩)]) rfl (hF _) (enters_of Try.func111 (by kernel_rfl) rfl)
    hst Below.trans (fun W l o o' hl h hc hk => belowK_b (by omega) W l o o' hl h hc hk) (Below.refl _ _) (fun _ => rfl)
    (fun pre W => (∀ y ∈ pre.map (·.1), p y.1 y.2 = false) ∧ Blk W (w.heap.size + 1) 137 #[.func (.func g) #[] lb] ∧ Blk W (w.heap.size + 1 + 1) 59 #[.int .i64 0, .int .i64 0] ∧ Below w.heap.size w W)
    (fun c pre W => c = .ret ∧ ∃ (pre' : List (Brk s)) (x : Brk s), pre = pre' ++ [x] ∧ (∀ y ∈ pre'.map (·.1), p y.1 y.2 = false) ∧ p x.1.1 x.1.2 = true ∧ Blk W (w.heap.size + 1 + 1) 59 #[.int .i64 x.1.1, .int .i64 x.1.2] ∧ Below w.heap.size w W)
    ?hI ?hIx ⟨by simp, k1, k2, k6⟩
    (fun x a' W => ∃ b, w.heap.size + 3 ≤ b ∧ Blk W b 59 #[.int .i64 x.1.1, .int .i64 x.1.2] ∧ a' = { tmps := #[.agg #[.int .i64 s.wd, .int .i64 s.hg, .slice s.A s.nt s.cap], .func (.func g) #[] lb, .pointer (some ⟨w.heap.size, 0, none⟩), .pointer (some ⟨w.heap.size + 1, 0, none⟩), .pointer (some ⟨w.heap.size + 1 + 1, 0, none⟩), .pointer (some ⟨b, 0, none⟩), .agg #[.int .i64 s.wd, .int .i64 s.hg, .slice s.A s.nt s.cap], .func (.func 111) #[] #[.pointer (some ⟨w.heap.size + 1 + 1 + 1, 0, none⟩)], .agg #[.int .i64 x.1.1, .int .i64 x.1.2], undef, undef, undef, undef, undef], defers := [] })
    ?hAx ?hassign ?hbody ?hdone ?hstop
  case hI =>
    rintro pre W W' row ⟨h1, h2, h3, h6⟩ hg hr
    have hr' := fun r e => (hr r e).2
    exact ⟨h1, h2.keptN hg hr', h3.keptN hg hr', h6.trans ⟨hg.os, hg.tape, hg.output, hg.size, fun k hk => hg.block k (by have := h6.size; omega) (fun e => by have := (hr k e.symm).1; omega)⟩⟩
  case hIx =>
    rintro c pre W W' row ⟨h0, pre', x, h1, h2, h3, h4, h6⟩ hg hr
    have hr' := fun r e => (hr r e).2
    exact ⟨h0, pre', x, h1, h2, h3, h4.keptN hg hr', h6.trans ⟨hg.os, hg.tape, hg.output, hg.size, fun k hk => hg.block k (by have := h6.size; omega) (fun e => by have := (hr k e.symm).1; omega)⟩⟩
  case hAx =>
    rintro x a' _ W W' row ⟨b, h1, h2, h3⟩ hg hr
    exact ⟨b, h1, h2.keptN hg (fun r e => (hr r e).2), h3⟩
  case hassign =>
    rintro l pre x W K ⟨h1, h2, h3, h6⟩ hK
    have z0 := h3.lt
    gi_wp2
    have hb := (Below.refl W.heap.size W).alloc (Nat.le_refl _) (.cells #[.int .i64 x.1.1, .int .i64 x.1.2] 59)
    refine hK _ _ ((keepsO hb).from _) (hb.mono h6.size) ⟨h1, h2.ext hb, h3.ext hb, h6.trans (hb.mono h6.size)⟩ ⟨W.heap.size, z0, Blk.new _ _ _, rfl⟩
  case hbody =>
    rintro l pre x a' W hl hlr ⟨h1, h2, h3, h6⟩ ⟨b, hb4, hb, rfl⟩ hlt
    obtain ⟨d1, d2, d3, -, -⟩ := blk2 hb
    obtain ⟨e1, e2, e3⟩ := blk1 h2
    obtain ⟨f1, f2, f3, f4, f5⟩ := blk2 h3
    have HC := hide (HP.out W x h6)
    have P1 := hide h1
    have P2 := hide h2
    have P3 := hide h3
    have PB := hide hb
    clear h1 h2 h3 hb hst k1 k2 k3 k5 k6 hlr
    rcases hpx : p x.1.1 x.1.2 with _ | _
    · rw [hpx] at HC
      have HX := hide hpx
      clear hpx
      gi_wp2_with ((with_reducible refine (CallsIn.inRound l (hwd HC.out)).mono ?_); rintro e w1 ⟨rfl, hb1⟩)
      refine ⟨(keepsO hb1).from _, hb1.mono h6.size, ?_, P2.out.ext hb1, P3.out.ext hb1, h6.trans (hb1.mono h6.size)⟩
      intro y hy
      rw [List.map_append, List.mem_append] at hy
      rcases hy with hy | hy
      · exact P1.out y hy
      · simp at hy; rw [hy]; exact HX.out
    · rw [hpx] at HC
      have HX := hide hpx
      clear hpx
      gi_wp2_with (first | ((with_reducible refine (CallsIn.inRound l (hwd HC.out)).mono ?_); rintro e w1 ⟨rfl, hb1⟩; obtain ⟨d1', d2', d3', -, -⟩ := blk2 (PB.out.ext hb1); obtain ⟨f1', f2', f3', f4', f5'⟩ := blk2 (P3.out.ext hb1)))
      refine ⟨(((keepsO hb1).trans (KeepsOthers.setCell _ _ _)).trans (KeepsOthers.setCell _ _ _)).from _, rfl, pre, x, rfl, P1.out, HX.out, (P3.out.ext hb1).set2 _ _, ?_⟩
      exact set2B (h6.trans (hb1.mono h6.size)) (by omega) _ _
  case hdone =>
    rintro D xs W hD hxs ⟨h1, h2, h3, h6⟩ hK
    rw [hxs] at h1
    have HV := hide (firstOf_none h1)
    obtain ⟨f1, f2, f3, f4, f5⟩ := blk2 h3
    have P3 := hide h3
    clear h1 h2 h3 hst k1 k2 k3 k6 hxs
    gi_wp2_with fail
    have hK' := ((KeepsOthers.setCell W ⟨w.heap.size + 1 + 1, 0, none⟩ (.int .i64 (-1))).trans (KeepsOthers.setCell _ ⟨w.heap.size + 1 + 1, 1, none⟩ (.int .i64 (-1)))).same D _ hK rfl
    have hP := P3.out.set2 (.int .i64 (-1)) (.int .i64 (-1))
    have hB := set2B h6 (show w.heap.size ≤ w.heap.size + 1 + 1 by omega) (.int .i64 (-1)) (.int .i64 (-1))
    generalize (W.setCell ⟨w.heap.size + 1 + 1, 0, none⟩ (.int .i64 (-1))).setCell ⟨w.heap.size + 1 + 1, 1, none⟩ (.int .i64 (-1)) = W5 at hK' hP hB ⊢
    refine ⟨by simp, .inl ⟨_, _, rfl, run_takeDeferred hK', ?_⟩⟩
    have hgp := grownBy_putObj' W5 D (.deferred none)
    obtain ⟨g1, g2, g3, -, -⟩ := blk2 (hP.keptN hgp (fun r e => by cases e; exact ⟨_, hK', rfl⟩))
    refine ⟨.agg #[.int .i64 (-1), .int .i64 (-1)], by simp [results, Try.results67, go_sem, g2, g3], ?_⟩
    exact ⟨by rw [HV.out]; rfl, hB.trans (belowK_b (w := w) (Nat.le_refl _) _ D _ _ (by omega) hK' rfl rfl)⟩
  case hstop =>
    rintro D c pre W hD hSp ⟨rfl, pre', x, rfl, h2, h3, h4, h6⟩ hK
    rw [List.map_append] at hSp
    have HV := hide (firstOf_some hSp h2 h3)
    have P3 := hide h4
    clear h2 h3 h4 hst k1 k2 k3 k6 hSp
    gi_wp2_with fail
    refine ⟨by simp, .inl ⟨_, _, rfl, run_takeDeferred hK, ?_⟩⟩
    have hgp := grownBy_putObj' W D (.deferred none)
    obtain ⟨g1, g2, g3, -, -⟩ := blk2 (P3.out.keptN hgp (fun r e => by cases e; exact ⟨_, hK, rfl⟩))
    refine ⟨.agg #[.int .i64 x.1.1, .int .i64 x.1.2], by simp [results, Try.results67, go_sem, g2, g3], ?_⟩
    exact ⟨by rw [HV.out]; rfl, h6.trans (belowK_b (w := w) (Nat.le_refl _) _ D _ _ (by omega) hK rfl rfl)⟩
end Go.Proofs.Ytlhekifmkkgjlaa
