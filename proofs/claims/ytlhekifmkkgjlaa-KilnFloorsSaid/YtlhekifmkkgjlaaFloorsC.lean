/- Contracts of chapter 8 on stacks: the first brick of a kind. -/
import Derived.Test.YtlhekifmkkgjlaaFloorsB
import Derived.Deep.AppendLies
set_option linter.unusedSimpArgs false
set_option linter.unusedVariables false
set_option linter.unnecessarySimpa false
namespace Go.Proofs.Ytlhekifmkkgjlaa
open Go Go.RowKit Go.Shelf
attribute [local go_sem] Oper.semAt_some
set_option maxHeartbeats 1000000
theorem Blk.set2 {w : World} {g : Nat} {t : TypeId} {a b : Value} (h : Blk w g t #[a, b]) (u v : Value) : Blk ((w.setCell ⟨g, 0, none⟩ u).setCell ⟨g, 1, none⟩ v) g t #[u, v] := by
  simpa using (h.set_ 0 u).set_ 1 v
def firstOf (p : Nat → Nat → Bool) (l : List (Nat × Nat)) : Int × Int := match l.find? fun x => p x.1 x.2 with
  | some x => ((x.1 : Int), (x.2 : Int))
  | none => (-1, -1)
def brV (x : Int × Int) : Value := .agg #[.int .i64 x.1, .int .i64 x.2]
theorem firstOf_none {p : Nat → Nat → Bool} {l : List (Nat × Nat)} (h : ∀ x ∈ l, p x.1 x.2 = false) : firstOf p l = (-1, -1) := by
  have : (l.find? fun x => p x.1 x.2) = none := by rw [List.find?_eq_none]; intro x hx; simp [h x hx]
  simp [firstOf, this]
theorem firstOf_some {p : Nat → Nat → Bool} {l pre : List (Nat × Nat)} {x : Nat × Nat} (h : pre ++ [x] <+: l) (hp : ∀ y ∈ pre, p y.1 y.2 = false) (hx : p x.1 x.2 = true) : firstOf p l = ((x.1 : Int), (x.2 : Int)) := by
  obtain ⟨r, rfl⟩ := h
  have h1 : (pre.find? fun x => p x.1 x.2) = none := by rw [List.find?_eq_none]; intro y hy; simp [hp y hy]
  have h2 : ((pre ++ [x] ++ r).find? fun x => p x.1 x.2) = some x := by
    rw [List.append_assoc, List.find?_append, h1]; simp [hx]
  simp only [firstOf]; rw [h2]
theorem first_any (g : FuncId) (lb : Array Value) (p : Nat → Nat → Bool) (s : Stk) (w : World) (hs : StkR w w.heap.size s)
    (eg : ∀ args w, (callFunc g args).run Try.prog w = .ok (.enter g args) w)
    (hp : ∀ W (x : Brk s), Below w.heap.size w W → Calls Try.prog g (#[.agg #[.int .i64 x.1.1, .int .i64 x.1.2]] ++ lb) W fun e W' => e = .returned (.bool (p x.1.1 x.1.2)) ∧ Below W.heap.size W W') :
    Calls Try.prog 67 #[.agg #[.int .i64 s.wd, .int .i64 s.hg, .slice s.A s.nt s.cap], .func (.func g) #[] lb] w fun e w' => e = .returned (brV (firstOf p (bricksTo s.wn s.nt))) ∧ Below w.heap.size w w' := by
  refine (callsIn_wide (n := 9)).1 ?_
  obtain ⟨F, hFw⟩ : ∃ F : Fence, F = Fence.wide := ⟨_, rfl⟩
  rw [← hFw]
  have hF : ∀ f, F.fn f := by rw [hFw]; exact fun _ => trivial
  have hro : F.round = none := by rw [hFw]; rfl
  have hwd : ∀ {n f args w R}, Calls Try.prog f args w R → CallsIn F n Try.prog f args w R := by rw [hFw]; exact fun h => callsIn_wide.2 h
  have HP := hide hp
  clear hFw hp
  refine callsIn_of_wp_marks Try.func67 rfl (hF _) ?_ hro
  simp only [Try.ntmps67, List.size_toArray, List.length_cons, List.length_nil, Nat.reduceAdd, Nat.reduceSub, Array.replicate_succ, Array.replicate_zero, List.push_toArray, List.append_toArray, List.nil_append, List.cons_append]
  gi_wp2_with (gi_at_call 93; refine (hwd (bricks_any s _)).mono ?_; rintro e w1 ⟨rfl, rfl⟩)
  have k1 : Blk ((((w.alloc (.cells #[.int .i64 s.wd, .int .i64 s.hg, .slice s.A s.nt s.cap] 131)).alloc (.cells #[.func (.func g) #[] lb] 137)).alloc (.cells #[.int .i64 0, .int .i64 0] 59)).alloc (.cells #[.int .i64 s.wd, .int .i64 s.hg, .slice s.A s.nt s.cap] 131)) (w.heap.size + 1) 137 #[.func (.func g) #[] lb] := by simpa using ((Blk.new (w.alloc (.cells #[.int .i64 s.wd, .int .i64 s.hg, .slice s.A s.nt s.cap] 131)) 137 #[.func (.func g) #[] lb]).alloc _).alloc _
  have k2 : Blk ((((w.alloc (.cells #[.int .i64 s.wd, .int .i64 s.hg, .slice s.A s.nt s.cap] 131)).alloc (.cells #[.func (.func g) #[] lb] 137)).alloc (.cells #[.int .i64 0, .int .i64 0] 59)).alloc (.cells #[.int .i64 s.wd, .int .i64 s.hg, .slice s.A s.nt s.cap] 131)) (w.heap.size + 1 + 1) 59 #[.int .i64 0, .int .i64 0] := by simpa using (Blk.new ((w.alloc (.cells #[.int .i64 s.wd, .int .i64 s.hg, .slice s.A s.nt s.cap] 131)).alloc (.cells #[.func (.func g) #[] lb] 137)) 59 #[.int .i64 0, .int .i64 0]).alloc (.cells #[.int .i64 s.wd, .int .i64 s.hg, .slice s.A s.nt s.cap] 131)
  have k3 : PileB ((((w.alloc (.cells #[.int .i64 s.wd, .int .i64 s.hg, .slice s.A s.nt s.cap] 131)).alloc (.cells #[.func (.func g) #[] lb] 137)).alloc (.cells #[.int .i64 0, .int .i64 0] 59)).alloc (.cells #[.int .i64 s.wd, .int .i64 s.hg, .slice s.A s.nt s.cap] 131)) (w.heap.size + 1 + 1 + 1) s := by unfold PileB; simpa using Blk.new (((w.alloc (.cells #[.int .i64 s.wd, .int .i64 s.hg, .slice s.A s.nt s.cap] 131)).alloc (.cells #[.func (.func g) #[] lb] 137)).alloc (.cells #[.int .i64 0, .int .i64 0] 59)) 131 #[.int .i64 s.wd, .int .i64 s.hg, .slice s.A s.nt s.cap]
  have k5 : ((((w.alloc (.cells #[.int .i64 s.wd, .int .i64 s.hg, .slice s.A s.nt s.cap] 131)).alloc (.cells #[.func (.func g) #[] lb] 137)).alloc (.cells #[.int .i64 0, .int .i64 0] 59)).alloc (.cells #[.int .i64 s.wd, .int .i64 s.hg, .slice s.A s.nt s.cap] 131)).heap.size = w.heap.size + 4 := by simp
  have k6 : Below w.heap.size w ((((w.alloc (.cells #[.int .i64 s.wd, .int .i64 s.hg, .slice s.A s.nt s.cap] 131)).alloc (.cells #[.func (.func g) #[] lb] 137)).alloc (.cells #[.int .i64 0, .int .i64 0] 59)).alloc (.cells #[.int .i64 s.wd, .int .i64 s.hg, .slice s.A s.nt s.cap] 131)) := ((((Below.refl _ _).alloc (Nat.le_refl _) _).alloc (by simp) _).alloc (by simp only [World.size_alloc]; omega) _).alloc (by simp only [World.size_alloc]; omega) _
  generalize ((((w.alloc (.cells #[.int .i64 s.wd, .int .i64 s.hg, .slice s.A s.nt s.cap] 131)).alloc (.cells #[.func (.func g) #[] lb] 137)).alloc (.cells #[.int .i64 0, .int .i64 0] 59)).alloc (.cells #[.int .i64 s.wd, .int .i64 s.hg, .slice s.A s.nt s.cap] 131)) = W0 at k1 k2 k3 k5 k6 ⊢
  have hst := bricks_stops F (9 - 1) hF hro (by omega) (w.heap.size + 1 + 1 + 1) w.heap.size s W0 k3 (by omega) (hs.below k6 (Nat.le_refl _))
  refine wpIn_rangeFunc_ownH hro (by omega) (gf := 111) (lb := #[.pointer (some ⟨w.heap.size + 1 + 1 + 1, 0, none⟩)]) rfl (hF _) (enters_of Try.func111 (by kernel_rfl) rfl)
    hst Below.trans (fun W l o o' hl h hc hk => belowK_b (by omega) W l o o' hl h hc hk) (Below.refl _ _) (fun _ => rfl)
    (fun pre W => (∀ y ∈ pre.map (·.1), p y.1 y.2 = false) ∧ Blk W (w.heap.size + 1) 137 #[.func (.func g) #[] lb] ∧ Blk W (w.heap.size + 1 + 1) 59 #[.int .i64 0, .int .i64 0] ∧ Below w.heap.size w W)
    (fun c pre W => c = .ret ∧ ∃ (pre' : List (Brk s)) (x : Brk s), pre = pre' ++ [x] ∧ (∀ y ∈ pre'.map (·.1), p y.1 y.2 = false) ∧ p x.1.1 x.1.2 = true ∧ Blk W (w.heap.size + 1 + 1) 59 #[.int .i64 x.1.1, .int .i64 x.1.2] ∧ Below w.heap.size w W)
    ?hI ?hIx ⟨by simp, k1, k2, k6⟩
    (fun x a' W => ∃ b, w.heap.size + 3 ≤ b ∧ Blk W b 59 #[.int .i64 x.1.1, .int .i64 x.1.2] ∧ a' = { tmps := #[.agg #[.int .i64 s.wd, .int .i64 s.hg, .slice s.A s.nt s.cap], .func (.func g) #[] lb, .pointer (some ⟨w.heap.size, 0, none⟩), .pointer (some ⟨w.heap.size + 1, 0, none⟩), .pointer (some ⟨w.heap.size + 1 + 1, 0, none⟩), .pointer (some ⟨b, 0, none⟩), .agg #[.int .i64 s.wd, .int .i64 s.hg, .slice s.A s.nt s.cap], .func (.func 111) #[] #[.pointer (some ⟨w.heap.size + 1 + 1 + 1, 0, none⟩)], .agg #[.int .i64 x.1.1, .int .i64 x.1.2], undef, undef, undef, undef, undef], defers := [] })
    ?hAx ?hassign ?hbody ?hdone ?hstop
  case hI =>
    rintro pre W W' row ⟨h1, h2, h3, h6⟩ hg hr
    have hr' := fun r e => (hr r e).2
    exact ⟨h1, h2.keptN hg hr', h3.keptN hg hr', h6.trans ⟨hg.os, hg.tape, hg.output, hg.size, fun k hk => hg.block k (by have := h6.size; omega) (fun e => by have := (hr k e.symm).1; omega)⟩⟩
  case hIx =>
    rintro c pre W W' row ⟨h0, pre', x, h1, h2, h3, h4, h6⟩ hg hr
    have hr' := fun r e => (hr r e).2
    exact ⟨h0, pre', x, h1, h2, h3, h4.keptN hg hr', h6.trans ⟨hg.os, hg.tape, hg.output, hg.size, fun k hk => hg.block k (by have := h6.size; omega) (fun e => by have := (hr k e.symm).1; omega)⟩⟩
  case hAx =>
    rintro x a' _ W W' row ⟨b, h1, h2, h3⟩ hg hr
    exact ⟨b, h1, h2.keptN hg (fun r e => (hr r e).2), h3⟩
  case hassign =>
    rintro l pre x W K ⟨h1, h2, h3, h6⟩ hK
    have z0 := h3.lt
    gi_wp2
    have hb := (Below.refl W.heap.size W).alloc (Nat.le_refl _) (.cells #[.int .i64 x.1.1, .int .i64 x.1.2] 59)
    refine hK _ _ ((keepsO hb).from _) (hb.mono h6.size) ⟨h1, h2.ext hb, h3.ext hb, h6.trans (hb.mono h6.size)⟩ ⟨W.heap.size, z0, Blk.new _ _ _, rfl⟩
  case hbody =>
    rintro l pre x a' W hl hlr ⟨h1, h2, h3, h6⟩ ⟨b, hb4, hb, rfl⟩ hlt
    obtain ⟨d1, d2, d3, -, -⟩ := blk2 hb
    obtain ⟨e1, e2, e3⟩ := blk1 h2
    obtain ⟨f1, f2, f3, f4, f5⟩ := blk2 h3
    have HC := hide (HP.out W x h6)
    have P1 := hide h1
    have P2 := hide h2
    have P3 := hide h3
    have PB := hide hb
    clear h1 h2 h3 hb hst k1 k2 k3 k5 k6 hlr
    rcases hpx : p x.1.1 x.1.2 with _ | _
    · rw [hpx] at HC
      have HX := hide hpx
      clear hpx
      gi_wp2_with ((with_reducible refine (CallsIn.inRound l (hwd HC.out)).mono ?_); rintro e w1 ⟨rfl, hb1⟩)
      refine ⟨(keepsO hb1).from _, hb1.mono h6.size, ?_, P2.out.ext hb1, P3.out.ext hb1, h6.trans (hb1.mono h6.size)⟩
      intro y hy
      rw [List.map_append, List.mem_append] at hy
      rcases hy with hy | hy
      · exact P1.out y hy
      · simp at hy; rw [hy]; exact HX.out
    · rw [hpx] at HC
      have HX := hide hpx
      clear hpx
      gi_wp2_with (first | ((with_reducible refine (CallsIn.inRound l (hwd HC.out)).mono ?_); rintro e w1 ⟨rfl, hb1⟩; obtain ⟨d1', d2', d3', -, -⟩ := blk2 (PB.out.ext hb1); obtain ⟨f1', f2', f3', f4', f5'⟩ := blk2 (P3.out.ext hb1)))
      refine ⟨(((keepsO hb1).trans (KeepsOthers.setCell _ _ _)).trans (KeepsOthers.setCell _ _ _)).from _, rfl, pre, x, rfl, P1.out, HX.out, (P3.out.ext hb1).set2 _ _, ?_⟩
      exact set2B (h6.trans (hb1.mono h6.size)) (by omega) _ _
  case hdone =>
    rintro D xs W hD hxs ⟨h1, h2, h3, h6⟩ hK
    rw [hxs] at h1
    have HV := hide (firstOf_none h1)
    obtain ⟨f1, f2, f3, f4, f5⟩ := blk2 h3
    have P3 := hide h3
    clear h1 h2 h3 hst k1 k2 k3 k6 hxs
    gi_wp2_with fail
    have hK' := ((KeepsOthers.setCell W ⟨w.heap.size + 1 + 1, 0, none⟩ (.int .i64 (-1))).trans (KeepsOthers.setCell _ ⟨w.heap.size + 1 + 1, 1, none⟩ (.int .i64 (-1)))).same D _ hK rfl
    have hP := P3.out.set2 (.int .i64 (-1)) (.int .i64 (-1))
    have hB := set2B h6 (show w.heap.size ≤ w.heap.size + 1 + 1 by omega) (.int .i64 (-1)) (.int .i64 (-1))
    generalize (W.setCell ⟨w.heap.size + 1 + 1, 0, none⟩ (.int .i64 (-1))).setCell ⟨w.heap.size + 1 + 1, 1, none⟩ (.int .i64 (-1)) = W5 at hK' hP hB ⊢
    refine ⟨by simp, .inl ⟨_, _, rfl, run_takeDeferred hK', ?_⟩⟩
    have hgp := grownBy_putObj' W5 D (.deferred none)
    obtain ⟨g1, g2, g3, -, -⟩ := blk2 (hP.keptN hgp (fun r e => by cases e; exact ⟨_, hK', rfl⟩))
    refine ⟨.agg #[.int .i64 (-1), .int .i64 (-1)], by simp [results, Try.results67, go_sem, g2, g3], ?_⟩
    exact ⟨by rw [HV.out]; rfl, hB.trans (belowK_b (w := w) (Nat.le_refl _) _ D _ _ (by omega) hK' rfl rfl)⟩
  case hstop =>
    rintro D c pre W hD hSp ⟨rfl, pre', x, rfl, h2, h3, h4, h6⟩ hK
    rw [List.map_append] at hSp
    have HV := hide (firstOf_some hSp h2 h3)
    have P3 := hide h4
    clear h2 h3 h4 hst k1 k2 k3 k6 hSp
    gi_wp2_with fail
    refine ⟨by simp, .inl ⟨_, _, rfl, run_takeDeferred hK, ?_⟩⟩
    have hgp := grownBy_putObj' W D (.deferred none)
    obtain ⟨g1, g2, g3, -, -⟩ := blk2 (P3.out.keptN hgp (fun r e => by cases e; exact ⟨_, hK, rfl⟩))
    refine ⟨.agg #[.int .i64 x.1.1, .int .i64 x.1.2], by simp [results, Try.results67, go_sem, g2, g3], ?_⟩
    exact ⟨by rw [HV.out]; rfl, h6.trans (belowK_b (w := w) (Nat.le_refl _) _ D _ _ (by omega) hK rfl rfl)⟩
end Go.Proofs.Ytlhekifmkkgjlaa
/- Contracts of chapter 8 on stacks: a brick that hangs. -/
namespace Go.Proofs.Ytlhekifmkkgjlaa
open Go Go.RowKit Go.Shelf
attribute [local go_sem] Oper.semAt_some
set_option maxHeartbeats 1000000
def hangP (s : Stk) (t i : Nat) : Bool := decide ((restL s t i).length = 0)
def hangF (s : Stk) : Int × Int := firstOf (hangP s) (bricksTo s.wn s.nt)
theorem hangs1_any (p : Nat) (s : Stk) (x : Brk s) (w : World) (hp : PileB w p s) (hs : StkR w w.heap.size s) (hc : ∀ k, k < s.nt → s.cn k = s.cn x.1.1) :
    Calls Try.prog 103 #[.agg #[.int .i64 x.1.1, .int .i64 x.1.2], .pointer (some ⟨p, 0, none⟩)] w fun e w' => e = .returned (.bool (hangP s x.1.1 x.1.2)) ∧ Below w.heap.size w w' := by
  have hb := (Below.refl w.heap.size w).alloc (Nat.le_refl _) (.cells #[.int .i64 x.1.1, .int .i64 x.1.2] 59)
  have HC := hide (rests_any s x.1.1 x.1.2 (w.alloc (.cells #[.int .i64 x.1.1, .int .i64 x.1.2] 59)) ((hs.below hb (Nat.le_refl _)).more (by simp)) x.2.1 hc)
  have c0 := Blk.cell hp 0
  have c1 := Blk.cell hp 1
  have c2 := Blk.cell hp 2
  simp at c0 c1 c2
  have z0 := Blk.lt hp
  have HB := hide hb
  clear hs hc hp hb
  go_enter Try.func103, Try.ntmps103
  go_wp2_with fail
  refine HC.out.mono ?_
  rintro e w1 ⟨v, rfl, hown, hb1⟩
  obtain ⟨A, c, rfl⟩ := own_shape hown
  have HO := hide hown
  clear hown
  go_wp2_with fail
  go_ret
  refine ⟨?_, HB.out.trans (hb1.mono (by simp))⟩
  have e : (((restL s x.1.1 x.1.2).length : Int) == 0) = hangP s x.1.1 x.1.2 := by rw [Bool.eq_iff_iff]; simp [hangP]
  rw [← e]
  rfl
theorem hangs_any (s : Stk) (m : Nat) (w : World) (hs : StkR w w.heap.size s) (hc : ∀ k, k < s.nt → s.cn k = m) :
    Calls Try.prog 73 #[.agg #[.int .i64 s.wd, .int .i64 s.hg, .slice s.A s.nt s.cap]] w fun e w' => e = .returned (brV (hangF s)) ∧ Below w.heap.size w w' := by
  have hb := ((Below.refl w.heap.size w).alloc (Nat.le_refl _) (.cells #[.int .i64 s.wd, .int .i64 s.hg, .slice s.A s.nt s.cap] 131)).alloc (by simp) (.cells #[.int .i64 0, .int .i64 0] 59)
  have hp : PileB (w.alloc (.cells #[.int .i64 s.wd, .int .i64 s.hg, .slice s.A s.nt s.cap] 131)) w.heap.size s := Blk.new _ _ _
  have HC := hide (first_any 103 #[.pointer (some ⟨w.heap.size, 0, none⟩)] (hangP s) s ((w.alloc (.cells #[.int .i64 s.wd, .int .i64 s.hg, .slice s.A s.nt s.cap] 131)).alloc (.cells #[.int .i64 0, .int .i64 0] 59)) ((hs.below hb (Nat.le_refl _)).more (by simp only [World.size_alloc]; omega)) (enters_of Try.func103 (by kernel_rfl) rfl)
    (fun W x hW => hangs1_any w.heap.size s x W (Blk.ext (Blk.alloc hp _) hW) ((hs.below (hb.trans (hW.mono (by simp only [World.size_alloc]; omega))) (Nat.le_refl _)).more (by have := hW.size; have := hb.size; omega)) (fun k hk => by rw [hc k hk, hc _ x.2.1])))
  have HB := hide hb
  have k2 := Blk.new (w.alloc (.cells #[.int .i64 s.wd, .int .i64 s.hg, .slice s.A s.nt s.cap] 131)) 59 #[.int .i64 0, .int .i64 0]
  have K2 := hide k2
  unfold hangF
  generalize firstOf (hangP s) (bricksTo s.wn s.nt) = R at HC ⊢
  unfold brV at HC ⊢
  clear hs hc hb hp k2
  go_enter Try.func73, Try.ntmps73
  go_wp2_with fail
  refine HC.out.mono ?_
  rintro e w1 ⟨rfl, hb1⟩
  obtain ⟨g1, g2, g3, g4, g5⟩ := blk2 (K2.out.ext hb1)
  simp only [World.size_alloc] at g1 g2 g3 g4 g5
  go_wp2_with fail
  have hP := (K2.out.ext hb1).set2 (.int .i64 R.1) (.int .i64 R.2)
  simp only [World.size_alloc] at hP
  obtain ⟨f1, f2, f3, f4, f5⟩ := blk2 hP
  refine bodyPost_ret (v := .agg #[.int .i64 R.1, .int .i64 R.2]) (by simp [results, Try.results73, go_sem, *]) rfl ⟨rfl, ?_⟩
  exact set2B (HB.out.trans (hb1.mono (by simp only [World.size_alloc]; omega))) (by omega) _ _
end Go.Proofs.Ytlhekifmkkgjlaa
/- Contracts of chapter 8 on stacks: tiers, the check of a stack. -/
namespace Go.Proofs.Ytlhekifmkkgjlaa
open Go Go.RowKit Go.Shelf
set_option maxHeartbeats 1000000
theorem index_any (v : Int) (A : Option Addr) (n c : Nat) (x : Nat → Int) (w : World) (hn : n ≤ 1000000) (hR : IR w w.heap.size A n x) :
    Calls Try.prog 117 #[.slice A n c, .int .i64 v] w fun e w' => e = .returned (.int .i64 (idx (fun k => x k == v) n)) ∧ w' = w := by
  have HR := hide hR
  clear hR
  go_enter Try.func117, Try.ntmps117
  go_wp2_with fail
  go_loopw [8] (fun i wr => ∃ k : Nat, k ≤ n ∧ i = .int .i64 k ∧ Hid (idx (fun k => x k == v) k = -1) ∧ Hid (wr = w)) (fun i _ => n - (intOf i).toNat)
  case atStart => exact ⟨0, Nat.zero_le _, rfl, hide rfl, hide rfl⟩
  case round =>
    obtain ⟨k, hk, rfl, HX, HW⟩ := hrel
    obtain rfl := HW.out
    by_cases hlt : k < n
    · obtain ⟨b, off, rfl, hb, hc⟩ := HR.out.at_ hlt
      have i1 : (0 : Int) ≤ (k : Int) := by omega
      have i2 : (k : Int) < (n : Int) := by omega
      by_cases hx : x k = v
      · have h1 : (v == x k) = true := by simp [hx]
        have h2 : idx (fun k => x k == v) n = k := by
          have h3 : idx (fun k => x k == v) (k + 1) = k := by simp [idx, HX.out, hx]
          rw [idx_stable _ (k + 1) n (by rw [h3]; omega) (by omega), h3]
        have H2 := hide h2
        clear h2 hx
        go_wp2_with fail
        go_ret
        exact ⟨ret_int H2.out.symm, rfl⟩
      · have h1 : (v == x k) = false := by simp; exact fun e => hx e.symm
        have h2 : idx (fun k => x k == v) (k + 1) = -1 := by simp [idx, HX.out, hx]
        have H2 := hide h2
        clear h2 hx
        go_wp2_with fail
        go_roundw
        case rel => exact ⟨k + 1, by omega, by go_num, H2, trivial⟩
        case measure => simp [intOf]; omega
    · obtain rfl : k = n := by omega
      have i2 : ¬ (k : Int) < (k : Int) := by omega
      go_wp2_with fail
      go_ret
      exact ⟨ret_int HX.out.symm, rfl⟩
theorem contains_any (v : Int) (A : Option Addr) (n c : Nat) (x : Nat → Int) (w : World) (hn : n ≤ 1000000) (hR : IR w w.heap.size A n x) :
    Calls Try.prog 110 #[.slice A n c, .int .i64 v] w fun e w' => e = .returned (.bool (anyTo (fun k => x k == v) n)) ∧ w' = w := by
  have H := hide (index_any v A n c x w hn hR)
  rw [← idx_any]
  generalize idx (fun k => x k == v) n = R at H ⊢
  clear hR
  go_enter Try.func110, Try.ntmps110
  go_wp2_with fail
  refine H.out.mono ?_
  rintro e w1 ⟨rfl, rfl⟩
  go_wp2_with fail
  go_ret
  exact ⟨rfl, rfl⟩
/-- whether every brick of a tier has a cell -/
def allB (cn wn : Nat) (cf : Nat → Int) : Bool := !anyTo (fun i => !anyTo (fun k => cf k == (i : Int)) cn) wn
def tierB (m : Int) (cn wn : Nat) (cf wf : Nat → Int) : Bool :=
  decide ((cn : Int) = m) && (decide ((wn : Int) ≤ m) && (wiB 0 1000 wf wn && (wiB (-1) ((wn : Int) - 1) cf cn && allB cn wn cf)))
theorem isTier_any (m : Int) (ca wa : Option Addr) (cn cc wn wc : Nat) (cf wf : Nat → Int) (w : World) (h1 : cn ≤ 1000000) (h2 : wn ≤ 1000000) (hc : IR w w.heap.size ca cn cf) (hw : IR w w.heap.size wa wn wf) :
    Calls Try.prog 92 #[.agg #[.slice ca cn cc, .slice wa wn wc], .int .i64 m] w fun e w' => e = .returned (.bool (tierB m cn wn cf wf)) ∧ Below w.heap.size w w' := by
  have hb := (Below.refl w.heap.size w).alloc (Nat.le_refl _) (.cells #[.slice ca cn cc, .slice wa wn wc] 72)
  have HB := hide hb
  have HC := hide hc
  have HW := hide hw
  have K0 := hide (Blk.new w 72 #[.slice ca cn cc, .slice wa wn wc])
  have H3 := hide (fun W (hB : Below w.heap.size w W) => within_any 0 1000 wa wn wc wf W (by unfold maxLen; omega) ((HW.out.below hB (Nat.le_refl _)).more hB.size))
  have H4 := hide (fun W (hB : Below w.heap.size w W) => within_any (-1) ((wn : Int) - 1) ca cn cc cf W (by unfold maxLen; omega) ((HC.out.below hB (Nat.le_refl _)).more hB.size))
  clear hc hw hb
  unfold tierB
  by_cases g1 : (cn : Int) = m
  · subst g1
    by_cases g2 : (wn : Int) ≤ (cn : Int)
    · have g3 : ¬ (cn : Int) < (wn : Int) := by omega
      rw [decide_eq_true g2, decide_eq_true (rfl : (cn : Int) = (cn : Int)), Bool.true_and, Bool.true_and]
      rcases hv : wiB 0 1000 wf wn with _ | _
      · rw [hv] at H3
        rw [Bool.false_and]
        clear hv
        go_enter Try.func92, Try.ntmps92
        go_wp2_with fail
        refine (H3.out _ HB.out).mono ?_
        rintro e w1 ⟨rfl, hb1⟩
        go_wp2_with fail
        go_ret
        exact ⟨rfl, HB.out.trans (hb1.mono (by simp))⟩
      · rw [hv] at H3
        rw [Bool.true_and]
        clear hv
        rcases hv : wiB (-1) ((wn : Int) - 1) cf cn with _ | _
        · rw [hv] at H4
          rw [Bool.false_and]
          clear hv
          go_enter Try.func92, Try.ntmps92
          go_wp2_with fail
          refine (H3.out _ HB.out).mono ?_
          rintro e w1 ⟨rfl, hb1⟩
          have hB1 := HB.out.trans (hb1.mono (by simp))
          obtain ⟨z1, z2, z3, -, -⟩ := blk2 (K0.out.ext hb1)
          go_wp2_with fail
          refine (H4.out _ hB1).mono ?_
          rintro e w2 ⟨rfl, hb2⟩
          go_wp2_with fail
          go_ret
          exact ⟨rfl, hB1.trans (hb2.mono hB1.size)⟩
        · rw [hv] at H4
          rw [Bool.true_and]
          unfold allB
          clear hv
          go_enter Try.func92, Try.ntmps92
          go_wp2_with fail
          refine (H3.out _ HB.out).mono ?_
          rintro e w1 ⟨rfl, hb1⟩
          have hB1 := HB.out.trans (hb1.mono (by simp))
          have K1 := hide (K0.out.ext hb1)
          obtain ⟨z1, z2, z3, -, -⟩ := blk2 K1.out
          go_wp2_with fail
          refine (H4.out _ hB1).mono ?_
          rintro e w2 ⟨rfl, hb2⟩
          have hB2 := hB1.trans (hb2.mono hB1.size)
          have K2 := hide (K1.out.ext hb2)
          obtain ⟨y1, y2, y3, -, -⟩ := blk2 K2.out
          clear hb1 hb2 H3 H4 K0 K1
          go_wp2_with fail
          go_loopw [37] (fun i wr => ∃ k : Nat, k ≤ wn ∧ i = .int .i64 k ∧ Hid (anyTo (fun i => !anyTo (fun k => cf k == (i : Int)) cn) k = false) ∧ Hid (Blk wr w.heap.size 72 #[.slice ca cn cc, .slice wa wn wc]) ∧ Below w.heap.size w wr) (fun i _ => wn - (intOf i).toNat)
          case atStart => exact ⟨0, Nat.zero_le _, rfl, hide rfl, K2, hB2⟩
          case round =>
            obtain ⟨k, hk, rfl, HX, KR, hBr⟩ := hrel
            by_cases hlt : k < wn
            · have i1 : (0 : Int) ≤ (k : Int) := by omega
              have i2 : (k : Int) < (wn : Int) := by omega
              obtain ⟨x1, x2, x3, -, -⟩ := blk2 KR.out
              have HI := hide (contains_any (k : Int) ca cn cc cf wr h1 ((HC.out.below hBr (Nat.le_refl _)).more hBr.size))
              rcases hv : anyTo (fun j => cf j == (k : Int)) cn with _ | _
              · rw [hv] at HI
                have h5 : (!anyTo (fun i => !anyTo (fun k => cf k == (i : Int)) cn) wn) = false := by
                  rw [Bool.not_eq_false', anyTo_iff]
                  exact ⟨k, hlt, by rw [hv]; rfl⟩
                have H5 := hide h5.symm
                clear hv h5
                go_wp2_with fail
                refine HI.out.mono ?_
                rintro e w3 ⟨rfl, rfl⟩
                go_wp2_with fail
                go_ret
                exact ⟨ret_bool H5.out, hBr⟩
              · rw [hv] at HI
                have h5 : anyTo (fun i => !anyTo (fun k => cf k == (i : Int)) cn) (k + 1) = false := by
                  rw [show anyTo (fun i => !anyTo (fun k => cf k == (i : Int)) cn) (k + 1) = (anyTo (fun i => !anyTo (fun k => cf k == (i : Int)) cn) k || !anyTo (fun j => cf j == (k : Int)) cn) from rfl, HX.out, hv]; rfl
                have H5 := hide h5
                clear hv h5
                go_wp2_with fail
                refine HI.out.mono ?_
                rintro e w3 ⟨rfl, rfl⟩
                go_wp2_with fail
                go_roundw
                case rel => exact ⟨k + 1, by omega, by go_num, H5, KR, hBr⟩
                case measure => simp [intOf]; omega
            · obtain rfl : k = wn := by omega
              have i2 : ¬ (k : Int) < (k : Int) := by omega
              go_wp2_with fail
              go_ret
              exact ⟨ret_bool (by rw [HX.out]; rfl), hBr⟩
    · rw [decide_eq_false g2, decide_eq_true (rfl : (cn : Int) = (cn : Int)), Bool.true_and, Bool.false_and]
      have g3 : (cn : Int) < (wn : Int) := by omega
      go_enter Try.func92, Try.ntmps92
      go_wp2_with fail
      go_ret
      exact ⟨rfl, HB.out⟩
  · rw [decide_eq_false g1, Bool.false_and]
    have g3 : ((cn : Int) != m) = true := by simp [g1]
    go_enter Try.func92, Try.ntmps92
    go_wp2_with fail
    go_ret
    exact ⟨rfl, HB.out⟩
end Go.Proofs.Ytlhekifmkkgjlaa
/- Contracts of chapter 8 on stacks: the check of a stack; a pile. -/
namespace Go.Proofs.Ytlhekifmkkgjlaa
open Go Go.RowKit Go.Shelf
set_option maxHeartbeats 1000000
def dimB (s : Stk) : Bool := wiB 1 12 (fun k => if k = 0 then s.wd else s.hg) 2
theorem dimB_iff (s : Stk) : dimB s = true ↔ (1 ≤ s.wd ∧ s.wd ≤ 12) ∧ (1 ≤ s.hg ∧ s.hg ≤ 12) := by
  unfold dimB
  rw [wiB_iff]
  constructor
  · intro h; exact ⟨by simpa using h 0 (by omega), by simpa using h 1 (by omega)⟩
  · intro h k hk
    rcases (by omega : k = 0 ∨ k = 1) with rfl | rfl
    · simpa using h.1
    · simpa using h.2
def tiB (s : Stk) (k : Nat) : Bool := !tierB (s.wd * s.hg) (s.cn k) (s.wn k) (s.cf k) (s.wf k)
def stackB (s : Stk) : Bool := dimB s && (decide (s.nt ≤ 10) && !anyTo (tiB s) s.nt)
def stkE (s : Stk) : Int := if stackB s then 0 else 2
theorem stkE_no {s : Stk} (h : stackB s = false) : stkE s = 2 := by simp [stkE, h]
theorem stkE_ok {s : Stk} (h : stackB s = true) : stkE s = 0 := by simp [stkE, h]
theorem stackB_iff (s : Stk) : stackB s = true ↔ ((1 ≤ s.wd ∧ s.wd ≤ 12) ∧ (1 ≤ s.hg ∧ s.hg ≤ 12)) ∧ s.nt ≤ 10 ∧ ∀ k, k < s.nt → tierB (s.wd * s.hg) (s.cn k) (s.wn k) (s.cf k) (s.wf k) = true := by
  unfold stackB
  rw [Bool.and_eq_true, Bool.and_eq_true, dimB_iff, decide_eq_true_eq, Bool.not_eq_true', ← Bool.not_eq_true, anyTo_iff]
  constructor
  · rintro ⟨h1, h2, h3⟩
    refine ⟨h1, h2, fun k hk => ?_⟩
    rcases hb : tierB (s.wd * s.hg) (s.cn k) (s.wn k) (s.cf k) (s.wf k) with _ | _
    · exact absurd ⟨k, hk, by simp [tiB, hb]⟩ h3
    · rfl
  · rintro ⟨h1, h2, h3⟩
    refine ⟨h1, h2, ?_⟩
    rintro ⟨k, hk, h4⟩
    simp [tiB, h3 k hk] at h4
theorem check1s_any (p : Nat) (s : Stk) (k : Nat) (w : World) (hd : dimB s = true) (hp : Blk w p 55 #[.int .i64 s.wd, .int .i64 s.hg, .slice s.A s.nt s.cap]) (hs : StkR w w.heap.size s) (hk : k < s.nt) :
    Calls Try.prog 91 #[.agg #[s.u k, s.v k], .pointer (some ⟨p, 0, none⟩)] w fun e w' => e = .returned (.bool (tiB s k)) ∧ Below w.heap.size w w' := by
  have hb := (Below.refl w.heap.size w).alloc (Nat.le_refl _) (.cells #[s.u k, s.v k] 72)
  obtain ⟨m1, m2, hI, hJ⟩ := hs.2.2 k hk
  have HC := hide (isTier_any (s.wd * s.hg) (s.ca k) (s.wa k) (s.cn k) (s.cc k) (s.wn k) (s.wc k) (s.cf k) (s.wf k) (w.alloc (.cells #[s.u k, s.v k] 72)) m1 m2 ((hI.below hb (Nat.le_refl _)).more (by simp)) ((hJ.below hb (Nat.le_refl _)).more (by simp)))
  have HT : tiB s k = !tierB (s.wd * s.hg) (s.cn k) (s.wn k) (s.cf k) (s.wf k) := rfl
  rw [HT]
  clear HT
  generalize tierB (s.wd * s.hg) (s.cn k) (s.wn k) (s.cf k) (s.wf k) = R at HC ⊢
  have c0 := Blk.cell hp 0
  have c1 := Blk.cell hp 1
  simp at c0 c1
  have z0 := Blk.lt hp
  rw [dimB_iff] at hd
  have mb := mul_bd (a := s.wd) (b := s.hg) (M := 12) (N := 12) (by omega) (by omega) (by omega) (by omega)
  have HB := hide hb
  unfold Stk.u Stk.v at *
  clear hs hp hb hI hJ
  have w1 : IntKind.i64.wrap (s.wd * s.hg) = s.wd * s.hg := IntWalk.i64_in _ (by omega)
  go_enter Try.func91, Try.ntmps91
  go_wp2_with fail
  refine HC.out.mono ?_
  rintro e w1 ⟨rfl, hb1⟩
  go_wp2_with fail
  go_ret
  exact ⟨rfl, HB.out.trans (hb1.mono (by simp))⟩
theorem CheckStack_any (s : Stk) (w : World) (hs : StkR w w.heap.size s) :
    Calls Try.prog 45 #[.agg #[.int .i64 s.wd, .int .i64 s.hg, .slice s.A s.nt s.cap]] w fun e w' => e = .returned (.int .i64 (stkE s)) ∧ Below w.heap.size w w' := by
  have hb := ((Below.refl w.heap.size w).alloc (Nat.le_refl _) (.cells #[.int .i64 s.wd, .int .i64 s.hg, .slice s.A s.nt s.cap] 55)).alloc (by simp) (.cells #[.int .i64 s.wd, .int .i64 s.hg] 3)
  have hI : IR ((w.alloc (.cells #[.int .i64 s.wd, .int .i64 s.hg, .slice s.A s.nt s.cap] 55)).alloc (.cells #[.int .i64 s.wd, .int .i64 s.hg] 3)) ((w.alloc (.cells #[.int .i64 s.wd, .int .i64 s.hg, .slice s.A s.nt s.cap] 55)).alloc (.cells #[.int .i64 s.wd, .int .i64 s.hg] 3)).heap.size (some ⟨(w.alloc (.cells #[.int .i64 s.wd, .int .i64 s.hg, .slice s.A s.nt s.cap] 55)).heap.size, 0, none⟩) 2 (fun k => if k = 0 then s.wd else s.hg) := by
    simpa using IR.two (w.alloc (.cells #[.int .i64 s.wd, .int .i64 s.hg, .slice s.A s.nt s.cap] 55)) s.wd s.hg 3
  have HC := hide (within_any 1 12 _ 2 2 _ _ (by decide) hI)
  have hD : wiB 1 12 (fun k => if k = 0 then s.wd else s.hg) 2 = dimB s := rfl
  rw [hD, World.size_alloc] at HC
  clear hI hD
  have hp : Blk ((w.alloc (.cells #[.int .i64 s.wd, .int .i64 s.hg, .slice s.A s.nt s.cap] 55)).alloc (.cells #[.int .i64 s.wd, .int .i64 s.hg] 3)) w.heap.size 55 #[.int .i64 s.wd, .int .i64 s.hg, .slice s.A s.nt s.cap] := (Blk.new _ _ _).alloc _
  have HP := hide hp
  have HB := hide hb
  have HS := hide hs
  have hn1 := hs.1
  clear hs hp hb
  rcases hd : dimB s with _ | _
  · rw [hd] at HC
    have HE := hide (stkE_no (s := s) (by unfold stackB; rw [hd]; rfl)).symm
    clear hd
    go_enter Try.func45, Try.ntmps45
    go_wp2_with fail
    refine HC.out.mono ?_
    rintro e w1 ⟨rfl, hb1⟩
    go_wp2_with fail
    go_ret
    exact ⟨ret_int HE.out, HB.out.trans (hb1.mono (by simp only [World.size_alloc]; omega))⟩
  · rw [hd] at HC
    by_cases hn : s.nt ≤ 10
    · have i1 : ¬ (10 : Int) < (s.nt : Int) := by omega
      have HT := hide (fun W (hB : Below w.heap.size w W) (hP : Blk W w.heap.size 55 #[.int .i64 s.wd, .int .i64 s.hg, .slice s.A s.nt s.cap]) => containsFunc_tier 91 #[.pointer (some ⟨w.heap.size, 0, none⟩)] (tiB s) s.A s.nt s.cap s.u s.v W (by unfold maxLen; omega) ((HS.out.2.1.below hB (Nat.le_refl _)).more hB.size)
        (enters_of Try.func91 (by kernel_rfl) rfl) (fun W' k hk hW => check1s_any w.heap.size s k W' hd (Blk.ext hP hW) ((HS.out.below (hB.trans (hW.mono hB.size)) (Nat.le_refl _)).more (by have := hW.size; have := hB.size; omega)) hk))
      have HE : stkE s = if anyTo (tiB s) s.nt then 2 else 0 := by
        unfold stkE stackB
        rw [hd, decide_eq_true hn]
        cases anyTo (tiB s) s.nt <;> rfl
      have HE2 := hide HE
      clear HE hd
      rcases ha : anyTo (tiB s) s.nt with _ | _
      · rw [ha] at HT HE2
        clear ha
        go_enter Try.func45, Try.ntmps45
        go_wp2_with fail
        refine HC.out.mono ?_
        rintro e w1 ⟨rfl, hb1⟩
        have K1 := hide (HP.out.ext hb1)
        have hB1 := HB.out.trans (hb1.mono (by simp only [World.size_alloc]; omega))
        have c2 := Blk.cell K1.out 2
        simp at c2
        have z0 := Blk.lt K1.out
        go_wp2_with fail
        refine (HT.out _ hB1 K1.out).mono ?_
        rintro e w2 ⟨rfl, hb2⟩
        go_wp2_with fail
        go_ret
        exact ⟨ret_int HE2.out.symm, hB1.trans (hb2.mono hB1.size)⟩
      · rw [ha] at HT HE2
        clear ha
        go_enter Try.func45, Try.ntmps45
        go_wp2_with fail
        refine HC.out.mono ?_
        rintro e w1 ⟨rfl, hb1⟩
        have K1 := hide (HP.out.ext hb1)
        have hB1 := HB.out.trans (hb1.mono (by simp only [World.size_alloc]; omega))
        have c2 := Blk.cell K1.out 2
        simp at c2
        have z0 := Blk.lt K1.out
        go_wp2_with fail
        refine (HT.out _ hB1 K1.out).mono ?_
        rintro e w2 ⟨rfl, hb2⟩
        go_wp2_with fail
        go_ret
        exact ⟨ret_int HE2.out.symm, hB1.trans (hb2.mono hB1.size)⟩
    · have i1 : (10 : Int) < (s.nt : Int) := by omega
      have HE := hide (stkE_no (s := s) (by unfold stackB; rw [decide_eq_false hn]; simp)).symm
      clear hd
      go_enter Try.func45, Try.ntmps45
      go_wp2_with fail
      refine HC.out.mono ?_
      rintro e w1 ⟨rfl, hb1⟩
      have K1 := hide (HP.out.ext hb1)
      have c2 := Blk.cell K1.out 2
      simp at c2
      have z0 := Blk.lt K1.out
      go_wp2_with fail
      go_ret
      exact ⟨ret_int HE.out, HB.out.trans (hb1.mono (by simp only [World.size_alloc]; omega))⟩
theorem blk3 {W : World} {g : Nat} {t : TypeId} {a b c : Value} (h : Blk W g t #[a, b, c]) :
    g < W.heap.size ∧ W.cell? ⟨g, 0, none⟩ = some a ∧ W.cell? ⟨g, 1, none⟩ = some b ∧ W.cell? ⟨g, 2, none⟩ = some c ∧ W.frozen? ⟨g, 0, none⟩ = false ∧ W.frozen? ⟨g, 1, none⟩ = false ∧ W.frozen? ⟨g, 2, none⟩ = false :=
  ⟨h.lt, by rw [h.cell]; rfl, by rw [h.cell]; rfl, by rw [h.cell]; rfl, h.frozen _, h.frozen _, h.frozen _⟩
theorem Blk.set3 {w : World} {g : Nat} {t : TypeId} {a b c : Value} (h : Blk w g t #[a, b, c]) (u v x : Value) : Blk (((w.setCell ⟨g, 0, none⟩ u).setCell ⟨g, 1, none⟩ v).setCell ⟨g, 2, none⟩ x) g t #[u, v, x] := by
  simpa using ((h.set_ 0 u).set_ 1 v).set_ 2 x
theorem set3B {B : Nat} {a w : World} (h : Below B a w) {g : Nat} (hg : B ≤ g) (u v x : Value) : Below B a (((w.setCell ⟨g, 0, none⟩ u).setCell ⟨g, 1, none⟩ v).setCell ⟨g, 2, none⟩ x) :=
  (set2B h hg u v).setCell (p := ⟨g, 2, none⟩) hg x
theorem newPile_any (s : Stk) (w : World) (hs : StkR w w.heap.size s) :
    Calls Try.prog 66 #[.agg #[.int .i64 s.wd, .int .i64 s.hg, .slice s.A s.nt s.cap]] w fun e w' => e = .returned (.tuple #[.agg #[.int .i64 s.wd, .int .i64 s.hg, .slice s.A s.nt s.cap], .int .i64 (stkE s)]) ∧ Below w.heap.size w w' := by
  have HS := hide hs
  clear hs
  have HC := hide (fun W (hB : Below w.heap.size w W) => CheckStack_any s W ((HS.out.below hB (Nat.le_refl _)).more hB.size))
  generalize stkE s = E at HC ⊢
  have hB : Below w.heap.size w ((w.alloc (.cells #[.int .i64 s.wd, .int .i64 s.hg, .slice s.A s.nt s.cap] 55)).alloc (.cells #[.int .i64 0, .int .i64 0, .slice none 0 0] 131)) := ((Below.refl _ _).alloc (Nat.le_refl _) _).alloc (by simp) _
  have h1 : Blk ((w.alloc (.cells #[.int .i64 s.wd, .int .i64 s.hg, .slice s.A s.nt s.cap] 55)).alloc (.cells #[.int .i64 0, .int .i64 0, .slice none 0 0] 131)) w.heap.size 55 #[.int .i64 s.wd, .int .i64 s.hg, .slice s.A s.nt s.cap] := (Blk.new w _ _).alloc _
  have h2 : Blk ((w.alloc (.cells #[.int .i64 s.wd, .int .i64 s.hg, .slice s.A s.nt s.cap] 55)).alloc (.cells #[.int .i64 0, .int .i64 0, .slice none 0 0] 131)) (w.heap.size + 1) 131 #[.int .i64 0, .int .i64 0, .slice none 0 0] := by simpa using Blk.new (w.alloc (.cells #[.int .i64 s.wd, .int .i64 s.hg, .slice s.A s.nt s.cap] 55)) 131 #[.int .i64 0, .int .i64 0, .slice none 0 0]
  have H0 := hide hB
  have H1 := hide h1
  have H2 := hide h2
  have hz : ((w.alloc (.cells #[.int .i64 s.wd, .int .i64 s.hg, .slice s.A s.nt s.cap] 55)).alloc (.cells #[.int .i64 0, .int .i64 0, .slice none 0 0] 131)).heap.size = w.heap.size + 2 := by simp
  have HZ := hide hz
  clear hB h1 h2 hz
  go_enter Try.func66, Try.ntmps66
  go_wp2_with fail
  generalize ((w.alloc (.cells #[.int .i64 s.wd, .int .i64 s.hg, .slice s.A s.nt s.cap] 55)).alloc (.cells #[.int .i64 0, .int .i64 0, .slice none 0 0] 131)) = W0 at H0 H1 H2 HZ ⊢
  obtain ⟨a0, a1, a2, a3, -, -, -⟩ := blk3 H1.out
  have z0 := HZ.out
  go_region_held3 (fun W => W.cell? ⟨w.heap.size, 0, none⟩ = some (.int .i64 s.wd) ∧ W.cell? ⟨w.heap.size, 1, none⟩ = some (.int .i64 s.hg) ∧ W.cell? ⟨w.heap.size, 2, none⟩ = some (.slice s.A s.nt s.cap)) (first | go_keep | exact ⟨(hb3.cell (p := ⟨w.heap.size, 0, none⟩) a0).trans a1, (hb3.cell (p := ⟨w.heap.size, 1, none⟩) a0).trans a2, (hb3.cell (p := ⟨w.heap.size, 2, none⟩) a0).trans a3⟩) ((go_at_call 45; refine (HC.out _ ?_).mono ?_; (exact Below_dN H0.out _); rintro e w3 ⟨rfl, hb3⟩; have K3 := hide ((H2.out.drewN _).ext hb3); obtain ⟨b0, b1, b2, b3, b4, b5, b6⟩ := blk3 K3.out))
  obtain ⟨f0, f1, f2, f3, -, -, -⟩ := blk3 (K3.out.set3 (.int .i64 s.wd) (.int .i64 s.hg) (.slice s.A s.nt s.cap))
  have hB3 := set3B (B := w.heap.size) (H0.out.trans (((Below.refl W0.heap.size W0).trans (show Below W0.heap.size W0 w3 from ⟨hb3.os, hb3.tape, hb3.output, hb3.size, fun k hk => hb3.block k (by simpa using hk)⟩)).mono (by omega))) (show w.heap.size ≤ w.heap.size + 1 by omega) (.int .i64 s.wd) (.int .i64 s.hg) (.slice s.A s.nt s.cap)
  go_wp2_with fail
  refine bodyPost_ret (v := .tuple #[.agg #[.int .i64 s.wd, .int .i64 s.hg, .slice s.A s.nt s.cap], .int .i64 E]) (by simp [results, Try.results66, go_sem, f1, f2, f3]) rfl ⟨rfl, hB3⟩
end Go.Proofs.Ytlhekifmkkgjlaa
/- Contracts of chapter 8 on stacks: tiers from the top. -/
namespace Go.Proofs.Ytlhekifmkkgjlaa
open Go Go.RowKit Go.Shelf
attribute [local go_sem] Oper.semAt_some
set_option maxHeartbeats 1000000
/-- the numbers below n, from the top down to r -/
def backTo (n r : Nat) : List Nat := (List.range (n - r)).map fun i => n - 1 - i
theorem backTo_top (n : Nat) : backTo n n = [] := by simp [backTo]
theorem backTo_succ {n r : Nat} (h : r < n) : backTo n r = backTo n (r + 1) ++ [r] := by
  unfold backTo
  rw [show n - r = (n - (r + 1)) + 1 by omega, List.range_succ, List.map_append]
  simp
  omega
theorem backTo_len (n r : Nat) : (backTo n r).length = n - r := by simp [backTo]
theorem backTo_prefix (n : Nat) {r : Nat} (h : r ≤ n) : backTo n r <+: backTo n 0 := by
  induction r with
  | zero => exact List.prefix_refl _
  | succ r ih =>
    refine List.IsPrefix.trans ?_ (ih (by omega))
    rw [backTo_succ (show r < n by omega)]
    exact List.prefix_append _ _
abbrev Tie (s : Stk) := { k : Nat // k < s.nt }
theorem back1_in (F : Fence) (n : Nat) (hF : ∀ f, F.fn f) (hro : F.round = none) (hn : 1 ≤ n) (l q n0 : Nat) (s : Stk) (J Jx : List (Tie s) → World → Prop) (W : World)
    (hq : Blk W q 53 #[.slice s.A s.nt s.cap]) (hs : StkR W n0 s)
    (hY : ∀ pre (x : Tie s) W, J pre W → pre.length < s.nt → YieldAt F (n - 1) Try.prog l #[.int .i64 x.1, .agg #[s.u x.1, s.v x.1]] W fun e W' =>
      (e = .returned (.bool true) ∧ J (pre ++ [x]) W' ∧ KpB n0 q W W') ∨ (e = .returned (.bool false) ∧ Jx (pre ++ [x]) W')) (h0 : J [] W) :
    CallsIn F n Try.prog 116 #[.func (.yield l) #[] #[], .pointer (some ⟨q, 0, none⟩)] W fun e W' => (∃ v, e = .returned v) ∧
      ((∃ ys : List (Tie s), ys.map (·.1) = backTo s.nt 0 ∧ J ys W') ∨ (∃ pre : List (Tie s), pre.map (·.1) <+: backTo s.nt 0 ∧ Jx pre W')) := by
  obtain ⟨g1, g2, g3⟩ := blk1 hq
  have HYY := hide hY
  have H0 := hide h0
  have HS := hide hs
  have HQ := hide hq
  have hnt := hs.1
  clear hY h0 hs hq
  refine callsIn_of_wp Try.func116 rfl (hF _) ?_ hro
  simp only [Try.ntmps116, List.size_toArray, List.length_cons, List.length_nil, Nat.reduceAdd, Nat.reduceSub, Array.replicate_succ, Array.replicate_zero, List.push_toArray, List.append_toArray, List.nil_append, List.cons_append]
  gi_wp2_with fail
  gi_loopw [3] (fun i wr => ∃ (v : Int) (r : Nat) (ys : List (Tie s)), i = .int .i64 v ∧ v = (r : Int) - 1 ∧ r ≤ s.nt ∧ Hid (ys.map (·.1) = backTo s.nt r ∧ J ys wr) ∧ KpB n0 q W wr) (fun i _ => (intOf i + 1).toNat)
  case atStart => exact ⟨_, s.nt, [], rfl, rfl, Nat.le_refl _, hide ⟨by rw [backTo_top]; rfl, H0.out⟩, KpB.refl _ _ _⟩
  case round =>
    obtain ⟨v, r, ys, rfl, hv, hr, hJs, hnx⟩ := hrel
    rcases Nat.eq_zero_or_pos r with rfl | hpos
    · obtain rfl : v = -1 := by omega
      clear hv
      gi_wp2_with fail
      go_end0
      exact ⟨⟨_, rfl⟩, .inl ⟨ys, hJs.out.1, hJs.out.2⟩⟩
    · obtain ⟨k, rfl⟩ : ∃ k, r = k + 1 := ⟨r - 1, by omega⟩
      obtain rfl : v = (k : Int) := by omega
      clear hv
      obtain ⟨tb, toff, hA, htb, hu, hv2⟩ := (HS.out.below hnx.1 (Nat.le_refl _)).2.1.at_ (show k < s.nt by omega)
      obtain ⟨c0, c1, c2⟩ := blk1 (hnx.blk HQ.out)
      rw [hA] at c1
      have i1 : (0 : Int) ≤ (k : Int) := by omega
      have i2 : (k : Int) < (s.nt : Int) := by omega
      obtain ⟨fn, tmps, assign, body, hy, hR⟩ := HYY.out ys ⟨k, by omega⟩ wr hJs.out.2 (by
        have h1 := congrArg List.length hJs.out.1
        rw [List.length_map, backTo_len] at h1
        omega)
      dsimp only at hy
      have HR := hide hR
      clear hR hA
      unfold Stk.u at hu hy
      unfold Stk.v at hv2 hy
      gi_wp2_with fail
      refine HR.out.mono ?_
      rintro e W3 (⟨rfl, hJ3, hk3⟩ | ⟨rfl, hJx3⟩)
      · have HJ3 := hide hJ3
        clear hJ3
        gi_wp2_with fail
        go_roundw
        case rel => exact ⟨_, k, ys ++ [⟨k, by omega⟩], rfl, by omega, by omega, hide ⟨by rw [backTo_succ (show k < s.nt by omega), List.map_append, hJs.out.1]; rfl, HJ3.out⟩, hnx.trans hk3⟩
        case measure => simp [intOf]
      · have HJ3 := hide hJx3
        clear hJx3
        gi_wp2_with fail
        refine bodyPost_ret (results_none rfl _ _ _) rfl ?_
        exact ⟨⟨_, rfl⟩, .inr ⟨_, by
          rw [List.map_append, hJs.out.1]
          have h9 := backTo_prefix s.nt (r := k) (by omega)
          rw [backTo_succ (show k < s.nt by omega)] at h9
          exact h9, HJ3.out⟩⟩
theorem back_any (A : Option Addr) (n c : Nat) (w : World) :
    Calls Try.prog 106 #[.slice A n c] w fun e w' => e = .returned (.func (.func 116) #[] #[.pointer (some ⟨w.heap.size, 0, none⟩)]) ∧ w.alloc (.cells #[.slice A n c] 53) = w' := by
  go_enter Try.func106, Try.ntmps106
  go_wp2_with fail
  go_ret
  exact ⟨rfl, rfl⟩
theorem back_stops (F : Fence) (n : Nat) (hF : ∀ f, F.fn f) (hro : F.round = none) (hn : 1 ≤ n) (q n0 : Nat) (s : Stk) (w : World) (hq : Blk w q 53 #[.slice s.A s.nt s.cap]) (hn0 : n0 ≤ w.heap.size) (hs : StkR w n0 s) :
    SeqStopsK F n Try.prog 116 #[.pointer (some ⟨q, 0, none⟩)] (fun x : Tie s => #[.int .i64 x.1, .agg #[s.u x.1, s.v x.1]]) (KpB n0 q) (fun ys => ys.map (·.1) = backTo s.nt 0) (fun pre => pre.map (·.1) <+: backTo s.nt 0) s.nt w := fun l J Jx W hW _ _ hY h0 =>
  back1_in F n hF hro hn l q n0 s J Jx W (hq.ext hW) (hs.below (hW.mono hn0) (Nat.le_refl _)) hY h0
end Go.Proofs.Ytlhekifmkkgjlaa
/- The rows of loads that a pile's walk keeps: what they hold, and that they lie apart. -/
namespace Go.Proofs.Ytlhekifmkkgjlaa
open Go Go.RowKit Go.Shelf
set_option maxHeartbeats 1000000
def cellsL (l : List (Nat × Nat)) : List Value := l.flatMap fun x => [.int .i64 x.1, .int .i64 x.2]
theorem cellsL_nil : cellsL [] = [] := rfl
theorem cellsL_cons (x : Nat × Nat) (l : List (Nat × Nat)) : cellsL (x :: l) = .int .i64 x.1 :: .int .i64 x.2 :: cellsL l := rfl
theorem cellsL_append (l m : List (Nat × Nat)) : cellsL (l ++ m) = cellsL l ++ cellsL m := by simp [cellsL, List.flatMap_append]
theorem cellsL_len (l : List (Nat × Nat)) : (cellsL l).length = l.length * 2 := by
  induction l with
  | nil => rfl
  | cons x l ih => rw [cellsL_cons]; simp [ih]; omega
theorem cellsL_get (l : List (Nat × Nat)) (c : Nat) (h : c < l.length) : (cellsL l)[c * 2]? = some (.int .i64 (l.getD c (0, 1)).1) ∧ (cellsL l)[c * 2 + 1]? = some (.int .i64 (l.getD c (0, 1)).2) := by
  induction l generalizing c with
  | nil => simp at h
  | cons x l ih =>
    rw [cellsL_cons]
    cases c with
    | zero => simp
    | succ c =>
      have := ih c (by simpa using h)
      rw [show (c + 1) * 2 = c * 2 + 1 + 1 by omega]
      simpa using this
theorem cellsL_set (l : List (Nat × Nat)) (c : Nat) (x : Nat × Nat) : cellsL (l.set c x) = ((cellsL l).set (c * 2) (.int .i64 x.1)).set (c * 2 + 1) (.int .i64 x.2) := by
  induction l generalizing c with
  | nil => simp [cellsL_nil]
  | cons y l ih =>
    cases c with
    | zero => simp [cellsL_cons]
    | succ c =>
      rw [List.set_cons_succ, cellsL_cons, cellsL_cons, ih, show (c + 1) * 2 = c * 2 + 1 + 1 by omega]
      simp
theorem cellsL_one (l : List (Nat × Nat)) : ∀ u ∈ cellsL l, u.oneCell' = true := by
  induction l with
  | nil => simp [cellsL_nil]
  | cons x l ih =>
    rw [cellsL_cons]
    intro u hu
    simp at hu
    rcases hu with rfl | rfl | hu
    · rfl
    · rfl
    · exact ih u hu
/-- a slice of loads that owns its row -/
def OwnL (W : World) (n0 : Nat) (v : Value) (l : List (Nat × Nat)) : Prop := W.ownsRow n0 76 2 v l.length (cellsL l)
theorem OwnL.nil (W : World) (n0 : Nat) : OwnL W n0 (.slice none 0 0) [] := ⟨rfl, .inl ⟨rfl, rfl⟩⟩
theorem OwnL.shape {W : World} {n0 : Nat} {v : Value} {l : List (Nat × Nat)} (h : OwnL W n0 v l) : ∃ A c, v = .slice A l.length c := own_shape h
theorem OwnL.lt {W : World} {n0 g : Nat} {v : Value} {l : List (Nat × Nat)} (h : OwnL W n0 v l) (hv : v.ownBlock = some g) : n0 ≤ g ∧ g < W.heap.size := World.ownsRow.lt h g hv
theorem OwnL.at_ {W : World} {n0 : Nat} {v : Value} {l : List (Nat × Nat)} (h : OwnL W n0 v l) {c : Nat} (hc : c < l.length) :
    ∃ g cap, v = .slice (some ⟨g, 0, none⟩) l.length cap ∧ v.ownBlock = some g ∧ g < W.heap.size ∧ W.cell? ⟨g, c * 2, none⟩ = some (.int .i64 (l.getD c (0, 1)).1) ∧ W.cell? ⟨g, c * 2 + 1, none⟩ = some (.int .i64 (l.getD c (0, 1)).2) ∧
      W.frozen? ⟨g, c * 2, none⟩ = false ∧ W.frozen? ⟨g, c * 2 + 1, none⟩ = false := by
  obtain ⟨h1, h2⟩ := h
  rcases h2 with ⟨-, h0⟩ | ⟨g, cap, cur, rfl, hb, hg, hn, hm, hs, ht⟩
  · omega
  · have hB : Blk W g 76 cur := hg
    have hget : ∀ j u, j < l.length * 2 → (cellsL l)[j]? = some u → W.cell? ⟨g, j, none⟩ = some u := by
      intro j u hj hu
      rw [hB.cell, ← Array.getElem?_toList]
      rw [← ht, List.getElem?_take_of_lt hj] at hu
      exact hu
    obtain ⟨g1, g2⟩ := cellsL_get l c hc
    exact ⟨g, cap, rfl, rfl, hB.lt, hget _ _ (by omega) g1, hget _ _ (by omega) g2, hB.frozen _, hB.frozen _⟩
theorem OwnL.kept {W W' : World} {n0 : Nat} {v : Value} {l : List (Nat × Nat)} (h : OwnL W n0 v l) {row : Option Nat} (hg : W.grownBy W' row) (hr : ∀ g, row = some g → v.ownBlock ≠ some g) : OwnL W' n0 v l := by
  refine World.ownsRow.kept h hg ?_
  cases hv : v.ownBlock with
  | none => exact .inl rfl
  | some b => exact .inr (fun e => hr b e.symm hv)
theorem OwnL.set {W : World} {n0 g c cap : Nat} {l : List (Nat × Nat)} (h : OwnL W n0 (.slice (some ⟨g, 0, none⟩) l.length cap) l) (x : Nat × Nat) (hc : c < l.length) :
    OwnL ((W.setCell ⟨g, c * 2, none⟩ (.int .i64 x.1)).setCell ⟨g, c * 2 + 1, none⟩ (.int .i64 x.2)) n0 (.slice (some ⟨g, 0, none⟩) l.length cap) (l.set c x) := by
  obtain ⟨h1, h2⟩ := h
  rcases h2 with ⟨h2, -⟩ | ⟨g', cap', cur, hv, hb, hg, hn, hm, hs, ht⟩
  · cases h2
  · cases hv
    have hB : Blk W g 76 cur := hg
    have hB2 := (hB.set_ (c * 2) (.int .i64 x.1)).set_ (c * 2 + 1) (.int .i64 x.2)
    refine ⟨by rw [cellsL_len], .inr ⟨g, cap, _, by rw [List.length_set], hb, hB2, by rw [List.length_set]; exact hn, hm, by simpa using hs, ?_⟩⟩
    rw [cellsL_set, ← ht, List.length_set]
    simp only [Array.toList_setIfInBounds, List.take_set]
def upd {α : Type} (v : Nat → α) (t : Nat) (x : α) : Nat → α := fun k => if k = t then x else v k
theorem upd_same {α : Type} (v : Nat → α) (t : Nat) (x : α) : upd v t x t = x := by simp [upd]
theorem upd_ne {α : Type} (v : Nat → α) {t k : Nat} (x : α) (h : k ≠ t) : upd v t x k = v k := by simp [upd, h]
theorem OwnL.other {W : World} {n0 : Nat} {v : Value} {l : List (Nat × Nat)} {g : Nat} {t : TypeId} {cs : Array Value} (h : OwnL W n0 v l) (hB : Blk W g t cs) (hne : 76 ≠ t) : v.ownBlock ≠ some g := own_blk_ne h hB hne
theorem grown_none {W W' : World} (hb : Below W.heap.size W W') : W.grownBy W' none := ⟨hb.os, hb.tape, hb.output, hb.size, fun k hk _ => hb.block k hk⟩
def rowV (n : Nat) (v : Nat → Value) : Array Value := ((List.range n).map v).toArray
theorem rowV_get (n : Nat) (v : Nat → Value) {k : Nat} (h : k < n) : (rowV n v)[k]? = some (v k) := by simp [rowV, h]
theorem rowV_set (n : Nat) (v : Nat → Value) (t : Nat) (x : Value) : (rowV n v).setIfInBounds t x = rowV n (upd v t x) := by
  apply Array.ext_getElem?
  intro k
  simp only [rowV, List.setIfInBounds_toArray, List.getElem?_toArray, List.getElem?_set, List.getElem?_map, List.length_map, List.length_range]
  by_cases hk : k < n
  · by_cases e : t = k
    · subst e; simp [hk, upd]
    · have e2 : ¬ k = t := fun h => e h.symm
      simp [hk, e, e2, upd]
  · by_cases e : t = k
    · subst e; simp [hk]
    · simp [hk, e]
theorem rowV_same (n : Nat) (v v' : Nat → Value) (h : ∀ k, k < n → v k = v' k) : rowV n v = rowV n v' := by
  unfold rowV
  congr 1
  exact List.map_congr_left (fun k hk => h k (by simpa using hk))
/-- the boxes and rows of a pile's walk: z: the heap's size before it; rows below nt: the tiers' loads; row nt: the loads on the floor; row nt + 1: those on the next floor -/
structure LI (w W : World) (z b6 qb : Nat) (s : Stk) (N : Nat) (v : Nat → Value) (L : Nat → List (Nat × Nat)) (ok : Bool) (r : Nat → Value) (o : Value) : Prop where
  below : Below z w W
  pile : PileB W z s
  outb : Blk W (z + 1) 64 #[.slice (some ⟨z + 3, 0, none⟩) s.nt s.nt]
  sc : Blk W (z + 1 + 1) 176 #[.bool (!ok)]
  row : Blk W (z + 3) 65 (rowV s.nt r)
  onb : Blk W b6 65 #[o]
  qbx : Blk W qb 53 #[.slice s.A s.nt s.cap]
  own : ∀ k, k < N → OwnL W z (v k) (L k)
  sep : ∀ j k g, j < N → k < N → j ≠ k → (v j).ownBlock = some g → (v k).ownBlock ≠ some g
  okl : ∀ k, k < N → ∀ x ∈ L k, LdOk x
  hb : z + 3 < b6 ∧ b6 < qb
/-- a block that is none of these -/
def Far (z b6 qb N : Nat) (v : Nat → Value) (g : Nat) : Prop := z + 3 < g ∧ g ≠ b6 ∧ g ≠ qb ∧ ∀ k, k < N → (v k).ownBlock ≠ some g
theorem grownBy_setC (W : World) (b i : Nat) (v : Value) : W.grownBy (W.setCell ⟨b, i, none⟩ v) (some b) :=
  ⟨rfl, rfl, rfl, by rw [size_set]; exact Nat.le_refl _, fun k _ hk => Below.heap_setCell _ _ _ k (fun e => hk (by rw [e]))⟩
theorem upd_self {α : Type} (v : Nat → α) (t : Nat) : upd v t (v t) = v := by
  funext k
  unfold upd
  split
  · rename_i e; rw [e]
  · rfl
section
variable {w W W' : World} {z b6 qb N : Nat} {s : Stk} {v : Nat → Value} {L : Nat → List (Nat × Nat)} {ok : Bool} {r : Nat → Value} {o : Value}
theorem LI.kept (h : LI w W z b6 qb s N v L ok r o) {row : Option Nat} (hg : W.grownBy W' row) (hr : ∀ g, row = some g → Far z b6 qb N v g) : LI w W' z b6 qb s N v L ok r o := by
  have hh := h.hb
  have hne : ∀ k, k = z ∨ k = z + 1 ∨ k = z + 2 ∨ k = z + 3 ∨ k = b6 ∨ k = qb → some k ≠ row := by
    intro k hk e
    obtain ⟨f1, f2, f3, -⟩ := hr k e.symm
    omega
  refine ⟨?_, Blk.grown h.pile hg (hne _ (by omega)), h.outb.grown hg (hne _ (by omega)), h.sc.grown hg (hne _ (by omega)), h.row.grown hg (hne _ (by omega)), h.onb.grown hg (hne _ (by omega)), h.qbx.grown hg (hne _ (by omega)), ?_, h.sep, h.okl, h.hb⟩
  · refine h.below.trans ⟨hg.os, hg.tape, hg.output, hg.size, fun k hk => hg.block k (by have := Blk.lt h.pile; omega) (fun e => ?_)⟩
    have := (hr k e.symm).1; omega
  · intro k hk
    exact (h.own k hk).kept hg (fun g e => (hr g e).2.2.2 k hk)
theorem LI.ext (h : LI w W z b6 qb s N v L ok r o) (hb : Below W.heap.size W W') : LI w W' z b6 qb s N v L ok r o := h.kept (grown_none hb) (fun _ e => by cases e)
theorem LI.far (h : LI w W z b6 qb s N v L ok r o) {g : Nat} (hg : W.heap.size ≤ g) : Far z b6 qb N v g := by
  have h1 := h.row.lt
  have h2 := h.onb.lt
  have h3 := h.qbx.lt
  exact ⟨by omega, by omega, by omega, fun k hk e => by have := ((h.own k hk).lt e).2; omega⟩
theorem LI.typed (h : LI w W z b6 qb s N v L ok r o) {g : Nat} {t : TypeId} {cs : Array Value} (hB : Blk W g t cs) (hz : z + 3 < g) (h1 : t ≠ 65) (h2 : t ≠ 53) (h3 : t ≠ 76) : Far z b6 qb N v g :=
  ⟨hz, hB.ne_ h.onb h1, hB.ne_ h.qbx h2, fun k hk => (h.own k hk).other hB h3.symm⟩
theorem LI.set (h : LI w W z b6 qb s N v L ok r o) {g : Nat} (hf : Far z b6 qb N v g) (i : Nat) (u : Value) : LI w (W.setCell ⟨g, i, none⟩ u) z b6 qb s N v L ok r o :=
  h.kept (row := some g) (grownBy_setC W g i u) (fun g' e => by cases e; exact hf)
/-- the scale -/
theorem LI.scale (h : LI w W z b6 qb s N v L ok r o) (k : Bool) : LI w (offW W (z + 1 + 1) k) z b6 qb s N v L (ok && k) r o := by
  have hh := h.hb
  cases k with
  | true => rw [Bool.and_true]; exact h
  | false =>
    have hg := grownBy_setC W (z + 1 + 1) 0 (.bool true)
    refine ⟨h.below.setCell (p := ⟨z + 1 + 1, 0, none⟩) (by simp only []; omega) _, Blk.far h.pile (p := ⟨z + 1 + 1, 0, none⟩) (by simp only []; omega) _, h.outb.far (p := ⟨z + 1 + 1, 0, none⟩) (by simp only []; omega) _, ?_, h.row.far (p := ⟨z + 1 + 1, 0, none⟩) (by simp only []; omega) _, h.onb.far (p := ⟨z + 1 + 1, 0, none⟩) (by simp only []; omega) _, h.qbx.far (p := ⟨z + 1 + 1, 0, none⟩) (by simp only []; omega) _, ?_, h.sep, h.okl, h.hb⟩
    · show Blk (W.setCell ⟨z + 1 + 1, 0, none⟩ (.bool true)) (z + 1 + 1) 176 #[.bool (!(ok && false))]
      simpa using h.sc.set_ 0 (.bool true)
    · intro k hk
      exact (h.own k hk).kept hg (fun g e => by cases e; exact (h.own k hk).other h.sc (by decide))
theorem LI.scaled (h : LI w W z b6 qb s N v L ok r o) (k : Bool) (hb : Below W.heap.size (offW W (z + 1 + 1) k) W') : LI w W' z b6 qb s N v L (ok && k) r o :=
  (h.scale k).ext (by rw [size_offW]; exact hb)
/-- one row turned -/
theorem LI.turn (h : LI w W z b6 qb s N v L ok r o) {k0 : Nat} (hk : k0 < N) (hg : W.grownBy W' (v k0).ownBlock) {x : Value} {l : List (Nat × Nat)} (hown : OwnL W' z x l)
    (hx : ∀ g, x.ownBlock = some g → (v k0).ownBlock = some g ∨ W.heap.size ≤ g) (hok : ∀ y ∈ l, LdOk y) : LI w W' z b6 qb s N (upd v k0 x) (upd L k0 l) ok r o := by
  have hh := h.hb
  have ho := h.own k0 hk
  have hne : ∀ {k : Nat} {t : TypeId} {cs : Array Value}, Blk W k t cs → 76 ≠ t → some k ≠ (v k0).ownBlock := fun hB ht e => ho.other hB ht e.symm
  refine ⟨?_, Blk.grown h.pile hg (hne h.pile (by decide)), h.outb.grown hg (hne h.outb (by decide)), h.sc.grown hg (hne h.sc (by decide)), h.row.grown hg (hne h.row (by decide)), h.onb.grown hg (hne h.onb (by decide)), h.qbx.grown hg (hne h.qbx (by decide)), ?_, ?_, ?_, h.hb⟩
  · refine h.below.trans ⟨hg.os, hg.tape, hg.output, hg.size, fun k hk' => hg.block k (by have := Blk.lt h.pile; omega) (fun e => ?_)⟩
    have := (ho.lt e.symm).1; omega
  · intro k hkN
    by_cases e : k = k0
    · subst e; rw [upd_same, upd_same]; exact hown
    · rw [upd_ne _ _ e, upd_ne _ _ e]
      exact (h.own k hkN).kept hg (fun g eg => h.sep k0 k g hk hkN (fun e' => e e'.symm) eg)
  · intro j k g hj hkN hjk hjg
    by_cases ej : j = k0
    · subst ej
      rw [upd_same] at hjg
      rw [upd_ne _ _ (fun e => hjk e.symm)]
      rcases hx g hjg with h1 | h1
      · exact h.sep j k g hj hkN hjk h1
      · intro e; have := ((h.own k hkN).lt e).2; omega
    · rw [upd_ne _ _ ej] at hjg
      by_cases ek : k = k0
      · subst ek
        rw [upd_same]
        intro e
        rcases hx g e with h1 | h1
        · exact h.sep j k g hj hkN hjk hjg h1
        · have := ((h.own j hj).lt hjg).2; omega
      · rw [upd_ne _ _ ek]; exact h.sep j k g hj hkN hjk hjg
  · intro k hkN y hy
    by_cases e : k = k0
    · subst e; rw [upd_same] at hy; exact hok y hy
    · rw [upd_ne _ _ e] at hy; exact h.okl k hkN y hy
/-- a row more -/
theorem LI.more (h : LI w W z b6 qb s N v L ok r o) (hb : Below W.heap.size W W') {x : Value} {l : List (Nat × Nat)} (hown : OwnL W' W.heap.size x l) (hok : ∀ y ∈ l, LdOk y) : LI w W' z b6 qb s (N + 1) (upd v N x) (upd L N l) ok r o := by
  have h' := h.ext hb
  have hz := Blk.lt h.pile
  refine ⟨h'.below, h'.pile, h'.outb, h'.sc, h'.row, h'.onb, h'.qbx, ?_, ?_, ?_, h.hb⟩
  · intro k hk
    by_cases e : k = N
    · subst e; rw [upd_same, upd_same]; exact ownMono hown (by omega)
    · rw [upd_ne _ _ e, upd_ne _ _ e]; exact h'.own k (by omega)
  · intro j k g hj hk hjk hjg
    by_cases ej : j = N
    · subst ej
      rw [upd_same] at hjg
      rw [upd_ne _ _ (fun e => hjk e.symm)]
      intro e
      have h1 := (hown.lt hjg).1
      have h2 := ((h.own k (by omega)).lt e).2
      omega
    · rw [upd_ne _ _ ej] at hjg
      by_cases ek : k = N
      · subst ek
        rw [upd_same]
        intro e
        have h1 := (hown.lt e).1
        have h2 := ((h.own j (by omega)).lt hjg).2
        omega
      · rw [upd_ne _ _ ek]; exact h.sep j k g (by omega) (by omega) hjk hjg
  · intro k hk y hy
    by_cases e : k = N
    · subst e; rw [upd_same] at hy; exact hok y hy
    · rw [upd_ne _ _ e] at hy; exact h.okl k (by omega) y hy
/-- a store into the row of rows -/
theorem LI.setRow (h : LI w W z b6 qb s N v L ok r o) (t : Nat) (x : Value) : LI w (W.setCell ⟨z + 3, t, none⟩ x) z b6 qb s N v L ok (upd r t x) o := by
  have hh := h.hb
  have hg := grownBy_setC W (z + 3) t x
  refine ⟨h.below.setCell (p := ⟨z + 3, t, none⟩) (by simp only []; omega) _, Blk.far h.pile (p := ⟨z + 3, t, none⟩) (by simp only []; omega) _, h.outb.far (p := ⟨z + 3, t, none⟩) (by simp only []; omega) _, h.sc.far (p := ⟨z + 3, t, none⟩) (by simp only []; omega) _, ?_, h.onb.far (p := ⟨z + 3, t, none⟩) (by simp only []; omega) _, h.qbx.far (p := ⟨z + 3, t, none⟩) (by simp only []; omega) _, ?_, h.sep, h.okl, h.hb⟩
  · have := h.row.set_ t x
    rwa [rowV_set] at this
  · intro k hk
    exact (h.own k hk).kept hg (fun g e => by cases e; exact (h.own k hk).other h.row (by decide))
/-- a store into the floor's box -/
theorem LI.setOn (h : LI w W z b6 qb s N v L ok r o) (x : Value) : LI w (W.setCell ⟨b6, 0, none⟩ x) z b6 qb s N v L ok r x := by
  have hh := h.hb
  have hg := grownBy_setC W b6 0 x
  refine ⟨h.below.setCell (p := ⟨b6, 0, none⟩) (by simp only []; omega) _, Blk.far h.pile (p := ⟨b6, 0, none⟩) (by simp only []; omega) _, h.outb.far (p := ⟨b6, 0, none⟩) (by simp only []; omega) _, h.sc.far (p := ⟨b6, 0, none⟩) (by simp only []; omega) _, h.row.far (p := ⟨b6, 0, none⟩) (by simp only []; omega) _, ?_, h.qbx.far (p := ⟨b6, 0, none⟩) (by simp only []; omega) _, ?_, h.sep, h.okl, h.hb⟩
  · simpa using h.onb.set_ 0 x
  · intro k hk
    exact (h.own k hk).kept hg (fun g e => by cases e; exact (h.own k hk).other h.onb (by decide))
/-- the last row takes the place of the one before it -/
theorem LI.drop (h : LI w W z b6 qb s (N + 2) v L ok r o) : LI w W z b6 qb s (N + 1) (upd v N (v (N + 1))) (upd L N (L (N + 1))) ok r o := by
  refine ⟨h.below, h.pile, h.outb, h.sc, h.row, h.onb, h.qbx, ?_, ?_, ?_, h.hb⟩
  · intro k hk
    by_cases e : k = N
    · subst e; rw [upd_same, upd_same]; exact h.own _ (by omega)
    · rw [upd_ne _ _ e, upd_ne _ _ e]; exact h.own k (by omega)
  · intro j k g hj hk hjk hjg
    by_cases ej : j = N
    · subst ej
      rw [upd_same] at hjg
      rw [upd_ne _ _ (fun e => hjk e.symm)]
      exact h.sep _ k g (by omega) (by omega) (by omega) hjg
    · rw [upd_ne _ _ ej] at hjg
      by_cases ek : k = N
      · subst ek; rw [upd_same]; exact h.sep j _ g (by omega) (by omega) (by omega) hjg
      · rw [upd_ne _ _ ek]; exact h.sep j k g (by omega) (by omega) hjk hjg
  · intro k hk y hy
    by_cases e : k = N
    · subst e; rw [upd_same] at hy; exact h.okl _ (by omega) y hy
    · rw [upd_ne _ _ e] at hy; exact h.okl k (by omega) y hy
end
end Go.Proofs.Ytlhekifmkkgjlaa
/- The loads of a pile: what they are. -/
namespace Go.Proofs.Ytlhekifmkkgjlaa
open Go Go.RowKit Go.Shelf
attribute [local go_sem] Oper.semAt_some
set_option maxHeartbeats 1000000
/-- a load and the load of a cell above it; whether no number was too great -/
def addSt (on : List (Nat × Nat)) (st : (Nat × Nat) × Bool) (c : Nat) : (Nat × Nat) × Bool :=
  (lowS (addN st.1 (on.getD c (0, 1))) (addD st.1 (on.getD c (0, 1))), st.2 && fitP (lowP (addN st.1 (on.getD c (0, 1))) (addD st.1 (on.getD c (0, 1)))))
/-- what lies on a brick -/
def onBrk (s : Stk) (t i : Nat) (on : List (Nat × Nat)) (ok : Bool) : (Nat × Nat) × Bool := (cellsTo (s.cf t) i (s.cn t)).foldl (addSt on) ((0, 1), ok)
def wtP (s : Stk) (t i : Nat) : Nat × Nat := ((s.wf t i).toNat, 1)
/-- with its own weight -/
def dnBrk (s : Stk) (t i : Nat) (x : Nat × Nat) : Nat × Nat := lowS (addN x (wtP s t i)) (addD x (wtP s t i))
def dnOk (s : Stk) (t i : Nat) (x : Nat × Nat) : Bool := fitP (lowP (addN x (wtP s t i)) (addD x (wtP s t i)))
/-- what it lays on each cell that it rests on -/
def shBrk (s : Stk) (t i : Nat) (x : Nat × Nat) : Nat × Nat := lowS x.1 (x.2 * (restL s t i).length)
def shOk (s : Stk) (t i : Nat) (x : Nat × Nat) : Bool := fitP (lowP x.1 (x.2 * (restL s t i).length))
def layOn (l : List (Nat × Nat)) (cs : List Nat) (x : Nat × Nat) : List (Nat × Nat) := cs.foldl (fun l k => l.set k x) l
def brkSt (s : Stk) (t : Nat) (on : List (Nat × Nat)) (st : List (Nat × Nat) × List (Nat × Nat) × Bool) (i : Nat) : List (Nat × Nat) × List (Nat × Nat) × Bool :=
  (layOn st.1 (restL s t i) (shBrk s t i (dnBrk s t i (onBrk s t i on st.2.2).1)), st.2.1 ++ [(onBrk s t i on st.2.2).1],
    ((onBrk s t i on st.2.2).2 && dnOk s t i (onBrk s t i on st.2.2).1) && shOk s t i (dnBrk s t i (onBrk s t i on st.2.2).1))
def tierR (s : Stk) (m t : Nat) (on l : List (Nat × Nat)) (ok : Bool) (k : Nat) : List (Nat × Nat) × List (Nat × Nat) × Bool := (List.range k).foldl (brkSt s t on) (List.replicate m (0, 1), l, ok)
theorem tierR_succ (s : Stk) (m t : Nat) (on l : List (Nat × Nat)) (ok : Bool) (k : Nat) : tierR s m t on l ok (k + 1) = brkSt s t on (tierR s m t on l ok k) k := by
  simp [tierR, List.range_succ, List.foldl_append]
def tierSt (s : Stk) (m : Nat) (st : (Nat → List (Nat × Nat)) × Bool) (t : Nat) : (Nat → List (Nat × Nat)) × Bool :=
  (upd (upd st.1 t (tierR s m t (st.1 s.nt) (st.1 t) st.2 (s.wn t)).2.1) s.nt (tierR s m t (st.1 s.nt) (st.1 t) st.2 (s.wn t)).1, (tierR s m t (st.1 s.nt) (st.1 t) st.2 (s.wn t)).2.2)
def ld0 (s : Stk) (m : Nat) : (Nat → List (Nat × Nat)) × Bool := (fun k => if k = s.nt then List.replicate m (0, 1) else [], true)
def loadsF (s : Stk) (m : Nat) (ts : List Nat) : (Nat → List (Nat × Nat)) × Bool := ts.foldl (tierSt s m) (ld0 s m)
theorem loadsF_append (s : Stk) (m : Nat) (ts : List Nat) (t : Nat) : loadsF s m (ts ++ [t]) = tierSt s m (loadsF s m ts) t := by simp [loadsF, List.foldl_append]
theorem layOn_len (l : List (Nat × Nat)) (cs : List Nat) (x : Nat × Nat) : (layOn l cs x).length = l.length := by
  unfold layOn
  induction cs generalizing l with
  | nil => rfl
  | cons c cs ih => rw [List.foldl_cons, ih, List.length_set]
theorem brkSt_len (s : Stk) (t : Nat) (on : List (Nat × Nat)) (st : List (Nat × Nat) × List (Nat × Nat) × Bool) (i : Nat) : (brkSt s t on st i).1.length = st.1.length := layOn_len ..
theorem tierR_len (s : Stk) (m t : Nat) (on l : List (Nat × Nat)) (ok : Bool) (k : Nat) : (tierR s m t on l ok k).1.length = m := by
  induction k with
  | zero => simp [tierR]
  | succ k ih => rw [tierR_succ, brkSt_len, ih]
theorem loadsF_len (s : Stk) (m : Nat) (ts : List Nat) : ((loadsF s m ts).1 s.nt).length = m := by
  rcases List.eq_nil_or_concat ts with rfl | ⟨l, t, rfl⟩
  · simp [loadsF, ld0]
  · rw [List.concat_eq_append, loadsF_append]
    simp only [tierSt, upd_same]
    exact tierR_len ..
theorem tierR_cnt (s : Stk) (m t : Nat) (on l : List (Nat × Nat)) (ok : Bool) (k : Nat) : (tierR s m t on l ok k).2.1.length = l.length + k := by
  induction k with
  | zero => rfl
  | succ k ih => rw [tierR_succ]; simp [brkSt, ih]; omega
theorem LdOk_zero : LdOk (0, 1) := ⟨by simp, by simp, by simp⟩
theorem addSt_ok (on : List (Nat × Nat)) (st : (Nat × Nat) × Bool) (c : Nat) (h : LdOk st.1) (ho : ∀ x ∈ on, LdOk x) : LdOk (addSt on st c).1 := by
  refine lowS_ok _ _ (Nat.mul_pos h.2.1 ?_)
  rw [List.getD_eq_getElem?_getD]
  cases hc : on[c]? with
  | none => simp
  | some x => exact (ho x (List.mem_of_getElem? hc)).2.1
theorem getD_ok {on : List (Nat × Nat)} (ho : ∀ x ∈ on, LdOk x) (c : Nat) : LdOk (on.getD c (0, 1)) := by
  rw [List.getD_eq_getElem?_getD]
  cases hc : on[c]? with
  | none => exact LdOk_zero
  | some x => exact ho x (List.mem_of_getElem? hc)
theorem layOn_ok {l : List (Nat × Nat)} (h : ∀ x ∈ l, LdOk x) (cs : List Nat) {x : Nat × Nat} (hx : LdOk x) : ∀ y ∈ layOn l cs x, LdOk y := by
  unfold layOn
  induction cs generalizing l with
  | nil => exact h
  | cons c cs ih =>
    rw [List.foldl_cons]
    exact ih (fun y hy => (List.mem_or_eq_of_mem_set hy).elim (fun h1 => h y h1) (fun h1 => h1 ▸ hx))
theorem own_zero {W : World} {n0 n : Nat} {v : Value} (h : LdRow W n0 v n (fun _ => (0, 1))) : OwnL W n0 v (List.replicate n (0, 1)) := by
  have e : cellsOf 2 n (fun k i => if i = 0 then Value.int .i64 ((((fun _ => (0, 1)) : Nat → Nat × Nat) k).1 : Nat) else .int .i64 ((((fun _ => (0, 1)) : Nat → Nat × Nat) k).2 : Nat)) = cellsL (List.replicate n (0, 1)) := by
    apply List.ext_getElem?
    intro j
    by_cases hj : j < n * 2
    · have h1 := cellsOf_get 2 n (fun k i => if i = 0 then Value.int .i64 ((((fun _ => (0, 1)) : Nat → Nat × Nat) k).1 : Nat) else .int .i64 ((((fun _ => (0, 1)) : Nat → Nat × Nat) k).2 : Nat)) (j / 2) (j % 2) (by omega) (by omega)
      have h2 := cellsL_get (List.replicate n (0, 1)) (j / 2) (by simp; omega)
      have h3 : (List.replicate n ((0, 1) : Nat × Nat)).getD (j / 2) (0, 1) = (0, 1) := by
        rw [List.getD_eq_getElem?_getD, List.getElem?_replicate]; split <;> rfl
      rw [h3] at h2
      rw [show j / 2 * 2 + j % 2 = j by omega] at h1
      rw [h1]
      rcases Nat.mod_two_eq_zero_or_one j with e | e
      · rw [show j / 2 * 2 = j by omega] at h2
        rw [h2.1, e]; rfl
      · rw [show j / 2 * 2 + 1 = j by omega] at h2
        rw [h2.2, e]; rfl
    · rw [List.getElem?_eq_none (by rw [cellsOf_len]; omega), List.getElem?_eq_none (by rw [cellsL_len]; simp; omega)]
  unfold LdRow at h
  rw [e] at h
  unfold OwnL
  rwa [List.length_replicate]
section
variable {w W W' : World} {z b6 qb N : Nat} {s : Stk} {v : Nat → Value} {L : Nat → List (Nat × Nat)} {ok : Bool} {r : Nat → Value} {o : Value}
theorem LI.keptN (h : LI w W z b6 qb s N v L ok r o) {row : Option Nat} (hg : W.grownBy W' row) (hr : ∀ g, row = some g → z ≤ g ∧ ∃ o : Obj, W.heap[g]? = some o ∧ o.isCells = false) : LI w W' z b6 qb s N v L ok r o := by
  have hr' := fun g e => (hr g e).2
  refine ⟨h.below.trans ⟨hg.os, hg.tape, hg.output, hg.size, fun k hk => hg.block k (by have := Blk.lt h.pile; omega) (fun e => by have := (hr k e.symm).1; omega)⟩, Blk.keptN h.pile hg hr', h.outb.keptN hg hr', h.sc.keptN hg hr', h.row.keptN hg hr', h.onb.keptN hg hr', h.qbx.keptN hg hr', fun k hk => ownN (h.own k hk) hg hr', h.sep, h.okl, h.hb⟩
theorem LI.setOut (h : LI w W z b6 qb s N v L ok r o) : LI w (W.setCell ⟨z + 1, 0, none⟩ (.slice (some ⟨z + 3, 0, none⟩) s.nt s.nt)) z b6 qb s N v L ok r o := by
  have hh := h.hb
  have hg := grownBy_setC W (z + 1) 0 (.slice (some ⟨z + 3, 0, none⟩) s.nt s.nt)
  refine ⟨h.below.setCell (p := ⟨z + 1, 0, none⟩) (by simp only []; omega) _, Blk.far h.pile (p := ⟨z + 1, 0, none⟩) (by simp only []; omega) _, ?_, h.sc.far (p := ⟨z + 1, 0, none⟩) (by simp only []; omega) _, h.row.far (p := ⟨z + 1, 0, none⟩) (by simp only []; omega) _, h.onb.far (p := ⟨z + 1, 0, none⟩) (by simp only []; omega) _, h.qbx.far (p := ⟨z + 1, 0, none⟩) (by simp only []; omega) _, ?_, h.sep, h.okl, h.hb⟩
  · simpa using h.outb.set_ 0 (.slice (some ⟨z + 3, 0, none⟩) s.nt s.nt)
  · intro k hk
    exact (h.own k hk).kept hg (fun g e => by cases e; exact (h.own k hk).other h.outb (by decide))
theorem LI.congr (h : LI w W z b6 qb s N v L ok r o) {L' : Nat → List (Nat × Nat)} {r' : Nat → Value} (hL : ∀ k, k < N → L k = L' k) (hr : ∀ k, k < s.nt → r k = r' k) : LI w W z b6 qb s N v L' ok r' o := by
  refine ⟨h.below, h.pile, h.outb, h.sc, ?_, h.onb, h.qbx, fun k hk => hL k hk ▸ h.own k hk, h.sep, fun k hk => hL k hk ▸ h.okl k hk, h.hb⟩
  rw [← rowV_same s.nt r r' hr]; exact h.row
theorem LI.kp (h : LI w W z b6 qb s N v L ok r o) {N' : Nat} {v' : Nat → Value} {L' : Nat → List (Nat × Nat)} {ok' : Bool} {r' : Nat → Value} {o' : Value} (h' : LI w W' z b6 qb s N' v' L' ok' r' o') (hz : W.heap.size ≤ W'.heap.size) : KpB z qb W W' :=
  ⟨⟨h'.below.os.trans h.below.os.symm, h'.below.tape.trans h.below.tape.symm, h'.below.output.trans h.below.output.symm, hz, fun k hk => (h'.below.block k hk).trans (h.below.block k hk).symm⟩, h'.qbx.trans h.qbx.symm⟩
end
theorem LI.start {w W1 W2 : World} {b6 qb m : Nat} {s : Stk} {x : Value} (hb : Below w.heap.size w W2) (h0 : PileB W2 w.heap.size s) (h1 : Blk W2 (w.heap.size + 1) 64 #[.slice (some ⟨w.heap.size + 3, 0, none⟩) s.nt s.nt])
    (h2 : Blk W2 (w.heap.size + 1 + 1) 176 #[.bool (!true)]) (h3 : Blk W2 (w.heap.size + 3) 65 (rowV s.nt (fun _ => .slice none 0 0))) (h4 : Blk W2 b6 65 #[x]) (h5 : Blk W2 qb 53 #[.slice s.A s.nt s.cap])
    (ho : OwnL W2 w.heap.size x (List.replicate m (0, 1))) (hq : w.heap.size + 3 < b6 ∧ b6 < qb) :
    LI w W2 w.heap.size b6 qb s (s.nt + 1) (upd (fun _ => .slice none 0 0) s.nt x) (ld0 s m).1 true (upd (fun _ => .slice none 0 0) s.nt x) (upd (fun _ => .slice none 0 0) s.nt x s.nt) := by
  refine ⟨hb, h0, h1, h2, ?_, by rw [upd_same]; exact h4, h5, ?_, ?_, ?_, hq⟩
  · rwa [rowV_same s.nt (upd (fun _ => .slice none 0 0) s.nt x) (fun _ => .slice none 0 0) (fun k hk => upd_ne _ _ (by omega))]
  · intro k hk
    unfold ld0
    by_cases e : k = s.nt
    · subst e; rw [upd_same]; simpa using ho
    · rw [upd_ne _ _ e]; simp only [if_neg e]; exact OwnL.nil _ _
  · intro j k g hj hk hjk hjg
    by_cases ej : j = s.nt
    · rw [upd_ne _ _ (by omega)]; simp [Value.ownBlock]
    · rw [upd_ne _ _ ej] at hjg; simp [Value.ownBlock] at hjg
  · intro k hk y hy
    unfold ld0 at hy
    by_cases e : k = s.nt
    · simp only [if_pos e] at hy; rw [(List.mem_replicate.1 hy).2]; exact LdOk_zero
    · simp [e] at hy
theorem Blk.off {W W' : World} {g sc : Nat} {t : TypeId} {cs : Array Value} {k : Bool} (h : Blk W g t cs) (hg : g ≠ sc) (hb : Below W.heap.size (offW W sc k) W') : Blk W' g t cs := by
  have h1 : Blk (offW W sc k) g t cs := by
    unfold offW; split
    · exact h
    · exact h.far (p := ⟨sc, 0, none⟩) hg _
  exact h1.ext (by rw [size_offW]; exact hb)
theorem keepsOff (W W' : World) (sc : Nat) (k : Bool) (hb : Below W.heap.size (offW W sc k) W') : KeepsOthers W W' := by
  have h1 : KeepsOthers W (offW W sc k) := by
    unfold offW; split
    · exact KeepsOthers.refl _
    · exact KeepsOthers.setCell _ _ _
  exact h1.trans (keepsO (by rw [size_offW]; exact hb))
/-- what a round over the cells of a brick keeps: g: the brick's box, g + 1: the load's, g + 3: the box of the walk over the cells -/
structure InI (w W4 W : World) (z b6 qb g n1 : Nat) (s : Stk) (N : Nat) (v : Nat → Value) (L : Nat → List (Nat × Nat)) (r : Nat → Value) (o : Value) (t k : Nat) (st : (Nat × Nat) × Bool) : Prop where
  li : LI w W z b6 qb s N v L st.2 r o
  box : Blk W (g + 1) 76 #[.int .i64 st.1.1, .int .i64 st.1.2]
  brk : Blk W g 59 #[.int .i64 t, .int .i64 k]
  qbk : Blk W (g + 1 + 1 + 1) 59 #[.int .i64 t, .int .i64 k]
  kf : KeepsFrom n1 W4 W
  ldo : LdOk st.1
section
variable {w W4 W W5 : World} {z b6 qb g n1 N : Nat} {s : Stk} {v : Nat → Value} {L : Nat → List (Nat × Nat)} {r : Nat → Value} {o : Value} {t k : Nat} {st : (Nat × Nat) × Bool}
theorem InI.keptN (h : InI w W4 W z b6 qb g n1 s N v L r o t k st) {row : Option Nat} (hg : W.grownBy W5 row) (hr : ∀ r, row = some r → W4.heap.size ≤ r ∧ ∃ o : Obj, W.heap[r]? = some o ∧ o.isCells = false) (hz : z ≤ W4.heap.size) : InI w W4 W5 z b6 qb g n1 s N v L r o t k st := by
  have hr' := fun r e => (hr r e).2
  exact ⟨h.li.keptN hg (fun r e => ⟨by have := (hr r e).1; omega, (hr r e).2⟩), h.box.keptN hg hr', h.brk.keptN hg hr', h.qbk.keptN hg hr', ownFrom_keepsFrom (Nat.le_refl _) () W W5 row h.kf hg hr, h.ldo⟩
theorem InI.step (h : InI w W4 W z b6 qb g n1 s N v L r o t k st) (hf : Far z b6 qb N v (g + 1)) (hz : z + 3 < g) {on : List (Nat × Nat)} (ho : ∀ x ∈ on, LdOk x) (c : Nat)
    (hb : Below W.drew.heap.size (offW W.drew (z + 1 + 1) (fitP (lowP (addN st.1 (on.getD c (0, 1))) (addD st.1 (on.getD c (0, 1)))))) W5) :
    KeepsOthers W ((W5.setCell ⟨g + 1, 0, none⟩ (.int .i64 (addSt on st c).1.1)).setCell ⟨g + 1, 1, none⟩ (.int .i64 (addSt on st c).1.2)) ∧
    KpB z (g + 1 + 1 + 1) W ((W5.setCell ⟨g + 1, 0, none⟩ (.int .i64 (addSt on st c).1.1)).setCell ⟨g + 1, 1, none⟩ (.int .i64 (addSt on st c).1.2)) ∧
    InI w W4 ((W5.setCell ⟨g + 1, 0, none⟩ (.int .i64 (addSt on st c).1.1)).setCell ⟨g + 1, 1, none⟩ (.int .i64 (addSt on st c).1.2)) z b6 qb g n1 s N v L r o t k (addSt on st c) := by
  have l1 := ((h.li.ext (Below.refl W.heap.size W).drew).scaled _ hb)
  have l2 := (l1.set hf 0 (.int .i64 (addSt on st c).1.1)).set hf 1 (.int .i64 (addSt on st c).1.2)
  have b1 : Blk W5 (g + 1) _ _ := h.box.drew.off (by omega) hb
  have b0 : Blk W5 g _ _ := h.brk.drew.off (by omega) hb
  have b3 : Blk W5 (g + 1 + 1 + 1) _ _ := h.qbk.drew.off (by omega) hb
  have k1 : KeepsOthers W ((W5.setCell ⟨g + 1, 0, none⟩ (.int .i64 (addSt on st c).1.1)).setCell ⟨g + 1, 1, none⟩ (.int .i64 (addSt on st c).1.2)) := (((keepsO (Below.refl W.heap.size W).drew).trans (keepsOff _ _ _ _ hb)).trans (KeepsOthers.setCell _ _ _)).trans (KeepsOthers.setCell _ _ _)
  have b3' := (b3.far (p := ⟨g + 1, 0, none⟩) (by simp only []; omega) (.int .i64 (addSt on st c).1.1)).far (p := ⟨g + 1, 1, none⟩) (by simp only []; omega) (.int .i64 (addSt on st c).1.2)
  refine ⟨k1, ⟨(h.li.kp l2 k1.size).1, b3'.trans h.qbk.symm⟩, l2, b1.set2 _ _, (b0.far (p := ⟨g + 1, 0, none⟩) (by simp only []; omega) _).far (p := ⟨g + 1, 1, none⟩) (by simp only []; omega) _, b3', h.kf.trans (k1.from _), addSt_ok on st c h.ldo ho⟩
end
end Go.Proofs.Ytlhekifmkkgjlaa
/- The loads of a pile: small words for the walk. -/
namespace Go.Proofs.Ytlhekifmkkgjlaa
open Go Go.RowKit Go.Shelf
set_option maxHeartbeats 400000
theorem upd_upd {α : Type} (v : Nat → α) (t : Nat) (a b : α) : upd (upd v t a) t b = upd v t b := by
  funext k; unfold upd; split <;> rfl
theorem grown_off {W W' : World} {sc : Nat} {k : Bool} (hb : Below W.heap.size (offW W sc k) W') : W.grownBy W' (some sc) := by
  have h1 : W.grownBy (offW W sc k) (some sc) := by
    unfold offW; split
    · exact World.grownBy.refl _ _
    · exact grownBy_setC W sc 0 _
  exact ⟨hb.os.trans h1.os, hb.tape.trans h1.tape, hb.output.trans h1.output, by have := hb.size; rw [size_offW] at this; exact this, fun j hj hne => (hb.block j hj).trans (h1.block j hj hne)⟩
theorem own_far {W W' : World} {base : Nat} {e : TypeId} {size k sc : Nat} {v : Value} {xs : List Value} (h : W.ownsRow base e size v k xs) (hg : W.grownBy W' (some sc)) (hs : sc < base) : W'.ownsRow base e size v k xs := by
  refine World.ownsRow.kept h hg ?_
  cases hv : v.ownBlock with
  | none => exact .inl rfl
  | some b => exact .inr (fun e => by
      have h1 := World.ownsRow.lt h b hv
      injection e with e
      omega)
theorem own_at {W : World} {base : Nat} {e : TypeId} {A : Option Addr} {n c : Nat} {xs : List Value} (h : W.ownsRow base e 1 (.slice A n c) n xs) {j : Nat} (hj : j < n) :
    ∃ g u, A = some ⟨g, 0, none⟩ ∧ base ≤ g ∧ g < W.heap.size ∧ xs[j]? = some u ∧ W.cell? ⟨g, j, none⟩ = some u := by
  obtain ⟨g, cap, hv, hb, hlt⟩ := h.form (by omega)
  have hA : A = some ⟨g, 0, none⟩ := by injection hv
  subst hA
  have hl : j < xs.length := by have := h.1; omega
  refine ⟨g, xs[j], rfl, hb, hlt, List.getElem?_eq_getElem hl, ?_⟩
  have := h.cells (g := g) rfl j _ (List.getElem?_eq_getElem hl)
  rwa [add_lit', Nat.zero_add] at this
theorem restL_lt {s : Stk} {t : Nat} {b : Int} {c : Nat} (h : c ∈ restL s t b) : c < s.cn t := by
  have h1 := (List.mem_filter.1 h).1
  have h2 := (List.mem_filter.1 h1).1
  simpa using h2
theorem layOn_take {l : List (Nat × Nat)} {cs : List Nat} {x : Nat × Nat} {j c : Nat} (h : cs[j]? = some c) : layOn l (cs.take (j + 1)) x = (layOn l (cs.take j) x).set c x := by
  obtain ⟨hj, e⟩ := List.getElem?_eq_some_iff.1 h
  rw [List.take_succ_eq_append_getElem hj, e]
  simp [layOn, List.foldl_append]
theorem tierSt_bound (s : Stk) (m M B : Nat) (hm : m ≤ M) (st : (Nat → List (Nat × Nat)) × Bool) (t : Nat) (ht : s.wn t ≤ M) (h : ∀ j, (st.1 j).length ≤ B) (hB : M ≤ B + M) (j : Nat) : ((tierSt s m st t).1 j).length ≤ B + M := by
  show (upd (upd st.1 t (tierR s m t (st.1 s.nt) (st.1 t) st.2 (s.wn t)).2.1) s.nt (tierR s m t (st.1 s.nt) (st.1 t) st.2 (s.wn t)).1 j).length ≤ B + M
  have h1 := h j
  have h2 := h t
  have h3 := tierR_len s m t (st.1 s.nt) (st.1 t) st.2 (s.wn t)
  have h4 := tierR_cnt s m t (st.1 s.nt) (st.1 t) st.2 (s.wn t)
  unfold upd
  split
  · omega
  · split
    · omega
    · omega
theorem loadsF_bound (s : Stk) (m M : Nat) (hm : m ≤ M) (n : Nat) : ∀ (ts : List Nat), ts.length = n → (∀ t ∈ ts, s.wn t ≤ M) → ∀ j, ((loadsF s m ts).1 j).length ≤ (n + 1) * M := by
  induction n with
  | zero =>
    intro ts hn _ j
    obtain rfl := List.eq_nil_of_length_eq_zero hn
    simp only [loadsF, List.foldl_nil, ld0]
    split
    · simp; omega
    · simp
  | succ n ih =>
    intro ts hn hw j
    rcases List.eq_nil_or_concat ts with rfl | ⟨ts, t, rfl⟩
    · simp at hn
    rw [List.concat_eq_append] at hn hw ⊢
    rw [loadsF_append]
    have ih' := ih ts (by simpa using hn) (fun t ht => hw t (by simp [ht]))
    have h1 := tierSt_bound s m M _ hm (loadsF s m ts) t (hw t (by simp)) ih' (by omega) j
    refine Nat.le_trans h1 ?_
    rw [Nat.succ_mul (n + 1)]
    exact Nat.le_refl _
theorem cellsL_one' (x : Nat × Nat) : cellsL [x] = [.int .i64 x.1, .int .i64 x.2] := rfl
theorem grown_set2 (W : World) (b i j : Nat) (u v : Value) : W.grownBy ((W.setCell ⟨b, i, none⟩ u).setCell ⟨b, j, none⟩ v) (some b) :=
  ⟨rfl, rfl, rfl, by rw [size_set, size_set]; exact Nat.le_refl _, fun k _ hk => (Below.heap_setCell _ _ _ k (fun e => hk (by rw [e]))).trans (Below.heap_setCell _ _ _ k (fun e => hk (by rw [e])))⟩
theorem keepsGrown {W W' : World} {base : Nat} {e : TypeId} {size k : Nat} {v : Value} {xs : List Value} (h : W.ownsRow base e size v k xs) (hg : W.grownBy W' v.ownBlock) : KeepsOthers W W' := ⟨hg.size, fun j o hj hc => by
  have hlt : j < W.heap.size := by
    rcases Nat.lt_or_ge j W.heap.size with hl | hl
    · exact hl
    · rw [Array.getElem?_eq_none hl] at hj; cases hj
  refine (hg.block j hlt (fun e => ?_)).trans hj
  rcases h.2 with ⟨rfl, -⟩ | ⟨g, cap, cur, rfl, -, hh, -⟩
  · simp [Value.ownBlock] at e
  · have : j = g := by simpa [Value.ownBlock] using e
    subst this
    rw [hh] at hj
    cases hj
    cases hc⟩
end Go.Proofs.Ytlhekifmkkgjlaa
/- Contracts of chapter 8 on stacks: the loads of a pile, walked. -/
namespace Go.Proofs.Ytlhekifmkkgjlaa
open Go Go.RowKit Go.Shelf
attribute [local go_sem] Oper.semAt_some
set_option maxHeartbeats 1000000
def LoadsPost (s : Stk) (m : Nat) (w : World) (e : Ending) (w' : World) : Prop :=
  ∃ v : Nat → Value, e = .returned (.tuple #[.slice (some ⟨w.heap.size + 3, 0, none⟩) s.nt s.nt, v s.nt, .bool (loadsF s m (backTo s.nt 0)).2]) ∧ Below w.heap.size w w' ∧
    Blk w' (w.heap.size + 3) 65 (rowV s.nt v) ∧ ∀ k, k ≤ s.nt → OwnL w' w.heap.size (v k) ((loadsF s m (backTo s.nt 0)).1 k)
theorem info_lds : (Try.prog.info? 65).map (fun i => (i.zero, i.size, i.bytes)) = some (some (.slice none 0 0), 1, 24) := by kernel_rfl
theorem rowV_made (n : Nat) : madeCells (Value.slice none 0 0).cells (n * 1) = rowV n (fun _ => .slice none 0 0) := by
  apply Array.ext_getElem?
  intro j
  simp only [rowV, madeCells, Array.getElem?_map, Array.getElem?_range, List.getElem?_toArray, List.getElem?_map, Nat.mul_one]
  by_cases hj : j < n
  · simp [hj, Value.cells, Nat.mod_one]
  · simp [hj]
set_option maxRecDepth 100000 in
theorem loads_any (s : Stk) (m : Nat) (w : World) (hs : StkR w w.heap.size s) (hst : stackB s = true) (hm : (m : Int) = s.wd * s.hg) (hh : ∀ t i, t < s.nt → i < s.wn t → hangP s t i = false) :
    Calls Try.prog 74 #[.agg #[.int .i64 s.wd, .int .i64 s.hg, .slice s.A s.nt s.cap]] w (LoadsPost s m w) := by
  refine (callsIn_wide (n := 20)).1 ?_
  obtain ⟨F, hFw⟩ : ∃ F : Fence, F = Fence.wide := ⟨_, rfl⟩
  rw [← hFw]
  have hF : ∀ f, F.fn f := by rw [hFw]; exact fun _ => trivial
  have hro : F.round = none := by rw [hFw]; rfl
  have hwd : ∀ {n f args w R}, Calls Try.prog f args w R → CallsIn F n Try.prog f args w R := by rw [hFw]; exact fun h => callsIn_wide.2 h
  have HF := hide hFw
  clear hFw
  rw [stackB_iff] at hst
  obtain ⟨⟨hd1, hd2⟩, hn10, htier⟩ := hst
  have hmb := mul_bd (a := s.wd) (b := s.hg) (M := 12) (N := 12) (by omega) (by omega) (by omega) (by omega)
  have hm0 : 0 < s.wd * s.hg := Int.mul_pos (by omega) (by omega)
  rw [← hm] at hmb hm0
  have hm1 : 1 ≤ m ∧ m ≤ 144 := by omega
  have hw0 : IntKind.i64.wrap (m : Int) = m := IntWalk.i64_in _ (by omega)
  obtain ⟨i0, hi, hz0, hz1, hz2⟩ := info_parts info_lds
  have gl := run_make_rowN (P := Try.prog) 64 65 i0 _ Try.underlying64 hi hz0 .i64 .i64 s.nt s.nt (Nat.le_refl _) (by rw [hz2]; omega) (by omega) (((w.alloc (.cells #[.int .i64 s.wd, .int .i64 s.hg, .slice s.A s.nt s.cap] 131)).alloc (.cells #[.slice none 0 0] 64)).alloc (.cells #[.bool false] 176))
  rw [hz1, rowV_made] at gl
  simp only [World.size_alloc] at gl
  clear hi hz0 hz1 hz2
  have HT := hide htier
  have HH := hide hh
  have HM := hide hm
  clear htier hh
  have hmm : s.wd * s.hg = (m : Int) := hm.symm
  clear hm
  refine callsIn_of_wp_marks Try.func74 rfl (hF _) ?_ hro
  simp only [Try.ntmps74, List.size_toArray, List.length_cons, List.length_nil, Nat.reduceAdd, Nat.reduceSub, Array.replicate_succ, Array.replicate_zero, List.push_toArray, List.append_toArray, List.nil_append, List.cons_append]
  gi_wp2_with fail
  have k0 : PileB ((((w.alloc (.cells #[.int .i64 s.wd, .int .i64 s.hg, .slice s.A s.nt s.cap] 131)).alloc (.cells #[.slice (some ⟨w.heap.size + 1 + 1 + 1, 0, none⟩) s.nt s.nt] 64)).alloc (.cells #[.bool false] 176)).alloc (.cells (rowV s.nt (fun _ => .slice none 0 0)) 65)) w.heap.size s := (((Blk.new w _ _).alloc _).alloc _).alloc _
  have k1 : Blk ((((w.alloc (.cells #[.int .i64 s.wd, .int .i64 s.hg, .slice s.A s.nt s.cap] 131)).alloc (.cells #[.slice (some ⟨w.heap.size + 1 + 1 + 1, 0, none⟩) s.nt s.nt] 64)).alloc (.cells #[.bool false] 176)).alloc (.cells (rowV s.nt (fun _ => .slice none 0 0)) 65)) (w.heap.size + 1) 64 #[.slice (some ⟨w.heap.size + 3, 0, none⟩) s.nt s.nt] := by simpa using ((Blk.new (w.alloc (.cells #[.int .i64 s.wd, .int .i64 s.hg, .slice s.A s.nt s.cap] 131)) 64 #[.slice (some ⟨w.heap.size + 1 + 1 + 1, 0, none⟩) s.nt s.nt]).alloc (.cells #[.bool false] 176)).alloc (.cells (rowV s.nt (fun _ => .slice none 0 0)) 65)
  have k2 : Blk ((((w.alloc (.cells #[.int .i64 s.wd, .int .i64 s.hg, .slice s.A s.nt s.cap] 131)).alloc (.cells #[.slice (some ⟨w.heap.size + 1 + 1 + 1, 0, none⟩) s.nt s.nt] 64)).alloc (.cells #[.bool false] 176)).alloc (.cells (rowV s.nt (fun _ => .slice none 0 0)) 65)) (w.heap.size + 1 + 1) 176 #[.bool (!true)] := by simpa using (Blk.new ((w.alloc (.cells #[.int .i64 s.wd, .int .i64 s.hg, .slice s.A s.nt s.cap] 131)).alloc (.cells #[.slice (some ⟨w.heap.size + 1 + 1 + 1, 0, none⟩) s.nt s.nt] 64)) 176 #[.bool false]).alloc (.cells (rowV s.nt (fun _ => .slice none 0 0)) 65)
  have k3 : Blk ((((w.alloc (.cells #[.int .i64 s.wd, .int .i64 s.hg, .slice s.A s.nt s.cap] 131)).alloc (.cells #[.slice (some ⟨w.heap.size + 1 + 1 + 1, 0, none⟩) s.nt s.nt] 64)).alloc (.cells #[.bool false] 176)).alloc (.cells (rowV s.nt (fun _ => .slice none 0 0)) 65)) (w.heap.size + 3) 65 (rowV s.nt (fun _ => .slice none 0 0)) := by simpa using Blk.new (((w.alloc (.cells #[.int .i64 s.wd, .int .i64 s.hg, .slice s.A s.nt s.cap] 131)).alloc (.cells #[.slice (some ⟨w.heap.size + 1 + 1 + 1, 0, none⟩) s.nt s.nt] 64)).alloc (.cells #[.bool false] 176)) 65 (rowV s.nt (fun _ => .slice none 0 0))
  have k5 : ((((w.alloc (.cells #[.int .i64 s.wd, .int .i64 s.hg, .slice s.A s.nt s.cap] 131)).alloc (.cells #[.slice (some ⟨w.heap.size + 1 + 1 + 1, 0, none⟩) s.nt s.nt] 64)).alloc (.cells #[.bool false] 176)).alloc (.cells (rowV s.nt (fun _ => .slice none 0 0)) 65)).heap.size = w.heap.size + 4 := by simp
  have k6 : Below w.heap.size w ((((w.alloc (.cells #[.int .i64 s.wd, .int .i64 s.hg, .slice s.A s.nt s.cap] 131)).alloc (.cells #[.slice (some ⟨w.heap.size + 1 + 1 + 1, 0, none⟩) s.nt s.nt] 64)).alloc (.cells #[.bool false] 176)).alloc (.cells (rowV s.nt (fun _ => .slice none 0 0)) 65)) := ((((Below.refl _ _).alloc (Nat.le_refl _) _).alloc (by simp) _).alloc (by simp only [World.size_alloc]; omega) _).alloc (by simp only [World.size_alloc]; omega) _
  clear gl
  generalize ((((w.alloc (.cells #[.int .i64 s.wd, .int .i64 s.hg, .slice s.A s.nt s.cap] 131)).alloc (.cells #[.slice (some ⟨w.heap.size + 1 + 1 + 1, 0, none⟩) s.nt s.nt] 64)).alloc (.cells #[.bool false] 176)).alloc (.cells (rowV s.nt (fun _ => .slice none 0 0)) 65)) = W0 at k0 k1 k2 k3 k5 k6 ⊢
  refine (hwd (nothing_any m _ (by omega) hm1.1)).mono ?_
  rintro e w1 ⟨v1, rfl, hown1, hb1⟩
  obtain ⟨A1, c1, rfl⟩ := own_shape hown1
  have HO1 := hide (own_zero hown1)
  obtain ⟨x0, x1, x2, x3, -, -, -⟩ := blk3 (Blk.ext k0 hb1)
  have z1 := hb1.size
  clear hown1
  gi_wp2_with ((gi_at_call 106; refine (hwd (back_any _ _ _ _)).mono ?_; rintro e w2 ⟨rfl, rfl⟩))
  have hz1 : w.heap.size + 4 ≤ w1.heap.size := by omega
  have l0 := LI.start (m := m) (x := .slice A1 m c1) (b6 := w1.heap.size) (qb := w1.heap.size + 1) (W1 := w1) (W2 := (w1.alloc (.cells #[.slice A1 m c1] 65)).alloc (.cells #[.slice s.A s.nt s.cap] 53))
    (((k6.trans (hb1.mono (by omega))).alloc (by omega) _).alloc (by simp only [World.size_alloc]; omega) _) (((Blk.ext k0 hb1).alloc _).alloc _) (((k1.ext hb1).alloc _).alloc _) (((k2.ext hb1).alloc _).alloc _) (((k3.ext hb1).alloc _).alloc _)
    ((Blk.new w1 _ _).alloc _) (by simpa using Blk.new (w1.alloc (.cells #[.slice A1 m c1] 65)) 53 #[.slice s.A s.nt s.cap]) ((World.ownsRow.alloc (World.ownsRow.alloc (ownMono HO1.out (by omega)) _) _)) ⟨by omega, by omega⟩
  have hW0 : ((w1.alloc (.cells #[.slice A1 m c1] 65)).alloc (.cells #[.slice s.A s.nt s.cap] 53)).heap.size = w1.heap.size + 2 := by simp
  generalize (w1.alloc (.cells #[.slice A1 m c1] 65)).alloc (.cells #[.slice s.A s.nt s.cap] 53) = W2 at l0 hW0 ⊢
  have hst := back_stops F (20 - 1) hF hro (by omega) (w1.heap.size + 1) w.heap.size s W2 l0.qbx (by omega) (hs.below l0.below (Nat.le_refl _))
  clear k0 k1 k2 k3 k5 k6 x0 x1 x2 x3 hb1
  refine wpIn_rangeFunc_ownH hro (by omega) (gf := 116) (lb := #[.pointer (some ⟨w1.heap.size + 1, 0, none⟩)]) rfl (hF _) (enters_of Try.func116 (by kernel_rfl) rfl)
    hst KpB.trans (KpB.putObj (by omega) (by omega)) (Below.refl _ _) (fun _ => rfl)
    (fun pre W => ∃ v, LI w W w.heap.size w1.heap.size (w1.heap.size + 1) s (s.nt + 1) v (loadsF s m (pre.map (·.1))).1 (loadsF s m (pre.map (·.1))).2 v (v s.nt))
    (fun _ _ _ => False) ?hI (fun _ _ _ _ _ h _ _ => h) ⟨_, l0⟩
    (fun x a' W => ∃ b, W2.heap.size ≤ b ∧ Blk W b 72 #[s.u x.1, s.v x.1] ∧ a' = { tmps := #[.agg #[.int .i64 s.wd, .int .i64 s.hg, .slice s.A s.nt s.cap], .pointer (some ⟨w.heap.size, 0, none⟩), .pointer (some ⟨w.heap.size + 1, 0, none⟩), .slice none 0 0, .bool false, .pointer (some ⟨w.heap.size + 1 + 1, 0, none⟩), .pointer (some ⟨w1.heap.size, 0, none⟩), .int .i64 x.1, .pointer (some ⟨b, 0, none⟩), undef, undef, undef, undef, undef, undef, undef, undef, undef, undef, undef, .pointer (some ⟨w.heap.size, 0, none⟩), .pointer (some ⟨w.heap.size, 2, none⟩), .slice s.A s.nt s.cap, .int .i64 s.nt, .slice (some ⟨w.heap.size + 1 + 1 + 1, 0, none⟩) s.nt s.nt, .pointer (some ⟨w.heap.size, 0, none⟩), .pointer (some ⟨w.heap.size, 0, none⟩), .int .i64 s.wd, .pointer (some ⟨w.heap.size, 0, none⟩), .pointer (some ⟨w.heap.size, 1, none⟩), .int .i64 s.hg, .int .i64 m, .slice A1 m c1, .pointer (some ⟨w.heap.size, 0, none⟩), .pointer (some ⟨w.heap.size, 2, none⟩), .slice s.A s.nt s.cap, .func (.func 116) #[] #[.pointer (some ⟨w1.heap.size + 1, 0, none⟩)], .int .i64 x.1, .agg #[s.u x.1, s.v x.1], undef, undef, undef, undef, undef, undef, undef, undef, undef, undef, undef, undef, undef, undef, undef, undef, undef, undef, undef, undef, undef, undef, undef, undef, undef, undef, undef, undef, undef, undef, undef, undef, undef, undef, undef, undef, undef, undef, undef, undef, undef, undef, undef, undef, undef, undef, undef, undef, undef, undef, undef, undef, undef, undef, undef, undef, undef, undef, undef, undef, undef, undef, undef, undef, undef, undef, undef, undef], defers := [] })
    ?hAx ?hassign ?hbody ?hdone ?hstop
  case hI =>
    rintro pre W W' row ⟨v, h⟩ hg hr
    exact ⟨v, h.keptN hg (fun g e => ⟨by have := (hr g e).1; omega, (hr g e).2⟩)⟩
  case hAx =>
    rintro x a' _ W W' row ⟨b, h1, h2, h3⟩ hg hr
    exact ⟨b, h1, h2.keptN hg (fun r e => (hr r e).2), h3⟩
  case hassign =>
    rintro l pre x W K ⟨v, h⟩ hK
    have z0 := h.qbx.lt
    have hb := (Below.refl W.heap.size W).alloc (Nat.le_refl _) (.cells #[s.u x.1, s.v x.1] 72)
    have HK := hK { tmps := #[.agg #[.int .i64 s.wd, .int .i64 s.hg, .slice s.A s.nt s.cap], .pointer (some ⟨w.heap.size, 0, none⟩), .pointer (some ⟨w.heap.size + 1, 0, none⟩), .slice none 0 0, .bool false, .pointer (some ⟨w.heap.size + 1 + 1, 0, none⟩), .pointer (some ⟨w1.heap.size, 0, none⟩), .int .i64 x.1, .pointer (some ⟨W.heap.size, 0, none⟩), undef, undef, undef, undef, undef, undef, undef, undef, undef, undef, undef, .pointer (some ⟨w.heap.size, 0, none⟩), .pointer (some ⟨w.heap.size, 2, none⟩), .slice s.A s.nt s.cap, .int .i64 s.nt, .slice (some ⟨w.heap.size + 1 + 1 + 1, 0, none⟩) s.nt s.nt, .pointer (some ⟨w.heap.size, 0, none⟩), .pointer (some ⟨w.heap.size, 0, none⟩), .int .i64 s.wd, .pointer (some ⟨w.heap.size, 0, none⟩), .pointer (some ⟨w.heap.size, 1, none⟩), .int .i64 s.hg, .int .i64 m, .slice A1 m c1, .pointer (some ⟨w.heap.size, 0, none⟩), .pointer (some ⟨w.heap.size, 2, none⟩), .slice s.A s.nt s.cap, .func (.func 116) #[] #[.pointer (some ⟨w1.heap.size + 1, 0, none⟩)], .int .i64 x.1, .agg #[s.u x.1, s.v x.1], undef, undef, undef, undef, undef, undef, undef, undef, undef, undef, undef, undef, undef, undef, undef, undef, undef, undef, undef, undef, undef, undef, undef, undef, undef, undef, undef, undef, undef, undef, undef, undef, undef, undef, undef, undef, undef, undef, undef, undef, undef, undef, undef, undef, undef, undef, undef, undef, undef, undef, undef, undef, undef, undef, undef, undef, undef, undef, undef, undef, undef, undef, undef, undef, undef, undef, undef, undef], defers := [] } _ ((keepsO hb).from _) (h.kp (h.ext hb) hb.size) ⟨v, h.ext hb⟩ ⟨W.heap.size, by omega, Blk.new _ _ _, rfl⟩
    clear hK h hb
    unfold Stk.u Stk.v at HK ⊢
    gi_wp2
    exact HK
  case hbody =>
    rintro l pre x a' W hl ⟨rl, hlr⟩ ⟨v, h⟩ ⟨b, hb4, hb, rfl⟩ hpl
    obtain ⟨t, htn⟩ := x
    have hLn := loadsF_len s m (pre.map (·.1))
    have hLb := loadsF_bound s m 144 hm1.2 _ (pre.map (·.1)) rfl (fun t' ht' => by
      obtain ⟨y, -, rfl⟩ := List.mem_map.1 ht'
      have h1 := HT.out y.1 y.2
      simp only [tierB, Bool.and_eq_true, decide_eq_true_eq] at h1
      have h2 := h1.1
      have h3 := h1.2.1
      rw [← HM.out] at h2
      omega)
    rw [List.length_map] at hLb
    have hpl2 : pre.length ≤ 10 := by omega
    have hLb2 : ∀ j, ((loadsF s m (pre.map (·.1))).1 j).length ≤ 1584 := fun j => Nat.le_trans (hLb j) (by omega)
    clear hLb hpl
    have hgoal : ∀ W' v', LI w W' w.heap.size w1.heap.size (w1.heap.size + 1) s (s.nt + 1) v' (tierSt s m (loadsF s m (pre.map (·.1))) t).1 (tierSt s m (loadsF s m (pre.map (·.1))) t).2 v' (v' s.nt) → KeepsFrom W2.heap.size W W' → KeepsFrom W2.heap.size W W' ∧ KpB w.heap.size (w1.heap.size + 1) W W' ∧ ∃ v, LI w W' w.heap.size w1.heap.size (w1.heap.size + 1) s (s.nt + 1) v (loadsF s m ((pre ++ [(⟨t, htn⟩ : Tie s)]).map (·.1))).1 (loadsF s m ((pre ++ [(⟨t, htn⟩ : Tie s)]).map (·.1))).2 v (v s.nt) := by
      intro W' v' h' hk
      refine ⟨hk, h.kp h' hk.size, v', ?_⟩
      rw [List.map_append, List.map_cons, List.map_nil, loadsF_append]
      exact h'
    rw [hW0] at hgoal hl hb4
    have HG := hide hgoal
    clear hgoal
    generalize loadsF s m (pre.map (·.1)) = LL at h hLn HG hLb2
    obtain ⟨L, ok⟩ := LL
    dsimp only at h hLn hLb2
    have HLB := hide (hLb2 t)
    clear hLb2
    obtain ⟨mc, mw, hIc, hIw⟩ := hs.2.2 t htn
    have hti := HT.out t htn
    simp only [tierB, Bool.and_eq_true, decide_eq_true_eq, wiB_iff] at hti
    obtain ⟨tc, tw, twf, tcf, -⟩ := hti
    rw [← HM.out] at tc tw
    have HCN : Hid (∀ j, j < s.nt → s.cn j = s.cn t) := fun j hj => by
      have h1 := HT.out j hj
      simp only [tierB, Bool.and_eq_true, decide_eq_true_eq] at h1
      have h2 := h1.1
      rw [← HM.out] at h2
      omega
    have HRL : Hid (∀ i, i < s.wn t → 0 < (restL s t i).length) := fun i hi => by
      have h1 := HH.out t i htn hi
      simp only [hangP, decide_eq_false_iff_not] at h1
      omega
    have tc' : s.cn t = m := by omega
    have tw' : s.wn t ≤ m := by omega
    have HWF := hide twf
    have HCF := hide tcf
    have HIW := hide hIw
    have HSS := hide hs
    obtain ⟨Ao, co, hvo⟩ := (h.own s.nt (by omega)).shape
    rw [hLn] at hvo
    obtain ⟨y0, y1, y2⟩ := blk1 h.onb
    rw [hvo] at y1
    replace hb : Blk W b 72 #[.slice (s.ca t) (s.cn t) (s.cc t), .slice (s.wa t) (s.wn t) (s.wc t)] := hb
    obtain ⟨d0, d1, d2, -, -⟩ := blk2 hb
    have HV := hide hvo
    have P := hide h
    have PB := hide hb
    have HLR := hide hlr
    have zW := h.qbx.lt
    clear tc tw twf tcf hIw hIc hvo h hb hlr hst l0 HT HH hs HO1 HF
    unfold Stk.u Stk.v
    dsimp only
    gi_wp2_with (gi_at_call 105; refine (CallsIn.inRound l (hwd (nothing_any m _ (by omega) hm1.1))).mono ?_; rintro e w3 ⟨v3, rfl, hown3, hb3⟩; obtain ⟨A3, c3, rfl⟩ := own_shape hown3; have HO3 := hide (own_zero hown3); obtain ⟨g0, g1, g2, -, -⟩ := blk2 (PB.out.ext hb3); clear hown3)
    have l3 : LI w w3 w.heap.size w1.heap.size (w1.heap.size + 1) s (s.nt + 2) (upd v (s.nt + 1) (.slice A3 m c3)) (upd (upd L t (tierR s m t (L s.nt) (L t) ok 0).2.1) (s.nt + 1) (tierR s m t (L s.nt) (L t) ok 0).1) (tierR s m t (L s.nt) (L t) ok 0).2.2 (upd v (s.nt + 1) (.slice A3 m c3)) (upd v (s.nt + 1) (.slice A3 m c3) s.nt) := by
      have h1 := P.out.more hb3 HO3.out (fun y hy => by rw [(List.mem_replicate.1 hy).2]; exact LdOk_zero)
      rw [upd_ne (t := s.nt + 1) (k := s.nt) _ _ (by omega)]
      refine h1.congr (fun k _ => ?_) (fun k hk => (upd_ne _ _ (by omega)).symm)
      show _ = upd (upd L t (L t)) (s.nt + 1) (List.replicate m (0, 1)) k
      rw [upd_self]
    have K3 := hide ((keepsO hb3).from (w1.heap.size + 2))
    have L3 := hide l3
    clear hb3 l3 PB HO3
    generalize hWA : s.wa t = WA at HIW ⊢
    clear hWA
    gi_loopw [45] (fun i wr => ∃ (k : Nat) (v' : Nat → Value), k ≤ s.wn t ∧ i = .int .i64 k ∧ Hid (LI w wr w.heap.size w1.heap.size (w1.heap.size + 1) s (s.nt + 2) v' (upd (upd L t (tierR s m t (L s.nt) (L t) ok k).2.1) (s.nt + 1) (tierR s m t (L s.nt) (L t) ok k).1) (tierR s m t (L s.nt) (L t) ok k).2.2 v' (v' s.nt)) ∧ Hid (v' (s.nt + 1) = .slice A3 m c3) ∧ Hid (KeepsFrom (w1.heap.size + 2) W wr)) (fun i _ => s.wn t - (intOf i).toNat)
    case atStart => exact ⟨0, _, Nat.zero_le _, rfl, L3, hide (upd_same _ _ _), K3⟩
    case round =>
      obtain ⟨k, v', hk, rfl, HL, HV3, HK⟩ := hrel
      clear L3 K3 P HV y0 y1 y2 d0 d1 d2 g0 g1 g2
      by_cases hlt : k < s.wn t
      · have i1 : (0 : Int) ≤ (k : Int) := by omega
        have i2 : (k : Int) < (s.wn t : Int) := by omega
        obtain ⟨wb, woff, rfl, hwb, hwc⟩ := (HIW.out.below HL.out.below (Nat.le_refl _)).at_ hlt
        obtain ⟨wN, hwN⟩ : ∃ wN : Nat, s.wf t k = wN := Int.eq_ofNat_of_zero_le (HWF.out k hlt).1
        rw [hwN] at hwc
        have HWN := hide hwN
        obtain ⟨x0, x1, x2, x3, -, -, -⟩ := blk3 HL.out.pile
        clear hwN
        gi_wp2_with (gi_at_call 69; refine (CallsIn.inRound l (hwd (cells_any s t k _))).mono ?_; rintro e w4 ⟨rfl, rfl⟩)
        have z9 := HL.out.qbx.lt
        have hb9 : Below wr.heap.size wr ((((wr.alloc (.cells #[.int .i64 t, .int .i64 k] 59)).alloc (.cells #[.int .i64 0, .int .i64 1] 76)).alloc (.cells #[.int .i64 s.wd, .int .i64 s.hg, .slice s.A s.nt s.cap] 131)).alloc (.cells #[.int .i64 t, .int .i64 k] 59)) := ((((Below.refl _ _).alloc (Nat.le_refl _) _).alloc (by simp) _).alloc (by simp only [World.size_alloc]; omega) _).alloc (by simp only [World.size_alloc]; omega) _
        have l4 := HL.out.ext hb9
        have k4 := HK.out.trans ((keepsO hb9).from _)
        have b12 : Blk ((((wr.alloc (.cells #[.int .i64 t, .int .i64 k] 59)).alloc (.cells #[.int .i64 0, .int .i64 1] 76)).alloc (.cells #[.int .i64 s.wd, .int .i64 s.hg, .slice s.A s.nt s.cap] 131)).alloc (.cells #[.int .i64 t, .int .i64 k] 59)) wr.heap.size 59 #[.int .i64 t, .int .i64 k] := (((Blk.new wr _ _).alloc _).alloc _).alloc _
        have b13 : Blk ((((wr.alloc (.cells #[.int .i64 t, .int .i64 k] 59)).alloc (.cells #[.int .i64 0, .int .i64 1] 76)).alloc (.cells #[.int .i64 s.wd, .int .i64 s.hg, .slice s.A s.nt s.cap] 131)).alloc (.cells #[.int .i64 t, .int .i64 k] 59)) (wr.heap.size + 1) 76 #[.int .i64 ((0, 1) : Nat × Nat).1, .int .i64 ((0, 1) : Nat × Nat).2] := by simpa using ((Blk.new (wr.alloc (.cells #[.int .i64 t, .int .i64 k] 59)) 76 #[.int .i64 0, .int .i64 1]).alloc (.cells #[.int .i64 s.wd, .int .i64 s.hg, .slice s.A s.nt s.cap] 131)).alloc (.cells #[.int .i64 t, .int .i64 k] 59)
        have b14 : PileB ((((wr.alloc (.cells #[.int .i64 t, .int .i64 k] 59)).alloc (.cells #[.int .i64 0, .int .i64 1] 76)).alloc (.cells #[.int .i64 s.wd, .int .i64 s.hg, .slice s.A s.nt s.cap] 131)).alloc (.cells #[.int .i64 t, .int .i64 k] 59)) (wr.heap.size + 1 + 1) s := by unfold PileB; simpa using (Blk.new ((wr.alloc (.cells #[.int .i64 t, .int .i64 k] 59)).alloc (.cells #[.int .i64 0, .int .i64 1] 76)) 131 #[.int .i64 s.wd, .int .i64 s.hg, .slice s.A s.nt s.cap]).alloc (.cells #[.int .i64 t, .int .i64 k] 59)
        have b15 : Blk ((((wr.alloc (.cells #[.int .i64 t, .int .i64 k] 59)).alloc (.cells #[.int .i64 0, .int .i64 1] 76)).alloc (.cells #[.int .i64 s.wd, .int .i64 s.hg, .slice s.A s.nt s.cap] 131)).alloc (.cells #[.int .i64 t, .int .i64 k] 59)) (wr.heap.size + 1 + 1 + 1) 59 #[.int .i64 t, .int .i64 k] := by simpa using Blk.new (((wr.alloc (.cells #[.int .i64 t, .int .i64 k] 59)).alloc (.cells #[.int .i64 0, .int .i64 1] 76)).alloc (.cells #[.int .i64 s.wd, .int .i64 s.hg, .slice s.A s.nt s.cap] 131)) 59 #[.int .i64 t, .int .i64 k]
        have hz4 : ((((wr.alloc (.cells #[.int .i64 t, .int .i64 k] 59)).alloc (.cells #[.int .i64 0, .int .i64 1] 76)).alloc (.cells #[.int .i64 s.wd, .int .i64 s.hg, .slice s.A s.nt s.cap] 131)).alloc (.cells #[.int .i64 t, .int .i64 k] 59)).heap.size = wr.heap.size + 4 := by simp
        have HFar := hide (HL.out.far (g := wr.heap.size + 1) (by omega))
        have e0 : upd (upd L t (tierR s m t (L s.nt) (L t) ok k).2.1) (s.nt + 1) (tierR s m t (L s.nt) (L t) ok k).1 s.nt = L s.nt := by rw [upd_ne _ _ (by omega), upd_ne _ _ (by omega)]
        have HOn : Hid ((∀ x ∈ L s.nt, LdOk x) ∧ ∀ {W : World} {okk : Bool}, LI w W w.heap.size w1.heap.size (w1.heap.size + 1) s (s.nt + 2) v' (upd (upd L t (tierR s m t (L s.nt) (L t) ok k).2.1) (s.nt + 1) (tierR s m t (L s.nt) (L t) ok k).1) okk v' (v' s.nt) → OwnL W w.heap.size (v' s.nt) (L s.nt)) :=
          ⟨fun x hx => HL.out.okl s.nt (by omega) x (by rw [e0]; exact hx), fun h => by have := h.own s.nt (by omega); rwa [e0] at this⟩
        clear e0
        have hlr4 : ∃ r0, ((((wr.alloc (.cells #[.int .i64 t, .int .i64 k] 59)).alloc (.cells #[.int .i64 0, .int .i64 1] 76)).alloc (.cells #[.int .i64 s.wd, .int .i64 s.hg, .slice s.A s.nt s.cap] 131)).alloc (.cells #[.int .i64 t, .int .i64 k] 59)).heap[l]? = some (.loop r0) := ⟨rl, k4.same _ _ hl HLR.out rfl⟩
        generalize ((((wr.alloc (.cells #[.int .i64 t, .int .i64 k] 59)).alloc (.cells #[.int .i64 0, .int .i64 1] 76)).alloc (.cells #[.int .i64 s.wd, .int .i64 s.hg, .slice s.A s.nt s.cap] 131)).alloc (.cells #[.int .i64 t, .int .i64 k] 59)) = W4 at l4 k4 b12 b13 b14 b15 hz4 hlr4 ⊢
        obtain ⟨rl4, hlr4⟩ := hlr4
        clear hb9 x0 x1 x2 x3
        have hst := SeqStopsK.inRound l (cells_stops F (20 - 1 - 1 - 1) hF hro (by omega) (wr.heap.size + 1 + 1) (wr.heap.size + 1 + 1 + 1) w.heap.size t k s W4 b14 b15 (by omega) (HSS.out.below l4.below (Nat.le_refl _)) htn)
        refine wpIn_rangeFunc_ownN rfl hlr4 (by omega) (gf := 102) (lb := #[.pointer (some ⟨wr.heap.size + 1 + 1, 0, none⟩), .pointer (some ⟨wr.heap.size + 1 + 1 + 1, 0, none⟩)]) rfl (hF _) (enters_of Try.func102 (by kernel_rfl) rfl)
          hst KpB.trans (KpB.putObj (by omega) (by omega)) (Below.refl _ _) (fun _ => rfl)
          (fun pre W => InI w W4 W w.heap.size w1.heap.size (w1.heap.size + 1) wr.heap.size (w1.heap.size + 2) s (s.nt + 2) v' (upd (upd L t (tierR s m t (L s.nt) (L t) ok k).2.1) (s.nt + 1) (tierR s m t (L s.nt) (L t) ok k).1) v' (v' s.nt) t k ((pre.map (·.1)).foldl (addSt (L s.nt)) ((0, 1), (tierR s m t (L s.nt) (L t) ok k).2.2)))
          (fun _ _ _ => False) ?hI2 (fun _ _ _ _ _ h _ _ => h) ⟨l4, b13, b12, b15, KeepsFrom.refl _ _, LdOk_zero⟩
          (fun x a' W => a' = { tmps := #[.agg #[.int .i64 s.wd, .int .i64 s.hg, .slice s.A s.nt s.cap], .pointer (some ⟨w.heap.size, 0, none⟩), .pointer (some ⟨w.heap.size + 1, 0, none⟩), .slice none 0 0, .bool false, .pointer (some ⟨w.heap.size + 1 + 1, 0, none⟩), .pointer (some ⟨w1.heap.size, 0, none⟩), .int .i64 t, .pointer (some ⟨b, 0, none⟩), .slice A3 m c3, .int .i64 k, .int .i64 wN, .pointer (some ⟨wr.heap.size, 0, none⟩), .pointer (some ⟨wr.heap.size + 1, 0, none⟩), .int .i64 x.1, u15, u16, u17, undef, u19, .pointer (some ⟨w.heap.size, 0, none⟩), .pointer (some ⟨w.heap.size, 2, none⟩), .slice s.A s.nt s.cap, .int .i64 s.nt, .slice (some ⟨w.heap.size + 1 + 1 + 1, 0, none⟩) s.nt s.nt, .pointer (some ⟨w.heap.size, 0, none⟩), .pointer (some ⟨w.heap.size, 0, none⟩), .int .i64 s.wd, .pointer (some ⟨w.heap.size, 0, none⟩), .pointer (some ⟨w.heap.size, 1, none⟩), .int .i64 s.hg, .int .i64 m, .slice A1 m c1, .pointer (some ⟨w.heap.size, 0, none⟩), .pointer (some ⟨w.heap.size, 2, none⟩), .slice s.A s.nt s.cap, .func (.func 116) #[] #[.pointer (some ⟨w1.heap.size + 1, 0, none⟩)], .int .i64 t, .agg #[.slice (s.ca t) m (s.cc t), .slice (some ⟨wb, woff, none⟩) (s.wn t) (s.wc t)], .slice Ao m co, .int .i64 m, .slice A3 m c3, .pointer (some ⟨b, 1, none⟩), .slice (some ⟨wb, woff, none⟩) (s.wn t) (s.wc t), .int .i64 (s.wn t), .int .i64 k, .bool true, .int .i64 k, .pointer (some ⟨wb, woff + k, none⟩), .int .i64 wN, .int .i64 t, .int .i64 k, .agg #[.int .i64 t, .int .i64 k], .agg #[.int .i64 0, .int .i64 1], .agg #[.int .i64 s.wd, .int .i64 s.hg, .slice s.A s.nt s.cap], .agg #[.int .i64 t, .int .i64 k], .func (.func 102) #[] #[.pointer (some ⟨wr.heap.size + 1 + 1, 0, none⟩), .pointer (some ⟨wr.heap.size + 1 + 1 + 1, 0, none⟩)], .int .i64 x.1, u58, u59, u60, u61, u62, u63, u64, u65, u66, u67, u68, u69, u70, u71, u72, u73, u74, u75, u76, u77, u78, u79, u80, u81, u82, u83, u84, u85, u86, u87, u88, u89, u90, u91, u92, u93, u94, u95, u96, u97, u98, u99, u100, undef, undef, undef, undef, undef, undef], defers := [] }) (fun _ _ _ _ _ _ h _ _ => h) ?hassign2 ?hbody2 ?hdone2 ?hstop2
        case hI2 =>
          rintro pre2 W' W'' row q hg hr
          exact q.keptN hg hr (by omega)
        case hassign2 =>
          rintro l2 pre2 x W' K hI hK
          gi_wp2
          exact hK _ _ (KeepsFrom.refl _ _) (KpB.refl _ _ _) hI rfl
        case hbody2 =>
          -- BEGIN1
          rintro l2 pre2 ⟨c, hc⟩ a2 W' - - q rfl -
          obtain ⟨st, hst2⟩ : ∃ st, (pre2.map (·.1)).foldl (addSt (L s.nt)) ((0, 1), (tierR s m t (L s.nt) (L t) ok k).2.2) = st := ⟨_, rfl⟩
          rw [hst2] at q
          have hcm : c < m := by omega
          obtain ⟨go, co, hvo, -, o0, o1, o2, -, -⟩ := (HOn.out.2 q.li).at_ (c := c) (by rw [hLn]; exact hcm)
          rw [hLn] at hvo
          obtain ⟨y0, y1, y2⟩ := blk1 q.li.onb
          rw [hvo] at y1
          obtain ⟨d0, d1, d2, d3, d4⟩ := blk2 q.box
          have j1 : (0 : Int) ≤ (c : Int) := by omega
          have j2 : (c : Int) < (m : Int) := by omega
          have HC := hide (add_any st.1 ((L s.nt).getD c (0, 1)) (w.heap.size + 1 + 1) _ W'.drew q.ldo (getD_ok HOn.out.1 c) q.li.sc.drew)
          have HS2 := hide (fun W5 hb => q.step (W5 := W5) HFar.out (by omega) HOn.out.1 c hb)
          have HQ := hide q
          have HST := hide hst2
          have e1 : (addSt (L s.nt) st c).1 = lowS (addN st.1 ((L s.nt).getD c (0, 1))) (addD st.1 ((L s.nt).getD c (0, 1))) := rfl
          rw [e1] at HS2
          have HE1 := hide e1
          clear e1
          generalize hY : (L s.nt).getD c (0, 1) = Y at o1 o2 HC HS2 HE1
          clear hY
          generalize lowS (addN st.1 Y) (addD st.1 Y) = X at HC HS2 HE1
          generalize hfit : fitP (lowP (addN st.1 Y) (addD st.1 Y)) = fit at HC HS2
          clear hfit
          unfold ldV at HC
          clear q hst2 hvo hst
          gi_wp2_with fail
          gi_region_with (gi_at_call 107; refine (CallsIn.inRound l2 (CallsIn.inRound l (hwd HC.out))).mono ?_; rintro e w5 ⟨rfl, hb5⟩; obtain ⟨f0, f1, f2, f3, f4⟩ := blk2 ((HQ.out.box.drew).off (by omega) hb5))
          all_goals (
            gi_wp2_with fail
            obtain ⟨r1, r2, r3⟩ := HS2.out _ hb5
            refine ⟨r1.from _, r2, ?_⟩
            dsimp only
            rw [List.map_append, List.foldl_append, HST.out]
            exact r3)
          -- END1
        case hdone2 =>
          rintro xs W5 hxs q
          rw [hxs] at q
          have hob : (cellsTo (s.cf t) k (s.cn t)).foldl (addSt (L s.nt)) ((0, 1), (tierR s m t (L s.nt) (L t) ok k).2.2) = onBrk s t k (L s.nt) (tierR s m t (L s.nt) (L t) ok k).2.2 := rfl
          rw [hob] at q
          clear hob hst hxs
          have HR := hide (rests_any s t k W5 ((HSS.out.below q.li.below (Nat.le_refl _)).more q.li.below.size) htn HCN.out)
          obtain ⟨x0, x1, x2, x3, -, -, -⟩ := blk3 q.li.pile
          obtain ⟨d0, d1, d2, -, -⟩ := blk2 q.brk
          have hwt : wtP s t k = (wN, 1) := by unfold wtP; rw [HWN.out]; rfl
          have hwo : LdOk (wN, 1) := by
            have h1 := (HWF.out k hlt).2
            rw [HWN.out] at h1
            exact ⟨by simp; omega, by simp, by simp⟩
          have hrl0 := HRL.out k hlt
          have hrl1 : (restL s t k).length ≤ 144 := by
            have h1 := List.length_filter_le (fun c => covB s ((t : Int) - 1) c) (cellsTo (s.cf t) k (s.cn t))
            have h2 := cellsTo_len (s.cf t) k (s.cn t)
            have h3 : (restL s t k).length = ((cellsTo (s.cf t) k (s.cn t)).filter fun c => covB s ((t : Int) - 1) c).length := rfl
            omega
          obtain ⟨R, hR⟩ : ∃ R, tierR s m t (L s.nt) (L t) ok k = R := ⟨_, rfl⟩
          have hRl : R.1.length = m := by rw [← hR]; exact tierR_len ..
          have hRc : R.2.1.length = (L t).length + k := by rw [← hR]; exact tierR_cnt ..
          obtain ⟨x, hx⟩ : ∃ x, onBrk s t k (L s.nt) R.2.2 = x := ⟨_, rfl⟩
          rw [hR, hx] at q
          have hnx : tierR s m t (L s.nt) (L t) ok (k + 1) = (layOn R.1 (restL s t k) (shBrk s t k (dnBrk s t k x.1)), R.2.1 ++ [x.1], (x.2 && dnOk s t k x.1) && shOk s t k (dnBrk s t k x.1)) := by
            rw [tierR_succ, hR, ← hx]; rfl
          unfold shBrk shOk at hnx
          unfold dnBrk dnOk at hnx
          rw [hwt] at hnx
          have HA1 := hide (fun W (hb : Below W5.heap.size W5 W) => add_any x.1 (wN, 1) (w.heap.size + 1 + 1) (!x.2) W q.ldo hwo (q.li.sc.ext hb))
          have hyo : LdOk (lowS (addN x.1 (wN, 1)) (addD x.1 (wN, 1))) := lowS_ok _ _ (Nat.mul_pos q.ldo.2.1 hwo.2.1)
          generalize hy : lowS (addN x.1 (wN, 1)) (addD x.1 (wN, 1)) = y at hnx HA1 hyo
          generalize hf1 : fitP (lowP (addN x.1 (wN, 1)) (addD x.1 (wN, 1))) = f1 at hnx HA1
          generalize hn : (restL s t k).length = n at hnx hrl0 hrl1 HR
          have hmul : y.2 * n ≤ 1000000000 * 144 := mulN_bd hyo.2.2 hrl1
          have hmul0 : 0 < y.2 * n := Nat.mul_pos hyo.2.1 hrl0
          have HA2 := hide (fun W (o : Bool) (hs : Blk W (w.heap.size + 1 + 1) 176 #[.bool o]) => lowest_any (y.1 : Int) ((y.2 : Int) * (n : Int)) y.1 (y.2 * n) (w.heap.size + 1 + 1) o W rfl (by simp) (by have := hyo.1; omega) (by omega) hmul0 hs)
          have hw2 : IntKind.i64.wrap ((y.2 : Int) * (n : Int)) = (y.2 : Int) * (n : Int) := IntWalk.i64_in _ (by
            have h1 : (y.2 : Int) * (n : Int) = ((y.2 * n : Nat) : Int) := by simp
            rw [h1]; omega)
          have HSH : Hid (LdOk (lowS y.1 (y.2 * n))) := lowS_ok _ _ hmul0
          generalize lowS y.1 (y.2 * n) = sh at hnx HA2 HSH
          generalize fitP (lowP y.1 (y.2 * n)) = f2 at hnx HA2
          have HQ := hide q
          have HXO := hide q.ldo
          have HNX := hide hnx
          clear q hnx hf1 hy hx hR hwt hwo hyo hmul hmul0
          unfold ldV at HA1 HA2
          gi_wp2_with (first | (gi_at_call 104; refine (CallsIn.inRound l (hwd HR.out)).mono ?_; rintro e w6 ⟨vr, rfl, hr6, hb6⟩; rw [hn] at hr6; obtain ⟨Ar, cr, rfl⟩ := own_shape hr6; have HR6 := hide hr6; obtain ⟨f0, f3, f4, -, -⟩ := blk2 (HQ.out.box.ext hb6); clear hr6) | (gi_at_call 107; refine (CallsIn.inRound l (hwd (HA1.out w6 hb6))).mono ?_; rintro e w7 ⟨rfl, hb7⟩; have L7 := hide ((HQ.out.li.ext hb6).scaled _ hb7)) | (gi_at_call 108; refine (CallsIn.inRound l (hwd (HA2.out _ _ (L7.out.sc.alloc _)))).mono ?_; rintro e w8 ⟨rfl, hb8⟩))
          have zq := HQ.out.qbk.lt
          have z6 := hb6.size
          have z7 := hb7.size
          rw [size_offW] at z7
          have z8 := hb8.size
          rw [size_offW, World.size_alloc] at z8
          have hob : ∀ j, j < s.nt + 2 → ∀ g, (v' j).ownBlock = some g → g < wr.heap.size := fun j hj g e => ((HL.out.own j hj).lt e).2
          have HOB := hide hob
          have L9 := hide (((L7.out.ext ((Below.refl w7.heap.size w7).alloc (Nat.le_refl _) (.cells #[.int .i64 y.1, .int .i64 y.2] 76))).scaled f2 hb8).ext ((Below.refl w8.heap.size w8).alloc (Nat.le_refl _) (.cells #[.int .i64 sh.1, .int .i64 sh.2] 76)))
          have B13 := hide ((((((HQ.out.box.ext hb6).off (by omega) hb7).alloc (.cells #[.int .i64 y.1, .int .i64 y.2] 76)).off (by omega) hb8).alloc (.cells #[.int .i64 sh.1, .int .i64 sh.2] 76)))
          have B17 := hide (Blk.new w8 76 #[.int .i64 sh.1, .int .i64 sh.2])
          have R9 := hide (((own_far ((own_far HR6.out (grown_off hb7) (by omega)).alloc (.cells #[.int .i64 y.1, .int .i64 y.2] 76)) (grown_off hb8) (by omega)).alloc (.cells #[.int .i64 sh.1, .int .i64 sh.2] 76)))
          have K9 := hide (k4.trans (HQ.out.kf.trans ((((((keepsO hb6).trans (keepsOff _ _ _ _ hb7)).trans (keepsO ((Below.refl w7.heap.size w7).alloc (Nat.le_refl _) (.cells #[.int .i64 y.1, .int .i64 y.2] 76)))).trans (keepsOff _ _ _ _ hb8)).trans (keepsO ((Below.refl w8.heap.size w8).alloc (Nat.le_refl _) (.cells #[.int .i64 sh.1, .int .i64 sh.2] 76)))).from _)))
          generalize hW9 : w8.alloc (.cells #[.int .i64 sh.1, .int .i64 sh.2] 76) = W9 at L9 B13 B17 R9 K9 ⊢
          clear hW9 hb6 hb7 hb8 hob f0 f3 f4 L7 HR6 HQ HA1 HA2 HR d0 d1 d2 x0 x1 x2 x3 l4 k4 b12 b13 b14 b15 HFar HOn HLR hlr4 hwc hwb
          obtain ⟨wo, rfl⟩ : ∃ wo : World, wo = wr := ⟨_, rfl⟩
          gi_loopw [81] (fun i wq => ∃ j : Nat, j ≤ n ∧ i = .int .i64 j ∧ Hid (LI w wq w.heap.size w1.heap.size (w1.heap.size + 1) s (s.nt + 2) v' (upd (upd L t R.2.1) (s.nt + 1) (layOn R.1 ((restL s t k).take j) sh)) ((x.2 && f1) && f2) v' (v' s.nt)) ∧ Hid (Blk wq (wo.heap.size + 1) 76 #[.int .i64 x.1.1, .int .i64 x.1.2]) ∧ Hid (Blk wq w8.heap.size 76 #[.int .i64 sh.1, .int .i64 sh.2]) ∧ Hid (wq.ownsRow W5.heap.size 3 1 (.slice Ar n cr) n ((restL s t k).map iv')) ∧ Hid (KeepsFrom (w1.heap.size + 2) W wq)) (fun i _ => n - (intOf i).toNat)
          case atStart => exact ⟨0, Nat.zero_le _, rfl, L9, B13, B17, R9, K9⟩
          case round =>
            obtain ⟨j, hj, rfl, LQ, Q13, Q17, RQ, KQ⟩ := hrel
            clear L9 B13 B17 R9 K9
            by_cases hjn : j < n
            · obtain ⟨br, u, hAr, hbr1, hbr2, hu, hcell⟩ := own_at RQ.out hjn
              obtain ⟨c, hc⟩ : ∃ c, (restL s t k)[j]? = some c := ⟨_, List.getElem?_eq_getElem (by rw [hn]; exact hjn)⟩
              rw [List.getElem?_map, hc] at hu
              have hue : u = .int .i64 c := by injection hu with hu; exact hu.symm
              subst hue
              have hcm : c < m := by have := restL_lt (List.mem_of_getElem? hc); omega
              have hown := LQ.out.own (s.nt + 1) (by omega)
              rw [upd_same] at hown
              obtain ⟨g3, cap3, hv3, ho3, hg3, e0, e1, fz0, fz1⟩ := hown.at_ (c := c) (by rw [layOn_len, hRl]; exact hcm)
              have hv3' := hv3
              rw [HV3.out, layOn_len, hRl] at hv3'
              injection hv3' with hA3 _ hc3
              subst hA3 hAr hc3
              obtain ⟨q0, q1, q2, -, -⟩ := blk2 Q17.out
              have j0 : (0 : Int) ≤ (c : Int) := by omega
              have j1 : (c : Int) < (m : Int) := by omega
              have j2 : (0 : Int) ≤ (j : Int) := by omega
              have j3 : (j : Int) < (n : Int) := by omega
              have g3lt := HOB.out _ (by omega) _ ho3
              have P1 : Hid (LI w ((wr.setCell ⟨g3, c * 2, none⟩ (.int .i64 sh.1)).setCell ⟨g3, c * 2 + 1, none⟩ (.int .i64 sh.2)) w.heap.size w1.heap.size (w1.heap.size + 1) s (s.nt + 2) v' (upd (upd L t R.2.1) (s.nt + 1) (layOn R.1 ((restL s t k).take (j + 1)) sh)) ((x.2 && f1) && f2) v' (v' s.nt)) := by
                rw [hv3, layOn_len] at hown
                have h1 := LI.turn LQ.out (k0 := s.nt + 1) (by omega) (by rw [ho3]; exact grown_set2 wr g3 (c * 2) (c * 2 + 1) (.int .i64 sh.1) (.int .i64 sh.2)) (x := v' (s.nt + 1)) (l := (layOn R.1 ((restL s t k).take j) sh).set c sh)
                  (by
                    rw [hv3, layOn_len]
                    have := OwnL.set (l := layOn R.1 ((restL s t k).take j) sh) (by rw [layOn_len]; exact hown) sh (by rw [layOn_len, hRl]; exact hcm)
                    rw [layOn_len] at this
                    exact this) (fun g e => .inl e) (fun y hy => by
                    have hok := LQ.out.okl (s.nt + 1) (by omega)
                    rw [upd_same] at hok
                    exact (List.mem_or_eq_of_mem_set hy).elim (hok y) (fun h => h ▸ HSH.out))
                rw [upd_self, upd_upd, ← layOn_take hc] at h1
                exact h1
              have P2 := hide ((Q13.out.far (p := ⟨g3, c * 2, none⟩) (by simp only []; omega) (.int .i64 sh.1)).far (p := ⟨g3, c * 2 + 1, none⟩) (by simp only []; omega) (.int .i64 sh.2))
              have P3 := hide ((Q17.out.far (p := ⟨g3, c * 2, none⟩) (by simp only []; omega) (.int .i64 sh.1)).far (p := ⟨g3, c * 2 + 1, none⟩) (by simp only []; omega) (.int .i64 sh.2))
              have P4 := hide (own_far RQ.out (grown_set2 wr g3 (c * 2) (c * 2 + 1) (.int .i64 sh.1) (.int .i64 sh.2)) (by omega))
              have P5 := hide (KQ.out.trans (((KeepsOthers.setCell wr ⟨g3, c * 2, none⟩ (.int .i64 sh.1)).trans (KeepsOthers.setCell _ ⟨g3, c * 2 + 1, none⟩ (.int .i64 sh.2))).from _))
              clear LQ Q13 Q17 RQ KQ hv3 ho3 hown hu hc
              gi_wp2_with fail
              go_roundw
              case rel => exact ⟨j + 1, by omega, by go_num, P1, P2, P3, P4, P5⟩
              case measure => simp [intOf]; omega
            · obtain rfl : j = n := by omega
              have i9 : ¬ (j : Int) < (j : Int) := by omega
              rw [List.take_of_length_le (by rw [hn]; exact Nat.le_refl _)] at LQ
              gi_wp2_with fail
              have hmix : Try.prog.follows .mixedOrders = true := by kernel_rfl
              have hU : upd (upd L t R.2.1) (s.nt + 1) (layOn R.1 (restL s t k) sh) t = R.2.1 := by rw [upd_ne _ _ (by omega), upd_same]
              have hown := LQ.out.own t (by omega)
              rw [hU] at hown
              obtain ⟨i1', hi', hz0', hz1', hz2'⟩ := info_parts info_load
              have zr := LQ.out.row.lt
              have hlb := HLB.out
              obtain ⟨g, cap, w10, happ, hown10, hgrow10, hat, hlt10⟩ := run_append_lies (P := Try.prog) (wr.drew.alloc (.cells #[.int .i64 x.1.1, .int .i64 x.1.2] 76)) 65 65 w.heap.size 76 i1' (.agg #[.int .i64 0, .int .i64 0]) 2 16 Try.underlying65 hi' hz0' hz1' hz2' rfl (by decide)
                (v' t) R.2.1.length (cellsL R.2.1) (World.ownsRow.alloc hown.drew _) ⟨wr.heap.size, 0, none⟩ 1 1 [.int .i64 x.1.1, .int .i64 x.1.2] rfl (fun j u hu => by
                  rw [add_lit']
                  have := (Blk.new wr.drew 76 #[.int .i64 x.1.1, .int .i64 x.1.2]).cell j
                  simpa [hu] using this) (by simp [Value.oneCell']) (by omega) (by unfold maxLen; omega) (by omega) (by simp only [World.size_alloc]; simp only [World.drew]; omega) (wr.heap.size + 1) (by simp)
              have LA := LQ.out.ext (((Below.refl wr.heap.size wr).drew).alloc (Nat.le_refl _) (.cells #[.int .i64 x.1.1, .int .i64 x.1.2] 76))
              have L10 := hide (LI.turn LA (k0 := t) (by omega) hgrow10 (x := .slice (some ⟨g, 0, none⟩) (R.2.1.length + 1) cap) (l := R.2.1 ++ [x.1]) (by
                  unfold OwnL
                  rw [cellsL_append, List.length_append]
                  exact hown10) (fun g' e => by
                  have e' : g = g' := by simpa [Value.ownBlock] using e
                  subst e'
                  rcases hat with h | h
                  · exact .inl h
                  · right; rw [h]; simp only [World.size_alloc]; exact Nat.le_refl _) (fun y hy => by
                  have hok := LQ.out.okl t (by omega)
                  rw [hU] at hok
                  rcases List.mem_append.1 hy with h | h
                  · exact hok y h
                  · rw [List.mem_singleton.1 h]; exact HXO.out))
              obtain ⟨c0, c1', c2⟩ := blk1 LQ.out.outb
              obtain ⟨y0, y1, y2⟩ := blk1 L10.out.outb
              have r1 := LQ.out.row.cell t
              rw [rowV_get _ _ htn] at r1
              have r2 := L10.out.row.cell t
              rw [rowV_get _ _ htn] at r2
              have r3 := L10.out.row.frozen t
              obtain ⟨d0, d1, d2, -, -⟩ := blk2 Q13.out
              have P13 := hide ((Q13.out.drew.alloc (.cells #[.int .i64 x.1.1, .int .i64 x.1.2] 76)).grown hgrow10 (fun e => by have := HOB.out t (by omega) _ e.symm; omega))
              obtain ⟨b0, b1, b2, -, -⟩ := blk2 P13.out
              have K10 := hide (KQ.out.trans (((keepsO (((Below.refl wr.heap.size wr).drew).alloc (Nat.le_refl _) (.cells #[.int .i64 x.1.1, .int .i64 x.1.2] 76))).trans (keepsGrown (World.ownsRow.alloc hown.drew _) hgrow10)).from _))
              have zg := hgrow10.size
              have t0 : (0 : Int) ≤ (t : Int) := by omega
              have t1 : (t : Int) < (s.nt : Int) := by omega
              simp only [World.size_alloc] at zg
              clear LA hown10 hgrow10 hat hU hown hRl hRc hi' hz0' hz1' hz2' hw2 hn LQ Q13 Q17 RQ KQ P13
              have hHeld : (fun W : World => W.cell? ⟨w.heap.size + 1, 0, none⟩ = some (.slice (some ⟨w.heap.size + 3, 0, none⟩) s.nt s.nt) ∧ W.cell? ⟨w.heap.size + 3, t, none⟩ = some (v' t) ∧ W.cell? ⟨wo.heap.size + 1, 0, none⟩ = some (.int .i64 x.1.1) ∧ W.cell? ⟨wo.heap.size + 1, 1, none⟩ = some (.int .i64 x.1.2)) wr.drew := ⟨c1', r1, d1, d2⟩
              have HH1 := hide hHeld
              have HH2 : Hid ((fun W : World => W.cell? ⟨w.heap.size + 1, 0, none⟩ = some (.slice (some ⟨w.heap.size + 3, 0, none⟩) s.nt s.nt) ∧ W.cell? ⟨w.heap.size + 3, t, none⟩ = some (v' t) ∧ W.cell? ⟨wo.heap.size + 1, 0, none⟩ = some (.int .i64 x.1.1) ∧ W.cell? ⟨wo.heap.size + 1, 1, none⟩ = some (.int .i64 x.1.2)) w10) := hide ⟨y1, r2, b1, b2⟩
              have HAP := hide happ
              clear hHeld happ
              refine wpIn_region_J (fun W : World => W.cell? ⟨w.heap.size + 1, 0, none⟩ = some (.slice (some ⟨w.heap.size + 3, 0, none⟩) s.nt s.nt) ∧ W.cell? ⟨w.heap.size + 3, t, none⟩ = some (v' t) ∧ W.cell? ⟨wo.heap.size + 1, 0, none⟩ = some (.int .i64 x.1.1) ∧ W.cell? ⟨wo.heap.size + 1, 1, none⟩ = some (.int .i64 x.1.2)) hmix ?_
              refine wpAnyJ_take 0 (v := ?_) (by first | exact hF | exact wideFn) HH1.out rfl (by kernel_rfl) (by kernel_rfl) (by kernel_rfl) (by kernel_rfl) rfl ?_ (by first | exact fun _ _ _ h => h | exact fun _ _ _ h => hQ2 _ _ _ _ _ h) ?_
              rotate_left
              · intro W hSW
                simp only [List.getElem_toArray, List.getElem_cons_zero, List.getElem_cons_succ]
                (try dsimp only at hSW)
                go_simp
                with_reducible rfl
              (try simp only [List.getElem_toArray, List.getElem_cons_zero, List.getElem_cons_succ, Act.put, List.setIfInBounds_toArray, List.set_cons_zero, List.set_cons_succ])
              refine wpAnyJ_take 1 (v := ?_) (by first | exact hF | exact wideFn) HH1.out rfl (by kernel_rfl) (by kernel_rfl) (by kernel_rfl) (by kernel_rfl) rfl ?_ (by first | exact fun _ _ _ h => h | exact fun _ _ _ h => hQ2 _ _ _ _ _ h) ?_
              rotate_left
              · intro W hSW
                simp only [List.getElem_toArray, List.getElem_cons_zero, List.getElem_cons_succ]
                (try dsimp only at hSW)
                go_simp
                with_reducible rfl
              (try simp only [List.getElem_toArray, List.getElem_cons_zero, List.getElem_cons_succ, Act.put, List.setIfInBounds_toArray, List.set_cons_zero, List.set_cons_succ])
              refine wpAnyJ_take 2 (v := ?_) (by first | exact hF | exact wideFn) HH1.out rfl (by kernel_rfl) (by kernel_rfl) (by kernel_rfl) (by kernel_rfl) rfl ?_ (by first | exact fun _ _ _ h => h | exact fun _ _ _ h => hQ2 _ _ _ _ _ h) ?_
              rotate_left
              · intro W hSW
                simp only [List.getElem_toArray, List.getElem_cons_zero, List.getElem_cons_succ]
                (try dsimp only at hSW)
                go_simp
                with_reducible rfl
              (try simp only [List.getElem_toArray, List.getElem_cons_zero, List.getElem_cons_succ, Act.put, List.setIfInBounds_toArray, List.set_cons_zero, List.set_cons_succ])
              refine wpAnyJ_take 3 (v := ?_) (by first | exact hF | exact wideFn) HH1.out rfl (by kernel_rfl) (by kernel_rfl) (by kernel_rfl) (by kernel_rfl) rfl ?_ (by first | exact fun _ _ _ h => h | exact fun _ _ _ h => hQ2 _ _ _ _ _ h) ?_
              rotate_left
              · intro W hSW
                simp only [List.getElem_toArray, List.getElem_cons_zero, List.getElem_cons_succ]
                (try dsimp only at hSW)
                go_simp
                with_reducible rfl
              (try simp only [List.getElem_toArray, List.getElem_cons_zero, List.getElem_cons_succ, Act.put, List.setIfInBounds_toArray, List.set_cons_zero, List.set_cons_succ])
              refine wpAnyJ_take 4 (v := ?_) (by first | exact hF | exact wideFn) HH1.out rfl (by kernel_rfl) (by kernel_rfl) (by kernel_rfl) (by kernel_rfl) rfl ?_ (by first | exact fun _ _ _ h => h | exact fun _ _ _ h => hQ2 _ _ _ _ _ h) ?_
              rotate_left
              · intro W hSW
                simp only [List.getElem_toArray, List.getElem_cons_zero, List.getElem_cons_succ]
                (try dsimp only at hSW)
                go_simp
                with_reducible rfl
              (try simp only [List.getElem_toArray, List.getElem_cons_zero, List.getElem_cons_succ, Act.put, List.setIfInBounds_toArray, List.set_cons_zero, List.set_cons_succ])
              refine wpAnyJ_take 5 (v := ?_) (by first | exact hF | exact wideFn) HH1.out rfl (by kernel_rfl) (by kernel_rfl) (by kernel_rfl) (by kernel_rfl) rfl ?_ (by first | exact fun _ _ _ h => h | exact fun _ _ _ h => hQ2 _ _ _ _ _ h) ?_
              rotate_left
              · intro W hSW
                simp only [List.getElem_toArray, List.getElem_cons_zero, List.getElem_cons_succ]
                (try dsimp only at hSW)
                go_simp
                with_reducible rfl
              (try simp only [List.getElem_toArray, List.getElem_cons_zero, List.getElem_cons_succ, Act.put, List.setIfInBounds_toArray, List.set_cons_zero, List.set_cons_succ])
              refine wpAnyJ_take 6 (v := ?_) (by first | exact hF | exact wideFn) HH1.out rfl (by kernel_rfl) (by kernel_rfl) (by kernel_rfl) (by kernel_rfl) rfl ?_ (by first | exact fun _ _ _ h => h | exact fun _ _ _ h => hQ2 _ _ _ _ _ h) ?_
              rotate_left
              · intro W hSW
                simp only [List.getElem_toArray, List.getElem_cons_zero, List.getElem_cons_succ]
                (try dsimp only at hSW)
                go_simp
                with_reducible rfl
              (try simp only [List.getElem_toArray, List.getElem_cons_zero, List.getElem_cons_succ, Act.put, List.setIfInBounds_toArray, List.set_cons_zero, List.set_cons_succ])
              have HH3 := hide (And.intro ((World.cell?_alloc_some wr.drew ⟨w.heap.size + 1, 0, none⟩ (.cells #[.int .i64 x.1.1, .int .i64 x.1.2] 76) (by rw [HH1.out.1]; rfl)).trans HH1.out.1) (And.intro ((World.cell?_alloc_some wr.drew ⟨w.heap.size + 3, t, none⟩ (.cells #[.int .i64 x.1.1, .int .i64 x.1.2] 76) (by rw [HH1.out.2.1]; rfl)).trans HH1.out.2.1)
                (And.intro ((World.cell?_alloc_some wr.drew ⟨wo.heap.size + 1, 0, none⟩ (.cells #[.int .i64 x.1.1, .int .i64 x.1.2] 76) (by rw [HH1.out.2.2.1]; rfl)).trans HH1.out.2.2.1) ((World.cell?_alloc_some wr.drew ⟨wo.heap.size + 1, 1, none⟩ (.cells #[.int .i64 x.1.1, .int .i64 x.1.2] 76) (by rw [HH1.out.2.2.2]; rfl)).trans HH1.out.2.2.2))))
              refine wpAnyJ_one 7 rfl (by kernel_rfl) (fun K hK => ?_)
              simp only [List.getElem_toArray, List.getElem_cons_zero, List.getElem_cons_succ]
              go_simp
              refine hK.out _ _ (fun _ => HH3.out) ?_
              clear hK K
              (try simp only [List.getElem_toArray, List.getElem_cons_zero, List.getElem_cons_succ, Act.put, List.setIfInBounds_toArray, List.set_cons_zero, List.set_cons_succ])
              refine wpAnyJ_one 8 rfl (by kernel_rfl) (fun K hK => ?_)
              rw [if_pos (by rfl)]
              refine wpIn_append_run (.tmp 95) (.tmp 97) 65 (by first | exact hF | exact wideFn) rfl rfl rfl HAP.out ?_
              refine hK.out _ _ (fun _ => HH2.out) ?_
              clear hK K
              (try simp only [List.getElem_toArray, List.getElem_cons_zero, List.getElem_cons_succ, Act.put, List.setIfInBounds_toArray, List.set_cons_zero, List.set_cons_succ])
              refine wpAnyJ_take 9 (v := ?_) (by first | exact hF | exact wideFn) HH2.out rfl (by kernel_rfl) (by kernel_rfl) (by kernel_rfl) (by kernel_rfl) rfl ?_ (by first | exact fun _ _ _ h => h | exact fun _ _ _ h => hQ2 _ _ _ _ _ h) ?_
              rotate_left
              · intro W hSW
                simp only [List.getElem_toArray, List.getElem_cons_zero, List.getElem_cons_succ]
                (try dsimp only at hSW)
                go_simp
                with_reducible rfl
              (try simp only [List.getElem_toArray, List.getElem_cons_zero, List.getElem_cons_succ, Act.put, List.setIfInBounds_toArray, List.set_cons_zero, List.set_cons_succ])
              refine wpAnyJ_one 10 rfl (by kernel_rfl) (fun K hK => ?_)
              simp only [List.getElem_toArray, List.getElem_cons_zero, List.getElem_cons_succ]
              go_simp
              refine hK.out _ _ (fun h => absurd h (by rw [show lastOp _ _ _ = true from by kernel_rfl]; simp)) ?_
              clear hK K
              (try simp only [List.getElem_toArray, List.getElem_cons_zero, List.getElem_cons_succ, Act.put, List.setIfInBounds_toArray, List.set_cons_zero, List.set_cons_succ])
              refine wpAnyJ_done (by kernel_rfl) ?_
              have L11 := hide (L10.out.setRow t (.slice (some ⟨g, 0, none⟩) (R.2.1.length + 1) cap))
              clear c0 c1' c2 y0 y1 y2 r1 r2 r3 d0 d1 d2 b0 b1 b2 HH1 HH2 HH3 HAP L10 hmix hj hjn i9 hrl0 hrl1 zg hlt10 hlb t0 t1 zr zq z6 z7 z8 z9 hz4
              gi_wp2_with fail
              go_roundw
              case rel =>
                refine ⟨k + 1, upd v' t (.slice (some ⟨g, 0, none⟩) (R.2.1.length + 1) cap), by omega, by go_num, hide ?_, hide ?_, hide (K10.out.trans ((KeepsOthers.setCell _ _ _).from _))⟩
                · rw [HNX.out, upd_ne v' _ (show s.nt ≠ t by omega)]
                  refine L11.out.congr (fun q _ => ?_) (fun _ _ => rfl)
                  show upd (upd (upd L t R.2.1) (s.nt + 1) (layOn R.1 (restL s t k) sh)) t (R.2.1 ++ [x.1]) q = upd (upd L t (R.2.1 ++ [x.1])) (s.nt + 1) (layOn R.1 (restL s t k) sh) q
                  by_cases e : q = t
                  · rw [e, upd_same, upd_ne _ _ (show t ≠ s.nt + 1 by omega), upd_same]
                  · rw [upd_ne _ _ e]
                    by_cases e2 : q = s.nt + 1
                    · rw [e2, upd_same, upd_same]
                    · rw [upd_ne _ _ e2, upd_ne _ _ e, upd_ne _ _ e2, upd_ne _ _ e]
                · rw [upd_ne v' _ (show s.nt + 1 ≠ t by omega)]
                  exact HV3.out
              case measure => simp [intOf]; omega
        case hstop2 => exact fun _ _ _ _ h => h.elim
      · obtain rfl : k = s.wn t := by omega
        have i2 : ¬ (s.wn t : Int) < (s.wn t : Int) := by omega
        obtain ⟨y0, y1, y2⟩ := blk1 HL.out.onb
        gi_wp2_with fail
        refine HG.out _ (upd v' s.nt (v' (s.nt + 1))) ?_ (HK.out.trans ((KeepsOthers.setCell _ _ _).from _))
        rw [upd_same, ← HV3.out]
        refine ((HL.out.setOn (v' (s.nt + 1))).drop).congr (fun k hk => ?_) (fun k hk => (upd_ne _ _ (by omega)).symm)
        show _ = upd (upd L t (tierR s m t (L s.nt) (L t) ok (s.wn t)).2.1) s.nt (tierR s m t (L s.nt) (L t) ok (s.wn t)).1 k
        by_cases e : k = s.nt
        · subst e; rw [upd_same, upd_same, upd_same]
        · rw [upd_ne _ _ e, upd_ne _ _ e, upd_ne _ _ (by omega)]
  case hdone =>
    rintro D xs W hD hxs ⟨v, h⟩ hK
    rw [hxs] at h
    have P := hide h
    obtain ⟨y0, y1, y2⟩ := blk1 h.onb
    obtain ⟨c0, c1, c2⟩ := blk1 h.outb
    obtain ⟨d0, d1, d2⟩ := blk1 h.sc
    obtain ⟨A2, cc2, hv2⟩ := (h.own s.nt (by omega)).shape
    rw [hv2] at y1
    have HV2 := hide hv2
    clear h hxs hst hv2
    generalize hR : loadsF s m (backTo s.nt 0) = R at *
    generalize hl2 : (R.1 s.nt).length = n2 at *
    have eF := HF.out
    subst eF
    gi_wp2_with fail
    gi_region
    gi_wp2_with fail
    have P5 := LI.ext P.out.setOut (Below.refl _ _).drew
    have hK' : (W.setCell ⟨w.heap.size + 1, 0, none⟩ (.slice (some ⟨w.heap.size + 3, 0, none⟩) s.nt s.nt)).drew.heap[D]? = some (.deferred (some [])) := (KeepsOthers.setCell W ⟨w.heap.size + 1, 0, none⟩ (.slice (some ⟨w.heap.size + 3, 0, none⟩) s.nt s.nt)).same D _ hK rfl
    generalize (W.setCell ⟨w.heap.size + 1, 0, none⟩ (.slice (some ⟨w.heap.size + 3, 0, none⟩) s.nt s.nt)).drew = W5 at P5 hK' ⊢
    refine ⟨by simp, .inl ⟨_, _, rfl, run_takeDeferred hK', ?_⟩⟩
    have P6 := P5.keptN (grownBy_putObj' W5 D (.deferred none)) (fun r e => by cases e; exact ⟨by omega, _, hK', rfl⟩)
    obtain ⟨g0, g1, g2⟩ := blk1 P6.outb
    have HV3 := HV2.out
    refine ⟨.tuple #[.slice (some ⟨w.heap.size + 3, 0, none⟩) s.nt s.nt, .slice A2 n2 cc2, .bool R.2], by simp [results, Try.results74, go_sem, g1], ?_⟩
    refine ⟨v, by rw [hR, HV3], P6.below, P6.row, fun k hk => by rw [hR]; exact P6.own k (by omega)⟩
  case hstop =>
    rintro D c pre W hD hSp h hK
    exact h.elim
end Go.Proofs.Ytlhekifmkkgjlaa
/- Contracts of chapter 8 on stacks: Loads. -/
namespace Go.Proofs.Ytlhekifmkkgjlaa
open Go Go.RowKit Go.Shelf
set_option maxHeartbeats 1000000
@[go_sem] theorem field_brick0 (a b : Value) (w : World) : (Instr.field 59 (.agg #[a, b]) 0).run Try.prog w = .ok a w := by kernel_rfl
@[go_sem] theorem field_brick1 (a b : Value) (w : World) : (Instr.field 59 (.agg #[a, b]) 1).run Try.prog w = .ok b w := by kernel_rfl
theorem mem_bricksTo (wn : Nat → Nat) (n t i : Nat) : (t, i) ∈ bricksTo wn n ↔ t < n ∧ i < wn t := by
  simp only [bricksTo, rowTo, List.mem_flatMap, List.mem_map, List.mem_range, Prod.mk.injEq]
  constructor
  · rintro ⟨a, ha, b, hb, rfl, rfl⟩; exact ⟨ha, hb⟩
  · rintro ⟨ha, hb⟩; exact ⟨t, ha, i, hb, rfl, rfl⟩
theorem firstOf_neg {p : Nat → Nat → Bool} {l : List (Nat × Nat)} (h : (firstOf p l).1 < 0) : ∀ x ∈ l, p x.1 x.2 = false := by
  intro x hx
  unfold firstOf at h
  cases hf : l.find? (fun x => p x.1 x.2) with
  | none => simpa using List.find?_eq_none.1 hf x hx
  | some y => rw [hf] at h; simp at h; omega
theorem stack_cn {s : Stk} (h : stackB s = true) : ∀ k, k < s.nt → (s.cn k : Int) = s.wd * s.hg := by
  intro k hk
  have h1 := ((stackB_iff s).1 h).2.2 k hk
  simp only [tierB, Bool.and_eq_true, decide_eq_true_eq] at h1
  exact h1.1
/-- the number of cells of a floor -/
def flr (s : Stk) : Nat := (s.wd * s.hg).toNat
theorem flr_eq {s : Stk} (h : stackB s = true) : (flr s : Int) = s.wd * s.hg := by
  have h1 := ((stackB_iff s).1 h).1
  have := Int.mul_pos (a := s.wd) (b := s.hg) (by omega) (by omega)
  unfold flr; omega
theorem Loads_arg (s : Stk) (w : World) (hs : StkR w w.heap.size s) (h : stackB s = false) :
    Calls Try.prog 32 #[.agg #[.int .i64 s.wd, .int .i64 s.hg, .slice s.A s.nt s.cap]] w fun e w' => e = .returned (.tuple #[.slice none 0 0, .slice none 0 0, .int .i64 2]) ∧ Below w.heap.size w w' := by
  have HB := hide ((Below.refl w.heap.size w).alloc (Nat.le_refl _) (.cells #[.int .i64 s.wd, .int .i64 s.hg, .slice s.A s.nt s.cap] 55))
  have HC := hide (newPile_any s (w.alloc (.cells #[.int .i64 s.wd, .int .i64 s.hg, .slice s.A s.nt s.cap] 55)) ((hs.below HB.out (Nat.le_refl _)).more HB.out.size))
  rw [stkE_no h] at HC
  clear h hs
  go_enter Try.func32, Try.ntmps32
  go_wp2_with fail
  refine HC.out.mono ?_
  rintro e w1 ⟨rfl, hb1⟩
  go_wp2_with fail
  go_ret3
  have hB := HB.out.trans (hb1.mono HB.out.size)
  exact ⟨rfl, hB.alloc hB.size _⟩
theorem Loads_falls (s : Stk) (w : World) (hs : StkR w w.heap.size s) (h : stackB s = true) (hf : 0 ≤ (hangF s).1) :
    Calls Try.prog 32 #[.agg #[.int .i64 s.wd, .int .i64 s.hg, .slice s.A s.nt s.cap]] w fun e w' => e = .returned (.tuple #[.slice none 0 0, .slice none 0 0, .int .i64 80]) ∧ Below w.heap.size w w' := by
  have HB := hide ((Below.refl w.heap.size w).alloc (Nat.le_refl _) (.cells #[.int .i64 s.wd, .int .i64 s.hg, .slice s.A s.nt s.cap] 55))
  have HC := hide (newPile_any s (w.alloc (.cells #[.int .i64 s.wd, .int .i64 s.hg, .slice s.A s.nt s.cap] 55)) ((hs.below HB.out (Nat.le_refl _)).more HB.out.size))
  rw [stkE_ok h] at HC
  have HH := hide (fun W (hb : Below w.heap.size w W) => hangs_any s (flr s) W ((hs.below hb (Nat.le_refl _)).more hb.size) (fun k hk => by have h1 := flr_eq h; have h2 := stack_cn h k hk; omega))
  generalize hangF s = R at HH hf
  unfold brV at HH
  clear h hs
  go_enter Try.func32, Try.ntmps32
  go_wp2_with fail
  refine HC.out.mono ?_
  rintro e w1 ⟨rfl, hb1⟩
  have hB := hide (HB.out.trans (hb1.mono HB.out.size))
  go_wp2_with fail
  refine (HH.out _ (hB.out.alloc hB.out.size _)).mono ?_
  rintro e w2 ⟨rfl, hb2⟩
  go_wp2_with fail
  go_ret3
  exact ⟨rfl, (hB.out.alloc hB.out.size (.cells #[.int .i64 s.wd, .int .i64 s.hg, .slice s.A s.nt s.cap] 131)).trans (hb2.mono (by have := hB.out.size; simp only [World.size_alloc]; omega))⟩
/-- nothing hangs -/
theorem hangF_none {s : Stk} (hf : (hangF s).1 < 0) : ∀ t i, t < s.nt → i < s.wn t → hangP s t i = false := fun t i ht hi => firstOf_neg hf (t, i) ((mem_bricksTo _ _ _ _).2 ⟨ht, hi⟩)
def LoadsB (s : Stk) : Bool := (loadsF s (flr s) (backTo s.nt 0)).2
def LoadsL (s : Stk) (k : Nat) : List (Nat × Nat) := (loadsF s (flr s) (backTo s.nt 0)).1 k
theorem Loads_over (s : Stk) (w : World) (hs : StkR w w.heap.size s) (h : stackB s = true) (hf : (hangF s).1 < 0) (ho : LoadsB s = false) :
    Calls Try.prog 32 #[.agg #[.int .i64 s.wd, .int .i64 s.hg, .slice s.A s.nt s.cap]] w fun e w' => e = .returned (.tuple #[.slice none 0 0, .slice none 0 0, .int .i64 10]) ∧ Below w.heap.size w w' := by
  have HB := hide ((Below.refl w.heap.size w).alloc (Nat.le_refl _) (.cells #[.int .i64 s.wd, .int .i64 s.hg, .slice s.A s.nt s.cap] 55))
  have HC := hide (newPile_any s (w.alloc (.cells #[.int .i64 s.wd, .int .i64 s.hg, .slice s.A s.nt s.cap] 55)) ((hs.below HB.out (Nat.le_refl _)).more HB.out.size))
  rw [stkE_ok h] at HC
  have HH := hide (fun W (hb : Below w.heap.size w W) => hangs_any s (flr s) W ((hs.below hb (Nat.le_refl _)).more hb.size) (fun k hk => by have h1 := flr_eq h; have h2 := stack_cn h k hk; omega))
  have HL := hide (fun W (hb : Below w.heap.size w W) => loads_any s (flr s) W ((hs.below hb (Nat.le_refl _)).more hb.size) h (flr_eq h) (hangF_none hf))
  generalize hangF s = R at HH hf
  unfold brV at HH
  unfold LoadsPost at HL
  rw [show (loadsF s (flr s) (backTo s.nt 0)).2 = false from ho] at HL
  have hf' : ¬ 0 ≤ R.1 := by omega
  clear h hs ho hf
  go_enter Try.func32, Try.ntmps32
  go_wp2_with fail
  refine HC.out.mono ?_
  rintro e w1 ⟨rfl, hb1⟩
  have hB := hide (HB.out.trans (hb1.mono HB.out.size))
  have HK := hide (Blk.new w1 131 #[.int .i64 s.wd, .int .i64 s.hg, .slice s.A s.nt s.cap])
  have HZ := hide ((hB.out.alloc hB.out.size (.cells #[.int .i64 s.wd, .int .i64 s.hg, .slice s.A s.nt s.cap] 131)))
  go_wp2_with fail
  refine (HH.out _ HZ.out).mono ?_
  rintro e w2 ⟨rfl, hb2⟩
  obtain ⟨x0, x1, x2, x3, -, -, -⟩ := blk3 (HK.out.ext hb2)
  have HY := hide (HZ.out.trans (hb2.mono HZ.out.size))
  go_wp2_with fail
  refine (HL.out _ HY.out).mono ?_
  rintro e w3 ⟨v, rfl, hb3, -, -⟩
  go_wp2_with fail
  go_ret3
  exact ⟨rfl, HY.out.trans (hb3.mono HY.out.size)⟩
/-- what Loads returns -/
def LoadsOk (s : Stk) (w : World) (e : Ending) (w' : World) : Prop :=
  ∃ (z : Nat) (v : Nat → Value), w.heap.size ≤ z ∧ e = .returned (.tuple #[.slice (some ⟨z + 3, 0, none⟩) s.nt s.nt, v s.nt, .int .i64 0]) ∧ Below w.heap.size w w' ∧
    Blk w' (z + 3) 65 (rowV s.nt v) ∧ ∀ k, k ≤ s.nt → OwnL w' z (v k) (LoadsL s k)
theorem Loads_ok (s : Stk) (w : World) (hs : StkR w w.heap.size s) (h : stackB s = true) (hf : (hangF s).1 < 0) (ho : LoadsB s = true) :
    Calls Try.prog 32 #[.agg #[.int .i64 s.wd, .int .i64 s.hg, .slice s.A s.nt s.cap]] w (LoadsOk s w) := by
  have HB := hide ((Below.refl w.heap.size w).alloc (Nat.le_refl _) (.cells #[.int .i64 s.wd, .int .i64 s.hg, .slice s.A s.nt s.cap] 55))
  have HC := hide (newPile_any s (w.alloc (.cells #[.int .i64 s.wd, .int .i64 s.hg, .slice s.A s.nt s.cap] 55)) ((hs.below HB.out (Nat.le_refl _)).more HB.out.size))
  rw [stkE_ok h] at HC
  have HH := hide (fun W (hb : Below w.heap.size w W) => hangs_any s (flr s) W ((hs.below hb (Nat.le_refl _)).more hb.size) (fun k hk => by have h1 := flr_eq h; have h2 := stack_cn h k hk; omega))
  have HL := hide (fun W (hb : Below w.heap.size w W) => loads_any s (flr s) W ((hs.below hb (Nat.le_refl _)).more hb.size) h (flr_eq h) (hangF_none hf))
  generalize hangF s = R at HH hf
  unfold brV at HH
  unfold LoadsPost at HL
  rw [show (loadsF s (flr s) (backTo s.nt 0)).2 = true from ho] at HL
  have hf' : ¬ 0 ≤ R.1 := by omega
  clear h hs ho hf
  go_enter Try.func32, Try.ntmps32
  go_wp2_with fail
  refine HC.out.mono ?_
  rintro e w1 ⟨rfl, hb1⟩
  have hB := hide (HB.out.trans (hb1.mono HB.out.size))
  have HK := hide (Blk.new w1 131 #[.int .i64 s.wd, .int .i64 s.hg, .slice s.A s.nt s.cap])
  have HZ := hide ((hB.out.alloc hB.out.size (.cells #[.int .i64 s.wd, .int .i64 s.hg, .slice s.A s.nt s.cap] 131)))
  go_wp2_with fail
  refine (HH.out _ HZ.out).mono ?_
  rintro e w2 ⟨rfl, hb2⟩
  obtain ⟨x0, x1, x2, x3, -, -, -⟩ := blk3 (HK.out.ext hb2)
  have HY := hide (HZ.out.trans (hb2.mono HZ.out.size))
  go_wp2_with fail
  refine (HL.out _ HY.out).mono ?_
  rintro e w3 ⟨v, rfl, hb3, hr, ho⟩
  have HR := hide hr
  have HO := hide ho
  clear hr ho
  go_wp2_with fail
  go_ret3
  exact ⟨w2.heap.size, v, HY.out.size, rfl, HY.out.trans (hb3.mono HY.out.size), HR.out, HO.out⟩
end Go.Proofs.Ytlhekifmkkgjlaa
