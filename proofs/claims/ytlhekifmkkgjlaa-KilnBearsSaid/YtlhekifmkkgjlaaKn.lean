/- Contracts of chapter 8 on stacks: covered, cells, rests. -/
import Derived.Test.YtlhekifmkkgjlaaKm
set_option linter.unusedSimpArgs false
set_option linter.unusedVariables false
set_option linter.unnecessarySimpa false
namespace Go.Proofs.Ytlhekifmkkgjlaa
open Go Go.RowKit Go.Shelf
attribute [local go_sem] Oper.semAt_some
set_option maxHeartbeats 1000000
def covB (s : Stk) (t : Int) (c : Nat) : Bool := decide (t < 0) || (decide (t < s.nt) && decide (0 ≤ s.cf t.toNat c))
theorem covered_neg (s : Stk) (t : Int) (c : Int) (w : World) (ht : t < 0) :
    Calls Try.prog 94 #[.agg #[.int .i64 s.wd, .int .i64 s.hg, .slice s.A s.nt s.cap], .int .i64 t, .int .i64 c] w fun e w' => e = .returned (.bool true) ∧ Below w.heap.size w w' := by
  go_enter Try.func94, Try.ntmps94
  go_wp2_with fail
  go_ret
  exact ⟨rfl, (Below.refl _ _).alloc (Nat.le_refl _) _⟩
theorem covered_above (s : Stk) (t : Int) (c : Int) (w : World) (h0 : s.nt ≤ 1000000) (ht : s.nt ≤ t) :
    Calls Try.prog 94 #[.agg #[.int .i64 s.wd, .int .i64 s.hg, .slice s.A s.nt s.cap], .int .i64 t, .int .i64 c] w fun e w' => e = .returned (.bool false) ∧ Below w.heap.size w w' := by
  have h1 : ¬ t < 0 := by omega
  go_enter Try.func94, Try.ntmps94
  go_wp2_with fail
  go_ret
  exact ⟨rfl, (Below.refl _ _).alloc (Nat.le_refl _) _⟩
theorem covered_in (s : Stk) (t c : Nat) (w : World) (hs : StkR w w.heap.size s) (ht : t < s.nt) (hc : c < s.cn t) :
    Calls Try.prog 94 #[.agg #[.int .i64 s.wd, .int .i64 s.hg, .slice s.A s.nt s.cap], .int .i64 t, .int .i64 c] w fun e w' => e = .returned (.bool (decide (0 ≤ s.cf t c))) ∧ Below w.heap.size w w' := by
  obtain ⟨tb, toff, hA, htb, hu, -⟩ := hs.2.1.at_ ht
  obtain ⟨m1, -, hI, -⟩ := hs.2.2 t ht
  unfold Stk.u at hu
  obtain ⟨cb, coff, hca, hcb, hcc⟩ := hI.at_ hc
  rw [hca] at hu
  have m0 := hs.1
  clear hs hI hca
  rw [hA]
  clear hA
  have i1 : (0 : Int) ≤ (t : Int) := by omega
  have i2 : (t : Int) < (s.nt : Int) := by omega
  have i3 : (0 : Int) ≤ (c : Int) := by omega
  have i4 : (c : Int) < (s.cn t : Int) := by omega
  go_enter Try.func94, Try.ntmps94
  go_wp2_with fail
  go_ret
  exact ⟨rfl, (Below.refl _ _).alloc (Nat.le_refl _) _⟩
theorem covered_any (s : Stk) (t : Int) (c : Nat) (w : World) (hs : StkR w w.heap.size s) (hc : ∀ k : Nat, (k : Int) = t → k < s.nt → c < s.cn k) :
    Calls Try.prog 94 #[.agg #[.int .i64 s.wd, .int .i64 s.hg, .slice s.A s.nt s.cap], .int .i64 t, .int .i64 c] w fun e w' => e = .returned (.bool (covB s t c)) ∧ Below w.heap.size w w' := by
  rcases (by omega : t < 0 ∨ (s.nt : Int) ≤ t ∨ (0 ≤ t ∧ t < s.nt)) with h | h | ⟨h1, h2⟩
  · have : covB s t c = true := by simp [covB, h]
    rw [this]; exact covered_neg s t c w h
  · have : covB s t c = false := by
      have h3 : ¬ t < 0 := by omega
      have h4 : ¬ t < s.nt := by omega
      simp only [covB, decide_eq_false h3, decide_eq_false h4, Bool.false_and, Bool.or_false]
    rw [this]; exact covered_above s t c w hs.1 h
  · obtain ⟨k, rfl⟩ := Int.eq_ofNat_of_zero_le h1
    have : covB s k c = decide (0 ≤ s.cf k c) := by
      have h3 : ¬ (k : Int) < 0 := by omega
      simp only [covB, decide_eq_false h3, decide_eq_true h2, Bool.false_or, Bool.true_and, Int.toNat_natCast]
    rw [this]; exact covered_in s k c w hs (by omega) (hc k rfl (by omega))
theorem cells_any (s : Stk) (t b : Int) (w : World) :
    Calls Try.prog 69 #[.agg #[.int .i64 s.wd, .int .i64 s.hg, .slice s.A s.nt s.cap], .agg #[.int .i64 t, .int .i64 b]] w fun e w' => e = .returned (.func (.func 102) #[] #[.pointer (some ⟨w.heap.size, 0, none⟩), .pointer (some ⟨w.heap.size + 1, 0, none⟩)]) ∧ (w.alloc (.cells #[.int .i64 s.wd, .int .i64 s.hg, .slice s.A s.nt s.cap] 131)).alloc (.cells #[.int .i64 t, .int .i64 b] 59) = w' := by
  go_enter Try.func69, Try.ntmps69
  go_wp2_with fail
  go_ret
  exact ⟨rfl, rfl⟩
theorem cells_stops (F : Fence) (n : Nat) (hF : ∀ f, F.fn f) (hro : F.round = none) (hn : 1 ≤ n) (p q n0 t : Nat) (b : Int) (s : Stk) (w : World) (hp : PileB w p s) (hq : Blk w q 59 #[.int .i64 t, .int .i64 b]) (hn0 : n0 ≤ w.heap.size) (hs : StkR w n0 s) (ht : t < s.nt) :
    SeqStopsK F n Try.prog 102 #[.pointer (some ⟨p, 0, none⟩), .pointer (some ⟨q, 0, none⟩)] (fun x : Cell (s.cn t) => #[.int .i64 x.1]) (KpB n0 q) (fun ys => ys.map (·.1) = cellsTo (s.cf t) b (s.cn t)) (fun pre => pre.map (·.1) <+: cellsTo (s.cf t) b (s.cn t)) (cellsTo (s.cf t) b (s.cn t)).length w := fun l J Jx W hW _ _ hY h0 =>
  cells1_in F n hF hro hn l p q n0 t b s J Jx W (hp.ext hW) (hq.ext hW) (hs.below (hW.mono hn0) (Nat.le_refl _)) ht hY h0
theorem Blk.keptN {W W' : World} {g : Nat} {t : TypeId} {cs : Array Value} (h : Blk W g t cs) {row : Option Nat} (hg : W.grownBy W' row) (hr : ∀ r, row = some r → ∃ o : Obj, W.heap[r]? = some o ∧ o.isCells = false) : Blk W' g t cs :=
  h.grown hg (fun e => by
    obtain ⟨o, ho, hc⟩ := hr g e.symm
    unfold Blk at h
    rw [h] at ho
    cases ho; cases hc)
theorem ownN {W W' : World} {base : Nat} {e : TypeId} {size k : Nat} {v : Value} {xs : List Value} (h : W.ownsRow base e size v k xs) {row : Option Nat} (hg : W.grownBy W' row) (hr : ∀ r, row = some r → ∃ o : Obj, W.heap[r]? = some o ∧ o.isCells = false) : W'.ownsRow base e size v k xs := by
  obtain ⟨h1, h2⟩ := h
  refine ⟨h1, ?_⟩
  rcases h2 with h2 | ⟨g, cap, cur, hv, hg0, hh, hrest⟩
  · exact .inl h2
  · exact .inr ⟨g, cap, cur, hv, hg0, Blk.keptN (t := e) hh hg hr, hrest⟩
theorem keepsO {W W' : World} (h : Below W.heap.size W W') : KeepsOthers W W' := ⟨h.size, fun k o hk _ => by
  rcases Nat.lt_or_ge k W.heap.size with hl | hl
  · exact (h.block k hl).trans hk
  · rw [Array.getElem?_eq_none hl] at hk; cases hk⟩
theorem ownBelow {W W' : World} {base : Nat} {e : TypeId} {size k : Nat} {v : Value} {xs : List Value} (h : W.ownsRow base e size v k xs) (hb : Below W.heap.size W W') : W'.ownsRow base e size v k xs := by
  obtain ⟨h1, h2⟩ := h
  refine ⟨h1, ?_⟩
  rcases h2 with h2 | ⟨g, cap, cur, hv, hg0, hh, hrest⟩
  · exact .inl h2
  · exact .inr ⟨g, cap, cur, hv, hg0, Blk.ext (t := e) hh hb, hrest⟩
theorem own_shape {W : World} {base : Nat} {e : TypeId} {size k : Nat} {v : Value} {xs : List Value} (h : W.ownsRow base e size v k xs) : ∃ A c, v = .slice A k c := by
  rcases h.2 with ⟨rfl, rfl⟩ | ⟨g, cap, cur, rfl, _⟩
  · exact ⟨none, 0, rfl⟩
  · exact ⟨_, _, rfl⟩
def restL (s : Stk) (t : Nat) (b : Int) : List Nat := (cellsTo (s.cf t) b (s.cn t)).filter fun c => covB s ((t : Int) - 1) c
def iv' (c : Nat) : Value := .int .i64 c
def RestsPost (s : Stk) (t : Nat) (b : Int) (w : World) (e : Ending) (w' : World) : Prop :=
  ∃ v, e = .returned v ∧ w'.ownsRow w.heap.size 3 1 v (restL s t b).length ((restL s t b).map iv') ∧ Below w.heap.size w w'
theorem rests_any (s : Stk) (t : Nat) (b : Int) (w : World) (hs : StkR w w.heap.size s) (ht : t < s.nt) (hc : ∀ k, k < s.nt → s.cn k = s.cn t) :
    Calls Try.prog 104 #[.agg #[.int .i64 s.wd, .int .i64 s.hg, .slice s.A s.nt s.cap], .agg #[.int .i64 t, .int .i64 b]] w (RestsPost s t b w) := by
  refine (callsIn_wide (n := 9)).1 ?_
  obtain ⟨F, hFw⟩ : ∃ F : Fence, F = Fence.wide := ⟨_, rfl⟩
  rw [← hFw]
  have hF : ∀ f, F.fn f := by rw [hFw]; exact fun _ => trivial
  have hro : F.round = none := by rw [hFw]; rfl
  have hwd : ∀ {n f args w R}, Calls Try.prog f args w R → CallsIn F n Try.prog f args w R := by rw [hFw]; exact fun h => callsIn_wide.2 h
  clear hFw
  refine callsIn_of_wp_marks Try.func104 rfl (hF _) ?_ hro
  simp only [Try.ntmps104, List.size_toArray, List.length_cons, List.length_nil, Nat.reduceAdd, Nat.reduceSub, Array.replicate_succ, Array.replicate_zero, List.push_toArray, List.append_toArray, List.nil_append, List.cons_append]
  gi_wp2_with (gi_at_call 69; refine (hwd (cells_any s t b _)).mono ?_; rintro e w1 ⟨rfl, rfl⟩)
  have k0 : PileB (((((w.alloc (.cells #[.int .i64 s.wd, .int .i64 s.hg, .slice s.A s.nt s.cap] 131)).alloc (.cells #[.int .i64 t, .int .i64 b] 59)).alloc (.cells #[.slice none 0 0] 56)).alloc (.cells #[.int .i64 s.wd, .int .i64 s.hg, .slice s.A s.nt s.cap] 131)).alloc (.cells #[.int .i64 t, .int .i64 b] 59)) w.heap.size s := ((((Blk.new w _ _).alloc _).alloc _).alloc _).alloc _
  have k1 : Blk (((((w.alloc (.cells #[.int .i64 s.wd, .int .i64 s.hg, .slice s.A s.nt s.cap] 131)).alloc (.cells #[.int .i64 t, .int .i64 b] 59)).alloc (.cells #[.slice none 0 0] 56)).alloc (.cells #[.int .i64 s.wd, .int .i64 s.hg, .slice s.A s.nt s.cap] 131)).alloc (.cells #[.int .i64 t, .int .i64 b] 59)) (w.heap.size + 1) 59 #[.int .i64 t, .int .i64 b] := by simpa using (((Blk.new (w.alloc (.cells #[.int .i64 s.wd, .int .i64 s.hg, .slice s.A s.nt s.cap] 131)) _ _).alloc _).alloc _).alloc _
  have k2 : Blk (((((w.alloc (.cells #[.int .i64 s.wd, .int .i64 s.hg, .slice s.A s.nt s.cap] 131)).alloc (.cells #[.int .i64 t, .int .i64 b] 59)).alloc (.cells #[.slice none 0 0] 56)).alloc (.cells #[.int .i64 s.wd, .int .i64 s.hg, .slice s.A s.nt s.cap] 131)).alloc (.cells #[.int .i64 t, .int .i64 b] 59)) (w.heap.size + 1 + 1) 56 #[.slice none 0 0] := by simpa using ((Blk.new ((w.alloc (.cells #[.int .i64 s.wd, .int .i64 s.hg, .slice s.A s.nt s.cap] 131)).alloc (.cells #[.int .i64 t, .int .i64 b] 59)) 56 #[.slice none 0 0]).alloc _).alloc _
  have k3 : PileB (((((w.alloc (.cells #[.int .i64 s.wd, .int .i64 s.hg, .slice s.A s.nt s.cap] 131)).alloc (.cells #[.int .i64 t, .int .i64 b] 59)).alloc (.cells #[.slice none 0 0] 56)).alloc (.cells #[.int .i64 s.wd, .int .i64 s.hg, .slice s.A s.nt s.cap] 131)).alloc (.cells #[.int .i64 t, .int .i64 b] 59)) (w.heap.size + 1 + 1 + 1) s := by unfold PileB; simpa using (Blk.new (((w.alloc (.cells #[.int .i64 s.wd, .int .i64 s.hg, .slice s.A s.nt s.cap] 131)).alloc (.cells #[.int .i64 t, .int .i64 b] 59)).alloc (.cells #[.slice none 0 0] 56)) 131 #[.int .i64 s.wd, .int .i64 s.hg, .slice s.A s.nt s.cap]).alloc (.cells #[.int .i64 t, .int .i64 b] 59)
  have k4 : Blk (((((w.alloc (.cells #[.int .i64 s.wd, .int .i64 s.hg, .slice s.A s.nt s.cap] 131)).alloc (.cells #[.int .i64 t, .int .i64 b] 59)).alloc (.cells #[.slice none 0 0] 56)).alloc (.cells #[.int .i64 s.wd, .int .i64 s.hg, .slice s.A s.nt s.cap] 131)).alloc (.cells #[.int .i64 t, .int .i64 b] 59)) (w.heap.size + 1 + 1 + 1 + 1) 59 #[.int .i64 t, .int .i64 b] := by simpa using Blk.new ((((w.alloc (.cells #[.int .i64 s.wd, .int .i64 s.hg, .slice s.A s.nt s.cap] 131)).alloc (.cells #[.int .i64 t, .int .i64 b] 59)).alloc (.cells #[.slice none 0 0] 56)).alloc (.cells #[.int .i64 s.wd, .int .i64 s.hg, .slice s.A s.nt s.cap] 131)) 59 #[.int .i64 t, .int .i64 b]
  have k5 : (((((w.alloc (.cells #[.int .i64 s.wd, .int .i64 s.hg, .slice s.A s.nt s.cap] 131)).alloc (.cells #[.int .i64 t, .int .i64 b] 59)).alloc (.cells #[.slice none 0 0] 56)).alloc (.cells #[.int .i64 s.wd, .int .i64 s.hg, .slice s.A s.nt s.cap] 131)).alloc (.cells #[.int .i64 t, .int .i64 b] 59)).heap.size = w.heap.size + 5 := by simp
  have k6 : Below w.heap.size w (((((w.alloc (.cells #[.int .i64 s.wd, .int .i64 s.hg, .slice s.A s.nt s.cap] 131)).alloc (.cells #[.int .i64 t, .int .i64 b] 59)).alloc (.cells #[.slice none 0 0] 56)).alloc (.cells #[.int .i64 s.wd, .int .i64 s.hg, .slice s.A s.nt s.cap] 131)).alloc (.cells #[.int .i64 t, .int .i64 b] 59)) := (((((Below.refl _ _).alloc (Nat.le_refl _) _).alloc (by simp) _).alloc (by simp only [World.size_alloc]; omega) _).alloc (by simp only [World.size_alloc]; omega) _).alloc (by simp only [World.size_alloc]; omega) _
  generalize (((((w.alloc (.cells #[.int .i64 s.wd, .int .i64 s.hg, .slice s.A s.nt s.cap] 131)).alloc (.cells #[.int .i64 t, .int .i64 b] 59)).alloc (.cells #[.slice none 0 0] 56)).alloc (.cells #[.int .i64 s.wd, .int .i64 s.hg, .slice s.A s.nt s.cap] 131)).alloc (.cells #[.int .i64 t, .int .i64 b] 59)) = W0 at k0 k1 k2 k3 k4 k5 k6 ⊢
  have hst := cells_stops F (9 - 1) hF hro (by omega) (w.heap.size + 1 + 1 + 1) (w.heap.size + 1 + 1 + 1 + 1) w.heap.size t b s W0 k3 k4 (by omega) (hs.below k6 (Nat.le_refl _)) ht
  obtain ⟨i0, hi, hz0, hz1, hz2⟩ := info_parts info_int
  refine wpIn_rangeFunc_ownF hro (by omega) (gf := 102) (lb := #[.pointer (some ⟨w.heap.size + 1 + 1 + 1, 0, none⟩), .pointer (some ⟨w.heap.size + 1 + 1 + 1 + 1, 0, none⟩)]) rfl (hF _) (enters_of Try.func102 (by kernel_rfl) rfl)
    hst KpB.trans (KpB.putObj (by omega) (by omega)) (Below.refl _ _) (fun _ => rfl)
    (fun pre W => (∃ v, Blk W (w.heap.size + 1 + 1) 56 #[v] ∧ W.ownsRow w.heap.size 3 1 v ((pre.map (·.1)).filter fun c => covB s ((t : Int) - 1) c).length (((pre.map (·.1)).filter fun c => covB s ((t : Int) - 1) c).map iv')) ∧ PileB W w.heap.size s ∧ Blk W (w.heap.size + 1) 59 #[.int .i64 t, .int .i64 b] ∧ Blk W (w.heap.size + 1 + 1 + 1 + 1) 59 #[.int .i64 t, .int .i64 b] ∧ Below w.heap.size w W)
    (fun _ _ _ => False) ?hI (fun _ _ _ _ _ h _ _ => h) ⟨⟨_, k2, by simp, .inl ⟨rfl, rfl⟩⟩, k0, k1, k4, k6⟩
    (fun x => { tmps := #[.agg #[.int .i64 s.wd, .int .i64 s.hg, .slice s.A s.nt s.cap], .agg #[.int .i64 t, .int .i64 b], .pointer (some ⟨w.heap.size, 0, none⟩), .pointer (some ⟨w.heap.size + 1, 0, none⟩), .pointer (some ⟨w.heap.size + 1 + 1, 0, none⟩), .int .i64 x.1, .agg #[.int .i64 s.wd, .int .i64 s.hg, .slice s.A s.nt s.cap], .agg #[.int .i64 t, .int .i64 b], .func (.func 102) #[] #[.pointer (some ⟨w.heap.size + 1 + 1 + 1, 0, none⟩), .pointer (some ⟨w.heap.size + 1 + 1 + 1 + 1, 0, none⟩)], .int .i64 x.1, undef, undef, undef, undef, undef, undef, undef, undef, undef, undef, undef], defers := [] }) ?hassign ?hbody ?hdone ?hstop
  case hI =>
    rintro pre W W' row ⟨⟨v, h1, h2⟩, h3, h4, h5, h6⟩ hg hr
    have hr' := fun r e => (hr r e).2
    exact ⟨⟨v, h1.keptN hg hr', ownN h2 hg hr'⟩, h3.keptN hg hr', h4.keptN hg hr', h5.keptN hg hr', h6.trans ⟨hg.os, hg.tape, hg.output, hg.size, fun k hk => hg.block k (by have := h6.size; omega) (fun e => by have := (hr k e.symm).1; omega)⟩⟩
  case hassign =>
    intro l x W K hK
    gi_wp2
    exact hK
  case hbody =>
    rintro l pre x W ⟨⟨v, h1, h2⟩, h3, h4, h5, h6⟩ hlt
    obtain ⟨A, c, rfl⟩ := own_shape h2
    have c0 := Blk.cell h3 0
    have c1 := Blk.cell h3 1
    have c2 := Blk.cell h3 2
    simp at c0 c1 c2
    obtain ⟨d1, d2, d3, -, -⟩ := blk2 h4
    obtain ⟨e1, e2, e3⟩ := blk1 h1
    have z0 : w.heap.size < W.heap.size := Blk.lt h3
    have HC := hide (covered_any s ((t : Int) - 1) x.1 W ((hs.below h6 (Nat.le_refl _)).more h6.size) (fun k _ hkn => by rw [hc k hkn]; exact x.2))
    have P1 := hide h1
    have P2 := hide h2
    have P3 := hide h3
    have P4 := hide h4
    have P5 := hide h5
    have t1 : (t : Int) ≤ 1000000 := by have := hs.1; omega
    have t2 : (0 : Int) ≤ (t : Int) := by omega
    have HXL := hide x.2
    have HLT := hide hlt
    clear h1 h2 h3 h4 h5 hst k0 k1 k2 k3 k4 k5 k6 hlt
    rcases hcov : covB s ((t : Int) - 1) x.1 with _ | _
    · rw [hcov] at HC
      have HV := hide hcov
      clear hcov
      gi_wp2_with (gi_at_call 94; refine (CallsIn.inRound l (hwd HC.out)).mono ?_; rintro e w1 ⟨rfl, hb1⟩)
      refine ⟨keepsO hb1, ⟨hb1.mono h6.size, hb1.block _ P5.out.lt⟩, ⟨_, P1.out.ext hb1, ?_⟩, P3.out.ext hb1, P4.out.ext hb1, P5.out.ext hb1, h6.trans (hb1.mono h6.size)⟩
      rw [List.map_append, List.filter_append, List.map_cons, List.map_nil, List.filter_cons_of_neg (by simp [HV.out]), List.filter_nil, List.append_nil]
      exact ownBelow P2.out hb1
    · rw [hcov] at HC
      have HV := hide hcov
      clear hcov
      have hlen : ((pre.map (·.1)).filter fun c => covB s ((t : Int) - 1) c).length + 1 ≤ 1000000 := by
        have h1 := List.length_filter_le (fun c => covB s ((t : Int) - 1) c) (pre.map (·.1))
        have h2 := cellsTo_len (s.cf t) b (s.cn t)
        have h3 := (hs.2.2 t ht).1
        have h4 := HLT.out
        rw [List.length_map] at h1
        omega
      gi_wp2_with (first | (gi_at_call 94; refine (CallsIn.inRound l (hwd HC.out)).mono ?_; rintro e w1 ⟨rfl, hb1⟩; have P1' := hide (P1.out.ext hb1); obtain ⟨e1', e2', e3'⟩ := blk1 P1'.out; have hown1 := hide (ownBelow P2.out hb1); have hzw := hb1.size) | (gi_at_builtin; refine wpListIn_append_own _ rfl _ _ 56 rfl w.heap.size 3 i0 (.int .i64 0) 1 8 Try.underlying56 hi hz0 hz1 hz2 rfl (by decide) _ _ _ rfl (hown1.out.alloc _) ⟨w1.heap.size, 0, none⟩ 1 1 [.int .i64 x.1] rfl rfl (cell_one_new _ _ _) (by simp [Value.oneCell']) (by unfold maxLen; omega) (by omega) (by have := h6.size; simp; omega) ?_; intro v' w2 hown2 hgrow2 _; obtain ⟨A2, c2', rfl⟩ := own_shape hown2; obtain ⟨q1, q2, q3, q4, q5⟩ := Boxed.appended P1'.out (by decide) hown1.out (by have := h6.size; omega) (by omega) hown2 hgrow2; obtain ⟨e1'', e2'', e3''⟩ := blk1 (t := 56) q1))
      have hB1 := h6.trans (hb1.mono h6.size)
      have KB : ∀ g tt cs, tt ≠ 3 → g ≠ w.heap.size + 1 + 1 → Blk W g tt cs → Blk (w2.setCell ⟨w.heap.size + 1 + 1, 0, none⟩ (.slice A2 (((pre.map (·.1)).filter fun c => covB s ((t : Int) - 1) c).length + 1) c2')) g tt cs := fun g tt cs hne hg hb =>
        (((hb.ext hb1).alloc (.cells #[.int .i64 x.1] 3)).grown hgrow2 (fun e => own_blk_ne (hown1.out.alloc (.cells #[.int .i64 x.1] 3)) ((hb.ext hb1).alloc (.cells #[.int .i64 x.1] 3)) (Ne.symm hne) e.symm)).far (p := ⟨w.heap.size + 1 + 1, 0, none⟩) hg _
      refine ⟨(keepsO hb1).trans q4, ⟨(hb1.mono h6.size).trans q5, (KB _ _ _ (by decide) (by omega) P5.out).trans P5.out.symm⟩, ⟨_, q2, ?_⟩, KB _ _ _ (by decide) (by omega) P3.out, KB _ _ _ (by decide) (by omega) P4.out, KB _ _ _ (by decide) (by omega) P5.out, hB1.trans q5⟩
      rw [List.map_append, List.filter_append, List.map_cons, List.map_nil, List.filter_cons_of_pos (by simp [HV.out]), List.filter_nil, List.map_append, List.length_append]
      exact q3
  case hdone =>
    rintro D xs W hD hxs ⟨⟨v, h1, h2⟩, h3, h4, h5, h6⟩ hK
    rw [hxs] at h2
    obtain ⟨A, c, rfl⟩ := own_shape h2
    have P2 := hide h2
    obtain ⟨e1, e2, e3⟩ := blk1 h1
    have P1 := hide h1
    clear h1 h2 hst k0 k1 k2 k3 k4 k6 h3 h4 h5 hxs
    gi_wp2_with fail
    have hK' := (KeepsOthers.setCell W ⟨w.heap.size + 1 + 1, 0, none⟩ (.slice A ((cellsTo (s.cf t) b (s.cn t)).filter fun c => covB s ((t : Int) - 1) c).length c)).same D _ hK rfl
    refine ⟨by simp, .inl ⟨_, _, rfl, run_takeDeferred hK', ?_⟩⟩
    have hgp := grownBy_putObj' (W.setCell ⟨w.heap.size + 1 + 1, 0, none⟩ (.slice A ((cellsTo (s.cf t) b (s.cn t)).filter fun c => covB s ((t : Int) - 1) c).length c)) D (.deferred none)
    have hP : Blk (W.setCell ⟨w.heap.size + 1 + 1, 0, none⟩ (.slice A ((cellsTo (s.cf t) b (s.cn t)).filter fun c => covB s ((t : Int) - 1) c).length c)) (w.heap.size + 1 + 1) 56 #[.slice A ((cellsTo (s.cf t) b (s.cn t)).filter fun c => covB s ((t : Int) - 1) c).length c] := by simpa using P1.out.set_ 0 (.slice A ((cellsTo (s.cf t) b (s.cn t)).filter fun c => covB s ((t : Int) - 1) c).length c)
    obtain ⟨f1, f2, f3⟩ := blk1 (hP.keptN hgp (fun r e => by cases e; exact ⟨_, hK', rfl⟩))
    refine ⟨.slice A ((cellsTo (s.cf t) b (s.cn t)).filter fun c => covB s ((t : Int) - 1) c).length c, by simp [results, Try.results104, go_sem, f2], ?_⟩
    refine ⟨_, rfl, ownN (ownsRow_setCell_other P2.out (own_blk_ne P2.out P1.out (by decide)) _) hgp (fun r e => by cases e; exact ⟨_, hK', rfl⟩), (h6.setCell (by simp only []; omega) _).trans (belowK_b (w := w) (Nat.le_refl _) _ D _ _ (by omega) hK' rfl rfl)⟩
  case hstop =>
    rintro D c pre W hD hSp h hK
    exact h.elim
end Go.Proofs.Ytlhekifmkkgjlaa
