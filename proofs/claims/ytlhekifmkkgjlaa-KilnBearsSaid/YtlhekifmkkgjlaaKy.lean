/- Contracts of chapter 8 on stacks: the loads of a pile, walked. -/
import Derived.Test.YtlhekifmkkgjlaaKxa
import Derived.Deep.AppendLies
import Derived.Test.YtlhekifmkkgjlaaRound
set_option linter.unusedSimpArgs false
set_option linter.unusedVariables false
set_option linter.unnecessarySimpa false
namespace Go.Proofs.Ytlhekifmkkgjlaa
open Go Go.RowKit Go.Shelf
attribute [local go_sem] Oper.semAt_some
set_option maxHeartbeats 1000000
def LoadsPost (s : Stk) (m : Nat) (w : World) (e : Ending) (w' : World) : Prop :=
  ∃ v : Nat → Value, e = .returned (.tuple #[.slice (some ⟨w.heap.size + 3, 0, none⟩) s.nt s.nt, v s.nt, .bool (loadsF s m (backTo s.nt 0)).2]) ∧ Below w.heap.size w w' ∧
    Blk w' (w.heap.size + 3) 65 (rowV s.nt v) ∧ ∀ k, k ≤ s.nt → OwnL w' w.heap.size (v k) ((loadsF s m (backTo s.nt 0)).1 k)
theorem info_lds : (Try.prog.info? 65).map (fun i => (i.zero, i.size, i.bytes)) = some (some (.slice none 0 0), 1, 24) := by kernel_rfl
theorem rowV_made (n : Nat) : madeCells (Value.slice none 0 0).cells (n * 1) = rowV n (fun _ => .slice none 0 0) := by
  apply Array.ext_getElem?
  intro j
  simp only [rowV, madeCells, Array.getElem?_map, Array.getElem?_range, List.getElem?_toArray, List.getElem?_map, Nat.mul_one]
  by_cases hj : j < n
  · simp [hj, Value.cells, Nat.mod_one]
  · simp [hj]
set_option maxRecDepth 100000 in
theorem loads_any (s : Stk) (m : Nat) (w : World) (hs : StkR w w.heap.size s) (hst : stackB s = true) (hm : (m : Int) = s.wd * s.hg) (hh : ∀ t i, t < s.nt → i < s.wn t → hangP s t i = false) :
    Calls Try.prog 74 #[.agg #[.int .i64 s.wd, .int .i64 s.hg, .slice s.A s.nt s.cap]] w (LoadsPost s m w) := by
  refine (callsIn_wide (n := 20)).1 ?_
  obtain ⟨F, hFw⟩ : ∃ F : Fence, F = Fence.wide := ⟨_, rfl⟩
  rw [← hFw]
  have hF : ∀ f, F.fn f := by rw [hFw]; exact fun _ => trivial
  have hro : F.round = none := by rw [hFw]; rfl
  have hwd : ∀ {n f args w R}, Calls Try.prog f args w R → CallsIn F n Try.prog f args w R := by rw [hFw]; exact fun h => callsIn_wide.2 h
  have HF := hide hFw
  clear hFw
  rw [stackB_iff] at hst
  obtain ⟨⟨hd1, hd2⟩, hn10, htier⟩ := hst
  have hmb := mul_bd (a := s.wd) (b := s.hg) (M := 12) (N := 12) (by omega) (by omega) (by omega) (by omega)
  have hm0 : 0 < s.wd * s.hg := Int.mul_pos (by omega) (by omega)
  rw [← hm] at hmb hm0
  have hm1 : 1 ≤ m ∧ m ≤ 144 := by omega
  have hw0 : IntKind.i64.wrap (m : Int) = m := IntWalk.i64_in _ (by omega)
  obtain ⟨i0, hi, hz0, hz1, hz2⟩ := info_parts info_lds
  have gl := run_make_rowN (P := Try.prog) 64 65 i0 _ Try.underlying64 hi hz0 .i64 .i64 s.nt s.nt (Nat.le_refl _) (by rw [hz2]; omega) (by omega) (((w.alloc (.cells #[.int .i64 s.wd, .int .i64 s.hg, .slice s.A s.nt s.cap] 131)).alloc (.cells #[.slice none 0 0] 64)).alloc (.cells #[.bool false] 176))
  rw [hz1, rowV_made] at gl
  simp only [World.size_alloc] at gl
  clear hi hz0 hz1 hz2
  have HT := hide htier
  have HH := hide hh
  have HM := hide hm
  clear htier hh
  have hmm : s.wd * s.hg = (m : Int) := hm.symm
  clear hm
  refine callsIn_of_wp_marks Try.func74 rfl (hF _) ?_ hro
  simp only [Try.ntmps74, List.size_toArray, List.length_cons, List.length_nil, Nat.reduceAdd, Nat.reduceSub, Array.replicate_succ, Array.replicate_zero, List.push_toArray, List.append_toArray, List.nil_append, List.cons_append]
  gi_wp2_with fail
  have k0 : PileB ((((w.alloc (.cells #[.int .i64 s.wd, .int .i64 s.hg, .slice s.A s.nt s.cap] 131)).alloc (.cells #[.slice (some ⟨w.heap.size + 1 + 1 + 1, 0, none⟩) s.nt s.nt] 64)).alloc (.cells #[.bool false] 176)).alloc (.cells (rowV s.nt (fun _ => .slice none 0 0)) 65)) w.heap.size s := (((Blk.new w _ _).alloc _).alloc _).alloc _
  have k1 : Blk ((((w.alloc (.cells #[.int .i64 s.wd, .int .i64 s.hg, .slice s.A s.nt s.cap] 131)).alloc (.cells #[.slice (some ⟨w.heap.size + 1 + 1 + 1, 0, none⟩) s.nt s.nt] 64)).alloc (.cells #[.bool false] 176)).alloc (.cells (rowV s.nt (fun _ => .slice none 0 0)) 65)) (w.heap.size + 1) 64 #[.slice (some ⟨w.heap.size + 3, 0, none⟩) s.nt s.nt] := by simpa using ((Blk.new (w.alloc (.cells #[.int .i64 s.wd, .int .i64 s.hg, .slice s.A s.nt s.cap] 131)) 64 #[.slice (some ⟨w.heap.size + 1 + 1 + 1, 0, none⟩) s.nt s.nt]).alloc (.cells #[.bool false] 176)).alloc (.cells (rowV s.nt (fun _ => .slice none 0 0)) 65)
  have k2 : Blk ((((w.alloc (.cells #[.int .i64 s.wd, .int .i64 s.hg, .slice s.A s.nt s.cap] 131)).alloc (.cells #[.slice (some ⟨w.heap.size + 1 + 1 + 1, 0, none⟩) s.nt s.nt] 64)).alloc (.cells #[.bool false] 176)).alloc (.cells (rowV s.nt (fun _ => .slice none 0 0)) 65)) (w.heap.size + 1 + 1) 176 #[.bool (!true)] := by simpa using (Blk.new ((w.alloc (.cells #[.int .i64 s.wd, .int .i64 s.hg, .slice s.A s.nt s.cap] 131)).alloc (.cells #[.slice (some ⟨w.heap.size + 1 + 1 + 1, 0, none⟩) s.nt s.nt] 64)) 176 #[.bool false]).alloc (.cells (rowV s.nt (fun _ => .slice none 0 0)) 65)
  have k3 : Blk ((((w.alloc (.cells #[.int .i64 s.wd, .int .i64 s.hg, .slice s.A s.nt s.cap] 131)).alloc (.cells #[.slice (some ⟨w.heap.size + 1 + 1 + 1, 0, none⟩) s.nt s.nt] 64)).alloc (.cells #[.bool false] 176)).alloc (.cells (rowV s.nt (fun _ => .slice none 0 0)) 65)) (w.heap.size + 3) 65 (rowV s.nt (fun _ => .slice none 0 0)) := by simpa using Blk.new (((w.alloc (.cells #[.int .i64 s.wd, .int .i64 s.hg, .slice s.A s.nt s.cap] 131)).alloc (.cells #[.slice (some ⟨w.heap.size + 1 + 1 + 1, 0, none⟩) s.nt s.nt] 64)).alloc (.cells #[.bool false] 176)) 65 (rowV s.nt (fun _ => .slice none 0 0))
  have k5 : ((((w.alloc (.cells #[.int .i64 s.wd, .int .i64 s.hg, .slice s.A s.nt s.cap] 131)).alloc (.cells #[.slice (some ⟨w.heap.size + 1 + 1 + 1, 0, none⟩) s.nt s.nt] 64)).alloc (.cells #[.bool false] 176)).alloc (.cells (rowV s.nt (fun _ => .slice none 0 0)) 65)).heap.size = w.heap.size + 4 := by simp
  have k6 : Below w.heap.size w ((((w.alloc (.cells #[.int .i64 s.wd, .int .i64 s.hg, .slice s.A s.nt s.cap] 131)).alloc (.cells #[.slice (some ⟨w.heap.size + 1 + 1 + 1, 0, none⟩) s.nt s.nt] 64)).alloc (.cells #[.bool false] 176)).alloc (.cells (rowV s.nt (fun _ => .slice none 0 0)) 65)) := ((((Below.refl _ _).alloc (Nat.le_refl _) _).alloc (by simp) _).alloc (by simp only [World.size_alloc]; omega) _).alloc (by simp only [World.size_alloc]; omega) _
  clear gl
  generalize ((((w.alloc (.cells #[.int .i64 s.wd, .int .i64 s.hg, .slice s.A s.nt s.cap] 131)).alloc (.cells #[.slice (some ⟨w.heap.size + 1 + 1 + 1, 0, none⟩) s.nt s.nt] 64)).alloc (.cells #[.bool false] 176)).alloc (.cells (rowV s.nt (fun _ => .slice none 0 0)) 65)) = W0 at k0 k1 k2 k3 k5 k6 ⊢
  refine (hwd (nothing_any m _ (by omega) hm1.1)).mono ?_
  rintro e w1 ⟨v1, rfl, hown1, hb1⟩
  obtain ⟨A1, c1, rfl⟩ := own_shape hown1
  have HO1 := hide (own_zero hown1)
  obtain ⟨x0, x1, x2, x3, -, -, -⟩ := blk3 (Blk.ext k0 hb1)
  have z1 := hb1.size
  clear hown1
  gi_wp2_with ((gi_at_call 106; refine (hwd (back_any _ _ _ _)).mono ?_; rintro e w2 ⟨rfl, rfl⟩))
  have hz1 : w.heap.size + 4 ≤ w1.heap.size := by omega
  have l0 := LI.start (m := m) (x := .slice A1 m c1) (b6 := w1.heap.size) (qb := w1.heap.size + 1) (W1 := w1) (W2 := (w1.alloc (.cells #[.slice A1 m c1] 65)).alloc (.cells #[.slice s.A s.nt s.cap] 53))
    (((k6.trans (hb1.mono (by omega))).alloc (by omega) _).alloc (by simp only [World.size_alloc]; omega) _) (((Blk.ext k0 hb1).alloc _).alloc _) (((k1.ext hb1).alloc _).alloc _) (((k2.ext hb1).alloc _).alloc _) (((k3.ext hb1).alloc _).alloc _)
    ((Blk.new w1 _ _).alloc _) (by simpa using Blk.new (w1.alloc (.cells #[.slice A1 m c1] 65)) 53 #[.slice s.A s.nt s.cap]) ((World.ownsRow.alloc (World.ownsRow.alloc (ownMono HO1.out (by omega)) _) _)) ⟨by omega, by omega⟩
  have hW0 : ((w1.alloc (.cells #[.slice A1 m c1] 65)).alloc (.cells #[.slice s.A s.nt s.cap] 53)).heap.size = w1.heap.size + 2 := by simp
  generalize (w1.alloc (.cells #[.slice A1 m c1] 65)).alloc (.cells #[.slice s.A s.nt s.cap] 53) = W2 at l0 hW0 ⊢
  have hst := back_stops F (20 - 1) hF hro (by omega) (w1.heap.size + 1) w.heap.size s W2 l0.qbx (by omega) (hs.below l0.below (Nat.le_refl _))
  clear k0 k1 k2 k3 k5 k6 x0 x1 x2 x3 hb1
  refine wpIn_rangeFunc_ownH hro (by omega) (gf := 116) (lb := #[.pointer (some ⟨w1.heap.size + 1, 0, none⟩)]) rfl (hF _) (enters_of Try.func116 (by kernel_rfl) rfl)
    hst KpB.trans (KpB.putObj (by omega) (by omega)) (Below.refl _ _) (fun _ => rfl)
    (fun pre W => ∃ v, LI w W w.heap.size w1.heap.size (w1.heap.size + 1) s (s.nt + 1) v (loadsF s m (pre.map (·.1))).1 (loadsF s m (pre.map (·.1))).2 v (v s.nt))
    (fun _ _ _ => False) ?hI (fun _ _ _ _ _ h _ _ => h) ⟨_, l0⟩
    (fun x a' W => ∃ b, W2.heap.size ≤ b ∧ Blk W b 72 #[s.u x.1, s.v x.1] ∧ a' = { tmps := #[.agg #[.int .i64 s.wd, .int .i64 s.hg, .slice s.A s.nt s.cap], .pointer (some ⟨w.heap.size, 0, none⟩), .pointer (some ⟨w.heap.size + 1, 0, none⟩), .slice none 0 0, .bool false, .pointer (some ⟨w.heap.size + 1 + 1, 0, none⟩), .pointer (some ⟨w1.heap.size, 0, none⟩), .int .i64 x.1, .pointer (some ⟨b, 0, none⟩), undef, undef, undef, undef, undef, undef, undef, undef, undef, undef, undef, .pointer (some ⟨w.heap.size, 0, none⟩), .pointer (some ⟨w.heap.size, 2, none⟩), .slice s.A s.nt s.cap, .int .i64 s.nt, .slice (some ⟨w.heap.size + 1 + 1 + 1, 0, none⟩) s.nt s.nt, .pointer (some ⟨w.heap.size, 0, none⟩), .pointer (some ⟨w.heap.size, 0, none⟩), .int .i64 s.wd, .pointer (some ⟨w.heap.size, 0, none⟩), .pointer (some ⟨w.heap.size, 1, none⟩), .int .i64 s.hg, .int .i64 m, .slice A1 m c1, .pointer (some ⟨w.heap.size, 0, none⟩), .pointer (some ⟨w.heap.size, 2, none⟩), .slice s.A s.nt s.cap, .func (.func 116) #[] #[.pointer (some ⟨w1.heap.size + 1, 0, none⟩)], .int .i64 x.1, .agg #[s.u x.1, s.v x.1], undef, undef, undef, undef, undef, undef, undef, undef, undef, undef, undef, undef, undef, undef, undef, undef, undef, undef, undef, undef, undef, undef, undef, undef, undef, undef, undef, undef, undef, undef, undef, undef, undef, undef, undef, undef, undef, undef, undef, undef, undef, undef, undef, undef, undef, undef, undef, undef, undef, undef, undef, undef, undef, undef, undef, undef, undef, undef, undef, undef, undef, undef, undef, undef, undef, undef, undef, undef], defers := [] })
    ?hAx ?hassign ?hbody ?hdone ?hstop
  case hI =>
    rintro pre W W' row ⟨v, h⟩ hg hr
    exact ⟨v, h.keptN hg (fun g e => ⟨by have := (hr g e).1; omega, (hr g e).2⟩)⟩
  case hAx =>
    rintro x a' _ W W' row ⟨b, h1, h2, h3⟩ hg hr
    exact ⟨b, h1, h2.keptN hg (fun r e => (hr r e).2), h3⟩
  case hassign =>
    rintro l pre x W K ⟨v, h⟩ hK
    have z0 := h.qbx.lt
    have hb := (Below.refl W.heap.size W).alloc (Nat.le_refl _) (.cells #[s.u x.1, s.v x.1] 72)
    have HK := hK { tmps := #[.agg #[.int .i64 s.wd, .int .i64 s.hg, .slice s.A s.nt s.cap], .pointer (some ⟨w.heap.size, 0, none⟩), .pointer (some ⟨w.heap.size + 1, 0, none⟩), .slice none 0 0, .bool false, .pointer (some ⟨w.heap.size + 1 + 1, 0, none⟩), .pointer (some ⟨w1.heap.size, 0, none⟩), .int .i64 x.1, .pointer (some ⟨W.heap.size, 0, none⟩), undef, undef, undef, undef, undef, undef, undef, undef, undef, undef, undef, .pointer (some ⟨w.heap.size, 0, none⟩), .pointer (some ⟨w.heap.size, 2, none⟩), .slice s.A s.nt s.cap, .int .i64 s.nt, .slice (some ⟨w.heap.size + 1 + 1 + 1, 0, none⟩) s.nt s.nt, .pointer (some ⟨w.heap.size, 0, none⟩), .pointer (some ⟨w.heap.size, 0, none⟩), .int .i64 s.wd, .pointer (some ⟨w.heap.size, 0, none⟩), .pointer (some ⟨w.heap.size, 1, none⟩), .int .i64 s.hg, .int .i64 m, .slice A1 m c1, .pointer (some ⟨w.heap.size, 0, none⟩), .pointer (some ⟨w.heap.size, 2, none⟩), .slice s.A s.nt s.cap, .func (.func 116) #[] #[.pointer (some ⟨w1.heap.size + 1, 0, none⟩)], .int .i64 x.1, .agg #[s.u x.1, s.v x.1], undef, undef, undef, undef, undef, undef, undef, undef, undef, undef, undef, undef, undef, undef, undef, undef, undef, undef, undef, undef, undef, undef, undef, undef, undef, undef, undef, undef, undef, undef, undef, undef, undef, undef, undef, undef, undef, undef, undef, undef, undef, undef, undef, undef, undef, undef, undef, undef, undef, undef, undef, undef, undef, undef, undef, undef, undef, undef, undef, undef, undef, undef, undef, undef, undef, undef, undef, undef], defers := [] } _ ((keepsO hb).from _) (h.kp (h.ext hb) hb.size) ⟨v, h.ext hb⟩ ⟨W.heap.size, by omega, Blk.new _ _ _, rfl⟩
    clear hK h hb
    unfold Stk.u Stk.v at HK ⊢
    gi_wp2
    exact HK
  case hbody =>
    rintro l pre x a' W hl ⟨rl, hlr⟩ ⟨v, h⟩ ⟨b, hb4, hb, rfl⟩ hpl
    obtain ⟨t, htn⟩ := x
    have hLn := loadsF_len s m (pre.map (·.1))
    have hLb := loadsF_bound s m 144 hm1.2 _ (pre.map (·.1)) rfl (fun t' ht' => by
      obtain ⟨y, -, rfl⟩ := List.mem_map.1 ht'
      have h1 := HT.out y.1 y.2
      simp only [tierB, Bool.and_eq_true, decide_eq_true_eq] at h1
      have h2 := h1.1
      have h3 := h1.2.1
      rw [← HM.out] at h2
      omega)
    rw [List.length_map] at hLb
    have hpl2 : pre.length ≤ 10 := by omega
    have hLb2 : ∀ j, ((loadsF s m (pre.map (·.1))).1 j).length ≤ 1584 := fun j => Nat.le_trans (hLb j) (by omega)
    clear hLb hpl
    have hgoal : ∀ W' v', LI w W' w.heap.size w1.heap.size (w1.heap.size + 1) s (s.nt + 1) v' (tierSt s m (loadsF s m (pre.map (·.1))) t).1 (tierSt s m (loadsF s m (pre.map (·.1))) t).2 v' (v' s.nt) → KeepsFrom W2.heap.size W W' → KeepsFrom W2.heap.size W W' ∧ KpB w.heap.size (w1.heap.size + 1) W W' ∧ ∃ v, LI w W' w.heap.size w1.heap.size (w1.heap.size + 1) s (s.nt + 1) v (loadsF s m ((pre ++ [(⟨t, htn⟩ : Tie s)]).map (·.1))).1 (loadsF s m ((pre ++ [(⟨t, htn⟩ : Tie s)]).map (·.1))).2 v (v s.nt) := by
      intro W' v' h' hk
      refine ⟨hk, h.kp h' hk.size, v', ?_⟩
      rw [List.map_append, List.map_cons, List.map_nil, loadsF_append]
      exact h'
    rw [hW0] at hgoal hl hb4
    have HG := hide hgoal
    clear hgoal
    generalize loadsF s m (pre.map (·.1)) = LL at h hLn HG hLb2
    obtain ⟨L, ok⟩ := LL
    dsimp only at h hLn hLb2
    have HLB := hide (hLb2 t)
    clear hLb2
    obtain ⟨mc, mw, hIc, hIw⟩ := hs.2.2 t htn
    have hti := HT.out t htn
    simp only [tierB, Bool.and_eq_true, decide_eq_true_eq, wiB_iff] at hti
    obtain ⟨tc, tw, twf, tcf, -⟩ := hti
    rw [← HM.out] at tc tw
    have HCN : Hid (∀ j, j < s.nt → s.cn j = s.cn t) := fun j hj => by
      have h1 := HT.out j hj
      simp only [tierB, Bool.and_eq_true, decide_eq_true_eq] at h1
      have h2 := h1.1
      rw [← HM.out] at h2
      omega
    have HRL : Hid (∀ i, i < s.wn t → 0 < (restL s t i).length) := fun i hi => by
      have h1 := HH.out t i htn hi
      simp only [hangP, decide_eq_false_iff_not] at h1
      omega
    have tc' : s.cn t = m := by omega
    have tw' : s.wn t ≤ m := by omega
    have HWF := hide twf
    have HCF := hide tcf
    have HIW := hide hIw
    have HSS := hide hs
    obtain ⟨Ao, co, hvo⟩ := (h.own s.nt (by omega)).shape
    rw [hLn] at hvo
    obtain ⟨y0, y1, y2⟩ := blk1 h.onb
    rw [hvo] at y1
    replace hb : Blk W b 72 #[.slice (s.ca t) (s.cn t) (s.cc t), .slice (s.wa t) (s.wn t) (s.wc t)] := hb
    obtain ⟨d0, d1, d2, -, -⟩ := blk2 hb
    have HV := hide hvo
    have P := hide h
    have PB := hide hb
    have HLR := hide hlr
    have zW := h.qbx.lt
    clear tc tw twf tcf hIw hIc hvo h hb hlr hst l0 HT HH hs HO1 HF
    unfold Stk.u Stk.v
    dsimp only
    gi_wp2_with (gi_at_call 105; refine (CallsIn.inRound l (hwd (nothing_any m _ (by omega) hm1.1))).mono ?_; rintro e w3 ⟨v3, rfl, hown3, hb3⟩; obtain ⟨A3, c3, rfl⟩ := own_shape hown3; have HO3 := hide (own_zero hown3); obtain ⟨g0, g1, g2, -, -⟩ := blk2 (PB.out.ext hb3); clear hown3)
    have l3 : LI w w3 w.heap.size w1.heap.size (w1.heap.size + 1) s (s.nt + 2) (upd v (s.nt + 1) (.slice A3 m c3)) (upd (upd L t (tierR s m t (L s.nt) (L t) ok 0).2.1) (s.nt + 1) (tierR s m t (L s.nt) (L t) ok 0).1) (tierR s m t (L s.nt) (L t) ok 0).2.2 (upd v (s.nt + 1) (.slice A3 m c3)) (upd v (s.nt + 1) (.slice A3 m c3) s.nt) := by
      have h1 := P.out.more hb3 HO3.out (fun y hy => by rw [(List.mem_replicate.1 hy).2]; exact LdOk_zero)
      rw [upd_ne (t := s.nt + 1) (k := s.nt) _ _ (by omega)]
      refine h1.congr (fun k _ => ?_) (fun k hk => (upd_ne _ _ (by omega)).symm)
      show _ = upd (upd L t (L t)) (s.nt + 1) (List.replicate m (0, 1)) k
      rw [upd_self]
    have K3 := hide ((keepsO hb3).from (w1.heap.size + 2))
    have L3 := hide l3
    clear hb3 l3 PB HO3
    generalize hWA : s.wa t = WA at HIW ⊢
    clear hWA
    gi_loopw [45] (fun i wr => ∃ (k : Nat) (v' : Nat → Value), k ≤ s.wn t ∧ i = .int .i64 k ∧ Hid (LI w wr w.heap.size w1.heap.size (w1.heap.size + 1) s (s.nt + 2) v' (upd (upd L t (tierR s m t (L s.nt) (L t) ok k).2.1) (s.nt + 1) (tierR s m t (L s.nt) (L t) ok k).1) (tierR s m t (L s.nt) (L t) ok k).2.2 v' (v' s.nt)) ∧ Hid (v' (s.nt + 1) = .slice A3 m c3) ∧ Hid (KeepsFrom (w1.heap.size + 2) W wr)) (fun i _ => s.wn t - (intOf i).toNat)
    case atStart => exact ⟨0, _, Nat.zero_le _, rfl, L3, hide (upd_same _ _ _), K3⟩
    case round =>
      obtain ⟨k, v', hk, rfl, HL, HV3, HK⟩ := hrel
      clear L3 K3 P HV y0 y1 y2 d0 d1 d2 g0 g1 g2
      by_cases hlt : k < s.wn t
      · have i1 : (0 : Int) ≤ (k : Int) := by omega
        have i2 : (k : Int) < (s.wn t : Int) := by omega
        obtain ⟨wb, woff, rfl, hwb, hwc⟩ := (HIW.out.below HL.out.below (Nat.le_refl _)).at_ hlt
        obtain ⟨wN, hwN⟩ : ∃ wN : Nat, s.wf t k = wN := Int.eq_ofNat_of_zero_le (HWF.out k hlt).1
        rw [hwN] at hwc
        have HWN := hide hwN
        obtain ⟨x0, x1, x2, x3, -, -, -⟩ := blk3 HL.out.pile
        clear hwN
        gi_wp2_with (gi_at_call 69; refine (CallsIn.inRound l (hwd (cells_any s t k _))).mono ?_; rintro e w4 ⟨rfl, rfl⟩)
        have z9 := HL.out.qbx.lt
        have hb9 : Below wr.heap.size wr ((((wr.alloc (.cells #[.int .i64 t, .int .i64 k] 59)).alloc (.cells #[.int .i64 0, .int .i64 1] 76)).alloc (.cells #[.int .i64 s.wd, .int .i64 s.hg, .slice s.A s.nt s.cap] 131)).alloc (.cells #[.int .i64 t, .int .i64 k] 59)) := ((((Below.refl _ _).alloc (Nat.le_refl _) _).alloc (by simp) _).alloc (by simp only [World.size_alloc]; omega) _).alloc (by simp only [World.size_alloc]; omega) _
        have l4 := HL.out.ext hb9
        have k4 := HK.out.trans ((keepsO hb9).from _)
        have b12 : Blk ((((wr.alloc (.cells #[.int .i64 t, .int .i64 k] 59)).alloc (.cells #[.int .i64 0, .int .i64 1] 76)).alloc (.cells #[.int .i64 s.wd, .int .i64 s.hg, .slice s.A s.nt s.cap] 131)).alloc (.cells #[.int .i64 t, .int .i64 k] 59)) wr.heap.size 59 #[.int .i64 t, .int .i64 k] := (((Blk.new wr _ _).alloc _).alloc _).alloc _
        have b13 : Blk ((((wr.alloc (.cells #[.int .i64 t, .int .i64 k] 59)).alloc (.cells #[.int .i64 0, .int .i64 1] 76)).alloc (.cells #[.int .i64 s.wd, .int .i64 s.hg, .slice s.A s.nt s.cap] 131)).alloc (.cells #[.int .i64 t, .int .i64 k] 59)) (wr.heap.size + 1) 76 #[.int .i64 ((0, 1) : Nat × Nat).1, .int .i64 ((0, 1) : Nat × Nat).2] := by simpa using ((Blk.new (wr.alloc (.cells #[.int .i64 t, .int .i64 k] 59)) 76 #[.int .i64 0, .int .i64 1]).alloc (.cells #[.int .i64 s.wd, .int .i64 s.hg, .slice s.A s.nt s.cap] 131)).alloc (.cells #[.int .i64 t, .int .i64 k] 59)
        have b14 : PileB ((((wr.alloc (.cells #[.int .i64 t, .int .i64 k] 59)).alloc (.cells #[.int .i64 0, .int .i64 1] 76)).alloc (.cells #[.int .i64 s.wd, .int .i64 s.hg, .slice s.A s.nt s.cap] 131)).alloc (.cells #[.int .i64 t, .int .i64 k] 59)) (wr.heap.size + 1 + 1) s := by unfold PileB; simpa using (Blk.new ((wr.alloc (.cells #[.int .i64 t, .int .i64 k] 59)).alloc (.cells #[.int .i64 0, .int .i64 1] 76)) 131 #[.int .i64 s.wd, .int .i64 s.hg, .slice s.A s.nt s.cap]).alloc (.cells #[.int .i64 t, .int .i64 k] 59)
        have b15 : Blk ((((wr.alloc (.cells #[.int .i64 t, .int .i64 k] 59)).alloc (.cells #[.int .i64 0, .int .i64 1] 76)).alloc (.cells #[.int .i64 s.wd, .int .i64 s.hg, .slice s.A s.nt s.cap] 131)).alloc (.cells #[.int .i64 t, .int .i64 k] 59)) (wr.heap.size + 1 + 1 + 1) 59 #[.int .i64 t, .int .i64 k] := by simpa using Blk.new (((wr.alloc (.cells #[.int .i64 t, .int .i64 k] 59)).alloc (.cells #[.int .i64 0, .int .i64 1] 76)).alloc (.cells #[.int .i64 s.wd, .int .i64 s.hg, .slice s.A s.nt s.cap] 131)) 59 #[.int .i64 t, .int .i64 k]
        have hz4 : ((((wr.alloc (.cells #[.int .i64 t, .int .i64 k] 59)).alloc (.cells #[.int .i64 0, .int .i64 1] 76)).alloc (.cells #[.int .i64 s.wd, .int .i64 s.hg, .slice s.A s.nt s.cap] 131)).alloc (.cells #[.int .i64 t, .int .i64 k] 59)).heap.size = wr.heap.size + 4 := by simp
        have HFar := hide (HL.out.far (g := wr.heap.size + 1) (by omega))
        have e0 : upd (upd L t (tierR s m t (L s.nt) (L t) ok k).2.1) (s.nt + 1) (tierR s m t (L s.nt) (L t) ok k).1 s.nt = L s.nt := by rw [upd_ne _ _ (by omega), upd_ne _ _ (by omega)]
        have HOn : Hid ((∀ x ∈ L s.nt, LdOk x) ∧ ∀ {W : World} {okk : Bool}, LI w W w.heap.size w1.heap.size (w1.heap.size + 1) s (s.nt + 2) v' (upd (upd L t (tierR s m t (L s.nt) (L t) ok k).2.1) (s.nt + 1) (tierR s m t (L s.nt) (L t) ok k).1) okk v' (v' s.nt) → OwnL W w.heap.size (v' s.nt) (L s.nt)) :=
          ⟨fun x hx => HL.out.okl s.nt (by omega) x (by rw [e0]; exact hx), fun h => by have := h.own s.nt (by omega); rwa [e0] at this⟩
        clear e0
        have hlr4 : ∃ r0, ((((wr.alloc (.cells #[.int .i64 t, .int .i64 k] 59)).alloc (.cells #[.int .i64 0, .int .i64 1] 76)).alloc (.cells #[.int .i64 s.wd, .int .i64 s.hg, .slice s.A s.nt s.cap] 131)).alloc (.cells #[.int .i64 t, .int .i64 k] 59)).heap[l]? = some (.loop r0) := ⟨rl, k4.same _ _ hl HLR.out rfl⟩
        generalize ((((wr.alloc (.cells #[.int .i64 t, .int .i64 k] 59)).alloc (.cells #[.int .i64 0, .int .i64 1] 76)).alloc (.cells #[.int .i64 s.wd, .int .i64 s.hg, .slice s.A s.nt s.cap] 131)).alloc (.cells #[.int .i64 t, .int .i64 k] 59)) = W4 at l4 k4 b12 b13 b14 b15 hz4 hlr4 ⊢
        obtain ⟨rl4, hlr4⟩ := hlr4
        clear hb9 x0 x1 x2 x3
        have hst := SeqStopsK.inRound l (cells_stops F (20 - 1 - 1 - 1) hF hro (by omega) (wr.heap.size + 1 + 1) (wr.heap.size + 1 + 1 + 1) w.heap.size t k s W4 b14 b15 (by omega) (HSS.out.below l4.below (Nat.le_refl _)) htn)
        refine wpIn_rangeFunc_ownN rfl hlr4 (by omega) (gf := 102) (lb := #[.pointer (some ⟨wr.heap.size + 1 + 1, 0, none⟩), .pointer (some ⟨wr.heap.size + 1 + 1 + 1, 0, none⟩)]) rfl (hF _) (enters_of Try.func102 (by kernel_rfl) rfl)
          hst KpB.trans (KpB.putObj (by omega) (by omega)) (Below.refl _ _) (fun _ => rfl)
          (fun pre W => InI w W4 W w.heap.size w1.heap.size (w1.heap.size + 1) wr.heap.size (w1.heap.size + 2) s (s.nt + 2) v' (upd (upd L t (tierR s m t (L s.nt) (L t) ok k).2.1) (s.nt + 1) (tierR s m t (L s.nt) (L t) ok k).1) v' (v' s.nt) t k ((pre.map (·.1)).foldl (addSt (L s.nt)) ((0, 1), (tierR s m t (L s.nt) (L t) ok k).2.2)))
          (fun _ _ _ => False) ?hI2 (fun _ _ _ _ _ h _ _ => h) ⟨l4, b13, b12, b15, KeepsFrom.refl _ _, LdOk_zero⟩
          (fun x a' W => a' = { tmps := #[.agg #[.int .i64 s.wd, .int .i64 s.hg, .slice s.A s.nt s.cap], .pointer (some ⟨w.heap.size, 0, none⟩), .pointer (some ⟨w.heap.size + 1, 0, none⟩), .slice none 0 0, .bool false, .pointer (some ⟨w.heap.size + 1 + 1, 0, none⟩), .pointer (some ⟨w1.heap.size, 0, none⟩), .int .i64 t, .pointer (some ⟨b, 0, none⟩), .slice A3 m c3, .int .i64 k, .int .i64 wN, .pointer (some ⟨wr.heap.size, 0, none⟩), .pointer (some ⟨wr.heap.size + 1, 0, none⟩), .int .i64 x.1, u15, u16, u17, undef, u19, .pointer (some ⟨w.heap.size, 0, none⟩), .pointer (some ⟨w.heap.size, 2, none⟩), .slice s.A s.nt s.cap, .int .i64 s.nt, .slice (some ⟨w.heap.size + 1 + 1 + 1, 0, none⟩) s.nt s.nt, .pointer (some ⟨w.heap.size, 0, none⟩), .pointer (some ⟨w.heap.size, 0, none⟩), .int .i64 s.wd, .pointer (some ⟨w.heap.size, 0, none⟩), .pointer (some ⟨w.heap.size, 1, none⟩), .int .i64 s.hg, .int .i64 m, .slice A1 m c1, .pointer (some ⟨w.heap.size, 0, none⟩), .pointer (some ⟨w.heap.size, 2, none⟩), .slice s.A s.nt s.cap, .func (.func 116) #[] #[.pointer (some ⟨w1.heap.size + 1, 0, none⟩)], .int .i64 t, .agg #[.slice (s.ca t) m (s.cc t), .slice (some ⟨wb, woff, none⟩) (s.wn t) (s.wc t)], .slice Ao m co, .int .i64 m, .slice A3 m c3, .pointer (some ⟨b, 1, none⟩), .slice (some ⟨wb, woff, none⟩) (s.wn t) (s.wc t), .int .i64 (s.wn t), .int .i64 k, .bool true, .int .i64 k, .pointer (some ⟨wb, woff + k, none⟩), .int .i64 wN, .int .i64 t, .int .i64 k, .agg #[.int .i64 t, .int .i64 k], .agg #[.int .i64 0, .int .i64 1], .agg #[.int .i64 s.wd, .int .i64 s.hg, .slice s.A s.nt s.cap], .agg #[.int .i64 t, .int .i64 k], .func (.func 102) #[] #[.pointer (some ⟨wr.heap.size + 1 + 1, 0, none⟩), .pointer (some ⟨wr.heap.size + 1 + 1 + 1, 0, none⟩)], .int .i64 x.1, u58, u59, u60, u61, u62, u63, u64, u65, u66, u67, u68, u69, u70, u71, u72, u73, u74, u75, u76, u77, u78, u79, u80, u81, u82, u83, u84, u85, u86, u87, u88, u89, u90, u91, u92, u93, u94, u95, u96, u97, u98, u99, u100, undef, undef, undef, undef, undef, undef], defers := [] }) (fun _ _ _ _ _ _ h _ _ => h) ?hassign2 ?hbody2 ?hdone2 ?hstop2
        case hI2 =>
          rintro pre2 W' W'' row q hg hr
          exact q.keptN hg hr (by omega)
        case hassign2 =>
          rintro l2 pre2 x W' K hI hK
          gi_wp2
          exact hK _ _ (KeepsFrom.refl _ _) (KpB.refl _ _ _) hI rfl
        case hbody2 =>
          -- BEGIN1
          rintro l2 pre2 ⟨c, hc⟩ a2 W' - - q rfl -
          obtain ⟨st, hst2⟩ : ∃ st, (pre2.map (·.1)).foldl (addSt (L s.nt)) ((0, 1), (tierR s m t (L s.nt) (L t) ok k).2.2) = st := ⟨_, rfl⟩
          rw [hst2] at q
          have hcm : c < m := by omega
          obtain ⟨go, co, hvo, -, o0, o1, o2, -, -⟩ := (HOn.out.2 q.li).at_ (c := c) (by rw [hLn]; exact hcm)
          rw [hLn] at hvo
          obtain ⟨y0, y1, y2⟩ := blk1 q.li.onb
          rw [hvo] at y1
          obtain ⟨d0, d1, d2, d3, d4⟩ := blk2 q.box
          have j1 : (0 : Int) ≤ (c : Int) := by omega
          have j2 : (c : Int) < (m : Int) := by omega
          have HC := hide (add_any st.1 ((L s.nt).getD c (0, 1)) (w.heap.size + 1 + 1) _ W'.drew q.ldo (getD_ok HOn.out.1 c) q.li.sc.drew)
          have HS2 := hide (fun W5 hb => q.step (W5 := W5) HFar.out (by omega) HOn.out.1 c hb)
          have HQ := hide q
          have HST := hide hst2
          have e1 : (addSt (L s.nt) st c).1 = lowS (addN st.1 ((L s.nt).getD c (0, 1))) (addD st.1 ((L s.nt).getD c (0, 1))) := rfl
          rw [e1] at HS2
          have HE1 := hide e1
          clear e1
          generalize hY : (L s.nt).getD c (0, 1) = Y at o1 o2 HC HS2 HE1
          clear hY
          generalize lowS (addN st.1 Y) (addD st.1 Y) = X at HC HS2 HE1
          generalize hfit : fitP (lowP (addN st.1 Y) (addD st.1 Y)) = fit at HC HS2
          clear hfit
          unfold ldV at HC
          clear q hst2 hvo hst
          gi_wp2_with fail
          gi_region_with (gi_at_call 107; refine (CallsIn.inRound l2 (CallsIn.inRound l (hwd HC.out))).mono ?_; rintro e w5 ⟨rfl, hb5⟩; obtain ⟨f0, f1, f2, f3, f4⟩ := blk2 ((HQ.out.box.drew).off (by omega) hb5))
          all_goals (
            gi_wp2_with fail
            obtain ⟨r1, r2, r3⟩ := HS2.out _ hb5
            refine ⟨r1.from _, r2, ?_⟩
            dsimp only
            rw [List.map_append, List.foldl_append, HST.out]
            exact r3)
          -- END1
        case hdone2 =>
          rintro xs W5 hxs q
          rw [hxs] at q
          have hob : (cellsTo (s.cf t) k (s.cn t)).foldl (addSt (L s.nt)) ((0, 1), (tierR s m t (L s.nt) (L t) ok k).2.2) = onBrk s t k (L s.nt) (tierR s m t (L s.nt) (L t) ok k).2.2 := rfl
          rw [hob] at q
          clear hob hst hxs
          have HR := hide (rests_any s t k W5 ((HSS.out.below q.li.below (Nat.le_refl _)).more q.li.below.size) htn HCN.out)
          obtain ⟨x0, x1, x2, x3, -, -, -⟩ := blk3 q.li.pile
          obtain ⟨d0, d1, d2, -, -⟩ := blk2 q.brk
          have hwt : wtP s t k = (wN, 1) := by unfold wtP; rw [HWN.out]; rfl
          have hwo : LdOk (wN, 1) := by
            have h1 := (HWF.out k hlt).2
            rw [HWN.out] at h1
            exact ⟨by simp; omega, by simp, by simp⟩
          have hrl0 := HRL.out k hlt
          have hrl1 : (restL s t k).length ≤ 144 := by
            have h1 := List.length_filter_le (fun c => covB s ((t : Int) - 1) c) (cellsTo (s.cf t) k (s.cn t))
            have h2 := cellsTo_len (s.cf t) k (s.cn t)
            have h3 : (restL s t k).length = ((cellsTo (s.cf t) k (s.cn t)).filter fun c => covB s ((t : Int) - 1) c).length := rfl
            omega
          obtain ⟨R, hR⟩ : ∃ R, tierR s m t (L s.nt) (L t) ok k = R := ⟨_, rfl⟩
          have hRl : R.1.length = m := by rw [← hR]; exact tierR_len ..
          have hRc : R.2.1.length = (L t).length + k := by rw [← hR]; exact tierR_cnt ..
          obtain ⟨x, hx⟩ : ∃ x, onBrk s t k (L s.nt) R.2.2 = x := ⟨_, rfl⟩
          rw [hR, hx] at q
          have hnx : tierR s m t (L s.nt) (L t) ok (k + 1) = (layOn R.1 (restL s t k) (shBrk s t k (dnBrk s t k x.1)), R.2.1 ++ [x.1], (x.2 && dnOk s t k x.1) && shOk s t k (dnBrk s t k x.1)) := by
            rw [tierR_succ, hR, ← hx]; rfl
          unfold shBrk shOk at hnx
          unfold dnBrk dnOk at hnx
          rw [hwt] at hnx
          have HA1 := hide (fun W (hb : Below W5.heap.size W5 W) => add_any x.1 (wN, 1) (w.heap.size + 1 + 1) (!x.2) W q.ldo hwo (q.li.sc.ext hb))
          have hyo : LdOk (lowS (addN x.1 (wN, 1)) (addD x.1 (wN, 1))) := lowS_ok _ _ (Nat.mul_pos q.ldo.2.1 hwo.2.1)
          generalize hy : lowS (addN x.1 (wN, 1)) (addD x.1 (wN, 1)) = y at hnx HA1 hyo
          generalize hf1 : fitP (lowP (addN x.1 (wN, 1)) (addD x.1 (wN, 1))) = f1 at hnx HA1
          generalize hn : (restL s t k).length = n at hnx hrl0 hrl1 HR
          have hmul : y.2 * n ≤ 1000000000 * 144 := mulN_bd hyo.2.2 hrl1
          have hmul0 : 0 < y.2 * n := Nat.mul_pos hyo.2.1 hrl0
          have HA2 := hide (fun W (o : Bool) (hs : Blk W (w.heap.size + 1 + 1) 176 #[.bool o]) => lowest_any (y.1 : Int) ((y.2 : Int) * (n : Int)) y.1 (y.2 * n) (w.heap.size + 1 + 1) o W rfl (by simp) (by have := hyo.1; omega) (by omega) hmul0 hs)
          have hw2 : IntKind.i64.wrap ((y.2 : Int) * (n : Int)) = (y.2 : Int) * (n : Int) := IntWalk.i64_in _ (by
            have h1 : (y.2 : Int) * (n : Int) = ((y.2 * n : Nat) : Int) := by simp
            rw [h1]; omega)
          have HSH : Hid (LdOk (lowS y.1 (y.2 * n))) := lowS_ok _ _ hmul0
          generalize lowS y.1 (y.2 * n) = sh at hnx HA2 HSH
          generalize fitP (lowP y.1 (y.2 * n)) = f2 at hnx HA2
          have HQ := hide q
          have HXO := hide q.ldo
          have HNX := hide hnx
          clear q hnx hf1 hy hx hR hwt hwo hyo hmul hmul0
          unfold ldV at HA1 HA2
          gi_wp2_with (first | (gi_at_call 104; refine (CallsIn.inRound l (hwd HR.out)).mono ?_; rintro e w6 ⟨vr, rfl, hr6, hb6⟩; rw [hn] at hr6; obtain ⟨Ar, cr, rfl⟩ := own_shape hr6; have HR6 := hide hr6; obtain ⟨f0, f3, f4, -, -⟩ := blk2 (HQ.out.box.ext hb6); clear hr6) | (gi_at_call 107; refine (CallsIn.inRound l (hwd (HA1.out w6 hb6))).mono ?_; rintro e w7 ⟨rfl, hb7⟩; have L7 := hide ((HQ.out.li.ext hb6).scaled _ hb7)) | (gi_at_call 108; refine (CallsIn.inRound l (hwd (HA2.out _ _ (L7.out.sc.alloc _)))).mono ?_; rintro e w8 ⟨rfl, hb8⟩))
          have zq := HQ.out.qbk.lt
          have z6 := hb6.size
          have z7 := hb7.size
          rw [size_offW] at z7
          have z8 := hb8.size
          rw [size_offW, World.size_alloc] at z8
          have hob : ∀ j, j < s.nt + 2 → ∀ g, (v' j).ownBlock = some g → g < wr.heap.size := fun j hj g e => ((HL.out.own j hj).lt e).2
          have HOB := hide hob
          have L9 := hide (((L7.out.ext ((Below.refl w7.heap.size w7).alloc (Nat.le_refl _) (.cells #[.int .i64 y.1, .int .i64 y.2] 76))).scaled f2 hb8).ext ((Below.refl w8.heap.size w8).alloc (Nat.le_refl _) (.cells #[.int .i64 sh.1, .int .i64 sh.2] 76)))
          have B13 := hide ((((((HQ.out.box.ext hb6).off (by omega) hb7).alloc (.cells #[.int .i64 y.1, .int .i64 y.2] 76)).off (by omega) hb8).alloc (.cells #[.int .i64 sh.1, .int .i64 sh.2] 76)))
          have B17 := hide (Blk.new w8 76 #[.int .i64 sh.1, .int .i64 sh.2])
          have R9 := hide (((own_far ((own_far HR6.out (grown_off hb7) (by omega)).alloc (.cells #[.int .i64 y.1, .int .i64 y.2] 76)) (grown_off hb8) (by omega)).alloc (.cells #[.int .i64 sh.1, .int .i64 sh.2] 76)))
          have K9 := hide (k4.trans (HQ.out.kf.trans ((((((keepsO hb6).trans (keepsOff _ _ _ _ hb7)).trans (keepsO ((Below.refl w7.heap.size w7).alloc (Nat.le_refl _) (.cells #[.int .i64 y.1, .int .i64 y.2] 76)))).trans (keepsOff _ _ _ _ hb8)).trans (keepsO ((Below.refl w8.heap.size w8).alloc (Nat.le_refl _) (.cells #[.int .i64 sh.1, .int .i64 sh.2] 76)))).from _)))
          generalize hW9 : w8.alloc (.cells #[.int .i64 sh.1, .int .i64 sh.2] 76) = W9 at L9 B13 B17 R9 K9 ⊢
          clear hW9 hb6 hb7 hb8 hob f0 f3 f4 L7 HR6 HQ HA1 HA2 HR d0 d1 d2 x0 x1 x2 x3 l4 k4 b12 b13 b14 b15 HFar HOn HLR hlr4 hwc hwb
          obtain ⟨wo, rfl⟩ : ∃ wo : World, wo = wr := ⟨_, rfl⟩
          gi_loopw [81] (fun i wq => ∃ j : Nat, j ≤ n ∧ i = .int .i64 j ∧ Hid (LI w wq w.heap.size w1.heap.size (w1.heap.size + 1) s (s.nt + 2) v' (upd (upd L t R.2.1) (s.nt + 1) (layOn R.1 ((restL s t k).take j) sh)) ((x.2 && f1) && f2) v' (v' s.nt)) ∧ Hid (Blk wq (wo.heap.size + 1) 76 #[.int .i64 x.1.1, .int .i64 x.1.2]) ∧ Hid (Blk wq w8.heap.size 76 #[.int .i64 sh.1, .int .i64 sh.2]) ∧ Hid (wq.ownsRow W5.heap.size 3 1 (.slice Ar n cr) n ((restL s t k).map iv')) ∧ Hid (KeepsFrom (w1.heap.size + 2) W wq)) (fun i _ => n - (intOf i).toNat)
          case atStart => exact ⟨0, Nat.zero_le _, rfl, L9, B13, B17, R9, K9⟩
          case round =>
            obtain ⟨j, hj, rfl, LQ, Q13, Q17, RQ, KQ⟩ := hrel
            clear L9 B13 B17 R9 K9
            by_cases hjn : j < n
            · obtain ⟨br, u, hAr, hbr1, hbr2, hu, hcell⟩ := own_at RQ.out hjn
              obtain ⟨c, hc⟩ : ∃ c, (restL s t k)[j]? = some c := ⟨_, List.getElem?_eq_getElem (by rw [hn]; exact hjn)⟩
              rw [List.getElem?_map, hc] at hu
              have hue : u = .int .i64 c := by injection hu with hu; exact hu.symm
              subst hue
              have hcm : c < m := by have := restL_lt (List.mem_of_getElem? hc); omega
              have hown := LQ.out.own (s.nt + 1) (by omega)
              rw [upd_same] at hown
              obtain ⟨g3, cap3, hv3, ho3, hg3, e0, e1, fz0, fz1⟩ := hown.at_ (c := c) (by rw [layOn_len, hRl]; exact hcm)
              have hv3' := hv3
              rw [HV3.out, layOn_len, hRl] at hv3'
              injection hv3' with hA3 _ hc3
              subst hA3 hAr hc3
              obtain ⟨q0, q1, q2, -, -⟩ := blk2 Q17.out
              have j0 : (0 : Int) ≤ (c : Int) := by omega
              have j1 : (c : Int) < (m : Int) := by omega
              have j2 : (0 : Int) ≤ (j : Int) := by omega
              have j3 : (j : Int) < (n : Int) := by omega
              have g3lt := HOB.out _ (by omega) _ ho3
              have P1 : Hid (LI w ((wr.setCell ⟨g3, c * 2, none⟩ (.int .i64 sh.1)).setCell ⟨g3, c * 2 + 1, none⟩ (.int .i64 sh.2)) w.heap.size w1.heap.size (w1.heap.size + 1) s (s.nt + 2) v' (upd (upd L t R.2.1) (s.nt + 1) (layOn R.1 ((restL s t k).take (j + 1)) sh)) ((x.2 && f1) && f2) v' (v' s.nt)) := by
                rw [hv3, layOn_len] at hown
                have h1 := LI.turn LQ.out (k0 := s.nt + 1) (by omega) (by rw [ho3]; exact grown_set2 wr g3 (c * 2) (c * 2 + 1) (.int .i64 sh.1) (.int .i64 sh.2)) (x := v' (s.nt + 1)) (l := (layOn R.1 ((restL s t k).take j) sh).set c sh)
                  (by
                    rw [hv3, layOn_len]
                    have := OwnL.set (l := layOn R.1 ((restL s t k).take j) sh) (by rw [layOn_len]; exact hown) sh (by rw [layOn_len, hRl]; exact hcm)
                    rw [layOn_len] at this
                    exact this) (fun g e => .inl e) (fun y hy => by
                    have hok := LQ.out.okl (s.nt + 1) (by omega)
                    rw [upd_same] at hok
                    exact (List.mem_or_eq_of_mem_set hy).elim (hok y) (fun h => h ▸ HSH.out))
                rw [upd_self, upd_upd, ← layOn_take hc] at h1
                exact h1
              have P2 := hide ((Q13.out.far (p := ⟨g3, c * 2, none⟩) (by simp only []; omega) (.int .i64 sh.1)).far (p := ⟨g3, c * 2 + 1, none⟩) (by simp only []; omega) (.int .i64 sh.2))
              have P3 := hide ((Q17.out.far (p := ⟨g3, c * 2, none⟩) (by simp only []; omega) (.int .i64 sh.1)).far (p := ⟨g3, c * 2 + 1, none⟩) (by simp only []; omega) (.int .i64 sh.2))
              have P4 := hide (own_far RQ.out (grown_set2 wr g3 (c * 2) (c * 2 + 1) (.int .i64 sh.1) (.int .i64 sh.2)) (by omega))
              have P5 := hide (KQ.out.trans (((KeepsOthers.setCell wr ⟨g3, c * 2, none⟩ (.int .i64 sh.1)).trans (KeepsOthers.setCell _ ⟨g3, c * 2 + 1, none⟩ (.int .i64 sh.2))).from _))
              clear LQ Q13 Q17 RQ KQ hv3 ho3 hown hu hc
              gi_wp2_with fail
              go_roundw
              case rel => exact ⟨j + 1, by omega, by go_num, P1, P2, P3, P4, P5⟩
              case measure => simp [intOf]; omega
            · obtain rfl : j = n := by omega
              have i9 : ¬ (j : Int) < (j : Int) := by omega
              rw [List.take_of_length_le (by rw [hn]; exact Nat.le_refl _)] at LQ
              gi_wp2_with fail
              have hmix : Try.prog.follows .mixedOrders = true := by kernel_rfl
              have hU : upd (upd L t R.2.1) (s.nt + 1) (layOn R.1 (restL s t k) sh) t = R.2.1 := by rw [upd_ne _ _ (by omega), upd_same]
              have hown := LQ.out.own t (by omega)
              rw [hU] at hown
              obtain ⟨i1', hi', hz0', hz1', hz2'⟩ := info_parts info_load
              have zr := LQ.out.row.lt
              have hlb := HLB.out
              obtain ⟨g, cap, w10, happ, hown10, hgrow10, hat, hlt10⟩ := run_append_lies (P := Try.prog) (wr.drew.alloc (.cells #[.int .i64 x.1.1, .int .i64 x.1.2] 76)) 65 65 w.heap.size 76 i1' (.agg #[.int .i64 0, .int .i64 0]) 2 16 Try.underlying65 hi' hz0' hz1' hz2' rfl (by decide)
                (v' t) R.2.1.length (cellsL R.2.1) (World.ownsRow.alloc hown.drew _) ⟨wr.heap.size, 0, none⟩ 1 1 [.int .i64 x.1.1, .int .i64 x.1.2] rfl (fun j u hu => by
                  rw [add_lit']
                  have := (Blk.new wr.drew 76 #[.int .i64 x.1.1, .int .i64 x.1.2]).cell j
                  simpa [hu] using this) (by simp [Value.oneCell']) (by omega) (by unfold maxLen; omega) (by omega) (by simp only [World.size_alloc]; simp only [World.drew]; omega) (wr.heap.size + 1) (by simp)
              have LA := LQ.out.ext (((Below.refl wr.heap.size wr).drew).alloc (Nat.le_refl _) (.cells #[.int .i64 x.1.1, .int .i64 x.1.2] 76))
              have L10 := hide (LI.turn LA (k0 := t) (by omega) hgrow10 (x := .slice (some ⟨g, 0, none⟩) (R.2.1.length + 1) cap) (l := R.2.1 ++ [x.1]) (by
                  unfold OwnL
                  rw [cellsL_append, List.length_append]
                  exact hown10) (fun g' e => by
                  have e' : g = g' := by simpa [Value.ownBlock] using e
                  subst e'
                  rcases hat with h | h
                  · exact .inl h
                  · right; rw [h]; simp only [World.size_alloc]; exact Nat.le_refl _) (fun y hy => by
                  have hok := LQ.out.okl t (by omega)
                  rw [hU] at hok
                  rcases List.mem_append.1 hy with h | h
                  · exact hok y h
                  · rw [List.mem_singleton.1 h]; exact HXO.out))
              obtain ⟨c0, c1', c2⟩ := blk1 LQ.out.outb
              obtain ⟨y0, y1, y2⟩ := blk1 L10.out.outb
              have r1 := LQ.out.row.cell t
              rw [rowV_get _ _ htn] at r1
              have r2 := L10.out.row.cell t
              rw [rowV_get _ _ htn] at r2
              have r3 := L10.out.row.frozen t
              obtain ⟨d0, d1, d2, -, -⟩ := blk2 Q13.out
              have P13 := hide ((Q13.out.drew.alloc (.cells #[.int .i64 x.1.1, .int .i64 x.1.2] 76)).grown hgrow10 (fun e => by have := HOB.out t (by omega) _ e.symm; omega))
              obtain ⟨b0, b1, b2, -, -⟩ := blk2 P13.out
              have K10 := hide (KQ.out.trans (((keepsO (((Below.refl wr.heap.size wr).drew).alloc (Nat.le_refl _) (.cells #[.int .i64 x.1.1, .int .i64 x.1.2] 76))).trans (keepsGrown (World.ownsRow.alloc hown.drew _) hgrow10)).from _))
              have zg := hgrow10.size
              have t0 : (0 : Int) ≤ (t : Int) := by omega
              have t1 : (t : Int) < (s.nt : Int) := by omega
              simp only [World.size_alloc] at zg
              clear LA hown10 hgrow10 hat hU hown hRl hRc hi' hz0' hz1' hz2' hw2 hn LQ Q13 Q17 RQ KQ P13
              have hHeld : (fun W : World => W.cell? ⟨w.heap.size + 1, 0, none⟩ = some (.slice (some ⟨w.heap.size + 3, 0, none⟩) s.nt s.nt) ∧ W.cell? ⟨w.heap.size + 3, t, none⟩ = some (v' t) ∧ W.cell? ⟨wo.heap.size + 1, 0, none⟩ = some (.int .i64 x.1.1) ∧ W.cell? ⟨wo.heap.size + 1, 1, none⟩ = some (.int .i64 x.1.2)) wr.drew := ⟨c1', r1, d1, d2⟩
              have HH1 := hide hHeld
              have HH2 : Hid ((fun W : World => W.cell? ⟨w.heap.size + 1, 0, none⟩ = some (.slice (some ⟨w.heap.size + 3, 0, none⟩) s.nt s.nt) ∧ W.cell? ⟨w.heap.size + 3, t, none⟩ = some (v' t) ∧ W.cell? ⟨wo.heap.size + 1, 0, none⟩ = some (.int .i64 x.1.1) ∧ W.cell? ⟨wo.heap.size + 1, 1, none⟩ = some (.int .i64 x.1.2)) w10) := hide ⟨y1, r2, b1, b2⟩
              have HAP := hide happ
              clear hHeld happ
              refine wpIn_region_J (fun W : World => W.cell? ⟨w.heap.size + 1, 0, none⟩ = some (.slice (some ⟨w.heap.size + 3, 0, none⟩) s.nt s.nt) ∧ W.cell? ⟨w.heap.size + 3, t, none⟩ = some (v' t) ∧ W.cell? ⟨wo.heap.size + 1, 0, none⟩ = some (.int .i64 x.1.1) ∧ W.cell? ⟨wo.heap.size + 1, 1, none⟩ = some (.int .i64 x.1.2)) hmix ?_
              refine wpAnyJ_take 0 (v := ?_) (by first | exact hF | exact wideFn) HH1.out rfl (by kernel_rfl) (by kernel_rfl) (by kernel_rfl) (by kernel_rfl) rfl ?_ (fun _ _ _ h => h) ?_
              rotate_left
              · intro W hSW
                simp only [List.getElem_toArray, List.getElem_cons_zero, List.getElem_cons_succ]
                (try dsimp only at hSW)
                go_simp
                with_reducible rfl
              (try simp only [List.getElem_toArray, List.getElem_cons_zero, List.getElem_cons_succ, Act.put, List.setIfInBounds_toArray, List.set_cons_zero, List.set_cons_succ])
              refine wpAnyJ_take 1 (v := ?_) (by first | exact hF | exact wideFn) HH1.out rfl (by kernel_rfl) (by kernel_rfl) (by kernel_rfl) (by kernel_rfl) rfl ?_ (fun _ _ _ h => h) ?_
              rotate_left
              · intro W hSW
                simp only [List.getElem_toArray, List.getElem_cons_zero, List.getElem_cons_succ]
                (try dsimp only at hSW)
                go_simp
                with_reducible rfl
              (try simp only [List.getElem_toArray, List.getElem_cons_zero, List.getElem_cons_succ, Act.put, List.setIfInBounds_toArray, List.set_cons_zero, List.set_cons_succ])
              refine wpAnyJ_take 2 (v := ?_) (by first | exact hF | exact wideFn) HH1.out rfl (by kernel_rfl) (by kernel_rfl) (by kernel_rfl) (by kernel_rfl) rfl ?_ (fun _ _ _ h => h) ?_
              rotate_left
              · intro W hSW
                simp only [List.getElem_toArray, List.getElem_cons_zero, List.getElem_cons_succ]
                (try dsimp only at hSW)
                go_simp
                with_reducible rfl
              (try simp only [List.getElem_toArray, List.getElem_cons_zero, List.getElem_cons_succ, Act.put, List.setIfInBounds_toArray, List.set_cons_zero, List.set_cons_succ])
              refine wpAnyJ_take 3 (v := ?_) (by first | exact hF | exact wideFn) HH1.out rfl (by kernel_rfl) (by kernel_rfl) (by kernel_rfl) (by kernel_rfl) rfl ?_ (fun _ _ _ h => h) ?_
              rotate_left
              · intro W hSW
                simp only [List.getElem_toArray, List.getElem_cons_zero, List.getElem_cons_succ]
                (try dsimp only at hSW)
                go_simp
                with_reducible rfl
              (try simp only [List.getElem_toArray, List.getElem_cons_zero, List.getElem_cons_succ, Act.put, List.setIfInBounds_toArray, List.set_cons_zero, List.set_cons_succ])
              refine wpAnyJ_take 4 (v := ?_) (by first | exact hF | exact wideFn) HH1.out rfl (by kernel_rfl) (by kernel_rfl) (by kernel_rfl) (by kernel_rfl) rfl ?_ (fun _ _ _ h => h) ?_
              rotate_left
              · intro W hSW
                simp only [List.getElem_toArray, List.getElem_cons_zero, List.getElem_cons_succ]
                (try dsimp only at hSW)
                go_simp
                with_reducible rfl
              (try simp only [List.getElem_toArray, List.getElem_cons_zero, List.getElem_cons_succ, Act.put, List.setIfInBounds_toArray, List.set_cons_zero, List.set_cons_succ])
              refine wpAnyJ_take 5 (v := ?_) (by first | exact hF | exact wideFn) HH1.out rfl (by kernel_rfl) (by kernel_rfl) (by kernel_rfl) (by kernel_rfl) rfl ?_ (fun _ _ _ h => h) ?_
              rotate_left
              · intro W hSW
                simp only [List.getElem_toArray, List.getElem_cons_zero, List.getElem_cons_succ]
                (try dsimp only at hSW)
                go_simp
                with_reducible rfl
              (try simp only [List.getElem_toArray, List.getElem_cons_zero, List.getElem_cons_succ, Act.put, List.setIfInBounds_toArray, List.set_cons_zero, List.set_cons_succ])
              refine wpAnyJ_take 6 (v := ?_) (by first | exact hF | exact wideFn) HH1.out rfl (by kernel_rfl) (by kernel_rfl) (by kernel_rfl) (by kernel_rfl) rfl ?_ (fun _ _ _ h => h) ?_
              rotate_left
              · intro W hSW
                simp only [List.getElem_toArray, List.getElem_cons_zero, List.getElem_cons_succ]
                (try dsimp only at hSW)
                go_simp
                with_reducible rfl
              (try simp only [List.getElem_toArray, List.getElem_cons_zero, List.getElem_cons_succ, Act.put, List.setIfInBounds_toArray, List.set_cons_zero, List.set_cons_succ])
              have HH3 := hide (And.intro ((World.cell?_alloc_some wr.drew ⟨w.heap.size + 1, 0, none⟩ (.cells #[.int .i64 x.1.1, .int .i64 x.1.2] 76) (by rw [HH1.out.1]; rfl)).trans HH1.out.1) (And.intro ((World.cell?_alloc_some wr.drew ⟨w.heap.size + 3, t, none⟩ (.cells #[.int .i64 x.1.1, .int .i64 x.1.2] 76) (by rw [HH1.out.2.1]; rfl)).trans HH1.out.2.1)
                (And.intro ((World.cell?_alloc_some wr.drew ⟨wo.heap.size + 1, 0, none⟩ (.cells #[.int .i64 x.1.1, .int .i64 x.1.2] 76) (by rw [HH1.out.2.2.1]; rfl)).trans HH1.out.2.2.1) ((World.cell?_alloc_some wr.drew ⟨wo.heap.size + 1, 1, none⟩ (.cells #[.int .i64 x.1.1, .int .i64 x.1.2] 76) (by rw [HH1.out.2.2.2]; rfl)).trans HH1.out.2.2.2))))
              refine wpAnyJ_one 7 rfl (by kernel_rfl) (fun K hK => ?_)
              simp only [List.getElem_toArray, List.getElem_cons_zero, List.getElem_cons_succ]
              go_simp
              refine hK.out _ _ (fun _ => HH3.out) ?_
              clear hK K
              (try simp only [List.getElem_toArray, List.getElem_cons_zero, List.getElem_cons_succ, Act.put, List.setIfInBounds_toArray, List.set_cons_zero, List.set_cons_succ])
              refine wpAnyJ_one 8 rfl (by kernel_rfl) (fun K hK => ?_)
              rw [if_pos (by rfl)]
              refine wpIn_append_run (.tmp 95) (.tmp 97) 65 hF rfl rfl rfl HAP.out ?_
              refine hK.out _ _ (fun _ => HH2.out) ?_
              clear hK K
              (try simp only [List.getElem_toArray, List.getElem_cons_zero, List.getElem_cons_succ, Act.put, List.setIfInBounds_toArray, List.set_cons_zero, List.set_cons_succ])
              refine wpAnyJ_take 9 (v := ?_) (by first | exact hF | exact wideFn) HH2.out rfl (by kernel_rfl) (by kernel_rfl) (by kernel_rfl) (by kernel_rfl) rfl ?_ (fun _ _ _ h => h) ?_
              rotate_left
              · intro W hSW
                simp only [List.getElem_toArray, List.getElem_cons_zero, List.getElem_cons_succ]
                (try dsimp only at hSW)
                go_simp
                with_reducible rfl
              (try simp only [List.getElem_toArray, List.getElem_cons_zero, List.getElem_cons_succ, Act.put, List.setIfInBounds_toArray, List.set_cons_zero, List.set_cons_succ])
              refine wpAnyJ_one 10 rfl (by kernel_rfl) (fun K hK => ?_)
              simp only [List.getElem_toArray, List.getElem_cons_zero, List.getElem_cons_succ]
              go_simp
              refine hK.out _ _ (fun h => absurd h (by rw [show lastOp _ _ _ = true from by kernel_rfl]; simp)) ?_
              clear hK K
              (try simp only [List.getElem_toArray, List.getElem_cons_zero, List.getElem_cons_succ, Act.put, List.setIfInBounds_toArray, List.set_cons_zero, List.set_cons_succ])
              refine wpAnyJ_done (by kernel_rfl) ?_
              have L11 := hide (L10.out.setRow t (.slice (some ⟨g, 0, none⟩) (R.2.1.length + 1) cap))
              clear c0 c1' c2 y0 y1 y2 r1 r2 r3 d0 d1 d2 b0 b1 b2 HH1 HH2 HH3 HAP L10 hmix hj hjn i9 hrl0 hrl1 zg hlt10 hlb t0 t1 zr zq z6 z7 z8 z9 hz4
              gi_wp2_with fail
              go_roundw
              case rel =>
                refine ⟨k + 1, upd v' t (.slice (some ⟨g, 0, none⟩) (R.2.1.length + 1) cap), by omega, by go_num, hide ?_, hide ?_, hide (K10.out.trans ((KeepsOthers.setCell _ _ _).from _))⟩
                · rw [HNX.out, upd_ne v' _ (show s.nt ≠ t by omega)]
                  refine L11.out.congr (fun q _ => ?_) (fun _ _ => rfl)
                  show upd (upd (upd L t R.2.1) (s.nt + 1) (layOn R.1 (restL s t k) sh)) t (R.2.1 ++ [x.1]) q = upd (upd L t (R.2.1 ++ [x.1])) (s.nt + 1) (layOn R.1 (restL s t k) sh) q
                  by_cases e : q = t
                  · rw [e, upd_same, upd_ne _ _ (show t ≠ s.nt + 1 by omega), upd_same]
                  · rw [upd_ne _ _ e]
                    by_cases e2 : q = s.nt + 1
                    · rw [e2, upd_same, upd_same]
                    · rw [upd_ne _ _ e2, upd_ne _ _ e, upd_ne _ _ e2, upd_ne _ _ e]
                · rw [upd_ne v' _ (show s.nt + 1 ≠ t by omega)]
                  exact HV3.out
              case measure => simp [intOf]; omega
        case hstop2 => exact fun _ _ _ _ h => h.elim
      · obtain rfl : k = s.wn t := by omega
        have i2 : ¬ (s.wn t : Int) < (s.wn t : Int) := by omega
        obtain ⟨y0, y1, y2⟩ := blk1 HL.out.onb
        gi_wp2_with fail
        refine HG.out _ (upd v' s.nt (v' (s.nt + 1))) ?_ (HK.out.trans ((KeepsOthers.setCell _ _ _).from _))
        rw [upd_same, ← HV3.out]
        refine ((HL.out.setOn (v' (s.nt + 1))).drop).congr (fun k hk => ?_) (fun k hk => (upd_ne _ _ (by omega)).symm)
        show _ = upd (upd L t (tierR s m t (L s.nt) (L t) ok (s.wn t)).2.1) s.nt (tierR s m t (L s.nt) (L t) ok (s.wn t)).1 k
        by_cases e : k = s.nt
        · subst e; rw [upd_same, upd_same, upd_same]
        · rw [upd_ne _ _ e, upd_ne _ _ e, upd_ne _ _ (by omega)]
  case hdone =>
    rintro D xs W hD hxs ⟨v, h⟩ hK
    rw [hxs] at h
    have P := hide h
    obtain ⟨y0, y1, y2⟩ := blk1 h.onb
    obtain ⟨c0, c1, c2⟩ := blk1 h.outb
    obtain ⟨d0, d1, d2⟩ := blk1 h.sc
    obtain ⟨A2, cc2, hv2⟩ := (h.own s.nt (by omega)).shape
    rw [hv2] at y1
    have HV2 := hide hv2
    clear h hxs hst hv2
    generalize hR : loadsF s m (backTo s.nt 0) = R at *
    generalize hl2 : (R.1 s.nt).length = n2 at *
    have eF := HF.out
    subst eF
    gi_wp2_with fail
    gi_region
    gi_wp2_with fail
    have P5 := LI.ext P.out.setOut (Below.refl _ _).drew
    have hK' : (W.setCell ⟨w.heap.size + 1, 0, none⟩ (.slice (some ⟨w.heap.size + 3, 0, none⟩) s.nt s.nt)).drew.heap[D]? = some (.deferred (some [])) := (KeepsOthers.setCell W ⟨w.heap.size + 1, 0, none⟩ (.slice (some ⟨w.heap.size + 3, 0, none⟩) s.nt s.nt)).same D _ hK rfl
    generalize (W.setCell ⟨w.heap.size + 1, 0, none⟩ (.slice (some ⟨w.heap.size + 3, 0, none⟩) s.nt s.nt)).drew = W5 at P5 hK' ⊢
    refine ⟨by simp, .inl ⟨_, _, rfl, run_takeDeferred hK', ?_⟩⟩
    have P6 := P5.keptN (grownBy_putObj' W5 D (.deferred none)) (fun r e => by cases e; exact ⟨by omega, _, hK', rfl⟩)
    obtain ⟨g0, g1, g2⟩ := blk1 P6.outb
    have HV3 := HV2.out
    refine ⟨.tuple #[.slice (some ⟨w.heap.size + 3, 0, none⟩) s.nt s.nt, .slice A2 n2 cc2, .bool R.2], by simp [results, Try.results74, go_sem, g1], ?_⟩
    refine ⟨v, by rw [hR, HV3], P6.below, P6.row, fun k hk => by rw [hR]; exact P6.own k (by omega)⟩
  case hstop =>
    rintro D c pre W hD hSp h hK
    exact h.elim
end Go.Proofs.Ytlhekifmkkgjlaa
