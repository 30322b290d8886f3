/- Top: the law TopMoulded: the row and the tied card. -/
import Derived.Test.YtfbnpiafoaoddaaDoorMergesG
import Derived.Test.YtfbnpiafoaoddaaDoorRows
import Derived.ProofKit
import Derived.OpenShut
import Derived.Carry
import Derived.ChangeSame
import Derived.Deep.SlicePairs
import Derived.ChangeSlices
import Derived.Deep.Fields
import Derived.Test.YtfbnpiafoaoddaaDoorCards
import Derived.Test.YtfbnpiafoaoddaaDoorTie
import Derived.LaidMore
import Derived.Lay
import Derived.SevenTiedAt
import Derived.Stop.Joined
set_option linter.unusedSimpArgs false
set_option linter.unusedVariables false
set_option linter.unnecessarySimpa false
/- How a law's statement follows from its walk; arguments opened as readings. -/
namespace Go.Proofs.YtfbnpiafoaoddaaDoor
open Go Go.RowKit Go.ChangeShapes Go.WideShapes Go.ChangeAt
set_option maxRecDepth 100000
theorem own_knob : ownKnob Tryd.prog.godebug = none := by kernel_rfl
theorem laidOut : laidOutB Tryd.prog = true := by kernel_rfl
section
variable {H : Type} {enc : TypeId × Value → H}
/-- arguments read behind the call as before, if below the heap's old size nothing has turned -/
theorem stay_all {W W' : World} (hb : Below W.heap.size W W') {sp : Nat → Bool} : ∀ {ts : List TypeId} {vs : List Value} {ds : List (DataW H)} {ps : List MemPlace},
    (∀ t ∈ ts, Tryd.prog.readableRec t = true ∧ t < Tryd.prog.types.size) → DataW.TrodAll enc Tryd.prog W 0 (fun _ => true) true ts vs ds ps → (∀ x ∈ ps, x.block < W.heap.size) → (∀ x ∈ ps, sp x.block = true) →
    DataW.TrodAll enc Tryd.prog W' 0 sp true ts vs ds ps
  | [], _, _, _, _, h, _, _ => by
    obtain ⟨rfl, rfl, rfl⟩ := trodAll_nil h
    exact trodAll_mk0
  | t :: ts, _, _, _, hr, h, hlt, hsp => by
    obtain ⟨v, vs, d, ds, p, q, rfl, rfl, rfl, h0, r0⟩ := trodAll_cons h
    have k := hr t (by simp)
    exact trodAll_cons_mk (WideElems.Trod_stays laidOut k.1 k.2 h0 (fun x hx => hb.same (hlt x (by simp [hx]))) (fun x hx => hsp x (by simp [hx])))
      (stay_all hb (fun t ht => hr t (by simp [ht])) r0 (fun x hx => hlt x (by simp [hx])) (fun x hx => hsp x (by simp [hx])))
/-- a law that returned true and turned nothing old -/
theorem law_post {f : Func} {s : ChangeSpec} {apart fresh handsOn again : Bool} {W W' : World} {args : Array Value} {ds gs : List (DataW H)} {before : List MemPlace}
    (hW : DataW.Whole enc Tryd.prog f.params.toList s.vars apart W args.toList ds gs before) (hb : Below W.heap.size W W')
    (hvs : s.vars = []) (hr1 : f.resultTypes = #[4])
    (hpar : f.params.toList.all (fun t => Tryd.prog.readableRec t && decide (t < Tryd.prog.types.size)) = true)
    (hfn : (s.fn H ds).results = [.lit (.bool true)] ∧ (s.fn H ds).args = ds ∧ (s.fn H ds).vars = []) :
    s.post enc Tryd.prog f apart fresh handsOn again W args (.bool true) W' := by
  have hW0 := hW
  have hlt : ∀ p ∈ before, p.block < W.heap.size := fun p hp => hW.lt p hp
  have hold : ∀ p ∈ before, (fun b => decide (b < W.heap.size)) p.block = true := fun p hp => by simpa using hlt p hp
  obtain ⟨p, q, hA, hV, rfl, hz, hn⟩ := hW
  rw [hvs] at hV
  obtain ⟨rfl, rfl⟩ := trodVars_none hV
  simp only [List.append_nil] at *
  have hk : ∀ t ∈ f.params.toList, Tryd.prog.readableRec t = true ∧ t < Tryd.prog.types.size := by
    intro t ht
    have := List.all_eq_true.1 hpar t ht
    simpa using this
  have hargs : ∀ sp : Nat → Bool, (∀ x ∈ p, sp x.block = true) → DataW.TrodAll enc Tryd.prog W' 0 sp true f.params.toList args.toList (s.fn H (ds ++ [])).args p := fun sp hsp => by
    rw [List.append_nil, hfn.2.1]; exact stay_all hb hk hA hlt hsp
  have hvars : ∀ sp : Nat → Bool, DataW.TrodVars enc Tryd.prog W' sp s.vars (s.fn H (ds ++ [])).vars [] := fun sp => by
    rw [hvs, List.append_nil, hfn.2.2]; exact rfl
  have hres : ∀ (b : Nat) (sp : Nat → Bool) (hd : Bool), DataW.TrodAll enc Tryd.prog W' b sp hd f.resultTypes.toList ((Value.bool true).resultList f.resultTypes.size) (s.fn H (ds ++ [])).results [] := fun b sp hd => by
    rw [List.append_nil, hfn.1, hr1]
    exact trodAll_cons_mk (shut_bool Tryd.underlying4 _) trodAll_mk0
  refine ⟨ds, [], p, [], p, [], hW0, hres _ _ _, hargs _ hold, hvars _, World.keptBut_mono (fun x hx => ⟨hx, Or.inr (by simpa using hx)⟩) (hb.frame (· ∈ p)), fun _ => ?_⟩
  refine ⟨ok_one hr1 rfl (okWide_bool_mk Tryd.underlying4 _), _, _, ([] ++ p) ++ [], ⟨[] ++ p, [], trodAll_append (hargs _ (fun _ _ => rfl)) (hres _ _ _), hvars (fun _ => true), rfl, ?_, ?_⟩, ?_⟩
  · intro b off hp
    have hin : MemPlace.cell b off ∈ p := by simpa using hp
    rw [hb.frozen (hlt _ hin)]
    exact hz b off hin
  · intro ha
    simpa using hn ha
  · intro x hx _
    simpa using hx
/-- a slice of structs of two cells: the readings of its elements -/
theorem open_pairs_c {W : World} {t e : TypeId} {f0 f1 : Field} {v : Value} {x : DataW H × List MemPlace} {fuel : Nat} (ht : Tryd.prog.underlying t = some (.slice e)) (he : Tryd.prog.underlying e = some (.struct #[f0, f1]))
    (ce : Tryd.prog.cellsOf e = 2) (o0 : f0.offset = 0) (o1 : f1.offset = 1) (c0 : Tryd.prog.cellsOf f0.type = 1) (c1 : Tryd.prog.cellsOf f1.type = 1)
    (h : DataW.trod enc Tryd.prog W 0 (fun _ => true) true fuel t [v] = some x) (hlt : ∀ y ∈ x.2, y.block < W.heap.size) :
    ∃ A n c V0 V1, v = .slice A n c ∧ n ≤ maxLen ∧ n ≤ c ∧ P2 W W.heap.size A n V0 V1 ∧ ∀ i, i < n → ∃ m x0 x1, DataW.trod enc Tryd.prog W 0 (fun _ => true) true m f0.type [V0 i] = some x0 ∧ DataW.trod enc Tryd.prog W 0 (fun _ => true) true m f1.type [V1 i] = some x1 ∧
      (∀ y ∈ x0.2, y.block < W.heap.size) ∧ (∀ y ∈ x1.2, y.block < W.heap.size) := by
  rcases Deep.open_slice_pairs ht he ce o0 o1 c0 c1 h with ⟨h1, -⟩ | ⟨a, len, cap, m, n, V0, V1, D0, D1, P0, P1, h1, hb, hl, hm, hmm, hx, hc⟩
  · injection h1 with h1
    subst h1
    exact ⟨none, 0, 0, fun _ => .nilIface, fun _ => .nilIface, rfl, by simp [maxLen], Nat.le_refl _, ER.nil _ _ _ _ _, fun i hi => absurd hi (by omega)⟩
  · injection h1 with h1
    subst h1
    simp only [if_true] at hmm
    subst hmm
    refine ⟨some a, len, m, V0, V1, rfl, by omega, hl, fun hn => ?_, fun i hi => ?_⟩
    · have h0 := (hc 0 (by omega)).1
      obtain ⟨b, off, spot⟩ := a
      have hsp : spot = none := by simpa [Addr.add] using World.cell?_spot h0
      subst hsp
      refine ⟨b, off, rfl, ?_, fun k i hk hi => ?_⟩
      · have hb1 := hlt (.cell b (off + 0)) (by
          rw [hx]
          exact List.mem_append_left _ (MemPlace.mem_row.2 ⟨0, by omega, rfl⟩))
        exact hb1
      · have hk2 := hc k (by omega)
        have q0 := hk2.1
        have q1 := hk2.2.1
        rw [add_lit'] at q0 q1
        rcases (by omega : i = 0 ∨ i = 1) with rfl | rfl
        · simpa using q0
        · simpa [Nat.add_assoc] using q1
    · have hi2 := hc i (by omega)
      refine ⟨n, _, _, hi2.2.2.1, hi2.2.2.2, fun y hy => hlt y ?_, fun y hy => hlt y ?_⟩
      · rw [hx]; exact List.mem_append_right _ (List.mem_flatMap.2 ⟨i, by simp; omega, List.mem_append_left _ hy⟩)
      · rw [hx]; exact List.mem_append_right _ (List.mem_flatMap.2 ⟨i, by simp; omega, List.mem_append_right _ hy⟩)
/-- a slice of ints -/
theorem open_ints_c {W : World} {t : TypeId} {v : Value} {x : DataW H × List MemPlace} {fuel : Nat} (ht : Tryd.prog.underlying t = some (.slice 3))
    (h : DataW.trod enc Tryd.prog W 0 (fun _ => true) true fuel t [v] = some x) (hlt : ∀ y ∈ x.2, y.block < W.heap.size) :
    ∃ A n c z, v = .slice A n c ∧ n ≤ maxLen ∧ n ≤ c ∧ IR W W.heap.size A n z ∧ ∀ i, i < n → -9223372036854775808 ≤ z i ∧ z i ≤ 9223372036854775807 := by
  rcases open_ints ht Tryd.underlying3 (by kernel_rfl) h with ⟨h1, -⟩ | ⟨a, len, cap, zs, h1, hb, hl, hm, hz, hx, hc, hwf⟩
  · injection h1 with h1
    subst h1
    exact ⟨none, 0, 0, fun _ => 0, rfl, by simp [maxLen], Nat.le_refl _, ER.nil _ _ _ _ _, fun i hi => absurd hi (by omega)⟩
  · injection h1 with h1
    subst h1
    simp only [if_true] at hz
    refine ⟨some a, len, cap, fun i => zs.getD i 0, rfl, by omega, hl, fun hn => ?_, fun i hi => ?_⟩
    · have h0 := hc 0 (by omega)
      obtain ⟨b, off, spot⟩ := a
      have hsp : spot = none := by simpa [Addr.add] using World.cell?_spot h0
      subst hsp
      refine ⟨b, off, rfl, ?_, fun k i hk hi => ?_⟩
      · have hb1 := hlt (.cell b (off + 0)) (by
          rw [hx]
          exact MemPlace.mem_row.2 ⟨0, by omega, rfl⟩)
        exact hb1
      · obtain rfl : i = 0 := by omega
        have := hc k (by omega)
        rw [add_lit'] at this
        simpa using this
    · have h1 : zs.getD i 0 ∈ zs := by
        rw [List.getD_eq_getElem?_getD, List.getElem?_eq_getElem (by omega)]
        exact List.getElem_mem _
      have := hwf _ h1
      simp only [Lit.wf, Bool.and_eq_true, decide_eq_true_eq] at this
      simpa [IntKind.min, IntKind.max, IntKind.signed, IntKind.bits] using this
theorem int_of_trod {W : World} {t : TypeId} {v : Value} {x : DataW H × List MemPlace} {fuel : Nat} (ht : Tryd.prog.underlying t = some (.int .i64)) (h : DataW.trod enc Tryd.prog W 0 (fun _ => true) true fuel t [v] = some x) :
    v = .int .i64 (intOf v) ∧ -9223372036854775808 ≤ intOf v ∧ intOf v ≤ 9223372036854775807 := by
  obtain ⟨z, hz, -, hw⟩ := DataW.trod_int ht h
  injection hz with hz
  subst hz
  simp only [Lit.wf, Bool.and_eq_true, decide_eq_true_eq] at hw
  exact ⟨rfl, by simpa [intOf, IntKind.min, IntKind.max, IntKind.signed, IntKind.bits] using hw⟩
theorem cells_slice {A : Option Addr} {n c : Nat} : (Value.slice A n c).cells.toList = [.slice A n c] := rfl
/-- a slice of structs of two ints -/
theorem open_pairs {r : Reach} {b0 : Nat} {W : World} {t e : TypeId} {f0 f1 : Field} {v : Value} {d : DataW H} {p : List MemPlace} (ht : Tryd.prog.underlying t = some (.slice e)) (he : Tryd.prog.underlying e = some (.struct #[f0, f1]))
    (ce : Tryd.prog.cellsOf e = 2) (o0 : f0.offset = 0) (o1 : f1.offset = 1) (c0 : Tryd.prog.cellsOf f0.type = 1) (c1 : Tryd.prog.cellsOf f1.type = 1)
    (k0 : Tryd.prog.underlying f0.type = some (.int .i64)) (k1 : Tryd.prog.underlying f1.type = some (.int .i64)) (hval : Value.okWide Tryd.prog W r b0 t v)
    (h : DataW.Trod enc Tryd.prog W 0 (fun _ => true) true t v d p) (hlt : ∀ x ∈ p, x.block < W.heap.size) :
    ∃ A n c x y, v = .slice A n c ∧ n ≤ maxLen ∧ n ≤ c ∧ PI W W.heap.size A n x y := by
  obtain ⟨fuel, h⟩ := h
  obtain ⟨A, n, c, rfl⟩ := okWide_slice ht hval
  rw [cells_slice] at h
  obtain ⟨A', n', c', V0, V1, h1, hn, hnc, hP, hV⟩ := open_pairs_c ht he ce o0 o1 c0 c1 h hlt
  injection h1 with h1 h2 h3
  subst h1 h2 h3
  refine ⟨A, n, c, fun i => intOf (V0 i), fun i => intOf (V1 i), rfl, hn, hnc, fun hn0 => ?_⟩
  obtain ⟨b, off, hA, hb, hc⟩ := hP hn0
  refine ⟨b, off, hA, hb, fun k i hk hi => ?_⟩
  obtain ⟨m, x0, x1, g0, g1, -, -⟩ := hV k hk
  rw [hc k i hk hi]
  rcases (by omega : i = 0 ∨ i = 1) with rfl | rfl
  · simpa using (int_of_trod k0 g0).1
  · simpa using (int_of_trod k1 g1).1
end
end Go.Proofs.YtfbnpiafoaoddaaDoor
/- Link: a law's arguments opened: seven numbers of 16 bits; a list of pairs of such. -/
namespace Go.Proofs.YtfbnpiafoaoddaaDoor
open Go Go.RowKit Go.ChangeShapes Go.WideShapes Go.ChangeAt
section
variable {H : Type} {enc : TypeId × Value → H} {r : Reach} {b0 : Nat} {W : World} {v : Value} {d : DataW H} {p : List MemPlace}
set_option maxRecDepth 100000
theorem u16_of_trod {W : World} {t : TypeId} {v : Value} {x : DataW H × List MemPlace} {fuel : Nat} (ht : Tryd.prog.underlying t = some (.int .u16)) (h : DataW.trod enc Tryd.prog W 0 (fun _ => true) true fuel t [v] = some x) :
    v = .int .u16 (intOf v) ∧ 0 ≤ intOf v ∧ intOf v ≤ 65535 := by
  obtain ⟨z, hz, -, hw⟩ := DataW.trod_int ht h
  injection hz with hz
  subst hz
  exact ⟨rfl, by simpa [intOf, Lit.wf, IntKind.min, IntKind.max, IntKind.signed, IntKind.bits] using hw⟩
theorem arr7 {cs : Array Value} (h : cs.size = 7) : ∃ a b c d e f g, cs = #[a, b, c, d, e, f, g] := by
  rcases cs with ⟨l⟩
  match l, h with
  | [a, b, c, d, e, f, g], _ => exact ⟨a, b, c, d, e, f, g, rfl⟩
theorem open_u16x7 (hval : Value.okWide Tryd.prog W r b0 23 v) (h : DataW.Trod enc Tryd.prog W 0 (fun _ => true) true 23 v d p) :
    ∃ u : Nat → Int, v = .agg #[.int .u16 (u 0), .int .u16 (u 1), .int .u16 (u 2), .int .u16 (u 3), .int .u16 (u 4), .int .u16 (u 5), .int .u16 (u 6)] ∧ ∀ k, k < 7 → 0 ≤ u k ∧ u k ≤ 65535 := by
  have key : ∃ cs, v = .agg cs ∧ cs.size = Tryd.prog.cellsOf 23 := by
    have ht := Tryd.underlying23
    unfold Value.okWide at hval
    cases v <;> simp_all
  obtain ⟨cs, rfl, hsz⟩ := key
  obtain ⟨c0, c1, c2, c3, c4, c5, c6, rfl⟩ := arr7 (hsz.trans (by kernel_rfl))
  obtain ⟨fuel, h⟩ := h
  obtain ⟨xs, m, -, -, -, hl, hx⟩ := DataW.trod_array Tryd.underlying23 h
  have ce : Tryd.prog.cellsOf 22 = 1 := by kernel_rfl
  rw [ce] at hx
  have y0 := hx 0 (by omega)
  have y1 := hx 1 (by omega)
  have y2 := hx 2 (by omega)
  have y3 := hx 3 (by omega)
  have y4 := hx 4 (by omega)
  have y5 := hx 5 (by omega)
  have y6 := hx 6 (by omega)
  rw [List.getElem?_eq_getElem (by omega)] at y0 y1 y2 y3 y4 y5 y6
  obtain ⟨e0, k0⟩ := u16_of_trod Tryd.underlying22 (show DataW.trod enc Tryd.prog W 0 (fun _ => true) true m 22 [c0] = _ from y0)
  obtain ⟨e1, k1⟩ := u16_of_trod Tryd.underlying22 (show DataW.trod enc Tryd.prog W 0 (fun _ => true) true m 22 [c1] = _ from y1)
  obtain ⟨e2, k2⟩ := u16_of_trod Tryd.underlying22 (show DataW.trod enc Tryd.prog W 0 (fun _ => true) true m 22 [c2] = _ from y2)
  obtain ⟨e3, k3⟩ := u16_of_trod Tryd.underlying22 (show DataW.trod enc Tryd.prog W 0 (fun _ => true) true m 22 [c3] = _ from y3)
  obtain ⟨e4, k4⟩ := u16_of_trod Tryd.underlying22 (show DataW.trod enc Tryd.prog W 0 (fun _ => true) true m 22 [c4] = _ from y4)
  obtain ⟨e5, k5⟩ := u16_of_trod Tryd.underlying22 (show DataW.trod enc Tryd.prog W 0 (fun _ => true) true m 22 [c5] = _ from y5)
  obtain ⟨e6, k6⟩ := u16_of_trod Tryd.underlying22 (show DataW.trod enc Tryd.prog W 0 (fun _ => true) true m 22 [c6] = _ from y6)
  refine ⟨fun k => intOf ([c0, c1, c2, c3, c4, c5, c6].getD k undef), ?_, fun k hk => ?_⟩
  · show Value.agg #[c0, c1, c2, c3, c4, c5, c6] = .agg #[.int .u16 (intOf c0), .int .u16 (intOf c1), .int .u16 (intOf c2), .int .u16 (intOf c3), .int .u16 (intOf c4), .int .u16 (intOf c5), .int .u16 (intOf c6)]
    rw [← e0, ← e1, ← e2, ← e3, ← e4, ← e5, ← e6]
  · rcases (by omega : k = 0 ∨ k = 1 ∨ k = 2 ∨ k = 3 ∨ k = 4 ∨ k = 5 ∨ k = 6) with rfl | rfl | rfl | rfl | rfl | rfl | rfl
    · exact k0
    · exact k1
    · exact k2
    · exact k3
    · exact k4
    · exact k5
    · exact k6
/-- a list of pairs of numbers of 16 bits -/
theorem open_u16x2s (hval : Value.okWide Tryd.prog W r b0 24 v) (h : DataW.Trod enc Tryd.prog W 0 (fun _ => true) true 24 v d p) (hlt : ∀ x ∈ p, x.block < W.heap.size) :
    ∃ (A : Option Addr) (n c : Nat) (u : Nat → Nat → Int), v = .slice A n c ∧ n ≤ maxLen ∧ ER W W.heap.size 2 A n (fun k i => .int .u16 (u k i)) ∧ ∀ k i, k < n → i < 2 → 0 ≤ u k i ∧ u k i ≤ 65535 := by
  obtain ⟨fuel, h⟩ := h
  obtain ⟨A, n, c, rfl⟩ := okWide_slice Tryd.underlying24 hval
  rw [cells_slice] at h
  have ce2 : Tryd.prog.cellsOf 79 = 2 := by kernel_rfl
  have ce : Tryd.prog.cellsOf 22 = 1 := by kernel_rfl
  rcases Deep.open_slice Tryd.underlying24 h with ⟨h1, -⟩ | ⟨a, len, cap, m, n', D, Pl, h1, hb, hl, hm, hmm, hx, hc⟩
  · injection h1 with h1
    injection h1 with h1 h2 h3
    subst h1 h2 h3
    exact ⟨none, 0, 0, fun _ _ => 0, rfl, by simp [maxLen], ER.nil _ _ _ _ _, fun k i hk => absurd hk (by omega)⟩
  · injection h1 with h1
    injection h1 with h1 h2 h3
    subst h1 h2 h3
    simp only [if_true] at hmm
    subst hmm
    rw [ce2] at hc hx
    obtain ⟨C, hC⟩ := Deep.choose_lt hc
    have hC1 := fun i hi => (hC i hi).1
    have hE : ∀ i, i < m → ∀ k, k < 2 → (C i).getD k undef = .int .u16 (intOf ((C i).getD k undef)) ∧ 0 ≤ intOf ((C i).getD k undef) ∧ intOf ((C i).getD k undef) ≤ 65535 := fun i hi k hk => by
      obtain ⟨-, hl0, -⟩ := World.cells?_some (hC i hi).1
      obtain ⟨xs, m', -, -, -, hl, hx⟩ := DataW.trod_array Tryd.underlying79 (hC i hi).2
      rw [ce] at hx
      have y := hx k hk
      rw [List.getElem?_eq_getElem (by omega)] at y
      rw [Nat.mul_one, Deep.take1_drop (C i) k undef (by omega)] at y
      exact u16_of_trod Tryd.underlying22 y
    refine ⟨some a, n, m, fun i k => intOf ((C i).getD k undef), rfl, by omega, fun hn => ?_, fun i k hi hk => (hE i (by omega) k hk).2⟩
    obtain ⟨-, hl0, hc0⟩ := World.cells?_some (hC1 0 (by omega))
    have h0 := hc0 0 (by omega)
    rw [List.getElem?_eq_getElem (by omega)] at h0
    obtain ⟨b, off, spot⟩ := a
    have hsp : spot = none := by simpa [Addr.add] using World.cell?_spot h0
    subst hsp
    refine ⟨b, off, rfl, ?_, fun k i hk hi => ?_⟩
    · have hb1 := hlt (.cell b (off + 0)) (by
        rw [show p = _ from congrArg Prod.snd hx]
        exact List.mem_append_left _ (MemPlace.mem_row.2 ⟨0, by omega, rfl⟩))
      exact hb1
    · obtain ⟨-, hl1, hc1⟩ := World.cells?_some (hC1 k (by omega))
      have h2 := hc1 i hi
      rw [Deep.add_add, add_lit', List.getElem?_eq_getElem (by omega)] at h2
      rw [show off + k * 2 + i = off + (k * 2 + i) by omega, h2]
      have := (hE k (by omega) i hi).1
      show some (C k)[i] = some (Value.int .u16 (intOf ((C k).getD i undef)))
      rw [← this]
      simp [List.getD, List.getElem?_eq_getElem (show i < (C k).length by omega)]
end
end Go.Proofs.YtfbnpiafoaoddaaDoor
namespace Go.Proofs.YtfbnpiafoaoddaaDoor.topMoulded
open Go Go.ChangeShapes Go.WideShapes Go.ChangeAt Go.RowKit
set_option maxRecDepth 100000 in
theorem lifted (os : Os) (started : os.Started) (H : Type) (enc : TypeId × Value → H) :
    ReturnsInHanded {} Tryd.checked os 3 .any (fun w args => (Rows.topMouldedSpec.pre enc Tryd.prog Tryd.f3 Rows.topMouldedRow.domain false w args ∧ laidMetH Tryd.prog Rows.topMouldedRow.laid w) ∧ sizedMet enc Tryd.prog Tryd.f3 (OpenSpec.ofChange Rows.topMouldedSpec) false w args)
      (Rows.topMouldedSpec.post enc Tryd.prog Tryd.f3 false true false false) := by
  refine returnsInHanded_of_change_and (C := Tryd.checked) (X := fun w _ => laidMetH Tryd.prog Rows.topMouldedRow.laid w) (fun _ _ _ hh h => h.of_heap hh) own_knob started (by kernel_rfl) Tryd.func3
    (ChangeSpec.witness_shaped (enc := enc) (C := Tryd.checked) (os := os) (X := fun w _ => laidMetH Tryd.prog Rows.topMouldedRow.laid w) false (World.laidAll Tryd.prog os Rows.topMouldedRow.laid) #[.agg #[.int .u16 0, .int .u16 0, .int .u16 0, .int .u16 0, .int .u16 0, .int .u16 0, .int .u16 0], .agg #[.int .u16 0, .int .u16 0, .int .u16 0, .int .u16 0, .int .u16 0, .int .u16 0, .int .u16 0], .slice none 0 0] 8 (World.laidAll_os _ _ _)
      (World.shaped_of_ZipB (by kernel_rfl) (by kernel_rfl)) (by kernel_rfl) (by kernel_rfl) (by kernel_rfl)
      (by rw [MakeChecks.laidMetH_plain _ _ _ (by kernel_rfl)]; exact laidMet_laidAll _ (by kernel_rfl) (by kernel_rfl))) ?_
  intro W base args ds gs before hval0 hW _ _ hL _
  have hval : ∀ (j : Nat) t v, Tryd.f3.params[j]? = some t → args[j]? = some v → Value.okWide Tryd.prog W .any base t v := hval0
  have hW' := hW
  have hlt : ∀ p ∈ before, p.block < W.heap.size := fun p hp => hW.lt p hp
  obtain ⟨p, q, hA0, hV, rfl, hfz, hnd⟩ := hW
  have hA : DataW.TrodAll enc Tryd.prog W 0 (fun _ => true) true Tryd.f3.params.toList args.toList ds p := hA0
  rw [Tryd.params3] at hA hval
  obtain ⟨v0, vs0, d0, ds0, p0, q0, hargs, rfl, rfl, h0, r0⟩ := trodAll_cons hA
  obtain ⟨v1, vs1, d1, ds1, p1, q1, rfl, rfl, rfl, h1, r1⟩ := trodAll_cons r0
  obtain ⟨v2, vs2, d2, ds2, p2, q2, rfl, rfl, rfl, h2, r2⟩ := trodAll_cons r1
  obtain ⟨rfl, rfl, rfl⟩ := trodAll_nil r2
  obtain rfl : args = #[v0, v1, v2] := by cases args; simp_all
  obtain ⟨rfl, rfl⟩ := trodVars_none hV
  have k0 := hval 0 23 v0 rfl rfl
  have k1 := hval 1 23 v1 rfl rfl
  have k2 := hval 2 24 v2 rfl rfl
  obtain ⟨a0, rfl, s0⟩ := open_u16x7 k0 h0
  obtain ⟨a1, rfl, s1⟩ := open_u16x7 k1 h1
  obtain ⟨A2, n2, c2, u2, rfl, z2, r2, s2⟩ := open_u16x2s k2 h2 (fun x hx => hlt x (by simp [hx]))
  clear hA0 hval0
  refine (moulded_any a0 a1 A2 n2 c2 u2 W z2 s0 s1 r2 s2).mono fun e W' ⟨he, hb⟩ => ?_
  subst he
  exact ⟨_, rfl, law_post hW' hb rfl rfl (by kernel_rfl) ⟨rfl, rfl, rfl⟩⟩
theorem over : Rows.topMouldedRow.holds Tryd.pinned (OpenSpec.ofChange Rows.topMouldedSpec) :=
  OpenClaim.holds_of_wide 3 Tryd.f3 rfl rfl rfl rfl rfl rfl rfl ⟨rfl, rfl, rfl, rfl, rfl⟩ rfl rfl rfl rfl rfl (by kernel_rfl) Tryd.func3 (by kernel_rfl)
    (of_decide_eq_true (by kernel_rfl)) (by unfold Func.isWrapper; first | (rw [if_pos (by decide +kernel)]; kernel_rfl) | (rw [if_neg (by decide +kernel)]; exact ⟨rfl, rfl⟩))
    (fun os started H enc _ => lifted os started H enc)
theorem proved : Rows.TopMouldedCardSaid :=
  Claim7.holds_tied_plain_at .later [] [.data, .pinned] true (true, "e2e3fc1f28da0877887ed0e77fe01b05675c31b9853cc4256a6ba8e9c2e68a1f") false over (fun _ h => by cases h) (by kernel_rfl) (fun _ h => by cases h) topMoulded_row_tie rfl ⟨rfl, rfl⟩ (by kernel_rfl) rfl
    (fun f fn hf hfn => by
      obtain rfl : f = 3 := Option.some.inj ((show Tryd.prog.funcNamed "chiti/chititop.TopMoulded" = some 3 by kernel_rfl).symm.trans hf) |>.symm
      obtain rfl : fn = Tryd.f3 := (Option.some.inj (Tryd.func3.symm.trans hfn)).symm
      exact ⟨by kernel_rfl, fun j t ht => by
        rw [Tryd.params3] at ht
        have hm : t ∈ ([23, 24] : List TypeId) := by simpa using Array.mem_of_getElem? ht
        have hall : (([23, 24] : List TypeId).all fun u => !Tryd.prog.wantsStandIn u) = true := by kernel_rfl
        exact (show Tryd.prog.wantsStandIn t = false by simpa using List.all_eq_true.1 hall t hm)⟩)
    (by kernel_rfl)
#print axioms proved
end Go.Proofs.YtfbnpiafoaoddaaDoor.topMoulded
