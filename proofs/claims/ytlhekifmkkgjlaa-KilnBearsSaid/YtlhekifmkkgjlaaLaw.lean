/- How a law's statement follows from its walk; arguments opened as readings. -/
import Derived.Test.YtlhekifmkkgjlaaRows
import Derived.Test.YtlhekifmkkgjlaaWords
import Derived.ProofKit
import Derived.OpenShut
import Derived.Carry
import Derived.ChangeSame
import Derived.Deep.SlicePairs
import Derived.ChangeSlices
set_option linter.unusedSimpArgs false
set_option linter.unusedVariables false
set_option linter.unnecessarySimpa false
namespace Go.Proofs.Ytlhekifmkkgjlaa
open Go Go.RowKit Go.ChangeShapes Go.WideShapes Go.ChangeAt
set_option maxRecDepth 100000
theorem own_knob : ownKnob Try.prog.godebug = none := by kernel_rfl
theorem laidOut : laidOutB Try.prog = true := by kernel_rfl
section
variable {H : Type} {enc : TypeId × Value → H}
/-- arguments read behind the call as before, if below the heap's old size nothing has turned -/
theorem stay_all {W W' : World} (hb : Below W.heap.size W W') {sp : Nat → Bool} : ∀ {ts : List TypeId} {vs : List Value} {ds : List (DataW H)} {ps : List MemPlace},
    (∀ t ∈ ts, Try.prog.readableRec t = true ∧ t < Try.prog.types.size) → DataW.TrodAll enc Try.prog W 0 (fun _ => true) true ts vs ds ps → (∀ x ∈ ps, x.block < W.heap.size) → (∀ x ∈ ps, sp x.block = true) →
    DataW.TrodAll enc Try.prog W' 0 sp true ts vs ds ps
  | [], _, _, _, _, h, _, _ => by
    obtain ⟨rfl, rfl, rfl⟩ := trodAll_nil h
    exact trodAll_mk0
  | t :: ts, _, _, _, hr, h, hlt, hsp => by
    obtain ⟨v, vs, d, ds, p, q, rfl, rfl, rfl, h0, r0⟩ := trodAll_cons h
    have k := hr t (by simp)
    exact trodAll_cons_mk (WideElems.Trod_stays laidOut k.1 k.2 h0 (fun x hx => hb.same (hlt x (by simp [hx]))) (fun x hx => hsp x (by simp [hx])))
      (stay_all hb (fun t ht => hr t (by simp [ht])) r0 (fun x hx => hlt x (by simp [hx])) (fun x hx => hsp x (by simp [hx])))
/-- a law that returned true and turned nothing old -/
theorem law_post {f : Func} {s : ChangeSpec} {apart fresh handsOn again : Bool} {W W' : World} {args : Array Value} {ds gs : List (DataW H)} {before : List MemPlace}
    (hW : DataW.Whole enc Try.prog f.params.toList s.vars apart W args.toList ds gs before) (hb : Below W.heap.size W W')
    (hvs : s.vars = []) (hr1 : f.resultTypes = #[4])
    (hpar : f.params.toList.all (fun t => Try.prog.readableRec t && decide (t < Try.prog.types.size)) = true)
    (hfn : (s.fn H ds).results = [.lit (.bool true)] ∧ (s.fn H ds).args = ds ∧ (s.fn H ds).vars = []) :
    s.post enc Try.prog f apart fresh handsOn again W args (.bool true) W' := by
  have hW0 := hW
  have hlt : ∀ p ∈ before, p.block < W.heap.size := fun p hp => hW.lt p hp
  have hold : ∀ p ∈ before, (fun b => decide (b < W.heap.size)) p.block = true := fun p hp => by simpa using hlt p hp
  obtain ⟨p, q, hA, hV, rfl, hz, hn⟩ := hW
  rw [hvs] at hV
  obtain ⟨rfl, rfl⟩ := trodVars_none hV
  simp only [List.append_nil] at *
  have hk : ∀ t ∈ f.params.toList, Try.prog.readableRec t = true ∧ t < Try.prog.types.size := by
    intro t ht
    have := List.all_eq_true.1 hpar t ht
    simpa using this
  have hargs : ∀ sp : Nat → Bool, (∀ x ∈ p, sp x.block = true) → DataW.TrodAll enc Try.prog W' 0 sp true f.params.toList args.toList (s.fn H (ds ++ [])).args p := fun sp hsp => by
    rw [List.append_nil, hfn.2.1]; exact stay_all hb hk hA hlt hsp
  have hvars : ∀ sp : Nat → Bool, DataW.TrodVars enc Try.prog W' sp s.vars (s.fn H (ds ++ [])).vars [] := fun sp => by
    rw [hvs, List.append_nil, hfn.2.2]; exact rfl
  have hres : ∀ (b : Nat) (sp : Nat → Bool) (hd : Bool), DataW.TrodAll enc Try.prog W' b sp hd f.resultTypes.toList ((Value.bool true).resultList f.resultTypes.size) (s.fn H (ds ++ [])).results [] := fun b sp hd => by
    rw [List.append_nil, hfn.1, hr1]
    exact trodAll_cons_mk (shut_bool Try.underlying4 _) trodAll_mk0
  refine ⟨ds, [], p, [], p, [], hW0, hres _ _ _, hargs _ hold, hvars _, World.keptBut_mono (fun x hx => ⟨hx, Or.inr (by simpa using hx)⟩) (hb.frame (· ∈ p)), fun _ => ?_⟩
  refine ⟨ok_one hr1 rfl (okWide_bool_mk Try.underlying4 _), _, _, ([] ++ p) ++ [], ⟨[] ++ p, [], trodAll_append (hargs _ (fun _ _ => rfl)) (hres _ _ _), hvars (fun _ => true), rfl, ?_, ?_⟩, ?_⟩
  · intro b off hp
    have hin : MemPlace.cell b off ∈ p := by simpa using hp
    rw [hb.frozen (hlt _ hin)]
    exact hz b off hin
  · intro ha
    simpa using hn ha
  · intro x hx _
    simpa using hx
/-- a slice of structs of two cells: the readings of its elements -/
theorem open_pairs_c {W : World} {t e : TypeId} {f0 f1 : Field} {v : Value} {x : DataW H × List MemPlace} {fuel : Nat} (ht : Try.prog.underlying t = some (.slice e)) (he : Try.prog.underlying e = some (.struct #[f0, f1]))
    (ce : Try.prog.cellsOf e = 2) (o0 : f0.offset = 0) (o1 : f1.offset = 1) (c0 : Try.prog.cellsOf f0.type = 1) (c1 : Try.prog.cellsOf f1.type = 1)
    (h : DataW.trod enc Try.prog W 0 (fun _ => true) true fuel t [v] = some x) (hlt : ∀ y ∈ x.2, y.block < W.heap.size) :
    ∃ A n c V0 V1, v = .slice A n c ∧ n ≤ maxLen ∧ n ≤ c ∧ P2 W W.heap.size A n V0 V1 ∧ ∀ i, i < n → ∃ m x0 x1, DataW.trod enc Try.prog W 0 (fun _ => true) true m f0.type [V0 i] = some x0 ∧ DataW.trod enc Try.prog W 0 (fun _ => true) true m f1.type [V1 i] = some x1 ∧
      (∀ y ∈ x0.2, y.block < W.heap.size) ∧ (∀ y ∈ x1.2, y.block < W.heap.size) := by
  rcases Deep.open_slice_pairs ht he ce o0 o1 c0 c1 h with ⟨h1, -⟩ | ⟨a, len, cap, m, n, V0, V1, D0, D1, P0, P1, h1, hb, hl, hm, hmm, hx, hc⟩
  · injection h1 with h1
    subst h1
    exact ⟨none, 0, 0, fun _ => .nilIface, fun _ => .nilIface, rfl, by simp [maxLen], Nat.le_refl _, ER.nil _ _ _ _ _, fun i hi => absurd hi (by omega)⟩
  · injection h1 with h1
    subst h1
    simp only [if_true] at hmm
    subst hmm
    refine ⟨some a, len, m, V0, V1, rfl, by omega, hl, fun hn => ?_, fun i hi => ?_⟩
    · have h0 := (hc 0 (by omega)).1
      obtain ⟨b, off, spot⟩ := a
      have hsp : spot = none := by simpa [Addr.add] using World.cell?_spot h0
      subst hsp
      refine ⟨b, off, rfl, ?_, fun k i hk hi => ?_⟩
      · have hb1 := hlt (.cell b (off + 0)) (by
          rw [hx]
          exact List.mem_append_left _ (MemPlace.mem_row.2 ⟨0, by omega, rfl⟩))
        exact hb1
      · have hk2 := hc k (by omega)
        have q0 := hk2.1
        have q1 := hk2.2.1
        rw [add_lit'] at q0 q1
        rcases (by omega : i = 0 ∨ i = 1) with rfl | rfl
        · simpa using q0
        · simpa [Nat.add_assoc] using q1
    · have hi2 := hc i (by omega)
      refine ⟨n, _, _, hi2.2.2.1, hi2.2.2.2, fun y hy => hlt y ?_, fun y hy => hlt y ?_⟩
      · rw [hx]; exact List.mem_append_right _ (List.mem_flatMap.2 ⟨i, by simp; omega, List.mem_append_left _ hy⟩)
      · rw [hx]; exact List.mem_append_right _ (List.mem_flatMap.2 ⟨i, by simp; omega, List.mem_append_right _ hy⟩)
/-- a slice of ints -/
theorem open_ints_c {W : World} {t : TypeId} {v : Value} {x : DataW H × List MemPlace} {fuel : Nat} (ht : Try.prog.underlying t = some (.slice 3))
    (h : DataW.trod enc Try.prog W 0 (fun _ => true) true fuel t [v] = some x) (hlt : ∀ y ∈ x.2, y.block < W.heap.size) :
    ∃ A n c z, v = .slice A n c ∧ n ≤ maxLen ∧ n ≤ c ∧ IR W W.heap.size A n z ∧ ∀ i, i < n → -9223372036854775808 ≤ z i ∧ z i ≤ 9223372036854775807 := by
  rcases open_ints ht Try.underlying3 (by kernel_rfl) h with ⟨h1, -⟩ | ⟨a, len, cap, zs, h1, hb, hl, hm, hz, hx, hc, hwf⟩
  · injection h1 with h1
    subst h1
    exact ⟨none, 0, 0, fun _ => 0, rfl, by simp [maxLen], Nat.le_refl _, ER.nil _ _ _ _ _, fun i hi => absurd hi (by omega)⟩
  · injection h1 with h1
    subst h1
    simp only [if_true] at hz
    refine ⟨some a, len, cap, fun i => zs.getD i 0, rfl, by omega, hl, fun hn => ?_, fun i hi => ?_⟩
    · have h0 := hc 0 (by omega)
      obtain ⟨b, off, spot⟩ := a
      have hsp : spot = none := by simpa [Addr.add] using World.cell?_spot h0
      subst hsp
      refine ⟨b, off, rfl, ?_, fun k i hk hi => ?_⟩
      · have hb1 := hlt (.cell b (off + 0)) (by
          rw [hx]
          exact MemPlace.mem_row.2 ⟨0, by omega, rfl⟩)
        exact hb1
      · obtain rfl : i = 0 := by omega
        have := hc k (by omega)
        rw [add_lit'] at this
        simpa using this
    · have h1 : zs.getD i 0 ∈ zs := by
        rw [List.getD_eq_getElem?_getD, List.getElem?_eq_getElem (by omega)]
        exact List.getElem_mem _
      have := hwf _ h1
      simp only [Lit.wf, Bool.and_eq_true, decide_eq_true_eq] at this
      simpa [IntKind.min, IntKind.max, IntKind.signed, IntKind.bits] using this
theorem int_of_trod {W : World} {t : TypeId} {v : Value} {x : DataW H × List MemPlace} {fuel : Nat} (ht : Try.prog.underlying t = some (.int .i64)) (h : DataW.trod enc Try.prog W 0 (fun _ => true) true fuel t [v] = some x) :
    v = .int .i64 (intOf v) ∧ -9223372036854775808 ≤ intOf v ∧ intOf v ≤ 9223372036854775807 := by
  obtain ⟨z, hz, -, hw⟩ := DataW.trod_int ht h
  injection hz with hz
  subst hz
  simp only [Lit.wf, Bool.and_eq_true, decide_eq_true_eq] at hw
  exact ⟨rfl, by simpa [intOf, IntKind.min, IntKind.max, IntKind.signed, IntKind.bits] using hw⟩
theorem cells_slice {A : Option Addr} {n c : Nat} : (Value.slice A n c).cells.toList = [.slice A n c] := rfl
/-- a slice of structs of two ints -/
theorem open_pairs {r : Reach} {b0 : Nat} {W : World} {t e : TypeId} {f0 f1 : Field} {v : Value} {d : DataW H} {p : List MemPlace} (ht : Try.prog.underlying t = some (.slice e)) (he : Try.prog.underlying e = some (.struct #[f0, f1]))
    (ce : Try.prog.cellsOf e = 2) (o0 : f0.offset = 0) (o1 : f1.offset = 1) (c0 : Try.prog.cellsOf f0.type = 1) (c1 : Try.prog.cellsOf f1.type = 1)
    (k0 : Try.prog.underlying f0.type = some (.int .i64)) (k1 : Try.prog.underlying f1.type = some (.int .i64)) (hval : Value.okWide Try.prog W r b0 t v)
    (h : DataW.Trod enc Try.prog W 0 (fun _ => true) true t v d p) (hlt : ∀ x ∈ p, x.block < W.heap.size) :
    ∃ A n c x y, v = .slice A n c ∧ n ≤ maxLen ∧ n ≤ c ∧ PI W W.heap.size A n x y := by
  obtain ⟨fuel, h⟩ := h
  obtain ⟨A, n, c, rfl⟩ := okWide_slice ht hval
  rw [cells_slice] at h
  obtain ⟨A', n', c', V0, V1, h1, hn, hnc, hP, hV⟩ := open_pairs_c ht he ce o0 o1 c0 c1 h hlt
  injection h1 with h1 h2 h3
  subst h1 h2 h3
  refine ⟨A, n, c, fun i => intOf (V0 i), fun i => intOf (V1 i), rfl, hn, hnc, fun hn0 => ?_⟩
  obtain ⟨b, off, hA, hb, hc⟩ := hP hn0
  refine ⟨b, off, hA, hb, fun k i hk hi => ?_⟩
  obtain ⟨m, x0, x1, g0, g1, -, -⟩ := hV k hk
  rw [hc k i hk hi]
  rcases (by omega : i = 0 ∨ i = 1) with rfl | rfl
  · simpa using (int_of_trod k0 g0).1
  · simpa using (int_of_trod k1 g1).1
end
end Go.Proofs.Ytlhekifmkkgjlaa
