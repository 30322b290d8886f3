/- Song: known, walked. -/
import Derived.Test.YtlkkkgpcjdemdaaDoorSongG
import Derived.Test.YtlkkkgpcjdemdaaDoorRows
import Derived.ProofKit
import Derived.OpenShut
import Derived.Carry
import Derived.ChangeSame
import Derived.Deep.SlicePairs
import Derived.ChangeSlices
import Derived.Handed
import Derived.HandedShaped
import Derived.Shelf.Vars
import Derived.Deep.Fields
import Derived.RangeFuncLeaves
set_option linter.unusedSimpArgs false
set_option linter.unusedVariables false
set_option linter.unnecessarySimpa false
namespace Go.Proofs.YtlkkkgpcjdemdaaDoor
open Go Go.RowKit Go.Shelf
set_option maxHeartbeats 8000000
set_option maxRecDepth 100000
def agL : List UInt8 := [97, 103, 110, 105, 109, 32, 73, 108, 101, 32, 112, 117, 114, 111, 104, 105, 116, 97, 109]
theorem ag_chk : chkE agL = 0 := by kernel_rfl
theorem ag_way : scnT agL = [103, 108, 103, 103, 108, 103, 108, 108] := by kernel_rfl
theorem kn_scan (w : World) (hM : ML w) : Calls Tryd.prog 33 #[.string ⟨#[97, 103, 110, 105, 109, 32, 73, 108, 101, 32, 112, 117, 114, 111, 104, 105, 116, 97, 109]⟩] w fun e w' => e = .returned (.tuple #[.string ⟨#[103, 108, 103, 103, 108, 103, 108, 108]⟩, .int .i64 0]) ∧ Below w.heap.size w w' := by
  refine (scan_any ⟨#[97, 103, 110, 105, 109, 32, 73, 108, 101, 32, 112, 117, 114, 111, 104, 105, 116, 97, 109]⟩ agL rfl w (by decide) hM).mono ?_
  rintro e w' ⟨rfl, hb⟩
  rw [ag_chk, ag_way]
  exact ⟨rfl, hb⟩
theorem kn_count (w : World) : Calls Tryd.prog 41 #[.agg #[.string ⟨#[120, 120, 120, 120]⟩, .int .i64 6]] w fun e w' => e = .returned (.tuple #[.int .i64 6, .int .i64 0]) ∧ Below w.heap.size w w' := by
  refine (Count_any ⟨#[120, 120, 120, 120]⟩ [120, 120, 120, 120] rfl 6 w (by decide)).mono ?_
  rintro e w' ⟨rfl, hb⟩
  rw [show cnR [120, 120, 120, 120] 6 = (6, 0) from by kernel_rfl]
  exact ⟨rfl, hb⟩
theorem own_at0 {W : World} {base c : Nat} {A : Option Addr} {l : List Int} (h : OwnJ W base (.slice A l.length c) l) (hl : 0 < l.length) : ∃ g, A = some ⟨g, 0, none⟩ ∧ ∀ i, i < l.length → W.cell? ⟨g, i, none⟩ = some (.int .i64 (l.getD i 0)) := by
  have hli := h.li.2
  rcases h.2 with ⟨e, -⟩ | ⟨g, cap, cur, e, -⟩
  · injection e with e1 e2; omega
  · injection e with e1 e2
    subst e1
    refine ⟨g, rfl, fun i hi => ?_⟩
    obtain ⟨b, off, hA, -, hc⟩ := VR1.at_ hli hi
    injection hA with hA
    injection hA with e3 e4
    subst e3 e4
    rwa [Nat.zero_add] at hc
theorem gi_e : giE 100 [12, 6, 4, 3] = 0 := by kernel_rfl
theorem gi_l : gvL 100 [12, 6, 4, 3] = [48, 24, 16, 12] := by kernel_rfl
theorem kn_gifts (w : World) : Calls Tryd.prog 14 #[.int .i64 100, .slice (some ⟨w.heap.size, 0, none⟩) 4 4] (w.alloc (.cells #[.int .i64 12, .int .i64 6, .int .i64 4, .int .i64 3] 3)) fun e w' => ∃ g c, e = .returned (.tuple #[.slice (some ⟨g, 0, none⟩) 4 c, .int .i64 0]) ∧ (w'.cell? ⟨g, 0, none⟩ = some (.int .i64 48) ∧ w'.cell? ⟨g, 3, none⟩ = some (.int .i64 12)) ∧ Below w.heap.size w w' := by
  have hb0 : Below w.heap.size w (w.alloc (.cells #[.int .i64 12, .int .i64 6, .int .i64 4, .int .i64 3] 3)) := (Below.refl _ _).alloc (Nat.le_refl _) _
  have hL : LI (w.alloc (.cells #[.int .i64 12, .int .i64 6, .int .i64 4, .int .i64 3] 3)) (w.alloc (.cells #[.int .i64 12, .int .i64 6, .int .i64 4, .int .i64 3] 3)).heap.size (some ⟨w.heap.size, 0, none⟩) [12, 6, 4, 3] := fun _ => by
    refine ⟨w.heap.size, 0, rfl, by simp, fun k i hk hi => ?_⟩
    obtain rfl : i = 0 := by omega
    have h := (Blk.new w 3 #[.int .i64 12, .int .i64 6, .int .i64 4, .int .i64 3]).cell k
    rw [show 0 + k * 1 + 0 = k by omega, h]
    have hk : k < 4 := hk
    rcases (by omega : k = 0 ∨ k = 1 ∨ k = 2 ∨ k = 3) with rfl | rfl | rfl | rfl <;> rfl
  refine (gifts_any 100 (some ⟨w.heap.size, 0, none⟩) 4 [12, 6, 4, 3] (w.alloc (.cells #[.int .i64 12, .int .i64 6, .int .i64 4, .int .i64 3] 3)) hL (by decide)).mono ?_
  rintro e w' ⟨v, rfl, ho, hb⟩
  rw [gi_e, if_pos rfl, gi_l] at ho
  rw [gi_e]
  obtain ⟨A, c, rfl⟩ := own_shape ho
  obtain ⟨g, rfl, hc⟩ := own_at0 ho (by decide)
  exact ⟨g, c, rfl, ⟨hc 0 (by decide), hc 3 (by decide)⟩, hb0.trans (hb.mono hb0.size)⟩
theorem bo_r : boR 17 [(1, 2), (1, 3), (1, 9)] = (1, [9, 6, 2], 0) := by kernel_rfl
theorem kn_borrow (w : World) : Calls Tryd.prog 17 #[.int .i64 17, .slice (some ⟨w.heap.size, 0, none⟩) 3 3] (w.alloc (.cells #[.int .i64 1, .int .i64 2, .int .i64 1, .int .i64 3, .int .i64 1, .int .i64 9] 37)) fun e w' => ∃ g c, e = .returned (.tuple #[.int .i64 1, .slice (some ⟨g, 0, none⟩) 3 c, .int .i64 0]) ∧ (w'.cell? ⟨g, 0, none⟩ = some (.int .i64 9) ∧ w'.cell? ⟨g, 2, none⟩ = some (.int .i64 2)) ∧ Below w.heap.size w w' := by
  have hb0 : Below w.heap.size w (w.alloc (.cells #[.int .i64 1, .int .i64 2, .int .i64 1, .int .i64 3, .int .i64 1, .int .i64 9] 37)) := (Below.refl _ _).alloc (Nat.le_refl _) _
  have hL : PoR (w.alloc (.cells #[.int .i64 1, .int .i64 2, .int .i64 1, .int .i64 3, .int .i64 1, .int .i64 9] 37)) (w.alloc (.cells #[.int .i64 1, .int .i64 2, .int .i64 1, .int .i64 3, .int .i64 1, .int .i64 9] 37)).heap.size (some ⟨w.heap.size, 0, none⟩) [(1, 2), (1, 3), (1, 9)] := fun _ => by
    refine ⟨w.heap.size, 0, rfl, by simp, fun k i hk hi => ?_⟩
    have h := (Blk.new w 37 #[.int .i64 1, .int .i64 2, .int .i64 1, .int .i64 3, .int .i64 1, .int .i64 9]).cell (k * 2 + i)
    rw [show 0 + k * 2 + i = k * 2 + i by omega, h]
    have hk : k < 3 := hk
    rcases (by omega : i = 0 ∨ i = 1) with rfl | rfl <;> rcases (by omega : k = 0 ∨ k = 1 ∨ k = 2) with rfl | rfl | rfl <;> rfl
  refine (borrow_any 17 (some ⟨w.heap.size, 0, none⟩) 3 [(1, 2), (1, 3), (1, 9)] (w.alloc (.cells #[.int .i64 1, .int .i64 2, .int .i64 1, .int .i64 3, .int .i64 1, .int .i64 9] 37)) (by decide) hL).mono ?_
  rintro e w' ⟨v, rfl, ho, hb⟩
  rw [bo_r] at ho ⊢
  dsimp only at ho ⊢
  obtain ⟨A, c, rfl⟩ := own_shape ho
  obtain ⟨g, rfl, hc⟩ := own_at0 ho (by decide)
  exact ⟨g, c, rfl, ⟨hc 0 (by decide), hc 2 (by decide)⟩, hb0.trans (hb.mono hb0.size)⟩
theorem kn_falls (w : World) : Calls Tryd.prog 26 #[.agg #[.int .i64 59, .int .i64 60, .int .i64 0], .int .i64 59] w fun e w' => e = .returned (.tuple #[.int .i64 58, .int .i64 3, .int .i64 0]) ∧ Below w.heap.size w w' := by
  refine (Falls_any ⟨59, 60, 0⟩ 59 w).mono ?_
  rintro e w' ⟨rfl, hb⟩
  rw [show fsF ⟨59, 60, 0⟩ 59 = (58, 3, 0) from by kernel_rfl]
  exact ⟨rfl, hb⟩
theorem sknown_any (w : World) (hM : ML w) : Calls Tryd.prog 13 #[] w fun e w' => e = .returned (.bool true) ∧ Below w.heap.size w w' := by
  go_enter Tryd.func13, Tryd.ntmps13
  go_wp2_with fail
  refine (kn_scan _ hM).mono ?_
  rintro e w1 ⟨rfl, hb1⟩
  have B1 := hide hb1
  clear hb1
  go_wp2_with fail
  refine (kn_count _).mono ?_
  rintro e w2 ⟨rfl, hb2⟩
  have B2 := hide (B1.out.trans (hb2.mono B1.out.size))
  clear hb2 B1
  go_wp2_with fail
  refine (kn_gifts w2).mono ?_
  rintro e w3 ⟨g3, c3, rfl, hc3, hb3⟩
  have C3 := hide hc3
  have B3 := hide (B2.out.trans (hb3.mono B2.out.size))
  clear hb3 B2 hc3
  go_wp2_with fail
  refine (kn_borrow w3).mono ?_
  rintro e w4 ⟨g4, c4, rfl, hc4, hb4⟩
  have C4 := hide hc4
  have B4 := hide (B3.out.trans (hb4.mono B3.out.size))
  replace C3 := hide (And.intro ((hb4.cell (cell_lt C3.out.1)).trans C3.out.1) ((hb4.cell (cell_lt C3.out.2)).trans C3.out.2))
  clear hb4 B3 hc4
  go_wp2_with fail
  refine (kn_falls _).mono ?_
  rintro e w5 ⟨rfl, hb5⟩
  have B5 := hide (B4.out.trans (hb5.mono B4.out.size))
  obtain ⟨d1, d2⟩ := C3.out
  obtain ⟨d3, d4⟩ := C4.out
  have e1 := (hb5.cell (cell_lt d1)).trans d1
  have e2 := (hb5.cell (cell_lt d2)).trans d2
  have e3 := (hb5.cell (cell_lt d3)).trans d3
  have e4 := (hb5.cell (cell_lt d4)).trans d4
  clear hb5 B4 d1 d2 d3 d4 C3 C4
  go_wp2_with fail
  go_ret
  exact ⟨rfl, B5.out⟩
end Go.Proofs.YtlkkkgpcjdemdaaDoor
/- How a law's statement follows from its walk; arguments opened as readings. -/
namespace Go.Proofs.YtlkkkgpcjdemdaaDoor
open Go Go.RowKit Go.ChangeShapes Go.WideShapes Go.ChangeAt
set_option maxRecDepth 100000
theorem own_knob : ownKnob Tryd.prog.godebug = none := by kernel_rfl
theorem laidOut : laidOutB Tryd.prog = true := by kernel_rfl
section
variable {H : Type} {enc : TypeId × Value → H}
/-- arguments read behind the call as before, if below the heap's old size nothing has turned -/
theorem stay_all {W W' : World} (hb : Below W.heap.size W W') {sp : Nat → Bool} : ∀ {ts : List TypeId} {vs : List Value} {ds : List (DataW H)} {ps : List MemPlace},
    (∀ t ∈ ts, Tryd.prog.readableRec t = true ∧ t < Tryd.prog.types.size) → DataW.TrodAll enc Tryd.prog W 0 (fun _ => true) true ts vs ds ps → (∀ x ∈ ps, x.block < W.heap.size) → (∀ x ∈ ps, sp x.block = true) →
    DataW.TrodAll enc Tryd.prog W' 0 sp true ts vs ds ps
  | [], _, _, _, _, h, _, _ => by
    obtain ⟨rfl, rfl, rfl⟩ := trodAll_nil h
    exact trodAll_mk0
  | t :: ts, _, _, _, hr, h, hlt, hsp => by
    obtain ⟨v, vs, d, ds, p, q, rfl, rfl, rfl, h0, r0⟩ := trodAll_cons h
    have k := hr t (by simp)
    exact trodAll_cons_mk (WideElems.Trod_stays laidOut k.1 k.2 h0 (fun x hx => hb.same (hlt x (by simp [hx]))) (fun x hx => hsp x (by simp [hx])))
      (stay_all hb (fun t ht => hr t (by simp [ht])) r0 (fun x hx => hlt x (by simp [hx])) (fun x hx => hsp x (by simp [hx])))
/-- a law that returned true and turned nothing old -/
theorem law_post {f : Func} {s : ChangeSpec} {apart fresh handsOn again : Bool} {W W' : World} {args : Array Value} {ds gs : List (DataW H)} {before : List MemPlace}
    (hW : DataW.Whole enc Tryd.prog f.params.toList s.vars apart W args.toList ds gs before) (hb : Below W.heap.size W W')
    (hvs : s.vars = []) (hr1 : f.resultTypes = #[4])
    (hpar : f.params.toList.all (fun t => Tryd.prog.readableRec t && decide (t < Tryd.prog.types.size)) = true)
    (hfn : (s.fn H ds).results = [.lit (.bool true)] ∧ (s.fn H ds).args = ds ∧ (s.fn H ds).vars = []) :
    s.post enc Tryd.prog f apart fresh handsOn again W args (.bool true) W' := by
  have hW0 := hW
  have hlt : ∀ p ∈ before, p.block < W.heap.size := fun p hp => hW.lt p hp
  have hold : ∀ p ∈ before, (fun b => decide (b < W.heap.size)) p.block = true := fun p hp => by simpa using hlt p hp
  obtain ⟨p, q, hA, hV, rfl, hz, hn⟩ := hW
  rw [hvs] at hV
  obtain ⟨rfl, rfl⟩ := trodVars_none hV
  simp only [List.append_nil] at *
  have hk : ∀ t ∈ f.params.toList, Tryd.prog.readableRec t = true ∧ t < Tryd.prog.types.size := by
    intro t ht
    have := List.all_eq_true.1 hpar t ht
    simpa using this
  have hargs : ∀ sp : Nat → Bool, (∀ x ∈ p, sp x.block = true) → DataW.TrodAll enc Tryd.prog W' 0 sp true f.params.toList args.toList (s.fn H (ds ++ [])).args p := fun sp hsp => by
    rw [List.append_nil, hfn.2.1]; exact stay_all hb hk hA hlt hsp
  have hvars : ∀ sp : Nat → Bool, DataW.TrodVars enc Tryd.prog W' sp s.vars (s.fn H (ds ++ [])).vars [] := fun sp => by
    rw [hvs, List.append_nil, hfn.2.2]; exact rfl
  have hres : ∀ (b : Nat) (sp : Nat → Bool) (hd : Bool), DataW.TrodAll enc Tryd.prog W' b sp hd f.resultTypes.toList ((Value.bool true).resultList f.resultTypes.size) (s.fn H (ds ++ [])).results [] := fun b sp hd => by
    rw [List.append_nil, hfn.1, hr1]
    exact trodAll_cons_mk (shut_bool Tryd.underlying4 _) trodAll_mk0
  refine ⟨ds, [], p, [], p, [], hW0, hres _ _ _, hargs _ hold, hvars _, World.keptBut_mono (fun x hx => ⟨hx, Or.inr (by simpa using hx)⟩) (hb.frame (· ∈ p)), fun _ => ?_⟩
  refine ⟨ok_one hr1 rfl (okWide_bool_mk Tryd.underlying4 _), _, _, ([] ++ p) ++ [], ⟨[] ++ p, [], trodAll_append (hargs _ (fun _ _ => rfl)) (hres _ _ _), hvars (fun _ => true), rfl, ?_, ?_⟩, ?_⟩
  · intro b off hp
    have hin : MemPlace.cell b off ∈ p := by simpa using hp
    rw [hb.frozen (hlt _ hin)]
    exact hz b off hin
  · intro ha
    simpa using hn ha
  · intro x hx _
    simpa using hx
/-- a slice of structs of two cells: the readings of its elements -/
theorem open_pairs_c {W : World} {t e : TypeId} {f0 f1 : Field} {v : Value} {x : DataW H × List MemPlace} {fuel : Nat} (ht : Tryd.prog.underlying t = some (.slice e)) (he : Tryd.prog.underlying e = some (.struct #[f0, f1]))
    (ce : Tryd.prog.cellsOf e = 2) (o0 : f0.offset = 0) (o1 : f1.offset = 1) (c0 : Tryd.prog.cellsOf f0.type = 1) (c1 : Tryd.prog.cellsOf f1.type = 1)
    (h : DataW.trod enc Tryd.prog W 0 (fun _ => true) true fuel t [v] = some x) (hlt : ∀ y ∈ x.2, y.block < W.heap.size) :
    ∃ A n c V0 V1, v = .slice A n c ∧ n ≤ maxLen ∧ n ≤ c ∧ P2 W W.heap.size A n V0 V1 ∧ ∀ i, i < n → ∃ m x0 x1, DataW.trod enc Tryd.prog W 0 (fun _ => true) true m f0.type [V0 i] = some x0 ∧ DataW.trod enc Tryd.prog W 0 (fun _ => true) true m f1.type [V1 i] = some x1 ∧
      (∀ y ∈ x0.2, y.block < W.heap.size) ∧ (∀ y ∈ x1.2, y.block < W.heap.size) := by
  rcases Deep.open_slice_pairs ht he ce o0 o1 c0 c1 h with ⟨h1, -⟩ | ⟨a, len, cap, m, n, V0, V1, D0, D1, P0, P1, h1, hb, hl, hm, hmm, hx, hc⟩
  · injection h1 with h1
    subst h1
    exact ⟨none, 0, 0, fun _ => .nilIface, fun _ => .nilIface, rfl, by simp [maxLen], Nat.le_refl _, ER.nil _ _ _ _ _, fun i hi => absurd hi (by omega)⟩
  · injection h1 with h1
    subst h1
    simp only [if_true] at hmm
    subst hmm
    refine ⟨some a, len, m, V0, V1, rfl, by omega, hl, fun hn => ?_, fun i hi => ?_⟩
    · have h0 := (hc 0 (by omega)).1
      obtain ⟨b, off, spot⟩ := a
      have hsp : spot = none := by simpa [Addr.add] using World.cell?_spot h0
      subst hsp
      refine ⟨b, off, rfl, ?_, fun k i hk hi => ?_⟩
      · have hb1 := hlt (.cell b (off + 0)) (by
          rw [hx]
          exact List.mem_append_left _ (MemPlace.mem_row.2 ⟨0, by omega, rfl⟩))
        exact hb1
      · have hk2 := hc k (by omega)
        have q0 := hk2.1
        have q1 := hk2.2.1
        rw [add_lit'] at q0 q1
        rcases (by omega : i = 0 ∨ i = 1) with rfl | rfl
        · simpa using q0
        · simpa [Nat.add_assoc] using q1
    · have hi2 := hc i (by omega)
      refine ⟨n, _, _, hi2.2.2.1, hi2.2.2.2, fun y hy => hlt y ?_, fun y hy => hlt y ?_⟩
      · rw [hx]; exact List.mem_append_right _ (List.mem_flatMap.2 ⟨i, by simp; omega, List.mem_append_left _ hy⟩)
      · rw [hx]; exact List.mem_append_right _ (List.mem_flatMap.2 ⟨i, by simp; omega, List.mem_append_right _ hy⟩)
/-- a slice of ints -/
theorem open_ints_c {W : World} {t : TypeId} {v : Value} {x : DataW H × List MemPlace} {fuel : Nat} (ht : Tryd.prog.underlying t = some (.slice 3))
    (h : DataW.trod enc Tryd.prog W 0 (fun _ => true) true fuel t [v] = some x) (hlt : ∀ y ∈ x.2, y.block < W.heap.size) :
    ∃ A n c z, v = .slice A n c ∧ n ≤ maxLen ∧ n ≤ c ∧ IR W W.heap.size A n z ∧ ∀ i, i < n → -9223372036854775808 ≤ z i ∧ z i ≤ 9223372036854775807 := by
  rcases open_ints ht Tryd.underlying3 (by kernel_rfl) h with ⟨h1, -⟩ | ⟨a, len, cap, zs, h1, hb, hl, hm, hz, hx, hc, hwf⟩
  · injection h1 with h1
    subst h1
    exact ⟨none, 0, 0, fun _ => 0, rfl, by simp [maxLen], Nat.le_refl _, ER.nil _ _ _ _ _, fun i hi => absurd hi (by omega)⟩
  · injection h1 with h1
    subst h1
    simp only [if_true] at hz
    refine ⟨some a, len, cap, fun i => zs.getD i 0, rfl, by omega, hl, fun hn => ?_, fun i hi => ?_⟩
    · have h0 := hc 0 (by omega)
      obtain ⟨b, off, spot⟩ := a
      have hsp : spot = none := by simpa [Addr.add] using World.cell?_spot h0
      subst hsp
      refine ⟨b, off, rfl, ?_, fun k i hk hi => ?_⟩
      · have hb1 := hlt (.cell b (off + 0)) (by
          rw [hx]
          exact MemPlace.mem_row.2 ⟨0, by omega, rfl⟩)
        exact hb1
      · obtain rfl : i = 0 := by omega
        have := hc k (by omega)
        rw [add_lit'] at this
        simpa using this
    · have h1 : zs.getD i 0 ∈ zs := by
        rw [List.getD_eq_getElem?_getD, List.getElem?_eq_getElem (by omega)]
        exact List.getElem_mem _
      have := hwf _ h1
      simp only [Lit.wf, Bool.and_eq_true, decide_eq_true_eq] at this
      simpa [IntKind.min, IntKind.max, IntKind.signed, IntKind.bits] using this
theorem int_of_trod {W : World} {t : TypeId} {v : Value} {x : DataW H × List MemPlace} {fuel : Nat} (ht : Tryd.prog.underlying t = some (.int .i64)) (h : DataW.trod enc Tryd.prog W 0 (fun _ => true) true fuel t [v] = some x) :
    v = .int .i64 (intOf v) ∧ -9223372036854775808 ≤ intOf v ∧ intOf v ≤ 9223372036854775807 := by
  obtain ⟨z, hz, -, hw⟩ := DataW.trod_int ht h
  injection hz with hz
  subst hz
  simp only [Lit.wf, Bool.and_eq_true, decide_eq_true_eq] at hw
  exact ⟨rfl, by simpa [intOf, IntKind.min, IntKind.max, IntKind.signed, IntKind.bits] using hw⟩
theorem cells_slice {A : Option Addr} {n c : Nat} : (Value.slice A n c).cells.toList = [.slice A n c] := rfl
/-- a slice of structs of two ints -/
theorem open_pairs {r : Reach} {b0 : Nat} {W : World} {t e : TypeId} {f0 f1 : Field} {v : Value} {d : DataW H} {p : List MemPlace} (ht : Tryd.prog.underlying t = some (.slice e)) (he : Tryd.prog.underlying e = some (.struct #[f0, f1]))
    (ce : Tryd.prog.cellsOf e = 2) (o0 : f0.offset = 0) (o1 : f1.offset = 1) (c0 : Tryd.prog.cellsOf f0.type = 1) (c1 : Tryd.prog.cellsOf f1.type = 1)
    (k0 : Tryd.prog.underlying f0.type = some (.int .i64)) (k1 : Tryd.prog.underlying f1.type = some (.int .i64)) (hval : Value.okWide Tryd.prog W r b0 t v)
    (h : DataW.Trod enc Tryd.prog W 0 (fun _ => true) true t v d p) (hlt : ∀ x ∈ p, x.block < W.heap.size) :
    ∃ A n c x y, v = .slice A n c ∧ n ≤ maxLen ∧ n ≤ c ∧ PI W W.heap.size A n x y := by
  obtain ⟨fuel, h⟩ := h
  obtain ⟨A, n, c, rfl⟩ := okWide_slice ht hval
  rw [cells_slice] at h
  obtain ⟨A', n', c', V0, V1, h1, hn, hnc, hP, hV⟩ := open_pairs_c ht he ce o0 o1 c0 c1 h hlt
  injection h1 with h1 h2 h3
  subst h1 h2 h3
  refine ⟨A, n, c, fun i => intOf (V0 i), fun i => intOf (V1 i), rfl, hn, hnc, fun hn0 => ?_⟩
  obtain ⟨b, off, hA, hb, hc⟩ := hP hn0
  refine ⟨b, off, hA, hb, fun k i hk hi => ?_⟩
  obtain ⟨m, x0, x1, g0, g1, -, -⟩ := hV k hk
  rw [hc k i hk hi]
  rcases (by omega : i = 0 ∨ i = 1) with rfl | rfl
  · simpa using (int_of_trod k0 g0).1
  · simpa using (int_of_trod k1 g1).1
end
end Go.Proofs.YtlkkkgpcjdemdaaDoor
/- Song: how a law's statement follows from its walk, the world's shape kept; moons opened. -/
namespace Go.Proofs.YtlkkkgpcjdemdaaDoor
open Go Go.RowKit Go.ChangeShapes Go.WideShapes Go.ChangeAt
set_option maxRecDepth 100000
theorem rih_and_shaped {H : Type} {enc : TypeId × Value → H} {a : Assume} {C : Checked} {os : Os} {f : FuncId} {fn : Func} {s : ChangeSpec} {conds : List PathCond} {apart fresh handsOn again : Bool} {X : World → Array Value → Prop}
    (hX : ∀ (w w' : World) (args : Array Value), w.heap = w'.heap → X w args → X w' args)
    (own : ownKnob C.prog.godebug = none) (started : os.Started) (noInit : C.prog.inits.idxOf? f = none) (hfn : C.prog.funcs[f]? = some fn)
    (witness : ∃ (w : World) (tape : Tape) (i : Input), w.os = os ∧ (w.forCall tape i).Shaped C.prog ∧ i.vars = [] ∧ Input.okWide C.prog (w.forCall tape i) .any w.heap.size f i ∧
      ((s.pre enc C.prog fn conds apart (w.forCall tape i).memory i.args ∧ X (w.forCall tape i).memory i.args) ∧ sizedMet enc C.prog fn (OpenSpec.ofChange s) apart (w.forCall tape i).memory i.args) ∧ a.holds C.prog (lone (Frame.enter C.prog f i.args .normal) [] (w.forCall tape i)))
    (contract : ∀ (W : World) (base : Nat) (args : Array Value) (ds gs : List (DataW H)) (before : List MemPlace),
      (∀ (j : Nat) t v, fn.params[j]? = some t → args[j]? = some v → Value.okWide C.prog W .any base t v) →
      DataW.Whole enc C.prog fn.params.toList s.vars apart W args.toList ds gs before →
      W.ShapedOpen C.prog → X W args →
      Calls C.prog f args W fun e W' => ∃ v, e = .returned v ∧ s.post enc C.prog fn apart fresh handsOn again W args v W') :
    ReturnsInHanded a C os f .any (fun w args => (s.pre enc C.prog fn conds apart w args ∧ X w args) ∧ sizedMet enc C.prog fn (OpenSpec.ofChange s) apart w args) (s.post enc C.prog fn apart fresh handsOn again) := by
  refine returnsInHanded_of_calls own started noInit witness ?_
  intro w tape i _ hsh _ hok hpre _
  obtain ⟨_, _, _, fn', hfn', _, _, _, _, hval⟩ := hok
  have e : fn' = fn := Option.some.inj (hfn'.symm.trans hfn)
  subst e
  obtain ⟨⟨⟨ds, gs, before, hw, hc⟩, hx⟩, hz⟩ := hpre
  have hw' := DataW.Whole.of_heap (w' := w.forCall tape i) (by rfl) hw
  refine (contract (w.forCall tape i) w.heap.size i.args ds gs before hval hw' hsh (hX _ _ _ (by rfl) hx)).mono fun e W' ⟨v, he, hp⟩ => ?_
  subst he
  exact ChangeSpec.post_blind hp
theorem ml_shaped {W : World} (h : W.ShapedOpen Tryd.prog) : ML W :=
  cell_of_shapedOpen_int (g := lays144_ren.g 1) (zero := #[.int .i64 0]) (t := 3) h (of_decide_eq_true (by kernel_rfl)) (by kernel_rfl) rfl (by kernel_rfl) (by kernel_rfl) Tryd.underlying3
section
variable {H : Type} {enc : TypeId × Value → H} {r : Reach} {b0 : Nat} {W : World} {v : Value} {d : DataW H} {p : List MemPlace}
theorem arr3S {cs : Array Value} (h : cs.size = 3) : ∃ a b c, cs = #[a, b, c] := by
  rcases cs with ⟨l⟩
  match l, h with
  | [a, b, c], _ => exact ⟨a, b, c, rfl⟩
theorem open_intS (hval : Value.okWide Tryd.prog W r b0 3 v) (h : DataW.Trod enc Tryd.prog W 0 (fun _ => true) true 3 v d p) : ∃ x, v = .int .i64 x ∧ -9223372036854775808 ≤ x ∧ x ≤ 9223372036854775807 := by
  obtain ⟨z, rfl, rfl, rfl, -⟩ := open_int Tryd.underlying3 hval h
  obtain ⟨fuel, h⟩ := h
  have e := int_of_trod Tryd.underlying3 h
  exact ⟨z, rfl, e.2⟩
theorem open_moon (hval : Value.okWide Tryd.prog W r b0 47 v) (h : DataW.Trod enc Tryd.prog W 0 (fun _ => true) true 47 v d p) : ∃ a b c, v = .agg #[.int .i64 a, .int .i64 b, .int .i64 c] := by
  obtain ⟨cs, rfl, hsz⟩ := okWide_struct Tryd.underlying47 hval
  obtain ⟨a, b, c, rfl⟩ := arr3S (hsz.trans (by kernel_rfl))
  obtain ⟨fuel, h⟩ := h
  replace h : DataW.trod enc Tryd.prog W 0 (fun _ => true) true fuel 47 [a, b, c] = _ := h
  obtain ⟨xs, m', -, hxy, -, hxl, hf2⟩ := DataW.trod_struct Tryd.underlying47 h
  have g0 := hf2 0 _ rfl
  have g1 := hf2 1 _ rfl
  have g2 := hf2 2 _ rfl
  rw [List.getElem?_eq_getElem (by rw [hxl]; decide)] at g0 g1 g2
  have k0 : DataW.trod enc Tryd.prog W 0 (fun _ => true) true m' 3 [a] = _ := g0
  have k1 : DataW.trod enc Tryd.prog W 0 (fun _ => true) true m' 3 [b] = _ := g1
  have k2 : DataW.trod enc Tryd.prog W 0 (fun _ => true) true m' 3 [c] = _ := g2
  have h0 := (int_of_trod Tryd.underlying3 k0).1
  have h1 := (int_of_trod Tryd.underlying3 k1).1
  have h2 := (int_of_trod Tryd.underlying3 k2).1
  exact ⟨_, _, _, by rw [h0, h1, h2]⟩
end
end Go.Proofs.YtlkkkgpcjdemdaaDoor
/- Song: arguments opened: what a law asks of sunrises, of lunar days. -/
namespace Go.Proofs.YtlkkkgpcjdemdaaDoor
open Go Go.RowKit Go.ChangeShapes Go.WideShapes Go.ChangeAt
section
variable {H : Type} {enc : TypeId × Value → H} {r : Reach} {b0 : Nat} {W : World} {v : Value} {d : DataW H} {p : List MemPlace}
set_option maxRecDepth 100000
theorem u16_of_trodS {W : World} {t : TypeId} {v : Value} {x : DataW H × List MemPlace} {fuel : Nat} (ht : Tryd.prog.underlying t = some (.int .u16)) (h : DataW.trod enc Tryd.prog W 0 (fun _ => true) true fuel t [v] = some x) :
    ∃ z : Nat, v = .int .u16 (z : Nat) ∧ z < 65536 := by
  obtain ⟨z, hz, -, hw⟩ := DataW.trod_int ht h
  injection hz with hz
  have hw : 0 ≤ z ∧ z ≤ 65535 := by simpa [Lit.wf, IntKind.min, IntKind.max, IntKind.signed, IntKind.bits] using hw
  obtain ⟨n, rfl⟩ := Int.eq_ofNat_of_zero_le hw.1
  exact ⟨n, hz, by omega⟩
theorem u32_of_trodS {W : World} {t : TypeId} {v : Value} {x : DataW H × List MemPlace} {fuel : Nat} (ht : Tryd.prog.underlying t = some (.int .u32)) (h : DataW.trod enc Tryd.prog W 0 (fun _ => true) true fuel t [v] = some x) :
    ∃ z : Nat, v = .int .u32 (z : Nat) ∧ z < 4294967296 := by
  obtain ⟨z, hz, -, hw⟩ := DataW.trod_int ht h
  injection hz with hz
  have hw : 0 ≤ z ∧ z ≤ 4294967295 := by simpa [Lit.wf, IntKind.min, IntKind.max, IntKind.signed, IntKind.bits] using hw
  obtain ⟨n, rfl⟩ := Int.eq_ofNat_of_zero_le hw.1
  exact ⟨n, hz, by omega⟩
theorem arr4S {cs : Array Value} (h : cs.size = 4) : ∃ a b c e, cs = #[a, b, c, e] := by
  rcases cs with ⟨l⟩
  match l, h with
  | [a, b, c, e], _ => exact ⟨a, b, c, e, rfl⟩
theorem arr5S {cs : Array Value} (h : cs.size = 5) : ∃ a b c e f, cs = #[a, b, c, e, f] := by
  rcases cs with ⟨l⟩
  match l, h with
  | [a, b, c, e, f], _ => exact ⟨a, b, c, e, f, rfl⟩
theorem open_sunrise (hval : Value.okWide Tryd.prog W r b0 92 v) (h : DataW.Trod enc Tryd.prog W 0 (fun _ => true) true 92 v d p) :
    ∃ P Q B T : Nat, v = .agg #[.int .u16 (P : Nat), .int .u16 (Q : Nat), .int .u16 (B : Nat), .int .u32 (T : Nat)] ∧ P < 65536 ∧ Q < 65536 ∧ B < 65536 ∧ T < 4294967296 := by
  obtain ⟨cs, rfl, hsz⟩ := okWide_struct Tryd.underlying92 hval
  obtain ⟨a, b, c, e, rfl⟩ := arr4S (hsz.trans (by kernel_rfl))
  obtain ⟨fuel, h⟩ := h
  replace h : DataW.trod enc Tryd.prog W 0 (fun _ => true) true fuel 92 [a, b, c, e] = _ := h
  obtain ⟨xs, m', -, hxy, -, hxl, hf2⟩ := DataW.trod_struct Tryd.underlying92 h
  have g0 := hf2 0 _ rfl
  have g1 := hf2 1 _ rfl
  have g2 := hf2 2 _ rfl
  have g3 := hf2 3 _ rfl
  rw [List.getElem?_eq_getElem (by rw [hxl]; decide)] at g0 g1 g2 g3
  have k0 : DataW.trod enc Tryd.prog W 0 (fun _ => true) true m' 27 [a] = _ := g0
  have k1 : DataW.trod enc Tryd.prog W 0 (fun _ => true) true m' 27 [b] = _ := g1
  have k2 : DataW.trod enc Tryd.prog W 0 (fun _ => true) true m' 27 [c] = _ := g2
  have k3 : DataW.trod enc Tryd.prog W 0 (fun _ => true) true m' 22 [e] = _ := g3
  obtain ⟨P, rfl, h0⟩ := u16_of_trodS Tryd.underlying27 k0
  obtain ⟨Q, rfl, h1⟩ := u16_of_trodS Tryd.underlying27 k1
  obtain ⟨B, rfl, h2⟩ := u16_of_trodS Tryd.underlying27 k2
  obtain ⟨T, rfl, h3⟩ := u32_of_trodS Tryd.underlying22 k3
  exact ⟨P, Q, B, T, rfl, h0, h1, h2, h3⟩
theorem open_asked (hval : Value.okWide Tryd.prog W r b0 75 v) (h : DataW.Trod enc Tryd.prog W 0 (fun _ => true) true 75 v d p) :
    ∃ (a b c : Int) (e : Bool) (f : Int), v = .agg #[.int .i64 a, .int .i64 b, .int .i64 c, .bool e, .int .i64 f] := by
  obtain ⟨cs, rfl, hsz⟩ := okWide_struct Tryd.underlying75 hval
  obtain ⟨a, b, c, e, f, rfl⟩ := arr5S (hsz.trans (by kernel_rfl))
  obtain ⟨fuel, h⟩ := h
  replace h : DataW.trod enc Tryd.prog W 0 (fun _ => true) true fuel 75 [a, b, c, e, f] = _ := h
  obtain ⟨xs, m', -, hxy, -, hxl, hf2⟩ := DataW.trod_struct Tryd.underlying75 h
  have g0 := hf2 0 _ rfl
  have g1 := hf2 1 _ rfl
  have g2 := hf2 2 _ rfl
  have g3 := hf2 3 _ rfl
  have g4 := hf2 4 _ rfl
  rw [List.getElem?_eq_getElem (by rw [hxl]; decide)] at g0 g1 g2 g3 g4
  have k0 : DataW.trod enc Tryd.prog W 0 (fun _ => true) true m' 3 [a] = _ := g0
  have k1 : DataW.trod enc Tryd.prog W 0 (fun _ => true) true m' 3 [b] = _ := g1
  have k2 : DataW.trod enc Tryd.prog W 0 (fun _ => true) true m' 3 [c] = _ := g2
  have k3 : DataW.trod enc Tryd.prog W 0 (fun _ => true) true m' 4 [e] = _ := g3
  have k4 : DataW.trod enc Tryd.prog W 0 (fun _ => true) true m' 3 [f] = _ := g4
  have h0 := (int_of_trod Tryd.underlying3 k0).1
  have h1 := (int_of_trod Tryd.underlying3 k1).1
  have h2 := (int_of_trod Tryd.underlying3 k2).1
  have h4 := (int_of_trod Tryd.underlying3 k4).1
  obtain ⟨be, h3, -⟩ := DataW.trod_bool Tryd.underlying4 k3
  injection h3 with h3
  exact ⟨_, _, _, be, _, by rw [h0, h1, h2, h3, h4]⟩
end
end Go.Proofs.YtlkkkgpcjdemdaaDoor
/- Song, plain: which lunar day is current at a sunrise; how lunar days fall. -/
namespace Go.Proofs.YtlkkkgpcjdemdaaDoor
open Go Go.RowKit
set_option maxHeartbeats 4000000
theorem ah_le {m : Mo} (hm : m.ok) (n d : Int) : ahF m n ≤ d ↔ n * m.ln + m.ph ≤ d * m.per := by
  have h := hm.1
  unfold ahF
  rw [← Int.lt_add_one_iff, Int.ediv_lt_iff_lt_mul (by omega), Int.add_mul]
  omega
/-- how many periods lie between the moon's beginning and a day -/
def snF (m : Mo) (d : Int) : Int := d * m.per - m.ph
/-- which lunar day is current -/
def curF (m : Mo) (d : Int) : Int := snF m d / m.ln
/-- where the reference begins to look -/
def begF (m : Mo) (d : Int) : Int := max 0 (d * m.per / m.ln - 2)
theorem ah_cur {m : Mo} (hm : m.ok) (n d : Int) : ahF m n ≤ d ↔ n ≤ curF m d := by
  have h := hm.2.2.1
  rw [ah_le hm]
  unfold curF snF
  rw [Int.le_ediv_iff_mul_le (by omega)]
  omega
theorem beg_cur {m : Mo} (hm : m.ok) {d : Int} (hs : 0 ≤ snF m d) : begF m d ≤ curF m d ∧ curF m d ≤ begF m d + 3 := by
  obtain ⟨h1, h2, h3, h4, h5, h6, h7⟩ := hm
  unfold begF curF snF at *
  have e1 := Int.mul_ediv_add_emod (d * m.per) m.ln
  have e2 := Int.mul_ediv_add_emod (d * m.per - m.ph) m.ln
  have b1 := Int.emod_nonneg (d * m.per) (show m.ln ≠ 0 by omega)
  have b2 := Int.emod_lt_of_pos (d * m.per) (show 0 < m.ln by omega)
  have b3 := Int.emod_nonneg (d * m.per - m.ph) (show m.ln ≠ 0 by omega)
  have b4 := Int.emod_lt_of_pos (d * m.per - m.ph) (show 0 < m.ln by omega)
  have g1 : (d * m.per - m.ph) / m.ln ≤ d * m.per / m.ln := Int.ediv_le_ediv (by omega) (by omega)
  have g2 : d * m.per / m.ln - 2 ≤ (d * m.per - m.ph) / m.ln := by
    rw [Int.le_ediv_iff_mul_le (by omega), Int.sub_mul, Int.mul_comm _ m.ln]
    omega
  have g3 : 0 ≤ (d * m.per - m.ph) / m.ln := Int.ediv_nonneg hs (by omega)
  omega
theorem beg_none {m : Mo} (hm : m.ok) {d : Int} (hd : 0 ≤ d) (hs : snF m d < 0) : begF m d = 0 ∧ d < ahF m (begF m d) := by
  obtain ⟨h1, h2, h3, h4, h5, h6, h7⟩ := id hm
  have hd0 : d = 0 := by
    unfold snF at hs
    by_cases h : 1 ≤ d
    · have := Int.mul_le_mul_of_nonneg_right h (show 0 ≤ m.per by omega)
      omega
    · omega
  subst hd0
  have e : begF m 0 = 0 := by unfold begF; simp; omega
  refine ⟨e, ?_⟩
  rw [e]
  have := ah_cur hm 0 0
  have h8 : curF m 0 < 0 := by unfold curF; exact Int.ediv_neg_of_neg_of_pos hs (by omega)
  omega
theorem ah_mono {m : Mo} (hm : m.ok) {i j : Int} (h : i ≤ j) : ahF m i ≤ ahF m j := by
  rw [ah_le hm, ]
  have h1 := (ah_le hm j (ahF m j)).1 (Int.le_refl _)
  have h2 := Int.mul_le_mul_of_nonneg_right h (show 0 ≤ m.ln by have := hm.2.2.1; omega)
  omega
theorem ah_two {m : Mo} (hm : m.ok) (i : Int) : ahF m (i + 1) ≤ ahF m i + 2 := by
  have h1 := (ah_le hm i (ahF m i)).1 (Int.le_refl _)
  rw [ah_le hm, Int.add_mul, Int.add_mul]
  have := hm.2.2.2.1
  omega
theorem ah_one {m : Mo} (hm : m.ok) (hl : m.ln ≤ m.per) (i : Int) : ahF m (i + 1) ≤ ahF m i + 1 := by
  have h1 := (ah_le hm i (ahF m i)).1 (Int.le_refl _)
  rw [ah_le hm, Int.add_mul, Int.add_mul]
  omega
theorem ah_some {m : Mo} (hm : m.ok) (hl : m.per ≤ m.ln) (i : Int) : ahF m i + 1 ≤ ahF m (i + 1) := by
  have h1 := (ah_le hm (i + 1) (ahF m (i + 1))).1 (Int.le_refl _)
  have : ahF m i ≤ ahF m (i + 1) - 1 := by
    rw [ah_le hm, Int.sub_mul]
    rw [Int.add_mul] at h1
    omega
  omega
/-- thirty lunar days are more than a day -/
theorem ah_far {m : Mo} (hm : m.ok) {i j : Int} (h : i + 2 ≤ j) : ahF m i < ahF m j := by
  have h1 := (ah_le hm j (ahF m j)).1 (Int.le_refl _)
  have : ahF m i ≤ ahF m j - 1 := by
    rw [ah_le hm, Int.sub_mul]
    have h2 := Int.mul_le_mul_of_nonneg_right h (show 0 ≤ m.ln by have := hm.2.2.1; omega)
    rw [Int.add_mul] at h2
    have := hm.2.2.2.2.1
    omega
  omega
theorem fl_le {m : Mo} (i : Int) : (flF m i).1 ≤ ahF m i := by
  unfold flF; split
  · dsimp only; omega
  · split <;> exact Int.le_refl _
theorem fl_days {m : Mo} {n d : Int} (h1 : ahF m n ≤ d) (h2 : d < ahF m (n + 1)) (h3 : ahF m (n + 1) ≤ ahF m n + 2) :
    (flF m n).1 = ahF m n ∧ (flF m n).1 ≤ d ∧ d - 1 ≤ (flF m n).1 ∧ ((flF m n).2 = 1 ∨ (flF m n).2 = 2) ∧ ((flF m n).1 < d → (flF m n).2 = 2) := by
  unfold flF
  rw [if_neg (by omega)]
  split
  · dsimp only; omega
  · dsimp only; omega
theorem fl_never {m : Mo} {n d : Int} (h1 : ahF m n = d + 1) (h2 : ahF m (n + 1) = d + 1) : flF m n = (d, 3) := by
  unfold flF
  rw [if_pos (by omega), h1]
  congr 1; omega
/-- where Next begins -/
def erF (m : Mo) (d : Int) : Int := max 0 (d * m.per / m.ln - 3)
theorem er_cur {m : Mo} (hm : m.ok) {d : Int} (hs : 0 ≤ snF m d) : erF m d ≤ curF m d := by
  have h := (beg_cur hm hs).1
  have h0 : 0 ≤ begF m d := by unfold begF; omega
  unfold begF erF at *
  omega
theorem er_early {m : Mo} (hm : m.ok) {d i : Int} (hi0 : 0 ≤ i) (hi : i < erF m d) : (flF m i).1 < d := by
  have h : ahF m i ≤ d - 1 := by
    rw [ah_le hm, Int.sub_mul]
    unfold erF at hi
    have h1 : i + 4 ≤ d * m.per / m.ln := by omega
    obtain ⟨h1', h2, h3, h4, h5, h6, h7⟩ := hm
    rw [Int.le_ediv_iff_mul_le (by omega), Int.add_mul] at h1
    omega
  have := fl_le (m := m) i
  omega
end Go.Proofs.YtlkkkgpcjdemdaaDoor
/- Song: the iterator over lunar days, walked. -/
namespace Go.Proofs.YtlkkkgpcjdemdaaDoor
open Go Go.RowKit Go.Shelf
attribute [local go_sem] Oper.semAt_some
set_option maxHeartbeats 8000000
set_option maxRecDepth 100000
/-- k numbers from one on, by steps -/
def dyP (f s : Int) (k : Nat) : List Int := (List.range k).map fun i : Nat => f + s * (i : Int)
theorem dyP_succ (f s : Int) (k : Nat) : dyP f s (k + 1) = dyP f s k ++ [f + s * (k : Int)] := by unfold dyP; rw [List.range_succ, List.map_append]; rfl
theorem dyP_pre (f s : Int) (j : Nat) : ∀ d, dyP f s j <+: dyP f s (j + d)
  | 0 => List.prefix_rfl
  | d + 1 => (dyP_pre f s j d).trans (by rw [show j + (d + 1) = (j + d) + 1 by omega, dyP_succ]; exact List.prefix_append _ _)
/-- how many -/
def dyN (f t s : Int) : Nat := ((t - f) / s + 1).toNat
def dyL (f t s : Int) : List Int := dyP f s (dyN f t s)
theorem dyN_lt {f t s : Int} (hs : 1 ≤ s) (k : Nat) : k < dyN f t s ↔ f + s * (k : Int) ≤ t := by
  have h := Int.le_ediv_iff_mul_le (a := (k : Int)) (b := t - f) (c := s) (by omega)
  rw [Int.mul_comm] at h
  unfold dyN
  omega
def dyE (m : Mo) (x : Int) : Array Value := #[.int .i64 x, .agg #[.int .i64 (flF m x).1, .int .i64 (flF m x).2]]
/-- what the iterator reads -/
structure DyZ (pf pt ps pm : Nat) (m : Mo) (f t s : Int) (W : World) : Prop where
  f : W.cell? ⟨pf, 0, none⟩ = some (.int .i64 f)
  t : W.cell? ⟨pt, 0, none⟩ = some (.int .i64 t)
  s : W.cell? ⟨ps, 0, none⟩ = some (.int .i64 s)
  m : W.cell? ⟨pm, 0, none⟩ = some (.int .i64 m.ln) ∧ W.cell? ⟨pm, 1, none⟩ = some (.int .i64 m.per) ∧ W.cell? ⟨pm, 2, none⟩ = some (.int .i64 m.ph)
theorem dy_in (F : Fence) (n : Nat) (hF : ∀ f, F.fn f) (hro : F.round = none) (hwd : ∀ {n f args w R}, Calls Tryd.prog f args w R → CallsIn F n Tryd.prog f args w R) (hn : 2 ≤ n)
    (pf pt ps pm : Nat) (m : Mo) (hm : m.ok) (f t s : Int) (hf : 0 ≤ f ∧ f ≤ 3000000) (ht : t ≤ 1000000) (hs : 1 ≤ s ∧ s ≤ 30)
    (l : Nat) (J : Nat → List Int → World → Prop) (Jx : List Int → World → Prop) (W : World)
    (hZ : ∀ M s1 W1, J M s1 W1 → DyZ pf pt ps pm m f t s W1)
    (h0 : ∀ W1, Below W.heap.size W W1 → J W1.heap.size [] W1)
    (hJ : ∀ M s W1 W2, J M s W1 → OutK W.heap.size M W1 W2 → J M s W2)
    (hY : ∀ M pre x W1, pre ++ [x] <+: dyL f t s → M ≤ W1.heap.size → J M pre W1 → YieldAt F (n - 1) Tryd.prog l (dyE m x) W1 fun e W' =>
      (e = .returned (.bool true) ∧ J M (pre ++ [x]) W' ∧ KeepB W.heap.size M W1 W') ∨ (e = .returned (.bool false) ∧ Jx (pre ++ [x]) W')) :
    CallsIn F n Tryd.prog 104 #[.func (.yield l) #[] #[], .pointer (some ⟨pf, 0, none⟩), .pointer (some ⟨pt, 0, none⟩), .pointer (some ⟨ps, 0, none⟩), .pointer (some ⟨pm, 0, none⟩)] W fun e W' =>
      (∃ v, e = .returned v) ∧ ((∃ M, J M (dyL f t s) W') ∨ ∃ pre, pre <+: dyL f t s ∧ Jx pre W') := by
  have hn1 : 1 ≤ n := by omega
  have HZ := hide hZ
  have HJ := hide hJ
  have HY := hide hY
  have HFA := hide (fun x (k0 : 0 ≤ x) (k1 : x ≤ 3000000) W => fall_any m hm x k0 k1 W)
  obtain ⟨N, hN⟩ : ∃ N, dyN f t s = N := ⟨_, rfl⟩
  have HLT := hide (fun k => dyN_lt (f := f) (t := t) hs.1 k)
  unfold dyL at HY ⊢
  rw [hN] at HLT HY ⊢
  obtain ⟨M0, hM0⟩ : ∃ M, W.heap.size = M := ⟨_, rfl⟩
  have HI0 : Hid (J M0 [] W ∧ M0 ≤ W.heap.size) := hide ⟨by rw [← hM0]; exact h0 W (Below.refl _ _), by omega⟩
  rw [hM0] at HJ HY
  obtain ⟨z1, z2, z3, z4, z5, z6⟩ := HZ.out _ _ _ HI0.out.1
  clear hZ hJ hY h0 hm hN hM0
  refine callsIn_of_wp Tryd.func104 rfl (hF _) ?_ hro
  simp only [Tryd.ntmps104, List.size_toArray, List.length_cons, List.length_nil, Nat.reduceAdd, Nat.reduceSub, Array.replicate_succ, Array.replicate_zero, List.push_toArray, List.append_toArray, List.nil_append, List.cons_append]
  gi_wp2_with fail
  clear z1 z2 z3 z4 z5 z6
  gi_loopw [6] (fun iv wr => ∃ (k : Nat), k ≤ N ∧ iv = .int .i64 (f + s * (k : Int)) ∧ Hid (J M0 (dyP f s k) wr ∧ M0 ≤ wr.heap.size)) (fun iv _ => (t + 31 - intOf iv).toNat)
  case atStart => exact ⟨0, Nat.zero_le _, by simp, HI0⟩
  case round =>
    obtain ⟨k, hk, rfl, HI⟩ := hrel
    clear HI0
    obtain ⟨z1, z2, z3, z4, z5, z6⟩ := HZ.out _ _ _ HI.out.1
    have hl := HLT.out k
    obtain ⟨x, hx⟩ : ∃ x, f + s * (k : Int) = x := ⟨_, rfl⟩
    rw [hx] at hl ⊢
    have HX := hide hx
    have hx0 : 0 ≤ x := by
      have := Int.mul_nonneg (show 0 ≤ s by omega) (show 0 ≤ (k : Int) by omega)
      omega
    clear hx
    by_cases hlt : k < N
    · have hle := hl.1 hlt
      have HF1 := hide (HFA.out x hx0 (by omega))
      have hpre : dyP f s k ++ [x] <+: dyP f s N := by
        rw [← HX.out, ← dyP_succ]
        have := dyP_pre f s (k + 1) (N - (k + 1))
        rwa [show k + 1 + (N - (k + 1)) = N by omega] at this
      have HPRE := hide hpre
      have HLT1 := hide hlt
      have hy0 := HY.out M0 (dyP f s k) x
      unfold dyE at hy0
      obtain ⟨d, hd⟩ : ∃ d, (flF m x).1 = d := ⟨_, rfl⟩
      obtain ⟨h, hh⟩ : ∃ d, (flF m x).2 = d := ⟨_, rfl⟩
      rw [hd, hh] at HF1 hy0
      have HY0 := hide hy0
      clear hpre hl hlt hy0 hd hh HFA HLT HY
      gi_wp2_with fail
      (with_reducible refine (hwd (HF1.out _)).mono ?_)
      rintro e w2 ⟨rfl, hb2⟩
      have HI2 := hide (And.intro (HJ.out _ _ _ _ HI.out.1 (OutK.of_below hb2)) (Nat.le_trans HI.out.2 hb2.size))
      clear hb2 HI z1 z2 z3 z4 z5 z6
      obtain ⟨z1, z2, z3, z4, z5, z6⟩ := HZ.out _ _ _ HI2.out.1
      have HY1 := hide (HY0.out _ HPRE.out HI2.out.2 HI2.out.1)
      have hyy : YieldAt F (n - 1) Tryd.prog l #[.int .i64 x, .agg #[.int .i64 d, .int .i64 h]] w2 _ := HY1.out
      obtain ⟨fn, tmps, assign, body, hy, hR⟩ := hyy
      have HR := hide hR
      clear hR
      (try dsimp only)
      (repeat (first | go_values | gi_guarded | gi_step | gi_upon))
      refine HR.out.mono ?_
      rintro e W' (⟨rfl, h1, h2⟩ | ⟨rfl, h1⟩)
      · have HI3 := hide (And.intro h1 (Nat.le_trans HI2.out.2 h2.size))
        clear h1 h2 HY1 HR hy z1 z2 z3 z4 z5 z6 HI2
        obtain ⟨z1, z2, z3, z4, z5, z6⟩ := HZ.out _ _ _ HI3.out.1
        have hws : IntKind.i64.wrap (x + s) = x + s := IntWalk.i64_in _ (by omega)
        (try dsimp only)
        (repeat (first | go_values | gi_guarded | gi_step | gi_upon))
        go_roundw
        case rel => exact ⟨k + 1, HLT1.out, by rw [← HX.out]; push_cast; rw [Int.mul_add, Int.mul_one, Int.add_assoc], by rw [dyP_succ, HX.out]; exact HI3⟩
        case measure => simp [intOf]; omega
      · have HXX := hide h1
        clear h1 HY1 HR hy
        (try dsimp only)
        (repeat (first | go_values | gi_guarded | gi_step | gi_upon))
        refine bodyPost_ret (results_none rfl _ _ _) rfl ?_
        exact ⟨⟨_, rfl⟩, .inr ⟨_, HPRE.out, HXX.out⟩⟩
    · have hgt : ¬ x ≤ t := fun h => hlt (hl.2 h)
      obtain rfl : k = N := by omega
      clear hl hlt
      (try dsimp only)
      (repeat (first | go_values | gi_guarded | gi_step | gi_upon))
      go_end0
      exact ⟨⟨_, rfl⟩, .inl ⟨_, HI.out.1⟩⟩
end Go.Proofs.YtlkkkgpcjdemdaaDoor
/- Song: Next, walked. -/
namespace Go.Proofs.YtlkkkgpcjdemdaaDoor
open Go Go.RowKit Go.Shelf
attribute [local go_sem] Oper.semAt_some
set_option maxHeartbeats 8000000
set_option maxRecDepth 100000
theorem dy_seq (F : Fence) (n : Nat) (hF : ∀ f, F.fn f) (hro : F.round = none) (hwd : ∀ {n f args w R}, Calls Tryd.prog f args w R → CallsIn F n Tryd.prog f args w R) (hn : 2 ≤ n)
    (pf pt ps pm : Nat) (m : Mo) (hm : m.ok) (f t s : Int) (hf : 0 ≤ f ∧ f ≤ 3000000) (ht : t ≤ 1000000) (hs : 1 ≤ s ∧ s ≤ 30) (w : World) :
    SeqZ F n Tryd.prog 104 #[] #[.pointer (some ⟨pf, 0, none⟩), .pointer (some ⟨pt, 0, none⟩), .pointer (some ⟨ps, 0, none⟩), .pointer (some ⟨pm, 0, none⟩)] (dyE m) (dyL f t s) (DyZ pf pt ps pm m f t s) w := by
  intro l J Jx W _ hZ h0 hJ _ hY
  exact dy_in F n hF hro hwd hn pf pt ps pm m hm f t s hf ht hs l J Jx W hZ h0 hJ hY
/-- what the closure holds -/
structure DyB (W : World) (g : Nat) (m : Mo) (f t s : Int) : Prop where
  m : Blk W g 109 #[.int .i64 m.ln, .int .i64 m.per, .int .i64 m.ph]
  f : Blk W (g + 1) 3 #[.int .i64 f]
  t : Blk W (g + 2) 3 #[.int .i64 t]
  s : Blk W (g + 3) 3 #[.int .i64 s]
theorem DyB.ext {W W' : World} {g : Nat} {m : Mo} {f t s : Int} (h : DyB W g m f t s) (hb : Below W.heap.size W W') : DyB W' g m f t s := ⟨h.m.ext hb, h.f.ext hb, h.t.ext hb, h.s.ext hb⟩
theorem DyB.out {W W' : World} {g : Nat} {m : Mo} {f t s : Int} (h : DyB W g m f t s) {a b : Nat} (ho : OutK a b W W') (ha : g + 3 < a) : DyB W' g m f t s := ⟨ho.blk h.m (by omega), ho.blk h.f (by omega), ho.blk h.t (by omega), ho.blk h.s (by omega)⟩
theorem DyB.set {W : World} {g : Nat} {m : Mo} {f t s : Int} (h : DyB W g m f t s) {p : Nat} (hp : p < g) (v : Value) : DyB (W.setCell ⟨p, 0, none⟩ v) g m f t s :=
  ⟨h.m.far (p := ⟨p, 0, none⟩) (fun e => by dsimp only at e; omega) v, h.f.far (p := ⟨p, 0, none⟩) (fun e => by dsimp only at e; omega) v, h.t.far (p := ⟨p, 0, none⟩) (fun e => by dsimp only at e; omega) v, h.s.far (p := ⟨p, 0, none⟩) (fun e => by dsimp only at e; omega) v⟩
theorem DyB.z {W : World} {g : Nat} {m : Mo} {f t s : Int} (h : DyB W g m f t s) : DyZ (g + 1) (g + 2) (g + 3) g m f t s W := by
  obtain ⟨-, a0, a1, a2, -⟩ := blk3 h.m
  obtain ⟨-, b0, -⟩ := blk1 h.f
  obtain ⟨-, c0, -⟩ := blk1 h.t
  obtain ⟨-, d0, -⟩ := blk1 h.s
  exact ⟨b0, c0, d0, a0, a1, a2⟩
theorem daysF_any (m : Mo) (f t s : Int) (w : World) :
    Calls Tryd.prog 67 #[.agg #[.int .i64 m.ln, .int .i64 m.per, .int .i64 m.ph], .int .i64 f, .int .i64 t, .int .i64 s] w fun e w' =>
      e = .returned (.func (.func 104) #[] #[.pointer (some ⟨w.heap.size + 1, 0, none⟩), .pointer (some ⟨w.heap.size + 2, 0, none⟩), .pointer (some ⟨w.heap.size + 3, 0, none⟩), .pointer (some ⟨w.heap.size, 0, none⟩)]) ∧
      DyB w' w.heap.size m f t s ∧ Below w.heap.size w w' ∧ w.heap.size + 3 < w'.heap.size := by
  have h1 := Blk.new w 109 #[.int .i64 m.ln, .int .i64 m.per, .int .i64 m.ph]
  have h2 := Blk.new (w.alloc (.cells #[.int .i64 m.ln, .int .i64 m.per, .int .i64 m.ph] 109)) 3 #[.int .i64 f]
  have h3 := Blk.new ((w.alloc (.cells #[.int .i64 m.ln, .int .i64 m.per, .int .i64 m.ph] 109)).alloc (.cells #[.int .i64 f] 3)) 3 #[.int .i64 t]
  have h4 := Blk.new (((w.alloc (.cells #[.int .i64 m.ln, .int .i64 m.per, .int .i64 m.ph] 109)).alloc (.cells #[.int .i64 f] 3)).alloc (.cells #[.int .i64 t] 3)) 3 #[.int .i64 s]
  rw [World.size_alloc] at h2
  rw [World.size_alloc, World.size_alloc] at h3
  rw [World.size_alloc, World.size_alloc, World.size_alloc] at h4
  have hb : Below w.heap.size w ((((w.alloc (.cells #[.int .i64 m.ln, .int .i64 m.per, .int .i64 m.ph] 109)).alloc (.cells #[.int .i64 f] 3)).alloc (.cells #[.int .i64 t] 3)).alloc (.cells #[.int .i64 s] 3)) :=
    ((((Below.refl _ _).alloc (Nat.le_refl _) _).alloc (by simp) _).alloc (by simp; omega) _).alloc (by simp; omega) _
  have HD := hide (And.intro (DyB.mk (((h1.alloc _).alloc _).alloc (.cells #[.int .i64 s] 3)) ((h2.alloc _).alloc (.cells #[.int .i64 s] 3)) (h3.alloc (.cells #[.int .i64 s] 3)) h4) hb)
  clear h1 h2 h3 h4 hb
  go_enter Tryd.func67, Tryd.ntmps67
  go_wp2_with fail
  go_ret
  exact ⟨by simp, HD.out.1, HD.out.2, by simp⟩
/-- where Next begins to look -/
def nxS (m : Mo) (d : Int) (dark : Bool) (num : Int) : Int := (if dark then num - 1 + 15 else num - 1) + erF m d / 30 * 30
/-- the first of some lunar days that does not fall ahead of a day -/
def nxO (m : Mo) (d : Int) (l : List Int) : Int × Int := match l.find? (fun x => decide (d ≤ (flF m x).1)) with
  | some x => ((flF m x).1, 0)
  | none => (0, 7)
/-- what Next returns -/
def nxR (m : Mo) (d : Int) (dark : Bool) (num : Int) : Int × Int :=
  if m.ok then if tmB d = true ∧ 1 ≤ num ∧ num ≤ 15 then nxO m d (dyL (nxS m d dark num) 1000000 30) else (0, 3) else (0, 2)
end Go.Proofs.YtlkkkgpcjdemdaaDoor
/- Song: At; the reference's moons. -/
namespace Go.Proofs.YtlkkkgpcjdemdaaDoor
open Go Go.RowKit Go.Shelf
set_option maxHeartbeats 4000000
set_option maxRecDepth 100000
def zdV : Value := .agg #[.int .i64 0, .bool false, .int .i64 0]
/-- the lunar day with a number -/
def dayV (n : Int) : Value := .agg #[.int .i64 (n / 30), .bool (n / 15 % 2 == 1), .int .i64 (n % 15 + 1)]
/-- what At returns -/
def atR (m : Mo) (d : Int) : Value × Int × Int := if m.ok then if tmB d then if snF m d < 0 then (zdV, 0, 7) else (dayV (curF m d), curF m d, 0) else (zdV, 0, 3) else (zdV, 0, 2)
theorem tm_iff {n : Int} : tmB n = true ↔ 0 ≤ n ∧ n ≤ 1000000 := by unfold tmB; rw [Bool.and_eq_true, decide_eq_true_iff, decide_eq_true_iff]
theorem sn_bd {m : Mo} (hm : m.ok) {d : Int} (h0 : 0 ≤ d) (h1 : d ≤ 1000001) : 0 ≤ d * m.per ∧ d * m.per ≤ 1000001 * 100000 := mul_bd h0 h1 (by have := hm.1; omega) hm.2.1
theorem at_any (m : Mo) (d : Int) (w : World) :
    Calls Tryd.prog 25 #[.agg #[.int .i64 m.ln, .int .i64 m.per, .int .i64 m.ph], .int .i64 d] w fun e w' => e = .returned (.tuple #[(atR m d).1, .int .i64 (atR m d).2.1, .int .i64 (atR m d).2.2]) ∧ Below w.heap.size w w' := by
  have HC := hide (fun W => checkMoon_any m W)
  have HT := hide (fun W => isTime_any d W)
  have HB0 := hide (((Below.refl w.heap.size w).alloc (Nat.le_refl _) (.cells #[.int .i64 m.ln, .int .i64 m.per, .int .i64 m.ph] 47)).alloc (by simp) (.cells #[.int .i64 0, .bool false, .int .i64 0] 50))
  have KL : Hid (Blk ((w.alloc (.cells #[.int .i64 m.ln, .int .i64 m.per, .int .i64 m.ph] 47)).alloc (.cells #[.int .i64 0, .bool false, .int .i64 0] 50)) (w.heap.size + 1) 50 #[.int .i64 0, .bool false, .int .i64 0]) := hide (by
    have := Blk.new (w.alloc (.cells #[.int .i64 m.ln, .int .i64 m.per, .int .i64 m.ph] 47)) 50 #[.int .i64 0, .bool false, .int .i64 0]
    rwa [World.size_alloc] at this)
  have HN : Hid (1 = 1) := hide rfl
  unfold atR
  by_cases hm : m.ok
  rotate_left
  · rw [moB_no hm] at HC
    rw [if_neg hm]
    unfold zdV
    clear hm
    obtain ⟨l, p, h⟩ := m
    dsimp only at HC HB0 KL ⊢
    go_enter Tryd.func25, Tryd.ntmps25
    go_wp2_with fail
    refine (HC.out _).mono ?_
    rintro e w1 ⟨rfl, hb1⟩
    have HB1 := hide (HB0.out.trans (hb1.mono HB0.out.size))
    have K1 := hide (KL.out.ext hb1)
    obtain ⟨hc, hf⟩ := bcell hb1
    have hz := hb1.size
    go_wp2_with fail
    have hk : Blk (((w1.setCell ⟨w.heap.size + 1, 0, none⟩ (.int .i64 0)).setCell ⟨w.heap.size + 1, 1, none⟩ (.bool false)).setCell ⟨w.heap.size + 1, 2, none⟩ (.int .i64 0)) (w.heap.size + 1) 50 #[(.int .i64 0), (.bool false), (.int .i64 0)] := by simpa using ((K1.out.set_ 0 (.int .i64 0)).set_ 1 (.bool false)).set_ 2 (.int .i64 0)
    obtain ⟨-, x0, x1, x2, -⟩ := blk3 hk
    have HE : Below w.heap.size w (((w1.setCell ⟨w.heap.size + 1, 0, none⟩ (.int .i64 0)).setCell ⟨w.heap.size + 1, 1, none⟩ (.bool false)).setCell ⟨w.heap.size + 1, 2, none⟩ (.int .i64 0)) := ((HB1.out.setCell (by dsimp only; omega) _).setCell (by dsimp only; omega) _).setCell (by dsimp only; omega) _
    refine ⟨rfl, .tuple #[.agg #[(.int .i64 0), (.bool false), (.int .i64 0)], .int .i64 0, .int .i64 2], by simp [results, Tryd.results25, go_sem, x0, x1, x2, HN.out], ?_⟩
    exact ⟨rfl, HE⟩
  rw [moB_yes hm] at HC
  rw [if_pos hm]
  rcases ht : tmB d with _ | _
  · rw [ht] at HT
    rw [if_neg Bool.false_ne_true]
    unfold zdV
    clear ht hm
    obtain ⟨l, p, h⟩ := m
    dsimp only at HC HB0 KL ⊢
    go_enter Tryd.func25, Tryd.ntmps25
    go_wp2_with fail
    refine (HC.out _).mono ?_
    rintro e w1 ⟨rfl, hb1⟩
    have HB1 := hide (HB0.out.trans (hb1.mono HB0.out.size))
    have K1 := hide (KL.out.ext hb1)
    obtain ⟨hc, hf⟩ := bcell hb1
    have hz := hb1.size
    go_wp2_with fail
    refine (HT.out _).mono ?_
    rintro e w2 ⟨rfl, rfl⟩
    go_wp2_with fail
    have hk : Blk (((w1.setCell ⟨w.heap.size + 1, 0, none⟩ (.int .i64 0)).setCell ⟨w.heap.size + 1, 1, none⟩ (.bool false)).setCell ⟨w.heap.size + 1, 2, none⟩ (.int .i64 0)) (w.heap.size + 1) 50 #[(.int .i64 0), (.bool false), (.int .i64 0)] := by simpa using ((K1.out.set_ 0 (.int .i64 0)).set_ 1 (.bool false)).set_ 2 (.int .i64 0)
    obtain ⟨-, x0, x1, x2, -⟩ := blk3 hk
    have HE : Below w.heap.size w (((w1.setCell ⟨w.heap.size + 1, 0, none⟩ (.int .i64 0)).setCell ⟨w.heap.size + 1, 1, none⟩ (.bool false)).setCell ⟨w.heap.size + 1, 2, none⟩ (.int .i64 0)) := ((HB1.out.setCell (by dsimp only; omega) _).setCell (by dsimp only; omega) _).setCell (by dsimp only; omega) _
    refine ⟨rfl, .tuple #[.agg #[(.int .i64 0), (.bool false), (.int .i64 0)], .int .i64 0, .int .i64 3], by simp [results, Tryd.results25, go_sem, x0, x1, x2, HN.out], ?_⟩
    exact ⟨rfl, HE⟩
  rw [ht] at HT
  rw [if_pos rfl]
  obtain ⟨h0, h1⟩ := tm_iff.1 ht
  have hb := sn_bd hm h0 (by omega)
  obtain ⟨a1, a2, a3, a4, a5, a6, a7⟩ := hm
  obtain ⟨q, hq⟩ : ∃ q, d * m.per = q := ⟨_, rfl⟩
  rw [hq] at hb
  have es : snF m d = q - m.ph := by unfold snF; rw [hq]
  have ec : curF m d = (q - m.ph) / m.ln := by unfold curF; rw [es]
  rw [es, ec]
  clear es ec ht
  obtain ⟨l, p, h⟩ := m
  dsimp only at *
  have w1' : IntKind.i64.wrap (d * p) = q := by rw [hq]; exact IntWalk.i64_in _ (by omega)
  by_cases hs : q - h < 0
  · rw [if_pos hs]
    unfold zdV
    dsimp only
    have hs2 : d * p - h < 0 := by rw [hq]; exact hs
    go_enter Tryd.func25, Tryd.ntmps25
    go_wp2_with fail
    refine (HC.out _).mono ?_
    rintro e w1 ⟨rfl, hb1⟩
    have HB1 := hide (HB0.out.trans (hb1.mono HB0.out.size))
    have K1 := hide (KL.out.ext hb1)
    obtain ⟨hc, hf⟩ := bcell hb1
    have hz := hb1.size
    go_wp2_with fail
    refine (HT.out _).mono ?_
    rintro e w2 ⟨rfl, rfl⟩
    go_wp2_with fail
    have hk : Blk (((w1.setCell ⟨w.heap.size + 1, 0, none⟩ (.int .i64 0)).setCell ⟨w.heap.size + 1, 1, none⟩ (.bool false)).setCell ⟨w.heap.size + 1, 2, none⟩ (.int .i64 0)) (w.heap.size + 1) 50 #[(.int .i64 0), (.bool false), (.int .i64 0)] := by simpa using ((K1.out.set_ 0 (.int .i64 0)).set_ 1 (.bool false)).set_ 2 (.int .i64 0)
    obtain ⟨-, x0, x1, x2, -⟩ := blk3 hk
    have HE : Below w.heap.size w (((w1.setCell ⟨w.heap.size + 1, 0, none⟩ (.int .i64 0)).setCell ⟨w.heap.size + 1, 1, none⟩ (.bool false)).setCell ⟨w.heap.size + 1, 2, none⟩ (.int .i64 0)) := ((HB1.out.setCell (by dsimp only; omega) _).setCell (by dsimp only; omega) _).setCell (by dsimp only; omega) _
    refine ⟨rfl, .tuple #[.agg #[(.int .i64 0), (.bool false), (.int .i64 0)], .int .i64 0, .int .i64 7], by simp [results, Tryd.results25, go_sem, x0, x1, x2, HN.out], ?_⟩
    exact ⟨rfl, HE⟩
  · rw [if_neg hs]
    have hs2 : ¬ d * p - h < 0 := by rw [hq]; exact hs
    unfold dayV
    dsimp only
    have e1 := Int.ediv_nonneg (show 0 ≤ q - h by omega) (show 0 ≤ l by omega)
    have e2 := Int.ediv_le_self l (show 0 ≤ q - h by omega)
    obtain ⟨n, hn⟩ : ∃ n, (q - h) / l = n := ⟨_, rfl⟩
    rw [hn] at e1 e2 ⊢
    go_enter Tryd.func25, Tryd.ntmps25
    go_wp2_with fail
    refine (HC.out _).mono ?_
    rintro e w1 ⟨rfl, hb1⟩
    have HB1 := hide (HB0.out.trans (hb1.mono HB0.out.size))
    have K1 := hide (KL.out.ext hb1)
    obtain ⟨hc, hf⟩ := bcell hb1
    have hz := hb1.size
    go_wp2_with fail
    refine (HT.out _).mono ?_
    rintro e w2 ⟨rfl, rfl⟩
    go_wp2_with fail
    replace HN := hide hn
    have hk : Blk (((w1.setCell ⟨w.heap.size + 1, 0, none⟩ (.int .i64 (n / 30))).setCell ⟨w.heap.size + 1, 1, none⟩ (.bool (n / 15 % 2 == 1))).setCell ⟨w.heap.size + 1, 2, none⟩ (.int .i64 (n % 15 + 1))) (w.heap.size + 1) 50 #[(.int .i64 (n / 30)), (.bool (n / 15 % 2 == 1)), (.int .i64 (n % 15 + 1))] := by simpa using ((K1.out.set_ 0 (.int .i64 (n / 30))).set_ 1 (.bool (n / 15 % 2 == 1))).set_ 2 (.int .i64 (n % 15 + 1))
    obtain ⟨-, x0, x1, x2, -⟩ := blk3 hk
    have HE : Below w.heap.size w (((w1.setCell ⟨w.heap.size + 1, 0, none⟩ (.int .i64 (n / 30))).setCell ⟨w.heap.size + 1, 1, none⟩ (.bool (n / 15 % 2 == 1))).setCell ⟨w.heap.size + 1, 2, none⟩ (.int .i64 (n % 15 + 1))) := ((HB1.out.setCell (by dsimp only; omega) _).setCell (by dsimp only; omega) _).setCell (by dsimp only; omega) _
    refine ⟨rfl, .tuple #[.agg #[(.int .i64 (n / 30)), (.bool (n / 15 % 2 == 1)), (.int .i64 (n % 15 + 1))], .int .i64 n, .int .i64 0], by simp [results, Tryd.results25, go_sem, x0, x1, x2, HN.out], ?_⟩
    exact ⟨rfl, HE⟩
end Go.Proofs.YtlkkkgpcjdemdaaDoor
/- Song: Odd, walked. -/
namespace Go.Proofs.YtlkkkgpcjdemdaaDoor
open Go Go.RowKit Go.Shelf
attribute [local go_sem] Oper.semAt_some
set_option maxHeartbeats 8000000
set_option maxRecDepth 100000
theorem own_keep {W W' : World} {base : Nat} {e : TypeId} {size n : Nat} {v : Value} {xs : List Value} (ho : W.ownsRow base e size v n xs) (hk : ∀ g, v.ownBlock = some g → W'.heap[g]? = W.heap[g]?) : W'.ownsRow base e size v n xs := by
  refine ⟨ho.1, ?_⟩
  rcases ho.2 with h2 | ⟨g, cap, cur, rfl, h3, h4, h5⟩
  · exact .inl h2
  · exact .inr ⟨g, cap, cur, rfl, h3, (hk g rfl).trans h4, h5⟩
theorem own_lt' {W : World} {base : Nat} {e : TypeId} {size n : Nat} {v : Value} {xs : List Value} (ho : W.ownsRow base e size v n xs) {g : Nat} (hg : v.ownBlock = some g) : g < W.heap.size := by
  rcases ho.2 with ⟨rfl, -⟩ | ⟨g', cap, cur, rfl, h3, h4, h5⟩
  · cases hg
  · injection hg with hg
    subst hg
    exact (Array.getElem?_eq_some_iff.1 h4).1
/-- two lists in the making, in the boxes p and q -/
def OdR (W : World) (p q n0 M : Nat) (l1 l2 : List Int) : Prop :=
  ∃ v1 v2, Blk W p 26 #[v1] ∧ Blk W q 26 #[v2] ∧ OwnJ W n0 v1 l1 ∧ OwnJ W n0 v2 l2 ∧ (∀ b, v1.ownBlock = some b → M ≤ b) ∧ (∀ b, v2.ownBlock = some b → M ≤ b) ∧ ∀ b, v1.ownBlock = some b → v2.ownBlock ≠ some b
theorem OdR.swap {W : World} {p q n0 M : Nat} {l1 l2 : List Int} (h : OdR W p q n0 M l1 l2) : OdR W q p n0 M l2 l1 := by
  obtain ⟨v1, v2, h1, h2, h3, h4, h5, h6, h7⟩ := h
  exact ⟨v2, v1, h2, h1, h4, h3, h6, h5, fun b e1 e2 => h7 b e2 e1⟩
theorem OdR.out {W W' : World} {p q n0 M a : Nat} {l1 l2 : List Int} (h : OdR W p q n0 M l1 l2) (ho : OutK a M W W') (hp : p < a) (hq : q < a) : OdR W' p q n0 M l1 l2 := by
  obtain ⟨v1, v2, h1, h2, h3, h4, h5, h6, h7⟩ := h
  exact ⟨v1, v2, ho.blk h1 (by omega), ho.blk h2 (by omega), ho.own h3 (fun g e => by have := h5 g e; omega), ho.own h4 (fun g e => by have := h6 g e; omega), h5, h6, h7⟩
theorem OdR.ext {W W' : World} {p q n0 M : Nat} {l1 l2 : List Int} (h : OdR W p q n0 M l1 l2) (hb : Below W.heap.size W W') : OdR W' p q n0 M l1 l2 := by
  obtain ⟨v1, v2, h1, h2, h3, h4, h5, h6, h7⟩ := h
  exact ⟨v1, v2, h1.ext hb, h2.ext hb, h3.ext hb, h4.ext hb, h5, h6, h7⟩
/-- what a push into the first of both leaves -/
def OdPush (W : World) (p q n0 M : Nat) (l1 l2 : List Int) (x : Int) : Prop :=
  ∃ A1 c1 A2 c2 w', Blk W p 26 #[.slice A1 l1.length c1] ∧
    (Builtin.append_ #[26, 26] 26 #[.slice A1 l1.length c1, .slice (some ⟨W.heap.size, 0, none⟩) 1 1]).run Tryd.prog (W.alloc (.cells #[.int .i64 x] 3)) = .ok (.slice A2 (l1.length + 1) c2) w' ∧
    Blk w' p 26 #[.slice A1 l1.length c1] ∧ OdR (w'.setCell ⟨p, 0, none⟩ (.slice A2 (l1.length + 1) c2)) p q n0 M (l1 ++ [x]) l2 ∧
    OutK M (w'.heap.size + 1) W w' ∧ ∀ k, k < M → k ≠ p → (w'.setCell ⟨p, 0, none⟩ (.slice A2 (l1.length + 1) c2)).heap[k]? = W.heap[k]?
theorem OdR.push {W : World} {p q n0 M : Nat} {l1 l2 : List Int} (h : OdR W p q n0 M l1 l2) (x : Int) (hl : l1.length ≤ 1000000) (hn : n0 ≤ W.heap.size) (hM : M ≤ W.heap.size) (hp : p < M) (hq : q < M) (hpq : p ≠ q) : OdPush W p q n0 M l1 l2 x := by
  obtain ⟨v1, v2, h1, h2, h3, h4, h5, h6, h7⟩ := h
  obtain ⟨v', w', hr, ho', hg', hv'⟩ := h3.push1 x hl hn
  obtain ⟨A1, c1, rfl⟩ := own_shape h3
  obtain ⟨A2, c2, rfl⟩ := own_shape ho'
  have hlen : (l1 ++ [x]).length = l1.length + 1 := by simp
  rw [hlen] at hr hv' ho'
  have hba : Below W.heap.size W (W.alloc (.cells #[.int .i64 x] 3)) := (Below.refl _ _).alloc (Nat.le_refl _) _
  have hne : some p ≠ (Value.slice A1 l1.length c1).ownBlock := fun e => by have := h5 p e.symm; omega
  have hneq : some q ≠ (Value.slice A1 l1.length c1).ownBlock := fun e => by have := h5 q e.symm; omega
  have hk : ∀ k, k < W.heap.size → (Value.slice A1 l1.length c1).ownBlock ≠ some k → w'.heap[k]? = W.heap[k]? := fun k hk e => (hg'.block k (Nat.lt_of_lt_of_le hk hba.size) (fun e2 => e e2.symm)).trans (hba.block k hk)
  have hkw : Blk w' p 26 #[.slice A1 l1.length c1] := (h1.ext hba).grown hg' hne
  refine ⟨A1, c1, A2, c2, w', h1, hr, hkw, ⟨_, v2, by simpa using hkw.set_ 0 (.slice A2 (l1.length + 1) c2), ?_, ?_, ?_, ?_, h6, ?_⟩, ?_, ?_⟩
  · exact ((h2.ext hba).grown hg' hneq).far (p := ⟨p, 0, none⟩) (fun e => hpq (by first | simpa using e | simpa using e.symm)) _
  · have h8 : OwnJ w' n0 (.slice A2 (l1.length + 1) c2) (l1 ++ [x]) := ho'
    exact own_keep h8 (fun g e => Below.heap_setCell _ _ _ g (fun e2 => own_blk_ne (g := p) h8 hkw (by decide) (by rw [e]; simp at e2; rw [e2])))
  · refine own_keep h4 (fun g e => (Below.heap_setCell _ _ _ g (fun e2 => ?_)).trans (hk g (own_lt' h4 e) (fun e2 => h7 g e2 e)))
    have := h6 g e
    dsimp only at e2
    omega
  · intro b e
    rcases hv' with h8 | h8
    · rw [h8] at e; exact h5 b e
    · rw [h8] at e; injection e with e; omega
  · intro b e e2
    rcases hv' with h8 | h8
    · rw [h8] at e; exact h7 b e e2
    · rw [h8] at e
      injection e with e
      have := own_lt' h4 e2
      omega
  · refine ⟨hg'.os.trans hba.os, hg'.tape.trans hba.tape, hg'.output.trans hba.output, Nat.le_trans hba.size hg'.size, fun k hk1 hk2 => hk k hk1 (fun e => ?_)⟩
    have := h5 k e
    have := hg'.size
    have := hba.size
    omega
  · intro k hk1 hk2
    exact (Below.heap_setCell _ _ _ k (fun e => hk2 (by simpa using e))).trans (hk k (by omega) (fun e => by have := h5 k e; omega))
/-- what Odd returns -/
def odR (m : Mo) (a b : Int) : List Int × List Int × Int :=
  if m.ok then if tmB a = true ∧ tmB b = true ∧ a ≤ b ∧ b - a ≤ 1000 then ((dyL a b 1).filter fun x => decide ((flF m x).2 = 3), (dyL a b 1).filter fun x => decide ((flF m x).2 = 2), 0) else ([], [], 3) else ([], [], 2)
def OdPost (m : Mo) (a b : Int) (w : World) (e : Ending) (w' : World) : Prop :=
  ∃ v1 v2, e = .returned (.tuple #[v1, v2, .int .i64 (odR m a b).2.2]) ∧ OwnJ w' w.heap.size v1 (odR m a b).1 ∧ OwnJ w' w.heap.size v2 (odR m a b).2.1 ∧ Below w.heap.size w w'
end Go.Proofs.YtlkkkgpcjdemdaaDoor
