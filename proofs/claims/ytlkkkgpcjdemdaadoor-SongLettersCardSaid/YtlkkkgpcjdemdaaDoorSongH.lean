/- Song: the law SongLetters: the row and the tied card. -/
import Derived.Test.YtlkkkgpcjdemdaaDoorSongG
import Derived.Test.YtlkkkgpcjdemdaaDoorRows
import Derived.ProofKit
import Derived.OpenShut
import Derived.Carry
import Derived.ChangeSame
import Derived.Deep.SlicePairs
import Derived.ChangeSlices
import Derived.Handed
import Derived.HandedShaped
import Derived.Shelf.Vars
import Derived.Deep.Fields
import Derived.ChangeMaps5
import Derived.Test.YtlkkkgpcjdemdaaDoorCards
import Derived.Test.YtlkkkgpcjdemdaaDoorTie
import Derived.LaidMore
import Derived.Lay
import Derived.SevenTiedAt
import Derived.Stop.Joined
set_option linter.unusedSimpArgs false
set_option linter.unusedVariables false
set_option linter.unnecessarySimpa false
/- Song: known, walked. -/
namespace Go.Proofs.YtlkkkgpcjdemdaaDoor
open Go Go.RowKit Go.Shelf
set_option maxHeartbeats 8000000
set_option maxRecDepth 100000
def agL : List UInt8 := [97, 103, 110, 105, 109, 32, 73, 108, 101, 32, 112, 117, 114, 111, 104, 105, 116, 97, 109]
theorem ag_chk : chkE agL = 0 := by kernel_rfl
theorem ag_way : scnT agL = [103, 108, 103, 103, 108, 103, 108, 108] := by kernel_rfl
theorem kn_scan (w : World) (hM : ML w) : Calls Tryd.prog 33 #[.string ⟨#[97, 103, 110, 105, 109, 32, 73, 108, 101, 32, 112, 117, 114, 111, 104, 105, 116, 97, 109]⟩] w fun e w' => e = .returned (.tuple #[.string ⟨#[103, 108, 103, 103, 108, 103, 108, 108]⟩, .int .i64 0]) ∧ Below w.heap.size w w' := by
  refine (scan_any ⟨#[97, 103, 110, 105, 109, 32, 73, 108, 101, 32, 112, 117, 114, 111, 104, 105, 116, 97, 109]⟩ agL rfl w (by decide) hM).mono ?_
  rintro e w' ⟨rfl, hb⟩
  rw [ag_chk, ag_way]
  exact ⟨rfl, hb⟩
theorem kn_count (w : World) : Calls Tryd.prog 41 #[.agg #[.string ⟨#[120, 120, 120, 120]⟩, .int .i64 6]] w fun e w' => e = .returned (.tuple #[.int .i64 6, .int .i64 0]) ∧ Below w.heap.size w w' := by
  refine (Count_any ⟨#[120, 120, 120, 120]⟩ [120, 120, 120, 120] rfl 6 w (by decide)).mono ?_
  rintro e w' ⟨rfl, hb⟩
  rw [show cnR [120, 120, 120, 120] 6 = (6, 0) from by kernel_rfl]
  exact ⟨rfl, hb⟩
theorem own_at0 {W : World} {base c : Nat} {A : Option Addr} {l : List Int} (h : OwnJ W base (.slice A l.length c) l) (hl : 0 < l.length) : ∃ g, A = some ⟨g, 0, none⟩ ∧ ∀ i, i < l.length → W.cell? ⟨g, i, none⟩ = some (.int .i64 (l.getD i 0)) := by
  have hli := h.li.2
  rcases h.2 with ⟨e, -⟩ | ⟨g, cap, cur, e, -⟩
  · injection e with e1 e2; omega
  · injection e with e1 e2
    subst e1
    refine ⟨g, rfl, fun i hi => ?_⟩
    obtain ⟨b, off, hA, -, hc⟩ := VR1.at_ hli hi
    injection hA with hA
    injection hA with e3 e4
    subst e3 e4
    rwa [Nat.zero_add] at hc
theorem gi_e : giE 100 [12, 6, 4, 3] = 0 := by kernel_rfl
theorem gi_l : gvL 100 [12, 6, 4, 3] = [48, 24, 16, 12] := by kernel_rfl
theorem kn_gifts (w : World) : Calls Tryd.prog 14 #[.int .i64 100, .slice (some ⟨w.heap.size, 0, none⟩) 4 4] (w.alloc (.cells #[.int .i64 12, .int .i64 6, .int .i64 4, .int .i64 3] 3)) fun e w' => ∃ g c, e = .returned (.tuple #[.slice (some ⟨g, 0, none⟩) 4 c, .int .i64 0]) ∧ (w'.cell? ⟨g, 0, none⟩ = some (.int .i64 48) ∧ w'.cell? ⟨g, 3, none⟩ = some (.int .i64 12)) ∧ Below w.heap.size w w' := by
  have hb0 : Below w.heap.size w (w.alloc (.cells #[.int .i64 12, .int .i64 6, .int .i64 4, .int .i64 3] 3)) := (Below.refl _ _).alloc (Nat.le_refl _) _
  have hL : LI (w.alloc (.cells #[.int .i64 12, .int .i64 6, .int .i64 4, .int .i64 3] 3)) (w.alloc (.cells #[.int .i64 12, .int .i64 6, .int .i64 4, .int .i64 3] 3)).heap.size (some ⟨w.heap.size, 0, none⟩) [12, 6, 4, 3] := fun _ => by
    refine ⟨w.heap.size, 0, rfl, by simp, fun k i hk hi => ?_⟩
    obtain rfl : i = 0 := by omega
    have h := (Blk.new w 3 #[.int .i64 12, .int .i64 6, .int .i64 4, .int .i64 3]).cell k
    rw [show 0 + k * 1 + 0 = k by omega, h]
    have hk : k < 4 := hk
    rcases (by omega : k = 0 ∨ k = 1 ∨ k = 2 ∨ k = 3) with rfl | rfl | rfl | rfl <;> rfl
  refine (gifts_any 100 (some ⟨w.heap.size, 0, none⟩) 4 [12, 6, 4, 3] (w.alloc (.cells #[.int .i64 12, .int .i64 6, .int .i64 4, .int .i64 3] 3)) hL (by decide)).mono ?_
  rintro e w' ⟨v, rfl, ho, hb⟩
  rw [gi_e, if_pos rfl, gi_l] at ho
  rw [gi_e]
  obtain ⟨A, c, rfl⟩ := own_shape ho
  obtain ⟨g, rfl, hc⟩ := own_at0 ho (by decide)
  exact ⟨g, c, rfl, ⟨hc 0 (by decide), hc 3 (by decide)⟩, hb0.trans (hb.mono hb0.size)⟩
theorem bo_r : boR 17 [(1, 2), (1, 3), (1, 9)] = (1, [9, 6, 2], 0) := by kernel_rfl
theorem kn_borrow (w : World) : Calls Tryd.prog 17 #[.int .i64 17, .slice (some ⟨w.heap.size, 0, none⟩) 3 3] (w.alloc (.cells #[.int .i64 1, .int .i64 2, .int .i64 1, .int .i64 3, .int .i64 1, .int .i64 9] 37)) fun e w' => ∃ g c, e = .returned (.tuple #[.int .i64 1, .slice (some ⟨g, 0, none⟩) 3 c, .int .i64 0]) ∧ (w'.cell? ⟨g, 0, none⟩ = some (.int .i64 9) ∧ w'.cell? ⟨g, 2, none⟩ = some (.int .i64 2)) ∧ Below w.heap.size w w' := by
  have hb0 : Below w.heap.size w (w.alloc (.cells #[.int .i64 1, .int .i64 2, .int .i64 1, .int .i64 3, .int .i64 1, .int .i64 9] 37)) := (Below.refl _ _).alloc (Nat.le_refl _) _
  have hL : PoR (w.alloc (.cells #[.int .i64 1, .int .i64 2, .int .i64 1, .int .i64 3, .int .i64 1, .int .i64 9] 37)) (w.alloc (.cells #[.int .i64 1, .int .i64 2, .int .i64 1, .int .i64 3, .int .i64 1, .int .i64 9] 37)).heap.size (some ⟨w.heap.size, 0, none⟩) [(1, 2), (1, 3), (1, 9)] := fun _ => by
    refine ⟨w.heap.size, 0, rfl, by simp, fun k i hk hi => ?_⟩
    have h := (Blk.new w 37 #[.int .i64 1, .int .i64 2, .int .i64 1, .int .i64 3, .int .i64 1, .int .i64 9]).cell (k * 2 + i)
    rw [show 0 + k * 2 + i = k * 2 + i by omega, h]
    have hk : k < 3 := hk
    rcases (by omega : i = 0 ∨ i = 1) with rfl | rfl <;> rcases (by omega : k = 0 ∨ k = 1 ∨ k = 2) with rfl | rfl | rfl <;> rfl
  refine (borrow_any 17 (some ⟨w.heap.size, 0, none⟩) 3 [(1, 2), (1, 3), (1, 9)] (w.alloc (.cells #[.int .i64 1, .int .i64 2, .int .i64 1, .int .i64 3, .int .i64 1, .int .i64 9] 37)) (by decide) hL).mono ?_
  rintro e w' ⟨v, rfl, ho, hb⟩
  rw [bo_r] at ho ⊢
  dsimp only at ho ⊢
  obtain ⟨A, c, rfl⟩ := own_shape ho
  obtain ⟨g, rfl, hc⟩ := own_at0 ho (by decide)
  exact ⟨g, c, rfl, ⟨hc 0 (by decide), hc 2 (by decide)⟩, hb0.trans (hb.mono hb0.size)⟩
theorem kn_falls (w : World) : Calls Tryd.prog 26 #[.agg #[.int .i64 59, .int .i64 60, .int .i64 0], .int .i64 59] w fun e w' => e = .returned (.tuple #[.int .i64 58, .int .i64 3, .int .i64 0]) ∧ Below w.heap.size w w' := by
  refine (Falls_any ⟨59, 60, 0⟩ 59 w).mono ?_
  rintro e w' ⟨rfl, hb⟩
  rw [show fsF ⟨59, 60, 0⟩ 59 = (58, 3, 0) from by kernel_rfl]
  exact ⟨rfl, hb⟩
theorem sknown_any (w : World) (hM : ML w) : Calls Tryd.prog 13 #[] w fun e w' => e = .returned (.bool true) ∧ Below w.heap.size w w' := by
  go_enter Tryd.func13, Tryd.ntmps13
  go_wp2_with fail
  refine (kn_scan _ hM).mono ?_
  rintro e w1 ⟨rfl, hb1⟩
  have B1 := hide hb1
  clear hb1
  go_wp2_with fail
  refine (kn_count _).mono ?_
  rintro e w2 ⟨rfl, hb2⟩
  have B2 := hide (B1.out.trans (hb2.mono B1.out.size))
  clear hb2 B1
  go_wp2_with fail
  refine (kn_gifts w2).mono ?_
  rintro e w3 ⟨g3, c3, rfl, hc3, hb3⟩
  have C3 := hide hc3
  have B3 := hide (B2.out.trans (hb3.mono B2.out.size))
  clear hb3 B2 hc3
  go_wp2_with fail
  refine (kn_borrow w3).mono ?_
  rintro e w4 ⟨g4, c4, rfl, hc4, hb4⟩
  have C4 := hide hc4
  have B4 := hide (B3.out.trans (hb4.mono B3.out.size))
  replace C3 := hide (And.intro ((hb4.cell (cell_lt C3.out.1)).trans C3.out.1) ((hb4.cell (cell_lt C3.out.2)).trans C3.out.2))
  clear hb4 B3 hc4
  go_wp2_with fail
  refine (kn_falls _).mono ?_
  rintro e w5 ⟨rfl, hb5⟩
  have B5 := hide (B4.out.trans (hb5.mono B4.out.size))
  obtain ⟨d1, d2⟩ := C3.out
  obtain ⟨d3, d4⟩ := C4.out
  have e1 := (hb5.cell (cell_lt d1)).trans d1
  have e2 := (hb5.cell (cell_lt d2)).trans d2
  have e3 := (hb5.cell (cell_lt d3)).trans d3
  have e4 := (hb5.cell (cell_lt d4)).trans d4
  clear hb5 B4 d1 d2 d3 d4 C3 C4
  go_wp2_with fail
  go_ret
  exact ⟨rfl, B5.out⟩
end Go.Proofs.YtlkkkgpcjdemdaaDoor
/- How a law's statement follows from its walk; arguments opened as readings. -/
namespace Go.Proofs.YtlkkkgpcjdemdaaDoor
open Go Go.RowKit Go.ChangeShapes Go.WideShapes Go.ChangeAt
set_option maxRecDepth 100000
theorem own_knob : ownKnob Tryd.prog.godebug = none := by kernel_rfl
theorem laidOut : laidOutB Tryd.prog = true := by kernel_rfl
section
variable {H : Type} {enc : TypeId × Value → H}
/-- arguments read behind the call as before, if below the heap's old size nothing has turned -/
theorem stay_all {W W' : World} (hb : Below W.heap.size W W') {sp : Nat → Bool} : ∀ {ts : List TypeId} {vs : List Value} {ds : List (DataW H)} {ps : List MemPlace},
    (∀ t ∈ ts, Tryd.prog.readableRec t = true ∧ t < Tryd.prog.types.size) → DataW.TrodAll enc Tryd.prog W 0 (fun _ => true) true ts vs ds ps → (∀ x ∈ ps, x.block < W.heap.size) → (∀ x ∈ ps, sp x.block = true) →
    DataW.TrodAll enc Tryd.prog W' 0 sp true ts vs ds ps
  | [], _, _, _, _, h, _, _ => by
    obtain ⟨rfl, rfl, rfl⟩ := trodAll_nil h
    exact trodAll_mk0
  | t :: ts, _, _, _, hr, h, hlt, hsp => by
    obtain ⟨v, vs, d, ds, p, q, rfl, rfl, rfl, h0, r0⟩ := trodAll_cons h
    have k := hr t (by simp)
    exact trodAll_cons_mk (WideElems.Trod_stays laidOut k.1 k.2 h0 (fun x hx => hb.same (hlt x (by simp [hx]))) (fun x hx => hsp x (by simp [hx])))
      (stay_all hb (fun t ht => hr t (by simp [ht])) r0 (fun x hx => hlt x (by simp [hx])) (fun x hx => hsp x (by simp [hx])))
/-- a law that returned true and turned nothing old -/
theorem law_post {f : Func} {s : ChangeSpec} {apart fresh handsOn again : Bool} {W W' : World} {args : Array Value} {ds gs : List (DataW H)} {before : List MemPlace}
    (hW : DataW.Whole enc Tryd.prog f.params.toList s.vars apart W args.toList ds gs before) (hb : Below W.heap.size W W')
    (hvs : s.vars = []) (hr1 : f.resultTypes = #[4])
    (hpar : f.params.toList.all (fun t => Tryd.prog.readableRec t && decide (t < Tryd.prog.types.size)) = true)
    (hfn : (s.fn H ds).results = [.lit (.bool true)] ∧ (s.fn H ds).args = ds ∧ (s.fn H ds).vars = []) :
    s.post enc Tryd.prog f apart fresh handsOn again W args (.bool true) W' := by
  have hW0 := hW
  have hlt : ∀ p ∈ before, p.block < W.heap.size := fun p hp => hW.lt p hp
  have hold : ∀ p ∈ before, (fun b => decide (b < W.heap.size)) p.block = true := fun p hp => by simpa using hlt p hp
  obtain ⟨p, q, hA, hV, rfl, hz, hn⟩ := hW
  rw [hvs] at hV
  obtain ⟨rfl, rfl⟩ := trodVars_none hV
  simp only [List.append_nil] at *
  have hk : ∀ t ∈ f.params.toList, Tryd.prog.readableRec t = true ∧ t < Tryd.prog.types.size := by
    intro t ht
    have := List.all_eq_true.1 hpar t ht
    simpa using this
  have hargs : ∀ sp : Nat → Bool, (∀ x ∈ p, sp x.block = true) → DataW.TrodAll enc Tryd.prog W' 0 sp true f.params.toList args.toList (s.fn H (ds ++ [])).args p := fun sp hsp => by
    rw [List.append_nil, hfn.2.1]; exact stay_all hb hk hA hlt hsp
  have hvars : ∀ sp : Nat → Bool, DataW.TrodVars enc Tryd.prog W' sp s.vars (s.fn H (ds ++ [])).vars [] := fun sp => by
    rw [hvs, List.append_nil, hfn.2.2]; exact rfl
  have hres : ∀ (b : Nat) (sp : Nat → Bool) (hd : Bool), DataW.TrodAll enc Tryd.prog W' b sp hd f.resultTypes.toList ((Value.bool true).resultList f.resultTypes.size) (s.fn H (ds ++ [])).results [] := fun b sp hd => by
    rw [List.append_nil, hfn.1, hr1]
    exact trodAll_cons_mk (shut_bool Tryd.underlying4 _) trodAll_mk0
  refine ⟨ds, [], p, [], p, [], hW0, hres _ _ _, hargs _ hold, hvars _, World.keptBut_mono (fun x hx => ⟨hx, Or.inr (by simpa using hx)⟩) (hb.frame (· ∈ p)), fun _ => ?_⟩
  refine ⟨ok_one hr1 rfl (okWide_bool_mk Tryd.underlying4 _), _, _, ([] ++ p) ++ [], ⟨[] ++ p, [], trodAll_append (hargs _ (fun _ _ => rfl)) (hres _ _ _), hvars (fun _ => true), rfl, ?_, ?_⟩, ?_⟩
  · intro b off hp
    have hin : MemPlace.cell b off ∈ p := by simpa using hp
    rw [hb.frozen (hlt _ hin)]
    exact hz b off hin
  · intro ha
    simpa using hn ha
  · intro x hx _
    simpa using hx
/-- a slice of structs of two cells: the readings of its elements -/
theorem open_pairs_c {W : World} {t e : TypeId} {f0 f1 : Field} {v : Value} {x : DataW H × List MemPlace} {fuel : Nat} (ht : Tryd.prog.underlying t = some (.slice e)) (he : Tryd.prog.underlying e = some (.struct #[f0, f1]))
    (ce : Tryd.prog.cellsOf e = 2) (o0 : f0.offset = 0) (o1 : f1.offset = 1) (c0 : Tryd.prog.cellsOf f0.type = 1) (c1 : Tryd.prog.cellsOf f1.type = 1)
    (h : DataW.trod enc Tryd.prog W 0 (fun _ => true) true fuel t [v] = some x) (hlt : ∀ y ∈ x.2, y.block < W.heap.size) :
    ∃ A n c V0 V1, v = .slice A n c ∧ n ≤ maxLen ∧ n ≤ c ∧ P2 W W.heap.size A n V0 V1 ∧ ∀ i, i < n → ∃ m x0 x1, DataW.trod enc Tryd.prog W 0 (fun _ => true) true m f0.type [V0 i] = some x0 ∧ DataW.trod enc Tryd.prog W 0 (fun _ => true) true m f1.type [V1 i] = some x1 ∧
      (∀ y ∈ x0.2, y.block < W.heap.size) ∧ (∀ y ∈ x1.2, y.block < W.heap.size) := by
  rcases Deep.open_slice_pairs ht he ce o0 o1 c0 c1 h with ⟨h1, -⟩ | ⟨a, len, cap, m, n, V0, V1, D0, D1, P0, P1, h1, hb, hl, hm, hmm, hx, hc⟩
  · injection h1 with h1
    subst h1
    exact ⟨none, 0, 0, fun _ => .nilIface, fun _ => .nilIface, rfl, by simp [maxLen], Nat.le_refl _, ER.nil _ _ _ _ _, fun i hi => absurd hi (by omega)⟩
  · injection h1 with h1
    subst h1
    simp only [if_true] at hmm
    subst hmm
    refine ⟨some a, len, m, V0, V1, rfl, by omega, hl, fun hn => ?_, fun i hi => ?_⟩
    · have h0 := (hc 0 (by omega)).1
      obtain ⟨b, off, spot⟩ := a
      have hsp : spot = none := by simpa [Addr.add] using World.cell?_spot h0
      subst hsp
      refine ⟨b, off, rfl, ?_, fun k i hk hi => ?_⟩
      · have hb1 := hlt (.cell b (off + 0)) (by
          rw [hx]
          exact List.mem_append_left _ (MemPlace.mem_row.2 ⟨0, by omega, rfl⟩))
        exact hb1
      · have hk2 := hc k (by omega)
        have q0 := hk2.1
        have q1 := hk2.2.1
        rw [add_lit'] at q0 q1
        rcases (by omega : i = 0 ∨ i = 1) with rfl | rfl
        · simpa using q0
        · simpa [Nat.add_assoc] using q1
    · have hi2 := hc i (by omega)
      refine ⟨n, _, _, hi2.2.2.1, hi2.2.2.2, fun y hy => hlt y ?_, fun y hy => hlt y ?_⟩
      · rw [hx]; exact List.mem_append_right _ (List.mem_flatMap.2 ⟨i, by simp; omega, List.mem_append_left _ hy⟩)
      · rw [hx]; exact List.mem_append_right _ (List.mem_flatMap.2 ⟨i, by simp; omega, List.mem_append_right _ hy⟩)
/-- a slice of ints -/
theorem open_ints_c {W : World} {t : TypeId} {v : Value} {x : DataW H × List MemPlace} {fuel : Nat} (ht : Tryd.prog.underlying t = some (.slice 3))
    (h : DataW.trod enc Tryd.prog W 0 (fun _ => true) true fuel t [v] = some x) (hlt : ∀ y ∈ x.2, y.block < W.heap.size) :
    ∃ A n c z, v = .slice A n c ∧ n ≤ maxLen ∧ n ≤ c ∧ IR W W.heap.size A n z ∧ ∀ i, i < n → -9223372036854775808 ≤ z i ∧ z i ≤ 9223372036854775807 := by
  rcases open_ints ht Tryd.underlying3 (by kernel_rfl) h with ⟨h1, -⟩ | ⟨a, len, cap, zs, h1, hb, hl, hm, hz, hx, hc, hwf⟩
  · injection h1 with h1
    subst h1
    exact ⟨none, 0, 0, fun _ => 0, rfl, by simp [maxLen], Nat.le_refl _, ER.nil _ _ _ _ _, fun i hi => absurd hi (by omega)⟩
  · injection h1 with h1
    subst h1
    simp only [if_true] at hz
    refine ⟨some a, len, cap, fun i => zs.getD i 0, rfl, by omega, hl, fun hn => ?_, fun i hi => ?_⟩
    · have h0 := hc 0 (by omega)
      obtain ⟨b, off, spot⟩ := a
      have hsp : spot = none := by simpa [Addr.add] using World.cell?_spot h0
      subst hsp
      refine ⟨b, off, rfl, ?_, fun k i hk hi => ?_⟩
      · have hb1 := hlt (.cell b (off + 0)) (by
          rw [hx]
          exact MemPlace.mem_row.2 ⟨0, by omega, rfl⟩)
        exact hb1
      · obtain rfl : i = 0 := by omega
        have := hc k (by omega)
        rw [add_lit'] at this
        simpa using this
    · have h1 : zs.getD i 0 ∈ zs := by
        rw [List.getD_eq_getElem?_getD, List.getElem?_eq_getElem (by omega)]
        exact List.getElem_mem _
      have := hwf _ h1
      simp only [Lit.wf, Bool.and_eq_true, decide_eq_true_eq] at this
      simpa [IntKind.min, IntKind.max, IntKind.signed, IntKind.bits] using this
theorem int_of_trod {W : World} {t : TypeId} {v : Value} {x : DataW H × List MemPlace} {fuel : Nat} (ht : Tryd.prog.underlying t = some (.int .i64)) (h : DataW.trod enc Tryd.prog W 0 (fun _ => true) true fuel t [v] = some x) :
    v = .int .i64 (intOf v) ∧ -9223372036854775808 ≤ intOf v ∧ intOf v ≤ 9223372036854775807 := by
  obtain ⟨z, hz, -, hw⟩ := DataW.trod_int ht h
  injection hz with hz
  subst hz
  simp only [Lit.wf, Bool.and_eq_true, decide_eq_true_eq] at hw
  exact ⟨rfl, by simpa [intOf, IntKind.min, IntKind.max, IntKind.signed, IntKind.bits] using hw⟩
theorem cells_slice {A : Option Addr} {n c : Nat} : (Value.slice A n c).cells.toList = [.slice A n c] := rfl
/-- a slice of structs of two ints -/
theorem open_pairs {r : Reach} {b0 : Nat} {W : World} {t e : TypeId} {f0 f1 : Field} {v : Value} {d : DataW H} {p : List MemPlace} (ht : Tryd.prog.underlying t = some (.slice e)) (he : Tryd.prog.underlying e = some (.struct #[f0, f1]))
    (ce : Tryd.prog.cellsOf e = 2) (o0 : f0.offset = 0) (o1 : f1.offset = 1) (c0 : Tryd.prog.cellsOf f0.type = 1) (c1 : Tryd.prog.cellsOf f1.type = 1)
    (k0 : Tryd.prog.underlying f0.type = some (.int .i64)) (k1 : Tryd.prog.underlying f1.type = some (.int .i64)) (hval : Value.okWide Tryd.prog W r b0 t v)
    (h : DataW.Trod enc Tryd.prog W 0 (fun _ => true) true t v d p) (hlt : ∀ x ∈ p, x.block < W.heap.size) :
    ∃ A n c x y, v = .slice A n c ∧ n ≤ maxLen ∧ n ≤ c ∧ PI W W.heap.size A n x y := by
  obtain ⟨fuel, h⟩ := h
  obtain ⟨A, n, c, rfl⟩ := okWide_slice ht hval
  rw [cells_slice] at h
  obtain ⟨A', n', c', V0, V1, h1, hn, hnc, hP, hV⟩ := open_pairs_c ht he ce o0 o1 c0 c1 h hlt
  injection h1 with h1 h2 h3
  subst h1 h2 h3
  refine ⟨A, n, c, fun i => intOf (V0 i), fun i => intOf (V1 i), rfl, hn, hnc, fun hn0 => ?_⟩
  obtain ⟨b, off, hA, hb, hc⟩ := hP hn0
  refine ⟨b, off, hA, hb, fun k i hk hi => ?_⟩
  obtain ⟨m, x0, x1, g0, g1, -, -⟩ := hV k hk
  rw [hc k i hk hi]
  rcases (by omega : i = 0 ∨ i = 1) with rfl | rfl
  · simpa using (int_of_trod k0 g0).1
  · simpa using (int_of_trod k1 g1).1
end
end Go.Proofs.YtlkkkgpcjdemdaaDoor
/- Song: how a law's statement follows from its walk, the world's shape kept; moons opened. -/
namespace Go.Proofs.YtlkkkgpcjdemdaaDoor
open Go Go.RowKit Go.ChangeShapes Go.WideShapes Go.ChangeAt
set_option maxRecDepth 100000
theorem rih_and_shaped {H : Type} {enc : TypeId × Value → H} {a : Assume} {C : Checked} {os : Os} {f : FuncId} {fn : Func} {s : ChangeSpec} {conds : List PathCond} {apart fresh handsOn again : Bool} {X : World → Array Value → Prop}
    (hX : ∀ (w w' : World) (args : Array Value), w.heap = w'.heap → X w args → X w' args)
    (own : ownKnob C.prog.godebug = none) (started : os.Started) (noInit : C.prog.inits.idxOf? f = none) (hfn : C.prog.funcs[f]? = some fn)
    (witness : ∃ (w : World) (tape : Tape) (i : Input), w.os = os ∧ (w.forCall tape i).Shaped C.prog ∧ i.vars = [] ∧ Input.okWide C.prog (w.forCall tape i) .any w.heap.size f i ∧
      ((s.pre enc C.prog fn conds apart (w.forCall tape i).memory i.args ∧ X (w.forCall tape i).memory i.args) ∧ sizedMet enc C.prog fn (OpenSpec.ofChange s) apart (w.forCall tape i).memory i.args) ∧ a.holds C.prog (lone (Frame.enter C.prog f i.args .normal) [] (w.forCall tape i)))
    (contract : ∀ (W : World) (base : Nat) (args : Array Value) (ds gs : List (DataW H)) (before : List MemPlace),
      (∀ (j : Nat) t v, fn.params[j]? = some t → args[j]? = some v → Value.okWide C.prog W .any base t v) →
      DataW.Whole enc C.prog fn.params.toList s.vars apart W args.toList ds gs before →
      W.ShapedOpen C.prog → X W args →
      Calls C.prog f args W fun e W' => ∃ v, e = .returned v ∧ s.post enc C.prog fn apart fresh handsOn again W args v W') :
    ReturnsInHanded a C os f .any (fun w args => (s.pre enc C.prog fn conds apart w args ∧ X w args) ∧ sizedMet enc C.prog fn (OpenSpec.ofChange s) apart w args) (s.post enc C.prog fn apart fresh handsOn again) := by
  refine returnsInHanded_of_calls own started noInit witness ?_
  intro w tape i _ hsh _ hok hpre _
  obtain ⟨_, _, _, fn', hfn', _, _, _, _, hval⟩ := hok
  have e : fn' = fn := Option.some.inj (hfn'.symm.trans hfn)
  subst e
  obtain ⟨⟨⟨ds, gs, before, hw, hc⟩, hx⟩, hz⟩ := hpre
  have hw' := DataW.Whole.of_heap (w' := w.forCall tape i) (by rfl) hw
  refine (contract (w.forCall tape i) w.heap.size i.args ds gs before hval hw' hsh (hX _ _ _ (by rfl) hx)).mono fun e W' ⟨v, he, hp⟩ => ?_
  subst he
  exact ChangeSpec.post_blind hp
theorem ml_shaped {W : World} (h : W.ShapedOpen Tryd.prog) : ML W :=
  cell_of_shapedOpen_int (g := lays144_ren.g 1) (zero := #[.int .i64 0]) (t := 3) h (of_decide_eq_true (by kernel_rfl)) (by kernel_rfl) rfl (by kernel_rfl) (by kernel_rfl) Tryd.underlying3
section
variable {H : Type} {enc : TypeId × Value → H} {r : Reach} {b0 : Nat} {W : World} {v : Value} {d : DataW H} {p : List MemPlace}
theorem arr3S {cs : Array Value} (h : cs.size = 3) : ∃ a b c, cs = #[a, b, c] := by
  rcases cs with ⟨l⟩
  match l, h with
  | [a, b, c], _ => exact ⟨a, b, c, rfl⟩
theorem open_intS (hval : Value.okWide Tryd.prog W r b0 3 v) (h : DataW.Trod enc Tryd.prog W 0 (fun _ => true) true 3 v d p) : ∃ x, v = .int .i64 x ∧ -9223372036854775808 ≤ x ∧ x ≤ 9223372036854775807 := by
  obtain ⟨z, rfl, rfl, rfl, -⟩ := open_int Tryd.underlying3 hval h
  obtain ⟨fuel, h⟩ := h
  have e := int_of_trod Tryd.underlying3 h
  exact ⟨z, rfl, e.2⟩
theorem open_moon (hval : Value.okWide Tryd.prog W r b0 47 v) (h : DataW.Trod enc Tryd.prog W 0 (fun _ => true) true 47 v d p) : ∃ a b c, v = .agg #[.int .i64 a, .int .i64 b, .int .i64 c] := by
  obtain ⟨cs, rfl, hsz⟩ := okWide_struct Tryd.underlying47 hval
  obtain ⟨a, b, c, rfl⟩ := arr3S (hsz.trans (by kernel_rfl))
  obtain ⟨fuel, h⟩ := h
  replace h : DataW.trod enc Tryd.prog W 0 (fun _ => true) true fuel 47 [a, b, c] = _ := h
  obtain ⟨xs, m', -, hxy, -, hxl, hf2⟩ := DataW.trod_struct Tryd.underlying47 h
  have g0 := hf2 0 _ rfl
  have g1 := hf2 1 _ rfl
  have g2 := hf2 2 _ rfl
  rw [List.getElem?_eq_getElem (by rw [hxl]; decide)] at g0 g1 g2
  have k0 : DataW.trod enc Tryd.prog W 0 (fun _ => true) true m' 3 [a] = _ := g0
  have k1 : DataW.trod enc Tryd.prog W 0 (fun _ => true) true m' 3 [b] = _ := g1
  have k2 : DataW.trod enc Tryd.prog W 0 (fun _ => true) true m' 3 [c] = _ := g2
  have h0 := (int_of_trod Tryd.underlying3 k0).1
  have h1 := (int_of_trod Tryd.underlying3 k1).1
  have h2 := (int_of_trod Tryd.underlying3 k2).1
  exact ⟨_, _, _, by rw [h0, h1, h2]⟩
end
end Go.Proofs.YtlkkkgpcjdemdaaDoor
/- Song: arguments opened: texts. -/
namespace Go.Proofs.YtlkkkgpcjdemdaaDoor
open Go Go.RowKit Go.ChangeShapes Go.WideShapes Go.ChangeAt
section
variable {H : Type} {enc : TypeId × Value → H} {r : Reach} {b0 : Nat} {W : World} {v : Value} {d : DataW H} {p : List MemPlace}
set_option maxRecDepth 100000
theorem open_textS (hval : Value.okWide Tryd.prog W r b0 9 v) (h : DataW.Trod enc Tryd.prog W 0 (fun _ => true) true 9 v d p) : ∃ s : ByteArray, v = .string s ∧ s.size ≤ maxLen := by
  obtain ⟨s, h1, -, -, h2⟩ := Go.ChangeMaps.open_string Tryd.underlying9 hval h
  exact ⟨s, h1, h2⟩
end
end Go.Proofs.YtlkkkgpcjdemdaaDoor
/- Song, plain: syllables keep all letters, have one vowel each, and there are as many as vowels. -/
namespace Go.Proofs.YtlkkkgpcjdemdaaDoor
open Go Go.RowKit Go.Shelf
set_option maxHeartbeats 2000000
set_option maxRecDepth 100000
theorem tl_all (last : Bool) (h v t : List UInt8) : tlT last h v t ++ tlN last h v t = tlX h v t := by
  unfold tlT tlN
  split
  · rename_i hk
    rw [List.dropLast_eq_take, List.take_append_drop]
  · rw [List.append_nil]
theorem tl_last (h v t : List UInt8) : tlT true h v t = tlX h v t := by
  unfold tlT tlK; simp
/-- nothing is lost -/
theorem syl_all : ∀ (r h v t : List UInt8), (v = [] → t = []) → (syl r h v t).flatMap (·.1) = tlX h v t ++ r
  | [], h, v, t, _ => by simp [syl, tlS, tl_last]
  | c :: r, h, v, t, hv => by
    unfold syl
    by_cases hc : vwB c.toNat
    · rw [if_pos hc]
      by_cases h0 : v = []
      · rw [if_pos h0]
        have ht := hv h0
        subst h0 ht
        rw [syl_all r h [c] [] (fun e => by cases e)]
        simp [tlX]
      · rw [if_neg h0]
        rw [List.flatMap_cons, syl_all r (tlN false h v t) [c] [] (fun e => by cases e)]
        show tlT false h v t ++ (tlX (tlN false h v t) [c] [] ++ r) = _
        rw [← tl_all false h v t]
        simp [tlX]
    · rw [if_neg hc]
      by_cases h0 : v = []
      · rw [if_pos h0]
        have ht := hv h0
        subst h0 ht
        rw [syl_all r (h ++ [c]) [] [] (fun _ => rfl)]
        simp [tlX]
      · rw [if_neg h0, syl_all r h v (t ++ [c]) (fun e => absurd e h0)]
        simp [tlX]
def nvw (l : List UInt8) : Prop := ∀ b ∈ l, vwB b.toNat = false
/-- how many vowels -/
def vwN (l : List UInt8) : Nat := l.countP fun b => vwB b.toNat
/-- how many letters stand ahead of the first vowel -/
def ahN (l : List UInt8) : Nat := (l.takeWhile fun b => !vwB b.toNat).length
theorem nvw_app {a b : List UInt8} (h1 : nvw a) (h2 : nvw b) : nvw (a ++ b) := fun x hx => by
  rcases List.mem_append.1 hx with h | h
  · exact h1 x h
  · exact h2 x h
theorem vwN_nvw {l : List UInt8} (h : nvw l) : vwN l = 0 := by
  unfold vwN
  rw [List.countP_eq_zero]
  intro b hb
  rw [h b hb]; exact Bool.false_ne_true
theorem vwN_syl {h t : List UInt8} {d : UInt8} (hh : nvw h) (ht : nvw t) (hd : vwB d.toNat = true) : vwN ((h ++ [d]) ++ t) = 1 ∧ ahN ((h ++ [d]) ++ t) = h.length := by
  constructor
  · have e : vwN ((h ++ [d]) ++ t) = vwN h + vwN [d] + vwN t := by unfold vwN; rw [List.countP_append, List.countP_append]
    rw [e, vwN_nvw hh, vwN_nvw ht]
    unfold vwN
    simp [hd]
  · unfold ahN
    rw [List.append_assoc, List.takeWhile_append_of_pos (fun b hb => by rw [hh b hb]; rfl)]
    simp [hd]
/-- what a syllable's tail leaves -/
theorem tl_two (last : Bool) (h : List UInt8) (d : UInt8) (t : List UInt8) (ht : nvw t) : ∃ t', nvw t' ∧ tlT last h [d] t = (h ++ [d]) ++ t' ∧ nvw (tlN last h [d] t) ∧ (tlN last h [d] t).length ≤ 1 := by
  unfold tlT tlN
  split
  · rename_i hk
    unfold tlK at hk
    rw [Bool.and_eq_true, decide_eq_true_iff] at hk
    have hne : t ≠ [] := by
      intro e
      subst e
      have := opn_le []
      simp at this
      rw [this] at hk
      simp at hk
    refine ⟨t.dropLast, fun b hb => ht b (List.dropLast_subset t hb), ?_, ?_, ?_⟩
    · unfold tlX
      rw [List.dropLast_append_of_ne_nil hne]
    · intro b hb
      unfold tlX at hb
      have hl : 0 < t.length := List.length_pos_iff.2 hne
      have e : ((h ++ [d]) ++ t).drop (((h ++ [d]) ++ t).length - 1) = t.drop (t.length - 1) := by
        rw [List.drop_append]
        have : ((h ++ [d]) ++ t).length - 1 = (h ++ [d]).length + (t.length - 1) := by simp; omega
        rw [this]
        rw [List.drop_eq_nil_of_le (by omega)]
        simp
      rw [e] at hb
      exact ht b (List.mem_of_mem_drop hb)
    · rw [List.length_drop]; omega
  · exact ⟨t, ht, rfl, fun b hb => (by cases hb), by simp⟩
/-- each syllable has one vowel; behind the first at most one letter stands ahead of it -/
theorem syl_one : ∀ (r h v t : List UInt8), nvw h → nvw t → (v = [] ∧ (r.any fun b => vwB b.toNat) = true ∨ ∃ d, v = [d] ∧ vwB d.toNat = true) → (v = [] → t = []) →
    (∀ x ∈ syl r h v t, vwN x.1 = 1) ∧ (∀ i, 0 < i → i < (syl r h v t).length → ahN ((syl r h v t).getD i ([], false)).1 ≤ 1) ∧ (v ≠ [] → h.length ≤ 1 → ∀ x ∈ syl r h v t, ahN x.1 ≤ 1)
  | [], h, v, t, hh, ht, hv, _ => by
    rcases hv with ⟨-, h1⟩ | ⟨d, rfl, hd⟩
    · simp at h1
    · have e : syl [] h [d] t = [tlS true h [d] t] := rfl
      have h1 : (tlS true h [d] t).1 = (h ++ [d]) ++ t := by show tlT true h [d] t = _; rw [tl_last]; rfl
      obtain ⟨g1, g2⟩ := vwN_syl hh ht hd
      rw [e]
      refine ⟨fun x hx => ?_, fun i hi hl => by simp at hl; omega, fun _ hl x hx => ?_⟩
      · rw [List.mem_singleton] at hx; subst hx; rw [h1]; exact g1
      · rw [List.mem_singleton] at hx; subst hx; rw [h1, g2]; exact hl
  | c :: r, h, v, t, hh, ht, hv, hvt => by
    unfold syl
    by_cases hc : vwB c.toNat
    · rw [if_pos hc]
      by_cases h0 : v = []
      · rw [if_pos h0]
        have ht0 := hvt h0
        subst h0 ht0
        obtain ⟨a1, a2, a3⟩ := syl_one r h [c] [] hh (fun b hb => by cases hb) (.inr ⟨c, rfl, hc⟩) (fun e => by cases e)
        exact ⟨a1, a2, fun e => absurd rfl e⟩
      · rw [if_neg h0]
        rcases hv with ⟨e, -⟩ | ⟨d, rfl, hd⟩
        · exact absurd e h0
        obtain ⟨t', n1, n2, n3, n4⟩ := tl_two false h d t ht
        obtain ⟨a1, a2, a3⟩ := syl_one r (tlN false h [d] t) [c] [] n3 (fun b hb => by cases hb) (.inr ⟨c, rfl, hc⟩) (fun e => by cases e)
        obtain ⟨g1, g2⟩ := vwN_syl hh n1 hd
        have a4 := a3 (by simp) n4
        refine ⟨fun x hx => ?_, fun i hi hl => ?_, fun _ hl x hx => ?_⟩
        · rcases List.mem_cons.1 hx with rfl | hx
          · show vwN (tlT false h [d] t) = 1; rw [n2]; exact g1
          · exact a1 x hx
        · obtain ⟨j, rfl⟩ : ∃ j, i = j + 1 := ⟨i - 1, by omega⟩
          rw [List.getD_cons_succ]
          refine a4 _ ?_
          rw [List.length_cons] at hl
          rw [List.getD_eq_getElem?_getD, List.getElem?_eq_getElem (by omega)]
          exact List.getElem_mem _
        · rcases List.mem_cons.1 hx with rfl | hx
          · show ahN (tlT false h [d] t) ≤ 1; rw [n2, g2]; exact hl
          · exact a4 x hx
    · rw [if_neg hc]
      have hc' : nvw [c] := fun b hb => by rw [List.mem_singleton] at hb; subst hb; simpa using hc
      by_cases h0 : v = []
      · rw [if_pos h0]
        have ht0 := hvt h0
        subst h0 ht0
        rcases hv with ⟨-, h1⟩ | ⟨d, e, -⟩
        · obtain ⟨a1, a2, a3⟩ := syl_one r (h ++ [c]) [] [] (nvw_app hh hc') ht (.inl ⟨rfl, by simpa [hc] using h1⟩) (fun _ => rfl)
          exact ⟨a1, a2, fun e => absurd rfl e⟩
        · cases e
      · rw [if_neg h0]
        rcases hv with ⟨e, -⟩ | ⟨d, rfl, hd⟩
        · exact absurd e h0
        exact syl_one r h [d] (t ++ [c]) hh (nvw_app ht hc') (.inr ⟨d, rfl, hd⟩) (fun e => by cases e)
/-- there are as many syllables as vowels -/
theorem syl_num : ∀ (r h v t : List UInt8), (syl r h v t).length = vwN r + if v = [] then (if vwN r = 0 then 1 else 0) else 1
  | [], h, v, t => by simp [syl, vwN]
  | c :: r, h, v, t => by
    have e : vwN (c :: r) = vwN r + if vwB c.toNat then 1 else 0 := by unfold vwN; rw [List.countP_cons]
    unfold syl
    by_cases hc : vwB c.toNat
    · rw [if_pos hc, e, if_pos hc]
      by_cases h0 : v = []
      · rw [if_pos h0, syl_num r h [c] t, if_neg (by simp), if_pos h0, if_neg (by omega)]
      · rw [if_neg h0, List.length_cons, syl_num r _ [c] [], if_neg (by simp), if_neg h0]
    · rw [if_neg hc, e, if_neg hc]
      by_cases h0 : v = []
      · rw [if_pos h0, syl_num r _ v t, Nat.add_zero]
      · rw [if_neg h0, syl_num r h v _, Nat.add_zero]
end Go.Proofs.YtlkkkgpcjdemdaaDoor
/- Song, plain: a line said twice. -/
namespace Go.Proofs.YtlkkkgpcjdemdaaDoor
open Go Go.RowKit Go.Shelf
set_option maxHeartbeats 2000000
set_option maxRecDepth 100000
theorem drop_self {l : List UInt8} {p : UInt8 → Bool} : l.dropWhile p = l ↔ ∀ a, l.head? = some a → p a = false := by
  cases l with
  | nil => simp
  | cons b r =>
    constructor
    · intro h a ha
      simp at ha
      subst ha
      rcases hb : p b with _ | _
      · rfl
      · rw [List.dropWhile_cons_of_pos hb] at h
        have h1 := (List.dropWhile_sublist (l := r) p).length_le
        rw [h] at h1
        simp at h1
        omega
    · intro h
      rw [List.dropWhile_cons_of_neg (by rw [h b rfl]; exact Bool.false_ne_true)]
theorem trim_iff (l : List UInt8) : Lib.trimB l 32 = l ↔ (∀ a, l.head? = some a → (a == 32) = false) ∧ ∀ a, l.reverse.head? = some a → (a == 32) = false := by
  unfold Lib.trimB Lib.trimLeftB Lib.trimRightB
  constructor
  · intro h
    have h1 : (l.reverse.dropWhile (· == (32 : UInt8))).reverse.length = l.length := by
      have a1 := (List.dropWhile_sublist (l := (l.reverse.dropWhile (· == (32 : UInt8))).reverse) (· == (32 : UInt8))).length_le
      have a2 := (List.dropWhile_sublist (l := l.reverse) (· == (32 : UInt8))).length_le
      rw [h] at a1
      simp only [List.length_reverse] at a1 a2 ⊢
      omega
    have h2 : l.reverse.dropWhile (· == (32 : UInt8)) = l.reverse := by
      refine (List.dropWhile_sublist _).eq_of_length ?_
      rw [List.length_reverse] at h1
      rw [h1, List.length_reverse]
    rw [h2, List.reverse_reverse] at h
    exact ⟨drop_self.1 h, drop_self.1 h2⟩
  · rintro ⟨h1, h2⟩
    rw [drop_self.2 h2, List.reverse_reverse, drop_self.2 h1]
theorem occ_two (l : List UInt8) (j : Nat) : Lib.occAt l [32, 32] j = true ↔ l[j]? = some 32 ∧ l[j + 1]? = some 32 := by
  unfold Lib.occAt
  rcases hd : l.drop j with _ | ⟨a, r⟩
  · have h1 : l[j]? = none := by
      rw [List.getElem?_eq_none_iff]
      exact List.drop_eq_nil_iff.1 hd
    rw [h1]
    simp
  · have h1 : l[j]? = some a := by rw [← List.head?_drop, hd]; rfl
    have h2 : l[j + 1]? = r.head? := by
      rw [← List.head?_drop, show l.drop (j + 1) = (l.drop j).drop 1 by rw [List.drop_drop], hd]
      rfl
    rw [h1, h2]
    cases r with
    | nil => simp
    | cons b r =>
      simp [List.isPrefixOf]
      constructor
      · rintro ⟨rfl, rfl⟩; exact ⟨rfl, rfl⟩
      · rintro ⟨rfl, rfl⟩; exact ⟨rfl, rfl⟩
theorem two_iff (l : List UInt8) : Lib.contains l [32, 32] = false ↔ ∀ j : Nat, ¬ (l[j]? = some (32 : UInt8) ∧ l[j + 1]? = some (32 : UInt8)) := by
  unfold Lib.contains
  rw [decide_eq_false_iff_not]
  rcases Lib.index_spec l [32, 32] with ⟨h1, h2⟩ | ⟨i, h1, h2, h3, -⟩
  · rw [h1]
    refine ⟨fun _ j hj => ?_, fun _ => by omega⟩
    have hlt := (List.getElem?_eq_some_iff.1 hj.1).1
    have := h2 j (by omega)
    rw [(occ_two l j).2 hj] at this
    cases this
  · rw [h1]
    refine ⟨fun h => by omega, fun h => ?_⟩
    exact absurd ((occ_two l i).1 h3) (h i)
theorem bad4_iff (l : List UInt8) : bad4 l = false ↔ l ≠ [] ∧ (∀ a, l.head? = some a → (a == 32) = false) ∧ (∀ a, l.reverse.head? = some a → (a == 32) = false) ∧ ∀ j : Nat, ¬ (l[j]? = some (32 : UInt8) ∧ l[j + 1]? = some (32 : UInt8)) := by
  unfold bad4
  rw [Bool.or_eq_false_iff, Bool.or_eq_false_iff, two_iff, bne_eq_false_iff_eq, trim_iff, List.isEmpty_eq_false_iff]
  constructor
  · rintro ⟨h1, ⟨h2, h3⟩, h4⟩; exact ⟨h1, h2, h3, h4⟩
  · rintro ⟨h1, h2, h3, h4⟩; exact ⟨h1, ⟨h2, h3⟩, h4⟩
theorem chk_parts {l : List UInt8} : chkE l = 0 ↔ l.length ≤ 300 ∧ bad4 l = false ∧ badC l = false ∧ anyTo (clash l) l.length = false ∧ novw l = false := by
  unfold chkE
  constructor
  · intro h
    split at h
    · omega
    split at h
    · omega
    split at h
    · omega
    split at h
    · omega
    split at h
    · omega
    rename_i h1 h2 h3 h4 h5
    exact ⟨by omega, by simpa using h2, by simpa using h3, by simpa using h4, by simpa using h5⟩
  · rintro ⟨h1, h2, h3, h4, h5⟩
    rw [if_neg (by omega), h2, h3, h4, h5]
    rfl
theorem any_no {p : Nat → Bool} {n : Nat} : anyTo p n = false ↔ ∀ j, j < n → p j = false := by
  rw [← Bool.not_eq_true, anyTo_iff]
  constructor
  · intro h j hj
    rcases hp : p j with _ | _
    · rfl
    · exact absurd ⟨j, hj, hp⟩ h
  · rintro h ⟨j, hj, hp⟩
    rw [h j hj] at hp
    cases hp
/-- the line, a space, the line -/
def twice (l : List UInt8) : List UInt8 := l ++ 32 :: l
theorem tw_ltr (l : List UInt8) : ltr (twice l) = ltr l ++ ltr l := by
  unfold ltr twice
  rw [List.filter_append, List.filter_cons_of_neg (by simp)]
theorem tw_at1 {l : List UInt8} {i : Nat} (h : i < l.length) : (twice l)[i]? = l[i]? := List.getElem?_append_left h
theorem tw_at2 (l : List UInt8) : (twice l)[l.length]? = some 32 := by unfold twice; rw [List.getElem?_append_right (Nat.le_refl _)]; simp
theorem tw_at3 (l : List UInt8) (i : Nat) : (twice l)[l.length + 1 + i]? = l[i]? := by
  unfold twice
  rw [List.getElem?_append_right (by omega), show l.length + 1 + i - l.length = i + 1 by omega]
  rfl
theorem tw_len (l : List UInt8) : (twice l).length = 2 * l.length + 1 := by unfold twice; simp; omega
theorem chk_twice {l : List UInt8} (h : chkE l = 0) (hl : l.length ≤ 140) : chkE (twice l) = 0 := by
  obtain ⟨h1, h2, h3, h4, h5⟩ := chk_parts.1 h
  obtain ⟨b1, b2, b3, b4⟩ := (bad4_iff l).1 h2
  have hpos : 0 < l.length := List.length_pos_iff.2 b1
  have hhead : l[0]? ≠ some 32 := fun e => by
    have := b2 32 (by rw [← e]; exact List.head?_eq_getElem?)
    simp at this
  have hlast : l[l.length - 1]? ≠ some 32 := fun e => by
    have := b3 32 (by rw [List.head?_reverse, List.getLast?_eq_getElem?]; exact e)
    simp at this
  refine chk_parts.2 ⟨by rw [tw_len]; omega, (bad4_iff _).2 ⟨by unfold twice; simp, ?_, ?_, ?_⟩, ?_, ?_, ?_⟩
  · intro a ha
    refine b2 a ?_
    rw [List.head?_eq_getElem?] at ha ⊢
    rwa [tw_at1 hpos] at ha
  · intro a ha
    refine b3 a ?_
    unfold twice at ha
    rw [List.reverse_append, List.reverse_cons, List.append_assoc] at ha
    have hne : l.reverse ≠ [] := by simpa using b1
    rcases hr : l.reverse with _ | ⟨c, r⟩
    · exact absurd hr hne
    · rw [hr] at ha
      exact ha
  · rintro j ⟨j1, j2⟩
    rcases (by omega : j + 1 < l.length ∨ j + 1 = l.length ∨ j = l.length ∨ l.length < j) with h | h | h | h
    · rw [tw_at1 (by omega)] at j1
      rw [tw_at1 h] at j2
      exact b4 j ⟨j1, j2⟩
    · rw [tw_at1 (by omega)] at j1
      exact hlast (by rw [← h]; simpa using j1)
    · rw [h, show l.length + 1 = l.length + 1 + 0 by omega, tw_at3] at j2
      exact hhead j2
    · obtain ⟨i, rfl⟩ : ∃ i, j = l.length + 1 + i := ⟨j - l.length - 1, by omega⟩
      rw [tw_at3] at j1
      rw [show l.length + 1 + i + 1 = l.length + 1 + (i + 1) by omega, tw_at3] at j2
      exact b4 i ⟨j1, j2⟩
  · unfold badC twice at *
    rw [List.any_append, List.any_cons, h3]
    rfl
  · rw [any_no] at h4 ⊢
    intro j hj
    rw [tw_len] at hj
    have key : ∀ i, i < l.length → clash l i = false := h4
    unfold clash prv at *
    rcases (by omega : j < l.length ∨ j = l.length ∨ l.length < j) with h | h | h
    · have e1 : (twice l).getD j 0 = l.getD j 0 := by rw [List.getD_eq_getElem?_getD, List.getD_eq_getElem?_getD, tw_at1 h]
      have e2 : (twice l).getD (j - 1) 0 = l.getD (j - 1) 0 := by rw [List.getD_eq_getElem?_getD, List.getD_eq_getElem?_getD, tw_at1 (by omega)]
      rw [e1, e2]
      exact key j h
    · have e1 : (twice l).getD j 0 = 32 := by rw [List.getD_eq_getElem?_getD, h, tw_at2]; rfl
      rw [e1]
      rfl
    · obtain ⟨i, rfl⟩ : ∃ i, j = l.length + 1 + i := ⟨j - l.length - 1, by omega⟩
      have e1 : (twice l).getD (l.length + 1 + i) 0 = l.getD i 0 := by rw [List.getD_eq_getElem?_getD, List.getD_eq_getElem?_getD, tw_at3]
      have k := key i (by omega)
      rw [e1, if_neg (by omega)]
      rcases (by omega : i = 0 ∨ 0 < i) with rfl | hi
      · have e2 : (twice l).getD (l.length + 1 + 0 - 1) 0 = 32 := by rw [List.getD_eq_getElem?_getD, show l.length + 1 + 0 - 1 = l.length by omega, tw_at2]; rfl
        rw [e2]
        rw [if_pos rfl] at k
        exact k
      · have e2 : (twice l).getD (l.length + 1 + i - 1) 0 = l.getD (i - 1) 0 := by rw [List.getD_eq_getElem?_getD, List.getD_eq_getElem?_getD, show l.length + 1 + i - 1 = l.length + 1 + (i - 1) by omega, tw_at3]
        rw [e2]
        rw [if_neg (by omega)] at k
        exact k
  · unfold novw twice at *
    rw [List.all_append, h5]
    rfl
/-- twice as many syllables -/
theorem tw_num {l : List UInt8} (h : chkE l = 0) : (sylL (twice l)).length = 2 * (sylL l).length := by
  have hv : 0 < vwN (ltr l) := by
    have := (chk_ok h).2.2
    rw [List.any_eq_true] at this
    obtain ⟨b, hb, hv⟩ := this
    unfold vwN
    exact List.countP_pos_iff.2 ⟨b, hb, hv⟩
  unfold sylL
  rw [syl_num, syl_num, tw_ltr, if_pos rfl, if_pos rfl]
  have e : vwN (ltr l ++ ltr l) = vwN (ltr l) + vwN (ltr l) := by unfold vwN; rw [List.countP_append]
  rw [e, if_neg (by omega), if_neg (by omega)]
  omega
end Go.Proofs.YtlkkkgpcjdemdaaDoor
/- Song: the law of letters, walked. -/
namespace Go.Proofs.YtlkkkgpcjdemdaaDoor
open Go Go.RowKit Go.Shelf
set_option maxHeartbeats 8000000
set_option maxRecDepth 100000
theorem vw_iff (c : Nat) : vwB c = true ↔ c = 97 ∨ c = 105 ∨ c = 117 ∨ c = 65 ∨ c = 73 ∨ c = 85 ∨ c = 101 ∨ c = 111 := by
  have e : vwB c = ((97 == c || (105 == c || (117 == c || false))) || ((65 == c || (73 == c || (85 == c || (101 == c || (111 == c || false))))) || false)) := rfl
  rw [e]
  simp
  constructor
  · intro h; omega
  · intro h; omega
/-- a vowel more, or a letter more ahead of the first one -/
theorem vwN_step {x : List UInt8} {k : Nat} (h : k < x.length) : vwN (x.take (k + 1)) = vwN (x.take k) + if vwB (x.getD k 0).toNat then 1 else 0 := by
  have e : x.take (k + 1) = x.take k ++ [x.getD k 0] := by
    rw [List.take_add_one, List.getD_eq_getElem?_getD, List.getElem?_eq_getElem h]; rfl
  obtain ⟨c, hcc⟩ : ∃ c, x.getD k 0 = c := ⟨_, rfl⟩
  rw [hcc] at e ⊢
  rw [e]
  unfold vwN
  rw [List.countP_append]
  simp
theorem ahN_step {x : List UInt8} {k : Nat} (h : k < x.length) : ahN (x.take (k + 1)) = ahN (x.take k) + if vwN (x.take k) = 0 ∧ vwB (x.getD k 0).toNat = false then 1 else 0 := by
  have e : x.take (k + 1) = x.take k ++ [x.getD k 0] := by
    rw [List.take_add_one, List.getD_eq_getElem?_getD, List.getElem?_eq_getElem h]; rfl
  obtain ⟨c, hcc⟩ : ∃ c, x.getD k 0 = c := ⟨_, rfl⟩
  rw [hcc] at e ⊢
  rw [e]
  unfold ahN
  by_cases h0 : vwN (x.take k) = 0
  · have hn : ∀ b ∈ x.take k, (!vwB b.toNat) = true := fun b hb => by
      unfold vwN at h0
      have := List.countP_eq_zero.1 h0 b hb
      simpa using this
    have ht : (x.take k).takeWhile (fun b => !vwB b.toNat) = x.take k := by
      have := List.takeWhile_append_of_pos (p := fun b : UInt8 => !vwB b.toNat) (l₁ := x.take k) (l₂ := []) hn
      simpa using this
    rw [List.takeWhile_append_of_pos hn, ht, List.length_append]
    rcases hv : vwB c.toNat with _ | _
    · rw [if_pos ⟨h0, rfl⟩]; simp [hv]
    · rw [if_neg (fun h => by cases h.2)]; simp [hv]
  · rw [if_neg (fun h => h0 h.1), Nat.add_zero]
    have hne : ∃ b ∈ x.take k, vwB b.toNat = true := by
      unfold vwN at h0
      exact List.countP_pos_iff.1 (by omega)
    obtain ⟨b, hb, hv⟩ := hne
    rw [List.takeWhile_append]
    rw [if_neg]
    intro hl
    have := (List.takeWhile_sublist (l := x.take k) (fun b => !vwB b.toNat)).eq_of_length hl
    have h2 : ∀ c ∈ (x.take k).takeWhile (fun b => !vwB b.toNat), (!vwB c.toNat) = true := fun c hc => List.all_eq_true.1 List.all_takeWhile c hc
    rw [this] at h2
    have := h2 b hb
    rw [hv] at this
    cases this
theorem ltr_step {x : List UInt8} {k : Nat} (h : k < x.length) : ltr (x.take (k + 1)) = if x.getD k 0 = 32 then ltr (x.take k) else ltr (x.take k) ++ [x.getD k 0] := by
  have e : x.take (k + 1) = x.take k ++ [x.getD k 0] := by
    rw [List.take_add_one, List.getD_eq_getElem?_getD, List.getElem?_eq_getElem h]; rfl
  obtain ⟨c, hcc⟩ : ∃ c, x.getD k 0 = c := ⟨_, rfl⟩
  rw [hcc] at e ⊢
  rw [e]
  unfold ltr
  rw [List.filter_append]
  split
  · rename_i h1; rw [h1]; simp
  · rename_i h1; simp [h1]
theorem flat_step {T : List Syl} {i : Nat} (h : i < T.length) : (T.take (i + 1)).flatMap (·.1) = (T.take i).flatMap (·.1) ++ (T.getD i ([], false)).1 := by
  have e : T.take (i + 1) = T.take i ++ [T.getD i ([], false)] := by
    rw [List.take_add_one, List.getD_eq_getElem?_getD, List.getElem?_eq_getElem h]; rfl
  rw [e, List.flatMap_append]
  simp
theorem cnt_step {x : List UInt8} {k : Nat} (h : k < x.length) : (x.take (k + 1)).count 103 = (x.take k).count 103 + if x.getD k 0 = 103 then 1 else 0 := by
  have e : x.take (k + 1) = x.take k ++ [x.getD k 0] := by
    rw [List.take_add_one, List.getD_eq_getElem?_getD, List.getElem?_eq_getElem h]; rfl
  obtain ⟨c, hcc⟩ : ∃ c, x.getD k 0 = c := ⟨_, rfl⟩
  rw [hcc] at e ⊢
  rw [e, List.count_append]
  congr 1
  by_cases h1 : c = 103
  · rw [if_pos h1, h1]; rfl
  · rw [if_neg h1]; simp [h1]
theorem way_at {T : List Syl} {k : Nat} (h : k < T.length) : (way T).getD k 0 = 103 ∨ (way T).getD k 0 = 108 := by
  unfold way
  rw [List.getD_eq_getElem?_getD, List.getElem?_map, List.getElem?_eq_getElem h]
  show wgU _ = _ ∨ wgU _ = _
  unfold wgU
  split
  · exact .inl rfl
  · exact .inr rfl
/-- words that are read -/
structure WdR (W : World) (A : Option Addr) (l : List Wd) : Prop where
  r : SR W W.heap.size A l
theorem WdR.ext {W W' : World} {A : Option Addr} {l : List Wd} (h : WdR W A l) (hb : Below W.heap.size W W') : WdR W' A l := ⟨ER.more (ER.below h.r hb (Nat.le_refl _)) hb.size⟩
theorem strV_at (l : List Wd) {k : Nat} (hk : k < l.length) : (strV l)[k]? = some (.string (l.getD k noW)) := by
  unfold strV
  rw [List.getElem?_map, List.getElem?_eq_getElem hk, List.getD_eq_getElem?_getD, List.getElem?_eq_getElem hk]; rfl
theorem wd_read {W : World} {n0 n c : Nat} {A : Option Addr} {l : List Wd} (h : OwnW W n0 (.slice A n c) l) : WdR W A l := by
  obtain ⟨A', c', e⟩ := own_shape h
  injection e with e1 e2 e3
  subst e2
  refine ⟨fun hn => ?_⟩
  rcases h.2 with ⟨h1, h2⟩ | ⟨g, cap, cur, h1, h2, h3, h4, h5, h6, h7⟩
  · injection h1 with h1 h8 h9
    omega
  · injection h1 with hA
    subst hA
    have hg := (World.ownsRow.lt h g rfl).2
    refine ⟨g, 0, rfl, hg, fun k i hk hi => ?_⟩
    obtain rfl : i = 0 := by omega
    have hc := World.ownsRow.cells h (g := g) rfl k _ (strV_at l hk)
    have e1 : ((⟨g, 0, none⟩ : Addr).add k) = ⟨g, 0 + k * 1 + 0, none⟩ := by simp [Addr.add]; omega
    rw [e1] at hc
    exact hc
theorem app_one {s : ByteArray} {l : List UInt8} {k : Nat} (h : k < s.size) : (⟨l.toArray⟩ : ByteArray) ++ s.extract k (k + 1) = ⟨(l ++ [s[k]'h]).toArray⟩ := by
  apply ByteArray.ext
  apply Array.toList_inj.1
  have hk : k < s.data.size := h
  simp [ByteArray.data_append, ByteArray.data_extract]
  have hd : (s.data.toList.drop k).take 1 = [s[k]'h] := by
    rw [List.drop_eq_getElem_cons (by simpa using hk)]
    simp
    rfl
  simpa using hd
theorem app_str {l m : List UInt8} : (⟨l.toArray⟩ : ByteArray) ++ ⟨m.toArray⟩ = ⟨(l ++ m).toArray⟩ := by
  apply ByteArray.ext
  apply Array.toList_inj.1
  simp [ByteArray.data_append]
theorem str_of {s : ByteArray} {L : List UInt8} (h : s.data.toList = L) : s = ⟨L.toArray⟩ := by subst h; rfl
theorem letters_law (s : ByteArray) (w : World) (hs : s.size ≤ maxLen) (hM : ML w) :
    Calls Tryd.prog 7 #[.string s] w fun e w' => e = .returned (.bool true) ∧ Below w.heap.size w w' := by
  have HKN := hide (fun W (h : Below w.heap.size w W) => sknown_any W (hM.ext h))
  obtain ⟨L, hL⟩ : ∃ L, s.data.toList = L := ⟨_, rfl⟩
  have hlen := size_len hL
  by_cases hbig : 140 < s.size
  · as_aux_lemma =>
    have hb2 : (140 : Int) < (s.size : Int) := by omega
    go_enter Tryd.func7, Tryd.ntmps7
    go_wp2_with fail
    refine (HKN.out _ (Below.refl _ _)).mono ?_
    rintro e w1 ⟨rfl, hb⟩
    go_wp2_with fail
    go_ret
    exact ⟨rfl, hb⟩
  have hb2 : ¬ (140 : Int) < (s.size : Int) := by omega
  have HSP := hide (split_any s L hL w hs hM)
  have HSC := hide (fun W (h : Below w.heap.size w W) => scan_any s L hL W hs (hM.ext h))
  have HUN := hide (fun W (h : Below w.heap.size w W) => Units_any s L hL W hs (hM.ext h))
  unfold SplPost at HSP
  by_cases hc : chkE L = 0
  rotate_left
  · as_aux_lemma =>
    have e1 : splT L = [] := by unfold splT; rw [if_neg hc]
    have e2 : scnT L = [] := by unfold scnT; rw [if_neg hc]
    rw [e1] at HSP
    rw [e2] at HSC HUN
    obtain ⟨E, hE⟩ : ∃ E, chkE L = E := ⟨_, rfl⟩
    rw [hE] at HSP HSC HUN hc
    have e3 : unF [] = 0 := rfl
    rw [e3] at HUN
    dsimp only [List.length_nil] at HUN
    clear e1 e2 e3 hE hL hM
    go_enter Tryd.func7, Tryd.ntmps7
    go_wp2_with fail
    refine HSP.out.mono ?_
    rintro e w1 ⟨v, rfl, ho, hb⟩
    have B1 := hide hb
    obtain ⟨A, c, rfl⟩ := own_shape ho
    clear hb ho
    go_wp2_with fail
    refine (HSC.out _ B1.out).mono ?_
    rintro e w2 ⟨rfl, hb⟩
    have B2 := hide (B1.out.trans (hb.mono B1.out.size))
    clear hb B1
    go_wp2_with fail
    refine (HUN.out _ B2.out).mono ?_
    rintro e w3 ⟨rfl, hb⟩
    have B3 := hide (B2.out.trans (hb.mono B2.out.size))
    clear hb B2
    dsimp only [List.length_nil]
    go_wp2_with fail
    refine (HKN.out _ B3.out).mono ?_
    rintro e w4 ⟨rfl, hb⟩
    have B4 := hide (B3.out.trans (hb.mono B3.out.size))
    clear hb
    go_wp2_with fail
    go_ret
    exact ⟨rfl, B4.out⟩
  have e1 : splT L = txts (sylL L) := by unfold splT; rw [if_pos hc]
  have e2 : scnT L = way (sylL L) := by unfold scnT; rw [if_pos hc]
  have HTW := hide (chk_twice hc (by omega))
  have e3 : (scnT (twice L)).length = 2 * (sylL L).length := by
    unfold scnT
    rw [if_pos HTW.out, ← tw_num hc]
    unfold way
    rw [List.length_map]
  rw [e1, hc] at HSP
  rw [e2, hc] at HSC HUN
  have hT300 := sylL_len hc
  obtain ⟨hone, htwo, -⟩ := syl_one (ltr L) [] [] [] (fun b hb => by cases hb) (fun b hb => by cases hb) (.inl ⟨rfl, (chk_ok hc).2.2⟩) (fun _ => rfl)
  have hall : (sylL L).flatMap (·.1) = ltr L := by
    have := syl_all (ltr L) [] [] [] (fun _ => rfl)
    unfold sylL
    simpa [tlX] using this
  have hltl := ltr_le L
  have hwl : (way (sylL L)).length = (sylL L).length := by unfold way; rw [List.length_map]
  have hwat := fun k (hk : k < (sylL L).length) => way_at hk
  have hun : unF (way (sylL L)) = ((sylL L).length : Int) + ((way (sylL L)).count 103 : Nat) := by unfold unF; rw [hwl]
  rw [hun, hwl] at HUN
  have hone' : ∀ x ∈ sylL L, vwN x.1 = 1 := hone
  have htwo' : ∀ i, 0 < i → i < (sylL L).length → ahN ((sylL L).getD i ([], false)).1 ≤ 1 := htwo
  obtain ⟨T, hT⟩ : ∃ T, sylL L = T := ⟨_, rfl⟩
  rw [hT] at HSP HSC HUN hT300 hall hwl hwat hone' htwo' e3
  obtain ⟨Wy, hWy⟩ : ∃ W, way T = W := ⟨_, rfl⟩
  rw [hWy] at HSC HUN hwl hwat
  obtain ⟨Y, hY⟩ : ∃ Y : ByteArray, (⟨Wy.toArray⟩ : ByteArray) = Y := ⟨_, rfl⟩
  have hYl : Y.data.toList = Wy := by rw [← hY]
  have hYs : Y.size = T.length := by rw [← hwl]; exact (size_len hYl).symm
  rw [hY] at HSC
  obtain ⟨hv, hhv⟩ : ∃ h : Nat, Wy.count 103 = h := ⟨_, rfl⟩
  rw [hhv] at HUN
  have hhvb : hv ≤ T.length := by rw [← hhv, ← hwl]; exact List.count_le_length
  have HONE := hide hone'
  have HTWO := hide htwo'
  have HALL := hide hall
  have HWAT := hide hwat
  have HHV := hide hhv
  have HE3 := hide e3
  have HYL := hide hYl
  have HLL := hide hL
  have HUN2 := hide (fun (Z : ByteArray) (hZ : Z.data.toList = twice L) W (h : Below w.heap.size w W) => Units_any Z (twice L) hZ W (by rw [← size_len hZ, tw_len]; unfold maxLen; omega) (hM.ext h))
  clear e1 e2 hone htwo hone' htwo' hall hwat hhv hun hT hWy hY hYl hM hc e3
  go_enter Tryd.func7, Tryd.ntmps7
  go_wp2_with fail
  refine HSP.out.mono ?_
  rintro e w1 ⟨v, rfl, ho, hb⟩
  have B1 := hide hb
  obtain ⟨A, cp, rfl⟩ := own_shape ho
  have hlt2 : (txts T).length = T.length := by unfold txts; rw [List.length_map]
  have HR1 := hide (wd_read ho)
  rw [hlt2]
  clear hb ho HSP hlt2
  go_wp2_with fail
  refine (HSC.out _ B1.out).mono ?_
  rintro e w2 ⟨rfl, hb⟩
  have B2 := hide (B1.out.trans (hb.mono B1.out.size))
  have HR2 := hide (HR1.out.ext hb)
  clear hb HR1 HSC B1
  go_wp2_with fail
  refine (HUN.out _ B2.out).mono ?_
  rintro e w3 ⟨rfl, hb⟩
  have B3 := hide (B2.out.trans (hb.mono B2.out.size))
  have HR3 := hide (HR2.out.ext hb)
  clear hb HR2 HUN B2
  go_wp2_with fail
  go_loopw [10, 13] (fun x i wr => ∃ k : Nat, k ≤ L.length ∧ x = .string ⟨(ltr (L.take k)).toArray⟩ ∧ i = .int .i64 k ∧ Hid (w3 = wr)) (fun _ i _ => L.length - (intOf i).toNat)
  case atStart => exact ⟨0, Nat.zero_le _, rfl, rfl, hide rfl⟩
  case round =>
    obtain ⟨k, hk, rfl, rfl, HW⟩ := hrel
    obtain rfl := HW.out
    by_cases hlt : k < L.length
    · have hks : k < s.size := by omega
      have hst := ltr_step hlt
      have hby := byte_at HLL.out hks
      obtain ⟨b, hbb⟩ : ∃ b, L.getD k 0 = b := ⟨_, rfl⟩
      rw [hbb] at hst hby
      have hlen2 : (ltr (L.take k)).length ≤ 140 := by
        have h1 := ltr_le (L.take k)
        rw [List.length_take] at h1
        omega
      have hmx : ¬ 9223372036854775807 < (ltr (L.take k)).length + (min (k + 1) s.size - k) := by omega
      by_cases h32 : b = 32
      · have hq : ((b.toNat : Int) == 32) = true := by rw [h32]; rfl
        rw [if_pos h32] at hst
        clear HKN HTWO HONE HALL HWAT HHV HE3 HUN2
        go_wp2_with fail
        go_roundw
        case rel => exact ⟨k + 1, by omega, by rw [hst], by first | rfl | (simp; done), by first | exact hide rfl | exact hide trivial⟩
        case measure => simp [intOf]; omega
      · have hq : ((b.toNat : Int) == 32) = false := by
          rw [beq_eq_false_iff_ne]
          intro e
          exact h32 (UInt8.toNat_inj.1 (by show b.toNat = 32; omega))
        rw [if_neg h32] at hst
        have hap := app_one (l := ltr (L.take k)) hks
        rw [hby] at hap
        clear HKN HTWO HONE HALL HWAT HHV HE3 HUN2
        go_wp2_with fail
        go_roundw
        case rel => exact ⟨k + 1, by omega, by first | rw [hst] | rw [hst, hap], by first | rfl | (simp; done), by first | exact hide rfl | exact hide trivial⟩
        case measure => simp [intOf]; omega
    · obtain rfl : k = L.length := by omega
      have htk : L.take L.length = L := List.take_length
      rw [htk]
      clear htk
      obtain ⟨PL, hPL⟩ : ∃ P : ByteArray, (⟨(ltr L).toArray⟩ : ByteArray) = P := ⟨_, rfl⟩
      rw [hPL]
      have HPL := hide hPL
      clear hPL
      go_wp2_with fail
      clear hlt hk
      go_loopw [11, 14] (fun x i wr => ∃ k : Nat, k ≤ T.length ∧ x = .string ⟨((T.take k).flatMap (·.1)).toArray⟩ ∧ i = .int .i64 k ∧ Hid (w3 = wr)) (fun _ i _ => T.length - (intOf i).toNat)
      case atStart => exact ⟨0, Nat.zero_le _, rfl, rfl, hide rfl⟩
      case round =>
        obtain ⟨k, hk, rfl, rfl, HW⟩ := hrel
        obtain rfl := HW.out
        by_cases hlt : k < T.length
        · as_aux_lemma =>
          have hlt2 : k < (txts T).length := by unfold txts; rw [List.length_map]; exact hlt
          obtain ⟨b, off, hA, hb, hcell⟩ := VR1.at_ HR3.out.r hlt2
          subst hA
          have hwd : (txts T).getD k noW = ⟨(T.getD k ([], false)).1.toArray⟩ := by
            unfold txts
            rw [List.getD_eq_getElem?_getD, List.getElem?_map, List.getD_eq_getElem?_getD, List.getElem?_eq_getElem hlt]
            rfl
          rw [hwd] at hcell
          have hst := flat_step hlt
          have hv1 := HONE.out (T.getD k ([], false)) (by rw [List.getD_eq_getElem?_getD, List.getElem?_eq_getElem hlt]; exact List.getElem_mem hlt)
          have ha1 := fun h0 => HTWO.out k h0 hlt
          have hsum : ((T.take (k + 1)).flatMap (·.1)).length ≤ 140 := by
            have h1 : ((T.take (k + 1)).flatMap (·.1) ++ (T.drop (k + 1)).flatMap (·.1)).length ≤ 140 := by
              rw [← List.flatMap_append, List.take_append_drop, HALL.out]
              omega
            rw [List.length_append] at h1
            omega
          obtain ⟨xs, hxs⟩ : ∃ x, (T.getD k ([], false)).1 = x := ⟨_, rfl⟩
          rw [hxs] at hcell hst hv1 ha1
          obtain ⟨pre, hpre⟩ : ∃ x, (T.take k).flatMap (·.1) = x := ⟨_, rfl⟩
          rw [hpre] at hst ⊢
          rw [hst, List.length_append] at hsum
          obtain ⟨X, hX⟩ : ∃ X : ByteArray, (⟨xs.toArray⟩ : ByteArray) = X := ⟨_, rfl⟩
          have hXl : X.data.toList = xs := by rw [← hX]
          have hXs : X.size = xs.length := (size_len hXl).symm
          have hap : (⟨pre.toArray⟩ : ByteArray) ++ X = ⟨(pre ++ xs).toArray⟩ := by rw [← hX]; exact app_str
          have hmx : ¬ 9223372036854775807 < pre.length + X.size := by omega
          rw [hX] at hcell
          have HST := hide hst
          have HV1 := hide hv1
          have HA1 := hide ha1
          have HXL := hide hXl
          clear hwd hxs hpre hX hst hv1 ha1 hXl HONE HTWO HALL HWAT HHV HE3 HUN2 HKN HR3 hlt2
          go_wp2_with fail
          go_loopw [15, 16, 17] (fun v a j wr => ∃ i : Nat, i ≤ xs.length ∧ v = .int .i64 (vwN (xs.take i) : Nat) ∧ a = .int .i64 (ahN (xs.take i) : Nat) ∧ j = .int .i64 i ∧ Hid (w3 = wr)) (fun _ _ j _ => xs.length - (intOf j).toNat)
          case atStart => exact ⟨0, Nat.zero_le _, rfl, rfl, rfl, hide rfl⟩
          case round =>
            obtain ⟨i, hi, rfl, rfl, rfl, HW⟩ := hrel
            obtain rfl := HW.out
            by_cases hil : i < xs.length
            · have his : i < X.size := by omega
              have hby := byte_at HXL.out his
              have s1 := vwN_step hil
              have s2 := ahN_step hil
              obtain ⟨c, hcc⟩ : ∃ c, xs.getD i 0 = c := ⟨_, rfl⟩
              rw [hcc] at hby s1 s2
              have hvi := vw_iff c.toNat
              obtain ⟨V, hV⟩ : ∃ V, vwN (xs.take i) = V := ⟨_, rfl⟩
              obtain ⟨Ah, hAh⟩ : ∃ V, ahN (xs.take i) = V := ⟨_, rfl⟩
              rw [hV] at s1 s2 ⊢
              rw [hAh] at s2 ⊢
              have hVb : V ≤ 140 := by
                rw [← hV]
                unfold vwN
                have := List.countP_le_length (p := fun b : UInt8 => vwB b.toNat) (l := xs.take i)
                rw [List.length_take] at this
                omega
              have hAb : Ah ≤ 140 := by
                rw [← hAh]
                unfold ahN
                have := (List.takeWhile_sublist (l := xs.take i) (fun b => !vwB b.toNat)).length_le
                rw [List.length_take] at this
                omega
              clear hcc hV hAh hmx hap
              rcases hvw : vwB c.toNat with _ | _
              · rw [hvw, if_neg Bool.false_ne_true, Nat.add_zero] at s1
                have hno : ¬ (c.toNat = 97 ∨ c.toNat = 105 ∨ c.toNat = 117 ∨ c.toNat = 65 ∨ c.toNat = 73 ∨ c.toNat = 85 ∨ c.toNat = 101 ∨ c.toNat = 111) := fun h => by
                  have := hvi.2 h
                  rw [hvw] at this
                  cases this
                obtain ⟨z, hz⟩ : ∃ z : Int, (c.toNat : Int) = z := ⟨_, rfl⟩
                have q1 : (z == 97) = false := by rw [beq_eq_false_iff_ne]; omega
                have q2 : (z == 105) = false := by rw [beq_eq_false_iff_ne]; omega
                have q3 : (z == 117) = false := by rw [beq_eq_false_iff_ne]; omega
                have q4 : (z == 65) = false := by rw [beq_eq_false_iff_ne]; omega
                have q5 : (z == 73) = false := by rw [beq_eq_false_iff_ne]; omega
                have q6 : (z == 85) = false := by rw [beq_eq_false_iff_ne]; omega
                have q7 : (z == 101) = false := by rw [beq_eq_false_iff_ne]; omega
                have q8 : (z == 111) = false := by rw [beq_eq_false_iff_ne]; omega
                clear hno hvi
                by_cases h0 : V = 0
                · rw [if_pos ⟨h0, hvw⟩] at s2
                  have hv0 : ((V : Int) == 0) = true := by rw [h0]; rfl
                  have S1 := hide s1
                  have S2 := hide s2
                  clear s1 s2 h0 hvw
                  go_wp2_with fail
                  go_roundw
                  case rel => exact ⟨i + 1, by omega, by rw [S1.out] <;> rfl, by rw [S2.out] <;> first | rfl | (congr 1), by first | rfl | (simp; done), by first | exact hide rfl | exact hide trivial⟩
                  case measure => simp [intOf]; omega
                · rw [if_neg (fun h => h0 h.1), Nat.add_zero] at s2
                  have hv0 : ((V : Int) == 0) = false := by rw [beq_eq_false_iff_ne]; omega
                  have S1 := hide s1
                  have S2 := hide s2
                  clear s1 s2 hvw
                  go_wp2_with fail
                  go_roundw
                  case rel => exact ⟨i + 1, by omega, by rw [S1.out] <;> rfl, by rw [S2.out] <;> rfl, by first | rfl | (simp; done), by first | exact hide rfl | exact hide trivial⟩
                  case measure => simp [intOf]; omega
              · rw [hvw, if_pos rfl] at s1
                rw [if_neg (fun h => by rw [hvw] at h; cases h.2), Nat.add_zero] at s2
                have S1 := hide s1
                have S2 := hide s2
                have hor := hvi.1 hvw
                clear s1 s2 hvi hvw
                rcases hor with e | e | e | e | e | e | e | e <;>
                · have hz : (c.toNat : Int) = _ := congrArg Int.ofNat e
                  clear e
                  go_wp2_with fail
                  go_roundw
                  case rel => exact ⟨i + 1, by omega, by rw [S1.out] <;> first | rfl | (congr 1), by rw [S2.out] <;> rfl, by first | rfl | (simp; done), by first | exact hide rfl | exact hide trivial⟩
                  case measure => simp [intOf]; omega
            · obtain rfl : i = xs.length := by omega
              have htk : xs.take xs.length = xs := List.take_length
              rw [htk, HV1.out]
              have hav : ¬ (0 : Int) < (k : Int) ∨ (0 : Int) < (k : Int) ∧ ahN xs ≤ 1 := by
                rcases (by omega : k = 0 ∨ 0 < k) with h | h
                · exact .inl (by omega)
                · exact .inr ⟨by omega, HA1.out h⟩
              generalize ahN xs = ah at hav ⊢
              rcases hav with h | ⟨h0, h⟩
              · by_cases h1 : (1 : Int) < (ah : Int)
                · go_wp2_with fail
                  go_roundw
                  case rel => exact ⟨k + 1, by omega, by first | rw [HST.out] | rw [HST.out, hap], by first | rfl | (simp; done), by first | exact hide rfl | exact hide trivial⟩
                  case measure => simp [intOf]; omega
                · go_wp2_with fail
                  go_roundw
                  case rel => exact ⟨k + 1, by omega, by first | rw [HST.out] | rw [HST.out, hap], by first | rfl | (simp; done), by first | exact hide rfl | exact hide trivial⟩
                  case measure => simp [intOf]; omega
              · have h1 : ¬ (1 : Int) < (ah : Int) := by omega
                go_wp2_with fail
                go_roundw
                case rel => exact ⟨k + 1, by omega, by first | rw [HST.out] | rw [HST.out, hap], by first | rfl | (simp; done), by first | exact hide rfl | exact hide trivial⟩
                case measure => simp [intOf]; omega
        · obtain rfl : k = T.length := by omega
          have htk : T.take T.length = T := List.take_length
          rw [htk, HALL.out, HPL.out]
          clear htk hlt hk
          go_wp2_with fail
          go_loopw [12, 18] (fun h i wr => ∃ k : Nat, k ≤ T.length ∧ h = .int .i64 ((Wy.take k).count 103 : Nat) ∧ i = .int .i64 k ∧ Hid (w3 = wr)) (fun _ i _ => T.length - (intOf i).toNat)
          case atStart => exact ⟨0, Nat.zero_le _, rfl, rfl, hide rfl⟩
          case round =>
            obtain ⟨k, hk, rfl, rfl, HW⟩ := hrel
            obtain rfl := HW.out
            by_cases hlt : k < T.length
            · as_aux_lemma =>
              have hks : k < Y.size := by omega
              have hby := byte_at HYL.out hks
              have hor := HWAT.out k hlt
              have hst := cnt_step (x := Wy) (k := k) (by omega)
              obtain ⟨c, hcc⟩ : ∃ c, Wy.getD k 0 = c := ⟨_, rfl⟩
              rw [hcc] at hby hor hst
              have hcb : (Wy.take k).count 103 ≤ 301 := by
                have h1 := List.count_le_length (a := (103 : UInt8)) (l := Wy.take k)
                rw [List.length_take] at h1
                omega
              obtain ⟨N, hN⟩ : ∃ N, (Wy.take k).count 103 = N := ⟨_, rfl⟩
              rw [hN] at hst hcb ⊢
              have HST := hide hst
              clear hst hN hcc HKN HTWO HONE HALL HWAT HHV HE3 HUN2 HR3
              rcases hor with e | e
              · rw [e, if_pos rfl] at HST
                have hz : (c.toNat : Int) = 103 := by rw [e]; rfl
                clear e
                go_wp2_with fail
                go_roundw
                case rel => exact ⟨k + 1, by omega, by rw [HST.out] <;> rfl, by first | rfl | (simp; done), by first | exact hide rfl | exact hide trivial⟩
                case measure => simp [intOf]; omega
              · rw [e, if_neg (by decide)] at HST
                have hz : (c.toNat : Int) = 108 := by rw [e]; rfl
                clear e
                go_wp2_with fail
                go_roundw
                case rel => exact ⟨k + 1, by omega, by rw [HST.out] <;> rfl, by first | rfl | (simp; done), by first | exact hide rfl | exact hide trivial⟩
                case measure => simp [intOf]; omega
            · as_aux_lemma =>
              obtain rfl : k = T.length := by omega
              have htk : Wy.take T.length = Wy := by rw [← hwl]; exact List.take_length
              rw [htk, HHV.out]
              clear htk
              obtain ⟨Z1, hZ1⟩ : ∃ Z : ByteArray, s ++ (⟨#[32]⟩ : ByteArray) = Z := ⟨_, rfl⟩
              have hZ1l : Z1.data.toList = L ++ [32] := by
                rw [← hZ1, str_of HLL.out, show (⟨#[32]⟩ : ByteArray) = ⟨([32] : List UInt8).toArray⟩ from rfl, app_str]
              obtain ⟨Z2, hZ2⟩ : ∃ Z : ByteArray, Z1 ++ s = Z := ⟨_, rfl⟩
              have hZ2l : Z2.data.toList = twice L := by
                rw [← hZ2, str_of HLL.out, str_of hZ1l, app_str]
                unfold twice
                simp
              have hz1s : Z1.size = s.size + 1 := by rw [← size_len hZ1l, List.length_append, hlen]; rfl
              have hmx1 : ¬ 9223372036854775807 < s.size + 1 := by omega
              have hmx2 : ¬ 9223372036854775807 < Z1.size + s.size := by omega
              have HU := hide (HUN2.out Z2 hZ2l w3 B3.out)
              rw [HE3.out, (show chkE (twice L) = 0 from HTW.out)] at HU
              obtain ⟨uu, huu⟩ : ∃ u, unF (scnT (twice L)) = u := ⟨_, rfl⟩
              rw [huu] at HU
              clear huu hZ1l hZ2l HUN2 HE3 HTW HWAT HONE HTWO HALL HHV HR3
              go_wp2_with fail
              (with_reducible refine HU.out.mono ?_)
              rintro e w4 ⟨rfl, hb⟩
              have B4 := hide (B3.out.trans (hb.mono B3.out.size))
              clear hb HU
              go_wp2_with fail
              (with_reducible refine (HKN.out _ B4.out).mono ?_)
              rintro e w5 ⟨rfl, hb⟩
              have B5 := hide (B4.out.trans (hb.mono B4.out.size))
              clear hb
              go_wp2_with fail
              go_ret
              exact ⟨rfl, B5.out⟩
end Go.Proofs.YtlkkkgpcjdemdaaDoor
namespace Go.Proofs.YtlkkkgpcjdemdaaDoor.songLetters
open Go Go.ChangeShapes Go.WideShapes Go.ChangeAt Go.RowKit
set_option maxRecDepth 100000 in
theorem lifted (os : Os) (started : os.Started) (H : Type) (enc : TypeId × Value → H) :
    ReturnsInHanded {} Tryd.checked os 7 .any (fun w args => (Rows.songLettersSpec.pre enc Tryd.prog Tryd.f7 Rows.songLettersRow.domain false w args ∧ laidMetH Tryd.prog Rows.songLettersRow.laid w) ∧ sizedMet enc Tryd.prog Tryd.f7 (OpenSpec.ofChange Rows.songLettersSpec) false w args)
      (Rows.songLettersSpec.post enc Tryd.prog Tryd.f7 false true false false) := by
  refine rih_and_shaped (C := Tryd.checked) (X := fun w _ => laidMetH Tryd.prog Rows.songLettersRow.laid w) (fun _ _ _ hh h => h.of_heap hh) own_knob started (by kernel_rfl) Tryd.func7
    (ChangeSpec.witness_shaped (enc := enc) (C := Tryd.checked) (os := os) (X := fun w _ => laidMetH Tryd.prog Rows.songLettersRow.laid w) false (World.laidAll Tryd.prog os Rows.songLettersRow.laid) #[.string ⟨#[]⟩] 8 (World.laidAll_os _ _ _)
      (World.shaped_of_ZipB (by kernel_rfl) (by kernel_rfl)) (by kernel_rfl) (by kernel_rfl) (by kernel_rfl)
      (by rw [MakeChecks.laidMetH_plain _ _ _ (by kernel_rfl)]; exact laidMet_laidAll _ (by kernel_rfl) (by kernel_rfl))) ?_
  intro W base args ds gs before hval0 hW hsh _
  have hval : ∀ (j : Nat) t v, Tryd.f7.params[j]? = some t → args[j]? = some v → Value.okWide Tryd.prog W .any base t v := hval0
  have hW' := hW
  have hlt : ∀ p ∈ before, p.block < W.heap.size := fun p hp => hW.lt p hp
  obtain ⟨p, q, hA0, hV, rfl, hfz, hnd⟩ := hW
  have hA : DataW.TrodAll enc Tryd.prog W 0 (fun _ => true) true Tryd.f7.params.toList args.toList ds p := hA0
  rw [Tryd.params7] at hA hval
  obtain ⟨v0, vs0, d0, ds0, p0, q0, hargs, rfl, rfl, h0, r0⟩ := trodAll_cons hA
  obtain ⟨rfl, rfl, rfl⟩ := trodAll_nil r0
  obtain rfl : args = #[v0] := by cases args; simp_all
  obtain ⟨rfl, rfl⟩ := trodVars_none hV
  have k0 := hval 0 9 v0 rfl rfl
  obtain ⟨s, rfl, hs⟩ := open_textS k0 h0
  have hM := ml_shaped hsh
  clear hA0 hval0
  refine (letters_law s W hs hM).mono fun e W' ⟨he, hb⟩ => ?_
  subst he
  exact ⟨_, rfl, law_post hW' hb rfl rfl (by kernel_rfl) ⟨rfl, rfl, rfl⟩⟩
theorem over : Rows.songLettersRow.holds Tryd.pinned (OpenSpec.ofChange Rows.songLettersSpec) :=
  OpenClaim.holds_of_wide 7 Tryd.f7 rfl rfl rfl rfl rfl rfl rfl ⟨rfl, rfl, rfl, rfl, rfl⟩ rfl rfl rfl rfl rfl (by kernel_rfl) Tryd.func7 (by kernel_rfl)
    (of_decide_eq_true (by kernel_rfl)) (by unfold Func.isWrapper; first | (rw [if_pos (by decide +kernel)]; kernel_rfl) | (rw [if_neg (by decide +kernel)]; exact ⟨rfl, rfl⟩))
    (fun os started H enc _ => lifted os started H enc)
theorem proved : Rows.SongLettersCardSaid :=
  Claim7.holds_tied_plain_at .later [] [.data, .pinned] true (true, "9c6a2fb55d1ffce8605a7bddf74f81652897d337daff0ed6fd4b428e7e7989a8") false over (fun _ h => by cases h) (by kernel_rfl) (fun _ h => by cases h) songLetters_row_tie rfl ⟨rfl, rfl⟩ (by kernel_rfl) rfl
    (fun f fn hf hfn => by
      obtain rfl : f = 7 := Option.some.inj ((show Tryd.prog.funcNamed "chiti/chitilaw10.SongLetters" = some 7 by kernel_rfl).symm.trans hf) |>.symm
      obtain rfl : fn = Tryd.f7 := (Option.some.inj (Tryd.func7.symm.trans hfn)).symm
      exact ⟨by kernel_rfl, fun j t ht => by
        rw [Tryd.params7] at ht
        have hm : t ∈ ([9] : List TypeId) := by simpa using Array.mem_of_getElem? ht
        have hall : (([9] : List TypeId).all fun u => !Tryd.prog.wantsStandIn u) = true := by kernel_rfl
        exact (show Tryd.prog.wantsStandIn t = false by simpa using List.all_eq_true.1 hall t hm)⟩)
    (by kernel_rfl)
#print axioms proved
end Go.Proofs.YtlkkkgpcjdemdaaDoor.songLetters
