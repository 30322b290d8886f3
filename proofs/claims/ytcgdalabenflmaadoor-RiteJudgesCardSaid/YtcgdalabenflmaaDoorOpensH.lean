/- Rite: the law RiteJudges: the row and the tied card. -/
import Derived.Test.YtcgdalabenflmaaDoorOpensG
import Derived.Deep.Fields
import Derived.Lib.LaidU8
import Derived.MakeChecks
import Derived.Test.YtcgdalabenflmaaDoorCards
import Derived.Test.YtcgdalabenflmaaDoorTie
import Derived.LaidMore
import Derived.Lay
import Derived.SevenTiedAt
import Derived.Stop.Joined
set_option linter.unusedSimpArgs false
set_option linter.unusedVariables false
set_option linter.unnecessarySimpa false
/- Rite: a law's arguments opened: rites, lists of deeds, the library's table. -/
namespace Go.Proofs.YtcgdalabenflmaaDoor
open Go Go.RowKit Go.ChangeShapes Go.WideShapes Go.ChangeAt
section
variable {H : Type} {enc : TypeId × Value → H} {r : Reach} {b0 : Nat} {W : World} {v : Value} {d : DataW H} {p : List MemPlace}
set_option maxRecDepth 100000
/-- a slice of structs of one-cell fields -/
theorem open_cellsR {t e : TypeId} {fs : Array Field} {x : DataW H × List MemPlace} {fuel : Nat} (ht : Tryd.prog.underlying t = some (.slice e)) (he : Tryd.prog.underlying e = some (.struct fs)) (hone : Deep.oneCellFields Tryd.prog fs = true)
    (ce : Tryd.prog.cellsOf e = fs.size) (hpos : 0 < fs.size) (h : DataW.trod enc Tryd.prog W 0 (fun _ => true) true fuel t [v] = some x) (hlt : ∀ y ∈ x.2, y.block < W.heap.size) :
    ∃ A n c V, v = .slice A n c ∧ n ≤ maxLen ∧ n ≤ c ∧ ER W W.heap.size fs.size A n V ∧ ∀ i k f, i < n → fs[k]? = some f → ∃ m y, DataW.trod enc Tryd.prog W 0 (fun _ => true) true m f.type [V i k] = some y ∧ (∀ z ∈ y.2, z.block < W.heap.size) := by
  rcases Deep.open_slice ht h with ⟨h1, -⟩ | ⟨a, len, cap, m, n, D, Pl, h1, hb, hl, hm, hmm, hx, hc⟩
  · injection h1 with h1
    subst h1
    exact ⟨none, 0, 0, fun _ _ => .nilIface, rfl, by simp [maxLen], Nat.le_refl _, ER.nil _ _ _ _ _, fun i k f hi => absurd hi (by omega)⟩
  · injection h1 with h1
    subst h1
    simp only [if_true] at hmm
    subst hmm
    rw [ce] at hc hx
    obtain ⟨C, hC⟩ := Deep.choose_lt hc
    refine ⟨some a, len, m, fun i k => (C i).getD k undef, rfl, by omega, hl, fun hn => ?_, fun i k f hi hf => ?_⟩
    · obtain ⟨-, hl0, hc0⟩ := World.cells?_some (hC 0 (by omega)).1
      have h0 := hc0 0 hpos
      rw [List.getElem?_eq_getElem (by omega)] at h0
      obtain ⟨b, off, spot⟩ := a
      have hsp : spot = none := by simpa [Addr.add] using World.cell?_spot h0
      subst hsp
      refine ⟨b, off, rfl, ?_, fun k i hk hi => ?_⟩
      · have hb1 := hlt (.cell b (off + 0)) (by
          rw [hx]
          exact List.mem_append_left _ (MemPlace.mem_row.2 ⟨0, Nat.mul_pos (by omega) hpos, rfl⟩))
        exact hb1
      · obtain ⟨-, hl1, hc1⟩ := World.cells?_some (hC k (by omega)).1
        have h2 := hc1 i hi
        rw [Deep.add_add, add_lit', List.getElem?_eq_getElem (by omega)] at h2
        rw [show off + k * fs.size + i = off + (k * fs.size + i) by omega, h2]
        simp [List.getD, List.getElem?_eq_getElem (show i < (C k).length by omega)]
    · obtain ⟨-, hl1, -⟩ := World.cells?_some (hC i (by omega)).1
      obtain ⟨xs, m', -, hxy, -, hxl, hf2⟩ := DataW.trod_struct he (hC i (by omega)).2
      have hk : k < fs.size := (Array.getElem?_eq_some_iff.1 hf).1
      obtain ⟨ho, hc1⟩ := Deep.hone_of hone k f hf
      have g := hf2 k f hf
      rw [ho, hc1, Deep.take1_drop (C i) k undef (by omega), List.getElem?_eq_getElem (by omega)] at g
      refine ⟨m', _, g, fun z hz => hlt z ?_⟩
      rw [hx]
      simp only [Prod.mk.injEq] at hxy
      refine List.mem_append_right _ (List.mem_flatMap.2 ⟨i, by simp; omega, ?_⟩)
      rw [hxy.2]
      exact List.mem_flatMap.2 ⟨_, List.getElem_mem _, hz⟩
theorem arr3R {cs : Array Value} (h : cs.size = 3) : ∃ a b c, cs = #[a, b, c] := by
  rcases cs with ⟨l⟩
  match l, h with
  | [a, b, c], _ => exact ⟨a, b, c, rfl⟩
/-- the table of the library, from a row's list -/
theorem tb_laid {l : List (String × DataW Unit)} {T : DataW Unit} (h : laidMetH Tryd.prog l W) (hpl : (l.all fun x => x.2.handleName?.isNone) = true) (hm : ("math/bits.deBruijn32tab", T) ∈ l)
    (hT : T = Lib.tabData .u8 ((List.range 32).map fun j => ((Lib.deBruijn32tab.getD j 0 : Nat) : Int))) : TB W := by
  rw [MakeChecks.laidMetH_plain _ _ _ hpl] at h
  obtain ⟨g, t, cs, fuel, p, hg, hty, hvar, hd⟩ := Lib.laidMet.reads h hm
  obtain rfl := Option.some.inj ((show Tryd.prog.globalNamed "math/bits.deBruijn32tab" = some 0 by kernel_rfl).symm.trans hg)
  have ht2 : (Tryd.prog.globals[0]?).map (·.type) = some 135 := by kernel_rfl
  obtain rfl := Option.some.inj (ht2.symm.trans hty)
  rw [hT] at hd
  have hcs := Lib.cells_of_tab Tryd.underlying135 Tryd.underlying5 (by kernel_rfl) (by kernel_rfl) hd
  have key : ∀ j, j < 32 → W.cell? ⟨0, j, none⟩ = some (.int .u8 (Lib.deBruijn32tab.getD j 0 : Nat)) := fun j hj => by
    have := World.var?_cell hg hvar j
    rw [this, ← Array.getElem?_toList, hcs]
    simp [hj]
  exact ⟨World.block_lt_of_cell? W ⟨0, 0, none⟩ (key 0 (by omega)), key⟩
/-- a list of deeds -/
theorem open_deeds {x : DataW H × List MemPlace} {fuel : Nat} (h : DataW.trod enc Tryd.prog W 0 (fun _ => true) true fuel 25 [v] = some x) (hlt : ∀ y ∈ x.2, y.block < W.heap.size) :
    ∃ (A : Option Addr) (c : Nat) (l : List (Int × Int)), v = .slice A l.length c ∧ (l.length ≤ maxLen ∧ l.length ≤ c) ∧ DsR W A l ∧ ∀ t ∈ l, (-9223372036854775808 ≤ t.1 ∧ t.1 ≤ 9223372036854775807) ∧ -9223372036854775808 ≤ t.2 ∧ t.2 ≤ 9223372036854775807 := by
  obtain ⟨A, n, c, V, rfl, hn, hnc, hE, hV⟩ := open_cellsR Tryd.underlying25 Tryd.underlying60 (by kernel_rfl) (by kernel_rfl) (by decide) h hlt
  have k0 : ∀ k, k < n → V k 0 = .int .i64 (intOf (V k 0)) ∧ -9223372036854775808 ≤ intOf (V k 0) ∧ intOf (V k 0) ≤ 9223372036854775807 := fun k hk => by
    obtain ⟨m, y, g, -⟩ := hV k 0 _ hk rfl
    exact int_of_trod Tryd.underlying3 g
  have k1 : ∀ k, k < n → V k 1 = .int .i64 (intOf (V k 1)) ∧ -9223372036854775808 ≤ intOf (V k 1) ∧ intOf (V k 1) ≤ 9223372036854775807 := fun k hk => by
    obtain ⟨m, y, g, -⟩ := hV k 1 _ hk rfl
    exact int_of_trod Tryd.underlying3 g
  obtain ⟨f, hf⟩ : ∃ f : Nat → Int × Int, f = fun k => (intOf (V k 0), intOf (V k 1)) := ⟨_, rfl⟩
  have hl : ((List.range n).map f).length = n := by simp
  have hg : ∀ k, k < n → ((List.range n).map f).getD k (0, 0) = f k := fun k hk => by
    rw [List.getD_eq_getElem?_getD, List.getElem?_map, List.getElem?_range hk]; rfl
  refine ⟨A, c, (List.range n).map f, by rw [hl], by rw [hl]; exact ⟨hn, hnc⟩, ?_, fun t ht => by
    obtain ⟨k, hk, rfl⟩ := List.mem_map.1 ht
    rw [hf]
    exact ⟨(k0 k (List.mem_range.1 hk)).2, (k1 k (List.mem_range.1 hk)).2⟩⟩
  unfold DsR
  rw [hl]
  refine fun hn0 => ?_
  obtain ⟨b, off, hA, hb, hc⟩ := hE hn0
  refine ⟨b, off, hA, hb, fun k i hk hi => ?_⟩
  refine (hc k i hk hi).trans ?_
  show _ = some (dsV (((List.range n).map f).getD k (0, 0)) i)
  rw [hg k hk, hf]
  rcases (by omega : i = 0 ∨ i = 1) with rfl | rfl
  · rw [(k0 k hk).1]; rfl
  · rw [(k1 k hk).1]; rfl
/-- a list of acts -/
theorem open_acts {x : DataW H × List MemPlace} {fuel : Nat} (h : DataW.trod enc Tryd.prog W 0 (fun _ => true) true fuel 22 [v] = some x) (hlt : ∀ y ∈ x.2, y.block < W.heap.size) (last toil : Int) :
    ∃ (d : Rad) (l : List Rac), v = .slice d.A l.length d.c ∧ l.length ≤ maxLen ∧ RtR W d ⟨l, last, toil⟩ := by
  obtain ⟨A, n, c, V, rfl, hn, hnc, hE, hV⟩ := open_cellsR Tryd.underlying22 Tryd.underlying58 (by kernel_rfl) (by kernel_rfl) (by decide) h hlt
  have key : ∀ i, i < n → ∃ q : Option Addr × Nat × Option Addr × Nat × Rac, (∀ k, k < 7 → V i k = acV q.2.2.2.2 q.1 q.2.1 q.2.2.1 q.2.2.2.1 k) ∧ LI W W.heap.size q.1 q.2.2.2.2.nd ∧ LI W W.heap.size q.2.2.1 q.2.2.2.2.ins := fun i hi => by
    obtain ⟨m0, y0, g0, l0⟩ := hV i 0 _ hi rfl
    obtain ⟨m1, y1, g1, l1⟩ := hV i 1 _ hi rfl
    obtain ⟨m2, y2, g2, l2⟩ := hV i 2 _ hi rfl
    obtain ⟨m3, y3, g3, l3⟩ := hV i 3 _ hi rfl
    obtain ⟨m4, y4, g4, l4⟩ := hV i 4 _ hi rfl
    obtain ⟨m5, y5, g5, l5⟩ := hV i 5 _ hi rfl
    obtain ⟨m6, y6, g6, l6⟩ := hV i 6 _ hi rfl
    obtain ⟨s, hs, -, -⟩ := DataW.trod_string Tryd.underlying9 g0
    obtain ⟨bo, hbo, -⟩ := DataW.trod_bool Tryd.underlying4 g6
    obtain ⟨A1, n1, c1, z1, e1, -, -, r1, -⟩ := open_ints_c Tryd.underlying48 g1 l1
    obtain ⟨A2, n2, c2, z2, e2, -, -, r2, -⟩ := open_ints_c Tryd.underlying48 g2 l2
    have e3 := (int_of_trod Tryd.underlying3 g3).1
    have e4 := (int_of_trod Tryd.underlying3 g4).1
    have e5 := (int_of_trod Tryd.underlying3 g5).1
    injection hs with e0
    injection hbo with e6
    have li : ∀ (A : Option Addr) (n : Nat) (z : Nat → Int), IR W W.heap.size A n z → LI W W.heap.size A ((List.range n).map z) := fun A n z hz => by
      have hl : ((List.range n).map z).length = n := by simp
      unfold LI
      rw [hl]
      refine fun hn => ?_
      obtain ⟨b', off, hA, hb, hc⟩ := hz hn
      refine ⟨b', off, hA, hb, fun k i hk hi => ?_⟩
      rw [hc k i hk hi]
      have e : ((List.range n).map z).getD k 0 = z k := by
        rw [List.getD_eq_getElem?_getD, List.getElem?_map, List.getElem?_range hk]; rfl
      show some (Value.int .i64 (z k)) = some (Value.int .i64 (((List.range n).map z).getD k 0))
      rw [e]
    refine ⟨(A1, c1, A2, c2, ⟨s, (List.range n1).map z1, (List.range n2).map z2, intOf (V i 3), intOf (V i 4), intOf (V i 5), bo⟩), fun k hk => ?_, li _ _ _ r1, li _ _ _ r2⟩
    have hl1 : ((List.range n1).map z1).length = n1 := by simp
    have hl2 : ((List.range n2).map z2).length = n2 := by simp
    rcases (by omega : k = 0 ∨ k = 1 ∨ k = 2 ∨ k = 3 ∨ k = 4 ∨ k = 5 ∨ k = 6) with rfl | rfl | rfl | rfl | rfl | rfl | rfl
    · exact e0
    · rw [e1]; show Value.slice A1 n1 c1 = Value.slice A1 ((List.range n1).map z1).length c1; rw [hl1]
    · rw [e2]; show Value.slice A2 n2 c2 = Value.slice A2 ((List.range n2).map z2).length c2; rw [hl2]
    · exact e3
    · exact e4
    · exact e5
    · exact e6
  haveI : Inhabited Rac := ⟨ra0⟩
  obtain ⟨q, hq⟩ := Deep.choose_lt key
  obtain ⟨f, hf⟩ : ∃ f : Nat → Rac, f = fun k => (q k).2.2.2.2 := ⟨_, rfl⟩
  have hl : ((List.range n).map f).length = n := by simp
  have hg : ∀ k, k < n → (⟨(List.range n).map f, last, toil⟩ : Rit).ac k = f k := fun k hk => by
    unfold Rit.ac
    show ((List.range n).map f).getD k ra0 = f k
    rw [List.getD_eq_getElem?_getD, List.getElem?_map, List.getElem?_range hk]; rfl
  have hn2 : (⟨(List.range n).map f, last, toil⟩ : Rit).n = n := hl
  refine ⟨⟨A, c, fun k => (q k).1, fun k => (q k).2.1, fun k => (q k).2.2.1, fun k => (q k).2.2.2.1⟩, (List.range n).map f, by rw [hl], by rw [hl]; exact hn, ⟨?_, fun k hk => ?_, fun k hk => ?_⟩⟩
  · rw [hn2]
    refine fun hn0 => ?_
    obtain ⟨b, off, hA, hb, hc⟩ := hE hn0
    refine ⟨b, off, hA, hb, fun k i hk hi => ?_⟩
    refine (hc k i hk hi).trans ?_
    show _ = some (acV (Rit.ac _ k) (q k).1 (q k).2.1 (q k).2.2.1 (q k).2.2.2.1 i)
    rw [hg k hk, hf, (hq k hk).1 i hi]
  · rw [hn2] at hk
    rw [hg k hk, hf]
    exact (hq k hk).2.1
  · rw [hn2] at hk
    rw [hg k hk, hf]
    exact (hq k hk).2.2
/-- a rite -/
theorem open_riteV (hval : Value.okWide Tryd.prog W r b0 24 v) (h : DataW.Trod enc Tryd.prog W 0 (fun _ => true) true 24 v d p) (hlt : ∀ x ∈ p, x.block < W.heap.size) :
    ∃ (dd : Rad) (s : Rit), v = .agg #[.slice dd.A s.n dd.c, .int .i64 s.last, .int .i64 s.toil] ∧ s.n ≤ maxLen ∧ RtR W dd s ∧ (-9223372036854775808 ≤ s.last ∧ s.last ≤ 9223372036854775807) ∧ -9223372036854775808 ≤ s.toil ∧ s.toil ≤ 9223372036854775807 := by
  obtain ⟨cs, rfl, hsz⟩ := okWide_struct Tryd.underlying24 hval
  obtain ⟨a, b, c, rfl⟩ : ∃ a b c, cs = #[a, b, c] := by
    have hsz := hsz.trans (show _ = 3 by kernel_rfl)
    rcases cs with ⟨l⟩
    match l, hsz with
    | [a, b, c], _ => exact ⟨a, b, c, rfl⟩
  obtain ⟨fuel, h⟩ := h
  have h' : DataW.trod enc Tryd.prog W 0 (fun _ => true) true fuel 24 [a, b, c] = some (d, p) := h
  obtain ⟨xs, m, -, hxy, -, hxl, hf⟩ := DataW.trod_struct Tryd.underlying24 h'
  have g0 := hf 0 _ rfl
  have g1 := hf 1 _ rfl
  have g2 := hf 2 _ rfl
  rw [List.getElem?_eq_getElem (by rw [hxl]; decide)] at g0 g1 g2
  have k0 : DataW.trod enc Tryd.prog W 0 (fun _ => true) true m 22 [a] = _ := g0
  have k1 : DataW.trod enc Tryd.prog W 0 (fun _ => true) true m 3 [b] = _ := g1
  have k2 : DataW.trod enc Tryd.prog W 0 (fun _ => true) true m 3 [c] = _ := g2
  obtain ⟨e1, b1⟩ := int_of_trod Tryd.underlying3 k1
  obtain ⟨e2, b2⟩ := int_of_trod Tryd.underlying3 k2
  simp only [Prod.mk.injEq] at hxy
  obtain ⟨dd, l, e0, l0, r0⟩ := open_acts k0 (fun y hy => hlt y (by
    rw [hxy.2]
    exact List.mem_flatMap.2 ⟨_, List.getElem_mem _, hy⟩)) (intOf b) (intOf c)
  refine ⟨dd, ⟨l, intOf b, intOf c⟩, ?_, l0, r0, b1, b2⟩
  show _ = Value.agg #[.slice dd.A l.length dd.c, .int .i64 (intOf b), .int .i64 (intOf c)]
  rw [← e0, ← e1, ← e2]
theorem open_deedsV (hval : Value.okWide Tryd.prog W r b0 25 v) (h : DataW.Trod enc Tryd.prog W 0 (fun _ => true) true 25 v d p) (hlt : ∀ x ∈ p, x.block < W.heap.size) :
    ∃ (A : Option Addr) (c : Nat) (l : List (Int × Int)), v = .slice A l.length c ∧ (l.length ≤ maxLen ∧ l.length ≤ c) ∧ DsR W A l ∧ ∀ t ∈ l, (-9223372036854775808 ≤ t.1 ∧ t.1 ≤ 9223372036854775807) ∧ -9223372036854775808 ≤ t.2 ∧ t.2 ≤ 9223372036854775807 := by
  obtain ⟨fuel, h⟩ := h
  obtain ⟨A, n, c, rfl⟩ := okWide_slice Tryd.underlying25 hval
  rw [cells_slice] at h
  exact open_deeds h hlt
theorem open_intV (hval : Value.okWide Tryd.prog W r b0 3 v) (h : DataW.Trod enc Tryd.prog W 0 (fun _ => true) true 3 v d p) : ∃ x, v = .int .i64 x ∧ -9223372036854775808 ≤ x ∧ x ≤ 9223372036854775807 := by
  obtain ⟨z, rfl, rfl, rfl, -⟩ := open_int Tryd.underlying3 hval h
  obtain ⟨fuel, h⟩ := h
  have e := int_of_trod Tryd.underlying3 h
  exact ⟨z, rfl, e.2⟩
end
end Go.Proofs.YtcgdalabenflmaaDoor
namespace Go.Proofs.YtcgdalabenflmaaDoor.riteJudges
open Go Go.ChangeShapes Go.WideShapes Go.ChangeAt Go.RowKit
set_option maxRecDepth 100000 in
theorem lifted (os : Os) (started : os.Started) (H : Type) (enc : TypeId × Value → H) :
    ReturnsInHanded {} Tryd.checked os 6 .any (fun w args => (Rows.riteJudgesSpec.pre enc Tryd.prog Tryd.f6 Rows.riteJudgesRow.domain false w args ∧ laidMetH Tryd.prog Rows.riteJudgesRow.laid w) ∧ sizedMet enc Tryd.prog Tryd.f6 (OpenSpec.ofChange Rows.riteJudgesSpec) false w args)
      (Rows.riteJudgesSpec.post enc Tryd.prog Tryd.f6 false true false false) := by
  refine returnsInHanded_of_change_and (C := Tryd.checked) (X := fun w _ => laidMetH Tryd.prog Rows.riteJudgesRow.laid w) (fun _ _ _ hh h => h.of_heap hh) own_knob started (by kernel_rfl) Tryd.func6
    (ChangeSpec.witness_shaped (enc := enc) (C := Tryd.checked) (os := os) (X := fun w _ => laidMetH Tryd.prog Rows.riteJudgesRow.laid w) false (World.laidAll Tryd.prog os Rows.riteJudgesRow.laid) #[.agg #[.slice none 0 0, .int .i64 0, .int .i64 0], .slice none 0 0] 8 (World.laidAll_os _ _ _)
      (World.shaped_of_ZipB (by kernel_rfl) (by kernel_rfl)) (by kernel_rfl) (by kernel_rfl) (by kernel_rfl)
      (by rw [MakeChecks.laidMetH_plain _ _ _ (by kernel_rfl)]; exact laidMet_laidAll _ (by kernel_rfl) (by kernel_rfl))) ?_
  intro W base args ds gs before hval0 hW _ _ hL _
  have hval : ∀ (j : Nat) t v, Tryd.f6.params[j]? = some t → args[j]? = some v → Value.okWide Tryd.prog W .any base t v := hval0
  have hW' := hW
  have hlt : ∀ p ∈ before, p.block < W.heap.size := fun p hp => hW.lt p hp
  obtain ⟨p, q, hA0, hV, rfl, hfz, hnd⟩ := hW
  have hA : DataW.TrodAll enc Tryd.prog W 0 (fun _ => true) true Tryd.f6.params.toList args.toList ds p := hA0
  rw [Tryd.params6] at hA hval
  obtain ⟨v0, vs0, d0, ds0, p0, q0, hargs, rfl, rfl, h0, r0⟩ := trodAll_cons hA
  obtain ⟨v1, vs1, d1, ds1, p1, q1, rfl, rfl, rfl, h1, r1⟩ := trodAll_cons r0
  obtain ⟨rfl, rfl, rfl⟩ := trodAll_nil r1
  obtain rfl : args = #[v0, v1] := by cases args; simp_all
  obtain ⟨rfl, rfl⟩ := trodVars_none hV
  have k0 := hval 0 24 v0 rfl rfl
  have k1 := hval 1 25 v1 rfl rfl
  have hT : TB W := tb_laid hL (by kernel_rfl) (.head _) (by kernel_rfl)
  obtain ⟨e0, l0, rfl, -, s0, -, -⟩ := open_riteV k0 h0 (fun x hx => hlt x (by simp [hx]))
  obtain ⟨A1, c1, u1, rfl, -, s1, -⟩ := open_deedsV k1 h1 (fun x hx => hlt x (by simp [hx]))
  clear hA0 hval0
  refine (judges_any e0 l0 A1 c1 u1 W s0 s1 hT).mono fun e W' ⟨he, hb⟩ => ?_
  subst he
  exact ⟨_, rfl, law_post hW' hb rfl rfl (by kernel_rfl) ⟨rfl, rfl, rfl⟩⟩
theorem over : Rows.riteJudgesRow.holds Tryd.pinned (OpenSpec.ofChange Rows.riteJudgesSpec) :=
  OpenClaim.holds_of_wide 6 Tryd.f6 rfl rfl rfl rfl rfl rfl rfl ⟨rfl, rfl, rfl, rfl, rfl⟩ rfl rfl rfl rfl rfl (by kernel_rfl) Tryd.func6 (by kernel_rfl)
    (of_decide_eq_true (by kernel_rfl)) (by unfold Func.isWrapper; first | (rw [if_pos (by decide +kernel)]; kernel_rfl) | (rw [if_neg (by decide +kernel)]; exact ⟨rfl, rfl⟩))
    (fun os started H enc _ => lifted os started H enc)
theorem proved : Rows.RiteJudgesCardSaid :=
  Claim7.holds_tied_plain_at .later [] [.data, .data, .data, .data, .pinned] true (true, "376b80f4633cca043c83d1652b79e11020b8f3081dfa86be3e3dff3f771ffefe") false over (fun _ h => by cases h) (by kernel_rfl) (fun _ h => by cases h) riteJudges_row_tie rfl ⟨rfl, rfl⟩ (by kernel_rfl) rfl
    (fun f fn hf hfn => by
      obtain rfl : f = 6 := Option.some.inj ((show Tryd.prog.funcNamed "chiti/chitilaw09.RiteJudges" = some 6 by kernel_rfl).symm.trans hf) |>.symm
      obtain rfl : fn = Tryd.f6 := (Option.some.inj (Tryd.func6.symm.trans hfn)).symm
      exact ⟨by kernel_rfl, fun j t ht => by
        rw [Tryd.params6] at ht
        have hm : t ∈ ([24, 25] : List TypeId) := by simpa using Array.mem_of_getElem? ht
        have hall : (([24, 25] : List TypeId).all fun u => !Tryd.prog.wantsStandIn u) = true := by kernel_rfl
        exact (show Tryd.prog.wantsStandIn t = false by simpa using List.all_eq_true.1 hall t hm)⟩)
    (by kernel_rfl)
#print axioms proved
end Go.Proofs.YtcgdalabenflmaaDoor.riteJudges
