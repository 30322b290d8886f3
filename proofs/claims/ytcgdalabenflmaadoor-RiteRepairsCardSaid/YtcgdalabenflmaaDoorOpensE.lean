/- Rite: the fewest deeds (fewest.from), walked. -/
import Derived.Test.YtcgdalabenflmaaDoorOpensD
import Derived.RangeFuncBox
set_option linter.unusedSimpArgs false
set_option linter.unusedVariables false
set_option linter.unnecessarySimpa false
namespace Go.Proofs.YtcgdalabenflmaaDoor
open List renaming getElem_toArray → glA, getElem_cons_zero → glB, getElem_cons_succ → glC, setIfInBounds_toArray → glD, set_cons_zero → glE, set_cons_succ → glF
open Go Go.RowKit Go.Shelf
attribute [local go_sem] Oper.semAt_some
set_option maxHeartbeats 8000000
set_option maxRecDepth 100000
theorem wpIn_only {F : Fence} {n : Nat} {P : Program} {c : Code} {Q : Exit → Act → World → Prop} {a : Act} {w : World} (h : c.wpIn F n P (OnlyNormal fun a' w' => Q .normal a' w') a w) : c.wpIn F n P Q a w :=
  wpIn_cut (fun _ a' w' => Q .normal a' w') h (fun _ _ h => h)
/-- a book with what is known of its moments -/
structure FwR (w : World) (fb b mp : Nat) (d : Rad) (q : Bad) (r : Rit) : Prop where
  bk : BkR w b d q r
  blk : Blk w fb 83 #[.pointer (some ⟨b, 0, none⟩), .map (some mp)]
  fm : FmAt w mp r
  tb : TB w
theorem FwR.ext {w w' : World} {fb b mp : Nat} {d : Rad} {q : Bad} {r : Rit} (h : FwR w fb b mp d q r) (hb : Below w.heap.size w w') : FwR w' fb b mp d q r :=
  ⟨h.bk.ext hb, h.blk.ext hb, h.fm.ext hb, h.tb.ext hb⟩
theorem FwR.turn {w w' : World} {fb b mp : Nat} {d : Rad} {q : Bad} {r : Rit} (h : FwR w fb b mp d q r) (hg : w.grownBy w' (some mp)) (hf : FmAt w' mp r) : FwR w' fb b mp d q r :=
  have k := KC.map h.fm hg
  ⟨k.bk h.bk, k.blk h.blk, hf, k.tb h.tb⟩
theorem FwR.keptN {w w' : World} {fb b mp : Nat} {d : Rad} {q : Bad} {r : Rit} (h : FwR w fb b mp d q r) {row : Option Nat} (hg : w.grownBy w' row) (hr : ∀ r, row = some r → ∃ o : Obj, w.heap[r]? = some o ∧ o.isCells = false) (hne : some mp ≠ row) : FwR w' fb b mp d q r :=
  have k := KC.of_grown hg hr
  ⟨k.bk h.bk, k.blk h.blk, h.fm.kept hg hne, k.tb h.tb⟩
theorem gr_more {w W W' : World} {p : Nat} {row : Option Nat} (h : w.grownBy W (some p)) (hg : W.grownBy W' row) (hr : ∀ r, row = some r → w.heap.size ≤ r) : w.grownBy W' (some p) :=
  ⟨hg.os.trans h.os, hg.tape.trans h.tape, hg.output.trans h.output, Nat.le_trans h.size hg.size, fun i hi e => (hg.block i (Nat.lt_of_lt_of_le hi h.size) (fun e2 => by have := hr i e2.symm; omega)).trans (h.block i hi e)⟩
def FewPost (w : World) (fb b mp : Nat) (d : Rad) (q : Bad) (r : Rit) (m : Mom) (e : Ending) (w' : World) : Prop :=
  e = .returned (.int .i64 (fwN r m : Nat)) ∧ FwR w' fb b mp d q r ∧ w.grownBy w' (some mp)
/-- what the call keeps: g its pointer, g + 1 its moment -/
structure FwS (w W : World) (mp : Nat) (r : Rit) (g fb D : Nat) (day de : Int) : Prop where
  gb : w.grownBy W (some mp)
  fm : FmAt W mp r
  k2 : Blk W g 80 #[.pointer (some ⟨fb, 0, none⟩)]
  k3 : Blk W (g + 1) 77 #[.int .u16 (D : Nat), .int .i64 day, .int .i64 de]
theorem FwS.ext {w W W' : World} {mp : Nat} {r : Rit} {g fb D : Nat} {day de : Int} (h : FwS w W mp r g fb D day de) (hb : Below W.heap.size W W') : FwS w W' mp r g fb D day de :=
  ⟨gr_more h.gb (grown_no hb) (fun r e => by cases e), h.fm.ext hb, h.k2.ext hb, h.k3.ext hb⟩
theorem FwS.turn {w W W' : World} {mp : Nat} {r : Rit} {g fb D : Nat} {day de : Int} (h : FwS w W mp r g fb D day de) (hg : W.grownBy W' (some mp)) (hf : FmAt W' mp r) : FwS w W' mp r g fb D day de :=
  have k := KC.map h.fm hg
  ⟨gr_trans h.gb hg, hf, k.blk h.k2, k.blk h.k3⟩
theorem FwS.keptN {w W W' : World} {mp : Nat} {r : Rit} {g fb D : Nat} {day de : Int} (h : FwS w W mp r g fb D day de) {row : Option Nat} (hg : W.grownBy W' row) (hr : ∀ r, row = some r → w.heap.size ≤ r ∧ ∃ o : Obj, W.heap[r]? = some o ∧ o.isCells = false) (hm : mp < w.heap.size) : FwS w W' mp r g fb D day de :=
  have k := KC.of_grown hg (fun r e => (hr r e).2)
  ⟨gr_more h.gb hg (fun r e => (hr r e).1), h.fm.kept hg (fun e => by have := (hr _ e.symm).1; omega), k.blk h.k2, k.blk h.k3⟩
theorem FwS.set {w W : World} {mp : Nat} {r : Rit} {g fb D : Nat} {day de : Int} (h : FwS w W mp r g fb D day de) {p : Nat} (hp : w.heap.size ≤ p) (hm : mp < w.heap.size) (h2 : p ≠ g) (h3 : p ≠ g + 1) (v : Value) : FwS w (W.setCell ⟨p, 0, none⟩ v) mp r g fb D day de :=
  have hg := grownBy_setCell' W p v
  ⟨gr_more h.gb hg (fun r e => by cases e; exact hp), h.fm.kept hg (fun e => by injection e; omega), h.k2.far (p := ⟨p, 0, none⟩) (fun e => h2 e.symm) v, h.k3.far (p := ⟨p, 0, none⟩) (fun e => h3 e.symm) v⟩
theorem few_any (fb b mp : Nat) (d : Rad) (q : Bad) (r : Rit) (hr : RiOk r) : ∀ (k : Nat) (m : Mom) (w : World), meN r m < k → MoOk r m → FwR w fb b mp d q r →
    Calls Tryd.prog 41 #[.pointer (some ⟨fb, 0, none⟩), momV m] w (FewPost w fb b mp d q r m) := by
  intro k
  induction k with
  | zero => intro m w h; omega
  | succ k ih =>
  intro m w hk hm hf0
  have h10 : r.n ≤ 16 := by have := hr.n10; omega
  have HIH := hide ih
  have HM := hide hm
  have HK := hide hk
  have HR := hide hr
  have HF0 := hide hf0
  have HEQ := hide (fwN_eq h10 m)
  have HLK := hide (fun W (h : FmAt W mp r) => fm_look hr h hm)
  have HPU := hide (fun W (h : FmAt W mp r) => fm_put hr h hm)
  have HCO := hide (fun W (h : BkR W b d q r) => complete_any b d q r m.d W hr hm.d h)
  have HNX := hide (fun W (h : BkR W b d q r) => next_any b d q r m W hr hm.d h)
  obtain ⟨D, day, de⟩ := m
  have HON : Hid (∀ W, Calls Tryd.prog 42 #[.agg #[.int .u16 (D : Nat), .int .i64 day, .int .i64 de], .int .i64 (day + 1)] W fun e w' => e = .returned (momV (Mom.on ⟨D, day, de⟩ (day + 1))) ∧ Below W.heap.size W w') := hide (fun W => on_any ⟨D, day, de⟩ (day + 1) W)
  have HWI : Hid (∀ (i : Nat) (_ : i < 16) W, Calls Tryd.prog 65 #[.agg #[.int .u16 (D : Nat), .int .i64 day, .int .i64 de], .int .i64 i] W fun e w' => e = .returned (momV (Mom.wi ⟨D, day, de⟩ i)) ∧ Below W.heap.size W w') := hide (fun i hi W => with_any ⟨D, day, de⟩ i W hm.d hi hm.e0 (by have h1 := hm.e1; have h2 := hr.t4; omega))
  obtain ⟨v, hv⟩ : ∃ x, fwN r ⟨D, day, de⟩ = x := ⟨_, rfl⟩
  have HV := hide hv
  have hday := hm.d1
  have hday0 := hm.d0
  have hl30 := hr.l30
  obtain ⟨la, hla⟩ : ∃ x, r.last = x := ⟨_, rfl⟩
  have HLA := hide hla
  unfold FewPost
  rw [hla] at hday hl30
  rw [hla, hv] at HEQ
  rw [hv] at HPU ⊢
  unfold momV at HLK HPU HNX ⊢
  dsimp only at HLK HPU HCO HNX HEQ hday hday0 ⊢
  refine (callsIn_wide (n := 9)).1 ?_
  obtain ⟨F, hFw⟩ : ∃ F : Fence, F = Fence.wide := ⟨_, rfl⟩
  rw [← hFw]
  have hF : ∀ f, F.fn f := by rw [hFw]; exact fun _ => trivial
  have hro : F.round = none := by rw [hFw]; rfl
  have hwd : ∀ {n f args w R}, Calls Tryd.prog f args w R → CallsIn F n Tryd.prog f args w R := by rw [hFw]; exact fun h => callsIn_wide.2 h
  clear hFw
  have HB1 : Hid (Below w.heap.size w ((w.alloc (.cells #[.pointer (some ⟨fb, 0, none⟩)] 80)).alloc (.cells #[.int .u16 (D : Nat), .int .i64 day, .int .i64 de] 77))) := hide (((Below.refl _ _).alloc (Nat.le_refl _) _).alloc (by simp) _)
  have G2 : Hid (Blk ((w.alloc (.cells #[.pointer (some ⟨fb, 0, none⟩)] 80)).alloc (.cells #[.int .u16 (D : Nat), .int .i64 day, .int .i64 de] 77)) w.heap.size 80 #[.pointer (some ⟨fb, 0, none⟩)]) := hide ((Blk.new w _ _).alloc _)
  have G3 : Hid (Blk ((w.alloc (.cells #[.pointer (some ⟨fb, 0, none⟩)] 80)).alloc (.cells #[.int .u16 (D : Nat), .int .i64 day, .int .i64 de] 77)) (w.heap.size + 1) 77 #[.int .u16 (D : Nat), .int .i64 day, .int .i64 de]) := hide (by simpa using Blk.new (w.alloc (.cells #[.pointer (some ⟨fb, 0, none⟩)] 80)) 77 #[.int .u16 (D : Nat), .int .i64 day, .int .i64 de])
  have HMP := hide hf0.fm.lt
  obtain ⟨g, hg⟩ : ∃ x, w.heap.size = x := ⟨_, rfl⟩
  have HG : Hid (w.heap.size = g) := hide hg
  have HS1 : Hid (FwS w ((w.alloc (.cells #[.pointer (some ⟨fb, 0, none⟩)] 80)).alloc (.cells #[.int .u16 (D : Nat), .int .i64 day, .int .i64 de] 77)) mp r g fb D day de) := hide ⟨gr_below HB1.out mp, (hf0.ext HB1.out).fm, by rw [← hg]; exact G2.out, by rw [← hg]; exact G3.out⟩
  have HSA : Hid (∀ W, FwS w W mp r g fb D day de → (W.cell? ⟨g, 0, none⟩ = some (.pointer (some ⟨fb, 0, none⟩)) ∧ (W.cell? ⟨g + 1, 0, none⟩ = some (.int .u16 (D : Nat)) ∧ W.cell? ⟨g + 1, 1, none⟩ = some (.int .i64 day) ∧ W.cell? ⟨g + 1, 2, none⟩ = some (.int .i64 de)) ∧ (W.cell? ⟨fb, 0, none⟩ = some (.pointer (some ⟨b, 0, none⟩)) ∧ W.cell? ⟨fb, 1, none⟩ = some (.map (some mp))) ∧ W.cell? ⟨b, 1, none⟩ = some (.int .i64 la))) := hide (fun W h => by
    have h1 := hf0.turn h.gb h.fm
    obtain ⟨-, x0, -⟩ := blk1 h.k2
    obtain ⟨-, y0, y1, y2, -⟩ := blk3 h.k3
    obtain ⟨-, z0, z1, -⟩ := blk2 h1.blk
    have u1 := (bx8 h1.bk.blk).2.2.1
    rw [hla] at u1
    exact ⟨x0, ⟨y0, y1, y2⟩, ⟨z0, z1⟩, u1⟩)
  refine callsIn_of_wp_marks Tryd.func41 rfl (hF _) ?_ hro
  simp only [Tryd.ntmps41, List.size_toArray, List.length_cons, List.length_nil, Nat.reduceAdd, Nat.reduceSub, Array.replicate_succ, Array.replicate_zero, List.push_toArray, List.append_toArray, List.nil_append, List.cons_append]
  clear G2 G3 HB1 ih hk hm hr hv hla hf0
  gi_wp2_with fail
  (try simp only [World.size_alloc])
  (try rw [hg])
  clear hg
  generalize ((w.alloc (.cells #[.pointer (some ⟨fb, 0, none⟩)] 80)).alloc (.cells #[.int .u16 (D : Nat), .int .i64 day, .int .i64 de] 77)) = w1 at HS1 ⊢
  refine wpIn_only ?_
  refine wpIn_region_J (fun W : World => (W.cell? ⟨g, 0, none⟩ = some (.pointer (some ⟨fb, 0, none⟩)) ∧ (W.cell? ⟨g + 1, 0, none⟩ = some (.int .u16 (D : Nat)) ∧ W.cell? ⟨g + 1, 1, none⟩ = some (.int .i64 day) ∧ W.cell? ⟨g + 1, 2, none⟩ = some (.int .i64 de)) ∧ (W.cell? ⟨fb, 0, none⟩ = some (.pointer (some ⟨b, 0, none⟩)) ∧ W.cell? ⟨fb, 1, none⟩ = some (.map (some mp))) ∧ W.cell? ⟨b, 1, none⟩ = some (.int .i64 la))) (by kernel_rfl) ?_
  replace HS1 := hide (HS1.out.ext (Below.refl w1.heap.size w1).drew)
  generalize w1.drew = wd at HS1 ⊢
  refine tk_start [0, 1, 2, 3, 4, 5] ?_
  iterate 6
    refine tk_one (v := ?_) (by first | exact hF | exact wideFn) (HSA.out _ HS1.out) rfl (by kernel_rfl) (by kernel_rfl) (by kernel_rfl) (by kernel_rfl) rfl ?_ (by first | exact fun _ _ _ h => h | exact fun _ _ _ h => hQ2 _ _ _ _ _ h) ?_
    rotate_left
    · intro W hSW
      simp only [glA, glB, glC]
      (try dsimp only at hSW)
      go_simp
      with_reducible rfl
    (try simp only [glA, glB, glC, Act.put, glD, glE, glF])
  refine tk_end ?_
  refine wpAnyJ_one 6 rfl (by kernel_rfl) (fun K hK => ?_)
  simp only [glA, glB, glC]
  go_simp
  (with_reducible refine ((hwd (HCO.out wd (HF0.out.turn HS1.out.gb HS1.out.fm).bk))).mono ?_)
  rintro e w2 ⟨rfl, h2⟩
  have HS2 := hide (HS1.out.ext h2)
  dsimp only
  refine hK.out _ _ (fun _ => HSA.out _ HS2.out) ?_
  clear hK K
  (try simp only [glA, glB, glC, Act.put, glD, glE, glF])
  refine wpAnyJ_done (by kernel_rfl) ?_
  dsimp only [OnlyNormal]
  clear h2
  rcases hco : coB r D with _ | _
  rotate_left
  · have HV0 : Hid (v = 0) := hide (by rw [HEQ.out, hco]; rfl)
    gi_wp2_with fail
    refine ⟨.int .i64 0, by simp [results, Tryd.results41, go_sem], ?_⟩
    rw [HV0.out]
    exact ⟨rfl, HF0.out.turn HS2.out.gb HS2.out.fm, HS2.out.gb⟩
  replace HEQ := hide (by have h := HEQ.out; rw [hco, if_neg (by decide)] at h; exact h)
  clear hco
  gi_wp2_with fail
  replace HS2 := hide (HS2.out.ext (Below.refl w2.heap.size w2).drew)
  obtain ⟨c, y, hlk, hcy⟩ := HLK.out _ HS2.out.fm
  have HLK2 := hide hlk
  clear hlk
  refine wpIn_only ?_
  refine wpIn_region_J (fun W : World => ((W.cell? ⟨g, 0, none⟩ = some (.pointer (some ⟨fb, 0, none⟩)) ∧ (W.cell? ⟨g + 1, 0, none⟩ = some (.int .u16 (D : Nat)) ∧ W.cell? ⟨g + 1, 1, none⟩ = some (.int .i64 day) ∧ W.cell? ⟨g + 1, 2, none⟩ = some (.int .i64 de)) ∧ (W.cell? ⟨fb, 0, none⟩ = some (.pointer (some ⟨b, 0, none⟩)) ∧ W.cell? ⟨fb, 1, none⟩ = some (.map (some mp))) ∧ W.cell? ⟨b, 1, none⟩ = some (.int .i64 la)) ∧ (Instr.lookup 81 (.map (some mp)) (.agg #[.int .u16 (D : Nat), .int .i64 day, .int .i64 de]) true).run Tryd.prog W = .ok (.tuple #[.int .i64 c, .bool y]) W)) (by kernel_rfl) ?_
  generalize w2.drew = w3 at HS2 HLK2 ⊢
  refine tk_start [0, 1, 2, 3, 4, 5, 6, 7, 8, 9, 10] ?_
  iterate 11
    refine tk_one (v := ?_) (by first | exact hF | exact wideFn) ⟨HSA.out _ HS2.out, HLK2.out⟩ rfl (by kernel_rfl) (by kernel_rfl) (by kernel_rfl) (by kernel_rfl) rfl ?_ (by first | exact fun _ _ _ h => h | exact fun _ _ _ h => hQ2 _ _ _ _ _ h) ?_
    rotate_left
    · intro W hSW
      simp only [glA, glB, glC]
      (try dsimp only at hSW)
      go_simp
      with_reducible rfl
    (try simp only [glA, glB, glC, Act.put, glD, glE, glF])
  refine tk_end ?_
  refine wpAnyJ_done (by kernel_rfl) ?_
  dsimp only [OnlyNormal]
  rw [HV.out] at hcy
  cases y with
  | true =>
    obtain rfl := hcy rfl
    gi_wp2_with fail
    refine ⟨.int .i64 v, by simp [results, Tryd.results41, go_sem], ?_⟩
    exact ⟨rfl, HF0.out.turn HS2.out.gb HS2.out.fm, HS2.out.gb⟩
  | false =>
  clear hcy HLK2
  gi_wp2_with fail
  rename_i K9 hK9 K7c hK7c
  have HK9 := hide hK9
  have k7 := Blk.new w3 3 #[.int .i64 11]
  have hb7 : Below w3.heap.size w3 (w3.alloc (.cells #[.int .i64 11] 3)) := (Below.refl _ _).alloc (Nat.le_refl _) _
  have hbd := (Below.refl (w3.alloc (.cells #[.int .i64 11] 3)).heap.size (w3.alloc (.cells #[.int .i64 11] 3))).drew
  have HLO : Hid (w.heap.size ≤ w3.heap.size ∧ g + 1 < w3.heap.size) := hide ⟨HS2.out.gb.size, HS2.out.k3.lt⟩
  replace HS2 := hide ((HS2.out.ext hb7).ext hbd)
  have K7 := hide (k7.ext hbd)
  clear k7 hb7 hbd hK9
  refine wpIn_only ?_
  refine wpIn_region_J (fun W : World => (W.cell? ⟨g, 0, none⟩ = some (.pointer (some ⟨fb, 0, none⟩)) ∧ (W.cell? ⟨g + 1, 0, none⟩ = some (.int .u16 (D : Nat)) ∧ W.cell? ⟨g + 1, 1, none⟩ = some (.int .i64 day) ∧ W.cell? ⟨g + 1, 2, none⟩ = some (.int .i64 de)) ∧ (W.cell? ⟨fb, 0, none⟩ = some (.pointer (some ⟨b, 0, none⟩)) ∧ W.cell? ⟨fb, 1, none⟩ = some (.map (some mp))) ∧ W.cell? ⟨b, 1, none⟩ = some (.int .i64 la))) (by kernel_rfl) ?_
  generalize (w3.alloc (.cells #[.int .i64 11] 3)).drew = w4 at HS2 K7 ⊢
  obtain ⟨h7, hh7⟩ : ∃ x, w3.heap.size = x := ⟨_, rfl⟩
  rw [hh7] at K7 HLO ⊢
  clear hh7
  obtain ⟨bs, hbs⟩ : ∃ x, (if day < la then fwN r (Mom.on ⟨D, day, de⟩ (day + 1)) else 11) = x := ⟨_, rfl⟩
  have HBS := hide hbs
  rw [hbs] at HEQ
  clear hbs
  have REST : Hid (∀ (u37 u38 u39 u40 u41 u42 u43 u44 : Value) (W : World), FwS w W mp r g fb D day de → Blk W h7 3 #[.int .i64 (bs : Nat)] → K9 { tmps := #[.pointer (some ⟨fb, 0, none⟩), .agg #[.int .u16 (D : Nat), .int .i64 day, .int .i64 de], .pointer (some ⟨g, 0, none⟩), .pointer (some ⟨g + 1, 0, none⟩), .int .i64 0, .int .i64 c, .bool false, .pointer (some ⟨h7, 0, none⟩), undef, .pointer (some ⟨fb, 0, none⟩), .pointer (some ⟨fb, 0, none⟩), .pointer (some ⟨fb, 0, none⟩), .pointer (some ⟨b, 0, none⟩), .pointer (some ⟨g + 1, 0, none⟩), .int .u16 (D : Nat), .bool false, .tuple #[.int .i64 c, .bool false], .pointer (some ⟨fb, 0, none⟩), .pointer (some ⟨fb, 0, none⟩), .pointer (some ⟨fb, 1, none⟩), .map (some mp), .agg #[.int .u16 (D : Nat), .int .i64 day, .int .i64 de], .tuple #[.int .i64 c, .bool false], .int .i64 c, .bool false, .bool false, undef, .pointer (some ⟨g + 1, 1, none⟩), .int .i64 day, .pointer (some ⟨fb, 0, none⟩), .pointer (some ⟨fb, 0, none⟩), .pointer (some ⟨fb, 0, none⟩), .pointer (some ⟨b, 0, none⟩), .pointer (some ⟨b, 0, none⟩), .pointer (some ⟨b, 0, none⟩), .pointer (some ⟨b, 1, none⟩), .int .i64 la, u37, u38, u39, u40, u41, u42, u43, u44, undef, undef, undef, undef, undef, undef, undef, undef, undef, undef, undef, undef, undef, undef, undef, undef, undef, undef, undef, undef, undef, undef, undef], defers := [] } W) := by
    refine hide ?_
    intro u37 u38 u39 u40 u41 u42 u43 u44 W hS h7k
    refine HK9.out _ _ ?_
    clear HK9 hK7c
    dsimp only
    have HS := hide (hS.ext (Below.refl W.heap.size W).drew)
    have HK7 := hide (h7k.ext (Below.refl W.heap.size W).drew)
    clear hS h7k HS2 K7
    gi_wp2_with fail
    refine wpIn_only ?_
    refine wpIn_region_J (fun W : World => (W.cell? ⟨g, 0, none⟩ = some (.pointer (some ⟨fb, 0, none⟩)) ∧ (W.cell? ⟨g + 1, 0, none⟩ = some (.int .u16 (D : Nat)) ∧ W.cell? ⟨g + 1, 1, none⟩ = some (.int .i64 day) ∧ W.cell? ⟨g + 1, 2, none⟩ = some (.int .i64 de)) ∧ (W.cell? ⟨fb, 0, none⟩ = some (.pointer (some ⟨b, 0, none⟩)) ∧ W.cell? ⟨fb, 1, none⟩ = some (.map (some mp))) ∧ W.cell? ⟨b, 1, none⟩ = some (.int .i64 la))) (by kernel_rfl) ?_
    generalize W.drew = w5 at HS HK7 ⊢
    refine tk_start [0, 1, 2, 3, 4] ?_
    iterate 5
      refine tk_one (v := ?_) (by first | exact hF | exact wideFn) (HSA.out _ HS.out) rfl (by kernel_rfl) (by kernel_rfl) (by kernel_rfl) (by kernel_rfl) rfl ?_ (by first | exact fun _ _ _ h => h | exact fun _ _ _ h => hQ2 _ _ _ _ _ h) ?_
      rotate_left
      · intro W hSW
        simp only [glA, glB, glC]
        (try dsimp only at hSW)
        go_simp
        with_reducible rfl
      (try simp only [glA, glB, glC, Act.put, glD, glE, glF])
    refine tk_end ?_
    refine wpAnyJ_one 5 rfl (by kernel_rfl) (fun K hK => ?_)
    simp only [glA, glB, glC]
    go_simp
    (with_reducible refine ((hwd (HNX.out w5 (HF0.out.turn HS.out.gb HS.out.fm).bk))).mono ?_)
    rintro e w6 ⟨rfl, h6⟩
    have HS6 := hide (HS.out.ext h6)
    dsimp only
    refine hK.out _ _ (fun _ => HSA.out _ HS6.out) ?_
    clear hK K
    (try simp only [glA, glB, glC, Act.put, glD, glE, glF])
    refine wpAnyJ_take 6 (v := ?_) (by first | exact hF | exact wideFn) (HSA.out _ HS6.out) rfl (by kernel_rfl) (by kernel_rfl) (by kernel_rfl) (by kernel_rfl) rfl ?_ (by first | exact fun _ _ _ h => h | exact fun _ _ _ h => hQ2 _ _ _ _ _ h) ?_
    rotate_left
    · intro W hSW
      simp only [glA, glB, glC]
      (try dsimp only at hSW)
      go_simp
      with_reducible rfl
    (try simp only [glA, glB, glC, Act.put, glD, glE, glF])
    refine wpAnyJ_done (by kernel_rfl) ?_
    dsimp only [OnlyNormal]
    gi_wp2_with fail
    have K6 := hide (HK7.out.ext h6)
    clear h6 HS HK7
    have hst := all_seq F (9 - 1) hF hro (by omega) hwd (neS r ⟨D, day, de⟩) w6 (lt16 (mkS_lt _ r.n) h10)
    refine wpIn_rangeFunc_list hro (by omega) (gf := 66) (fs := #[.int .u16 (neS r ⟨D, day, de⟩ : Nat)]) (lb := #[]) rfl (hF _) (enters_of Tryd.func66 (by kernel_rfl) rfl)
      hst (Below.refl _ _) (fun _ => rfl)
      (fun pre W => FwS w W mp r g fb D day de ∧ Blk W h7 3 #[.int .i64 (pre.foldl (fun b a => min b (1 + fwN r (Mom.wi ⟨D, day, de⟩ a))) bs : Nat)])
      (fun _ _ _ => False) ?hI (fun pre W h => (HF0.out.turn h.1.gb h.1.fm).tb) (fun _ _ _ _ _ h _ _ => h) ⟨HS6.out, K6.out⟩ ?a1 ?hassign ?hbody ?hdone ?hstop
    case hI =>
      rintro pre W W' row ⟨h1, h2⟩ hg hr
      exact ⟨h1.keptN hg (fun r e => ⟨Nat.le_trans HS6.out.gb.size (hr r e).1, (hr r e).2⟩) HMP.out, h2.keptN hg (fun r e => (hr r e).2)⟩
    case hassign =>
      intro l x W K hK
      gi_wp2_with fail
      exact hK
    case hbody =>
      rintro l pre x W hpre ⟨h1, h2⟩
      obtain ⟨bp, hbp⟩ : ∃ y, pre.foldl (fun b a => min b (1 + fwN r (Mom.wi ⟨D, day, de⟩ a))) bs = y := ⟨_, rfl⟩
      rw [hbp] at h2
      have HBP := hide hbp
      have hmem : x ∈ elS (neS r ⟨D, day, de⟩) := by
        obtain ⟨t, ht⟩ := hpre
        rw [← ht]
        simp
      have hbr := (neS_mem h10).1 hmem
      have hx16 : x < 16 := by have := (br_undone hbr).1; omega
      have hmw := me_wi (m := ⟨D, day, de⟩) hbr
      have HMO := hide (HM.out.wi HR.out hbr)
      have HME : Hid (meN r (Mom.wi ⟨D, day, de⟩ x) < k) := hide (by have := HK.out; omega)
      obtain ⟨nx, hnx⟩ : ∃ y, fwN r (Mom.wi ⟨D, day, de⟩ x) = y := ⟨_, rfl⟩
      have hn11 : nx ≤ 11 := by rw [← hnx]; exact fwN_le r _
      have HNX2 := hide hnx
      have HKF : Hid (KeepsFrom w6.heap.size W W.drew) := hide ((KeepsOthers.drew W).from _)
      have S1 := hide (h1.ext (Below.refl W.heap.size W).drew)
      have B1 := hide (h2.ext (Below.refl W.heap.size W).drew)
      clear hbp hmem hbr hmw hnx h1 h2 hpre hst
      have hw1 : IntKind.i64.wrap (1 + (nx : Int)) = ((1 + nx : Nat) : Int) := by rw [IntWalk.i64_in _ (by omega)]; omega
      gi_wp2_with fail
      refine wpIn_only ?_
      refine wpIn_region_J (fun W : World => (W.cell? ⟨g, 0, none⟩ = some (.pointer (some ⟨fb, 0, none⟩)) ∧ (W.cell? ⟨g + 1, 0, none⟩ = some (.int .u16 (D : Nat)) ∧ W.cell? ⟨g + 1, 1, none⟩ = some (.int .i64 day) ∧ W.cell? ⟨g + 1, 2, none⟩ = some (.int .i64 de)) ∧ (W.cell? ⟨fb, 0, none⟩ = some (.pointer (some ⟨b, 0, none⟩)) ∧ W.cell? ⟨fb, 1, none⟩ = some (.map (some mp))) ∧ W.cell? ⟨b, 1, none⟩ = some (.int .i64 la)) ∧ W.cell? ⟨h7, 0, none⟩ = some (.int .i64 (bp : Nat))) (by kernel_rfl) ?_
      generalize W.drew = w7 at HKF S1 B1 ⊢
      refine tk_start [0, 1, 2, 3] ?_
      iterate 4
        refine tk_one (v := ?_) (by first | exact hF | exact wideFn) ⟨HSA.out _ S1.out, (blk1 B1.out).2.1⟩ rfl (by kernel_rfl) (by kernel_rfl) (by kernel_rfl) (by kernel_rfl) rfl ?_ (by first | exact fun _ _ _ h => h | exact fun _ _ _ h => hQ2 _ _ _ _ _ h) ?_
        rotate_left
        · intro W hSW
          simp only [glA, glB, glC]
          (try dsimp only at hSW)
          go_simp
          with_reducible rfl
        (try simp only [glA, glB, glC, Act.put, glD, glE, glF])
      refine tk_end ?_
      refine wpAnyJ_one 4 rfl (by kernel_rfl) (fun K hK => ?_)
      simp only [glA, glB, glC]
      go_simp
      (with_reducible refine ((CallsIn.inRound l (hwd (HWI.out x hx16 w7)))).mono ?_)
      rintro e w8 ⟨rfl, h8⟩
      have S2 := hide (S1.out.ext h8); have B2 := hide (B1.out.ext h8)
      dsimp only
      refine hK.out _ _ (fun _ => ⟨HSA.out _ S2.out, (blk1 B2.out).2.1⟩) ?_
      clear hK K
      (try simp only [glA, glB, glC, Act.put, glD, glE, glF])
      refine wpAnyJ_one 5 rfl (by kernel_rfl) (fun K hK => ?_)
      have HI := hide (HIH.out (Mom.wi ⟨D, day, de⟩ x) w8 HME.out HMO.out (HF0.out.turn S2.out.gb S2.out.fm))
      simp only [glA, glB, glC]
      go_simp
      (with_reducible refine ((CallsIn.inRound l (hwd HI.out))).mono ?_)
      rintro e w9 ⟨rfl, h9, g9⟩
      have S3 := hide (S2.out.turn g9 h9.fm); have B3 := hide ((KC.map S2.out.fm g9).blk B2.out)
      dsimp only
      refine hK.out _ _ (fun _ => ⟨HSA.out _ S3.out, (blk1 B3.out).2.1⟩) ?_
      clear hK K
      (try simp only [glA, glB, glC, Act.put, glD, glE, glF])
      rw [HNX2.out]
      refine wpAnyJ_take 6 (v := ?_) (by first | exact hF | exact wideFn) ⟨HSA.out _ S3.out, (blk1 B3.out).2.1⟩ rfl (by kernel_rfl) (by kernel_rfl) (by kernel_rfl) (by kernel_rfl) rfl ?_ (by first | exact fun _ _ _ h => h | exact fun _ _ _ h => hQ2 _ _ _ _ _ h) ?_
      rotate_left
      · intro W hSW
        simp only [glA, glB, glC]
        (try dsimp only at hSW)
        go_simp
        with_reducible rfl
      (try simp only [glA, glB, glC, Act.put, glD, glE, glF])
      refine wpAnyJ_take 7 (v := ?_) (by first | exact hF | exact wideFn) ⟨HSA.out _ S3.out, (blk1 B3.out).2.1⟩ rfl (by kernel_rfl) (by kernel_rfl) (by kernel_rfl) (by kernel_rfl) rfl ?_ (by first | exact fun _ _ _ h => h | exact fun _ _ _ h => hQ2 _ _ _ _ _ h) ?_
      rotate_left
      · intro W hSW
        simp only [glA, glB, glC]
        (try dsimp only at hSW)
        go_simp
        with_reducible rfl
      (try simp only [glA, glB, glC, Act.put, glD, glE, glF])
      obtain ⟨f1, c1, c2⟩ := blk1 B3.out
      refine wpAnyJ_one 8 rfl (by kernel_rfl) (fun K hK => ?_)
      simp only [glA, glB, glC]
      go_simp
      refine hK.out _ _ (fun h => absurd h (by rw [show lastOp _ _ _ = true from by kernel_rfl]; simp)) ?_
      clear hK K
      (try simp only [glA, glB, glC, Act.put, glD, glE, glF])
      refine wpAnyJ_done (by kernel_rfl) ?_
      dsimp only [OnlyNormal]
      rw [show min (bp : Int) (1 + (nx : Int)) = ((min bp (1 + nx) : Nat) : Int) by omega]
      have hkeep : KeepsFrom w6.heap.size W (w9.setCell ⟨h7, 0, none⟩ (.int .i64 (min bp (1 + nx) : Nat))) :=
        ((HKF.out.trans ((keepsO h8).from _)).trans (KeepsFrom.of_grownBy g9 (fun j e => by injection e with e; have := HS6.out.fm.lt; omega))).trans ((KeepsOthers.setCell w9 _ _).from _)
      refine ⟨hkeep, trivial, S3.out.set HLO.out.1 HMP.out (by have := HLO.out.2; omega) (by have := HLO.out.2; omega) _, ?_⟩
      rw [List.foldl_append, HBP.out]
      show Blk _ h7 3 #[.int .i64 (min bp (1 + fwN r (Mom.wi ⟨D, day, de⟩ x)) : Nat)]
      rw [HNX2.out]
      simpa using B3.out.set_ 0 (.int .i64 (min bp (1 + nx) : Nat))
    case hdone =>
      rintro Dm W hD ⟨h1, h2⟩ hK
      rw [← HEQ.out] at h2
      dsimp only
      gi_wp2_with fail
      have hKd : W.drew.heap[Dm]? = some (.deferred (some [])) := hK
      have HKD := hide hKd
      have S1 := hide (h1.ext (Below.refl W.heap.size W).drew)
      have B1 := hide (h2.ext (Below.refl W.heap.size W).drew)
      obtain ⟨w9, hrun, hf9, hg9⟩ := HPU.out _ S1.out.fm
      have HRUN := hide hrun
      have S2 := hide (S1.out.turn hg9 hf9)
      have B2 := hide ((KC.map S1.out.fm hg9).blk B1.out)
      have HK9 : Hid (w9.heap[Dm]? = some (.deferred (some []))) := hide ((hg9.block Dm (Array.getElem?_eq_some_iff.1 hKd).1 (fun e => by injection e with e; have := HS6.out.fm.lt; omega)).trans hKd)
      clear h1 h2 hK hKd hrun hf9 hg9 hst
      refine wpIn_only ?_
      refine wpIn_region_J (fun W : World => (W.cell? ⟨g, 0, none⟩ = some (.pointer (some ⟨fb, 0, none⟩)) ∧ (W.cell? ⟨g + 1, 0, none⟩ = some (.int .u16 (D : Nat)) ∧ W.cell? ⟨g + 1, 1, none⟩ = some (.int .i64 day) ∧ W.cell? ⟨g + 1, 2, none⟩ = some (.int .i64 de)) ∧ (W.cell? ⟨fb, 0, none⟩ = some (.pointer (some ⟨b, 0, none⟩)) ∧ W.cell? ⟨fb, 1, none⟩ = some (.map (some mp))) ∧ W.cell? ⟨b, 1, none⟩ = some (.int .i64 la)) ∧ W.cell? ⟨h7, 0, none⟩ = some (.int .i64 (v : Nat))) (by kernel_rfl) ?_
      generalize W.drew = wd at HRUN S1 B1 HKD ⊢
      refine tk_start [0, 1, 2, 3, 4, 5] ?_
      iterate 6
        refine tk_one (v := ?_) (by first | exact hF | exact wideFn) ⟨HSA.out _ S1.out, (blk1 B1.out).2.1⟩ rfl (by kernel_rfl) (by kernel_rfl) (by kernel_rfl) (by kernel_rfl) rfl ?_ (by first | exact fun _ _ _ h => h | exact fun _ _ _ h => hQ2 _ _ _ _ _ h) ?_
        rotate_left
        · intro W hSW
          simp only [glA, glB, glC]
          (try dsimp only at hSW)
          go_simp
          with_reducible rfl
        (try simp only [glA, glB, glC, Act.put, glD, glE, glF])
      refine tk_end ?_
      have hrun := HRUN.out
      refine wpAnyJ_one 6 rfl (by kernel_rfl) (fun K hK => ?_)
      simp only [glA, glB, glC]
      go_simp
      refine hK.out _ _ (fun h => absurd h (by rw [show lastOp _ _ _ = true from by kernel_rfl]; simp)) ?_
      clear hK K
      (try simp only [glA, glB, glC, Act.put, glD, glE, glF])
      refine wpAnyJ_done (by kernel_rfl) ?_
      dsimp only [OnlyNormal]
      obtain ⟨f1, c1, c2⟩ := blk1 B2.out
      gi_wp2_with fail
      refine ⟨by simp, .inl ⟨_, _, rfl, run_takeDeferred HK9.out, ?_⟩⟩
      have hgp := grownBy_putObj' w9 Dm (.deferred none)
      have hDw : w.heap.size ≤ Dm := Nat.le_trans HS6.out.gb.size hD
      have S5 := hide (S2.out.keptN hgp (fun r e => by cases e; exact ⟨hDw, _, HK9.out, rfl⟩) HMP.out)
      refine ⟨.int .i64 v, by simp [results, Tryd.results41, go_sem], ?_⟩
      exact ⟨rfl, HF0.out.turn S5.out.gb S5.out.fm, S5.out.gb⟩
    case hstop =>
      rintro Dm c pre W hD hSp h hK
      exact h.elim
  refine tk_start [0, 1, 2, 3, 4, 5, 6, 7, 8, 9, 10] ?_
  iterate 11
    refine tk_one (v := ?_) (by first | exact hF | exact wideFn) (HSA.out _ HS2.out) rfl (by kernel_rfl) (by kernel_rfl) (by kernel_rfl) (by kernel_rfl) rfl ?_ (by first | exact fun _ _ _ h => h | exact fun _ _ _ h => hQ2 _ _ _ _ _ h) ?_
    rotate_left
    · intro W hSW
      simp only [glA, glB, glC]
      (try dsimp only at hSW)
      go_simp
      with_reducible rfl
    (try simp only [glA, glB, glC, Act.put, glD, glE, glF])
  refine tk_end ?_
  refine wpAnyJ_done (by kernel_rfl) ?_
  dsimp only [OnlyNormal]
  by_cases hlt : day < la
  · have hst : IntKind.i64.wrap (day + 1) = day + 1 := IntWalk.i64_in _ (by omega)
    gi_wp2_with fail
    have HD := hide (Below.refl w4.heap.size w4).drew
    replace HS2 := hide (HS2.out.ext HD.out)
    replace K7 := hide (K7.out.ext HD.out)
    clear HD
    refine wpIn_only ?_
    refine wpIn_region_J (fun W : World => (W.cell? ⟨g, 0, none⟩ = some (.pointer (some ⟨fb, 0, none⟩)) ∧ (W.cell? ⟨g + 1, 0, none⟩ = some (.int .u16 (D : Nat)) ∧ W.cell? ⟨g + 1, 1, none⟩ = some (.int .i64 day) ∧ W.cell? ⟨g + 1, 2, none⟩ = some (.int .i64 de)) ∧ (W.cell? ⟨fb, 0, none⟩ = some (.pointer (some ⟨b, 0, none⟩)) ∧ W.cell? ⟨fb, 1, none⟩ = some (.map (some mp))) ∧ W.cell? ⟨b, 1, none⟩ = some (.int .i64 la))) (by kernel_rfl) ?_
    generalize w4.drew = w5 at HS2 K7 ⊢
    refine tk_start [0, 1, 2, 3, 4] ?_
    iterate 5
      refine tk_one (v := ?_) (by first | exact hF | exact wideFn) (HSA.out _ HS2.out) rfl (by kernel_rfl) (by kernel_rfl) (by kernel_rfl) (by kernel_rfl) rfl ?_ (by first | exact fun _ _ _ h => h | exact fun _ _ _ h => hQ2 _ _ _ _ _ h) ?_
      rotate_left
      · intro W hSW
        simp only [glA, glB, glC]
        (try dsimp only at hSW)
        go_simp
        with_reducible rfl
      (try simp only [glA, glB, glC, Act.put, glD, glE, glF])
    refine tk_end ?_
    refine wpAnyJ_one 5 rfl (by kernel_rfl) (fun K hK => ?_)
    simp only [glA, glB, glC]
    go_simp
    (with_reducible refine ((hwd (HON.out w5))).mono ?_)
    rintro e w6 ⟨rfl, h6⟩
    have HS6 := hide (HS2.out.ext h6); have K6 := hide (K7.out.ext h6)
    dsimp only
    refine hK.out _ _ (fun _ => HSA.out _ HS6.out) ?_
    clear hK K
    (try simp only [glA, glB, glC, Act.put, glD, glE, glF])
    refine wpAnyJ_one 6 rfl (by kernel_rfl) (fun K hK => ?_)
    have HI := hide (HIH.out (Mom.on ⟨D, day, de⟩ (day + 1)) w6 (by have h := me_on (r := r) (m := ⟨D, day, de⟩) (by show day < r.last; rw [HLA.out]; exact hlt); have := HK.out; dsimp only at h; omega) (HM.out.on HR.out (by omega) (by rw [HLA.out]; omega)) (HF0.out.turn HS6.out.gb HS6.out.fm))
    simp only [glA, glB, glC]
    go_simp
    (with_reducible refine ((hwd HI.out)).mono ?_)
    rintro e w8 ⟨rfl, h8, g8⟩
    have HS8 := hide (HS6.out.turn g8 h8.fm); have K8 := hide ((KC.map HS6.out.fm g8).blk K6.out)
    dsimp only
    refine hK.out _ _ (fun _ => HSA.out _ HS8.out) ?_
    clear hK K
    (try simp only [glA, glB, glC, Act.put, glD, glE, glF])
    have hb : fwN r (Mom.on ⟨D, day, de⟩ (day + 1)) = bs := by rw [← HBS.out, if_pos hlt]
    rw [hb]
    obtain ⟨f1, c1, c2⟩ := blk1 K8.out
    refine wpAnyJ_one 7 rfl (by kernel_rfl) (fun K hK => ?_)
    simp only [glA, glB, glC]
    go_simp
    refine hK.out _ _ (fun h => absurd h (by rw [show lastOp _ _ _ = true from by kernel_rfl]; simp)) ?_
    clear hK K
    (try simp only [glA, glB, glC, Act.put, glD, glE, glF])
    refine wpAnyJ_done (by kernel_rfl) ?_
    dsimp only [OnlyNormal]
    exact REST.out _ _ _ _ _ _ _ _ _ (HS8.out.set HLO.out.1 HMP.out (by have := HLO.out.2; omega) (by have := HLO.out.2; omega) _) (by simpa using K8.out.set_ 0 (.int .i64 (bs : Nat)))
  · gi_wp2_with fail
    have hb : bs = 11 := by rw [← HBS.out, if_neg (by omega)]
    subst hb
    exact REST.out _ _ _ _ _ _ _ _ _ HS2.out K7.out
end Go.Proofs.YtcgdalabenflmaaDoor
/- Rite: the closure of repair, and IndexFunc with a closure that writes. -/
namespace Go.Proofs.YtcgdalabenflmaaDoor
open List renaming getElem_toArray → glA, getElem_cons_zero → glB, getElem_cons_succ → glC, setIfInBounds_toArray → glD, set_cons_zero → glE, set_cons_succ → glF
open Go Go.RowKit Go.Shelf
set_option maxHeartbeats 8000000
set_option maxRecDepth 100000
/-- a search with a closure that writes -/
theorem idxJ_any (g : FuncId) (lb : Array Value) (p : Nat → Bool) (A : Option Addr) (n c : Nat) (u : Nat → Value) (J : World → Prop) (w : World) (hn : n ≤ 1000000) (h0 : J w) (hR : ∀ W, J W → ER W W.heap.size 1 A n fun k _ => u k)
    (eg : ∀ args w, (callFunc g args).run Tryd.prog w = .ok (.enter g args) w)
    (hp : ∀ W k, k < n → J W → Calls Tryd.prog g (#[u k] ++ lb) W fun e W' => e = .returned (.bool (p k)) ∧ J W') :
    Calls Tryd.prog 63 #[.slice A n c, .func (.func g) #[] lb] w fun e w' => ∃ iv : Int, e = .returned (.int .i64 iv) ∧ ((∃ i : Nat, iv = i ∧ i < n ∧ p i = true ∧ ∀ j, j < i → p j = false) ∨ (iv = -1 ∧ ∀ j, j < n → p j = false)) ∧ J w' := by
  have HP := hide hp
  have HJ0 := hide h0
  have HR := hide hR
  clear hp h0 hR
  go_enter Tryd.func63, Tryd.ntmps63
  go_wp2_with fail
  go_loopw [8] (fun i wr => ∃ k : Nat, k ≤ n ∧ i = .int .i64 k ∧ Hid (∀ j, j < k → p j = false) ∧ Hid (J wr)) (fun i _ => n - (intOf i).toNat)
  case atStart => exact ⟨0, Nat.zero_le _, rfl, hide (fun j hj => by omega), HJ0⟩
  case round =>
    obtain ⟨k, hk, rfl, HX, HB⟩ := hrel
    have hst : k < n → IntKind.i64.wrap ((k : Int) + 1) = ((k + 1 : Nat) : Int) := fun _ => by rw [IntWalk.i64_in _ (by omega)]; omega
    by_cases hlt : k < n
    · have hlt' : (k : Int) < (n : Int) := by omega
      replace hst := hst hlt
      obtain ⟨b, off, rfl, hb, hc⟩ := VR1.at_ (HR.out wr HB.out) hlt
      have H := HP.out wr k hlt HB.out
      cases hpk : p k with
      | true =>
        rw [hpk] at H
        have H' := hide H
        have HPK := hide hpk
        clear H hpk
        go_wp2_with ((with_reducible refine H'.out.mono ?_); rintro e w' ⟨rfl, hb1⟩)
        go_ret
        exact ⟨_, rfl, .inl ⟨k, rfl, hlt, HPK.out, HX.out⟩, hb1⟩
      | false =>
        rw [hpk] at H
        have H' := hide H
        have HPK := hide hpk
        clear H hpk
        go_wp2_with ((with_reducible refine H'.out.mono ?_); rintro e w' ⟨rfl, hb1⟩)
        go_roundw
        case rel => exact ⟨k + 1, by omega, by go_num, hide (fun j hj => by rcases Nat.lt_or_ge j k with h | h; exact HX.out j h; rw [show j = k by omega]; exact HPK.out), hide hb1⟩
        case measure => simp [intOf]; omega
    · obtain rfl : n = k := by omega
      have hnl : ¬ (n : Int) < (n : Int) := by omega
      go_wp2_with fail
      go_ret
      exact ⟨_, rfl, .inr ⟨rfl, HX.out⟩, HB.out⟩
/-- the closure: whether a deed leaves one less -/
theorem rep1_any (fb b mp : Nat) (d : Rad) (q : Bad) (r : Rit) (hr : RiOk r) (m : Mom) (hm : MoOk r m) (g h6 left x : Nat) (w : World) (hl : 0 < left) (hl2 : left ≤ 1000) (hx : x ∈ elS (neS r m)) (hF : FwR w fb b mp d q r)
    (k2 : Blk w g 80 #[.pointer (some ⟨fb, 0, none⟩)]) (k3 : Blk w (g + 1) 77 #[.int .u16 (m.d : Nat), .int .i64 m.day, .int .i64 m.de]) (k6 : Blk w h6 3 #[.int .i64 (left : Nat)]) :
    Calls Tryd.prog 64 #[.int .i64 x, .pointer (some ⟨g, 0, none⟩), .pointer (some ⟨g + 1, 0, none⟩), .pointer (some ⟨h6, 0, none⟩)] w fun e w' => e = .returned (.bool (decide (fwN r (m.wi x) = left - 1))) ∧ FwR w' fb b mp d q r ∧ w.grownBy w' (some mp) := by
  have h10 : r.n ≤ 16 := by have := hr.n10; omega
  have hbr := (neS_mem h10).1 hx
  have hx16 : x < 16 := by have := (br_undone hbr).1; have := hr.n10; omega
  have HIH := hide (fun W (h : FwR W fb b mp d q r) => few_any fb b mp d q r hr (meN r (m.wi x) + 1) (m.wi x) W (Nat.lt_succ_self _) (hm.wi hr hbr) h)
  have HWI := hide (fun W => with_any m x W hm.d hx16 hm.e0 (by have h1 := hm.e1; have h2 := hr.t4; omega))
  obtain ⟨D, day, de⟩ := m
  replace HWI : Hid (∀ W, Calls Tryd.prog 65 #[.agg #[.int .u16 (D : Nat), .int .i64 day, .int .i64 de], .int .i64 x] W fun e w' => e = .returned (momV (Mom.wi ⟨D, day, de⟩ x)) ∧ Below W.heap.size W w') := HWI
  dsimp only at k3
  obtain ⟨nx, hnx⟩ : ∃ y, fwN r (Mom.wi ⟨D, day, de⟩ x) = y := ⟨_, rfl⟩
  have HNX := hide hnx
  rw [hnx]
  have HF0 := hide hF
  have K2 := hide k2
  have K3 := hide k3
  have K6 := hide k6
  have hw1 : IntKind.i64.wrap ((left : Int) - 1) = ((left - 1 : Nat) : Int) := by rw [IntWalk.i64_in _ (by omega)]; omega
  have hdec : (((nx : Int) == ((left - 1 : Nat) : Int)) : Bool) = decide (nx = left - 1) := by
    rw [Bool.eq_iff_iff, beq_iff_eq, decide_eq_true_iff]
    omega
  obtain ⟨l1, hl1⟩ : ∃ y, left - 1 = y := ⟨_, rfl⟩
  rw [hl1] at hw1 hdec ⊢
  obtain ⟨bb, hbb⟩ : ∃ y, decide (nx = l1) = y := ⟨_, rfl⟩
  rw [hbb] at hdec ⊢
  clear hx hbr hF k2 k3 k6 hnx hm hr hbb
  have HSA : Hid (∀ W, w.grownBy W (some mp) → (W.cell? ⟨g, 0, none⟩ = some (.pointer (some ⟨fb, 0, none⟩)) ∧ (W.cell? ⟨g + 1, 0, none⟩ = some (.int .u16 (D : Nat)) ∧ W.cell? ⟨g + 1, 1, none⟩ = some (.int .i64 day) ∧ W.cell? ⟨g + 1, 2, none⟩ = some (.int .i64 de)) ∧ W.cell? ⟨h6, 0, none⟩ = some (.int .i64 (left : Nat)))) := hide fun W h => by
    have k := KC.map HF0.out.fm h
    obtain ⟨-, x0, -⟩ := blk1 (k.blk K2.out)
    obtain ⟨-, y0, y1, y2, -⟩ := blk3 (k.blk K3.out)
    obtain ⟨-, z0, -⟩ := blk1 (k.blk K6.out)
    exact ⟨x0, ⟨y0, y1, y2⟩, z0⟩
  go_enter Tryd.func64, Tryd.ntmps64
  go_upto_region 1 with fail
  have G1 := hide (gr_below (Below.refl w.heap.size w).drew mp)
  have F1 := hide (HF0.out.ext (Below.refl w.heap.size w).drew)
  refine wp_region_J (fun W : World => (W.cell? ⟨g, 0, none⟩ = some (.pointer (some ⟨fb, 0, none⟩)) ∧ (W.cell? ⟨g + 1, 0, none⟩ = some (.int .u16 (D : Nat)) ∧ W.cell? ⟨g + 1, 1, none⟩ = some (.int .i64 day) ∧ W.cell? ⟨g + 1, 2, none⟩ = some (.int .i64 de)) ∧ W.cell? ⟨h6, 0, none⟩ = some (.int .i64 (left : Nat)))) (by kernel_rfl) ?_
  generalize w.drew = wd at G1 F1 ⊢
  refine tk_start [0, 1, 2, 5, 6] ?_
  iterate 5
    refine tk_one (v := ?_) (by first | exact hF | exact wideFn) (HSA.out _ G1.out) rfl (by kernel_rfl) (by kernel_rfl) (by kernel_rfl) (by kernel_rfl) rfl ?_ (by first | exact fun _ _ _ h => h | exact fun _ _ _ h => hQ2 _ _ _ _ _ h) ?_
    rotate_left
    · intro W hSW
      simp only [glA, glB, glC]
      (try dsimp only at hSW)
      go_simp
      with_reducible rfl
    (try simp only [glA, glB, glC, Act.put, glD, glE, glF])
  refine tk_end ?_
  refine wpAnyJ_one 3 rfl (by kernel_rfl) (fun K hK => ?_)
  simp only [glA, glB, glC]
  go_simp
  refine ⟨trivial, rfl, ?_⟩
  refine (callsIn_wide.2 (HWI.out wd)).mono ?_
  rintro e w2 ⟨rfl, h2⟩
  have G2 := hide (gr_trans G1.out (gr_below h2 mp)); have F2 := hide (F1.out.ext h2)
  dsimp only
  refine hK.out _ _ (fun _ => HSA.out _ G2.out) ?_
  clear hK K
  (try simp only [glA, glB, glC, Act.put, glD, glE, glF])
  refine wpAnyJ_one 4 rfl (by kernel_rfl) (fun K hK => ?_)
  simp only [glA, glB, glC]
  go_simp
  refine ⟨trivial, rfl, ?_⟩
  refine (callsIn_wide.2 (HIH.out w2 F2.out)).mono ?_
  rintro e w3 ⟨rfl, h3, g3⟩
  have G3 := hide (gr_trans G2.out g3)
  dsimp only
  refine hK.out _ _ (fun _ => HSA.out _ G3.out) ?_
  clear hK K
  (try simp only [glA, glB, glC, Act.put, glD, glE, glF])
  rw [HNX.out]
  refine wpAnyJ_take 7 (v := ?_) (by first | exact hF | exact wideFn) (HSA.out _ G3.out) rfl (by kernel_rfl) (by kernel_rfl) (by kernel_rfl) (by kernel_rfl) rfl ?_ (by first | exact fun _ _ _ h => h | exact fun _ _ _ h => hQ2 _ _ _ _ _ h) ?_
  rotate_left
  · intro W hSW
    simp only [glA, glB, glC]
    (try dsimp only at hSW)
    go_simp
    with_reducible rfl
  (try simp only [glA, glB, glC, Act.put, glD, glE, glF])
  refine wpAnyJ_take 8 (v := ?_) (by first | exact hF | exact wideFn) (HSA.out _ G3.out) rfl (by kernel_rfl) (by kernel_rfl) (by kernel_rfl) (by kernel_rfl) rfl ?_ (by first | exact fun _ _ _ h => h | exact fun _ _ _ h => hQ2 _ _ _ _ _ h) ?_
  rotate_left
  · intro W hSW
    simp only [glA, glB, glC]
    (try dsimp only at hSW)
    go_simp
    with_reducible rfl
  (try simp only [glA, glB, glC, Act.put, glD, glE, glF])
  refine wpAnyJ_done (by kernel_rfl) ?_
  go_wp2_with fail
  go_ret
  exact ⟨rfl, h3, G3.out⟩
end Go.Proofs.YtcgdalabenflmaaDoor
/- Rite: repair, walked. -/
namespace Go.Proofs.YtcgdalabenflmaaDoor
open List renaming getElem_toArray → glA, getElem_cons_zero → glB, getElem_cons_succ → glC, setIfInBounds_toArray → glD, set_cons_zero → glE, set_cons_succ → glF
open Go Go.RowKit Go.Shelf
set_option maxHeartbeats 8000000
set_option maxRecDepth 100000
theorem info_deed : (Tryd.prog.info? 60).map (fun i => (i.zero, i.size, i.bytes)) = some (some (.agg #[.int .i64 0, .int .i64 0]), 2, 16) := by kernel_rfl
def ddC (t : Int × Int) : List Value := [.int .i64 t.1, .int .i64 t.2]
def cellsD (l : List (Int × Int)) : List Value := l.flatMap ddC
theorem cellsD_append (l m : List (Int × Int)) : cellsD (l ++ m) = cellsD l ++ cellsD m := by simp [cellsD, List.flatMap_append]
theorem cellsD_len (l : List (Int × Int)) : (cellsD l).length = l.length * 2 := by
  induction l with
  | nil => rfl
  | cons x l ih => show (ddC x ++ cellsD l).length = _; rw [List.length_append, ih, List.length_cons]; show 2 + _ = _; omega
theorem cellsD_one (l : List (Int × Int)) : ∀ u ∈ cellsD l, u.oneCell' = true := by
  intro u hu
  unfold cellsD at hu
  obtain ⟨e, -, he⟩ := List.mem_flatMap.1 hu
  simp only [ddC, List.mem_cons, List.not_mem_nil, or_false] at he
  rcases he with rfl | rfl <;> rfl
theorem cellsD_at : ∀ (l : List (Int × Int)) (k i : Nat), k < l.length → i < 2 → (cellsD l)[k * 2 + i]? = some (dsV (l.getD k (0, 0)) i)
  | [], _, _, h, _ => absurd h (by simp)
  | x :: l, 0, i, _, hi => by
    show (ddC x ++ cellsD l)[0 * 2 + i]? = _
    match i, hi with
    | 0, _ => rfl
    | 1, _ => rfl
  | x :: l, k + 1, i, h, hi => by
    show (ddC x ++ cellsD l)[(k + 1) * 2 + i]? = _
    rw [List.getElem?_append_right (by show 2 ≤ _; omega), show (k + 1) * 2 + i - (ddC x).length = k * 2 + i by show _ - 2 = _; omega, cellsD_at l k i (by simpa using h) hi]
    rfl
/-- an own list of deeds -/
def OwnD (W : World) (n0 : Nat) (v : Value) (l : List (Int × Int)) : Prop := W.ownsRow n0 60 2 v l.length (cellsD l)
theorem OwnD.nil (W : World) (n0 : Nat) : OwnD W n0 (.slice none 0 0) [] := ⟨rfl, .inl ⟨rfl, rfl⟩⟩
theorem OwnD.ext {W W' : World} {n0 : Nat} {v : Value} {l : List (Int × Int)} (h : OwnD W n0 v l) (hb : Below W.heap.size W W') : OwnD W' n0 v l := ownBelow h hb
theorem cell_two_new (w : World) (a b : Value) (t : TypeId) : ∀ (j : Nat) (u : Value), [a, b][j]? = some u → (w.alloc (.cells #[a, b] t)).cell? ((⟨w.heap.size, 0, none⟩ : Addr).add j) = some u := by
  intro j u h
  have hB := Blk.new w t #[a, b]
  match j, h with
  | 0, h => simpa [Addr.add] using (show (w.alloc (.cells #[a, b] t)).cell? ⟨w.heap.size, 0, none⟩ = some u by rw [hB.cell]; simpa using h)
  | 1, h => simpa [Addr.add] using (show (w.alloc (.cells #[a, b] t)).cell? ⟨w.heap.size, 1, none⟩ = some u by rw [hB.cell]; simpa using h)
  | j + 2, h => simp at h
/-- a deed is appended -/
theorem OwnD.push {W : World} {base : Nat} {v : Value} {l : List (Int × Int)} (h : OwnD W base v l) (t : Int × Int) (hl : l.length ≤ 1000000) (hb : base ≤ W.heap.size) :
    ∃ A c w', (Builtin.append_ #[25, 25] 25 #[v, .slice (some ⟨W.heap.size, 0, none⟩) 1 1]).run Tryd.prog (W.alloc (.cells #[.int .i64 t.1, .int .i64 t.2] 60)) = .ok (.slice A (l.length + 1) c) w' ∧
      OwnD w' base (.slice A (l.length + 1) c) (l ++ [t]) ∧ (W.alloc (.cells #[.int .i64 t.1, .int .i64 t.2] 60)).grownBy w' v.ownBlock := by
  obtain ⟨i0, hi, hz0, hz1, hz2⟩ := info_parts info_deed
  obtain ⟨v', w', hr, h2, h3, -⟩ := run_append_own (P := Tryd.prog) (w := W.alloc (.cells #[.int .i64 t.1, .int .i64 t.2] 60)) base 25 25 60 i0 _ 2 16 Tryd.underlying25 hi hz0 hz1 hz2 rfl (by decide) v l.length (cellsD l) (World.ownsRow.alloc h _)
    ⟨W.heap.size, 0, none⟩ 1 1 (ddC t) rfl (cell_two_new _ _ _ _) (by have := cellsD_one [t]; simpa [cellsD] using this) (by unfold maxLen; omega) (by omega) (by simp; omega)
  obtain ⟨A, c, rfl⟩ := own_shape h2
  refine ⟨A, c, w', hr, ?_, h3⟩
  unfold OwnD
  rw [cellsD_append, List.length_append]
  simpa [cellsD] using h2
theorem OwnD.dsr {W : World} {n0 : Nat} {A : Option Addr} {n c : Nat} {l : List (Int × Int)} (h : OwnD W n0 (.slice A n c) l) : n = l.length ∧ DsR W A l := by
  obtain ⟨A', c', e⟩ := own_shape h
  injection e with e1 e2 e3
  subst e2
  refine ⟨rfl, fun hn => ?_⟩
  rcases h.2 with ⟨h1, h2⟩ | ⟨g, cap, cur, h1, h2, h3, h4, h5, h6, h7⟩
  · omega
  · injection h1 with hA
    subst hA
    have hg := (World.ownsRow.lt h g rfl).2
    refine ⟨g, 0, rfl, hg, fun k i hk hi => ?_⟩
    have hc := World.ownsRow.cells h (g := g) rfl (k * 2 + i) _ (cellsD_at l k i hk hi)
    have e1 : ((⟨g, 0, none⟩ : Addr).add (k * 2 + i)) = ⟨g, 0 + k * 2 + i, none⟩ := by simp [Addr.add]; omega
    rw [e1] at hc
    exact hc
/-- what repair keeps, but for its moment and what is left -/
structure RpC (w W : World) (mp : Nat) (r : Rit) (g fb : Nat) (v : Value) (l : List (Int × Int)) : Prop where
  gb : w.grownBy W (some mp)
  fm : FmAt W mp r
  k2 : Blk W g 80 #[.pointer (some ⟨fb, 0, none⟩)]
  ow : OwnD W w.heap.size v l
section
variable {w W W' : World} {mp : Nat} {r : Rit} {g fb : Nat} {v : Value} {l : List (Int × Int)}
theorem RpC.ext (h : RpC w W mp r g fb v l) (hb : Below W.heap.size W W') : RpC w W' mp r g fb v l :=
  ⟨gr_more h.gb (grown_no hb) (fun r e => by cases e), h.fm.ext hb, h.k2.ext hb, h.ow.ext hb⟩
theorem RpC.turn (h : RpC w W mp r g fb v l) (hg : W.grownBy W' (some mp)) (hf : FmAt W' mp r) : RpC w W' mp r g fb v l :=
  ⟨gr_trans h.gb hg, hf, (KC.map h.fm hg).blk h.k2, ownN h.ow hg (fun k e => by obtain ⟨o, h1, h2⟩ := h.fm.map; cases e; exact ⟨o, h1, h2⟩)⟩
theorem RpC.put (h : RpC w W mp r g fb v l) {p : Nat} {t : TypeId} {cs : Array Value} (hB : Blk W p t cs) (ht : 60 ≠ t) (hp : w.heap.size ≤ p) (hm : mp < w.heap.size) (hne : p ≠ g) (hg : W.grownBy W' (some p)) : RpC w W' mp r g fb v l :=
  ⟨gr_more h.gb hg (fun k e => by cases e; exact hp), h.fm.kept hg (fun e => by injection e; omega), h.k2.grown hg (fun e => by injection e with e; exact hne e.symm), World.ownsRow.kept h.ow hg (.inr (own_blk_ne h.ow hB ht))⟩
theorem RpC.push (h : RpC w W mp r g fb v l) (hm : mp < w.heap.size) {v' : Value} {l' : List (Int × Int)} (hg : W.grownBy W' v.ownBlock) (ho : OwnD W' w.heap.size v' l') : RpC w W' mp r g fb v' l' :=
  ⟨gr_more h.gb hg (fun k e => (World.ownsRow.lt h.ow k e).1), h.fm.kept hg (fun e => by have := (World.ownsRow.lt h.ow mp e.symm).1; omega), h.k2.grown hg (fun e => own_blk_ne h.ow h.k2 (by decide) e.symm), ho⟩
end
theorem grown_set3 (W : World) (p : Nat) (a b c : Value) : W.grownBy (((W.setCell ⟨p, 0, none⟩ a).setCell ⟨p, 1, none⟩ b).setCell ⟨p, 2, none⟩ c) (some p) :=
  gr_trans (gr_trans (grownBy_setC W p 0 a) (grownBy_setC _ p 1 b)) (grownBy_setC _ p 2 c)
/-- the moment at p -/
def moRd (p : Nat) (w : World) : Mom := match w.cell? ⟨p, 0, none⟩, w.cell? ⟨p, 1, none⟩, w.cell? ⟨p, 2, none⟩ with
  | some (.int _ a), some (.int _ b), some (.int _ c) => ⟨a.toNat, b, c⟩
  | _, _, _ => m0
theorem moRd_eq {p : Nat} {w : World} {D : Nat} {day de : Int} (h : Blk w p 77 #[.int .u16 (D : Nat), .int .i64 day, .int .i64 de]) : moRd p w = ⟨D, day, de⟩ := by
  obtain ⟨-, h0, h1, h2, -⟩ := blk3 h
  unfold moRd
  rw [h0, h1, h2]
  simp
theorem ofN_getD (L : List Nat) (k : Nat) : (ofN L).getD k 0 = ((L.getD k 0 : Nat) : Int) := by
  unfold ofN
  rw [List.getD_eq_getElem?_getD, List.getD_eq_getElem?_getD, List.getElem?_map]
  cases L[k]? <;> rfl
/-- the search among the deeds that can be done -/
theorem idxR_any (fb b mp : Nat) (d : Rad) (q : Bad) (r : Rit) (hr : RiOk r) (m : Mom) (hm : MoOk r m) (g h6 left : Nat) (L : List Nat) (hLq : ∀ x, x ∈ L → x ∈ elS (neS r m)) (hL16 : L.length ≤ 16) (A : Option Addr) (c n0 : Nat) (w : World) (hl : 0 < left) (hl2 : left ≤ 1000) (hF : FwR w fb b mp d q r) (hLV : OwnJ w n0 (.slice A L.length c) (ofN L))
    (k2 : Blk w g 80 #[.pointer (some ⟨fb, 0, none⟩)]) (k3 : Blk w (g + 1) 77 #[.int .u16 (m.d : Nat), .int .i64 m.day, .int .i64 m.de]) (k6 : Blk w h6 3 #[.int .i64 (left : Nat)]) :
    Calls Tryd.prog 63 #[.slice A L.length c, .func (.func 64) #[] #[.pointer (some ⟨g, 0, none⟩), .pointer (some ⟨g + 1, 0, none⟩), .pointer (some ⟨h6, 0, none⟩)]] w fun e w' => ∃ iv : Int, e = .returned (.int .i64 iv) ∧ ((∃ i : Nat, iv = i ∧ i < L.length ∧ fwN r (m.wi (L.getD i 0)) = left - 1 ∧ L.find? (fun a => decide (fwN r (m.wi a) = left - 1)) = some (L.getD i 0)) ∨ (iv = -1 ∧ L.find? (fun a => decide (fwN r (m.wi a) = left - 1)) = none)) ∧ FwR w' fb b mp d q r ∧ w.grownBy w' (some mp) := by
  have hli := hLV.li.2
  refine (idxJ_any 64 #[.pointer (some ⟨g, 0, none⟩), .pointer (some ⟨g + 1, 0, none⟩), .pointer (some ⟨h6, 0, none⟩)] (fun k => decide (fwN r (m.wi (L.getD k 0)) = left - 1)) A L.length c (fun k => .int .i64 ((L.getD k 0 : Nat) : Int)) (fun W => FwR W fb b mp d q r ∧ w.grownBy W (some mp)) w (by omega) ⟨hF, World.grownBy.refl _ _⟩ ?_ (fun _ _ => rfl) ?_).mono ?_
  · rintro W ⟨h1, h2⟩
    have h3 := (KC.map hF.fm h2).er hli
    rw [show (ofN L).length = L.length from by simp [ofN]] at h3
    intro hm
    obtain ⟨b, off, hA, hlt, hc⟩ := h3 hm
    exact ⟨b, off, hA, hlt, fun k i hk hi => by rw [hc k i hk hi]; dsimp only; rw [ofN_getD]⟩
  · rintro W k hk ⟨h1, h2⟩
    have kc := KC.map hF.fm h2
    have hx : L.getD k 0 ∈ L := by
      rw [List.getD_eq_getElem?_getD, List.getElem?_eq_getElem hk]
      exact List.getElem_mem hk
    refine (rep1_any fb b mp d q r hr m hm g h6 left (L.getD k 0) W hl hl2 (hLq _ hx) h1 (kc.blk k2) (kc.blk k3) (kc.blk k6)).mono ?_
    rintro e w' ⟨rfl, h3, h4⟩
    exact ⟨rfl, h3, gr_trans h2 h4⟩
  · rintro e w' ⟨iv, rfl, hc, hF', hg'⟩
    refine ⟨iv, rfl, ?_, hF', hg'⟩
    rcases hc with ⟨i, rfl, hi, hp, hj⟩ | ⟨rfl, hj⟩
    · have hgi : ∀ j (h : j < L.length), L.getD j 0 = L[j] := fun j h => by rw [List.getD_eq_getElem?_getD, List.getElem?_eq_getElem h]; rfl
      refine .inl ⟨i, rfl, hi, of_decide_eq_true hp, ?_⟩
      rw [List.find?_eq_some_iff_getElem]
      refine ⟨hp, i, hi, (hgi i hi).symm, fun j hji => ?_⟩
      have h := hj j hji
      rw [hgi j (by omega)] at h
      rw [h]
      rfl
    · refine .inr ⟨rfl, List.find?_eq_none.2 fun x hx => ?_⟩
      obtain ⟨j, hj2, rfl⟩ := List.getElem_of_mem hx
      have h := hj j hj2
      rw [List.getD_eq_getElem?_getD, List.getElem?_eq_getElem hj2] at h
      exact Bool.eq_false_iff.1 h
def RepPost (w : World) (fb b mp : Nat) (d : Rad) (q : Bad) (r : Rit) (m : Mom) (e : Ending) (w' : World) : Prop :=
  (fwN r m = 11 ∧ e = .returned (.tuple #[.slice none 0 0, .bool false]) ∨ fwN r m < 11 ∧ ∃ v, e = .returned (.tuple #[v, .bool true]) ∧ OwnD w' w.heap.size v (rpL r m (fwN r m))) ∧ FwR w' fb b mp d q r ∧ w.grownBy w' (some mp)
theorem repair_any (fb b mp : Nat) (d : Rad) (q : Bad) (r : Rit) (hr : RiOk r) (m : Mom) (hm : MoOk r m) (w : World) (hF : FwR w fb b mp d q r) :
    Calls Tryd.prog 39 #[.pointer (some ⟨fb, 0, none⟩), momV m] w (RepPost w fb b mp d q r m) := by
  have h16 : r.n ≤ 16 := by have := hr.n10; omega
  have HR := hide hr
  have HM0 := hide hm
  have HF0 := hide hF
  have HMP := hide hF.fm.lt
  have HFW : Hid (∀ m W, MoOk r m → FwR W fb b mp d q r → Calls Tryd.prog 41 #[.pointer (some ⟨fb, 0, none⟩), momV m] W (FewPost W fb b mp d q r m)) := hide fun m W h1 h2 => few_any fb b mp d q r hr (meN r m + 1) m W (Nat.lt_succ_self _) h1 h2
  obtain ⟨v0, hv0⟩ : ∃ x, fwN r m = x := ⟨_, rfl⟩
  have HV0 := hide hv0
  have hv11 : v0 ≤ 11 := by rw [← hv0]; exact fwN_le r m
  obtain ⟨l0, hl0⟩ : ∃ x, rpL r m v0 = x := ⟨_, rfl⟩
  have HL0 := hide hl0
  unfold RepPost
  rw [hv0, hl0]
  have HFA := hide (HFW.out m)
  obtain ⟨D, day, de⟩ := m
  unfold momV at HFA ⊢
  dsimp only at HFA ⊢
  have HB1 : Hid (Below w.heap.size w ((w.alloc (.cells #[.pointer (some ⟨fb, 0, none⟩)] 80)).alloc (.cells #[.int .u16 (D : Nat), .int .i64 day, .int .i64 de] 77))) := hide (((Below.refl _ _).alloc (Nat.le_refl _) _).alloc (by simp) _)
  have G2 : Hid (Blk ((w.alloc (.cells #[.pointer (some ⟨fb, 0, none⟩)] 80)).alloc (.cells #[.int .u16 (D : Nat), .int .i64 day, .int .i64 de] 77)) w.heap.size 80 #[.pointer (some ⟨fb, 0, none⟩)]) := hide ((Blk.new w _ _).alloc _)
  have G3 : Hid (Blk ((w.alloc (.cells #[.pointer (some ⟨fb, 0, none⟩)] 80)).alloc (.cells #[.int .u16 (D : Nat), .int .i64 day, .int .i64 de] 77)) (w.heap.size + 1) 77 #[.int .u16 (D : Nat), .int .i64 day, .int .i64 de]) := hide (by simpa using Blk.new (w.alloc (.cells #[.pointer (some ⟨fb, 0, none⟩)] 80)) 77 #[.int .u16 (D : Nat), .int .i64 day, .int .i64 de])
  obtain ⟨g, hg⟩ : ∃ x, w.heap.size = x := ⟨_, rfl⟩
  have HG : Hid (w.heap.size = g) := hide hg
  have HS1 : Hid (RpC w ((w.alloc (.cells #[.pointer (some ⟨fb, 0, none⟩)] 80)).alloc (.cells #[.int .u16 (D : Nat), .int .i64 day, .int .i64 de] 77)) mp r g fb (.slice none 0 0) []) := hide ⟨gr_below HB1.out mp, (hF.ext HB1.out).fm, by rw [← hg]; exact G2.out, OwnD.nil _ _⟩
  have K3 : Hid (Blk ((w.alloc (.cells #[.pointer (some ⟨fb, 0, none⟩)] 80)).alloc (.cells #[.int .u16 (D : Nat), .int .i64 day, .int .i64 de] 77)) (g + 1) 77 #[.int .u16 (D : Nat), .int .i64 day, .int .i64 de]) := hide (by rw [← hg]; exact G3.out)
  rw [hg] at HB1
  clear G2 G3 hF hr hm hv0 hl0 HB1
  go_enter Tryd.func39, Tryd.ntmps39
  go_upto_region 1 with fail
  (try simp only [World.size_alloc])
  (try rw [hg])
  clear hg
  generalize ((w.alloc (.cells #[.pointer (some ⟨fb, 0, none⟩)] 80)).alloc (.cells #[.int .u16 (D : Nat), .int .i64 day, .int .i64 de] 77)) = w1 at HS1 K3 ⊢
  obtain ⟨-, x0, -⟩ := blk1 HS1.out.k2
  obtain ⟨-, y0, y1, y2, -⟩ := blk3 K3.out
  go_wp2_with fail
  refine (HFA.out w1 HM0.out (HF0.out.turn HS1.out.gb HS1.out.fm)).mono ?_
  rintro e w2 ⟨rfl, h2, g2⟩
  rw [HV0.out]
  have HS2 := hide (HS1.out.turn g2 h2.fm)
  have K32 := hide ((KC.map HS1.out.fm g2).blk K3.out)
  clear h2 g2 x0 y0 y1 y2 HS1 K3 HFA
  by_cases h11 : v0 = 11
  · have HV11 := hide h11
    rw [h11]
    have hb4 : Below w2.heap.size w2 (w2.alloc (.cells #[.int .i64 11] 3)) := (Below.refl _ _).alloc (Nat.le_refl _) _
    have HS4 := hide (HS2.out.ext hb4)
    have e11 : ((11 : Nat) : Int) = 11 := rfl
    clear hb4 h11
    go_wp2_with fail
    go_ret2
    exact ⟨.inl ⟨HV11.out, rfl⟩, HF0.out.turn HS4.out.gb HS4.out.fm, HS4.out.gb⟩
  have HLT : Hid (v0 < 11) := hide (by omega)
  have hge : ¬ (v0 : Int) ≥ 11 := by omega
  have hb4 : Below w2.heap.size w2 (w2.alloc (.cells #[.int .i64 (v0 : Nat)] 3)) := (Below.refl _ _).alloc (Nat.le_refl _) _
  have HS4 := hide (HS2.out.ext hb4)
  have K34 := hide (K32.out.ext hb4)
  have K6 := hide (Blk.new w2 3 #[.int .i64 (v0 : Nat)])
  have HLO : Hid (w.heap.size ≤ w2.heap.size ∧ g + 1 < w2.heap.size ∧ w.heap.size ≤ g) := hide ⟨HS2.out.gb.size, K32.out.lt, Nat.le_of_eq HG.out⟩
  clear hb4 HS2 K32 h11
  go_wp2_with fail
  generalize w2.alloc (.cells #[.int .i64 (v0 : Nat)] 3) = w4 at HS4 K34 K6 ⊢
  obtain ⟨h6, hh6⟩ : ∃ x, w2.heap.size = x := ⟨_, rfl⟩
  rw [hh6] at K6 HLO ⊢
  clear hh6
  go_loopw [4] (fun s4 wr => ∃ (mD : Nat) (mday mde : Int) (left : Nat) (v : Value) (l : List (Int × Int)), s4 = v ∧ left < 11 ∧ Hid (RpC w wr mp r g fb v l) ∧ Hid (Blk wr (g + 1) 77 #[.int .u16 (mD : Nat), .int .i64 mday, .int .i64 mde]) ∧ Hid (Blk wr h6 3 #[.int .i64 (left : Nat)]) ∧ Hid (MoOk r ⟨mD, mday, mde⟩ ∧ fwN r ⟨mD, mday, mde⟩ = left ∧ l ++ rpL r ⟨mD, mday, mde⟩ left = l0 ∧ l.length + left ≤ 20))
    (fun _ wr => meN r (moRd (g + 1) wr))
  case atStart => exact ⟨D, day, de, v0, _, [], rfl, HLT.out, HS4, K34, K6, hide ⟨HM0.out, HV0.out, HL0.out, by simp; omega⟩⟩
  case round =>
    clear HS4 K34 K6
    obtain ⟨mD, mday, mde, left, v, l, rfl, hleft, HS, K3, K6, HM⟩ := hrel
    have HMD := hide (moRd_eq K3.out)
    obtain ⟨z9, z0, z1⟩ := blk1 K6.out
    rcases Nat.eq_zero_or_pos left with hl0 | hl0
    · subst hl0
      have hng : ¬ ((0 : Nat) : Int) > 0 := by omega
      have HE : Hid (l = l0) := hide (by have h := HM.out.2.2.1; rwa [rp_zero, List.append_nil] at h)
      go_wp2_with fail
      go_ret2
      exact ⟨.inr ⟨HLT.out, _, rfl, by rw [← HE.out]; exact HS.out.ow⟩, HF0.out.turn HS.out.gb HS.out.fm, HS.out.gb⟩
    have hgt : (left : Int) > 0 := by omega
    have HSA : Hid (∀ W v l, RpC w W mp r g fb v l → Blk W (g + 1) 77 #[.int .u16 (mD : Nat), .int .i64 mday, .int .i64 mde] → (W.cell? ⟨g, 0, none⟩ = some (.pointer (some ⟨fb, 0, none⟩)) ∧ W.cell? ⟨fb, 0, none⟩ = some (.pointer (some ⟨b, 0, none⟩)) ∧ (W.cell? ⟨g + 1, 0, none⟩ = some (.int .u16 (mD : Nat)) ∧ W.cell? ⟨g + 1, 1, none⟩ = some (.int .i64 mday) ∧ W.cell? ⟨g + 1, 2, none⟩ = some (.int .i64 mde)))) := hide fun W v l h k => by
      obtain ⟨-, x0, -⟩ := blk1 h.k2
      obtain ⟨-, y0, y1, y2, -⟩ := blk3 k
      exact ⟨x0, (blk2 (HF0.out.turn h.gb h.fm).blk).2.1, y0, y1, y2⟩
    have HNX : Hid (∀ W (h : BkR W b d q r), Calls Tryd.prog 49 #[.pointer (some ⟨b, 0, none⟩), .agg #[.int .u16 (mD : Nat), .int .i64 mday, .int .i64 mde]] W fun e w' => e = .returned (.int .u16 (neS r ⟨mD, mday, mde⟩ : Nat)) ∧ Below W.heap.size W w') := hide fun W h => next_any b d q r ⟨mD, mday, mde⟩ W HR.out HM.out.1.d h
    have HNL : Hid (neS r ⟨mD, mday, mde⟩ < 65536) := hide (lt16 (mkS_lt _ r.n) h16)
    obtain ⟨NS, hNS⟩ : ∃ x, neS r ⟨mD, mday, mde⟩ = x := ⟨_, rfl⟩
    have HNS := hide hNS
    rw [hNS] at HNX HNL
    have HLI := hide (fun W (h : TB W) => list_any NS W HNL.out h)
    clear hNS
    have HQ : Hid (∀ x, x ∈ elS NS → x ∈ elS (neS r ⟨mD, mday, mde⟩)) := hide (by rw [HNS.out]; exact fun _ h => h)
    go_wp2_with fail
    refine wp_region_J (fun W : World => (W.cell? ⟨g, 0, none⟩ = some (.pointer (some ⟨fb, 0, none⟩)) ∧ W.cell? ⟨fb, 0, none⟩ = some (.pointer (some ⟨b, 0, none⟩)) ∧ (W.cell? ⟨g + 1, 0, none⟩ = some (.int .u16 (mD : Nat)) ∧ W.cell? ⟨g + 1, 1, none⟩ = some (.int .i64 mday) ∧ W.cell? ⟨g + 1, 2, none⟩ = some (.int .i64 mde)))) (by kernel_rfl) ?_
    have hbd := (Below.refl wr.heap.size wr).drew
    replace HS := hide (HS.out.ext hbd)
    replace K3 := hide (K3.out.ext hbd)
    replace K6 := hide (K6.out.ext hbd)
    clear hbd
    generalize wr.drew = wd at HS K3 K6 ⊢
    refine tk_start [0, 1, 2, 3, 4, 7] ?_
    iterate 6
      refine tk_one (v := ?_) (by first | exact hF | exact wideFn) (HSA.out _ _ _ HS.out K3.out) rfl (by kernel_rfl) (by kernel_rfl) (by kernel_rfl) (by kernel_rfl) rfl ?_ (by first | exact fun _ _ _ h => h | exact fun _ _ _ h => hQ2 _ _ _ _ _ h) ?_
      rotate_left
      · intro W hSW
        simp only [glA, glB, glC]
        (try dsimp only at hSW)
        go_simp
        with_reducible rfl
      (try simp only [glA, glB, glC, Act.put, glD, glE, glF])
    refine tk_end ?_
    refine wpAnyJ_one 5 rfl (by kernel_rfl) (fun K hK => ?_)
    simp only [glA, glB, glC]
    go_simp
    refine ⟨trivial, rfl, ?_⟩
    refine (callsIn_wide.2 (HNX.out wd (HF0.out.turn HS.out.gb HS.out.fm).bk)).mono ?_
    rintro e w5 ⟨rfl, h5⟩
    have HS5 := hide (HS.out.ext h5); have K35 := hide (K3.out.ext h5); have K65 := hide (K6.out.ext h5)
    dsimp only
    refine hK.out _ _ (fun _ => HSA.out _ _ _ HS5.out K35.out) ?_
    clear hK K
    (try simp only [glA, glB, glC, Act.put, glD, glE, glF])
    refine wpAnyJ_one 6 rfl (by kernel_rfl) (fun K hK => ?_)
    have HL5 := hide (HLI.out w5 (HF0.out.turn HS5.out.gb HS5.out.fm).tb)
    simp only [glA, glB, glC]
    go_simp
    refine ⟨trivial, rfl, ?_⟩
    refine (callsIn_wide.2 HL5.out).mono ?_
    rintro e w6 ⟨LV, rfl, hLV, h6b⟩
    have HS6 := hide (HS5.out.ext h6b); have K36 := hide (K35.out.ext h6b); have K66 := hide (K65.out.ext h6b)
    dsimp only
    refine hK.out _ _ (fun _ => HSA.out _ _ _ HS6.out K36.out) ?_
    clear hK K
    (try simp only [glA, glB, glC, Act.put, glD, glE, glF])
    obtain ⟨LA, LC, rfl⟩ := own_shape hLV
    rw [show (ofN (elS NS)).length = (elS NS).length from by simp [ofN]] at hLV ⊢
    refine wpAnyJ_one 8 rfl (by kernel_rfl) (fun K hK => ?_)
    have HIX := hide (idxR_any fb b mp d q r HR.out ⟨mD, mday, mde⟩ HM.out.1 g h6 left (elS NS) HQ.out (el_len NS) LA LC _ w6 hl0 (by omega) (HF0.out.turn HS6.out.gb HS6.out.fm) hLV HS6.out.k2 K36.out K66.out)
    simp only [glA, glB, glC]
    go_simp
    refine ⟨trivial, rfl, ?_⟩
    refine (callsIn_wide.2 HIX.out).mono ?_
    rintro e w7 ⟨iv, rfl, hiv, hF7, g7⟩
    have HS7 := hide (HS6.out.turn g7 hF7.fm); have K37 := hide ((KC.map HS6.out.fm g7).blk K36.out); have K67 := hide ((KC.map HS6.out.fm g7).blk K66.out)
    dsimp only
    refine hK.out _ _ (fun _ => HSA.out _ _ _ HS7.out K37.out) ?_
    clear hK K
    (try simp only [glA, glB, glC, Act.put, glD, glE, glF])
    refine wpAnyJ_take 9 (v := ?_) (by first | exact hF | exact wideFn) (HSA.out _ _ _ HS7.out K37.out) rfl (by kernel_rfl) (by kernel_rfl) (by kernel_rfl) (by kernel_rfl) rfl ?_ (by first | exact fun _ _ _ h => h | exact fun _ _ _ h => hQ2 _ _ _ _ _ h) ?_
    rotate_left
    · intro W hSW
      simp only [glA, glB, glC]
      (try dsimp only at hSW)
      go_simp
      with_reducible rfl
    (try simp only [glA, glB, glC, Act.put, glD, glE, glF])
    refine wpAnyJ_done (by kernel_rfl) ?_
    clear HIX HL5 hLV h6b h5 hF7 g7 HS5 HS6 K35 K36 K65 K66 HS K3 K6 z9 z0 z1
    have hfs := fw_step h16 HM.out.2.1 hl0 hleft
    rw [HNS.out] at hfs
    rcases hiv with ⟨i, rfl, hi, hnx, hfind⟩ | ⟨rfl, hfind⟩
    · have hil : ¬ ((i : Nat) : Int) < 0 := by omega
      have hil2 : ((i : Nat) : Int) < (((elS NS).length : Nat) : Int) := by omega
      obtain ⟨a, ha⟩ : ∃ x, (elS NS).getD i 0 = x := ⟨_, rfl⟩
      have HA := hide ha
      rw [ha] at hnx hfind
      have hmem : a ∈ elS (neS r ⟨mD, mday, mde⟩) := by rw [HNS.out]; exact List.mem_of_find?_eq_some hfind
      have hbr := (neS_mem h16).1 hmem
      have ha16 : a < 16 := by have := (br_undone hbr).1; omega
      have HRP : Hid (rpL r ⟨mD, mday, mde⟩ left = (mday, (a : Int)) :: rpL r (Mom.wi ⟨mD, mday, mde⟩ a) (left - 1)) := hide (rp_some h16 hl0 (by rw [HNS.out]; exact hfind))
      have HM2 := hide (HM.out.1.wi HR.out hbr)
      have HME : Hid (meN r (Mom.wi ⟨mD, mday, mde⟩ a) < meN r ⟨mD, mday, mde⟩) := hide (by have := me_wi (m := ⟨mD, mday, mde⟩) hbr; omega)
      obtain ⟨⟨oD, oday, ode⟩, hmo⟩ : ∃ x, Mom.wi ⟨mD, mday, mde⟩ a = x := ⟨_, rfl⟩
      have HWI : Hid (∀ W, Calls Tryd.prog 65 #[.agg #[.int .u16 (mD : Nat), .int .i64 mday, .int .i64 mde], .int .i64 a] W fun e w' => e = .returned (.agg #[.int .u16 (oD : Nat), .int .i64 oday, .int .i64 ode]) ∧ Below W.heap.size W w') := hide fun W => by
        have h := with_any ⟨mD, mday, mde⟩ a W HM.out.1.d ha16 HM.out.1.e0 (by have h1 := HM.out.1.e1; have h2 := HR.out.t4; dsimp only at h1 ⊢; omega)
        rw [hmo] at h
        exact h
      rw [hmo] at HM2 HME hnx HRP
      have HNX2 := hide hnx
      have hw1 : IntKind.i64.wrap ((left : Int) - 1) = ((left - 1 : Nat) : Int) := by rw [IntWalk.i64_in _ (by omega)]; omega
      obtain ⟨l1, hl1⟩ : ∃ y, left - 1 = y := ⟨_, rfl⟩
      have HL1 := hide hl1
      rw [hl1] at hw1
      clear hfs hfind hmem hbr hnx hmo ha hl1
      go_upto_region 8 with fail
      refine wp_region_J (fun W : World => (W.cell? ⟨g, 0, none⟩ = some (.pointer (some ⟨fb, 0, none⟩)) ∧ W.cell? ⟨fb, 0, none⟩ = some (.pointer (some ⟨b, 0, none⟩)) ∧ (W.cell? ⟨g + 1, 0, none⟩ = some (.int .u16 (mD : Nat)) ∧ W.cell? ⟨g + 1, 1, none⟩ = some (.int .i64 mday) ∧ W.cell? ⟨g + 1, 2, none⟩ = some (.int .i64 mde)))) (by kernel_rfl) ?_
      have hbd := (Below.refl w7.heap.size w7).drew
      replace HS7 := hide (HS7.out.ext hbd)
      replace K37 := hide (K37.out.ext hbd)
      replace K67 := hide (K67.out.ext hbd)
      clear hbd
      generalize w7.drew = w8 at HS7 K37 K67 ⊢
      refine tk_start [0, 1, 2, 3, 4, 7] ?_
      iterate 6
        refine tk_one (v := ?_) (by first | exact hF | exact wideFn) (HSA.out _ _ _ HS7.out K37.out) rfl (by kernel_rfl) (by kernel_rfl) (by kernel_rfl) (by kernel_rfl) rfl ?_ (by first | exact fun _ _ _ h => h | exact fun _ _ _ h => hQ2 _ _ _ _ _ h) ?_
        rotate_left
        · intro W hSW
          simp only [glA, glB, glC]
          (try dsimp only at hSW)
          go_simp
          with_reducible rfl
        (try simp only [glA, glB, glC, Act.put, glD, glE, glF])
      refine tk_end ?_
      refine wpAnyJ_one 5 rfl (by kernel_rfl) (fun K hK => ?_)
      simp only [glA, glB, glC]
      go_simp
      refine ⟨trivial, rfl, ?_⟩
      refine (callsIn_wide.2 (HNX.out w8 (HF0.out.turn HS7.out.gb HS7.out.fm).bk)).mono ?_
      rintro e w9 ⟨rfl, h9⟩
      have HS9 := hide (HS7.out.ext h9); have K39 := hide (K37.out.ext h9); have K69 := hide (K67.out.ext h9)
      dsimp only
      refine hK.out _ _ (fun _ => HSA.out _ _ _ HS9.out K39.out) ?_
      clear hK K
      (try simp only [glA, glB, glC, Act.put, glD, glE, glF])
      refine wpAnyJ_one 6 rfl (by kernel_rfl) (fun K hK => ?_)
      have HL9 := hide (HLI.out w9 (HF0.out.turn HS9.out.gb HS9.out.fm).tb)
      simp only [glA, glB, glC]
      go_simp
      refine ⟨trivial, rfl, ?_⟩
      refine (callsIn_wide.2 HL9.out).mono ?_
      rintro e wa ⟨LV, rfl, hLV, hab⟩
      have HSa := hide (HS9.out.ext hab); have K3a := hide (K39.out.ext hab); have K6a := hide (K69.out.ext hab)
      dsimp only
      refine hK.out _ _ (fun _ => HSA.out _ _ _ HSa.out K3a.out) ?_
      clear hK K
      (try simp only [glA, glB, glC, Act.put, glD, glE, glF])
      obtain ⟨LB, LC2, rfl⟩ := own_shape hLV
      obtain ⟨qb, qo, rfl, hqb, hqc⟩ := VR1.at_ hLV.li.2 (show i < (ofN (elS NS)).length by simpa [ofN] using hi)
      rw [ofN_getD, HA.out] at hqc
      rw [show (ofN (elS NS)).length = (elS NS).length from by simp [ofN]]
      clear HL9 hLV hab h9 HS7 HS9 K37 K39 K67 K69 hqb
      refine wpAnyJ_take 8 (v := ?_) (by first | exact hF | exact wideFn) (HSA.out _ _ _ HSa.out K3a.out) rfl (by kernel_rfl) (by kernel_rfl) (by kernel_rfl) (by kernel_rfl) rfl ?_ (by first | exact fun _ _ _ h => h | exact fun _ _ _ h => hQ2 _ _ _ _ _ h) ?_
      rotate_left
      · intro W hSW
        simp only [glA, glB, glC]
        (try dsimp only at hSW)
        go_simp
        with_reducible rfl
      (try simp only [glA, glB, glC, Act.put, glD, glE, glF])
      refine wpAnyJ_one 9 rfl (by kernel_rfl) (fun K hK => ?_)
      simp only [glA, glB, glC]
      go_simp
      refine hK.out _ _ (fun _ => HSA.out _ _ _ HSa.out K3a.out) ?_
      clear hK K
      (try simp only [glA, glB, glC, Act.put, glD, glE, glF])
      refine wpAnyJ_take 10 (v := ?_) (by first | exact hF | exact wideFn) (HSA.out _ _ _ HSa.out K3a.out) rfl (by kernel_rfl) (by kernel_rfl) (by kernel_rfl) (by kernel_rfl) rfl ?_ (by first | exact fun _ _ _ h => h | exact fun _ _ _ h => hQ2 _ _ _ _ _ h) ?_
      rotate_left
      · intro W hSW
        simp only [glA, glB, glC]
        (try dsimp only at hSW)
        go_simp
        with_reducible rfl
      (try simp only [glA, glB, glC, Act.put, glD, glE, glF])
      refine wpAnyJ_done (by kernel_rfl) ?_
      have HLEN := hide (show l.length ≤ 1000000 by have := HM.out.2.2.2; omega)
      obtain ⟨A2, c2, wb, hrun, ho, hgw⟩ := HSa.out.ow.push (mday, (a : Int)) HLEN.out HSa.out.gb.size
      obtain ⟨VA, VC, rfl⟩ := own_shape HSa.out.ow
      have HRUN := hide hrun
      have hba : Below wa.heap.size wa (wa.alloc (.cells #[.int .i64 mday, .int .i64 a] 60)) := (Below.refl _ _).alloc (Nat.le_refl _) _
      have HSb := hide ((HSa.out.ext hba).push HMP.out hgw ho)
      have K3b : Hid (Blk wb (g + 1) 77 #[.int .u16 (mD : Nat), .int .i64 mday, .int .i64 mde]) := hide ((K3a.out.ext hba).grown hgw (fun e => own_blk_ne (HSa.out.ext hba).ow (K3a.out.ext hba) (by decide) e.symm))
      have K6b : Hid (Blk wb h6 3 #[.int .i64 (left : Nat)]) := hide ((K6a.out.ext hba).grown hgw (fun e => own_blk_ne (HSa.out.ext hba).ow (K6a.out.ext hba) (by decide) e.symm))
      have K3c := hide (blk3 K3a.out)
      clear hrun ho hgw hba hqc
      obtain ⟨x9, y0, y1, y2, -⟩ := K3c.out
      go_upto_region 10 with (at_builtin; refine wpList_append_run rfl (.tmp 42) (.tmp 47) 25 rfl rfl rfl HRUN.out ?_)
      clear x9 y0 y1 y2 K3c HRUN HSa K3a K6a
      obtain ⟨x9, y0, y1, y2, -⟩ := blk3 K3b.out
      go_wp2_with fail
      refine (HWI.out wb).mono ?_
      rintro e wc ⟨rfl, hc⟩
      have HSc := hide (HSb.out.ext hc)
      have K3c := hide (K3b.out.ext hc)
      have K6c := hide (K6b.out.ext hc)
      clear hc x9 y0 y1 y2 HSb K3b K6b
      obtain ⟨x9, y0, y1, y2, y3, y4, y5⟩ := blk3 K3c.out
      go_upto_region 11 with fail
      clear x9 y0 y1 y2 y3 y4 y5
      have HSd := hide (HSc.out.put K3c.out (by decide) (by have := HLO.out; omega) HMP.out (by omega) (grown_set3 wc (g + 1) (.int .u16 (oD : Nat)) (.int .i64 oday) (.int .i64 ode)))
      have K3d := hide (K3c.out.set3 (.int .u16 (oD : Nat)) (.int .i64 oday) (.int .i64 ode))
      have hne : h6 ≠ g + 1 := by have := HLO.out; omega
      have K6d := hide (((K6c.out.far (p := ⟨g + 1, 0, none⟩) hne (.int .u16 (oD : Nat))).far (p := ⟨g + 1, 1, none⟩) hne (.int .i64 oday)).far (p := ⟨g + 1, 2, none⟩) hne (.int .i64 ode))
      clear HSc K3c K6c
      generalize ((wc.setCell ⟨g + 1, 0, none⟩ (.int .u16 (oD : Nat))).setCell ⟨g + 1, 1, none⟩ (.int .i64 oday)).setCell ⟨g + 1, 2, none⟩ (.int .i64 ode) = wd2 at HSd K3d K6d ⊢
      obtain ⟨z9, z0, z1⟩ := blk1 K6d.out
      go_wp2_with fail
      have K3e : Blk (wd2.setCell ⟨h6, 0, none⟩ (.int .i64 (l1 : Nat))) (g + 1) 77 #[.int .u16 (oD : Nat), .int .i64 oday, .int .i64 ode] := K3d.out.far (p := ⟨h6, 0, none⟩) (fun e => hne e.symm) _
      go_roundw
      case rel =>
        refine ⟨oD, oday, ode, l1, _, l ++ [(mday, (a : Int))], rfl, by have := HL1.out; omega, hide (HSd.out.put K6d.out (by decide) HLO.out.1 HMP.out (by have := HLO.out; omega) (grownBy_setC wd2 h6 0 _)), hide K3e, hide (by simpa using K6d.out.set_ 0 (.int .i64 (l1 : Nat))), hide ⟨HM2.out, by rw [HNX2.out, HL1.out], ?_, by have h1 := HM.out.2.2.2; have h2 := HL1.out; simp; omega⟩⟩
        have h := HM.out.2.2.1
        rw [HRP.out, HL1.out] at h
        rw [← h]
        simp
      case measure =>
        rw [moRd_eq K3e, HMD.out]
        exact HME.out
    · have hil : (-1 : Int) < 0 := by omega
      have hf2 : mday < r.last ∧ fwN r (Mom.on ⟨mD, mday, mde⟩ (mday + 1)) = left := by
        rcases hfs with ⟨a, ha, h⟩ | h
        · have := List.find?_eq_none.1 hfind a ha
          rw [h] at this
          simp at this
        · exact h
      have HRP : Hid (rpL r ⟨mD, mday, mde⟩ left = rpL r (Mom.on ⟨mD, mday, mde⟩ (mday + 1)) left) := hide (rp_none hl0 hf2.1 (by rw [HNS.out]; exact hfind))
      have hday0 := HM.out.1.d0
      dsimp only at hday0
      have hl30 := HR.out.l30
      have HM2 : Hid (MoOk r (Mom.on ⟨mD, mday, mde⟩ (mday + 1))) := hide (HM.out.1.on HR.out (by omega) (by omega))
      have HME : Hid (meN r (Mom.on ⟨mD, mday, mde⟩ (mday + 1)) < meN r ⟨mD, mday, mde⟩) := hide (by have := me_on (r := r) (m := ⟨mD, mday, mde⟩) hf2.1; dsimp only at this; omega)
      have hst : IntKind.i64.wrap (mday + 1) = mday + 1 := IntWalk.i64_in _ (by omega)
      obtain ⟨⟨oD, oday, ode⟩, hmo⟩ : ∃ x, Mom.on ⟨mD, mday, mde⟩ (mday + 1) = x := ⟨_, rfl⟩
      have HON : Hid (∀ W, Calls Tryd.prog 42 #[.agg #[.int .u16 (mD : Nat), .int .i64 mday, .int .i64 mde], .int .i64 (mday + 1)] W fun e w' => e = .returned (.agg #[.int .u16 (oD : Nat), .int .i64 oday, .int .i64 ode]) ∧ Below W.heap.size W w') := hide fun W => by
        have h := on_any ⟨mD, mday, mde⟩ (mday + 1) W
        rw [hmo] at h
        exact h
      rw [hmo] at HM2 HME hf2 HRP
      have HNX2 := hide hf2.2
      clear hfs hfind hf2 hmo
      obtain ⟨x9, y0, y1, y2, -⟩ := blk3 K37.out
      go_wp2_with fail
      refine (HON.out w7).mono ?_
      rintro e wc ⟨rfl, hc⟩
      have HSc := hide (HS7.out.ext hc)
      have K3c := hide (K37.out.ext hc)
      have K6c := hide (K67.out.ext hc)
      clear hc x9 y0 y1 y2 HS7 K37 K67
      obtain ⟨x9, y0, y1, y2, y3, y4, y5⟩ := blk3 K3c.out
      go_wp2_with fail
      clear x9 y0 y1 y2 y3 y4 y5
      have hne : h6 ≠ g + 1 := by have := HLO.out; omega
      have K3e := K3c.out.set3 (.int .u16 (oD : Nat)) (.int .i64 oday) (.int .i64 ode)
      go_roundw
      case rel =>
        refine ⟨oD, oday, ode, left, _, l, rfl, hleft, hide (HSc.out.put K3c.out (by decide) (by have := HLO.out; omega) HMP.out (by omega) (grown_set3 wc (g + 1) (.int .u16 (oD : Nat)) (.int .i64 oday) (.int .i64 ode))), hide K3e, hide (((K6c.out.far (p := ⟨g + 1, 0, none⟩) hne (.int .u16 (oD : Nat))).far (p := ⟨g + 1, 1, none⟩) hne (.int .i64 oday)).far (p := ⟨g + 1, 2, none⟩) hne (.int .i64 ode)), hide ⟨HM2.out, HNX2.out, by rw [← HRP.out]; exact HM.out.2.2.1, HM.out.2.2.2⟩⟩
      case measure =>
        rw [moRd_eq K3e, HMD.out]
        exact HME.out
end Go.Proofs.YtcgdalabenflmaaDoor
/- Rite: copies: deeds, copied. -/
namespace Go.Proofs.YtcgdalabenflmaaDoor
open Go Go.RowKit Go.Shelf
set_option maxHeartbeats 8000000
set_option maxRecDepth 100000
theorem OwnD.made0 (W : World) : OwnD (W.alloc (.cells #[] 60)) W.heap.size (.slice (some ⟨W.heap.size, 0, none⟩) 0 0) [] :=
  World.ownsRow_made W #[] 0 (Nat.le_refl _) (by unfold maxLen; omega) rfl
theorem OwnD.pushes {W : World} {base : Nat} {v : Value} {l : List (Int × Int)} (h : OwnD W base v l) (A : Option Addr) (c : Nat) (m : List (Int × Int)) (hA : DsR W A m) (hl : l.length + m.length ≤ 1000000) (hb : base ≤ W.heap.size) :
    ∃ v' w', (Builtin.append_ #[25, 25] 25 #[v, .slice A m.length c]).run Tryd.prog W = .ok v' w' ∧ OwnD w' base v' (l ++ m) ∧ W.grownBy w' v.ownBlock := by
  obtain ⟨i0, hi, hz0, hz1, hz2⟩ := info_parts info_deed
  cases A with
  | none =>
    have hm : m = [] := by
      rcases hm : m with _ | ⟨x, m⟩
      · rfl
      · exfalso
        obtain ⟨b, off, hA, -⟩ := hA (by rw [hm]; simp)
        cases hA
    subst hm
    refine ⟨v, W, run_append_none0 (P := Tryd.prog) _ _ 60 i0 2 Tryd.underlying25 hi v l.length c (cellsD l) h, by simpa using h, World.grownBy.refl _ _⟩
  | some a =>
    have hcells : ∀ j u, (cellsD m)[j]? = some u → W.cell? (a.add j) = some u := by
      intro j u hj
      have hlt : j < m.length * 2 := by
        have := (List.getElem?_eq_some_iff.1 hj).1
        rwa [cellsD_len] at this
      obtain ⟨b, off, hA', -, hc⟩ := hA (by omega)
      injection hA' with hA'
      subst hA'
      have h1 := hc (j / 2) (j % 2) (by omega) (by omega)
      have h2 := cellsD_at m (j / 2) (j % 2) (by omega) (by omega)
      rw [show j / 2 * 2 + j % 2 = j by omega] at h2
      rw [h2] at hj
      have e4 : ((⟨b, off, none⟩ : Addr).add j) = ⟨b, off + j / 2 * 2 + j % 2, none⟩ := by rw [add_lit', show off + j = off + j / 2 * 2 + j % 2 by omega]
      rw [e4, ← hj]
      exact h1
    obtain ⟨v', w', hr, h2, h3, -, -⟩ := run_append_own_at (P := Tryd.prog) (w := W) base 25 25 60 i0 _ 2 16 Tryd.underlying25 hi hz0 hz1 hz2 rfl (by decide) v l.length (cellsD l) h
      a m.length c (cellsD m) (by rw [cellsD_len]) hcells (cellsD_one m) (by unfold maxLen; omega) (by omega) hb
    refine ⟨v', w', hr, ?_, h3⟩
    unfold OwnD
    rw [cellsD_append, List.length_append]
    exact h2
theorem deeds_any (A : Option Addr) (c : Nat) (l : List (Int × Int)) (w : World) (hD : DsR w A l) (hl : l.length ≤ 1000000) :
    Calls Tryd.prog 13 #[.slice A l.length c] w fun e w' => ∃ A' c', e = .returned (.slice A' l.length c') ∧ OwnD w' w.heap.size (.slice A' l.length c') l ∧ Below w.heap.size w w' := by
  have hb : Below w.heap.size w (w.alloc (.cells #[] 60)) := (Below.refl _ _).alloc (Nat.le_refl _) _
  obtain ⟨v', w', hrun, ho, hg⟩ := (OwnD.made0 w).pushes A c l (hD.ext hb) (by simpa using hl) hb.size
  have HRUN := hide hrun
  rw [List.nil_append] at ho
  obtain ⟨A', c', rfl⟩ := own_shape ho
  have HO := hide ho
  have HB : Hid (Below w.heap.size w w') := hide (hb.grown hg hb.size (fun k e => by simp [Value.ownBlock] at e; omega))
  obtain ⟨n, hn⟩ : ∃ n, l.length = n := ⟨_, rfl⟩
  rw [hn] at HRUN HO ⊢
  clear hrun ho hg hb hD hl
  go_enter Tryd.func13, Tryd.ntmps13
  go_wp2_with (at_builtin; refine wpList_append_run rfl (.tmp 3) (.tmp 4) 25 rfl rfl rfl HRUN.out ?_)
  go_ret
  exact ⟨A', c', rfl, HO.out, HB.out⟩
-- acts
theorem cellsOf_succ (sz n : Nat) (g : Nat → Nat → Value) (hs : 0 < sz) : cellsOf sz (n + 1) g = cellsOf sz n g ++ (List.range sz).map (g n) := by
  unfold cellsOf
  rw [Nat.succ_mul, List.range_add, List.map_append, List.map_map]
  congr 1
  refine List.map_congr_left fun j hj => ?_
  have hj := List.mem_range.1 hj
  show g ((n * sz + j) / sz) ((n * sz + j) % sz) = g n j
  rw [Nat.add_comm, Nat.mul_comm, Nat.add_mul_div_left _ _ hs, Nat.div_eq_of_lt hj, Nat.add_mul_mod_self_left, Nat.mod_eq_of_lt hj, Nat.zero_add]
theorem cellsOf_congr {sz n : Nat} {g g' : Nat → Nat → Value} (h : ∀ k i, k < n → i < sz → g k i = g' k i) : cellsOf sz n g = cellsOf sz n g' := by
  unfold cellsOf
  refine List.map_congr_left fun j hj => ?_
  have hj := List.mem_range.1 hj
  have hs : 0 < sz := by
    rcases Nat.eq_zero_or_pos sz with h0 | h0
    · subst h0; simp at hj
    · exact h0
  exact h _ _ (Nat.div_lt_of_lt_mul (by rw [Nat.mul_comm]; exact hj)) (Nat.mod_lt _ hs)
theorem cells_new (w : World) (cs : List Value) (t : TypeId) : ∀ (j : Nat) (u : Value), cs[j]? = some u → (w.alloc (.cells cs.toArray t)).cell? ((⟨w.heap.size, 0, none⟩ : Addr).add j) = some u := by
  intro j u h
  have e : ((⟨w.heap.size, 0, none⟩ : Addr).add j) = ⟨w.heap.size, j, none⟩ := by rw [add_lit', Nat.zero_add]
  rw [e, (Blk.new w t cs.toArray).cell]
  simpa using h
theorem info_act : (Tryd.prog.info? 58).map (fun i => (i.zero, i.size, i.bytes)) = some (some (.agg #[.string noW, .slice none 0 0, .slice none 0 0, .int .i64 0, .int .i64 0, .int .i64 0, .bool false]), 7, 96) := by kernel_rfl
/-- an own list of acts -/
def acG (r : Rit) (e : Rad) (j i : Nat) : Value := acV (r.ac j) (e.na j) (e.nc j) (e.ia j) (e.ic j) i
def OwnA (W : World) (n0 : Nat) (v : Value) (r : Rit) (e : Rad) (k : Nat) : Prop := W.ownsRow n0 58 7 v k (cellsOf 7 k (acG r e))
theorem acV_one (a : Rac) (na : Option Addr) (nc : Nat) (ia : Option Addr) (ic i : Nat) : (acV a na nc ia ic i).oneCell' = true := by
  unfold acV
  repeat' split
  all_goals rfl
theorem cellsOf_one (r : Rit) (e : Rad) (k : Nat) : ∀ u ∈ cellsOf 7 k (acG r e), u.oneCell' = true := by
  intro u hu
  unfold cellsOf at hu
  obtain ⟨j, -, rfl⟩ := List.mem_map.1 hu
  exact acV_one _ _ _ _ _ _
def acL (a : Rac) (na : Option Addr) (nc : Nat) (ia : Option Addr) (ic : Nat) : List Value := [.string a.nm, .slice na a.nd.length nc, .slice ia a.ins.length ic, .int .i64 a.at_, .int .i64 a.fr, .int .i64 a.to_, .bool a.ex]
theorem acL_eq (a : Rac) (na : Option Addr) (nc : Nat) (ia : Option Addr) (ic : Nat) : (List.range 7).map (acV a na nc ia ic) = acL a na nc ia ic := rfl
/-- another act's lists -/
def Rad.up (e : Rad) (k : Nat) (na : Option Addr) (nc : Nat) (ia : Option Addr) (ic : Nat) : Rad :=
  ⟨e.A, e.c, fun j => if j = k then na else e.na j, fun j => if j = k then nc else e.nc j, fun j => if j = k then ia else e.ia j, fun j => if j = k then ic else e.ic j⟩
theorem OwnA.push {W : World} {base : Nat} {v : Value} {r : Rit} {e : Rad} {k : Nat} (h : OwnA W base v r e k) (na : Option Addr) (nc : Nat) (ia : Option Addr) (ic : Nat) (hl : k ≤ 1000) (hb : base ≤ W.heap.size) :
    ∃ A c w', (Builtin.append_ #[22, 22] 22 #[v, .slice (some ⟨W.heap.size, 0, none⟩) 1 1]).run Tryd.prog (W.alloc (.cells (acL (r.ac k) na nc ia ic).toArray 58)) = .ok (.slice A (k + 1) c) w' ∧
      OwnA w' base (.slice A (k + 1) c) r (e.up k na nc ia ic) (k + 1) ∧ (W.alloc (.cells (acL (r.ac k) na nc ia ic).toArray 58)).grownBy w' v.ownBlock := by
  obtain ⟨i0, hi, hz0, hz1, hz2⟩ := info_parts info_act
  have hone : ∀ u ∈ acL (r.ac k) na nc ia ic, u.oneCell' = true := by
    rw [← acL_eq]
    intro u hu
    obtain ⟨j, -, rfl⟩ := List.mem_map.1 hu
    exact acV_one _ _ _ _ _ _
  obtain ⟨v', w', hr, h2, h3, -⟩ := run_append_own (P := Tryd.prog) (w := W.alloc (.cells (acL (r.ac k) na nc ia ic).toArray 58)) base 22 22 58 i0 _ 7 96 Tryd.underlying22 hi hz0 hz1 hz2 rfl (by decide) v k (cellsOf 7 k (acG r e)) (World.ownsRow.alloc h _)
    ⟨W.heap.size, 0, none⟩ 1 1 (acL (r.ac k) na nc ia ic) rfl (cells_new _ _ _) hone (by unfold maxLen; omega) (by omega) (by simp; omega)
  obtain ⟨A, c, rfl⟩ := own_shape h2
  refine ⟨A, c, w', hr, ?_, h3⟩
  unfold OwnA
  rw [cellsOf_succ _ _ _ (by decide)]
  have e1 : cellsOf 7 k (acG r (e.up k na nc ia ic)) = cellsOf 7 k (acG r e) := cellsOf_congr fun j i hj _ => by
    unfold acG Rad.up
    dsimp only
    rw [if_neg (by omega), if_neg (by omega), if_neg (by omega), if_neg (by omega)]
  have e2 : (List.range 7).map (acG r (e.up k na nc ia ic) k) = acL (r.ac k) na nc ia ic := by
    rw [← acL_eq]
    refine List.map_congr_left fun i _ => ?_
    unfold acG Rad.up
    dsimp only
    rw [if_pos rfl, if_pos rfl, if_pos rfl, if_pos rfl]
  rw [e1, e2]
  exact h2
/-- a list put behind an empty one of its own -/
theorem ap_any {W : World} {n0 : Nat} {v : Value} (h : OwnJ W n0 v []) (A : Option Addr) (c : Nat) (m : List Int) (hA : LI W W.heap.size A m) (hl : m.length ≤ 1000000) (hb : n0 ≤ W.heap.size) :
    ∃ A' c' w', (Builtin.append_ #[48, 48] 48 #[v, .slice A m.length c]).run Tryd.prog W = .ok (.slice A' m.length c') w' ∧ OwnJ w' n0 (.slice A' m.length c') m ∧ W.grownBy w' v.ownBlock ∧ ((Value.slice A' m.length c').ownBlock = v.ownBlock ∨ (Value.slice A' m.length c').ownBlock = some W.heap.size) := by
  obtain ⟨v', w', hr, ho, hg, hw⟩ := h.pushes A c m hA (by simpa using hl) hb
  rw [List.nil_append] at ho
  obtain ⟨A', c', rfl⟩ := own_shape ho
  exact ⟨A', c', w', hr, ho, hg, hw⟩
end Go.Proofs.YtcgdalabenflmaaDoor
/- Rite: copied, walked. -/
namespace Go.Proofs.YtcgdalabenflmaaDoor
open List renaming getElem_toArray → glA, getElem_cons_zero → glB, getElem_cons_succ → glC, setIfInBounds_toArray → glD, set_cons_zero → glE, set_cons_succ → glF
open Go Go.RowKit Go.Shelf
set_option maxHeartbeats 8000000
set_option maxRecDepth 100000
/-- two lists put behind two empty ones -/
theorem lists2 {W : World} {n0 p1 p2 : Nat} (hp : p1 ≠ p2) (h1 : OwnJ W n0 (.slice (some ⟨p1, 0, none⟩) 0 0) []) (h2 : OwnJ W n0 (.slice (some ⟨p2, 0, none⟩) 0 0) []) (A c B b : _) (l m : List Int)
    (hA : ∀ W', Below n0 W W' → LI W' W'.heap.size A l) (hB : ∀ W', Below n0 W W' → LI W' W'.heap.size B m) (hl : l.length ≤ 1000000) (hm : m.length ≤ 1000000) (hn : n0 ≤ W.heap.size) :
    ∃ A1 c1 wc, (Builtin.append_ #[48, 48] 48 #[.slice (some ⟨p1, 0, none⟩) 0 0, .slice A l.length c]).run Tryd.prog W = .ok (.slice A1 l.length c1) wc ∧ Below n0 W wc ∧
      ∃ A2 c2 we, (Builtin.append_ #[48, 48] 48 #[.slice (some ⟨p2, 0, none⟩) 0 0, .slice B m.length b]).run Tryd.prog wc = .ok (.slice A2 m.length c2) we ∧ Below n0 W we ∧ OwnJ we n0 (.slice A1 l.length c1) l ∧ OwnJ we n0 (.slice A2 m.length c2) m := by
  have q1 := (World.ownsRow.lt h1 p1 rfl)
  have q2 := (World.ownsRow.lt h2 p2 rfl)
  obtain ⟨A1, c1, wc, hr1, ho1, hg1, hw1⟩ := ap_any h1 A c l (hA _ (Below.refl _ _)) hl hn
  have hb1 : Below n0 W wc := (Below.refl _ _).grown hg1 hn (fun k e => by simp [Value.ownBlock] at e; omega)
  have h2' : OwnJ wc n0 (.slice (some ⟨p2, 0, none⟩) 0 0) [] := World.ownsRow.kept h2 hg1 (.inr (by simp [Value.ownBlock]; omega))
  obtain ⟨A2, c2, we, hr2, ho2, hg2, hw2⟩ := ap_any h2' B b m (hB _ hb1) hm (Nat.le_trans hn hb1.size)
  have hb2 : Below n0 W we := hb1.grown hg2 (Nat.le_trans hn hb1.size) (fun k e => by simp [Value.ownBlock] at e; omega)
  have ho1' : OwnJ we n0 (.slice A1 l.length c1) l := World.ownsRow.kept ho1 hg2 (.inr (by
    rcases hw1 with h | h
    · rw [h]; simp [Value.ownBlock]; omega
    · rw [h]; simp [Value.ownBlock]; omega))
  exact ⟨A1, c1, wc, hr1, hb1, A2, c2, we, hr2, hb2, ho1', ho2⟩
/-- the same, with the second empty list made in between -/
theorem lists1 {W : World} {n0 p1 : Nat} (h1 : OwnJ W n0 (.slice (some ⟨p1, 0, none⟩) 0 0) []) (A c B b : _) (l m : List Int)
    (hA : ∀ W', Below n0 W W' → LI W' W'.heap.size A l) (hB : ∀ W', Below n0 W W' → LI W' W'.heap.size B m) (hl : l.length ≤ 1000000) (hm : m.length ≤ 1000000) (hn : n0 ≤ W.heap.size) :
    ∃ A1 c1 wc, (Builtin.append_ #[48, 48] 48 #[.slice (some ⟨p1, 0, none⟩) 0 0, .slice A l.length c]).run Tryd.prog W = .ok (.slice A1 l.length c1) wc ∧ Below n0 W wc ∧
      ∃ A2 c2 we, (Builtin.append_ #[48, 48] 48 #[.slice (some ⟨wc.heap.size, 0, none⟩) 0 0, .slice B m.length b]).run Tryd.prog (wc.alloc (.cells #[] 3)) = .ok (.slice A2 m.length c2) we ∧ Below n0 W (wc.alloc (.cells #[] 3)) ∧ Below n0 W we ∧ OwnJ we n0 (.slice A1 l.length c1) l ∧ OwnJ we n0 (.slice A2 m.length c2) m := by
  have q1 := (World.ownsRow.lt h1 p1 rfl)
  obtain ⟨A1, c1, wc, hr1, ho1, hg1, hw1⟩ := ap_any h1 A c l (hA _ (Below.refl _ _)) hl hn
  have hb1 : Below n0 W wc := (Below.refl _ _).grown hg1 hn (fun k e => by simp [Value.ownBlock] at e; omega)
  have hn1 := Nat.le_trans hn hb1.size
  have hba : Below n0 W (wc.alloc (.cells #[] 3)) := hb1.alloc hn1 _
  have h2 := OwnJ.made0 wc
  have ho1a : OwnJ (wc.alloc (.cells #[] 3)) n0 (.slice A1 l.length c1) l := World.ownsRow.alloc ho1 _
  obtain ⟨A2, c2, we, hr2, ho2, hg2, hw2⟩ := ap_any h2 B b m (hB _ hba) hm (by simp)
  have hb2 : Below n0 W we := hba.grown hg2 (by simp; omega) (fun k e => by simp [Value.ownBlock] at e; omega)
  have ho1' : OwnJ we n0 (.slice A1 l.length c1) l := World.ownsRow.kept ho1a hg2 (.inr (fun e => by
    have h3 : (Value.slice A1 l.length c1).ownBlock = some wc.heap.size := by rw [e]; rfl
    have := (World.ownsRow.lt ho1 _ h3).2
    omega))
  exact ⟨A1, c1, wc, hr1, hb1, A2, c2, we, hr2, hba, hb2, ho1', ownMono ho2 hn1⟩
/-- what copied keeps -/
structure CpA (w W : World) (G R n : Nat) (d : Rad) (r : Rit) (la tl : Int) (k : Nat) (v : Value) (e : Rad) : Prop where
  lo : Below w.heap.size w W
  kG : Blk W G 24 #[.slice d.A n d.c, .int .i64 la, .int .i64 tl]
  kO : Blk W (G + 1) 24 #[.slice none 0 0, .int .i64 0, .int .i64 0]
  kR : Blk W R 24 #[v, .int .i64 la, .int .i64 tl]
  ow : OwnA W w.heap.size v r e k
  nd : ∀ j, j < k → OwnJ W w.heap.size (.slice (e.na j) (r.ac j).nd.length (e.nc j)) (r.ac j).nd
  ins : ∀ j, j < k → OwnJ W w.heap.size (.slice (e.ia j) (r.ac j).ins.length (e.ic j)) (r.ac j).ins
theorem CpA.ext {w W W' : World} {G R n : Nat} {d : Rad} {r : Rit} {la tl : Int} {k : Nat} {v : Value} {e : Rad} (h : CpA w W G R n d r la tl k v e) (hb : Below W.heap.size W W') : CpA w W' G R n d r la tl k v e :=
  ⟨h.lo.trans (hb.mono h.lo.size), h.kG.ext hb, h.kO.ext hb, h.kR.ext hb, ownBelow h.ow hb, fun j hj => (h.nd j hj).ext hb, fun j hj => (h.ins j hj).ext hb⟩
/-- another act is put behind -/
theorem CpA.push {w W W' : World} {G R n : Nat} {d : Rad} {r : Rit} {la tl : Int} {k : Nat} {v v' : Value} {e : Rad} (h : CpA w W G R n d r la tl k v e) (hlo : w.heap.size ≤ R) (hGR : G + 1 < R) (na : Option Addr) (nc : Nat) (ia : Option Addr) (ic : Nat)
    (hn : OwnJ W w.heap.size (.slice na (r.ac k).nd.length nc) (r.ac k).nd) (hi : OwnJ W w.heap.size (.slice ia (r.ac k).ins.length ic) (r.ac k).ins) (hg : W.grownBy W' v.ownBlock) (ho : OwnA W' w.heap.size v' r (e.up k na nc ia ic) (k + 1)) :
    CpA w (W'.setCell ⟨R, 0, none⟩ v') G R n d r la tl (k + 1) v' (e.up k na nc ia ic) := by
  have hne : ∀ {x : Value} {l : List Int}, OwnJ W w.heap.size x l → OwnJ W' w.heap.size x l := fun {x l} hx => World.ownsRow.kept hx hg (by
    rcases hb : x.ownBlock with _ | p
    · exact .inl rfl
    · refine .inr fun e => ?_
      obtain ⟨A, c, rfl⟩ := own_shape hx
      rcases hx.2 with ⟨h1, -⟩ | ⟨g', cap, cur, h1, -, hh, -⟩
      · rw [h1] at hb; cases hb
      · rw [h1] at hb
        have hgp : g' = p := by simpa [Value.ownBlock] using hb
        subst hgp
        exact own_blk_ne h.ow (t := 3) hh (by decide) e.symm)
  have kR' : Blk W' R 24 #[v, .int .i64 la, .int .i64 tl] := h.kR.grown hg (fun e => own_blk_ne h.ow h.kR (by decide) e.symm)
  have hst : ∀ {x : Value} {l : List Int}, OwnJ W' w.heap.size x l → OwnJ (W'.setCell ⟨R, 0, none⟩ v') w.heap.size x l := fun hx => ownsRow_setCell_other hx (own_blk_ne hx kR' (by decide)) _
  refine ⟨(h.lo.grown hg h.lo.size (fun k e => (World.ownsRow.lt h.ow k e).1)).setCell (p := ⟨R, 0, none⟩) hlo v', ?_, ?_, ?_, ownsRow_setCell_other ho (own_blk_ne ho kR' (by decide)) _, fun j hj => ?_, fun j hj => ?_⟩
  · exact (h.kG.grown hg (fun e => own_blk_ne h.ow h.kG (by decide) e.symm)).far (p := ⟨R, 0, none⟩) (by show G ≠ R; omega) v'
  · exact (h.kO.grown hg (fun e => own_blk_ne h.ow h.kO (by decide) e.symm)).far (p := ⟨R, 0, none⟩) (by show G + 1 ≠ R; omega) v'
  · simpa using kR'.set_ 0 v'
  · unfold Rad.up
    dsimp only
    by_cases hjk : j = k
    · subst hjk; rw [if_pos rfl, if_pos rfl]; exact hst (hne hn)
    · rw [if_neg hjk, if_neg hjk]; exact hst (hne (h.nd j (by omega)))
  · unfold Rad.up
    dsimp only
    by_cases hjk : j = k
    · subst hjk; rw [if_pos rfl, if_pos rfl]; exact hst (hne hi)
    · rw [if_neg hjk, if_neg hjk]; exact hst (hne (h.ins j (by omega)))
def CpPost (w : World) (r : Rit) (e : Ending) (w' : World) : Prop :=
  ∃ d', e = .returned (.agg #[.slice d'.A r.n d'.c, .int .i64 r.last, .int .i64 r.toil]) ∧ RtR w' d' r ∧ Below w.heap.size w w'
theorem built_rite (la tl : Int) : Tryd.prog.built 24 [(1, .int .i64 la), (2, .int .i64 tl)] = some #[.slice none 0 0, .int .i64 la, .int .i64 tl] := by kernel_rfl
theorem copied_any (d : Rad) (r : Rit) (w : World) (hd : RtR w d r) (hz : RtZ r) :
    Calls Tryd.prog 12 #[.agg #[.slice d.A r.n d.c, .int .i64 r.last, .int .i64 r.toil]] w (CpPost w r) := by
  have HZ := hide hz
  have HD := hide hd
  have hn1 := hz.n
  obtain ⟨n, hn⟩ : ∃ n, r.n = n := ⟨_, rfl⟩
  obtain ⟨la, hla⟩ : ∃ n, r.last = n := ⟨_, rfl⟩
  obtain ⟨tl, htl⟩ : ∃ n, r.toil = n := ⟨_, rfl⟩
  have HN := hide (And.intro hn (And.intro hla htl))
  unfold CpPost
  rw [hn] at hn1
  rw [hn, hla, htl]
  have HB1 : Hid (Below w.heap.size w ((w.alloc (.cells #[.slice d.A n d.c, .int .i64 la, .int .i64 tl] 24)).alloc (.cells #[.slice none 0 0, .int .i64 0, .int .i64 0] 24))) := hide (((Below.refl _ _).alloc (Nat.le_refl _) _).alloc (by simp) _)
  have G1 : Hid (Blk ((w.alloc (.cells #[.slice d.A n d.c, .int .i64 la, .int .i64 tl] 24)).alloc (.cells #[.slice none 0 0, .int .i64 0, .int .i64 0] 24)) w.heap.size 24 #[.slice d.A n d.c, .int .i64 la, .int .i64 tl]) := hide ((Blk.new w _ _).alloc _)
  have Q1 : Hid (Blk ((w.alloc (.cells #[.slice d.A n d.c, .int .i64 la, .int .i64 tl] 24)).alloc (.cells #[.slice none 0 0, .int .i64 0, .int .i64 0] 24)) (w.heap.size + 1) 24 #[.slice none 0 0, .int .i64 0, .int .i64 0]) := hide (by simpa using Blk.new (w.alloc (.cells #[.slice d.A n d.c, .int .i64 la, .int .i64 tl] 24)) 24 #[.slice none 0 0, .int .i64 0, .int .i64 0])
  have HB0 := hide (built_rite la tl)
  clear hd hz hn hla htl
  go_enter Tryd.func12, Tryd.ntmps12
  go_upto_region 1 with fail
  have HSZ : Hid ((((w.alloc (.cells #[.slice d.A n d.c, .int .i64 la, .int .i64 tl] 24)).alloc (.cells #[.slice none 0 0, .int .i64 0, .int .i64 0] 24))).heap.size = w.heap.size + 2) := hide (by simp)
  generalize ((w.alloc (.cells #[.slice d.A n d.c, .int .i64 la, .int .i64 tl] 24)).alloc (.cells #[.slice none 0 0, .int .i64 0, .int .i64 0] 24)) = w1 at HB1 G1 Q1 HSZ ⊢
  obtain ⟨G, hG⟩ : ∃ x, w.heap.size = x := ⟨_, rfl⟩
  have HG := hide hG
  rw [hG] at G1 Q1 ⊢
  clear hG
  obtain ⟨g9, g0, g1, g2, -⟩ := blk3 G1.out
  have hb0 := HB0.out
  go_wp2_with fail
  have hb2 : Below w1.heap.size w1 (w1.alloc (.cells #[.slice none 0 0, .int .i64 la, .int .i64 tl] 24)) := (Below.refl _ _).alloc (Nat.le_refl _) _
  have HI : Hid (CpA w (w1.alloc (.cells #[.slice none 0 0, .int .i64 la, .int .i64 tl] 24)) G w1.heap.size n d r la tl 0 (.slice none 0 0) d) := hide ⟨HB1.out.trans (hb2.mono HB1.out.size), G1.out.ext hb2, Q1.out.ext hb2, Blk.new _ _ _, ⟨rfl, .inl ⟨rfl, rfl⟩⟩, fun j hj => by omega, fun j hj => by omega⟩
  have HR : Hid (G + 1 < w1.heap.size ∧ w.heap.size ≤ G) := hide ⟨by have := HSZ.out; have := HG.out; omega, Nat.le_of_eq HG.out⟩
  clear hb2 hb0 HB0 g9 g0 g1 g2 HB1 G1 Q1 HSZ HG
  generalize w1.alloc (.cells #[.slice none 0 0, .int .i64 la, .int .i64 tl] 24) = w2 at HI ⊢
  obtain ⟨R, hR⟩ : ∃ x, w1.heap.size = x := ⟨_, rfl⟩
  rw [hR] at HI HR ⊢
  clear hR
  go_loopw [4] (fun i wr => ∃ (k : Nat) (v : Value) (e : Rad), k ≤ n ∧ i = .int .i64 k ∧ Hid (CpA w wr G R n d r la tl k v e)) (fun i _ => n - (intOf i).toNat)
  case atStart => exact ⟨0, _, d, Nat.zero_le _, rfl, HI⟩
  case round =>
    obtain ⟨k, v, e, hk, rfl, HK⟩ := hrel
    clear HI
    obtain ⟨q9, q0, q1, q2, -⟩ := blk3 HK.out.kG
    have hst : IntKind.i64.wrap ((k : Int) + 1) = ((k + 1 : Nat) : Int) := by rw [IntWalk.i64_in _ (by omega)]; omega
    by_cases hlt : k < n
    · have hlt' : (k : Int) < (n : Int) := by omega
      have hkr : k < r.n := by rw [HN.out.1]; exact hlt
      obtain ⟨a, ha⟩ : ∃ x, r.ac k = x := ⟨_, rfl⟩
      have HA := hide ha
      have hnd := HZ.out.nd k hkr
      have hni := HZ.out.ins k hkr
      have HLN : Hid (∀ W, Below w.heap.size w W → LI W W.heap.size (d.na k) a.nd) := hide fun W h => by rw [← ha]; exact (ER.below (HD.out.nd k hkr) h (Nat.le_refl _)).more h.size
      have HLI : Hid (∀ W, Below w.heap.size w W → LI W W.heap.size (d.ia k) a.ins) := hide fun W h => by rw [← ha]; exact (ER.below (HD.out.ins k hkr) h (Nat.le_refl _)).more h.size
      obtain ⟨b, off, hra, hb, c0, c1, c2, c3, c4, c5, c6⟩ := HD.out.at_ hkr ha
      rw [ha] at hnd hni
      rw [hra] at q0 ⊢
      have e0 := (HK.out.lo.cell (p := ⟨b, off + k * 7, none⟩) hb).trans c0
      have e1 := (HK.out.lo.cell (p := ⟨b, off + k * 7 + 1, none⟩) hb).trans c1
      have e2 := (HK.out.lo.cell (p := ⟨b, off + k * 7 + 2, none⟩) hb).trans c2
      have e3 := (HK.out.lo.cell (p := ⟨b, off + k * 7 + 3, none⟩) hb).trans c3
      have e4 := (HK.out.lo.cell (p := ⟨b, off + k * 7 + 4, none⟩) hb).trans c4
      have e5 := (HK.out.lo.cell (p := ⟨b, off + k * 7 + 5, none⟩) hb).trans c5
      have e6 := (HK.out.lo.cell (p := ⟨b, off + k * 7 + 6, none⟩) hb).trans c6
      obtain ⟨nm, nd, ins, at_, fr, to_, ex⟩ := a
      dsimp only at e0 e1 e2 e3 e4 e5 e6 hnd hni HLN HLI
      obtain ⟨nn, hnn⟩ : ∃ x, nd.length = x := ⟨_, rfl⟩
      obtain ⟨ni, hnni⟩ : ∃ x, ins.length = x := ⟨_, rfl⟩
      have HNN := hide (And.intro hnn hnni)
      rw [hnn] at e1
      rw [hnni] at e2
      clear ha hkr hb c0 c1 c2 c3 c4 c5 c6 hnn hnni
      go_upto_region 6 with fail
      clear e0 e1 e2 e3 e4 e5 e6 q0 q1 q2 q9
      obtain ⟨na, hna⟩ : ∃ x, d.na k = x := ⟨_, rfl⟩
      obtain ⟨nc, hnc⟩ : ∃ x, d.nc k = x := ⟨_, rfl⟩
      obtain ⟨ia, hia⟩ : ∃ x, d.ia k = x := ⟨_, rfl⟩
      obtain ⟨ic, hic⟩ : ∃ x, d.ic k = x := ⟨_, rfl⟩
      rw [hna] at HLN
      rw [hia] at HLI
      rw [hna, hnc, hia, hic]
      clear hna hnc hia hic
      have KE := hide (Blk.new wr 58 #[.string nm, .slice na nn nc, .slice ia ni ic, .int .i64 at_, .int .i64 fr, .int .i64 to_, .bool ex])
      have hb1 : Below wr.heap.size wr (wr.alloc (.cells #[.string nm, .slice na nn nc, .slice ia ni ic, .int .i64 at_, .int .i64 fr, .int .i64 to_, .bool ex] 58)) := (Below.refl _ _).alloc (Nat.le_refl _) _
      have HB1 := hide hb1
      clear hb1
      obtain ⟨E, hE⟩ : ∃ x, wr.heap.size = x := ⟨_, rfl⟩
      have HE := hide hE
      rw [hE] at KE ⊢
      clear hE
      generalize wr.alloc (.cells #[.string nm, .slice na nn nc, .slice ia ni ic, .int .i64 at_, .int .i64 fr, .int .i64 to_, .bool ex] 58) = w3 at KE HB1 ⊢
      go_cut [26, 30] (fun u26 u30 w' => ∃ A1 c1 A2 c2, u26 = .slice A1 nn c1 ∧ u30 = .slice A2 ni c2 ∧ Hid (Below wr.heap.size wr w' ∧ OwnJ w' wr.heap.size (.slice A1 nn c1) nd ∧ OwnJ w' wr.heap.size (.slice A2 ni c2) ins ∧ Blk w' E 58 #[.string nm, .slice A1 nn c1, .slice A2 ni c2, .int .i64 at_, .int .i64 fr, .int .i64 to_, .bool ex]))
      case first =>
        have HBD := hide (HB1.out.trans ((Below.refl w3.heap.size w3).drew.mono HB1.out.size))
        replace KE := hide (KE.out.ext (Below.refl w3.heap.size w3).drew)
        clear HB1
        refine wp_region_K (pickS [2, 6] (fun W : World => (W.cell? ⟨E, 1, none⟩ = some (.slice na nn nc) ∧ W.cell? ⟨E, 2, none⟩ = some (.slice ia ni ic))) (fun _ => True)) (by kernel_rfl) ?_
        generalize w3.drew = wd at HBD KE ⊢
        have HC : Hid (∀ W, Below wd.heap.size wd W → (W.cell? ⟨E, 1, none⟩ = some (.slice na nn nc) ∧ W.cell? ⟨E, 2, none⟩ = some (.slice ia ni ic))) := hide fun W h => by
          have hk := KE.out.ext h
          exact ⟨by rw [hk.cell]; rfl, by rw [hk.cell]; rfl⟩
        have HLN2 : Hid (∀ W, Below wd.heap.size wd W → LI W W.heap.size na nd) := hide fun W h => HLN.out W ((HK.out.lo.trans (HBD.out.mono HK.out.lo.size)).trans (h.mono (Nat.le_trans HK.out.lo.size HBD.out.size)))
        have HLI2 : Hid (∀ W, Below wd.heap.size wd W → LI W W.heap.size ia ins) := hide fun W h => HLI.out W ((HK.out.lo.trans (HBD.out.mono HK.out.lo.size)).trans (h.mono (Nat.le_trans HK.out.lo.size HBD.out.size)))
        clear HLN HLI HK
        refine wpAnyK_take 1 (v := ?_) (by first | exact hF | exact wideFn) trivial rfl (by kernel_rfl) (by kernel_rfl) (by kernel_rfl) (by kernel_rfl) rfl ?_ (by first | exact fun _ _ _ h => h | exact fun _ _ _ h => hQ2 _ _ _ _ _ h) ?_
        rotate_left
        · intro W hSW
          replace hSW : True := hSW
          simp only [glA, glB, glC]
          (try dsimp only at hSW)
          go_simp
          with_reducible rfl
        (try simp only [glA, glB, glC, Act.put, glD, glE, glF])
        refine wpAnyK_take 2 (v := ?_) (by first | exact hF | exact wideFn) (And.intro (HC.out _ (Below.refl _ _)) trivial) rfl (by kernel_rfl) (by kernel_rfl) (by kernel_rfl) (by kernel_rfl) rfl ?_ (by first | exact fun _ _ _ h => h | exact fun _ _ _ h => hQ2 _ _ _ _ _ h) ?_
        rotate_left
        · intro W hSW
          replace hSW : (((W.cell? ⟨E, 1, none⟩ = some (.slice na nn nc) ∧ W.cell? ⟨E, 2, none⟩ = some (.slice ia ni ic))) ∧ True) := hSW
          simp only [glA, glB, glC]
          (try dsimp only at hSW)
          go_simp
          with_reducible rfl
        (try simp only [glA, glB, glC, Act.put, glD, glE, glF])
        refine wpAnyK_take 5 (v := ?_) (by first | exact hF | exact wideFn) trivial rfl (by kernel_rfl) (by kernel_rfl) (by kernel_rfl) (by kernel_rfl) rfl ?_ (by first | exact fun _ _ _ h => h | exact fun _ _ _ h => hQ2 _ _ _ _ _ h) ?_
        rotate_left
        · intro W hSW
          replace hSW : True := hSW
          simp only [glA, glB, glC]
          (try dsimp only at hSW)
          go_simp
          with_reducible rfl
        (try simp only [glA, glB, glC, Act.put, glD, glE, glF])
        refine wpAnyK_take 6 (v := ?_) (by first | exact hF | exact wideFn) (And.intro (HC.out _ (Below.refl _ _)) trivial) rfl (by kernel_rfl) (by kernel_rfl) (by kernel_rfl) (by kernel_rfl) rfl ?_ (by first | exact fun _ _ _ h => h | exact fun _ _ _ h => hQ2 _ _ _ _ _ h) ?_
        rotate_left
        · intro W hSW
          replace hSW : (((W.cell? ⟨E, 1, none⟩ = some (.slice na nn nc) ∧ W.cell? ⟨E, 2, none⟩ = some (.slice ia ni ic))) ∧ True) := hSW
          simp only [glA, glB, glC]
          (try dsimp only at hSW)
          go_simp
          with_reducible rfl
        (try simp only [glA, glB, glC, Act.put, glD, glE, glF])
        have hba : Below wd.heap.size wd (wd.alloc (.cells #[] 3)) := (Below.refl _ _).alloc (Nat.le_refl _) _
        have hl1 : nd.length ≤ 1000000 := by omega
        have hl2 : ins.length ≤ 1000000 := by omega
        refine wpAnyK_two 0 4 rfl rfl (by kernel_rfl) (fun K hK => ?_) (fun K hK => ?_)
        · simp only [glA, glB, glC]
          go_simp
          refine hK.out _ _ (.inr (pickS_all (HC.out _ hba) trivial)) ?_
          clear hK K
          (try simp only [glA, glB, glC, Act.put, glD, glE, glF])
          refine wpAnyK_two 3 4 rfl rfl (by kernel_rfl) (fun K hK => ?_) (fun K hK => ?_)
          · obtain ⟨A1, c1', wb, hr1, hb1, A2, c2', we, hr2, hb2, hbe, o1, o2⟩ := lists1 (OwnJ.made0 wd) na nc ia ic nd ins (fun W h => HLN2.out W (hba.trans h)) (fun W h => HLI2.out W (hba.trans h)) hl1 hl2 hba.size
            replace hbe := hba.trans hbe
            rw [HNN.out.1] at hr1 o1
            rw [HNN.out.2] at hr2 o2
            rw [if_pos (by rfl)]
            refine wpIn_append_run (.tmp 23) (.tmp 25) 48 wideFn rfl rfl rfl hr1 ?_
            refine hK.out _ _ (.inr (pickS_all (HC.out _ (hba.trans hb1)) trivial)) ?_
            clear hK K
            (try simp only [glA, glB, glC, Act.put, glD, glE, glF])
            refine wpAnyK_take 8 (v := ?_) (by first | exact hF | exact wideFn) trivial rfl (by kernel_rfl) (by kernel_rfl) (by kernel_rfl) (by kernel_rfl) rfl ?_ (by first | exact fun _ _ _ h => h | exact fun _ _ _ h => hQ2 _ _ _ _ _ h) ?_
            rotate_left
            · intro W hSW
              replace hSW : True := hSW
              simp only [glA, glB, glC]
              (try dsimp only at hSW)
              go_simp
              with_reducible rfl
            (try simp only [glA, glB, glC, Act.put, glD, glE, glF])
            refine wpAnyK_one 4 rfl (by kernel_rfl) (fun K hK => ?_)
            simp only [glA, glB, glC]
            go_simp
            refine hK.out _ _ (.inr (pickS_all (HC.out _ (hba.trans hb2)) trivial)) ?_
            clear hK K
            (try simp only [glA, glB, glC, Act.put, glD, glE, glF])
            refine wpAnyK_one 7 rfl (by kernel_rfl) (fun K hK => ?_)
            rw [if_pos (by rfl)]
            refine wpIn_append_run (.tmp 27) (.tmp 29) 48 wideFn rfl rfl rfl hr2 ?_
            refine hK.out _ _ (.inr (pickS_all (HC.out _ hbe) trivial)) ?_
            clear hK K
            (try simp only [glA, glB, glC, Act.put, glD, glE, glF])
            have f1 := (KE.out.ext hbe).frozen 1
            have c1 : we.cell? ⟨E, 1, none⟩ = some (.slice na nn nc) := (HC.out _ hbe).1
            refine wpAnyK_one 9 rfl (by kernel_rfl) (fun K hK => ?_)
            simp only [glA, glB, glC]
            go_simp
            refine hK.out _ _ (.inr (pickS_need (by kernel_rfl) trivial)) ?_
            clear hK K
            (try simp only [glA, glB, glC, Act.put, glD, glE, glF])
            refine wpAnyK_take 10 (v := ?_) (by first | exact hF | exact wideFn) trivial rfl (by kernel_rfl) (by kernel_rfl) (by kernel_rfl) (by kernel_rfl) rfl ?_ (by first | exact fun _ _ _ h => h | exact fun _ _ _ h => hQ2 _ _ _ _ _ h) ?_
            rotate_left
            · intro W hSW
              replace hSW : True := hSW
              simp only [glA, glB, glC]
              (try dsimp only at hSW)
              go_simp
              with_reducible rfl
            (try simp only [glA, glB, glC, Act.put, glD, glE, glF])
            clear f1 c1
            have KE2 := (KE.out.ext hbe).set_ 1 (.slice A1 nn c1')
            have f2 := KE2.frozen 2
            have c2 : (we.setCell ⟨E, 1, none⟩ (.slice A1 nn c1')).cell? ⟨E, 2, none⟩ = some (.slice ia ni ic) := by rw [KE2.cell]; rfl
            refine wpAnyK_one 11 rfl (by kernel_rfl) (fun K hK => ?_)
            simp only [glA, glB, glC]
            go_simp
            refine hK.out _ _ (.inr (pickS_need (by kernel_rfl) trivial)) ?_
            clear hK K
            (try simp only [glA, glB, glC, Act.put, glD, glE, glF])
            refine wpAnyK_done (by kernel_rfl) ?_
            clear f2 c2
            go_wp2_with fail
            go_meet
            refine ⟨A1, c1', A2, c2', rfl, rfl, hide ⟨?_, ?_, ?_, ?_⟩⟩
            · exact ((HBD.out.trans (hbe.mono HBD.out.size)).setCell (p := ⟨E, 1, none⟩) (by show wr.heap.size ≤ E; rw [HE.out]; exact Nat.le_refl _) _).setCell (p := ⟨E, 2, none⟩) (by show wr.heap.size ≤ E; rw [HE.out]; exact Nat.le_refl _) _
            · exact ownMono (ownsRow_setCell_other (ownsRow_setCell_other o1 (own_blk_ne o1 (KE.out.ext hbe) (by decide)) _) (own_blk_ne (ownsRow_setCell_other o1 (own_blk_ne o1 (KE.out.ext hbe) (by decide)) _) KE2 (by decide)) _) HBD.out.size
            · exact ownMono (ownsRow_setCell_other (ownsRow_setCell_other o2 (own_blk_ne o2 (KE.out.ext hbe) (by decide)) _) (own_blk_ne (ownsRow_setCell_other o2 (own_blk_ne o2 (KE.out.ext hbe) (by decide)) _) KE2 (by decide)) _) HBD.out.size
            · simpa using KE2.set_ 2 (.slice A2 ni c2')
          · have hbb : Below wd.heap.size wd ((wd.alloc (.cells #[] 3)).alloc (.cells #[] 3)) := hba.alloc hba.size _
            have h2 : OwnJ ((wd.alloc (.cells #[] 3)).alloc (.cells #[] 3)) wd.heap.size (.slice (some ⟨wd.heap.size + 1, 0, none⟩) 0 0) [] := by
              have h := OwnJ.made0 (wd.alloc (.cells #[] 3))
              rw [show (wd.alloc (.cells #[] 3)).heap.size = wd.heap.size + 1 by simp] at h
              exact ownMono h (Nat.le_succ _)
            obtain ⟨A1, c1', wb, hr1, hb1, A2, c2', we, hr2, hbe, o1, o2⟩ := lists2 (by omega) (World.ownsRow.alloc (OwnJ.made0 wd) (.cells #[] 3)) h2 na nc ia ic nd ins (fun W h => HLN2.out W (hbb.trans h)) (fun W h => HLI2.out W (hbb.trans h)) hl1 hl2 hbb.size
            replace hbe := hbb.trans hbe
            rw [HNN.out.1] at hr1 o1
            rw [HNN.out.2] at hr2 o2
            simp only [glA, glB, glC]
            go_simp
            refine hK.out _ _ (.inr (pickS_all (HC.out _ hbb) trivial)) ?_
            clear hK K
            (try simp only [glA, glB, glC, Act.put, glD, glE, glF])
            refine wpAnyK_one 3 rfl (by kernel_rfl) (fun K hK => ?_)
            rw [if_pos (by rfl)]
            refine wpIn_append_run (.tmp 23) (.tmp 25) 48 wideFn rfl rfl rfl hr1 ?_
            refine hK.out _ _ (.inr (pickS_all (HC.out _ (hbb.trans hb1)) trivial)) ?_
            clear hK K
            (try simp only [glA, glB, glC, Act.put, glD, glE, glF])
            refine wpAnyK_take 8 (v := ?_) (by first | exact hF | exact wideFn) trivial rfl (by kernel_rfl) (by kernel_rfl) (by kernel_rfl) (by kernel_rfl) rfl ?_ (by first | exact fun _ _ _ h => h | exact fun _ _ _ h => hQ2 _ _ _ _ _ h) ?_
            rotate_left
            · intro W hSW
              replace hSW : True := hSW
              simp only [glA, glB, glC]
              (try dsimp only at hSW)
              go_simp
              with_reducible rfl
            (try simp only [glA, glB, glC, Act.put, glD, glE, glF])
            refine wpAnyK_one 7 rfl (by kernel_rfl) (fun K hK => ?_)
            rw [if_pos (by rfl)]
            refine wpIn_append_run (.tmp 27) (.tmp 29) 48 wideFn rfl rfl rfl hr2 ?_
            refine hK.out _ _ (.inr (pickS_all (HC.out _ hbe) trivial)) ?_
            clear hK K
            (try simp only [glA, glB, glC, Act.put, glD, glE, glF])
            have f1 := (KE.out.ext hbe).frozen 1
            have c1 : we.cell? ⟨E, 1, none⟩ = some (.slice na nn nc) := (HC.out _ hbe).1
            refine wpAnyK_one 9 rfl (by kernel_rfl) (fun K hK => ?_)
            simp only [glA, glB, glC]
            go_simp
            refine hK.out _ _ (.inr (pickS_need (by kernel_rfl) trivial)) ?_
            clear hK K
            (try simp only [glA, glB, glC, Act.put, glD, glE, glF])
            refine wpAnyK_take 10 (v := ?_) (by first | exact hF | exact wideFn) trivial rfl (by kernel_rfl) (by kernel_rfl) (by kernel_rfl) (by kernel_rfl) rfl ?_ (by first | exact fun _ _ _ h => h | exact fun _ _ _ h => hQ2 _ _ _ _ _ h) ?_
            rotate_left
            · intro W hSW
              replace hSW : True := hSW
              simp only [glA, glB, glC]
              (try dsimp only at hSW)
              go_simp
              with_reducible rfl
            (try simp only [glA, glB, glC, Act.put, glD, glE, glF])
            clear f1 c1
            have KE2 := (KE.out.ext hbe).set_ 1 (.slice A1 nn c1')
            have f2 := KE2.frozen 2
            have c2 : (we.setCell ⟨E, 1, none⟩ (.slice A1 nn c1')).cell? ⟨E, 2, none⟩ = some (.slice ia ni ic) := by rw [KE2.cell]; rfl
            refine wpAnyK_one 11 rfl (by kernel_rfl) (fun K hK => ?_)
            simp only [glA, glB, glC]
            go_simp
            refine hK.out _ _ (.inr (pickS_need (by kernel_rfl) trivial)) ?_
            clear hK K
            (try simp only [glA, glB, glC, Act.put, glD, glE, glF])
            refine wpAnyK_done (by kernel_rfl) ?_
            clear f2 c2
            go_wp2_with fail
            go_meet
            refine ⟨A1, c1', A2, c2', rfl, rfl, hide ⟨?_, ?_, ?_, ?_⟩⟩
            · exact ((HBD.out.trans (hbe.mono HBD.out.size)).setCell (p := ⟨E, 1, none⟩) (by show wr.heap.size ≤ E; rw [HE.out]; exact Nat.le_refl _) _).setCell (p := ⟨E, 2, none⟩) (by show wr.heap.size ≤ E; rw [HE.out]; exact Nat.le_refl _) _
            · exact ownMono (ownsRow_setCell_other (ownsRow_setCell_other o1 (own_blk_ne o1 (KE.out.ext hbe) (by decide)) _) (own_blk_ne (ownsRow_setCell_other o1 (own_blk_ne o1 (KE.out.ext hbe) (by decide)) _) KE2 (by decide)) _) HBD.out.size
            · exact ownMono (ownsRow_setCell_other (ownsRow_setCell_other o2 (own_blk_ne o2 (KE.out.ext hbe) (by decide)) _) (own_blk_ne (ownsRow_setCell_other o2 (own_blk_ne o2 (KE.out.ext hbe) (by decide)) _) KE2 (by decide)) _) HBD.out.size
            · simpa using KE2.set_ 2 (.slice A2 ni c2')
        · have hbb : Below wd.heap.size wd ((wd.alloc (.cells #[] 3)).alloc (.cells #[] 3)) := hba.alloc hba.size _
          have h2 : OwnJ ((wd.alloc (.cells #[] 3)).alloc (.cells #[] 3)) wd.heap.size (.slice (some ⟨wd.heap.size + 1, 0, none⟩) 0 0) [] := by
              have h := OwnJ.made0 (wd.alloc (.cells #[] 3))
              rw [show (wd.alloc (.cells #[] 3)).heap.size = wd.heap.size + 1 by simp] at h
              exact ownMono h (Nat.le_succ _)
          obtain ⟨A1, c1', wb, hr1, hb1, A2, c2', we, hr2, hbe, o1, o2⟩ := lists2 (by omega) h2 (World.ownsRow.alloc (OwnJ.made0 wd) (.cells #[] 3)) na nc ia ic nd ins (fun W h => HLN2.out W (hbb.trans h)) (fun W h => HLI2.out W (hbb.trans h)) hl1 hl2 hbb.size
          replace hbe := hbb.trans hbe
          rw [HNN.out.1] at hr1 o1
          rw [HNN.out.2] at hr2 o2
          simp only [glA, glB, glC]
          go_simp
          refine hK.out _ _ (.inr (pickS_all (HC.out _ hba) trivial)) ?_
          clear hK K
          (try simp only [glA, glB, glC, Act.put, glD, glE, glF])
          refine wpAnyK_one 0 rfl (by kernel_rfl) (fun K hK => ?_)
          simp only [glA, glB, glC]
          go_simp
          refine hK.out _ _ (.inr (pickS_all (HC.out _ hbb) trivial)) ?_
          clear hK K
          (try simp only [glA, glB, glC, Act.put, glD, glE, glF])
          refine wpAnyK_one 3 rfl (by kernel_rfl) (fun K hK => ?_)
          rw [if_pos (by rfl)]
          refine wpIn_append_run (.tmp 23) (.tmp 25) 48 wideFn rfl rfl rfl hr1 ?_
          refine hK.out _ _ (.inr (pickS_all (HC.out _ (hbb.trans hb1)) trivial)) ?_
          clear hK K
          (try simp only [glA, glB, glC, Act.put, glD, glE, glF])
          refine wpAnyK_take 8 (v := ?_) (by first | exact hF | exact wideFn) trivial rfl (by kernel_rfl) (by kernel_rfl) (by kernel_rfl) (by kernel_rfl) rfl ?_ (by first | exact fun _ _ _ h => h | exact fun _ _ _ h => hQ2 _ _ _ _ _ h) ?_
          rotate_left
          · intro W hSW
            replace hSW : True := hSW
            simp only [glA, glB, glC]
            (try dsimp only at hSW)
            go_simp
            with_reducible rfl
          (try simp only [glA, glB, glC, Act.put, glD, glE, glF])
          refine wpAnyK_one 7 rfl (by kernel_rfl) (fun K hK => ?_)
          rw [if_pos (by rfl)]
          refine wpIn_append_run (.tmp 27) (.tmp 29) 48 wideFn rfl rfl rfl hr2 ?_
          refine hK.out _ _ (.inr (pickS_all (HC.out _ hbe) trivial)) ?_
          clear hK K
          (try simp only [glA, glB, glC, Act.put, glD, glE, glF])
          have f1 := (KE.out.ext hbe).frozen 1
          have c1 : we.cell? ⟨E, 1, none⟩ = some (.slice na nn nc) := (HC.out _ hbe).1
          refine wpAnyK_one 9 rfl (by kernel_rfl) (fun K hK => ?_)
          simp only [glA, glB, glC]
          go_simp
          refine hK.out _ _ (.inr (pickS_need (by kernel_rfl) trivial)) ?_
          clear hK K
          (try simp only [glA, glB, glC, Act.put, glD, glE, glF])
          refine wpAnyK_take 10 (v := ?_) (by first | exact hF | exact wideFn) trivial rfl (by kernel_rfl) (by kernel_rfl) (by kernel_rfl) (by kernel_rfl) rfl ?_ (by first | exact fun _ _ _ h => h | exact fun _ _ _ h => hQ2 _ _ _ _ _ h) ?_
          rotate_left
          · intro W hSW
            replace hSW : True := hSW
            simp only [glA, glB, glC]
            (try dsimp only at hSW)
            go_simp
            with_reducible rfl
          (try simp only [glA, glB, glC, Act.put, glD, glE, glF])
          clear f1 c1
          have KE2 := (KE.out.ext hbe).set_ 1 (.slice A1 nn c1')
          have f2 := KE2.frozen 2
          have c2 : (we.setCell ⟨E, 1, none⟩ (.slice A1 nn c1')).cell? ⟨E, 2, none⟩ = some (.slice ia ni ic) := by rw [KE2.cell]; rfl
          refine wpAnyK_one 11 rfl (by kernel_rfl) (fun K hK => ?_)
          simp only [glA, glB, glC]
          go_simp
          refine hK.out _ _ (.inr (pickS_need (by kernel_rfl) trivial)) ?_
          clear hK K
          (try simp only [glA, glB, glC, Act.put, glD, glE, glF])
          refine wpAnyK_done (by kernel_rfl) ?_
          clear f2 c2
          go_wp2_with fail
          go_meet
          refine ⟨A1, c1', A2, c2', rfl, rfl, hide ⟨?_, ?_, ?_, ?_⟩⟩
          · exact ((HBD.out.trans (hbe.mono HBD.out.size)).setCell (p := ⟨E, 1, none⟩) (by show wr.heap.size ≤ E; rw [HE.out]; exact Nat.le_refl _) _).setCell (p := ⟨E, 2, none⟩) (by show wr.heap.size ≤ E; rw [HE.out]; exact Nat.le_refl _) _
          · exact ownMono (ownsRow_setCell_other (ownsRow_setCell_other o1 (own_blk_ne o1 (KE.out.ext hbe) (by decide)) _) (own_blk_ne (ownsRow_setCell_other o1 (own_blk_ne o1 (KE.out.ext hbe) (by decide)) _) KE2 (by decide)) _) HBD.out.size
          · exact ownMono (ownsRow_setCell_other (ownsRow_setCell_other o2 (own_blk_ne o2 (KE.out.ext hbe) (by decide)) _) (own_blk_ne (ownsRow_setCell_other o2 (own_blk_ne o2 (KE.out.ext hbe) (by decide)) _) KE2 (by decide)) _) HBD.out.size
          · simpa using KE2.set_ 2 (.slice A2 ni c2')
      obtain ⟨A1, c1, A2, c2, rfl, rfl, HCU⟩ := hcut
      have HKc := hide (HK.out.ext HCU.out.1)
      obtain ⟨A', c', wf, hrun, hoa, hga⟩ := HKc.out.ow.push A1 c1 A2 c2 (by omega) HKc.out.lo.size
      rw [HA.out] at hrun hga
      unfold acL at hrun hga
      dsimp only at hrun hga
      rw [HNN.out.1, HNN.out.2] at hrun hga
      have hbc : Below wc.heap.size wc (wc.alloc (.cells #[.string nm, .slice A1 nn c1, .slice A2 ni c2, .int .i64 at_, .int .i64 fr, .int .i64 to_, .bool ex] 58)) := (Below.refl _ _).alloc (Nat.le_refl _) _
      have HKd := hide ((HKc.out.ext hbc).push (by have := HR.out; omega) HR.out.1 A1 c1 A2 c2 (by rw [HA.out]; show OwnJ _ _ (.slice A1 nd.length c1) nd; rw [HNN.out.1]; exact ownBelow (ownMono HCU.out.2.1 HK.out.lo.size) hbc) (by rw [HA.out]; show OwnJ _ _ (.slice A2 ins.length c2) ins; rw [HNN.out.2]; exact ownBelow (ownMono HCU.out.2.2.1 HK.out.lo.size) hbc) hga hoa)
      have HRUN := hide hrun
      have kRf : Blk wf R 24 #[v, .int .i64 la, .int .i64 tl] := ((HKc.out.ext hbc).kR).grown hga (fun e => own_blk_ne (HKc.out.ext hbc).ow (HKc.out.ext hbc).kR (by decide) e.symm)
      obtain ⟨VA, VC, rfl⟩ := own_shape HKc.out.ow
      obtain ⟨p9, p0, p1, p2, -⟩ := blk3 HKc.out.kR
      have k0 := HCU.out.2.2.2.cell 0
      have k1 := HCU.out.2.2.2.cell 1
      have k2 := HCU.out.2.2.2.cell 2
      have k3 := HCU.out.2.2.2.cell 3
      have k4 := HCU.out.2.2.2.cell 4
      have k5 := HCU.out.2.2.2.cell 5
      have k6 := HCU.out.2.2.2.cell 6
      replace k0 : wc.cell? ⟨E, 0, none⟩ = some (.string nm) := k0
      replace k1 : wc.cell? ⟨E, 1, none⟩ = some (.slice A1 nn c1) := k1
      replace k2 : wc.cell? ⟨E, 2, none⟩ = some (.slice A2 ni c2) := k2
      replace k3 : wc.cell? ⟨E, 3, none⟩ = some (.int .i64 at_) := k3
      replace k4 : wc.cell? ⟨E, 4, none⟩ = some (.int .i64 fr) := k4
      replace k5 : wc.cell? ⟨E, 5, none⟩ = some (.int .i64 to_) := k5
      replace k6 : wc.cell? ⟨E, 6, none⟩ = some (.bool ex) := k6
      obtain ⟨r9, r0, r1, r2, r3, r4, r5⟩ := blk3 kRf
      clear hrun hoa hga hbc HLN HLI
      go_wp2_with (at_builtin; refine wpList_append_run rfl (.tmp 34) (.tmp 36) 22 rfl rfl rfl HRUN.out ?_)
      go_roundw
      case rel => exact ⟨k + 1, _, _, by omega, by go_num, HKd⟩
      case measure => simp [intOf]; omega
    · obtain rfl : n = k := by omega
      have hnl : ¬ (n : Int) < (n : Int) := by omega
      obtain ⟨VA, VC, rfl⟩ := own_shape HK.out.ow
      obtain ⟨p9, p0, p1, p2, -⟩ := blk3 HK.out.kR
      obtain ⟨u9, u0, u1, u2, u3, u4, u5⟩ := blk3 HK.out.kO
      go_wp2_with fail
      have h3 := HK.out.kO.set3 (.slice VA n VC) (.int .i64 la) (.int .i64 tl)
      obtain ⟨-, z0, z1, z2, -⟩ := blk3 h3
      have hgs := gr_trans (gr_trans (grownBy_setC wr (G + 1) 0 (.slice VA n VC)) (grownBy_setC _ (G + 1) 1 (.int .i64 la))) (grownBy_setC _ (G + 1) 2 (.int .i64 tl))
      have hst : ∀ {x : Value} {l : List Int}, OwnJ wr w.heap.size x l → OwnJ (((wr.setCell ⟨G + 1, 0, none⟩ (.slice VA n VC)).setCell ⟨G + 1, 1, none⟩ (.int .i64 la)).setCell ⟨G + 1, 2, none⟩ (.int .i64 tl)) w.heap.size x l := fun hx => World.ownsRow.kept hx hgs (.inr (own_blk_ne hx HK.out.kO (by decide)))
      have hoa := World.ownsRow.kept HK.out.ow hgs (.inr (own_blk_ne HK.out.ow HK.out.kO (by decide)))
      obtain ⟨A', c', hA', hER, -⟩ := ER.of_own hoa (by decide)
      injection hA' with hA1 hA2 hA3
      subst hA1
      refine bodyPost_ret (v := .agg #[.slice VA n VC, .int .i64 la, .int .i64 tl]) (by
        simp [results, Tryd.results12, go_sem, z0, z1, z2]) rfl ⟨⟨VA, VC, e.na, e.nc, e.ia, e.ic⟩, rfl, ⟨?_, fun j hj => ?_, fun j hj => ?_⟩, ?_⟩
      · rw [HN.out.1]; exact hER
      · rw [HN.out.1] at hj; exact (hst (HK.out.nd j hj)).li.2
      · rw [HN.out.1] at hj; exact (hst (HK.out.ins j hj)).li.2
      · exact set3B HK.out.lo (by have := HR.out.2; omega) _ _ _
end Go.Proofs.YtcgdalabenflmaaDoor
/- Rite: the law's helper: whether what is asked is long. -/
namespace Go.Proofs.YtcgdalabenflmaaDoor
open Go Go.RowKit Go.Shelf
set_option maxHeartbeats 8000000
set_option maxRecDepth 100000
def loA (r : Rit) (k : Nat) : Bool := decide (20 < (r.ac k).nm.size) || decide (12 < (r.ac k).nd.length) || decide (12 < (r.ac k).ins.length)
def loF (r : Rit) (l : List (Int × Int)) : Bool := (List.range (min r.n 13)).any (loA r) || (decide (12 < r.n) || decide (20 < l.length))
theorem lo_yes {r : Rit} {l : List (Int × Int)} {k : Nat} (h1 : k < r.n) (h2 : k < 13) (h : loA r k = true) : loF r l = true := by
  unfold loF
  rw [List.any_eq_true.2 ⟨k, List.mem_range.2 (by omega), h⟩, Bool.true_or]
theorem lo_no {r : Rit} {l : List (Int × Int)} (h : ∀ t, t < min r.n 13 → loA r t = false) : loF r l = (decide (12 < r.n) || decide (20 < l.length)) := by
  unfold loF
  rw [show (List.range (min r.n 13)).any (loA r) = false from List.any_eq_false.2 fun t ht => by rw [h t (List.mem_range.1 ht)]; decide, Bool.false_or]
theorem long_any (d : Rad) (r : Rit) (A : Option Addr) (c : Nat) (l : List (Int × Int)) (w : World) (hd : RtR w d r) :
    Calls Tryd.prog 9 #[.agg #[.slice d.A r.n d.c, .int .i64 r.last, .int .i64 r.toil], .slice A l.length c] w fun e w' => e = .returned (.bool (loF r l)) ∧ Below w.heap.size w w' := by
  obtain ⟨n, hn⟩ : ∃ n, r.n = n := ⟨_, rfl⟩
  obtain ⟨la, hla⟩ : ∃ n, r.last = n := ⟨_, rfl⟩
  obtain ⟨tl, htl⟩ : ∃ n, r.toil = n := ⟨_, rfl⟩
  obtain ⟨ll, hll⟩ : ∃ n, l.length = n := ⟨_, rfl⟩
  obtain ⟨R, hR⟩ : ∃ R, loF r l = R := ⟨_, rfl⟩
  have HN := hide (And.intro hn hll)
  have HR := hide hR
  rw [hn, hla, htl, hll, hR]
  clear hn hla htl hll hR
  have HB1 : Hid (Below w.heap.size w (w.alloc (.cells #[.slice d.A n d.c, .int .i64 la, .int .i64 tl] 24))) := hide ((Below.refl _ _).alloc (Nat.le_refl _) _)
  have G1 := hide (Blk.new w 24 #[.slice d.A n d.c, .int .i64 la, .int .i64 tl])
  have HRT := hide (hd.ext HB1.out)
  clear hd
  go_enter Tryd.func9, Tryd.ntmps9
  go_upto_region 1 with fail
  generalize w.alloc (.cells #[.slice d.A n d.c, .int .i64 la, .int .i64 tl] 24) = w1 at HB1 G1 HRT ⊢
  generalize w.heap.size = G at G1 ⊢
  obtain ⟨g9, g0, g1, g2, -⟩ := blk3 G1.out
  go_wp2_with fail
  go_loopw [5] (fun i wr => ∃ k : Nat, k ≤ n ∧ k ≤ 13 ∧ i = .int .i64 k ∧ Hid (∀ t, t < k → loA r t = false) ∧ Hid (w1 = wr)) (fun i _ => n - (intOf i).toNat)
  case atStart => exact ⟨0, Nat.zero_le _, Nat.zero_le _, rfl, hide (fun t ht => absurd ht (by omega)), hide rfl⟩
  case round =>
    obtain ⟨k, hk, hk2, rfl, HK, HWW⟩ := hrel
    obtain rfl := HWW.out
    have hst : IntKind.i64.wrap ((k : Int) + 1) = ((k + 1 : Nat) : Int) := by rw [IntWalk.i64_in _ (by omega)]; omega
    by_cases hlt : k < n
    · have hlt' : (k : Int) < (n : Int) := by omega
      have hkn : k < r.n := by rw [HN.out.1]; exact hlt
      by_cases hk13 : k < 13
      · have hk13' : (k : Int) < 13 := by omega
        obtain ⟨a, ha⟩ : ∃ a, r.ac k = a := ⟨_, rfl⟩
        obtain ⟨nm, nd, ins, at_, fr, to_, ex⟩ := a
        have HA := hide ha
        obtain ⟨pb, po, hA, hpl, x0, x1, x2, -⟩ := HRT.out.at_ hkn ha
        dsimp only at x0 x1 x2
        rw [hA] at g0
        clear ha
        by_cases h1 : 20 < nm.size
        · have h1' : (nm.size : Int) > 20 := by omega
          rw [hA]
          have HE : Hid (R = true) := hide (by
            rw [← HR.out]
            refine lo_yes hkn hk13 ?_
            unfold loA
            rw [HA.out]
            rw [decide_eq_true h1]; rfl)
          go_wp2_with fail
          go_ret
          exact ⟨by rw [HE.out]; rfl, HB1.out⟩
        · have h1' : ¬ (nm.size : Int) > 20 := by omega
          by_cases h2 : 12 < nd.length
          · have h2' : (nd.length : Int) > 12 := by omega
            rw [hA]
            have HE : Hid (R = true) := hide (by
              rw [← HR.out]
              refine lo_yes hkn hk13 ?_
              unfold loA
              rw [HA.out]
              rw [decide_eq_true h2, Bool.or_true]; rfl)
            go_wp2_with fail
            go_ret
            exact ⟨by rw [HE.out]; rfl, HB1.out⟩
          · have h2' : ¬ (nd.length : Int) > 12 := by omega
            by_cases h3 : 12 < ins.length
            · have h3' : (ins.length : Int) > 12 := by omega
              rw [hA]
              have HE : Hid (R = true) := hide (by
                rw [← HR.out]
                refine lo_yes hkn hk13 ?_
                unfold loA
                rw [HA.out]
                rw [decide_eq_true h3, Bool.or_true])
              go_wp2_with fail
              go_ret
              exact ⟨by rw [HE.out]; rfl, HB1.out⟩
            · have h3' : ¬ (ins.length : Int) > 12 := by omega
              have HLA : Hid (loA r k = false) := hide (by
                unfold loA
                rw [HA.out, decide_eq_false h1, decide_eq_false h2, decide_eq_false h3]; rfl)
              rw [hA]
              go_wp2_with fail
              go_roundw
              case rel => exact ⟨k + 1, by omega, by omega, by go_num, hide (fun t ht => by
                by_cases e : t = k
                · rw [e]; exact HLA.out
                · exact HK.out t (by omega)), by first | exact hide rfl | exact hide trivial⟩
              case measure => simp [intOf]; omega
      · have hk13' : ¬ (k : Int) < 13 := by omega
        have hn12 : (n : Int) > 12 := by omega
        have HE : Hid (R = true) := hide (by
          rw [← HR.out]
          unfold loF
          rw [decide_eq_true (show 12 < r.n by rw [HN.out.1]; omega), Bool.true_or, Bool.or_true])
        go_wp2_with fail
        go_ret
        exact ⟨by rw [HE.out]; rfl, HB1.out⟩
    · obtain rfl : n = k := by omega
      have hnl : ¬ (n : Int) < (n : Int) := by omega
      have HLO := hide (lo_no (r := r) (l := l) (fun t ht => HK.out t (by rw [← HN.out.1]; omega)))
      by_cases h12 : 12 < n
      · have h12' : (n : Int) > 12 := by omega
        have HE : Hid (R = true) := hide (by
          rw [← HR.out, HLO.out, decide_eq_true (show 12 < r.n by rw [HN.out.1]; omega), Bool.true_or])
        go_wp2_with fail
        go_ret
        exact ⟨by rw [HE.out]; rfl, HB1.out⟩
      · have h12' : ¬ (n : Int) > 12 := by omega
        by_cases hl2 : 20 < ll
        · have hl2' : (ll : Int) > 20 := by omega
          have HE : Hid (R = true) := hide (by
            rw [← HR.out, HLO.out, decide_eq_true (show 20 < l.length by rw [HN.out.2]; omega), Bool.or_true])
          go_wp2_with fail
          go_ret
          exact ⟨by rw [HE.out]; rfl, HB1.out⟩
        · have hl2' : ¬ (ll : Int) > 20 := by omega
          have HE : Hid (R = false) := hide (by
            rw [← HR.out, HLO.out, decide_eq_false (show ¬ 12 < r.n by rw [HN.out.1]; omega), decide_eq_false (show ¬ 20 < l.length by rw [HN.out.2]; omega)]; rfl)
          go_wp2_with fail
          go_ret
          exact ⟨by rw [HE.out]; rfl, HB1.out⟩
end Go.Proofs.YtcgdalabenflmaaDoor
/- Rite: the law's helper: the fire rite. -/
namespace Go.Proofs.YtcgdalabenflmaaDoor
open Go Go.RowKit Go.Shelf
set_option maxHeartbeats 8000000
set_option maxRecDepth 100000
theorem built_act0 : Tryd.prog.built 58 [(0, .string ⟨#[107, 105, 110, 100, 108, 101]⟩), (5, .int .i64 2), (3, .int .i64 2)] = some #[.string ⟨#[107, 105, 110, 100, 108, 101]⟩, .slice none 0 0, .slice none 0 0, .int .i64 2, .int .i64 0, .int .i64 2, .bool false] := by kernel_rfl
theorem built_act1 (A : Option Addr) : Tryd.prog.built 58 [(0, .string ⟨#[111, 102, 102, 101, 114]⟩), (1, .slice A 1 1), (4, .int .i64 1), (5, .int .i64 3), (3, .int .i64 (-1))] = some #[.string ⟨#[111, 102, 102, 101, 114]⟩, .slice A 1 1, .slice none 0 0, .int .i64 (-1), .int .i64 1, .int .i64 3, .bool false] := by kernel_rfl
theorem built_act2 : Tryd.prog.built 58 [(0, .string ⟨#[97, 109, 101, 110, 100]⟩), (5, .int .i64 5), (3, .int .i64 (-1)), (6, .bool true)] = some #[.string ⟨#[97, 109, 101, 110, 100]⟩, .slice none 0 0, .slice none 0 0, .int .i64 (-1), .int .i64 0, .int .i64 5, .bool true] := by kernel_rfl
def fiA0 : Rac := ⟨⟨#[107, 105, 110, 100, 108, 101]⟩, [], [], 2, 0, 2, false⟩
def fiA1 : Rac := ⟨⟨#[111, 102, 102, 101, 114]⟩, [0], [], -1, 1, 3, false⟩
def fiA2 : Rac := ⟨⟨#[97, 109, 101, 110, 100]⟩, [], [], -1, 0, 5, true⟩
def fiR (tl : Int) : Rit := ⟨[fiA0, fiA1, fiA2], 5, tl⟩
def fiD (p : Nat) : Rad := ⟨some ⟨p + 1, 0, none⟩, 3, fun k => if k = 1 then some ⟨p, 0, none⟩ else none, fun k => if k = 1 then 1 else 0, fun _ => none, fun _ => 0⟩
theorem fire_lies {W : World} {p : Nat} (tl : Int) (h0 : Blk W p 3 #[.int .i64 0]) (h1 : Blk W (p + 1) 58 #[.string ⟨#[107, 105, 110, 100, 108, 101]⟩, .slice none 0 0, .slice none 0 0, .int .i64 2, .int .i64 0, .int .i64 2, .bool false, .string ⟨#[111, 102, 102, 101, 114]⟩, .slice (some ⟨p, 0, none⟩) 1 1, .slice none 0 0, .int .i64 (-1), .int .i64 1, .int .i64 3, .bool false, .string ⟨#[97, 109, 101, 110, 100]⟩, .slice none 0 0, .slice none 0 0, .int .i64 (-1), .int .i64 0, .int .i64 5, .bool true]) : RtR W (fiD p) (fiR tl) := by
  refine ⟨fun _ => ⟨p + 1, 0, rfl, h1.lt, fun k i hk hi => ?_⟩, fun k hk => ?_, fun k hk => ?_⟩
  · rw [h1.cell]
    have hk3 : k < 3 := hk
    rcases (by omega : k = 0 ∨ k = 1 ∨ k = 2) with rfl | rfl | rfl <;> rcases (by omega : i = 0 ∨ i = 1 ∨ i = 2 ∨ i = 3 ∨ i = 4 ∨ i = 5 ∨ i = 6) with rfl | rfl | rfl | rfl | rfl | rfl | rfl <;> rfl
  · have hk3 : k < 3 := hk
    rcases (by omega : k = 0 ∨ k = 1 ∨ k = 2) with rfl | rfl | rfl
    · exact ER.nil _ _ _ _ _
    · intro _
      refine ⟨p, 0, rfl, h0.lt, fun j i hj hi => ?_⟩
      have hj1 : j < 1 := hj
      obtain rfl : j = 0 := by omega
      obtain rfl : i = 0 := by omega
      rw [h0.cell]; rfl
    · exact ER.nil _ _ _ _ _
  · have hk3 : k < 3 := hk
    rcases (by omega : k = 0 ∨ k = 1 ∨ k = 2) with rfl | rfl | rfl <;> exact ER.nil _ _ _ _ _
theorem fire_any (tl : Int) (w : World) :
    Calls Tryd.prog 36 #[.int .i64 tl] w fun e w' => ∃ d, e = .returned (.agg #[.slice d.A (fiR tl).n d.c, .int .i64 (fiR tl).last, .int .i64 (fiR tl).toil]) ∧ RtR w' d (fiR tl) ∧ Below w.heap.size w w' := by
  have HL : ∀ p, p = w.heap.size + 1 → Hid (RtR (((w.alloc (.cells #[.slice (some ⟨w.heap.size + 1 + 1, 0, none⟩) 3 3, .int .i64 5, .int .i64 tl] 24)).alloc (.cells #[.int .i64 0] 3)).alloc (.cells #[.string ⟨#[107, 105, 110, 100, 108, 101]⟩, .slice none 0 0, .slice none 0 0, .int .i64 2, .int .i64 0, .int .i64 2, .bool false, .string ⟨#[111, 102, 102, 101, 114]⟩, .slice (some ⟨p, 0, none⟩) 1 1, .slice none 0 0, .int .i64 (-1), .int .i64 1, .int .i64 3, .bool false, .string ⟨#[97, 109, 101, 110, 100]⟩, .slice none 0 0, .slice none 0 0, .int .i64 (-1), .int .i64 0, .int .i64 5, .bool true] 58)) (fiD p) (fiR tl)) := fun p hp => hide (by
    refine fire_lies tl ?_ ?_
    · have h := (Blk.new (w.alloc (.cells #[.slice (some ⟨w.heap.size + 1 + 1, 0, none⟩) 3 3, .int .i64 5, .int .i64 tl] 24)) 3 #[.int .i64 0]).alloc (.cells #[.string ⟨#[107, 105, 110, 100, 108, 101]⟩, .slice none 0 0, .slice none 0 0, .int .i64 2, .int .i64 0, .int .i64 2, .bool false, .string ⟨#[111, 102, 102, 101, 114]⟩, .slice (some ⟨p, 0, none⟩) 1 1, .slice none 0 0, .int .i64 (-1), .int .i64 1, .int .i64 3, .bool false, .string ⟨#[97, 109, 101, 110, 100]⟩, .slice none 0 0, .slice none 0 0, .int .i64 (-1), .int .i64 0, .int .i64 5, .bool true] 58)
      rw [World.size_alloc, hp] at h
      rw [hp]
      exact h
    · have h := Blk.new ((w.alloc (.cells #[.slice (some ⟨w.heap.size + 1 + 1, 0, none⟩) 3 3, .int .i64 5, .int .i64 tl] 24)).alloc (.cells #[.int .i64 0] 3)) 58 #[.string ⟨#[107, 105, 110, 100, 108, 101]⟩, .slice none 0 0, .slice none 0 0, .int .i64 2, .int .i64 0, .int .i64 2, .bool false, .string ⟨#[111, 102, 102, 101, 114]⟩, .slice (some ⟨p, 0, none⟩) 1 1, .slice none 0 0, .int .i64 (-1), .int .i64 1, .int .i64 3, .bool false, .string ⟨#[97, 109, 101, 110, 100]⟩, .slice none 0 0, .slice none 0 0, .int .i64 (-1), .int .i64 0, .int .i64 5, .bool true]
      rw [World.size_alloc, World.size_alloc, hp] at h
      rw [hp]
      exact h)
  have HL2 := hide (HL _ rfl).out
  clear HL
  go_enter Tryd.func36, Tryd.ntmps36
  go_upto_region 1 with fail
  have b0 := built_act0
  have b1 := fun A => built_act1 A
  have b2 := built_act2
  go_wp2_with fail
  clear b0 b1 b2
  have hK := hide (((Blk.new w 24 #[.slice (some ⟨w.heap.size + 1 + 1, 0, none⟩) 3 3, .int .i64 5, .int .i64 tl]).alloc (.cells #[.int .i64 0] 3)).alloc (.cells #[.string ⟨#[107, 105, 110, 100, 108, 101]⟩, .slice none 0 0, .slice none 0 0, .int .i64 2, .int .i64 0, .int .i64 2, .bool false, .string ⟨#[111, 102, 102, 101, 114]⟩, .slice (some ⟨w.heap.size + 1, 0, none⟩) 1 1, .slice none 0 0, .int .i64 (-1), .int .i64 1, .int .i64 3, .bool false, .string ⟨#[97, 109, 101, 110, 100]⟩, .slice none 0 0, .slice none 0 0, .int .i64 (-1), .int .i64 0, .int .i64 5, .bool true] 58))
  have hb : Hid (Below w.heap.size w (((w.alloc (.cells #[.slice (some ⟨w.heap.size + 1 + 1, 0, none⟩) 3 3, .int .i64 5, .int .i64 tl] 24)).alloc (.cells #[.int .i64 0] 3)).alloc (.cells #[.string ⟨#[107, 105, 110, 100, 108, 101]⟩, .slice none 0 0, .slice none 0 0, .int .i64 2, .int .i64 0, .int .i64 2, .bool false, .string ⟨#[111, 102, 102, 101, 114]⟩, .slice (some ⟨w.heap.size + 1, 0, none⟩) 1 1, .slice none 0 0, .int .i64 (-1), .int .i64 1, .int .i64 3, .bool false, .string ⟨#[97, 109, 101, 110, 100]⟩, .slice none 0 0, .slice none 0 0, .int .i64 (-1), .int .i64 0, .int .i64 5, .bool true] 58))) := hide ((((Below.refl _ _).alloc (Nat.le_refl _) _).alloc (by simp) _).alloc (by simp only [World.size_alloc]; omega) _)
  generalize (((w.alloc (.cells #[.slice (some ⟨w.heap.size + 1 + 1, 0, none⟩) 3 3, .int .i64 5, .int .i64 tl] 24)).alloc (.cells #[.int .i64 0] 3)).alloc (.cells #[.string ⟨#[107, 105, 110, 100, 108, 101]⟩, .slice none 0 0, .slice none 0 0, .int .i64 2, .int .i64 0, .int .i64 2, .bool false, .string ⟨#[111, 102, 102, 101, 114]⟩, .slice (some ⟨w.heap.size + 1, 0, none⟩) 1 1, .slice none 0 0, .int .i64 (-1), .int .i64 1, .int .i64 3, .bool false, .string ⟨#[97, 109, 101, 110, 100]⟩, .slice none 0 0, .slice none 0 0, .int .i64 (-1), .int .i64 0, .int .i64 5, .bool true] 58)) = wz at hK hb HL2 ⊢
  obtain ⟨-, z0, z1, z2, -⟩ := blk3 hK.out
  refine bodyPost_ret (v := .agg #[.slice (some ⟨w.heap.size + 1 + 1, 0, none⟩) 3 3, .int .i64 5, .int .i64 tl]) (by simp [results, Tryd.results36, go_sem, z0, z1, z2]) rfl ⟨fiD (w.heap.size + 1), rfl, HL2.out, hb.out⟩
end Go.Proofs.YtcgdalabenflmaaDoor
/- Rite: Repair, Latest, walked. -/
namespace Go.Proofs.YtcgdalabenflmaaDoor
open Go Go.RowKit Go.Shelf
set_option maxHeartbeats 8000000
set_option maxRecDepth 100000
theorem fol_ok {r : Rit} (hr : RiOk r) : ∀ (l : List (Int × Int)) (m : Mom) (i : Nat), MoOk r m → MoOk r (folF r m l i).1
  | [], m, _, h => h
  | x :: l, m, i, h => by
    unfold folF
    split
    · exact h
    · rename_i hx
      have h0 := h.d0
      have h1 := h.on hr (day := x.1) (by omega) (by omega)
      split
      · exact h1
      · rename_i hb
        have hb : brF r (m.on x.1).d (m.on x.1).day (m.on x.1).de x.2 = 0 := Classical.not_not.1 hb
        have h2 := br_range hb
        refine fol_ok hr l _ _ (h1.wi hr ?_)
        rw [Int.toNat_of_nonneg h2.1]
        exact hb
theorem m0_ok {r : Rit} (hr : RiOk r) : MoOk r m0 := ⟨by decide, Int.le_refl _, hr.l0, Int.le_refl _, by have := hr.t1; show (0 : Int) ≤ r.toil; omega⟩
theorem frC_mo {r : Rit} {l : List (Int × Int)} {day : Int} (hr : RiOk r) (h : frC r l day = 0) : MoOk r ((folF r m0 l 0).1.on day) := by
  have h1 := fol_ok hr l m0 0 (m0_ok hr)
  have h0 := h1.d0
  unfold frC at h
  split at h
  · split at h
    · rename_i h3; exact h1.on hr (by omega) h3.2
    · cases h
  · rename_i h2; exact absurd h h2
def RprPost (w : World) (r : Rit) (l : List (Int × Int)) (day : Int) (e : Ending) (w' : World) : Prop :=
  (frC r l day ≠ 0 ∧ e = .returned (.tuple #[.slice none 0 0, .int .i64 (frC r l day)]) ∨ frC r l day = 0 ∧ riB r = true ∧
    (fwN r ((folF r m0 l 0).1.on day) = 11 ∧ e = .returned (.tuple #[.slice none 0 0, .int .i64 7]) ∨
     fwN r ((folF r m0 l 0).1.on day) < 11 ∧ ∃ v, e = .returned (.tuple #[v, .int .i64 0]) ∧ OwnD w' w.heap.size v (rpL r ((folF r m0 l 0).1.on day) (fwN r ((folF r m0 l 0).1.on day))))) ∧ Below w.heap.size w w'
theorem repair_rite (d : Rad) (r : Rit) (A : Option Addr) (c : Nat) (l : List (Int × Int)) (day : Int) (w : World) (hd : RtR w d r) (hz : RtZ r) (hl : l.length ≤ 1000000) (hD : DsR w A l) (hT : TB w) :
    Calls Tryd.prog 11 #[.agg #[.slice d.A r.n d.c, .int .i64 r.last, .int .i64 r.toil], .slice A l.length c, .int .i64 day] w (RprPost w r l day) := by
  have HTB := hide hT
  have HB1 : Hid (Below w.heap.size w (w.alloc (.cells #[.slice d.A r.n d.c, .int .i64 r.last, .int .i64 r.toil] 24))) := hide ((Below.refl _ _).alloc (Nat.le_refl _) _)
  have G1 := hide (Blk.new w 24 #[.slice d.A r.n d.c, .int .i64 r.last, .int .i64 r.toil])
  have HRT := hide (hd.ext HB1.out)
  have HD := hide (hD.ext HB1.out)
  have HO := hide (from_any d r A c l day _ HRT.out hz hl HD.out)
  have HFM : Hid (riB r = true → frC r l day = 0 → MoOk r ((folF r m0 l 0).1.on day)) := hide fun h1 h2 => frC_mo (riB_ok h1) h2
  clear hd hz hD hl hT
  obtain ⟨ec, hec⟩ : ∃ x, frC r l day = x := ⟨_, rfl⟩
  have HEC := hide hec
  unfold RprPost
  unfold FromPost at HO
  rw [hec] at HFM HO ⊢
  clear hec
  obtain ⟨mo, hmo⟩ : ∃ x, (folF r m0 l 0).1.on day = x := ⟨_, rfl⟩
  rw [hmo] at HFM HO ⊢
  clear hmo
  have HRE := hide (fun fb b mp q W (h1 : riB r = true) (h2 : MoOk r mo) (h : FwR W fb b mp d q r) => repair_any fb b mp d q r (riB_ok h1) mo h2 W h)
  unfold RepPost at HRE
  obtain ⟨v0, hv0⟩ : ∃ x, fwN r mo = x := ⟨_, rfl⟩
  rw [hv0] at HRE ⊢
  obtain ⟨L, hL⟩ : ∃ x, rpL r mo v0 = x := ⟨_, rfl⟩
  rw [hL] at HRE ⊢
  clear hv0 hL
  obtain ⟨oD, oday, ode⟩ := mo
  unfold momV at HRE HO
  dsimp only at HRE HO
  go_enter Tryd.func11, Tryd.ntmps11
  go_upto_region 1 with fail
  generalize w.alloc (.cells #[.slice d.A r.n d.c, .int .i64 r.last, .int .i64 r.toil] 24) = w1 at HB1 G1 HO HD HRT ⊢
  have hGl := HB1.out.size
  obtain ⟨G, hG⟩ : ∃ x, w.heap.size = x := ⟨_, rfl⟩
  rw [hG] at G1 ⊢
  clear hG hGl
  obtain ⟨g9, g0, g1, g2, -⟩ := blk3 G1.out
  go_wp2_with fail
  refine HO.out.mono ?_
  rintro e w2 ⟨⟨hc, v, ⟨mD, mday, mde⟩, rfl⟩ | ⟨hc, hb, b, ad, rfl, hB⟩, hbl⟩
  · have HBL := hide (HB1.out.trans (hbl.mono HB1.out.size))
    have HCH := hide hc
    have hb4 : Below w2.heap.size w2 (w2.alloc (.cells #[.int .u16 (mD : Nat), .int .i64 mday, .int .i64 mde] 77)) := (Below.refl _ _).alloc (Nat.le_refl _) _
    replace HBL := hide (HBL.out.trans (hb4.mono HBL.out.size))
    have e2 : (ec != 0) = true := by rw [bne_iff_ne]; exact HCH.out
    clear hc hbl g9 g0 g1 g2 HO HD hb4
    go_wp2_with fail
    go_ret2
    exact ⟨.inl ⟨HCH.out, rfl⟩, HBL.out⟩
  · obtain rfl := hc
    have HBL := hide (HB1.out.trans (hbl.mono HB1.out.size))
    have HRB := hide hb
    have HMO := hide (HFM.out hb rfl)
    have HR2 := hide (fun fb mp q W h => HRE.out fb b mp q W hb HMO.out h)
    clear HFM HRE
    have hb4 : Below w2.heap.size w2 (w2.alloc (.cells #[.int .u16 (oD : Nat), .int .i64 oday, .int .i64 ode] 77)) := (Below.refl _ _).alloc (Nat.le_refl _) _
    have Q3 := hide (Blk.new w2 77 #[.int .u16 (oD : Nat), .int .i64 oday, .int .i64 ode])
    have HBK := hide ((hB.ext hb4).book HRT.out)
    replace HBL := hide (HBL.out.trans (hb4.mono HBL.out.size))
    clear hbl hb hB g9 g0 g1 g2 HO HD hb4
    have hmm := @run_makeMap Tryd.prog
    go_upto_region 5 with fail
    obtain ⟨w4, hw4⟩ : ∃ x, w2.alloc (.cells #[.int .u16 (oD : Nat), .int .i64 oday, .int .i64 ode] 77) = x := ⟨_, rfl⟩
    have hs4 : w4.heap.size = w2.heap.size + 1 := by rw [← hw4]; simp
    rw [hw4] at HBK HBL Q3 ⊢
    clear hw4 hmm
    obtain ⟨M, hM⟩ : ∃ x, w2.heap.size = x := ⟨_, rfl⟩
    rw [hM] at Q3 hs4 ⊢
    have HM := hide hM
    clear hM
    have hb5 : Below w4.heap.size w4 ((w4.alloc (.map #[] 0)).alloc (.cells #[.pointer (some ⟨b, 0, none⟩), .map (some (M + 1))] 83)) := ((Below.refl _ _).alloc (Nat.le_refl _) _).alloc (by simp) _
    have FB : Blk ((w4.alloc (.map #[] 0)).alloc (.cells #[.pointer (some ⟨b, 0, none⟩), .map (some (M + 1))] 83)) (M + 1 + 1) 83 #[.pointer (some ⟨b, 0, none⟩), .map (some (M + 1))] := by
      have h := Blk.new (w4.alloc (.map #[] 0)) 83 #[.pointer (some ⟨b, 0, none⟩), .map (some (M + 1))]
      rw [World.size_alloc, hs4] at h
      exact h
    have FM : FmAt ((w4.alloc (.map #[] 0)).alloc (.cells #[.pointer (some ⟨b, 0, none⟩), .map (some (M + 1))] 83)) (M + 1) r := by
      have h := (FmAt.made w4 r).ext ((Below.refl (w4.alloc (.map #[] 0)).heap.size _).alloc (Nat.le_refl _) (.cells #[.pointer (some ⟨b, 0, none⟩), .map (some (M + 1))] 83))
      rw [hs4] at h
      exact h
    replace HBK := hide (HBK.out.ext hb5)
    replace Q3 := hide (Q3.out.ext hb5)
    have HLO : Hid (w.heap.size ≤ M + 1) := hide (by have := HBL.out.size; omega)
    replace HBL := hide (HBL.out.trans (hb5.mono HBL.out.size))
    have HFW := hide (HR2.out (M + 1 + 1) (M + 1) _ _ ⟨HBK.out, FB, FM, HTB.out.ext HBL.out⟩)
    clear hs4 hb5 FB FM HR2
    generalize ((w4.alloc (.map #[] 0)).alloc (.cells #[.pointer (some ⟨b, 0, none⟩), .map (some (M + 1))] 83)) = w6 at HBK Q3 HBL HFW ⊢
    obtain ⟨x9, y0, y1, y2, -⟩ := blk3 Q3.out
    go_wp2_with fail
    refine HFW.out.mono ?_
    rintro e w7 ⟨⟨hv, rfl⟩ | ⟨hv, v, rfl, ho⟩, h7, g7⟩
    · have HV := hide hv
      have HBL7 := hide (gr_low HBL.out HBL.out.size g7 HLO.out)
      clear hv x9 y0 y1 y2 h7 g7
      go_wp2_with fail
      go_ret2
      exact ⟨⟨HRB.out, .inl ⟨HV.out, rfl⟩⟩, HBL7.out⟩
    · have HV := hide hv
      have HO := hide ho
      have HBL7 := hide (gr_low HBL.out HBL.out.size g7 HLO.out)
      clear hv x9 y0 y1 y2 h7 g7 ho
      go_wp2_with fail
      go_ret2
      exact ⟨⟨HRB.out, .inr ⟨HV.out, _, rfl, ownMono HO.out HBL.out.size⟩⟩, HBL7.out⟩
end Go.Proofs.YtcgdalabenflmaaDoor
