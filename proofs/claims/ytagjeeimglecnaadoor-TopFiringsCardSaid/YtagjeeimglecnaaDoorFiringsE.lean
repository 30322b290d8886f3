/- Rite: open, walked: the sizes; the book made. -/
import Derived.Test.YtagjeeimglecnaaDoorFiringsD
set_option linter.unusedSimpArgs false
set_option linter.unusedVariables false
set_option linter.unnecessarySimpa false
namespace Go.Proofs.YtagjeeimglecnaaDoor
open List renaming getElem_toArray → glA, getElem_cons_zero → glB, getElem_cons_succ → glC, setIfInBounds_toArray → glD, set_cons_zero → glE, set_cons_succ → glF
open Go Go.RowKit Go.Shelf
set_option maxHeartbeats 40000000
set_option maxRecDepth 100000
theorem info_set : (Tryd.prog.info? 86).map (fun i => (i.zero, i.size, i.bytes)) = some (some (.int .u16 0), 1, 2) := by kernel_rfl
theorem rowV_sets (n : Nat) : madeCells (Value.int .u16 0).cells (n * 1) = rowV n (fun _ => .int .u16 0) := by
  apply Array.ext_getElem?
  intro j
  simp only [rowV, madeCells, Array.getElem?_map, Array.getElem?_range, List.getElem?_toArray, List.getElem?_map, Nat.mul_one]
  by_cases hj : j < n
  · simp [hj, Value.cells, Nat.mod_one]
  · simp [hj]
/-- sizes of a rite that are looked at -/
structure RtZ (r : Rit) : Prop where
  n : r.n ≤ 1000
  nm : ∀ k, k < r.n → (r.ac k).nm.size ≤ 1000
  nd : ∀ k, k < r.n → (r.ac k).nd.length ≤ 1000
  ins : ∀ k, k < r.n → (r.ac k).ins.length ≤ 1000
theorem wth_no {a x b : Int} (h : ¬ (a ≤ x ∧ x ≤ b)) : (decide (a ≤ x) && decide (x ≤ b)) = false := by
  rw [← Bool.not_eq_true, Bool.and_eq_true, decide_eq_true_iff, decide_eq_true_iff]
  exact h
theorem wth_yes {a x b : Int} (h : a ≤ x ∧ x ≤ b) : (decide (a ≤ x) && decide (x ≤ b)) = true := by
  rw [Bool.and_eq_true, decide_eq_true_iff, decide_eq_true_iff]
  exact h
theorem ri_ac {r : Rit} {k : Nat} (hk : k < r.n) (h : acB r k = false) : riB r = false := by
  rw [← Bool.not_eq_true]
  intro h2
  have := (riB_ok h2).ac k hk
  rw [h] at this
  cases this
theorem ri_ki {r : Rit} {k : Nat} (hk : k < r.n) (h : kiB r k = false) : riB r = false := by
  rw [← Bool.not_eq_true]
  intro h2
  have := (riB_ok h2).ki k hk
  rw [h] at this
  cases this
theorem ac_split {r : Rit} {k : Nat} {nm : Wd} {nd ins : List Int} {at_ fr to_ : Int} {ex : Bool} (ha : r.ac k = ⟨nm, nd, ins, at_, fr, to_, ex⟩) :
    acB r k = true ↔ wordB nm = true ∧ ((List.range k).any fun t => decide ((r.ac t).nm = nm)) = false ∧ isLF k r.n (-1) nd = true ∧ isLF k r.n (-1) ins = true ∧ (-1 ≤ at_ ∧ at_ ≤ (r.n : Int) - 1) ∧ at_ ≠ (k : Int) ∧ 0 ≤ fr ∧ fr ≤ to_ ∧ to_ ≤ r.last := by
  unfold acB
  rw [ha]
  simp only [Bool.and_eq_true, decide_eq_true_eq]
  have e : ((List.range k).all fun t => decide ((r.ac t).nm ≠ nm)) = true ↔ ((List.range k).any fun t => decide ((r.ac t).nm = nm)) = false := by
    rw [List.all_eq_true, List.any_eq_false]
    simp
  rw [e]
  constructor
  · rintro ⟨⟨⟨⟨⟨⟨h1, h2⟩, h3⟩, h4⟩, h5⟩, h6⟩, h7⟩
    exact ⟨h1, h2, h3, h4, h5, h6, h7⟩
  · rintro ⟨h1, h2, h3, h4, h5, h6, h7⟩
    exact ⟨⟨⟨⟨⟨⟨h1, h2⟩, h3⟩, h4⟩, h5⟩, h6⟩, h7⟩
def OpenPost (w : World) (d : Rad) (r : Rit) (e : Ending) (w' : World) : Prop :=
  (riB r = false ∧ e = .returned (.tuple #[.pointer none, .bool false]) ∨ riB r = true ∧ ∃ b ad, e = .returned (.tuple #[.pointer (some ⟨b, 0, none⟩), .bool true]) ∧ OpI w w' d r b ad (opF r r.n) (opM r r.n)) ∧ Below w.heap.size w w'
theorem built_book (A : Option Addr) (n c : Nat) (la tl : Int) (p0 p1 p2 p3 : Option Addr) :
    Tryd.prog.built 133 [(0, .agg #[.slice A n c, .int .i64 la, .int .i64 tl]), (1, .slice p0 n n), (2, .slice p1 n n), (3, .slice p2 n n), (4, .slice p3 n n)] = some #[.slice A n c, .int .i64 la, .int .i64 tl, .slice p0 n n, .slice p1 n n, .slice p2 n n, .slice p3 n n, .int .u16 0] := by kernel_rfl
theorem open_any (d : Rad) (r : Rit) (w : World) (hd : RtR w d r) (hz : RtZ r) :
    Calls Tryd.prog 22 #[.agg #[.slice d.A r.n d.c, .int .i64 r.last, .int .i64 r.toil]] w (OpenPost w d r) := by
  have hn1 := hz.n
  have HZ := hide hz
  obtain ⟨n, hn⟩ : ∃ n, r.n = n := ⟨_, rfl⟩
  obtain ⟨la, hla⟩ : ∃ n, r.last = n := ⟨_, rfl⟩
  obtain ⟨tl, htl⟩ : ∃ n, r.toil = n := ⟨_, rfl⟩
  have HN := hide (And.intro hn (And.intro hla htl))
  rw [hn] at hn1
  rw [hn, hla, htl]
  clear hz hn hla htl
  have HB1 : Hid (Below w.heap.size w (w.alloc (.cells #[.slice d.A n d.c, .int .i64 la, .int .i64 tl] 28))) := hide ((Below.refl _ _).alloc (Nat.le_refl _) _)
  have G1 := hide (Blk.new w 28 #[.slice d.A n d.c, .int .i64 la, .int .i64 tl])
  have HRT := hide (hd.ext HB1.out)
  have HW := hide (fun (a x y : Int) W => rwithin_any a x y W)
  obtain ⟨i0, hi, hz0, hz1, hz2⟩ := info_parts info_set
  have gl := fun W => run_make_rowN (P := Tryd.prog) 131 86 i0 _ Tryd.underlying131 hi hz0 .i64 .i64 n n (Nat.le_refl _) (by rw [hz2]; omega) (by omega) W
  rw [hz1, rowV_sets] at gl
  have GL := hide gl
  have HR : Hid (OpenPost w d r = OpenPost w d r) := hide rfl
  clear hd hi hz0 hz1 hz2 gl
  go_enter Tryd.func22, Tryd.ntmps22
  go_upto_region 1 with fail
  generalize w.alloc (.cells #[.slice d.A n d.c, .int .i64 la, .int .i64 tl] 28) = w1 at HB1 G1 HRT ⊢
  generalize w.heap.size = G at G1 ⊢
  obtain ⟨g9, g0, g1, g2, -⟩ := blk3 G1.out
  -- sizes
  cases hs : szB r with
  | false =>
    have HF : Hid (riB r = false) := hide (by unfold riB; rw [hs]; rfl)
    unfold szB at hs
    rw [HN.out.1, HN.out.2.1, HN.out.2.2] at hs
    by_cases h1 : 1 ≤ n ∧ n ≤ 10
    · by_cases h2 : 0 ≤ la ∧ la ≤ 30
      · have h3 : ¬ (1 ≤ tl ∧ tl ≤ 4) := fun h => by
          rw [decide_eq_true h1, decide_eq_true h2, decide_eq_true h] at hs; cases hs
        have HW1 := hide (HW.out n 1 10)
        have HW2 := hide (HW.out la 0 30)
        have HW3 := hide (HW.out tl 1 4)
        rw [show (decide ((1 : Int) ≤ (n : Int)) && decide ((n : Int) ≤ 10)) = true from by rw [decide_eq_true (by omega), decide_eq_true (by omega)]; rfl] at HW1
        rw [show (decide ((0 : Int) ≤ la) && decide (la ≤ 30)) = true from by rw [decide_eq_true (by omega), decide_eq_true (by omega)]; rfl] at HW2
        rw [show (decide ((1 : Int) ≤ tl) && decide (tl ≤ 4)) = false from wth_no (by omega)] at HW3
        clear h1 h2 h3 hs
        go_wp2_with fail
        refine (HW1.out _).mono ?_
        rintro e w2 ⟨rfl, rfl⟩
        go_wp2_with fail
        refine (HW2.out _).mono ?_
        rintro e w2 ⟨rfl, rfl⟩
        go_wp2_with fail
        refine (HW3.out _).mono ?_
        rintro e w2 ⟨rfl, rfl⟩
        go_wp2_with fail
        go_ret2
        exact ⟨.inl ⟨HF.out, rfl⟩, HB1.out⟩
      · have HW1 := hide (HW.out n 1 10)
        have HW2 := hide (HW.out la 0 30)
        rw [show (decide ((1 : Int) ≤ (n : Int)) && decide ((n : Int) ≤ 10)) = true from by rw [decide_eq_true (by omega), decide_eq_true (by omega)]; rfl] at HW1
        rw [show (decide ((0 : Int) ≤ la) && decide (la ≤ 30)) = false from wth_no h2] at HW2
        clear h1 h2 hs
        go_wp2_with fail
        refine (HW1.out _).mono ?_
        rintro e w2 ⟨rfl, rfl⟩
        go_wp2_with fail
        refine (HW2.out _).mono ?_
        rintro e w2 ⟨rfl, rfl⟩
        go_wp2_with fail
        go_ret2
        exact ⟨.inl ⟨HF.out, rfl⟩, HB1.out⟩
    · have HW1 := hide (HW.out n 1 10)
      rw [show (decide ((1 : Int) ≤ (n : Int)) && decide ((n : Int) ≤ 10)) = false from wth_no (by omega)] at HW1
      clear h1 hs
      go_wp2_with fail
      refine (HW1.out _).mono ?_
      rintro e w2 ⟨rfl, rfl⟩
      go_wp2_with fail
      go_ret2
      exact ⟨.inl ⟨HF.out, rfl⟩, HB1.out⟩
  | true =>
  have hs2 : (1 ≤ n ∧ n ≤ 10) ∧ (0 ≤ la ∧ la ≤ 30) ∧ (1 ≤ tl ∧ tl ≤ 4) := by
    unfold szB at hs
    rw [HN.out.1, HN.out.2.1, HN.out.2.2] at hs
    simp only [Bool.and_eq_true, decide_eq_true_eq] at hs
    exact ⟨hs.1.1, hs.1.2, hs.2⟩
  have HSZ := hide (And.intro hs hs2)
  clear hs
  have HW1 := hide (HW.out n 1 10)
  have HW2 := hide (HW.out la 0 30)
  have HW3 := hide (HW.out tl 1 4)
  rw [show (decide ((1 : Int) ≤ (n : Int)) && decide ((n : Int) ≤ 10)) = true from by rw [decide_eq_true (by omega), decide_eq_true (by omega)]; rfl] at HW1
  rw [show (decide ((0 : Int) ≤ la) && decide (la ≤ 30)) = true from by rw [decide_eq_true (by omega), decide_eq_true (by omega)]; rfl] at HW2
  rw [show (decide ((1 : Int) ≤ tl) && decide (tl ≤ 4)) = true from by rw [decide_eq_true (by omega), decide_eq_true (by omega)]; rfl] at HW3
  clear hs2
  go_wp2_with fail
  refine (HW1.out _).mono ?_
  rintro e w2 ⟨rfl, rfl⟩
  go_wp2_with fail
  refine (HW2.out _).mono ?_
  rintro e w2 ⟨rfl, rfl⟩
  go_wp2_with fail
  refine (HW3.out _).mono ?_
  rintro e w2 ⟨rfl, rfl⟩
  go_upto_region 4 with fail
  clear HW1 HW2 HW3 g0 g1 g2 g9
  go_cut [5] (fun p5 w' => ∃ b ad, p5 = .pointer (some ⟨b, 0, none⟩) ∧ Hid (OpI w1 w' d r b ad (fun _ _ => 0) 0))
  case first =>
   as_aux_lemma =>
    -- BEGIN1
    have HM : Hid (Below w1.heap.size w1 w1.drew) := hide (Below.refl w1.heap.size w1).drew
    have HS4 : Hid (∀ W, Below w1.drew.heap.size w1.drew W → (W.cell? ⟨G, 0, none⟩ = some (.slice d.A n d.c) ∧ W.cell? ⟨G, 1, none⟩ = some (.int .i64 la) ∧ W.cell? ⟨G, 2, none⟩ = some (.int .i64 tl))) := hide fun W h => by
      obtain ⟨-, q0, q1, q2, -⟩ := blk3 (G1.out.ext (HM.out.trans (h.mono HM.out.size)))
      exact ⟨q0, q1, q2⟩
    refine wp_region_J (fun W : World => (W.cell? ⟨G, 0, none⟩ = some (.slice d.A n d.c) ∧ W.cell? ⟨G, 1, none⟩ = some (.int .i64 la) ∧ W.cell? ⟨G, 2, none⟩ = some (.int .i64 tl))) (by kernel_rfl) ?_
    obtain ⟨wL0, hwm⟩ : ∃ x, w1.drew = x := ⟨_, rfl⟩
    rw [hwm] at HM HS4 ⊢
    clear hwm
    have BL0 := hide (Below.refl wL0.heap.size wL0)
    obtain ⟨lo, HLO⟩ : ∃ lo, Hid (lo = wL0.heap.size) := ⟨_, hide rfl⟩
    refine tk_start [0, 1, 3, 5, 7] ?_
    iterate 5
      refine tk_one (v := ?_) (by first | exact hF | exact wideFn) (HS4.out _ BL0.out) rfl (by kernel_rfl) (by kernel_rfl) (by kernel_rfl) (by kernel_rfl) rfl ?_ (by first | exact fun _ _ _ h => h | exact fun _ _ _ h => hQ2 _ _ _ _ _ h) ?_
      rotate_left
      · intro W hSW
        simp only [glA, glB, glC]
        (try dsimp only at hSW)
        go_simp
        with_reducible rfl
      (try simp only [glA, glB, glC, Act.put, glD, glE, glF])
    refine tk_end ?_
    have gl := GL.out
    have gn0 : (0 : Int) ≤ (n : Int) := by omega
    refine wpAnyJ_list [2, 4, 6, 8] (by kernel_rfl) (by decide) (fun i hi => ?_)
    rcases (by simpa using hi : i = 2 ∨ i = 4 ∨ i = 6 ∨ i = 8) with rfl | rfl | rfl | rfl
    · refine ⟨_, rfl, fun K hK => ?_⟩
      have BL1 := hide (BL0.out.alloc BL0.out.size (.cells (rowV n fun _ => .int .u16 0) 86))
      have hb : Below wL0.heap.size wL0 (wL0.alloc (.cells (rowV n fun _ => .int .u16 0) 86)) := (Below.refl _ _).alloc (Nat.le_refl _) _
      have HL2 : Hid (lo ≤ wL0.heap.size) := hide (by rw [HLO.out]; exact BL0.out.size)
      (try have NE24 : Hid (wL0.heap.size ≠ a4) := hide (by have := K4.out.lt; omega))
      (try have NE26 : Hid (wL0.heap.size ≠ a6) := hide (by have := K6.out.lt; omega))
      (try have NE28 : Hid (wL0.heap.size ≠ a8) := hide (by have := K8.out.lt; omega))
      (try replace K4 := hide (K4.out.ext hb))
      (try replace K6 := hide (K6.out.ext hb))
      (try replace K8 := hide (K8.out.ext hb))
      have K2 := hide (Blk.new wL0 86 (rowV n fun _ => .int .u16 0))
      clear hb
      simp only [glA, glB, glC]
      go_simp
      refine hK.out _ _ (fun _ => HS4.out _ BL1.out) ?_
      clear hK K
      (try simp only [glA, glB, glC, Act.put, glD, glE, glF])
      obtain ⟨a2, hT⟩ : ∃ x, wL0.heap.size = x := ⟨_, rfl⟩
      rw [hT] at K2 HL2 ⊢
      (try rw [hT] at NE24)
      (try rw [hT] at NE26)
      (try rw [hT] at NE28)
      clear hT
      obtain ⟨wL1, hw⟩ : ∃ x, wL0.alloc (.cells (rowV n fun _ => .int .u16 0) 86) = x := ⟨_, rfl⟩
      rw [hw] at K2 BL1 ⊢
      (try rw [hw] at K4)
      (try rw [hw] at K6)
      (try rw [hw] at K8)
      clear hw
      refine wpAnyJ_list [4, 6, 8] (by kernel_rfl) (by decide) (fun i hi => ?_)
      rcases (by simpa using hi : i = 4 ∨ i = 6 ∨ i = 8) with rfl | rfl | rfl
      · refine ⟨_, rfl, fun K hK => ?_⟩
        have BL2 := hide (BL1.out.alloc BL1.out.size (.cells (rowV n fun _ => .int .u16 0) 86))
        have hb : Below wL1.heap.size wL1 (wL1.alloc (.cells (rowV n fun _ => .int .u16 0) 86)) := (Below.refl _ _).alloc (Nat.le_refl _) _
        have HL4 : Hid (lo ≤ wL1.heap.size) := hide (by rw [HLO.out]; exact BL1.out.size)
        (try have NE24 : Hid (a2 ≠ wL1.heap.size) := hide (by have := K2.out.lt; omega))
        (try have NE46 : Hid (wL1.heap.size ≠ a6) := hide (by have := K6.out.lt; omega))
        (try have NE48 : Hid (wL1.heap.size ≠ a8) := hide (by have := K8.out.lt; omega))
        (try replace K2 := hide (K2.out.ext hb))
        (try replace K6 := hide (K6.out.ext hb))
        (try replace K8 := hide (K8.out.ext hb))
        have K4 := hide (Blk.new wL1 86 (rowV n fun _ => .int .u16 0))
        clear hb
        simp only [glA, glB, glC]
        go_simp
        refine hK.out _ _ (fun _ => HS4.out _ BL2.out) ?_
        clear hK K
        (try simp only [glA, glB, glC, Act.put, glD, glE, glF])
        obtain ⟨a4, hT⟩ : ∃ x, wL1.heap.size = x := ⟨_, rfl⟩
        rw [hT] at K4 HL4 ⊢
        (try rw [hT] at NE24)
        (try rw [hT] at NE46)
        (try rw [hT] at NE48)
        clear hT
        obtain ⟨wL2, hw⟩ : ∃ x, wL1.alloc (.cells (rowV n fun _ => .int .u16 0) 86) = x := ⟨_, rfl⟩
        rw [hw] at K4 BL2 ⊢
        (try rw [hw] at K2)
        (try rw [hw] at K6)
        (try rw [hw] at K8)
        clear hw
        refine wpAnyJ_list [6, 8] (by kernel_rfl) (by decide) (fun i hi => ?_)
        rcases (by simpa using hi : i = 6 ∨ i = 8) with rfl | rfl
        · refine ⟨_, rfl, fun K hK => ?_⟩
          have BL3 := hide (BL2.out.alloc BL2.out.size (.cells (rowV n fun _ => .int .u16 0) 86))
          have hb : Below wL2.heap.size wL2 (wL2.alloc (.cells (rowV n fun _ => .int .u16 0) 86)) := (Below.refl _ _).alloc (Nat.le_refl _) _
          have HL6 : Hid (lo ≤ wL2.heap.size) := hide (by rw [HLO.out]; exact BL2.out.size)
          (try have NE26 : Hid (a2 ≠ wL2.heap.size) := hide (by have := K2.out.lt; omega))
          (try have NE46 : Hid (a4 ≠ wL2.heap.size) := hide (by have := K4.out.lt; omega))
          (try have NE68 : Hid (wL2.heap.size ≠ a8) := hide (by have := K8.out.lt; omega))
          (try replace K2 := hide (K2.out.ext hb))
          (try replace K4 := hide (K4.out.ext hb))
          (try replace K8 := hide (K8.out.ext hb))
          have K6 := hide (Blk.new wL2 86 (rowV n fun _ => .int .u16 0))
          clear hb
          simp only [glA, glB, glC]
          go_simp
          refine hK.out _ _ (fun _ => HS4.out _ BL3.out) ?_
          clear hK K
          (try simp only [glA, glB, glC, Act.put, glD, glE, glF])
          obtain ⟨a6, hT⟩ : ∃ x, wL2.heap.size = x := ⟨_, rfl⟩
          rw [hT] at K6 HL6 ⊢
          (try rw [hT] at NE26)
          (try rw [hT] at NE46)
          (try rw [hT] at NE68)
          clear hT
          obtain ⟨wL3, hw⟩ : ∃ x, wL2.alloc (.cells (rowV n fun _ => .int .u16 0) 86) = x := ⟨_, rfl⟩
          rw [hw] at K6 BL3 ⊢
          (try rw [hw] at K2)
          (try rw [hw] at K4)
          (try rw [hw] at K8)
          clear hw
          refine wpAnyJ_one 8 rfl (by kernel_rfl) (fun K hK => ?_)
          have BL4 := hide (BL3.out.alloc BL3.out.size (.cells (rowV n fun _ => .int .u16 0) 86))
          have hb : Below wL3.heap.size wL3 (wL3.alloc (.cells (rowV n fun _ => .int .u16 0) 86)) := (Below.refl _ _).alloc (Nat.le_refl _) _
          have HL8 : Hid (lo ≤ wL3.heap.size) := hide (by rw [HLO.out]; exact BL3.out.size)
          (try have NE28 : Hid (a2 ≠ wL3.heap.size) := hide (by have := K2.out.lt; omega))
          (try have NE48 : Hid (a4 ≠ wL3.heap.size) := hide (by have := K4.out.lt; omega))
          (try have NE68 : Hid (a6 ≠ wL3.heap.size) := hide (by have := K6.out.lt; omega))
          (try replace K2 := hide (K2.out.ext hb))
          (try replace K4 := hide (K4.out.ext hb))
          (try replace K6 := hide (K6.out.ext hb))
          have K8 := hide (Blk.new wL3 86 (rowV n fun _ => .int .u16 0))
          clear hb
          simp only [glA, glB, glC]
          go_simp
          refine hK.out _ _ (fun _ => HS4.out _ BL4.out) ?_
          clear hK K
          (try simp only [glA, glB, glC, Act.put, glD, glE, glF])
          obtain ⟨a8, hT⟩ : ∃ x, wL3.heap.size = x := ⟨_, rfl⟩
          rw [hT] at K8 HL8 ⊢
          (try rw [hT] at NE28)
          (try rw [hT] at NE48)
          (try rw [hT] at NE68)
          clear hT
          obtain ⟨wL4, hw⟩ : ∃ x, wL3.alloc (.cells (rowV n fun _ => .int .u16 0) 86) = x := ⟨_, rfl⟩
          rw [hw] at K8 BL4 ⊢
          (try rw [hw] at K2)
          (try rw [hw] at K4)
          (try rw [hw] at K6)
          clear hw
          as_aux_lemma =>
            refine wpAnyJ_take 9 (v := .agg #[.slice d.A n d.c, .int .i64 la, .int .i64 tl, .slice (some ⟨a2, 0, none⟩) n n, .slice (some ⟨a4, 0, none⟩) n n, .slice (some ⟨a6, 0, none⟩) n n, .slice (some ⟨a8, 0, none⟩) n n, .int .u16 0]) wideFn (HS4.out _ BL4.out) rfl (by kernel_rfl) (by kernel_rfl) (by kernel_rfl) (by kernel_rfl) rfl (fun W _ => by simp only [glA, glB, glC]; refine exec_build rfl ?_; simp only [List.map_toArray, List.map_cons, List.map_nil]; go_simp; exact built_book _ _ _ _ _ _ _ _ _) (fun _ _ _ h => h) ?_
            (try simp only [glA, glB, glC, Act.put, glD, glE, glF])
            have hb : Below wL4.heap.size wL4 (wL4.alloc (.cells #[.slice d.A n d.c, .int .i64 la, .int .i64 tl, .slice (some ⟨a2, 0, none⟩) n n, .slice (some ⟨a4, 0, none⟩) n n, .slice (some ⟨a6, 0, none⟩) n n, .slice (some ⟨a8, 0, none⟩) n n, .int .u16 0] 133)) := (Below.refl _ _).alloc (Nat.le_refl _) _
            have HBB := hide (HM.out.trans ((BL4.out.trans (hb.mono BL4.out.size)).mono HM.out.size))
            have BLb := hide (BL4.out.trans (hb.mono BL4.out.size))
            refine wpAnyJ_one 10 rfl (by kernel_rfl) (fun K hK => ?_)
            simp only [glA, glB, glC]
            go_simp
            refine hK.out _ _ (fun _ => HS4.out _ BLb.out) ?_
            clear hK K
            (try simp only [glA, glB, glC, Act.put, glD, glE, glF])
            refine wpAnyJ_take 11 (v := ?_) (by first | exact hF | exact wideFn) (HS4.out _ BLb.out) rfl (by kernel_rfl) (by kernel_rfl) (by kernel_rfl) (by kernel_rfl) rfl ?_ (by first | exact fun _ _ _ h => h | exact fun _ _ _ h => hQ2 _ _ _ _ _ h) ?_
            rotate_left
            · intro W hSW
              simp only [glA, glB, glC]
              (try dsimp only at hSW)
              go_simp
              with_reducible rfl
            (try simp only [glA, glB, glC, Act.put, glD, glE, glF])
            refine wpAnyJ_done (by kernel_rfl) ?_
            go_wp2_with fail
            go_meet
            refine ⟨_, ad4 a2 a4 a6 a8, rfl, hide (OpI.init HBB.out ?_ ?_ ?_ ?_ ?_ ?_ ?_ ?_ ?_ NE24.out NE26.out NE28.out NE46.out NE48.out NE68.out ?_ ?_ ?_ ?_ ?_)⟩
            · have := BL4.out.size; have := HLO.out; have := HM.out.size; omega
            · have := HL2.out; have := HLO.out; have := HM.out.size; omega
            · have := HL4.out; have := HLO.out; have := HM.out.size; omega
            · have := HL6.out; have := HLO.out; have := HM.out.size; omega
            · have := HL8.out; have := HLO.out; have := HM.out.size; omega
            · have := K2.out.lt; omega
            · have := K4.out.lt; omega
            · have := K6.out.lt; omega
            · have := K8.out.lt; omega
            · rw [HN.out.1, HN.out.2.1, HN.out.2.2]; exact Blk.new _ _ _
            · rw [HN.out.1]; exact K2.out.ext hb
            · rw [HN.out.1]; exact K4.out.ext hb
            · rw [HN.out.1]; exact K6.out.ext hb
            · rw [HN.out.1]; exact K8.out.ext hb
        · refine ⟨_, rfl, fun K hK => ?_⟩
          have BL3 := hide (BL2.out.alloc BL2.out.size (.cells (rowV n fun _ => .int .u16 0) 86))
          have hb : Below wL2.heap.size wL2 (wL2.alloc (.cells (rowV n fun _ => .int .u16 0) 86)) := (Below.refl _ _).alloc (Nat.le_refl _) _
          have HL8 : Hid (lo ≤ wL2.heap.size) := hide (by rw [HLO.out]; exact BL2.out.size)
          (try have NE28 : Hid (a2 ≠ wL2.heap.size) := hide (by have := K2.out.lt; omega))
          (try have NE48 : Hid (a4 ≠ wL2.heap.size) := hide (by have := K4.out.lt; omega))
          (try have NE68 : Hid (a6 ≠ wL2.heap.size) := hide (by have := K6.out.lt; omega))
          (try replace K2 := hide (K2.out.ext hb))
          (try replace K4 := hide (K4.out.ext hb))
          (try replace K6 := hide (K6.out.ext hb))
          have K8 := hide (Blk.new wL2 86 (rowV n fun _ => .int .u16 0))
          clear hb
          simp only [glA, glB, glC]
          go_simp
          refine hK.out _ _ (fun _ => HS4.out _ BL3.out) ?_
          clear hK K
          (try simp only [glA, glB, glC, Act.put, glD, glE, glF])
          obtain ⟨a8, hT⟩ : ∃ x, wL2.heap.size = x := ⟨_, rfl⟩
          rw [hT] at K8 HL8 ⊢
          (try rw [hT] at NE28)
          (try rw [hT] at NE48)
          (try rw [hT] at NE68)
          clear hT
          obtain ⟨wL3, hw⟩ : ∃ x, wL2.alloc (.cells (rowV n fun _ => .int .u16 0) 86) = x := ⟨_, rfl⟩
          rw [hw] at K8 BL3 ⊢
          (try rw [hw] at K2)
          (try rw [hw] at K4)
          (try rw [hw] at K6)
          clear hw
          refine wpAnyJ_one 6 rfl (by kernel_rfl) (fun K hK => ?_)
          have BL4 := hide (BL3.out.alloc BL3.out.size (.cells (rowV n fun _ => .int .u16 0) 86))
          have hb : Below wL3.heap.size wL3 (wL3.alloc (.cells (rowV n fun _ => .int .u16 0) 86)) := (Below.refl _ _).alloc (Nat.le_refl _) _
          have HL6 : Hid (lo ≤ wL3.heap.size) := hide (by rw [HLO.out]; exact BL3.out.size)
          (try have NE26 : Hid (a2 ≠ wL3.heap.size) := hide (by have := K2.out.lt; omega))
          (try have NE46 : Hid (a4 ≠ wL3.heap.size) := hide (by have := K4.out.lt; omega))
          (try have NE68 : Hid (wL3.heap.size ≠ a8) := hide (by have := K8.out.lt; omega))
          (try replace K2 := hide (K2.out.ext hb))
          (try replace K4 := hide (K4.out.ext hb))
          (try replace K8 := hide (K8.out.ext hb))
          have K6 := hide (Blk.new wL3 86 (rowV n fun _ => .int .u16 0))
          clear hb
          simp only [glA, glB, glC]
          go_simp
          refine hK.out _ _ (fun _ => HS4.out _ BL4.out) ?_
          clear hK K
          (try simp only [glA, glB, glC, Act.put, glD, glE, glF])
          obtain ⟨a6, hT⟩ : ∃ x, wL3.heap.size = x := ⟨_, rfl⟩
          rw [hT] at K6 HL6 ⊢
          (try rw [hT] at NE26)
          (try rw [hT] at NE46)
          (try rw [hT] at NE68)
          clear hT
          obtain ⟨wL4, hw⟩ : ∃ x, wL3.alloc (.cells (rowV n fun _ => .int .u16 0) 86) = x := ⟨_, rfl⟩
          rw [hw] at K6 BL4 ⊢
          (try rw [hw] at K2)
          (try rw [hw] at K4)
          (try rw [hw] at K8)
          clear hw
          as_aux_lemma =>
            refine wpAnyJ_take 9 (v := .agg #[.slice d.A n d.c, .int .i64 la, .int .i64 tl, .slice (some ⟨a2, 0, none⟩) n n, .slice (some ⟨a4, 0, none⟩) n n, .slice (some ⟨a6, 0, none⟩) n n, .slice (some ⟨a8, 0, none⟩) n n, .int .u16 0]) wideFn (HS4.out _ BL4.out) rfl (by kernel_rfl) (by kernel_rfl) (by kernel_rfl) (by kernel_rfl) rfl (fun W _ => by simp only [glA, glB, glC]; refine exec_build rfl ?_; simp only [List.map_toArray, List.map_cons, List.map_nil]; go_simp; exact built_book _ _ _ _ _ _ _ _ _) (fun _ _ _ h => h) ?_
            (try simp only [glA, glB, glC, Act.put, glD, glE, glF])
            have hb : Below wL4.heap.size wL4 (wL4.alloc (.cells #[.slice d.A n d.c, .int .i64 la, .int .i64 tl, .slice (some ⟨a2, 0, none⟩) n n, .slice (some ⟨a4, 0, none⟩) n n, .slice (some ⟨a6, 0, none⟩) n n, .slice (some ⟨a8, 0, none⟩) n n, .int .u16 0] 133)) := (Below.refl _ _).alloc (Nat.le_refl _) _
            have HBB := hide (HM.out.trans ((BL4.out.trans (hb.mono BL4.out.size)).mono HM.out.size))
            have BLb := hide (BL4.out.trans (hb.mono BL4.out.size))
            refine wpAnyJ_one 10 rfl (by kernel_rfl) (fun K hK => ?_)
            simp only [glA, glB, glC]
            go_simp
            refine hK.out _ _ (fun _ => HS4.out _ BLb.out) ?_
            clear hK K
            (try simp only [glA, glB, glC, Act.put, glD, glE, glF])
            refine wpAnyJ_take 11 (v := ?_) (by first | exact hF | exact wideFn) (HS4.out _ BLb.out) rfl (by kernel_rfl) (by kernel_rfl) (by kernel_rfl) (by kernel_rfl) rfl ?_ (by first | exact fun _ _ _ h => h | exact fun _ _ _ h => hQ2 _ _ _ _ _ h) ?_
            rotate_left
            · intro W hSW
              simp only [glA, glB, glC]
              (try dsimp only at hSW)
              go_simp
              with_reducible rfl
            (try simp only [glA, glB, glC, Act.put, glD, glE, glF])
            refine wpAnyJ_done (by kernel_rfl) ?_
            go_wp2_with fail
            go_meet
            refine ⟨_, ad4 a2 a4 a6 a8, rfl, hide (OpI.init HBB.out ?_ ?_ ?_ ?_ ?_ ?_ ?_ ?_ ?_ NE24.out NE26.out NE28.out NE46.out NE48.out NE68.out ?_ ?_ ?_ ?_ ?_)⟩
            · have := BL4.out.size; have := HLO.out; have := HM.out.size; omega
            · have := HL2.out; have := HLO.out; have := HM.out.size; omega
            · have := HL4.out; have := HLO.out; have := HM.out.size; omega
            · have := HL6.out; have := HLO.out; have := HM.out.size; omega
            · have := HL8.out; have := HLO.out; have := HM.out.size; omega
            · have := K2.out.lt; omega
            · have := K4.out.lt; omega
            · have := K6.out.lt; omega
            · have := K8.out.lt; omega
            · rw [HN.out.1, HN.out.2.1, HN.out.2.2]; exact Blk.new _ _ _
            · rw [HN.out.1]; exact K2.out.ext hb
            · rw [HN.out.1]; exact K4.out.ext hb
            · rw [HN.out.1]; exact K6.out.ext hb
            · rw [HN.out.1]; exact K8.out.ext hb
      · refine ⟨_, rfl, fun K hK => ?_⟩
        have BL2 := hide (BL1.out.alloc BL1.out.size (.cells (rowV n fun _ => .int .u16 0) 86))
        have hb : Below wL1.heap.size wL1 (wL1.alloc (.cells (rowV n fun _ => .int .u16 0) 86)) := (Below.refl _ _).alloc (Nat.le_refl _) _
        have HL6 : Hid (lo ≤ wL1.heap.size) := hide (by rw [HLO.out]; exact BL1.out.size)
        (try have NE26 : Hid (a2 ≠ wL1.heap.size) := hide (by have := K2.out.lt; omega))
        (try have NE46 : Hid (a4 ≠ wL1.heap.size) := hide (by have := K4.out.lt; omega))
        (try have NE68 : Hid (wL1.heap.size ≠ a8) := hide (by have := K8.out.lt; omega))
        (try replace K2 := hide (K2.out.ext hb))
        (try replace K4 := hide (K4.out.ext hb))
        (try replace K8 := hide (K8.out.ext hb))
        have K6 := hide (Blk.new wL1 86 (rowV n fun _ => .int .u16 0))
        clear hb
        simp only [glA, glB, glC]
        go_simp
        refine hK.out _ _ (fun _ => HS4.out _ BL2.out) ?_
        clear hK K
        (try simp only [glA, glB, glC, Act.put, glD, glE, glF])
        obtain ⟨a6, hT⟩ : ∃ x, wL1.heap.size = x := ⟨_, rfl⟩
        rw [hT] at K6 HL6 ⊢
        (try rw [hT] at NE26)
        (try rw [hT] at NE46)
        (try rw [hT] at NE68)
        clear hT
        obtain ⟨wL2, hw⟩ : ∃ x, wL1.alloc (.cells (rowV n fun _ => .int .u16 0) 86) = x := ⟨_, rfl⟩
        rw [hw] at K6 BL2 ⊢
        (try rw [hw] at K2)
        (try rw [hw] at K4)
        (try rw [hw] at K8)
        clear hw
        refine wpAnyJ_list [4, 8] (by kernel_rfl) (by decide) (fun i hi => ?_)
        rcases (by simpa using hi : i = 4 ∨ i = 8) with rfl | rfl
        · refine ⟨_, rfl, fun K hK => ?_⟩
          have BL3 := hide (BL2.out.alloc BL2.out.size (.cells (rowV n fun _ => .int .u16 0) 86))
          have hb : Below wL2.heap.size wL2 (wL2.alloc (.cells (rowV n fun _ => .int .u16 0) 86)) := (Below.refl _ _).alloc (Nat.le_refl _) _
          have HL4 : Hid (lo ≤ wL2.heap.size) := hide (by rw [HLO.out]; exact BL2.out.size)
          (try have NE24 : Hid (a2 ≠ wL2.heap.size) := hide (by have := K2.out.lt; omega))
          (try have NE46 : Hid (wL2.heap.size ≠ a6) := hide (by have := K6.out.lt; omega))
          (try have NE48 : Hid (wL2.heap.size ≠ a8) := hide (by have := K8.out.lt; omega))
          (try replace K2 := hide (K2.out.ext hb))
          (try replace K6 := hide (K6.out.ext hb))
          (try replace K8 := hide (K8.out.ext hb))
          have K4 := hide (Blk.new wL2 86 (rowV n fun _ => .int .u16 0))
          clear hb
          simp only [glA, glB, glC]
          go_simp
          refine hK.out _ _ (fun _ => HS4.out _ BL3.out) ?_
          clear hK K
          (try simp only [glA, glB, glC, Act.put, glD, glE, glF])
          obtain ⟨a4, hT⟩ : ∃ x, wL2.heap.size = x := ⟨_, rfl⟩
          rw [hT] at K4 HL4 ⊢
          (try rw [hT] at NE24)
          (try rw [hT] at NE46)
          (try rw [hT] at NE48)
          clear hT
          obtain ⟨wL3, hw⟩ : ∃ x, wL2.alloc (.cells (rowV n fun _ => .int .u16 0) 86) = x := ⟨_, rfl⟩
          rw [hw] at K4 BL3 ⊢
          (try rw [hw] at K2)
          (try rw [hw] at K6)
          (try rw [hw] at K8)
          clear hw
          refine wpAnyJ_one 8 rfl (by kernel_rfl) (fun K hK => ?_)
          have BL4 := hide (BL3.out.alloc BL3.out.size (.cells (rowV n fun _ => .int .u16 0) 86))
          have hb : Below wL3.heap.size wL3 (wL3.alloc (.cells (rowV n fun _ => .int .u16 0) 86)) := (Below.refl _ _).alloc (Nat.le_refl _) _
          have HL8 : Hid (lo ≤ wL3.heap.size) := hide (by rw [HLO.out]; exact BL3.out.size)
          (try have NE28 : Hid (a2 ≠ wL3.heap.size) := hide (by have := K2.out.lt; omega))
          (try have NE48 : Hid (a4 ≠ wL3.heap.size) := hide (by have := K4.out.lt; omega))
          (try have NE68 : Hid (a6 ≠ wL3.heap.size) := hide (by have := K6.out.lt; omega))
          (try replace K2 := hide (K2.out.ext hb))
          (try replace K4 := hide (K4.out.ext hb))
          (try replace K6 := hide (K6.out.ext hb))
          have K8 := hide (Blk.new wL3 86 (rowV n fun _ => .int .u16 0))
          clear hb
          simp only [glA, glB, glC]
          go_simp
          refine hK.out _ _ (fun _ => HS4.out _ BL4.out) ?_
          clear hK K
          (try simp only [glA, glB, glC, Act.put, glD, glE, glF])
          obtain ⟨a8, hT⟩ : ∃ x, wL3.heap.size = x := ⟨_, rfl⟩
          rw [hT] at K8 HL8 ⊢
          (try rw [hT] at NE28)
          (try rw [hT] at NE48)
          (try rw [hT] at NE68)
          clear hT
          obtain ⟨wL4, hw⟩ : ∃ x, wL3.alloc (.cells (rowV n fun _ => .int .u16 0) 86) = x := ⟨_, rfl⟩
          rw [hw] at K8 BL4 ⊢
          (try rw [hw] at K2)
          (try rw [hw] at K4)
          (try rw [hw] at K6)
          clear hw
          as_aux_lemma =>
            refine wpAnyJ_take 9 (v := .agg #[.slice d.A n d.c, .int .i64 la, .int .i64 tl, .slice (some ⟨a2, 0, none⟩) n n, .slice (some ⟨a4, 0, none⟩) n n, .slice (some ⟨a6, 0, none⟩) n n, .slice (some ⟨a8, 0, none⟩) n n, .int .u16 0]) wideFn (HS4.out _ BL4.out) rfl (by kernel_rfl) (by kernel_rfl) (by kernel_rfl) (by kernel_rfl) rfl (fun W _ => by simp only [glA, glB, glC]; refine exec_build rfl ?_; simp only [List.map_toArray, List.map_cons, List.map_nil]; go_simp; exact built_book _ _ _ _ _ _ _ _ _) (fun _ _ _ h => h) ?_
            (try simp only [glA, glB, glC, Act.put, glD, glE, glF])
            have hb : Below wL4.heap.size wL4 (wL4.alloc (.cells #[.slice d.A n d.c, .int .i64 la, .int .i64 tl, .slice (some ⟨a2, 0, none⟩) n n, .slice (some ⟨a4, 0, none⟩) n n, .slice (some ⟨a6, 0, none⟩) n n, .slice (some ⟨a8, 0, none⟩) n n, .int .u16 0] 133)) := (Below.refl _ _).alloc (Nat.le_refl _) _
            have HBB := hide (HM.out.trans ((BL4.out.trans (hb.mono BL4.out.size)).mono HM.out.size))
            have BLb := hide (BL4.out.trans (hb.mono BL4.out.size))
            refine wpAnyJ_one 10 rfl (by kernel_rfl) (fun K hK => ?_)
            simp only [glA, glB, glC]
            go_simp
            refine hK.out _ _ (fun _ => HS4.out _ BLb.out) ?_
            clear hK K
            (try simp only [glA, glB, glC, Act.put, glD, glE, glF])
            refine wpAnyJ_take 11 (v := ?_) (by first | exact hF | exact wideFn) (HS4.out _ BLb.out) rfl (by kernel_rfl) (by kernel_rfl) (by kernel_rfl) (by kernel_rfl) rfl ?_ (by first | exact fun _ _ _ h => h | exact fun _ _ _ h => hQ2 _ _ _ _ _ h) ?_
            rotate_left
            · intro W hSW
              simp only [glA, glB, glC]
              (try dsimp only at hSW)
              go_simp
              with_reducible rfl
            (try simp only [glA, glB, glC, Act.put, glD, glE, glF])
            refine wpAnyJ_done (by kernel_rfl) ?_
            go_wp2_with fail
            go_meet
            refine ⟨_, ad4 a2 a4 a6 a8, rfl, hide (OpI.init HBB.out ?_ ?_ ?_ ?_ ?_ ?_ ?_ ?_ ?_ NE24.out NE26.out NE28.out NE46.out NE48.out NE68.out ?_ ?_ ?_ ?_ ?_)⟩
            · have := BL4.out.size; have := HLO.out; have := HM.out.size; omega
            · have := HL2.out; have := HLO.out; have := HM.out.size; omega
            · have := HL4.out; have := HLO.out; have := HM.out.size; omega
            · have := HL6.out; have := HLO.out; have := HM.out.size; omega
            · have := HL8.out; have := HLO.out; have := HM.out.size; omega
            · have := K2.out.lt; omega
            · have := K4.out.lt; omega
            · have := K6.out.lt; omega
            · have := K8.out.lt; omega
            · rw [HN.out.1, HN.out.2.1, HN.out.2.2]; exact Blk.new _ _ _
            · rw [HN.out.1]; exact K2.out.ext hb
            · rw [HN.out.1]; exact K4.out.ext hb
            · rw [HN.out.1]; exact K6.out.ext hb
            · rw [HN.out.1]; exact K8.out.ext hb
        · refine ⟨_, rfl, fun K hK => ?_⟩
          have BL3 := hide (BL2.out.alloc BL2.out.size (.cells (rowV n fun _ => .int .u16 0) 86))
          have hb : Below wL2.heap.size wL2 (wL2.alloc (.cells (rowV n fun _ => .int .u16 0) 86)) := (Below.refl _ _).alloc (Nat.le_refl _) _
          have HL8 : Hid (lo ≤ wL2.heap.size) := hide (by rw [HLO.out]; exact BL2.out.size)
          (try have NE28 : Hid (a2 ≠ wL2.heap.size) := hide (by have := K2.out.lt; omega))
          (try have NE48 : Hid (a4 ≠ wL2.heap.size) := hide (by have := K4.out.lt; omega))
          (try have NE68 : Hid (a6 ≠ wL2.heap.size) := hide (by have := K6.out.lt; omega))
          (try replace K2 := hide (K2.out.ext hb))
          (try replace K4 := hide (K4.out.ext hb))
          (try replace K6 := hide (K6.out.ext hb))
          have K8 := hide (Blk.new wL2 86 (rowV n fun _ => .int .u16 0))
          clear hb
          simp only [glA, glB, glC]
          go_simp
          refine hK.out _ _ (fun _ => HS4.out _ BL3.out) ?_
          clear hK K
          (try simp only [glA, glB, glC, Act.put, glD, glE, glF])
          obtain ⟨a8, hT⟩ : ∃ x, wL2.heap.size = x := ⟨_, rfl⟩
          rw [hT] at K8 HL8 ⊢
          (try rw [hT] at NE28)
          (try rw [hT] at NE48)
          (try rw [hT] at NE68)
          clear hT
          obtain ⟨wL3, hw⟩ : ∃ x, wL2.alloc (.cells (rowV n fun _ => .int .u16 0) 86) = x := ⟨_, rfl⟩
          rw [hw] at K8 BL3 ⊢
          (try rw [hw] at K2)
          (try rw [hw] at K4)
          (try rw [hw] at K6)
          clear hw
          refine wpAnyJ_one 4 rfl (by kernel_rfl) (fun K hK => ?_)
          have BL4 := hide (BL3.out.alloc BL3.out.size (.cells (rowV n fun _ => .int .u16 0) 86))
          have hb : Below wL3.heap.size wL3 (wL3.alloc (.cells (rowV n fun _ => .int .u16 0) 86)) := (Below.refl _ _).alloc (Nat.le_refl _) _
          have HL4 : Hid (lo ≤ wL3.heap.size) := hide (by rw [HLO.out]; exact BL3.out.size)
          (try have NE24 : Hid (a2 ≠ wL3.heap.size) := hide (by have := K2.out.lt; omega))
          (try have NE46 : Hid (wL3.heap.size ≠ a6) := hide (by have := K6.out.lt; omega))
          (try have NE48 : Hid (wL3.heap.size ≠ a8) := hide (by have := K8.out.lt; omega))
          (try replace K2 := hide (K2.out.ext hb))
          (try replace K6 := hide (K6.out.ext hb))
          (try replace K8 := hide (K8.out.ext hb))
          have K4 := hide (Blk.new wL3 86 (rowV n fun _ => .int .u16 0))
          clear hb
          simp only [glA, glB, glC]
          go_simp
          refine hK.out _ _ (fun _ => HS4.out _ BL4.out) ?_
          clear hK K
          (try simp only [glA, glB, glC, Act.put, glD, glE, glF])
          obtain ⟨a4, hT⟩ : ∃ x, wL3.heap.size = x := ⟨_, rfl⟩
          rw [hT] at K4 HL4 ⊢
          (try rw [hT] at NE24)
          (try rw [hT] at NE46)
          (try rw [hT] at NE48)
          clear hT
          obtain ⟨wL4, hw⟩ : ∃ x, wL3.alloc (.cells (rowV n fun _ => .int .u16 0) 86) = x := ⟨_, rfl⟩
          rw [hw] at K4 BL4 ⊢
          (try rw [hw] at K2)
          (try rw [hw] at K6)
          (try rw [hw] at K8)
          clear hw
          as_aux_lemma =>
            refine wpAnyJ_take 9 (v := .agg #[.slice d.A n d.c, .int .i64 la, .int .i64 tl, .slice (some ⟨a2, 0, none⟩) n n, .slice (some ⟨a4, 0, none⟩) n n, .slice (some ⟨a6, 0, none⟩) n n, .slice (some ⟨a8, 0, none⟩) n n, .int .u16 0]) wideFn (HS4.out _ BL4.out) rfl (by kernel_rfl) (by kernel_rfl) (by kernel_rfl) (by kernel_rfl) rfl (fun W _ => by simp only [glA, glB, glC]; refine exec_build rfl ?_; simp only [List.map_toArray, List.map_cons, List.map_nil]; go_simp; exact built_book _ _ _ _ _ _ _ _ _) (fun _ _ _ h => h) ?_
            (try simp only [glA, glB, glC, Act.put, glD, glE, glF])
            have hb : Below wL4.heap.size wL4 (wL4.alloc (.cells #[.slice d.A n d.c, .int .i64 la, .int .i64 tl, .slice (some ⟨a2, 0, none⟩) n n, .slice (some ⟨a4, 0, none⟩) n n, .slice (some ⟨a6, 0, none⟩) n n, .slice (some ⟨a8, 0, none⟩) n n, .int .u16 0] 133)) := (Below.refl _ _).alloc (Nat.le_refl _) _
            have HBB := hide (HM.out.trans ((BL4.out.trans (hb.mono BL4.out.size)).mono HM.out.size))
            have BLb := hide (BL4.out.trans (hb.mono BL4.out.size))
            refine wpAnyJ_one 10 rfl (by kernel_rfl) (fun K hK => ?_)
            simp only [glA, glB, glC]
            go_simp
            refine hK.out _ _ (fun _ => HS4.out _ BLb.out) ?_
            clear hK K
            (try simp only [glA, glB, glC, Act.put, glD, glE, glF])
            refine wpAnyJ_take 11 (v := ?_) (by first | exact hF | exact wideFn) (HS4.out _ BLb.out) rfl (by kernel_rfl) (by kernel_rfl) (by kernel_rfl) (by kernel_rfl) rfl ?_ (by first | exact fun _ _ _ h => h | exact fun _ _ _ h => hQ2 _ _ _ _ _ h) ?_
            rotate_left
            · intro W hSW
              simp only [glA, glB, glC]
              (try dsimp only at hSW)
              go_simp
              with_reducible rfl
            (try simp only [glA, glB, glC, Act.put, glD, glE, glF])
            refine wpAnyJ_done (by kernel_rfl) ?_
            go_wp2_with fail
            go_meet
            refine ⟨_, ad4 a2 a4 a6 a8, rfl, hide (OpI.init HBB.out ?_ ?_ ?_ ?_ ?_ ?_ ?_ ?_ ?_ NE24.out NE26.out NE28.out NE46.out NE48.out NE68.out ?_ ?_ ?_ ?_ ?_)⟩
            · have := BL4.out.size; have := HLO.out; have := HM.out.size; omega
            · have := HL2.out; have := HLO.out; have := HM.out.size; omega
            · have := HL4.out; have := HLO.out; have := HM.out.size; omega
            · have := HL6.out; have := HLO.out; have := HM.out.size; omega
            · have := HL8.out; have := HLO.out; have := HM.out.size; omega
            · have := K2.out.lt; omega
            · have := K4.out.lt; omega
            · have := K6.out.lt; omega
            · have := K8.out.lt; omega
            · rw [HN.out.1, HN.out.2.1, HN.out.2.2]; exact Blk.new _ _ _
            · rw [HN.out.1]; exact K2.out.ext hb
            · rw [HN.out.1]; exact K4.out.ext hb
            · rw [HN.out.1]; exact K6.out.ext hb
            · rw [HN.out.1]; exact K8.out.ext hb
      · refine ⟨_, rfl, fun K hK => ?_⟩
        have BL2 := hide (BL1.out.alloc BL1.out.size (.cells (rowV n fun _ => .int .u16 0) 86))
        have hb : Below wL1.heap.size wL1 (wL1.alloc (.cells (rowV n fun _ => .int .u16 0) 86)) := (Below.refl _ _).alloc (Nat.le_refl _) _
        have HL8 : Hid (lo ≤ wL1.heap.size) := hide (by rw [HLO.out]; exact BL1.out.size)
        (try have NE28 : Hid (a2 ≠ wL1.heap.size) := hide (by have := K2.out.lt; omega))
        (try have NE48 : Hid (a4 ≠ wL1.heap.size) := hide (by have := K4.out.lt; omega))
        (try have NE68 : Hid (a6 ≠ wL1.heap.size) := hide (by have := K6.out.lt; omega))
        (try replace K2 := hide (K2.out.ext hb))
        (try replace K4 := hide (K4.out.ext hb))
        (try replace K6 := hide (K6.out.ext hb))
        have K8 := hide (Blk.new wL1 86 (rowV n fun _ => .int .u16 0))
        clear hb
        simp only [glA, glB, glC]
        go_simp
        refine hK.out _ _ (fun _ => HS4.out _ BL2.out) ?_
        clear hK K
        (try simp only [glA, glB, glC, Act.put, glD, glE, glF])
        obtain ⟨a8, hT⟩ : ∃ x, wL1.heap.size = x := ⟨_, rfl⟩
        rw [hT] at K8 HL8 ⊢
        (try rw [hT] at NE28)
        (try rw [hT] at NE48)
        (try rw [hT] at NE68)
        clear hT
        obtain ⟨wL2, hw⟩ : ∃ x, wL1.alloc (.cells (rowV n fun _ => .int .u16 0) 86) = x := ⟨_, rfl⟩
        rw [hw] at K8 BL2 ⊢
        (try rw [hw] at K2)
        (try rw [hw] at K4)
        (try rw [hw] at K6)
        clear hw
        refine wpAnyJ_list [4, 6] (by kernel_rfl) (by decide) (fun i hi => ?_)
        rcases (by simpa using hi : i = 4 ∨ i = 6) with rfl | rfl
        · refine ⟨_, rfl, fun K hK => ?_⟩
          have BL3 := hide (BL2.out.alloc BL2.out.size (.cells (rowV n fun _ => .int .u16 0) 86))
          have hb : Below wL2.heap.size wL2 (wL2.alloc (.cells (rowV n fun _ => .int .u16 0) 86)) := (Below.refl _ _).alloc (Nat.le_refl _) _
          have HL4 : Hid (lo ≤ wL2.heap.size) := hide (by rw [HLO.out]; exact BL2.out.size)
          (try have NE24 : Hid (a2 ≠ wL2.heap.size) := hide (by have := K2.out.lt; omega))
          (try have NE46 : Hid (wL2.heap.size ≠ a6) := hide (by have := K6.out.lt; omega))
          (try have NE48 : Hid (wL2.heap.size ≠ a8) := hide (by have := K8.out.lt; omega))
          (try replace K2 := hide (K2.out.ext hb))
          (try replace K6 := hide (K6.out.ext hb))
          (try replace K8 := hide (K8.out.ext hb))
          have K4 := hide (Blk.new wL2 86 (rowV n fun _ => .int .u16 0))
          clear hb
          simp only [glA, glB, glC]
          go_simp
          refine hK.out _ _ (fun _ => HS4.out _ BL3.out) ?_
          clear hK K
          (try simp only [glA, glB, glC, Act.put, glD, glE, glF])
          obtain ⟨a4, hT⟩ : ∃ x, wL2.heap.size = x := ⟨_, rfl⟩
          rw [hT] at K4 HL4 ⊢
          (try rw [hT] at NE24)
          (try rw [hT] at NE46)
          (try rw [hT] at NE48)
          clear hT
          obtain ⟨wL3, hw⟩ : ∃ x, wL2.alloc (.cells (rowV n fun _ => .int .u16 0) 86) = x := ⟨_, rfl⟩
          rw [hw] at K4 BL3 ⊢
          (try rw [hw] at K2)
          (try rw [hw] at K6)
          (try rw [hw] at K8)
          clear hw
          refine wpAnyJ_one 6 rfl (by kernel_rfl) (fun K hK => ?_)
          have BL4 := hide (BL3.out.alloc BL3.out.size (.cells (rowV n fun _ => .int .u16 0) 86))
          have hb : Below wL3.heap.size wL3 (wL3.alloc (.cells (rowV n fun _ => .int .u16 0) 86)) := (Below.refl _ _).alloc (Nat.le_refl _) _
          have HL6 : Hid (lo ≤ wL3.heap.size) := hide (by rw [HLO.out]; exact BL3.out.size)
          (try have NE26 : Hid (a2 ≠ wL3.heap.size) := hide (by have := K2.out.lt; omega))
          (try have NE46 : Hid (a4 ≠ wL3.heap.size) := hide (by have := K4.out.lt; omega))
          (try have NE68 : Hid (wL3.heap.size ≠ a8) := hide (by have := K8.out.lt; omega))
          (try replace K2 := hide (K2.out.ext hb))
          (try replace K4 := hide (K4.out.ext hb))
          (try replace K8 := hide (K8.out.ext hb))
          have K6 := hide (Blk.new wL3 86 (rowV n fun _ => .int .u16 0))
          clear hb
          simp only [glA, glB, glC]
          go_simp
          refine hK.out _ _ (fun _ => HS4.out _ BL4.out) ?_
          clear hK K
          (try simp only [glA, glB, glC, Act.put, glD, glE, glF])
          obtain ⟨a6, hT⟩ : ∃ x, wL3.heap.size = x := ⟨_, rfl⟩
          rw [hT] at K6 HL6 ⊢
          (try rw [hT] at NE26)
          (try rw [hT] at NE46)
          (try rw [hT] at NE68)
          clear hT
          obtain ⟨wL4, hw⟩ : ∃ x, wL3.alloc (.cells (rowV n fun _ => .int .u16 0) 86) = x := ⟨_, rfl⟩
          rw [hw] at K6 BL4 ⊢
          (try rw [hw] at K2)
          (try rw [hw] at K4)
          (try rw [hw] at K8)
          clear hw
          as_aux_lemma =>
            refine wpAnyJ_take 9 (v := .agg #[.slice d.A n d.c, .int .i64 la, .int .i64 tl, .slice (some ⟨a2, 0, none⟩) n n, .slice (some ⟨a4, 0, none⟩) n n, .slice (some ⟨a6, 0, none⟩) n n, .slice (some ⟨a8, 0, none⟩) n n, .int .u16 0]) wideFn (HS4.out _ BL4.out) rfl (by kernel_rfl) (by kernel_rfl) (by kernel_rfl) (by kernel_rfl) rfl (fun W _ => by simp only [glA, glB, glC]; refine exec_build rfl ?_; simp only [List.map_toArray, List.map_cons, List.map_nil]; go_simp; exact built_book _ _ _ _ _ _ _ _ _) (fun _ _ _ h => h) ?_
            (try simp only [glA, glB, glC, Act.put, glD, glE, glF])
            have hb : Below wL4.heap.size wL4 (wL4.alloc (.cells #[.slice d.A n d.c, .int .i64 la, .int .i64 tl, .slice (some ⟨a2, 0, none⟩) n n, .slice (some ⟨a4, 0, none⟩) n n, .slice (some ⟨a6, 0, none⟩) n n, .slice (some ⟨a8, 0, none⟩) n n, .int .u16 0] 133)) := (Below.refl _ _).alloc (Nat.le_refl _) _
            have HBB := hide (HM.out.trans ((BL4.out.trans (hb.mono BL4.out.size)).mono HM.out.size))
            have BLb := hide (BL4.out.trans (hb.mono BL4.out.size))
            refine wpAnyJ_one 10 rfl (by kernel_rfl) (fun K hK => ?_)
            simp only [glA, glB, glC]
            go_simp
            refine hK.out _ _ (fun _ => HS4.out _ BLb.out) ?_
            clear hK K
            (try simp only [glA, glB, glC, Act.put, glD, glE, glF])
            refine wpAnyJ_take 11 (v := ?_) (by first | exact hF | exact wideFn) (HS4.out _ BLb.out) rfl (by kernel_rfl) (by kernel_rfl) (by kernel_rfl) (by kernel_rfl) rfl ?_ (by first | exact fun _ _ _ h => h | exact fun _ _ _ h => hQ2 _ _ _ _ _ h) ?_
            rotate_left
            · intro W hSW
              simp only [glA, glB, glC]
              (try dsimp only at hSW)
              go_simp
              with_reducible rfl
            (try simp only [glA, glB, glC, Act.put, glD, glE, glF])
            refine wpAnyJ_done (by kernel_rfl) ?_
            go_wp2_with fail
            go_meet
            refine ⟨_, ad4 a2 a4 a6 a8, rfl, hide (OpI.init HBB.out ?_ ?_ ?_ ?_ ?_ ?_ ?_ ?_ ?_ NE24.out NE26.out NE28.out NE46.out NE48.out NE68.out ?_ ?_ ?_ ?_ ?_)⟩
            · have := BL4.out.size; have := HLO.out; have := HM.out.size; omega
            · have := HL2.out; have := HLO.out; have := HM.out.size; omega
            · have := HL4.out; have := HLO.out; have := HM.out.size; omega
            · have := HL6.out; have := HLO.out; have := HM.out.size; omega
            · have := HL8.out; have := HLO.out; have := HM.out.size; omega
            · have := K2.out.lt; omega
            · have := K4.out.lt; omega
            · have := K6.out.lt; omega
            · have := K8.out.lt; omega
            · rw [HN.out.1, HN.out.2.1, HN.out.2.2]; exact Blk.new _ _ _
            · rw [HN.out.1]; exact K2.out.ext hb
            · rw [HN.out.1]; exact K4.out.ext hb
            · rw [HN.out.1]; exact K6.out.ext hb
            · rw [HN.out.1]; exact K8.out.ext hb
        · refine ⟨_, rfl, fun K hK => ?_⟩
          have BL3 := hide (BL2.out.alloc BL2.out.size (.cells (rowV n fun _ => .int .u16 0) 86))
          have hb : Below wL2.heap.size wL2 (wL2.alloc (.cells (rowV n fun _ => .int .u16 0) 86)) := (Below.refl _ _).alloc (Nat.le_refl _) _
          have HL6 : Hid (lo ≤ wL2.heap.size) := hide (by rw [HLO.out]; exact BL2.out.size)
          (try have NE26 : Hid (a2 ≠ wL2.heap.size) := hide (by have := K2.out.lt; omega))
          (try have NE46 : Hid (a4 ≠ wL2.heap.size) := hide (by have := K4.out.lt; omega))
          (try have NE68 : Hid (wL2.heap.size ≠ a8) := hide (by have := K8.out.lt; omega))
          (try replace K2 := hide (K2.out.ext hb))
          (try replace K4 := hide (K4.out.ext hb))
          (try replace K8 := hide (K8.out.ext hb))
          have K6 := hide (Blk.new wL2 86 (rowV n fun _ => .int .u16 0))
          clear hb
          simp only [glA, glB, glC]
          go_simp
          refine hK.out _ _ (fun _ => HS4.out _ BL3.out) ?_
          clear hK K
          (try simp only [glA, glB, glC, Act.put, glD, glE, glF])
          obtain ⟨a6, hT⟩ : ∃ x, wL2.heap.size = x := ⟨_, rfl⟩
          rw [hT] at K6 HL6 ⊢
          (try rw [hT] at NE26)
          (try rw [hT] at NE46)
          (try rw [hT] at NE68)
          clear hT
          obtain ⟨wL3, hw⟩ : ∃ x, wL2.alloc (.cells (rowV n fun _ => .int .u16 0) 86) = x := ⟨_, rfl⟩
          rw [hw] at K6 BL3 ⊢
          (try rw [hw] at K2)
          (try rw [hw] at K4)
          (try rw [hw] at K8)
          clear hw
          refine wpAnyJ_one 4 rfl (by kernel_rfl) (fun K hK => ?_)
          have BL4 := hide (BL3.out.alloc BL3.out.size (.cells (rowV n fun _ => .int .u16 0) 86))
          have hb : Below wL3.heap.size wL3 (wL3.alloc (.cells (rowV n fun _ => .int .u16 0) 86)) := (Below.refl _ _).alloc (Nat.le_refl _) _
          have HL4 : Hid (lo ≤ wL3.heap.size) := hide (by rw [HLO.out]; exact BL3.out.size)
          (try have NE24 : Hid (a2 ≠ wL3.heap.size) := hide (by have := K2.out.lt; omega))
          (try have NE46 : Hid (wL3.heap.size ≠ a6) := hide (by have := K6.out.lt; omega))
          (try have NE48 : Hid (wL3.heap.size ≠ a8) := hide (by have := K8.out.lt; omega))
          (try replace K2 := hide (K2.out.ext hb))
          (try replace K6 := hide (K6.out.ext hb))
          (try replace K8 := hide (K8.out.ext hb))
          have K4 := hide (Blk.new wL3 86 (rowV n fun _ => .int .u16 0))
          clear hb
          simp only [glA, glB, glC]
          go_simp
          refine hK.out _ _ (fun _ => HS4.out _ BL4.out) ?_
          clear hK K
          (try simp only [glA, glB, glC, Act.put, glD, glE, glF])
          obtain ⟨a4, hT⟩ : ∃ x, wL3.heap.size = x := ⟨_, rfl⟩
          rw [hT] at K4 HL4 ⊢
          (try rw [hT] at NE24)
          (try rw [hT] at NE46)
          (try rw [hT] at NE48)
          clear hT
          obtain ⟨wL4, hw⟩ : ∃ x, wL3.alloc (.cells (rowV n fun _ => .int .u16 0) 86) = x := ⟨_, rfl⟩
          rw [hw] at K4 BL4 ⊢
          (try rw [hw] at K2)
          (try rw [hw] at K6)
          (try rw [hw] at K8)
          clear hw
          as_aux_lemma =>
            refine wpAnyJ_take 9 (v := .agg #[.slice d.A n d.c, .int .i64 la, .int .i64 tl, .slice (some ⟨a2, 0, none⟩) n n, .slice (some ⟨a4, 0, none⟩) n n, .slice (some ⟨a6, 0, none⟩) n n, .slice (some ⟨a8, 0, none⟩) n n, .int .u16 0]) wideFn (HS4.out _ BL4.out) rfl (by kernel_rfl) (by kernel_rfl) (by kernel_rfl) (by kernel_rfl) rfl (fun W _ => by simp only [glA, glB, glC]; refine exec_build rfl ?_; simp only [List.map_toArray, List.map_cons, List.map_nil]; go_simp; exact built_book _ _ _ _ _ _ _ _ _) (fun _ _ _ h => h) ?_
            (try simp only [glA, glB, glC, Act.put, glD, glE, glF])
            have hb : Below wL4.heap.size wL4 (wL4.alloc (.cells #[.slice d.A n d.c, .int .i64 la, .int .i64 tl, .slice (some ⟨a2, 0, none⟩) n n, .slice (some ⟨a4, 0, none⟩) n n, .slice (some ⟨a6, 0, none⟩) n n, .slice (some ⟨a8, 0, none⟩) n n, .int .u16 0] 133)) := (Below.refl _ _).alloc (Nat.le_refl _) _
            have HBB := hide (HM.out.trans ((BL4.out.trans (hb.mono BL4.out.size)).mono HM.out.size))
            have BLb := hide (BL4.out.trans (hb.mono BL4.out.size))
            refine wpAnyJ_one 10 rfl (by kernel_rfl) (fun K hK => ?_)
            simp only [glA, glB, glC]
            go_simp
            refine hK.out _ _ (fun _ => HS4.out _ BLb.out) ?_
            clear hK K
            (try simp only [glA, glB, glC, Act.put, glD, glE, glF])
            refine wpAnyJ_take 11 (v := ?_) (by first | exact hF | exact wideFn) (HS4.out _ BLb.out) rfl (by kernel_rfl) (by kernel_rfl) (by kernel_rfl) (by kernel_rfl) rfl ?_ (by first | exact fun _ _ _ h => h | exact fun _ _ _ h => hQ2 _ _ _ _ _ h) ?_
            rotate_left
            · intro W hSW
              simp only [glA, glB, glC]
              (try dsimp only at hSW)
              go_simp
              with_reducible rfl
            (try simp only [glA, glB, glC, Act.put, glD, glE, glF])
            refine wpAnyJ_done (by kernel_rfl) ?_
            go_wp2_with fail
            go_meet
            refine ⟨_, ad4 a2 a4 a6 a8, rfl, hide (OpI.init HBB.out ?_ ?_ ?_ ?_ ?_ ?_ ?_ ?_ ?_ NE24.out NE26.out NE28.out NE46.out NE48.out NE68.out ?_ ?_ ?_ ?_ ?_)⟩
            · have := BL4.out.size; have := HLO.out; have := HM.out.size; omega
            · have := HL2.out; have := HLO.out; have := HM.out.size; omega
            · have := HL4.out; have := HLO.out; have := HM.out.size; omega
            · have := HL6.out; have := HLO.out; have := HM.out.size; omega
            · have := HL8.out; have := HLO.out; have := HM.out.size; omega
            · have := K2.out.lt; omega
            · have := K4.out.lt; omega
            · have := K6.out.lt; omega
            · have := K8.out.lt; omega
            · rw [HN.out.1, HN.out.2.1, HN.out.2.2]; exact Blk.new _ _ _
            · rw [HN.out.1]; exact K2.out.ext hb
            · rw [HN.out.1]; exact K4.out.ext hb
            · rw [HN.out.1]; exact K6.out.ext hb
            · rw [HN.out.1]; exact K8.out.ext hb
    · refine ⟨_, rfl, fun K hK => ?_⟩
      have BL1 := hide (BL0.out.alloc BL0.out.size (.cells (rowV n fun _ => .int .u16 0) 86))
      have hb : Below wL0.heap.size wL0 (wL0.alloc (.cells (rowV n fun _ => .int .u16 0) 86)) := (Below.refl _ _).alloc (Nat.le_refl _) _
      have HL4 : Hid (lo ≤ wL0.heap.size) := hide (by rw [HLO.out]; exact BL0.out.size)
      (try have NE24 : Hid (a2 ≠ wL0.heap.size) := hide (by have := K2.out.lt; omega))
      (try have NE46 : Hid (wL0.heap.size ≠ a6) := hide (by have := K6.out.lt; omega))
      (try have NE48 : Hid (wL0.heap.size ≠ a8) := hide (by have := K8.out.lt; omega))
      (try replace K2 := hide (K2.out.ext hb))
      (try replace K6 := hide (K6.out.ext hb))
      (try replace K8 := hide (K8.out.ext hb))
      have K4 := hide (Blk.new wL0 86 (rowV n fun _ => .int .u16 0))
      clear hb
      simp only [glA, glB, glC]
      go_simp
      refine hK.out _ _ (fun _ => HS4.out _ BL1.out) ?_
      clear hK K
      (try simp only [glA, glB, glC, Act.put, glD, glE, glF])
      obtain ⟨a4, hT⟩ : ∃ x, wL0.heap.size = x := ⟨_, rfl⟩
      rw [hT] at K4 HL4 ⊢
      (try rw [hT] at NE24)
      (try rw [hT] at NE46)
      (try rw [hT] at NE48)
      clear hT
      obtain ⟨wL1, hw⟩ : ∃ x, wL0.alloc (.cells (rowV n fun _ => .int .u16 0) 86) = x := ⟨_, rfl⟩
      rw [hw] at K4 BL1 ⊢
      (try rw [hw] at K2)
      (try rw [hw] at K6)
      (try rw [hw] at K8)
      clear hw
      refine wpAnyJ_list [2, 6, 8] (by kernel_rfl) (by decide) (fun i hi => ?_)
      rcases (by simpa using hi : i = 2 ∨ i = 6 ∨ i = 8) with rfl | rfl | rfl
      · refine ⟨_, rfl, fun K hK => ?_⟩
        have BL2 := hide (BL1.out.alloc BL1.out.size (.cells (rowV n fun _ => .int .u16 0) 86))
        have hb : Below wL1.heap.size wL1 (wL1.alloc (.cells (rowV n fun _ => .int .u16 0) 86)) := (Below.refl _ _).alloc (Nat.le_refl _) _
        have HL2 : Hid (lo ≤ wL1.heap.size) := hide (by rw [HLO.out]; exact BL1.out.size)
        (try have NE24 : Hid (wL1.heap.size ≠ a4) := hide (by have := K4.out.lt; omega))
        (try have NE26 : Hid (wL1.heap.size ≠ a6) := hide (by have := K6.out.lt; omega))
        (try have NE28 : Hid (wL1.heap.size ≠ a8) := hide (by have := K8.out.lt; omega))
        (try replace K4 := hide (K4.out.ext hb))
        (try replace K6 := hide (K6.out.ext hb))
        (try replace K8 := hide (K8.out.ext hb))
        have K2 := hide (Blk.new wL1 86 (rowV n fun _ => .int .u16 0))
        clear hb
        simp only [glA, glB, glC]
        go_simp
        refine hK.out _ _ (fun _ => HS4.out _ BL2.out) ?_
        clear hK K
        (try simp only [glA, glB, glC, Act.put, glD, glE, glF])
        obtain ⟨a2, hT⟩ : ∃ x, wL1.heap.size = x := ⟨_, rfl⟩
        rw [hT] at K2 HL2 ⊢
        (try rw [hT] at NE24)
        (try rw [hT] at NE26)
        (try rw [hT] at NE28)
        clear hT
        obtain ⟨wL2, hw⟩ : ∃ x, wL1.alloc (.cells (rowV n fun _ => .int .u16 0) 86) = x := ⟨_, rfl⟩
        rw [hw] at K2 BL2 ⊢
        (try rw [hw] at K4)
        (try rw [hw] at K6)
        (try rw [hw] at K8)
        clear hw
        refine wpAnyJ_list [6, 8] (by kernel_rfl) (by decide) (fun i hi => ?_)
        rcases (by simpa using hi : i = 6 ∨ i = 8) with rfl | rfl
        · refine ⟨_, rfl, fun K hK => ?_⟩
          have BL3 := hide (BL2.out.alloc BL2.out.size (.cells (rowV n fun _ => .int .u16 0) 86))
          have hb : Below wL2.heap.size wL2 (wL2.alloc (.cells (rowV n fun _ => .int .u16 0) 86)) := (Below.refl _ _).alloc (Nat.le_refl _) _
          have HL6 : Hid (lo ≤ wL2.heap.size) := hide (by rw [HLO.out]; exact BL2.out.size)
          (try have NE26 : Hid (a2 ≠ wL2.heap.size) := hide (by have := K2.out.lt; omega))
          (try have NE46 : Hid (a4 ≠ wL2.heap.size) := hide (by have := K4.out.lt; omega))
          (try have NE68 : Hid (wL2.heap.size ≠ a8) := hide (by have := K8.out.lt; omega))
          (try replace K2 := hide (K2.out.ext hb))
          (try replace K4 := hide (K4.out.ext hb))
          (try replace K8 := hide (K8.out.ext hb))
          have K6 := hide (Blk.new wL2 86 (rowV n fun _ => .int .u16 0))
          clear hb
          simp only [glA, glB, glC]
          go_simp
          refine hK.out _ _ (fun _ => HS4.out _ BL3.out) ?_
          clear hK K
          (try simp only [glA, glB, glC, Act.put, glD, glE, glF])
          obtain ⟨a6, hT⟩ : ∃ x, wL2.heap.size = x := ⟨_, rfl⟩
          rw [hT] at K6 HL6 ⊢
          (try rw [hT] at NE26)
          (try rw [hT] at NE46)
          (try rw [hT] at NE68)
          clear hT
          obtain ⟨wL3, hw⟩ : ∃ x, wL2.alloc (.cells (rowV n fun _ => .int .u16 0) 86) = x := ⟨_, rfl⟩
          rw [hw] at K6 BL3 ⊢
          (try rw [hw] at K2)
          (try rw [hw] at K4)
          (try rw [hw] at K8)
          clear hw
          refine wpAnyJ_one 8 rfl (by kernel_rfl) (fun K hK => ?_)
          have BL4 := hide (BL3.out.alloc BL3.out.size (.cells (rowV n fun _ => .int .u16 0) 86))
          have hb : Below wL3.heap.size wL3 (wL3.alloc (.cells (rowV n fun _ => .int .u16 0) 86)) := (Below.refl _ _).alloc (Nat.le_refl _) _
          have HL8 : Hid (lo ≤ wL3.heap.size) := hide (by rw [HLO.out]; exact BL3.out.size)
          (try have NE28 : Hid (a2 ≠ wL3.heap.size) := hide (by have := K2.out.lt; omega))
          (try have NE48 : Hid (a4 ≠ wL3.heap.size) := hide (by have := K4.out.lt; omega))
          (try have NE68 : Hid (a6 ≠ wL3.heap.size) := hide (by have := K6.out.lt; omega))
          (try replace K2 := hide (K2.out.ext hb))
          (try replace K4 := hide (K4.out.ext hb))
          (try replace K6 := hide (K6.out.ext hb))
          have K8 := hide (Blk.new wL3 86 (rowV n fun _ => .int .u16 0))
          clear hb
          simp only [glA, glB, glC]
          go_simp
          refine hK.out _ _ (fun _ => HS4.out _ BL4.out) ?_
          clear hK K
          (try simp only [glA, glB, glC, Act.put, glD, glE, glF])
          obtain ⟨a8, hT⟩ : ∃ x, wL3.heap.size = x := ⟨_, rfl⟩
          rw [hT] at K8 HL8 ⊢
          (try rw [hT] at NE28)
          (try rw [hT] at NE48)
          (try rw [hT] at NE68)
          clear hT
          obtain ⟨wL4, hw⟩ : ∃ x, wL3.alloc (.cells (rowV n fun _ => .int .u16 0) 86) = x := ⟨_, rfl⟩
          rw [hw] at K8 BL4 ⊢
          (try rw [hw] at K2)
          (try rw [hw] at K4)
          (try rw [hw] at K6)
          clear hw
          as_aux_lemma =>
            refine wpAnyJ_take 9 (v := .agg #[.slice d.A n d.c, .int .i64 la, .int .i64 tl, .slice (some ⟨a2, 0, none⟩) n n, .slice (some ⟨a4, 0, none⟩) n n, .slice (some ⟨a6, 0, none⟩) n n, .slice (some ⟨a8, 0, none⟩) n n, .int .u16 0]) wideFn (HS4.out _ BL4.out) rfl (by kernel_rfl) (by kernel_rfl) (by kernel_rfl) (by kernel_rfl) rfl (fun W _ => by simp only [glA, glB, glC]; refine exec_build rfl ?_; simp only [List.map_toArray, List.map_cons, List.map_nil]; go_simp; exact built_book _ _ _ _ _ _ _ _ _) (fun _ _ _ h => h) ?_
            (try simp only [glA, glB, glC, Act.put, glD, glE, glF])
            have hb : Below wL4.heap.size wL4 (wL4.alloc (.cells #[.slice d.A n d.c, .int .i64 la, .int .i64 tl, .slice (some ⟨a2, 0, none⟩) n n, .slice (some ⟨a4, 0, none⟩) n n, .slice (some ⟨a6, 0, none⟩) n n, .slice (some ⟨a8, 0, none⟩) n n, .int .u16 0] 133)) := (Below.refl _ _).alloc (Nat.le_refl _) _
            have HBB := hide (HM.out.trans ((BL4.out.trans (hb.mono BL4.out.size)).mono HM.out.size))
            have BLb := hide (BL4.out.trans (hb.mono BL4.out.size))
            refine wpAnyJ_one 10 rfl (by kernel_rfl) (fun K hK => ?_)
            simp only [glA, glB, glC]
            go_simp
            refine hK.out _ _ (fun _ => HS4.out _ BLb.out) ?_
            clear hK K
            (try simp only [glA, glB, glC, Act.put, glD, glE, glF])
            refine wpAnyJ_take 11 (v := ?_) (by first | exact hF | exact wideFn) (HS4.out _ BLb.out) rfl (by kernel_rfl) (by kernel_rfl) (by kernel_rfl) (by kernel_rfl) rfl ?_ (by first | exact fun _ _ _ h => h | exact fun _ _ _ h => hQ2 _ _ _ _ _ h) ?_
            rotate_left
            · intro W hSW
              simp only [glA, glB, glC]
              (try dsimp only at hSW)
              go_simp
              with_reducible rfl
            (try simp only [glA, glB, glC, Act.put, glD, glE, glF])
            refine wpAnyJ_done (by kernel_rfl) ?_
            go_wp2_with fail
            go_meet
            refine ⟨_, ad4 a2 a4 a6 a8, rfl, hide (OpI.init HBB.out ?_ ?_ ?_ ?_ ?_ ?_ ?_ ?_ ?_ NE24.out NE26.out NE28.out NE46.out NE48.out NE68.out ?_ ?_ ?_ ?_ ?_)⟩
            · have := BL4.out.size; have := HLO.out; have := HM.out.size; omega
            · have := HL2.out; have := HLO.out; have := HM.out.size; omega
            · have := HL4.out; have := HLO.out; have := HM.out.size; omega
            · have := HL6.out; have := HLO.out; have := HM.out.size; omega
            · have := HL8.out; have := HLO.out; have := HM.out.size; omega
            · have := K2.out.lt; omega
            · have := K4.out.lt; omega
            · have := K6.out.lt; omega
            · have := K8.out.lt; omega
            · rw [HN.out.1, HN.out.2.1, HN.out.2.2]; exact Blk.new _ _ _
            · rw [HN.out.1]; exact K2.out.ext hb
            · rw [HN.out.1]; exact K4.out.ext hb
            · rw [HN.out.1]; exact K6.out.ext hb
            · rw [HN.out.1]; exact K8.out.ext hb
        · refine ⟨_, rfl, fun K hK => ?_⟩
          have BL3 := hide (BL2.out.alloc BL2.out.size (.cells (rowV n fun _ => .int .u16 0) 86))
          have hb : Below wL2.heap.size wL2 (wL2.alloc (.cells (rowV n fun _ => .int .u16 0) 86)) := (Below.refl _ _).alloc (Nat.le_refl _) _
          have HL8 : Hid (lo ≤ wL2.heap.size) := hide (by rw [HLO.out]; exact BL2.out.size)
          (try have NE28 : Hid (a2 ≠ wL2.heap.size) := hide (by have := K2.out.lt; omega))
          (try have NE48 : Hid (a4 ≠ wL2.heap.size) := hide (by have := K4.out.lt; omega))
          (try have NE68 : Hid (a6 ≠ wL2.heap.size) := hide (by have := K6.out.lt; omega))
          (try replace K2 := hide (K2.out.ext hb))
          (try replace K4 := hide (K4.out.ext hb))
          (try replace K6 := hide (K6.out.ext hb))
          have K8 := hide (Blk.new wL2 86 (rowV n fun _ => .int .u16 0))
          clear hb
          simp only [glA, glB, glC]
          go_simp
          refine hK.out _ _ (fun _ => HS4.out _ BL3.out) ?_
          clear hK K
          (try simp only [glA, glB, glC, Act.put, glD, glE, glF])
          obtain ⟨a8, hT⟩ : ∃ x, wL2.heap.size = x := ⟨_, rfl⟩
          rw [hT] at K8 HL8 ⊢
          (try rw [hT] at NE28)
          (try rw [hT] at NE48)
          (try rw [hT] at NE68)
          clear hT
          obtain ⟨wL3, hw⟩ : ∃ x, wL2.alloc (.cells (rowV n fun _ => .int .u16 0) 86) = x := ⟨_, rfl⟩
          rw [hw] at K8 BL3 ⊢
          (try rw [hw] at K2)
          (try rw [hw] at K4)
          (try rw [hw] at K6)
          clear hw
          refine wpAnyJ_one 6 rfl (by kernel_rfl) (fun K hK => ?_)
          have BL4 := hide (BL3.out.alloc BL3.out.size (.cells (rowV n fun _ => .int .u16 0) 86))
          have hb : Below wL3.heap.size wL3 (wL3.alloc (.cells (rowV n fun _ => .int .u16 0) 86)) := (Below.refl _ _).alloc (Nat.le_refl _) _
          have HL6 : Hid (lo ≤ wL3.heap.size) := hide (by rw [HLO.out]; exact BL3.out.size)
          (try have NE26 : Hid (a2 ≠ wL3.heap.size) := hide (by have := K2.out.lt; omega))
          (try have NE46 : Hid (a4 ≠ wL3.heap.size) := hide (by have := K4.out.lt; omega))
          (try have NE68 : Hid (wL3.heap.size ≠ a8) := hide (by have := K8.out.lt; omega))
          (try replace K2 := hide (K2.out.ext hb))
          (try replace K4 := hide (K4.out.ext hb))
          (try replace K8 := hide (K8.out.ext hb))
          have K6 := hide (Blk.new wL3 86 (rowV n fun _ => .int .u16 0))
          clear hb
          simp only [glA, glB, glC]
          go_simp
          refine hK.out _ _ (fun _ => HS4.out _ BL4.out) ?_
          clear hK K
          (try simp only [glA, glB, glC, Act.put, glD, glE, glF])
          obtain ⟨a6, hT⟩ : ∃ x, wL3.heap.size = x := ⟨_, rfl⟩
          rw [hT] at K6 HL6 ⊢
          (try rw [hT] at NE26)
          (try rw [hT] at NE46)
          (try rw [hT] at NE68)
          clear hT
          obtain ⟨wL4, hw⟩ : ∃ x, wL3.alloc (.cells (rowV n fun _ => .int .u16 0) 86) = x := ⟨_, rfl⟩
          rw [hw] at K6 BL4 ⊢
          (try rw [hw] at K2)
          (try rw [hw] at K4)
          (try rw [hw] at K8)
          clear hw
          as_aux_lemma =>
            refine wpAnyJ_take 9 (v := .agg #[.slice d.A n d.c, .int .i64 la, .int .i64 tl, .slice (some ⟨a2, 0, none⟩) n n, .slice (some ⟨a4, 0, none⟩) n n, .slice (some ⟨a6, 0, none⟩) n n, .slice (some ⟨a8, 0, none⟩) n n, .int .u16 0]) wideFn (HS4.out _ BL4.out) rfl (by kernel_rfl) (by kernel_rfl) (by kernel_rfl) (by kernel_rfl) rfl (fun W _ => by simp only [glA, glB, glC]; refine exec_build rfl ?_; simp only [List.map_toArray, List.map_cons, List.map_nil]; go_simp; exact built_book _ _ _ _ _ _ _ _ _) (fun _ _ _ h => h) ?_
            (try simp only [glA, glB, glC, Act.put, glD, glE, glF])
            have hb : Below wL4.heap.size wL4 (wL4.alloc (.cells #[.slice d.A n d.c, .int .i64 la, .int .i64 tl, .slice (some ⟨a2, 0, none⟩) n n, .slice (some ⟨a4, 0, none⟩) n n, .slice (some ⟨a6, 0, none⟩) n n, .slice (some ⟨a8, 0, none⟩) n n, .int .u16 0] 133)) := (Below.refl _ _).alloc (Nat.le_refl _) _
            have HBB := hide (HM.out.trans ((BL4.out.trans (hb.mono BL4.out.size)).mono HM.out.size))
            have BLb := hide (BL4.out.trans (hb.mono BL4.out.size))
            refine wpAnyJ_one 10 rfl (by kernel_rfl) (fun K hK => ?_)
            simp only [glA, glB, glC]
            go_simp
            refine hK.out _ _ (fun _ => HS4.out _ BLb.out) ?_
            clear hK K
            (try simp only [glA, glB, glC, Act.put, glD, glE, glF])
            refine wpAnyJ_take 11 (v := ?_) (by first | exact hF | exact wideFn) (HS4.out _ BLb.out) rfl (by kernel_rfl) (by kernel_rfl) (by kernel_rfl) (by kernel_rfl) rfl ?_ (by first | exact fun _ _ _ h => h | exact fun _ _ _ h => hQ2 _ _ _ _ _ h) ?_
            rotate_left
            · intro W hSW
              simp only [glA, glB, glC]
              (try dsimp only at hSW)
              go_simp
              with_reducible rfl
            (try simp only [glA, glB, glC, Act.put, glD, glE, glF])
            refine wpAnyJ_done (by kernel_rfl) ?_
            go_wp2_with fail
            go_meet
            refine ⟨_, ad4 a2 a4 a6 a8, rfl, hide (OpI.init HBB.out ?_ ?_ ?_ ?_ ?_ ?_ ?_ ?_ ?_ NE24.out NE26.out NE28.out NE46.out NE48.out NE68.out ?_ ?_ ?_ ?_ ?_)⟩
            · have := BL4.out.size; have := HLO.out; have := HM.out.size; omega
            · have := HL2.out; have := HLO.out; have := HM.out.size; omega
            · have := HL4.out; have := HLO.out; have := HM.out.size; omega
            · have := HL6.out; have := HLO.out; have := HM.out.size; omega
            · have := HL8.out; have := HLO.out; have := HM.out.size; omega
            · have := K2.out.lt; omega
            · have := K4.out.lt; omega
            · have := K6.out.lt; omega
            · have := K8.out.lt; omega
            · rw [HN.out.1, HN.out.2.1, HN.out.2.2]; exact Blk.new _ _ _
            · rw [HN.out.1]; exact K2.out.ext hb
            · rw [HN.out.1]; exact K4.out.ext hb
            · rw [HN.out.1]; exact K6.out.ext hb
            · rw [HN.out.1]; exact K8.out.ext hb
      · refine ⟨_, rfl, fun K hK => ?_⟩
        have BL2 := hide (BL1.out.alloc BL1.out.size (.cells (rowV n fun _ => .int .u16 0) 86))
        have hb : Below wL1.heap.size wL1 (wL1.alloc (.cells (rowV n fun _ => .int .u16 0) 86)) := (Below.refl _ _).alloc (Nat.le_refl _) _
        have HL6 : Hid (lo ≤ wL1.heap.size) := hide (by rw [HLO.out]; exact BL1.out.size)
        (try have NE26 : Hid (a2 ≠ wL1.heap.size) := hide (by have := K2.out.lt; omega))
        (try have NE46 : Hid (a4 ≠ wL1.heap.size) := hide (by have := K4.out.lt; omega))
        (try have NE68 : Hid (wL1.heap.size ≠ a8) := hide (by have := K8.out.lt; omega))
        (try replace K2 := hide (K2.out.ext hb))
        (try replace K4 := hide (K4.out.ext hb))
        (try replace K8 := hide (K8.out.ext hb))
        have K6 := hide (Blk.new wL1 86 (rowV n fun _ => .int .u16 0))
        clear hb
        simp only [glA, glB, glC]
        go_simp
        refine hK.out _ _ (fun _ => HS4.out _ BL2.out) ?_
        clear hK K
        (try simp only [glA, glB, glC, Act.put, glD, glE, glF])
        obtain ⟨a6, hT⟩ : ∃ x, wL1.heap.size = x := ⟨_, rfl⟩
        rw [hT] at K6 HL6 ⊢
        (try rw [hT] at NE26)
        (try rw [hT] at NE46)
        (try rw [hT] at NE68)
        clear hT
        obtain ⟨wL2, hw⟩ : ∃ x, wL1.alloc (.cells (rowV n fun _ => .int .u16 0) 86) = x := ⟨_, rfl⟩
        rw [hw] at K6 BL2 ⊢
        (try rw [hw] at K2)
        (try rw [hw] at K4)
        (try rw [hw] at K8)
        clear hw
        refine wpAnyJ_list [2, 8] (by kernel_rfl) (by decide) (fun i hi => ?_)
        rcases (by simpa using hi : i = 2 ∨ i = 8) with rfl | rfl
        · refine ⟨_, rfl, fun K hK => ?_⟩
          have BL3 := hide (BL2.out.alloc BL2.out.size (.cells (rowV n fun _ => .int .u16 0) 86))
          have hb : Below wL2.heap.size wL2 (wL2.alloc (.cells (rowV n fun _ => .int .u16 0) 86)) := (Below.refl _ _).alloc (Nat.le_refl _) _
          have HL2 : Hid (lo ≤ wL2.heap.size) := hide (by rw [HLO.out]; exact BL2.out.size)
          (try have NE24 : Hid (wL2.heap.size ≠ a4) := hide (by have := K4.out.lt; omega))
          (try have NE26 : Hid (wL2.heap.size ≠ a6) := hide (by have := K6.out.lt; omega))
          (try have NE28 : Hid (wL2.heap.size ≠ a8) := hide (by have := K8.out.lt; omega))
          (try replace K4 := hide (K4.out.ext hb))
          (try replace K6 := hide (K6.out.ext hb))
          (try replace K8 := hide (K8.out.ext hb))
          have K2 := hide (Blk.new wL2 86 (rowV n fun _ => .int .u16 0))
          clear hb
          simp only [glA, glB, glC]
          go_simp
          refine hK.out _ _ (fun _ => HS4.out _ BL3.out) ?_
          clear hK K
          (try simp only [glA, glB, glC, Act.put, glD, glE, glF])
          obtain ⟨a2, hT⟩ : ∃ x, wL2.heap.size = x := ⟨_, rfl⟩
          rw [hT] at K2 HL2 ⊢
          (try rw [hT] at NE24)
          (try rw [hT] at NE26)
          (try rw [hT] at NE28)
          clear hT
          obtain ⟨wL3, hw⟩ : ∃ x, wL2.alloc (.cells (rowV n fun _ => .int .u16 0) 86) = x := ⟨_, rfl⟩
          rw [hw] at K2 BL3 ⊢
          (try rw [hw] at K4)
          (try rw [hw] at K6)
          (try rw [hw] at K8)
          clear hw
          refine wpAnyJ_one 8 rfl (by kernel_rfl) (fun K hK => ?_)
          have BL4 := hide (BL3.out.alloc BL3.out.size (.cells (rowV n fun _ => .int .u16 0) 86))
          have hb : Below wL3.heap.size wL3 (wL3.alloc (.cells (rowV n fun _ => .int .u16 0) 86)) := (Below.refl _ _).alloc (Nat.le_refl _) _
          have HL8 : Hid (lo ≤ wL3.heap.size) := hide (by rw [HLO.out]; exact BL3.out.size)
          (try have NE28 : Hid (a2 ≠ wL3.heap.size) := hide (by have := K2.out.lt; omega))
          (try have NE48 : Hid (a4 ≠ wL3.heap.size) := hide (by have := K4.out.lt; omega))
          (try have NE68 : Hid (a6 ≠ wL3.heap.size) := hide (by have := K6.out.lt; omega))
          (try replace K2 := hide (K2.out.ext hb))
          (try replace K4 := hide (K4.out.ext hb))
          (try replace K6 := hide (K6.out.ext hb))
          have K8 := hide (Blk.new wL3 86 (rowV n fun _ => .int .u16 0))
          clear hb
          simp only [glA, glB, glC]
          go_simp
          refine hK.out _ _ (fun _ => HS4.out _ BL4.out) ?_
          clear hK K
          (try simp only [glA, glB, glC, Act.put, glD, glE, glF])
          obtain ⟨a8, hT⟩ : ∃ x, wL3.heap.size = x := ⟨_, rfl⟩
          rw [hT] at K8 HL8 ⊢
          (try rw [hT] at NE28)
          (try rw [hT] at NE48)
          (try rw [hT] at NE68)
          clear hT
          obtain ⟨wL4, hw⟩ : ∃ x, wL3.alloc (.cells (rowV n fun _ => .int .u16 0) 86) = x := ⟨_, rfl⟩
          rw [hw] at K8 BL4 ⊢
          (try rw [hw] at K2)
          (try rw [hw] at K4)
          (try rw [hw] at K6)
          clear hw
          as_aux_lemma =>
            refine wpAnyJ_take 9 (v := .agg #[.slice d.A n d.c, .int .i64 la, .int .i64 tl, .slice (some ⟨a2, 0, none⟩) n n, .slice (some ⟨a4, 0, none⟩) n n, .slice (some ⟨a6, 0, none⟩) n n, .slice (some ⟨a8, 0, none⟩) n n, .int .u16 0]) wideFn (HS4.out _ BL4.out) rfl (by kernel_rfl) (by kernel_rfl) (by kernel_rfl) (by kernel_rfl) rfl (fun W _ => by simp only [glA, glB, glC]; refine exec_build rfl ?_; simp only [List.map_toArray, List.map_cons, List.map_nil]; go_simp; exact built_book _ _ _ _ _ _ _ _ _) (fun _ _ _ h => h) ?_
            (try simp only [glA, glB, glC, Act.put, glD, glE, glF])
            have hb : Below wL4.heap.size wL4 (wL4.alloc (.cells #[.slice d.A n d.c, .int .i64 la, .int .i64 tl, .slice (some ⟨a2, 0, none⟩) n n, .slice (some ⟨a4, 0, none⟩) n n, .slice (some ⟨a6, 0, none⟩) n n, .slice (some ⟨a8, 0, none⟩) n n, .int .u16 0] 133)) := (Below.refl _ _).alloc (Nat.le_refl _) _
            have HBB := hide (HM.out.trans ((BL4.out.trans (hb.mono BL4.out.size)).mono HM.out.size))
            have BLb := hide (BL4.out.trans (hb.mono BL4.out.size))
            refine wpAnyJ_one 10 rfl (by kernel_rfl) (fun K hK => ?_)
            simp only [glA, glB, glC]
            go_simp
            refine hK.out _ _ (fun _ => HS4.out _ BLb.out) ?_
            clear hK K
            (try simp only [glA, glB, glC, Act.put, glD, glE, glF])
            refine wpAnyJ_take 11 (v := ?_) (by first | exact hF | exact wideFn) (HS4.out _ BLb.out) rfl (by kernel_rfl) (by kernel_rfl) (by kernel_rfl) (by kernel_rfl) rfl ?_ (by first | exact fun _ _ _ h => h | exact fun _ _ _ h => hQ2 _ _ _ _ _ h) ?_
            rotate_left
            · intro W hSW
              simp only [glA, glB, glC]
              (try dsimp only at hSW)
              go_simp
              with_reducible rfl
            (try simp only [glA, glB, glC, Act.put, glD, glE, glF])
            refine wpAnyJ_done (by kernel_rfl) ?_
            go_wp2_with fail
            go_meet
            refine ⟨_, ad4 a2 a4 a6 a8, rfl, hide (OpI.init HBB.out ?_ ?_ ?_ ?_ ?_ ?_ ?_ ?_ ?_ NE24.out NE26.out NE28.out NE46.out NE48.out NE68.out ?_ ?_ ?_ ?_ ?_)⟩
            · have := BL4.out.size; have := HLO.out; have := HM.out.size; omega
            · have := HL2.out; have := HLO.out; have := HM.out.size; omega
            · have := HL4.out; have := HLO.out; have := HM.out.size; omega
            · have := HL6.out; have := HLO.out; have := HM.out.size; omega
            · have := HL8.out; have := HLO.out; have := HM.out.size; omega
            · have := K2.out.lt; omega
            · have := K4.out.lt; omega
            · have := K6.out.lt; omega
            · have := K8.out.lt; omega
            · rw [HN.out.1, HN.out.2.1, HN.out.2.2]; exact Blk.new _ _ _
            · rw [HN.out.1]; exact K2.out.ext hb
            · rw [HN.out.1]; exact K4.out.ext hb
            · rw [HN.out.1]; exact K6.out.ext hb
            · rw [HN.out.1]; exact K8.out.ext hb
        · refine ⟨_, rfl, fun K hK => ?_⟩
          have BL3 := hide (BL2.out.alloc BL2.out.size (.cells (rowV n fun _ => .int .u16 0) 86))
          have hb : Below wL2.heap.size wL2 (wL2.alloc (.cells (rowV n fun _ => .int .u16 0) 86)) := (Below.refl _ _).alloc (Nat.le_refl _) _
          have HL8 : Hid (lo ≤ wL2.heap.size) := hide (by rw [HLO.out]; exact BL2.out.size)
          (try have NE28 : Hid (a2 ≠ wL2.heap.size) := hide (by have := K2.out.lt; omega))
          (try have NE48 : Hid (a4 ≠ wL2.heap.size) := hide (by have := K4.out.lt; omega))
          (try have NE68 : Hid (a6 ≠ wL2.heap.size) := hide (by have := K6.out.lt; omega))
          (try replace K2 := hide (K2.out.ext hb))
          (try replace K4 := hide (K4.out.ext hb))
          (try replace K6 := hide (K6.out.ext hb))
          have K8 := hide (Blk.new wL2 86 (rowV n fun _ => .int .u16 0))
          clear hb
          simp only [glA, glB, glC]
          go_simp
          refine hK.out _ _ (fun _ => HS4.out _ BL3.out) ?_
          clear hK K
          (try simp only [glA, glB, glC, Act.put, glD, glE, glF])
          obtain ⟨a8, hT⟩ : ∃ x, wL2.heap.size = x := ⟨_, rfl⟩
          rw [hT] at K8 HL8 ⊢
          (try rw [hT] at NE28)
          (try rw [hT] at NE48)
          (try rw [hT] at NE68)
          clear hT
          obtain ⟨wL3, hw⟩ : ∃ x, wL2.alloc (.cells (rowV n fun _ => .int .u16 0) 86) = x := ⟨_, rfl⟩
          rw [hw] at K8 BL3 ⊢
          (try rw [hw] at K2)
          (try rw [hw] at K4)
          (try rw [hw] at K6)
          clear hw
          refine wpAnyJ_one 2 rfl (by kernel_rfl) (fun K hK => ?_)
          have BL4 := hide (BL3.out.alloc BL3.out.size (.cells (rowV n fun _ => .int .u16 0) 86))
          have hb : Below wL3.heap.size wL3 (wL3.alloc (.cells (rowV n fun _ => .int .u16 0) 86)) := (Below.refl _ _).alloc (Nat.le_refl _) _
          have HL2 : Hid (lo ≤ wL3.heap.size) := hide (by rw [HLO.out]; exact BL3.out.size)
          (try have NE24 : Hid (wL3.heap.size ≠ a4) := hide (by have := K4.out.lt; omega))
          (try have NE26 : Hid (wL3.heap.size ≠ a6) := hide (by have := K6.out.lt; omega))
          (try have NE28 : Hid (wL3.heap.size ≠ a8) := hide (by have := K8.out.lt; omega))
          (try replace K4 := hide (K4.out.ext hb))
          (try replace K6 := hide (K6.out.ext hb))
          (try replace K8 := hide (K8.out.ext hb))
          have K2 := hide (Blk.new wL3 86 (rowV n fun _ => .int .u16 0))
          clear hb
          simp only [glA, glB, glC]
          go_simp
          refine hK.out _ _ (fun _ => HS4.out _ BL4.out) ?_
          clear hK K
          (try simp only [glA, glB, glC, Act.put, glD, glE, glF])
          obtain ⟨a2, hT⟩ : ∃ x, wL3.heap.size = x := ⟨_, rfl⟩
          rw [hT] at K2 HL2 ⊢
          (try rw [hT] at NE24)
          (try rw [hT] at NE26)
          (try rw [hT] at NE28)
          clear hT
          obtain ⟨wL4, hw⟩ : ∃ x, wL3.alloc (.cells (rowV n fun _ => .int .u16 0) 86) = x := ⟨_, rfl⟩
          rw [hw] at K2 BL4 ⊢
          (try rw [hw] at K4)
          (try rw [hw] at K6)
          (try rw [hw] at K8)
          clear hw
          as_aux_lemma =>
            refine wpAnyJ_take 9 (v := .agg #[.slice d.A n d.c, .int .i64 la, .int .i64 tl, .slice (some ⟨a2, 0, none⟩) n n, .slice (some ⟨a4, 0, none⟩) n n, .slice (some ⟨a6, 0, none⟩) n n, .slice (some ⟨a8, 0, none⟩) n n, .int .u16 0]) wideFn (HS4.out _ BL4.out) rfl (by kernel_rfl) (by kernel_rfl) (by kernel_rfl) (by kernel_rfl) rfl (fun W _ => by simp only [glA, glB, glC]; refine exec_build rfl ?_; simp only [List.map_toArray, List.map_cons, List.map_nil]; go_simp; exact built_book _ _ _ _ _ _ _ _ _) (fun _ _ _ h => h) ?_
            (try simp only [glA, glB, glC, Act.put, glD, glE, glF])
            have hb : Below wL4.heap.size wL4 (wL4.alloc (.cells #[.slice d.A n d.c, .int .i64 la, .int .i64 tl, .slice (some ⟨a2, 0, none⟩) n n, .slice (some ⟨a4, 0, none⟩) n n, .slice (some ⟨a6, 0, none⟩) n n, .slice (some ⟨a8, 0, none⟩) n n, .int .u16 0] 133)) := (Below.refl _ _).alloc (Nat.le_refl _) _
            have HBB := hide (HM.out.trans ((BL4.out.trans (hb.mono BL4.out.size)).mono HM.out.size))
            have BLb := hide (BL4.out.trans (hb.mono BL4.out.size))
            refine wpAnyJ_one 10 rfl (by kernel_rfl) (fun K hK => ?_)
            simp only [glA, glB, glC]
            go_simp
            refine hK.out _ _ (fun _ => HS4.out _ BLb.out) ?_
            clear hK K
            (try simp only [glA, glB, glC, Act.put, glD, glE, glF])
            refine wpAnyJ_take 11 (v := ?_) (by first | exact hF | exact wideFn) (HS4.out _ BLb.out) rfl (by kernel_rfl) (by kernel_rfl) (by kernel_rfl) (by kernel_rfl) rfl ?_ (by first | exact fun _ _ _ h => h | exact fun _ _ _ h => hQ2 _ _ _ _ _ h) ?_
            rotate_left
            · intro W hSW
              simp only [glA, glB, glC]
              (try dsimp only at hSW)
              go_simp
              with_reducible rfl
            (try simp only [glA, glB, glC, Act.put, glD, glE, glF])
            refine wpAnyJ_done (by kernel_rfl) ?_
            go_wp2_with fail
            go_meet
            refine ⟨_, ad4 a2 a4 a6 a8, rfl, hide (OpI.init HBB.out ?_ ?_ ?_ ?_ ?_ ?_ ?_ ?_ ?_ NE24.out NE26.out NE28.out NE46.out NE48.out NE68.out ?_ ?_ ?_ ?_ ?_)⟩
            · have := BL4.out.size; have := HLO.out; have := HM.out.size; omega
            · have := HL2.out; have := HLO.out; have := HM.out.size; omega
            · have := HL4.out; have := HLO.out; have := HM.out.size; omega
            · have := HL6.out; have := HLO.out; have := HM.out.size; omega
            · have := HL8.out; have := HLO.out; have := HM.out.size; omega
            · have := K2.out.lt; omega
            · have := K4.out.lt; omega
            · have := K6.out.lt; omega
            · have := K8.out.lt; omega
            · rw [HN.out.1, HN.out.2.1, HN.out.2.2]; exact Blk.new _ _ _
            · rw [HN.out.1]; exact K2.out.ext hb
            · rw [HN.out.1]; exact K4.out.ext hb
            · rw [HN.out.1]; exact K6.out.ext hb
            · rw [HN.out.1]; exact K8.out.ext hb
      · refine ⟨_, rfl, fun K hK => ?_⟩
        have BL2 := hide (BL1.out.alloc BL1.out.size (.cells (rowV n fun _ => .int .u16 0) 86))
        have hb : Below wL1.heap.size wL1 (wL1.alloc (.cells (rowV n fun _ => .int .u16 0) 86)) := (Below.refl _ _).alloc (Nat.le_refl _) _
        have HL8 : Hid (lo ≤ wL1.heap.size) := hide (by rw [HLO.out]; exact BL1.out.size)
        (try have NE28 : Hid (a2 ≠ wL1.heap.size) := hide (by have := K2.out.lt; omega))
        (try have NE48 : Hid (a4 ≠ wL1.heap.size) := hide (by have := K4.out.lt; omega))
        (try have NE68 : Hid (a6 ≠ wL1.heap.size) := hide (by have := K6.out.lt; omega))
        (try replace K2 := hide (K2.out.ext hb))
        (try replace K4 := hide (K4.out.ext hb))
        (try replace K6 := hide (K6.out.ext hb))
        have K8 := hide (Blk.new wL1 86 (rowV n fun _ => .int .u16 0))
        clear hb
        simp only [glA, glB, glC]
        go_simp
        refine hK.out _ _ (fun _ => HS4.out _ BL2.out) ?_
        clear hK K
        (try simp only [glA, glB, glC, Act.put, glD, glE, glF])
        obtain ⟨a8, hT⟩ : ∃ x, wL1.heap.size = x := ⟨_, rfl⟩
        rw [hT] at K8 HL8 ⊢
        (try rw [hT] at NE28)
        (try rw [hT] at NE48)
        (try rw [hT] at NE68)
        clear hT
        obtain ⟨wL2, hw⟩ : ∃ x, wL1.alloc (.cells (rowV n fun _ => .int .u16 0) 86) = x := ⟨_, rfl⟩
        rw [hw] at K8 BL2 ⊢
        (try rw [hw] at K2)
        (try rw [hw] at K4)
        (try rw [hw] at K6)
        clear hw
        refine wpAnyJ_list [2, 6] (by kernel_rfl) (by decide) (fun i hi => ?_)
        rcases (by simpa using hi : i = 2 ∨ i = 6) with rfl | rfl
        · refine ⟨_, rfl, fun K hK => ?_⟩
          have BL3 := hide (BL2.out.alloc BL2.out.size (.cells (rowV n fun _ => .int .u16 0) 86))
          have hb : Below wL2.heap.size wL2 (wL2.alloc (.cells (rowV n fun _ => .int .u16 0) 86)) := (Below.refl _ _).alloc (Nat.le_refl _) _
          have HL2 : Hid (lo ≤ wL2.heap.size) := hide (by rw [HLO.out]; exact BL2.out.size)
          (try have NE24 : Hid (wL2.heap.size ≠ a4) := hide (by have := K4.out.lt; omega))
          (try have NE26 : Hid (wL2.heap.size ≠ a6) := hide (by have := K6.out.lt; omega))
          (try have NE28 : Hid (wL2.heap.size ≠ a8) := hide (by have := K8.out.lt; omega))
          (try replace K4 := hide (K4.out.ext hb))
          (try replace K6 := hide (K6.out.ext hb))
          (try replace K8 := hide (K8.out.ext hb))
          have K2 := hide (Blk.new wL2 86 (rowV n fun _ => .int .u16 0))
          clear hb
          simp only [glA, glB, glC]
          go_simp
          refine hK.out _ _ (fun _ => HS4.out _ BL3.out) ?_
          clear hK K
          (try simp only [glA, glB, glC, Act.put, glD, glE, glF])
          obtain ⟨a2, hT⟩ : ∃ x, wL2.heap.size = x := ⟨_, rfl⟩
          rw [hT] at K2 HL2 ⊢
          (try rw [hT] at NE24)
          (try rw [hT] at NE26)
          (try rw [hT] at NE28)
          clear hT
          obtain ⟨wL3, hw⟩ : ∃ x, wL2.alloc (.cells (rowV n fun _ => .int .u16 0) 86) = x := ⟨_, rfl⟩
          rw [hw] at K2 BL3 ⊢
          (try rw [hw] at K4)
          (try rw [hw] at K6)
          (try rw [hw] at K8)
          clear hw
          refine wpAnyJ_one 6 rfl (by kernel_rfl) (fun K hK => ?_)
          have BL4 := hide (BL3.out.alloc BL3.out.size (.cells (rowV n fun _ => .int .u16 0) 86))
          have hb : Below wL3.heap.size wL3 (wL3.alloc (.cells (rowV n fun _ => .int .u16 0) 86)) := (Below.refl _ _).alloc (Nat.le_refl _) _
          have HL6 : Hid (lo ≤ wL3.heap.size) := hide (by rw [HLO.out]; exact BL3.out.size)
          (try have NE26 : Hid (a2 ≠ wL3.heap.size) := hide (by have := K2.out.lt; omega))
          (try have NE46 : Hid (a4 ≠ wL3.heap.size) := hide (by have := K4.out.lt; omega))
          (try have NE68 : Hid (wL3.heap.size ≠ a8) := hide (by have := K8.out.lt; omega))
          (try replace K2 := hide (K2.out.ext hb))
          (try replace K4 := hide (K4.out.ext hb))
          (try replace K8 := hide (K8.out.ext hb))
          have K6 := hide (Blk.new wL3 86 (rowV n fun _ => .int .u16 0))
          clear hb
          simp only [glA, glB, glC]
          go_simp
          refine hK.out _ _ (fun _ => HS4.out _ BL4.out) ?_
          clear hK K
          (try simp only [glA, glB, glC, Act.put, glD, glE, glF])
          obtain ⟨a6, hT⟩ : ∃ x, wL3.heap.size = x := ⟨_, rfl⟩
          rw [hT] at K6 HL6 ⊢
          (try rw [hT] at NE26)
          (try rw [hT] at NE46)
          (try rw [hT] at NE68)
          clear hT
          obtain ⟨wL4, hw⟩ : ∃ x, wL3.alloc (.cells (rowV n fun _ => .int .u16 0) 86) = x := ⟨_, rfl⟩
          rw [hw] at K6 BL4 ⊢
          (try rw [hw] at K2)
          (try rw [hw] at K4)
          (try rw [hw] at K8)
          clear hw
          as_aux_lemma =>
            refine wpAnyJ_take 9 (v := .agg #[.slice d.A n d.c, .int .i64 la, .int .i64 tl, .slice (some ⟨a2, 0, none⟩) n n, .slice (some ⟨a4, 0, none⟩) n n, .slice (some ⟨a6, 0, none⟩) n n, .slice (some ⟨a8, 0, none⟩) n n, .int .u16 0]) wideFn (HS4.out _ BL4.out) rfl (by kernel_rfl) (by kernel_rfl) (by kernel_rfl) (by kernel_rfl) rfl (fun W _ => by simp only [glA, glB, glC]; refine exec_build rfl ?_; simp only [List.map_toArray, List.map_cons, List.map_nil]; go_simp; exact built_book _ _ _ _ _ _ _ _ _) (fun _ _ _ h => h) ?_
            (try simp only [glA, glB, glC, Act.put, glD, glE, glF])
            have hb : Below wL4.heap.size wL4 (wL4.alloc (.cells #[.slice d.A n d.c, .int .i64 la, .int .i64 tl, .slice (some ⟨a2, 0, none⟩) n n, .slice (some ⟨a4, 0, none⟩) n n, .slice (some ⟨a6, 0, none⟩) n n, .slice (some ⟨a8, 0, none⟩) n n, .int .u16 0] 133)) := (Below.refl _ _).alloc (Nat.le_refl _) _
            have HBB := hide (HM.out.trans ((BL4.out.trans (hb.mono BL4.out.size)).mono HM.out.size))
            have BLb := hide (BL4.out.trans (hb.mono BL4.out.size))
            refine wpAnyJ_one 10 rfl (by kernel_rfl) (fun K hK => ?_)
            simp only [glA, glB, glC]
            go_simp
            refine hK.out _ _ (fun _ => HS4.out _ BLb.out) ?_
            clear hK K
            (try simp only [glA, glB, glC, Act.put, glD, glE, glF])
            refine wpAnyJ_take 11 (v := ?_) (by first | exact hF | exact wideFn) (HS4.out _ BLb.out) rfl (by kernel_rfl) (by kernel_rfl) (by kernel_rfl) (by kernel_rfl) rfl ?_ (by first | exact fun _ _ _ h => h | exact fun _ _ _ h => hQ2 _ _ _ _ _ h) ?_
            rotate_left
            · intro W hSW
              simp only [glA, glB, glC]
              (try dsimp only at hSW)
              go_simp
              with_reducible rfl
            (try simp only [glA, glB, glC, Act.put, glD, glE, glF])
            refine wpAnyJ_done (by kernel_rfl) ?_
            go_wp2_with fail
            go_meet
            refine ⟨_, ad4 a2 a4 a6 a8, rfl, hide (OpI.init HBB.out ?_ ?_ ?_ ?_ ?_ ?_ ?_ ?_ ?_ NE24.out NE26.out NE28.out NE46.out NE48.out NE68.out ?_ ?_ ?_ ?_ ?_)⟩
            · have := BL4.out.size; have := HLO.out; have := HM.out.size; omega
            · have := HL2.out; have := HLO.out; have := HM.out.size; omega
            · have := HL4.out; have := HLO.out; have := HM.out.size; omega
            · have := HL6.out; have := HLO.out; have := HM.out.size; omega
            · have := HL8.out; have := HLO.out; have := HM.out.size; omega
            · have := K2.out.lt; omega
            · have := K4.out.lt; omega
            · have := K6.out.lt; omega
            · have := K8.out.lt; omega
            · rw [HN.out.1, HN.out.2.1, HN.out.2.2]; exact Blk.new _ _ _
            · rw [HN.out.1]; exact K2.out.ext hb
            · rw [HN.out.1]; exact K4.out.ext hb
            · rw [HN.out.1]; exact K6.out.ext hb
            · rw [HN.out.1]; exact K8.out.ext hb
        · refine ⟨_, rfl, fun K hK => ?_⟩
          have BL3 := hide (BL2.out.alloc BL2.out.size (.cells (rowV n fun _ => .int .u16 0) 86))
          have hb : Below wL2.heap.size wL2 (wL2.alloc (.cells (rowV n fun _ => .int .u16 0) 86)) := (Below.refl _ _).alloc (Nat.le_refl _) _
          have HL6 : Hid (lo ≤ wL2.heap.size) := hide (by rw [HLO.out]; exact BL2.out.size)
          (try have NE26 : Hid (a2 ≠ wL2.heap.size) := hide (by have := K2.out.lt; omega))
          (try have NE46 : Hid (a4 ≠ wL2.heap.size) := hide (by have := K4.out.lt; omega))
          (try have NE68 : Hid (wL2.heap.size ≠ a8) := hide (by have := K8.out.lt; omega))
          (try replace K2 := hide (K2.out.ext hb))
          (try replace K4 := hide (K4.out.ext hb))
          (try replace K8 := hide (K8.out.ext hb))
          have K6 := hide (Blk.new wL2 86 (rowV n fun _ => .int .u16 0))
          clear hb
          simp only [glA, glB, glC]
          go_simp
          refine hK.out _ _ (fun _ => HS4.out _ BL3.out) ?_
          clear hK K
          (try simp only [glA, glB, glC, Act.put, glD, glE, glF])
          obtain ⟨a6, hT⟩ : ∃ x, wL2.heap.size = x := ⟨_, rfl⟩
          rw [hT] at K6 HL6 ⊢
          (try rw [hT] at NE26)
          (try rw [hT] at NE46)
          (try rw [hT] at NE68)
          clear hT
          obtain ⟨wL3, hw⟩ : ∃ x, wL2.alloc (.cells (rowV n fun _ => .int .u16 0) 86) = x := ⟨_, rfl⟩
          rw [hw] at K6 BL3 ⊢
          (try rw [hw] at K2)
          (try rw [hw] at K4)
          (try rw [hw] at K8)
          clear hw
          refine wpAnyJ_one 2 rfl (by kernel_rfl) (fun K hK => ?_)
          have BL4 := hide (BL3.out.alloc BL3.out.size (.cells (rowV n fun _ => .int .u16 0) 86))
          have hb : Below wL3.heap.size wL3 (wL3.alloc (.cells (rowV n fun _ => .int .u16 0) 86)) := (Below.refl _ _).alloc (Nat.le_refl _) _
          have HL2 : Hid (lo ≤ wL3.heap.size) := hide (by rw [HLO.out]; exact BL3.out.size)
          (try have NE24 : Hid (wL3.heap.size ≠ a4) := hide (by have := K4.out.lt; omega))
          (try have NE26 : Hid (wL3.heap.size ≠ a6) := hide (by have := K6.out.lt; omega))
          (try have NE28 : Hid (wL3.heap.size ≠ a8) := hide (by have := K8.out.lt; omega))
          (try replace K4 := hide (K4.out.ext hb))
          (try replace K6 := hide (K6.out.ext hb))
          (try replace K8 := hide (K8.out.ext hb))
          have K2 := hide (Blk.new wL3 86 (rowV n fun _ => .int .u16 0))
          clear hb
          simp only [glA, glB, glC]
          go_simp
          refine hK.out _ _ (fun _ => HS4.out _ BL4.out) ?_
          clear hK K
          (try simp only [glA, glB, glC, Act.put, glD, glE, glF])
          obtain ⟨a2, hT⟩ : ∃ x, wL3.heap.size = x := ⟨_, rfl⟩
          rw [hT] at K2 HL2 ⊢
          (try rw [hT] at NE24)
          (try rw [hT] at NE26)
          (try rw [hT] at NE28)
          clear hT
          obtain ⟨wL4, hw⟩ : ∃ x, wL3.alloc (.cells (rowV n fun _ => .int .u16 0) 86) = x := ⟨_, rfl⟩
          rw [hw] at K2 BL4 ⊢
          (try rw [hw] at K4)
          (try rw [hw] at K6)
          (try rw [hw] at K8)
          clear hw
          as_aux_lemma =>
            refine wpAnyJ_take 9 (v := .agg #[.slice d.A n d.c, .int .i64 la, .int .i64 tl, .slice (some ⟨a2, 0, none⟩) n n, .slice (some ⟨a4, 0, none⟩) n n, .slice (some ⟨a6, 0, none⟩) n n, .slice (some ⟨a8, 0, none⟩) n n, .int .u16 0]) wideFn (HS4.out _ BL4.out) rfl (by kernel_rfl) (by kernel_rfl) (by kernel_rfl) (by kernel_rfl) rfl (fun W _ => by simp only [glA, glB, glC]; refine exec_build rfl ?_; simp only [List.map_toArray, List.map_cons, List.map_nil]; go_simp; exact built_book _ _ _ _ _ _ _ _ _) (fun _ _ _ h => h) ?_
            (try simp only [glA, glB, glC, Act.put, glD, glE, glF])
            have hb : Below wL4.heap.size wL4 (wL4.alloc (.cells #[.slice d.A n d.c, .int .i64 la, .int .i64 tl, .slice (some ⟨a2, 0, none⟩) n n, .slice (some ⟨a4, 0, none⟩) n n, .slice (some ⟨a6, 0, none⟩) n n, .slice (some ⟨a8, 0, none⟩) n n, .int .u16 0] 133)) := (Below.refl _ _).alloc (Nat.le_refl _) _
            have HBB := hide (HM.out.trans ((BL4.out.trans (hb.mono BL4.out.size)).mono HM.out.size))
            have BLb := hide (BL4.out.trans (hb.mono BL4.out.size))
            refine wpAnyJ_one 10 rfl (by kernel_rfl) (fun K hK => ?_)
            simp only [glA, glB, glC]
            go_simp
            refine hK.out _ _ (fun _ => HS4.out _ BLb.out) ?_
            clear hK K
            (try simp only [glA, glB, glC, Act.put, glD, glE, glF])
            refine wpAnyJ_take 11 (v := ?_) (by first | exact hF | exact wideFn) (HS4.out _ BLb.out) rfl (by kernel_rfl) (by kernel_rfl) (by kernel_rfl) (by kernel_rfl) rfl ?_ (by first | exact fun _ _ _ h => h | exact fun _ _ _ h => hQ2 _ _ _ _ _ h) ?_
            rotate_left
            · intro W hSW
              simp only [glA, glB, glC]
              (try dsimp only at hSW)
              go_simp
              with_reducible rfl
            (try simp only [glA, glB, glC, Act.put, glD, glE, glF])
            refine wpAnyJ_done (by kernel_rfl) ?_
            go_wp2_with fail
            go_meet
            refine ⟨_, ad4 a2 a4 a6 a8, rfl, hide (OpI.init HBB.out ?_ ?_ ?_ ?_ ?_ ?_ ?_ ?_ ?_ NE24.out NE26.out NE28.out NE46.out NE48.out NE68.out ?_ ?_ ?_ ?_ ?_)⟩
            · have := BL4.out.size; have := HLO.out; have := HM.out.size; omega
            · have := HL2.out; have := HLO.out; have := HM.out.size; omega
            · have := HL4.out; have := HLO.out; have := HM.out.size; omega
            · have := HL6.out; have := HLO.out; have := HM.out.size; omega
            · have := HL8.out; have := HLO.out; have := HM.out.size; omega
            · have := K2.out.lt; omega
            · have := K4.out.lt; omega
            · have := K6.out.lt; omega
            · have := K8.out.lt; omega
            · rw [HN.out.1, HN.out.2.1, HN.out.2.2]; exact Blk.new _ _ _
            · rw [HN.out.1]; exact K2.out.ext hb
            · rw [HN.out.1]; exact K4.out.ext hb
            · rw [HN.out.1]; exact K6.out.ext hb
            · rw [HN.out.1]; exact K8.out.ext hb
    · refine ⟨_, rfl, fun K hK => ?_⟩
      have BL1 := hide (BL0.out.alloc BL0.out.size (.cells (rowV n fun _ => .int .u16 0) 86))
      have hb : Below wL0.heap.size wL0 (wL0.alloc (.cells (rowV n fun _ => .int .u16 0) 86)) := (Below.refl _ _).alloc (Nat.le_refl _) _
      have HL6 : Hid (lo ≤ wL0.heap.size) := hide (by rw [HLO.out]; exact BL0.out.size)
      (try have NE26 : Hid (a2 ≠ wL0.heap.size) := hide (by have := K2.out.lt; omega))
      (try have NE46 : Hid (a4 ≠ wL0.heap.size) := hide (by have := K4.out.lt; omega))
      (try have NE68 : Hid (wL0.heap.size ≠ a8) := hide (by have := K8.out.lt; omega))
      (try replace K2 := hide (K2.out.ext hb))
      (try replace K4 := hide (K4.out.ext hb))
      (try replace K8 := hide (K8.out.ext hb))
      have K6 := hide (Blk.new wL0 86 (rowV n fun _ => .int .u16 0))
      clear hb
      simp only [glA, glB, glC]
      go_simp
      refine hK.out _ _ (fun _ => HS4.out _ BL1.out) ?_
      clear hK K
      (try simp only [glA, glB, glC, Act.put, glD, glE, glF])
      obtain ⟨a6, hT⟩ : ∃ x, wL0.heap.size = x := ⟨_, rfl⟩
      rw [hT] at K6 HL6 ⊢
      (try rw [hT] at NE26)
      (try rw [hT] at NE46)
      (try rw [hT] at NE68)
      clear hT
      obtain ⟨wL1, hw⟩ : ∃ x, wL0.alloc (.cells (rowV n fun _ => .int .u16 0) 86) = x := ⟨_, rfl⟩
      rw [hw] at K6 BL1 ⊢
      (try rw [hw] at K2)
      (try rw [hw] at K4)
      (try rw [hw] at K8)
      clear hw
      refine wpAnyJ_list [2, 4, 8] (by kernel_rfl) (by decide) (fun i hi => ?_)
      rcases (by simpa using hi : i = 2 ∨ i = 4 ∨ i = 8) with rfl | rfl | rfl
      · refine ⟨_, rfl, fun K hK => ?_⟩
        have BL2 := hide (BL1.out.alloc BL1.out.size (.cells (rowV n fun _ => .int .u16 0) 86))
        have hb : Below wL1.heap.size wL1 (wL1.alloc (.cells (rowV n fun _ => .int .u16 0) 86)) := (Below.refl _ _).alloc (Nat.le_refl _) _
        have HL2 : Hid (lo ≤ wL1.heap.size) := hide (by rw [HLO.out]; exact BL1.out.size)
        (try have NE24 : Hid (wL1.heap.size ≠ a4) := hide (by have := K4.out.lt; omega))
        (try have NE26 : Hid (wL1.heap.size ≠ a6) := hide (by have := K6.out.lt; omega))
        (try have NE28 : Hid (wL1.heap.size ≠ a8) := hide (by have := K8.out.lt; omega))
        (try replace K4 := hide (K4.out.ext hb))
        (try replace K6 := hide (K6.out.ext hb))
        (try replace K8 := hide (K8.out.ext hb))
        have K2 := hide (Blk.new wL1 86 (rowV n fun _ => .int .u16 0))
        clear hb
        simp only [glA, glB, glC]
        go_simp
        refine hK.out _ _ (fun _ => HS4.out _ BL2.out) ?_
        clear hK K
        (try simp only [glA, glB, glC, Act.put, glD, glE, glF])
        obtain ⟨a2, hT⟩ : ∃ x, wL1.heap.size = x := ⟨_, rfl⟩
        rw [hT] at K2 HL2 ⊢
        (try rw [hT] at NE24)
        (try rw [hT] at NE26)
        (try rw [hT] at NE28)
        clear hT
        obtain ⟨wL2, hw⟩ : ∃ x, wL1.alloc (.cells (rowV n fun _ => .int .u16 0) 86) = x := ⟨_, rfl⟩
        rw [hw] at K2 BL2 ⊢
        (try rw [hw] at K4)
        (try rw [hw] at K6)
        (try rw [hw] at K8)
        clear hw
        refine wpAnyJ_list [4, 8] (by kernel_rfl) (by decide) (fun i hi => ?_)
        rcases (by simpa using hi : i = 4 ∨ i = 8) with rfl | rfl
        · refine ⟨_, rfl, fun K hK => ?_⟩
          have BL3 := hide (BL2.out.alloc BL2.out.size (.cells (rowV n fun _ => .int .u16 0) 86))
          have hb : Below wL2.heap.size wL2 (wL2.alloc (.cells (rowV n fun _ => .int .u16 0) 86)) := (Below.refl _ _).alloc (Nat.le_refl _) _
          have HL4 : Hid (lo ≤ wL2.heap.size) := hide (by rw [HLO.out]; exact BL2.out.size)
          (try have NE24 : Hid (a2 ≠ wL2.heap.size) := hide (by have := K2.out.lt; omega))
          (try have NE46 : Hid (wL2.heap.size ≠ a6) := hide (by have := K6.out.lt; omega))
          (try have NE48 : Hid (wL2.heap.size ≠ a8) := hide (by have := K8.out.lt; omega))
          (try replace K2 := hide (K2.out.ext hb))
          (try replace K6 := hide (K6.out.ext hb))
          (try replace K8 := hide (K8.out.ext hb))
          have K4 := hide (Blk.new wL2 86 (rowV n fun _ => .int .u16 0))
          clear hb
          simp only [glA, glB, glC]
          go_simp
          refine hK.out _ _ (fun _ => HS4.out _ BL3.out) ?_
          clear hK K
          (try simp only [glA, glB, glC, Act.put, glD, glE, glF])
          obtain ⟨a4, hT⟩ : ∃ x, wL2.heap.size = x := ⟨_, rfl⟩
          rw [hT] at K4 HL4 ⊢
          (try rw [hT] at NE24)
          (try rw [hT] at NE46)
          (try rw [hT] at NE48)
          clear hT
          obtain ⟨wL3, hw⟩ : ∃ x, wL2.alloc (.cells (rowV n fun _ => .int .u16 0) 86) = x := ⟨_, rfl⟩
          rw [hw] at K4 BL3 ⊢
          (try rw [hw] at K2)
          (try rw [hw] at K6)
          (try rw [hw] at K8)
          clear hw
          refine wpAnyJ_one 8 rfl (by kernel_rfl) (fun K hK => ?_)
          have BL4 := hide (BL3.out.alloc BL3.out.size (.cells (rowV n fun _ => .int .u16 0) 86))
          have hb : Below wL3.heap.size wL3 (wL3.alloc (.cells (rowV n fun _ => .int .u16 0) 86)) := (Below.refl _ _).alloc (Nat.le_refl _) _
          have HL8 : Hid (lo ≤ wL3.heap.size) := hide (by rw [HLO.out]; exact BL3.out.size)
          (try have NE28 : Hid (a2 ≠ wL3.heap.size) := hide (by have := K2.out.lt; omega))
          (try have NE48 : Hid (a4 ≠ wL3.heap.size) := hide (by have := K4.out.lt; omega))
          (try have NE68 : Hid (a6 ≠ wL3.heap.size) := hide (by have := K6.out.lt; omega))
          (try replace K2 := hide (K2.out.ext hb))
          (try replace K4 := hide (K4.out.ext hb))
          (try replace K6 := hide (K6.out.ext hb))
          have K8 := hide (Blk.new wL3 86 (rowV n fun _ => .int .u16 0))
          clear hb
          simp only [glA, glB, glC]
          go_simp
          refine hK.out _ _ (fun _ => HS4.out _ BL4.out) ?_
          clear hK K
          (try simp only [glA, glB, glC, Act.put, glD, glE, glF])
          obtain ⟨a8, hT⟩ : ∃ x, wL3.heap.size = x := ⟨_, rfl⟩
          rw [hT] at K8 HL8 ⊢
          (try rw [hT] at NE28)
          (try rw [hT] at NE48)
          (try rw [hT] at NE68)
          clear hT
          obtain ⟨wL4, hw⟩ : ∃ x, wL3.alloc (.cells (rowV n fun _ => .int .u16 0) 86) = x := ⟨_, rfl⟩
          rw [hw] at K8 BL4 ⊢
          (try rw [hw] at K2)
          (try rw [hw] at K4)
          (try rw [hw] at K6)
          clear hw
          as_aux_lemma =>
            refine wpAnyJ_take 9 (v := .agg #[.slice d.A n d.c, .int .i64 la, .int .i64 tl, .slice (some ⟨a2, 0, none⟩) n n, .slice (some ⟨a4, 0, none⟩) n n, .slice (some ⟨a6, 0, none⟩) n n, .slice (some ⟨a8, 0, none⟩) n n, .int .u16 0]) wideFn (HS4.out _ BL4.out) rfl (by kernel_rfl) (by kernel_rfl) (by kernel_rfl) (by kernel_rfl) rfl (fun W _ => by simp only [glA, glB, glC]; refine exec_build rfl ?_; simp only [List.map_toArray, List.map_cons, List.map_nil]; go_simp; exact built_book _ _ _ _ _ _ _ _ _) (fun _ _ _ h => h) ?_
            (try simp only [glA, glB, glC, Act.put, glD, glE, glF])
            have hb : Below wL4.heap.size wL4 (wL4.alloc (.cells #[.slice d.A n d.c, .int .i64 la, .int .i64 tl, .slice (some ⟨a2, 0, none⟩) n n, .slice (some ⟨a4, 0, none⟩) n n, .slice (some ⟨a6, 0, none⟩) n n, .slice (some ⟨a8, 0, none⟩) n n, .int .u16 0] 133)) := (Below.refl _ _).alloc (Nat.le_refl _) _
            have HBB := hide (HM.out.trans ((BL4.out.trans (hb.mono BL4.out.size)).mono HM.out.size))
            have BLb := hide (BL4.out.trans (hb.mono BL4.out.size))
            refine wpAnyJ_one 10 rfl (by kernel_rfl) (fun K hK => ?_)
            simp only [glA, glB, glC]
            go_simp
            refine hK.out _ _ (fun _ => HS4.out _ BLb.out) ?_
            clear hK K
            (try simp only [glA, glB, glC, Act.put, glD, glE, glF])
            refine wpAnyJ_take 11 (v := ?_) (by first | exact hF | exact wideFn) (HS4.out _ BLb.out) rfl (by kernel_rfl) (by kernel_rfl) (by kernel_rfl) (by kernel_rfl) rfl ?_ (by first | exact fun _ _ _ h => h | exact fun _ _ _ h => hQ2 _ _ _ _ _ h) ?_
            rotate_left
            · intro W hSW
              simp only [glA, glB, glC]
              (try dsimp only at hSW)
              go_simp
              with_reducible rfl
            (try simp only [glA, glB, glC, Act.put, glD, glE, glF])
            refine wpAnyJ_done (by kernel_rfl) ?_
            go_wp2_with fail
            go_meet
            refine ⟨_, ad4 a2 a4 a6 a8, rfl, hide (OpI.init HBB.out ?_ ?_ ?_ ?_ ?_ ?_ ?_ ?_ ?_ NE24.out NE26.out NE28.out NE46.out NE48.out NE68.out ?_ ?_ ?_ ?_ ?_)⟩
            · have := BL4.out.size; have := HLO.out; have := HM.out.size; omega
            · have := HL2.out; have := HLO.out; have := HM.out.size; omega
            · have := HL4.out; have := HLO.out; have := HM.out.size; omega
            · have := HL6.out; have := HLO.out; have := HM.out.size; omega
            · have := HL8.out; have := HLO.out; have := HM.out.size; omega
            · have := K2.out.lt; omega
            · have := K4.out.lt; omega
            · have := K6.out.lt; omega
            · have := K8.out.lt; omega
            · rw [HN.out.1, HN.out.2.1, HN.out.2.2]; exact Blk.new _ _ _
            · rw [HN.out.1]; exact K2.out.ext hb
            · rw [HN.out.1]; exact K4.out.ext hb
            · rw [HN.out.1]; exact K6.out.ext hb
            · rw [HN.out.1]; exact K8.out.ext hb
        · refine ⟨_, rfl, fun K hK => ?_⟩
          have BL3 := hide (BL2.out.alloc BL2.out.size (.cells (rowV n fun _ => .int .u16 0) 86))
          have hb : Below wL2.heap.size wL2 (wL2.alloc (.cells (rowV n fun _ => .int .u16 0) 86)) := (Below.refl _ _).alloc (Nat.le_refl _) _
          have HL8 : Hid (lo ≤ wL2.heap.size) := hide (by rw [HLO.out]; exact BL2.out.size)
          (try have NE28 : Hid (a2 ≠ wL2.heap.size) := hide (by have := K2.out.lt; omega))
          (try have NE48 : Hid (a4 ≠ wL2.heap.size) := hide (by have := K4.out.lt; omega))
          (try have NE68 : Hid (a6 ≠ wL2.heap.size) := hide (by have := K6.out.lt; omega))
          (try replace K2 := hide (K2.out.ext hb))
          (try replace K4 := hide (K4.out.ext hb))
          (try replace K6 := hide (K6.out.ext hb))
          have K8 := hide (Blk.new wL2 86 (rowV n fun _ => .int .u16 0))
          clear hb
          simp only [glA, glB, glC]
          go_simp
          refine hK.out _ _ (fun _ => HS4.out _ BL3.out) ?_
          clear hK K
          (try simp only [glA, glB, glC, Act.put, glD, glE, glF])
          obtain ⟨a8, hT⟩ : ∃ x, wL2.heap.size = x := ⟨_, rfl⟩
          rw [hT] at K8 HL8 ⊢
          (try rw [hT] at NE28)
          (try rw [hT] at NE48)
          (try rw [hT] at NE68)
          clear hT
          obtain ⟨wL3, hw⟩ : ∃ x, wL2.alloc (.cells (rowV n fun _ => .int .u16 0) 86) = x := ⟨_, rfl⟩
          rw [hw] at K8 BL3 ⊢
          (try rw [hw] at K2)
          (try rw [hw] at K4)
          (try rw [hw] at K6)
          clear hw
          refine wpAnyJ_one 4 rfl (by kernel_rfl) (fun K hK => ?_)
          have BL4 := hide (BL3.out.alloc BL3.out.size (.cells (rowV n fun _ => .int .u16 0) 86))
          have hb : Below wL3.heap.size wL3 (wL3.alloc (.cells (rowV n fun _ => .int .u16 0) 86)) := (Below.refl _ _).alloc (Nat.le_refl _) _
          have HL4 : Hid (lo ≤ wL3.heap.size) := hide (by rw [HLO.out]; exact BL3.out.size)
          (try have NE24 : Hid (a2 ≠ wL3.heap.size) := hide (by have := K2.out.lt; omega))
          (try have NE46 : Hid (wL3.heap.size ≠ a6) := hide (by have := K6.out.lt; omega))
          (try have NE48 : Hid (wL3.heap.size ≠ a8) := hide (by have := K8.out.lt; omega))
          (try replace K2 := hide (K2.out.ext hb))
          (try replace K6 := hide (K6.out.ext hb))
          (try replace K8 := hide (K8.out.ext hb))
          have K4 := hide (Blk.new wL3 86 (rowV n fun _ => .int .u16 0))
          clear hb
          simp only [glA, glB, glC]
          go_simp
          refine hK.out _ _ (fun _ => HS4.out _ BL4.out) ?_
          clear hK K
          (try simp only [glA, glB, glC, Act.put, glD, glE, glF])
          obtain ⟨a4, hT⟩ : ∃ x, wL3.heap.size = x := ⟨_, rfl⟩
          rw [hT] at K4 HL4 ⊢
          (try rw [hT] at NE24)
          (try rw [hT] at NE46)
          (try rw [hT] at NE48)
          clear hT
          obtain ⟨wL4, hw⟩ : ∃ x, wL3.alloc (.cells (rowV n fun _ => .int .u16 0) 86) = x := ⟨_, rfl⟩
          rw [hw] at K4 BL4 ⊢
          (try rw [hw] at K2)
          (try rw [hw] at K6)
          (try rw [hw] at K8)
          clear hw
          as_aux_lemma =>
            refine wpAnyJ_take 9 (v := .agg #[.slice d.A n d.c, .int .i64 la, .int .i64 tl, .slice (some ⟨a2, 0, none⟩) n n, .slice (some ⟨a4, 0, none⟩) n n, .slice (some ⟨a6, 0, none⟩) n n, .slice (some ⟨a8, 0, none⟩) n n, .int .u16 0]) wideFn (HS4.out _ BL4.out) rfl (by kernel_rfl) (by kernel_rfl) (by kernel_rfl) (by kernel_rfl) rfl (fun W _ => by simp only [glA, glB, glC]; refine exec_build rfl ?_; simp only [List.map_toArray, List.map_cons, List.map_nil]; go_simp; exact built_book _ _ _ _ _ _ _ _ _) (fun _ _ _ h => h) ?_
            (try simp only [glA, glB, glC, Act.put, glD, glE, glF])
            have hb : Below wL4.heap.size wL4 (wL4.alloc (.cells #[.slice d.A n d.c, .int .i64 la, .int .i64 tl, .slice (some ⟨a2, 0, none⟩) n n, .slice (some ⟨a4, 0, none⟩) n n, .slice (some ⟨a6, 0, none⟩) n n, .slice (some ⟨a8, 0, none⟩) n n, .int .u16 0] 133)) := (Below.refl _ _).alloc (Nat.le_refl _) _
            have HBB := hide (HM.out.trans ((BL4.out.trans (hb.mono BL4.out.size)).mono HM.out.size))
            have BLb := hide (BL4.out.trans (hb.mono BL4.out.size))
            refine wpAnyJ_one 10 rfl (by kernel_rfl) (fun K hK => ?_)
            simp only [glA, glB, glC]
            go_simp
            refine hK.out _ _ (fun _ => HS4.out _ BLb.out) ?_
            clear hK K
            (try simp only [glA, glB, glC, Act.put, glD, glE, glF])
            refine wpAnyJ_take 11 (v := ?_) (by first | exact hF | exact wideFn) (HS4.out _ BLb.out) rfl (by kernel_rfl) (by kernel_rfl) (by kernel_rfl) (by kernel_rfl) rfl ?_ (by first | exact fun _ _ _ h => h | exact fun _ _ _ h => hQ2 _ _ _ _ _ h) ?_
            rotate_left
            · intro W hSW
              simp only [glA, glB, glC]
              (try dsimp only at hSW)
              go_simp
              with_reducible rfl
            (try simp only [glA, glB, glC, Act.put, glD, glE, glF])
            refine wpAnyJ_done (by kernel_rfl) ?_
            go_wp2_with fail
            go_meet
            refine ⟨_, ad4 a2 a4 a6 a8, rfl, hide (OpI.init HBB.out ?_ ?_ ?_ ?_ ?_ ?_ ?_ ?_ ?_ NE24.out NE26.out NE28.out NE46.out NE48.out NE68.out ?_ ?_ ?_ ?_ ?_)⟩
            · have := BL4.out.size; have := HLO.out; have := HM.out.size; omega
            · have := HL2.out; have := HLO.out; have := HM.out.size; omega
            · have := HL4.out; have := HLO.out; have := HM.out.size; omega
            · have := HL6.out; have := HLO.out; have := HM.out.size; omega
            · have := HL8.out; have := HLO.out; have := HM.out.size; omega
            · have := K2.out.lt; omega
            · have := K4.out.lt; omega
            · have := K6.out.lt; omega
            · have := K8.out.lt; omega
            · rw [HN.out.1, HN.out.2.1, HN.out.2.2]; exact Blk.new _ _ _
            · rw [HN.out.1]; exact K2.out.ext hb
            · rw [HN.out.1]; exact K4.out.ext hb
            · rw [HN.out.1]; exact K6.out.ext hb
            · rw [HN.out.1]; exact K8.out.ext hb
      · refine ⟨_, rfl, fun K hK => ?_⟩
        have BL2 := hide (BL1.out.alloc BL1.out.size (.cells (rowV n fun _ => .int .u16 0) 86))
        have hb : Below wL1.heap.size wL1 (wL1.alloc (.cells (rowV n fun _ => .int .u16 0) 86)) := (Below.refl _ _).alloc (Nat.le_refl _) _
        have HL4 : Hid (lo ≤ wL1.heap.size) := hide (by rw [HLO.out]; exact BL1.out.size)
        (try have NE24 : Hid (a2 ≠ wL1.heap.size) := hide (by have := K2.out.lt; omega))
        (try have NE46 : Hid (wL1.heap.size ≠ a6) := hide (by have := K6.out.lt; omega))
        (try have NE48 : Hid (wL1.heap.size ≠ a8) := hide (by have := K8.out.lt; omega))
        (try replace K2 := hide (K2.out.ext hb))
        (try replace K6 := hide (K6.out.ext hb))
        (try replace K8 := hide (K8.out.ext hb))
        have K4 := hide (Blk.new wL1 86 (rowV n fun _ => .int .u16 0))
        clear hb
        simp only [glA, glB, glC]
        go_simp
        refine hK.out _ _ (fun _ => HS4.out _ BL2.out) ?_
        clear hK K
        (try simp only [glA, glB, glC, Act.put, glD, glE, glF])
        obtain ⟨a4, hT⟩ : ∃ x, wL1.heap.size = x := ⟨_, rfl⟩
        rw [hT] at K4 HL4 ⊢
        (try rw [hT] at NE24)
        (try rw [hT] at NE46)
        (try rw [hT] at NE48)
        clear hT
        obtain ⟨wL2, hw⟩ : ∃ x, wL1.alloc (.cells (rowV n fun _ => .int .u16 0) 86) = x := ⟨_, rfl⟩
        rw [hw] at K4 BL2 ⊢
        (try rw [hw] at K2)
        (try rw [hw] at K6)
        (try rw [hw] at K8)
        clear hw
        refine wpAnyJ_list [2, 8] (by kernel_rfl) (by decide) (fun i hi => ?_)
        rcases (by simpa using hi : i = 2 ∨ i = 8) with rfl | rfl
        · refine ⟨_, rfl, fun K hK => ?_⟩
          have BL3 := hide (BL2.out.alloc BL2.out.size (.cells (rowV n fun _ => .int .u16 0) 86))
          have hb : Below wL2.heap.size wL2 (wL2.alloc (.cells (rowV n fun _ => .int .u16 0) 86)) := (Below.refl _ _).alloc (Nat.le_refl _) _
          have HL2 : Hid (lo ≤ wL2.heap.size) := hide (by rw [HLO.out]; exact BL2.out.size)
          (try have NE24 : Hid (wL2.heap.size ≠ a4) := hide (by have := K4.out.lt; omega))
          (try have NE26 : Hid (wL2.heap.size ≠ a6) := hide (by have := K6.out.lt; omega))
          (try have NE28 : Hid (wL2.heap.size ≠ a8) := hide (by have := K8.out.lt; omega))
          (try replace K4 := hide (K4.out.ext hb))
          (try replace K6 := hide (K6.out.ext hb))
          (try replace K8 := hide (K8.out.ext hb))
          have K2 := hide (Blk.new wL2 86 (rowV n fun _ => .int .u16 0))
          clear hb
          simp only [glA, glB, glC]
          go_simp
          refine hK.out _ _ (fun _ => HS4.out _ BL3.out) ?_
          clear hK K
          (try simp only [glA, glB, glC, Act.put, glD, glE, glF])
          obtain ⟨a2, hT⟩ : ∃ x, wL2.heap.size = x := ⟨_, rfl⟩
          rw [hT] at K2 HL2 ⊢
          (try rw [hT] at NE24)
          (try rw [hT] at NE26)
          (try rw [hT] at NE28)
          clear hT
          obtain ⟨wL3, hw⟩ : ∃ x, wL2.alloc (.cells (rowV n fun _ => .int .u16 0) 86) = x := ⟨_, rfl⟩
          rw [hw] at K2 BL3 ⊢
          (try rw [hw] at K4)
          (try rw [hw] at K6)
          (try rw [hw] at K8)
          clear hw
          refine wpAnyJ_one 8 rfl (by kernel_rfl) (fun K hK => ?_)
          have BL4 := hide (BL3.out.alloc BL3.out.size (.cells (rowV n fun _ => .int .u16 0) 86))
          have hb : Below wL3.heap.size wL3 (wL3.alloc (.cells (rowV n fun _ => .int .u16 0) 86)) := (Below.refl _ _).alloc (Nat.le_refl _) _
          have HL8 : Hid (lo ≤ wL3.heap.size) := hide (by rw [HLO.out]; exact BL3.out.size)
          (try have NE28 : Hid (a2 ≠ wL3.heap.size) := hide (by have := K2.out.lt; omega))
          (try have NE48 : Hid (a4 ≠ wL3.heap.size) := hide (by have := K4.out.lt; omega))
          (try have NE68 : Hid (a6 ≠ wL3.heap.size) := hide (by have := K6.out.lt; omega))
          (try replace K2 := hide (K2.out.ext hb))
          (try replace K4 := hide (K4.out.ext hb))
          (try replace K6 := hide (K6.out.ext hb))
          have K8 := hide (Blk.new wL3 86 (rowV n fun _ => .int .u16 0))
          clear hb
          simp only [glA, glB, glC]
          go_simp
          refine hK.out _ _ (fun _ => HS4.out _ BL4.out) ?_
          clear hK K
          (try simp only [glA, glB, glC, Act.put, glD, glE, glF])
          obtain ⟨a8, hT⟩ : ∃ x, wL3.heap.size = x := ⟨_, rfl⟩
          rw [hT] at K8 HL8 ⊢
          (try rw [hT] at NE28)
          (try rw [hT] at NE48)
          (try rw [hT] at NE68)
          clear hT
          obtain ⟨wL4, hw⟩ : ∃ x, wL3.alloc (.cells (rowV n fun _ => .int .u16 0) 86) = x := ⟨_, rfl⟩
          rw [hw] at K8 BL4 ⊢
          (try rw [hw] at K2)
          (try rw [hw] at K4)
          (try rw [hw] at K6)
          clear hw
          as_aux_lemma =>
            refine wpAnyJ_take 9 (v := .agg #[.slice d.A n d.c, .int .i64 la, .int .i64 tl, .slice (some ⟨a2, 0, none⟩) n n, .slice (some ⟨a4, 0, none⟩) n n, .slice (some ⟨a6, 0, none⟩) n n, .slice (some ⟨a8, 0, none⟩) n n, .int .u16 0]) wideFn (HS4.out _ BL4.out) rfl (by kernel_rfl) (by kernel_rfl) (by kernel_rfl) (by kernel_rfl) rfl (fun W _ => by simp only [glA, glB, glC]; refine exec_build rfl ?_; simp only [List.map_toArray, List.map_cons, List.map_nil]; go_simp; exact built_book _ _ _ _ _ _ _ _ _) (fun _ _ _ h => h) ?_
            (try simp only [glA, glB, glC, Act.put, glD, glE, glF])
            have hb : Below wL4.heap.size wL4 (wL4.alloc (.cells #[.slice d.A n d.c, .int .i64 la, .int .i64 tl, .slice (some ⟨a2, 0, none⟩) n n, .slice (some ⟨a4, 0, none⟩) n n, .slice (some ⟨a6, 0, none⟩) n n, .slice (some ⟨a8, 0, none⟩) n n, .int .u16 0] 133)) := (Below.refl _ _).alloc (Nat.le_refl _) _
            have HBB := hide (HM.out.trans ((BL4.out.trans (hb.mono BL4.out.size)).mono HM.out.size))
            have BLb := hide (BL4.out.trans (hb.mono BL4.out.size))
            refine wpAnyJ_one 10 rfl (by kernel_rfl) (fun K hK => ?_)
            simp only [glA, glB, glC]
            go_simp
            refine hK.out _ _ (fun _ => HS4.out _ BLb.out) ?_
            clear hK K
            (try simp only [glA, glB, glC, Act.put, glD, glE, glF])
            refine wpAnyJ_take 11 (v := ?_) (by first | exact hF | exact wideFn) (HS4.out _ BLb.out) rfl (by kernel_rfl) (by kernel_rfl) (by kernel_rfl) (by kernel_rfl) rfl ?_ (by first | exact fun _ _ _ h => h | exact fun _ _ _ h => hQ2 _ _ _ _ _ h) ?_
            rotate_left
            · intro W hSW
              simp only [glA, glB, glC]
              (try dsimp only at hSW)
              go_simp
              with_reducible rfl
            (try simp only [glA, glB, glC, Act.put, glD, glE, glF])
            refine wpAnyJ_done (by kernel_rfl) ?_
            go_wp2_with fail
            go_meet
            refine ⟨_, ad4 a2 a4 a6 a8, rfl, hide (OpI.init HBB.out ?_ ?_ ?_ ?_ ?_ ?_ ?_ ?_ ?_ NE24.out NE26.out NE28.out NE46.out NE48.out NE68.out ?_ ?_ ?_ ?_ ?_)⟩
            · have := BL4.out.size; have := HLO.out; have := HM.out.size; omega
            · have := HL2.out; have := HLO.out; have := HM.out.size; omega
            · have := HL4.out; have := HLO.out; have := HM.out.size; omega
            · have := HL6.out; have := HLO.out; have := HM.out.size; omega
            · have := HL8.out; have := HLO.out; have := HM.out.size; omega
            · have := K2.out.lt; omega
            · have := K4.out.lt; omega
            · have := K6.out.lt; omega
            · have := K8.out.lt; omega
            · rw [HN.out.1, HN.out.2.1, HN.out.2.2]; exact Blk.new _ _ _
            · rw [HN.out.1]; exact K2.out.ext hb
            · rw [HN.out.1]; exact K4.out.ext hb
            · rw [HN.out.1]; exact K6.out.ext hb
            · rw [HN.out.1]; exact K8.out.ext hb
        · refine ⟨_, rfl, fun K hK => ?_⟩
          have BL3 := hide (BL2.out.alloc BL2.out.size (.cells (rowV n fun _ => .int .u16 0) 86))
          have hb : Below wL2.heap.size wL2 (wL2.alloc (.cells (rowV n fun _ => .int .u16 0) 86)) := (Below.refl _ _).alloc (Nat.le_refl _) _
          have HL8 : Hid (lo ≤ wL2.heap.size) := hide (by rw [HLO.out]; exact BL2.out.size)
          (try have NE28 : Hid (a2 ≠ wL2.heap.size) := hide (by have := K2.out.lt; omega))
          (try have NE48 : Hid (a4 ≠ wL2.heap.size) := hide (by have := K4.out.lt; omega))
          (try have NE68 : Hid (a6 ≠ wL2.heap.size) := hide (by have := K6.out.lt; omega))
          (try replace K2 := hide (K2.out.ext hb))
          (try replace K4 := hide (K4.out.ext hb))
          (try replace K6 := hide (K6.out.ext hb))
          have K8 := hide (Blk.new wL2 86 (rowV n fun _ => .int .u16 0))
          clear hb
          simp only [glA, glB, glC]
          go_simp
          refine hK.out _ _ (fun _ => HS4.out _ BL3.out) ?_
          clear hK K
          (try simp only [glA, glB, glC, Act.put, glD, glE, glF])
          obtain ⟨a8, hT⟩ : ∃ x, wL2.heap.size = x := ⟨_, rfl⟩
          rw [hT] at K8 HL8 ⊢
          (try rw [hT] at NE28)
          (try rw [hT] at NE48)
          (try rw [hT] at NE68)
          clear hT
          obtain ⟨wL3, hw⟩ : ∃ x, wL2.alloc (.cells (rowV n fun _ => .int .u16 0) 86) = x := ⟨_, rfl⟩
          rw [hw] at K8 BL3 ⊢
          (try rw [hw] at K2)
          (try rw [hw] at K4)
          (try rw [hw] at K6)
          clear hw
          refine wpAnyJ_one 2 rfl (by kernel_rfl) (fun K hK => ?_)
          have BL4 := hide (BL3.out.alloc BL3.out.size (.cells (rowV n fun _ => .int .u16 0) 86))
          have hb : Below wL3.heap.size wL3 (wL3.alloc (.cells (rowV n fun _ => .int .u16 0) 86)) := (Below.refl _ _).alloc (Nat.le_refl _) _
          have HL2 : Hid (lo ≤ wL3.heap.size) := hide (by rw [HLO.out]; exact BL3.out.size)
          (try have NE24 : Hid (wL3.heap.size ≠ a4) := hide (by have := K4.out.lt; omega))
          (try have NE26 : Hid (wL3.heap.size ≠ a6) := hide (by have := K6.out.lt; omega))
          (try have NE28 : Hid (wL3.heap.size ≠ a8) := hide (by have := K8.out.lt; omega))
          (try replace K4 := hide (K4.out.ext hb))
          (try replace K6 := hide (K6.out.ext hb))
          (try replace K8 := hide (K8.out.ext hb))
          have K2 := hide (Blk.new wL3 86 (rowV n fun _ => .int .u16 0))
          clear hb
          simp only [glA, glB, glC]
          go_simp
          refine hK.out _ _ (fun _ => HS4.out _ BL4.out) ?_
          clear hK K
          (try simp only [glA, glB, glC, Act.put, glD, glE, glF])
          obtain ⟨a2, hT⟩ : ∃ x, wL3.heap.size = x := ⟨_, rfl⟩
          rw [hT] at K2 HL2 ⊢
          (try rw [hT] at NE24)
          (try rw [hT] at NE26)
          (try rw [hT] at NE28)
          clear hT
          obtain ⟨wL4, hw⟩ : ∃ x, wL3.alloc (.cells (rowV n fun _ => .int .u16 0) 86) = x := ⟨_, rfl⟩
          rw [hw] at K2 BL4 ⊢
          (try rw [hw] at K4)
          (try rw [hw] at K6)
          (try rw [hw] at K8)
          clear hw
          as_aux_lemma =>
            refine wpAnyJ_take 9 (v := .agg #[.slice d.A n d.c, .int .i64 la, .int .i64 tl, .slice (some ⟨a2, 0, none⟩) n n, .slice (some ⟨a4, 0, none⟩) n n, .slice (some ⟨a6, 0, none⟩) n n, .slice (some ⟨a8, 0, none⟩) n n, .int .u16 0]) wideFn (HS4.out _ BL4.out) rfl (by kernel_rfl) (by kernel_rfl) (by kernel_rfl) (by kernel_rfl) rfl (fun W _ => by simp only [glA, glB, glC]; refine exec_build rfl ?_; simp only [List.map_toArray, List.map_cons, List.map_nil]; go_simp; exact built_book _ _ _ _ _ _ _ _ _) (fun _ _ _ h => h) ?_
            (try simp only [glA, glB, glC, Act.put, glD, glE, glF])
            have hb : Below wL4.heap.size wL4 (wL4.alloc (.cells #[.slice d.A n d.c, .int .i64 la, .int .i64 tl, .slice (some ⟨a2, 0, none⟩) n n, .slice (some ⟨a4, 0, none⟩) n n, .slice (some ⟨a6, 0, none⟩) n n, .slice (some ⟨a8, 0, none⟩) n n, .int .u16 0] 133)) := (Below.refl _ _).alloc (Nat.le_refl _) _
            have HBB := hide (HM.out.trans ((BL4.out.trans (hb.mono BL4.out.size)).mono HM.out.size))
            have BLb := hide (BL4.out.trans (hb.mono BL4.out.size))
            refine wpAnyJ_one 10 rfl (by kernel_rfl) (fun K hK => ?_)
            simp only [glA, glB, glC]
            go_simp
            refine hK.out _ _ (fun _ => HS4.out _ BLb.out) ?_
            clear hK K
            (try simp only [glA, glB, glC, Act.put, glD, glE, glF])
            refine wpAnyJ_take 11 (v := ?_) (by first | exact hF | exact wideFn) (HS4.out _ BLb.out) rfl (by kernel_rfl) (by kernel_rfl) (by kernel_rfl) (by kernel_rfl) rfl ?_ (by first | exact fun _ _ _ h => h | exact fun _ _ _ h => hQ2 _ _ _ _ _ h) ?_
            rotate_left
            · intro W hSW
              simp only [glA, glB, glC]
              (try dsimp only at hSW)
              go_simp
              with_reducible rfl
            (try simp only [glA, glB, glC, Act.put, glD, glE, glF])
            refine wpAnyJ_done (by kernel_rfl) ?_
            go_wp2_with fail
            go_meet
            refine ⟨_, ad4 a2 a4 a6 a8, rfl, hide (OpI.init HBB.out ?_ ?_ ?_ ?_ ?_ ?_ ?_ ?_ ?_ NE24.out NE26.out NE28.out NE46.out NE48.out NE68.out ?_ ?_ ?_ ?_ ?_)⟩
            · have := BL4.out.size; have := HLO.out; have := HM.out.size; omega
            · have := HL2.out; have := HLO.out; have := HM.out.size; omega
            · have := HL4.out; have := HLO.out; have := HM.out.size; omega
            · have := HL6.out; have := HLO.out; have := HM.out.size; omega
            · have := HL8.out; have := HLO.out; have := HM.out.size; omega
            · have := K2.out.lt; omega
            · have := K4.out.lt; omega
            · have := K6.out.lt; omega
            · have := K8.out.lt; omega
            · rw [HN.out.1, HN.out.2.1, HN.out.2.2]; exact Blk.new _ _ _
            · rw [HN.out.1]; exact K2.out.ext hb
            · rw [HN.out.1]; exact K4.out.ext hb
            · rw [HN.out.1]; exact K6.out.ext hb
            · rw [HN.out.1]; exact K8.out.ext hb
      · refine ⟨_, rfl, fun K hK => ?_⟩
        have BL2 := hide (BL1.out.alloc BL1.out.size (.cells (rowV n fun _ => .int .u16 0) 86))
        have hb : Below wL1.heap.size wL1 (wL1.alloc (.cells (rowV n fun _ => .int .u16 0) 86)) := (Below.refl _ _).alloc (Nat.le_refl _) _
        have HL8 : Hid (lo ≤ wL1.heap.size) := hide (by rw [HLO.out]; exact BL1.out.size)
        (try have NE28 : Hid (a2 ≠ wL1.heap.size) := hide (by have := K2.out.lt; omega))
        (try have NE48 : Hid (a4 ≠ wL1.heap.size) := hide (by have := K4.out.lt; omega))
        (try have NE68 : Hid (a6 ≠ wL1.heap.size) := hide (by have := K6.out.lt; omega))
        (try replace K2 := hide (K2.out.ext hb))
        (try replace K4 := hide (K4.out.ext hb))
        (try replace K6 := hide (K6.out.ext hb))
        have K8 := hide (Blk.new wL1 86 (rowV n fun _ => .int .u16 0))
        clear hb
        simp only [glA, glB, glC]
        go_simp
        refine hK.out _ _ (fun _ => HS4.out _ BL2.out) ?_
        clear hK K
        (try simp only [glA, glB, glC, Act.put, glD, glE, glF])
        obtain ⟨a8, hT⟩ : ∃ x, wL1.heap.size = x := ⟨_, rfl⟩
        rw [hT] at K8 HL8 ⊢
        (try rw [hT] at NE28)
        (try rw [hT] at NE48)
        (try rw [hT] at NE68)
        clear hT
        obtain ⟨wL2, hw⟩ : ∃ x, wL1.alloc (.cells (rowV n fun _ => .int .u16 0) 86) = x := ⟨_, rfl⟩
        rw [hw] at K8 BL2 ⊢
        (try rw [hw] at K2)
        (try rw [hw] at K4)
        (try rw [hw] at K6)
        clear hw
        refine wpAnyJ_list [2, 4] (by kernel_rfl) (by decide) (fun i hi => ?_)
        rcases (by simpa using hi : i = 2 ∨ i = 4) with rfl | rfl
        · refine ⟨_, rfl, fun K hK => ?_⟩
          have BL3 := hide (BL2.out.alloc BL2.out.size (.cells (rowV n fun _ => .int .u16 0) 86))
          have hb : Below wL2.heap.size wL2 (wL2.alloc (.cells (rowV n fun _ => .int .u16 0) 86)) := (Below.refl _ _).alloc (Nat.le_refl _) _
          have HL2 : Hid (lo ≤ wL2.heap.size) := hide (by rw [HLO.out]; exact BL2.out.size)
          (try have NE24 : Hid (wL2.heap.size ≠ a4) := hide (by have := K4.out.lt; omega))
          (try have NE26 : Hid (wL2.heap.size ≠ a6) := hide (by have := K6.out.lt; omega))
          (try have NE28 : Hid (wL2.heap.size ≠ a8) := hide (by have := K8.out.lt; omega))
          (try replace K4 := hide (K4.out.ext hb))
          (try replace K6 := hide (K6.out.ext hb))
          (try replace K8 := hide (K8.out.ext hb))
          have K2 := hide (Blk.new wL2 86 (rowV n fun _ => .int .u16 0))
          clear hb
          simp only [glA, glB, glC]
          go_simp
          refine hK.out _ _ (fun _ => HS4.out _ BL3.out) ?_
          clear hK K
          (try simp only [glA, glB, glC, Act.put, glD, glE, glF])
          obtain ⟨a2, hT⟩ : ∃ x, wL2.heap.size = x := ⟨_, rfl⟩
          rw [hT] at K2 HL2 ⊢
          (try rw [hT] at NE24)
          (try rw [hT] at NE26)
          (try rw [hT] at NE28)
          clear hT
          obtain ⟨wL3, hw⟩ : ∃ x, wL2.alloc (.cells (rowV n fun _ => .int .u16 0) 86) = x := ⟨_, rfl⟩
          rw [hw] at K2 BL3 ⊢
          (try rw [hw] at K4)
          (try rw [hw] at K6)
          (try rw [hw] at K8)
          clear hw
          refine wpAnyJ_one 4 rfl (by kernel_rfl) (fun K hK => ?_)
          have BL4 := hide (BL3.out.alloc BL3.out.size (.cells (rowV n fun _ => .int .u16 0) 86))
          have hb : Below wL3.heap.size wL3 (wL3.alloc (.cells (rowV n fun _ => .int .u16 0) 86)) := (Below.refl _ _).alloc (Nat.le_refl _) _
          have HL4 : Hid (lo ≤ wL3.heap.size) := hide (by rw [HLO.out]; exact BL3.out.size)
          (try have NE24 : Hid (a2 ≠ wL3.heap.size) := hide (by have := K2.out.lt; omega))
          (try have NE46 : Hid (wL3.heap.size ≠ a6) := hide (by have := K6.out.lt; omega))
          (try have NE48 : Hid (wL3.heap.size ≠ a8) := hide (by have := K8.out.lt; omega))
          (try replace K2 := hide (K2.out.ext hb))
          (try replace K6 := hide (K6.out.ext hb))
          (try replace K8 := hide (K8.out.ext hb))
          have K4 := hide (Blk.new wL3 86 (rowV n fun _ => .int .u16 0))
          clear hb
          simp only [glA, glB, glC]
          go_simp
          refine hK.out _ _ (fun _ => HS4.out _ BL4.out) ?_
          clear hK K
          (try simp only [glA, glB, glC, Act.put, glD, glE, glF])
          obtain ⟨a4, hT⟩ : ∃ x, wL3.heap.size = x := ⟨_, rfl⟩
          rw [hT] at K4 HL4 ⊢
          (try rw [hT] at NE24)
          (try rw [hT] at NE46)
          (try rw [hT] at NE48)
          clear hT
          obtain ⟨wL4, hw⟩ : ∃ x, wL3.alloc (.cells (rowV n fun _ => .int .u16 0) 86) = x := ⟨_, rfl⟩
          rw [hw] at K4 BL4 ⊢
          (try rw [hw] at K2)
          (try rw [hw] at K6)
          (try rw [hw] at K8)
          clear hw
          as_aux_lemma =>
            refine wpAnyJ_take 9 (v := .agg #[.slice d.A n d.c, .int .i64 la, .int .i64 tl, .slice (some ⟨a2, 0, none⟩) n n, .slice (some ⟨a4, 0, none⟩) n n, .slice (some ⟨a6, 0, none⟩) n n, .slice (some ⟨a8, 0, none⟩) n n, .int .u16 0]) wideFn (HS4.out _ BL4.out) rfl (by kernel_rfl) (by kernel_rfl) (by kernel_rfl) (by kernel_rfl) rfl (fun W _ => by simp only [glA, glB, glC]; refine exec_build rfl ?_; simp only [List.map_toArray, List.map_cons, List.map_nil]; go_simp; exact built_book _ _ _ _ _ _ _ _ _) (fun _ _ _ h => h) ?_
            (try simp only [glA, glB, glC, Act.put, glD, glE, glF])
            have hb : Below wL4.heap.size wL4 (wL4.alloc (.cells #[.slice d.A n d.c, .int .i64 la, .int .i64 tl, .slice (some ⟨a2, 0, none⟩) n n, .slice (some ⟨a4, 0, none⟩) n n, .slice (some ⟨a6, 0, none⟩) n n, .slice (some ⟨a8, 0, none⟩) n n, .int .u16 0] 133)) := (Below.refl _ _).alloc (Nat.le_refl _) _
            have HBB := hide (HM.out.trans ((BL4.out.trans (hb.mono BL4.out.size)).mono HM.out.size))
            have BLb := hide (BL4.out.trans (hb.mono BL4.out.size))
            refine wpAnyJ_one 10 rfl (by kernel_rfl) (fun K hK => ?_)
            simp only [glA, glB, glC]
            go_simp
            refine hK.out _ _ (fun _ => HS4.out _ BLb.out) ?_
            clear hK K
            (try simp only [glA, glB, glC, Act.put, glD, glE, glF])
            refine wpAnyJ_take 11 (v := ?_) (by first | exact hF | exact wideFn) (HS4.out _ BLb.out) rfl (by kernel_rfl) (by kernel_rfl) (by kernel_rfl) (by kernel_rfl) rfl ?_ (by first | exact fun _ _ _ h => h | exact fun _ _ _ h => hQ2 _ _ _ _ _ h) ?_
            rotate_left
            · intro W hSW
              simp only [glA, glB, glC]
              (try dsimp only at hSW)
              go_simp
              with_reducible rfl
            (try simp only [glA, glB, glC, Act.put, glD, glE, glF])
            refine wpAnyJ_done (by kernel_rfl) ?_
            go_wp2_with fail
            go_meet
            refine ⟨_, ad4 a2 a4 a6 a8, rfl, hide (OpI.init HBB.out ?_ ?_ ?_ ?_ ?_ ?_ ?_ ?_ ?_ NE24.out NE26.out NE28.out NE46.out NE48.out NE68.out ?_ ?_ ?_ ?_ ?_)⟩
            · have := BL4.out.size; have := HLO.out; have := HM.out.size; omega
            · have := HL2.out; have := HLO.out; have := HM.out.size; omega
            · have := HL4.out; have := HLO.out; have := HM.out.size; omega
            · have := HL6.out; have := HLO.out; have := HM.out.size; omega
            · have := HL8.out; have := HLO.out; have := HM.out.size; omega
            · have := K2.out.lt; omega
            · have := K4.out.lt; omega
            · have := K6.out.lt; omega
            · have := K8.out.lt; omega
            · rw [HN.out.1, HN.out.2.1, HN.out.2.2]; exact Blk.new _ _ _
            · rw [HN.out.1]; exact K2.out.ext hb
            · rw [HN.out.1]; exact K4.out.ext hb
            · rw [HN.out.1]; exact K6.out.ext hb
            · rw [HN.out.1]; exact K8.out.ext hb
        · refine ⟨_, rfl, fun K hK => ?_⟩
          have BL3 := hide (BL2.out.alloc BL2.out.size (.cells (rowV n fun _ => .int .u16 0) 86))
          have hb : Below wL2.heap.size wL2 (wL2.alloc (.cells (rowV n fun _ => .int .u16 0) 86)) := (Below.refl _ _).alloc (Nat.le_refl _) _
          have HL4 : Hid (lo ≤ wL2.heap.size) := hide (by rw [HLO.out]; exact BL2.out.size)
          (try have NE24 : Hid (a2 ≠ wL2.heap.size) := hide (by have := K2.out.lt; omega))
          (try have NE46 : Hid (wL2.heap.size ≠ a6) := hide (by have := K6.out.lt; omega))
          (try have NE48 : Hid (wL2.heap.size ≠ a8) := hide (by have := K8.out.lt; omega))
          (try replace K2 := hide (K2.out.ext hb))
          (try replace K6 := hide (K6.out.ext hb))
          (try replace K8 := hide (K8.out.ext hb))
          have K4 := hide (Blk.new wL2 86 (rowV n fun _ => .int .u16 0))
          clear hb
          simp only [glA, glB, glC]
          go_simp
          refine hK.out _ _ (fun _ => HS4.out _ BL3.out) ?_
          clear hK K
          (try simp only [glA, glB, glC, Act.put, glD, glE, glF])
          obtain ⟨a4, hT⟩ : ∃ x, wL2.heap.size = x := ⟨_, rfl⟩
          rw [hT] at K4 HL4 ⊢
          (try rw [hT] at NE24)
          (try rw [hT] at NE46)
          (try rw [hT] at NE48)
          clear hT
          obtain ⟨wL3, hw⟩ : ∃ x, wL2.alloc (.cells (rowV n fun _ => .int .u16 0) 86) = x := ⟨_, rfl⟩
          rw [hw] at K4 BL3 ⊢
          (try rw [hw] at K2)
          (try rw [hw] at K6)
          (try rw [hw] at K8)
          clear hw
          refine wpAnyJ_one 2 rfl (by kernel_rfl) (fun K hK => ?_)
          have BL4 := hide (BL3.out.alloc BL3.out.size (.cells (rowV n fun _ => .int .u16 0) 86))
          have hb : Below wL3.heap.size wL3 (wL3.alloc (.cells (rowV n fun _ => .int .u16 0) 86)) := (Below.refl _ _).alloc (Nat.le_refl _) _
          have HL2 : Hid (lo ≤ wL3.heap.size) := hide (by rw [HLO.out]; exact BL3.out.size)
          (try have NE24 : Hid (wL3.heap.size ≠ a4) := hide (by have := K4.out.lt; omega))
          (try have NE26 : Hid (wL3.heap.size ≠ a6) := hide (by have := K6.out.lt; omega))
          (try have NE28 : Hid (wL3.heap.size ≠ a8) := hide (by have := K8.out.lt; omega))
          (try replace K4 := hide (K4.out.ext hb))
          (try replace K6 := hide (K6.out.ext hb))
          (try replace K8 := hide (K8.out.ext hb))
          have K2 := hide (Blk.new wL3 86 (rowV n fun _ => .int .u16 0))
          clear hb
          simp only [glA, glB, glC]
          go_simp
          refine hK.out _ _ (fun _ => HS4.out _ BL4.out) ?_
          clear hK K
          (try simp only [glA, glB, glC, Act.put, glD, glE, glF])
          obtain ⟨a2, hT⟩ : ∃ x, wL3.heap.size = x := ⟨_, rfl⟩
          rw [hT] at K2 HL2 ⊢
          (try rw [hT] at NE24)
          (try rw [hT] at NE26)
          (try rw [hT] at NE28)
          clear hT
          obtain ⟨wL4, hw⟩ : ∃ x, wL3.alloc (.cells (rowV n fun _ => .int .u16 0) 86) = x := ⟨_, rfl⟩
          rw [hw] at K2 BL4 ⊢
          (try rw [hw] at K4)
          (try rw [hw] at K6)
          (try rw [hw] at K8)
          clear hw
          as_aux_lemma =>
            refine wpAnyJ_take 9 (v := .agg #[.slice d.A n d.c, .int .i64 la, .int .i64 tl, .slice (some ⟨a2, 0, none⟩) n n, .slice (some ⟨a4, 0, none⟩) n n, .slice (some ⟨a6, 0, none⟩) n n, .slice (some ⟨a8, 0, none⟩) n n, .int .u16 0]) wideFn (HS4.out _ BL4.out) rfl (by kernel_rfl) (by kernel_rfl) (by kernel_rfl) (by kernel_rfl) rfl (fun W _ => by simp only [glA, glB, glC]; refine exec_build rfl ?_; simp only [List.map_toArray, List.map_cons, List.map_nil]; go_simp; exact built_book _ _ _ _ _ _ _ _ _) (fun _ _ _ h => h) ?_
            (try simp only [glA, glB, glC, Act.put, glD, glE, glF])
            have hb : Below wL4.heap.size wL4 (wL4.alloc (.cells #[.slice d.A n d.c, .int .i64 la, .int .i64 tl, .slice (some ⟨a2, 0, none⟩) n n, .slice (some ⟨a4, 0, none⟩) n n, .slice (some ⟨a6, 0, none⟩) n n, .slice (some ⟨a8, 0, none⟩) n n, .int .u16 0] 133)) := (Below.refl _ _).alloc (Nat.le_refl _) _
            have HBB := hide (HM.out.trans ((BL4.out.trans (hb.mono BL4.out.size)).mono HM.out.size))
            have BLb := hide (BL4.out.trans (hb.mono BL4.out.size))
            refine wpAnyJ_one 10 rfl (by kernel_rfl) (fun K hK => ?_)
            simp only [glA, glB, glC]
            go_simp
            refine hK.out _ _ (fun _ => HS4.out _ BLb.out) ?_
            clear hK K
            (try simp only [glA, glB, glC, Act.put, glD, glE, glF])
            refine wpAnyJ_take 11 (v := ?_) (by first | exact hF | exact wideFn) (HS4.out _ BLb.out) rfl (by kernel_rfl) (by kernel_rfl) (by kernel_rfl) (by kernel_rfl) rfl ?_ (by first | exact fun _ _ _ h => h | exact fun _ _ _ h => hQ2 _ _ _ _ _ h) ?_
            rotate_left
            · intro W hSW
              simp only [glA, glB, glC]
              (try dsimp only at hSW)
              go_simp
              with_reducible rfl
            (try simp only [glA, glB, glC, Act.put, glD, glE, glF])
            refine wpAnyJ_done (by kernel_rfl) ?_
            go_wp2_with fail
            go_meet
            refine ⟨_, ad4 a2 a4 a6 a8, rfl, hide (OpI.init HBB.out ?_ ?_ ?_ ?_ ?_ ?_ ?_ ?_ ?_ NE24.out NE26.out NE28.out NE46.out NE48.out NE68.out ?_ ?_ ?_ ?_ ?_)⟩
            · have := BL4.out.size; have := HLO.out; have := HM.out.size; omega
            · have := HL2.out; have := HLO.out; have := HM.out.size; omega
            · have := HL4.out; have := HLO.out; have := HM.out.size; omega
            · have := HL6.out; have := HLO.out; have := HM.out.size; omega
            · have := HL8.out; have := HLO.out; have := HM.out.size; omega
            · have := K2.out.lt; omega
            · have := K4.out.lt; omega
            · have := K6.out.lt; omega
            · have := K8.out.lt; omega
            · rw [HN.out.1, HN.out.2.1, HN.out.2.2]; exact Blk.new _ _ _
            · rw [HN.out.1]; exact K2.out.ext hb
            · rw [HN.out.1]; exact K4.out.ext hb
            · rw [HN.out.1]; exact K6.out.ext hb
            · rw [HN.out.1]; exact K8.out.ext hb
    · refine ⟨_, rfl, fun K hK => ?_⟩
      have BL1 := hide (BL0.out.alloc BL0.out.size (.cells (rowV n fun _ => .int .u16 0) 86))
      have hb : Below wL0.heap.size wL0 (wL0.alloc (.cells (rowV n fun _ => .int .u16 0) 86)) := (Below.refl _ _).alloc (Nat.le_refl _) _
      have HL8 : Hid (lo ≤ wL0.heap.size) := hide (by rw [HLO.out]; exact BL0.out.size)
      (try have NE28 : Hid (a2 ≠ wL0.heap.size) := hide (by have := K2.out.lt; omega))
      (try have NE48 : Hid (a4 ≠ wL0.heap.size) := hide (by have := K4.out.lt; omega))
      (try have NE68 : Hid (a6 ≠ wL0.heap.size) := hide (by have := K6.out.lt; omega))
      (try replace K2 := hide (K2.out.ext hb))
      (try replace K4 := hide (K4.out.ext hb))
      (try replace K6 := hide (K6.out.ext hb))
      have K8 := hide (Blk.new wL0 86 (rowV n fun _ => .int .u16 0))
      clear hb
      simp only [glA, glB, glC]
      go_simp
      refine hK.out _ _ (fun _ => HS4.out _ BL1.out) ?_
      clear hK K
      (try simp only [glA, glB, glC, Act.put, glD, glE, glF])
      obtain ⟨a8, hT⟩ : ∃ x, wL0.heap.size = x := ⟨_, rfl⟩
      rw [hT] at K8 HL8 ⊢
      (try rw [hT] at NE28)
      (try rw [hT] at NE48)
      (try rw [hT] at NE68)
      clear hT
      obtain ⟨wL1, hw⟩ : ∃ x, wL0.alloc (.cells (rowV n fun _ => .int .u16 0) 86) = x := ⟨_, rfl⟩
      rw [hw] at K8 BL1 ⊢
      (try rw [hw] at K2)
      (try rw [hw] at K4)
      (try rw [hw] at K6)
      clear hw
      refine wpAnyJ_list [2, 4, 6] (by kernel_rfl) (by decide) (fun i hi => ?_)
      rcases (by simpa using hi : i = 2 ∨ i = 4 ∨ i = 6) with rfl | rfl | rfl
      · refine ⟨_, rfl, fun K hK => ?_⟩
        have BL2 := hide (BL1.out.alloc BL1.out.size (.cells (rowV n fun _ => .int .u16 0) 86))
        have hb : Below wL1.heap.size wL1 (wL1.alloc (.cells (rowV n fun _ => .int .u16 0) 86)) := (Below.refl _ _).alloc (Nat.le_refl _) _
        have HL2 : Hid (lo ≤ wL1.heap.size) := hide (by rw [HLO.out]; exact BL1.out.size)
        (try have NE24 : Hid (wL1.heap.size ≠ a4) := hide (by have := K4.out.lt; omega))
        (try have NE26 : Hid (wL1.heap.size ≠ a6) := hide (by have := K6.out.lt; omega))
        (try have NE28 : Hid (wL1.heap.size ≠ a8) := hide (by have := K8.out.lt; omega))
        (try replace K4 := hide (K4.out.ext hb))
        (try replace K6 := hide (K6.out.ext hb))
        (try replace K8 := hide (K8.out.ext hb))
        have K2 := hide (Blk.new wL1 86 (rowV n fun _ => .int .u16 0))
        clear hb
        simp only [glA, glB, glC]
        go_simp
        refine hK.out _ _ (fun _ => HS4.out _ BL2.out) ?_
        clear hK K
        (try simp only [glA, glB, glC, Act.put, glD, glE, glF])
        obtain ⟨a2, hT⟩ : ∃ x, wL1.heap.size = x := ⟨_, rfl⟩
        rw [hT] at K2 HL2 ⊢
        (try rw [hT] at NE24)
        (try rw [hT] at NE26)
        (try rw [hT] at NE28)
        clear hT
        obtain ⟨wL2, hw⟩ : ∃ x, wL1.alloc (.cells (rowV n fun _ => .int .u16 0) 86) = x := ⟨_, rfl⟩
        rw [hw] at K2 BL2 ⊢
        (try rw [hw] at K4)
        (try rw [hw] at K6)
        (try rw [hw] at K8)
        clear hw
        refine wpAnyJ_list [4, 6] (by kernel_rfl) (by decide) (fun i hi => ?_)
        rcases (by simpa using hi : i = 4 ∨ i = 6) with rfl | rfl
        · refine ⟨_, rfl, fun K hK => ?_⟩
          have BL3 := hide (BL2.out.alloc BL2.out.size (.cells (rowV n fun _ => .int .u16 0) 86))
          have hb : Below wL2.heap.size wL2 (wL2.alloc (.cells (rowV n fun _ => .int .u16 0) 86)) := (Below.refl _ _).alloc (Nat.le_refl _) _
          have HL4 : Hid (lo ≤ wL2.heap.size) := hide (by rw [HLO.out]; exact BL2.out.size)
          (try have NE24 : Hid (a2 ≠ wL2.heap.size) := hide (by have := K2.out.lt; omega))
          (try have NE46 : Hid (wL2.heap.size ≠ a6) := hide (by have := K6.out.lt; omega))
          (try have NE48 : Hid (wL2.heap.size ≠ a8) := hide (by have := K8.out.lt; omega))
          (try replace K2 := hide (K2.out.ext hb))
          (try replace K6 := hide (K6.out.ext hb))
          (try replace K8 := hide (K8.out.ext hb))
          have K4 := hide (Blk.new wL2 86 (rowV n fun _ => .int .u16 0))
          clear hb
          simp only [glA, glB, glC]
          go_simp
          refine hK.out _ _ (fun _ => HS4.out _ BL3.out) ?_
          clear hK K
          (try simp only [glA, glB, glC, Act.put, glD, glE, glF])
          obtain ⟨a4, hT⟩ : ∃ x, wL2.heap.size = x := ⟨_, rfl⟩
          rw [hT] at K4 HL4 ⊢
          (try rw [hT] at NE24)
          (try rw [hT] at NE46)
          (try rw [hT] at NE48)
          clear hT
          obtain ⟨wL3, hw⟩ : ∃ x, wL2.alloc (.cells (rowV n fun _ => .int .u16 0) 86) = x := ⟨_, rfl⟩
          rw [hw] at K4 BL3 ⊢
          (try rw [hw] at K2)
          (try rw [hw] at K6)
          (try rw [hw] at K8)
          clear hw
          refine wpAnyJ_one 6 rfl (by kernel_rfl) (fun K hK => ?_)
          have BL4 := hide (BL3.out.alloc BL3.out.size (.cells (rowV n fun _ => .int .u16 0) 86))
          have hb : Below wL3.heap.size wL3 (wL3.alloc (.cells (rowV n fun _ => .int .u16 0) 86)) := (Below.refl _ _).alloc (Nat.le_refl _) _
          have HL6 : Hid (lo ≤ wL3.heap.size) := hide (by rw [HLO.out]; exact BL3.out.size)
          (try have NE26 : Hid (a2 ≠ wL3.heap.size) := hide (by have := K2.out.lt; omega))
          (try have NE46 : Hid (a4 ≠ wL3.heap.size) := hide (by have := K4.out.lt; omega))
          (try have NE68 : Hid (wL3.heap.size ≠ a8) := hide (by have := K8.out.lt; omega))
          (try replace K2 := hide (K2.out.ext hb))
          (try replace K4 := hide (K4.out.ext hb))
          (try replace K8 := hide (K8.out.ext hb))
          have K6 := hide (Blk.new wL3 86 (rowV n fun _ => .int .u16 0))
          clear hb
          simp only [glA, glB, glC]
          go_simp
          refine hK.out _ _ (fun _ => HS4.out _ BL4.out) ?_
          clear hK K
          (try simp only [glA, glB, glC, Act.put, glD, glE, glF])
          obtain ⟨a6, hT⟩ : ∃ x, wL3.heap.size = x := ⟨_, rfl⟩
          rw [hT] at K6 HL6 ⊢
          (try rw [hT] at NE26)
          (try rw [hT] at NE46)
          (try rw [hT] at NE68)
          clear hT
          obtain ⟨wL4, hw⟩ : ∃ x, wL3.alloc (.cells (rowV n fun _ => .int .u16 0) 86) = x := ⟨_, rfl⟩
          rw [hw] at K6 BL4 ⊢
          (try rw [hw] at K2)
          (try rw [hw] at K4)
          (try rw [hw] at K8)
          clear hw
          as_aux_lemma =>
            refine wpAnyJ_take 9 (v := .agg #[.slice d.A n d.c, .int .i64 la, .int .i64 tl, .slice (some ⟨a2, 0, none⟩) n n, .slice (some ⟨a4, 0, none⟩) n n, .slice (some ⟨a6, 0, none⟩) n n, .slice (some ⟨a8, 0, none⟩) n n, .int .u16 0]) wideFn (HS4.out _ BL4.out) rfl (by kernel_rfl) (by kernel_rfl) (by kernel_rfl) (by kernel_rfl) rfl (fun W _ => by simp only [glA, glB, glC]; refine exec_build rfl ?_; simp only [List.map_toArray, List.map_cons, List.map_nil]; go_simp; exact built_book _ _ _ _ _ _ _ _ _) (fun _ _ _ h => h) ?_
            (try simp only [glA, glB, glC, Act.put, glD, glE, glF])
            have hb : Below wL4.heap.size wL4 (wL4.alloc (.cells #[.slice d.A n d.c, .int .i64 la, .int .i64 tl, .slice (some ⟨a2, 0, none⟩) n n, .slice (some ⟨a4, 0, none⟩) n n, .slice (some ⟨a6, 0, none⟩) n n, .slice (some ⟨a8, 0, none⟩) n n, .int .u16 0] 133)) := (Below.refl _ _).alloc (Nat.le_refl _) _
            have HBB := hide (HM.out.trans ((BL4.out.trans (hb.mono BL4.out.size)).mono HM.out.size))
            have BLb := hide (BL4.out.trans (hb.mono BL4.out.size))
            refine wpAnyJ_one 10 rfl (by kernel_rfl) (fun K hK => ?_)
            simp only [glA, glB, glC]
            go_simp
            refine hK.out _ _ (fun _ => HS4.out _ BLb.out) ?_
            clear hK K
            (try simp only [glA, glB, glC, Act.put, glD, glE, glF])
            refine wpAnyJ_take 11 (v := ?_) (by first | exact hF | exact wideFn) (HS4.out _ BLb.out) rfl (by kernel_rfl) (by kernel_rfl) (by kernel_rfl) (by kernel_rfl) rfl ?_ (by first | exact fun _ _ _ h => h | exact fun _ _ _ h => hQ2 _ _ _ _ _ h) ?_
            rotate_left
            · intro W hSW
              simp only [glA, glB, glC]
              (try dsimp only at hSW)
              go_simp
              with_reducible rfl
            (try simp only [glA, glB, glC, Act.put, glD, glE, glF])
            refine wpAnyJ_done (by kernel_rfl) ?_
            go_wp2_with fail
            go_meet
            refine ⟨_, ad4 a2 a4 a6 a8, rfl, hide (OpI.init HBB.out ?_ ?_ ?_ ?_ ?_ ?_ ?_ ?_ ?_ NE24.out NE26.out NE28.out NE46.out NE48.out NE68.out ?_ ?_ ?_ ?_ ?_)⟩
            · have := BL4.out.size; have := HLO.out; have := HM.out.size; omega
            · have := HL2.out; have := HLO.out; have := HM.out.size; omega
            · have := HL4.out; have := HLO.out; have := HM.out.size; omega
            · have := HL6.out; have := HLO.out; have := HM.out.size; omega
            · have := HL8.out; have := HLO.out; have := HM.out.size; omega
            · have := K2.out.lt; omega
            · have := K4.out.lt; omega
            · have := K6.out.lt; omega
            · have := K8.out.lt; omega
            · rw [HN.out.1, HN.out.2.1, HN.out.2.2]; exact Blk.new _ _ _
            · rw [HN.out.1]; exact K2.out.ext hb
            · rw [HN.out.1]; exact K4.out.ext hb
            · rw [HN.out.1]; exact K6.out.ext hb
            · rw [HN.out.1]; exact K8.out.ext hb
        · refine ⟨_, rfl, fun K hK => ?_⟩
          have BL3 := hide (BL2.out.alloc BL2.out.size (.cells (rowV n fun _ => .int .u16 0) 86))
          have hb : Below wL2.heap.size wL2 (wL2.alloc (.cells (rowV n fun _ => .int .u16 0) 86)) := (Below.refl _ _).alloc (Nat.le_refl _) _
          have HL6 : Hid (lo ≤ wL2.heap.size) := hide (by rw [HLO.out]; exact BL2.out.size)
          (try have NE26 : Hid (a2 ≠ wL2.heap.size) := hide (by have := K2.out.lt; omega))
          (try have NE46 : Hid (a4 ≠ wL2.heap.size) := hide (by have := K4.out.lt; omega))
          (try have NE68 : Hid (wL2.heap.size ≠ a8) := hide (by have := K8.out.lt; omega))
          (try replace K2 := hide (K2.out.ext hb))
          (try replace K4 := hide (K4.out.ext hb))
          (try replace K8 := hide (K8.out.ext hb))
          have K6 := hide (Blk.new wL2 86 (rowV n fun _ => .int .u16 0))
          clear hb
          simp only [glA, glB, glC]
          go_simp
          refine hK.out _ _ (fun _ => HS4.out _ BL3.out) ?_
          clear hK K
          (try simp only [glA, glB, glC, Act.put, glD, glE, glF])
          obtain ⟨a6, hT⟩ : ∃ x, wL2.heap.size = x := ⟨_, rfl⟩
          rw [hT] at K6 HL6 ⊢
          (try rw [hT] at NE26)
          (try rw [hT] at NE46)
          (try rw [hT] at NE68)
          clear hT
          obtain ⟨wL3, hw⟩ : ∃ x, wL2.alloc (.cells (rowV n fun _ => .int .u16 0) 86) = x := ⟨_, rfl⟩
          rw [hw] at K6 BL3 ⊢
          (try rw [hw] at K2)
          (try rw [hw] at K4)
          (try rw [hw] at K8)
          clear hw
          refine wpAnyJ_one 4 rfl (by kernel_rfl) (fun K hK => ?_)
          have BL4 := hide (BL3.out.alloc BL3.out.size (.cells (rowV n fun _ => .int .u16 0) 86))
          have hb : Below wL3.heap.size wL3 (wL3.alloc (.cells (rowV n fun _ => .int .u16 0) 86)) := (Below.refl _ _).alloc (Nat.le_refl _) _
          have HL4 : Hid (lo ≤ wL3.heap.size) := hide (by rw [HLO.out]; exact BL3.out.size)
          (try have NE24 : Hid (a2 ≠ wL3.heap.size) := hide (by have := K2.out.lt; omega))
          (try have NE46 : Hid (wL3.heap.size ≠ a6) := hide (by have := K6.out.lt; omega))
          (try have NE48 : Hid (wL3.heap.size ≠ a8) := hide (by have := K8.out.lt; omega))
          (try replace K2 := hide (K2.out.ext hb))
          (try replace K6 := hide (K6.out.ext hb))
          (try replace K8 := hide (K8.out.ext hb))
          have K4 := hide (Blk.new wL3 86 (rowV n fun _ => .int .u16 0))
          clear hb
          simp only [glA, glB, glC]
          go_simp
          refine hK.out _ _ (fun _ => HS4.out _ BL4.out) ?_
          clear hK K
          (try simp only [glA, glB, glC, Act.put, glD, glE, glF])
          obtain ⟨a4, hT⟩ : ∃ x, wL3.heap.size = x := ⟨_, rfl⟩
          rw [hT] at K4 HL4 ⊢
          (try rw [hT] at NE24)
          (try rw [hT] at NE46)
          (try rw [hT] at NE48)
          clear hT
          obtain ⟨wL4, hw⟩ : ∃ x, wL3.alloc (.cells (rowV n fun _ => .int .u16 0) 86) = x := ⟨_, rfl⟩
          rw [hw] at K4 BL4 ⊢
          (try rw [hw] at K2)
          (try rw [hw] at K6)
          (try rw [hw] at K8)
          clear hw
          as_aux_lemma =>
            refine wpAnyJ_take 9 (v := .agg #[.slice d.A n d.c, .int .i64 la, .int .i64 tl, .slice (some ⟨a2, 0, none⟩) n n, .slice (some ⟨a4, 0, none⟩) n n, .slice (some ⟨a6, 0, none⟩) n n, .slice (some ⟨a8, 0, none⟩) n n, .int .u16 0]) wideFn (HS4.out _ BL4.out) rfl (by kernel_rfl) (by kernel_rfl) (by kernel_rfl) (by kernel_rfl) rfl (fun W _ => by simp only [glA, glB, glC]; refine exec_build rfl ?_; simp only [List.map_toArray, List.map_cons, List.map_nil]; go_simp; exact built_book _ _ _ _ _ _ _ _ _) (fun _ _ _ h => h) ?_
            (try simp only [glA, glB, glC, Act.put, glD, glE, glF])
            have hb : Below wL4.heap.size wL4 (wL4.alloc (.cells #[.slice d.A n d.c, .int .i64 la, .int .i64 tl, .slice (some ⟨a2, 0, none⟩) n n, .slice (some ⟨a4, 0, none⟩) n n, .slice (some ⟨a6, 0, none⟩) n n, .slice (some ⟨a8, 0, none⟩) n n, .int .u16 0] 133)) := (Below.refl _ _).alloc (Nat.le_refl _) _
            have HBB := hide (HM.out.trans ((BL4.out.trans (hb.mono BL4.out.size)).mono HM.out.size))
            have BLb := hide (BL4.out.trans (hb.mono BL4.out.size))
            refine wpAnyJ_one 10 rfl (by kernel_rfl) (fun K hK => ?_)
            simp only [glA, glB, glC]
            go_simp
            refine hK.out _ _ (fun _ => HS4.out _ BLb.out) ?_
            clear hK K
            (try simp only [glA, glB, glC, Act.put, glD, glE, glF])
            refine wpAnyJ_take 11 (v := ?_) (by first | exact hF | exact wideFn) (HS4.out _ BLb.out) rfl (by kernel_rfl) (by kernel_rfl) (by kernel_rfl) (by kernel_rfl) rfl ?_ (by first | exact fun _ _ _ h => h | exact fun _ _ _ h => hQ2 _ _ _ _ _ h) ?_
            rotate_left
            · intro W hSW
              simp only [glA, glB, glC]
              (try dsimp only at hSW)
              go_simp
              with_reducible rfl
            (try simp only [glA, glB, glC, Act.put, glD, glE, glF])
            refine wpAnyJ_done (by kernel_rfl) ?_
            go_wp2_with fail
            go_meet
            refine ⟨_, ad4 a2 a4 a6 a8, rfl, hide (OpI.init HBB.out ?_ ?_ ?_ ?_ ?_ ?_ ?_ ?_ ?_ NE24.out NE26.out NE28.out NE46.out NE48.out NE68.out ?_ ?_ ?_ ?_ ?_)⟩
            · have := BL4.out.size; have := HLO.out; have := HM.out.size; omega
            · have := HL2.out; have := HLO.out; have := HM.out.size; omega
            · have := HL4.out; have := HLO.out; have := HM.out.size; omega
            · have := HL6.out; have := HLO.out; have := HM.out.size; omega
            · have := HL8.out; have := HLO.out; have := HM.out.size; omega
            · have := K2.out.lt; omega
            · have := K4.out.lt; omega
            · have := K6.out.lt; omega
            · have := K8.out.lt; omega
            · rw [HN.out.1, HN.out.2.1, HN.out.2.2]; exact Blk.new _ _ _
            · rw [HN.out.1]; exact K2.out.ext hb
            · rw [HN.out.1]; exact K4.out.ext hb
            · rw [HN.out.1]; exact K6.out.ext hb
            · rw [HN.out.1]; exact K8.out.ext hb
      · refine ⟨_, rfl, fun K hK => ?_⟩
        have BL2 := hide (BL1.out.alloc BL1.out.size (.cells (rowV n fun _ => .int .u16 0) 86))
        have hb : Below wL1.heap.size wL1 (wL1.alloc (.cells (rowV n fun _ => .int .u16 0) 86)) := (Below.refl _ _).alloc (Nat.le_refl _) _
        have HL4 : Hid (lo ≤ wL1.heap.size) := hide (by rw [HLO.out]; exact BL1.out.size)
        (try have NE24 : Hid (a2 ≠ wL1.heap.size) := hide (by have := K2.out.lt; omega))
        (try have NE46 : Hid (wL1.heap.size ≠ a6) := hide (by have := K6.out.lt; omega))
        (try have NE48 : Hid (wL1.heap.size ≠ a8) := hide (by have := K8.out.lt; omega))
        (try replace K2 := hide (K2.out.ext hb))
        (try replace K6 := hide (K6.out.ext hb))
        (try replace K8 := hide (K8.out.ext hb))
        have K4 := hide (Blk.new wL1 86 (rowV n fun _ => .int .u16 0))
        clear hb
        simp only [glA, glB, glC]
        go_simp
        refine hK.out _ _ (fun _ => HS4.out _ BL2.out) ?_
        clear hK K
        (try simp only [glA, glB, glC, Act.put, glD, glE, glF])
        obtain ⟨a4, hT⟩ : ∃ x, wL1.heap.size = x := ⟨_, rfl⟩
        rw [hT] at K4 HL4 ⊢
        (try rw [hT] at NE24)
        (try rw [hT] at NE46)
        (try rw [hT] at NE48)
        clear hT
        obtain ⟨wL2, hw⟩ : ∃ x, wL1.alloc (.cells (rowV n fun _ => .int .u16 0) 86) = x := ⟨_, rfl⟩
        rw [hw] at K4 BL2 ⊢
        (try rw [hw] at K2)
        (try rw [hw] at K6)
        (try rw [hw] at K8)
        clear hw
        refine wpAnyJ_list [2, 6] (by kernel_rfl) (by decide) (fun i hi => ?_)
        rcases (by simpa using hi : i = 2 ∨ i = 6) with rfl | rfl
        · refine ⟨_, rfl, fun K hK => ?_⟩
          have BL3 := hide (BL2.out.alloc BL2.out.size (.cells (rowV n fun _ => .int .u16 0) 86))
          have hb : Below wL2.heap.size wL2 (wL2.alloc (.cells (rowV n fun _ => .int .u16 0) 86)) := (Below.refl _ _).alloc (Nat.le_refl _) _
          have HL2 : Hid (lo ≤ wL2.heap.size) := hide (by rw [HLO.out]; exact BL2.out.size)
          (try have NE24 : Hid (wL2.heap.size ≠ a4) := hide (by have := K4.out.lt; omega))
          (try have NE26 : Hid (wL2.heap.size ≠ a6) := hide (by have := K6.out.lt; omega))
          (try have NE28 : Hid (wL2.heap.size ≠ a8) := hide (by have := K8.out.lt; omega))
          (try replace K4 := hide (K4.out.ext hb))
          (try replace K6 := hide (K6.out.ext hb))
          (try replace K8 := hide (K8.out.ext hb))
          have K2 := hide (Blk.new wL2 86 (rowV n fun _ => .int .u16 0))
          clear hb
          simp only [glA, glB, glC]
          go_simp
          refine hK.out _ _ (fun _ => HS4.out _ BL3.out) ?_
          clear hK K
          (try simp only [glA, glB, glC, Act.put, glD, glE, glF])
          obtain ⟨a2, hT⟩ : ∃ x, wL2.heap.size = x := ⟨_, rfl⟩
          rw [hT] at K2 HL2 ⊢
          (try rw [hT] at NE24)
          (try rw [hT] at NE26)
          (try rw [hT] at NE28)
          clear hT
          obtain ⟨wL3, hw⟩ : ∃ x, wL2.alloc (.cells (rowV n fun _ => .int .u16 0) 86) = x := ⟨_, rfl⟩
          rw [hw] at K2 BL3 ⊢
          (try rw [hw] at K4)
          (try rw [hw] at K6)
          (try rw [hw] at K8)
          clear hw
          refine wpAnyJ_one 6 rfl (by kernel_rfl) (fun K hK => ?_)
          have BL4 := hide (BL3.out.alloc BL3.out.size (.cells (rowV n fun _ => .int .u16 0) 86))
          have hb : Below wL3.heap.size wL3 (wL3.alloc (.cells (rowV n fun _ => .int .u16 0) 86)) := (Below.refl _ _).alloc (Nat.le_refl _) _
          have HL6 : Hid (lo ≤ wL3.heap.size) := hide (by rw [HLO.out]; exact BL3.out.size)
          (try have NE26 : Hid (a2 ≠ wL3.heap.size) := hide (by have := K2.out.lt; omega))
          (try have NE46 : Hid (a4 ≠ wL3.heap.size) := hide (by have := K4.out.lt; omega))
          (try have NE68 : Hid (wL3.heap.size ≠ a8) := hide (by have := K8.out.lt; omega))
          (try replace K2 := hide (K2.out.ext hb))
          (try replace K4 := hide (K4.out.ext hb))
          (try replace K8 := hide (K8.out.ext hb))
          have K6 := hide (Blk.new wL3 86 (rowV n fun _ => .int .u16 0))
          clear hb
          simp only [glA, glB, glC]
          go_simp
          refine hK.out _ _ (fun _ => HS4.out _ BL4.out) ?_
          clear hK K
          (try simp only [glA, glB, glC, Act.put, glD, glE, glF])
          obtain ⟨a6, hT⟩ : ∃ x, wL3.heap.size = x := ⟨_, rfl⟩
          rw [hT] at K6 HL6 ⊢
          (try rw [hT] at NE26)
          (try rw [hT] at NE46)
          (try rw [hT] at NE68)
          clear hT
          obtain ⟨wL4, hw⟩ : ∃ x, wL3.alloc (.cells (rowV n fun _ => .int .u16 0) 86) = x := ⟨_, rfl⟩
          rw [hw] at K6 BL4 ⊢
          (try rw [hw] at K2)
          (try rw [hw] at K4)
          (try rw [hw] at K8)
          clear hw
          as_aux_lemma =>
            refine wpAnyJ_take 9 (v := .agg #[.slice d.A n d.c, .int .i64 la, .int .i64 tl, .slice (some ⟨a2, 0, none⟩) n n, .slice (some ⟨a4, 0, none⟩) n n, .slice (some ⟨a6, 0, none⟩) n n, .slice (some ⟨a8, 0, none⟩) n n, .int .u16 0]) wideFn (HS4.out _ BL4.out) rfl (by kernel_rfl) (by kernel_rfl) (by kernel_rfl) (by kernel_rfl) rfl (fun W _ => by simp only [glA, glB, glC]; refine exec_build rfl ?_; simp only [List.map_toArray, List.map_cons, List.map_nil]; go_simp; exact built_book _ _ _ _ _ _ _ _ _) (fun _ _ _ h => h) ?_
            (try simp only [glA, glB, glC, Act.put, glD, glE, glF])
            have hb : Below wL4.heap.size wL4 (wL4.alloc (.cells #[.slice d.A n d.c, .int .i64 la, .int .i64 tl, .slice (some ⟨a2, 0, none⟩) n n, .slice (some ⟨a4, 0, none⟩) n n, .slice (some ⟨a6, 0, none⟩) n n, .slice (some ⟨a8, 0, none⟩) n n, .int .u16 0] 133)) := (Below.refl _ _).alloc (Nat.le_refl _) _
            have HBB := hide (HM.out.trans ((BL4.out.trans (hb.mono BL4.out.size)).mono HM.out.size))
            have BLb := hide (BL4.out.trans (hb.mono BL4.out.size))
            refine wpAnyJ_one 10 rfl (by kernel_rfl) (fun K hK => ?_)
            simp only [glA, glB, glC]
            go_simp
            refine hK.out _ _ (fun _ => HS4.out _ BLb.out) ?_
            clear hK K
            (try simp only [glA, glB, glC, Act.put, glD, glE, glF])
            refine wpAnyJ_take 11 (v := ?_) (by first | exact hF | exact wideFn) (HS4.out _ BLb.out) rfl (by kernel_rfl) (by kernel_rfl) (by kernel_rfl) (by kernel_rfl) rfl ?_ (by first | exact fun _ _ _ h => h | exact fun _ _ _ h => hQ2 _ _ _ _ _ h) ?_
            rotate_left
            · intro W hSW
              simp only [glA, glB, glC]
              (try dsimp only at hSW)
              go_simp
              with_reducible rfl
            (try simp only [glA, glB, glC, Act.put, glD, glE, glF])
            refine wpAnyJ_done (by kernel_rfl) ?_
            go_wp2_with fail
            go_meet
            refine ⟨_, ad4 a2 a4 a6 a8, rfl, hide (OpI.init HBB.out ?_ ?_ ?_ ?_ ?_ ?_ ?_ ?_ ?_ NE24.out NE26.out NE28.out NE46.out NE48.out NE68.out ?_ ?_ ?_ ?_ ?_)⟩
            · have := BL4.out.size; have := HLO.out; have := HM.out.size; omega
            · have := HL2.out; have := HLO.out; have := HM.out.size; omega
            · have := HL4.out; have := HLO.out; have := HM.out.size; omega
            · have := HL6.out; have := HLO.out; have := HM.out.size; omega
            · have := HL8.out; have := HLO.out; have := HM.out.size; omega
            · have := K2.out.lt; omega
            · have := K4.out.lt; omega
            · have := K6.out.lt; omega
            · have := K8.out.lt; omega
            · rw [HN.out.1, HN.out.2.1, HN.out.2.2]; exact Blk.new _ _ _
            · rw [HN.out.1]; exact K2.out.ext hb
            · rw [HN.out.1]; exact K4.out.ext hb
            · rw [HN.out.1]; exact K6.out.ext hb
            · rw [HN.out.1]; exact K8.out.ext hb
        · refine ⟨_, rfl, fun K hK => ?_⟩
          have BL3 := hide (BL2.out.alloc BL2.out.size (.cells (rowV n fun _ => .int .u16 0) 86))
          have hb : Below wL2.heap.size wL2 (wL2.alloc (.cells (rowV n fun _ => .int .u16 0) 86)) := (Below.refl _ _).alloc (Nat.le_refl _) _
          have HL6 : Hid (lo ≤ wL2.heap.size) := hide (by rw [HLO.out]; exact BL2.out.size)
          (try have NE26 : Hid (a2 ≠ wL2.heap.size) := hide (by have := K2.out.lt; omega))
          (try have NE46 : Hid (a4 ≠ wL2.heap.size) := hide (by have := K4.out.lt; omega))
          (try have NE68 : Hid (wL2.heap.size ≠ a8) := hide (by have := K8.out.lt; omega))
          (try replace K2 := hide (K2.out.ext hb))
          (try replace K4 := hide (K4.out.ext hb))
          (try replace K8 := hide (K8.out.ext hb))
          have K6 := hide (Blk.new wL2 86 (rowV n fun _ => .int .u16 0))
          clear hb
          simp only [glA, glB, glC]
          go_simp
          refine hK.out _ _ (fun _ => HS4.out _ BL3.out) ?_
          clear hK K
          (try simp only [glA, glB, glC, Act.put, glD, glE, glF])
          obtain ⟨a6, hT⟩ : ∃ x, wL2.heap.size = x := ⟨_, rfl⟩
          rw [hT] at K6 HL6 ⊢
          (try rw [hT] at NE26)
          (try rw [hT] at NE46)
          (try rw [hT] at NE68)
          clear hT
          obtain ⟨wL3, hw⟩ : ∃ x, wL2.alloc (.cells (rowV n fun _ => .int .u16 0) 86) = x := ⟨_, rfl⟩
          rw [hw] at K6 BL3 ⊢
          (try rw [hw] at K2)
          (try rw [hw] at K4)
          (try rw [hw] at K8)
          clear hw
          refine wpAnyJ_one 2 rfl (by kernel_rfl) (fun K hK => ?_)
          have BL4 := hide (BL3.out.alloc BL3.out.size (.cells (rowV n fun _ => .int .u16 0) 86))
          have hb : Below wL3.heap.size wL3 (wL3.alloc (.cells (rowV n fun _ => .int .u16 0) 86)) := (Below.refl _ _).alloc (Nat.le_refl _) _
          have HL2 : Hid (lo ≤ wL3.heap.size) := hide (by rw [HLO.out]; exact BL3.out.size)
          (try have NE24 : Hid (wL3.heap.size ≠ a4) := hide (by have := K4.out.lt; omega))
          (try have NE26 : Hid (wL3.heap.size ≠ a6) := hide (by have := K6.out.lt; omega))
          (try have NE28 : Hid (wL3.heap.size ≠ a8) := hide (by have := K8.out.lt; omega))
          (try replace K4 := hide (K4.out.ext hb))
          (try replace K6 := hide (K6.out.ext hb))
          (try replace K8 := hide (K8.out.ext hb))
          have K2 := hide (Blk.new wL3 86 (rowV n fun _ => .int .u16 0))
          clear hb
          simp only [glA, glB, glC]
          go_simp
          refine hK.out _ _ (fun _ => HS4.out _ BL4.out) ?_
          clear hK K
          (try simp only [glA, glB, glC, Act.put, glD, glE, glF])
          obtain ⟨a2, hT⟩ : ∃ x, wL3.heap.size = x := ⟨_, rfl⟩
          rw [hT] at K2 HL2 ⊢
          (try rw [hT] at NE24)
          (try rw [hT] at NE26)
          (try rw [hT] at NE28)
          clear hT
          obtain ⟨wL4, hw⟩ : ∃ x, wL3.alloc (.cells (rowV n fun _ => .int .u16 0) 86) = x := ⟨_, rfl⟩
          rw [hw] at K2 BL4 ⊢
          (try rw [hw] at K4)
          (try rw [hw] at K6)
          (try rw [hw] at K8)
          clear hw
          as_aux_lemma =>
            refine wpAnyJ_take 9 (v := .agg #[.slice d.A n d.c, .int .i64 la, .int .i64 tl, .slice (some ⟨a2, 0, none⟩) n n, .slice (some ⟨a4, 0, none⟩) n n, .slice (some ⟨a6, 0, none⟩) n n, .slice (some ⟨a8, 0, none⟩) n n, .int .u16 0]) wideFn (HS4.out _ BL4.out) rfl (by kernel_rfl) (by kernel_rfl) (by kernel_rfl) (by kernel_rfl) rfl (fun W _ => by simp only [glA, glB, glC]; refine exec_build rfl ?_; simp only [List.map_toArray, List.map_cons, List.map_nil]; go_simp; exact built_book _ _ _ _ _ _ _ _ _) (fun _ _ _ h => h) ?_
            (try simp only [glA, glB, glC, Act.put, glD, glE, glF])
            have hb : Below wL4.heap.size wL4 (wL4.alloc (.cells #[.slice d.A n d.c, .int .i64 la, .int .i64 tl, .slice (some ⟨a2, 0, none⟩) n n, .slice (some ⟨a4, 0, none⟩) n n, .slice (some ⟨a6, 0, none⟩) n n, .slice (some ⟨a8, 0, none⟩) n n, .int .u16 0] 133)) := (Below.refl _ _).alloc (Nat.le_refl _) _
            have HBB := hide (HM.out.trans ((BL4.out.trans (hb.mono BL4.out.size)).mono HM.out.size))
            have BLb := hide (BL4.out.trans (hb.mono BL4.out.size))
            refine wpAnyJ_one 10 rfl (by kernel_rfl) (fun K hK => ?_)
            simp only [glA, glB, glC]
            go_simp
            refine hK.out _ _ (fun _ => HS4.out _ BLb.out) ?_
            clear hK K
            (try simp only [glA, glB, glC, Act.put, glD, glE, glF])
            refine wpAnyJ_take 11 (v := ?_) (by first | exact hF | exact wideFn) (HS4.out _ BLb.out) rfl (by kernel_rfl) (by kernel_rfl) (by kernel_rfl) (by kernel_rfl) rfl ?_ (by first | exact fun _ _ _ h => h | exact fun _ _ _ h => hQ2 _ _ _ _ _ h) ?_
            rotate_left
            · intro W hSW
              simp only [glA, glB, glC]
              (try dsimp only at hSW)
              go_simp
              with_reducible rfl
            (try simp only [glA, glB, glC, Act.put, glD, glE, glF])
            refine wpAnyJ_done (by kernel_rfl) ?_
            go_wp2_with fail
            go_meet
            refine ⟨_, ad4 a2 a4 a6 a8, rfl, hide (OpI.init HBB.out ?_ ?_ ?_ ?_ ?_ ?_ ?_ ?_ ?_ NE24.out NE26.out NE28.out NE46.out NE48.out NE68.out ?_ ?_ ?_ ?_ ?_)⟩
            · have := BL4.out.size; have := HLO.out; have := HM.out.size; omega
            · have := HL2.out; have := HLO.out; have := HM.out.size; omega
            · have := HL4.out; have := HLO.out; have := HM.out.size; omega
            · have := HL6.out; have := HLO.out; have := HM.out.size; omega
            · have := HL8.out; have := HLO.out; have := HM.out.size; omega
            · have := K2.out.lt; omega
            · have := K4.out.lt; omega
            · have := K6.out.lt; omega
            · have := K8.out.lt; omega
            · rw [HN.out.1, HN.out.2.1, HN.out.2.2]; exact Blk.new _ _ _
            · rw [HN.out.1]; exact K2.out.ext hb
            · rw [HN.out.1]; exact K4.out.ext hb
            · rw [HN.out.1]; exact K6.out.ext hb
            · rw [HN.out.1]; exact K8.out.ext hb
      · refine ⟨_, rfl, fun K hK => ?_⟩
        have BL2 := hide (BL1.out.alloc BL1.out.size (.cells (rowV n fun _ => .int .u16 0) 86))
        have hb : Below wL1.heap.size wL1 (wL1.alloc (.cells (rowV n fun _ => .int .u16 0) 86)) := (Below.refl _ _).alloc (Nat.le_refl _) _
        have HL6 : Hid (lo ≤ wL1.heap.size) := hide (by rw [HLO.out]; exact BL1.out.size)
        (try have NE26 : Hid (a2 ≠ wL1.heap.size) := hide (by have := K2.out.lt; omega))
        (try have NE46 : Hid (a4 ≠ wL1.heap.size) := hide (by have := K4.out.lt; omega))
        (try have NE68 : Hid (wL1.heap.size ≠ a8) := hide (by have := K8.out.lt; omega))
        (try replace K2 := hide (K2.out.ext hb))
        (try replace K4 := hide (K4.out.ext hb))
        (try replace K8 := hide (K8.out.ext hb))
        have K6 := hide (Blk.new wL1 86 (rowV n fun _ => .int .u16 0))
        clear hb
        simp only [glA, glB, glC]
        go_simp
        refine hK.out _ _ (fun _ => HS4.out _ BL2.out) ?_
        clear hK K
        (try simp only [glA, glB, glC, Act.put, glD, glE, glF])
        obtain ⟨a6, hT⟩ : ∃ x, wL1.heap.size = x := ⟨_, rfl⟩
        rw [hT] at K6 HL6 ⊢
        (try rw [hT] at NE26)
        (try rw [hT] at NE46)
        (try rw [hT] at NE68)
        clear hT
        obtain ⟨wL2, hw⟩ : ∃ x, wL1.alloc (.cells (rowV n fun _ => .int .u16 0) 86) = x := ⟨_, rfl⟩
        rw [hw] at K6 BL2 ⊢
        (try rw [hw] at K2)
        (try rw [hw] at K4)
        (try rw [hw] at K8)
        clear hw
        refine wpAnyJ_list [2, 4] (by kernel_rfl) (by decide) (fun i hi => ?_)
        rcases (by simpa using hi : i = 2 ∨ i = 4) with rfl | rfl
        · refine ⟨_, rfl, fun K hK => ?_⟩
          have BL3 := hide (BL2.out.alloc BL2.out.size (.cells (rowV n fun _ => .int .u16 0) 86))
          have hb : Below wL2.heap.size wL2 (wL2.alloc (.cells (rowV n fun _ => .int .u16 0) 86)) := (Below.refl _ _).alloc (Nat.le_refl _) _
          have HL2 : Hid (lo ≤ wL2.heap.size) := hide (by rw [HLO.out]; exact BL2.out.size)
          (try have NE24 : Hid (wL2.heap.size ≠ a4) := hide (by have := K4.out.lt; omega))
          (try have NE26 : Hid (wL2.heap.size ≠ a6) := hide (by have := K6.out.lt; omega))
          (try have NE28 : Hid (wL2.heap.size ≠ a8) := hide (by have := K8.out.lt; omega))
          (try replace K4 := hide (K4.out.ext hb))
          (try replace K6 := hide (K6.out.ext hb))
          (try replace K8 := hide (K8.out.ext hb))
          have K2 := hide (Blk.new wL2 86 (rowV n fun _ => .int .u16 0))
          clear hb
          simp only [glA, glB, glC]
          go_simp
          refine hK.out _ _ (fun _ => HS4.out _ BL3.out) ?_
          clear hK K
          (try simp only [glA, glB, glC, Act.put, glD, glE, glF])
          obtain ⟨a2, hT⟩ : ∃ x, wL2.heap.size = x := ⟨_, rfl⟩
          rw [hT] at K2 HL2 ⊢
          (try rw [hT] at NE24)
          (try rw [hT] at NE26)
          (try rw [hT] at NE28)
          clear hT
          obtain ⟨wL3, hw⟩ : ∃ x, wL2.alloc (.cells (rowV n fun _ => .int .u16 0) 86) = x := ⟨_, rfl⟩
          rw [hw] at K2 BL3 ⊢
          (try rw [hw] at K4)
          (try rw [hw] at K6)
          (try rw [hw] at K8)
          clear hw
          refine wpAnyJ_one 4 rfl (by kernel_rfl) (fun K hK => ?_)
          have BL4 := hide (BL3.out.alloc BL3.out.size (.cells (rowV n fun _ => .int .u16 0) 86))
          have hb : Below wL3.heap.size wL3 (wL3.alloc (.cells (rowV n fun _ => .int .u16 0) 86)) := (Below.refl _ _).alloc (Nat.le_refl _) _
          have HL4 : Hid (lo ≤ wL3.heap.size) := hide (by rw [HLO.out]; exact BL3.out.size)
          (try have NE24 : Hid (a2 ≠ wL3.heap.size) := hide (by have := K2.out.lt; omega))
          (try have NE46 : Hid (wL3.heap.size ≠ a6) := hide (by have := K6.out.lt; omega))
          (try have NE48 : Hid (wL3.heap.size ≠ a8) := hide (by have := K8.out.lt; omega))
          (try replace K2 := hide (K2.out.ext hb))
          (try replace K6 := hide (K6.out.ext hb))
          (try replace K8 := hide (K8.out.ext hb))
          have K4 := hide (Blk.new wL3 86 (rowV n fun _ => .int .u16 0))
          clear hb
          simp only [glA, glB, glC]
          go_simp
          refine hK.out _ _ (fun _ => HS4.out _ BL4.out) ?_
          clear hK K
          (try simp only [glA, glB, glC, Act.put, glD, glE, glF])
          obtain ⟨a4, hT⟩ : ∃ x, wL3.heap.size = x := ⟨_, rfl⟩
          rw [hT] at K4 HL4 ⊢
          (try rw [hT] at NE24)
          (try rw [hT] at NE46)
          (try rw [hT] at NE48)
          clear hT
          obtain ⟨wL4, hw⟩ : ∃ x, wL3.alloc (.cells (rowV n fun _ => .int .u16 0) 86) = x := ⟨_, rfl⟩
          rw [hw] at K4 BL4 ⊢
          (try rw [hw] at K2)
          (try rw [hw] at K6)
          (try rw [hw] at K8)
          clear hw
          as_aux_lemma =>
            refine wpAnyJ_take 9 (v := .agg #[.slice d.A n d.c, .int .i64 la, .int .i64 tl, .slice (some ⟨a2, 0, none⟩) n n, .slice (some ⟨a4, 0, none⟩) n n, .slice (some ⟨a6, 0, none⟩) n n, .slice (some ⟨a8, 0, none⟩) n n, .int .u16 0]) wideFn (HS4.out _ BL4.out) rfl (by kernel_rfl) (by kernel_rfl) (by kernel_rfl) (by kernel_rfl) rfl (fun W _ => by simp only [glA, glB, glC]; refine exec_build rfl ?_; simp only [List.map_toArray, List.map_cons, List.map_nil]; go_simp; exact built_book _ _ _ _ _ _ _ _ _) (fun _ _ _ h => h) ?_
            (try simp only [glA, glB, glC, Act.put, glD, glE, glF])
            have hb : Below wL4.heap.size wL4 (wL4.alloc (.cells #[.slice d.A n d.c, .int .i64 la, .int .i64 tl, .slice (some ⟨a2, 0, none⟩) n n, .slice (some ⟨a4, 0, none⟩) n n, .slice (some ⟨a6, 0, none⟩) n n, .slice (some ⟨a8, 0, none⟩) n n, .int .u16 0] 133)) := (Below.refl _ _).alloc (Nat.le_refl _) _
            have HBB := hide (HM.out.trans ((BL4.out.trans (hb.mono BL4.out.size)).mono HM.out.size))
            have BLb := hide (BL4.out.trans (hb.mono BL4.out.size))
            refine wpAnyJ_one 10 rfl (by kernel_rfl) (fun K hK => ?_)
            simp only [glA, glB, glC]
            go_simp
            refine hK.out _ _ (fun _ => HS4.out _ BLb.out) ?_
            clear hK K
            (try simp only [glA, glB, glC, Act.put, glD, glE, glF])
            refine wpAnyJ_take 11 (v := ?_) (by first | exact hF | exact wideFn) (HS4.out _ BLb.out) rfl (by kernel_rfl) (by kernel_rfl) (by kernel_rfl) (by kernel_rfl) rfl ?_ (by first | exact fun _ _ _ h => h | exact fun _ _ _ h => hQ2 _ _ _ _ _ h) ?_
            rotate_left
            · intro W hSW
              simp only [glA, glB, glC]
              (try dsimp only at hSW)
              go_simp
              with_reducible rfl
            (try simp only [glA, glB, glC, Act.put, glD, glE, glF])
            refine wpAnyJ_done (by kernel_rfl) ?_
            go_wp2_with fail
            go_meet
            refine ⟨_, ad4 a2 a4 a6 a8, rfl, hide (OpI.init HBB.out ?_ ?_ ?_ ?_ ?_ ?_ ?_ ?_ ?_ NE24.out NE26.out NE28.out NE46.out NE48.out NE68.out ?_ ?_ ?_ ?_ ?_)⟩
            · have := BL4.out.size; have := HLO.out; have := HM.out.size; omega
            · have := HL2.out; have := HLO.out; have := HM.out.size; omega
            · have := HL4.out; have := HLO.out; have := HM.out.size; omega
            · have := HL6.out; have := HLO.out; have := HM.out.size; omega
            · have := HL8.out; have := HLO.out; have := HM.out.size; omega
            · have := K2.out.lt; omega
            · have := K4.out.lt; omega
            · have := K6.out.lt; omega
            · have := K8.out.lt; omega
            · rw [HN.out.1, HN.out.2.1, HN.out.2.2]; exact Blk.new _ _ _
            · rw [HN.out.1]; exact K2.out.ext hb
            · rw [HN.out.1]; exact K4.out.ext hb
            · rw [HN.out.1]; exact K6.out.ext hb
            · rw [HN.out.1]; exact K8.out.ext hb
        · refine ⟨_, rfl, fun K hK => ?_⟩
          have BL3 := hide (BL2.out.alloc BL2.out.size (.cells (rowV n fun _ => .int .u16 0) 86))
          have hb : Below wL2.heap.size wL2 (wL2.alloc (.cells (rowV n fun _ => .int .u16 0) 86)) := (Below.refl _ _).alloc (Nat.le_refl _) _
          have HL4 : Hid (lo ≤ wL2.heap.size) := hide (by rw [HLO.out]; exact BL2.out.size)
          (try have NE24 : Hid (a2 ≠ wL2.heap.size) := hide (by have := K2.out.lt; omega))
          (try have NE46 : Hid (wL2.heap.size ≠ a6) := hide (by have := K6.out.lt; omega))
          (try have NE48 : Hid (wL2.heap.size ≠ a8) := hide (by have := K8.out.lt; omega))
          (try replace K2 := hide (K2.out.ext hb))
          (try replace K6 := hide (K6.out.ext hb))
          (try replace K8 := hide (K8.out.ext hb))
          have K4 := hide (Blk.new wL2 86 (rowV n fun _ => .int .u16 0))
          clear hb
          simp only [glA, glB, glC]
          go_simp
          refine hK.out _ _ (fun _ => HS4.out _ BL3.out) ?_
          clear hK K
          (try simp only [glA, glB, glC, Act.put, glD, glE, glF])
          obtain ⟨a4, hT⟩ : ∃ x, wL2.heap.size = x := ⟨_, rfl⟩
          rw [hT] at K4 HL4 ⊢
          (try rw [hT] at NE24)
          (try rw [hT] at NE46)
          (try rw [hT] at NE48)
          clear hT
          obtain ⟨wL3, hw⟩ : ∃ x, wL2.alloc (.cells (rowV n fun _ => .int .u16 0) 86) = x := ⟨_, rfl⟩
          rw [hw] at K4 BL3 ⊢
          (try rw [hw] at K2)
          (try rw [hw] at K6)
          (try rw [hw] at K8)
          clear hw
          refine wpAnyJ_one 2 rfl (by kernel_rfl) (fun K hK => ?_)
          have BL4 := hide (BL3.out.alloc BL3.out.size (.cells (rowV n fun _ => .int .u16 0) 86))
          have hb : Below wL3.heap.size wL3 (wL3.alloc (.cells (rowV n fun _ => .int .u16 0) 86)) := (Below.refl _ _).alloc (Nat.le_refl _) _
          have HL2 : Hid (lo ≤ wL3.heap.size) := hide (by rw [HLO.out]; exact BL3.out.size)
          (try have NE24 : Hid (wL3.heap.size ≠ a4) := hide (by have := K4.out.lt; omega))
          (try have NE26 : Hid (wL3.heap.size ≠ a6) := hide (by have := K6.out.lt; omega))
          (try have NE28 : Hid (wL3.heap.size ≠ a8) := hide (by have := K8.out.lt; omega))
          (try replace K4 := hide (K4.out.ext hb))
          (try replace K6 := hide (K6.out.ext hb))
          (try replace K8 := hide (K8.out.ext hb))
          have K2 := hide (Blk.new wL3 86 (rowV n fun _ => .int .u16 0))
          clear hb
          simp only [glA, glB, glC]
          go_simp
          refine hK.out _ _ (fun _ => HS4.out _ BL4.out) ?_
          clear hK K
          (try simp only [glA, glB, glC, Act.put, glD, glE, glF])
          obtain ⟨a2, hT⟩ : ∃ x, wL3.heap.size = x := ⟨_, rfl⟩
          rw [hT] at K2 HL2 ⊢
          (try rw [hT] at NE24)
          (try rw [hT] at NE26)
          (try rw [hT] at NE28)
          clear hT
          obtain ⟨wL4, hw⟩ : ∃ x, wL3.alloc (.cells (rowV n fun _ => .int .u16 0) 86) = x := ⟨_, rfl⟩
          rw [hw] at K2 BL4 ⊢
          (try rw [hw] at K4)
          (try rw [hw] at K6)
          (try rw [hw] at K8)
          clear hw
          as_aux_lemma =>
            refine wpAnyJ_take 9 (v := .agg #[.slice d.A n d.c, .int .i64 la, .int .i64 tl, .slice (some ⟨a2, 0, none⟩) n n, .slice (some ⟨a4, 0, none⟩) n n, .slice (some ⟨a6, 0, none⟩) n n, .slice (some ⟨a8, 0, none⟩) n n, .int .u16 0]) wideFn (HS4.out _ BL4.out) rfl (by kernel_rfl) (by kernel_rfl) (by kernel_rfl) (by kernel_rfl) rfl (fun W _ => by simp only [glA, glB, glC]; refine exec_build rfl ?_; simp only [List.map_toArray, List.map_cons, List.map_nil]; go_simp; exact built_book _ _ _ _ _ _ _ _ _) (fun _ _ _ h => h) ?_
            (try simp only [glA, glB, glC, Act.put, glD, glE, glF])
            have hb : Below wL4.heap.size wL4 (wL4.alloc (.cells #[.slice d.A n d.c, .int .i64 la, .int .i64 tl, .slice (some ⟨a2, 0, none⟩) n n, .slice (some ⟨a4, 0, none⟩) n n, .slice (some ⟨a6, 0, none⟩) n n, .slice (some ⟨a8, 0, none⟩) n n, .int .u16 0] 133)) := (Below.refl _ _).alloc (Nat.le_refl _) _
            have HBB := hide (HM.out.trans ((BL4.out.trans (hb.mono BL4.out.size)).mono HM.out.size))
            have BLb := hide (BL4.out.trans (hb.mono BL4.out.size))
            refine wpAnyJ_one 10 rfl (by kernel_rfl) (fun K hK => ?_)
            simp only [glA, glB, glC]
            go_simp
            refine hK.out _ _ (fun _ => HS4.out _ BLb.out) ?_
            clear hK K
            (try simp only [glA, glB, glC, Act.put, glD, glE, glF])
            refine wpAnyJ_take 11 (v := ?_) (by first | exact hF | exact wideFn) (HS4.out _ BLb.out) rfl (by kernel_rfl) (by kernel_rfl) (by kernel_rfl) (by kernel_rfl) rfl ?_ (by first | exact fun _ _ _ h => h | exact fun _ _ _ h => hQ2 _ _ _ _ _ h) ?_
            rotate_left
            · intro W hSW
              simp only [glA, glB, glC]
              (try dsimp only at hSW)
              go_simp
              with_reducible rfl
            (try simp only [glA, glB, glC, Act.put, glD, glE, glF])
            refine wpAnyJ_done (by kernel_rfl) ?_
            go_wp2_with fail
            go_meet
            refine ⟨_, ad4 a2 a4 a6 a8, rfl, hide (OpI.init HBB.out ?_ ?_ ?_ ?_ ?_ ?_ ?_ ?_ ?_ NE24.out NE26.out NE28.out NE46.out NE48.out NE68.out ?_ ?_ ?_ ?_ ?_)⟩
            · have := BL4.out.size; have := HLO.out; have := HM.out.size; omega
            · have := HL2.out; have := HLO.out; have := HM.out.size; omega
            · have := HL4.out; have := HLO.out; have := HM.out.size; omega
            · have := HL6.out; have := HLO.out; have := HM.out.size; omega
            · have := HL8.out; have := HLO.out; have := HM.out.size; omega
            · have := K2.out.lt; omega
            · have := K4.out.lt; omega
            · have := K6.out.lt; omega
            · have := K8.out.lt; omega
            · rw [HN.out.1, HN.out.2.1, HN.out.2.2]; exact Blk.new _ _ _
            · rw [HN.out.1]; exact K2.out.ext hb
            · rw [HN.out.1]; exact K4.out.ext hb
            · rw [HN.out.1]; exact K6.out.ext hb
            · rw [HN.out.1]; exact K8.out.ext hb
    -- END1
  obtain ⟨b, ad, rfl, HOP⟩ := hcut
  have HOPB := hide HOP.out.below
  -- BEGIN2
  have HMD := hide (NmAt.made wc)
  have HBM : Hid (Below wc.heap.size wc (wc.alloc (.map #[] 0))) := hide ((Below.refl _ _).alloc (Nat.le_refl _) _)
  replace HOP := hide (HOP.out.ext HBM.out)
  have hmm := @run_makeMap Tryd.prog
  go_upto_region 6 with fail
  clear hmm
  obtain ⟨w2, hw2⟩ : ∃ x, wc.alloc (.map #[] 0) = x := ⟨_, rfl⟩
  rw [hw2] at HMD HOP ⊢
  have HML : Hid (w1.heap.size ≤ wc.heap.size) := hide HOPB.out.size
  obtain ⟨M, hM⟩ : ∃ x, wc.heap.size = x := ⟨_, rfl⟩
  rw [hM] at HMD HML ⊢
  clear hM hw2 HBM HOPB
  obtain ⟨g9, g0, g1, g2, -⟩ := blk3 (G1.out.ext HOP.out.below)
  have HF0 : Hid (opF r 0 = fun _ _ => 0) := hide (by
    funext j i
    unfold opF
    by_cases h0 : j = 0
    · rw [if_pos h0, if_neg (by omega)]
    · rw [if_neg h0]
      by_cases h1 : j = 1
      · rw [if_pos h1, if_neg (by omega)]
      · rw [if_neg h1]
        by_cases h2 : j = 2
        · rw [if_pos h2]; rfl
        · rw [if_neg h2]; rfl)
  have HNM0 : Hid (NmAt w2 M 0 (fun z => (List.range 0).any fun t => decide ((r.ac t).nm = z))) := HMD
  rw [← HF0.out] at HOP
  clear HMD HF0
  go_wp2_with fail
  clear g0 g1 g2 g9
  go_loopw [7, 8, 10, 46] (fun _ _ _ i wr => ∃ k : Nat, k ≤ n ∧ i = .int .i64 k ∧ Hid (OpI w1 wr d r b ad (opF r k) (opM r k)) ∧ Hid (NmAt wr M k (fun z => (List.range k).any fun t => decide ((r.ac t).nm = z))) ∧ Hid (∀ t, t < k → acB r t = true)) (fun _ _ _ i _ => n - (intOf i).toNat)
  case atStart => exact ⟨0, Nat.zero_le _, rfl, HOP, HNM0, hide (fun t ht => absurd ht (by omega))⟩
  case round =>
    obtain ⟨k, hk, rfl, HI, HNM, HAK⟩ := hrel
    clear HOP HNM0
    by_cases hlt : k < n
    · -- BEGIN3
      have hst : IntKind.i64.wrap ((k : Int) + 1) = ((k + 1 : Nat) : Int) := by rw [IntWalk.i64_in _ (by omega)]; omega
      have hlt' : (k : Int) < (n : Int) := by omega
      have hkn : k < r.n := by rw [HN.out.1]; exact hlt
      obtain ⟨a, ha⟩ : ∃ a, r.ac k = a := ⟨_, rfl⟩
      obtain ⟨nm, nd, ins, at_, fr, to_, ex⟩ := a
      have HA := hide ha
      have has := ac_split ha
      rw [HN.out.1, HN.out.2.1] at has
      have HAS := hide has
      clear has
      obtain ⟨pb, po, hA, hpl, x0, x1, x2, x3, x4, x5, x6⟩ := (HRT.out.ext HI.out.below).at_ hkn ha
      dsimp only at x0 x1 x2 x3 x4 x5 x6
      have HHA := hide hA
      rw [hA]
      clear ha hA
      have hz1 : nm.size ≤ 1000 := by have := HZ.out.nm k hkn; rw [HA.out] at this; exact this
      have hz2 : nd.length ≤ 1000 := by have := HZ.out.nd k hkn; rw [HA.out] at this; exact this
      have hz3 : ins.length ≤ 1000 := by have := HZ.out.ins k hkn; rw [HA.out] at this; exact this
      have hbb : Below wr.heap.size wr (wr.alloc (.cells #[.string nm, .slice (d.na k) nd.length (d.nc k), .slice (d.ia k) ins.length (d.ic k), .int .i64 at_, .int .i64 fr, .int .i64 to_, .bool ex] 71)) := (Below.refl _ _).alloc (Nat.le_refl _) _
      have HI1 := hide (HI.out.ext hbb)
      have HNM1 := hide (HNM.out.ext hbb)
      have KA := hide (Blk.new wr 71 #[.string nm, .slice (d.na k) nd.length (d.nc k), .slice (d.ia k) ins.length (d.ic k), .int .i64 at_, .int .i64 fr, .int .i64 to_, .bool ex])
      have HND : Hid (∀ W, Below w1.heap.size w1 W → LI W W.heap.size (d.na k) nd) := hide fun W h => by
        have := (HRT.out.ext h).nd k hkn
        rw [HA.out] at this
        exact this
      have HIN : Hid (∀ W, Below w1.heap.size w1 W → LI W W.heap.size (d.ia k) ins) := hide fun W h => by
        have := (HRT.out.ext h).ins k hkn
        rw [HA.out] at this
        exact this
      have HGA : Hid (∀ j, j < 4 → wr.heap.size ≠ ad j) := hide fun j hj => by have := (HI.out.ar j hj).lt; omega
      have HGB : Hid (wr.heap.size ≠ b) := hide (by have := HI.out.blk.lt; omega)
      clear hbb HI HNM
      go_upto_region 9 with fail
      clear x0 x1 x2 x3 x4 x5 x6
      generalize wr.alloc (.cells #[.string nm, .slice (d.na k) nd.length (d.nc k), .slice (d.ia k) ins.length (d.ic k), .int .i64 at_, .int .i64 fr, .int .i64 to_, .bool ex] 71) = wa at HI1 HNM1 KA ⊢
      generalize wr.heap.size = g at KA HGA HGB ⊢
      obtain ⟨y9, y0, y1, y2, y3, y4, y5, y6⟩ := bx7 KA.out
      have HC1 := hide (rname_any nm wa (by unfold maxLen; omega))
      cases hc1 : wordB nm with
      | false =>
        rw [hc1] at HC1
        go_wp2_with fail
        refine HC1.out.mono ?_
        rintro e w4 ⟨rfl, hb4⟩
        replace HI1 := hide (HI1.out.ext hb4)
        clear hb4 y0 y1 y2 y3 y4 y5 y6 y9
        go_wp2_with fail
        go_ret2
        exact ⟨.inl ⟨ri_ac hkn (Bool.eq_false_iff.2 fun h => by
          have h9 := HAS.out.1 h
          rw [h9.1] at hc1; cases hc1), rfl⟩, HB1.out.trans (HI1.out.below.mono HB1.out.size)⟩
      | true =>
      rw [hc1] at HC1
      have HP1 := hide hc1
      clear hc1
      go_wp2_with fail
      refine HC1.out.mono ?_
      rintro e w4 ⟨rfl, hb4⟩
      replace HI1 := hide (HI1.out.ext hb4)
      replace HNM1 := hide (HNM1.out.ext hb4)
      replace KA := hide (KA.out.ext hb4)
      clear hb4 y0 y1 y2 y3 y4 y5 y6 y9 HC1
      obtain ⟨y9, y0, y1, y2, y3, y4, y5, y6⟩ := bx7 KA.out
      have hlk := nm_look HNM1.out nm (by unfold maxLen; omega)
      cases hc2 : (List.range k).any (fun t => decide ((r.ac t).nm = nm)) with
      | true =>
        rw [hc2] at hlk
        go_wp2_with fail
        go_ret2
        exact ⟨.inl ⟨ri_ac hkn (Bool.eq_false_iff.2 fun h => by
          have h9 := HAS.out.1 h
          rw [h9.2.1] at hc2; cases hc2), rfl⟩, HB1.out.trans (HI1.out.below.mono HB1.out.size)⟩
      | false =>
      rw [hc2] at hlk
      have HP2 := hide hc2
      clear hc2
      have e1 : IntKind.i64.wrap ((n : Int) - 1) = (n : Int) - 1 := IntWalk.i64_in _ (by omega)
      have HC3 := hide (isList_any (d.na k) (d.nc k) nd k n w4 (by omega) (HND.out _ HI1.out.below))
      cases hc3 : isLF k n (-1) nd with
      | false =>
        rw [hc3] at HC3
        go_wp2_with fail
        refine HC3.out.mono ?_
        rintro e w5 ⟨rfl, rfl⟩
        go_wp2_with fail
        go_ret2
        exact ⟨.inl ⟨ri_ac hkn (Bool.eq_false_iff.2 fun h => by
          have h9 := HAS.out.1 h
          rw [h9.2.2.1] at hc3; cases hc3), rfl⟩, HB1.out.trans (HI1.out.below.mono HB1.out.size)⟩
      | true =>
      rw [hc3] at HC3
      have HP3 := hide hc3
      clear hc3
      go_wp2_with fail
      refine HC3.out.mono ?_
      rintro e w5 ⟨rfl, rfl⟩
      have HC4 := hide (isList_any (d.ia k) (d.ic k) ins k n w4 (by omega) (HIN.out _ HI1.out.below))
      cases hc4 : isLF k n (-1) ins with
      | false =>
        rw [hc4] at HC4
        go_wp2_with fail
        refine HC4.out.mono ?_
        rintro e w5 ⟨rfl, rfl⟩
        go_wp2_with fail
        go_ret2
        exact ⟨.inl ⟨ri_ac hkn (Bool.eq_false_iff.2 fun h => by
          have h9 := HAS.out.1 h
          rw [h9.2.2.2.1] at hc4; cases hc4), rfl⟩, HB1.out.trans (HI1.out.below.mono HB1.out.size)⟩
      | true =>
      rw [hc4] at HC4
      have HP4 := hide hc4
      clear hc4
      go_wp2_with fail
      refine HC4.out.mono ?_
      rintro e w5 ⟨rfl, rfl⟩
      have HC5 := hide (HW.out at_ (-1) ((n : Int) - 1))
      by_cases hc5 : ¬ (-1 ≤ at_ ∧ at_ ≤ (n : Int) - 1)
      · rw [wth_no hc5] at HC5
        go_wp2_with fail
        refine (HC5.out _).mono ?_
        rintro e w5 ⟨rfl, rfl⟩
        go_wp2_with fail
        go_ret2
        exact ⟨.inl ⟨ri_ac hkn (Bool.eq_false_iff.2 fun h => by
          have h9 := HAS.out.1 h
          exact hc5 h9.2.2.2.2.1), rfl⟩, HB1.out.trans (HI1.out.below.mono HB1.out.size)⟩
      rw [Classical.not_not] at hc5
      rw [wth_yes hc5] at HC5
      have HP5 := hide hc5
      clear hc5
      go_wp2_with fail
      refine (HC5.out _).mono ?_
      rintro e w5 ⟨rfl, rfl⟩
      clear HC3 HC4 HC5 hlk
      by_cases hc6 : at_ = (k : Int)
      · have f6 : (at_ == (k : Int)) = true := by rw [hc6]; exact beq_self_eq_true _
        have HP6 := hide hc6
        clear hc6
        go_wp2_with fail
        go_ret2
        exact ⟨.inl ⟨ri_ac hkn (Bool.eq_false_iff.2 fun h => by
          have h9 := HAS.out.1 h
          exact h9.2.2.2.2.2.1 HP6.out), rfl⟩, HB1.out.trans (HI1.out.below.mono HB1.out.size)⟩
      have f6 : (at_ == (k : Int)) = false := by rw [beq_eq_false_iff_ne]; exact hc6
      have HP6 := hide hc6
      clear hc6
      by_cases hc7 : fr < 0
      · go_wp2_with fail
        go_ret2
        exact ⟨.inl ⟨ri_ac hkn (Bool.eq_false_iff.2 fun h => by
          have h9 := HAS.out.1 h
          have := h9.2.2.2.2.2.2.1; omega), rfl⟩, HB1.out.trans (HI1.out.below.mono HB1.out.size)⟩
      by_cases hc8 : fr > to_
      · go_wp2_with fail
        go_ret2
        exact ⟨.inl ⟨ri_ac hkn (Bool.eq_false_iff.2 fun h => by
          have h9 := HAS.out.1 h
          have := h9.2.2.2.2.2.2.2.1; omega), rfl⟩, HB1.out.trans (HI1.out.below.mono HB1.out.size)⟩
      obtain ⟨g9, g0, g1, g2, -⟩ := blk3 (G1.out.ext HI1.out.below)
      by_cases hc9 : to_ > la
      · go_wp2_with fail
        go_ret2
        exact ⟨.inl ⟨ri_ac hkn (Bool.eq_false_iff.2 fun h => by
          have h9 := HAS.out.1 h
          have := h9.2.2.2.2.2.2.2.2; omega), rfl⟩, HB1.out.trans (HI1.out.below.mono HB1.out.size)⟩
      have HAC : Hid (acB r k = true) := hide (HAS.out.2 ⟨HP1.out, HP2.out, HP3.out, HP4.out, HP5.out, HP6.out, by omega, by omega, by omega⟩)
      go_upto_region 11 with fail
      clear hc7 hc8 hc9 f6 e1 y1 y2 y3 y4 y5 y6 g9 g0 g1 g2
      obtain ⟨w5, hrun, hs5, hg5⟩ := nm_put HNM1.out (by unfold maxLen; omega) nm (by unfold maxLen; omega)
      have HI2 := hide (HI1.out.grown hg5 HNM1.out.map HML.out)
      have HMM := hide HNM1.out.map
      replace KA := hide (KA.out.keptN hg5 (fun k e => by cases e; exact HMM.out))
      have HI := hide (RdI.mk HI2.out hs5 KA.out HGB.out HGA.out)
      clear hs5 hg5 HMM HNM1 HI1 HI2 KA HGA HGB
      go_upto_region 12 with fail
      clear hrun y9 y0
      have HS12 : Hid (∀ W, Below w5.heap.size w5 W → ((W.cell? ⟨b, 3, none⟩ = some (.slice (some ⟨ad 0, 0, none⟩) n n) ∧ W.cell? ⟨b, 4, none⟩ = some (.slice (some ⟨ad 1, 0, none⟩) n n)) ∧ W.cell? ⟨g, 1, none⟩ = some (.slice (d.na k) nd.length (d.nc k)) ∧ W.cell? ⟨g, 2, none⟩ = some (.slice (d.ia k) ins.length (d.ic k)))) := hide fun W h => by
        have hb := bx8 (HI.out.op.ext h).blk
        rw [HN.out.1] at hb
        exact ⟨⟨hb.2.2.2.2.1, hb.2.2.2.2.2.1⟩, (bx7 (HI.out.ka.ext h)).2.2.1, (bx7 (HI.out.ka.ext h)).2.2.2.1⟩
      have hn10 := HSZ.out.2.1
      have OF1 := hide (fun W (h : Below w1.heap.size w1 W) => of_any (d.na k) (d.nc k) nd W (by omega) (HND.out W h) (fun x hx => by
        have := isLF_range HP3.out x hx
        omega))
      have OF2 := hide (fun W (h : Below w1.heap.size w1 W) => of_any (d.ia k) (d.ic k) ins W (by omega) (HIN.out W h) (fun x hx => by
        have := isLF_range HP4.out x hx
        omega))
      have OF3 := hide (fun W => of1_any k W (by omega))
      have a3 := or16 (p2_lt (show k < 16 by omega)) (seL_lt ins)
      have hP16 := p2_lt (show k < 16 by omega)
      obtain ⟨P, hP⟩ : ∃ P : Nat, 2 ^ k = P := ⟨_, rfl⟩
      rw [hP] at OF3 a3 hP16
      have HPP := hide hP
      clear hP
      go_cut [] (fun w' => Hid (RdI w1 w' d r b ad (opG r k 0) (opM r k) M (k + 1) (fun z => decide (z = nm) || (List.range k).any fun t => decide ((r.ac t).nm = z)) g #[.string nm, .slice (d.na k) nd.length (d.nc k), .slice (d.ia k) ins.length (d.ic k), .int .i64 at_, .int .i64 fr, .int .i64 to_, .bool ex]))
      case first =>
       as_aux_lemma =>
        have Bd := hide (Below.refl w5.heap.size w5).drew
        refine wp_region_J (fun W : World => ((W.cell? ⟨b, 3, none⟩ = some (.slice (some ⟨ad 0, 0, none⟩) n n) ∧ W.cell? ⟨b, 4, none⟩ = some (.slice (some ⟨ad 1, 0, none⟩) n n)) ∧ W.cell? ⟨g, 1, none⟩ = some (.slice (d.na k) nd.length (d.nc k)) ∧ W.cell? ⟨g, 2, none⟩ = some (.slice (d.ia k) ins.length (d.ic k)))) (by kernel_rfl) ?_
        generalize w5.drew = wd at Bd ⊢
        have BD1 := hide (HI.out.op.below.trans (Bd.out.mono HI.out.op.below.size))
        refine tk_start [0, 1, 2, 3, 4, 5, 6, 7, 8, 9, 10, 11, 13, 16, 17] ?_
        iterate 15
          refine tk_one (v := ?_) (by first | exact hF | exact wideFn) (HS12.out _ Bd.out) rfl (by kernel_rfl) (by kernel_rfl) (by kernel_rfl) (by kernel_rfl) rfl ?_ (by first | exact fun _ _ _ h => h | exact fun _ _ _ h => hQ2 _ _ _ _ _ h) ?_
          rotate_left
          · intro W hSW
            simp only [glA, glB, glC]
            (try dsimp only at hSW)
            go_simp
            with_reducible rfl
          (try simp only [glA, glB, glC, Act.put, glD, glE, glF])
        refine tk_end ?_
        refine wpAnyJ_list [12, 14] (by kernel_rfl) (by decide) (fun i hi => ?_)
        rcases (by simpa using hi : i = 12 ∨ i = 14) with rfl | rfl
        · refine ⟨_, rfl, fun K hK => ?_⟩
          simp only [glA, glB, glC]
          go_simp
          refine ⟨trivial, rfl, ?_⟩
          refine (callsIn_wide.2 (OF1.out _ BD1.out)).mono ?_
          rintro e w6 ⟨rfl, rfl⟩
          skip
          dsimp only
          refine hK.out _ _ (fun _ => HS12.out _ Bd.out) ?_
          clear hK K
          (try simp only [glA, glB, glC, Act.put, glD, glE, glF])
          refine wpAnyJ_one 14 rfl (by kernel_rfl) (fun K hK => ?_)
          simp only [glA, glB, glC]
          go_simp
          refine hK.out _ _ (fun _ => HS12.out _ (Bd.out.alloc Bd.out.size _)) ?_
          clear hK K
          (try simp only [glA, glB, glC, Act.put, glD, glE, glF])
          refine wpAnyJ_one 15 rfl (by kernel_rfl) (fun K hK => ?_)
          simp only [glA, glB, glC]
          go_simp
          refine ⟨trivial, rfl, ?_⟩
          refine (callsIn_wide.2 (OF3.out wd)).mono ?_
          rintro e w6 ⟨rfl, hb6⟩
          have B6 := hide (Bd.out.trans (hb6.mono Bd.out.size))
          dsimp only
          refine hK.out _ _ (fun _ => HS12.out _ B6.out) ?_
          clear hK K
          (try simp only [glA, glB, glC, Act.put, glD, glE, glF])
          clear hb6
          refine wpAnyJ_one 18 rfl (by kernel_rfl) (fun K hK => ?_)
          simp only [glA, glB, glC]
          go_simp
          refine ⟨trivial, rfl, ?_⟩
          refine (callsIn_wide.2 (OF2.out _ (HI.out.op.below.trans (B6.out.mono HI.out.op.below.size)))).mono ?_
          rintro e w7 ⟨rfl, rfl⟩
          skip
          dsimp only
          refine hK.out _ _ (fun _ => HS12.out _ B6.out) ?_
          clear hK K
          (try simp only [glA, glB, glC, Act.put, glD, glE, glF])
          replace HI := hide (HI.out.ext B6.out)
          refine wpAnyJ_take 19 (v := ?_) (by first | exact hF | exact wideFn) (HS12.out _ B6.out) rfl (by kernel_rfl) (by kernel_rfl) (by kernel_rfl) (by kernel_rfl) rfl ?_ (by first | exact fun _ _ _ h => h | exact fun _ _ _ h => hQ2 _ _ _ _ _ h) ?_
          rotate_left
          · intro W hSW
            simp only [glA, glB, glC]
            (try dsimp only at hSW)
            go_simp
            with_reducible rfl
          (try simp only [glA, glB, glC, Act.put, glD, glE, glF])
          refine wpAnyJ_take 20 (v := ?_) (by first | exact hF | exact wideFn) (HS12.out _ B6.out) rfl (by kernel_rfl) (by kernel_rfl) (by kernel_rfl) (by kernel_rfl) rfl ?_ (by first | exact fun _ _ _ h => h | exact fun _ _ _ h => hQ2 _ _ _ _ _ h) ?_
          rotate_left
          · intro W hSW
            simp only [glA, glB, glC]
            (try dsimp only at hSW)
            go_simp
            with_reducible rfl
          (try simp only [glA, glB, glC, Act.put, glD, glE, glF])
          have f1 := (HI.out.op.ar 0 (by decide)).frozen k
          have c1 := HI.out.op.cell (j := 0) (by decide) hkn
          clear HS12
          replace HI := hide (HI.out.put (j := 0) (by decide) k (seL nd))
          have HS12 : Hid ((((w6.setCell ⟨ad 0, k, none⟩ (.int .u16 (seL nd : Nat))).cell? ⟨b, 3, none⟩ = some (.slice (some ⟨ad 0, 0, none⟩) n n) ∧ (w6.setCell ⟨ad 0, k, none⟩ (.int .u16 (seL nd : Nat))).cell? ⟨b, 4, none⟩ = some (.slice (some ⟨ad 1, 0, none⟩) n n)) ∧ (w6.setCell ⟨ad 0, k, none⟩ (.int .u16 (seL nd : Nat))).cell? ⟨g, 1, none⟩ = some (.slice (d.na k) nd.length (d.nc k)) ∧ (w6.setCell ⟨ad 0, k, none⟩ (.int .u16 (seL nd : Nat))).cell? ⟨g, 2, none⟩ = some (.slice (d.ia k) ins.length (d.ic k)))) := hide (by
            have hb := bx8 HI.out.op.blk
            rw [HN.out.1] at hb
            exact ⟨⟨hb.2.2.2.2.1, hb.2.2.2.2.2.1⟩, (bx7 HI.out.ka).2.2.1, (bx7 HI.out.ka).2.2.2.1⟩)
          refine wpAnyJ_one 21 rfl (by kernel_rfl) (fun K hK => ?_)
          simp only [glA, glB, glC]
          go_simp
          refine hK.out _ _ (fun _ => HS12.out) ?_
          clear hK K
          (try simp only [glA, glB, glC, Act.put, glD, glE, glF])
          refine wpAnyJ_take 22 (v := ?_) (by first | exact hF | exact wideFn) HS12.out rfl (by kernel_rfl) (by kernel_rfl) (by kernel_rfl) (by kernel_rfl) rfl ?_ (by first | exact fun _ _ _ h => h | exact fun _ _ _ h => hQ2 _ _ _ _ _ h) ?_
          rotate_left
          · intro W hSW
            simp only [glA, glB, glC]
            (try dsimp only at hSW)
            go_simp
            with_reducible rfl
          (try simp only [glA, glB, glC, Act.put, glD, glE, glF])
          clear f1 c1
          have f1 := (HI.out.op.ar 1 (by decide)).frozen k
          have c1 := HI.out.op.cell (j := 1) (by decide) hkn
          refine wpAnyJ_one 23 rfl (by kernel_rfl) (fun K hK => ?_)
          simp only [glA, glB, glC]
          go_simp
          refine hK.out _ _ (fun h => absurd h (by rw [show lastOp _ _ _ = true from by kernel_rfl]; simp)) ?_
          clear hK K
          (try simp only [glA, glB, glC, Act.put, glD, glE, glF])
          refine wpAnyJ_done (by kernel_rfl) ?_
          replace HI := hide ((HI.out.put (j := 1) (by decide) k (P ||| seL ins)).congr (f' := opG r k 0) (fun j i hj _ => by
            have h := opG_zero r k j i hj
            rw [HA.out] at h
            rw [← HPP.out]
            exact h) rfl)
          go_wp2_with fail
          go_meet
          exact HI
        · refine ⟨_, rfl, fun K hK => ?_⟩
          simp only [glA, glB, glC]
          go_simp
          refine hK.out _ _ (fun _ => HS12.out _ (Bd.out.alloc Bd.out.size _)) ?_
          clear hK K
          (try simp only [glA, glB, glC, Act.put, glD, glE, glF])
          have B0 := hide (BD1.out.alloc BD1.out.size (.cells #[.int .i64 (k : Nat)] 3))
          refine wpAnyJ_one 12 rfl (by kernel_rfl) (fun K hK => ?_)
          simp only [glA, glB, glC]
          go_simp
          refine ⟨trivial, rfl, ?_⟩
          refine (callsIn_wide.2 (OF1.out _ B0.out)).mono ?_
          rintro e w6 ⟨rfl, rfl⟩
          skip
          dsimp only
          refine hK.out _ _ (fun _ => HS12.out _ (Bd.out.alloc Bd.out.size _)) ?_
          clear hK K
          (try simp only [glA, glB, glC, Act.put, glD, glE, glF])
          clear B0
          refine wpAnyJ_one 15 rfl (by kernel_rfl) (fun K hK => ?_)
          simp only [glA, glB, glC]
          go_simp
          refine ⟨trivial, rfl, ?_⟩
          refine (callsIn_wide.2 (OF3.out wd)).mono ?_
          rintro e w6 ⟨rfl, hb6⟩
          have B6 := hide (Bd.out.trans (hb6.mono Bd.out.size))
          dsimp only
          refine hK.out _ _ (fun _ => HS12.out _ B6.out) ?_
          clear hK K
          (try simp only [glA, glB, glC, Act.put, glD, glE, glF])
          clear hb6
          refine wpAnyJ_one 18 rfl (by kernel_rfl) (fun K hK => ?_)
          simp only [glA, glB, glC]
          go_simp
          refine ⟨trivial, rfl, ?_⟩
          refine (callsIn_wide.2 (OF2.out _ (HI.out.op.below.trans (B6.out.mono HI.out.op.below.size)))).mono ?_
          rintro e w7 ⟨rfl, rfl⟩
          skip
          dsimp only
          refine hK.out _ _ (fun _ => HS12.out _ B6.out) ?_
          clear hK K
          (try simp only [glA, glB, glC, Act.put, glD, glE, glF])
          replace HI := hide (HI.out.ext B6.out)
          refine wpAnyJ_take 19 (v := ?_) (by first | exact hF | exact wideFn) (HS12.out _ B6.out) rfl (by kernel_rfl) (by kernel_rfl) (by kernel_rfl) (by kernel_rfl) rfl ?_ (by first | exact fun _ _ _ h => h | exact fun _ _ _ h => hQ2 _ _ _ _ _ h) ?_
          rotate_left
          · intro W hSW
            simp only [glA, glB, glC]
            (try dsimp only at hSW)
            go_simp
            with_reducible rfl
          (try simp only [glA, glB, glC, Act.put, glD, glE, glF])
          refine wpAnyJ_take 20 (v := ?_) (by first | exact hF | exact wideFn) (HS12.out _ B6.out) rfl (by kernel_rfl) (by kernel_rfl) (by kernel_rfl) (by kernel_rfl) rfl ?_ (by first | exact fun _ _ _ h => h | exact fun _ _ _ h => hQ2 _ _ _ _ _ h) ?_
          rotate_left
          · intro W hSW
            simp only [glA, glB, glC]
            (try dsimp only at hSW)
            go_simp
            with_reducible rfl
          (try simp only [glA, glB, glC, Act.put, glD, glE, glF])
          have f1 := (HI.out.op.ar 0 (by decide)).frozen k
          have c1 := HI.out.op.cell (j := 0) (by decide) hkn
          clear HS12
          replace HI := hide (HI.out.put (j := 0) (by decide) k (seL nd))
          have HS12 : Hid ((((w6.setCell ⟨ad 0, k, none⟩ (.int .u16 (seL nd : Nat))).cell? ⟨b, 3, none⟩ = some (.slice (some ⟨ad 0, 0, none⟩) n n) ∧ (w6.setCell ⟨ad 0, k, none⟩ (.int .u16 (seL nd : Nat))).cell? ⟨b, 4, none⟩ = some (.slice (some ⟨ad 1, 0, none⟩) n n)) ∧ (w6.setCell ⟨ad 0, k, none⟩ (.int .u16 (seL nd : Nat))).cell? ⟨g, 1, none⟩ = some (.slice (d.na k) nd.length (d.nc k)) ∧ (w6.setCell ⟨ad 0, k, none⟩ (.int .u16 (seL nd : Nat))).cell? ⟨g, 2, none⟩ = some (.slice (d.ia k) ins.length (d.ic k)))) := hide (by
            have hb := bx8 HI.out.op.blk
            rw [HN.out.1] at hb
            exact ⟨⟨hb.2.2.2.2.1, hb.2.2.2.2.2.1⟩, (bx7 HI.out.ka).2.2.1, (bx7 HI.out.ka).2.2.2.1⟩)
          refine wpAnyJ_one 21 rfl (by kernel_rfl) (fun K hK => ?_)
          simp only [glA, glB, glC]
          go_simp
          refine hK.out _ _ (fun _ => HS12.out) ?_
          clear hK K
          (try simp only [glA, glB, glC, Act.put, glD, glE, glF])
          refine wpAnyJ_take 22 (v := ?_) (by first | exact hF | exact wideFn) HS12.out rfl (by kernel_rfl) (by kernel_rfl) (by kernel_rfl) (by kernel_rfl) rfl ?_ (by first | exact fun _ _ _ h => h | exact fun _ _ _ h => hQ2 _ _ _ _ _ h) ?_
          rotate_left
          · intro W hSW
            simp only [glA, glB, glC]
            (try dsimp only at hSW)
            go_simp
            with_reducible rfl
          (try simp only [glA, glB, glC, Act.put, glD, glE, glF])
          clear f1 c1
          have f1 := (HI.out.op.ar 1 (by decide)).frozen k
          have c1 := HI.out.op.cell (j := 1) (by decide) hkn
          refine wpAnyJ_one 23 rfl (by kernel_rfl) (fun K hK => ?_)
          simp only [glA, glB, glC]
          go_simp
          refine hK.out _ _ (fun h => absurd h (by rw [show lastOp _ _ _ = true from by kernel_rfl]; simp)) ?_
          clear hK K
          (try simp only [glA, glB, glC, Act.put, glD, glE, glF])
          refine wpAnyJ_done (by kernel_rfl) ?_
          replace HI := hide ((HI.out.put (j := 1) (by decide) k (P ||| seL ins)).congr (f' := opG r k 0) (fun j i hj _ => by
            have h := opG_zero r k j i hj
            rw [HA.out] at h
            rw [← HPP.out]
            exact h) rfl)
          go_wp2_with fail
          go_meet
          exact HI
      clear HS12 OF1 OF2 a3 HI
      have HI := hcut
      clear hcut
      obtain ⟨y9, y0, y1, y2, y3, y4, y5, y6⟩ := bx7 HI.out.ka
      go_wp2_with fail
      clear y9 y0 y1 y2 y3 y4 y5 y6
      go_loopw [10, 138] (fun _ i wr => ∃ m : Nat, m ≤ ins.length ∧ i = .int .i64 m ∧ Hid (RdI w1 wr d r b ad (opG r k m) (opM r k) M (k + 1) (fun z => decide (z = nm) || (List.range k).any fun t => decide ((r.ac t).nm = z)) g #[.string nm, .slice (d.na k) nd.length (d.nc k), .slice (d.ia k) ins.length (d.ic k), .int .i64 at_, .int .i64 fr, .int .i64 to_, .bool ex])) (fun _ i _ => ins.length - (intOf i).toNat)
      case atStart => exact ⟨0, Nat.zero_le _, rfl, HI⟩
      case round =>
       as_aux_lemma =>
        clear HI
        obtain ⟨m, hm, rfl, HI⟩ := hrel
        have hst2 : IntKind.i64.wrap ((m : Int) + 1) = ((m + 1 : Nat) : Int) := by rw [IntWalk.i64_in _ (by omega)]; omega
        by_cases hml : m < ins.length
        · have hml' : (m : Int) < (ins.length : Int) := by omega
          obtain ⟨lb, lo, hil, hib, hic⟩ := VR1.at_ (HIN.out _ HI.out.op.below) hml
          have hxm : ins.getD m 0 ∈ ins := by
            rw [List.getD_eq_getElem?_getD, List.getElem?_eq_getElem hml]
            exact List.getElem_mem hml
          have hxr := isLF_range HP4.out _ hxm
          obtain ⟨x, hx⟩ : ∃ x : Nat, ins.getD m 0 = (x : Int) := ⟨(ins.getD m 0).toNat, by omega⟩
          have hxn : x < n := by omega
          have hxi : (x : Int) < (n : Int) := by omega
          have hx0 : (0 : Int) ≤ (x : Int) := by omega
          replace hic : wr.cell? ⟨lb, lo + m, none⟩ = some (.int .i64 (x : Int)) := by rw [← hx]; exact hic
          have HX := hide hx
          clear hx hxm hxr
          rw [hil]
          go_upto_region 16 with fail
          clear hic hib
          obtain ⟨V, hV⟩ : ∃ V, opG r k m 2 x = V := ⟨_, rfl⟩
          have a4 := or16 (show V < 65536 by rw [← hV]; exact opG_lt (by omega)) hP16
          have HV := hide hV
          have HS16 : Hid (∀ W, Below wr.heap.size wr W → (W.cell? ⟨b, 5, none⟩ = some (.slice (some ⟨ad 2, 0, none⟩) n n) ∧ W.cell? ⟨ad 2, x, none⟩ = some (.int .u16 (V : Nat)))) := hide fun W h => by
            have hb := bx8 (HI.out.op.ext h).blk
            rw [HN.out.1] at hb
            have hc := (HI.out.op.ext h).cell (j := 2) (by decide) (show x < r.n by rw [HN.out.1]; exact hxn)
            rw [HV.out] at hc
            exact ⟨hb.2.2.2.2.2.2.1, hc⟩
          clear hV
          have Bd := hide (Below.refl wr.heap.size wr).drew
          refine wp_region_J (fun W : World => (W.cell? ⟨b, 5, none⟩ = some (.slice (some ⟨ad 2, 0, none⟩) n n) ∧ W.cell? ⟨ad 2, x, none⟩ = some (.int .u16 (V : Nat)))) (by kernel_rfl) ?_
          generalize wr.drew = wd at Bd ⊢
          refine tk_start [0, 1, 2, 3, 4, 5, 6, 7] ?_
          iterate 8
            refine tk_one (v := ?_) (by first | exact hF | exact wideFn) (HS16.out _ Bd.out) rfl (by kernel_rfl) (by kernel_rfl) (by kernel_rfl) (by kernel_rfl) rfl ?_ (by first | exact fun _ _ _ h => h | exact fun _ _ _ h => hQ2 _ _ _ _ _ h) ?_
            rotate_left
            · intro W hSW
              simp only [glA, glB, glC]
              (try dsimp only at hSW)
              go_simp
              with_reducible rfl
            (try simp only [glA, glB, glC, Act.put, glD, glE, glF])
          refine tk_end ?_
          refine wpAnyJ_one 8 rfl (by kernel_rfl) (fun K hK => ?_)
          simp only [glA, glB, glC]
          go_simp
          refine hK.out _ _ (fun _ => HS16.out _ (Bd.out.alloc Bd.out.size _)) ?_
          clear hK K
          (try simp only [glA, glB, glC, Act.put, glD, glE, glF])
          refine wpAnyJ_one 9 rfl (by kernel_rfl) (fun K hK => ?_)
          simp only [glA, glB, glC]
          go_simp
          refine ⟨trivial, rfl, ?_⟩
          refine (callsIn_wide.2 (OF3.out wd)).mono ?_
          rintro e w6 ⟨rfl, hb6⟩
          have B6 := hide (Bd.out.trans (hb6.mono Bd.out.size))
          dsimp only
          refine hK.out _ _ (fun _ => HS16.out _ B6.out) ?_
          clear hK K
          (try simp only [glA, glB, glC, Act.put, glD, glE, glF])
          clear hb6
          refine wpAnyJ_take 10 (v := ?_) (by first | exact hF | exact wideFn) (HS16.out _ B6.out) rfl (by kernel_rfl) (by kernel_rfl) (by kernel_rfl) (by kernel_rfl) rfl ?_ (by first | exact fun _ _ _ h => h | exact fun _ _ _ h => hQ2 _ _ _ _ _ h) ?_
          rotate_left
          · intro W hSW
            simp only [glA, glB, glC]
            (try dsimp only at hSW)
            go_simp
            with_reducible rfl
          (try simp only [glA, glB, glC, Act.put, glD, glE, glF])
          refine wpAnyJ_take 11 (v := ?_) (by first | exact hF | exact wideFn) (HS16.out _ B6.out) rfl (by kernel_rfl) (by kernel_rfl) (by kernel_rfl) (by kernel_rfl) rfl ?_ (by first | exact fun _ _ _ h => h | exact fun _ _ _ h => hQ2 _ _ _ _ _ h) ?_
          rotate_left
          · intro W hSW
            simp only [glA, glB, glC]
            (try dsimp only at hSW)
            go_simp
            with_reducible rfl
          (try simp only [glA, glB, glC, Act.put, glD, glE, glF])
          replace HI := hide (HI.out.ext B6.out)
          have f1 := (HI.out.op.ar 2 (by decide)).frozen x
          have c1 := HI.out.op.cell (j := 2) (by decide) (show x < r.n by rw [HN.out.1]; exact hxn)
          refine wpAnyJ_one 12 rfl (by kernel_rfl) (fun K hK => ?_)
          simp only [glA, glB, glC]
          go_simp
          refine hK.out _ _ (fun h => absurd h (by rw [show lastOp _ _ _ = true from by kernel_rfl]; simp)) ?_
          clear hK K
          (try simp only [glA, glB, glC, Act.put, glD, glE, glF])
          refine wpAnyJ_done (by kernel_rfl) ?_
          replace HI := hide ((HI.out.put (j := 2) (by decide) x (V ||| P)).congr (f' := opG r k (m + 1)) (fun j i hj _ => by
            have h := opG_step (r := r) (k := k) (m := m) (by rw [HA.out]; exact hml) (x := x) (by rw [HA.out]; exact HX.out) (by simp) (fun i hi => by
              rw [HA.out]
              have := isLF_lt HP4.out hi hml
              rw [HX.out] at this
              intro he
              have e2 : ins.getD i 0 = (x : Int) := he
              omega) j i hj
            rw [HV.out, HPP.out] at h
            exact h) rfl)
          clear f1 c1 a4 HS16 Bd B6
          generalize w6.setCell ⟨ad 2, x, none⟩ (.int .u16 (V ||| P : Nat)) = w7 at HI ⊢
          go_wp2_with fail
          go_roundw
          case rel => rw [← hil]; exact ⟨m + 1, by omega, by go_num, HI⟩
          case measure => simp [intOf]; omega
        · obtain rfl : m = ins.length := by omega
          have hml' : ¬ (ins.length : Int) < (ins.length : Int) := by omega
          obtain ⟨y9, y0, y1, y2, y3, y4, y5, y6⟩ := bx7 HI.out.ka
          go_upto_if 157 with fail
          clear y9 y0 y1 y2 y3 y4 y5 y6 hml' hst2
          go_cut [] (fun w' => Hid (RdI w1 w' d r b ad (opF r (k + 1)) (opM r k) M (k + 1) (fun z => decide (z = nm) || (List.range k).any fun t => decide ((r.ac t).nm = z)) g #[.string nm, .slice (d.na k) nd.length (d.nc k), .slice (d.ia k) ins.length (d.ic k), .int .i64 at_, .int .i64 fr, .int .i64 to_, .bool ex]))
          case first =>
           as_aux_lemma =>
            by_cases ha0 : at_ ≥ 0
            · -- BEGIN6
              obtain ⟨x, rfl⟩ : ∃ x : Nat, at_ = (x : Int) := ⟨at_.toNat, by omega⟩
              have hxn : x < n := by have := HP5.out.2; omega
              have hxi : (x : Int) < (n : Int) := by omega
              have hx0 : (0 : Int) ≤ (x : Int) := by omega
              have hxr : x < r.n := by rw [HN.out.1]; exact hxn
              have OF4 := hide (fun W => of1_any x W (by omega))
              have hQ16 := p2_lt (show x < 16 by omega)
              obtain ⟨Q, hQ⟩ : ∃ Q : Nat, 2 ^ x = Q := ⟨_, rfl⟩
              rw [hQ] at OF4 hQ16
              have HQQ := hide hQ
              clear hQ
              obtain ⟨V, hV⟩ : ∃ V, opG r k ins.length 1 k = V := ⟨_, rfl⟩
              have a5 := or16 (show V < 65536 by
                rw [← hV, opG_one]
                exact Nat.or_lt_two_pow (n := 16) (p2_lt (by omega)) (by rw [HA.out]; exact seL_lt ins)) hQ16
              have HV := hide hV
              have HS19 : Hid (∀ W, Below wr.heap.size wr W → (W.cell? ⟨b, 4, none⟩ = some (.slice (some ⟨ad 1, 0, none⟩) n n) ∧ W.cell? ⟨ad 1, k, none⟩ = some (.int .u16 (V : Nat)) ∧ W.cell? ⟨g, 3, none⟩ = some (.int .i64 (x : Nat)))) := hide fun W h => by
                have hb := bx8 (HI.out.op.ext h).blk
                rw [HN.out.1] at hb
                have hc := (HI.out.op.ext h).cell (j := 1) (by decide) hkn
                rw [HV.out] at hc
                exact ⟨hb.2.2.2.2.2.1, hc, (bx7 (HI.out.ka.ext h)).2.2.2.2.1⟩
              clear hV
              go_upto_region 19 with fail
              have Bd := hide (Below.refl wr.heap.size wr).drew
              refine wp_region_J (fun W : World => (W.cell? ⟨b, 4, none⟩ = some (.slice (some ⟨ad 1, 0, none⟩) n n) ∧ W.cell? ⟨ad 1, k, none⟩ = some (.int .u16 (V : Nat)) ∧ W.cell? ⟨g, 3, none⟩ = some (.int .i64 (x : Nat)))) (by kernel_rfl) ?_
              generalize wr.drew = wd at Bd ⊢
              refine tk_start [0, 1, 2, 3, 4, 5, 6, 7, 8] ?_
              iterate 9
                refine tk_one (v := ?_) (by first | exact hF | exact wideFn) (HS19.out _ Bd.out) rfl (by kernel_rfl) (by kernel_rfl) (by kernel_rfl) (by kernel_rfl) rfl ?_ (by first | exact fun _ _ _ h => h | exact fun _ _ _ h => hQ2 _ _ _ _ _ h) ?_
                rotate_left
                · intro W hSW
                  simp only [glA, glB, glC]
                  (try dsimp only at hSW)
                  go_simp
                  with_reducible rfl
                (try simp only [glA, glB, glC, Act.put, glD, glE, glF])
              refine tk_end ?_
              refine wpAnyJ_one 9 rfl (by kernel_rfl) (fun K hK => ?_)
              simp only [glA, glB, glC]
              go_simp
              refine hK.out _ _ (fun _ => HS19.out _ (Bd.out.alloc Bd.out.size _)) ?_
              clear hK K
              (try simp only [glA, glB, glC, Act.put, glD, glE, glF])
              refine wpAnyJ_one 10 rfl (by kernel_rfl) (fun K hK => ?_)
              simp only [glA, glB, glC]
              go_simp
              refine ⟨trivial, rfl, ?_⟩
              refine (callsIn_wide.2 (OF4.out wd)).mono ?_
              rintro e w6 ⟨rfl, hb6⟩
              have B6 := hide (Bd.out.trans (hb6.mono Bd.out.size))
              dsimp only
              refine hK.out _ _ (fun _ => HS19.out _ B6.out) ?_
              clear hK K
              (try simp only [glA, glB, glC, Act.put, glD, glE, glF])
              clear hb6
              refine wpAnyJ_take 11 (v := ?_) (by first | exact hF | exact wideFn) (HS19.out _ B6.out) rfl (by kernel_rfl) (by kernel_rfl) (by kernel_rfl) (by kernel_rfl) rfl ?_ (by first | exact fun _ _ _ h => h | exact fun _ _ _ h => hQ2 _ _ _ _ _ h) ?_
              rotate_left
              · intro W hSW
                simp only [glA, glB, glC]
                (try dsimp only at hSW)
                go_simp
                with_reducible rfl
              (try simp only [glA, glB, glC, Act.put, glD, glE, glF])
              refine wpAnyJ_take 12 (v := ?_) (by first | exact hF | exact wideFn) (HS19.out _ B6.out) rfl (by kernel_rfl) (by kernel_rfl) (by kernel_rfl) (by kernel_rfl) rfl ?_ (by first | exact fun _ _ _ h => h | exact fun _ _ _ h => hQ2 _ _ _ _ _ h) ?_
              rotate_left
              · intro W hSW
                simp only [glA, glB, glC]
                (try dsimp only at hSW)
                go_simp
                with_reducible rfl
              (try simp only [glA, glB, glC, Act.put, glD, glE, glF])
              replace HI := hide (HI.out.ext B6.out)
              have f1 := (HI.out.op.ar 1 (by decide)).frozen k
              have c1 := HI.out.op.cell (j := 1) (by decide) hkn
              refine wpAnyJ_one 13 rfl (by kernel_rfl) (fun K hK => ?_)
              simp only [glA, glB, glC]
              go_simp
              refine hK.out _ _ (fun h => absurd h (by rw [show lastOp _ _ _ = true from by kernel_rfl]; simp)) ?_
              clear hK K
              (try simp only [glA, glB, glC, Act.put, glD, glE, glF])
              refine wpAnyJ_done (by kernel_rfl) ?_
              replace HI := hide (HI.out.put (j := 1) (by decide) k (V ||| Q))
              clear f1 c1 a5 HS19 Bd B6 OF4
              generalize w6.setCell ⟨ad 1, k, none⟩ (.int .u16 (V ||| Q : Nat)) = w7 at HI ⊢
              obtain ⟨U, hU⟩ : ∃ U, opG r k ins.length 3 x = U := ⟨_, rfl⟩
              have a5 := or16 (show U < 65536 by rw [← hU]; exact opG_lt3 (by omega)) hP16
              have HU := hide hU
              have HS20 : Hid (∀ W, Below w7.heap.size w7 W → (W.cell? ⟨b, 6, none⟩ = some (.slice (some ⟨ad 3, 0, none⟩) n n) ∧ W.cell? ⟨ad 3, x, none⟩ = some (.int .u16 (U : Nat)) ∧ W.cell? ⟨g, 3, none⟩ = some (.int .i64 (x : Nat)))) := hide fun W h => by
                have hb := bx8 (HI.out.op.ext h).blk
                rw [HN.out.1] at hb
                have hc := (HI.out.op.ext h).cell (j := 3) (by decide) hxr
                rw [show upF (opG r k ins.length) 1 k (V ||| Q) 3 x = U from by unfold upF; rw [if_neg (by omega)]; exact HU.out] at hc
                exact ⟨hb.2.2.2.2.2.2.2.1, hc, (bx7 (HI.out.ka.ext h)).2.2.2.2.1⟩
              clear hU
              go_upto_region 20 with fail
              have Bd := hide (Below.refl w7.heap.size w7).drew
              refine wp_region_J (fun W : World => (W.cell? ⟨b, 6, none⟩ = some (.slice (some ⟨ad 3, 0, none⟩) n n) ∧ W.cell? ⟨ad 3, x, none⟩ = some (.int .u16 (U : Nat)) ∧ W.cell? ⟨g, 3, none⟩ = some (.int .i64 (x : Nat)))) (by kernel_rfl) ?_
              generalize w7.drew = wd at Bd ⊢
              refine tk_start [0, 1, 2, 3, 4, 5, 6, 7, 8] ?_
              iterate 9
                refine tk_one (v := ?_) (by first | exact hF | exact wideFn) (HS20.out _ Bd.out) rfl (by kernel_rfl) (by kernel_rfl) (by kernel_rfl) (by kernel_rfl) rfl ?_ (by first | exact fun _ _ _ h => h | exact fun _ _ _ h => hQ2 _ _ _ _ _ h) ?_
                rotate_left
                · intro W hSW
                  simp only [glA, glB, glC]
                  (try dsimp only at hSW)
                  go_simp
                  with_reducible rfl
                (try simp only [glA, glB, glC, Act.put, glD, glE, glF])
              refine tk_end ?_
              refine wpAnyJ_one 9 rfl (by kernel_rfl) (fun K hK => ?_)
              simp only [glA, glB, glC]
              go_simp
              refine hK.out _ _ (fun _ => HS20.out _ (Bd.out.alloc Bd.out.size _)) ?_
              clear hK K
              (try simp only [glA, glB, glC, Act.put, glD, glE, glF])
              refine wpAnyJ_one 10 rfl (by kernel_rfl) (fun K hK => ?_)
              simp only [glA, glB, glC]
              go_simp
              refine ⟨trivial, rfl, ?_⟩
              refine (callsIn_wide.2 (OF3.out wd)).mono ?_
              rintro e w8 ⟨rfl, hb6⟩
              have B6 := hide (Bd.out.trans (hb6.mono Bd.out.size))
              dsimp only
              refine hK.out _ _ (fun _ => HS20.out _ B6.out) ?_
              clear hK K
              (try simp only [glA, glB, glC, Act.put, glD, glE, glF])
              clear hb6
              refine wpAnyJ_take 11 (v := ?_) (by first | exact hF | exact wideFn) (HS20.out _ B6.out) rfl (by kernel_rfl) (by kernel_rfl) (by kernel_rfl) (by kernel_rfl) rfl ?_ (by first | exact fun _ _ _ h => h | exact fun _ _ _ h => hQ2 _ _ _ _ _ h) ?_
              rotate_left
              · intro W hSW
                simp only [glA, glB, glC]
                (try dsimp only at hSW)
                go_simp
                with_reducible rfl
              (try simp only [glA, glB, glC, Act.put, glD, glE, glF])
              refine wpAnyJ_take 12 (v := ?_) (by first | exact hF | exact wideFn) (HS20.out _ B6.out) rfl (by kernel_rfl) (by kernel_rfl) (by kernel_rfl) (by kernel_rfl) rfl ?_ (by first | exact fun _ _ _ h => h | exact fun _ _ _ h => hQ2 _ _ _ _ _ h) ?_
              rotate_left
              · intro W hSW
                simp only [glA, glB, glC]
                (try dsimp only at hSW)
                go_simp
                with_reducible rfl
              (try simp only [glA, glB, glC, Act.put, glD, glE, glF])
              replace HI := hide (HI.out.ext B6.out)
              have f1 := (HI.out.op.ar 3 (by decide)).frozen x
              have c1 := (HS20.out _ B6.out).2.1
              refine wpAnyJ_one 13 rfl (by kernel_rfl) (fun K hK => ?_)
              simp only [glA, glB, glC]
              go_simp
              refine hK.out _ _ (fun h => absurd h (by rw [show lastOp _ _ _ = true from by kernel_rfl]; simp)) ?_
              clear hK K
              (try simp only [glA, glB, glC, Act.put, glD, glE, glF])
              refine wpAnyJ_done (by kernel_rfl) ?_
              replace HI := hide ((HI.out.put (j := 3) (by decide) x (U ||| P)).congr (f' := opF r (k + 1)) (fun j i hj _ => by
                have h := opG_at (r := r) (k := k) (by omega) (x := x) (by rw [HA.out]) (by omega) j i hj
                rw [HA.out] at h
                have h2 : upF (upF (opG r k ins.length) 1 k (opG r k ins.length 1 k ||| 2 ^ x)) 3 x (opG r k ins.length 3 x ||| 2 ^ k) j i = opF r (k + 1) j i := h
                rw [HV.out, HU.out, HPP.out, HQQ.out] at h2
                exact h2) rfl)
              go_wp2_with fail
              go_meet
              exact HI
              -- END6
            · have ha1 : at_ = -1 := by have := HP5.out.1; omega
              have HI3 := hide (HI.out.congr (f' := opF r (k + 1)) (fun j i hj _ => by
                have h := opG_no (r := r) (k := k) (by omega) (by rw [HA.out]; exact ha1) j i hj
                rw [HA.out] at h
                exact h) rfl)
              clear ha1
              go_wp2_with fail
              go_meet
              exact HI3
          clear HI
          have HI := hcut
          clear hcut
          obtain ⟨y9, y0, y1, y2, y3, y4, y5, y6⟩ := bx7 HI.out.ka
          go_upto_if 186 with fail
          clear y9 y0 y1 y2 y3 y4 y5 y6
          cases hex : ex with
          | true =>
           as_aux_lemma =>
            rw [hex] at HI HA
            replace HI := hide (HI.out.congr (fun _ _ _ _ => rfl) (opM_yes (r := r) (k := k) (by rw [HA.out])).symm)
            clear hex
            go_wp2_with fail
            go_roundw
            case rel => exact ⟨k + 1, by omega, by go_num, hide HI.out.op, hide (HI.out.nmc (fun z => nm_more (by rw [HA.out]) z) rfl).nm, hide (fun t ht => by
              by_cases htk : t = k
              · rw [htk]; exact HAC.out
              · exact HAK.out t (by omega))⟩
            case measure => simp [intOf]; omega
          | false =>
           as_aux_lemma =>
            rw [hex] at HI HA
            clear hex
            obtain ⟨U, hU⟩ : ∃ U, opM r k = U := ⟨_, rfl⟩
            have a5 := or16 (show U < 65536 by rw [← hU]; exact opM_lt (by omega)) hP16
            have HU := hide hU
            rw [hU] at HI
            clear hU
            obtain ⟨we, hwe⟩ : ∃ x, x = wc := ⟨_, rfl⟩
            rw [← hwe] at HI ⊢
            clear hwe
            have HS22 : Hid (∀ W, Below we.heap.size we W → W.cell? ⟨b, 7, none⟩ = some (.int .u16 (U : Nat))) := hide fun W h => (bx8 (HI.out.op.ext h).blk).2.2.2.2.2.2.2.2
            go_upto_region 22 with fail
            have Bd := hide (Below.refl we.heap.size we).drew
            refine wp_region_K (pickS [3] (fun W : World => W.cell? ⟨b, 7, none⟩ = some (.int .u16 (U : Nat))) (fun _ => True)) (by kernel_rfl) ?_
            generalize we.drew = wd at Bd ⊢
            refine wpAnyK_take 0 (v := ?_) (by first | exact hF | exact wideFn) trivial rfl (by kernel_rfl) (by kernel_rfl) (by kernel_rfl) (by kernel_rfl) rfl ?_ (by first | exact fun _ _ _ h => h | exact fun _ _ _ h => hQ2 _ _ _ _ _ h) ?_
            rotate_left
            · intro W hSW
              replace hSW : True := hSW
              simp only [glA, glB, glC]
              (try dsimp only at hSW)
              go_simp
              with_reducible rfl
            (try simp only [glA, glB, glC, Act.put, glD, glE, glF])
            refine wpAnyK_take 1 (v := ?_) (by first | exact hF | exact wideFn) trivial rfl (by kernel_rfl) (by kernel_rfl) (by kernel_rfl) (by kernel_rfl) rfl ?_ (by first | exact fun _ _ _ h => h | exact fun _ _ _ h => hQ2 _ _ _ _ _ h) ?_
            rotate_left
            · intro W hSW
              replace hSW : True := hSW
              simp only [glA, glB, glC]
              (try dsimp only at hSW)
              go_simp
              with_reducible rfl
            (try simp only [glA, glB, glC, Act.put, glD, glE, glF])
            refine wpAnyK_take 2 (v := ?_) (by first | exact hF | exact wideFn) trivial rfl (by kernel_rfl) (by kernel_rfl) (by kernel_rfl) (by kernel_rfl) rfl ?_ (by first | exact fun _ _ _ h => h | exact fun _ _ _ h => hQ2 _ _ _ _ _ h) ?_
            rotate_left
            · intro W hSW
              replace hSW : True := hSW
              simp only [glA, glB, glC]
              (try dsimp only at hSW)
              go_simp
              with_reducible rfl
            (try simp only [glA, glB, glC, Act.put, glD, glE, glF])
            refine wpAnyK_take 3 (v := ?_) (by first | exact hF | exact wideFn) (And.intro (HS22.out _ Bd.out) trivial) rfl (by kernel_rfl) (by kernel_rfl) (by kernel_rfl) (by kernel_rfl) rfl ?_ (by first | exact fun _ _ _ h => h | exact fun _ _ _ h => hQ2 _ _ _ _ _ h) ?_
            rotate_left
            · intro W hSW
              replace hSW : ((W.cell? ⟨b, 7, none⟩ = some (.int .u16 (U : Nat))) ∧ True) := hSW
              simp only [glA, glB, glC]
              (try dsimp only at hSW)
              go_simp
              with_reducible rfl
            (try simp only [glA, glB, glC, Act.put, glD, glE, glF])
            refine wpAnyK_take 4 (v := ?_) (by first | exact hF | exact wideFn) trivial rfl (by kernel_rfl) (by kernel_rfl) (by kernel_rfl) (by kernel_rfl) rfl ?_ (by first | exact fun _ _ _ h => h | exact fun _ _ _ h => hQ2 _ _ _ _ _ h) ?_
            rotate_left
            · intro W hSW
              replace hSW : True := hSW
              simp only [glA, glB, glC]
              (try dsimp only at hSW)
              go_simp
              with_reducible rfl
            (try simp only [glA, glB, glC, Act.put, glD, glE, glF])
            refine wpAnyK_one 5 rfl (by kernel_rfl) (fun K hK => ?_)
            simp only [glA, glB, glC]
            go_simp
            refine hK.out _ _ (.inr (pickS_all (HS22.out _ (Bd.out.alloc Bd.out.size _)) trivial)) ?_
            clear hK K
            (try simp only [glA, glB, glC, Act.put, glD, glE, glF])
            refine wpAnyK_one 6 rfl (by kernel_rfl) (fun K hK => ?_)
            simp only [glA, glB, glC]
            go_simp
            refine ⟨trivial, rfl, ?_⟩
            (with_reducible refine (callsIn_wide.2 (OF3.out wd)).mono ?_)
            rintro e w8 ⟨rfl, hb6⟩
            have B6 := hide (Bd.out.trans (hb6.mono Bd.out.size))
            dsimp only
            refine hK.out _ _ (.inr (pickS_all (HS22.out _ B6.out) trivial)) ?_
            clear hK K
            (try simp only [glA, glB, glC, Act.put, glD, glE, glF])
            clear hb6
            refine wpAnyK_take 7 (v := ?_) (by first | exact hF | exact wideFn) trivial rfl (by kernel_rfl) (by kernel_rfl) (by kernel_rfl) (by kernel_rfl) rfl ?_ (by first | exact fun _ _ _ h => h | exact fun _ _ _ h => hQ2 _ _ _ _ _ h) ?_
            rotate_left
            · intro W hSW
              replace hSW : True := hSW
              simp only [glA, glB, glC]
              (try dsimp only at hSW)
              go_simp
              with_reducible rfl
            (try simp only [glA, glB, glC, Act.put, glD, glE, glF])
            refine wpAnyK_take 8 (v := ?_) (by first | exact hF | exact wideFn) trivial rfl (by kernel_rfl) (by kernel_rfl) (by kernel_rfl) (by kernel_rfl) rfl ?_ (by first | exact fun _ _ _ h => h | exact fun _ _ _ h => hQ2 _ _ _ _ _ h) ?_
            rotate_left
            · intro W hSW
              replace hSW : True := hSW
              simp only [glA, glB, glC]
              (try dsimp only at hSW)
              go_simp
              with_reducible rfl
            (try simp only [glA, glB, glC, Act.put, glD, glE, glF])
            refine wpAnyK_take 9 (v := ?_) (by first | exact hF | exact wideFn) trivial rfl (by kernel_rfl) (by kernel_rfl) (by kernel_rfl) (by kernel_rfl) rfl ?_ (by first | exact fun _ _ _ h => h | exact fun _ _ _ h => hQ2 _ _ _ _ _ h) ?_
            rotate_left
            · intro W hSW
              replace hSW : True := hSW
              simp only [glA, glB, glC]
              (try dsimp only at hSW)
              go_simp
              with_reducible rfl
            (try simp only [glA, glB, glC, Act.put, glD, glE, glF])
            replace HI := hide (HI.out.ext B6.out)
            have f1 := HI.out.op.blk.frozen 7
            have c1 := HS22.out _ B6.out
            refine wpAnyK_one 10 rfl (by kernel_rfl) (fun K hK => ?_)
            simp only [glA, glB, glC]
            go_simp
            refine hK.out _ _ (.inr (pickS_need (by kernel_rfl) trivial)) ?_
            clear hK K
            (try simp only [glA, glB, glC, Act.put, glD, glE, glF])
            refine wpAnyK_done (by kernel_rfl) ?_
            replace HI := hide ((HI.out.must (U ||| P)).congr (fun _ _ _ _ => rfl) (mu' := opM r (k + 1)) (by
              rw [opM_no (r := r) (k := k) (by rw [HA.out]), HU.out, HPP.out]))
            clear f1 c1 a5 HS22 Bd B6
            generalize w8.setCell ⟨b, 7, none⟩ (.int .u16 (U ||| P : Nat)) = w9 at HI ⊢
            go_wp2_with fail
            go_roundw
            case rel => exact ⟨k + 1, by omega, by go_num, hide HI.out.op, hide (HI.out.nmc (fun z => nm_more (by rw [HA.out]) z) rfl).nm, hide (fun t ht => by
              by_cases htk : t = k
              · rw [htk]; exact HAC.out
              · exact HAK.out t (by omega))⟩
            case measure => simp [intOf]; omega
      -- END3
    · -- BEGIN4
      obtain rfl : n = k := by omega
      have hnl : ¬ (n : Int) < (n : Int) := by omega
      obtain ⟨g9, g0, g1, g2, -⟩ := blk3 (G1.out.ext HI.out.below)
      clear HNM
      have HAL := HAK
      clear HAK
      go_wp2_with fail
      clear g9 g0 g1 g2 hnl
      go_loopw [11, 12, 201] (fun _ _ i wr => ∃ k : Nat, k ≤ n ∧ i = .int .i64 k ∧ Hid (OpI w1 wr d r b ad (opF r n) (opM r n)) ∧ Hid (∀ t, t < k → kiB r t = true)) (fun _ _ i _ => n - (intOf i).toNat)
      case atStart => exact ⟨0, Nat.zero_le _, rfl, HI, hide (fun t ht => absurd ht (by omega))⟩
      case round =>
        clear HI
        obtain ⟨k, hk, rfl, HI, HKK⟩ := hrel
        by_cases hlt : k < n
        · have hst : IntKind.i64.wrap ((k : Int) + 1) = ((k + 1 : Nat) : Int) := by rw [IntWalk.i64_in _ (by omega)]; omega
          have hlt' : (k : Int) < (n : Int) := by omega
          have hkn : k < r.n := by rw [HN.out.1]; exact hlt
          obtain ⟨a, ha⟩ : ∃ a, r.ac k = a := ⟨_, rfl⟩
          obtain ⟨nm, nd, ins, at_, fr, to_, ex⟩ := a
          have HA := hide ha
          obtain ⟨pb, po, hA, hpl, x0, x1, x2, x3, x4, x5, x6⟩ := (HRT.out.ext HI.out.below).at_ hkn ha
          dsimp only at x0 x1 x2 x3 x4 x5 x6
          rw [hA]
          clear ha hA
          have hbb : Below wr.heap.size wr (wr.alloc (.cells #[.string nm, .slice (d.na k) nd.length (d.nc k), .slice (d.ia k) ins.length (d.ic k), .int .i64 at_, .int .i64 fr, .int .i64 to_, .bool ex] 71)) := (Below.refl _ _).alloc (Nat.le_refl _) _
          have HI1 := hide (HI.out.ext hbb)
          have KA := hide (Blk.new wr 71 #[.string nm, .slice (d.na k) nd.length (d.nc k), .slice (d.ia k) ins.length (d.ic k), .int .i64 at_, .int .i64 fr, .int .i64 to_, .bool ex])
          clear hbb HI
          go_upto_region 27 with fail
          clear x0 x1 x2 x3 x4 x5 x6
          generalize wr.alloc (.cells #[.string nm, .slice (d.na k) nd.length (d.nc k), .slice (d.ia k) ins.length (d.ic k), .int .i64 at_, .int .i64 fr, .int .i64 to_, .bool ex] 71) = wa at HI1 KA ⊢
          generalize wr.heap.size = g at KA ⊢
          obtain ⟨y9, y0, y1, y2, y3, y4, y5, y6⟩ := bx7 KA.out
          obtain ⟨c9, c0, c1, c2, c3, c4, c5, c6, c7⟩ := bx8 HI1.out.blk
          rw [HN.out.1] at c5 c6
          have e2 := HI1.out.cell (j := 2) (by decide) hkn
          have e3 := HI1.out.cell (j := 3) (by decide) hkn
          have hki := ki_eq r k
          rw [HA.out] at hki
          obtain ⟨re, hre⟩ : ∃ x, reS r k = x := ⟨_, rfl⟩
          obtain ⟨at2, hat⟩ : ∃ x, atS r k = x := ⟨_, rfl⟩
          rw [show opF r n 2 k = re from by rw [← hre, ← HN.out.1]; rfl] at e2
          rw [show opF r n 3 k = at2 from by rw [← hat, ← HN.out.1]; rfl] at e3
          rw [hre, hat] at hki
          clear hre hat y9 y0 y1 y2 y3 y4 y5 c9 c0 c1 c2 c3 c4 c7 HA KA
          by_cases h1 : re = 0
          · obtain ⟨z1, z2⟩ := zn_no h1
            rw [decide_eq_false (by omega), Bool.false_or, Bool.false_and, Bool.or_false] at hki
            by_cases h2 : at2 = 0
            · obtain ⟨z3, z4⟩ := zn_no h2
              rw [decide_eq_false (by omega), Bool.false_and, Bool.not_false] at hki
              have HKI := hide hki
              clear hki h1 h2
              go_wp2_with fail
              go_roundw
              case rel => exact ⟨k + 1, by omega, by go_num, HI1, hide (fun t ht => by
                by_cases htk : t = k
                · rw [htk]; exact HKI.out
                · exact HKK.out t (by omega))⟩
              case measure => simp [intOf]; omega
            · obtain ⟨z3, z4⟩ := zn_yes h2
              rw [decide_eq_true (by omega), Bool.true_and, Bool.not_not] at hki
              cases ex with
              | true =>
                have HKI := hide hki
                clear hki h1 h2
                go_wp2_with fail
                go_roundw
                case rel => exact ⟨k + 1, by omega, by go_num, HI1, hide (fun t ht => by
                  by_cases htk : t = k
                  · rw [htk]; exact HKI.out
                  · exact HKK.out t (by omega))⟩
                case measure => simp [intOf]; omega
              | false =>
                have HKI := hide hki
                clear hki h1 h2
                go_wp2_with fail
                go_ret2
                exact ⟨.inl ⟨ri_ki hkn HKI.out, rfl⟩, HB1.out.trans (HI1.out.below.mono HB1.out.size)⟩
          · obtain ⟨z1, z2⟩ := zn_yes h1
            rw [decide_eq_true (by omega), Bool.true_or, Bool.true_and, Bool.true_and] at hki
            cases ex with
            | false =>
              rw [show (!({ nm := nm, nd := nd, ins := ins, at_ := at_, fr := fr, to_ := to_, ex := false } : Rac).ex) = true from rfl, Bool.true_or, Bool.not_true] at hki
              have HKI := hide hki
              by_cases h2 : at2 = 0
              · obtain ⟨z3, z4⟩ := zn_no h2
                clear hki h1 h2
                go_wp2_with fail
                go_ret2
                exact ⟨.inl ⟨ri_ki hkn HKI.out, rfl⟩, HB1.out.trans (HI1.out.below.mono HB1.out.size)⟩
              · obtain ⟨z3, z4⟩ := zn_yes h2
                clear hki h1 h2
                go_wp2_with fail
                go_ret2
                exact ⟨.inl ⟨ri_ki hkn HKI.out, rfl⟩, HB1.out.trans (HI1.out.below.mono HB1.out.size)⟩
            | true =>
              rw [show (!({ nm := nm, nd := nd, ins := ins, at_ := at_, fr := fr, to_ := to_, ex := true } : Rac).ex) = false from rfl, Bool.false_or] at hki
              by_cases h2 : at2 = 0
              · obtain ⟨z3, z4⟩ := zn_no h2
                rw [decide_eq_false (by omega), Bool.not_false] at hki
                have HKI := hide hki
                clear hki h1 h2
                go_wp2_with fail
                go_roundw
                case rel => exact ⟨k + 1, by omega, by go_num, HI1, hide (fun t ht => by
                  by_cases htk : t = k
                  · rw [htk]; exact HKI.out
                  · exact HKK.out t (by omega))⟩
                case measure => simp [intOf]; omega
              · obtain ⟨z3, z4⟩ := zn_yes h2
                rw [decide_eq_true (by omega), Bool.not_true] at hki
                have HKI := hide hki
                clear hki h1 h2
                go_wp2_with fail
                go_ret2
                exact ⟨.inl ⟨ri_ki hkn HKI.out, rfl⟩, HB1.out.trans (HI1.out.below.mono HB1.out.size)⟩
        · obtain rfl : n = k := by omega
          have hnl : ¬ (n : Int) < (n : Int) := by omega
          go_wp2_with fail
          go_ret2
          have h1 := HI.out
          rw [← HN.out.1] at h1
          exact ⟨.inr ⟨ri_yes HSZ.out.1 (fun t ht => HAL.out t (by rw [← HN.out.1]; exact ht)) (fun t ht => HKK.out t (by rw [← HN.out.1]; exact ht)), b, ad, rfl, h1.rebase HB1.out⟩, HB1.out.trans (h1.below.mono HB1.out.size)⟩
      -- END4
  -- END2
end Go.Proofs.YtagjeeimglecnaaDoor
