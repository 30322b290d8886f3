/- The law KilnShrinks, walked: where there are moulds. -/
import Derived.Test.YtlhekifmkkgjlaaLi
set_option linter.unusedSimpArgs false
set_option linter.unusedVariables false
set_option linter.unnecessarySimpa false
namespace Go.Proofs.Ytlhekifmkkgjlaa
open Go Go.RowKit Go.Shelf
set_option maxHeartbeats 8000000
set_option maxRecDepth 100000
theorem shrinks_some (n b0 b1 b2 b3 u0 u1 dl fl dh fh s : Int) (w : World) (hn : 0 ≤ n ∧ n ≤ 4294967295) (h0 : 0 ≤ b0 ∧ b0 ≤ 65535) (h1 : 0 ≤ b1 ∧ b1 ≤ 65535) (h2 : 0 ≤ b2 ∧ b2 ≤ 65535) (h3 : 0 ≤ b3 ∧ b3 ≤ 65535) (hu0 : 0 ≤ u0 ∧ u0 ≤ 65535) (hu1 : 0 ≤ u1 ∧ u1 ≤ 65535)
    (edl : b0 % 5000 = dl) (efl : b1 % 5000 = fl) (edh : dl + b2 % 5000 = dh) (efh : fl + b3 % 5000 = fh) (es : 1 + n % 999999 = s)
    (x y mx my lx ly : Int) (q1 : 0 ≤ x) (q2 : x ≤ y) (q3 : y ≤ s) (q4 : x ≤ mx) (q5 : y ≤ my) (q6 : lx ≤ x) (q7 : ly ≤ y)
    (H1 : Hid (ShrunkIs s dl dh fl fh x y)) (H2 : Hid (ShrunkIs (s + 1) dl dh fl fh mx my)) (H3 : Hid (ShrunkIs s (dl + 1) (dh + 1) fl fh lx ly)) (p q mid : Int) (sd : Nat → Int) (hpq : 1 ≤ p ∧ p ≤ q ∧ q ≤ 1000000)
    (emid : p + n % (q - p + 1) = mid) (sd0 : sd 0 = p) (sd1 : sd 1 = mid) (sd2 : sd 2 = q) (sd3 : sd 3 = p - 1) (sd4 : sd 4 = q + 1)
    (H4 : Hid (MouldsIs u0 (u0 + u1) dl dh fl fh p q 0)) (HS : Hid (∀ k : Nat, k < 5 → 1 ≤ sd k → sd k ≤ 1000000 → ∃ x y, ShrunkIs (sd k) dl dh fl fh x y ∧ (k < 3 → u0 ≤ x ∧ y ≤ u0 + u1) ∧ (3 ≤ k → ¬(u0 ≤ x ∧ y ≤ u0 + u1)))) :
    Calls Try.prog 6 #[.agg #[.int .u16 b0, .int .u16 b1, .int .u16 b2, .int .u16 b3], .int .u32 n, .agg #[.int .u16 u0, .int .u16 u1]] w fun e w' => e = .returned (.bool true) ∧ Below w.heap.size w w' := by
  unfold MouldsIs at H4
  unfold ShrunkIs at HS
  have HMID := hide emid
  obtain ⟨p1, p2, p3⟩ := hpq
  clear emid
  have HK := hide known_any
  unfold ShrunkIs at H1 H2 H3
  have E5 := hide es
  obtain ⟨n0, n1⟩ := hn
  obtain ⟨h00, h01⟩ := h0
  obtain ⟨h10, h11⟩ := h1
  obtain ⟨h20, h21⟩ := h2
  obtain ⟨h30, h31⟩ := h3
  obtain ⟨hu00, hu01⟩ := hu0
  obtain ⟨hu10, hu11⟩ := hu1
  have hc : 0 ≤ dl ∧ dl ≤ dh ∧ dh ≤ 9998 ∧ 0 ≤ fl ∧ fl ≤ fh ∧ fh ≤ 9998 := by omega
  have hs : 1 ≤ s ∧ s < 1000000 := by omega
  have M1 := hide (show (IntKind.i64.wrap b0).tmod 5000 = dl by rw [IntWalk.i64_in _ (by omega), Int.tmod_eq_emod_of_nonneg h00]; exact edl)
  have M2 := hide (show (IntKind.i64.wrap b1).tmod 5000 = fl by rw [IntWalk.i64_in _ (by omega), Int.tmod_eq_emod_of_nonneg h10]; exact efl)
  have M3 := hide (show IntKind.i64.wrap (dl + (IntKind.i64.wrap b2).tmod 5000) = dh by rw [IntWalk.i64_in b2 (by omega), Int.tmod_eq_emod_of_nonneg h20, edh]; exact IntWalk.i64_in _ (by omega))
  have M4 := hide (show IntKind.i64.wrap (fl + (IntKind.i64.wrap b3).tmod 5000) = fh by rw [IntWalk.i64_in b3 (by omega), Int.tmod_eq_emod_of_nonneg h30, efh]; exact IntWalk.i64_in _ (by omega))
  clear edl efl edh efh es
  go_enter Try.func6, Try.ntmps6
  go_wp2_with fail
  have A0 := hide (Blk.new w 49 #[.int .u16 b0, .int .u16 b1, .int .u16 b2, .int .u16 b3])
  have A1 := hide ((A0.out.alloc (.cells #[.int .u16 u0, .int .u16 u1] 50)).alloc (.cells #[.int .i64 (0), .int .i64 (0), .int .i64 (0), .int .i64 (0)] 40))
  have U0 : Hid (Blk (w.alloc (.cells #[.int .u16 b0, .int .u16 b1, .int .u16 b2, .int .u16 b3] 49)) w.heap.size 49 #[.int .u16 b0, .int .u16 b1, .int .u16 b2, .int .u16 b3]) := hide (Blk.new _ _ _)
  clear A0 U0
  have U1 : Hid (Blk (((w.alloc (.cells #[.int .u16 b0, .int .u16 b1, .int .u16 b2, .int .u16 b3] 49)).alloc (.cells #[.int .u16 u0, .int .u16 u1] 50)).alloc (.cells #[.int .i64 (0), .int .i64 (0), .int .i64 (0), .int .i64 (0)] 40)) (w.heap.size + 1) 50 #[.int .u16 u0, .int .u16 u1]) := hide ((by simpa using Blk.new (w.alloc (.cells #[.int .u16 b0, .int .u16 b1, .int .u16 b2, .int .u16 b3] 49)) 50 #[.int .u16 u0, .int .u16 u1] : Blk _ (w.heap.size + 1) _ _).alloc _)
  have C1 : Hid (Blk (((w.alloc (.cells #[.int .u16 b0, .int .u16 b1, .int .u16 b2, .int .u16 b3] 49)).alloc (.cells #[.int .u16 u0, .int .u16 u1] 50)).alloc (.cells #[.int .i64 (0), .int .i64 (0), .int .i64 (0), .int .i64 (0)] 40)) (w.heap.size + 1 + 1) 40 #[.int .i64 (0), .int .i64 (0), .int .i64 (0), .int .i64 (0)]) := hide (by simpa using Blk.new ((w.alloc (.cells #[.int .u16 b0, .int .u16 b1, .int .u16 b2, .int .u16 b3] 49)).alloc (.cells #[.int .u16 u0, .int .u16 u1] 50)) 40 #[.int .i64 (0), .int .i64 (0), .int .i64 (0), .int .i64 (0)])
  have B1 : Hid (Below w.heap.size w (((w.alloc (.cells #[.int .u16 b0, .int .u16 b1, .int .u16 b2, .int .u16 b3] 49)).alloc (.cells #[.int .u16 u0, .int .u16 u1] 50)).alloc (.cells #[.int .i64 (0), .int .i64 (0), .int .i64 (0), .int .i64 (0)] 40))) := hide ((((Below.refl _ w).alloc (Nat.le_refl _) _).alloc (by simp) _).alloc (by simp; omega) _)
  generalize hw1 : (((w.alloc (.cells #[.int .u16 b0, .int .u16 b1, .int .u16 b2, .int .u16 b3] 49)).alloc (.cells #[.int .u16 u0, .int .u16 u1] 50)).alloc (.cells #[.int .i64 (0), .int .i64 (0), .int .i64 (0), .int .i64 (0)] 40)) = w1 at A1 U1 C1 B1 ⊢
  clear hw1
  obtain ⟨g, hg⟩ : ∃ g, w.heap.size + 1 + 1 = g := ⟨_, rfl⟩
  rw [hg] at C1 ⊢
  have hgA : w.heap.size < g := by omega
  have hgU : w.heap.size + 1 < g := by omega
  clear hg
  have HSF : Hid (∀ W, Below g w1 W → W.cell? ⟨w.heap.size, 0, none⟩ = some (.int .u16 b0) ∧ W.cell? ⟨w.heap.size, 1, none⟩ = some (.int .u16 b1) ∧ W.cell? ⟨w.heap.size, 2, none⟩ = some (.int .u16 b2) ∧ W.cell? ⟨w.heap.size, 3, none⟩ = some (.int .u16 b3)) := hide (fun W' hb => (bx4 (A1.out.below hb hgA)).2)
  have Bd := hide (Below.refl g w1).drew
  refine wp_region_J (fun W : World => W.cell? ⟨w.heap.size, 0, none⟩ = some (.int .u16 b0) ∧ W.cell? ⟨w.heap.size, 1, none⟩ = some (.int .u16 b1) ∧ W.cell? ⟨w.heap.size, 2, none⟩ = some (.int .u16 b2) ∧ W.cell? ⟨w.heap.size, 3, none⟩ = some (.int .u16 b3)) (by kernel_rfl) ?_
  refine wpAnyJ_take 0 (v := ?_) (by first | exact hF | exact wideFn) (HSF.out _ Bd.out) rfl (by kernel_rfl) (by kernel_rfl) (by kernel_rfl) (by kernel_rfl) rfl ?_ (fun _ _ _ h => h) ?_
  rotate_left
  · intro W hSW
    simp only [List.getElem_toArray, List.getElem_cons_zero, List.getElem_cons_succ]
    (try dsimp only at hSW)
    go_simp
    with_reducible rfl
  (try simp only [List.getElem_toArray, List.getElem_cons_zero, List.getElem_cons_succ, Act.put, List.setIfInBounds_toArray, List.set_cons_zero, List.set_cons_succ])
  refine wpAnyJ_take 1 (v := ?_) (by first | exact hF | exact wideFn) (HSF.out _ Bd.out) rfl (by kernel_rfl) (by kernel_rfl) (by kernel_rfl) (by kernel_rfl) rfl ?_ (fun _ _ _ h => h) ?_
  rotate_left
  · intro W hSW
    simp only [List.getElem_toArray, List.getElem_cons_zero, List.getElem_cons_succ]
    (try dsimp only at hSW)
    go_simp
    with_reducible rfl
  (try simp only [List.getElem_toArray, List.getElem_cons_zero, List.getElem_cons_succ, Act.put, List.setIfInBounds_toArray, List.set_cons_zero, List.set_cons_succ])
  refine wpAnyJ_take 2 (v := ?_) (by first | exact hF | exact wideFn) (HSF.out _ Bd.out) rfl (by kernel_rfl) (by kernel_rfl) (by kernel_rfl) (by kernel_rfl) rfl ?_ (fun _ _ _ h => h) ?_
  rotate_left
  · intro W hSW
    simp only [List.getElem_toArray, List.getElem_cons_zero, List.getElem_cons_succ]
    (try dsimp only at hSW)
    go_simp
    with_reducible rfl
  (try simp only [List.getElem_toArray, List.getElem_cons_zero, List.getElem_cons_succ, Act.put, List.setIfInBounds_toArray, List.set_cons_zero, List.set_cons_succ])
  refine wpAnyJ_take 3 (v := ?_) (by first | exact hF | exact wideFn) (HSF.out _ Bd.out) rfl (by kernel_rfl) (by kernel_rfl) (by kernel_rfl) (by kernel_rfl) rfl ?_ (fun _ _ _ h => h) ?_
  rotate_left
  · intro W hSW
    simp only [List.getElem_toArray, List.getElem_cons_zero, List.getElem_cons_succ]
    (try dsimp only at hSW)
    go_simp
    with_reducible rfl
  (try simp only [List.getElem_toArray, List.getElem_cons_zero, List.getElem_cons_succ, Act.put, List.setIfInBounds_toArray, List.set_cons_zero, List.set_cons_succ])
  refine wpAnyJ_take 4 (v := ?_) (by first | exact hF | exact wideFn) (HSF.out _ Bd.out) rfl (by kernel_rfl) (by kernel_rfl) (by kernel_rfl) (by kernel_rfl) rfl ?_ (fun _ _ _ h => h) ?_
  rotate_left
  · intro W hSW
    simp only [List.getElem_toArray, List.getElem_cons_zero, List.getElem_cons_succ]
    (try dsimp only at hSW)
    go_simp
    with_reducible rfl
  (try simp only [List.getElem_toArray, List.getElem_cons_zero, List.getElem_cons_succ, Act.put, List.setIfInBounds_toArray, List.set_cons_zero, List.set_cons_succ])
  refine wpAnyJ_take 5 (v := ?_) (by first | exact hF | exact wideFn) (HSF.out _ Bd.out) rfl (by kernel_rfl) (by kernel_rfl) (by kernel_rfl) (by kernel_rfl) rfl ?_ (fun _ _ _ h => h) ?_
  rotate_left
  · intro W hSW
    simp only [List.getElem_toArray, List.getElem_cons_zero, List.getElem_cons_succ]
    (try dsimp only at hSW)
    go_simp
    with_reducible rfl
  (try simp only [List.getElem_toArray, List.getElem_cons_zero, List.getElem_cons_succ, Act.put, List.setIfInBounds_toArray, List.set_cons_zero, List.set_cons_succ])
  refine wpAnyJ_take 6 (v := ?_) (by first | exact hF | exact wideFn) (HSF.out _ Bd.out) rfl (by kernel_rfl) (by kernel_rfl) (by kernel_rfl) (by kernel_rfl) rfl ?_ (fun _ _ _ h => h) ?_
  rotate_left
  · intro W hSW
    simp only [List.getElem_toArray, List.getElem_cons_zero, List.getElem_cons_succ]
    (try dsimp only at hSW)
    go_simp
    with_reducible rfl
  (try simp only [List.getElem_toArray, List.getElem_cons_zero, List.getElem_cons_succ, Act.put, List.setIfInBounds_toArray, List.set_cons_zero, List.set_cons_succ])
  refine wpAnyJ_take 7 (v := ?_) (by first | exact hF | exact wideFn) (HSF.out _ Bd.out) rfl (by kernel_rfl) (by kernel_rfl) (by kernel_rfl) (by kernel_rfl) rfl ?_ (fun _ _ _ h => h) ?_
  rotate_left
  · intro W hSW
    simp only [List.getElem_toArray, List.getElem_cons_zero, List.getElem_cons_succ]
    (try dsimp only at hSW)
    go_simp
    with_reducible rfl
  (try simp only [List.getElem_toArray, List.getElem_cons_zero, List.getElem_cons_succ, Act.put, List.setIfInBounds_toArray, List.set_cons_zero, List.set_cons_succ])
  refine wpAnyJ_take 8 (v := ?_) (by first | exact hF | exact wideFn) (HSF.out _ Bd.out) rfl (by kernel_rfl) (by kernel_rfl) (by kernel_rfl) (by kernel_rfl) rfl ?_ (fun _ _ _ h => h) ?_
  rotate_left
  · intro W hSW
    simp only [List.getElem_toArray, List.getElem_cons_zero, List.getElem_cons_succ]
    (try dsimp only at hSW)
    go_simp
    with_reducible rfl
  (try simp only [List.getElem_toArray, List.getElem_cons_zero, List.getElem_cons_succ, Act.put, List.setIfInBounds_toArray, List.set_cons_zero, List.set_cons_succ])
  refine wpAnyJ_take 9 (v := ?_) (by first | exact hF | exact wideFn) (HSF.out _ Bd.out) rfl (by kernel_rfl) (by kernel_rfl) (by kernel_rfl) (by kernel_rfl) rfl ?_ (fun _ _ _ h => h) ?_
  rotate_left
  · intro W hSW
    simp only [List.getElem_toArray, List.getElem_cons_zero, List.getElem_cons_succ]
    (try dsimp only at hSW)
    go_simp
    with_reducible rfl
  (try simp only [List.getElem_toArray, List.getElem_cons_zero, List.getElem_cons_succ, Act.put, List.setIfInBounds_toArray, List.set_cons_zero, List.set_cons_succ])
  rw [M1.out, M2.out]
  obtain ⟨k1, k2, k3, k4, k5⟩ := blk4 C1.out.drew
  have k6 := C1.out.drew.frozen 0
  refine wpAnyJ_one 10 rfl (by kernel_rfl) (fun K hK => ?_)
  simp only [List.getElem_toArray, List.getElem_cons_zero, List.getElem_cons_succ]
  go_simp
  refine hK.out _ _ (fun _ => HSF.out _ (Bd.out.setCell (p := ⟨g, 0, none⟩) (Nat.le_refl _) _)) ?_
  clear hK K
  (try simp only [List.getElem_toArray, List.getElem_cons_zero, List.getElem_cons_succ, Act.put, List.setIfInBounds_toArray, List.set_cons_zero, List.set_cons_succ])
  clear k1 k2 k3 k4 k5 k6
  obtain ⟨k1, k2, k3, k4, k5⟩ := blk4 C1.out
  have k6 := C1.out.frozen 2
  refine wpAnyJ_take 11 (v := ?_) (by first | exact hF | exact wideFn) (HSF.out _ (Bd.out.setCell (p := ⟨g, 0, none⟩) (Nat.le_refl _) _)) rfl (by kernel_rfl) (by kernel_rfl) (by kernel_rfl) (by kernel_rfl) rfl ?_ (fun _ _ _ h => h) ?_
  rotate_left
  · intro W hSW
    simp only [List.getElem_toArray, List.getElem_cons_zero, List.getElem_cons_succ]
    (try dsimp only at hSW)
    go_simp
    with_reducible rfl
  (try simp only [List.getElem_toArray, List.getElem_cons_zero, List.getElem_cons_succ, Act.put, List.setIfInBounds_toArray, List.set_cons_zero, List.set_cons_succ])
  refine wpAnyJ_take 12 (v := ?_) (by first | exact hF | exact wideFn) (HSF.out _ (Bd.out.setCell (p := ⟨g, 0, none⟩) (Nat.le_refl _) _)) rfl (by kernel_rfl) (by kernel_rfl) (by kernel_rfl) (by kernel_rfl) rfl ?_ (fun _ _ _ h => h) ?_
  rotate_left
  · intro W hSW
    simp only [List.getElem_toArray, List.getElem_cons_zero, List.getElem_cons_succ]
    (try dsimp only at hSW)
    go_simp
    with_reducible rfl
  (try simp only [List.getElem_toArray, List.getElem_cons_zero, List.getElem_cons_succ, Act.put, List.setIfInBounds_toArray, List.set_cons_zero, List.set_cons_succ])
  have hgw : w.heap.size ≤ g := by omega
  have Be : Hid (Below g w1 (((w1.setCell ⟨g, 0, none⟩ (.int .i64 dl)).setCell ⟨g, 2, none⟩ (.int .i64 fl)).drew)) := hide (((Below.refl g w1).setCell (p := ⟨g, 0, none⟩) (Nat.le_refl _) (.int .i64 dl)).setCell (p := ⟨g, 2, none⟩) (Nat.le_refl _) (.int .i64 fl)).drew
  refine wpAnyJ_one 13 rfl (by kernel_rfl) (fun K hK => ?_)
  simp only [List.getElem_toArray, List.getElem_cons_zero, List.getElem_cons_succ]
  go_simp
  refine hK.out _ _ (fun _ => HSF.out _ Be.out) ?_
  clear hK K
  (try simp only [List.getElem_toArray, List.getElem_cons_zero, List.getElem_cons_succ, Act.put, List.setIfInBounds_toArray, List.set_cons_zero, List.set_cons_succ])
  clear k1 k2 k3 k4 k5 k6
  refine wpAnyJ_done (by kernel_rfl) ?_
  have C2 : Hid (Blk (((w1.setCell ⟨g, 0, none⟩ (.int .i64 dl)).setCell ⟨g, 2, none⟩ (.int .i64 fl)).drew) g 40 #[.int .i64 (dl), .int .i64 (0), .int .i64 (fl), .int .i64 (0)]) := hide ((C1.out.drew.set_ 0 (.int .i64 dl)).set_ 2 (.int .i64 fl))
  have B2 : Hid (Below w.heap.size w (((w1.setCell ⟨g, 0, none⟩ (.int .i64 dl)).setCell ⟨g, 2, none⟩ (.int .i64 fl)).drew)) := hide ((B1.out.setCell (p := ⟨g, 0, none⟩) hgw (.int .i64 dl)).setCell (p := ⟨g, 2, none⟩) hgw (.int .i64 fl)).drew
  have A2 : Hid (Blk (((w1.setCell ⟨g, 0, none⟩ (.int .i64 dl)).setCell ⟨g, 2, none⟩ (.int .i64 fl)).drew) w.heap.size 49 #[.int .u16 b0, .int .u16 b1, .int .u16 b2, .int .u16 b3]) := hide (A1.out.below Be.out hgA)
  have U2 : Hid (Blk (((w1.setCell ⟨g, 0, none⟩ (.int .i64 dl)).setCell ⟨g, 2, none⟩ (.int .i64 fl)).drew) (w.heap.size + 1) 50 #[.int .u16 u0, .int .u16 u1]) := hide (U1.out.below Be.out hgU)
  clear HSF Bd Be C1 B1 A1 U1
  generalize hw2 : ((w1.setCell ⟨g, 0, none⟩ (.int .i64 dl)).setCell ⟨g, 2, none⟩ (.int .i64 fl)).drew = w2 at A2 U2 B2 C2 ⊢
  clear hw2
  go_wp2_with fail
  have HSF : Hid (∀ W, Below g w2 W → W.cell? ⟨w.heap.size, 0, none⟩ = some (.int .u16 b0) ∧ W.cell? ⟨w.heap.size, 1, none⟩ = some (.int .u16 b1) ∧ W.cell? ⟨w.heap.size, 2, none⟩ = some (.int .u16 b2) ∧ W.cell? ⟨w.heap.size, 3, none⟩ = some (.int .u16 b3)) := hide (fun W' hb => (bx4 (A2.out.below hb hgA)).2)
  have Bd := hide (Below.refl g w2).drew
  have HSB : Hid ((fun W => (W.cell? ⟨g, 0, none⟩ = some (.int .i64 dl) ∧ W.cell? ⟨g, 2, none⟩ = some (.int .i64 fl)) ∧ W.cell? ⟨w.heap.size, 0, none⟩ = some (.int .u16 b0) ∧ W.cell? ⟨w.heap.size, 1, none⟩ = some (.int .u16 b1) ∧ W.cell? ⟨w.heap.size, 2, none⟩ = some (.int .u16 b2) ∧ W.cell? ⟨w.heap.size, 3, none⟩ = some (.int .u16 b3)) w2.drew) := hide ⟨⟨(bx4 C2.out.drew).2.1, (bx4 C2.out.drew).2.2.2.1⟩, HSF.out _ Bd.out⟩
  refine wp_region_J (fun W : World => (W.cell? ⟨g, 0, none⟩ = some (.int .i64 dl) ∧ W.cell? ⟨g, 2, none⟩ = some (.int .i64 fl)) ∧ W.cell? ⟨w.heap.size, 0, none⟩ = some (.int .u16 b0) ∧ W.cell? ⟨w.heap.size, 1, none⟩ = some (.int .u16 b1) ∧ W.cell? ⟨w.heap.size, 2, none⟩ = some (.int .u16 b2) ∧ W.cell? ⟨w.heap.size, 3, none⟩ = some (.int .u16 b3)) (by kernel_rfl) ?_
  refine wpAnyJ_take 0 (v := ?_) (by first | exact hF | exact wideFn) HSB.out rfl (by kernel_rfl) (by kernel_rfl) (by kernel_rfl) (by kernel_rfl) rfl ?_ (fun _ _ _ h => h) ?_
  rotate_left
  · intro W hSW
    simp only [List.getElem_toArray, List.getElem_cons_zero, List.getElem_cons_succ]
    (try dsimp only at hSW)
    go_simp
    with_reducible rfl
  (try simp only [List.getElem_toArray, List.getElem_cons_zero, List.getElem_cons_succ, Act.put, List.setIfInBounds_toArray, List.set_cons_zero, List.set_cons_succ])
  refine wpAnyJ_take 1 (v := ?_) (by first | exact hF | exact wideFn) HSB.out rfl (by kernel_rfl) (by kernel_rfl) (by kernel_rfl) (by kernel_rfl) rfl ?_ (fun _ _ _ h => h) ?_
  rotate_left
  · intro W hSW
    simp only [List.getElem_toArray, List.getElem_cons_zero, List.getElem_cons_succ]
    (try dsimp only at hSW)
    go_simp
    with_reducible rfl
  (try simp only [List.getElem_toArray, List.getElem_cons_zero, List.getElem_cons_succ, Act.put, List.setIfInBounds_toArray, List.set_cons_zero, List.set_cons_succ])
  refine wpAnyJ_take 2 (v := ?_) (by first | exact hF | exact wideFn) HSB.out rfl (by kernel_rfl) (by kernel_rfl) (by kernel_rfl) (by kernel_rfl) rfl ?_ (fun _ _ _ h => h) ?_
  rotate_left
  · intro W hSW
    simp only [List.getElem_toArray, List.getElem_cons_zero, List.getElem_cons_succ]
    (try dsimp only at hSW)
    go_simp
    with_reducible rfl
  (try simp only [List.getElem_toArray, List.getElem_cons_zero, List.getElem_cons_succ, Act.put, List.setIfInBounds_toArray, List.set_cons_zero, List.set_cons_succ])
  refine wpAnyJ_take 3 (v := ?_) (by first | exact hF | exact wideFn) HSB.out rfl (by kernel_rfl) (by kernel_rfl) (by kernel_rfl) (by kernel_rfl) rfl ?_ (fun _ _ _ h => h) ?_
  rotate_left
  · intro W hSW
    simp only [List.getElem_toArray, List.getElem_cons_zero, List.getElem_cons_succ]
    (try dsimp only at hSW)
    go_simp
    with_reducible rfl
  (try simp only [List.getElem_toArray, List.getElem_cons_zero, List.getElem_cons_succ, Act.put, List.setIfInBounds_toArray, List.set_cons_zero, List.set_cons_succ])
  refine wpAnyJ_take 4 (v := ?_) (by first | exact hF | exact wideFn) HSB.out rfl (by kernel_rfl) (by kernel_rfl) (by kernel_rfl) (by kernel_rfl) rfl ?_ (fun _ _ _ h => h) ?_
  rotate_left
  · intro W hSW
    simp only [List.getElem_toArray, List.getElem_cons_zero, List.getElem_cons_succ]
    (try dsimp only at hSW)
    go_simp
    with_reducible rfl
  (try simp only [List.getElem_toArray, List.getElem_cons_zero, List.getElem_cons_succ, Act.put, List.setIfInBounds_toArray, List.set_cons_zero, List.set_cons_succ])
  refine wpAnyJ_take 5 (v := ?_) (by first | exact hF | exact wideFn) HSB.out rfl (by kernel_rfl) (by kernel_rfl) (by kernel_rfl) (by kernel_rfl) rfl ?_ (fun _ _ _ h => h) ?_
  rotate_left
  · intro W hSW
    simp only [List.getElem_toArray, List.getElem_cons_zero, List.getElem_cons_succ]
    (try dsimp only at hSW)
    go_simp
    with_reducible rfl
  (try simp only [List.getElem_toArray, List.getElem_cons_zero, List.getElem_cons_succ, Act.put, List.setIfInBounds_toArray, List.set_cons_zero, List.set_cons_succ])
  refine wpAnyJ_take 6 (v := ?_) (by first | exact hF | exact wideFn) HSB.out rfl (by kernel_rfl) (by kernel_rfl) (by kernel_rfl) (by kernel_rfl) rfl ?_ (fun _ _ _ h => h) ?_
  rotate_left
  · intro W hSW
    simp only [List.getElem_toArray, List.getElem_cons_zero, List.getElem_cons_succ]
    (try dsimp only at hSW)
    go_simp
    with_reducible rfl
  (try simp only [List.getElem_toArray, List.getElem_cons_zero, List.getElem_cons_succ, Act.put, List.setIfInBounds_toArray, List.set_cons_zero, List.set_cons_succ])
  refine wpAnyJ_take 7 (v := ?_) (by first | exact hF | exact wideFn) HSB.out rfl (by kernel_rfl) (by kernel_rfl) (by kernel_rfl) (by kernel_rfl) rfl ?_ (fun _ _ _ h => h) ?_
  rotate_left
  · intro W hSW
    simp only [List.getElem_toArray, List.getElem_cons_zero, List.getElem_cons_succ]
    (try dsimp only at hSW)
    go_simp
    with_reducible rfl
  (try simp only [List.getElem_toArray, List.getElem_cons_zero, List.getElem_cons_succ, Act.put, List.setIfInBounds_toArray, List.set_cons_zero, List.set_cons_succ])
  rw [M3.out]
  refine wpAnyJ_take 8 (v := ?_) (by first | exact hF | exact wideFn) HSB.out rfl (by kernel_rfl) (by kernel_rfl) (by kernel_rfl) (by kernel_rfl) rfl ?_ (fun _ _ _ h => h) ?_
  rotate_left
  · intro W hSW
    simp only [List.getElem_toArray, List.getElem_cons_zero, List.getElem_cons_succ]
    (try dsimp only at hSW)
    go_simp
    with_reducible rfl
  (try simp only [List.getElem_toArray, List.getElem_cons_zero, List.getElem_cons_succ, Act.put, List.setIfInBounds_toArray, List.set_cons_zero, List.set_cons_succ])
  refine wpAnyJ_take 9 (v := ?_) (by first | exact hF | exact wideFn) HSB.out rfl (by kernel_rfl) (by kernel_rfl) (by kernel_rfl) (by kernel_rfl) rfl ?_ (fun _ _ _ h => h) ?_
  rotate_left
  · intro W hSW
    simp only [List.getElem_toArray, List.getElem_cons_zero, List.getElem_cons_succ]
    (try dsimp only at hSW)
    go_simp
    with_reducible rfl
  (try simp only [List.getElem_toArray, List.getElem_cons_zero, List.getElem_cons_succ, Act.put, List.setIfInBounds_toArray, List.set_cons_zero, List.set_cons_succ])
  refine wpAnyJ_take 10 (v := ?_) (by first | exact hF | exact wideFn) HSB.out rfl (by kernel_rfl) (by kernel_rfl) (by kernel_rfl) (by kernel_rfl) rfl ?_ (fun _ _ _ h => h) ?_
  rotate_left
  · intro W hSW
    simp only [List.getElem_toArray, List.getElem_cons_zero, List.getElem_cons_succ]
    (try dsimp only at hSW)
    go_simp
    with_reducible rfl
  (try simp only [List.getElem_toArray, List.getElem_cons_zero, List.getElem_cons_succ, Act.put, List.setIfInBounds_toArray, List.set_cons_zero, List.set_cons_succ])
  refine wpAnyJ_take 11 (v := ?_) (by first | exact hF | exact wideFn) HSB.out rfl (by kernel_rfl) (by kernel_rfl) (by kernel_rfl) (by kernel_rfl) rfl ?_ (fun _ _ _ h => h) ?_
  rotate_left
  · intro W hSW
    simp only [List.getElem_toArray, List.getElem_cons_zero, List.getElem_cons_succ]
    (try dsimp only at hSW)
    go_simp
    with_reducible rfl
  (try simp only [List.getElem_toArray, List.getElem_cons_zero, List.getElem_cons_succ, Act.put, List.setIfInBounds_toArray, List.set_cons_zero, List.set_cons_succ])
  refine wpAnyJ_take 12 (v := ?_) (by first | exact hF | exact wideFn) HSB.out rfl (by kernel_rfl) (by kernel_rfl) (by kernel_rfl) (by kernel_rfl) rfl ?_ (fun _ _ _ h => h) ?_
  rotate_left
  · intro W hSW
    simp only [List.getElem_toArray, List.getElem_cons_zero, List.getElem_cons_succ]
    (try dsimp only at hSW)
    go_simp
    with_reducible rfl
  (try simp only [List.getElem_toArray, List.getElem_cons_zero, List.getElem_cons_succ, Act.put, List.setIfInBounds_toArray, List.set_cons_zero, List.set_cons_succ])
  refine wpAnyJ_take 13 (v := ?_) (by first | exact hF | exact wideFn) HSB.out rfl (by kernel_rfl) (by kernel_rfl) (by kernel_rfl) (by kernel_rfl) rfl ?_ (fun _ _ _ h => h) ?_
  rotate_left
  · intro W hSW
    simp only [List.getElem_toArray, List.getElem_cons_zero, List.getElem_cons_succ]
    (try dsimp only at hSW)
    go_simp
    with_reducible rfl
  (try simp only [List.getElem_toArray, List.getElem_cons_zero, List.getElem_cons_succ, Act.put, List.setIfInBounds_toArray, List.set_cons_zero, List.set_cons_succ])
  refine wpAnyJ_take 14 (v := ?_) (by first | exact hF | exact wideFn) HSB.out rfl (by kernel_rfl) (by kernel_rfl) (by kernel_rfl) (by kernel_rfl) rfl ?_ (fun _ _ _ h => h) ?_
  rotate_left
  · intro W hSW
    simp only [List.getElem_toArray, List.getElem_cons_zero, List.getElem_cons_succ]
    (try dsimp only at hSW)
    go_simp
    with_reducible rfl
  (try simp only [List.getElem_toArray, List.getElem_cons_zero, List.getElem_cons_succ, Act.put, List.setIfInBounds_toArray, List.set_cons_zero, List.set_cons_succ])
  refine wpAnyJ_take 15 (v := ?_) (by first | exact hF | exact wideFn) HSB.out rfl (by kernel_rfl) (by kernel_rfl) (by kernel_rfl) (by kernel_rfl) rfl ?_ (fun _ _ _ h => h) ?_
  rotate_left
  · intro W hSW
    simp only [List.getElem_toArray, List.getElem_cons_zero, List.getElem_cons_succ]
    (try dsimp only at hSW)
    go_simp
    with_reducible rfl
  (try simp only [List.getElem_toArray, List.getElem_cons_zero, List.getElem_cons_succ, Act.put, List.setIfInBounds_toArray, List.set_cons_zero, List.set_cons_succ])
  rw [M4.out]
  refine wpAnyJ_take 16 (v := ?_) (by first | exact hF | exact wideFn) HSB.out rfl (by kernel_rfl) (by kernel_rfl) (by kernel_rfl) (by kernel_rfl) rfl ?_ (fun _ _ _ h => h) ?_
  rotate_left
  · intro W hSW
    simp only [List.getElem_toArray, List.getElem_cons_zero, List.getElem_cons_succ]
    (try dsimp only at hSW)
    go_simp
    with_reducible rfl
  (try simp only [List.getElem_toArray, List.getElem_cons_zero, List.getElem_cons_succ, Act.put, List.setIfInBounds_toArray, List.set_cons_zero, List.set_cons_succ])
  refine wpAnyJ_take 17 (v := ?_) (by first | exact hF | exact wideFn) HSB.out rfl (by kernel_rfl) (by kernel_rfl) (by kernel_rfl) (by kernel_rfl) rfl ?_ (fun _ _ _ h => h) ?_
  rotate_left
  · intro W hSW
    simp only [List.getElem_toArray, List.getElem_cons_zero, List.getElem_cons_succ]
    (try dsimp only at hSW)
    go_simp
    with_reducible rfl
  (try simp only [List.getElem_toArray, List.getElem_cons_zero, List.getElem_cons_succ, Act.put, List.setIfInBounds_toArray, List.set_cons_zero, List.set_cons_succ])
  obtain ⟨k1, k2, k3, k4, k5⟩ := blk4 C2.out.drew
  have k6 := C2.out.drew.frozen 1
  have HSC : Hid ((fun W => (W.cell? ⟨g, 0, none⟩ = some (.int .i64 dl) ∧ W.cell? ⟨g, 2, none⟩ = some (.int .i64 fl)) ∧ W.cell? ⟨w.heap.size, 0, none⟩ = some (.int .u16 b0) ∧ W.cell? ⟨w.heap.size, 1, none⟩ = some (.int .u16 b1) ∧ W.cell? ⟨w.heap.size, 2, none⟩ = some (.int .u16 b2) ∧ W.cell? ⟨w.heap.size, 3, none⟩ = some (.int .u16 b3)) (w2.drew.setCell ⟨g, 1, none⟩ (.int .i64 dh))) := hide ⟨⟨(bx4 (C2.out.drew.set_ 1 (.int .i64 dh))).2.1, (bx4 (C2.out.drew.set_ 1 (.int .i64 dh))).2.2.2.1⟩, HSF.out _ (Bd.out.setCell (p := ⟨g, 1, none⟩) (Nat.le_refl _) _)⟩
  refine wpAnyJ_one 18 rfl (by kernel_rfl) (fun K hK => ?_)
  simp only [List.getElem_toArray, List.getElem_cons_zero, List.getElem_cons_succ]
  go_simp
  refine hK.out _ _ (fun _ => HSC.out) ?_
  clear hK K
  (try simp only [List.getElem_toArray, List.getElem_cons_zero, List.getElem_cons_succ, Act.put, List.setIfInBounds_toArray, List.set_cons_zero, List.set_cons_succ])
  clear k1 k2 k3 k4 k5 k6
  refine wpAnyJ_take 19 (v := ?_) (by first | exact hF | exact wideFn) HSC.out rfl (by kernel_rfl) (by kernel_rfl) (by kernel_rfl) (by kernel_rfl) rfl ?_ (fun _ _ _ h => h) ?_
  rotate_left
  · intro W hSW
    simp only [List.getElem_toArray, List.getElem_cons_zero, List.getElem_cons_succ]
    (try dsimp only at hSW)
    go_simp
    with_reducible rfl
  (try simp only [List.getElem_toArray, List.getElem_cons_zero, List.getElem_cons_succ, Act.put, List.setIfInBounds_toArray, List.set_cons_zero, List.set_cons_succ])
  refine wpAnyJ_take 20 (v := ?_) (by first | exact hF | exact wideFn) HSC.out rfl (by kernel_rfl) (by kernel_rfl) (by kernel_rfl) (by kernel_rfl) rfl ?_ (fun _ _ _ h => h) ?_
  rotate_left
  · intro W hSW
    simp only [List.getElem_toArray, List.getElem_cons_zero, List.getElem_cons_succ]
    (try dsimp only at hSW)
    go_simp
    with_reducible rfl
  (try simp only [List.getElem_toArray, List.getElem_cons_zero, List.getElem_cons_succ, Act.put, List.setIfInBounds_toArray, List.set_cons_zero, List.set_cons_succ])
  obtain ⟨k1, k2, k3, k4, k5⟩ := blk4 C2.out
  have k6 := C2.out.frozen 3
  have Be : Hid (Below g w2 (((w2.setCell ⟨g, 1, none⟩ (.int .i64 dh)).setCell ⟨g, 3, none⟩ (.int .i64 fh)).drew)) := hide (((Below.refl g w2).setCell (p := ⟨g, 1, none⟩) (Nat.le_refl _) (.int .i64 dh)).setCell (p := ⟨g, 3, none⟩) (Nat.le_refl _) (.int .i64 fh)).drew
  have C3 : Hid (Blk (((w2.setCell ⟨g, 1, none⟩ (.int .i64 dh)).setCell ⟨g, 3, none⟩ (.int .i64 fh)).drew) g 40 #[.int .i64 (dl), .int .i64 (dh), .int .i64 (fl), .int .i64 (fh)]) := hide ((C2.out.drew.set_ 1 (.int .i64 dh)).set_ 3 (.int .i64 fh))
  have HSD : Hid ((fun W : World => (W.cell? ⟨g, 0, none⟩ = some (.int .i64 dl) ∧ W.cell? ⟨g, 2, none⟩ = some (.int .i64 fl)) ∧ W.cell? ⟨w.heap.size, 0, none⟩ = some (.int .u16 b0) ∧ W.cell? ⟨w.heap.size, 1, none⟩ = some (.int .u16 b1) ∧ W.cell? ⟨w.heap.size, 2, none⟩ = some (.int .u16 b2) ∧ W.cell? ⟨w.heap.size, 3, none⟩ = some (.int .u16 b3)) (((w2.setCell ⟨g, 1, none⟩ (.int .i64 dh)).setCell ⟨g, 3, none⟩ (.int .i64 fh)).drew)) := hide ⟨⟨(bx4 C3.out).2.1, (bx4 C3.out).2.2.2.1⟩, HSF.out _ Be.out⟩
  refine wpAnyJ_one 21 rfl (by kernel_rfl) (fun K hK => ?_)
  simp only [List.getElem_toArray, List.getElem_cons_zero, List.getElem_cons_succ]
  go_simp
  refine hK.out _ _ (fun _ => HSD.out) ?_
  clear hK K
  (try simp only [List.getElem_toArray, List.getElem_cons_zero, List.getElem_cons_succ, Act.put, List.setIfInBounds_toArray, List.set_cons_zero, List.set_cons_succ])
  clear k1 k2 k3 k4 k5 k6
  refine wpAnyJ_done (by kernel_rfl) ?_
  have B3 : Hid (Below w.heap.size w (((w2.setCell ⟨g, 1, none⟩ (.int .i64 dh)).setCell ⟨g, 3, none⟩ (.int .i64 fh)).drew)) := hide ((B2.out.setCell (p := ⟨g, 1, none⟩) hgw (.int .i64 dh)).setCell (p := ⟨g, 3, none⟩) hgw (.int .i64 fh)).drew
  have U3 : Hid (Blk (((w2.setCell ⟨g, 1, none⟩ (.int .i64 dh)).setCell ⟨g, 3, none⟩ (.int .i64 fh)).drew) (w.heap.size + 1) 50 #[.int .u16 u0, .int .u16 u1]) := hide (U2.out.below Be.out hgU)
  clear HSF Bd Be C2 B2 A2 U2 HSB HSC HSD
  generalize hw3 : ((w2.setCell ⟨g, 1, none⟩ (.int .i64 dh)).setCell ⟨g, 3, none⟩ (.int .i64 fh)).drew = w3 at U3 B3 C3 ⊢
  clear hw3
  obtain ⟨eCl, eC0, eC1, eC2, eC3⟩ := bx4 C3.out
  go_wp2_with fail
  rw [E5.out]
  clear eCl eC0 eC1 eC2 eC3
  refine (H1.out _).mono ?_
  rintro e w4 ⟨rfl, hb4⟩
  have B4 := hide (B3.out.trans (hb4.mono B3.out.size))
  have U4 := hide (U3.out.ext hb4)
  have C4 := hide (C3.out.ext hb4)
  have B5 := hide (B4.out.alloc B4.out.size (.cells #[.int .i64 (x), .int .i64 (y)] 25))
  have X5 := hide (Blk.new w4 25 #[.int .i64 x, .int .i64 y])
  have U5 := hide (U4.out.alloc (.cells #[.int .i64 (x), .int .i64 (y)] 25))
  have C5 := hide (C4.out.alloc (.cells #[.int .i64 (x), .int .i64 (y)] 25))
  obtain ⟨eCl, eC0, eC1, eC2, eC3⟩ := bx4 C5.out
  clear hb4
  go_wp2_with fail
  refine (H2.out _).mono ?_
  rintro e w6 ⟨rfl, hb6⟩
  have B6 := hide (B5.out.trans (hb6.mono B5.out.size))
  have U6 := hide (U5.out.ext hb6)
  have C6 := hide (C5.out.ext hb6)
  have X6 := hide (X5.out.ext hb6)
  clear hb6
  clear eCl eC0 eC1 eC2 eC3
  obtain ⟨eCl, eC0, eC1, eC2, eC3⟩ := bx4 C6.out
  go_wp2_with fail
  have B7 : Hid (Below w.heap.size w ((w6.alloc (.cells #[.int .i64 (mx), .int .i64 (my)] 25)).alloc (.cells #[.int .i64 (dl + 1), .int .i64 (dh + 1), .int .i64 (fl), .int .i64 (fh)] 40))) := hide ((B6.out.alloc B6.out.size _).alloc (by have := B6.out.size; simp; omega) _)
  have U7 := hide ((U6.out.alloc (.cells #[.int .i64 (mx), .int .i64 (my)] 25)).alloc (.cells #[.int .i64 (dl + 1), .int .i64 (dh + 1), .int .i64 (fl), .int .i64 (fh)] 40))
  have C7 := hide ((C6.out.alloc (.cells #[.int .i64 (mx), .int .i64 (my)] 25)).alloc (.cells #[.int .i64 (dl + 1), .int .i64 (dh + 1), .int .i64 (fl), .int .i64 (fh)] 40))
  have X7 := hide ((X6.out.alloc (.cells #[.int .i64 (mx), .int .i64 (my)] 25)).alloc (.cells #[.int .i64 (dl + 1), .int .i64 (dh + 1), .int .i64 (fl), .int .i64 (fh)] 40))
  have Y7 := hide ((Blk.new w6 25 #[.int .i64 mx, .int .i64 my]).alloc (.cells #[.int .i64 (dl + 1), .int .i64 (dh + 1), .int .i64 (fl), .int .i64 (fh)] 40))
  have D7 : Hid (Blk ((w6.alloc (.cells #[.int .i64 (mx), .int .i64 (my)] 25)).alloc (.cells #[.int .i64 (dl + 1), .int .i64 (dh + 1), .int .i64 (fl), .int .i64 (fh)] 40)) (w6.heap.size + 1) 40 #[.int .i64 (dl + 1), .int .i64 (dh + 1), .int .i64 (fl), .int .i64 (fh)]) := hide (by simpa using Blk.new (w6.alloc (.cells #[.int .i64 (mx), .int .i64 (my)] 25)) 40 #[.int .i64 (dl + 1), .int .i64 (dh + 1), .int .i64 (fl), .int .i64 (fh)])
  clear eCl eC0 eC1 eC2 eC3
  generalize hw7 : ((w6.alloc (.cells #[.int .i64 (mx), .int .i64 (my)] 25)).alloc (.cells #[.int .i64 (dl + 1), .int .i64 (dh + 1), .int .i64 (fl), .int .i64 (fh)] 40)) = w7 at B7 U7 C7 X7 Y7 D7 ⊢
  clear hw7 U6 C6 X6 B6
  refine (H3.out _).mono ?_
  rintro e w8 ⟨rfl, hb8⟩
  have B8 := hide (B7.out.trans (hb8.mono B7.out.size))
  have U8 := hide (U7.out.ext hb8)
  have C8 := hide (C7.out.ext hb8)
  have X8 := hide (X7.out.ext hb8)
  have Y8 := hide (Y7.out.ext hb8)
  have D8 := hide (D7.out.ext hb8)
  clear hb8 U7 C7 X7 Y7 D7
  obtain ⟨eCl, eC0, eC1, eC2, eC3⟩ := bx4 C8.out
  obtain ⟨eXl, eX0, eX1⟩ := bx2 X8.out
  obtain ⟨eYl, eY0, eY1⟩ := bx2 Y8.out
  obtain ⟨eDl, eD0, eD1, eD2, eD3⟩ := bx4 D8.out
  obtain ⟨eUl, eU0, eU1⟩ := bx2 U8.out
  go_wp2_with fail
  clear eCl eC0 eC1 eC2 eC3 eXl eX0 eX1 eYl eY0 eY1 eDl eD0 eD1 eD2 eD3 eUl eU0 eU1
  have B9 : Hid (Below w.heap.size w ((w8.alloc (.cells #[.int .i64 (lx), .int .i64 (ly)] 25)).alloc (.cells #[.int .i64 (u0), .int .i64 (u0 + u1)] 25))) := hide ((B8.out.alloc B8.out.size _).alloc (by have := B8.out.size; simp; omega) _)
  have C9 := hide ((C8.out.alloc (.cells #[.int .i64 (lx), .int .i64 (ly)] 25)).alloc (.cells #[.int .i64 (u0), .int .i64 (u0 + u1)] 25))
  have V9 : Hid (Blk ((w8.alloc (.cells #[.int .i64 (lx), .int .i64 (ly)] 25)).alloc (.cells #[.int .i64 (u0), .int .i64 (u0 + u1)] 25)) (w8.heap.size + 1) 25 #[.int .i64 u0, .int .i64 (u0 + u1)]) := hide (by simpa using Blk.new (w8.alloc (.cells #[.int .i64 (lx), .int .i64 (ly)] 25)) 25 #[.int .i64 u0, .int .i64 (u0 + u1)])
  generalize hw9 : ((w8.alloc (.cells #[.int .i64 (lx), .int .i64 (ly)] 25)).alloc (.cells #[.int .i64 (u0), .int .i64 (u0 + u1)] 25)) = w9 at B9 C9 V9 ⊢
  clear hw9 U8 C8 X8 Y8 D8
  refine (H4.out _).mono ?_
  rintro e w10 ⟨rfl, hb10⟩
  have B10 := hide (B9.out.trans (hb10.mono B9.out.size))
  have C10 := hide (C9.out.ext hb10)
  have V10 := hide (V9.out.ext hb10)
  clear hb10 C9 V9
  have B11 := hide (B10.out.alloc B10.out.size (.cells #[.int .i64 (p), .int .i64 (q)] 25))
  have Q11 := hide (Blk.new w10 25 #[.int .i64 p, .int .i64 q])
  have V11 := hide (V10.out.alloc (.cells #[.int .i64 (p), .int .i64 (q)] 25))
  have C11 := hide (C10.out.alloc (.cells #[.int .i64 (p), .int .i64 (q)] 25))
  obtain ⟨eCl, eC0, eC1, eC2, eC3⟩ := bx4 C10.out
  go_wp2_with fail
  clear eCl eC0 eC1 eC2 eC3
  have hbd : p ≤ mid ∧ mid ≤ q := by
    have g1 := Int.emod_nonneg n (b := q - p + 1) (by omega)
    have g2 := Int.emod_lt_of_pos n (b := q - p + 1) (by omega)
    have := HMID.out
    omega
  obtain ⟨hbd1, hbd2⟩ := hbd
  have Z1 := hide (show IntKind.i64.wrap (q - p) = q - p from IntWalk.i64_in _ (by omega))
  have Z2 := hide (show IntKind.i64.wrap (q - p + 1) = q - p + 1 from IntWalk.i64_in _ (by omega))
  have Z3 := hide (show IntKind.i64.wrap (p + n.tmod (q - p + 1)) = mid by rw [Int.tmod_eq_emod_of_nonneg n0, HMID.out]; exact IntWalk.i64_in _ (by omega))
  have HSQ : Hid ((fun W : World => W.cell? ⟨w10.heap.size, 0, none⟩ = some (.int .i64 p) ∧ W.cell? ⟨w10.heap.size, 1, none⟩ = some (.int .i64 q)) (w10.alloc (.cells #[.int .i64 (p), .int .i64 (q)] 25)).drew) := hide ((bx2 Q11.out.drew).2)
  refine wp_region_J (fun W : World => W.cell? ⟨w10.heap.size, 0, none⟩ = some (.int .i64 p) ∧ W.cell? ⟨w10.heap.size, 1, none⟩ = some (.int .i64 q)) (by kernel_rfl) ?_
  have hne : ¬ q - p + 1 = 0 := by omega
  have Z0 := hide (show IntKind.i64.wrap n = n from IntWalk.i64_in n (by omega))
  refine wpAnyJ_take 0 (v := ?_) (by first | exact hF | exact wideFn) HSQ.out rfl (by kernel_rfl) (by kernel_rfl) (by kernel_rfl) (by kernel_rfl) rfl ?_ (fun _ _ _ h => h) ?_
  rotate_left
  · intro W hSW
    simp only [List.getElem_toArray, List.getElem_cons_zero, List.getElem_cons_succ]
    (try dsimp only at hSW)
    go_simp
    with_reducible rfl
  (try simp only [List.getElem_toArray, List.getElem_cons_zero, List.getElem_cons_succ, Act.put, List.setIfInBounds_toArray, List.set_cons_zero, List.set_cons_succ])
  refine wpAnyJ_take 1 (v := ?_) (by first | exact hF | exact wideFn) HSQ.out rfl (by kernel_rfl) (by kernel_rfl) (by kernel_rfl) (by kernel_rfl) rfl ?_ (fun _ _ _ h => h) ?_
  rotate_left
  · intro W hSW
    simp only [List.getElem_toArray, List.getElem_cons_zero, List.getElem_cons_succ]
    (try dsimp only at hSW)
    go_simp
    with_reducible rfl
  (try simp only [List.getElem_toArray, List.getElem_cons_zero, List.getElem_cons_succ, Act.put, List.setIfInBounds_toArray, List.set_cons_zero, List.set_cons_succ])
  refine wpAnyJ_take 2 (v := ?_) (by first | exact hF | exact wideFn) HSQ.out rfl (by kernel_rfl) (by kernel_rfl) (by kernel_rfl) (by kernel_rfl) rfl ?_ (fun _ _ _ h => h) ?_
  rotate_left
  · intro W hSW
    simp only [List.getElem_toArray, List.getElem_cons_zero, List.getElem_cons_succ]
    (try dsimp only at hSW)
    go_simp
    with_reducible rfl
  (try simp only [List.getElem_toArray, List.getElem_cons_zero, List.getElem_cons_succ, Act.put, List.setIfInBounds_toArray, List.set_cons_zero, List.set_cons_succ])
  refine wpAnyJ_take 3 (v := ?_) (by first | exact hF | exact wideFn) HSQ.out rfl (by kernel_rfl) (by kernel_rfl) (by kernel_rfl) (by kernel_rfl) rfl ?_ (fun _ _ _ h => h) ?_
  rotate_left
  · intro W hSW
    simp only [List.getElem_toArray, List.getElem_cons_zero, List.getElem_cons_succ]
    (try dsimp only at hSW)
    go_simp
    with_reducible rfl
  (try simp only [List.getElem_toArray, List.getElem_cons_zero, List.getElem_cons_succ, Act.put, List.setIfInBounds_toArray, List.set_cons_zero, List.set_cons_succ])
  rw [Z0.out]
  refine wpAnyJ_take 4 (v := ?_) (by first | exact hF | exact wideFn) HSQ.out rfl (by kernel_rfl) (by kernel_rfl) (by kernel_rfl) (by kernel_rfl) rfl ?_ (fun _ _ _ h => h) ?_
  rotate_left
  · intro W hSW
    simp only [List.getElem_toArray, List.getElem_cons_zero, List.getElem_cons_succ]
    (try dsimp only at hSW)
    go_simp
    with_reducible rfl
  (try simp only [List.getElem_toArray, List.getElem_cons_zero, List.getElem_cons_succ, Act.put, List.setIfInBounds_toArray, List.set_cons_zero, List.set_cons_succ])
  refine wpAnyJ_take 5 (v := ?_) (by first | exact hF | exact wideFn) HSQ.out rfl (by kernel_rfl) (by kernel_rfl) (by kernel_rfl) (by kernel_rfl) rfl ?_ (fun _ _ _ h => h) ?_
  rotate_left
  · intro W hSW
    simp only [List.getElem_toArray, List.getElem_cons_zero, List.getElem_cons_succ]
    (try dsimp only at hSW)
    go_simp
    with_reducible rfl
  (try simp only [List.getElem_toArray, List.getElem_cons_zero, List.getElem_cons_succ, Act.put, List.setIfInBounds_toArray, List.set_cons_zero, List.set_cons_succ])
  refine wpAnyJ_take 6 (v := ?_) (by first | exact hF | exact wideFn) HSQ.out rfl (by kernel_rfl) (by kernel_rfl) (by kernel_rfl) (by kernel_rfl) rfl ?_ (fun _ _ _ h => h) ?_
  rotate_left
  · intro W hSW
    simp only [List.getElem_toArray, List.getElem_cons_zero, List.getElem_cons_succ]
    (try dsimp only at hSW)
    go_simp
    with_reducible rfl
  (try simp only [List.getElem_toArray, List.getElem_cons_zero, List.getElem_cons_succ, Act.put, List.setIfInBounds_toArray, List.set_cons_zero, List.set_cons_succ])
  refine wpAnyJ_take 7 (v := ?_) (by first | exact hF | exact wideFn) HSQ.out rfl (by kernel_rfl) (by kernel_rfl) (by kernel_rfl) (by kernel_rfl) rfl ?_ (fun _ _ _ h => h) ?_
  rotate_left
  · intro W hSW
    simp only [List.getElem_toArray, List.getElem_cons_zero, List.getElem_cons_succ]
    (try dsimp only at hSW)
    go_simp
    with_reducible rfl
  (try simp only [List.getElem_toArray, List.getElem_cons_zero, List.getElem_cons_succ, Act.put, List.setIfInBounds_toArray, List.set_cons_zero, List.set_cons_succ])
  refine wpAnyJ_take 8 (v := ?_) (by first | exact hF | exact wideFn) HSQ.out rfl (by kernel_rfl) (by kernel_rfl) (by kernel_rfl) (by kernel_rfl) rfl ?_ (fun _ _ _ h => h) ?_
  rotate_left
  · intro W hSW
    simp only [List.getElem_toArray, List.getElem_cons_zero, List.getElem_cons_succ]
    (try dsimp only at hSW)
    go_simp
    with_reducible rfl
  (try simp only [List.getElem_toArray, List.getElem_cons_zero, List.getElem_cons_succ, Act.put, List.setIfInBounds_toArray, List.set_cons_zero, List.set_cons_succ])
  rw [Z1.out]
  refine wpAnyJ_take 9 (v := ?_) (by first | exact hF | exact wideFn) HSQ.out rfl (by kernel_rfl) (by kernel_rfl) (by kernel_rfl) (by kernel_rfl) rfl ?_ (fun _ _ _ h => h) ?_
  rotate_left
  · intro W hSW
    simp only [List.getElem_toArray, List.getElem_cons_zero, List.getElem_cons_succ]
    (try dsimp only at hSW)
    go_simp
    with_reducible rfl
  (try simp only [List.getElem_toArray, List.getElem_cons_zero, List.getElem_cons_succ, Act.put, List.setIfInBounds_toArray, List.set_cons_zero, List.set_cons_succ])
  rw [Z2.out]
  refine wpAnyJ_take 10 (v := ?_) (by first | exact hF | exact wideFn) HSQ.out rfl (by kernel_rfl) (by kernel_rfl) (by kernel_rfl) (by kernel_rfl) rfl ?_ (fun _ _ _ h => h) ?_
  rotate_left
  · intro W hSW
    simp only [List.getElem_toArray, List.getElem_cons_zero, List.getElem_cons_succ]
    (try dsimp only at hSW)
    go_simp
    with_reducible rfl
  (try simp only [List.getElem_toArray, List.getElem_cons_zero, List.getElem_cons_succ, Act.put, List.setIfInBounds_toArray, List.set_cons_zero, List.set_cons_succ])
  refine wpAnyJ_take 11 (v := ?_) (by first | exact hF | exact wideFn) HSQ.out rfl (by kernel_rfl) (by kernel_rfl) (by kernel_rfl) (by kernel_rfl) rfl ?_ (fun _ _ _ h => h) ?_
  rotate_left
  · intro W hSW
    simp only [List.getElem_toArray, List.getElem_cons_zero, List.getElem_cons_succ]
    (try dsimp only at hSW)
    go_simp
    with_reducible rfl
  (try simp only [List.getElem_toArray, List.getElem_cons_zero, List.getElem_cons_succ, Act.put, List.setIfInBounds_toArray, List.set_cons_zero, List.set_cons_succ])
  rw [Z3.out]
  refine wpAnyJ_take 12 (v := ?_) (by first | exact hF | exact wideFn) HSQ.out rfl (by kernel_rfl) (by kernel_rfl) (by kernel_rfl) (by kernel_rfl) rfl ?_ (fun _ _ _ h => h) ?_
  rotate_left
  · intro W hSW
    simp only [List.getElem_toArray, List.getElem_cons_zero, List.getElem_cons_succ]
    (try dsimp only at hSW)
    go_simp
    with_reducible rfl
  (try simp only [List.getElem_toArray, List.getElem_cons_zero, List.getElem_cons_succ, Act.put, List.setIfInBounds_toArray, List.set_cons_zero, List.set_cons_succ])
  refine wpAnyJ_done (by kernel_rfl) ?_
  have B12 := hide B11.out.drew
  have Q12 := hide Q11.out.drew
  have V12 := hide V11.out.drew
  have C12 := hide C11.out.drew
  clear HSQ B11 Q11 V11 C11 Z1 Z2 Z3 hne
  generalize hw12 : (w10.alloc (.cells #[.int .i64 (p), .int .i64 (q)] 25)).drew = w12 at B12 Q12 V12 C12 ⊢
  clear hw12
  obtain ⟨eQl, eQ0, eQ1⟩ := bx2 Q12.out
  go_wp2_with fail
  clear eQl eQ0 eQ1
  have F13 := hide (Blk.new w12 51 #[.int .i64 p, .int .i64 mid, .int .i64 q, .int .i64 (p - 1), .int .i64 (q + 1)])
  have B13 := hide (B12.out.alloc B12.out.size (.cells #[.int .i64 p, .int .i64 mid, .int .i64 q, .int .i64 (p - 1), .int .i64 (q + 1)] 51))
  have V13 := hide (V12.out.alloc (.cells #[.int .i64 p, .int .i64 mid, .int .i64 q, .int .i64 (p - 1), .int .i64 (q + 1)] 51))
  have C13 := hide (C12.out.alloc (.cells #[.int .i64 p, .int .i64 mid, .int .i64 q, .int .i64 (p - 1), .int .i64 (q + 1)] 51))
  go_loopw [22] (fun i wr => ∃ k : Nat, i = .int .i64 k ∧ k ≤ 5 ∧ Hid (Blk wr g 40 #[.int .i64 (dl), .int .i64 (dh), .int .i64 (fl), .int .i64 (fh)]) ∧ Hid (Blk wr (w8.heap.size + 1) 25 #[.int .i64 u0, .int .i64 (u0 + u1)]) ∧ Hid (Blk wr w12.heap.size 51 #[.int .i64 p, .int .i64 mid, .int .i64 q, .int .i64 (p - 1), .int .i64 (q + 1)]) ∧ Hid (Below w.heap.size w wr)) (fun i _ => 5 - (intOf i).toNat)
  case atStart => exact ⟨0, rfl, by omega, C13, V13, F13, B13⟩
  case round =>
    obtain ⟨k, rfl, hk, CR, VR, FR, HB⟩ := hrel
    by_cases hlt : k < 5
    · have hcell : wr.cell? ⟨w12.heap.size, k, none⟩ = some (.int .i64 (sd k)) := by
        rw [FR.out.cell]
        rcases (by omega : k = 0 ∨ k = 1 ∨ k = 2 ∨ k = 3 ∨ k = 4) with rfl | rfl | rfl | rfl | rfl <;> simp [*]
      have hl := FR.out.lt
      clear sd0 sd1 sd2 sd3 sd4
      by_cases ha : sd k < 1
      · go_wp2_with fail
        go_roundw
        case rel => exact ⟨k + 1, by go_num, by omega, CR, VR, FR, HB⟩
        case measure => simp [intOf]; omega
      by_cases hb : 1000000 < sd k
      · go_wp2_with fail
        go_roundw
        case rel => exact ⟨k + 1, by go_num, by omega, CR, VR, FR, HB⟩
        case measure => simp [intOf]; omega
      go_wp2_with fail
      obtain ⟨gx, gy, HC, hin, hout⟩ := HS.out k hlt (by omega) (by omega)
      have HCC := hide HC
      clear HC
      have HSR : Hid (∀ W, Below wr.heap.size wr W → W.cell? ⟨w12.heap.size, k, none⟩ = some (.int .i64 (sd k)) ∧ W.cell? ⟨g, 0, none⟩ = some (.int .i64 dl) ∧ W.cell? ⟨g, 1, none⟩ = some (.int .i64 dh) ∧ W.cell? ⟨g, 2, none⟩ = some (.int .i64 fl) ∧ W.cell? ⟨g, 3, none⟩ = some (.int .i64 fh)) := hide (fun W hb => ⟨(hb.cell (p := ⟨w12.heap.size, k, none⟩) hl).trans hcell, (bx4 (CR.out.ext hb)).2⟩)
      have Bd := hide (Below.refl wr.heap.size wr).drew
      refine wp_region_J (fun W : World => W.cell? ⟨w12.heap.size, k, none⟩ = some (.int .i64 (sd k)) ∧ W.cell? ⟨g, 0, none⟩ = some (.int .i64 dl) ∧ W.cell? ⟨g, 1, none⟩ = some (.int .i64 dh) ∧ W.cell? ⟨g, 2, none⟩ = some (.int .i64 fl) ∧ W.cell? ⟨g, 3, none⟩ = some (.int .i64 fh)) (by kernel_rfl) ?_
      refine wpAnyJ_take 0 (v := ?_) (by first | exact hF | exact wideFn) (HSR.out _ Bd.out) rfl (by kernel_rfl) (by kernel_rfl) (by kernel_rfl) (by kernel_rfl) rfl ?_ (fun _ _ _ h => h) ?_
      rotate_left
      · intro W hSW
        simp only [List.getElem_toArray, List.getElem_cons_zero, List.getElem_cons_succ]
        (try dsimp only at hSW)
        go_simp
        with_reducible rfl
      (try simp only [List.getElem_toArray, List.getElem_cons_zero, List.getElem_cons_succ, Act.put, List.setIfInBounds_toArray, List.set_cons_zero, List.set_cons_succ])
      refine wpAnyJ_take 1 (v := ?_) (by first | exact hF | exact wideFn) (HSR.out _ Bd.out) rfl (by kernel_rfl) (by kernel_rfl) (by kernel_rfl) (by kernel_rfl) rfl ?_ (fun _ _ _ h => h) ?_
      rotate_left
      · intro W hSW
        simp only [List.getElem_toArray, List.getElem_cons_zero, List.getElem_cons_succ]
        (try dsimp only at hSW)
        go_simp
        with_reducible rfl
      (try simp only [List.getElem_toArray, List.getElem_cons_zero, List.getElem_cons_succ, Act.put, List.setIfInBounds_toArray, List.set_cons_zero, List.set_cons_succ])
      refine wpAnyJ_take 2 (v := ?_) (by first | exact hF | exact wideFn) (HSR.out _ Bd.out) rfl (by kernel_rfl) (by kernel_rfl) (by kernel_rfl) (by kernel_rfl) rfl ?_ (fun _ _ _ h => h) ?_
      rotate_left
      · intro W hSW
        simp only [List.getElem_toArray, List.getElem_cons_zero, List.getElem_cons_succ]
        (try dsimp only at hSW)
        go_simp
        with_reducible rfl
      (try simp only [List.getElem_toArray, List.getElem_cons_zero, List.getElem_cons_succ, Act.put, List.setIfInBounds_toArray, List.set_cons_zero, List.set_cons_succ])
      refine wpAnyJ_take 3 (v := ?_) (by first | exact hF | exact wideFn) (HSR.out _ Bd.out) rfl (by kernel_rfl) (by kernel_rfl) (by kernel_rfl) (by kernel_rfl) rfl ?_ (fun _ _ _ h => h) ?_
      rotate_left
      · intro W hSW
        simp only [List.getElem_toArray, List.getElem_cons_zero, List.getElem_cons_succ]
        (try dsimp only at hSW)
        go_simp
        with_reducible rfl
      (try simp only [List.getElem_toArray, List.getElem_cons_zero, List.getElem_cons_succ, Act.put, List.setIfInBounds_toArray, List.set_cons_zero, List.set_cons_succ])
      refine wpAnyJ_two 4 8 rfl rfl (by kernel_rfl) (fun K hK => ?_) (fun K hK => ?_)
      · simp only [List.getElem_toArray, List.getElem_cons_zero, List.getElem_cons_succ]
        go_simp
        refine ⟨trivial, rfl, ?_⟩
        refine (callsIn_wide.2 (HCC.out _)).mono ?_
        rintro e w21 ⟨rfl, hb21⟩
        have Be := hide (Bd.out.trans (hb21.mono Bd.out.size))
        dsimp only
        refine hK.out _ _ (fun _ => HSR.out _ Be.out) ?_
        clear hK K
        (try simp only [List.getElem_toArray, List.getElem_cons_zero, List.getElem_cons_succ, Act.put, List.setIfInBounds_toArray, List.set_cons_zero, List.set_cons_succ])
        clear hb21
        refine wpAnyJ_take 5 (v := ?_) (by first | exact hF | exact wideFn) (HSR.out _ Be.out) rfl (by kernel_rfl) (by kernel_rfl) (by kernel_rfl) (by kernel_rfl) rfl ?_ (fun _ _ _ h => h) ?_
        rotate_left
        · intro W hSW
          simp only [List.getElem_toArray, List.getElem_cons_zero, List.getElem_cons_succ]
          (try dsimp only at hSW)
          go_simp
          with_reducible rfl
        (try simp only [List.getElem_toArray, List.getElem_cons_zero, List.getElem_cons_succ, Act.put, List.setIfInBounds_toArray, List.set_cons_zero, List.set_cons_succ])
        refine wpAnyJ_take 6 (v := ?_) (by first | exact hF | exact wideFn) (HSR.out _ Be.out) rfl (by kernel_rfl) (by kernel_rfl) (by kernel_rfl) (by kernel_rfl) rfl ?_ (fun _ _ _ h => h) ?_
        rotate_left
        · intro W hSW
          simp only [List.getElem_toArray, List.getElem_cons_zero, List.getElem_cons_succ]
          (try dsimp only at hSW)
          go_simp
          with_reducible rfl
        (try simp only [List.getElem_toArray, List.getElem_cons_zero, List.getElem_cons_succ, Act.put, List.setIfInBounds_toArray, List.set_cons_zero, List.set_cons_succ])
        refine wpAnyJ_take 7 (v := ?_) (by first | exact hF | exact wideFn) (HSR.out _ Be.out) rfl (by kernel_rfl) (by kernel_rfl) (by kernel_rfl) (by kernel_rfl) rfl ?_ (fun _ _ _ h => h) ?_
        rotate_left
        · intro W hSW
          simp only [List.getElem_toArray, List.getElem_cons_zero, List.getElem_cons_succ]
          (try dsimp only at hSW)
          go_simp
          with_reducible rfl
        (try simp only [List.getElem_toArray, List.getElem_cons_zero, List.getElem_cons_succ, Act.put, List.setIfInBounds_toArray, List.set_cons_zero, List.set_cons_succ])
        refine wpAnyJ_one 8 rfl (by kernel_rfl) (fun K hK => ?_)
        simp only [List.getElem_toArray, List.getElem_cons_zero, List.getElem_cons_succ]
        go_simp
        refine hK.out _ _ (fun _ => HSR.out _ (Be.out.alloc Be.out.size _)) ?_
        clear hK K
        (try simp only [List.getElem_toArray, List.getElem_cons_zero, List.getElem_cons_succ, Act.put, List.setIfInBounds_toArray, List.set_cons_zero, List.set_cons_succ])
        refine wpAnyJ_one 9 rfl (by kernel_rfl) (fun K hK => ?_)
        simp only [List.getElem_toArray, List.getElem_cons_zero, List.getElem_cons_succ]
        go_simp
        refine hK.out _ _ (fun _ => HSR.out _ (Be.out.alloc Be.out.size _)) ?_
        clear hK K
        (try simp only [List.getElem_toArray, List.getElem_cons_zero, List.getElem_cons_succ, Act.put, List.setIfInBounds_toArray, List.set_cons_zero, List.set_cons_succ])
        refine wpAnyJ_take 10 (v := ?_) (by first | exact hF | exact wideFn) (HSR.out _ (Be.out.alloc Be.out.size _)) rfl (by kernel_rfl) (by kernel_rfl) (by kernel_rfl) (by kernel_rfl) rfl ?_ (fun _ _ _ h => h) ?_
        rotate_left
        · intro W hSW
          simp only [List.getElem_toArray, List.getElem_cons_zero, List.getElem_cons_succ]
          (try dsimp only at hSW)
          go_simp
          with_reducible rfl
        (try simp only [List.getElem_toArray, List.getElem_cons_zero, List.getElem_cons_succ, Act.put, List.setIfInBounds_toArray, List.set_cons_zero, List.set_cons_succ])
        refine wpAnyJ_done (by kernel_rfl) ?_
        have B22 := hide (Be.out.alloc Be.out.size (.cells #[.int .i64 (gx), .int .i64 (gy)] 25))
        have T22 := hide (Blk.new w21 25 #[.int .i64 gx, .int .i64 gy])
        have V22 := hide (VR.out.ext B22.out)
        have C22 := hide (CR.out.ext B22.out)
        have F22 := hide (FR.out.ext B22.out)
        have BB := hide (HB.out.trans (B22.out.mono HB.out.size))
        generalize hw22 : (w21.alloc (.cells #[.int .i64 gx, .int .i64 gy] 25)) = w22 at T22 B22 V22 C22 F22 BB ⊢
        obtain ⟨eVl, eV0, eV1⟩ := bx2 V22.out
        obtain ⟨eTl, eT0, eT1⟩ := bx2 T22.out
        by_cases hk3 : k < 3
        · obtain ⟨i1, i2⟩ := hin hk3
          have hk3' : (k : Int) < 3 := by omega
          go_wp2_with fail
          go_roundw
          case rel => exact ⟨k + 1, by go_num, by omega, C22, V22, F22, BB⟩
          case measure => simp [intOf]; omega
        · have hk3' : ¬ (k : Int) < 3 := by omega
          rcases (by have := hout (by omega); omega : ¬ u0 ≤ gx ∨ (u0 ≤ gx ∧ ¬ gy ≤ u0 + u1)) with i1 | ⟨i1, i2⟩
          all_goals
            go_wp2_with fail
            go_roundw
            case rel => exact ⟨k + 1, by go_num, by omega, C22, V22, F22, BB⟩
            case measure => simp [intOf]; omega
      · simp only [List.getElem_toArray, List.getElem_cons_zero, List.getElem_cons_succ]
        go_simp
        refine hK.out _ _ (fun _ => HSR.out _ (Bd.out.alloc Bd.out.size _)) ?_
        clear hK K
        (try simp only [List.getElem_toArray, List.getElem_cons_zero, List.getElem_cons_succ, Act.put, List.setIfInBounds_toArray, List.set_cons_zero, List.set_cons_succ])
        have Z9 := hide (Blk.new wr.drew 25 #[.int .i64 0, .int .i64 0])
        have Be := hide (Bd.out.alloc Bd.out.size (.cells #[.int .i64 (0), .int .i64 (0)] 25))
        have hzz : wr.drew.heap.size = wr.heap.size := rfl
        rw [hzz] at Z9
        clear hzz
        refine wpAnyJ_one 4 rfl (by kernel_rfl) (fun K hK => ?_)
        simp only [List.getElem_toArray, List.getElem_cons_zero, List.getElem_cons_succ]
        go_simp
        refine ⟨trivial, rfl, ?_⟩
        refine (callsIn_wide.2 (HCC.out _)).mono ?_
        rintro e w21 ⟨rfl, hb21⟩
        have Bf := hide (Be.out.trans (hb21.mono Be.out.size))
        dsimp only
        refine hK.out _ _ (fun _ => HSR.out _ Bf.out) ?_
        clear hK K
        (try simp only [List.getElem_toArray, List.getElem_cons_zero, List.getElem_cons_succ, Act.put, List.setIfInBounds_toArray, List.set_cons_zero, List.set_cons_succ])
        have Z21 := hide (Z9.out.ext hb21)
        clear hb21 Z9
        refine wpAnyJ_take 5 (v := ?_) (by first | exact hF | exact wideFn) (HSR.out _ Bf.out) rfl (by kernel_rfl) (by kernel_rfl) (by kernel_rfl) (by kernel_rfl) rfl ?_ (fun _ _ _ h => h) ?_
        rotate_left
        · intro W hSW
          simp only [List.getElem_toArray, List.getElem_cons_zero, List.getElem_cons_succ]
          (try dsimp only at hSW)
          go_simp
          with_reducible rfl
        (try simp only [List.getElem_toArray, List.getElem_cons_zero, List.getElem_cons_succ, Act.put, List.setIfInBounds_toArray, List.set_cons_zero, List.set_cons_succ])
        refine wpAnyJ_take 6 (v := ?_) (by first | exact hF | exact wideFn) (HSR.out _ Bf.out) rfl (by kernel_rfl) (by kernel_rfl) (by kernel_rfl) (by kernel_rfl) rfl ?_ (fun _ _ _ h => h) ?_
        rotate_left
        · intro W hSW
          simp only [List.getElem_toArray, List.getElem_cons_zero, List.getElem_cons_succ]
          (try dsimp only at hSW)
          go_simp
          with_reducible rfl
        (try simp only [List.getElem_toArray, List.getElem_cons_zero, List.getElem_cons_succ, Act.put, List.setIfInBounds_toArray, List.set_cons_zero, List.set_cons_succ])
        refine wpAnyJ_take 7 (v := ?_) (by first | exact hF | exact wideFn) (HSR.out _ Bf.out) rfl (by kernel_rfl) (by kernel_rfl) (by kernel_rfl) (by kernel_rfl) rfl ?_ (fun _ _ _ h => h) ?_
        rotate_left
        · intro W hSW
          simp only [List.getElem_toArray, List.getElem_cons_zero, List.getElem_cons_succ]
          (try dsimp only at hSW)
          go_simp
          with_reducible rfl
        (try simp only [List.getElem_toArray, List.getElem_cons_zero, List.getElem_cons_succ, Act.put, List.setIfInBounds_toArray, List.set_cons_zero, List.set_cons_succ])
        obtain ⟨g0, g1, g2, g3, g4⟩ := blk2 Z21.out
        refine wpAnyJ_one 9 rfl (by kernel_rfl) (fun K hK => ?_)
        simp only [List.getElem_toArray, List.getElem_cons_zero, List.getElem_cons_succ]
        go_simp
        refine hK.out _ _ (fun _ => HSR.out _ (set2B Bf.out (Nat.le_refl _) _ _)) ?_
        clear hK K
        (try simp only [List.getElem_toArray, List.getElem_cons_zero, List.getElem_cons_succ, Act.put, List.setIfInBounds_toArray, List.set_cons_zero, List.set_cons_succ])
        clear g0 g1 g2 g3 g4
        refine wpAnyJ_take 10 (v := ?_) (by first | exact hF | exact wideFn) (HSR.out _ (set2B Bf.out (Nat.le_refl _) _ _)) rfl (by kernel_rfl) (by kernel_rfl) (by kernel_rfl) (by kernel_rfl) rfl ?_ (fun _ _ _ h => h) ?_
        rotate_left
        · intro W hSW
          simp only [List.getElem_toArray, List.getElem_cons_zero, List.getElem_cons_succ]
          (try dsimp only at hSW)
          go_simp
          with_reducible rfl
        (try simp only [List.getElem_toArray, List.getElem_cons_zero, List.getElem_cons_succ, Act.put, List.setIfInBounds_toArray, List.set_cons_zero, List.set_cons_succ])
        refine wpAnyJ_done (by kernel_rfl) ?_
        have B22 := hide (set2B Bf.out (Nat.le_refl _) (.int .i64 gx) (.int .i64 gy))
        have T22 := hide (Blk.set2 Z21.out (.int .i64 gx) (.int .i64 gy))
        have V22 := hide (VR.out.ext B22.out)
        have C22 := hide (CR.out.ext B22.out)
        have F22 := hide (FR.out.ext B22.out)
        have BB := hide (HB.out.trans (B22.out.mono HB.out.size))
        generalize hw22 : ((w21.setCell ⟨wr.heap.size, 0, none⟩ (.int .i64 gx)).setCell ⟨wr.heap.size, 1, none⟩ (.int .i64 gy)) = w22 at T22 B22 V22 C22 F22 BB ⊢
        obtain ⟨eVl, eV0, eV1⟩ := bx2 V22.out
        obtain ⟨eTl, eT0, eT1⟩ := bx2 T22.out
        by_cases hk3 : k < 3
        · obtain ⟨i1, i2⟩ := hin hk3
          have hk3' : (k : Int) < 3 := by omega
          go_wp2_with fail
          go_roundw
          case rel => exact ⟨k + 1, by go_num, by omega, C22, V22, F22, BB⟩
          case measure => simp [intOf]; omega
        · have hk3' : ¬ (k : Int) < 3 := by omega
          rcases (by have := hout (by omega); omega : ¬ u0 ≤ gx ∨ (u0 ≤ gx ∧ ¬ gy ≤ u0 + u1)) with i1 | ⟨i1, i2⟩
          all_goals
            go_wp2_with fail
            go_roundw
            case rel => exact ⟨k + 1, by go_num, by omega, C22, V22, F22, BB⟩
            case measure => simp [intOf]; omega
    · obtain rfl : k = 5 := by omega
      go_wp2_with fail
      refine (HK.out _).mono ?_
      rintro e w20 ⟨rfl, hb20⟩
      go_wp2_with fail
      go_ret
      exact ⟨rfl, HB.out.trans (hb20.mono HB.out.size)⟩
end Go.Proofs.Ytlhekifmkkgjlaa
