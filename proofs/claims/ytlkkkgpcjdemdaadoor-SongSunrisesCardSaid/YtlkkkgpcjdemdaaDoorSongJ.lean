/- Song: the law SongSunrises: the row and the tied card. -/
import Derived.Test.YtlkkkgpcjdemdaaDoorSongI
import Derived.Test.YtlkkkgpcjdemdaaDoorCards
import Derived.Test.YtlkkkgpcjdemdaaDoorTie
import Derived.LaidMore
import Derived.Lay
import Derived.SevenTiedAt
import Derived.Stop.Joined
set_option linter.unusedSimpArgs false
set_option linter.unusedVariables false
set_option linter.unnecessarySimpa false
/- Song: the reference's Falls; the law of days, walked. -/
namespace Go.Proofs.YtlkkkgpcjdemdaaDoor
open List renaming getElem_toArray → glA, getElem_cons_zero → glB, getElem_cons_succ → glC, setIfInBounds_toArray → glD, set_cons_zero → glE, set_cons_succ → glF
open Go Go.RowKit Go.Shelf
set_option maxHeartbeats 4000000
set_option maxRecDepth 100000
theorem refFalls_any (m : Mo) (hm : m.ok) (n : Int) (h0 : 0 ≤ n) (h1 : n ≤ 3000000) (w : World) :
    Calls Tryd.prog 30 #[.agg #[.int .i64 m.ln, .int .i64 m.per, .int .i64 m.ph], .int .i64 n] w fun e w' => e = .returned (.tuple #[.int .i64 (flF m n).1, .int .i64 (flF m n).2]) ∧ Below w.heap.size w w' := by
  have HA := hide (fun W => refSun_any m hm n h0 (by omega) W)
  have HB := hide (fun W => refSun_any m hm (n + 1) (by omega) (by omega) W)
  have l1 := ah_lo hm h0 (by omega)
  have l2 := ah_lo hm (show 0 ≤ n + 1 by omega) (by omega)
  have u1 := ah_hi hm h0 (by omega)
  have u2 := ah_hi hm (show 0 ≤ n + 1 by omega) (by omega)
  unfold flF
  obtain ⟨f, hf⟩ : ∃ f, ahF m n = f := ⟨_, rfl⟩
  obtain ⟨k, hk⟩ : ∃ f, ahF m (n + 1) = f := ⟨_, rfl⟩
  rw [hf] at HA l1 u1 ⊢
  rw [hk] at HB l2 u2 ⊢
  clear hf hk hm
  obtain ⟨l, p, h⟩ := m
  dsimp only at HA HB ⊢
  have HB0 := hide ((Below.refl w.heap.size w).alloc (Nat.le_refl _) (.cells #[.int .i64 l, .int .i64 p, .int .i64 h] 47))
  have HK := hide (Blk.new w 47 #[.int .i64 l, .int .i64 p, .int .i64 h])
  have hw1 : IntKind.i64.wrap (n + 1) = n + 1 := IntWalk.i64_in _ (by omega)
  obtain ⟨R, hR⟩ : ∃ R : Ending, Ending.returned (.tuple #[.int .i64 (if k - f = 0 then (f - 1, (3 : Int)) else if k - f = 1 then (f, 1) else (f, 2)).1, .int .i64 (if k - f = 0 then (f - 1, (3 : Int)) else if k - f = 1 then (f, 1) else (f, 2)).2]) = R := ⟨_, rfl⟩
  rw [hR]
  have HR := hide hR
  clear hR
  go_enter Tryd.func30, Tryd.ntmps30
  go_upto_region 1 with fail
  obtain ⟨g, hg⟩ : ∃ g, w.heap.size = g := ⟨_, rfl⟩
  rw [hg] at HK ⊢
  have HG := hide hg
  clear hg
  refine wp_region_J (fun W : World => (W.cell? ⟨g, 0, none⟩ = some (.int .i64 l) ∧ W.cell? ⟨g, 1, none⟩ = some (.int .i64 p) ∧ W.cell? ⟨g, 2, none⟩ = some (.int .i64 h))) (by kernel_rfl) ?_
  have HB1 := hide (HB0.out.drew)
  have HK1 := hide (HK.out.ext (Below.refl _ _).drew)
  generalize (w.alloc (.cells #[.int .i64 l, .int .i64 p, .int .i64 h] 47)).drew = wd at HB1 HK1 ⊢
  have HS : Hid (∀ W, Blk W g 47 #[.int .i64 l, .int .i64 p, .int .i64 h] → (W.cell? ⟨g, 0, none⟩ = some (.int .i64 l) ∧ W.cell? ⟨g, 1, none⟩ = some (.int .i64 p) ∧ W.cell? ⟨g, 2, none⟩ = some (.int .i64 h))) := hide (fun W hk => by
    obtain ⟨-, x0, x1, x2, -⟩ := blk3 hk
    exact ⟨x0, x1, x2⟩)
  refine tk_start [0, 1, 3, 4, 5] ?_
  iterate 5
    refine tk_one (v := ?_) (by first | exact hF | exact wideFn) (HS.out _ HK1.out) rfl (by kernel_rfl) (by kernel_rfl) (by kernel_rfl) (by kernel_rfl) rfl ?_ (by first | exact fun _ _ _ h => h | exact fun _ _ _ h => hQ2 _ _ _ _ _ h) ?_
    rotate_left
    · intro W hSW
      simp only [glA, glB, glC]
      (try dsimp only at hSW)
      go_simp
      with_reducible rfl
    (try simp only [glA, glB, glC, Act.put, glD, glE, glF])
  refine tk_end ?_
  refine wpAnyJ_one 2 rfl (by kernel_rfl) (fun K hK => ?_)
  simp only [glA, glB, glC]
  go_simp
  refine ⟨trivial, rfl, ?_⟩
  refine (callsIn_wide.2 (HA.out wd)).mono ?_
  rintro e w2 ⟨rfl, hb2⟩
  have HB2 := hide (HB1.out.trans (hb2.mono HB1.out.size)); have HK2 := hide (HK1.out.ext hb2)
  dsimp only
  refine hK.out _ _ (fun _ => HS.out _ HK2.out) ?_
  clear hK K
  (try simp only [glA, glB, glC, Act.put, glD, glE, glF])
  refine wpAnyJ_one 6 rfl (by kernel_rfl) (fun K hK => ?_)
  simp only [glA, glB, glC]
  go_simp
  refine ⟨trivial, rfl, ?_⟩
  refine (callsIn_wide.2 (HB.out w2)).mono ?_
  rintro e w3 ⟨rfl, hb3⟩
  have HB3 := hide (HB2.out.trans (hb3.mono HB2.out.size)); have HK3 := hide (HK2.out.ext hb3)
  dsimp only
  refine hK.out _ _ (fun _ => HS.out _ HK3.out) ?_
  clear hK K
  (try simp only [glA, glB, glC, Act.put, glD, glE, glF])
  refine wpAnyJ_take 7 (v := ?_) (by first | exact hF | exact wideFn) (HS.out _ HK3.out) rfl (by kernel_rfl) (by kernel_rfl) (by kernel_rfl) (by kernel_rfl) rfl ?_ (by first | exact fun _ _ _ h => h | exact fun _ _ _ h => hQ2 _ _ _ _ _ h) ?_
  rotate_left
  · intro W hSW
    simp only [glA, glB, glC]
    (try dsimp only at hSW)
    go_simp
    with_reducible rfl
  (try simp only [glA, glB, glC, Act.put, glD, glE, glF])
  refine wpAnyJ_take 8 (v := ?_) (by first | exact hF | exact wideFn) (HS.out _ HK3.out) rfl (by kernel_rfl) (by kernel_rfl) (by kernel_rfl) (by kernel_rfl) rfl ?_ (by first | exact fun _ _ _ h => h | exact fun _ _ _ h => hQ2 _ _ _ _ _ h) ?_
  rotate_left
  · intro W hSW
    simp only [glA, glB, glC]
    (try dsimp only at hSW)
    go_simp
    with_reducible rfl
  (try simp only [glA, glB, glC, Act.put, glD, glE, glF])
  refine wpAnyJ_done (by kernel_rfl) ?_
  clear hb2 hb3
  by_cases c0 : k - f = 0
  · have c1 : (k - f == 0) = true := by rw [c0]; rfl
    have hR := HR.out
    rw [if_pos c0] at hR
    clear c0 HR
    go_wp2_with fail
    go_ret2
    exact ⟨hR, HB3.out⟩
  · have c1 : (k - f == 0) = false := by rw [beq_eq_false_iff_ne]; exact c0
    by_cases c2 : k - f = 1
    · have c3 : (k - f == 1) = true := by rw [c2]; rfl
      have hR := HR.out
      rw [if_neg c0, if_pos c2] at hR
      clear c0 c2 HR
      go_wp2_with fail
      go_ret2
      exact ⟨hR, HB3.out⟩
    · have c3 : (k - f == 1) = false := by rw [beq_eq_false_iff_ne]; exact c2
      have hR := HR.out
      rw [if_neg c0, if_neg c2] at hR
      clear c0 c2 HR
      go_wp2_with fail
      go_ret2
      exact ⟨hR, HB3.out⟩
end Go.Proofs.YtlkkkgpcjdemdaaDoor
/- Song: the law of days, walked. -/
namespace Go.Proofs.YtlkkkgpcjdemdaaDoor
open Go Go.RowKit Go.Shelf
set_option maxHeartbeats 8000000
set_option maxRecDepth 100000
theorem at_shape (m : Mo) (d : Int) : ∃ a b c n E, atR m d = (.agg #[.int .i64 a, .bool b, .int .i64 c], n, E) := by
  unfold atR zdV dayV
  split
  · split
    · split <;> exact ⟨_, _, _, _, _, rfl⟩
    · exact ⟨_, _, _, _, _, rfl⟩
  · exact ⟨_, _, _, _, _, rfl⟩
theorem cur_bd {m : Mo} (hm : m.ok) {d : Int} (h0 : 0 ≤ d) (h1 : d ≤ 1000000) (hs : 0 ≤ snF m d) : 0 ≤ curF m d ∧ curF m d ≤ 2000000 := by
  have h2 := hm.2.2.2.2.1
  have h3 := hm.2.2.1
  have h5 := hm.2.2.2.2.2.1
  unfold curF snF at *
  refine ⟨Int.ediv_nonneg hs (by omega), ?_⟩
  have h4 : d * m.per ≤ 1000000 * (2 * m.ln) := Int.le_trans (Int.mul_le_mul_of_nonneg_left h2 h0) (Int.mul_le_mul_of_nonneg_right (by omega) (by omega))
  have h6 := Int.ediv_le_ediv (show 0 < m.ln by omega) (show d * m.per - m.ph ≤ 1000000 * (2 * m.ln) by omega)
  have h7 : 1000000 * (2 * m.ln) / m.ln = 2000000 := by rw [← Int.mul_assoc]; exact Int.mul_ediv_cancel _ (by omega)
  omega
structure DyI (w W : World) (m : Mo) (g : Nat) (A : Int) (B : Bool) (C : Int) : Prop where
  b : Below w.heap.size w W
  m : Blk W w.heap.size 47 #[.int .i64 m.ln, .int .i64 m.per, .int .i64 m.ph]
  k : Blk W g 50 #[.int .i64 A, .bool B, .int .i64 C]
theorem DyI.ext {w W W' : World} {m : Mo} {g : Nat} {A : Int} {B : Bool} {C : Int} (h : DyI w W m g A B C) (hb : Below W.heap.size W W') : DyI w W' m g A B C :=
  ⟨h.b.trans (hb.mono h.b.size), h.m.ext hb, h.k.ext hb⟩
theorem days_any (m : Mo) (d n : Int) (w : World) (hM : ML w) : Calls Tryd.prog 5 #[.agg #[.int .i64 m.ln, .int .i64 m.per, .int .i64 m.ph], .int .i64 d, .int .i64 n] w fun e w' => e = .returned (.bool true) ∧ Below w.heap.size w w' := by
  have HCK := hide (fun W => checkMoon_any m W)
  have HAT := hide (fun W => at_any m d W)
  have HFL := hide (fun W => Falls_any m n W)
  have HRM := hide (fun W => refMoon_any m W)
  have HKN := hide (fun W (h : Below w.heap.size w W) => sknown_any W (hM.ext h))
  obtain ⟨A, B, C, N, E, hat⟩ := at_shape m d
  have HAE := hide hat
  rw [hat] at HAT
  dsimp only at HAT
  have B0 := hide ((Below.refl w.heap.size w).alloc (Nat.le_refl _) (.cells #[.int .i64 m.ln, .int .i64 m.per, .int .i64 m.ph] 47))
  have M0 := hide (Blk.new w 47 #[.int .i64 m.ln, .int .i64 m.per, .int .i64 m.ph])
  clear hat
  by_cases hm : m.ok
  rotate_left
  · obtain ⟨rfl, rfl, rfl, rfl, rfl⟩ : A = 0 ∧ B = false ∧ C = 0 ∧ N = 0 ∧ E = 2 := by
      have h := HAE.out
      unfold atR zdV at h
      rw [if_neg hm] at h
      simp at h
      obtain ⟨⟨h1, h2, h3⟩, h4, h5⟩ := h
      exact ⟨by omega, by first | exact h2.symm | exact h2, by omega, by omega, by omega⟩
    have hfs : fsF m n = (0, 0, 2) := by unfold fsF; rw [if_neg hm]
    rw [hfs] at HFL
    rw [moB_no hm] at HCK
    rw [moB_f hm] at HRM
    clear hfs hm hM HAE
    obtain ⟨l, p, h⟩ := m
    dsimp only at *
    go_enter Tryd.func5, Tryd.ntmps5
    go_wp2_with fail
    refine (HCK.out _).mono ?_
    rintro e w1 ⟨rfl, hb⟩
    have B1 := hide (B0.out.trans (hb.mono B0.out.size))
    have M1 := hide (M0.out.ext hb)
    obtain ⟨z0, c0, c1, c2, f0⟩ := blk3 M1.out
    clear hb
    go_wp2_with fail
    refine (HAT.out _).mono ?_
    rintro e w2 ⟨rfl, hb⟩
    clear z0 c0 c1 c2 f0
    have B2 := hide (B1.out.trans (hb.mono B1.out.size))
    have M2 := hide (M1.out.ext hb)
    obtain ⟨z0, c0, c1, c2, f0⟩ := blk3 M2.out
    clear hb
    go_wp2_with fail
    have KD := hide (Blk.new w2 50 #[.int .i64 0, .bool false, .int .i64 0])
    have hbn : Below w2.heap.size w2 (w2.alloc (.cells #[.int .i64 0, .bool false, .int .i64 0] 50)) := (Below.refl _ _).alloc (Nat.le_refl _) _
    obtain ⟨g, hg⟩ : ∃ g, w2.heap.size = g := ⟨_, rfl⟩
    have B3 := hide (B2.out.trans (hbn.mono B2.out.size))
    have M3 := hide (M2.out.ext hbn)
    rw [hg] at KD ⊢
    clear hg hbn z0 c0 c1 c2 f0
    generalize w2.alloc (.cells #[.int .i64 0, .bool false, .int .i64 0] 50) = w3 at KD B3 M3 ⊢
    refine (HFL.out _).mono ?_
    rintro e w4 ⟨rfl, hb⟩
    have B4 := hide (B3.out.trans (hb.mono B3.out.size))
    have K4 := hide (KD.out.ext hb)
    have M4 := hide (M3.out.ext hb)
    obtain ⟨z0, c0, c1, c2, f0⟩ := blk3 M4.out
    clear hb
    go_wp2_with fail
    refine (HRM.out _).mono ?_
    rintro e w5 ⟨rfl, hb⟩
    clear z0 c0 c1 c2 f0
    have B5 := hide (B4.out.trans (hb.mono B4.out.size))
    obtain ⟨z0, c0, c1, c2, f0⟩ := blk3 (K4.out.ext hb)
    clear hb
    go_wp2_with fail
    refine (HKN.out _ B5.out).mono ?_
    rintro e w6 ⟨rfl, hb⟩
    have B6 := hide (B5.out.trans (hb.mono B5.out.size))
    clear hb
    go_wp2_with fail
    go_ret
    exact ⟨rfl, B6.out⟩
  have HRA := hide (fun (h0 : 0 ≤ d) (h1 : d ≤ 1000000) W => refAt_any m hm d h0 h1 W)
  have HRD := hide (fun k (h0 : 0 ≤ k) (h1 : k ≤ 4000000) W => refDate_any k h0 h1 W)
  have HRF := hide (fun (h0 : 0 ≤ n) (h1 : n ≤ 1000000) W => refFalls_any m hm n h0 (by omega) W)
  have HFS : Hid (fsF m n = if tmB n then ((flF m n).1, (flF m n).2, 0) else (0, 0, 3)) := hide (by unfold fsF; rw [if_pos hm])
  obtain ⟨⟨f1', f2', f3'⟩, hfs⟩ : ∃ r, fsF m n = r := ⟨_, rfl⟩
  rw [hfs] at HFS HFL
  dsimp only at HFL
  rw [moB_yes hm] at HCK
  rw [moB_t hm] at HRM
  replace HAE := hide (by have h := HAE.out; unfold atR at h; rw [if_pos hm] at h; exact h)
  have HCB := hide (cur_bd hm (d := d))
  clear hfs hm hM
  go_enter Tryd.func5, Tryd.ntmps5
  go_wp2_with fail
  refine (HCK.out _).mono ?_
  rintro e w1 ⟨rfl, hb⟩
  have B1 := hide (B0.out.trans (hb.mono B0.out.size))
  have M1 := hide (M0.out.ext hb)
  obtain ⟨z0, c0, c1, c2, f0⟩ := blk3 M1.out
  clear hb
  go_wp2_with fail
  refine (HAT.out _).mono ?_
  rintro e w2 ⟨rfl, hb⟩
  clear z0 c0 c1 c2 f0
  have B2 := hide (B1.out.trans (hb.mono B1.out.size))
  have M2 := hide (M1.out.ext hb)
  obtain ⟨z0, c0, c1, c2, f0⟩ := blk3 M2.out
  clear hb
  go_wp2_with fail
  have KD := Blk.new w2 50 #[.int .i64 A, .bool B, .int .i64 C]
  have hbn : Below w2.heap.size w2 (w2.alloc (.cells #[.int .i64 A, .bool B, .int .i64 C] 50)) := (Below.refl _ _).alloc (Nat.le_refl _) _
  obtain ⟨g, hg⟩ : ∃ g, w2.heap.size = g := ⟨_, rfl⟩
  rw [hg] at KD ⊢
  have I3 : Hid (DyI w (w2.alloc (.cells #[.int .i64 A, .bool B, .int .i64 C] 50)) m g A B C) := hide ⟨B2.out.trans (hbn.mono B2.out.size), M2.out.ext hbn, KD⟩
  clear hg hbn z0 c0 c1 c2 f0 KD B0 B1 B2 M0 M1 M2
  generalize w2.alloc (.cells #[.int .i64 A, .bool B, .int .i64 C] 50) = w3 at I3 ⊢
  refine (HFL.out _).mono ?_
  rintro e w4 ⟨rfl, hb⟩
  have I4 := hide (I3.out.ext hb)
  clear hb
  have z1 := I4.out.m.lt
  have z2 := I4.out.k.lt
  obtain ⟨-, c0, c1, c2, f0⟩ := blk3 I4.out.m
  obtain ⟨-, k0, k1, k2, f1⟩ := blk3 I4.out.k
  go_wp2_with fail
  refine (HRM.out _).mono ?_
  rintro e w5 ⟨rfl, hb⟩
  have I5 := hide (I4.out.ext hb)
  clear hb
  clear z1 z2 c0 c1 c2 f0 k0 k1 k2 f1
  have z1 := I5.out.m.lt
  have z2 := I5.out.k.lt
  obtain ⟨-, c0, c1, c2, f0⟩ := blk3 I5.out.m
  obtain ⟨-, k0, k1, k2, f1⟩ := blk3 I5.out.k
  clear I3 I4 HCK HAT HFL HRM
  have HFN : Hid ((n < 0 ∨ 1000000 < n) → f1' = 0 ∧ f2' = 0 ∧ f3' = 3) := hide (fun h => by
    have h1 := HFS.out
    have h2 : tmB n = false := by rw [← Bool.not_eq_true, tm_iff]; omega
    rw [h2, if_neg Bool.false_ne_true] at h1
    injection h1 with h3 h4
    injection h4 with h4 h5
    exact ⟨h3, h4, h5⟩)
  have HFY : Hid (0 ≤ n → n ≤ 1000000 → f3' = 0 ∧ ∀ W, Calls Tryd.prog 30 #[.agg #[.int .i64 m.ln, .int .i64 m.per, .int .i64 m.ph], .int .i64 n] W fun e w' => e = .returned (.tuple #[.int .i64 f1', .int .i64 f2']) ∧ Below W.heap.size W w') := hide (fun h0 h1 => by
    have h2 := HFS.out
    rw [tm_iff.2 ⟨h0, h1⟩, if_pos rfl] at h2
    injection h2 with h3 h4
    injection h4 with h4 h5
    refine ⟨h5, fun W => ?_⟩
    rw [h3, h4]
    exact HRF.out h0 h1 W)
  have HDN : Hid ((d < 0 ∨ 1000000 < d) → A = 0 ∧ B = false ∧ C = 0 ∧ N = 0 ∧ E = 3) := hide (fun h => by
    have h1 := HAE.out
    have h2 : tmB d = false := by rw [← Bool.not_eq_true, tm_iff]; omega
    rw [h2, if_neg Bool.false_ne_true] at h1
    unfold zdV at h1
    simp at h1
    obtain ⟨⟨h1, h2, h3⟩, h4, h5⟩ := h1
    exact ⟨by omega, by first | exact h2.symm | exact h2, by omega, by omega, by omega⟩)
  have HDZ : Hid (0 ≤ d → d ≤ 1000000 → snF m d < 0 → (A = 0 ∧ B = false ∧ C = 0 ∧ N = 0 ∧ E = 7) ∧ ∀ W, Calls Tryd.prog 28 #[.agg #[.int .i64 m.ln, .int .i64 m.per, .int .i64 m.ph], .int .i64 d] W fun e w' => e = .returned (.int .i64 (-1)) ∧ Below W.heap.size W w') := hide (fun h0 h1 hs => by
    have h2 := HAE.out
    have h3 := HRA.out h0 h1
    rw [tm_iff.2 ⟨h0, h1⟩, if_pos rfl, if_pos hs] at h2
    rw [if_pos hs] at h3
    unfold zdV at h2
    simp at h2
    obtain ⟨⟨h4, h5, h6⟩, h7, h8⟩ := h2
    exact ⟨⟨by omega, by first | exact h5.symm | exact h5, by omega, by omega, by omega⟩, h3⟩)
  have HDC : Hid (0 ≤ d → d ≤ 1000000 → ¬ snF m d < 0 → E = 0 ∧ 0 ≤ N ∧ (∀ W, Calls Tryd.prog 28 #[.agg #[.int .i64 m.ln, .int .i64 m.per, .int .i64 m.ph], .int .i64 d] W fun e w' => e = .returned (.int .i64 N) ∧ Below W.heap.size W w') ∧
      ∀ W, Calls Tryd.prog 29 #[.int .i64 N] W fun e w' => e = .returned (.agg #[.int .i64 A, .bool B, .int .i64 C]) ∧ Below W.heap.size W w') := hide (fun h0 h1 hs => by
    have h2 := HAE.out
    have h3 := HRA.out h0 h1
    have h4 := HCB.out h0 h1 (by omega)
    rw [tm_iff.2 ⟨h0, h1⟩, if_pos rfl, if_neg hs] at h2
    rw [if_neg hs] at h3
    injection h2 with h5 h6
    injection h6 with h6 h7
    rw [h6] at h3 h4 h5
    refine ⟨h7.symm, h4.1, h3, fun W => ?_⟩
    rw [← h5]
    exact HRD.out N h4.1 (by omega) W)
  clear HFS HAE HRA HRD HRF HCB
  rcases (by omega : (d < 0 ∨ 1000000 < d) ∨ 0 ≤ d ∧ d ≤ 1000000) with hd | ⟨hd0, hd1⟩
  · obtain ⟨rfl, rfl, rfl, rfl, rfl⟩ := HDN.out hd
    clear HDN HDZ HDC
    rcases (by omega : (n < 0 ∨ 1000000 < n) ∨ 0 ≤ n ∧ n ≤ 1000000) with hn | ⟨hn0, hn1⟩
    · obtain ⟨rfl, rfl, rfl⟩ := HFN.out hn
      clear HFN HFY
      rcases hd with hd | hd <;> rcases hn with hn | hn
      · go_wp2_with fail
        refine (HKN.out _ I5.out.b).mono ?_
        rintro e w8 ⟨rfl, hb⟩
        have B8 := hide (I5.out.b.trans (hb.mono I5.out.b.size))
        clear hb
        go_wp2_with fail
        go_ret
        exact ⟨rfl, B8.out⟩
      · have hn2 : ¬ n < 0 := by omega
        go_wp2_with fail
        refine (HKN.out _ I5.out.b).mono ?_
        rintro e w8 ⟨rfl, hb⟩
        have B8 := hide (I5.out.b.trans (hb.mono I5.out.b.size))
        clear hb
        go_wp2_with fail
        go_ret
        exact ⟨rfl, B8.out⟩
      · have hd2 : ¬ d < 0 := by omega
        have hd3 : 0 ≤ d := by omega
        have hd4 : ¬ d ≤ 1000000 := by omega
        go_wp2_with fail
        refine (HKN.out _ I5.out.b).mono ?_
        rintro e w8 ⟨rfl, hb⟩
        have B8 := hide (I5.out.b.trans (hb.mono I5.out.b.size))
        clear hb
        go_wp2_with fail
        go_ret
        exact ⟨rfl, B8.out⟩
      · have hn2 : ¬ n < 0 := by omega
        have hd2 : ¬ d < 0 := by omega
        have hd3 : 0 ≤ d := by omega
        have hd4 : ¬ d ≤ 1000000 := by omega
        go_wp2_with fail
        refine (HKN.out _ I5.out.b).mono ?_
        rintro e w8 ⟨rfl, hb⟩
        have B8 := hide (I5.out.b.trans (hb.mono I5.out.b.size))
        clear hb
        go_wp2_with fail
        go_ret
        exact ⟨rfl, B8.out⟩
    · obtain ⟨rfl, HRF⟩ := HFY.out hn0 hn1
      replace HRF := hide HRF
      clear HFN HFY
      have hn2 : ¬ n < 0 := by omega
      have hn3 : ¬ 1000000 < n := by omega
      rcases hd with hd | hd
      · go_wp2_with fail
        refine (HRF.out _).mono ?_
        rintro e w7 ⟨rfl, hb⟩
        have I7 := hide (I5.out.ext hb)
        clear hb
        clear z1 z2 c0 c1 c2 f0 k0 k1 k2 f1
        go_wp2_with fail
        refine (HKN.out _ I7.out.b).mono ?_
        rintro e w8 ⟨rfl, hb⟩
        have B8 := hide (I7.out.b.trans (hb.mono I7.out.b.size))
        clear hb
        go_wp2_with fail
        go_ret
        exact ⟨rfl, B8.out⟩
      · have hd2 : ¬ d < 0 := by omega
        have hd3 : 0 ≤ d := by omega
        have hd4 : ¬ d ≤ 1000000 := by omega
        go_wp2_with fail
        refine (HRF.out _).mono ?_
        rintro e w7 ⟨rfl, hb⟩
        have I7 := hide (I5.out.ext hb)
        clear hb
        clear z1 z2 c0 c1 c2 f0 k0 k1 k2 f1
        go_wp2_with fail
        refine (HKN.out _ I7.out.b).mono ?_
        rintro e w8 ⟨rfl, hb⟩
        have B8 := hide (I7.out.b.trans (hb.mono I7.out.b.size))
        clear hb
        go_wp2_with fail
        go_ret
        exact ⟨rfl, B8.out⟩
  have hd2 : ¬ d < 0 := by omega
  have hd3 : ¬ 1000000 < d := by omega
  by_cases hs : snF m d < 0
  · obtain ⟨⟨rfl, rfl, rfl, rfl, rfl⟩, HRA⟩ := HDZ.out hd0 hd1 hs
    replace HRA := hide HRA
    clear HDN HDZ HDC hs
    go_wp2_with fail
    refine (HRA.out _).mono ?_
    rintro e w6 ⟨rfl, hb⟩
    have I6 := hide (I5.out.ext hb)
    clear hb I5
    clear z1 z2 c0 c1 c2 f0 k0 k1 k2 f1
    have z1 := I6.out.m.lt
    have z2 := I6.out.k.lt
    obtain ⟨-, c0, c1, c2, f0⟩ := blk3 I6.out.m
    obtain ⟨-, k0, k1, k2, f1⟩ := blk3 I6.out.k
    rcases (by omega : (n < 0 ∨ 1000000 < n) ∨ 0 ≤ n ∧ n ≤ 1000000) with hn | ⟨hn0, hn1⟩
    · obtain ⟨rfl, rfl, rfl⟩ := HFN.out hn
      clear HFN HFY
      rcases hn with hn | hn
      · go_wp2_with fail
        refine (HKN.out _ I6.out.b).mono ?_
        rintro e w8 ⟨rfl, hb⟩
        have B8 := hide (I6.out.b.trans (hb.mono I6.out.b.size))
        clear hb
        go_wp2_with fail
        go_ret
        exact ⟨rfl, B8.out⟩
      · have hn2 : ¬ n < 0 := by omega
        go_wp2_with fail
        refine (HKN.out _ I6.out.b).mono ?_
        rintro e w8 ⟨rfl, hb⟩
        have B8 := hide (I6.out.b.trans (hb.mono I6.out.b.size))
        clear hb
        go_wp2_with fail
        go_ret
        exact ⟨rfl, B8.out⟩
    · obtain ⟨rfl, HRF⟩ := HFY.out hn0 hn1
      replace HRF := hide HRF
      clear HFN HFY
      have hn2 : ¬ n < 0 := by omega
      have hn3 : ¬ 1000000 < n := by omega
      go_wp2_with fail
      refine (HRF.out _).mono ?_
      rintro e w7 ⟨rfl, hb⟩
      have I7 := hide (I6.out.ext hb)
      clear hb
      clear z1 z2 c0 c1 c2 f0 k0 k1 k2 f1
      go_wp2_with fail
      refine (HKN.out _ I7.out.b).mono ?_
      rintro e w8 ⟨rfl, hb⟩
      have B8 := hide (I7.out.b.trans (hb.mono I7.out.b.size))
      clear hb
      go_wp2_with fail
      go_ret
      exact ⟨rfl, B8.out⟩
  · obtain ⟨rfl, hN, HRA, HRD⟩ := HDC.out hd0 hd1 hs
    replace HRA := hide HRA
    replace HRD := hide HRD
    clear HDN HDZ HDC hs
    go_wp2_with fail
    refine (HRA.out _).mono ?_
    rintro e w6 ⟨rfl, hb⟩
    have I6 := hide (I5.out.ext hb)
    clear hb I5
    clear z1 z2 c0 c1 c2 f0 k0 k1 k2 f1
    have hN2 : ¬ N < 0 := by omega
    go_upto_region 17 with fail
    have I7 := hide (I6.out.ext (Below.refl w6.heap.size w6).drew)
    refine wp_region_J (fun W : World => W.cell? ⟨g, 0, none⟩ = some (.int .i64 A) ∧ W.cell? ⟨g, 1, none⟩ = some (.bool B) ∧ W.cell? ⟨g, 2, none⟩ = some (.int .i64 C)) (by kernel_rfl) ?_
    generalize w6.drew = wd at I7 ⊢
    have HSK : Hid (∀ W, DyI w W m g A B C → W.cell? ⟨g, 0, none⟩ = some (.int .i64 A) ∧ W.cell? ⟨g, 1, none⟩ = some (.bool B) ∧ W.cell? ⟨g, 2, none⟩ = some (.int .i64 C)) := hide (fun W h => by
      obtain ⟨-, k0, k1, k2, -⟩ := blk3 h.k
      exact ⟨k0, k1, k2⟩)
    refine tk_start [0, 1, 2, 3, 4, 5, 6, 7, 8, 9] ?_
    iterate 10
      refine tk_one (v := ?_) (by first | exact hF | exact wideFn) (HSK.out _ I7.out) rfl (by kernel_rfl) (by kernel_rfl) (by kernel_rfl) (by kernel_rfl) rfl ?_ (by first | exact fun _ _ _ h => h | exact fun _ _ _ h => hQ2 _ _ _ _ _ h) ?_
      rotate_left
      · intro W hSW
        simp only [List.getElem_toArray, List.getElem_cons_zero, List.getElem_cons_succ]
        (try dsimp only at hSW)
        go_simp
        with_reducible rfl
      (try simp only [List.getElem_toArray, List.getElem_cons_zero, List.getElem_cons_succ, Act.put, List.setIfInBounds_toArray, List.set_cons_zero, List.set_cons_succ])
    refine tk_end ?_
    refine wpAnyJ_one 10 rfl (by kernel_rfl) (fun K hK => ?_)
    simp only [List.getElem_toArray, List.getElem_cons_zero, List.getElem_cons_succ]
    go_simp
    refine ⟨trivial, rfl, ?_⟩
    refine (callsIn_wide.2 (HRD.out wd)).mono ?_
    rintro e w7 ⟨rfl, hb⟩
    have I8 := hide (I7.out.ext hb); clear hb
    dsimp only
    refine hK.out _ _ (fun _ => HSK.out _ I8.out) ?_
    clear hK K
    (try simp only [List.getElem_toArray, List.getElem_cons_zero, List.getElem_cons_succ, Act.put, List.setIfInBounds_toArray, List.set_cons_zero, List.set_cons_succ])
    refine tk_start [11, 12, 13] ?_
    iterate 3
      refine tk_one (v := ?_) (by first | exact hF | exact wideFn) (HSK.out _ I8.out) rfl (by kernel_rfl) (by kernel_rfl) (by kernel_rfl) (by kernel_rfl) rfl ?_ (by first | exact fun _ _ _ h => h | exact fun _ _ _ h => hQ2 _ _ _ _ _ h) ?_
      rotate_left
      · intro W hSW
        simp only [List.getElem_toArray, List.getElem_cons_zero, List.getElem_cons_succ]
        (try dsimp only at hSW)
        go_simp
        with_reducible rfl
      (try simp only [List.getElem_toArray, List.getElem_cons_zero, List.getElem_cons_succ, Act.put, List.setIfInBounds_toArray, List.set_cons_zero, List.set_cons_succ])
    refine tk_end ?_
    refine wpAnyJ_done (by kernel_rfl) ?_
    have z1 := I8.out.m.lt
    have z2 := I8.out.k.lt
    obtain ⟨-, c0, c1, c2, f0⟩ := blk3 I8.out.m
    obtain ⟨-, k0, k1, k2, f1⟩ := blk3 I8.out.k
    rcases (by omega : (n < 0 ∨ 1000000 < n) ∨ 0 ≤ n ∧ n ≤ 1000000) with hn | ⟨hn0, hn1⟩
    · obtain ⟨rfl, rfl, rfl⟩ := HFN.out hn
      clear HFN HFY
      rcases hn with hn | hn
      · go_wp2_with fail
        refine (HKN.out _ I8.out.b).mono ?_
        rintro e w8 ⟨rfl, hb⟩
        have B8 := hide (I8.out.b.trans (hb.mono I8.out.b.size))
        clear hb
        go_wp2_with fail
        go_ret
        exact ⟨rfl, B8.out⟩
      · have hn2 : ¬ n < 0 := by omega
        go_wp2_with fail
        refine (HKN.out _ I8.out.b).mono ?_
        rintro e w8 ⟨rfl, hb⟩
        have B8 := hide (I8.out.b.trans (hb.mono I8.out.b.size))
        clear hb
        go_wp2_with fail
        go_ret
        exact ⟨rfl, B8.out⟩
    · obtain ⟨rfl, HRF⟩ := HFY.out hn0 hn1
      replace HRF := hide HRF
      clear HFN HFY
      have hn2 : ¬ n < 0 := by omega
      have hn3 : ¬ 1000000 < n := by omega
      go_wp2_with fail
      refine (HRF.out _).mono ?_
      rintro e w7 ⟨rfl, hb⟩
      have I7 := hide (I8.out.ext hb)
      clear hb
      clear z1 z2 c0 c1 c2 f0 k0 k1 k2 f1
      go_wp2_with fail
      refine (HKN.out _ I7.out.b).mono ?_
      rintro e w8 ⟨rfl, hb⟩
      have B8 := hide (I7.out.b.trans (hb.mono I7.out.b.size))
      clear hb
      go_wp2_with fail
      go_ret
      exact ⟨rfl, B8.out⟩
end Go.Proofs.YtlkkkgpcjdemdaaDoor
/- Song: the law of sunrises, walked. -/
namespace Go.Proofs.YtlkkkgpcjdemdaaDoor
open List renaming getElem_toArray → glA, getElem_cons_zero → glB, getElem_cons_succ → glC, setIfInBounds_toArray → glD, set_cons_zero → glE, set_cons_succ → glF
open Go Go.RowKit Go.Shelf
set_option maxHeartbeats 8000000
set_option maxRecDepth 100000
structure SrI (w W : World) (g : Nat) (m : Mo) : Prop where
  b : Below w.heap.size w W
  m : Blk W g 47 #[.int .i64 m.ln, .int .i64 m.per, .int .i64 m.ph]
theorem SrI.ext {w W W' : World} {g : Nat} {m : Mo} (h : SrI w W g m) (hb : Below W.heap.size W W') : SrI w W' g m := ⟨h.b.trans (hb.mono h.b.size), h.m.ext hb⟩
theorem sunrises_any (P Q B T : Nat) (hP : P < 65536) (hQ : Q < 65536) (hB : B < 65536) (hT : T < 4294967296) (w : World) (hM : ML w) :
    Calls Tryd.prog 11 #[.agg #[.int .u16 (P : Nat), .int .u16 (Q : Nat), .int .u16 (B : Nat), .int .u32 (T : Nat)]] w fun e w' => e = .returned (.bool true) ∧ Below w.heap.size w w' := by
  have HKN := hide (fun W (h : Below w.heap.size w W) => sknown_any W (hM.ext h))
  clear hM
  go_enter Tryd.func11, Tryd.ntmps11
  go_upto_region 1 with fail
  refine wp_region_J (fun W : World => W.cell? ⟨w.heap.size, 0, none⟩ = some (.int .u16 (P : Nat)) ∧ W.cell? ⟨w.heap.size, 1, none⟩ = some (.int .u16 (Q : Nat)) ∧ W.cell? ⟨w.heap.size, 2, none⟩ = some (.int .u16 (B : Nat)) ∧ W.cell? ⟨w.heap.size, 3, none⟩ = some (.int .u32 (T : Nat))) (by kernel_rfl) ?_
  have hw1 : IntKind.i64.wrap (1 + IntKind.i64.wrap (P : Int)) = ((1 + P : Nat) : Int) := by rw [IntWalk.i64_in (P : Int) (by omega), IntWalk.i64_in _ (by omega)]; omega
  have B0 : Below w.heap.size w (w.alloc (.cells #[.int .u16 (P : Nat), .int .u16 (Q : Nat), .int .u16 (B : Nat), .int .u32 (T : Nat)] 92)).drew := ((Below.refl _ _).alloc (Nat.le_refl _) _).drew
  have K0 : Blk (w.alloc (.cells #[.int .u16 (P : Nat), .int .u16 (Q : Nat), .int .u16 (B : Nat), .int .u32 (T : Nat)] 92)).drew w.heap.size 92 #[.int .u16 (P : Nat), .int .u16 (Q : Nat), .int .u16 (B : Nat), .int .u32 (T : Nat)] := (Blk.new w _ _).ext (Below.refl _ _).drew
  have HS : Hid (∀ W, Blk W w.heap.size 92 #[.int .u16 (P : Nat), .int .u16 (Q : Nat), .int .u16 (B : Nat), .int .u32 (T : Nat)] → W.cell? ⟨w.heap.size, 0, none⟩ = some (.int .u16 (P : Nat)) ∧ W.cell? ⟨w.heap.size, 1, none⟩ = some (.int .u16 (Q : Nat)) ∧ W.cell? ⟨w.heap.size, 2, none⟩ = some (.int .u16 (B : Nat)) ∧ W.cell? ⟨w.heap.size, 3, none⟩ = some (.int .u32 (T : Nat))) := hide (fun W h => ⟨h.cell 0, h.cell 1, h.cell 2, h.cell 3⟩)
  have HB0 := hide B0
  have HK0 := hide K0
  clear B0 K0
  generalize (w.alloc (.cells #[.int .u16 (P : Nat), .int .u16 (Q : Nat), .int .u16 (B : Nat), .int .u32 (T : Nat)] 92)).drew = wd at HB0 HK0 ⊢
  refine tk_start [0, 1, 2, 3, 4, 5, 6, 7, 8] ?_
  iterate 9
    refine tk_one (v := ?_) (by first | exact hF | exact wideFn) (HS.out _ HK0.out) rfl (by kernel_rfl) (by kernel_rfl) (by kernel_rfl) (by kernel_rfl) rfl ?_ (by first | exact fun _ _ _ h => h | exact fun _ _ _ h => hQ2 _ _ _ _ _ h) ?_
    rotate_left
    · intro W hSW
      simp only [glA, glB, glC]
      (try dsimp only at hSW)
      go_simp
      with_reducible rfl
    (try simp only [glA, glB, glC, Act.put, glD, glE, glF])
  refine tk_end ?_
  have HB1 := hide ((Below.refl wd.heap.size wd).alloc (Nat.le_refl _) (.cells #[.int .i64 0, .int .i64 0, .int .i64 0] 47))
  refine wpAnyJ_one 9 rfl (by kernel_rfl) (fun K hK => ?_)
  simp only [glA, glB, glC]
  go_simp
  refine hK.out _ _ (fun _ => HS.out _ (HK0.out.ext HB1.out)) ?_
  clear hK K
  (try simp only [glA, glB, glC, Act.put, glD, glE, glF])
  have HM1 := hide (Blk.new wd 47 #[.int .i64 0, .int .i64 0, .int .i64 0])
  obtain ⟨q0, q1, q2, q3, q4⟩ := blk3 HM1.out
  refine wpAnyJ_one 10 rfl (by kernel_rfl) (fun K hK => ?_)
  simp only [glA, glB, glC]
  go_simp
  refine hK.out _ _ (fun _ => (by exact HS.out _ (HK0.out.ext ((Below.refl wd.heap.size wd).alloc (Nat.le_refl _) _)))) ?_
  clear hK K
  (try simp only [glA, glB, glC, Act.put, glD, glE, glF])
  refine wpAnyJ_take 11 (v := ?_) (by first | exact hF | exact wideFn) (HS.out _ (HK0.out.ext ((Below.refl wd.heap.size wd).alloc (Nat.le_refl _) _))) rfl (by kernel_rfl) (by kernel_rfl) (by kernel_rfl) (by kernel_rfl) rfl ?_ (by first | exact fun _ _ _ h => h | exact fun _ _ _ h => hQ2 _ _ _ _ _ h) ?_
  rotate_left
  · intro W hSW
    simp only [glA, glB, glC]
    (try dsimp only at hSW)
    go_simp
    with_reducible rfl
  (try simp only [glA, glB, glC, Act.put, glD, glE, glF])
  refine wpAnyJ_take 12 (v := ?_) (by first | exact hF | exact wideFn) (HS.out _ (HK0.out.ext ((Below.refl wd.heap.size wd).alloc (Nat.le_refl _) _))) rfl (by kernel_rfl) (by kernel_rfl) (by kernel_rfl) (by kernel_rfl) rfl ?_ (by first | exact fun _ _ _ h => h | exact fun _ _ _ h => hQ2 _ _ _ _ _ h) ?_
  rotate_left
  · intro W hSW
    simp only [glA, glB, glC]
    (try dsimp only at hSW)
    go_simp
    with_reducible rfl
  (try simp only [glA, glB, glC, Act.put, glD, glE, glF])
  refine wpAnyJ_done (by kernel_rfl) ?_
  clear q0 q1 q2 q3 q4
  obtain ⟨per, hper⟩ : ∃ p : Nat, 1 + P = p := ⟨_, rfl⟩
  rw [hper] at hw1
  have hpc : 1 + (P : Int) = (per : Int) := by omega
  simp only [hpc]
  clear hpc
  have hp1 : 1 ≤ per ∧ per ≤ 65536 := by omega
  obtain ⟨ph, hph⟩ : ∃ p : Nat, Q % per = p := ⟨_, rfl⟩
  obtain ⟨k, hk⟩ : ∃ k : Nat, 2 * per - (per + 1) / 2 + 1 = k := ⟨_, rfl⟩
  have hkI : 2 * (per : Int) - ((per : Int) + 1) / 2 + 1 = (k : Int) := by omega
  obtain ⟨b, hbb⟩ : ∃ b : Nat, B % k = b := ⟨_, rfl⟩
  have hbk : b < k := by rw [← hbb]; exact Nat.mod_lt _ (by omega)
  have eB : (B : Int) % (2 * (per : Int) - ((per : Int) + 1) / 2 + 1) = (b : Int) := by rw [hkI, ← hbb]; simp
  obtain ⟨ln, hln⟩ : ∃ p : Nat, (per + 1) / 2 + b = p := ⟨_, rfl⟩
  have hph1 : ph < per := by rw [← hph]; exact Nat.mod_lt _ (by omega)
  have e1 : (Q : Int) % (per : Int) = (ph : Nat) := by rw [← hph]; simp
  have e2 : ((per : Int) + 1) / 2 + (b : Int) = (ln : Int) := by omega
  have hmo : (⟨(ln : Int), (per : Int), (ph : Int)⟩ : Mo).ok := by unfold Mo.ok; dsimp only; omega
  clear hbb hkI hph
  have K1 := HS.out _ (HK0.out.ext ((Below.refl wd.heap.size wd).alloc (Nat.le_refl _) (.cells #[.int .i64 0, .int .i64 (per : Nat), .int .i64 0] 47)))
  have K2 := Blk.new wd 47 #[.int .i64 0, .int .i64 (per : Nat), .int .i64 0]
  obtain ⟨x0, x1, x2, x3⟩ := K1
  obtain ⟨z1, y0, y1, y2, y3⟩ := blk3 K2
  have zz := cell_lt x0
  clear HS
  go_wp2_with fail
  have B2 : Below w.heap.size w (wd.alloc (.cells #[.int .i64 (ln : Nat), .int .i64 (per : Nat), .int .i64 (ph : Nat)] 47)) := HB0.out.alloc (by have := HB0.out.size; omega) _
  have M2 := Blk.new wd 47 #[.int .i64 (ln : Nat), .int .i64 (per : Nat), .int .i64 (ph : Nat)]
  obtain ⟨m, hml, hmp, hmh⟩ : ∃ m : Mo, (ln : Int) = m.ln ∧ (per : Int) = m.per ∧ (ph : Int) = m.ph := ⟨⟨ln, per, ph⟩, rfl, rfl, rfl⟩
  have hm : m.ok := by unfold Mo.ok; rw [← hml, ← hmp, ← hmh]; unfold Mo.ok at hmo; dsimp only at hmo; exact hmo
  obtain ⟨d, hd⟩ : ∃ d : Int, (T : Int) % 1000000 = d := ⟨_, rfl⟩
  have hd0 : 0 ≤ d ∧ d < 1000000 := by omega
  obtain ⟨g, hg⟩ : ∃ g, wd.heap.size = g := ⟨_, rfl⟩
  rw [hg] at M2
  rw [hml, hmp, hmh] at B2 M2
  have I2 : Hid (SrI w (wd.alloc (.cells #[.int .i64 m.ln, .int .i64 m.per, .int .i64 m.ph] 47)) g m) := hide ⟨B2, M2⟩
  rw [hml, hmp, hmh, hd, hg]
  clear hml hmp hmh hd hg hmo B2 M2 K2 x0 x1 x2 x3 z1 y0 y1 y2 y3 zz e1 e2 eB hbk hk hph1 hln hp1 hper hw1 HB1 HM1 HK0 HB0 hP hQ hB hT
  generalize wd.alloc (.cells #[.int .i64 m.ln, .int .i64 m.per, .int .i64 m.ph] 47) = w2 at I2 ⊢
  have HM := hide hm
  have HAT := hide (fun W => at_any m d W)
  have HAT2 := hide (fun W => at_any m (d + 1) W)
  clear hm
  by_cases hs : snF m d < 0
  · as_aux_lemma =>
    have ha : atR m d = (zdV, 0, 7) := by unfold atR; rw [if_pos HM.out, if_pos (tm_iff.2 ⟨hd0.1, by omega⟩), if_pos hs]
    rw [ha] at HAT
    have hph : 0 < m.ph := by
      unfold snF at hs
      have := Int.mul_nonneg hd0.1 (show 0 ≤ m.per by have := HM.out.1; omega)
      omega
    have hd00 : d = 0 := by
      unfold snF at hs
      rcases (by omega : d = 0 ∨ 1 ≤ d) with h | h
      · exact h
      · have := Int.mul_le_mul_of_nonneg_right h (show 0 ≤ m.per by have := HM.out.1; omega)
        have := HM.out.2.2.2.2.2.2
        omega
    obtain ⟨A, B', C, N, E, hat⟩ := at_shape m (d + 1)
    rw [hat] at HAT2
    subst hd00
    unfold zdV at HAT
    dsimp only at HAT HAT2
    clear ha hs hat hd0 HM
    refine (HAT.out _).mono ?_
    rintro e w3 ⟨rfl, hb⟩
    have I3 := hide (I2.out.ext hb)
    clear hb
    obtain ⟨z0, c0, c1, c2, f0⟩ := blk3 I3.out.m
    go_wp2_with fail
    have hbn : Below w3.heap.size w3 (w3.alloc (.cells #[.int .i64 0, .bool false, .int .i64 0] 50)) := (Below.refl _ _).alloc (Nat.le_refl _) _
    have K4 := hide (Blk.new w3 50 #[.int .i64 0, .bool false, .int .i64 0])
    have I4 := hide (I3.out.ext hbn)
    clear hbn
    clear z0 c0 c1 c2 f0
    refine (HAT2.out _).mono ?_
    rintro e w5 ⟨rfl, hb⟩
    have I5 := hide (I4.out.ext hb)
    have K5 := hide (K4.out.ext hb)
    clear hb
    obtain ⟨z0, c0, c1, c2, f0⟩ := blk3 I5.out.m
    obtain ⟨z1, k0, k1, k2, f1⟩ := blk3 K5.out
    go_wp2_with fail
    have I6 := hide (I5.out.ext ((Below.refl w5.heap.size w5).alloc (Nat.le_refl _) (.cells #[.int .i64 A, .bool B', .int .i64 C] 50)))
    clear z0 c0 c1 c2 f0
    clear z1 k0 k1 k2 f1
    refine (HKN.out _ I6.out.b).mono ?_
    rintro e w10 ⟨rfl, hb⟩
    have B9 := hide (I6.out.b.trans (hb.mono I6.out.b.size))
    clear hb
    go_wp2_with fail
    go_ret
    exact ⟨rfl, B9.out⟩
  · as_aux_lemma =>
    have hsr := sr_next HM.out (d := d) (by omega)
    have hps := fun i => sr_pass HM.out (d := d) (i := i)
    have hcb := cur_bd HM.out hd0.1 (by omega) (by omega : 0 ≤ snF m d)
    have ha : atR m d = (dayV (curF m d), curF m d, 0) := by unfold atR; rw [if_pos HM.out, if_pos (tm_iff.2 ⟨hd0.1, by omega⟩), if_neg hs]
    have ha2 : atR m (d + 1) = (dayV (curF m (d + 1)), curF m (d + 1), 0) := by unfold atR; rw [if_pos HM.out, if_pos (tm_iff.2 ⟨by omega, by omega⟩), if_neg (by omega)]
    rw [ha] at HAT
    rw [ha2] at HAT2
    have hac := fun j => ah_cur HM.out j d
    obtain ⟨n, hn⟩ : ∃ n, curF m d = n := ⟨_, rfl⟩
    obtain ⟨k, hk⟩ : ∃ n, curF m (d + 1) = n := ⟨_, rfl⟩
    rw [hn] at HAT hsr hps hcb hac
    rw [hk] at HAT2 hsr hps
    obtain ⟨-, hn0, hnk, hk2, hah, hah2⟩ := hsr
    unfold dayV at HAT HAT2
    dsimp only at HAT HAT2
    have HN := hide hn
    have HPS := hide hps
    clear ha ha2 hs hn hk hps
    have q1 : ((n / 15 % 2 == 1) == decide (15 ≤ n % 30)) = true := by
      rw [beq_iff_eq, Bool.eq_iff_iff, beq_iff_eq, decide_eq_true_iff]; omega
    have q2 : (n / 15 % 2 == 1) = decide (15 ≤ n % 30) := by rw [Bool.eq_iff_iff, beq_iff_eq, decide_eq_true_iff]; omega
    rw [q2] at HAT
    clear q1 q2
    have r1 : ¬ n % 15 + 1 < 1 := by omega
    have r2 : ¬ 15 < n % 15 + 1 := by omega
    have r3 : ¬ k < n := by omega
    have r4 : ¬ n + 2 < k := by omega
    have r5 : n % 15 + 1 - 1 = n % 15 := by omega
    refine (HAT.out _).mono ?_
    rintro e w3 ⟨rfl, hb⟩
    have I3 := hide (I2.out.ext hb)
    clear hb
    obtain ⟨z0, c0, c1, c2, f0⟩ := blk3 I3.out.m
    go_wp2_with fail
    have hbn : Below w3.heap.size w3 (w3.alloc (.cells #[.int .i64 (n / 30), .bool (decide (15 ≤ n % 30)), .int .i64 (n % 15 + 1)] 50)) := (Below.refl _ _).alloc (Nat.le_refl _) _
    have K4 := hide (Blk.new w3 50 #[.int .i64 (n / 30), .bool (decide (15 ≤ n % 30)), .int .i64 (n % 15 + 1)])
    have I4 := hide (I3.out.ext hbn)
    clear hbn
    clear z0 c0 c1 c2 f0
    refine (HAT2.out _).mono ?_
    rintro e w5 ⟨rfl, hb⟩
    have I5 := hide (I4.out.ext hb)
    have K5 := hide (K4.out.ext hb)
    clear hb
    obtain ⟨z0, c0, c1, c2, f0⟩ := blk3 I5.out.m
    obtain ⟨z1, k0, k1, k2, f1⟩ := blk3 K5.out
    have hbn : Below w5.heap.size w5 (w5.alloc (.cells #[.int .i64 (k / 30), .bool (k / 15 % 2 == 1), .int .i64 (k % 15 + 1)] 50)) := (Below.refl _ _).alloc (Nat.le_refl _) _
    have I6 := hide (I5.out.ext hbn)
    have K6 := hide (K5.out.ext hbn)
    clear hbn
    by_cases hbig : 999997 < n
    · as_aux_lemma =>
      go_wp2_with fail
      clear z0 c0 c1 c2 f0
      clear z1 k0 k1 k2 f1
      refine (HKN.out _ I6.out.b).mono ?_
      rintro e w10 ⟨rfl, hb⟩
      have B9 := hide (I6.out.b.trans (hb.mono I6.out.b.size))
      clear hb
      go_wp2_with fail
      go_ret
      exact ⟨rfl, B9.out⟩
    · as_aux_lemma =>
      go_wp2_with fail
      generalize w5.alloc (.cells #[.int .i64 (k / 30), .bool (k / 15 % 2 == 1), .int .i64 (k % 15 + 1)] 50) = w6 at I6 K6 ⊢
      clear z1 k0 k1 k2 f1
      clear z0 c0 c1 c2 f0
      obtain ⟨g8, hg8⟩ : ∃ W, w3.heap.size = W := ⟨_, rfl⟩
      rw [hg8] at K6 ⊢
      clear hg8 I5 K5 I4 K4 I3 I2 HAT HAT2 r1 r2 r3 r4 r5
      have hn3 : n ≤ 999997 := by omega
      have hfd := fl_days hah hah2 (ah_two HM.out n)
      have hcc : curF m (ahF m n) = n := by
        have h1 := (ah_cur HM.out n (ahF m n)).1 (Int.le_refl _)
        have h2 := hac (curF m (ahF m n))
        have h3 := (ah_cur HM.out (curF m (ahF m n)) (ahF m n)).2 (Int.le_refl _)
        have := h2.1 (by omega)
        omega
      have HFL := hide (fun W => Falls_any m n W)
      rw [fsF_of HM.out hn0 (by omega)] at HFL
      have HFI := hide (fun i (h1 : n < i) (h2 : i < k) W => Falls_any m i W)
      have HOD := hide (fun W => Odd_any m n (n + 3) W)
      unfold OdPost at HOD
      rw [odR_of HM.out hn0 hn3] at HOD
      have HNX := hide (fun W => Next_any m (ahF m n) (n / 15 % 2 == 1) (n % 15 + 1) W)
      rw [nx_back HM.out hn0 (by omega) (by omega) hfd.1 hcc] at HNX
      have hdk : (n / 15 % 2 == 1) = decide (15 ≤ n % 30) := by rw [Bool.eq_iff_iff, beq_iff_eq, decide_eq_true_iff]; omega
      rw [hdk] at HNX
      have hon0 := ah_lo HM.out hn0 (by omega)
      rw [← hfd.1] at HNX hon0
      obtain ⟨on, hon⟩ : ∃ o, (flF m n).1 = o := ⟨_, rfl⟩
      obtain ⟨h, hh⟩ : ∃ o, (flF m n).2 = o := ⟨_, rfl⟩
      rw [hon, hh] at hfd HFL
      rw [hon] at HNX hon0
      dsimp only at HFL HOD HNX
      obtain ⟨-, hd1, hd2, hd3, hd4⟩ := hfd
      have HFI2 := hide (fun i (h1 : n < i) (h2 : i < k) => show fsF m i = (d, 3, 0) by rw [fsF_of HM.out (by omega) (by omega), HPS.out i h1 h2])
      clear hon hh hdk hcc hac hah hah2 HN HPS hcb
      refine (HFL.out _).mono ?_
      rintro e w7 ⟨rfl, hb⟩
      have I7 := hide (I6.out.ext hb)
      have K7 := hide (K6.out.ext hb)
      clear hb I6 K6 HFL
      go_upto_region 15 with fail
      go_cut [194] (fun v w' => v = .bool false ∧ w' = w7)
      case first =>
        as_aux_lemma =>
        have j1 : ¬ d < on := by omega
        have j2 : ¬ on < d - 1 := by omega
        clear HKN HFI HOD HNX HFI2 HM
        rcases hd3 with hh1 | hh2
        · obtain rfl : on = d := by
            rcases (by omega : on < d ∨ on = d) with hx | hx
            · have := hd4 hx; omega
            · exact hx
          subst hh1
          clear hd4
          go_wp2_with fail
          go_meet
          exact ⟨rfl, rfl⟩
        · subst hh2
          clear hd4
          by_cases hod : on < d
          · go_wp2_with fail
            go_meet
            exact ⟨rfl, rfl⟩
          · go_wp2_with fail
            go_meet
            exact ⟨rfl, rfl⟩
      obtain ⟨rfl, hw⟩ := hcut
      have hw := hw.symm
      subst hw
      clear hd1 hd2 hd3 hd4
      go_wp2_with fail
      go_loopw [16] (fun x wr => ∃ i : Int, x = .int .i64 i ∧ n + 1 ≤ i ∧ (i ≤ k ∨ i = n + 1) ∧ Hid (SrI w wr g m) ∧ Hid (Blk wr g8 50 #[.int .i64 (n / 30), .bool (decide (15 ≤ n % 30)), .int .i64 (n % 15 + 1)])) (fun x _ => (k - intOf x).toNat)
      case atStart => exact ⟨n + 1, rfl, Int.le_refl _, .inr rfl, I7, K7⟩
      case round =>
        obtain ⟨i, rfl, hi1, hi2, Ir, Kr⟩ := hrel
        clear I7 K7
        obtain ⟨z0, c0, c1, c2, f0⟩ := blk3 Ir.out.m
        by_cases hlt : i < k
        · as_aux_lemma =>
          have hf0 := HFI.out i (by omega) hlt
          rw [HFI2.out i (by omega) hlt] at hf0
          have HF0 := hide hf0
          clear hf0 HFI HFI2 HOD HNX HKN
          dsimp only at HF0
          have hi3 : i ≤ 1000000 := by omega
          go_wp2_with fail
          (with_reducible refine (HF0.out _).mono ?_)
          rintro e w8 ⟨rfl, hb⟩
          have I8 := hide (Ir.out.ext hb)
          have K8 := hide (Kr.out.ext hb)
          clear hb Ir Kr
          clear z0 c0 c1 c2 f0
          go_wp2_with fail
          go_roundw
          case rel => exact ⟨i + 1, rfl, by omega, .inl (by omega), I8, K8⟩
          case measure => simp [intOf]; omega
        · as_aux_lemma =>
          clear HFI HFI2
          go_wp2_with fail
          (with_reducible refine (HOD.out _).mono ?_)
          rintro e w8 ⟨v1, v2, rfl, o1, o2, hb⟩
          have I8 := hide (Ir.out.ext hb)
          have K8 := hide (Kr.out.ext hb)
          obtain ⟨A1, k1, rfl⟩ := own_shape o1
          obtain ⟨A2, k2, rfl⟩ := own_shape o2
          have hz2 := fun h : m.ln ≤ m.per => congrArg List.length (hw_two HM.out h (dyL n (n + 3) 1))
          have hz1 := fun h : m.per ≤ m.ln => congrArg List.length (hw_three HM.out h (dyL n (n + 3) 1))
          obtain ⟨L1, hL1⟩ : ∃ x, (hwL m 3 (dyL n (n + 3) 1)).length = x := ⟨_, rfl⟩
          obtain ⟨L2, hL2⟩ : ∃ x, (hwL m 2 (dyL n (n + 3) 1)).length = x := ⟨_, rfl⟩
          rw [hL1] at hz1 ⊢
          rw [hL2] at hz2 ⊢
          clear hb Ir Kr o1 o2 hL1 hL2 HOD
          clear z0 c0 c1 c2 f0
          obtain ⟨z0, c0, c1, c2, f0⟩ := blk3 I8.out.m
          obtain ⟨z1, y0, y1, y2, f1⟩ := blk3 K8.out
          go_upto_region 24 with fail
          go_cut [254] (fun v w' => v = .bool false ∧ w' = w8)
          case first =>
            as_aux_lemma =>
            clear HNX HKN HM
            rcases (by omega : m.ln < m.per ∨ m.ln = m.per ∨ m.per < m.ln) with hx | hx | hx
            · obtain rfl : L2 = 0 := hz2 (by omega)
              have hx2 : m.ln ≤ m.per := by omega
              have hx3 : ¬ m.per ≤ m.ln := by omega
              clear hz1 hz2
              go_wp2_with fail
              go_meet
              exact ⟨rfl, rfl⟩
            · obtain rfl : L2 = 0 := hz2 (by omega)
              obtain rfl : L1 = 0 := hz1 (by omega)
              have hx2 : m.ln ≤ m.per := by omega
              have hx3 : m.per ≤ m.ln := by omega
              clear hz1 hz2 hx
              go_wp2_with fail
              go_meet
              exact ⟨rfl, rfl⟩
            · obtain rfl : L1 = 0 := hz1 (by omega)
              have hx2 : ¬ m.ln ≤ m.per := by omega
              have hx3 : m.per ≤ m.ln := by omega
              clear hz1 hz2
              go_wp2_with fail
              go_meet
              exact ⟨rfl, rfl⟩
          obtain ⟨rfl, hw⟩ := hcut
          have hw := hw.symm
          subst hw
          clear hz1 hz2
          go_wp2_with fail
          (with_reducible refine (HNX.out _).mono ?_)
          rintro e w9 ⟨rfl, hb⟩
          have I9 := hide (I8.out.ext hb)
          clear hb I8 K8 z1 y0 y1 y2 f1
          clear z0 c0 c1 c2 f0
          go_wp2_with fail
          refine (HKN.out _ I9.out.b).mono ?_
          rintro e w10 ⟨rfl, hb⟩
          have B9 := hide (I9.out.b.trans (hb.mono I9.out.b.size))
          clear hb
          go_wp2_with fail
          go_ret
          exact ⟨rfl, B9.out⟩
end Go.Proofs.YtlkkkgpcjdemdaaDoor
namespace Go.Proofs.YtlkkkgpcjdemdaaDoor.songSunrises
open Go Go.ChangeShapes Go.WideShapes Go.ChangeAt Go.RowKit
set_option maxRecDepth 100000 in
theorem lifted (os : Os) (started : os.Started) (H : Type) (enc : TypeId × Value → H) :
    ReturnsInHanded {} Tryd.checked os 11 .any (fun w args => (Rows.songSunrisesSpec.pre enc Tryd.prog Tryd.f11 Rows.songSunrisesRow.domain false w args ∧ laidMetH Tryd.prog Rows.songSunrisesRow.laid w) ∧ sizedMet enc Tryd.prog Tryd.f11 (OpenSpec.ofChange Rows.songSunrisesSpec) false w args)
      (Rows.songSunrisesSpec.post enc Tryd.prog Tryd.f11 false true false false) := by
  refine rih_and_shaped (C := Tryd.checked) (X := fun w _ => laidMetH Tryd.prog Rows.songSunrisesRow.laid w) (fun _ _ _ hh h => h.of_heap hh) own_knob started (by kernel_rfl) Tryd.func11
    (ChangeSpec.witness_shaped (enc := enc) (C := Tryd.checked) (os := os) (X := fun w _ => laidMetH Tryd.prog Rows.songSunrisesRow.laid w) false (World.laidAll Tryd.prog os Rows.songSunrisesRow.laid) #[.agg #[.int .u16 0, .int .u16 0, .int .u16 0, .int .u32 0]] 8 (World.laidAll_os _ _ _)
      (World.shaped_of_ZipB (by kernel_rfl) (by kernel_rfl)) (by kernel_rfl) (by kernel_rfl) (by kernel_rfl)
      (by rw [MakeChecks.laidMetH_plain _ _ _ (by kernel_rfl)]; exact laidMet_laidAll _ (by kernel_rfl) (by kernel_rfl))) ?_
  intro W base args ds gs before hval0 hW hsh _
  have hval : ∀ (j : Nat) t v, Tryd.f11.params[j]? = some t → args[j]? = some v → Value.okWide Tryd.prog W .any base t v := hval0
  have hW' := hW
  have hlt : ∀ p ∈ before, p.block < W.heap.size := fun p hp => hW.lt p hp
  obtain ⟨p, q, hA0, hV, rfl, hfz, hnd⟩ := hW
  have hA : DataW.TrodAll enc Tryd.prog W 0 (fun _ => true) true Tryd.f11.params.toList args.toList ds p := hA0
  rw [Tryd.params11] at hA hval
  obtain ⟨v0, vs0, d0, ds0, p0, q0, hargs, rfl, rfl, h0, r0⟩ := trodAll_cons hA
  obtain ⟨rfl, rfl, rfl⟩ := trodAll_nil r0
  obtain rfl : args = #[v0] := by cases args; simp_all
  obtain ⟨rfl, rfl⟩ := trodVars_none hV
  have k0 := hval 0 92 v0 rfl rfl
  obtain ⟨P, Q, B, T, rfl, q0, q1, q2, q3⟩ := open_sunrise k0 h0
  have hM := ml_shaped hsh
  clear hA0 hval0
  refine (sunrises_any P Q B T q0 q1 q2 q3 W hM).mono fun e W' ⟨he, hb⟩ => ?_
  subst he
  exact ⟨_, rfl, law_post hW' hb rfl rfl (by kernel_rfl) ⟨rfl, rfl, rfl⟩⟩
theorem over : Rows.songSunrisesRow.holds Tryd.pinned (OpenSpec.ofChange Rows.songSunrisesSpec) :=
  OpenClaim.holds_of_wide 11 Tryd.f11 rfl rfl rfl rfl rfl rfl rfl ⟨rfl, rfl, rfl, rfl, rfl⟩ rfl rfl rfl rfl rfl (by kernel_rfl) Tryd.func11 (by kernel_rfl)
    (of_decide_eq_true (by kernel_rfl)) (by unfold Func.isWrapper; first | (rw [if_pos (by decide +kernel)]; kernel_rfl) | (rw [if_neg (by decide +kernel)]; exact ⟨rfl, rfl⟩))
    (fun os started H enc _ => lifted os started H enc)
theorem proved : Rows.SongSunrisesCardSaid :=
  Claim7.holds_tied_plain_at .later [] [.data, .pinned] true (true, "9c6a2fb55d1ffce8605a7bddf74f81652897d337daff0ed6fd4b428e7e7989a8") false over (fun _ h => by cases h) (by kernel_rfl) (fun _ h => by cases h) songSunrises_row_tie rfl ⟨rfl, rfl⟩ (by kernel_rfl) rfl
    (fun f fn hf hfn => by
      obtain rfl : f = 11 := Option.some.inj ((show Tryd.prog.funcNamed "chiti/chitilaw10.SongSunrises" = some 11 by kernel_rfl).symm.trans hf) |>.symm
      obtain rfl : fn = Tryd.f11 := (Option.some.inj (Tryd.func11.symm.trans hfn)).symm
      exact ⟨by kernel_rfl, fun j t ht => by
        rw [Tryd.params11] at ht
        have hm : t ∈ ([92] : List TypeId) := by simpa using Array.mem_of_getElem? ht
        have hall : (([92] : List TypeId).all fun u => !Tryd.prog.wantsStandIn u) = true := by kernel_rfl
        exact (show Tryd.prog.wantsStandIn t = false by simpa using List.all_eq_true.1 hall t hm)⟩)
    (by kernel_rfl)
#print axioms proved
end Go.Proofs.YtlkkkgpcjdemdaaDoor.songSunrises
