/- Song: the law SongDays: the row and the tied card. -/
import Derived.Test.YtlkkkgpcjdemdaaDoorSongD
import Derived.Test.YtlkkkgpcjdemdaaDoorCards
import Derived.Test.YtlkkkgpcjdemdaaDoorTie
import Derived.LaidMore
import Derived.Lay
import Derived.SevenTiedAt
import Derived.Stop.Joined
set_option linter.unusedSimpArgs false
set_option linter.unusedVariables false
set_option linter.unnecessarySimpa false
/- Song: the law of days, walked. -/
namespace Go.Proofs.YtlkkkgpcjdemdaaDoor
open Go Go.RowKit Go.Shelf
set_option maxHeartbeats 8000000
set_option maxRecDepth 100000
theorem at_shape (m : Mo) (d : Int) : ∃ a b c n E, atR m d = (.agg #[.int .i64 a, .bool b, .int .i64 c], n, E) := by
  unfold atR zdV dayV
  split
  · split
    · split <;> exact ⟨_, _, _, _, _, rfl⟩
    · exact ⟨_, _, _, _, _, rfl⟩
  · exact ⟨_, _, _, _, _, rfl⟩
theorem cur_bd {m : Mo} (hm : m.ok) {d : Int} (h0 : 0 ≤ d) (h1 : d ≤ 1000000) (hs : 0 ≤ snF m d) : 0 ≤ curF m d ∧ curF m d ≤ 2000000 := by
  have h2 := hm.2.2.2.2.1
  have h3 := hm.2.2.1
  have h5 := hm.2.2.2.2.2.1
  unfold curF snF at *
  refine ⟨Int.ediv_nonneg hs (by omega), ?_⟩
  have h4 : d * m.per ≤ 1000000 * (2 * m.ln) := Int.le_trans (Int.mul_le_mul_of_nonneg_left h2 h0) (Int.mul_le_mul_of_nonneg_right (by omega) (by omega))
  have h6 := Int.ediv_le_ediv (show 0 < m.ln by omega) (show d * m.per - m.ph ≤ 1000000 * (2 * m.ln) by omega)
  have h7 : 1000000 * (2 * m.ln) / m.ln = 2000000 := by rw [← Int.mul_assoc]; exact Int.mul_ediv_cancel _ (by omega)
  omega
structure DyI (w W : World) (m : Mo) (g : Nat) (A : Int) (B : Bool) (C : Int) : Prop where
  b : Below w.heap.size w W
  m : Blk W w.heap.size 47 #[.int .i64 m.ln, .int .i64 m.per, .int .i64 m.ph]
  k : Blk W g 50 #[.int .i64 A, .bool B, .int .i64 C]
theorem DyI.ext {w W W' : World} {m : Mo} {g : Nat} {A : Int} {B : Bool} {C : Int} (h : DyI w W m g A B C) (hb : Below W.heap.size W W') : DyI w W' m g A B C :=
  ⟨h.b.trans (hb.mono h.b.size), h.m.ext hb, h.k.ext hb⟩
theorem days_any (m : Mo) (d n : Int) (w : World) (hM : ML w) : Calls Tryd.prog 5 #[.agg #[.int .i64 m.ln, .int .i64 m.per, .int .i64 m.ph], .int .i64 d, .int .i64 n] w fun e w' => e = .returned (.bool true) ∧ Below w.heap.size w w' := by
  have HCK := hide (fun W => checkMoon_any m W)
  have HAT := hide (fun W => at_any m d W)
  have HFL := hide (fun W => Falls_any m n W)
  have HRM := hide (fun W => refMoon_any m W)
  have HKN := hide (fun W (h : Below w.heap.size w W) => sknown_any W (hM.ext h))
  obtain ⟨A, B, C, N, E, hat⟩ := at_shape m d
  have HAE := hide hat
  rw [hat] at HAT
  dsimp only at HAT
  have B0 := hide ((Below.refl w.heap.size w).alloc (Nat.le_refl _) (.cells #[.int .i64 m.ln, .int .i64 m.per, .int .i64 m.ph] 47))
  have M0 := hide (Blk.new w 47 #[.int .i64 m.ln, .int .i64 m.per, .int .i64 m.ph])
  clear hat
  by_cases hm : m.ok
  rotate_left
  · obtain ⟨rfl, rfl, rfl, rfl, rfl⟩ : A = 0 ∧ B = false ∧ C = 0 ∧ N = 0 ∧ E = 2 := by
      have h := HAE.out
      unfold atR zdV at h
      rw [if_neg hm] at h
      simp at h
      obtain ⟨⟨h1, h2, h3⟩, h4, h5⟩ := h
      exact ⟨by omega, by first | exact h2.symm | exact h2, by omega, by omega, by omega⟩
    have hfs : fsF m n = (0, 0, 2) := by unfold fsF; rw [if_neg hm]
    rw [hfs] at HFL
    rw [moB_no hm] at HCK
    rw [moB_f hm] at HRM
    clear hfs hm hM HAE
    obtain ⟨l, p, h⟩ := m
    dsimp only at *
    go_enter Tryd.func5, Tryd.ntmps5
    go_wp2_with fail
    refine (HCK.out _).mono ?_
    rintro e w1 ⟨rfl, hb⟩
    have B1 := hide (B0.out.trans (hb.mono B0.out.size))
    have M1 := hide (M0.out.ext hb)
    obtain ⟨z0, c0, c1, c2, f0⟩ := blk3 M1.out
    clear hb
    go_wp2_with fail
    refine (HAT.out _).mono ?_
    rintro e w2 ⟨rfl, hb⟩
    clear z0 c0 c1 c2 f0
    have B2 := hide (B1.out.trans (hb.mono B1.out.size))
    have M2 := hide (M1.out.ext hb)
    obtain ⟨z0, c0, c1, c2, f0⟩ := blk3 M2.out
    clear hb
    go_wp2_with fail
    have KD := hide (Blk.new w2 50 #[.int .i64 0, .bool false, .int .i64 0])
    have hbn : Below w2.heap.size w2 (w2.alloc (.cells #[.int .i64 0, .bool false, .int .i64 0] 50)) := (Below.refl _ _).alloc (Nat.le_refl _) _
    obtain ⟨g, hg⟩ : ∃ g, w2.heap.size = g := ⟨_, rfl⟩
    have B3 := hide (B2.out.trans (hbn.mono B2.out.size))
    have M3 := hide (M2.out.ext hbn)
    rw [hg] at KD ⊢
    clear hg hbn z0 c0 c1 c2 f0
    generalize w2.alloc (.cells #[.int .i64 0, .bool false, .int .i64 0] 50) = w3 at KD B3 M3 ⊢
    refine (HFL.out _).mono ?_
    rintro e w4 ⟨rfl, hb⟩
    have B4 := hide (B3.out.trans (hb.mono B3.out.size))
    have K4 := hide (KD.out.ext hb)
    have M4 := hide (M3.out.ext hb)
    obtain ⟨z0, c0, c1, c2, f0⟩ := blk3 M4.out
    clear hb
    go_wp2_with fail
    refine (HRM.out _).mono ?_
    rintro e w5 ⟨rfl, hb⟩
    clear z0 c0 c1 c2 f0
    have B5 := hide (B4.out.trans (hb.mono B4.out.size))
    obtain ⟨z0, c0, c1, c2, f0⟩ := blk3 (K4.out.ext hb)
    clear hb
    go_wp2_with fail
    refine (HKN.out _ B5.out).mono ?_
    rintro e w6 ⟨rfl, hb⟩
    have B6 := hide (B5.out.trans (hb.mono B5.out.size))
    clear hb
    go_wp2_with fail
    go_ret
    exact ⟨rfl, B6.out⟩
  have HRA := hide (fun (h0 : 0 ≤ d) (h1 : d ≤ 1000000) W => refAt_any m hm d h0 h1 W)
  have HRD := hide (fun k (h0 : 0 ≤ k) (h1 : k ≤ 4000000) W => refDate_any k h0 h1 W)
  have HRF := hide (fun (h0 : 0 ≤ n) (h1 : n ≤ 1000000) W => refFalls_any m hm n h0 (by omega) W)
  have HFS : Hid (fsF m n = if tmB n then ((flF m n).1, (flF m n).2, 0) else (0, 0, 3)) := hide (by unfold fsF; rw [if_pos hm])
  obtain ⟨⟨f1', f2', f3'⟩, hfs⟩ : ∃ r, fsF m n = r := ⟨_, rfl⟩
  rw [hfs] at HFS HFL
  dsimp only at HFL
  rw [moB_yes hm] at HCK
  rw [moB_t hm] at HRM
  replace HAE := hide (by have h := HAE.out; unfold atR at h; rw [if_pos hm] at h; exact h)
  have HCB := hide (cur_bd hm (d := d))
  clear hfs hm hM
  go_enter Tryd.func5, Tryd.ntmps5
  go_wp2_with fail
  refine (HCK.out _).mono ?_
  rintro e w1 ⟨rfl, hb⟩
  have B1 := hide (B0.out.trans (hb.mono B0.out.size))
  have M1 := hide (M0.out.ext hb)
  obtain ⟨z0, c0, c1, c2, f0⟩ := blk3 M1.out
  clear hb
  go_wp2_with fail
  refine (HAT.out _).mono ?_
  rintro e w2 ⟨rfl, hb⟩
  clear z0 c0 c1 c2 f0
  have B2 := hide (B1.out.trans (hb.mono B1.out.size))
  have M2 := hide (M1.out.ext hb)
  obtain ⟨z0, c0, c1, c2, f0⟩ := blk3 M2.out
  clear hb
  go_wp2_with fail
  have KD := Blk.new w2 50 #[.int .i64 A, .bool B, .int .i64 C]
  have hbn : Below w2.heap.size w2 (w2.alloc (.cells #[.int .i64 A, .bool B, .int .i64 C] 50)) := (Below.refl _ _).alloc (Nat.le_refl _) _
  obtain ⟨g, hg⟩ : ∃ g, w2.heap.size = g := ⟨_, rfl⟩
  rw [hg] at KD ⊢
  have I3 : Hid (DyI w (w2.alloc (.cells #[.int .i64 A, .bool B, .int .i64 C] 50)) m g A B C) := hide ⟨B2.out.trans (hbn.mono B2.out.size), M2.out.ext hbn, KD⟩
  clear hg hbn z0 c0 c1 c2 f0 KD B0 B1 B2 M0 M1 M2
  generalize w2.alloc (.cells #[.int .i64 A, .bool B, .int .i64 C] 50) = w3 at I3 ⊢
  refine (HFL.out _).mono ?_
  rintro e w4 ⟨rfl, hb⟩
  have I4 := hide (I3.out.ext hb)
  clear hb
  have z1 := I4.out.m.lt
  have z2 := I4.out.k.lt
  obtain ⟨-, c0, c1, c2, f0⟩ := blk3 I4.out.m
  obtain ⟨-, k0, k1, k2, f1⟩ := blk3 I4.out.k
  go_wp2_with fail
  refine (HRM.out _).mono ?_
  rintro e w5 ⟨rfl, hb⟩
  have I5 := hide (I4.out.ext hb)
  clear hb
  clear z1 z2 c0 c1 c2 f0 k0 k1 k2 f1
  have z1 := I5.out.m.lt
  have z2 := I5.out.k.lt
  obtain ⟨-, c0, c1, c2, f0⟩ := blk3 I5.out.m
  obtain ⟨-, k0, k1, k2, f1⟩ := blk3 I5.out.k
  clear I3 I4 HCK HAT HFL HRM
  have HFN : Hid ((n < 0 ∨ 1000000 < n) → f1' = 0 ∧ f2' = 0 ∧ f3' = 3) := hide (fun h => by
    have h1 := HFS.out
    have h2 : tmB n = false := by rw [← Bool.not_eq_true, tm_iff]; omega
    rw [h2, if_neg Bool.false_ne_true] at h1
    injection h1 with h3 h4
    injection h4 with h4 h5
    exact ⟨h3, h4, h5⟩)
  have HFY : Hid (0 ≤ n → n ≤ 1000000 → f3' = 0 ∧ ∀ W, Calls Tryd.prog 30 #[.agg #[.int .i64 m.ln, .int .i64 m.per, .int .i64 m.ph], .int .i64 n] W fun e w' => e = .returned (.tuple #[.int .i64 f1', .int .i64 f2']) ∧ Below W.heap.size W w') := hide (fun h0 h1 => by
    have h2 := HFS.out
    rw [tm_iff.2 ⟨h0, h1⟩, if_pos rfl] at h2
    injection h2 with h3 h4
    injection h4 with h4 h5
    refine ⟨h5, fun W => ?_⟩
    rw [h3, h4]
    exact HRF.out h0 h1 W)
  have HDN : Hid ((d < 0 ∨ 1000000 < d) → A = 0 ∧ B = false ∧ C = 0 ∧ N = 0 ∧ E = 3) := hide (fun h => by
    have h1 := HAE.out
    have h2 : tmB d = false := by rw [← Bool.not_eq_true, tm_iff]; omega
    rw [h2, if_neg Bool.false_ne_true] at h1
    unfold zdV at h1
    simp at h1
    obtain ⟨⟨h1, h2, h3⟩, h4, h5⟩ := h1
    exact ⟨by omega, by first | exact h2.symm | exact h2, by omega, by omega, by omega⟩)
  have HDZ : Hid (0 ≤ d → d ≤ 1000000 → snF m d < 0 → (A = 0 ∧ B = false ∧ C = 0 ∧ N = 0 ∧ E = 7) ∧ ∀ W, Calls Tryd.prog 28 #[.agg #[.int .i64 m.ln, .int .i64 m.per, .int .i64 m.ph], .int .i64 d] W fun e w' => e = .returned (.int .i64 (-1)) ∧ Below W.heap.size W w') := hide (fun h0 h1 hs => by
    have h2 := HAE.out
    have h3 := HRA.out h0 h1
    rw [tm_iff.2 ⟨h0, h1⟩, if_pos rfl, if_pos hs] at h2
    rw [if_pos hs] at h3
    unfold zdV at h2
    simp at h2
    obtain ⟨⟨h4, h5, h6⟩, h7, h8⟩ := h2
    exact ⟨⟨by omega, by first | exact h5.symm | exact h5, by omega, by omega, by omega⟩, h3⟩)
  have HDC : Hid (0 ≤ d → d ≤ 1000000 → ¬ snF m d < 0 → E = 0 ∧ 0 ≤ N ∧ (∀ W, Calls Tryd.prog 28 #[.agg #[.int .i64 m.ln, .int .i64 m.per, .int .i64 m.ph], .int .i64 d] W fun e w' => e = .returned (.int .i64 N) ∧ Below W.heap.size W w') ∧
      ∀ W, Calls Tryd.prog 29 #[.int .i64 N] W fun e w' => e = .returned (.agg #[.int .i64 A, .bool B, .int .i64 C]) ∧ Below W.heap.size W w') := hide (fun h0 h1 hs => by
    have h2 := HAE.out
    have h3 := HRA.out h0 h1
    have h4 := HCB.out h0 h1 (by omega)
    rw [tm_iff.2 ⟨h0, h1⟩, if_pos rfl, if_neg hs] at h2
    rw [if_neg hs] at h3
    injection h2 with h5 h6
    injection h6 with h6 h7
    rw [h6] at h3 h4 h5
    refine ⟨h7.symm, h4.1, h3, fun W => ?_⟩
    rw [← h5]
    exact HRD.out N h4.1 (by omega) W)
  clear HFS HAE HRA HRD HRF HCB
  rcases (by omega : (d < 0 ∨ 1000000 < d) ∨ 0 ≤ d ∧ d ≤ 1000000) with hd | ⟨hd0, hd1⟩
  · obtain ⟨rfl, rfl, rfl, rfl, rfl⟩ := HDN.out hd
    clear HDN HDZ HDC
    rcases (by omega : (n < 0 ∨ 1000000 < n) ∨ 0 ≤ n ∧ n ≤ 1000000) with hn | ⟨hn0, hn1⟩
    · obtain ⟨rfl, rfl, rfl⟩ := HFN.out hn
      clear HFN HFY
      rcases hd with hd | hd <;> rcases hn with hn | hn
      · go_wp2_with fail
        refine (HKN.out _ I5.out.b).mono ?_
        rintro e w8 ⟨rfl, hb⟩
        have B8 := hide (I5.out.b.trans (hb.mono I5.out.b.size))
        clear hb
        go_wp2_with fail
        go_ret
        exact ⟨rfl, B8.out⟩
      · have hn2 : ¬ n < 0 := by omega
        go_wp2_with fail
        refine (HKN.out _ I5.out.b).mono ?_
        rintro e w8 ⟨rfl, hb⟩
        have B8 := hide (I5.out.b.trans (hb.mono I5.out.b.size))
        clear hb
        go_wp2_with fail
        go_ret
        exact ⟨rfl, B8.out⟩
      · have hd2 : ¬ d < 0 := by omega
        have hd3 : 0 ≤ d := by omega
        have hd4 : ¬ d ≤ 1000000 := by omega
        go_wp2_with fail
        refine (HKN.out _ I5.out.b).mono ?_
        rintro e w8 ⟨rfl, hb⟩
        have B8 := hide (I5.out.b.trans (hb.mono I5.out.b.size))
        clear hb
        go_wp2_with fail
        go_ret
        exact ⟨rfl, B8.out⟩
      · have hn2 : ¬ n < 0 := by omega
        have hd2 : ¬ d < 0 := by omega
        have hd3 : 0 ≤ d := by omega
        have hd4 : ¬ d ≤ 1000000 := by omega
        go_wp2_with fail
        refine (HKN.out _ I5.out.b).mono ?_
        rintro e w8 ⟨rfl, hb⟩
        have B8 := hide (I5.out.b.trans (hb.mono I5.out.b.size))
        clear hb
        go_wp2_with fail
        go_ret
        exact ⟨rfl, B8.out⟩
    · obtain ⟨rfl, HRF⟩ := HFY.out hn0 hn1
      replace HRF := hide HRF
      clear HFN HFY
      have hn2 : ¬ n < 0 := by omega
      have hn3 : ¬ 1000000 < n := by omega
      rcases hd with hd | hd
      · go_wp2_with fail
        refine (HRF.out _).mono ?_
        rintro e w7 ⟨rfl, hb⟩
        have I7 := hide (I5.out.ext hb)
        clear hb
        clear z1 z2 c0 c1 c2 f0 k0 k1 k2 f1
        go_wp2_with fail
        refine (HKN.out _ I7.out.b).mono ?_
        rintro e w8 ⟨rfl, hb⟩
        have B8 := hide (I7.out.b.trans (hb.mono I7.out.b.size))
        clear hb
        go_wp2_with fail
        go_ret
        exact ⟨rfl, B8.out⟩
      · have hd2 : ¬ d < 0 := by omega
        have hd3 : 0 ≤ d := by omega
        have hd4 : ¬ d ≤ 1000000 := by omega
        go_wp2_with fail
        refine (HRF.out _).mono ?_
        rintro e w7 ⟨rfl, hb⟩
        have I7 := hide (I5.out.ext hb)
        clear hb
        clear z1 z2 c0 c1 c2 f0 k0 k1 k2 f1
        go_wp2_with fail
        refine (HKN.out _ I7.out.b).mono ?_
        rintro e w8 ⟨rfl, hb⟩
        have B8 := hide (I7.out.b.trans (hb.mono I7.out.b.size))
        clear hb
        go_wp2_with fail
        go_ret
        exact ⟨rfl, B8.out⟩
  have hd2 : ¬ d < 0 := by omega
  have hd3 : ¬ 1000000 < d := by omega
  by_cases hs : snF m d < 0
  · obtain ⟨⟨rfl, rfl, rfl, rfl, rfl⟩, HRA⟩ := HDZ.out hd0 hd1 hs
    replace HRA := hide HRA
    clear HDN HDZ HDC hs
    go_wp2_with fail
    refine (HRA.out _).mono ?_
    rintro e w6 ⟨rfl, hb⟩
    have I6 := hide (I5.out.ext hb)
    clear hb I5
    clear z1 z2 c0 c1 c2 f0 k0 k1 k2 f1
    have z1 := I6.out.m.lt
    have z2 := I6.out.k.lt
    obtain ⟨-, c0, c1, c2, f0⟩ := blk3 I6.out.m
    obtain ⟨-, k0, k1, k2, f1⟩ := blk3 I6.out.k
    rcases (by omega : (n < 0 ∨ 1000000 < n) ∨ 0 ≤ n ∧ n ≤ 1000000) with hn | ⟨hn0, hn1⟩
    · obtain ⟨rfl, rfl, rfl⟩ := HFN.out hn
      clear HFN HFY
      rcases hn with hn | hn
      · go_wp2_with fail
        refine (HKN.out _ I6.out.b).mono ?_
        rintro e w8 ⟨rfl, hb⟩
        have B8 := hide (I6.out.b.trans (hb.mono I6.out.b.size))
        clear hb
        go_wp2_with fail
        go_ret
        exact ⟨rfl, B8.out⟩
      · have hn2 : ¬ n < 0 := by omega
        go_wp2_with fail
        refine (HKN.out _ I6.out.b).mono ?_
        rintro e w8 ⟨rfl, hb⟩
        have B8 := hide (I6.out.b.trans (hb.mono I6.out.b.size))
        clear hb
        go_wp2_with fail
        go_ret
        exact ⟨rfl, B8.out⟩
    · obtain ⟨rfl, HRF⟩ := HFY.out hn0 hn1
      replace HRF := hide HRF
      clear HFN HFY
      have hn2 : ¬ n < 0 := by omega
      have hn3 : ¬ 1000000 < n := by omega
      go_wp2_with fail
      refine (HRF.out _).mono ?_
      rintro e w7 ⟨rfl, hb⟩
      have I7 := hide (I6.out.ext hb)
      clear hb
      clear z1 z2 c0 c1 c2 f0 k0 k1 k2 f1
      go_wp2_with fail
      refine (HKN.out _ I7.out.b).mono ?_
      rintro e w8 ⟨rfl, hb⟩
      have B8 := hide (I7.out.b.trans (hb.mono I7.out.b.size))
      clear hb
      go_wp2_with fail
      go_ret
      exact ⟨rfl, B8.out⟩
  · obtain ⟨rfl, hN, HRA, HRD⟩ := HDC.out hd0 hd1 hs
    replace HRA := hide HRA
    replace HRD := hide HRD
    clear HDN HDZ HDC hs
    go_wp2_with fail
    refine (HRA.out _).mono ?_
    rintro e w6 ⟨rfl, hb⟩
    have I6 := hide (I5.out.ext hb)
    clear hb I5
    clear z1 z2 c0 c1 c2 f0 k0 k1 k2 f1
    have hN2 : ¬ N < 0 := by omega
    go_upto_region 17 with fail
    have I7 := hide (I6.out.ext (Below.refl w6.heap.size w6).drew)
    refine wp_region_J (fun W : World => W.cell? ⟨g, 0, none⟩ = some (.int .i64 A) ∧ W.cell? ⟨g, 1, none⟩ = some (.bool B) ∧ W.cell? ⟨g, 2, none⟩ = some (.int .i64 C)) (by kernel_rfl) ?_
    generalize w6.drew = wd at I7 ⊢
    have HSK : Hid (∀ W, DyI w W m g A B C → W.cell? ⟨g, 0, none⟩ = some (.int .i64 A) ∧ W.cell? ⟨g, 1, none⟩ = some (.bool B) ∧ W.cell? ⟨g, 2, none⟩ = some (.int .i64 C)) := hide (fun W h => by
      obtain ⟨-, k0, k1, k2, -⟩ := blk3 h.k
      exact ⟨k0, k1, k2⟩)
    refine tk_start [0, 1, 2, 3, 4, 5, 6, 7, 8, 9] ?_
    iterate 10
      refine tk_one (v := ?_) (by first | exact hF | exact wideFn) (HSK.out _ I7.out) rfl (by kernel_rfl) (by kernel_rfl) (by kernel_rfl) (by kernel_rfl) rfl ?_ (by first | exact fun _ _ _ h => h | exact fun _ _ _ h => hQ2 _ _ _ _ _ h) ?_
      rotate_left
      · intro W hSW
        simp only [List.getElem_toArray, List.getElem_cons_zero, List.getElem_cons_succ]
        (try dsimp only at hSW)
        go_simp
        with_reducible rfl
      (try simp only [List.getElem_toArray, List.getElem_cons_zero, List.getElem_cons_succ, Act.put, List.setIfInBounds_toArray, List.set_cons_zero, List.set_cons_succ])
    refine tk_end ?_
    refine wpAnyJ_one 10 rfl (by kernel_rfl) (fun K hK => ?_)
    simp only [List.getElem_toArray, List.getElem_cons_zero, List.getElem_cons_succ]
    go_simp
    refine ⟨trivial, rfl, ?_⟩
    refine (callsIn_wide.2 (HRD.out wd)).mono ?_
    rintro e w7 ⟨rfl, hb⟩
    have I8 := hide (I7.out.ext hb); clear hb
    dsimp only
    refine hK.out _ _ (fun _ => HSK.out _ I8.out) ?_
    clear hK K
    (try simp only [List.getElem_toArray, List.getElem_cons_zero, List.getElem_cons_succ, Act.put, List.setIfInBounds_toArray, List.set_cons_zero, List.set_cons_succ])
    refine tk_start [11, 12, 13] ?_
    iterate 3
      refine tk_one (v := ?_) (by first | exact hF | exact wideFn) (HSK.out _ I8.out) rfl (by kernel_rfl) (by kernel_rfl) (by kernel_rfl) (by kernel_rfl) rfl ?_ (by first | exact fun _ _ _ h => h | exact fun _ _ _ h => hQ2 _ _ _ _ _ h) ?_
      rotate_left
      · intro W hSW
        simp only [List.getElem_toArray, List.getElem_cons_zero, List.getElem_cons_succ]
        (try dsimp only at hSW)
        go_simp
        with_reducible rfl
      (try simp only [List.getElem_toArray, List.getElem_cons_zero, List.getElem_cons_succ, Act.put, List.setIfInBounds_toArray, List.set_cons_zero, List.set_cons_succ])
    refine tk_end ?_
    refine wpAnyJ_done (by kernel_rfl) ?_
    have z1 := I8.out.m.lt
    have z2 := I8.out.k.lt
    obtain ⟨-, c0, c1, c2, f0⟩ := blk3 I8.out.m
    obtain ⟨-, k0, k1, k2, f1⟩ := blk3 I8.out.k
    rcases (by omega : (n < 0 ∨ 1000000 < n) ∨ 0 ≤ n ∧ n ≤ 1000000) with hn | ⟨hn0, hn1⟩
    · obtain ⟨rfl, rfl, rfl⟩ := HFN.out hn
      clear HFN HFY
      rcases hn with hn | hn
      · go_wp2_with fail
        refine (HKN.out _ I8.out.b).mono ?_
        rintro e w8 ⟨rfl, hb⟩
        have B8 := hide (I8.out.b.trans (hb.mono I8.out.b.size))
        clear hb
        go_wp2_with fail
        go_ret
        exact ⟨rfl, B8.out⟩
      · have hn2 : ¬ n < 0 := by omega
        go_wp2_with fail
        refine (HKN.out _ I8.out.b).mono ?_
        rintro e w8 ⟨rfl, hb⟩
        have B8 := hide (I8.out.b.trans (hb.mono I8.out.b.size))
        clear hb
        go_wp2_with fail
        go_ret
        exact ⟨rfl, B8.out⟩
    · obtain ⟨rfl, HRF⟩ := HFY.out hn0 hn1
      replace HRF := hide HRF
      clear HFN HFY
      have hn2 : ¬ n < 0 := by omega
      have hn3 : ¬ 1000000 < n := by omega
      go_wp2_with fail
      refine (HRF.out _).mono ?_
      rintro e w7 ⟨rfl, hb⟩
      have I7 := hide (I8.out.ext hb)
      clear hb
      clear z1 z2 c0 c1 c2 f0 k0 k1 k2 f1
      go_wp2_with fail
      refine (HKN.out _ I7.out.b).mono ?_
      rintro e w8 ⟨rfl, hb⟩
      have B8 := hide (I7.out.b.trans (hb.mono I7.out.b.size))
      clear hb
      go_wp2_with fail
      go_ret
      exact ⟨rfl, B8.out⟩
end Go.Proofs.YtlkkkgpcjdemdaaDoor
namespace Go.Proofs.YtlkkkgpcjdemdaaDoor.songDays
open Go Go.ChangeShapes Go.WideShapes Go.ChangeAt Go.RowKit
set_option maxRecDepth 100000 in
theorem lifted (os : Os) (started : os.Started) (H : Type) (enc : TypeId × Value → H) :
    ReturnsInHanded {} Tryd.checked os 5 .any (fun w args => (Rows.songDaysSpec.pre enc Tryd.prog Tryd.f5 Rows.songDaysRow.domain false w args ∧ laidMetH Tryd.prog Rows.songDaysRow.laid w) ∧ sizedMet enc Tryd.prog Tryd.f5 (OpenSpec.ofChange Rows.songDaysSpec) false w args)
      (Rows.songDaysSpec.post enc Tryd.prog Tryd.f5 false true false false) := by
  refine rih_and_shaped (C := Tryd.checked) (X := fun w _ => laidMetH Tryd.prog Rows.songDaysRow.laid w) (fun _ _ _ hh h => h.of_heap hh) own_knob started (by kernel_rfl) Tryd.func5
    (ChangeSpec.witness_shaped (enc := enc) (C := Tryd.checked) (os := os) (X := fun w _ => laidMetH Tryd.prog Rows.songDaysRow.laid w) false (World.laidAll Tryd.prog os Rows.songDaysRow.laid) #[.agg #[.int .i64 0, .int .i64 0, .int .i64 0], .int .i64 0, .int .i64 0] 8 (World.laidAll_os _ _ _)
      (World.shaped_of_ZipB (by kernel_rfl) (by kernel_rfl)) (by kernel_rfl) (by kernel_rfl) (by kernel_rfl)
      (by rw [MakeChecks.laidMetH_plain _ _ _ (by kernel_rfl)]; exact laidMet_laidAll _ (by kernel_rfl) (by kernel_rfl))) ?_
  intro W base args ds gs before hval0 hW hsh _
  have hval : ∀ (j : Nat) t v, Tryd.f5.params[j]? = some t → args[j]? = some v → Value.okWide Tryd.prog W .any base t v := hval0
  have hW' := hW
  have hlt : ∀ p ∈ before, p.block < W.heap.size := fun p hp => hW.lt p hp
  obtain ⟨p, q, hA0, hV, rfl, hfz, hnd⟩ := hW
  have hA : DataW.TrodAll enc Tryd.prog W 0 (fun _ => true) true Tryd.f5.params.toList args.toList ds p := hA0
  rw [Tryd.params5] at hA hval
  obtain ⟨v0, vs0, d0, ds0, p0, q0, hargs, rfl, rfl, h0, r0⟩ := trodAll_cons hA
  obtain ⟨v1, vs1, d1, ds1, p1, q1, rfl, rfl, rfl, h1, r1⟩ := trodAll_cons r0
  obtain ⟨v2, vs2, d2, ds2, p2, q2, rfl, rfl, rfl, h2, r2⟩ := trodAll_cons r1
  obtain ⟨rfl, rfl, rfl⟩ := trodAll_nil r2
  obtain rfl : args = #[v0, v1, v2] := by cases args; simp_all
  obtain ⟨rfl, rfl⟩ := trodVars_none hV
  have k0 := hval 0 47 v0 rfl rfl
  have k1 := hval 1 3 v1 rfl rfl
  have k2 := hval 2 3 v2 rfl rfl
  obtain ⟨a0, b0, c0, rfl⟩ := open_moon k0 h0
  obtain ⟨a1, rfl, -, -⟩ := open_intS k1 h1
  obtain ⟨a2, rfl, -, -⟩ := open_intS k2 h2
  have hM := ml_shaped hsh
  clear hA0 hval0
  refine (days_any ⟨a0, b0, c0⟩ a1 a2 W hM).mono fun e W' ⟨he, hb⟩ => ?_
  subst he
  exact ⟨_, rfl, law_post hW' hb rfl rfl (by kernel_rfl) ⟨rfl, rfl, rfl⟩⟩
theorem over : Rows.songDaysRow.holds Tryd.pinned (OpenSpec.ofChange Rows.songDaysSpec) :=
  OpenClaim.holds_of_wide 5 Tryd.f5 rfl rfl rfl rfl rfl rfl rfl ⟨rfl, rfl, rfl, rfl, rfl⟩ rfl rfl rfl rfl rfl (by kernel_rfl) Tryd.func5 (by kernel_rfl)
    (of_decide_eq_true (by kernel_rfl)) (by unfold Func.isWrapper; first | (rw [if_pos (by decide +kernel)]; kernel_rfl) | (rw [if_neg (by decide +kernel)]; exact ⟨rfl, rfl⟩))
    (fun os started H enc _ => lifted os started H enc)
theorem proved : Rows.SongDaysCardSaid :=
  Claim7.holds_tied_plain_at .later [] [.data, .pinned] true (true, "9c6a2fb55d1ffce8605a7bddf74f81652897d337daff0ed6fd4b428e7e7989a8") false over (fun _ h => by cases h) (by kernel_rfl) (fun _ h => by cases h) songDays_row_tie rfl ⟨rfl, rfl⟩ (by kernel_rfl) rfl
    (fun f fn hf hfn => by
      obtain rfl : f = 5 := Option.some.inj ((show Tryd.prog.funcNamed "chiti/chitilaw10.SongDays" = some 5 by kernel_rfl).symm.trans hf) |>.symm
      obtain rfl : fn = Tryd.f5 := (Option.some.inj (Tryd.func5.symm.trans hfn)).symm
      exact ⟨by kernel_rfl, fun j t ht => by
        rw [Tryd.params5] at ht
        have hm : t ∈ ([47, 3] : List TypeId) := by simpa using Array.mem_of_getElem? ht
        have hall : (([47, 3] : List TypeId).all fun u => !Tryd.prog.wantsStandIn u) = true := by kernel_rfl
        exact (show Tryd.prog.wantsStandIn t = false by simpa using List.all_eq_true.1 hall t hm)⟩)
    (by kernel_rfl)
#print axioms proved
end Go.Proofs.YtlkkkgpcjdemdaaDoor.songDays
