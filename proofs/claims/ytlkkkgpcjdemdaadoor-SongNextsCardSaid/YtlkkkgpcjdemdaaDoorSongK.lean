/- Song: the law SongNexts: the row and the tied card. -/
import Derived.Test.YtlkkkgpcjdemdaaDoorSongJ
import Derived.Test.YtlkkkgpcjdemdaaDoorCards
import Derived.Test.YtlkkkgpcjdemdaaDoorTie
import Derived.LaidMore
import Derived.Lay
import Derived.SevenTiedAt
import Derived.Stop.Joined
set_option linter.unusedSimpArgs false
set_option linter.unusedVariables false
set_option linter.unnecessarySimpa false
/- Song: the law of next lunar days, walked. -/
namespace Go.Proofs.YtlkkkgpcjdemdaaDoor
open Go Go.RowKit Go.Shelf
set_option maxHeartbeats 8000000
set_option maxRecDepth 100000
structure NiI (w W : World) (g : Nat) (m : Mo) (f t d : Int) (dk : Bool) (n : Int) : Prop where
  b : Below w.heap.size w W
  m : Blk W g 47 #[.int .i64 m.ln, .int .i64 m.per, .int .i64 m.ph]
  x : Blk W (g + 1) 75 #[.int .i64 f, .int .i64 t, .int .i64 d, .bool dk, .int .i64 n]
theorem NiI.ext {w W W' : World} {g : Nat} {m : Mo} {f t d : Int} {dk : Bool} {n : Int} (h : NiI w W g m f t d dk n) (hb : Below W.heap.size W W') : NiI w W' g m f t d dk n := ⟨h.b.trans (hb.mono h.b.size), h.m.ext hb, h.x.ext hb⟩
theorem NiI.cs {w W : World} {g : Nat} {m : Mo} {f t d : Int} {dk : Bool} {n : Int} (h : NiI w W g m f t d dk n) :
    (g < W.heap.size ∧ g + 1 < W.heap.size) ∧ (W.cell? ⟨g, 0, none⟩ = some (.int .i64 m.ln) ∧ W.cell? ⟨g, 1, none⟩ = some (.int .i64 m.per) ∧ W.cell? ⟨g, 2, none⟩ = some (.int .i64 m.ph)) ∧
    W.cell? ⟨g + 1, 0, none⟩ = some (.int .i64 f) ∧ W.cell? ⟨g + 1, 1, none⟩ = some (.int .i64 t) ∧ W.cell? ⟨g + 1, 2, none⟩ = some (.int .i64 d) ∧ W.cell? ⟨g + 1, 3, none⟩ = some (.bool dk) ∧ W.cell? ⟨g + 1, 4, none⟩ = some (.int .i64 n) :=
  ⟨⟨h.m.lt, h.x.lt⟩, ⟨h.m.cell 0, h.m.cell 1, h.m.cell 2⟩, h.x.cell 0, h.x.cell 1, h.x.cell 2, h.x.cell 3, h.x.cell 4⟩
theorem nexts_any (m : Mo) (f t d : Int) (dk : Bool) (n : Int) (w : World) (hM : ML w) :
    Calls Tryd.prog 8 #[.agg #[.int .i64 m.ln, .int .i64 m.per, .int .i64 m.ph], .agg #[.int .i64 f, .int .i64 t, .int .i64 d, .bool dk, .int .i64 n]] w fun e w' => e = .returned (.bool true) ∧ Below w.heap.size w w' := by
  have HKN := hide (fun W (h : Below w.heap.size w W) => sknown_any W (hM.ext h))
  have HNX := hide (fun W => Next_any m d dk n W)
  have HOD := hide (fun W => Odd_any m f t W)
  have HRM := hide (fun W => refMoon_any m W)
  clear hM
  have hb1 : Below w.heap.size w ((w.alloc (.cells #[.int .i64 m.ln, .int .i64 m.per, .int .i64 m.ph] 47)).alloc (.cells #[.int .i64 f, .int .i64 t, .int .i64 d, .bool dk, .int .i64 n] 75)) := ((Below.refl _ _).alloc (Nat.le_refl _) _).alloc (by simp) _
  obtain ⟨g, hg⟩ : ∃ g, w.heap.size = g := ⟨_, rfl⟩
  have I1 : Hid (NiI w ((w.alloc (.cells #[.int .i64 m.ln, .int .i64 m.per, .int .i64 m.ph] 47)).alloc (.cells #[.int .i64 f, .int .i64 t, .int .i64 d, .bool dk, .int .i64 n] 75)) g m f t d dk n) := hide (by
    have h1 := Blk.new w 47 #[.int .i64 m.ln, .int .i64 m.per, .int .i64 m.ph]
    have h2 := Blk.new (w.alloc (.cells #[.int .i64 m.ln, .int .i64 m.per, .int .i64 m.ph] 47)) 75 #[.int .i64 f, .int .i64 t, .int .i64 d, .bool dk, .int .i64 n]
    rw [World.size_alloc] at h2
    rw [hg] at h1 h2
    exact ⟨hb1, h1.alloc _, h2⟩)
  clear hb1
  unfold OdPost at HOD
  go_enter Tryd.func8, Tryd.ntmps8
  go_wp2_with fail
  (try simp only [World.size_alloc])
  (try rw [hg])
  clear hg
  generalize ((w.alloc (.cells #[.int .i64 m.ln, .int .i64 m.per, .int .i64 m.ph] 47)).alloc (.cells #[.int .i64 f, .int .i64 t, .int .i64 d, .bool dk, .int .i64 n] 75)) = w1 at I1 ⊢
  (with_reducible refine (HNX.out _).mono ?_)
  rintro e w2 ⟨rfl, hb⟩
  have I2 := hide (I1.out.ext hb)
  clear hb I1
  obtain ⟨⟨z0, z1⟩, ⟨c0, c1, c2⟩, d0, d1, d2, d3, d4⟩ := I2.out.cs
  go_wp2_with fail
  (with_reducible refine (HOD.out _).mono ?_)
  rintro e w3 ⟨v1, v2, rfl, o1, o2, hb⟩
  have I3 := hide (I2.out.ext hb)
  obtain ⟨A1, k1, rfl⟩ := own_shape o1
  obtain ⟨A2, k2, rfl⟩ := own_shape o2
  have L1 := hide (own_li o1)
  have L2 := hide (own_li o2)
  clear hb I2 o1 o2
  clear z0 z1 c0 c1 c2 d0 d1 d2 d3 d4
  obtain ⟨⟨z0, z1⟩, ⟨c0, c1, c2⟩, d0, d1, d2, d3, d4⟩ := I3.out.cs
  go_wp2_with fail
  (with_reducible refine (HRM.out _).mono ?_)
  rintro e w4 ⟨rfl, hb⟩
  have I4 := hide (I3.out.ext hb)
  replace L1 := hide ((L1.out.ext hb))
  replace L2 := hide ((L2.out.ext hb))
  clear hb I3
  clear z0 z1 c0 c1 c2 d0 d1 d2 d3 d4
  obtain ⟨⟨z0, z1⟩, ⟨c0, c1, c2⟩, d0, d1, d2, d3, d4⟩ := I4.out.cs
  by_cases hm : m.ok
  rotate_left
  · as_aux_lemma =>
    have e1 : nxR m d dk n = (0, 2) := by unfold nxR; rw [if_neg hm]
    have e2 : odR m f t = ([], [], 2) := by unfold odR; rw [if_neg hm]
    rw [moB_f hm, e1, e2]
    clear e1 e2 HNX HOD HRM L1 L2 hm
    dsimp only [List.length_nil]
    go_wp2_with fail
    refine (HKN.out _ I4.out.b).mono ?_
    rintro e w20 ⟨rfl, hb⟩
    have B20 := hide (I4.out.b.trans (hb.mono I4.out.b.size))
    clear hb
    go_wp2_with fail
    go_ret
    exact ⟨rfl, B20.out⟩
  rw [moB_t hm]
  have HRF := hide (fun x (k0 : 0 ≤ x) (k1 : x ≤ 3000000) W => refFalls_any m hm x k0 k1 W)
  have HNR : Hid (nxR m d dk n = if tmB d = true ∧ 1 ≤ n ∧ n ≤ 15 then nxO m d (dyL (nxS m d dk n) 1000000 30) else (0, 3)) := hide (by unfold nxR; rw [if_pos hm])
  have HODR : Hid (odR m f t = if tmB f = true ∧ tmB t = true ∧ f ≤ t ∧ t - f ≤ 1000 then (hwL m 3 (dyL f t 1), hwL m 2 (dyL f t 1), 0) else ([], [], 3)) := hide (by unfold odR; rw [if_pos hm]; rfl)
  have HREF := hide (fun (h1 : 1 ≤ n) => nx_ref hm (d := d) (dark := dk) (num := n) h1)
  obtain ⟨⟨r1, r2⟩, hR⟩ : ∃ r, nxR m d dk n = r := ⟨_, rfl⟩
  obtain ⟨⟨U1, U2, E⟩, hO⟩ : ∃ r, odR m f t = r := ⟨_, rfl⟩
  rw [hR] at HNR ⊢
  rw [hO] at HODR L1 L2 ⊢
  dsimp only at L1 L2 ⊢
  clear hR hO hm HNX HOD HRM
  obtain ⟨bad, hbad⟩ : ∃ b : Bool, b = true ↔ (d < 0 ∨ 1000000 < d ∨ n < 1 ∨ 15 < n) := ⟨decide (d < 0 ∨ 1000000 < d ∨ n < 1 ∨ 15 < n), by rw [decide_eq_true_iff]⟩
  have HBAD := hide hbad
  clear hbad
  go_upto_region 5 with fail
  go_cut [82] (fun v w' => v = .bool bad ∧ w' = w4)
  case first =>
    as_aux_lemma =>
    clear HKN HRF HNR HODR HREF L1 L2 I4
    cases bad with
    | true =>
      rcases (by have := HBAD.out.1 rfl; omega : d < 0 ∨ (¬ d < 0 ∧ 1000000 < d) ∨ (¬ d < 0 ∧ ¬ 1000000 < d ∧ n < 1) ∨ (¬ d < 0 ∧ ¬ 1000000 < d ∧ ¬ n < 1 ∧ 15 < n)) with h0 | ⟨h0, h1⟩ | ⟨h0, h1, h2⟩ | ⟨h0, h1, h2, h3⟩
      · clear HBAD
        go_wp2_with fail
        go_meet
        exact ⟨rfl, rfl⟩
      · clear HBAD
        go_wp2_with fail
        go_meet
        exact ⟨rfl, rfl⟩
      · clear HBAD
        go_wp2_with fail
        go_meet
        exact ⟨rfl, rfl⟩
      · clear HBAD
        go_wp2_with fail
        go_meet
        exact ⟨rfl, rfl⟩
    | false =>
      have h : ¬ (d < 0 ∨ 1000000 < d ∨ n < 1 ∨ 15 < n) := fun h => by have := HBAD.out.2 h; cases this
      obtain ⟨h0, h1, h2, h3⟩ : ¬ d < 0 ∧ ¬ 1000000 < d ∧ ¬ n < 1 ∧ ¬ 15 < n := by omega
      clear h
      go_wp2_with fail
      go_meet
      exact ⟨rfl, rfl⟩
  obtain ⟨rfl, hw⟩ := hcut
  have hw := hw.symm
  subst hw
  cases bad with
  | true =>
    as_aux_lemma =>
    have hb := HBAD.out.1 rfl
    obtain ⟨rfl, rfl⟩ : r1 = 0 ∧ r2 = 3 := by
      have h := HNR.out
      rw [if_neg (fun h => by have := tm_iff.1 h.1; omega)] at h
      injection h with h1 h2
      exact ⟨h1, h2⟩
    clear hb HNR HREF HBAD
    clear z0 z1 c0 c1 c2 d0 d1 d2 d3 d4
    obtain ⟨wp, rfl⟩ : ∃ x, x = w4 := ⟨w4, rfl⟩
    have I6 := I4
    have L16 := L1
    have L26 := L2
    clear I4 L1 L2
    obtain ⟨bad2, hbad2⟩ : ∃ b : Bool, b = true ↔ (f < 0 ∨ 1000000 < t ∨ t < f ∨ 1000 < t - f) := ⟨decide (f < 0 ∨ 1000000 < t ∨ t < f ∨ 1000 < t - f), by rw [decide_eq_true_iff]⟩
    have HBA := hide hbad2
    clear hbad2
    obtain ⟨⟨z0, z1⟩, ⟨c0, c1, c2⟩, d0, d1, d2, d3, d4⟩ := I6.out.cs
    go_upto_region 18 with fail
    go_cut [159] (fun v w' => v = .bool bad2 ∧ w' = wp)
    case first =>
      as_aux_lemma =>
      clear HKN HRF HODR L16 L26 I6
      cases bad2 with
      | true =>
        rcases (by have := HBA.out.1 rfl; omega : f < 0 ∨ (¬ f < 0 ∧ 1000000 < t) ∨ (¬ f < 0 ∧ ¬ 1000000 < t ∧ t < f) ∨ (¬ f < 0 ∧ ¬ 1000000 < t ∧ ¬ t < f ∧ 1000 < t - f)) with h0 | ⟨h0, h1⟩ | ⟨h0, h1, h2⟩ | ⟨h0, h1, h2, h3⟩
        · clear HBA
          go_wp2_with fail
          go_meet
          exact ⟨rfl, rfl⟩
        · clear HBA
          go_wp2_with fail
          go_meet
          exact ⟨rfl, rfl⟩
        · clear HBA
          go_wp2_with fail
          go_meet
          exact ⟨rfl, rfl⟩
        · clear HBA
          go_wp2_with fail
          go_meet
          exact ⟨rfl, rfl⟩
      | false =>
        have h : ¬ (f < 0 ∨ 1000000 < t ∨ t < f ∨ 1000 < t - f) := fun h => by have := HBA.out.2 h; cases this
        obtain ⟨h0, h1, h2, h3⟩ : ¬ f < 0 ∧ ¬ 1000000 < t ∧ ¬ t < f ∧ ¬ 1000 < t - f := by omega
        clear h HBA
        go_wp2_with fail
        go_meet
        exact ⟨rfl, rfl⟩
    obtain ⟨rfl, hw⟩ := hcut
    have hw := hw.symm
    subst hw
    cases bad2 with
    | true =>
      as_aux_lemma =>
      have hb := HBA.out.1 rfl
      obtain ⟨rfl, rfl, rfl⟩ : U1 = [] ∧ U2 = [] ∧ E = 3 := by
        have h := HODR.out
        rw [if_neg (fun h => by have h1 := tm_iff.1 h.1; have h2 := tm_iff.1 h.2.1; omega)] at h
        injection h with h1 h2
        injection h2 with h2 h3
        exact ⟨h1, h2, h3⟩
      clear hb HODR HBA L16 L26
      dsimp only [List.length_nil]
      go_wp2_with fail
      refine (HKN.out _ I6.out.b).mono ?_
      rintro e w20 ⟨rfl, hb⟩
      have B20 := hide (I6.out.b.trans (hb.mono I6.out.b.size))
      clear hb
      go_wp2_with fail
      go_ret
      exact ⟨rfl, B20.out⟩
    | false =>
      as_aux_lemma =>
      have h : ¬ (f < 0 ∨ 1000000 < t ∨ t < f ∨ 1000 < t - f) := fun h => by have := HBA.out.2 h; cases this
      obtain ⟨hf0, ht1, hft, hft2⟩ : 0 ≤ f ∧ t ≤ 1000000 ∧ f ≤ t ∧ t - f ≤ 1000 := by omega
      obtain ⟨rfl, rfl, rfl⟩ : U1 = hwL m 3 (dyL f t 1) ∧ U2 = hwL m 2 (dyL f t 1) ∧ E = 0 := by
        have h := HODR.out
        rw [if_pos ⟨tm_iff.2 ⟨hf0, by omega⟩, tm_iff.2 ⟨by omega, ht1⟩, hft, hft2⟩] at h
        injection h with h1 h2
        injection h2 with h2 h3
        exact ⟨h1, h2, h3⟩
      have hz3 := hwL_len m 3 (dyL f t 1)
      have hz2 := hwL_len m 2 (dyL f t 1)
      have hzz := dyL_len f t hft2
      have hdl : dyL f t 1 = dyP f 1 (t - f + 1).toNat := by unfold dyL dyN; rw [Int.ediv_one]
      obtain ⟨U1, hU1⟩ : ∃ U, hwL m 3 (dyL f t 1) = U := ⟨_, rfl⟩
      obtain ⟨U2, hU2⟩ : ∃ U, hwL m 2 (dyL f t 1) = U := ⟨_, rfl⟩
      rw [hU1] at L16 hz3 ⊢
      rw [hU2] at L26 hz2 ⊢
      rw [hdl] at hU1 hU2
      have HU1 := hide hU1
      have HU2 := hide hU2
      have hlu1 : U1.length ≤ 1001 := by omega
      have hlu2 : U2.length ≤ 1001 := by omega
      clear h hdl hz3 hz2 hzz hU1 hU2 HODR HBA
      go_wp2_with fail
      clear z0 z1 c0 c1 c2 d0 d1 d2 d3 d4
      have T0 : Hid (TwL wp ((wp.alloc (.cells #[] 3)).alloc (.cells #[] 3)) (.slice (some ⟨wp.heap.size, 0, none⟩) 0 0) (.slice (some ⟨wp.heap.size + 1, 0, none⟩) 0 0) (hwL m 3 (dyP f 1 0)) (hwL m 2 (dyP f 1 0))) := hide (by
        have h1 := OwnJ.made0 wp
        have h2 := OwnJ.made0 (wp.alloc (.cells #[] 3))
        rw [World.size_alloc] at h2
        exact ⟨((Below.refl _ _).alloc (Nat.le_refl _) _).alloc (by simp) _, h1.ext ((Below.refl _ _).alloc (Nat.le_refl _) _), h2.lowS (by omega), fun b e e2 => by
          simp [Value.ownBlock] at e e2
          omega⟩)
      generalize (wp.alloc (.cells #[] 3)).alloc (.cells #[] 3) = wq at T0 ⊢
      go_loopw [14, 15, 16] (fun x y z wr => ∃ (k : Nat), z = .int .i64 (f + (k : Int)) ∧ f + (k : Int) ≤ t + 1 ∧ Hid (TwL wp wr x y (hwL m 3 (dyP f 1 k)) (hwL m 2 (dyP f 1 k)))) (fun _ _ z _ => (t + 1 - intOf z).toNat)
      case atStart => exact ⟨0, by simp, by omega, T0⟩
      case round =>
        obtain ⟨k, rfl, hk, HT⟩ := hrel
        clear T0
        have Ir := hide (I6.out.ext HT.out.b)
        obtain ⟨⟨z0, z1⟩, ⟨c0, c1, c2⟩, d0, d1, d2, d3, d4⟩ := Ir.out.cs
        have hln := dyP_len f 1 k
        have hl3 := hwL_len m 3 (dyP f 1 k)
        have hl2 := hwL_len m 2 (dyP f 1 k)
        by_cases hle : f + (k : Int) ≤ t
        · as_aux_lemma =>
          have hsu := dyP_succ f 1 k
          rw [Int.one_mul] at hsu
          have h3y := fun e => hwL_yes (m := m) (h := 3) (x := f + (k : Int)) (l := dyP f 1 k) e
          have h3n := fun e => hwL_no (m := m) (h := 3) (x := f + (k : Int)) (l := dyP f 1 k) e
          have h2y := fun e => hwL_yes (m := m) (h := 2) (x := f + (k : Int)) (l := dyP f 1 k) e
          have h2n := fun e => hwL_no (m := m) (h := 2) (x := f + (k : Int)) (l := dyP f 1 k) e
          rw [← hsu] at h3y h3n h2y h2n
          have HF1 := hide (HRF.out (f + (k : Int)) (by omega) (by omega))
          obtain ⟨fd, hfd⟩ : ∃ x, (flF m (f + (k : Int))).1 = x := ⟨_, rfl⟩
          obtain ⟨fh, hfh⟩ : ∃ x, (flF m (f + (k : Int))).2 = x := ⟨_, rfl⟩
          rw [hfd, hfh] at HF1
          rw [hfh] at h3y h3n h2y h2n
          obtain ⟨l3, h3l⟩ : ∃ x, hwL m 3 (dyP f 1 k) = x := ⟨_, rfl⟩
          obtain ⟨l2, h2l⟩ : ∃ x, hwL m 2 (dyP f 1 k) = x := ⟨_, rfl⟩
          rw [h3l] at h3y h3n HT hl3
          rw [h2l] at h2y h2n HT hl2
          obtain ⟨x, hx⟩ : ∃ x, f + (k : Int) = x := ⟨_, rfl⟩
          have hk2 : k ≤ 1001 := by omega
          rw [hln] at hl3 hl2
          rw [hx] at HF1 hle hk h3y h2y ⊢
          have HX := hide hx
          have hx0 : 0 ≤ x := by omega
          clear hx hfd hfh HRF h3l h2l hsu
          go_wp2_with fail
          (with_reducible refine (HF1.out _).mono ?_)
          rintro e w8 ⟨rfl, hb⟩
          have HT8 := hide (HT.out.ext hb)
          have Ir8 := hide (Ir.out.ext hb)
          clear hb HT Ir
          clear z0 z1 c0 c1 c2 d0 d1 d2 d3 d4
          obtain ⟨⟨z0, z1⟩, ⟨c0, c1, c2⟩, d0, d1, d2, d3, d4⟩ := Ir8.out.cs
          by_cases h3 : fh = 3
          · have hq : (fh == 3) = true := by rw [h3]; rfl
            obtain ⟨v', w', hr, hT'⟩ := HT8.out.push x (by omega)
            have HRUN := hide hr
            have HT9 := hide hT'
            rw [← h3y h3, ← h2n (by omega)] at HT9
            clear hr hT' h3y h3n h2y h2n HT8 h3
            go_wp2_with (at_builtin; refine wpList_append_run rfl (.tmp 192) (.tmp 194) 26 rfl rfl rfl HRUN.out ?_)
            go_roundw
            case rel => exact ⟨k + 1, congrArg (Value.int .i64) (by have := HX.out; omega), by have := HX.out; omega, HT9⟩
            case measure => simp [intOf]; omega
          · have hq : (fh == 3) = false := by rw [beq_eq_false_iff_ne]; exact h3
            by_cases h2 : fh = 2
            · have hq2 : (fh == 2) = true := by rw [h2]; rfl
              obtain ⟨v', w', hr, hT'⟩ := HT8.out.swap.push x (by omega)
              have HRUN := hide hr
              have HT9 := hide hT'.swap
              rw [← h2y h2, ← h3n h3] at HT9
              clear hr hT' h3y h3n h2y h2n HT8 h3 h2
              go_wp2_with (at_builtin; refine wpList_append_run rfl (.tmp 198) (.tmp 200) 26 rfl rfl rfl HRUN.out ?_)
              go_roundw
              case rel => exact ⟨k + 1, congrArg (Value.int .i64) (by have := HX.out; omega), by have := HX.out; omega, HT9⟩
              case measure => simp [intOf]; omega
            · have hq2 : (fh == 2) = false := by rw [beq_eq_false_iff_ne]; exact h2
              have HT9 := HT8
              rw [← h2n h2, ← h3n h3] at HT9
              clear h3y h3n h2y h2n HT8 h3 h2
              go_wp2_with fail
              go_roundw
              case rel => exact ⟨k + 1, congrArg (Value.int .i64) (by have := HX.out; omega), by have := HX.out; omega, HT9⟩
              case measure => simp [intOf]; omega
        · as_aux_lemma =>
          obtain rfl : k = (t - f + 1).toNat := by omega
          rw [HU1.out, HU2.out] at HT
          obtain ⟨B1, e1, hv1⟩ := own_shape HT.out.o1
          obtain ⟨B2, e2, hv2⟩ := own_shape HT.out.o2
          subst hv1 hv2
          have L17 := hide (L16.out.ext HT.out.b)
          have L27 := hide (L26.out.ext HT.out.b)
          have HS1 := hide (lsame_any A1 B1 k1 e1 U1 U1 wr (by unfold maxLen; omega) (by unfold maxLen; omega) L17.out.r (own_li HT.out.o1).r)
          rw [decide_eq_true rfl] at HS1
          have O2 := hide (own_li HT.out.o2)
          clear hl3 hl2 hln HU1 HU2 HRF HT L16 L26
          go_wp2_with fail
          (with_reducible refine HS1.out.mono ?_)
          rintro e w9 ⟨rfl, hb⟩
          have Ir9 := hide (Ir.out.ext hb)
          have HS2 := hide (lsame_any A2 B2 k2 e2 U2 U2 w9 (by unfold maxLen; omega) (by unfold maxLen; omega) (L27.out.ext hb).r (O2.out.ext hb).r)
          rw [decide_eq_true rfl] at HS2
          clear hb HS1 O2 L17 L27 Ir
          clear z0 z1 c0 c1 c2 d0 d1 d2 d3 d4
          go_wp2_with fail
          (with_reducible refine HS2.out.mono ?_)
          rintro e w10 ⟨rfl, hb⟩
          have Ir10 := hide (Ir9.out.ext hb)
          clear hb Ir9 HS2
          go_wp2_with fail
          refine (HKN.out _ Ir10.out.b).mono ?_
          rintro e w20 ⟨rfl, hb⟩
          have B20 := hide (Ir10.out.b.trans (hb.mono Ir10.out.b.size))
          clear hb
          go_wp2_with fail
          go_ret
          exact ⟨rfl, B20.out⟩
  | false =>
    as_aux_lemma =>
    have h : ¬ (d < 0 ∨ 1000000 < d ∨ n < 1 ∨ 15 < n) := fun h => by have := HBAD.out.2 h; cases this
    obtain ⟨hd0, hd1, hn1, hn2⟩ : 0 ≤ d ∧ d ≤ 1000000 ∧ 1 ≤ n ∧ n ≤ 15 := by omega
    have hnr := HNR.out
    rw [if_pos ⟨tm_iff.2 ⟨hd0, hd1⟩, hn1, hn2⟩] at hnr
    have href : nxO m d (dyL (nxB dk n) 1000000 30) = (r1, r2) := by
      rcases HREF.out hn1 with h1 | h1
      · rw [← h1, ← hnr]
      · omega
    have HR2 := hide href
    have hbB : 0 ≤ nxB dk n ∧ nxB dk n ≤ 29 := by unfold nxB; split <;> omega
    obtain ⟨b0, hb0⟩ : ∃ b, nxB dk n = b := ⟨_, rfl⟩
    have hbe : b0 = if dk then n - 1 + 15 else n - 1 := by rw [← hb0]; rfl
    rw [hb0] at HR2 hbB
    clear h hnr href hb0 HNR HREF HBAD
    cases dk with
    | true =>
      rw [if_pos rfl] at hbe
      subst hbe
      go_upto_block 0 with fail
      go_cut [11, 12] (fun x y w' => ∃ (want : Int) (found : Bool), x = .int .i64 want ∧ y = .bool found ∧ Hid (if found then r1 = want ∧ r2 = 0 else r1 = 0 ∧ r2 = 7) ∧ Hid (NiI w w' g m f t d true n) ∧ Hid (LiR w' A1 U1) ∧ Hid (LiR w' A2 U2))
      case first =>
        as_aux_lemma =>
        clear HODR HKN
        clear z0 z1 c0 c1 c2 d0 d1 d2 d3 d4
        go_wp2_with fail
        go_loopw [11, 12, 13] (fun x y z wr => ∃ (j : Nat) (want : Int) (found : Bool), x = .int .i64 want ∧ y = .bool found ∧ z = .int .i64 (n - 1 + 15 + 30 * (j : Int)) ∧ n - 1 + 15 + 30 * (j : Int) ≤ 1000030 ∧ Hid (RfI m d (n - 1 + 15) j want found) ∧ Hid (NiI w wr g m f t d true n) ∧ Hid (LiR wr A1 U1) ∧ Hid (LiR wr A2 U2)) (fun _ _ z _ => (1000031 - intOf z).toNat)
        case atStart => exact ⟨0, 0, false, rfl, rfl, by simp, by omega, hide (RfI.zero _ _ _), I4, L1, L2⟩
        case round =>
          obtain ⟨j, want, found, rfl, rfl, rfl, hj, HRI, Ir, L1r, L2r⟩ := hrel
          clear I4 L1 L2
          obtain ⟨⟨z0, z1⟩, ⟨c0, c1, c2⟩, d0, d1, d2, d3, d4⟩ := Ir.out.cs
          by_cases hle : n - 1 + 15 + 30 * (j : Int) ≤ 1000000
          · cases found with
            | true =>
              have h := HRI.out.yes
              rw [HR2.out] at h
              injection h with h1 h2
              subst h1 h2
              go_wp2_with fail
              go_meet
              exact ⟨_, true, rfl, rfl, (by refine hide ?_; first | exact ⟨rfl, rfl⟩ | trivial | simp), Ir, L1r, L2r⟩
            | false =>
              have HF1 := hide (HRF.out (n - 1 + 15 + 30 * (j : Int)) (by omega) (by omega))
              have HS1 := hide (HRI.out.step hle)
              obtain ⟨fd, hfd⟩ : ∃ x, (flF m (n - 1 + 15 + 30 * (j : Int))).1 = x := ⟨_, rfl⟩
              obtain ⟨fh, hfh⟩ : ∃ x, (flF m (n - 1 + 15 + 30 * (j : Int))).2 = x := ⟨_, rfl⟩
              rw [hfd, hfh] at HF1
              rw [hfd] at HS1
              obtain ⟨x, hx⟩ : ∃ x, n - 1 + 15 + 30 * (j : Int) = x := ⟨_, rfl⟩
              rw [hx] at HF1 hle hj ⊢
              have HX := hide hx
              have hx0 : 0 ≤ x := by omega
              clear hx hfd hfh HRF HRI HR2
              go_wp2_with fail
              (with_reducible refine (HF1.out _).mono ?_)
              rintro e w8 ⟨rfl, hb⟩
              have I8 := hide (Ir.out.ext hb)
              have L18 := hide (L1r.out.ext hb)
              have L28 := hide (L2r.out.ext hb)
              clear hb Ir L1r L2r
              clear z0 z1 c0 c1 c2 d0 d1 d2 d3 d4
              obtain ⟨⟨z0, z1⟩, ⟨c0, c1, c2⟩, d0, d1, d2, d3, d4⟩ := I8.out.cs
              go_wp2_with fail
              go_roundw
              case rel => exact ⟨j + 1, fd, decide (d ≤ fd), rfl, rfl, congrArg (Value.int .i64) (by have := HX.out; omega), by have := HX.out; omega, HS1, I8, L18, L28⟩
              case measure => simp [intOf]; omega
          · cases found with
            | true =>
              have h := HRI.out.yes
              rw [HR2.out] at h
              injection h with h1 h2
              subst h1 h2
              go_wp2_with fail
              go_meet
              exact ⟨_, true, rfl, rfl, (by refine hide ?_; first | exact ⟨rfl, rfl⟩ | trivial | simp), Ir, L1r, L2r⟩
            | false =>
              have h := HRI.out.no (by omega)
              rw [HR2.out] at h
              injection h with h1 h2
              subst h1 h2
              go_wp2_with fail
              go_meet
              exact ⟨_, false, rfl, rfl, (by refine hide ?_; first | exact ⟨rfl, rfl⟩ | trivial | simp), Ir, L1r, L2r⟩
      obtain ⟨want, found, rfl, rfl, HW, I5, L15, L25⟩ := hcut
      clear I4 L1 L2 HR2 hbB hd0 hd1 hn1 hn2
      clear z0 z1 c0 c1 c2 d0 d1 d2 d3 d4
      obtain ⟨wp, rfl⟩ : ∃ x, x = wc := ⟨wc, rfl⟩
      have I6 := I5
      have L16 := L15
      have L26 := L25
      clear I5 L15 L25
      cases found with
      | true =>
        obtain ⟨rfl, rfl⟩ := HW.out
        as_aux_lemma =>
        clear HW
        obtain ⟨bad2, hbad2⟩ : ∃ b : Bool, b = true ↔ (f < 0 ∨ 1000000 < t ∨ t < f ∨ 1000 < t - f) := ⟨decide (f < 0 ∨ 1000000 < t ∨ t < f ∨ 1000 < t - f), by rw [decide_eq_true_iff]⟩
        have HBA := hide hbad2
        clear hbad2
        obtain ⟨⟨z0, z1⟩, ⟨c0, c1, c2⟩, d0, d1, d2, d3, d4⟩ := I6.out.cs
        go_upto_region 18 with fail
        go_cut [159] (fun v w' => v = .bool bad2 ∧ w' = wp)
        case first =>
          as_aux_lemma =>
          clear HKN HRF HODR L16 L26 I6
          cases bad2 with
          | true =>
            rcases (by have := HBA.out.1 rfl; omega : f < 0 ∨ (¬ f < 0 ∧ 1000000 < t) ∨ (¬ f < 0 ∧ ¬ 1000000 < t ∧ t < f) ∨ (¬ f < 0 ∧ ¬ 1000000 < t ∧ ¬ t < f ∧ 1000 < t - f)) with h0 | ⟨h0, h1⟩ | ⟨h0, h1, h2⟩ | ⟨h0, h1, h2, h3⟩
            · clear HBA
              go_wp2_with fail
              go_meet
              exact ⟨rfl, rfl⟩
            · clear HBA
              go_wp2_with fail
              go_meet
              exact ⟨rfl, rfl⟩
            · clear HBA
              go_wp2_with fail
              go_meet
              exact ⟨rfl, rfl⟩
            · clear HBA
              go_wp2_with fail
              go_meet
              exact ⟨rfl, rfl⟩
          | false =>
            have h : ¬ (f < 0 ∨ 1000000 < t ∨ t < f ∨ 1000 < t - f) := fun h => by have := HBA.out.2 h; cases this
            obtain ⟨h0, h1, h2, h3⟩ : ¬ f < 0 ∧ ¬ 1000000 < t ∧ ¬ t < f ∧ ¬ 1000 < t - f := by omega
            clear h HBA
            go_wp2_with fail
            go_meet
            exact ⟨rfl, rfl⟩
        obtain ⟨rfl, hw⟩ := hcut
        have hw := hw.symm
        subst hw
        cases bad2 with
        | true =>
          as_aux_lemma =>
          have hb := HBA.out.1 rfl
          obtain ⟨rfl, rfl, rfl⟩ : U1 = [] ∧ U2 = [] ∧ E = 3 := by
            have h := HODR.out
            rw [if_neg (fun h => by have h1 := tm_iff.1 h.1; have h2 := tm_iff.1 h.2.1; omega)] at h
            injection h with h1 h2
            injection h2 with h2 h3
            exact ⟨h1, h2, h3⟩
          clear hb HODR HBA L16 L26
          dsimp only [List.length_nil]
          go_wp2_with fail
          refine (HKN.out _ I6.out.b).mono ?_
          rintro e w20 ⟨rfl, hb⟩
          have B20 := hide (I6.out.b.trans (hb.mono I6.out.b.size))
          clear hb
          go_wp2_with fail
          go_ret
          exact ⟨rfl, B20.out⟩
        | false =>
          as_aux_lemma =>
          have h : ¬ (f < 0 ∨ 1000000 < t ∨ t < f ∨ 1000 < t - f) := fun h => by have := HBA.out.2 h; cases this
          obtain ⟨hf0, ht1, hft, hft2⟩ : 0 ≤ f ∧ t ≤ 1000000 ∧ f ≤ t ∧ t - f ≤ 1000 := by omega
          obtain ⟨rfl, rfl, rfl⟩ : U1 = hwL m 3 (dyL f t 1) ∧ U2 = hwL m 2 (dyL f t 1) ∧ E = 0 := by
            have h := HODR.out
            rw [if_pos ⟨tm_iff.2 ⟨hf0, by omega⟩, tm_iff.2 ⟨by omega, ht1⟩, hft, hft2⟩] at h
            injection h with h1 h2
            injection h2 with h2 h3
            exact ⟨h1, h2, h3⟩
          have hz3 := hwL_len m 3 (dyL f t 1)
          have hz2 := hwL_len m 2 (dyL f t 1)
          have hzz := dyL_len f t hft2
          have hdl : dyL f t 1 = dyP f 1 (t - f + 1).toNat := by unfold dyL dyN; rw [Int.ediv_one]
          obtain ⟨U1, hU1⟩ : ∃ U, hwL m 3 (dyL f t 1) = U := ⟨_, rfl⟩
          obtain ⟨U2, hU2⟩ : ∃ U, hwL m 2 (dyL f t 1) = U := ⟨_, rfl⟩
          rw [hU1] at L16 hz3 ⊢
          rw [hU2] at L26 hz2 ⊢
          rw [hdl] at hU1 hU2
          have HU1 := hide hU1
          have HU2 := hide hU2
          have hlu1 : U1.length ≤ 1001 := by omega
          have hlu2 : U2.length ≤ 1001 := by omega
          clear h hdl hz3 hz2 hzz hU1 hU2 HODR HBA
          go_wp2_with fail
          clear z0 z1 c0 c1 c2 d0 d1 d2 d3 d4
          have T0 : Hid (TwL wp ((wp.alloc (.cells #[] 3)).alloc (.cells #[] 3)) (.slice (some ⟨wp.heap.size, 0, none⟩) 0 0) (.slice (some ⟨wp.heap.size + 1, 0, none⟩) 0 0) (hwL m 3 (dyP f 1 0)) (hwL m 2 (dyP f 1 0))) := hide (by
            have h1 := OwnJ.made0 wp
            have h2 := OwnJ.made0 (wp.alloc (.cells #[] 3))
            rw [World.size_alloc] at h2
            exact ⟨((Below.refl _ _).alloc (Nat.le_refl _) _).alloc (by simp) _, h1.ext ((Below.refl _ _).alloc (Nat.le_refl _) _), h2.lowS (by omega), fun b e e2 => by
              simp [Value.ownBlock] at e e2
              omega⟩)
          generalize (wp.alloc (.cells #[] 3)).alloc (.cells #[] 3) = wq at T0 ⊢
          go_loopw [14, 15, 16] (fun x y z wr => ∃ (k : Nat), z = .int .i64 (f + (k : Int)) ∧ f + (k : Int) ≤ t + 1 ∧ Hid (TwL wp wr x y (hwL m 3 (dyP f 1 k)) (hwL m 2 (dyP f 1 k)))) (fun _ _ z _ => (t + 1 - intOf z).toNat)
          case atStart => exact ⟨0, by simp, by omega, T0⟩
          case round =>
            obtain ⟨k, rfl, hk, HT⟩ := hrel
            clear T0
            have Ir := hide (I6.out.ext HT.out.b)
            obtain ⟨⟨z0, z1⟩, ⟨c0, c1, c2⟩, d0, d1, d2, d3, d4⟩ := Ir.out.cs
            have hln := dyP_len f 1 k
            have hl3 := hwL_len m 3 (dyP f 1 k)
            have hl2 := hwL_len m 2 (dyP f 1 k)
            by_cases hle : f + (k : Int) ≤ t
            · as_aux_lemma =>
              have hsu := dyP_succ f 1 k
              rw [Int.one_mul] at hsu
              have h3y := fun e => hwL_yes (m := m) (h := 3) (x := f + (k : Int)) (l := dyP f 1 k) e
              have h3n := fun e => hwL_no (m := m) (h := 3) (x := f + (k : Int)) (l := dyP f 1 k) e
              have h2y := fun e => hwL_yes (m := m) (h := 2) (x := f + (k : Int)) (l := dyP f 1 k) e
              have h2n := fun e => hwL_no (m := m) (h := 2) (x := f + (k : Int)) (l := dyP f 1 k) e
              rw [← hsu] at h3y h3n h2y h2n
              have HF1 := hide (HRF.out (f + (k : Int)) (by omega) (by omega))
              obtain ⟨fd, hfd⟩ : ∃ x, (flF m (f + (k : Int))).1 = x := ⟨_, rfl⟩
              obtain ⟨fh, hfh⟩ : ∃ x, (flF m (f + (k : Int))).2 = x := ⟨_, rfl⟩
              rw [hfd, hfh] at HF1
              rw [hfh] at h3y h3n h2y h2n
              obtain ⟨l3, h3l⟩ : ∃ x, hwL m 3 (dyP f 1 k) = x := ⟨_, rfl⟩
              obtain ⟨l2, h2l⟩ : ∃ x, hwL m 2 (dyP f 1 k) = x := ⟨_, rfl⟩
              rw [h3l] at h3y h3n HT hl3
              rw [h2l] at h2y h2n HT hl2
              obtain ⟨x, hx⟩ : ∃ x, f + (k : Int) = x := ⟨_, rfl⟩
              have hk2 : k ≤ 1001 := by omega
              rw [hln] at hl3 hl2
              rw [hx] at HF1 hle hk h3y h2y ⊢
              have HX := hide hx
              have hx0 : 0 ≤ x := by omega
              clear hx hfd hfh HRF h3l h2l hsu
              go_wp2_with fail
              (with_reducible refine (HF1.out _).mono ?_)
              rintro e w8 ⟨rfl, hb⟩
              have HT8 := hide (HT.out.ext hb)
              have Ir8 := hide (Ir.out.ext hb)
              clear hb HT Ir
              clear z0 z1 c0 c1 c2 d0 d1 d2 d3 d4
              obtain ⟨⟨z0, z1⟩, ⟨c0, c1, c2⟩, d0, d1, d2, d3, d4⟩ := Ir8.out.cs
              by_cases h3 : fh = 3
              · have hq : (fh == 3) = true := by rw [h3]; rfl
                obtain ⟨v', w', hr, hT'⟩ := HT8.out.push x (by omega)
                have HRUN := hide hr
                have HT9 := hide hT'
                rw [← h3y h3, ← h2n (by omega)] at HT9
                clear hr hT' h3y h3n h2y h2n HT8 h3
                go_wp2_with (at_builtin; refine wpList_append_run rfl (.tmp 192) (.tmp 194) 26 rfl rfl rfl HRUN.out ?_)
                go_roundw
                case rel => exact ⟨k + 1, congrArg (Value.int .i64) (by have := HX.out; omega), by have := HX.out; omega, HT9⟩
                case measure => simp [intOf]; omega
              · have hq : (fh == 3) = false := by rw [beq_eq_false_iff_ne]; exact h3
                by_cases h2 : fh = 2
                · have hq2 : (fh == 2) = true := by rw [h2]; rfl
                  obtain ⟨v', w', hr, hT'⟩ := HT8.out.swap.push x (by omega)
                  have HRUN := hide hr
                  have HT9 := hide hT'.swap
                  rw [← h2y h2, ← h3n h3] at HT9
                  clear hr hT' h3y h3n h2y h2n HT8 h3 h2
                  go_wp2_with (at_builtin; refine wpList_append_run rfl (.tmp 198) (.tmp 200) 26 rfl rfl rfl HRUN.out ?_)
                  go_roundw
                  case rel => exact ⟨k + 1, congrArg (Value.int .i64) (by have := HX.out; omega), by have := HX.out; omega, HT9⟩
                  case measure => simp [intOf]; omega
                · have hq2 : (fh == 2) = false := by rw [beq_eq_false_iff_ne]; exact h2
                  have HT9 := HT8
                  rw [← h2n h2, ← h3n h3] at HT9
                  clear h3y h3n h2y h2n HT8 h3 h2
                  go_wp2_with fail
                  go_roundw
                  case rel => exact ⟨k + 1, congrArg (Value.int .i64) (by have := HX.out; omega), by have := HX.out; omega, HT9⟩
                  case measure => simp [intOf]; omega
            · as_aux_lemma =>
              obtain rfl : k = (t - f + 1).toNat := by omega
              rw [HU1.out, HU2.out] at HT
              obtain ⟨B1, e1, hv1⟩ := own_shape HT.out.o1
              obtain ⟨B2, e2, hv2⟩ := own_shape HT.out.o2
              subst hv1 hv2
              have L17 := hide (L16.out.ext HT.out.b)
              have L27 := hide (L26.out.ext HT.out.b)
              have HS1 := hide (lsame_any A1 B1 k1 e1 U1 U1 wr (by unfold maxLen; omega) (by unfold maxLen; omega) L17.out.r (own_li HT.out.o1).r)
              rw [decide_eq_true rfl] at HS1
              have O2 := hide (own_li HT.out.o2)
              clear hl3 hl2 hln HU1 HU2 HRF HT L16 L26
              go_wp2_with fail
              (with_reducible refine HS1.out.mono ?_)
              rintro e w9 ⟨rfl, hb⟩
              have Ir9 := hide (Ir.out.ext hb)
              have HS2 := hide (lsame_any A2 B2 k2 e2 U2 U2 w9 (by unfold maxLen; omega) (by unfold maxLen; omega) (L27.out.ext hb).r (O2.out.ext hb).r)
              rw [decide_eq_true rfl] at HS2
              clear hb HS1 O2 L17 L27 Ir
              clear z0 z1 c0 c1 c2 d0 d1 d2 d3 d4
              go_wp2_with fail
              (with_reducible refine HS2.out.mono ?_)
              rintro e w10 ⟨rfl, hb⟩
              have Ir10 := hide (Ir9.out.ext hb)
              clear hb Ir9 HS2
              go_wp2_with fail
              refine (HKN.out _ Ir10.out.b).mono ?_
              rintro e w20 ⟨rfl, hb⟩
              have B20 := hide (Ir10.out.b.trans (hb.mono Ir10.out.b.size))
              clear hb
              go_wp2_with fail
              go_ret
              exact ⟨rfl, B20.out⟩
      | false =>
        obtain ⟨rfl, rfl⟩ := HW.out
        as_aux_lemma =>
        clear HW
        obtain ⟨bad2, hbad2⟩ : ∃ b : Bool, b = true ↔ (f < 0 ∨ 1000000 < t ∨ t < f ∨ 1000 < t - f) := ⟨decide (f < 0 ∨ 1000000 < t ∨ t < f ∨ 1000 < t - f), by rw [decide_eq_true_iff]⟩
        have HBA := hide hbad2
        clear hbad2
        obtain ⟨⟨z0, z1⟩, ⟨c0, c1, c2⟩, d0, d1, d2, d3, d4⟩ := I6.out.cs
        go_upto_region 18 with fail
        go_cut [159] (fun v w' => v = .bool bad2 ∧ w' = wp)
        case first =>
          as_aux_lemma =>
          clear HKN HRF HODR L16 L26 I6
          cases bad2 with
          | true =>
            rcases (by have := HBA.out.1 rfl; omega : f < 0 ∨ (¬ f < 0 ∧ 1000000 < t) ∨ (¬ f < 0 ∧ ¬ 1000000 < t ∧ t < f) ∨ (¬ f < 0 ∧ ¬ 1000000 < t ∧ ¬ t < f ∧ 1000 < t - f)) with h0 | ⟨h0, h1⟩ | ⟨h0, h1, h2⟩ | ⟨h0, h1, h2, h3⟩
            · clear HBA
              go_wp2_with fail
              go_meet
              exact ⟨rfl, rfl⟩
            · clear HBA
              go_wp2_with fail
              go_meet
              exact ⟨rfl, rfl⟩
            · clear HBA
              go_wp2_with fail
              go_meet
              exact ⟨rfl, rfl⟩
            · clear HBA
              go_wp2_with fail
              go_meet
              exact ⟨rfl, rfl⟩
          | false =>
            have h : ¬ (f < 0 ∨ 1000000 < t ∨ t < f ∨ 1000 < t - f) := fun h => by have := HBA.out.2 h; cases this
            obtain ⟨h0, h1, h2, h3⟩ : ¬ f < 0 ∧ ¬ 1000000 < t ∧ ¬ t < f ∧ ¬ 1000 < t - f := by omega
            clear h HBA
            go_wp2_with fail
            go_meet
            exact ⟨rfl, rfl⟩
        obtain ⟨rfl, hw⟩ := hcut
        have hw := hw.symm
        subst hw
        cases bad2 with
        | true =>
          as_aux_lemma =>
          have hb := HBA.out.1 rfl
          obtain ⟨rfl, rfl, rfl⟩ : U1 = [] ∧ U2 = [] ∧ E = 3 := by
            have h := HODR.out
            rw [if_neg (fun h => by have h1 := tm_iff.1 h.1; have h2 := tm_iff.1 h.2.1; omega)] at h
            injection h with h1 h2
            injection h2 with h2 h3
            exact ⟨h1, h2, h3⟩
          clear hb HODR HBA L16 L26
          dsimp only [List.length_nil]
          go_wp2_with fail
          refine (HKN.out _ I6.out.b).mono ?_
          rintro e w20 ⟨rfl, hb⟩
          have B20 := hide (I6.out.b.trans (hb.mono I6.out.b.size))
          clear hb
          go_wp2_with fail
          go_ret
          exact ⟨rfl, B20.out⟩
        | false =>
          as_aux_lemma =>
          have h : ¬ (f < 0 ∨ 1000000 < t ∨ t < f ∨ 1000 < t - f) := fun h => by have := HBA.out.2 h; cases this
          obtain ⟨hf0, ht1, hft, hft2⟩ : 0 ≤ f ∧ t ≤ 1000000 ∧ f ≤ t ∧ t - f ≤ 1000 := by omega
          obtain ⟨rfl, rfl, rfl⟩ : U1 = hwL m 3 (dyL f t 1) ∧ U2 = hwL m 2 (dyL f t 1) ∧ E = 0 := by
            have h := HODR.out
            rw [if_pos ⟨tm_iff.2 ⟨hf0, by omega⟩, tm_iff.2 ⟨by omega, ht1⟩, hft, hft2⟩] at h
            injection h with h1 h2
            injection h2 with h2 h3
            exact ⟨h1, h2, h3⟩
          have hz3 := hwL_len m 3 (dyL f t 1)
          have hz2 := hwL_len m 2 (dyL f t 1)
          have hzz := dyL_len f t hft2
          have hdl : dyL f t 1 = dyP f 1 (t - f + 1).toNat := by unfold dyL dyN; rw [Int.ediv_one]
          obtain ⟨U1, hU1⟩ : ∃ U, hwL m 3 (dyL f t 1) = U := ⟨_, rfl⟩
          obtain ⟨U2, hU2⟩ : ∃ U, hwL m 2 (dyL f t 1) = U := ⟨_, rfl⟩
          rw [hU1] at L16 hz3 ⊢
          rw [hU2] at L26 hz2 ⊢
          rw [hdl] at hU1 hU2
          have HU1 := hide hU1
          have HU2 := hide hU2
          have hlu1 : U1.length ≤ 1001 := by omega
          have hlu2 : U2.length ≤ 1001 := by omega
          clear h hdl hz3 hz2 hzz hU1 hU2 HODR HBA
          go_wp2_with fail
          clear z0 z1 c0 c1 c2 d0 d1 d2 d3 d4
          have T0 : Hid (TwL wp ((wp.alloc (.cells #[] 3)).alloc (.cells #[] 3)) (.slice (some ⟨wp.heap.size, 0, none⟩) 0 0) (.slice (some ⟨wp.heap.size + 1, 0, none⟩) 0 0) (hwL m 3 (dyP f 1 0)) (hwL m 2 (dyP f 1 0))) := hide (by
            have h1 := OwnJ.made0 wp
            have h2 := OwnJ.made0 (wp.alloc (.cells #[] 3))
            rw [World.size_alloc] at h2
            exact ⟨((Below.refl _ _).alloc (Nat.le_refl _) _).alloc (by simp) _, h1.ext ((Below.refl _ _).alloc (Nat.le_refl _) _), h2.lowS (by omega), fun b e e2 => by
              simp [Value.ownBlock] at e e2
              omega⟩)
          generalize (wp.alloc (.cells #[] 3)).alloc (.cells #[] 3) = wq at T0 ⊢
          go_loopw [14, 15, 16] (fun x y z wr => ∃ (k : Nat), z = .int .i64 (f + (k : Int)) ∧ f + (k : Int) ≤ t + 1 ∧ Hid (TwL wp wr x y (hwL m 3 (dyP f 1 k)) (hwL m 2 (dyP f 1 k)))) (fun _ _ z _ => (t + 1 - intOf z).toNat)
          case atStart => exact ⟨0, by simp, by omega, T0⟩
          case round =>
            obtain ⟨k, rfl, hk, HT⟩ := hrel
            clear T0
            have Ir := hide (I6.out.ext HT.out.b)
            obtain ⟨⟨z0, z1⟩, ⟨c0, c1, c2⟩, d0, d1, d2, d3, d4⟩ := Ir.out.cs
            have hln := dyP_len f 1 k
            have hl3 := hwL_len m 3 (dyP f 1 k)
            have hl2 := hwL_len m 2 (dyP f 1 k)
            by_cases hle : f + (k : Int) ≤ t
            · as_aux_lemma =>
              have hsu := dyP_succ f 1 k
              rw [Int.one_mul] at hsu
              have h3y := fun e => hwL_yes (m := m) (h := 3) (x := f + (k : Int)) (l := dyP f 1 k) e
              have h3n := fun e => hwL_no (m := m) (h := 3) (x := f + (k : Int)) (l := dyP f 1 k) e
              have h2y := fun e => hwL_yes (m := m) (h := 2) (x := f + (k : Int)) (l := dyP f 1 k) e
              have h2n := fun e => hwL_no (m := m) (h := 2) (x := f + (k : Int)) (l := dyP f 1 k) e
              rw [← hsu] at h3y h3n h2y h2n
              have HF1 := hide (HRF.out (f + (k : Int)) (by omega) (by omega))
              obtain ⟨fd, hfd⟩ : ∃ x, (flF m (f + (k : Int))).1 = x := ⟨_, rfl⟩
              obtain ⟨fh, hfh⟩ : ∃ x, (flF m (f + (k : Int))).2 = x := ⟨_, rfl⟩
              rw [hfd, hfh] at HF1
              rw [hfh] at h3y h3n h2y h2n
              obtain ⟨l3, h3l⟩ : ∃ x, hwL m 3 (dyP f 1 k) = x := ⟨_, rfl⟩
              obtain ⟨l2, h2l⟩ : ∃ x, hwL m 2 (dyP f 1 k) = x := ⟨_, rfl⟩
              rw [h3l] at h3y h3n HT hl3
              rw [h2l] at h2y h2n HT hl2
              obtain ⟨x, hx⟩ : ∃ x, f + (k : Int) = x := ⟨_, rfl⟩
              have hk2 : k ≤ 1001 := by omega
              rw [hln] at hl3 hl2
              rw [hx] at HF1 hle hk h3y h2y ⊢
              have HX := hide hx
              have hx0 : 0 ≤ x := by omega
              clear hx hfd hfh HRF h3l h2l hsu
              go_wp2_with fail
              (with_reducible refine (HF1.out _).mono ?_)
              rintro e w8 ⟨rfl, hb⟩
              have HT8 := hide (HT.out.ext hb)
              have Ir8 := hide (Ir.out.ext hb)
              clear hb HT Ir
              clear z0 z1 c0 c1 c2 d0 d1 d2 d3 d4
              obtain ⟨⟨z0, z1⟩, ⟨c0, c1, c2⟩, d0, d1, d2, d3, d4⟩ := Ir8.out.cs
              by_cases h3 : fh = 3
              · have hq : (fh == 3) = true := by rw [h3]; rfl
                obtain ⟨v', w', hr, hT'⟩ := HT8.out.push x (by omega)
                have HRUN := hide hr
                have HT9 := hide hT'
                rw [← h3y h3, ← h2n (by omega)] at HT9
                clear hr hT' h3y h3n h2y h2n HT8 h3
                go_wp2_with (at_builtin; refine wpList_append_run rfl (.tmp 192) (.tmp 194) 26 rfl rfl rfl HRUN.out ?_)
                go_roundw
                case rel => exact ⟨k + 1, congrArg (Value.int .i64) (by have := HX.out; omega), by have := HX.out; omega, HT9⟩
                case measure => simp [intOf]; omega
              · have hq : (fh == 3) = false := by rw [beq_eq_false_iff_ne]; exact h3
                by_cases h2 : fh = 2
                · have hq2 : (fh == 2) = true := by rw [h2]; rfl
                  obtain ⟨v', w', hr, hT'⟩ := HT8.out.swap.push x (by omega)
                  have HRUN := hide hr
                  have HT9 := hide hT'.swap
                  rw [← h2y h2, ← h3n h3] at HT9
                  clear hr hT' h3y h3n h2y h2n HT8 h3 h2
                  go_wp2_with (at_builtin; refine wpList_append_run rfl (.tmp 198) (.tmp 200) 26 rfl rfl rfl HRUN.out ?_)
                  go_roundw
                  case rel => exact ⟨k + 1, congrArg (Value.int .i64) (by have := HX.out; omega), by have := HX.out; omega, HT9⟩
                  case measure => simp [intOf]; omega
                · have hq2 : (fh == 2) = false := by rw [beq_eq_false_iff_ne]; exact h2
                  have HT9 := HT8
                  rw [← h2n h2, ← h3n h3] at HT9
                  clear h3y h3n h2y h2n HT8 h3 h2
                  go_wp2_with fail
                  go_roundw
                  case rel => exact ⟨k + 1, congrArg (Value.int .i64) (by have := HX.out; omega), by have := HX.out; omega, HT9⟩
                  case measure => simp [intOf]; omega
            · as_aux_lemma =>
              obtain rfl : k = (t - f + 1).toNat := by omega
              rw [HU1.out, HU2.out] at HT
              obtain ⟨B1, e1, hv1⟩ := own_shape HT.out.o1
              obtain ⟨B2, e2, hv2⟩ := own_shape HT.out.o2
              subst hv1 hv2
              have L17 := hide (L16.out.ext HT.out.b)
              have L27 := hide (L26.out.ext HT.out.b)
              have HS1 := hide (lsame_any A1 B1 k1 e1 U1 U1 wr (by unfold maxLen; omega) (by unfold maxLen; omega) L17.out.r (own_li HT.out.o1).r)
              rw [decide_eq_true rfl] at HS1
              have O2 := hide (own_li HT.out.o2)
              clear hl3 hl2 hln HU1 HU2 HRF HT L16 L26
              go_wp2_with fail
              (with_reducible refine HS1.out.mono ?_)
              rintro e w9 ⟨rfl, hb⟩
              have Ir9 := hide (Ir.out.ext hb)
              have HS2 := hide (lsame_any A2 B2 k2 e2 U2 U2 w9 (by unfold maxLen; omega) (by unfold maxLen; omega) (L27.out.ext hb).r (O2.out.ext hb).r)
              rw [decide_eq_true rfl] at HS2
              clear hb HS1 O2 L17 L27 Ir
              clear z0 z1 c0 c1 c2 d0 d1 d2 d3 d4
              go_wp2_with fail
              (with_reducible refine HS2.out.mono ?_)
              rintro e w10 ⟨rfl, hb⟩
              have Ir10 := hide (Ir9.out.ext hb)
              clear hb Ir9 HS2
              go_wp2_with fail
              refine (HKN.out _ Ir10.out.b).mono ?_
              rintro e w20 ⟨rfl, hb⟩
              have B20 := hide (Ir10.out.b.trans (hb.mono Ir10.out.b.size))
              clear hb
              go_wp2_with fail
              go_ret
              exact ⟨rfl, B20.out⟩
    | false =>
      rw [if_neg Bool.false_ne_true] at hbe
      subst hbe
      go_upto_block 0 with fail
      go_cut [11, 12] (fun x y w' => ∃ (want : Int) (found : Bool), x = .int .i64 want ∧ y = .bool found ∧ Hid (if found then r1 = want ∧ r2 = 0 else r1 = 0 ∧ r2 = 7) ∧ Hid (NiI w w' g m f t d false n) ∧ Hid (LiR w' A1 U1) ∧ Hid (LiR w' A2 U2))
      case first =>
        as_aux_lemma =>
        clear HODR HKN
        clear z0 z1 c0 c1 c2 d0 d1 d2 d3 d4
        go_wp2_with fail
        go_loopw [11, 12, 13] (fun x y z wr => ∃ (j : Nat) (want : Int) (found : Bool), x = .int .i64 want ∧ y = .bool found ∧ z = .int .i64 (n - 1 + 30 * (j : Int)) ∧ n - 1 + 30 * (j : Int) ≤ 1000030 ∧ Hid (RfI m d (n - 1) j want found) ∧ Hid (NiI w wr g m f t d false n) ∧ Hid (LiR wr A1 U1) ∧ Hid (LiR wr A2 U2)) (fun _ _ z _ => (1000031 - intOf z).toNat)
        case atStart => exact ⟨0, 0, false, rfl, rfl, by simp, by omega, hide (RfI.zero _ _ _), I4, L1, L2⟩
        case round =>
          obtain ⟨j, want, found, rfl, rfl, rfl, hj, HRI, Ir, L1r, L2r⟩ := hrel
          clear I4 L1 L2
          obtain ⟨⟨z0, z1⟩, ⟨c0, c1, c2⟩, d0, d1, d2, d3, d4⟩ := Ir.out.cs
          by_cases hle : n - 1 + 30 * (j : Int) ≤ 1000000
          · cases found with
            | true =>
              have h := HRI.out.yes
              rw [HR2.out] at h
              injection h with h1 h2
              subst h1 h2
              go_wp2_with fail
              go_meet
              exact ⟨_, true, rfl, rfl, (by refine hide ?_; first | exact ⟨rfl, rfl⟩ | trivial | simp), Ir, L1r, L2r⟩
            | false =>
              have HF1 := hide (HRF.out (n - 1 + 30 * (j : Int)) (by omega) (by omega))
              have HS1 := hide (HRI.out.step hle)
              obtain ⟨fd, hfd⟩ : ∃ x, (flF m (n - 1 + 30 * (j : Int))).1 = x := ⟨_, rfl⟩
              obtain ⟨fh, hfh⟩ : ∃ x, (flF m (n - 1 + 30 * (j : Int))).2 = x := ⟨_, rfl⟩
              rw [hfd, hfh] at HF1
              rw [hfd] at HS1
              obtain ⟨x, hx⟩ : ∃ x, n - 1 + 30 * (j : Int) = x := ⟨_, rfl⟩
              rw [hx] at HF1 hle hj ⊢
              have HX := hide hx
              have hx0 : 0 ≤ x := by omega
              clear hx hfd hfh HRF HRI HR2
              go_wp2_with fail
              (with_reducible refine (HF1.out _).mono ?_)
              rintro e w8 ⟨rfl, hb⟩
              have I8 := hide (Ir.out.ext hb)
              have L18 := hide (L1r.out.ext hb)
              have L28 := hide (L2r.out.ext hb)
              clear hb Ir L1r L2r
              clear z0 z1 c0 c1 c2 d0 d1 d2 d3 d4
              obtain ⟨⟨z0, z1⟩, ⟨c0, c1, c2⟩, d0, d1, d2, d3, d4⟩ := I8.out.cs
              go_wp2_with fail
              go_roundw
              case rel => exact ⟨j + 1, fd, decide (d ≤ fd), rfl, rfl, congrArg (Value.int .i64) (by have := HX.out; omega), by have := HX.out; omega, HS1, I8, L18, L28⟩
              case measure => simp [intOf]; omega
          · cases found with
            | true =>
              have h := HRI.out.yes
              rw [HR2.out] at h
              injection h with h1 h2
              subst h1 h2
              go_wp2_with fail
              go_meet
              exact ⟨_, true, rfl, rfl, (by refine hide ?_; first | exact ⟨rfl, rfl⟩ | trivial | simp), Ir, L1r, L2r⟩
            | false =>
              have h := HRI.out.no (by omega)
              rw [HR2.out] at h
              injection h with h1 h2
              subst h1 h2
              go_wp2_with fail
              go_meet
              exact ⟨_, false, rfl, rfl, (by refine hide ?_; first | exact ⟨rfl, rfl⟩ | trivial | simp), Ir, L1r, L2r⟩
      obtain ⟨want, found, rfl, rfl, HW, I5, L15, L25⟩ := hcut
      clear I4 L1 L2 HR2 hbB hd0 hd1 hn1 hn2
      clear z0 z1 c0 c1 c2 d0 d1 d2 d3 d4
      obtain ⟨wp, rfl⟩ : ∃ x, x = wc := ⟨wc, rfl⟩
      have I6 := I5
      have L16 := L15
      have L26 := L25
      clear I5 L15 L25
      cases found with
      | true =>
        obtain ⟨rfl, rfl⟩ := HW.out
        as_aux_lemma =>
        clear HW
        obtain ⟨bad2, hbad2⟩ : ∃ b : Bool, b = true ↔ (f < 0 ∨ 1000000 < t ∨ t < f ∨ 1000 < t - f) := ⟨decide (f < 0 ∨ 1000000 < t ∨ t < f ∨ 1000 < t - f), by rw [decide_eq_true_iff]⟩
        have HBA := hide hbad2
        clear hbad2
        obtain ⟨⟨z0, z1⟩, ⟨c0, c1, c2⟩, d0, d1, d2, d3, d4⟩ := I6.out.cs
        go_upto_region 18 with fail
        go_cut [159] (fun v w' => v = .bool bad2 ∧ w' = wp)
        case first =>
          as_aux_lemma =>
          clear HKN HRF HODR L16 L26 I6
          cases bad2 with
          | true =>
            rcases (by have := HBA.out.1 rfl; omega : f < 0 ∨ (¬ f < 0 ∧ 1000000 < t) ∨ (¬ f < 0 ∧ ¬ 1000000 < t ∧ t < f) ∨ (¬ f < 0 ∧ ¬ 1000000 < t ∧ ¬ t < f ∧ 1000 < t - f)) with h0 | ⟨h0, h1⟩ | ⟨h0, h1, h2⟩ | ⟨h0, h1, h2, h3⟩
            · clear HBA
              go_wp2_with fail
              go_meet
              exact ⟨rfl, rfl⟩
            · clear HBA
              go_wp2_with fail
              go_meet
              exact ⟨rfl, rfl⟩
            · clear HBA
              go_wp2_with fail
              go_meet
              exact ⟨rfl, rfl⟩
            · clear HBA
              go_wp2_with fail
              go_meet
              exact ⟨rfl, rfl⟩
          | false =>
            have h : ¬ (f < 0 ∨ 1000000 < t ∨ t < f ∨ 1000 < t - f) := fun h => by have := HBA.out.2 h; cases this
            obtain ⟨h0, h1, h2, h3⟩ : ¬ f < 0 ∧ ¬ 1000000 < t ∧ ¬ t < f ∧ ¬ 1000 < t - f := by omega
            clear h HBA
            go_wp2_with fail
            go_meet
            exact ⟨rfl, rfl⟩
        obtain ⟨rfl, hw⟩ := hcut
        have hw := hw.symm
        subst hw
        cases bad2 with
        | true =>
          as_aux_lemma =>
          have hb := HBA.out.1 rfl
          obtain ⟨rfl, rfl, rfl⟩ : U1 = [] ∧ U2 = [] ∧ E = 3 := by
            have h := HODR.out
            rw [if_neg (fun h => by have h1 := tm_iff.1 h.1; have h2 := tm_iff.1 h.2.1; omega)] at h
            injection h with h1 h2
            injection h2 with h2 h3
            exact ⟨h1, h2, h3⟩
          clear hb HODR HBA L16 L26
          dsimp only [List.length_nil]
          go_wp2_with fail
          refine (HKN.out _ I6.out.b).mono ?_
          rintro e w20 ⟨rfl, hb⟩
          have B20 := hide (I6.out.b.trans (hb.mono I6.out.b.size))
          clear hb
          go_wp2_with fail
          go_ret
          exact ⟨rfl, B20.out⟩
        | false =>
          as_aux_lemma =>
          have h : ¬ (f < 0 ∨ 1000000 < t ∨ t < f ∨ 1000 < t - f) := fun h => by have := HBA.out.2 h; cases this
          obtain ⟨hf0, ht1, hft, hft2⟩ : 0 ≤ f ∧ t ≤ 1000000 ∧ f ≤ t ∧ t - f ≤ 1000 := by omega
          obtain ⟨rfl, rfl, rfl⟩ : U1 = hwL m 3 (dyL f t 1) ∧ U2 = hwL m 2 (dyL f t 1) ∧ E = 0 := by
            have h := HODR.out
            rw [if_pos ⟨tm_iff.2 ⟨hf0, by omega⟩, tm_iff.2 ⟨by omega, ht1⟩, hft, hft2⟩] at h
            injection h with h1 h2
            injection h2 with h2 h3
            exact ⟨h1, h2, h3⟩
          have hz3 := hwL_len m 3 (dyL f t 1)
          have hz2 := hwL_len m 2 (dyL f t 1)
          have hzz := dyL_len f t hft2
          have hdl : dyL f t 1 = dyP f 1 (t - f + 1).toNat := by unfold dyL dyN; rw [Int.ediv_one]
          obtain ⟨U1, hU1⟩ : ∃ U, hwL m 3 (dyL f t 1) = U := ⟨_, rfl⟩
          obtain ⟨U2, hU2⟩ : ∃ U, hwL m 2 (dyL f t 1) = U := ⟨_, rfl⟩
          rw [hU1] at L16 hz3 ⊢
          rw [hU2] at L26 hz2 ⊢
          rw [hdl] at hU1 hU2
          have HU1 := hide hU1
          have HU2 := hide hU2
          have hlu1 : U1.length ≤ 1001 := by omega
          have hlu2 : U2.length ≤ 1001 := by omega
          clear h hdl hz3 hz2 hzz hU1 hU2 HODR HBA
          go_wp2_with fail
          clear z0 z1 c0 c1 c2 d0 d1 d2 d3 d4
          have T0 : Hid (TwL wp ((wp.alloc (.cells #[] 3)).alloc (.cells #[] 3)) (.slice (some ⟨wp.heap.size, 0, none⟩) 0 0) (.slice (some ⟨wp.heap.size + 1, 0, none⟩) 0 0) (hwL m 3 (dyP f 1 0)) (hwL m 2 (dyP f 1 0))) := hide (by
            have h1 := OwnJ.made0 wp
            have h2 := OwnJ.made0 (wp.alloc (.cells #[] 3))
            rw [World.size_alloc] at h2
            exact ⟨((Below.refl _ _).alloc (Nat.le_refl _) _).alloc (by simp) _, h1.ext ((Below.refl _ _).alloc (Nat.le_refl _) _), h2.lowS (by omega), fun b e e2 => by
              simp [Value.ownBlock] at e e2
              omega⟩)
          generalize (wp.alloc (.cells #[] 3)).alloc (.cells #[] 3) = wq at T0 ⊢
          go_loopw [14, 15, 16] (fun x y z wr => ∃ (k : Nat), z = .int .i64 (f + (k : Int)) ∧ f + (k : Int) ≤ t + 1 ∧ Hid (TwL wp wr x y (hwL m 3 (dyP f 1 k)) (hwL m 2 (dyP f 1 k)))) (fun _ _ z _ => (t + 1 - intOf z).toNat)
          case atStart => exact ⟨0, by simp, by omega, T0⟩
          case round =>
            obtain ⟨k, rfl, hk, HT⟩ := hrel
            clear T0
            have Ir := hide (I6.out.ext HT.out.b)
            obtain ⟨⟨z0, z1⟩, ⟨c0, c1, c2⟩, d0, d1, d2, d3, d4⟩ := Ir.out.cs
            have hln := dyP_len f 1 k
            have hl3 := hwL_len m 3 (dyP f 1 k)
            have hl2 := hwL_len m 2 (dyP f 1 k)
            by_cases hle : f + (k : Int) ≤ t
            · as_aux_lemma =>
              have hsu := dyP_succ f 1 k
              rw [Int.one_mul] at hsu
              have h3y := fun e => hwL_yes (m := m) (h := 3) (x := f + (k : Int)) (l := dyP f 1 k) e
              have h3n := fun e => hwL_no (m := m) (h := 3) (x := f + (k : Int)) (l := dyP f 1 k) e
              have h2y := fun e => hwL_yes (m := m) (h := 2) (x := f + (k : Int)) (l := dyP f 1 k) e
              have h2n := fun e => hwL_no (m := m) (h := 2) (x := f + (k : Int)) (l := dyP f 1 k) e
              rw [← hsu] at h3y h3n h2y h2n
              have HF1 := hide (HRF.out (f + (k : Int)) (by omega) (by omega))
              obtain ⟨fd, hfd⟩ : ∃ x, (flF m (f + (k : Int))).1 = x := ⟨_, rfl⟩
              obtain ⟨fh, hfh⟩ : ∃ x, (flF m (f + (k : Int))).2 = x := ⟨_, rfl⟩
              rw [hfd, hfh] at HF1
              rw [hfh] at h3y h3n h2y h2n
              obtain ⟨l3, h3l⟩ : ∃ x, hwL m 3 (dyP f 1 k) = x := ⟨_, rfl⟩
              obtain ⟨l2, h2l⟩ : ∃ x, hwL m 2 (dyP f 1 k) = x := ⟨_, rfl⟩
              rw [h3l] at h3y h3n HT hl3
              rw [h2l] at h2y h2n HT hl2
              obtain ⟨x, hx⟩ : ∃ x, f + (k : Int) = x := ⟨_, rfl⟩
              have hk2 : k ≤ 1001 := by omega
              rw [hln] at hl3 hl2
              rw [hx] at HF1 hle hk h3y h2y ⊢
              have HX := hide hx
              have hx0 : 0 ≤ x := by omega
              clear hx hfd hfh HRF h3l h2l hsu
              go_wp2_with fail
              (with_reducible refine (HF1.out _).mono ?_)
              rintro e w8 ⟨rfl, hb⟩
              have HT8 := hide (HT.out.ext hb)
              have Ir8 := hide (Ir.out.ext hb)
              clear hb HT Ir
              clear z0 z1 c0 c1 c2 d0 d1 d2 d3 d4
              obtain ⟨⟨z0, z1⟩, ⟨c0, c1, c2⟩, d0, d1, d2, d3, d4⟩ := Ir8.out.cs
              by_cases h3 : fh = 3
              · have hq : (fh == 3) = true := by rw [h3]; rfl
                obtain ⟨v', w', hr, hT'⟩ := HT8.out.push x (by omega)
                have HRUN := hide hr
                have HT9 := hide hT'
                rw [← h3y h3, ← h2n (by omega)] at HT9
                clear hr hT' h3y h3n h2y h2n HT8 h3
                go_wp2_with (at_builtin; refine wpList_append_run rfl (.tmp 192) (.tmp 194) 26 rfl rfl rfl HRUN.out ?_)
                go_roundw
                case rel => exact ⟨k + 1, congrArg (Value.int .i64) (by have := HX.out; omega), by have := HX.out; omega, HT9⟩
                case measure => simp [intOf]; omega
              · have hq : (fh == 3) = false := by rw [beq_eq_false_iff_ne]; exact h3
                by_cases h2 : fh = 2
                · have hq2 : (fh == 2) = true := by rw [h2]; rfl
                  obtain ⟨v', w', hr, hT'⟩ := HT8.out.swap.push x (by omega)
                  have HRUN := hide hr
                  have HT9 := hide hT'.swap
                  rw [← h2y h2, ← h3n h3] at HT9
                  clear hr hT' h3y h3n h2y h2n HT8 h3 h2
                  go_wp2_with (at_builtin; refine wpList_append_run rfl (.tmp 198) (.tmp 200) 26 rfl rfl rfl HRUN.out ?_)
                  go_roundw
                  case rel => exact ⟨k + 1, congrArg (Value.int .i64) (by have := HX.out; omega), by have := HX.out; omega, HT9⟩
                  case measure => simp [intOf]; omega
                · have hq2 : (fh == 2) = false := by rw [beq_eq_false_iff_ne]; exact h2
                  have HT9 := HT8
                  rw [← h2n h2, ← h3n h3] at HT9
                  clear h3y h3n h2y h2n HT8 h3 h2
                  go_wp2_with fail
                  go_roundw
                  case rel => exact ⟨k + 1, congrArg (Value.int .i64) (by have := HX.out; omega), by have := HX.out; omega, HT9⟩
                  case measure => simp [intOf]; omega
            · as_aux_lemma =>
              obtain rfl : k = (t - f + 1).toNat := by omega
              rw [HU1.out, HU2.out] at HT
              obtain ⟨B1, e1, hv1⟩ := own_shape HT.out.o1
              obtain ⟨B2, e2, hv2⟩ := own_shape HT.out.o2
              subst hv1 hv2
              have L17 := hide (L16.out.ext HT.out.b)
              have L27 := hide (L26.out.ext HT.out.b)
              have HS1 := hide (lsame_any A1 B1 k1 e1 U1 U1 wr (by unfold maxLen; omega) (by unfold maxLen; omega) L17.out.r (own_li HT.out.o1).r)
              rw [decide_eq_true rfl] at HS1
              have O2 := hide (own_li HT.out.o2)
              clear hl3 hl2 hln HU1 HU2 HRF HT L16 L26
              go_wp2_with fail
              (with_reducible refine HS1.out.mono ?_)
              rintro e w9 ⟨rfl, hb⟩
              have Ir9 := hide (Ir.out.ext hb)
              have HS2 := hide (lsame_any A2 B2 k2 e2 U2 U2 w9 (by unfold maxLen; omega) (by unfold maxLen; omega) (L27.out.ext hb).r (O2.out.ext hb).r)
              rw [decide_eq_true rfl] at HS2
              clear hb HS1 O2 L17 L27 Ir
              clear z0 z1 c0 c1 c2 d0 d1 d2 d3 d4
              go_wp2_with fail
              (with_reducible refine HS2.out.mono ?_)
              rintro e w10 ⟨rfl, hb⟩
              have Ir10 := hide (Ir9.out.ext hb)
              clear hb Ir9 HS2
              go_wp2_with fail
              refine (HKN.out _ Ir10.out.b).mono ?_
              rintro e w20 ⟨rfl, hb⟩
              have B20 := hide (Ir10.out.b.trans (hb.mono Ir10.out.b.size))
              clear hb
              go_wp2_with fail
              go_ret
              exact ⟨rfl, B20.out⟩
      | false =>
        obtain ⟨rfl, rfl⟩ := HW.out
        as_aux_lemma =>
        clear HW
        obtain ⟨bad2, hbad2⟩ : ∃ b : Bool, b = true ↔ (f < 0 ∨ 1000000 < t ∨ t < f ∨ 1000 < t - f) := ⟨decide (f < 0 ∨ 1000000 < t ∨ t < f ∨ 1000 < t - f), by rw [decide_eq_true_iff]⟩
        have HBA := hide hbad2
        clear hbad2
        obtain ⟨⟨z0, z1⟩, ⟨c0, c1, c2⟩, d0, d1, d2, d3, d4⟩ := I6.out.cs
        go_upto_region 18 with fail
        go_cut [159] (fun v w' => v = .bool bad2 ∧ w' = wp)
        case first =>
          as_aux_lemma =>
          clear HKN HRF HODR L16 L26 I6
          cases bad2 with
          | true =>
            rcases (by have := HBA.out.1 rfl; omega : f < 0 ∨ (¬ f < 0 ∧ 1000000 < t) ∨ (¬ f < 0 ∧ ¬ 1000000 < t ∧ t < f) ∨ (¬ f < 0 ∧ ¬ 1000000 < t ∧ ¬ t < f ∧ 1000 < t - f)) with h0 | ⟨h0, h1⟩ | ⟨h0, h1, h2⟩ | ⟨h0, h1, h2, h3⟩
            · clear HBA
              go_wp2_with fail
              go_meet
              exact ⟨rfl, rfl⟩
            · clear HBA
              go_wp2_with fail
              go_meet
              exact ⟨rfl, rfl⟩
            · clear HBA
              go_wp2_with fail
              go_meet
              exact ⟨rfl, rfl⟩
            · clear HBA
              go_wp2_with fail
              go_meet
              exact ⟨rfl, rfl⟩
          | false =>
            have h : ¬ (f < 0 ∨ 1000000 < t ∨ t < f ∨ 1000 < t - f) := fun h => by have := HBA.out.2 h; cases this
            obtain ⟨h0, h1, h2, h3⟩ : ¬ f < 0 ∧ ¬ 1000000 < t ∧ ¬ t < f ∧ ¬ 1000 < t - f := by omega
            clear h HBA
            go_wp2_with fail
            go_meet
            exact ⟨rfl, rfl⟩
        obtain ⟨rfl, hw⟩ := hcut
        have hw := hw.symm
        subst hw
        cases bad2 with
        | true =>
          as_aux_lemma =>
          have hb := HBA.out.1 rfl
          obtain ⟨rfl, rfl, rfl⟩ : U1 = [] ∧ U2 = [] ∧ E = 3 := by
            have h := HODR.out
            rw [if_neg (fun h => by have h1 := tm_iff.1 h.1; have h2 := tm_iff.1 h.2.1; omega)] at h
            injection h with h1 h2
            injection h2 with h2 h3
            exact ⟨h1, h2, h3⟩
          clear hb HODR HBA L16 L26
          dsimp only [List.length_nil]
          go_wp2_with fail
          refine (HKN.out _ I6.out.b).mono ?_
          rintro e w20 ⟨rfl, hb⟩
          have B20 := hide (I6.out.b.trans (hb.mono I6.out.b.size))
          clear hb
          go_wp2_with fail
          go_ret
          exact ⟨rfl, B20.out⟩
        | false =>
          as_aux_lemma =>
          have h : ¬ (f < 0 ∨ 1000000 < t ∨ t < f ∨ 1000 < t - f) := fun h => by have := HBA.out.2 h; cases this
          obtain ⟨hf0, ht1, hft, hft2⟩ : 0 ≤ f ∧ t ≤ 1000000 ∧ f ≤ t ∧ t - f ≤ 1000 := by omega
          obtain ⟨rfl, rfl, rfl⟩ : U1 = hwL m 3 (dyL f t 1) ∧ U2 = hwL m 2 (dyL f t 1) ∧ E = 0 := by
            have h := HODR.out
            rw [if_pos ⟨tm_iff.2 ⟨hf0, by omega⟩, tm_iff.2 ⟨by omega, ht1⟩, hft, hft2⟩] at h
            injection h with h1 h2
            injection h2 with h2 h3
            exact ⟨h1, h2, h3⟩
          have hz3 := hwL_len m 3 (dyL f t 1)
          have hz2 := hwL_len m 2 (dyL f t 1)
          have hzz := dyL_len f t hft2
          have hdl : dyL f t 1 = dyP f 1 (t - f + 1).toNat := by unfold dyL dyN; rw [Int.ediv_one]
          obtain ⟨U1, hU1⟩ : ∃ U, hwL m 3 (dyL f t 1) = U := ⟨_, rfl⟩
          obtain ⟨U2, hU2⟩ : ∃ U, hwL m 2 (dyL f t 1) = U := ⟨_, rfl⟩
          rw [hU1] at L16 hz3 ⊢
          rw [hU2] at L26 hz2 ⊢
          rw [hdl] at hU1 hU2
          have HU1 := hide hU1
          have HU2 := hide hU2
          have hlu1 : U1.length ≤ 1001 := by omega
          have hlu2 : U2.length ≤ 1001 := by omega
          clear h hdl hz3 hz2 hzz hU1 hU2 HODR HBA
          go_wp2_with fail
          clear z0 z1 c0 c1 c2 d0 d1 d2 d3 d4
          have T0 : Hid (TwL wp ((wp.alloc (.cells #[] 3)).alloc (.cells #[] 3)) (.slice (some ⟨wp.heap.size, 0, none⟩) 0 0) (.slice (some ⟨wp.heap.size + 1, 0, none⟩) 0 0) (hwL m 3 (dyP f 1 0)) (hwL m 2 (dyP f 1 0))) := hide (by
            have h1 := OwnJ.made0 wp
            have h2 := OwnJ.made0 (wp.alloc (.cells #[] 3))
            rw [World.size_alloc] at h2
            exact ⟨((Below.refl _ _).alloc (Nat.le_refl _) _).alloc (by simp) _, h1.ext ((Below.refl _ _).alloc (Nat.le_refl _) _), h2.lowS (by omega), fun b e e2 => by
              simp [Value.ownBlock] at e e2
              omega⟩)
          generalize (wp.alloc (.cells #[] 3)).alloc (.cells #[] 3) = wq at T0 ⊢
          go_loopw [14, 15, 16] (fun x y z wr => ∃ (k : Nat), z = .int .i64 (f + (k : Int)) ∧ f + (k : Int) ≤ t + 1 ∧ Hid (TwL wp wr x y (hwL m 3 (dyP f 1 k)) (hwL m 2 (dyP f 1 k)))) (fun _ _ z _ => (t + 1 - intOf z).toNat)
          case atStart => exact ⟨0, by simp, by omega, T0⟩
          case round =>
            obtain ⟨k, rfl, hk, HT⟩ := hrel
            clear T0
            have Ir := hide (I6.out.ext HT.out.b)
            obtain ⟨⟨z0, z1⟩, ⟨c0, c1, c2⟩, d0, d1, d2, d3, d4⟩ := Ir.out.cs
            have hln := dyP_len f 1 k
            have hl3 := hwL_len m 3 (dyP f 1 k)
            have hl2 := hwL_len m 2 (dyP f 1 k)
            by_cases hle : f + (k : Int) ≤ t
            · as_aux_lemma =>
              have hsu := dyP_succ f 1 k
              rw [Int.one_mul] at hsu
              have h3y := fun e => hwL_yes (m := m) (h := 3) (x := f + (k : Int)) (l := dyP f 1 k) e
              have h3n := fun e => hwL_no (m := m) (h := 3) (x := f + (k : Int)) (l := dyP f 1 k) e
              have h2y := fun e => hwL_yes (m := m) (h := 2) (x := f + (k : Int)) (l := dyP f 1 k) e
              have h2n := fun e => hwL_no (m := m) (h := 2) (x := f + (k : Int)) (l := dyP f 1 k) e
              rw [← hsu] at h3y h3n h2y h2n
              have HF1 := hide (HRF.out (f + (k : Int)) (by omega) (by omega))
              obtain ⟨fd, hfd⟩ : ∃ x, (flF m (f + (k : Int))).1 = x := ⟨_, rfl⟩
              obtain ⟨fh, hfh⟩ : ∃ x, (flF m (f + (k : Int))).2 = x := ⟨_, rfl⟩
              rw [hfd, hfh] at HF1
              rw [hfh] at h3y h3n h2y h2n
              obtain ⟨l3, h3l⟩ : ∃ x, hwL m 3 (dyP f 1 k) = x := ⟨_, rfl⟩
              obtain ⟨l2, h2l⟩ : ∃ x, hwL m 2 (dyP f 1 k) = x := ⟨_, rfl⟩
              rw [h3l] at h3y h3n HT hl3
              rw [h2l] at h2y h2n HT hl2
              obtain ⟨x, hx⟩ : ∃ x, f + (k : Int) = x := ⟨_, rfl⟩
              have hk2 : k ≤ 1001 := by omega
              rw [hln] at hl3 hl2
              rw [hx] at HF1 hle hk h3y h2y ⊢
              have HX := hide hx
              have hx0 : 0 ≤ x := by omega
              clear hx hfd hfh HRF h3l h2l hsu
              go_wp2_with fail
              (with_reducible refine (HF1.out _).mono ?_)
              rintro e w8 ⟨rfl, hb⟩
              have HT8 := hide (HT.out.ext hb)
              have Ir8 := hide (Ir.out.ext hb)
              clear hb HT Ir
              clear z0 z1 c0 c1 c2 d0 d1 d2 d3 d4
              obtain ⟨⟨z0, z1⟩, ⟨c0, c1, c2⟩, d0, d1, d2, d3, d4⟩ := Ir8.out.cs
              by_cases h3 : fh = 3
              · have hq : (fh == 3) = true := by rw [h3]; rfl
                obtain ⟨v', w', hr, hT'⟩ := HT8.out.push x (by omega)
                have HRUN := hide hr
                have HT9 := hide hT'
                rw [← h3y h3, ← h2n (by omega)] at HT9
                clear hr hT' h3y h3n h2y h2n HT8 h3
                go_wp2_with (at_builtin; refine wpList_append_run rfl (.tmp 192) (.tmp 194) 26 rfl rfl rfl HRUN.out ?_)
                go_roundw
                case rel => exact ⟨k + 1, congrArg (Value.int .i64) (by have := HX.out; omega), by have := HX.out; omega, HT9⟩
                case measure => simp [intOf]; omega
              · have hq : (fh == 3) = false := by rw [beq_eq_false_iff_ne]; exact h3
                by_cases h2 : fh = 2
                · have hq2 : (fh == 2) = true := by rw [h2]; rfl
                  obtain ⟨v', w', hr, hT'⟩ := HT8.out.swap.push x (by omega)
                  have HRUN := hide hr
                  have HT9 := hide hT'.swap
                  rw [← h2y h2, ← h3n h3] at HT9
                  clear hr hT' h3y h3n h2y h2n HT8 h3 h2
                  go_wp2_with (at_builtin; refine wpList_append_run rfl (.tmp 198) (.tmp 200) 26 rfl rfl rfl HRUN.out ?_)
                  go_roundw
                  case rel => exact ⟨k + 1, congrArg (Value.int .i64) (by have := HX.out; omega), by have := HX.out; omega, HT9⟩
                  case measure => simp [intOf]; omega
                · have hq2 : (fh == 2) = false := by rw [beq_eq_false_iff_ne]; exact h2
                  have HT9 := HT8
                  rw [← h2n h2, ← h3n h3] at HT9
                  clear h3y h3n h2y h2n HT8 h3 h2
                  go_wp2_with fail
                  go_roundw
                  case rel => exact ⟨k + 1, congrArg (Value.int .i64) (by have := HX.out; omega), by have := HX.out; omega, HT9⟩
                  case measure => simp [intOf]; omega
            · as_aux_lemma =>
              obtain rfl : k = (t - f + 1).toNat := by omega
              rw [HU1.out, HU2.out] at HT
              obtain ⟨B1, e1, hv1⟩ := own_shape HT.out.o1
              obtain ⟨B2, e2, hv2⟩ := own_shape HT.out.o2
              subst hv1 hv2
              have L17 := hide (L16.out.ext HT.out.b)
              have L27 := hide (L26.out.ext HT.out.b)
              have HS1 := hide (lsame_any A1 B1 k1 e1 U1 U1 wr (by unfold maxLen; omega) (by unfold maxLen; omega) L17.out.r (own_li HT.out.o1).r)
              rw [decide_eq_true rfl] at HS1
              have O2 := hide (own_li HT.out.o2)
              clear hl3 hl2 hln HU1 HU2 HRF HT L16 L26
              go_wp2_with fail
              (with_reducible refine HS1.out.mono ?_)
              rintro e w9 ⟨rfl, hb⟩
              have Ir9 := hide (Ir.out.ext hb)
              have HS2 := hide (lsame_any A2 B2 k2 e2 U2 U2 w9 (by unfold maxLen; omega) (by unfold maxLen; omega) (L27.out.ext hb).r (O2.out.ext hb).r)
              rw [decide_eq_true rfl] at HS2
              clear hb HS1 O2 L17 L27 Ir
              clear z0 z1 c0 c1 c2 d0 d1 d2 d3 d4
              go_wp2_with fail
              (with_reducible refine HS2.out.mono ?_)
              rintro e w10 ⟨rfl, hb⟩
              have Ir10 := hide (Ir9.out.ext hb)
              clear hb Ir9 HS2
              go_wp2_with fail
              refine (HKN.out _ Ir10.out.b).mono ?_
              rintro e w20 ⟨rfl, hb⟩
              have B20 := hide (Ir10.out.b.trans (hb.mono Ir10.out.b.size))
              clear hb
              go_wp2_with fail
              go_ret
              exact ⟨rfl, B20.out⟩
end Go.Proofs.YtlkkkgpcjdemdaaDoor
namespace Go.Proofs.YtlkkkgpcjdemdaaDoor.songNexts
open Go Go.ChangeShapes Go.WideShapes Go.ChangeAt Go.RowKit
set_option maxRecDepth 100000 in
theorem lifted (os : Os) (started : os.Started) (H : Type) (enc : TypeId × Value → H) :
    ReturnsInHanded {} Tryd.checked os 8 .any (fun w args => (Rows.songNextsSpec.pre enc Tryd.prog Tryd.f8 Rows.songNextsRow.domain false w args ∧ laidMetH Tryd.prog Rows.songNextsRow.laid w) ∧ sizedMet enc Tryd.prog Tryd.f8 (OpenSpec.ofChange Rows.songNextsSpec) false w args)
      (Rows.songNextsSpec.post enc Tryd.prog Tryd.f8 false true false false) := by
  refine rih_and_shaped (C := Tryd.checked) (X := fun w _ => laidMetH Tryd.prog Rows.songNextsRow.laid w) (fun _ _ _ hh h => h.of_heap hh) own_knob started (by kernel_rfl) Tryd.func8
    (ChangeSpec.witness_shaped (enc := enc) (C := Tryd.checked) (os := os) (X := fun w _ => laidMetH Tryd.prog Rows.songNextsRow.laid w) false (World.laidAll Tryd.prog os Rows.songNextsRow.laid) #[.agg #[.int .i64 0, .int .i64 0, .int .i64 0], .agg #[.int .i64 0, .int .i64 0, .int .i64 0, .bool false, .int .i64 0]] 8 (World.laidAll_os _ _ _)
      (World.shaped_of_ZipB (by kernel_rfl) (by kernel_rfl)) (by kernel_rfl) (by kernel_rfl) (by kernel_rfl)
      (by rw [MakeChecks.laidMetH_plain _ _ _ (by kernel_rfl)]; exact laidMet_laidAll _ (by kernel_rfl) (by kernel_rfl))) ?_
  intro W base args ds gs before hval0 hW hsh _
  have hval : ∀ (j : Nat) t v, Tryd.f8.params[j]? = some t → args[j]? = some v → Value.okWide Tryd.prog W .any base t v := hval0
  have hW' := hW
  have hlt : ∀ p ∈ before, p.block < W.heap.size := fun p hp => hW.lt p hp
  obtain ⟨p, q, hA0, hV, rfl, hfz, hnd⟩ := hW
  have hA : DataW.TrodAll enc Tryd.prog W 0 (fun _ => true) true Tryd.f8.params.toList args.toList ds p := hA0
  rw [Tryd.params8] at hA hval
  obtain ⟨v0, vs0, d0, ds0, p0, q0, hargs, rfl, rfl, h0, r0⟩ := trodAll_cons hA
  obtain ⟨v1, vs1, d1, ds1, p1, q1, rfl, rfl, rfl, h1, r1⟩ := trodAll_cons r0
  obtain ⟨rfl, rfl, rfl⟩ := trodAll_nil r1
  obtain rfl : args = #[v0, v1] := by cases args; simp_all
  obtain ⟨rfl, rfl⟩ := trodVars_none hV
  have k0 := hval 0 47 v0 rfl rfl
  have k1 := hval 1 75 v1 rfl rfl
  obtain ⟨a0, b0, c0, rfl⟩ := open_moon k0 h0
  obtain ⟨f, t, d, dk, n, rfl⟩ := open_asked k1 h1
  have hM := ml_shaped hsh
  clear hA0 hval0
  refine (nexts_any ⟨a0, b0, c0⟩ f t d dk n W hM).mono fun e W' ⟨he, hb⟩ => ?_
  subst he
  exact ⟨_, rfl, law_post hW' hb rfl rfl (by kernel_rfl) ⟨rfl, rfl, rfl⟩⟩
theorem over : Rows.songNextsRow.holds Tryd.pinned (OpenSpec.ofChange Rows.songNextsSpec) :=
  OpenClaim.holds_of_wide 8 Tryd.f8 rfl rfl rfl rfl rfl rfl rfl ⟨rfl, rfl, rfl, rfl, rfl⟩ rfl rfl rfl rfl rfl (by kernel_rfl) Tryd.func8 (by kernel_rfl)
    (of_decide_eq_true (by kernel_rfl)) (by unfold Func.isWrapper; first | (rw [if_pos (by decide +kernel)]; kernel_rfl) | (rw [if_neg (by decide +kernel)]; exact ⟨rfl, rfl⟩))
    (fun os started H enc _ => lifted os started H enc)
theorem proved : Rows.SongNextsCardSaid :=
  Claim7.holds_tied_plain_at .later [] [.data, .pinned] true (true, "9c6a2fb55d1ffce8605a7bddf74f81652897d337daff0ed6fd4b428e7e7989a8") false over (fun _ h => by cases h) (by kernel_rfl) (fun _ h => by cases h) songNexts_row_tie rfl ⟨rfl, rfl⟩ (by kernel_rfl) rfl
    (fun f fn hf hfn => by
      obtain rfl : f = 8 := Option.some.inj ((show Tryd.prog.funcNamed "chiti/chitilaw10.SongNexts" = some 8 by kernel_rfl).symm.trans hf) |>.symm
      obtain rfl : fn = Tryd.f8 := (Option.some.inj (Tryd.func8.symm.trans hfn)).symm
      exact ⟨by kernel_rfl, fun j t ht => by
        rw [Tryd.params8] at ht
        have hm : t ∈ ([47, 75] : List TypeId) := by simpa using Array.mem_of_getElem? ht
        have hall : (([47, 75] : List TypeId).all fun u => !Tryd.prog.wantsStandIn u) = true := by kernel_rfl
        exact (show Tryd.prog.wantsStandIn t = false by simpa using List.all_eq_true.1 hall t hm)⟩)
    (by kernel_rfl)
#print axioms proved
end Go.Proofs.YtlkkkgpcjdemdaaDoor.songNexts
