/- Contracts of chapter 8: Moulds and the reference's Moulds. -/
import Derived.Test.YtlhekifmkkgjlaaKf
set_option linter.unusedSimpArgs false
set_option linter.unusedVariables false
set_option linter.unnecessarySimpa false
namespace Go.Proofs.Ytlhekifmkkgjlaa
open Go Go.RowKit
set_option maxHeartbeats 400000

theorem Moulds_err1 (wl wh dl dh fl fh : Int) (w : World) (hcl : clB dl dh fl fh = false) :
    Calls Try.prog 21 #[.agg #[.int .i64 wl, .int .i64 wh], .agg #[.int .i64 dl, .int .i64 dh, .int .i64 fl, .int .i64 fh]] w fun e w' => e = .returned (.tuple #[.agg #[.int .i64 0, .int .i64 0], .int .i64 2]) ∧ Below w.heap.size w w' := by
  have HC := hide (fun W => isClay_any dl dh fl fh W)
  rw [hcl] at HC
  clear hcl
  have b0 : Below w.heap.size w (((w.alloc (.cells #[.int .i64 wl, .int .i64 wh] 25)).alloc (.cells #[.int .i64 dl, .int .i64 dh, .int .i64 fl, .int .i64 fh] 40)).alloc (.cells #[.int .i64 0, .int .i64 0] 25)) := (((Below.refl _ w).alloc (Nat.le_refl _) _).alloc (by simp) _).alloc (by simp only [World.size_alloc]; omega) _
  have k0 := Blk.new ((w.alloc (.cells #[.int .i64 wl, .int .i64 wh] 25)).alloc (.cells #[.int .i64 dl, .int .i64 dh, .int .i64 fl, .int .i64 fh] 40)) 25 #[.int .i64 0, .int .i64 0]
  have s0 := ((Blk.new w 25 #[.int .i64 wl, .int .i64 wh]).alloc (.cells #[.int .i64 dl, .int .i64 dh, .int .i64 fl, .int .i64 fh] 40)).alloc (.cells #[.int .i64 0, .int .i64 0] 25)
  have c0 := (Blk.new (w.alloc (.cells #[.int .i64 wl, .int .i64 wh] 25)) 40 #[.int .i64 dl, .int .i64 dh, .int .i64 fl, .int .i64 fh]).alloc (.cells #[.int .i64 0, .int .i64 0] 25)
  simp only [World.size_alloc] at k0 c0 s0
  have B0 := hide b0
  have K0 := hide k0
  have C0 := hide c0
  have S0 := hide s0
  clear b0 k0 c0 s0
  go_enter Try.func21, Try.ntmps21
  go_wp2_with fail
  refine (HC.out _).mono ?_
  rintro e w1 ⟨rfl, hb1⟩
  have hB := B0.out.trans (hb1.mono (by simp only [World.size_alloc]; omega))
  obtain ⟨z1, r0, r1, r2, r3⟩ := blk2 (K0.out.ext hb1)
  go_wp2_with fail
  refine bodyPost_ret (v := .tuple #[.agg #[.int .i64 0, .int .i64 0], .int .i64 2]) (by simp [results, Try.results21, go_sem, *]) rfl ⟨rfl, ?_⟩
  exact set2B hB (by omega) _ _
theorem Moulds_err2 (wl wh dl dh fl fh : Int) (w : World) (hcl : clB dl dh fl fh = true) (hs : spB wl wh 0 1000000 = false) :
    Calls Try.prog 21 #[.agg #[.int .i64 wl, .int .i64 wh], .agg #[.int .i64 dl, .int .i64 dh, .int .i64 fl, .int .i64 fh]] w fun e w' => e = .returned (.tuple #[.agg #[.int .i64 0, .int .i64 0], .int .i64 3]) ∧ Below w.heap.size w w' := by
  have HC := hide (fun W => isClay_any dl dh fl fh W)
  have HS := hide (fun W => isSpread_any wl wh 0 1000000 W)
  rw [hcl] at HC
  rw [hs] at HS
  clear hcl hs
  have b0 : Below w.heap.size w (((w.alloc (.cells #[.int .i64 wl, .int .i64 wh] 25)).alloc (.cells #[.int .i64 dl, .int .i64 dh, .int .i64 fl, .int .i64 fh] 40)).alloc (.cells #[.int .i64 0, .int .i64 0] 25)) := (((Below.refl _ w).alloc (Nat.le_refl _) _).alloc (by simp) _).alloc (by simp only [World.size_alloc]; omega) _
  have k0 := Blk.new ((w.alloc (.cells #[.int .i64 wl, .int .i64 wh] 25)).alloc (.cells #[.int .i64 dl, .int .i64 dh, .int .i64 fl, .int .i64 fh] 40)) 25 #[.int .i64 0, .int .i64 0]
  have s0 := ((Blk.new w 25 #[.int .i64 wl, .int .i64 wh]).alloc (.cells #[.int .i64 dl, .int .i64 dh, .int .i64 fl, .int .i64 fh] 40)).alloc (.cells #[.int .i64 0, .int .i64 0] 25)
  have c0 := (Blk.new (w.alloc (.cells #[.int .i64 wl, .int .i64 wh] 25)) 40 #[.int .i64 dl, .int .i64 dh, .int .i64 fl, .int .i64 fh]).alloc (.cells #[.int .i64 0, .int .i64 0] 25)
  simp only [World.size_alloc] at k0 c0 s0
  have B0 := hide b0
  have K0 := hide k0
  have C0 := hide c0
  have S0 := hide s0
  clear b0 k0 c0 s0
  go_enter Try.func21, Try.ntmps21
  go_wp2_with fail
  refine (HC.out _).mono ?_
  rintro e w1 ⟨rfl, hb1⟩
  have hB := B0.out.trans (hb1.mono (by simp only [World.size_alloc]; omega))
  obtain ⟨y1, y2, y3, _, _⟩ := blk2 (S0.out.ext hb1)
  have K1 := hide (K0.out.ext hb1)
  go_wp2_with fail
  refine (HS.out _).mono ?_
  rintro e w2 ⟨rfl, hb2⟩
  have hB2 := hB.trans (hb2.mono hB.size)
  obtain ⟨z1, r0, r1, r2, r3⟩ := blk2 (K1.out.ext hb2)
  go_wp2_with fail
  refine bodyPost_ret (v := .tuple #[.agg #[.int .i64 0, .int .i64 0], .int .i64 3]) (by simp [results, Try.results21, go_sem, *]) rfl ⟨rfl, ?_⟩
  exact set2B hB2 (by omega) _ _
def mLo (wl dh fh : Int) (i : Nat) : Bool := decide (wl ≤ shLo ((i : Int) + 1) dh fh)
def mHi (wh dl fl : Int) (i : Nat) : Bool := decide (wh < shHi ((i : Int) + 1) dl fl)
def MouldsPost (wl wh dl dh fl fh : Int) (w : World) (e : Ending) (w' : World) : Prop :=
  ∃ a b : Nat, Least (mLo wl dh fh) 1000000 a ∧ Least (mHi wh dl fl) 1000000 b ∧ e = .returned (if a + 1 ≤ b then .tuple #[.agg #[.int .i64 ((a : Int) + 1), .int .i64 b], .int .i64 0] else .tuple #[.agg #[.int .i64 0, .int .i64 0], .int .i64 7]) ∧ Below w.heap.size w w'
theorem Moulds_ok (wl wh dl dh fl fh : Int) (w : World) (hcl : clB dl dh fl fh = true) (hs : spB wl wh 0 1000000 = true) :
    Calls Try.prog 21 #[.agg #[.int .i64 wl, .int .i64 wh], .agg #[.int .i64 dl, .int .i64 dh, .int .i64 fl, .int .i64 fh]] w (MouldsPost wl wh dl dh fl fh w) := by
  have HC := hide (fun W => isClay_any dl dh fl fh W)
  have HS := hide (fun W => isSpread_any wl wh 0 1000000 W)
  have H1 := hide (fun W i p q (h2 : i ≤ 1000000) c => moulds1_any i dl dh fl fh wl wh p q W h2 hcl c)
  have H2 := hide (fun W i p q (h2 : i ≤ 1000000) c => moulds2_any i dl dh fl fh wl wh p q W h2 hcl c)
  have HL := hide ((clB_iff _ _ _ _).1 hcl)
  rw [hcl] at HC
  rw [hs] at HS
  clear hcl hs
  have b0 : Below w.heap.size w (((w.alloc (.cells #[.int .i64 wl, .int .i64 wh] 25)).alloc (.cells #[.int .i64 dl, .int .i64 dh, .int .i64 fl, .int .i64 fh] 40)).alloc (.cells #[.int .i64 0, .int .i64 0] 25)) := (((Below.refl _ w).alloc (Nat.le_refl _) _).alloc (by simp) _).alloc (by simp only [World.size_alloc]; omega) _
  have k0 := Blk.new ((w.alloc (.cells #[.int .i64 wl, .int .i64 wh] 25)).alloc (.cells #[.int .i64 dl, .int .i64 dh, .int .i64 fl, .int .i64 fh] 40)) 25 #[.int .i64 0, .int .i64 0]
  have s0 := ((Blk.new w 25 #[.int .i64 wl, .int .i64 wh]).alloc (.cells #[.int .i64 dl, .int .i64 dh, .int .i64 fl, .int .i64 fh] 40)).alloc (.cells #[.int .i64 0, .int .i64 0] 25)
  have c0 := (Blk.new (w.alloc (.cells #[.int .i64 wl, .int .i64 wh] 25)) 40 #[.int .i64 dl, .int .i64 dh, .int .i64 fl, .int .i64 fh]).alloc (.cells #[.int .i64 0, .int .i64 0] 25)
  simp only [World.size_alloc] at k0 c0 s0
  have B0 := hide b0
  have K0 := hide k0
  have C0 := hide c0
  have S0 := hide s0
  clear b0 k0 c0 s0
  go_enter Try.func21, Try.ntmps21
  go_wp2_with fail
  refine (HC.out _).mono ?_
  rintro e w1 ⟨rfl, hb1⟩
  have hB := B0.out.trans (hb1.mono (by simp only [World.size_alloc]; omega))
  have S1 := hide (S0.out.ext hb1)
  have C1 := hide (C0.out.ext hb1)
  have K1 := hide (K0.out.ext hb1)
  obtain ⟨y1, y2, y3, _, _⟩ := blk2 S1.out
  go_wp2_with fail
  refine (HS.out _).mono ?_
  rintro e w2 ⟨rfl, hb2⟩
  have hB2 := hB.trans (hb2.mono hB.size)
  have S2 := hide (S1.out.ext hb2)
  have C2 := hide (C1.out.ext hb2)
  have K2 := hide (K1.out.ext hb2)
  clear y1 y2 y3
  go_wp2_with fail
  refine (search_any 64 #[.pointer (some ⟨w.heap.size + 1, 0, none⟩), .pointer (some ⟨w.heap.size, 0, none⟩)] (mLo wl dh fh) 1000000 _ (by omega) ?_ (enters_of Try.func64 (by kernel_rfl) rfl) ?_).mono ?_
  · intro i j hij _ h
    have := shLo_mono (s := (i : Int) + 1) (t := (j : Int) + 1) (d := dh) (f := fh) (by omega) (by have := HL.out; omega) (by have := HL.out; omega)
    simp only [mLo, decide_eq_true_eq] at *
    omega
  · intro W k hk hB
    obtain ⟨g1, g2, g3, _, _⟩ := blk2 (S2.out.ext hB)
    obtain ⟨g4, g5, g6, g7, g8⟩ := blk4 (C2.out.ext hB)
    exact H1.out W k _ _ (by omega) g5 g6 g7 g8 g2 g3 g4 g1
  rintro e w3 ⟨a, rfl, hL1, hb3⟩
  have HL1 := hide hL1
  have ha := hL1.1
  clear hL1
  have hB3 := hB2.trans (hb3.mono hB2.size)
  have S3 := hide (S2.out.ext hb3)
  have C3 := hide (C2.out.ext hb3)
  have K3 := hide (K2.out.ext hb3)
  go_wp2_with fail
  refine (search_any 65 #[.pointer (some ⟨w.heap.size + 1, 0, none⟩), .pointer (some ⟨w.heap.size, 0, none⟩)] (mHi wh dl fl) 1000000 _ (by omega) ?_ (enters_of Try.func65 (by kernel_rfl) rfl) ?_).mono ?_
  · intro i j hij _ h
    have := shHi_mono (s := (i : Int) + 1) (t := (j : Int) + 1) (d := dl) (f := fl) (by omega) (by have := HL.out; omega) (by have := HL.out; omega)
    simp only [mHi, decide_eq_true_eq] at *
    omega
  · intro W k hk hB
    obtain ⟨g1, g2, g3, _, _⟩ := blk2 (S3.out.ext hB)
    obtain ⟨g4, g5, g6, g7, g8⟩ := blk4 (C3.out.ext hB)
    exact H2.out W k _ _ (by omega) g5 g6 g7 g8 g2 g3 g4 g1
  rintro e w4 ⟨b, rfl, hL2, hb4⟩
  have HL2 := hide hL2
  have hbb := hL2.1
  clear hL2
  have hB4 := hB3.trans (hb4.mono hB3.size)
  obtain ⟨z1, r0, r1, r2, r3⟩ := blk2 (K3.out.ext hb4)
  by_cases hab : a + 1 ≤ b
  · have hab' : ¬ ((b : Int) < 1 + (a : Int)) := by omega
    go_wp2_with fail
    refine bodyPost_ret (v := .tuple #[.agg #[.int .i64 ((a : Int) + 1), .int .i64 b], .int .i64 0]) (by simp [results, Try.results21, go_sem, *]; omega) rfl ⟨a, b, HL1.out, HL2.out, by rw [if_pos hab], ?_⟩
    exact set2B hB4 (by omega) _ _
  · go_wp2_with fail
    refine bodyPost_ret (v := .tuple #[.agg #[.int .i64 0, .int .i64 0], .int .i64 7]) (by simp [results, Try.results21, go_sem, *]) rfl ⟨a, b, HL1.out, HL2.out, by rw [if_neg hab], ?_⟩
    exact set2B hB4 (by omega) _ _
def RefMouldsPost (wl wh dl dh fl fh : Int) (w : World) (e : Ending) (w' : World) : Prop :=
  ∃ a b : Nat, Least (mLo wl dh fh) 1000000 a ∧ Least (mHi wh dl fl) 1000000 b ∧ e = .returned (.tuple #[.agg #[.int .i64 ((a : Int) + 1), .int .i64 b], .bool (decide (a + 1 ≤ b))]) ∧ Below w.heap.size w w'
theorem refMoulds_ok (wl wh dl dh fl fh : Int) (w : World) (hcl : clB dl dh fl fh = true) :
    Calls Try.prog 24 #[.agg #[.int .i64 wl, .int .i64 wh], .agg #[.int .i64 dl, .int .i64 dh, .int .i64 fl, .int .i64 fh]] w (RefMouldsPost wl wh dl dh fl fh w) := by
  have HC := hide (fun W (s : Nat) (h : s ≤ 2000000) => refShrunk_any s dl dh fl fh W (by omega) (by omega) hcl)
  have HL := hide ((clB_iff _ _ _ _).1 hcl)
  clear hcl
  have b0 : Below w.heap.size w (((w.alloc (.cells #[.int .i64 wl, .int .i64 wh] 25)).alloc (.cells #[.int .i64 dl, .int .i64 dh, .int .i64 fl, .int .i64 fh] 40)).alloc (.cells #[.int .i64 0, .int .i64 0] 25)) := (((Below.refl _ w).alloc (Nat.le_refl _) _).alloc (by simp) _).alloc (by simp only [World.size_alloc]; omega) _
  have k0 := Blk.new ((w.alloc (.cells #[.int .i64 wl, .int .i64 wh] 25)).alloc (.cells #[.int .i64 dl, .int .i64 dh, .int .i64 fl, .int .i64 fh] 40)) 25 #[.int .i64 0, .int .i64 0]
  have s0 := ((Blk.new w 25 #[.int .i64 wl, .int .i64 wh]).alloc (.cells #[.int .i64 dl, .int .i64 dh, .int .i64 fl, .int .i64 fh] 40)).alloc (.cells #[.int .i64 0, .int .i64 0] 25)
  have c0 := (Blk.new (w.alloc (.cells #[.int .i64 wl, .int .i64 wh] 25)) 40 #[.int .i64 dl, .int .i64 dh, .int .i64 fl, .int .i64 fh]).alloc (.cells #[.int .i64 0, .int .i64 0] 25)
  simp only [World.size_alloc] at k0 c0 s0
  have B0 := hide b0
  have K0 := hide k0
  have C0 := hide c0
  have S0 := hide s0
  clear b0 k0 c0 s0
  go_enter Try.func24, Try.ntmps24
  go_wp2_with fail
  go_loopw [6, 7] (fun i j wr => ∃ a b : Nat, i = .int .i64 ((a : Int) + 1) ∧ j = .int .i64 ((b : Int) + 1) ∧ a ≤ b ∧ b ≤ 1000000 ∧ Hid ((∀ i : Nat, i < a → mLo wl dh fh i = false) ∧ (b < 1000000 → mLo wl dh fh b = true)) ∧ Hid (Blk wr w.heap.size 25 #[.int .i64 wl, .int .i64 wh]) ∧ Hid (Blk wr (w.heap.size + 1) 40 #[.int .i64 dl, .int .i64 dh, .int .i64 fl, .int .i64 fh]) ∧ Hid (Blk wr (w.heap.size + 1 + 1) 25 #[.int .i64 0, .int .i64 0]) ∧ Below w.heap.size w wr) (fun i j _ => (intOf j).toNat - (intOf i).toNat)
  case atStart => exact ⟨0, 1000000, rfl, rfl, by omega, by omega, hide ⟨fun i hi => absurd hi (by omega), fun h => absurd h (by omega)⟩, S0, C0, K0, B0.out⟩
  case round =>
    obtain ⟨a, b, rfl, rfl, hab, hbn, H, S1, C1, K1, hB⟩ := hrel
    obtain ⟨g1, g2, g3, _, _⟩ := blk2 S1.out
    obtain ⟨g4, g5, g6, g7, g8⟩ := blk4 C1.out
    by_cases hlt : a < b
    · obtain ⟨h, hh⟩ : ∃ h : Nat, h = (a + b) / 2 := ⟨_, rfl⟩
      have e1 : ((a : Int) + 1 + ((b : Int) + 1)) / 2 = (h : Int) + 1 := by omega
      have l1 : a ≤ h := by omega
      have l2 : h < b := by omega
      clear hh
      have E1 := hide e1
      clear e1
      go_wp2_with fail
      simp only [E1.out]
      cases hm : mLo wl dh fh h
      · have HM := hide hm
        have hd : decide (wl ≤ shLo ((h : Int) + 1) dh fh) = false := hm
        clear hm
        go_region_held3 (fun W => W.cell? ⟨w.heap.size + 1, 0, none⟩ = some (.int .i64 dl) ∧ W.cell? ⟨w.heap.size + 1, 1, none⟩ = some (.int .i64 dh) ∧ W.cell? ⟨w.heap.size + 1, 2, none⟩ = some (.int .i64 fl) ∧ W.cell? ⟨w.heap.size + 1, 3, none⟩ = some (.int .i64 fh) ∧ W.cell? ⟨w.heap.size, 0, none⟩ = some (.int .i64 wl)) (first | go_keep | exact ⟨(hb1.cell (p := ⟨w.heap.size + 1, 0, none⟩) g4).trans g5, (hb1.cell (p := ⟨w.heap.size + 1, 1, none⟩) g4).trans g6, (hb1.cell (p := ⟨w.heap.size + 1, 2, none⟩) g4).trans g7, (hb1.cell (p := ⟨w.heap.size + 1, 3, none⟩) g4).trans g8, (hb1.cell (p := ⟨w.heap.size, 0, none⟩) g1).trans g2⟩) ((go_at_call 23; refine (HC.out _ (h + 1) (by omega)).mono ?_; rintro e w1 ⟨rfl, hb1⟩))
        go_wp2_with fail
        go_roundw
        case rel =>
          refine ⟨h + 1, b, by go_num, rfl, by omega, by omega, hide ⟨fun i hi => ?_, H.out.2⟩, hide (S1.out.drew.ext hb1), hide (C1.out.drew.ext hb1), hide (K1.out.drew.ext hb1), hB.drew.trans (hb1.mono hB.size)⟩
          rcases hpi : mLo wl dh fh i with _ | _
          · rfl
          · have := shLo_mono (s := (i : Int) + 1) (t := (h : Int) + 1) (d := dh) (f := fh) (by omega) (by have := HL.out; omega) (by have := HL.out; omega)
            have h7 := HM.out
            simp only [mLo, decide_eq_true_eq, decide_eq_false_iff_not] at hpi h7
            omega
        case measure => simp [intOf]; omega
      · have HM := hide hm
        have hd : decide (wl ≤ shLo ((h : Int) + 1) dh fh) = true := hm
        clear hm
        go_region_held3 (fun W => W.cell? ⟨w.heap.size + 1, 0, none⟩ = some (.int .i64 dl) ∧ W.cell? ⟨w.heap.size + 1, 1, none⟩ = some (.int .i64 dh) ∧ W.cell? ⟨w.heap.size + 1, 2, none⟩ = some (.int .i64 fl) ∧ W.cell? ⟨w.heap.size + 1, 3, none⟩ = some (.int .i64 fh) ∧ W.cell? ⟨w.heap.size, 0, none⟩ = some (.int .i64 wl)) (first | go_keep | exact ⟨(hb1.cell (p := ⟨w.heap.size + 1, 0, none⟩) g4).trans g5, (hb1.cell (p := ⟨w.heap.size + 1, 1, none⟩) g4).trans g6, (hb1.cell (p := ⟨w.heap.size + 1, 2, none⟩) g4).trans g7, (hb1.cell (p := ⟨w.heap.size + 1, 3, none⟩) g4).trans g8, (hb1.cell (p := ⟨w.heap.size, 0, none⟩) g1).trans g2⟩) ((go_at_call 23; refine (HC.out _ (h + 1) (by omega)).mono ?_; rintro e w1 ⟨rfl, hb1⟩))
        go_wp2_with fail
        go_roundw
        case rel => exact ⟨a, h, rfl, by go_num, by omega, by omega, hide ⟨H.out.1, fun _ => HM.out⟩, hide (S1.out.drew.ext hb1), hide (C1.out.drew.ext hb1), hide (K1.out.drew.ext hb1), hB.drew.trans (hb1.mono hB.size)⟩
        case measure => simp [intOf]; omega
    · obtain rfl : a = b := by omega
      have HA : Hid (Least (mLo wl dh fh) 1000000 a) := hide ⟨by omega, H.out.1, H.out.2⟩
      clear H
      go_wp2_with fail
      obtain ⟨wo, rfl⟩ : ∃ wo : World, wo = wr := ⟨_, rfl⟩
      have S9 := hide S1.out
      clear S1 g1 g2 g3 g4 g5 g6 g7 g8
      go_loopw [6, 7] (fun i j wr => ∃ c b : Nat, i = .int .i64 c ∧ j = .int .i64 b ∧ c ≤ b ∧ b ≤ 1000000 ∧ Hid ((∀ i : Nat, i < c → mHi wh dl fl i = false) ∧ (b < 1000000 → mHi wh dl fl b = true)) ∧ Hid (Blk wr w.heap.size 25 #[.int .i64 wl, .int .i64 wh]) ∧ Hid (Blk wr (w.heap.size + 1) 40 #[.int .i64 dl, .int .i64 dh, .int .i64 fl, .int .i64 fh]) ∧ Hid (Blk wr (w.heap.size + 1 + 1) 25 #[.int .i64 0, .int .i64 0]) ∧ Below w.heap.size w wr) (fun i j _ => (intOf j).toNat - (intOf i).toNat)
      case atStart => exact ⟨0, 1000000, rfl, rfl, by omega, by omega, hide ⟨fun i hi => absurd hi (by omega), fun h => absurd h (by omega)⟩, S9, C1, K1, hB⟩
      case round =>
        clear hB C1 K1 S9
        obtain ⟨c, b, rfl, rfl, hcb, hbn2, H, S1, C1, K1, hB⟩ := hrel
        obtain ⟨g1, g2, g3, _, _⟩ := blk2 S1.out
        obtain ⟨g4, g5, g6, g7, g8⟩ := blk4 C1.out
        by_cases hlt2 : c < b
        · obtain ⟨h, hh⟩ : ∃ h : Nat, h = (c + b - 1) / 2 := ⟨_, rfl⟩
          have e1 : ((c : Int) + (b : Int) + 1) / 2 = (h : Int) + 1 := by omega
          have l1 : c ≤ h := by omega
          have l2 : h < b := by omega
          clear hh
          have E1 := hide e1
          clear e1
          go_wp2_with fail
          simp only [E1.out]
          cases hm : mHi wh dl fl h
          · have HM := hide hm
            have hd : decide (shHi ((h : Int) + 1) dl fl ≤ wh) = true := by
              have h7 := hm
              simp only [mHi, decide_eq_false_iff_not] at h7
              simp only [decide_eq_true_eq]
              omega
            clear hm
            go_region_held3 (fun W => W.cell? ⟨w.heap.size + 1, 0, none⟩ = some (.int .i64 dl) ∧ W.cell? ⟨w.heap.size + 1, 1, none⟩ = some (.int .i64 dh) ∧ W.cell? ⟨w.heap.size + 1, 2, none⟩ = some (.int .i64 fl) ∧ W.cell? ⟨w.heap.size + 1, 3, none⟩ = some (.int .i64 fh) ∧ W.cell? ⟨w.heap.size, 1, none⟩ = some (.int .i64 wh)) (first | go_keep | exact ⟨(hb1.cell (p := ⟨w.heap.size + 1, 0, none⟩) g4).trans g5, (hb1.cell (p := ⟨w.heap.size + 1, 1, none⟩) g4).trans g6, (hb1.cell (p := ⟨w.heap.size + 1, 2, none⟩) g4).trans g7, (hb1.cell (p := ⟨w.heap.size + 1, 3, none⟩) g4).trans g8, (hb1.cell (p := ⟨w.heap.size, 1, none⟩) g1).trans g3⟩) ((go_at_call 23; refine (HC.out _ (h + 1) (by omega)).mono ?_; rintro e w1 ⟨rfl, hb1⟩))
            go_wp2_with fail
            go_roundw
            case rel =>
              refine ⟨h + 1, b, by go_num, rfl, by omega, by omega, hide ⟨fun i hi => ?_, H.out.2⟩, hide (S1.out.drew.ext hb1), hide (C1.out.drew.ext hb1), hide (K1.out.drew.ext hb1), hB.drew.trans (hb1.mono hB.size)⟩
              rcases hpi : mHi wh dl fl i with _ | _
              · rfl
              · have := shHi_mono (s := (i : Int) + 1) (t := (h : Int) + 1) (d := dl) (f := fl) (by omega) (by have := HL.out; omega) (by have := HL.out; omega)
                have h7 := HM.out
                simp only [mHi, decide_eq_true_eq, decide_eq_false_iff_not] at hpi h7
                omega
            case measure => simp [intOf]; omega
          · have HM := hide hm
            have hd : decide (shHi ((h : Int) + 1) dl fl ≤ wh) = false := by
              have h7 := hm
              simp only [mHi, decide_eq_true_eq] at h7
              simp only [decide_eq_false_iff_not]
              omega
            clear hm
            go_region_held3 (fun W => W.cell? ⟨w.heap.size + 1, 0, none⟩ = some (.int .i64 dl) ∧ W.cell? ⟨w.heap.size + 1, 1, none⟩ = some (.int .i64 dh) ∧ W.cell? ⟨w.heap.size + 1, 2, none⟩ = some (.int .i64 fl) ∧ W.cell? ⟨w.heap.size + 1, 3, none⟩ = some (.int .i64 fh) ∧ W.cell? ⟨w.heap.size, 1, none⟩ = some (.int .i64 wh)) (first | go_keep | exact ⟨(hb1.cell (p := ⟨w.heap.size + 1, 0, none⟩) g4).trans g5, (hb1.cell (p := ⟨w.heap.size + 1, 1, none⟩) g4).trans g6, (hb1.cell (p := ⟨w.heap.size + 1, 2, none⟩) g4).trans g7, (hb1.cell (p := ⟨w.heap.size + 1, 3, none⟩) g4).trans g8, (hb1.cell (p := ⟨w.heap.size, 1, none⟩) g1).trans g3⟩) ((go_at_call 23; refine (HC.out _ (h + 1) (by omega)).mono ?_; rintro e w1 ⟨rfl, hb1⟩))
            go_wp2_with fail
            go_roundw
            case rel => exact ⟨c, h, rfl, by go_num, by omega, by omega, hide ⟨H.out.1, fun _ => HM.out⟩, hide (S1.out.drew.ext hb1), hide (C1.out.drew.ext hb1), hide (K1.out.drew.ext hb1), hB.drew.trans (hb1.mono hB.size)⟩
            case measure => simp [intOf]; omega
        · obtain rfl : c = b := by omega
          have HB : Hid (Least (mHi wh dl fl) 1000000 c) := hide ⟨by omega, H.out.1, H.out.2⟩
          clear H
          obtain ⟨z1, r0, r1, r2, r3⟩ := blk2 K1.out
          go_wp2_with fail
          refine bodyPost_ret (v := .tuple #[.agg #[.int .i64 ((a : Int) + 1), .int .i64 c], .bool (decide (a + 1 ≤ c))]) (by simp [results, Try.results24, go_sem, *]; omega) rfl ⟨a, c, HA.out, HB.out, rfl, ?_⟩
          exact set2B hB (by omega) _ _
end Go.Proofs.Ytlhekifmkkgjlaa
