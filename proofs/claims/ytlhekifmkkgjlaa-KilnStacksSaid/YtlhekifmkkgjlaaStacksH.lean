/- Chapter 8, the reference: Loads, walked. -/
import Derived.Test.YtlhekifmkkgjlaaStacksG
import Derived.Deep.CutBlock
import Derived.Deep.DeepCutAuto
set_option linter.unusedSimpArgs false
set_option linter.unusedVariables false
set_option linter.unnecessarySimpa false
namespace Go.Proofs.Ytlhekifmkkgjlaa
open Go Go.RowKit Go.Shelf
set_option maxHeartbeats 8000000
set_option maxRecDepth 100000
theorem refLoads_any (s : Stk) (w : World) (hs : StkR w w.heap.size s) (h1 : stackB s = true) (h2 : (hangF s).1 < 0) : Calls Try.prog 30 #[.agg #[.int .i64 s.wd, .int .i64 s.hg, .slice s.A s.nt s.cap]] w (RefLoadsPost s w) := by
  have HSS := hide hs
  have m0 := hs.1
  obtain ⟨i0, hi, hz0, hz1, hz2⟩ := info_parts info_load
  obtain ⟨j0, hj, hy0, hy1, hy2⟩ := info_parts info_lds
  have hfl := flr_eq h1
  have hst := (stackB_iff s).1 h1
  obtain ⟨⟨⟨d1, d2⟩, ⟨d3, d4⟩⟩, d5, -⟩ := hst
  have hmb := mul_bd (a := s.wd) (b := s.hg) (M := 12) (N := 12) (by omega) (by omega) (by omega) (by omega)
  have hf144 : flr s ≤ 144 := by omega
  have hw0 : IntKind.i64.wrap (s.wd * s.hg) = s.wd * s.hg := IntWalk.i64_in _ (by omega)
  have HGL := hide (fun (n : Nat) (hn : n ≤ 1000000) (W : World) => (show _ from by
    have gl := run_make_rowN (P := Try.prog) 65 76 i0 _ Try.underlying65 hi hz0 .i64 .i64 n n (Nat.le_refl _) (by rw [hz2]; omega) (by omega) W
    rw [hz1] at gl
    exact gl : (Instr.makeSlice 65 (.int .i64 (n : Int)) (.int .i64 (n : Int))).run Try.prog W = .ok (.slice (some ⟨W.heap.size, 0, none⟩) n n) (W.alloc (.cells (madeCells (Value.agg #[.int .i64 0, .int .i64 0]).cells (n * 2)) 76))))
  have HGR := hide (fun (n : Nat) (hn : n ≤ 1000000) (W : World) => (show _ from by
    have gl := run_make_rowN (P := Try.prog) 64 65 j0 _ Try.underlying64 hj hy0 .i64 .i64 n n (Nat.le_refl _) (by rw [hy2]; omega) (by omega) W
    rw [hy1, rowV_made] at gl
    exact gl : (Instr.makeSlice 64 (.int .i64 (n : Int)) (.int .i64 (n : Int))).run Try.prog W = .ok (.slice (some ⟨W.heap.size, 0, none⟩) n n) (W.alloc (.cells (rowV n (fun _ => .slice none 0 0)) 65))))
  have H1 := hide h1
  have H2 := hide h2
  have HFL := hide hfl
  have hmm : s.wd * s.hg = (flr s : Int) := hfl.symm
  have g1 := HGL.out (flr s) (by omega) (w.alloc (.cells #[.int .i64 s.wd, .int .i64 s.hg, .slice s.A s.nt s.cap] 55))
  clear hs h1 h2 hi hz0 hz1 hz2 hj hy0 hy1 hy2 hfl
  go_enter Try.func30, Try.ntmps30
  go_wp2_with fail
  have HB0 : Hid (Below w.heap.size w ((w.alloc (.cells #[.int .i64 s.wd, .int .i64 s.hg, .slice s.A s.nt s.cap] 55)).alloc (.cells (madeCells #[.int .i64 0, .int .i64 0] (flr s * 2)) 76))) := hide (((Below.refl _ _).alloc (Nat.le_refl _) _).alloc (by simp) _)
  have KS0 : Hid (Blk ((w.alloc (.cells #[.int .i64 s.wd, .int .i64 s.hg, .slice s.A s.nt s.cap] 55)).alloc (.cells (madeCells #[.int .i64 0, .int .i64 0] (flr s * 2)) 76)) w.heap.size 55 #[.int .i64 s.wd, .int .i64 s.hg, .slice s.A s.nt s.cap]) := hide ((Blk.new w _ _).alloc _)
  have HP0 : Hid (OwnL ((w.alloc (.cells #[.int .i64 s.wd, .int .i64 s.hg, .slice s.A s.nt s.cap] 55)).alloc (.cells (madeCells #[.int .i64 0, .int .i64 0] (flr s * 2)) 76)) w.heap.size (.slice (some ⟨w.heap.size + 1, 0, none⟩) (flr s) (flr s)) (fillL (flr s) 0)) := hide (by
    have h := own_made (w.alloc (.cells #[.int .i64 s.wd, .int .i64 s.hg, .slice s.A s.nt s.cap] 55)) w.heap.size (flr s) (by simp) (by unfold maxLen; omega)
    simpa [Value.cells] using h)
  generalize ((w.alloc (.cells #[.int .i64 s.wd, .int .i64 s.hg, .slice s.A s.nt s.cap] 55)).alloc (.cells (madeCells #[.int .i64 0, .int .i64 0] (flr s * 2)) 76)) = W1 at HB0 KS0 HP0 ⊢
  clear g1
  go_loopw [6] (fun i wr => ∃ k : Nat, i = .int .i64 k ∧ k ≤ flr s ∧ Hid (OwnL wr w.heap.size (.slice (some ⟨w.heap.size + 1, 0, none⟩) (flr s) (flr s)) (fillL (flr s) k)) ∧ Hid (Below w.heap.size w wr) ∧ Hid (Blk wr w.heap.size 55 #[.int .i64 s.wd, .int .i64 s.hg, .slice s.A s.nt s.cap])) (fun i _ => flr s - (intOf i).toNat)
  case atStart => exact ⟨0, rfl, by omega, HP0, HB0, KS0⟩
  case round =>
    obtain ⟨k, rfl, hk, HP, HB, KS⟩ := hrel
    by_cases hlt : k < flr s
    · obtain ⟨g, cap, hv, -, hg, x1, x2, fr1, fr2⟩ := OwnL.at_ HP.out (c := k) (by rw [fillL_len hk]; exact hlt)
      injection hv with hv1 hv2 hv3
      injection hv1 with hv1
      injection hv1 with hv1
      subst hv1
      have q1 : (0 : Int) ≤ (k : Int) := by omega
      have q2 : (k : Int) < (flr s : Int) := by omega
      have HN := hide (fill_step HP.out hlt)
      clear hv2 hv3
      go_wp2_with fail
      go_roundw
      case rel => exact ⟨k + 1, by go_num, by omega, HN, hide ((HB.out.setCell (p := ⟨w.heap.size + 1, k * 2, none⟩) (by show w.heap.size ≤ w.heap.size + 1; omega) _).setCell (p := ⟨w.heap.size + 1, k * 2 + 1, none⟩) (by show w.heap.size ≤ w.heap.size + 1; omega) _), hide ((KS.out.far (p := ⟨w.heap.size + 1, k * 2, none⟩) (by show w.heap.size ≠ w.heap.size + 1; omega) _).far (p := ⟨w.heap.size + 1, k * 2 + 1, none⟩) (by show w.heap.size ≠ w.heap.size + 1; omega) _)⟩
      case measure => simp [intOf]; omega
    · obtain rfl : k = flr s := by omega
      obtain ⟨a0, a1, a2, a3, -, -, -⟩ := blk3 KS.out
      have gr := HGR.out s.nt m0 wr
      go_wp2_with fail
      have HR0 := hide (refL_start HP.out HB.out KS.out (show (flr s) ≤ 144 from hf144))
      clear gr a0 a1 a2 a3 HP HB KS HP0 HB0 KS0
      generalize hzo : wr.heap.size = zo at HR0 ⊢
      clear hzo
      generalize (wr.alloc (.cells (rowV s.nt fun _ => .slice none 0 0) 65)) = wq at HR0 ⊢
      generalize hP0 : Value.slice (some ⟨w.heap.size + 1, 0, none⟩) (flr s) (flr s) = vP at HR0 ⊢
      obtain ⟨v, hv, hR⟩ := HR0.out
      have HR := hide hR
      clear HR0 hR hP0
      subst hv
      have HOK0 : Hid ((gL s s.nt).2 = true) := hide (by show (loadsF s (flr s) (backTo s.nt s.nt)).2 = true; rw [loads_top]; rfl)
      go_loopw [5, 8] (fun p i wr => ∃ (r : Nat) (iv : Int) (v : Nat → Value), i = .int .i64 iv ∧ iv = (r : Int) - 1 ∧ r ≤ s.nt ∧ p = v s.nt ∧ Hid (RefL w s zo r v wr) ∧ Hid ((gL s r).2 = true)) (fun _ i _ => (intOf i + 1).toNat)
      case atStart => exact ⟨s.nt, _, v, rfl, rfl, by omega, rfl, HR, HOK0⟩
      case round =>
        obtain ⟨r, iv, v, rfl, hiv, hr, rfl, HR, HOK1⟩ := hrel
        by_cases h0 : r = 0
        · have hv0 : iv = -1 := by omega
          clear hiv
          subst h0 hv0
          go_wp2_with fail
          go_ret3
          exact .inr ⟨HOK1.out, zo, v, rfl, HR.out⟩
        · obtain ⟨t, ht⟩ : ∃ t : Nat, r = t + 1 := ⟨r - 1, by omega⟩
          have hv0 : iv = (t : Int) := by omega
          clear hiv h0
          subst ht hv0
          have i1 : (0 : Int) ≤ (t : Int) := by omega
          have i2 : (t : Int) < (s.nt : Int) := by omega
          have hlt : t < s.nt := by omega
          obtain ⟨tb, toff, hA, htb, hu, hvv⟩ := P2.at_ HSS.out.2.1 hlt
          obtain ⟨l1, l2, hIc, hIw⟩ := HSS.out.2.2 t hlt
          obtain ⟨f1, f2, f3, f4, f5⟩ := tier_facts H1.out hlt
          unfold Stk.u at hu
          unfold Stk.v at hvv
          have HIC := hide hIc
          have HIW := hide hIw
          have HF3 := hide f3
          have HF1 := hide f1
          have HAA := hide hA
          obtain ⟨a0, a1, a2, a3, -, -, -⟩ := blk3 HR.out.bx
          rw [hA] at a3
          have HS10 : Hid (∀ W, Below w.heap.size w W → Blk W w.heap.size 55 #[.int .i64 s.wd, .int .i64 s.hg, .slice s.A s.nt s.cap] → W.cell? ⟨w.heap.size, 2, none⟩ = some (.slice (some ⟨tb, toff, none⟩) s.nt s.cap) ∧ W.cell? ⟨tb, toff + t * 2, none⟩ = some (.slice (s.ca t) (s.cn t) (s.cc t)) ∧ W.cell? ⟨tb, toff + t * 2 + 1, none⟩ = some (.slice (s.wa t) (s.wn t) (s.wc t))) := hide (fun W hb hB => by
            obtain ⟨-, -, -, h3, -, -, -⟩ := blk3 hB
            rw [HAA.out] at h3
            exact ⟨h3, (hb.cell (p := ⟨tb, toff + t * 2, none⟩) htb).trans hu, (hb.cell (p := ⟨tb, toff + t * 2 + 1, none⟩) htb).trans hvv⟩)
          clear f1 f3 f4 hIc hIw hu hvv hA
          obtain ⟨pA, pc, hp⟩ := OwnL.shape (HR.out.fam.own s.nt (by omega))
          rw [loadsF_len] at hp
          have HPV := hide hp
          go_upto_region 10 with fail
          rw [HPV.out]
          clear a0 a1 a2 a3 hp
          go_cut [9, 10] (fun p9 p10 wc => ∃ gt gn : Nat, p9 = .pointer (some ⟨gt, 0, none⟩) ∧ p10 = .slice (some ⟨gn, 0, none⟩) (flr s) (flr s) ∧ Hid (TierL w s zo t v gt gn (fillL (flr s) 0) wc))
          case first =>
            -- BEGIN1
            have Bd := hide (Below.refl wr.heap.size wr).drew
            have HSB : Hid (∀ W, Below wr.heap.size wr W → W.cell? ⟨w.heap.size, 2, none⟩ = some (.slice (some ⟨tb, toff, none⟩) s.nt s.cap) ∧ W.cell? ⟨tb, toff + t * 2, none⟩ = some (.slice (s.ca t) (s.cn t) (s.cc t)) ∧ W.cell? ⟨tb, toff + t * 2 + 1, none⟩ = some (.slice (s.wa t) (s.wn t) (s.wc t))) := hide (fun W h => HS10.out W (HR.out.below.trans (h.mono HR.out.below.size)) (HR.out.bx.ext h))
            have HRd := hide (HR.out.ext (Below.refl _ _).drew)
            have gl1 := HGL.out (flr s) (by omega) wr.drew
            have gl2 := HGL.out (flr s) (by omega) (wr.drew.alloc (.cells #[.slice none 0 0, .slice none 0 0] 72))
            refine wp_region_J (fun W : World => W.cell? ⟨w.heap.size, 2, none⟩ = some (.slice (some ⟨tb, toff, none⟩) s.nt s.cap) ∧ W.cell? ⟨tb, toff + t * 2, none⟩ = some (.slice (s.ca t) (s.cn t) (s.cc t)) ∧ W.cell? ⟨tb, toff + t * 2 + 1, none⟩ = some (.slice (s.wa t) (s.wn t) (s.wc t))) (by kernel_rfl) ?_
            generalize wr.drew = wd at HRd Bd gl1 gl2 ⊢
            refine wpAnyJ_take 0 (v := ?_) (by first | exact hF | exact wideFn) (HSB.out _ Bd.out) rfl (by kernel_rfl) (by kernel_rfl) (by kernel_rfl) (by kernel_rfl) rfl ?_ (by first | exact fun _ _ _ h => h | exact fun _ _ _ h => hQ2 _ _ _ _ _ h) ?_
            rotate_left
            · intro W hSW
              simp only [List.getElem_toArray, List.getElem_cons_zero, List.getElem_cons_succ]
              (try dsimp only at hSW)
              go_simp
              with_reducible rfl
            (try simp only [List.getElem_toArray, List.getElem_cons_zero, List.getElem_cons_succ, Act.put, List.setIfInBounds_toArray, List.set_cons_zero, List.set_cons_succ])
            refine wpAnyJ_take 1 (v := ?_) (by first | exact hF | exact wideFn) (HSB.out _ Bd.out) rfl (by kernel_rfl) (by kernel_rfl) (by kernel_rfl) (by kernel_rfl) rfl ?_ (by first | exact fun _ _ _ h => h | exact fun _ _ _ h => hQ2 _ _ _ _ _ h) ?_
            rotate_left
            · intro W hSW
              simp only [List.getElem_toArray, List.getElem_cons_zero, List.getElem_cons_succ]
              (try dsimp only at hSW)
              go_simp
              with_reducible rfl
            (try simp only [List.getElem_toArray, List.getElem_cons_zero, List.getElem_cons_succ, Act.put, List.setIfInBounds_toArray, List.set_cons_zero, List.set_cons_succ])
            refine wpAnyJ_take 2 (v := ?_) (by first | exact hF | exact wideFn) (HSB.out _ Bd.out) rfl (by kernel_rfl) (by kernel_rfl) (by kernel_rfl) (by kernel_rfl) rfl ?_ (by first | exact fun _ _ _ h => h | exact fun _ _ _ h => hQ2 _ _ _ _ _ h) ?_
            rotate_left
            · intro W hSW
              simp only [List.getElem_toArray, List.getElem_cons_zero, List.getElem_cons_succ]
              (try dsimp only at hSW)
              go_simp
              with_reducible rfl
            (try simp only [List.getElem_toArray, List.getElem_cons_zero, List.getElem_cons_succ, Act.put, List.setIfInBounds_toArray, List.set_cons_zero, List.set_cons_succ])
            refine wpAnyJ_take 3 (v := ?_) (by first | exact hF | exact wideFn) (HSB.out _ Bd.out) rfl (by kernel_rfl) (by kernel_rfl) (by kernel_rfl) (by kernel_rfl) rfl ?_ (by first | exact fun _ _ _ h => h | exact fun _ _ _ h => hQ2 _ _ _ _ _ h) ?_
            rotate_left
            · intro W hSW
              simp only [List.getElem_toArray, List.getElem_cons_zero, List.getElem_cons_succ]
              (try dsimp only at hSW)
              go_simp
              with_reducible rfl
            (try simp only [List.getElem_toArray, List.getElem_cons_zero, List.getElem_cons_succ, Act.put, List.setIfInBounds_toArray, List.set_cons_zero, List.set_cons_succ])
            refine wpAnyJ_take 4 (v := ?_) (by first | exact hF | exact wideFn) (HSB.out _ Bd.out) rfl (by kernel_rfl) (by kernel_rfl) (by kernel_rfl) (by kernel_rfl) rfl ?_ (by first | exact fun _ _ _ h => h | exact fun _ _ _ h => hQ2 _ _ _ _ _ h) ?_
            rotate_left
            · intro W hSW
              simp only [List.getElem_toArray, List.getElem_cons_zero, List.getElem_cons_succ]
              (try dsimp only at hSW)
              go_simp
              with_reducible rfl
            (try simp only [List.getElem_toArray, List.getElem_cons_zero, List.getElem_cons_succ, Act.put, List.setIfInBounds_toArray, List.set_cons_zero, List.set_cons_succ])
            refine wpAnyJ_take 5 (v := ?_) (by first | exact hF | exact wideFn) (HSB.out _ Bd.out) rfl (by kernel_rfl) (by kernel_rfl) (by kernel_rfl) (by kernel_rfl) rfl ?_ (by first | exact fun _ _ _ h => h | exact fun _ _ _ h => hQ2 _ _ _ _ _ h) ?_
            rotate_left
            · intro W hSW
              simp only [List.getElem_toArray, List.getElem_cons_zero, List.getElem_cons_succ]
              (try dsimp only at hSW)
              go_simp
              with_reducible rfl
            (try simp only [List.getElem_toArray, List.getElem_cons_zero, List.getElem_cons_succ, Act.put, List.setIfInBounds_toArray, List.set_cons_zero, List.set_cons_succ])
            refine wpAnyJ_take 6 (v := ?_) (by first | exact hF | exact wideFn) (HSB.out _ Bd.out) rfl (by kernel_rfl) (by kernel_rfl) (by kernel_rfl) (by kernel_rfl) rfl ?_ (by first | exact fun _ _ _ h => h | exact fun _ _ _ h => hQ2 _ _ _ _ _ h) ?_
            rotate_left
            · intro W hSW
              simp only [List.getElem_toArray, List.getElem_cons_zero, List.getElem_cons_succ]
              (try dsimp only at hSW)
              go_simp
              with_reducible rfl
            (try simp only [List.getElem_toArray, List.getElem_cons_zero, List.getElem_cons_succ, Act.put, List.setIfInBounds_toArray, List.set_cons_zero, List.set_cons_succ])
            refine wpAnyJ_two 7 8 rfl rfl (by kernel_rfl) (fun K hK => ?_) (fun K hK => ?_)
            · have hB1 := hide (Bd.out.alloc Bd.out.size (.cells (madeCells #[.int .i64 0, .int .i64 0] (flr s * 2)) 76))
              simp only [List.getElem_toArray, List.getElem_cons_zero, List.getElem_cons_succ]
              go_simp
              refine hK.out _ _ (fun _ => HSB.out _ hB1.out) ?_
              clear hK K
              (try simp only [List.getElem_toArray, List.getElem_cons_zero, List.getElem_cons_succ, Act.put, List.setIfInBounds_toArray, List.set_cons_zero, List.set_cons_succ])
              refine wpAnyJ_one 8 rfl (by kernel_rfl) (fun K hK => ?_)
              have hB2 := hide (hB1.out.alloc hB1.out.size (.cells #[.slice none 0 0, .slice none 0 0] 72))
              simp only [List.getElem_toArray, List.getElem_cons_zero, List.getElem_cons_succ]
              go_simp
              refine hK.out _ _ (fun _ => HSB.out _ hB2.out) ?_
              clear hK K
              (try simp only [List.getElem_toArray, List.getElem_cons_zero, List.getElem_cons_succ, Act.put, List.setIfInBounds_toArray, List.set_cons_zero, List.set_cons_succ])
              have hO1 := hide (World.ownsRow.alloc (show OwnL (wd.alloc (.cells (madeCells #[.int .i64 0, .int .i64 0] (flr s * 2)) 76)) w.heap.size (.slice (some ⟨wd.heap.size, 0, none⟩) (flr s) (flr s)) (fillL (flr s) 0) from by simpa [Value.cells] using own_made wd w.heap.size (flr s) HRd.out.below.size (by unfold maxLen; omega)) (.cells #[.slice none 0 0, .slice none 0 0] 72))
              have KZ : Hid (Blk ((wd.alloc (.cells (madeCells #[.int .i64 0, .int .i64 0] (flr s * 2)) 76)).alloc (.cells #[.slice none 0 0, .slice none 0 0] 72)) (wd.heap.size + 1) 72 #[.slice none 0 0, .slice none 0 0]) := hide (by simpa using Blk.new (wd.alloc (.cells (madeCells #[.int .i64 0, .int .i64 0] (flr s * 2)) 76)) 72 #[.slice none 0 0, .slice none 0 0])
              have HW2 : Hid (Below wd.heap.size wd ((wd.alloc (.cells (madeCells #[.int .i64 0, .int .i64 0] (flr s * 2)) 76)).alloc (.cells #[.slice none 0 0, .slice none 0 0] 72))) := hide (((Below.refl _ wd).alloc (Nat.le_refl _) _).alloc (by simp) _)
              generalize ((wd.alloc (.cells (madeCells #[.int .i64 0, .int .i64 0] (flr s * 2)) 76)).alloc (.cells #[.slice none 0 0, .slice none 0 0] 72)) = W2 at hO1 KZ HW2 ⊢
              have HTL := hide (tierL_start (t := t) HRd.out HW2.out hO1.out (by omega) KZ.out (by omega))
              obtain ⟨p1, p2, p3, p4, p5⟩ := blk2 KZ.out
              refine wpAnyJ_one 9 rfl (by kernel_rfl) (fun K hK => ?_)
              simp only [List.getElem_toArray, List.getElem_cons_zero, List.getElem_cons_succ]
              go_simp
              refine hK.out _ _ (fun _ => HS10.out _ HTL.out.below HTL.out.bx) ?_
              clear hK K
              (try simp only [List.getElem_toArray, List.getElem_cons_zero, List.getElem_cons_succ, Act.put, List.setIfInBounds_toArray, List.set_cons_zero, List.set_cons_succ])
              refine wpAnyJ_one 10 rfl (by kernel_rfl) (fun K hK => ?_)
              simp only [List.getElem_toArray, List.getElem_cons_zero, List.getElem_cons_succ]
              go_simp
              refine hK.out _ _ (fun h => absurd h (by rw [show lastOp _ _ _ = true from by kernel_rfl]; simp)) ?_
              clear hK K
              (try simp only [List.getElem_toArray, List.getElem_cons_zero, List.getElem_cons_succ, Act.put, List.setIfInBounds_toArray, List.set_cons_zero, List.set_cons_succ])
              refine wpAnyJ_done (by kernel_rfl) ?_
              go_wp2_with fail
              go_meet
              exact ⟨(wd.heap.size + 1), wd.heap.size, rfl, rfl, HTL⟩
            · have hB1 := hide (Bd.out.alloc Bd.out.size (.cells #[.slice none 0 0, .slice none 0 0] 72))
              simp only [List.getElem_toArray, List.getElem_cons_zero, List.getElem_cons_succ]
              go_simp
              refine hK.out _ _ (fun _ => HSB.out _ hB1.out) ?_
              clear hK K
              (try simp only [List.getElem_toArray, List.getElem_cons_zero, List.getElem_cons_succ, Act.put, List.setIfInBounds_toArray, List.set_cons_zero, List.set_cons_succ])
              refine wpAnyJ_two 7 9 rfl rfl (by kernel_rfl) (fun K hK => ?_) (fun K hK => ?_)
              · have hB2 := hide (hB1.out.alloc hB1.out.size (.cells (madeCells #[.int .i64 0, .int .i64 0] (flr s * 2)) 76))
                simp only [List.getElem_toArray, List.getElem_cons_zero, List.getElem_cons_succ]
                go_simp
                refine hK.out _ _ (fun _ => HSB.out _ hB2.out) ?_
                clear hK K
                (try simp only [List.getElem_toArray, List.getElem_cons_zero, List.getElem_cons_succ, Act.put, List.setIfInBounds_toArray, List.set_cons_zero, List.set_cons_succ])
                have hO1 := hide (show OwnL ((wd.alloc (.cells #[.slice none 0 0, .slice none 0 0] 72)).alloc (.cells (madeCells #[.int .i64 0, .int .i64 0] (flr s * 2)) 76)) w.heap.size (.slice (some ⟨wd.heap.size + 1, 0, none⟩) (flr s) (flr s)) (fillL (flr s) 0) from by simpa [Value.cells] using own_made (wd.alloc (.cells #[.slice none 0 0, .slice none 0 0] 72)) w.heap.size (flr s) (by have := HRd.out.below.size; simp; omega) (by unfold maxLen; omega))
                have KZ : Hid (Blk ((wd.alloc (.cells #[.slice none 0 0, .slice none 0 0] 72)).alloc (.cells (madeCells #[.int .i64 0, .int .i64 0] (flr s * 2)) 76)) wd.heap.size 72 #[.slice none 0 0, .slice none 0 0]) := hide ((Blk.new wd _ _).alloc _)
                have HW2 : Hid (Below wd.heap.size wd ((wd.alloc (.cells #[.slice none 0 0, .slice none 0 0] 72)).alloc (.cells (madeCells #[.int .i64 0, .int .i64 0] (flr s * 2)) 76))) := hide (((Below.refl _ wd).alloc (Nat.le_refl _) _).alloc (by simp) _)
                generalize ((wd.alloc (.cells #[.slice none 0 0, .slice none 0 0] 72)).alloc (.cells (madeCells #[.int .i64 0, .int .i64 0] (flr s * 2)) 76)) = W2 at hO1 KZ HW2 ⊢
                have HTL := hide (tierL_start (t := t) HRd.out HW2.out hO1.out (by omega) KZ.out (by omega))
                obtain ⟨p1, p2, p3, p4, p5⟩ := blk2 KZ.out
                refine wpAnyJ_one 9 rfl (by kernel_rfl) (fun K hK => ?_)
                simp only [List.getElem_toArray, List.getElem_cons_zero, List.getElem_cons_succ]
                go_simp
                refine hK.out _ _ (fun _ => HS10.out _ HTL.out.below HTL.out.bx) ?_
                clear hK K
                (try simp only [List.getElem_toArray, List.getElem_cons_zero, List.getElem_cons_succ, Act.put, List.setIfInBounds_toArray, List.set_cons_zero, List.set_cons_succ])
                refine wpAnyJ_one 10 rfl (by kernel_rfl) (fun K hK => ?_)
                simp only [List.getElem_toArray, List.getElem_cons_zero, List.getElem_cons_succ]
                go_simp
                refine hK.out _ _ (fun h => absurd h (by rw [show lastOp _ _ _ = true from by kernel_rfl]; simp)) ?_
                clear hK K
                (try simp only [List.getElem_toArray, List.getElem_cons_zero, List.getElem_cons_succ, Act.put, List.setIfInBounds_toArray, List.set_cons_zero, List.set_cons_succ])
                refine wpAnyJ_done (by kernel_rfl) ?_
                go_wp2_with fail
                go_meet
                exact ⟨wd.heap.size, (wd.heap.size + 1), rfl, rfl, HTL⟩
              · have KZ : Hid (Blk (wd.alloc (.cells #[.slice none 0 0, .slice none 0 0] 72)) wd.heap.size 72 #[.slice none 0 0, .slice none 0 0]) := hide (Blk.new wd _ _)
                have HW1 : Hid (Below wd.heap.size wd (wd.alloc (.cells #[.slice none 0 0, .slice none 0 0] 72))) := hide ((Below.refl _ wd).alloc (Nat.le_refl _) _)
                clear gl1 gl2 hB1
                generalize (wd.alloc (.cells #[.slice none 0 0, .slice none 0 0] 72)) = W2 at KZ HW1 ⊢
                obtain ⟨p1, p2, p3, p4, p5⟩ := blk2 KZ.out
                have KT := hide (KZ.out.set2 (.slice (s.ca t) (s.cn t) (s.cc t)) (.slice (s.wa t) (s.wn t) (s.wc t)))
                have HW3 : Hid (Below wd.heap.size wd ((W2.setCell ⟨wd.heap.size, 0, none⟩ (.slice (s.ca t) (s.cn t) (s.cc t))).setCell ⟨wd.heap.size, 1, none⟩ (.slice (s.wa t) (s.wn t) (s.wc t)))) := hide ((HW1.out.setCell (p := ⟨wd.heap.size, 0, none⟩) (Nat.le_refl _) _).setCell (p := ⟨wd.heap.size, 1, none⟩) (Nat.le_refl _) _)
                simp only [List.getElem_toArray, List.getElem_cons_zero, List.getElem_cons_succ]
                go_simp
                refine hK.out _ _ (fun _ => HSB.out _ (Bd.out.trans (HW3.out.mono Bd.out.size))) ?_
                clear hK K
                (try simp only [List.getElem_toArray, List.getElem_cons_zero, List.getElem_cons_succ, Act.put, List.setIfInBounds_toArray, List.set_cons_zero, List.set_cons_succ])
                clear p1 p2 p3 p4 p5
                generalize ((W2.setCell ⟨wd.heap.size, 0, none⟩ (.slice (s.ca t) (s.cn t) (s.cc t))).setCell ⟨wd.heap.size, 1, none⟩ (.slice (s.wa t) (s.wn t) (s.wc t))) = W3 at KT HW3 ⊢
                have gl3 := HGL.out (flr s) (by omega) W3
                have HTL := hide (tierL_done (t := t) HRd.out (HW3.out.alloc HW3.out.size (.cells (madeCells #[.int .i64 0, .int .i64 0] (flr s * 2)) 76)) (show OwnL (W3.alloc (.cells (madeCells #[.int .i64 0, .int .i64 0] (flr s * 2)) 76)) w.heap.size (.slice (some ⟨W3.heap.size, 0, none⟩) (flr s) (flr s)) (fillL (flr s) 0) from by simpa [Value.cells] using own_made W3 w.heap.size (flr s) (by have := HRd.out.below.size; have := HW3.out.size; omega) (by unfold maxLen; omega)) HW3.out.size (KT.out.alloc _) (Nat.le_refl _))
                refine wpAnyJ_one 7 rfl (by kernel_rfl) (fun K hK => ?_)
                simp only [List.getElem_toArray, List.getElem_cons_zero, List.getElem_cons_succ]
                go_simp
                refine hK.out _ _ (fun _ => HS10.out _ HTL.out.below HTL.out.bx) ?_
                clear hK K
                (try simp only [List.getElem_toArray, List.getElem_cons_zero, List.getElem_cons_succ, Act.put, List.setIfInBounds_toArray, List.set_cons_zero, List.set_cons_succ])
                refine wpAnyJ_one 10 rfl (by kernel_rfl) (fun K hK => ?_)
                simp only [List.getElem_toArray, List.getElem_cons_zero, List.getElem_cons_succ]
                go_simp
                refine hK.out _ _ (fun h => absurd h (by rw [show lastOp _ _ _ = true from by kernel_rfl]; simp)) ?_
                clear hK K
                (try simp only [List.getElem_toArray, List.getElem_cons_zero, List.getElem_cons_succ, Act.put, List.setIfInBounds_toArray, List.set_cons_zero, List.set_cons_succ])
                refine wpAnyJ_done (by kernel_rfl) ?_
                go_wp2_with fail
                go_meet
                exact ⟨wd.heap.size, W3.heap.size, rfl, rfl, HTL⟩
            -- END1
          case rest =>
            obtain ⟨gt, gn, rfl, rfl, HTL⟩ := hcut
            go_wp2_with fail
            obtain ⟨wo, hwo⟩ : ∃ wo : World, wo = wr := ⟨_, rfl⟩
            subst hwo
            go_loopw [11] (fun i wr => ∃ k : Nat, i = .int .i64 k ∧ k ≤ flr s ∧ Hid (TierL w s zo t v gt gn (fillL (flr s) k) wr)) (fun i _ => flr s - (intOf i).toNat)
            case atStart => exact ⟨0, rfl, by omega, HTL⟩
            case round =>
              obtain ⟨k, rfl, hk, HT⟩ := hrel
              by_cases hlt2 : k < flr s
              · obtain ⟨x1, x2, fr1, fr2, hgl⟩ := HT.out.at_ (fillL_len hk) hlt2
                have q1 : (0 : Int) ≤ (k : Int) := by omega
                have q2 : (k : Int) < (flr s : Int) := by omega
                have HN := hide (HT.out.put (fillL_len hk) hlt2 (0, 1))
                rw [fillL_set hlt2] at HN
                go_wp2_with fail
                go_roundw
                case rel => exact ⟨k + 1, by go_num, by omega, HN⟩
                case measure => simp [intOf]; omega
              · obtain rfl : k = flr s := by omega
                go_upto_region 15 with fail
                have HTB := hide (tierB_start' HT.out hlt (by omega))
                have hzc : wr.cell? ⟨zo, t, none⟩ = some (v t) := by rw [HT.out.row.cell, rowV_get _ _ hlt]
                have hzf := HT.out.row.frozen t
                have hzl := HT.out.row.lt
                go_wp2_with fail
                rw [fillL_all] at HTB
                generalize ((wr.setCell ⟨zo, t, none⟩ (.slice (some ⟨wr.heap.size, 0, none⟩) 0 0)).alloc (.cells #[] 76)) = wz at HTB ⊢
                have hvs : upd v t (.slice (some ⟨wr.heap.size, 0, none⟩) 0 0) s.nt = .slice pA (flr s) pc := by rw [upd_ne _ _ (by omega)]; exact HPV.out
                generalize upd v t (.slice (some ⟨wr.heap.size, 0, none⟩) 0 0) = vz at HTB hvs
                have HVS := hide hvs
                clear hzc hzf hzl hvs
                go_loopw [12] (fun i wb => ∃ (k : Nat) (vb : Nat → Value), i = .int .i64 k ∧ k ≤ s.wn t ∧ Hid (vb s.nt = .slice pA (flr s) pc) ∧ Hid ((tierR s (flr s) t ((gL s (t + 1)).1 s.nt) [] true k).2.2 = true) ∧ Hid (TierB w s zo t vb gt gn (tierR s (flr s) t ((gL s (t + 1)).1 s.nt) [] true k).1 (tierR s (flr s) t ((gL s (t + 1)).1 s.nt) [] true k).2.1 wb)) (fun i _ => s.wn t - (intOf i).toNat)
                case atStart => exact ⟨0, vz, rfl, by omega, HVS, hide rfl, HTB⟩
                case round =>
                  obtain ⟨k, vb, rfl, hk, HVB, HOK, HB⟩ := hrel
                  obtain ⟨p1, p2, p3, p4, p5⟩ := blk2 HB.out.tr
                  by_cases hk2 : k < s.wn t
                  · go_upto_region 21 with fail
                    obtain ⟨wN, hwN⟩ : ∃ wN : Nat, s.wf t k = wN := Int.eq_ofNat_of_zero_le (HF3.out k hk2).1
                    have hwN1 : wN ≤ 1000 := by have := (HF3.out k hk2).2; omega
                    have HWT := hide (show wtP s t k = (wN, 1) by unfold wtP; rw [hwN]; rfl)
                    have HWN := hide hwN
                    obtain ⟨R, hR⟩ : ∃ R, tierR s (flr s) t ((gL s (t + 1)).1 s.nt) [] true k = R := ⟨_, rfl⟩
                    rw [hR] at HB HOK
                    have HRL := hide (show R.1.length = flr s ∧ R.2.1.length = k from ⟨by rw [← hR]; exact tierR_len .., by rw [← hR, tierR_cnt]; simp⟩)
                    have HRR := hide hR
                    have HK0 := hide (tierK_start HB.out 0 1)
                    clear hwN hR p1 p2 p3 p4 p5
                    generalize hgb : wr.heap.size = gb at HK0 ⊢
                    clear hgb
                    generalize (wr.alloc (.cells #[.int .i64 0, .int .i64 1] 76)) = wk at HK0 ⊢
                    go_loopw [14, 15] (fun q i wr => ∃ j : Nat, q = .bool true ∧ i = .int .i64 j ∧ j ≤ flr s ∧ Hid ((addTo s t k ((gL s (t + 1)).1 s.nt) j).2 = true) ∧ Hid (TierK w s zo t vb gt gn R.1 R.2.1 gb (addTo s t k ((gL s (t + 1)).1 s.nt) j).1 wr)) (fun _ i _ => flr s - (intOf i).toNat)
                    case atStart => exact ⟨0, rfl, rfl, by omega, hide rfl, HK0⟩
                    case round =>
                      obtain ⟨j, rfl, rfl, hj, HA, HK⟩ := hrel
                      by_cases hlt3 : j < flr s
                      · obtain ⟨cb, coff, hca, hcb, hcc⟩ := (HIC.out.below HK.out.base.below (Nat.le_refl _)).at_ (show j < s.cn t by rw [HF1.out]; exact hlt3)
                        obtain ⟨p1, p2, p3, p4, p5⟩ := blk2 HK.out.base.tr
                        rw [hca] at p2
                        have q1 : (0 : Int) ≤ (j : Int) := by omega
                        have q2 : (j : Int) < (s.cn t : Int) := by have := HF1.out; omega
                        have q3 : (j : Int) < (flr s : Int) := by omega
                        by_cases hx : s.cf t j = (k : Int)
                        · have hxb : (s.cf t j != (k : Int)) = false := by simpa using hx
                          obtain ⟨g, hpA, y1, y2⟩ := HK.out.base.press hlt HVB.out hlt3
                          subst hpA
                          have hyo := getD_ok (on_ok H2.out hlt) j
                          have hxo : LdOk (addTo s t k ((gL s (t + 1)).1 s.nt) j).1 := addTo_ok (on_ok H2.out hlt)
                          have HXE := hide (addTo_yes ((gL s (t + 1)).1 s.nt) hx)
                          have HOV := hide (fun h => brk_no1 HOK.out (addTo_over (s := s) (t := t) (k := k) (j := j + 1) (on_ok H2.out hlt) (by rw [HF1.out]; omega) h))
                          have HST : Hid ((addTo s t k ((gL s (t + 1)).1 s.nt) (j + 1)) = (lowS (addN (addTo s t k ((gL s (t + 1)).1 s.nt) j).1 (((gL s (t + 1)).1 s.nt).getD j (0, 1))) (addD (addTo s t k ((gL s (t + 1)).1 s.nt) j).1 (((gL s (t + 1)).1 s.nt).getD j (0, 1))), fitP (lowP (addN (addTo s t k ((gL s (t + 1)).1 s.nt) j).1 (((gL s (t + 1)).1 s.nt).getD j (0, 1))) (addD (addTo s t k ((gL s (t + 1)).1 s.nt) j).1 (((gL s (t + 1)).1 s.nt).getD j (0, 1)))))) := hide (by rw [HXE.out]; unfold addSt; rw [HA.out, Bool.true_and])
                          generalize (addTo s t k ((gL s (t + 1)).1 s.nt) j).1 = x at HK hxo HST
                          generalize hy : ((gL s (t + 1)).1 s.nt).getD j (0, 1) = y at y1 y2 hyo HST
                          have HS24 : Hid (∀ W, TierK w s zo t vb gt gn R.1 R.2.1 gb x W → W.cell? ⟨gb, 0, none⟩ = some (.int .i64 x.1) ∧ W.cell? ⟨gb, 1, none⟩ = some (.int .i64 x.2) ∧ W.cell? ⟨g, j * 2, none⟩ = some (.int .i64 y.1) ∧ W.cell? ⟨g, j * 2 + 1, none⟩ = some (.int .i64 y.2)) := hide (fun W hK => by
                            obtain ⟨g', e, z1, z2⟩ := hK.base.press hlt HVB.out hlt3
                            injection e with e
                            injection e with e
                            subst e
                            rw [hy] at z1 z2
                            obtain ⟨-, c1, c2, -, -⟩ := blk2 hK.kb
                            exact ⟨c1, c2, z1, z2⟩)
                          clear hy
                          obtain ⟨o1, o2, o3⟩ := hxo
                          obtain ⟨o4, o5, o6⟩ := hyo
                          have m1 := mulN_bd o1 o6
                          have m2 := mulN_bd o4 o3
                          have m3 := mulN_bd o3 o6
                          have m4 : 0 < x.2 * y.2 := Nat.mul_pos o2 o5
                          have e1 : ((x.1 * y.2 : Nat) : Int) = (x.1 : Int) * (y.2 : Int) := by simp
                          have e2 : ((y.1 * x.2 : Nat) : Int) = (y.1 : Int) * (x.2 : Int) := by simp
                          have e3 : ((x.2 * y.2 : Nat) : Int) = (x.2 : Int) * (y.2 : Int) := by simp
                          have hw1 : IntKind.i64.wrap ((x.1 : Int) * (y.2 : Int)) = (x.1 : Int) * (y.2 : Int) := IntWalk.i64_in _ (by omega)
                          have hw2 : IntKind.i64.wrap ((y.1 : Int) * (x.2 : Int)) = (y.1 : Int) * (x.2 : Int) := IntWalk.i64_in _ (by omega)
                          have hw3 : IntKind.i64.wrap ((x.2 : Int) * (y.2 : Int)) = (x.2 : Int) * (y.2 : Int) := IntWalk.i64_in _ (by omega)
                          have hw4 : IntKind.i64.wrap ((x.1 : Int) * (y.2 : Int) + (y.1 : Int) * (x.2 : Int)) = (x.1 : Int) * (y.2 : Int) + (y.1 : Int) * (x.2 : Int) := IntWalk.i64_in _ (by omega)
                          have HC := hide (fun W => refLowest_any ((x.1 : Int) * (y.2 : Int) + (y.1 : Int) * (x.2 : Int)) ((x.2 : Int) * (y.2 : Int)) (addN x y) (addD x y) W (by simp [addN]) (by simp [addD]) (by unfold addN; omega) (by unfold addD; omega) (by unfold addD; omega))
                          unfold ldV at HC
                          have HD := hide (HK.out.ext (Below.refl _ _).drew)
                          generalize hX : lowP (addN x y) (addD x y) = X at HC HST
                          clear m1 m2 m3 m4 e1 e2 e3 o1 o2 o3 o4 o5 o6 HXE
                          go_upto_region 24 with fail
                          -- BEGIN2
                          clear hcc hca p1 p2 p3 p4 p5 y1 y2
                          refine wp_region_J (fun W : World => W.cell? ⟨gb, 0, none⟩ = some (.int .i64 x.1) ∧ W.cell? ⟨gb, 1, none⟩ = some (.int .i64 x.2) ∧ W.cell? ⟨g, j * 2, none⟩ = some (.int .i64 y.1) ∧ W.cell? ⟨g, j * 2 + 1, none⟩ = some (.int .i64 y.2)) (by kernel_rfl) ?_
                          generalize wr.drew = wd at HD ⊢
                          refine wpAnyJ_take 0 (v := ?_) (by first | exact hF | exact wideFn) (HS24.out _ HD.out) rfl (by kernel_rfl) (by kernel_rfl) (by kernel_rfl) (by kernel_rfl) rfl ?_ (by first | exact fun _ _ _ h => h | exact fun _ _ _ h => hQ2 _ _ _ _ _ h) ?_
                          rotate_left
                          · intro W hSW
                            simp only [List.getElem_toArray, List.getElem_cons_zero, List.getElem_cons_succ]
                            (try dsimp only at hSW)
                            go_simp
                            with_reducible rfl
                          (try simp only [List.getElem_toArray, List.getElem_cons_zero, List.getElem_cons_succ, Act.put, List.setIfInBounds_toArray, List.set_cons_zero, List.set_cons_succ])
                          refine wpAnyJ_take 1 (v := ?_) (by first | exact hF | exact wideFn) (HS24.out _ HD.out) rfl (by kernel_rfl) (by kernel_rfl) (by kernel_rfl) (by kernel_rfl) rfl ?_ (by first | exact fun _ _ _ h => h | exact fun _ _ _ h => hQ2 _ _ _ _ _ h) ?_
                          rotate_left
                          · intro W hSW
                            simp only [List.getElem_toArray, List.getElem_cons_zero, List.getElem_cons_succ]
                            (try dsimp only at hSW)
                            go_simp
                            with_reducible rfl
                          (try simp only [List.getElem_toArray, List.getElem_cons_zero, List.getElem_cons_succ, Act.put, List.setIfInBounds_toArray, List.set_cons_zero, List.set_cons_succ])
                          refine wpAnyJ_take 2 (v := ?_) (by first | exact hF | exact wideFn) (HS24.out _ HD.out) rfl (by kernel_rfl) (by kernel_rfl) (by kernel_rfl) (by kernel_rfl) rfl ?_ (by first | exact fun _ _ _ h => h | exact fun _ _ _ h => hQ2 _ _ _ _ _ h) ?_
                          rotate_left
                          · intro W hSW
                            simp only [List.getElem_toArray, List.getElem_cons_zero, List.getElem_cons_succ]
                            (try dsimp only at hSW)
                            go_simp
                            with_reducible rfl
                          (try simp only [List.getElem_toArray, List.getElem_cons_zero, List.getElem_cons_succ, Act.put, List.setIfInBounds_toArray, List.set_cons_zero, List.set_cons_succ])
                          refine wpAnyJ_take 3 (v := ?_) (by first | exact hF | exact wideFn) (HS24.out _ HD.out) rfl (by kernel_rfl) (by kernel_rfl) (by kernel_rfl) (by kernel_rfl) rfl ?_ (by first | exact fun _ _ _ h => h | exact fun _ _ _ h => hQ2 _ _ _ _ _ h) ?_
                          rotate_left
                          · intro W hSW
                            simp only [List.getElem_toArray, List.getElem_cons_zero, List.getElem_cons_succ]
                            (try dsimp only at hSW)
                            go_simp
                            with_reducible rfl
                          (try simp only [List.getElem_toArray, List.getElem_cons_zero, List.getElem_cons_succ, Act.put, List.setIfInBounds_toArray, List.set_cons_zero, List.set_cons_succ])
                          refine wpAnyJ_take 4 (v := ?_) (by first | exact hF | exact wideFn) (HS24.out _ HD.out) rfl (by kernel_rfl) (by kernel_rfl) (by kernel_rfl) (by kernel_rfl) rfl ?_ (by first | exact fun _ _ _ h => h | exact fun _ _ _ h => hQ2 _ _ _ _ _ h) ?_
                          rotate_left
                          · intro W hSW
                            simp only [List.getElem_toArray, List.getElem_cons_zero, List.getElem_cons_succ]
                            (try dsimp only at hSW)
                            go_simp
                            with_reducible rfl
                          (try simp only [List.getElem_toArray, List.getElem_cons_zero, List.getElem_cons_succ, Act.put, List.setIfInBounds_toArray, List.set_cons_zero, List.set_cons_succ])
                          refine wpAnyJ_take 5 (v := ?_) (by first | exact hF | exact wideFn) (HS24.out _ HD.out) rfl (by kernel_rfl) (by kernel_rfl) (by kernel_rfl) (by kernel_rfl) rfl ?_ (by first | exact fun _ _ _ h => h | exact fun _ _ _ h => hQ2 _ _ _ _ _ h) ?_
                          rotate_left
                          · intro W hSW
                            simp only [List.getElem_toArray, List.getElem_cons_zero, List.getElem_cons_succ]
                            (try dsimp only at hSW)
                            go_simp
                            with_reducible rfl
                          (try simp only [List.getElem_toArray, List.getElem_cons_zero, List.getElem_cons_succ, Act.put, List.setIfInBounds_toArray, List.set_cons_zero, List.set_cons_succ])
                          refine wpAnyJ_take 6 (v := ?_) (by first | exact hF | exact wideFn) (HS24.out _ HD.out) rfl (by kernel_rfl) (by kernel_rfl) (by kernel_rfl) (by kernel_rfl) rfl ?_ (by first | exact fun _ _ _ h => h | exact fun _ _ _ h => hQ2 _ _ _ _ _ h) ?_
                          rotate_left
                          · intro W hSW
                            simp only [List.getElem_toArray, List.getElem_cons_zero, List.getElem_cons_succ]
                            (try dsimp only at hSW)
                            go_simp
                            with_reducible rfl
                          (try simp only [List.getElem_toArray, List.getElem_cons_zero, List.getElem_cons_succ, Act.put, List.setIfInBounds_toArray, List.set_cons_zero, List.set_cons_succ])
                          refine wpAnyJ_take 7 (v := ?_) (by first | exact hF | exact wideFn) (HS24.out _ HD.out) rfl (by kernel_rfl) (by kernel_rfl) (by kernel_rfl) (by kernel_rfl) rfl ?_ (by first | exact fun _ _ _ h => h | exact fun _ _ _ h => hQ2 _ _ _ _ _ h) ?_
                          rotate_left
                          · intro W hSW
                            simp only [List.getElem_toArray, List.getElem_cons_zero, List.getElem_cons_succ]
                            (try dsimp only at hSW)
                            go_simp
                            with_reducible rfl
                          (try simp only [List.getElem_toArray, List.getElem_cons_zero, List.getElem_cons_succ, Act.put, List.setIfInBounds_toArray, List.set_cons_zero, List.set_cons_succ])
                          refine wpAnyJ_take 8 (v := ?_) (by first | exact hF | exact wideFn) (HS24.out _ HD.out) rfl (by kernel_rfl) (by kernel_rfl) (by kernel_rfl) (by kernel_rfl) rfl ?_ (by first | exact fun _ _ _ h => h | exact fun _ _ _ h => hQ2 _ _ _ _ _ h) ?_
                          rotate_left
                          · intro W hSW
                            simp only [List.getElem_toArray, List.getElem_cons_zero, List.getElem_cons_succ]
                            (try dsimp only at hSW)
                            go_simp
                            with_reducible rfl
                          (try simp only [List.getElem_toArray, List.getElem_cons_zero, List.getElem_cons_succ, Act.put, List.setIfInBounds_toArray, List.set_cons_zero, List.set_cons_succ])
                          refine wpAnyJ_take 9 (v := ?_) (by first | exact hF | exact wideFn) (HS24.out _ HD.out) rfl (by kernel_rfl) (by kernel_rfl) (by kernel_rfl) (by kernel_rfl) rfl ?_ (by first | exact fun _ _ _ h => h | exact fun _ _ _ h => hQ2 _ _ _ _ _ h) ?_
                          rotate_left
                          · intro W hSW
                            simp only [List.getElem_toArray, List.getElem_cons_zero, List.getElem_cons_succ]
                            (try dsimp only at hSW)
                            go_simp
                            with_reducible rfl
                          (try simp only [List.getElem_toArray, List.getElem_cons_zero, List.getElem_cons_succ, Act.put, List.setIfInBounds_toArray, List.set_cons_zero, List.set_cons_succ])
                          refine wpAnyJ_take 10 (v := ?_) (by first | exact hF | exact wideFn) (HS24.out _ HD.out) rfl (by kernel_rfl) (by kernel_rfl) (by kernel_rfl) (by kernel_rfl) rfl ?_ (by first | exact fun _ _ _ h => h | exact fun _ _ _ h => hQ2 _ _ _ _ _ h) ?_
                          rotate_left
                          · intro W hSW
                            simp only [List.getElem_toArray, List.getElem_cons_zero, List.getElem_cons_succ]
                            (try dsimp only at hSW)
                            go_simp
                            with_reducible rfl
                          (try simp only [List.getElem_toArray, List.getElem_cons_zero, List.getElem_cons_succ, Act.put, List.setIfInBounds_toArray, List.set_cons_zero, List.set_cons_succ])
                          refine wpAnyJ_take 11 (v := ?_) (by first | exact hF | exact wideFn) (HS24.out _ HD.out) rfl (by kernel_rfl) (by kernel_rfl) (by kernel_rfl) (by kernel_rfl) rfl ?_ (by first | exact fun _ _ _ h => h | exact fun _ _ _ h => hQ2 _ _ _ _ _ h) ?_
                          rotate_left
                          · intro W hSW
                            simp only [List.getElem_toArray, List.getElem_cons_zero, List.getElem_cons_succ]
                            (try dsimp only at hSW)
                            go_simp
                            with_reducible rfl
                          (try simp only [List.getElem_toArray, List.getElem_cons_zero, List.getElem_cons_succ, Act.put, List.setIfInBounds_toArray, List.set_cons_zero, List.set_cons_succ])
                          refine wpAnyJ_take 12 (v := ?_) (by first | exact hF | exact wideFn) (HS24.out _ HD.out) rfl (by kernel_rfl) (by kernel_rfl) (by kernel_rfl) (by kernel_rfl) rfl ?_ (by first | exact fun _ _ _ h => h | exact fun _ _ _ h => hQ2 _ _ _ _ _ h) ?_
                          rotate_left
                          · intro W hSW
                            simp only [List.getElem_toArray, List.getElem_cons_zero, List.getElem_cons_succ]
                            (try dsimp only at hSW)
                            go_simp
                            with_reducible rfl
                          (try simp only [List.getElem_toArray, List.getElem_cons_zero, List.getElem_cons_succ, Act.put, List.setIfInBounds_toArray, List.set_cons_zero, List.set_cons_succ])
                          refine wpAnyJ_take 13 (v := ?_) (by first | exact hF | exact wideFn) (HS24.out _ HD.out) rfl (by kernel_rfl) (by kernel_rfl) (by kernel_rfl) (by kernel_rfl) rfl ?_ (by first | exact fun _ _ _ h => h | exact fun _ _ _ h => hQ2 _ _ _ _ _ h) ?_
                          rotate_left
                          · intro W hSW
                            simp only [List.getElem_toArray, List.getElem_cons_zero, List.getElem_cons_succ]
                            (try dsimp only at hSW)
                            go_simp
                            with_reducible rfl
                          (try simp only [List.getElem_toArray, List.getElem_cons_zero, List.getElem_cons_succ, Act.put, List.setIfInBounds_toArray, List.set_cons_zero, List.set_cons_succ])
                          refine wpAnyJ_take 14 (v := ?_) (by first | exact hF | exact wideFn) (HS24.out _ HD.out) rfl (by kernel_rfl) (by kernel_rfl) (by kernel_rfl) (by kernel_rfl) rfl ?_ (by first | exact fun _ _ _ h => h | exact fun _ _ _ h => hQ2 _ _ _ _ _ h) ?_
                          rotate_left
                          · intro W hSW
                            simp only [List.getElem_toArray, List.getElem_cons_zero, List.getElem_cons_succ]
                            (try dsimp only at hSW)
                            go_simp
                            with_reducible rfl
                          (try simp only [List.getElem_toArray, List.getElem_cons_zero, List.getElem_cons_succ, Act.put, List.setIfInBounds_toArray, List.set_cons_zero, List.set_cons_succ])
                          refine wpAnyJ_take 15 (v := ?_) (by first | exact hF | exact wideFn) (HS24.out _ HD.out) rfl (by kernel_rfl) (by kernel_rfl) (by kernel_rfl) (by kernel_rfl) rfl ?_ (by first | exact fun _ _ _ h => h | exact fun _ _ _ h => hQ2 _ _ _ _ _ h) ?_
                          rotate_left
                          · intro W hSW
                            simp only [List.getElem_toArray, List.getElem_cons_zero, List.getElem_cons_succ]
                            (try dsimp only at hSW)
                            go_simp
                            with_reducible rfl
                          (try simp only [List.getElem_toArray, List.getElem_cons_zero, List.getElem_cons_succ, Act.put, List.setIfInBounds_toArray, List.set_cons_zero, List.set_cons_succ])
                          refine wpAnyJ_take 16 (v := ?_) (by first | exact hF | exact wideFn) (HS24.out _ HD.out) rfl (by kernel_rfl) (by kernel_rfl) (by kernel_rfl) (by kernel_rfl) rfl ?_ (by first | exact fun _ _ _ h => h | exact fun _ _ _ h => hQ2 _ _ _ _ _ h) ?_
                          rotate_left
                          · intro W hSW
                            simp only [List.getElem_toArray, List.getElem_cons_zero, List.getElem_cons_succ]
                            (try dsimp only at hSW)
                            go_simp
                            with_reducible rfl
                          (try simp only [List.getElem_toArray, List.getElem_cons_zero, List.getElem_cons_succ, Act.put, List.setIfInBounds_toArray, List.set_cons_zero, List.set_cons_succ])
                          refine wpAnyJ_take 17 (v := ?_) (by first | exact hF | exact wideFn) (HS24.out _ HD.out) rfl (by kernel_rfl) (by kernel_rfl) (by kernel_rfl) (by kernel_rfl) rfl ?_ (by first | exact fun _ _ _ h => h | exact fun _ _ _ h => hQ2 _ _ _ _ _ h) ?_
                          rotate_left
                          · intro W hSW
                            simp only [List.getElem_toArray, List.getElem_cons_zero, List.getElem_cons_succ]
                            (try dsimp only at hSW)
                            go_simp
                            with_reducible rfl
                          (try simp only [List.getElem_toArray, List.getElem_cons_zero, List.getElem_cons_succ, Act.put, List.setIfInBounds_toArray, List.set_cons_zero, List.set_cons_succ])
                          refine wpAnyJ_take 18 (v := ?_) (by first | exact hF | exact wideFn) (HS24.out _ HD.out) rfl (by kernel_rfl) (by kernel_rfl) (by kernel_rfl) (by kernel_rfl) rfl ?_ (by first | exact fun _ _ _ h => h | exact fun _ _ _ h => hQ2 _ _ _ _ _ h) ?_
                          rotate_left
                          · intro W hSW
                            simp only [List.getElem_toArray, List.getElem_cons_zero, List.getElem_cons_succ]
                            (try dsimp only at hSW)
                            go_simp
                            with_reducible rfl
                          (try simp only [List.getElem_toArray, List.getElem_cons_zero, List.getElem_cons_succ, Act.put, List.setIfInBounds_toArray, List.set_cons_zero, List.set_cons_succ])
                          refine wpAnyJ_take 19 (v := ?_) (by first | exact hF | exact wideFn) (HS24.out _ HD.out) rfl (by kernel_rfl) (by kernel_rfl) (by kernel_rfl) (by kernel_rfl) rfl ?_ (by first | exact fun _ _ _ h => h | exact fun _ _ _ h => hQ2 _ _ _ _ _ h) ?_
                          rotate_left
                          · intro W hSW
                            simp only [List.getElem_toArray, List.getElem_cons_zero, List.getElem_cons_succ]
                            (try dsimp only at hSW)
                            go_simp
                            with_reducible rfl
                          (try simp only [List.getElem_toArray, List.getElem_cons_zero, List.getElem_cons_succ, Act.put, List.setIfInBounds_toArray, List.set_cons_zero, List.set_cons_succ])
                          refine wpAnyJ_take 20 (v := ?_) (by first | exact hF | exact wideFn) (HS24.out _ HD.out) rfl (by kernel_rfl) (by kernel_rfl) (by kernel_rfl) (by kernel_rfl) rfl ?_ (by first | exact fun _ _ _ h => h | exact fun _ _ _ h => hQ2 _ _ _ _ _ h) ?_
                          rotate_left
                          · intro W hSW
                            simp only [List.getElem_toArray, List.getElem_cons_zero, List.getElem_cons_succ]
                            (try dsimp only at hSW)
                            go_simp
                            with_reducible rfl
                          (try simp only [List.getElem_toArray, List.getElem_cons_zero, List.getElem_cons_succ, Act.put, List.setIfInBounds_toArray, List.set_cons_zero, List.set_cons_succ])
                          refine wpAnyJ_take 21 (v := ?_) (by first | exact hF | exact wideFn) (HS24.out _ HD.out) rfl (by kernel_rfl) (by kernel_rfl) (by kernel_rfl) (by kernel_rfl) rfl ?_ (by first | exact fun _ _ _ h => h | exact fun _ _ _ h => hQ2 _ _ _ _ _ h) ?_
                          rotate_left
                          · intro W hSW
                            simp only [List.getElem_toArray, List.getElem_cons_zero, List.getElem_cons_succ]
                            (try dsimp only at hSW)
                            go_simp
                            with_reducible rfl
                          (try simp only [List.getElem_toArray, List.getElem_cons_zero, List.getElem_cons_succ, Act.put, List.setIfInBounds_toArray, List.set_cons_zero, List.set_cons_succ])
                          refine wpAnyJ_take 22 (v := ?_) (by first | exact hF | exact wideFn) (HS24.out _ HD.out) rfl (by kernel_rfl) (by kernel_rfl) (by kernel_rfl) (by kernel_rfl) rfl ?_ (by first | exact fun _ _ _ h => h | exact fun _ _ _ h => hQ2 _ _ _ _ _ h) ?_
                          rotate_left
                          · intro W hSW
                            simp only [List.getElem_toArray, List.getElem_cons_zero, List.getElem_cons_succ]
                            (try dsimp only at hSW)
                            go_simp
                            with_reducible rfl
                          (try simp only [List.getElem_toArray, List.getElem_cons_zero, List.getElem_cons_succ, Act.put, List.setIfInBounds_toArray, List.set_cons_zero, List.set_cons_succ])
                          refine wpAnyJ_take 23 (v := ?_) (by first | exact hF | exact wideFn) (HS24.out _ HD.out) rfl (by kernel_rfl) (by kernel_rfl) (by kernel_rfl) (by kernel_rfl) rfl ?_ (by first | exact fun _ _ _ h => h | exact fun _ _ _ h => hQ2 _ _ _ _ _ h) ?_
                          rotate_left
                          · intro W hSW
                            simp only [List.getElem_toArray, List.getElem_cons_zero, List.getElem_cons_succ]
                            (try dsimp only at hSW)
                            go_simp
                            with_reducible rfl
                          (try simp only [List.getElem_toArray, List.getElem_cons_zero, List.getElem_cons_succ, Act.put, List.setIfInBounds_toArray, List.set_cons_zero, List.set_cons_succ])
                          refine wpAnyJ_take 24 (v := ?_) (by first | exact hF | exact wideFn) (HS24.out _ HD.out) rfl (by kernel_rfl) (by kernel_rfl) (by kernel_rfl) (by kernel_rfl) rfl ?_ (by first | exact fun _ _ _ h => h | exact fun _ _ _ h => hQ2 _ _ _ _ _ h) ?_
                          rotate_left
                          · intro W hSW
                            simp only [List.getElem_toArray, List.getElem_cons_zero, List.getElem_cons_succ]
                            (try dsimp only at hSW)
                            go_simp
                            with_reducible rfl
                          (try simp only [List.getElem_toArray, List.getElem_cons_zero, List.getElem_cons_succ, Act.put, List.setIfInBounds_toArray, List.set_cons_zero, List.set_cons_succ])
                          clear hw1 hw2 hw3 hw4
                          by_cases hfit : fitP X = true
                          · rw [hfit] at HC HST
                            rw [show lowS (addN x y) (addD x y) = X by unfold lowS; rw [hX, capP_yes hfit]] at HST
                            clear hfit hX
                            refine wpAnyJ_one 25 rfl (by kernel_rfl) (fun K hK => ?_)
                            simp only [List.getElem_toArray, List.getElem_cons_zero, List.getElem_cons_succ]
                            go_simp
                            refine ⟨trivial, rfl, ?_⟩
                            refine (callsIn_wide.2 (HC.out _)).mono ?_
                            rintro e w5 ⟨rfl, hb5⟩
                            have HE := hide (HD.out.ext hb5); obtain ⟨p6, p7, p8, p9, p10⟩ := blk2 HE.out.kb; clear hb5
                            dsimp only
                            refine hK.out _ _ (fun _ => HS24.out _ HE.out) ?_
                            clear hK K
                            (try simp only [List.getElem_toArray, List.getElem_cons_zero, List.getElem_cons_succ, Act.put, List.setIfInBounds_toArray, List.set_cons_zero, List.set_cons_succ])
                            refine wpAnyJ_take 26 (v := ?_) (by first | exact hF | exact wideFn) (HS24.out _ HE.out) rfl (by kernel_rfl) (by kernel_rfl) (by kernel_rfl) (by kernel_rfl) rfl ?_ (by first | exact fun _ _ _ h => h | exact fun _ _ _ h => hQ2 _ _ _ _ _ h) ?_
                            rotate_left
                            · intro W hSW
                              simp only [List.getElem_toArray, List.getElem_cons_zero, List.getElem_cons_succ]
                              (try dsimp only at hSW)
                              go_simp
                              with_reducible rfl
                            (try simp only [List.getElem_toArray, List.getElem_cons_zero, List.getElem_cons_succ, Act.put, List.setIfInBounds_toArray, List.set_cons_zero, List.set_cons_succ])
                            refine wpAnyJ_take 27 (v := ?_) (by first | exact hF | exact wideFn) (HS24.out _ HE.out) rfl (by kernel_rfl) (by kernel_rfl) (by kernel_rfl) (by kernel_rfl) rfl ?_ (by first | exact fun _ _ _ h => h | exact fun _ _ _ h => hQ2 _ _ _ _ _ h) ?_
                            rotate_left
                            · intro W hSW
                              simp only [List.getElem_toArray, List.getElem_cons_zero, List.getElem_cons_succ]
                              (try dsimp only at hSW)
                              go_simp
                              with_reducible rfl
                            (try simp only [List.getElem_toArray, List.getElem_cons_zero, List.getElem_cons_succ, Act.put, List.setIfInBounds_toArray, List.set_cons_zero, List.set_cons_succ])
                            refine wpAnyJ_take 28 (v := ?_) (by first | exact hF | exact wideFn) (HS24.out _ HE.out) rfl (by kernel_rfl) (by kernel_rfl) (by kernel_rfl) (by kernel_rfl) rfl ?_ (by first | exact fun _ _ _ h => h | exact fun _ _ _ h => hQ2 _ _ _ _ _ h) ?_
                            rotate_left
                            · intro W hSW
                              simp only [List.getElem_toArray, List.getElem_cons_zero, List.getElem_cons_succ]
                              (try dsimp only at hSW)
                              go_simp
                              with_reducible rfl
                            (try simp only [List.getElem_toArray, List.getElem_cons_zero, List.getElem_cons_succ, Act.put, List.setIfInBounds_toArray, List.set_cons_zero, List.set_cons_succ])
                            refine wpAnyJ_one 29 rfl (by kernel_rfl) (fun K hK => ?_)
                            simp only [List.getElem_toArray, List.getElem_cons_zero, List.getElem_cons_succ]
                            go_simp
                            refine hK.out _ _ (fun h => absurd h (by rw [show lastOp _ _ _ = true from by kernel_rfl]; simp)) ?_
                            clear hK K
                            (try simp only [List.getElem_toArray, List.getElem_cons_zero, List.getElem_cons_succ, Act.put, List.setIfInBounds_toArray, List.set_cons_zero, List.set_cons_succ])
                            refine wpAnyJ_pure 30 (v := ?_) (by first | exact hF | exact wideFn) rfl (by kernel_rfl) (by kernel_rfl) (by kernel_rfl) (by kernel_rfl) rfl (by kernel_rfl) ?_ (by first | exact fun _ _ _ h => h | exact fun _ _ _ h => hQ2 _ _ _ _ _ h) ?_
                            rotate_left
                            · simp only [List.getElem_toArray, List.getElem_cons_zero, List.getElem_cons_succ]
                              go_simp
                              with_reducible rfl
                            (try simp only [List.getElem_toArray, List.getElem_cons_zero, List.getElem_cons_succ, Act.put, List.setIfInBounds_toArray, List.set_cons_zero, List.set_cons_succ])
                            refine wpAnyJ_done (by kernel_rfl) ?_
                            have HN := hide (HE.out.set X)
                            clear p6 p7 p8 p9 p10
                            generalize ((w5.setCell ⟨gb, 0, none⟩ (.int .i64 X.1)).setCell ⟨gb, 1, none⟩ (.int .i64 X.2)) = wn at HN ⊢
                            go_wp2_with fail
                            go_roundw
                            case rel => exact ⟨j + 1, rfl, by go_num, by omega, by rw [HST.out]; exact hide rfl, by rw [HST.out]; exact HN⟩
                            case measure => simp [intOf]; omega
                          · have hfit2 : fitP X = false := by simpa using hfit
                            rw [hfit2] at HC HST
                            have HOV2 := hide (over_of H1.out H2.out hlt HOK1.out hk2 (by rw [HRR.out]; exact HOV.out (by rw [HST.out])))
                            clear hfit hfit2 hX
                            refine wpAnyJ_one 25 rfl (by kernel_rfl) (fun K hK => ?_)
                            simp only [List.getElem_toArray, List.getElem_cons_zero, List.getElem_cons_succ]
                            go_simp
                            refine ⟨trivial, rfl, ?_⟩
                            refine (callsIn_wide.2 (HC.out _)).mono ?_
                            rintro e w5 ⟨rfl, hb5⟩
                            have HE := hide (HD.out.ext hb5); obtain ⟨p6, p7, p8, p9, p10⟩ := blk2 HE.out.kb; clear hb5
                            dsimp only
                            refine hK.out _ _ (fun _ => HS24.out _ HE.out) ?_
                            clear hK K
                            (try simp only [List.getElem_toArray, List.getElem_cons_zero, List.getElem_cons_succ, Act.put, List.setIfInBounds_toArray, List.set_cons_zero, List.set_cons_succ])
                            refine wpAnyJ_take 26 (v := ?_) (by first | exact hF | exact wideFn) (HS24.out _ HE.out) rfl (by kernel_rfl) (by kernel_rfl) (by kernel_rfl) (by kernel_rfl) rfl ?_ (by first | exact fun _ _ _ h => h | exact fun _ _ _ h => hQ2 _ _ _ _ _ h) ?_
                            rotate_left
                            · intro W hSW
                              simp only [List.getElem_toArray, List.getElem_cons_zero, List.getElem_cons_succ]
                              (try dsimp only at hSW)
                              go_simp
                              with_reducible rfl
                            (try simp only [List.getElem_toArray, List.getElem_cons_zero, List.getElem_cons_succ, Act.put, List.setIfInBounds_toArray, List.set_cons_zero, List.set_cons_succ])
                            refine wpAnyJ_take 27 (v := ?_) (by first | exact hF | exact wideFn) (HS24.out _ HE.out) rfl (by kernel_rfl) (by kernel_rfl) (by kernel_rfl) (by kernel_rfl) rfl ?_ (by first | exact fun _ _ _ h => h | exact fun _ _ _ h => hQ2 _ _ _ _ _ h) ?_
                            rotate_left
                            · intro W hSW
                              simp only [List.getElem_toArray, List.getElem_cons_zero, List.getElem_cons_succ]
                              (try dsimp only at hSW)
                              go_simp
                              with_reducible rfl
                            (try simp only [List.getElem_toArray, List.getElem_cons_zero, List.getElem_cons_succ, Act.put, List.setIfInBounds_toArray, List.set_cons_zero, List.set_cons_succ])
                            refine wpAnyJ_take 28 (v := ?_) (by first | exact hF | exact wideFn) (HS24.out _ HE.out) rfl (by kernel_rfl) (by kernel_rfl) (by kernel_rfl) (by kernel_rfl) rfl ?_ (by first | exact fun _ _ _ h => h | exact fun _ _ _ h => hQ2 _ _ _ _ _ h) ?_
                            rotate_left
                            · intro W hSW
                              simp only [List.getElem_toArray, List.getElem_cons_zero, List.getElem_cons_succ]
                              (try dsimp only at hSW)
                              go_simp
                              with_reducible rfl
                            (try simp only [List.getElem_toArray, List.getElem_cons_zero, List.getElem_cons_succ, Act.put, List.setIfInBounds_toArray, List.set_cons_zero, List.set_cons_succ])
                            refine wpAnyJ_one 29 rfl (by kernel_rfl) (fun K hK => ?_)
                            simp only [List.getElem_toArray, List.getElem_cons_zero, List.getElem_cons_succ]
                            go_simp
                            refine hK.out _ _ (fun h => absurd h (by rw [show lastOp _ _ _ = true from by kernel_rfl]; simp)) ?_
                            clear hK K
                            (try simp only [List.getElem_toArray, List.getElem_cons_zero, List.getElem_cons_succ, Act.put, List.setIfInBounds_toArray, List.set_cons_zero, List.set_cons_succ])
                            refine wpAnyJ_pure 30 (v := ?_) (by first | exact hF | exact wideFn) rfl (by kernel_rfl) (by kernel_rfl) (by kernel_rfl) (by kernel_rfl) rfl (by kernel_rfl) ?_ (by first | exact fun _ _ _ h => h | exact fun _ _ _ h => hQ2 _ _ _ _ _ h) ?_
                            rotate_left
                            · simp only [List.getElem_toArray, List.getElem_cons_zero, List.getElem_cons_succ]
                              go_simp
                              with_reducible rfl
                            (try simp only [List.getElem_toArray, List.getElem_cons_zero, List.getElem_cons_succ, Act.put, List.setIfInBounds_toArray, List.set_cons_zero, List.set_cons_succ])
                            refine wpAnyJ_done (by kernel_rfl) ?_
                            have HN := hide (HE.out.set X)
                            clear p6 p7 p8 p9 p10
                            generalize ((w5.setCell ⟨gb, 0, none⟩ (.int .i64 X.1)).setCell ⟨gb, 1, none⟩ (.int .i64 X.2)) = wn at HN ⊢
                            go_wp2_with fail
                            go_ret3
                            exact .inl ⟨HOV2.out, rfl, HN.out.base.below⟩
                          -- END2
                        · have hxb : (s.cf t j != (k : Int)) = true := by simpa using hx
                          have HNO := hide (addTo_no ((gL s (t + 1)).1 s.nt) hx)
                          clear hx
                          go_wp2_with fail
                          go_roundw
                          case rel => exact ⟨j + 1, rfl, by go_num, by omega, by rw [HNO.out]; exact HA, by rw [HNO.out]; exact HK⟩
                          case measure => simp [intOf]; omega
                      · obtain rfl : j = flr s := by omega
                        rw [addTo_all _ HF1.out] at HA HK
                        obtain ⟨x, hx⟩ : ∃ x, (onBrk s t k ((gL s (t + 1)).1 s.nt) true).1 = x := ⟨_, rfl⟩
                        have hxo : LdOk x := by rw [← hx]; exact onBrk_ok true (on_ok H2.out hlt)
                        rw [hx] at HK
                        have HXX := hide hx
                        clear hx HK0
                        go_upto_region 27 with fail
                        obtain ⟨i1', hi', hz0', hz1', hz2'⟩ := info_parts info_load
                        have hown := HK.out.base.list hlt
                        have hRc := HRL.out.2
                        have hkl : k ≤ 144 := by omega
                        obtain ⟨g, cap, w10, happ, hown10, hgrow10, hat, hlt10⟩ := run_append_lies (P := Try.prog) (wr.drew.alloc (.cells #[.int .i64 x.1, .int .i64 x.2] 76)) 65 65 w.heap.size 76 i1' (.agg #[.int .i64 0, .int .i64 0]) 2 16 Try.underlying65 hi' hz0' hz1' hz2' rfl (by decide)
                          (vb t) R.2.1.length (cellsL R.2.1) (World.ownsRow.alloc hown.drew _) ⟨wr.heap.size, 0, none⟩ 1 1 [.int .i64 x.1, .int .i64 x.2] rfl (fun j u hu => by
                            rw [add_lit']
                            have := (Blk.new wr.drew 76 #[.int .i64 x.1, .int .i64 x.2]).cell j
                            simpa [hu] using this) (by simp [Value.oneCell']) (by omega) (by unfold maxLen; omega) (by omega) (by simp only [World.size_alloc]; simp only [World.drew]; have := HK.out.base.below.size; omega) (wr.heap.size + 1) (by simp)
                        have HKA := hide (HK.out.ext (((Below.refl wr.heap.size wr).drew).alloc (Nat.le_refl _) (.cells #[.int .i64 x.1, .int .i64 x.2] 76)))
                        have HMID := hide (HKA.out.mid hlt hgrow10)
                        have HKP := hide (HKA.out.push (x' := .slice (some ⟨g, 0, none⟩) (R.2.1.length + 1) cap) (e := x) hlt hgrow10 (by
                          unfold OwnL
                          rw [cellsL_append, List.length_append]
                          exact hown10) (by
                          rcases hat with h | h
                          · exact .inl h.symm
                          · exact .inr ⟨g, rfl, by rw [h]; simp only [World.size_alloc]; exact Nat.le_refl _⟩))
                        have HS27 : Hid (∀ W, Blk W zo 65 (rowV s.nt vb) → Blk W gb 76 #[.int .i64 x.1, .int .i64 x.2] → W.cell? ⟨zo, t, none⟩ = some (vb t) ∧ W.cell? ⟨gb, 0, none⟩ = some (.int .i64 x.1) ∧ W.cell? ⟨gb, 1, none⟩ = some (.int .i64 x.2)) := hide (fun W h1 h2 => ⟨by rw [h1.cell, rowV_get _ _ hlt], by rw [h2.cell]; rfl, by rw [h2.cell]; rfl⟩)
                        have hzf := HMID.out.1.frozen t
                        have hzc := (HS27.out _ HMID.out.1 HMID.out.2).1
                        have hzl := HMID.out.1.lt
                        have HAP := hide happ
                        have HSZ := hide (HS27.out _ HK.out.base.row.drew HK.out.kb.drew)
                        clear hown10 hgrow10 hat hown hi' hz0' hz1' hz2' hlt10 happ
                        refine wp_region_J (fun W : World => W.cell? ⟨zo, t, none⟩ = some (vb t) ∧ W.cell? ⟨gb, 0, none⟩ = some (.int .i64 x.1) ∧ W.cell? ⟨gb, 1, none⟩ = some (.int .i64 x.2)) (by kernel_rfl) ?_
                        refine wpAnyJ_take 0 (v := ?_) (by first | exact hF | exact wideFn) HSZ.out rfl (by kernel_rfl) (by kernel_rfl) (by kernel_rfl) (by kernel_rfl) rfl ?_ (by first | exact fun _ _ _ h => h | exact fun _ _ _ h => hQ2 _ _ _ _ _ h) ?_
                        rotate_left
                        · intro W hSW
                          simp only [List.getElem_toArray, List.getElem_cons_zero, List.getElem_cons_succ]
                          (try dsimp only at hSW)
                          go_simp
                          with_reducible rfl
                        (try simp only [List.getElem_toArray, List.getElem_cons_zero, List.getElem_cons_succ, Act.put, List.setIfInBounds_toArray, List.set_cons_zero, List.set_cons_succ])
                        refine wpAnyJ_take 1 (v := ?_) (by first | exact hF | exact wideFn) HSZ.out rfl (by kernel_rfl) (by kernel_rfl) (by kernel_rfl) (by kernel_rfl) rfl ?_ (by first | exact fun _ _ _ h => h | exact fun _ _ _ h => hQ2 _ _ _ _ _ h) ?_
                        rotate_left
                        · intro W hSW
                          simp only [List.getElem_toArray, List.getElem_cons_zero, List.getElem_cons_succ]
                          (try dsimp only at hSW)
                          go_simp
                          with_reducible rfl
                        (try simp only [List.getElem_toArray, List.getElem_cons_zero, List.getElem_cons_succ, Act.put, List.setIfInBounds_toArray, List.set_cons_zero, List.set_cons_succ])
                        refine wpAnyJ_take 2 (v := ?_) (by first | exact hF | exact wideFn) HSZ.out rfl (by kernel_rfl) (by kernel_rfl) (by kernel_rfl) (by kernel_rfl) rfl ?_ (by first | exact fun _ _ _ h => h | exact fun _ _ _ h => hQ2 _ _ _ _ _ h) ?_
                        rotate_left
                        · intro W hSW
                          simp only [List.getElem_toArray, List.getElem_cons_zero, List.getElem_cons_succ]
                          (try dsimp only at hSW)
                          go_simp
                          with_reducible rfl
                        (try simp only [List.getElem_toArray, List.getElem_cons_zero, List.getElem_cons_succ, Act.put, List.setIfInBounds_toArray, List.set_cons_zero, List.set_cons_succ])
                        refine wpAnyJ_take 3 (v := ?_) (by first | exact hF | exact wideFn) HSZ.out rfl (by kernel_rfl) (by kernel_rfl) (by kernel_rfl) (by kernel_rfl) rfl ?_ (by first | exact fun _ _ _ h => h | exact fun _ _ _ h => hQ2 _ _ _ _ _ h) ?_
                        rotate_left
                        · intro W hSW
                          simp only [List.getElem_toArray, List.getElem_cons_zero, List.getElem_cons_succ]
                          (try dsimp only at hSW)
                          go_simp
                          with_reducible rfl
                        (try simp only [List.getElem_toArray, List.getElem_cons_zero, List.getElem_cons_succ, Act.put, List.setIfInBounds_toArray, List.set_cons_zero, List.set_cons_succ])
                        refine wpAnyJ_take 4 (v := ?_) (by first | exact hF | exact wideFn) HSZ.out rfl (by kernel_rfl) (by kernel_rfl) (by kernel_rfl) (by kernel_rfl) rfl ?_ (by first | exact fun _ _ _ h => h | exact fun _ _ _ h => hQ2 _ _ _ _ _ h) ?_
                        rotate_left
                        · intro W hSW
                          simp only [List.getElem_toArray, List.getElem_cons_zero, List.getElem_cons_succ]
                          (try dsimp only at hSW)
                          go_simp
                          with_reducible rfl
                        (try simp only [List.getElem_toArray, List.getElem_cons_zero, List.getElem_cons_succ, Act.put, List.setIfInBounds_toArray, List.set_cons_zero, List.set_cons_succ])
                        refine wpAnyJ_take 5 (v := ?_) (by first | exact hF | exact wideFn) HSZ.out rfl (by kernel_rfl) (by kernel_rfl) (by kernel_rfl) (by kernel_rfl) rfl ?_ (by first | exact fun _ _ _ h => h | exact fun _ _ _ h => hQ2 _ _ _ _ _ h) ?_
                        rotate_left
                        · intro W hSW
                          simp only [List.getElem_toArray, List.getElem_cons_zero, List.getElem_cons_succ]
                          (try dsimp only at hSW)
                          go_simp
                          with_reducible rfl
                        (try simp only [List.getElem_toArray, List.getElem_cons_zero, List.getElem_cons_succ, Act.put, List.setIfInBounds_toArray, List.set_cons_zero, List.set_cons_succ])
                        refine wpAnyJ_take 6 (v := ?_) (by first | exact hF | exact wideFn) HSZ.out rfl (by kernel_rfl) (by kernel_rfl) (by kernel_rfl) (by kernel_rfl) rfl ?_ (by first | exact fun _ _ _ h => h | exact fun _ _ _ h => hQ2 _ _ _ _ _ h) ?_
                        rotate_left
                        · intro W hSW
                          simp only [List.getElem_toArray, List.getElem_cons_zero, List.getElem_cons_succ]
                          (try dsimp only at hSW)
                          go_simp
                          with_reducible rfl
                        (try simp only [List.getElem_toArray, List.getElem_cons_zero, List.getElem_cons_succ, Act.put, List.setIfInBounds_toArray, List.set_cons_zero, List.set_cons_succ])
                        refine wpAnyJ_one 7 rfl (by kernel_rfl) (fun K hK => ?_)
                        simp only [List.getElem_toArray, List.getElem_cons_zero, List.getElem_cons_succ]
                        go_simp
                        refine hK.out _ _ (fun _ => (HS27.out _ HKA.out.base.row HKA.out.kb)) ?_
                        clear hK K
                        (try simp only [List.getElem_toArray, List.getElem_cons_zero, List.getElem_cons_succ, Act.put, List.setIfInBounds_toArray, List.set_cons_zero, List.set_cons_succ])
                        refine wpAnyJ_one 8 rfl (by kernel_rfl) (fun K hK => ?_)
                        rw [if_pos (by rfl)]
                        refine wpIn_append_run (.tmp 127) (.tmp 129) 65 (by first | exact hF | exact wideFn) rfl rfl rfl HAP.out ?_
                        refine hK.out _ _ (fun _ => (HS27.out _ HMID.out.1 HMID.out.2)) ?_
                        clear hK K
                        (try simp only [List.getElem_toArray, List.getElem_cons_zero, List.getElem_cons_succ, Act.put, List.setIfInBounds_toArray, List.set_cons_zero, List.set_cons_succ])
                        refine wpAnyJ_take 9 (v := ?_) (by first | exact hF | exact wideFn) (HS27.out _ HMID.out.1 HMID.out.2) rfl (by kernel_rfl) (by kernel_rfl) (by kernel_rfl) (by kernel_rfl) rfl ?_ (by first | exact fun _ _ _ h => h | exact fun _ _ _ h => hQ2 _ _ _ _ _ h) ?_
                        rotate_left
                        · intro W hSW
                          simp only [List.getElem_toArray, List.getElem_cons_zero, List.getElem_cons_succ]
                          (try dsimp only at hSW)
                          go_simp
                          with_reducible rfl
                        (try simp only [List.getElem_toArray, List.getElem_cons_zero, List.getElem_cons_succ, Act.put, List.setIfInBounds_toArray, List.set_cons_zero, List.set_cons_succ])
                        refine wpAnyJ_one 10 rfl (by kernel_rfl) (fun K hK => ?_)
                        simp only [List.getElem_toArray, List.getElem_cons_zero, List.getElem_cons_succ]
                        go_simp
                        refine hK.out _ _ (fun h => absurd h (by rw [show lastOp _ _ _ = true from by kernel_rfl]; simp)) ?_
                        clear hK K
                        (try simp only [List.getElem_toArray, List.getElem_cons_zero, List.getElem_cons_succ, Act.put, List.setIfInBounds_toArray, List.set_cons_zero, List.set_cons_succ])
                        refine wpAnyJ_done (by kernel_rfl) ?_
                        clear hzf hzc hzl HAP HSZ HMID HKA HS27
                        rw [hRc] at HKP
                        generalize (w10.setCell ⟨zo, t, none⟩ (.slice (some ⟨g, 0, none⟩) (k + 1) cap)) = W27 at HKP ⊢
                        have HVP : Hid (upd vb t (.slice (some ⟨g, 0, none⟩) (k + 1) cap) s.nt = .slice pA (flr s) pc) := hide (by rw [upd_ne _ _ (by omega)]; exact HVB.out)
                        generalize upd vb t (.slice (some ⟨g, 0, none⟩) (k + 1) cap) = vp at HKP HVP
                        clear HK HVB HB hRc
                        go_upto_region 28 with fail
                        obtain ⟨wtb, woff, hwa, hwb, hwc⟩ := (HIW.out.below HKP.out.base.below (Nat.le_refl _)).at_ hk2
                        rw [HWN.out] at hwc
                        have HWC := hide hwc
                        have HWL := hide (Nat.lt_of_lt_of_le hwb HKP.out.base.below.size)
                        have HWA := hide hwa
                        have q1 : (0 : Int) ≤ (k : Int) := by omega
                        have q2 : (k : Int) < (s.wn t : Int) := by omega
                        obtain ⟨o1, o2, o3⟩ := hxo
                        have m1 := mulN_bd hwN1 o3
                        have e1 : ((wN * x.2 : Nat) : Int) = (wN : Int) * (x.2 : Int) := by simp
                        have hw1 : IntKind.i64.wrap ((wN : Int) * (x.2 : Int)) = (wN : Int) * (x.2 : Int) := IntWalk.i64_in _ (by omega)
                        have hw2 : IntKind.i64.wrap ((x.1 : Int) + (wN : Int) * (x.2 : Int)) = (x.1 : Int) + (wN : Int) * (x.2 : Int) := IntWalk.i64_in _ (by omega)
                        have HC1 := hide (fun W => refLowest_any ((x.1 : Int) + (wN : Int) * (x.2 : Int)) (x.2 : Int) (addN x (wN, 1)) (addD x (wN, 1)) W (by simp [addN]) (by simp [addD]) (by simp [addN]; omega) (by simp [addD]; omega) (by simp [addD]; omega))
                        unfold ldV at HC1
                        have hy2 : 0 < (lowP (addN x (wN, 1)) (addD x (wN, 1))).2 := lowP_pos _ _ (by simp [addD]; omega)
                        clear m1 e1 o1 o2 o3 hwa hwb hwc
                        generalize hY : lowP (addN x (wN, 1)) (addD x (wN, 1)) = y at HC1 hy2
                        have HYY := hide hY
                        clear hY
                        have HS28 : Hid (∀ W, TierK w s zo t vp gt gn R.1 (R.2.1 ++ [x]) gb x W → W.cell? ⟨wtb, woff + k, none⟩ = some (.int .i64 wN) → W.cell? ⟨gb, 0, none⟩ = some (.int .i64 x.1) ∧ W.cell? ⟨gb, 1, none⟩ = some (.int .i64 x.2) ∧ W.cell? ⟨gt, 1, none⟩ = some (.slice (some ⟨wtb, woff, none⟩) (s.wn t) (s.wc t)) ∧ W.cell? ⟨wtb, woff + k, none⟩ = some (.int .i64 wN)) := hide (fun W h1 h2 => by
                          obtain ⟨-, c1, c2, -, -⟩ := blk2 h1.kb
                          obtain ⟨-, c3, c4, -, -⟩ := blk2 h1.base.tr
                          rw [HWA.out] at c4
                          exact ⟨c1, c2, c4, h2⟩)
                        have HSX : Hid (∀ W, Below W27.heap.size W27 W → W.cell? ⟨gb, 0, none⟩ = some (.int .i64 x.1) ∧ W.cell? ⟨gb, 1, none⟩ = some (.int .i64 x.2) ∧ W.cell? ⟨gt, 1, none⟩ = some (.slice (some ⟨wtb, woff, none⟩) (s.wn t) (s.wc t)) ∧ W.cell? ⟨wtb, woff + k, none⟩ = some (.int .i64 wN)) := hide (fun W hb => HS28.out W (HKP.out.ext hb) ((hb.cell (p := ⟨wtb, woff + k, none⟩) HWL.out).trans HWC.out))
                        clear HS28
                        go_cut [14, 16] (fun p14 p16 wc => ∃ g16 : Nat, p16 = .pointer (some ⟨g16, 0, none⟩) ∧ p14 = .bool (fitP y) ∧ Hid (Below W27.heap.size W27 wc) ∧ Hid (Blk wc g16 76 #[.int .i64 y.1, .int .i64 y.2]))
                        case first =>
                          -- BEGIN3
                          have Bd := hide (Below.refl W27.heap.size W27).drew
                          refine wp_region_J (fun W : World => W.cell? ⟨gb, 0, none⟩ = some (.int .i64 x.1) ∧ W.cell? ⟨gb, 1, none⟩ = some (.int .i64 x.2) ∧ W.cell? ⟨gt, 1, none⟩ = some (.slice (some ⟨wtb, woff, none⟩) (s.wn t) (s.wc t)) ∧ W.cell? ⟨wtb, woff + k, none⟩ = some (.int .i64 wN)) (by kernel_rfl) ?_
                          generalize W27.drew = wd at Bd ⊢
                          refine wpAnyJ_take 0 (v := ?_) (by first | exact hF | exact wideFn) (HSX.out _ Bd.out) rfl (by kernel_rfl) (by kernel_rfl) (by kernel_rfl) (by kernel_rfl) rfl ?_ (by first | exact fun _ _ _ h => h | exact fun _ _ _ h => hQ2 _ _ _ _ _ h) ?_
                          rotate_left
                          · intro W hSW
                            simp only [List.getElem_toArray, List.getElem_cons_zero, List.getElem_cons_succ]
                            (try dsimp only at hSW)
                            go_simp
                            with_reducible rfl
                          (try simp only [List.getElem_toArray, List.getElem_cons_zero, List.getElem_cons_succ, Act.put, List.setIfInBounds_toArray, List.set_cons_zero, List.set_cons_succ])
                          refine wpAnyJ_take 1 (v := ?_) (by first | exact hF | exact wideFn) (HSX.out _ Bd.out) rfl (by kernel_rfl) (by kernel_rfl) (by kernel_rfl) (by kernel_rfl) rfl ?_ (by first | exact fun _ _ _ h => h | exact fun _ _ _ h => hQ2 _ _ _ _ _ h) ?_
                          rotate_left
                          · intro W hSW
                            simp only [List.getElem_toArray, List.getElem_cons_zero, List.getElem_cons_succ]
                            (try dsimp only at hSW)
                            go_simp
                            with_reducible rfl
                          (try simp only [List.getElem_toArray, List.getElem_cons_zero, List.getElem_cons_succ, Act.put, List.setIfInBounds_toArray, List.set_cons_zero, List.set_cons_succ])
                          refine wpAnyJ_take 2 (v := ?_) (by first | exact hF | exact wideFn) (HSX.out _ Bd.out) rfl (by kernel_rfl) (by kernel_rfl) (by kernel_rfl) (by kernel_rfl) rfl ?_ (by first | exact fun _ _ _ h => h | exact fun _ _ _ h => hQ2 _ _ _ _ _ h) ?_
                          rotate_left
                          · intro W hSW
                            simp only [List.getElem_toArray, List.getElem_cons_zero, List.getElem_cons_succ]
                            (try dsimp only at hSW)
                            go_simp
                            with_reducible rfl
                          (try simp only [List.getElem_toArray, List.getElem_cons_zero, List.getElem_cons_succ, Act.put, List.setIfInBounds_toArray, List.set_cons_zero, List.set_cons_succ])
                          refine wpAnyJ_take 3 (v := ?_) (by first | exact hF | exact wideFn) (HSX.out _ Bd.out) rfl (by kernel_rfl) (by kernel_rfl) (by kernel_rfl) (by kernel_rfl) rfl ?_ (by first | exact fun _ _ _ h => h | exact fun _ _ _ h => hQ2 _ _ _ _ _ h) ?_
                          rotate_left
                          · intro W hSW
                            simp only [List.getElem_toArray, List.getElem_cons_zero, List.getElem_cons_succ]
                            (try dsimp only at hSW)
                            go_simp
                            with_reducible rfl
                          (try simp only [List.getElem_toArray, List.getElem_cons_zero, List.getElem_cons_succ, Act.put, List.setIfInBounds_toArray, List.set_cons_zero, List.set_cons_succ])
                          refine wpAnyJ_take 4 (v := ?_) (by first | exact hF | exact wideFn) (HSX.out _ Bd.out) rfl (by kernel_rfl) (by kernel_rfl) (by kernel_rfl) (by kernel_rfl) rfl ?_ (by first | exact fun _ _ _ h => h | exact fun _ _ _ h => hQ2 _ _ _ _ _ h) ?_
                          rotate_left
                          · intro W hSW
                            simp only [List.getElem_toArray, List.getElem_cons_zero, List.getElem_cons_succ]
                            (try dsimp only at hSW)
                            go_simp
                            with_reducible rfl
                          (try simp only [List.getElem_toArray, List.getElem_cons_zero, List.getElem_cons_succ, Act.put, List.setIfInBounds_toArray, List.set_cons_zero, List.set_cons_succ])
                          refine wpAnyJ_take 5 (v := ?_) (by first | exact hF | exact wideFn) (HSX.out _ Bd.out) rfl (by kernel_rfl) (by kernel_rfl) (by kernel_rfl) (by kernel_rfl) rfl ?_ (by first | exact fun _ _ _ h => h | exact fun _ _ _ h => hQ2 _ _ _ _ _ h) ?_
                          rotate_left
                          · intro W hSW
                            simp only [List.getElem_toArray, List.getElem_cons_zero, List.getElem_cons_succ]
                            (try dsimp only at hSW)
                            go_simp
                            with_reducible rfl
                          (try simp only [List.getElem_toArray, List.getElem_cons_zero, List.getElem_cons_succ, Act.put, List.setIfInBounds_toArray, List.set_cons_zero, List.set_cons_succ])
                          refine wpAnyJ_take 6 (v := ?_) (by first | exact hF | exact wideFn) (HSX.out _ Bd.out) rfl (by kernel_rfl) (by kernel_rfl) (by kernel_rfl) (by kernel_rfl) rfl ?_ (by first | exact fun _ _ _ h => h | exact fun _ _ _ h => hQ2 _ _ _ _ _ h) ?_
                          rotate_left
                          · intro W hSW
                            simp only [List.getElem_toArray, List.getElem_cons_zero, List.getElem_cons_succ]
                            (try dsimp only at hSW)
                            go_simp
                            with_reducible rfl
                          (try simp only [List.getElem_toArray, List.getElem_cons_zero, List.getElem_cons_succ, Act.put, List.setIfInBounds_toArray, List.set_cons_zero, List.set_cons_succ])
                          refine wpAnyJ_take 7 (v := ?_) (by first | exact hF | exact wideFn) (HSX.out _ Bd.out) rfl (by kernel_rfl) (by kernel_rfl) (by kernel_rfl) (by kernel_rfl) rfl ?_ (by first | exact fun _ _ _ h => h | exact fun _ _ _ h => hQ2 _ _ _ _ _ h) ?_
                          rotate_left
                          · intro W hSW
                            simp only [List.getElem_toArray, List.getElem_cons_zero, List.getElem_cons_succ]
                            (try dsimp only at hSW)
                            go_simp
                            with_reducible rfl
                          (try simp only [List.getElem_toArray, List.getElem_cons_zero, List.getElem_cons_succ, Act.put, List.setIfInBounds_toArray, List.set_cons_zero, List.set_cons_succ])
                          refine wpAnyJ_take 8 (v := ?_) (by first | exact hF | exact wideFn) (HSX.out _ Bd.out) rfl (by kernel_rfl) (by kernel_rfl) (by kernel_rfl) (by kernel_rfl) rfl ?_ (by first | exact fun _ _ _ h => h | exact fun _ _ _ h => hQ2 _ _ _ _ _ h) ?_
                          rotate_left
                          · intro W hSW
                            simp only [List.getElem_toArray, List.getElem_cons_zero, List.getElem_cons_succ]
                            (try dsimp only at hSW)
                            go_simp
                            with_reducible rfl
                          (try simp only [List.getElem_toArray, List.getElem_cons_zero, List.getElem_cons_succ, Act.put, List.setIfInBounds_toArray, List.set_cons_zero, List.set_cons_succ])
                          refine wpAnyJ_take 9 (v := ?_) (by first | exact hF | exact wideFn) (HSX.out _ Bd.out) rfl (by kernel_rfl) (by kernel_rfl) (by kernel_rfl) (by kernel_rfl) rfl ?_ (by first | exact fun _ _ _ h => h | exact fun _ _ _ h => hQ2 _ _ _ _ _ h) ?_
                          rotate_left
                          · intro W hSW
                            simp only [List.getElem_toArray, List.getElem_cons_zero, List.getElem_cons_succ]
                            (try dsimp only at hSW)
                            go_simp
                            with_reducible rfl
                          (try simp only [List.getElem_toArray, List.getElem_cons_zero, List.getElem_cons_succ, Act.put, List.setIfInBounds_toArray, List.set_cons_zero, List.set_cons_succ])
                          refine wpAnyJ_take 10 (v := ?_) (by first | exact hF | exact wideFn) (HSX.out _ Bd.out) rfl (by kernel_rfl) (by kernel_rfl) (by kernel_rfl) (by kernel_rfl) rfl ?_ (by first | exact fun _ _ _ h => h | exact fun _ _ _ h => hQ2 _ _ _ _ _ h) ?_
                          rotate_left
                          · intro W hSW
                            simp only [List.getElem_toArray, List.getElem_cons_zero, List.getElem_cons_succ]
                            (try dsimp only at hSW)
                            go_simp
                            with_reducible rfl
                          (try simp only [List.getElem_toArray, List.getElem_cons_zero, List.getElem_cons_succ, Act.put, List.setIfInBounds_toArray, List.set_cons_zero, List.set_cons_succ])
                          refine wpAnyJ_take 11 (v := ?_) (by first | exact hF | exact wideFn) (HSX.out _ Bd.out) rfl (by kernel_rfl) (by kernel_rfl) (by kernel_rfl) (by kernel_rfl) rfl ?_ (by first | exact fun _ _ _ h => h | exact fun _ _ _ h => hQ2 _ _ _ _ _ h) ?_
                          rotate_left
                          · intro W hSW
                            simp only [List.getElem_toArray, List.getElem_cons_zero, List.getElem_cons_succ]
                            (try dsimp only at hSW)
                            go_simp
                            with_reducible rfl
                          (try simp only [List.getElem_toArray, List.getElem_cons_zero, List.getElem_cons_succ, Act.put, List.setIfInBounds_toArray, List.set_cons_zero, List.set_cons_succ])
                          refine wpAnyJ_take 12 (v := ?_) (by first | exact hF | exact wideFn) (HSX.out _ Bd.out) rfl (by kernel_rfl) (by kernel_rfl) (by kernel_rfl) (by kernel_rfl) rfl ?_ (by first | exact fun _ _ _ h => h | exact fun _ _ _ h => hQ2 _ _ _ _ _ h) ?_
                          rotate_left
                          · intro W hSW
                            simp only [List.getElem_toArray, List.getElem_cons_zero, List.getElem_cons_succ]
                            (try dsimp only at hSW)
                            go_simp
                            with_reducible rfl
                          (try simp only [List.getElem_toArray, List.getElem_cons_zero, List.getElem_cons_succ, Act.put, List.setIfInBounds_toArray, List.set_cons_zero, List.set_cons_succ])
                          refine wpAnyJ_two 13 17 rfl rfl (by kernel_rfl) (fun K hK => ?_) (fun K hK => ?_)
                          · simp only [List.getElem_toArray, List.getElem_cons_zero, List.getElem_cons_succ]
                            go_simp
                            refine ⟨trivial, rfl, ?_⟩
                            refine (callsIn_wide.2 (HC1.out _)).mono ?_
                            rintro e w6 ⟨rfl, hb6⟩
                            have Be := hide (Bd.out.trans (hb6.mono Bd.out.size))
                            dsimp only
                            refine hK.out _ _ (fun _ => HSX.out _ Be.out) ?_
                            clear hK K
                            (try simp only [List.getElem_toArray, List.getElem_cons_zero, List.getElem_cons_succ, Act.put, List.setIfInBounds_toArray, List.set_cons_zero, List.set_cons_succ])
                            refine wpAnyJ_take 14 (v := ?_) (by first | exact hF | exact wideFn) (HSX.out _ Be.out) rfl (by kernel_rfl) (by kernel_rfl) (by kernel_rfl) (by kernel_rfl) rfl ?_ (by first | exact fun _ _ _ h => h | exact fun _ _ _ h => hQ2 _ _ _ _ _ h) ?_
                            rotate_left
                            · intro W hSW
                              simp only [List.getElem_toArray, List.getElem_cons_zero, List.getElem_cons_succ]
                              (try dsimp only at hSW)
                              go_simp
                              with_reducible rfl
                            (try simp only [List.getElem_toArray, List.getElem_cons_zero, List.getElem_cons_succ, Act.put, List.setIfInBounds_toArray, List.set_cons_zero, List.set_cons_succ])
                            refine wpAnyJ_take 15 (v := ?_) (by first | exact hF | exact wideFn) (HSX.out _ Be.out) rfl (by kernel_rfl) (by kernel_rfl) (by kernel_rfl) (by kernel_rfl) rfl ?_ (by first | exact fun _ _ _ h => h | exact fun _ _ _ h => hQ2 _ _ _ _ _ h) ?_
                            rotate_left
                            · intro W hSW
                              simp only [List.getElem_toArray, List.getElem_cons_zero, List.getElem_cons_succ]
                              (try dsimp only at hSW)
                              go_simp
                              with_reducible rfl
                            (try simp only [List.getElem_toArray, List.getElem_cons_zero, List.getElem_cons_succ, Act.put, List.setIfInBounds_toArray, List.set_cons_zero, List.set_cons_succ])
                            refine wpAnyJ_take 16 (v := ?_) (by first | exact hF | exact wideFn) (HSX.out _ Be.out) rfl (by kernel_rfl) (by kernel_rfl) (by kernel_rfl) (by kernel_rfl) rfl ?_ (by first | exact fun _ _ _ h => h | exact fun _ _ _ h => hQ2 _ _ _ _ _ h) ?_
                            rotate_left
                            · intro W hSW
                              simp only [List.getElem_toArray, List.getElem_cons_zero, List.getElem_cons_succ]
                              (try dsimp only at hSW)
                              go_simp
                              with_reducible rfl
                            (try simp only [List.getElem_toArray, List.getElem_cons_zero, List.getElem_cons_succ, Act.put, List.setIfInBounds_toArray, List.set_cons_zero, List.set_cons_succ])
                            refine wpAnyJ_one 17 rfl (by kernel_rfl) (fun K hK => ?_)
                            have KZ := hide (Blk.new w6 76 #[.int .i64 0, .int .i64 0])
                            have Bf := hide (Be.out.alloc Be.out.size (.cells #[.int .i64 0, .int .i64 0] 76))
                            simp only [List.getElem_toArray, List.getElem_cons_zero, List.getElem_cons_succ]
                            go_simp
                            refine hK.out _ _ (fun _ => HSX.out _ Bf.out) ?_
                            clear hK K
                            (try simp only [List.getElem_toArray, List.getElem_cons_zero, List.getElem_cons_succ, Act.put, List.setIfInBounds_toArray, List.set_cons_zero, List.set_cons_succ])
                            have hz6 : W27.heap.size ≤ w6.heap.size := Be.out.size
                            generalize (w6.alloc (.cells #[.int .i64 0, .int .i64 0] 76)) = W6 at KZ Bf ⊢
                            generalize w6.heap.size = g16 at KZ hz6 ⊢
                            obtain ⟨p6, p7, p8, p9, p10⟩ := blk2 KZ.out
                            refine wpAnyJ_one 18 rfl (by kernel_rfl) (fun K hK => ?_)
                            simp only [List.getElem_toArray, List.getElem_cons_zero, List.getElem_cons_succ]
                            go_simp
                            refine hK.out _ _ (fun h => absurd h (by rw [show lastOp _ _ _ = true from by kernel_rfl]; simp)) ?_
                            clear hK K
                            (try simp only [List.getElem_toArray, List.getElem_cons_zero, List.getElem_cons_succ, Act.put, List.setIfInBounds_toArray, List.set_cons_zero, List.set_cons_succ])
                            refine wpAnyJ_pure 19 (v := ?_) (by first | exact hF | exact wideFn) rfl (by kernel_rfl) (by kernel_rfl) (by kernel_rfl) (by kernel_rfl) rfl (by kernel_rfl) ?_ (by first | exact fun _ _ _ h => h | exact fun _ _ _ h => hQ2 _ _ _ _ _ h) ?_
                            rotate_left
                            · simp only [List.getElem_toArray, List.getElem_cons_zero, List.getElem_cons_succ]
                              go_simp
                              with_reducible rfl
                            (try simp only [List.getElem_toArray, List.getElem_cons_zero, List.getElem_cons_succ, Act.put, List.setIfInBounds_toArray, List.set_cons_zero, List.set_cons_succ])
                            refine wpAnyJ_done (by kernel_rfl) ?_
                            go_wp2_with fail
                            go_meet
                            exact ⟨g16, rfl, rfl, hide (set2B Bf.out hz6 _ _), hide (KZ.out.set2 _ _)⟩
                          · have KZ := hide (Blk.new wd 76 #[.int .i64 0, .int .i64 0])
                            have Be := hide (Bd.out.alloc Bd.out.size (.cells #[.int .i64 0, .int .i64 0] 76))
                            simp only [List.getElem_toArray, List.getElem_cons_zero, List.getElem_cons_succ]
                            go_simp
                            refine hK.out _ _ (fun _ => HSX.out _ Be.out) ?_
                            clear hK K
                            (try simp only [List.getElem_toArray, List.getElem_cons_zero, List.getElem_cons_succ, Act.put, List.setIfInBounds_toArray, List.set_cons_zero, List.set_cons_succ])
                            have hz6 : W27.heap.size ≤ wd.heap.size := Bd.out.size
                            generalize (wd.alloc (.cells #[.int .i64 0, .int .i64 0] 76)) = W6 at KZ Be ⊢
                            generalize wd.heap.size = g16 at KZ hz6 ⊢
                            refine wpAnyJ_one 13 rfl (by kernel_rfl) (fun K hK => ?_)
                            simp only [List.getElem_toArray, List.getElem_cons_zero, List.getElem_cons_succ]
                            go_simp
                            refine ⟨trivial, rfl, ?_⟩
                            refine (callsIn_wide.2 (HC1.out _)).mono ?_
                            rintro e w6 ⟨rfl, hb6⟩
                            have Bf := hide (Be.out.trans (hb6.mono Be.out.size)); have KY := hide (KZ.out.ext hb6); clear hb6
                            dsimp only
                            refine hK.out _ _ (fun _ => HSX.out _ Bf.out) ?_
                            clear hK K
                            (try simp only [List.getElem_toArray, List.getElem_cons_zero, List.getElem_cons_succ, Act.put, List.setIfInBounds_toArray, List.set_cons_zero, List.set_cons_succ])
                            refine wpAnyJ_take 14 (v := ?_) (by first | exact hF | exact wideFn) (HSX.out _ Bf.out) rfl (by kernel_rfl) (by kernel_rfl) (by kernel_rfl) (by kernel_rfl) rfl ?_ (by first | exact fun _ _ _ h => h | exact fun _ _ _ h => hQ2 _ _ _ _ _ h) ?_
                            rotate_left
                            · intro W hSW
                              simp only [List.getElem_toArray, List.getElem_cons_zero, List.getElem_cons_succ]
                              (try dsimp only at hSW)
                              go_simp
                              with_reducible rfl
                            (try simp only [List.getElem_toArray, List.getElem_cons_zero, List.getElem_cons_succ, Act.put, List.setIfInBounds_toArray, List.set_cons_zero, List.set_cons_succ])
                            refine wpAnyJ_take 15 (v := ?_) (by first | exact hF | exact wideFn) (HSX.out _ Bf.out) rfl (by kernel_rfl) (by kernel_rfl) (by kernel_rfl) (by kernel_rfl) rfl ?_ (by first | exact fun _ _ _ h => h | exact fun _ _ _ h => hQ2 _ _ _ _ _ h) ?_
                            rotate_left
                            · intro W hSW
                              simp only [List.getElem_toArray, List.getElem_cons_zero, List.getElem_cons_succ]
                              (try dsimp only at hSW)
                              go_simp
                              with_reducible rfl
                            (try simp only [List.getElem_toArray, List.getElem_cons_zero, List.getElem_cons_succ, Act.put, List.setIfInBounds_toArray, List.set_cons_zero, List.set_cons_succ])
                            refine wpAnyJ_take 16 (v := ?_) (by first | exact hF | exact wideFn) (HSX.out _ Bf.out) rfl (by kernel_rfl) (by kernel_rfl) (by kernel_rfl) (by kernel_rfl) rfl ?_ (by first | exact fun _ _ _ h => h | exact fun _ _ _ h => hQ2 _ _ _ _ _ h) ?_
                            rotate_left
                            · intro W hSW
                              simp only [List.getElem_toArray, List.getElem_cons_zero, List.getElem_cons_succ]
                              (try dsimp only at hSW)
                              go_simp
                              with_reducible rfl
                            (try simp only [List.getElem_toArray, List.getElem_cons_zero, List.getElem_cons_succ, Act.put, List.setIfInBounds_toArray, List.set_cons_zero, List.set_cons_succ])
                            obtain ⟨p6, p7, p8, p9, p10⟩ := blk2 KY.out
                            refine wpAnyJ_one 18 rfl (by kernel_rfl) (fun K hK => ?_)
                            simp only [List.getElem_toArray, List.getElem_cons_zero, List.getElem_cons_succ]
                            go_simp
                            refine hK.out _ _ (fun h => absurd h (by rw [show lastOp _ _ _ = true from by kernel_rfl]; simp)) ?_
                            clear hK K
                            (try simp only [List.getElem_toArray, List.getElem_cons_zero, List.getElem_cons_succ, Act.put, List.setIfInBounds_toArray, List.set_cons_zero, List.set_cons_succ])
                            refine wpAnyJ_pure 19 (v := ?_) (by first | exact hF | exact wideFn) rfl (by kernel_rfl) (by kernel_rfl) (by kernel_rfl) (by kernel_rfl) rfl (by kernel_rfl) ?_ (by first | exact fun _ _ _ h => h | exact fun _ _ _ h => hQ2 _ _ _ _ _ h) ?_
                            rotate_left
                            · simp only [List.getElem_toArray, List.getElem_cons_zero, List.getElem_cons_succ]
                              go_simp
                              with_reducible rfl
                            (try simp only [List.getElem_toArray, List.getElem_cons_zero, List.getElem_cons_succ, Act.put, List.setIfInBounds_toArray, List.set_cons_zero, List.set_cons_succ])
                            refine wpAnyJ_done (by kernel_rfl) ?_
                            go_wp2_with fail
                            go_meet
                            exact ⟨g16, rfl, rfl, hide (set2B Bf.out hz6 _ _), hide (KY.out.set2 _ _)⟩
                          -- END3
                        case rest =>
                          obtain ⟨g16, rfl, rfl, HB28, HK16⟩ := hcut
                          have HKQ := hide (HKP.out.base.ext HB28.out)
                          rcases hf1 : fitP y with _ | _
                          · have HOV3 := hide (over_of H1.out H2.out hlt HOK1.out hk2 (by rw [HRR.out]; exact brk_no2 HOK.out HXX.out HWT.out (by rw [HYY.out]; exact hf1)))
                            clear hf1
                            go_wp2_with fail
                            go_ret3
                            exact .inl ⟨HOV3.out, rfl, HKQ.out.below⟩
                          · have hrl0 := rest_pos H2.out t k hlt hk2
                            have hrl1 : (restL s t k).length ≤ 144 := by
                              have h1 := restTo_len s t k (s.cn t)
                              rw [restTo_all, HF1.out] at h1
                              omega
                            have HRst := hide (refRests_any s t (k : Int) wc ((HSS.out.below HKQ.out.below (Nat.le_refl _)).more HKQ.out.below.size) hlt (fun i hi => (tier_facts H1.out hi).1.trans HF1.out.symm))
                            obtain ⟨fy1, fy2⟩ : y.1 ≤ 1000000000 ∧ y.2 ≤ 1000000000 := by simpa [fitP] using hf1
                            obtain ⟨n, hn⟩ : ∃ n, (restL s t k).length = n := ⟨_, rfl⟩
                            rw [hn] at hrl0 hrl1
                            have HN := hide hn
                            have m1 := mulN_bd fy2 hrl1
                            have m2 : 0 < y.2 * n := Nat.mul_pos hy2 hrl0
                            have e1 : ((y.2 * n : Nat) : Int) = (y.2 : Int) * (n : Int) := by simp
                            have hw1 : IntKind.i64.wrap ((y.2 : Int) * (n : Int)) = (y.2 : Int) * (n : Int) := IntWalk.i64_in _ (by omega)
                            have HC2 := hide (fun W => refLowest_any (y.1 : Int) ((y.2 : Int) * (n : Int)) y.1 (y.2 * n) W rfl (by simp) (by omega) (by omega) m2)
                            unfold ldV at HC2
                            generalize hsh : lowP y.1 (y.2 * n) = sh at HC2
                            have HSH := hide hsh
                            have HF1Y := hide hf1
                            obtain ⟨a0, a1, a2, a3, -, -, -⟩ := blk3 HKQ.out.bx
                            obtain ⟨p6, p7, p8, p9, p10⟩ := blk2 HK16.out
                            have hgn := HKQ.out.nlt
                            clear hn m1 m2 e1 hsh hf1
                            rcases hf2 : fitP sh with _ | _
                            · rw [hf2] at HC2
                              have HOV3 := hide (over_of H1.out H2.out hlt HOK1.out hk2 (by rw [HRR.out]; exact brk_no3 HOK.out HXX.out HWT.out HYY.out HF1Y.out HN.out (by rw [HSH.out]; exact hf2)))
                              clear hf2
                              go_wp2_with (first | (go_at_call 71; refine HRst.out.mono ?_; rintro e w7 ⟨v7, rfl, hown7, hb7⟩; rw [HN.out] at hown7; obtain ⟨vA, vc, rfl⟩ := own_shape hown7; have HKR := hide (HKQ.out.ext hb7); obtain ⟨q6, q7, q8, q9, q10⟩ := blk2 (HK16.out.ext hb7); clear hown7 hb7) | (go_at_call 72; refine (HC2.out _).mono ?_; rintro e w8 ⟨rfl, hb8⟩; have HKS := hide (HKR.out.ext hb8); clear hb8))
                              go_ret3
                              exact .inl ⟨HOV3.out, rfl, HKS.out.below.alloc HKS.out.below.size _⟩
                            · rw [hf2] at HC2
                              have HBY := hide (show brkSt s t ((gL s (t + 1)).1 s.nt) R k = (layOn R.1 (restL s t k) sh, R.2.1 ++ [x], true) from by rw [brk_yes HOK.out HA.out HXX.out HWT.out HYY.out HF1Y.out HN.out (by rw [HSH.out]; exact hf2), HSH.out])
                              clear hf2
                              go_wp2_with (first | (go_at_call 71; refine HRst.out.mono ?_; rintro e w7 ⟨v7, rfl, hown7, hb7⟩; rw [HN.out] at hown7; obtain ⟨vA, vc, rfl⟩ := own_shape hown7; have HKR := hide (HKQ.out.ext hb7); have HR7 := hide hown7; obtain ⟨q6, q7, q8, q9, q10⟩ := blk2 (HK16.out.ext hb7); have z7 := hb7.size; clear hown7 hb7) | (go_at_call 72; refine (HC2.out _).mono ?_; rintro e w8 ⟨rfl, hb8⟩; have HKS := hide (HKR.out.ext hb8); have HR8 := hide (ownBelow HR7.out hb8); have z8 := hb8.size; clear hb8))
                              have HKT := hide (HKS.out.ext ((Below.refl w8.heap.size w8).alloc (Nat.le_refl _) (.cells #[.int .i64 sh.1, .int .i64 sh.2] 76)))
                              have HR9 := hide (World.ownsRow.alloc HR8.out (.cells #[.int .i64 sh.1, .int .i64 sh.2] 76))
                              have HB18 := hide (Blk.new w8 76 #[.int .i64 sh.1, .int .i64 sh.2])
                              have hg18 : gn < w8.heap.size := by omega
                              generalize (w8.alloc (.cells #[.int .i64 sh.1, .int .i64 sh.2] 76)) = W9 at HKT HR9 HB18 ⊢
                              generalize w8.heap.size = g18 at HB18 hg18 ⊢
                              clear a0 a1 a2 a3 p6 p7 p8 p9 p10 q6 q7 q8 q9 q10 HKS HR8 HKR HR7 HC2 HRst hw1 z7 z8
                              go_loopw [19] (fun i wr => ∃ j : Nat, i = .int .i64 j ∧ j ≤ n ∧ Hid (TierB w s zo t vp gt gn (layOn R.1 ((restL s t k).take j) sh) (R.2.1 ++ [x]) wr) ∧ Hid (Blk wr g18 76 #[.int .i64 sh.1, .int .i64 sh.2]) ∧ Hid (wr.ownsRow wc.heap.size 3 1 (.slice vA n vc) n ((restL s t k).map iv'))) (fun i _ => n - (intOf i).toNat)
                              case atStart => exact ⟨0, rfl, by omega, HKT, HB18, HR9⟩
                              case round =>
                                obtain ⟨j, rfl, hjn, HT, HBX, HR⟩ := hrel
                                by_cases hlt4 : j < n
                                · obtain ⟨br, u, hAr, hbr1, hbr2, hu, hcell⟩ := own_at HR.out hlt4
                                  obtain ⟨c, hc⟩ : ∃ c, (restL s t k)[j]? = some c := ⟨_, List.getElem?_eq_getElem (by rw [HN.out]; exact hlt4)⟩
                                  rw [List.getElem?_map, hc] at hu
                                  have hue : u = .int .i64 c := by injection hu with hu; exact hu.symm
                                  subst hue
                                  have hcm : c < flr s := by have := restL_lt (List.mem_of_getElem? hc); rw [HF1.out] at this; exact this
                                  subst hAr
                                  have HD := hide (HT.out.ext (Below.refl _ _).drew)
                                  have hlen : (layOn R.1 ((restL s t k).take j) sh).length = flr s := by rw [layOn_len, HRL.out.1]
                                  obtain ⟨e0, e1, fz0, fz1, hgl⟩ := HD.out.at_ hlen hcm
                                  have HP1 := hide (HD.out.put hlen hcm sh)
                                  rw [← layOn_take hc] at HP1
                                  have hS : wr.drew.cell? ⟨br, j, none⟩ = some (.int .i64 c) ∧ wr.drew.cell? ⟨g18, 0, none⟩ = some (.int .i64 sh.1) ∧ wr.drew.cell? ⟨g18, 1, none⟩ = some (.int .i64 sh.2) := by
                                    obtain ⟨-, c1, c2, -, -⟩ := blk2 HBX.out
                                    exact ⟨hcell, c1, c2⟩
                                  have HSS38 := hide hS
                                  have HP2 := hide ((HBX.out.drew.far (p := ⟨gn, c * 2, none⟩) (by show g18 ≠ gn; omega) (.int .i64 sh.1)).far (p := ⟨gn, c * 2 + 1, none⟩) (by show g18 ≠ gn; omega) (.int .i64 sh.2))
                                  have HP3 := hide (own_far HR.out.drew (grown_set2 wr.drew gn (c * 2) (c * 2 + 1) (.int .i64 sh.1) (.int .i64 sh.2)) hgn)
                                  have j0 : (0 : Int) ≤ (c : Int) := by omega
                                  have j1 : (c : Int) < (flr s : Int) := by omega
                                  have j2 : (0 : Int) ≤ (j : Int) := by omega
                                  have j3 : (j : Int) < (n : Int) := by omega
                                  clear hu hc hlen hS hcell hbr1 hbr2
                                  go_upto_region 38 with fail
                                  refine wp_region_J (fun W : World => W.cell? ⟨br, j, none⟩ = some (.int .i64 c) ∧ W.cell? ⟨g18, 0, none⟩ = some (.int .i64 sh.1) ∧ W.cell? ⟨g18, 1, none⟩ = some (.int .i64 sh.2)) (by kernel_rfl) ?_
                                  generalize wr.drew = wd at HP1 HP2 HP3 HSS38 e0 e1 fz0 fz1 hgl ⊢
                                  refine wpAnyJ_take 0 (v := ?_) (by first | exact hF | exact wideFn) HSS38.out rfl (by kernel_rfl) (by kernel_rfl) (by kernel_rfl) (by kernel_rfl) rfl ?_ (by first | exact fun _ _ _ h => h | exact fun _ _ _ h => hQ2 _ _ _ _ _ h) ?_
                                  rotate_left
                                  · intro W hSW
                                    simp only [List.getElem_toArray, List.getElem_cons_zero, List.getElem_cons_succ]
                                    (try dsimp only at hSW)
                                    go_simp
                                    with_reducible rfl
                                  (try simp only [List.getElem_toArray, List.getElem_cons_zero, List.getElem_cons_succ, Act.put, List.setIfInBounds_toArray, List.set_cons_zero, List.set_cons_succ])
                                  refine wpAnyJ_take 1 (v := ?_) (by first | exact hF | exact wideFn) HSS38.out rfl (by kernel_rfl) (by kernel_rfl) (by kernel_rfl) (by kernel_rfl) rfl ?_ (by first | exact fun _ _ _ h => h | exact fun _ _ _ h => hQ2 _ _ _ _ _ h) ?_
                                  rotate_left
                                  · intro W hSW
                                    simp only [List.getElem_toArray, List.getElem_cons_zero, List.getElem_cons_succ]
                                    (try dsimp only at hSW)
                                    go_simp
                                    with_reducible rfl
                                  (try simp only [List.getElem_toArray, List.getElem_cons_zero, List.getElem_cons_succ, Act.put, List.setIfInBounds_toArray, List.set_cons_zero, List.set_cons_succ])
                                  refine wpAnyJ_take 2 (v := ?_) (by first | exact hF | exact wideFn) HSS38.out rfl (by kernel_rfl) (by kernel_rfl) (by kernel_rfl) (by kernel_rfl) rfl ?_ (by first | exact fun _ _ _ h => h | exact fun _ _ _ h => hQ2 _ _ _ _ _ h) ?_
                                  rotate_left
                                  · intro W hSW
                                    simp only [List.getElem_toArray, List.getElem_cons_zero, List.getElem_cons_succ]
                                    (try dsimp only at hSW)
                                    go_simp
                                    with_reducible rfl
                                  (try simp only [List.getElem_toArray, List.getElem_cons_zero, List.getElem_cons_succ, Act.put, List.setIfInBounds_toArray, List.set_cons_zero, List.set_cons_succ])
                                  refine wpAnyJ_take 3 (v := ?_) (by first | exact hF | exact wideFn) HSS38.out rfl (by kernel_rfl) (by kernel_rfl) (by kernel_rfl) (by kernel_rfl) rfl ?_ (by first | exact fun _ _ _ h => h | exact fun _ _ _ h => hQ2 _ _ _ _ _ h) ?_
                                  rotate_left
                                  · intro W hSW
                                    simp only [List.getElem_toArray, List.getElem_cons_zero, List.getElem_cons_succ]
                                    (try dsimp only at hSW)
                                    go_simp
                                    with_reducible rfl
                                  (try simp only [List.getElem_toArray, List.getElem_cons_zero, List.getElem_cons_succ, Act.put, List.setIfInBounds_toArray, List.set_cons_zero, List.set_cons_succ])
                                  refine wpAnyJ_take 4 (v := ?_) (by first | exact hF | exact wideFn) HSS38.out rfl (by kernel_rfl) (by kernel_rfl) (by kernel_rfl) (by kernel_rfl) rfl ?_ (by first | exact fun _ _ _ h => h | exact fun _ _ _ h => hQ2 _ _ _ _ _ h) ?_
                                  rotate_left
                                  · intro W hSW
                                    simp only [List.getElem_toArray, List.getElem_cons_zero, List.getElem_cons_succ]
                                    (try dsimp only at hSW)
                                    go_simp
                                    with_reducible rfl
                                  (try simp only [List.getElem_toArray, List.getElem_cons_zero, List.getElem_cons_succ, Act.put, List.setIfInBounds_toArray, List.set_cons_zero, List.set_cons_succ])
                                  refine wpAnyJ_take 5 (v := ?_) (by first | exact hF | exact wideFn) HSS38.out rfl (by kernel_rfl) (by kernel_rfl) (by kernel_rfl) (by kernel_rfl) rfl ?_ (by first | exact fun _ _ _ h => h | exact fun _ _ _ h => hQ2 _ _ _ _ _ h) ?_
                                  rotate_left
                                  · intro W hSW
                                    simp only [List.getElem_toArray, List.getElem_cons_zero, List.getElem_cons_succ]
                                    (try dsimp only at hSW)
                                    go_simp
                                    with_reducible rfl
                                  (try simp only [List.getElem_toArray, List.getElem_cons_zero, List.getElem_cons_succ, Act.put, List.setIfInBounds_toArray, List.set_cons_zero, List.set_cons_succ])
                                  refine wpAnyJ_take 6 (v := ?_) (by first | exact hF | exact wideFn) HSS38.out rfl (by kernel_rfl) (by kernel_rfl) (by kernel_rfl) (by kernel_rfl) rfl ?_ (by first | exact fun _ _ _ h => h | exact fun _ _ _ h => hQ2 _ _ _ _ _ h) ?_
                                  rotate_left
                                  · intro W hSW
                                    simp only [List.getElem_toArray, List.getElem_cons_zero, List.getElem_cons_succ]
                                    (try dsimp only at hSW)
                                    go_simp
                                    with_reducible rfl
                                  (try simp only [List.getElem_toArray, List.getElem_cons_zero, List.getElem_cons_succ, Act.put, List.setIfInBounds_toArray, List.set_cons_zero, List.set_cons_succ])
                                  refine wpAnyJ_one 7 rfl (by kernel_rfl) (fun K hK => ?_)
                                  simp only [List.getElem_toArray, List.getElem_cons_zero, List.getElem_cons_succ]
                                  go_simp
                                  refine hK.out _ _ (fun h => absurd h (by rw [show lastOp _ _ _ = true from by kernel_rfl]; simp)) ?_
                                  clear hK K
                                  (try simp only [List.getElem_toArray, List.getElem_cons_zero, List.getElem_cons_succ, Act.put, List.setIfInBounds_toArray, List.set_cons_zero, List.set_cons_succ])
                                  refine wpAnyJ_done (by kernel_rfl) ?_
                                  clear e0 e1 fz0 fz1 hgl
                                  generalize ((wd.setCell ⟨gn, c * 2, none⟩ (.int .i64 sh.1)).setCell ⟨gn, c * 2 + 1, none⟩ (.int .i64 sh.2)) = wn at HP1 HP2 HP3 ⊢
                                  go_wp2_with fail
                                  go_roundw
                                  case rel => exact ⟨j + 1, by go_num, by omega, HP1, HP2, HP3⟩
                                  case measure => simp [intOf]; omega
                                · obtain rfl : j = n := by omega
                                  rw [List.take_of_length_le (by rw [HN.out]; exact Nat.le_refl _)] at HT
                                  have HTR := hide (show tierR s (flr s) t ((gL s (t + 1)).1 s.nt) [] true (k + 1) = (layOn R.1 (restL s t k) sh, R.2.1 ++ [x], true) by rw [tierR_succ, HRR.out, HBY.out])
                                  go_wp2_with fail
                                  go_roundw
                                  case rel => exact ⟨k + 1, vp, by go_num, by omega, HVP, by rw [HTR.out]; exact hide rfl, by rw [HTR.out]; exact HT⟩
                                  case measure => simp [intOf]; omega
                  · obtain rfl : k = s.wn t := by omega
                    have HE := hide (tierB_end HB.out hlt HOK1.out)
                    have HT2 := hide ((gL_tier hlt HOK1.out).2.trans HOK.out)
                    go_wp2_with fail
                    go_roundw
                    case rel => exact ⟨t, _, _, rfl, rfl, by omega, (upd_same ..).symm, HE, HT2⟩
                    case measure => simp [intOf]
end Go.Proofs.Ytlhekifmkkgjlaa
