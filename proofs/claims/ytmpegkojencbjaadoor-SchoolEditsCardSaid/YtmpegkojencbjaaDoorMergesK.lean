/- School: the law SchoolEdits: the row and the tied card. -/
import Derived.Test.YtmpegkojencbjaaDoorMergesJ
import Derived.Test.YtmpegkojencbjaaDoorRows
import Derived.ProofKit
import Derived.OpenShut
import Derived.Carry
import Derived.ChangeSame
import Derived.Deep.SlicePairs
import Derived.ChangeSlices
import Derived.SliceStrings
import Derived.Test.YtmpegkojencbjaaDoorCards
import Derived.Test.YtmpegkojencbjaaDoorTie
import Derived.LaidMore
import Derived.Lay
import Derived.SevenTiedAt
import Derived.Stop.Joined
set_option linter.unusedSimpArgs false
set_option linter.unusedVariables false
set_option linter.unnecessarySimpa false
/- School: the reference's Invert. -/
namespace Go.Proofs.YtmpegkojencbjaaDoor
open List renaming getElem_toArray → glA, getElem_cons_zero → glB, getElem_cons_succ → glC, setIfInBounds_toArray → glD, set_cons_zero → glE, set_cons_succ → glF
open Go Go.RowKit Go.Shelf
set_option maxHeartbeats 8000000
set_option maxRecDepth 100000
theorem refInvert_any (B : Option Addr) (d : Nat) (es : List Ed) (w : World) (hf : formB es = true) (hB : EdR w w.heap.size B es) :
    Calls Tryd.prog 46 #[.slice B es.length d] w (IvPost w (ivX es)) := by
  have HB := hide hB
  obtain ⟨n, hn⟩ : ∃ n, es.length = n := ⟨_, rfl⟩
  have HN := hide hn
  have HFO := hide hf
  have hm40 : n ≤ 40 := by rw [← HN.out]; exact form_len hf
  rw [hn]
  clear hB hn hf
  go_enter Tryd.func46, Tryd.ntmps46
  have HO0 : Hid (OwnE (w.alloc (.cells #[] 86)) w.heap.size (.slice (some ⟨w.heap.size, 0, none⟩) 0 0) (ivP es 0)) := hide (show OwnE (w.alloc (.cells #[] 86)) w.heap.size (.slice (some ⟨w.heap.size, 0, none⟩) 0 0) [] from OwnE.made1 w)
  have HB0 := hide ((Below.refl w.heap.size w).alloc (Nat.le_refl _) (.cells #[] 86))
  go_wp2_with fail
  generalize (w.alloc (.cells #[] 86)) = w0 at HO0 HB0 ⊢
  go_loopw [4, 5] (fun v i wr => ∃ (k : Nat) (vl : Value), k ≤ n ∧ i = .int .i64 k ∧ v = vl ∧ Hid (ivC es k = true) ∧ Hid (OwnE wr w.heap.size vl (ivP es k)) ∧ Hid (Below w.heap.size w wr)) (fun _ i _ => n - (intOf i).toNat)
  case atStart => exact ⟨0, _, Nat.zero_le _, rfl, rfl, hide rfl, HO0, HB0⟩
  case round =>
    obtain ⟨k, vl, hk, rfl, rfl, HC, HO, HBW⟩ := hrel
    clear HO0 HB0
    by_cases hlt : k < n
    · -- BEGIN1
      have hlt' : (k : Int) < (n : Int) := by omega
      have k0 : (0 : Int) ≤ (k : Int) := by omega
      have hst : IntKind.i64.wrap ((k : Int) + 1) = ((k + 1 : Nat) : Int) := by rw [IntWalk.i64_in _ (by omega)]; omega
      obtain ⟨vA, vc, hv⟩ := own_shape HO.out
      subst hv
      rw [ivP_len] at HO ⊢
      obtain ⟨e, he⟩ : ∃ e, es.getD k e0 = e := ⟨_, rfl⟩
      obtain ⟨xb, xo, rfl, hxb, a0, a1, a2, a3⟩ := HB.out.at_ (by rw [HN.out]; exact hlt) he
      have hfl := form_lo HFO.out (k := k) (by rw [HN.out]; exact hlt)
      rw [he] at hfl
      have HE := hide he
      clear he
      obtain ⟨x0, x1, x2, x3⟩ := e
      dsimp only at a0 a1 a2 a3 hfl
      have HCL : Hid (∀ W, Below w.heap.size w W → W.cell? ⟨xb, xo + k * 4, none⟩ = some (.int .i64 x0) ∧ W.cell? ⟨xb, xo + k * 4 + 1, none⟩ = some (.int .i64 x1) ∧ W.cell? ⟨xb, xo + k * 4 + 2, none⟩ = some (.string x2) ∧ W.cell? ⟨xb, xo + k * 4 + 3, none⟩ = some (.string x3)) := hide fun W h =>
        ⟨(h.cell (p := ⟨xb, xo + k * 4, none⟩) hxb).trans a0, (h.cell (p := ⟨xb, xo + k * 4 + 1, none⟩) hxb).trans a1, (h.cell (p := ⟨xb, xo + k * 4 + 2, none⟩) hxb).trans a2, (h.cell (p := ⟨xb, xo + k * 4 + 3, none⟩) hxb).trans a3⟩
      clear a0 a1 a2 a3
      obtain ⟨hx1, hx2, hx3⟩ := hfl
      obtain ⟨c0, c1, c2, c3⟩ := HCL.out _ HBW.out
      go_wp2_with fail
      clear c0 c1 c2 c3
      go_loopw [6, 7] (fun t x wq => ∃ q : Nat, q ≤ k ∧ x = .int .i64 q ∧ t = .int .i64 (x1 + mvN es q) ∧ Hid (wr = wq)) (fun _ x _ => k - (intOf x).toNat)
      case atStart => exact ⟨0, Nat.zero_le _, rfl, by rw [show mvN es 0 = 0 from rfl, Int.add_zero], hide rfl⟩
      case round =>
        obtain ⟨q, hq, rfl, rfl, HBQ⟩ := hrel
        have hbq := HBQ.out
        subst hbq
        have hbd := mvN_bd es q
        by_cases hqk : q < k
        · have hqk' : (q : Int) < (k : Int) := by omega
          have q0 : (0 : Int) ≤ (q : Int) := by omega
          have q1 : (q : Int) < (n : Int) := by omega
          have qst : IntKind.i64.wrap ((q : Int) + 1) = ((q + 1 : Nat) : Int) := by rw [IntWalk.i64_in _ (by omega)]; omega
          obtain ⟨y, hy⟩ : ∃ e, es.getD q e0 = e := ⟨_, rfl⟩
          obtain ⟨yb, yo, hA2, hyb, a0, a1, a2, a3⟩ := HB.out.at_ (k := q) (by rw [HN.out]; omega) hy
          injection hA2 with hA2
          injection hA2 with e1 e2
          subst e1 e2
          obtain ⟨y0, y1, y2, y3⟩ := y
          dsimp only at a0 a1 a2 a3
          have d0 := (HBW.out.cell (p := ⟨xb, xo + q * 4, none⟩) hyb).trans a0
          clear a0 a1 a2 a3
          have hmq : mvN es (q + 1) = mvF (mvN es q) ⟨y0, y1, y2, y3⟩ := by show mvF (mvN es q) (es.getD q e0) = _; rw [hy]
          obtain ⟨mv, hmv⟩ : ∃ v, mvN es q = v := ⟨_, rfl⟩
          rw [hmv] at hmq hbd ⊢
          have w1 : IntKind.i64.wrap (x1 + mv + 1) = x1 + mv + 1 := IntWalk.i64_in _ (by omega)
          have w2 : IntKind.i64.wrap (x1 + mv - 1) = x1 + mv - 1 := IntWalk.i64_in _ (by omega)
          clear hy hmv hbd HBQ
          have HBQ : Hid (wr = wr) := hide rfl
          by_cases h3 : y0 = 3
          · subst h3
            have HQ : Hid (x1 + mvN es (q + 1) = x1 + mv + 1) := hide (by rw [hmq]; show x1 + (if _ then _ else _) = _; rw [if_pos rfl]; omega)
            clear hmq
            go_wp2_with fail
            go_roundw
            case rel => exact ⟨q + 1, by omega, by go_num, by rw [HQ.out], by first | exact hide trivial | exact hide rfl⟩
            case measure => simp [intOf]; omega
          · have h3' : (y0 == 3) = false := by simp [h3]
            by_cases h2 : y0 = 2
            · subst h2
              have HQ : Hid (x1 + mvN es (q + 1) = x1 + mv - 1) := hide (by rw [hmq]; show x1 + (if _ then _ else if _ then _ else _) = _; rw [if_neg (show ¬ (2 : Int) = 3 by decide), if_pos rfl]; omega)
              clear hmq
              go_wp2_with fail
              go_roundw
              case rel => exact ⟨q + 1, by omega, by go_num, by rw [HQ.out], by first | exact hide trivial | exact hide rfl⟩
              case measure => simp [intOf]; omega
            · have h2' : (y0 == 2) = false := by simp [h2]
              have HQ : Hid (x1 + mvN es (q + 1) = x1 + mv) := hide (by rw [hmq]; show x1 + (if _ then _ else if _ then _ else _) = _; rw [if_neg h3, if_neg h2])
              clear hmq h2 h3
              go_wp2_with fail
              go_roundw
              case rel => exact ⟨q + 1, by omega, by go_num, by rw [HQ.out], by first | exact hide trivial | exact hide rfl⟩
              case measure => simp [intOf]; omega
        · obtain rfl : k = q := by omega
          have hnq : ¬ (k : Int) < (k : Int) := by omega
          obtain ⟨mv, hmv⟩ : ∃ v, mvN es k = v := ⟨_, rfl⟩
          rw [hmv]
          have HMV := hide hmv
          clear hmv hbd HBQ
          go_upto_region 13 with fail
          have HBd := hide (HBW.out.trans ((Below.refl wr.heap.size wr).drew.mono HBW.out.size))
          have HOd := hide (HO.out.ext (Below.refl wr.heap.size wr).drew)
          have HS : Hid (∀ W, Below w.heap.size w W → (W.cell? ⟨xb, xo + k * 4, none⟩ = some (.int .i64 x0) ∧ W.cell? ⟨xb, xo + k * 4 + 2, none⟩ = some (.string x2) ∧ W.cell? ⟨xb, xo + k * 4 + 3, none⟩ = some (.string x3))) := hide fun W h => ⟨(HCL.out W h).1, (HCL.out W h).2.2.1, (HCL.out W h).2.2.2⟩
          refine wp_region_J (fun W : World => (W.cell? ⟨xb, xo + k * 4, none⟩ = some (.int .i64 x0) ∧ W.cell? ⟨xb, xo + k * 4 + 2, none⟩ = some (.string x2) ∧ W.cell? ⟨xb, xo + k * 4 + 3, none⟩ = some (.string x3))) (by kernel_rfl) ?_
          generalize wr.drew = wd at HBd HOd ⊢
          clear HBW HO
          have HBW := HBd
          have HO := HOd
          clear HBd HOd
          have HBa : Hid (Below w.heap.size w (wd.alloc (.cells #[.int .i64 x0, .int .i64 (x1 + mv), .string x3, .string x2] 86))) := hide (HBW.out.alloc HBW.out.size _)
          refine wpAnyJ_take 0 (v := ?_) (by first | exact hF | exact wideFn) (HS.out _ HBW.out) rfl (by kernel_rfl) (by kernel_rfl) (by kernel_rfl) (by kernel_rfl) rfl ?_ (by first | exact fun _ _ _ h => h | exact fun _ _ _ h => hQ2 _ _ _ _ _ h) ?_
          rotate_left
          · intro W hSW
            simp only [glA, glB, glC]
            (try dsimp only at hSW)
            go_simp
            with_reducible rfl
          (try simp only [glA, glB, glC, Act.put, glD, glE, glF])
          refine wpAnyJ_take 1 (v := ?_) (by first | exact hF | exact wideFn) (HS.out _ HBW.out) rfl (by kernel_rfl) (by kernel_rfl) (by kernel_rfl) (by kernel_rfl) rfl ?_ (by first | exact fun _ _ _ h => h | exact fun _ _ _ h => hQ2 _ _ _ _ _ h) ?_
          rotate_left
          · intro W hSW
            simp only [glA, glB, glC]
            (try dsimp only at hSW)
            go_simp
            with_reducible rfl
          (try simp only [glA, glB, glC, Act.put, glD, glE, glF])
          refine wpAnyJ_take 2 (v := ?_) (by first | exact hF | exact wideFn) (HS.out _ HBW.out) rfl (by kernel_rfl) (by kernel_rfl) (by kernel_rfl) (by kernel_rfl) rfl ?_ (by first | exact fun _ _ _ h => h | exact fun _ _ _ h => hQ2 _ _ _ _ _ h) ?_
          rotate_left
          · intro W hSW
            simp only [glA, glB, glC]
            (try dsimp only at hSW)
            go_simp
            with_reducible rfl
          (try simp only [glA, glB, glC, Act.put, glD, glE, glF])
          refine wpAnyJ_take 3 (v := ?_) (by first | exact hF | exact wideFn) (HS.out _ HBW.out) rfl (by kernel_rfl) (by kernel_rfl) (by kernel_rfl) (by kernel_rfl) rfl ?_ (by first | exact fun _ _ _ h => h | exact fun _ _ _ h => hQ2 _ _ _ _ _ h) ?_
          rotate_left
          · intro W hSW
            simp only [glA, glB, glC]
            (try dsimp only at hSW)
            go_simp
            with_reducible rfl
          (try simp only [glA, glB, glC, Act.put, glD, glE, glF])
          refine wpAnyJ_take 4 (v := ?_) (by first | exact hF | exact wideFn) (HS.out _ HBW.out) rfl (by kernel_rfl) (by kernel_rfl) (by kernel_rfl) (by kernel_rfl) rfl ?_ (by first | exact fun _ _ _ h => h | exact fun _ _ _ h => hQ2 _ _ _ _ _ h) ?_
          rotate_left
          · intro W hSW
            simp only [glA, glB, glC]
            (try dsimp only at hSW)
            go_simp
            with_reducible rfl
          (try simp only [glA, glB, glC, Act.put, glD, glE, glF])
          refine wpAnyJ_take 5 (v := ?_) (by first | exact hF | exact wideFn) (HS.out _ HBW.out) rfl (by kernel_rfl) (by kernel_rfl) (by kernel_rfl) (by kernel_rfl) rfl ?_ (by first | exact fun _ _ _ h => h | exact fun _ _ _ h => hQ2 _ _ _ _ _ h) ?_
          rotate_left
          · intro W hSW
            simp only [glA, glB, glC]
            (try dsimp only at hSW)
            go_simp
            with_reducible rfl
          (try simp only [glA, glB, glC, Act.put, glD, glE, glF])
          refine wpAnyJ_take 6 (v := ?_) (by first | exact hF | exact wideFn) (HS.out _ HBW.out) rfl (by kernel_rfl) (by kernel_rfl) (by kernel_rfl) (by kernel_rfl) rfl ?_ (by first | exact fun _ _ _ h => h | exact fun _ _ _ h => hQ2 _ _ _ _ _ h) ?_
          rotate_left
          · intro W hSW
            simp only [glA, glB, glC]
            (try dsimp only at hSW)
            go_simp
            with_reducible rfl
          (try simp only [glA, glB, glC, Act.put, glD, glE, glF])
          refine wpAnyJ_take 7 (v := ?_) (by first | exact hF | exact wideFn) (HS.out _ HBW.out) rfl (by kernel_rfl) (by kernel_rfl) (by kernel_rfl) (by kernel_rfl) rfl ?_ (by first | exact fun _ _ _ h => h | exact fun _ _ _ h => hQ2 _ _ _ _ _ h) ?_
          rotate_left
          · intro W hSW
            simp only [glA, glB, glC]
            (try dsimp only at hSW)
            go_simp
            with_reducible rfl
          (try simp only [glA, glB, glC, Act.put, glD, glE, glF])
          refine wpAnyJ_take 8 (v := ?_) (by first | exact hF | exact wideFn) (HS.out _ HBW.out) rfl (by kernel_rfl) (by kernel_rfl) (by kernel_rfl) (by kernel_rfl) rfl ?_ (by first | exact fun _ _ _ h => h | exact fun _ _ _ h => hQ2 _ _ _ _ _ h) ?_
          rotate_left
          · intro W hSW
            simp only [glA, glB, glC]
            (try dsimp only at hSW)
            go_simp
            with_reducible rfl
          (try simp only [glA, glB, glC, Act.put, glD, glE, glF])
          refine wpAnyJ_take 9 (v := ?_) (by first | exact hF | exact wideFn) (HS.out _ HBW.out) rfl (by kernel_rfl) (by kernel_rfl) (by kernel_rfl) (by kernel_rfl) rfl ?_ (by first | exact fun _ _ _ h => h | exact fun _ _ _ h => hQ2 _ _ _ _ _ h) ?_
          rotate_left
          · intro W hSW
            simp only [glA, glB, glC]
            (try dsimp only at hSW)
            go_simp
            with_reducible rfl
          (try simp only [glA, glB, glC, Act.put, glD, glE, glF])
          refine wpAnyJ_take 10 (v := ?_) (by first | exact hF | exact wideFn) (HS.out _ HBW.out) rfl (by kernel_rfl) (by kernel_rfl) (by kernel_rfl) (by kernel_rfl) rfl ?_ (by first | exact fun _ _ _ h => h | exact fun _ _ _ h => hQ2 _ _ _ _ _ h) ?_
          rotate_left
          · intro W hSW
            simp only [glA, glB, glC]
            (try dsimp only at hSW)
            go_simp
            with_reducible rfl
          (try simp only [glA, glB, glC, Act.put, glD, glE, glF])
          refine wpAnyJ_take 11 (v := ?_) (by first | exact hF | exact wideFn) (HS.out _ HBW.out) rfl (by kernel_rfl) (by kernel_rfl) (by kernel_rfl) (by kernel_rfl) rfl ?_ (by first | exact fun _ _ _ h => h | exact fun _ _ _ h => hQ2 _ _ _ _ _ h) ?_
          rotate_left
          · intro W hSW
            simp only [glA, glB, glC]
            (try dsimp only at hSW)
            go_simp
            with_reducible rfl
          (try simp only [glA, glB, glC, Act.put, glD, glE, glF])
          refine wpAnyJ_take 12 (v := ?_) (by first | exact hF | exact wideFn) (HS.out _ HBW.out) rfl (by kernel_rfl) (by kernel_rfl) (by kernel_rfl) (by kernel_rfl) rfl ?_ (by first | exact fun _ _ _ h => h | exact fun _ _ _ h => hQ2 _ _ _ _ _ h) ?_
          rotate_left
          · intro W hSW
            simp only [glA, glB, glC]
            (try dsimp only at hSW)
            go_simp
            with_reducible rfl
          (try simp only [glA, glB, glC, Act.put, glD, glE, glF])
          refine wpAnyJ_take 13 (v := ?_) (by first | exact hF | exact wideFn) (HS.out _ HBW.out) rfl (by kernel_rfl) (by kernel_rfl) (by kernel_rfl) (by kernel_rfl) rfl ?_ (by first | exact fun _ _ _ h => h | exact fun _ _ _ h => hQ2 _ _ _ _ _ h) ?_
          rotate_left
          · intro W hSW
            simp only [glA, glB, glC]
            (try dsimp only at hSW)
            go_simp
            with_reducible rfl
          (try simp only [glA, glB, glC, Act.put, glD, glE, glF])
          refine wpAnyJ_take 14 (v := ?_) (by first | exact hF | exact wideFn) (HS.out _ HBW.out) rfl (by kernel_rfl) (by kernel_rfl) (by kernel_rfl) (by kernel_rfl) rfl ?_ (by first | exact fun _ _ _ h => h | exact fun _ _ _ h => hQ2 _ _ _ _ _ h) ?_
          rotate_left
          · intro W hSW
            simp only [glA, glB, glC]
            (try dsimp only at hSW)
            go_simp
            with_reducible rfl
          (try simp only [glA, glB, glC, Act.put, glD, glE, glF])
          refine wpAnyJ_take 15 (v := ?_) (by first | exact hF | exact wideFn) (HS.out _ HBW.out) rfl (by kernel_rfl) (by kernel_rfl) (by kernel_rfl) (by kernel_rfl) rfl ?_ (by first | exact fun _ _ _ h => h | exact fun _ _ _ h => hQ2 _ _ _ _ _ h) ?_
          rotate_left
          · intro W hSW
            simp only [glA, glB, glC]
            (try dsimp only at hSW)
            go_simp
            with_reducible rfl
          (try simp only [glA, glB, glC, Act.put, glD, glE, glF])
          refine wpAnyJ_take 16 (v := ?_) (by first | exact hF | exact wideFn) (HS.out _ HBW.out) rfl (by kernel_rfl) (by kernel_rfl) (by kernel_rfl) (by kernel_rfl) rfl ?_ (by first | exact fun _ _ _ h => h | exact fun _ _ _ h => hQ2 _ _ _ _ _ h) ?_
          rotate_left
          · intro W hSW
            simp only [glA, glB, glC]
            (try dsimp only at hSW)
            go_simp
            with_reducible rfl
          (try simp only [glA, glB, glC, Act.put, glD, glE, glF])
          refine wpAnyJ_one 17 rfl (by kernel_rfl) (fun K hK => ?_)
          simp only [glA, glB, glC]
          go_simp
          refine hK.out _ _ (fun _ => HS.out _ (HBW.out.alloc HBW.out.size _)) ?_
          clear hK K
          (try simp only [glA, glB, glC, Act.put, glD, glE, glF])
          refine wpAnyJ_one 18 rfl (by kernel_rfl) (fun K hK => ?_)
          simp only [glA, glB, glC]
          go_simp
          refine hK.out _ _ (fun _ => HS.out _ HBa.out) ?_
          clear hK K
          (try simp only [glA, glB, glC, Act.put, glD, glE, glF])
          refine wpAnyJ_done (by kernel_rfl) ?_
          have Y1 := hide (Blk.new wd 86 #[.int .i64 x0, .int .i64 (x1 + mv), .string x3, .string x2])
          have B1 := hide ((Below.refl wd.heap.size wd).alloc (Nat.le_refl _) (.cells #[.int .i64 x0, .int .i64 (x1 + mv), .string x3, .string x2] 86))
          obtain ⟨c0, c1, c2, c3⟩ := HCL.out _ HBa.out
          obtain ⟨g, hg⟩ : ∃ g, wd.heap.size = g := ⟨_, rfl⟩
          have HG := hide hg
          rw [hg] at Y1 ⊢
          clear hg HBa HS
          generalize (wd.alloc (.cells #[.int .i64 x0, .int .i64 (x1 + mv), .string x3, .string x2] 86)) = w1 at Y1 B1 c0 c1 c2 c3 ⊢
          rcases hx3 with rfl | rfl | rfl
          · have B2 := B1
            have Y2 := Y1
            obtain ⟨y0, y1, y2, y3, y4⟩ := blk4 Y2.out
            by_cases h20 : x1 + mv ≤ 20
            · have h20' : ¬ 20 < x1 + mv := by omega
              have HC2 : Hid (ivC es (k + 1) = true) := hide (by
                show (ivC es k && decide ((es.getD k e0).at_ + mvN es k ≤ 20)) = true
                rw [HC.out, HE.out, HMV.out, decide_eq_true h20]; rfl)
              obtain ⟨A2, c2', w9, hrun, ho, hg⟩ := (HO.out.ext B2.out).push ⟨1, x1 + mv, x3, x2⟩ (by rw [ivP_len]; omega) (Nat.le_trans HBW.out.size B2.out.size)
              have HB9 : Hid (Below w.heap.size w w9) := hide (((HBW.out.trans ((B2.out.trans ((Below.refl _ _).alloc (Nat.le_refl _) _ |>.mono B2.out.size)).mono HBW.out.size))).grown hg (Nat.le_trans HBW.out.size (Nat.le_trans B2.out.size (by simp))) (fun k hk => (World.ownsRow.lt HO.out k hk).1))
              have HO9 : Hid (OwnE w9 w.heap.size (.slice A2 ((ivP es k).length + 1) c2') (ivP es (k + 1))) := hide (by
                show OwnE _ _ _ (ivP es k ++ [invE (mvN es k) (es.getD k e0)])
                rw [HE.out, HMV.out]
                exact ho)
              dsimp only at hrun
              have HRUN := hide hrun
              clear hrun ho hg h20
              rw [ivP_len] at HRUN HO9
              go_wp2_with (at_builtin; refine wpList_append_run rfl (.tmp 74) (.tmp 76) 26 rfl rfl rfl HRUN.out ?_)
              go_roundw
              case rel => exact ⟨k + 1, _, by omega, by go_num, rfl, HC2, HO9, HB9⟩
              case measure => simp [intOf]; omega
            · have h20' : 20 < x1 + mv := by omega
              go_wp2_with fail
              go_ret2
              unfold IvPost ivX
              rw [if_neg (by rw [ivC_no (k := k) (by rw [HE.out, HMV.out]; dsimp only; omega) _ (by rw [HN.out]; exact hlt)]; decide)]
              exact ⟨_, rfl, OwnE.nil _ _, HBW.out.trans (B2.out.mono HBW.out.size)⟩
          · have e5 : IntKind.i64.wrap (5 - 2) = 3 := by decide
            have Y2 : Hid (Blk (w1.setCell ⟨g, 0, none⟩ (.int .i64 3)) g 86 #[.int .i64 3, .int .i64 (x1 + mv), .string x3, .string x2]) := hide (Y1.out.set_ 0 (.int .i64 3))
            have B2 : Hid (Below wd.heap.size wd (w1.setCell ⟨g, 0, none⟩ (.int .i64 3))) := hide (B1.out.setCell (p := ⟨g, 0, none⟩) (by rw [HG.out]; exact Nat.le_refl _) _)
            obtain ⟨z0, z1, z2, z3, z4⟩ := blk4 Y1.out
            have zf := Y1.out.frozen 0
            go_upto_region 16 with fail
            clear c0 c1 c2 c3 z0 z1 z2 z3 z4 zf
            generalize (w1.setCell ⟨g, 0, none⟩ (.int .i64 3)) = w2 at Y2 B2 ⊢
            obtain ⟨y0, y1, y2, y3, y4⟩ := blk4 Y2.out
            by_cases h20 : x1 + mv ≤ 20
            · have h20' : ¬ 20 < x1 + mv := by omega
              have HC2 : Hid (ivC es (k + 1) = true) := hide (by
                show (ivC es k && decide ((es.getD k e0).at_ + mvN es k ≤ 20)) = true
                rw [HC.out, HE.out, HMV.out, decide_eq_true h20]; rfl)
              obtain ⟨A2, c2', w9, hrun, ho, hg⟩ := (HO.out.ext B2.out).push ⟨3, x1 + mv, x3, x2⟩ (by rw [ivP_len]; omega) (Nat.le_trans HBW.out.size B2.out.size)
              have HB9 : Hid (Below w.heap.size w w9) := hide (((HBW.out.trans ((B2.out.trans ((Below.refl _ _).alloc (Nat.le_refl _) _ |>.mono B2.out.size)).mono HBW.out.size))).grown hg (Nat.le_trans HBW.out.size (Nat.le_trans B2.out.size (by simp))) (fun k hk => (World.ownsRow.lt HO.out k hk).1))
              have HO9 : Hid (OwnE w9 w.heap.size (.slice A2 ((ivP es k).length + 1) c2') (ivP es (k + 1))) := hide (by
                show OwnE _ _ _ (ivP es k ++ [invE (mvN es k) (es.getD k e0)])
                rw [HE.out, HMV.out]
                exact ho)
              dsimp only at hrun
              have HRUN := hide hrun
              clear hrun ho hg h20
              rw [ivP_len] at HRUN HO9
              go_wp2_with (at_builtin; refine wpList_append_run rfl (.tmp 74) (.tmp 76) 26 rfl rfl rfl HRUN.out ?_)
              go_roundw
              case rel => exact ⟨k + 1, _, by omega, by go_num, rfl, HC2, HO9, HB9⟩
              case measure => simp [intOf]; omega
            · have h20' : 20 < x1 + mv := by omega
              go_wp2_with fail
              go_ret2
              unfold IvPost ivX
              rw [if_neg (by rw [ivC_no (k := k) (by rw [HE.out, HMV.out]; dsimp only; omega) _ (by rw [HN.out]; exact hlt)]; decide)]
              exact ⟨_, rfl, OwnE.nil _ _, HBW.out.trans (B2.out.mono HBW.out.size)⟩
          · have e5 : IntKind.i64.wrap (5 - 3) = 2 := by decide
            have Y2 : Hid (Blk (w1.setCell ⟨g, 0, none⟩ (.int .i64 2)) g 86 #[.int .i64 2, .int .i64 (x1 + mv), .string x3, .string x2]) := hide (Y1.out.set_ 0 (.int .i64 2))
            have B2 : Hid (Below wd.heap.size wd (w1.setCell ⟨g, 0, none⟩ (.int .i64 2))) := hide (B1.out.setCell (p := ⟨g, 0, none⟩) (by rw [HG.out]; exact Nat.le_refl _) _)
            obtain ⟨z0, z1, z2, z3, z4⟩ := blk4 Y1.out
            have zf := Y1.out.frozen 0
            go_upto_region 16 with fail
            clear c0 c1 c2 c3 z0 z1 z2 z3 z4 zf
            generalize (w1.setCell ⟨g, 0, none⟩ (.int .i64 2)) = w2 at Y2 B2 ⊢
            obtain ⟨y0, y1, y2, y3, y4⟩ := blk4 Y2.out
            by_cases h20 : x1 + mv ≤ 20
            · have h20' : ¬ 20 < x1 + mv := by omega
              have HC2 : Hid (ivC es (k + 1) = true) := hide (by
                show (ivC es k && decide ((es.getD k e0).at_ + mvN es k ≤ 20)) = true
                rw [HC.out, HE.out, HMV.out, decide_eq_true h20]; rfl)
              obtain ⟨A2, c2', w9, hrun, ho, hg⟩ := (HO.out.ext B2.out).push ⟨2, x1 + mv, x3, x2⟩ (by rw [ivP_len]; omega) (Nat.le_trans HBW.out.size B2.out.size)
              have HB9 : Hid (Below w.heap.size w w9) := hide (((HBW.out.trans ((B2.out.trans ((Below.refl _ _).alloc (Nat.le_refl _) _ |>.mono B2.out.size)).mono HBW.out.size))).grown hg (Nat.le_trans HBW.out.size (Nat.le_trans B2.out.size (by simp))) (fun k hk => (World.ownsRow.lt HO.out k hk).1))
              have HO9 : Hid (OwnE w9 w.heap.size (.slice A2 ((ivP es k).length + 1) c2') (ivP es (k + 1))) := hide (by
                show OwnE _ _ _ (ivP es k ++ [invE (mvN es k) (es.getD k e0)])
                rw [HE.out, HMV.out]
                exact ho)
              dsimp only at hrun
              have HRUN := hide hrun
              clear hrun ho hg h20
              rw [ivP_len] at HRUN HO9
              go_wp2_with (at_builtin; refine wpList_append_run rfl (.tmp 74) (.tmp 76) 26 rfl rfl rfl HRUN.out ?_)
              go_roundw
              case rel => exact ⟨k + 1, _, by omega, by go_num, rfl, HC2, HO9, HB9⟩
              case measure => simp [intOf]; omega
            · have h20' : 20 < x1 + mv := by omega
              go_wp2_with fail
              go_ret2
              unfold IvPost ivX
              rw [if_neg (by rw [ivC_no (k := k) (by rw [HE.out, HMV.out]; dsimp only; omega) _ (by rw [HN.out]; exact hlt)]; decide)]
              exact ⟨_, rfl, OwnE.nil _ _, HBW.out.trans (B2.out.mono HBW.out.size)⟩
      -- END1
    · -- BEGIN2
      obtain rfl : k = n := by omega
      have hnl : ¬ (k : Int) < (k : Int) := by omega
      go_wp2_with fail
      go_ret2
      unfold IvPost ivX
      rw [HN.out, if_pos HC.out]
      exact ⟨_, rfl, HO.out, HBW.out⟩
      -- END2
end Go.Proofs.YtmpegkojencbjaaDoor
/- School: the law's many and edits; laws of lists of edits. -/
namespace Go.Proofs.YtmpegkojencbjaaDoor
open Go Go.RowKit Go.Shelf
set_option maxHeartbeats 4000000
set_option maxRecDepth 100000
/-- sizes of a list of edits -/
def EzOk (l : List Ed) : Prop := l.length ≤ maxLen ∧ ∀ e ∈ l, e.old.size ≤ maxLen ∧ e.new.size ≤ maxLen
def bigE (e : Ed) : Bool := decide (20 < e.old.size) || decide (20 < e.new.size)
def mnB (l : List Ed) : Bool := decide (50 < l.length) || l.any bigE
theorem mnB_no {l : List Ed} (h : mnB l = false) : l.length ≤ 50 := by
  unfold mnB at h
  rw [Bool.or_eq_false_iff] at h
  have h1 := of_decide_eq_false h.1
  omega
theorem many_any (A : Option Addr) (c : Nat) (l : List Ed) (w : World) (hl : EzOk l) (hA : EdR w w.heap.size A l) :
    Calls Tryd.prog 41 #[.slice A l.length c] w fun e w' => e = .returned (.bool (mnB l)) ∧ w = w' := by
  have hl1 := hl.1
  unfold maxLen at hl1
  have HA := hide hA
  have HL := hide hl
  obtain ⟨n, hn⟩ : ∃ n, l.length = n := ⟨_, rfl⟩
  have HN := hide hn
  rw [hn] at hl1 ⊢
  clear hA hl hn
  go_enter Tryd.func41, Tryd.ntmps41
  go_wp2_with fail
  go_loopw [3] (fun i wr => ∃ k : Nat, k ≤ n ∧ k ≤ 51 ∧ i = .int .i64 k ∧ Hid (∀ j, j < k → bigE (l.getD j e0) = false) ∧ Hid (w = wr)) (fun i _ => n - (intOf i).toNat)
  case atStart => exact ⟨0, Nat.zero_le _, by omega, rfl, hide (fun j hj => absurd hj (by omega)), hide rfl⟩
  case round =>
    obtain ⟨k, hk, hk26, rfl, HX, HW⟩ := hrel
    obtain rfl := HW.out
    by_cases hlt : k < n
    · have hlt' : (k : Int) < (n : Int) := by omega
      by_cases h26 : k < 51
      · have h26' : (k : Int) < 51 := by omega
        have i0 : (0 : Int) ≤ (k : Int) := by omega
        have hkl : k < l.length := by rw [HN.out]; exact hlt
        obtain ⟨x, hx⟩ : ∃ x, l.getD k e0 = x := ⟨_, rfl⟩
        obtain ⟨b, off, rfl, hb, a0, a1, a2, a3⟩ := HA.out.at_ hkl hx
        have hmem : x ∈ l := by rw [← hx]; exact getD_mem hkl
        obtain ⟨z1, z2⟩ := HL.out.2 x hmem
        have HMEM := hide hmem
        have HXX := hide hx
        obtain ⟨x0, x1, x2, x3⟩ := x
        dsimp only at a0 a1 a2 a3 z1 z2
        unfold maxLen at z1 z2
        clear hx hmem a0 a1
        by_cases h20 : 20 < x2.size
        · have h20' : (20 : Int) < (x2.size : Int) := by omega
          have hg : mnB l = true := by
            unfold mnB
            rw [Bool.or_eq_true]
            refine .inr (List.any_eq_true.2 ⟨_, HMEM.out, ?_⟩)
            unfold bigE
            rw [Bool.or_eq_true]
            first | exact .inl (decide_eq_true h20) | exact .inr (decide_eq_true h20)
          have HG := hide hg
          clear hg h20
          go_wp2_with fail
          go_ret
          exact ⟨ret_bool HG.out.symm, rfl⟩
        · have h20' : ¬ (20 : Int) < (x2.size : Int) := by omega
          have h2n := h20
          clear h20
          by_cases h20 : 20 < x3.size
          · have h20'' : (20 : Int) < (x3.size : Int) := by omega
            have hg : mnB l = true := by
              unfold mnB
              rw [Bool.or_eq_true]
              refine .inr (List.any_eq_true.2 ⟨_, HMEM.out, ?_⟩)
              unfold bigE
              rw [Bool.or_eq_true]
              first | exact .inl (decide_eq_true h20) | exact .inr (decide_eq_true h20)
            have HG := hide hg
            clear hg h20
            go_wp2_with fail
            go_ret
            exact ⟨ret_bool HG.out.symm, rfl⟩
          · have h20'' : ¬ (20 : Int) < (x3.size : Int) := by omega
            have HX2 : Hid (∀ j, j < k + 1 → bigE (l.getD j e0) = false) := hide (fun j hj => by
              rcases (by omega : j < k ∨ j = k) with h | rfl
              · exact HX.out j h
              · rw [HXX.out]; unfold bigE; rw [decide_eq_false h2n, decide_eq_false h20]; rfl)
            clear h20 h2n
            go_wp2_with fail
            go_roundw
            case rel => exact ⟨k + 1, by omega, by omega, by go_num, HX2, by first | trivial | exact hide rfl⟩
            case measure => simp [intOf]; omega
      · have h26' : ¬ (k : Int) < 51 := by omega
        have h25 : (50 : Int) < (n : Int) := by omega
        have hg : mnB l = true := by
          unfold mnB
          rw [Bool.or_eq_true, HN.out]
          exact .inl (by simp; omega)
        have HG := hide hg
        clear hg
        go_wp2_with fail
        go_ret
        exact ⟨ret_bool HG.out.symm, rfl⟩
    · obtain rfl : k = n := by omega
      have hnl : ¬ (k : Int) < (k : Int) := by omega
      have hg : mnB l = decide (50 < (k : Int)) := by
        unfold mnB
        have h2 : (l.any bigE) = false := by
          rw [List.any_eq_false]
          intro x hx
          obtain ⟨j, hj, e⟩ := mem_getD hx
          have := HX.out j (by rw [← HN.out]; exact hj)
          rw [e] at this
          rw [this]; decide
        rw [h2, Bool.or_false, HN.out]
        rw [Bool.eq_iff_iff]; simp; omega
      have HG := hide hg
      clear hg
      go_wp2_with fail
      go_ret
      exact ⟨ret_bool (by rw [HG.out]), rfl⟩
theorem edits_any (A : Option Addr) (c : Nat) (l : List Ed) (w : World) (hl : l.length ≤ 100000) (hA : EdR w w.heap.size A l) :
    Calls Tryd.prog 42 #[.slice A l.length c] w fun e w' => ∃ v, e = .returned v ∧ OwnE w' w.heap.size v l ∧ Below w.heap.size w w' := by
  have hB0 : Below w.heap.size w (w.alloc (.cells #[] 86)) := (Below.refl _ _).alloc (Nat.le_refl _) _
  obtain ⟨v', w', hrun, ho, hg⟩ := (OwnE.made1 w).pushes A c l ((ER.below hA hB0 (Nat.le_refl _)).more hB0.size) (by simp; omega) hB0.size
  rw [List.nil_append] at ho
  have HRUN := hide hrun
  have HO := hide (And.intro ho (hB0.grown hg hB0.size (fun k hk => (World.ownsRow.lt (OwnE.made1 w) k hk).1)))
  clear hrun ho hg hB0 hA
  generalize l.length = n at HRUN ⊢
  go_enter Tryd.func42, Tryd.ntmps42
  go_wp2_with (at_builtin; refine wpList_append_run rfl (.tmp 3) (.tmp 4) 26 rfl rfl rfl HRUN.out ?_)
  go_ret
  exact ⟨_, rfl, HO.out.1, HO.out.2⟩
end Go.Proofs.YtmpegkojencbjaaDoor
/- School: the law SchoolEdits, walked. -/
namespace Go.Proofs.YtmpegkojencbjaaDoor
open Go Go.RowKit Go.Shelf
set_option maxHeartbeats 8000000
set_option maxRecDepth 100000
theorem edits_law (A0 A1 A2 : Option Addr) (c d f : Nat) (a b o : List Wd) (w : World) (ha : SzOk a) (hb : SzOk b) (h0 : SzOk o) (hA : SR w w.heap.size A0 a) (hB : SR w w.heap.size A1 b) (hC : SR w w.heap.size A2 o) :
    Calls Tryd.prog 13 #[.slice A0 a.length c, .slice A1 b.length d, .slice A2 o.length f] w fun e w' => e = .returned (.bool true) ∧ Below w.heap.size w w' := by
  have HL1 := long_any A0 c a w ha hA
  have HL2 := long_any A1 d b w hb hB
  have HL3 := long_any A2 f o w h0 hC
  have HA0 := hide hA
  have HA1 := hide hB
  have HA2 := hide hC
  have HSA := hide ha
  have HSB := hide hb
  have HSO := hide h0
  obtain ⟨n, hn⟩ : ∃ n, a.length = n := ⟨_, rfl⟩
  obtain ⟨m, hm⟩ : ∃ n, b.length = n := ⟨_, rfl⟩
  obtain ⟨r, hr⟩ : ∃ n, o.length = n := ⟨_, rfl⟩
  have HN := hide (And.intro hn (And.intro hm hr))
  rw [hn] at HL1
  rw [hm] at HL2
  rw [hr] at HL3
  rw [hn, hm, hr]
  clear hA hB hC h0 ha hb hn hm hr
  rcases hl1 : lgB a with _ | _
  rotate_left
  · rw [hl1] at HL1
    have H1 := hide HL1
    have HK := hide (known_any w)
    clear hl1 HL1 HL2 HL3
    go_enter Tryd.func13, Tryd.ntmps13
    go_wp2_with fail
    refine H1.out.mono ?_
    rintro e _ ⟨rfl, rfl⟩
    go_wp2_with fail
    refine HK.out.mono ?_
    rintro e w2 ⟨rfl, hb2⟩
    go_wp2_with fail
    go_ret
    exact ⟨rfl, hb2⟩
  rw [hl1] at HL1
  have H1 := hide HL1
  rcases hl2 : lgB b with _ | _
  rotate_left
  · rw [hl2] at HL2
    have H2 := hide HL2
    have HK := hide (known_any w)
    clear hl1 hl2 HL1 HL2 HL3
    go_enter Tryd.func13, Tryd.ntmps13
    go_wp2_with fail
    refine H1.out.mono ?_
    rintro e _ ⟨rfl, rfl⟩
    go_wp2_with fail
    refine H2.out.mono ?_
    rintro e _ ⟨rfl, rfl⟩
    go_wp2_with fail
    refine HK.out.mono ?_
    rintro e w2 ⟨rfl, hb2⟩
    go_wp2_with fail
    go_ret
    exact ⟨rfl, hb2⟩
  rw [hl2] at HL2
  have H2 := hide HL2
  rcases hl3 : lgB o with _ | _
  rotate_left
  · rw [hl3] at HL3
    have H3 := hide HL3
    have HK := hide (known_any w)
    clear hl1 hl2 hl3 HL1 HL2 HL3
    go_enter Tryd.func13, Tryd.ntmps13
    go_wp2_with fail
    refine H1.out.mono ?_
    rintro e _ ⟨rfl, rfl⟩
    go_wp2_with fail
    refine H2.out.mono ?_
    rintro e _ ⟨rfl, rfl⟩
    go_wp2_with fail
    refine H3.out.mono ?_
    rintro e _ ⟨rfl, rfl⟩
    go_wp2_with fail
    refine HK.out.mono ?_
    rintro e w2 ⟨rfl, hb2⟩
    go_wp2_with fail
    go_ret
    exact ⟨rfl, hb2⟩
  rw [hl3] at HL3
  have H3 := hide HL3
  have h1 := (lgB_no hl1).1
  have h2 := (lgB_no hl2).1
  have h3 := (lgB_no hl3).1
  have HWa : Hid (∀ W, Below w.heap.size w W → Calls Tryd.prog 16 #[.slice A0 n c] W fun e w' => ∃ v, e = .returned v ∧ OwnS w' W.heap.size v a ∧ Below W.heap.size W w') := hide fun W h => by
    have := words_any A0 c a W (by omega) ((ER.below HA0.out h (Nat.le_refl _)).more h.size)
    rwa [HN.out.1] at this
  have HWb : Hid (∀ W, Below w.heap.size w W → Calls Tryd.prog 16 #[.slice A1 m d] W fun e w' => ∃ v, e = .returned v ∧ OwnS w' W.heap.size v b ∧ Below W.heap.size W w') := hide fun W h => by
    have := words_any A1 d b W (by omega) ((ER.below HA1.out h (Nat.le_refl _)).more h.size)
    rwa [HN.out.2.1] at this
  have HWo : Hid (∀ W, Below w.heap.size w W → Calls Tryd.prog 16 #[.slice A2 r f] W fun e w' => ∃ v, e = .returned v ∧ OwnS w' W.heap.size v o ∧ Below W.heap.size W w') := hide fun W h => by
    have := words_any A2 f o W (by omega) ((ER.below HA2.out h (Nat.le_refl _)).more h.size)
    rwa [HN.out.2.2] at this
  have hn25 : n ≤ 25 := by rw [← HN.out.1]; exact h1
  have hm25 : m ≤ 25 := by rw [← HN.out.2.1]; exact h2
  clear hl1 hl2 hl3 HL1 HL2 HL3 h1 h2 h3
  have B0 : Hid (Below w.heap.size w w) := hide (Below.refl _ _)
  go_enter Tryd.func13, Tryd.ntmps13
  go_wp2_with fail
  refine H1.out.mono ?_
  rintro e _ ⟨rfl, rfl⟩
  go_wp2_with fail
  refine H2.out.mono ?_
  rintro e _ ⟨rfl, rfl⟩
  go_wp2_with fail
  refine H3.out.mono ?_
  rintro e _ ⟨rfl, rfl⟩
  go_wp2_with fail
  refine (HWa.out w B0.out).mono ?_
  rintro e w1 ⟨vp1, rfl, hop1, hbp1⟩
  obtain ⟨Ap1, cp1, rfl⟩ := own_shape hop1
  have B1 := hide (B0.out.trans (hbp1.mono B0.out.size))
  have Op1 := hide hop1
  have Gp1 := hide hbp1
  rw [HN.out.1]
  clear hbp1 hop1
  (try replace Ox1 := hide (OwnE.ext Ox1.out Gp1.out))
  (try replace Op := hide (OwnS.ext Op.out Gp1.out))
  (try replace Oq := hide (OwnS.ext Oq.out Gp1.out))
  (try replace Oz := hide (OwnE.ext Oz.out Gp1.out))
  go_wp2_with fail
  refine (HWb.out w1 B1.out).mono ?_
  rintro e w2 ⟨vp2, rfl, hop2, hbp2⟩
  obtain ⟨Ap2, cp2, rfl⟩ := own_shape hop2
  have B2 := hide (B1.out.trans (hbp2.mono B1.out.size))
  have Op2 := hide hop2
  have Gp2 := hide hbp2
  rw [HN.out.2.1]
  clear hbp2 hop2
  (try replace Ox1 := hide (OwnE.ext Ox1.out Gp2.out))
  (try replace Op := hide (OwnS.ext Op.out Gp2.out))
  (try replace Oq := hide (OwnS.ext Oq.out Gp2.out))
  (try replace Oz := hide (OwnE.ext Oz.out Gp2.out))
  have hs1 := (OwnS.ext Op1.out Gp2.out).sr.2
  have hs2 := Op2.out.sr.2
  have HAG := Align_any Ap1 Ap2 cp1 cp2 a b w2 HSA.out HSB.out hs1 hs2
  rw [HN.out.1, HN.out.2.1] at HAG
  unfold AgPost at HAG
  obtain ⟨lsx1, hlsx1⟩ : ∃ l, (if (textB a && textB b) = true then alL a 0 b else []) = l := ⟨_, rfl⟩
  obtain ⟨erx1, herx1⟩ : ∃ x : Int, (if (textB a && textB b) = true then (0 : Int) else 2) = x := ⟨_, rfl⟩
  rw [hlsx1, herx1] at HAG
  have HAG := hide HAG
  have Lx1 := hide hlsx1
  have Rx1 := hide herx1
  clear hs1 hs2 Op1 Op2 Gp1 Gp2 hlsx1 herx1
  go_wp2_with fail
  refine HAG.out.mono ?_
  rintro e w3 ⟨vx1, rfl, hox1, hbx1⟩
  obtain ⟨Ax1, cx1, hvx1⟩ := own_shape hox1
  subst hvx1
  have B3 := hide (B2.out.trans (hbx1.mono B2.out.size))
  have Ox1 := hide hox1
  have Gx1 := hide hbx1
  clear hox1 hbx1 HAG
  (try replace Ox1 := hide (OwnE.ext Ox1.out Gx1.out))
  (try replace Op := hide (OwnS.ext Op.out Gx1.out))
  (try replace Oq := hide (OwnS.ext Oq.out Gx1.out))
  (try replace Oz := hide (OwnE.ext Oz.out Gx1.out))
  go_wp2_with fail
  refine (HWb.out w3 B3.out).mono ?_
  rintro e w4 ⟨vp1, rfl, hop1, hbp1⟩
  obtain ⟨Ap1, cp1, rfl⟩ := own_shape hop1
  have B4 := hide (B3.out.trans (hbp1.mono B3.out.size))
  have Op1 := hide hop1
  have Gp1 := hide hbp1
  rw [HN.out.2.1]
  clear hbp1 hop1
  (try replace Ox1 := hide (OwnE.ext Ox1.out Gp1.out))
  (try replace Op := hide (OwnS.ext Op.out Gp1.out))
  (try replace Oq := hide (OwnS.ext Oq.out Gp1.out))
  (try replace Oz := hide (OwnE.ext Oz.out Gp1.out))
  go_wp2_with fail
  refine (HWa.out w4 B4.out).mono ?_
  rintro e w5 ⟨vp2, rfl, hop2, hbp2⟩
  obtain ⟨Ap2, cp2, rfl⟩ := own_shape hop2
  have B5 := hide (B4.out.trans (hbp2.mono B4.out.size))
  have Op2 := hide hop2
  have Gp2 := hide hbp2
  rw [HN.out.1]
  clear hbp2 hop2
  (try replace Ox1 := hide (OwnE.ext Ox1.out Gp2.out))
  (try replace Op := hide (OwnS.ext Op.out Gp2.out))
  (try replace Oq := hide (OwnS.ext Oq.out Gp2.out))
  (try replace Oz := hide (OwnE.ext Oz.out Gp2.out))
  have hs1 := (OwnS.ext Op1.out Gp2.out).sr.2
  have hs2 := Op2.out.sr.2
  have HAG := Align_any Ap1 Ap2 cp1 cp2 b a w5 HSB.out HSA.out hs1 hs2
  rw [HN.out.1, HN.out.2.1] at HAG
  unfold AgPost at HAG
  obtain ⟨lsx2, hlsx2⟩ : ∃ l, (if (textB b && textB a) = true then alL b 0 a else []) = l := ⟨_, rfl⟩
  obtain ⟨erx2, herx2⟩ : ∃ x : Int, (if (textB b && textB a) = true then (0 : Int) else 2) = x := ⟨_, rfl⟩
  rw [hlsx2, herx2] at HAG
  have HAG := hide HAG
  have Lx2 := hide hlsx2
  have Rx2 := hide herx2
  clear hs1 hs2 Op1 Op2 Gp1 Gp2 hlsx2 herx2
  go_wp2_with fail
  refine HAG.out.mono ?_
  rintro e w6 ⟨vx2, rfl, hox2, hbx2⟩
  obtain ⟨Ax2, cx2, hvx2⟩ := own_shape hox2
  subst hvx2
  have B6 := hide (B5.out.trans (hbx2.mono B5.out.size))
  have Ox2 := hide hox2
  have Gx2 := hide hbx2
  clear hox2 hbx2 HAG
  (try replace Ox1 := hide (OwnE.ext Ox1.out Gx2.out))
  (try replace Op := hide (OwnS.ext Op.out Gx2.out))
  (try replace Oq := hide (OwnS.ext Oq.out Gx2.out))
  (try replace Oz := hide (OwnE.ext Oz.out Gx2.out))
  clear Ox2
  go_wp2_with fail
  refine (HWa.out w6 B6.out).mono ?_
  rintro e w7 ⟨vp1, rfl, hop1, hbp1⟩
  obtain ⟨Ap1, cp1, rfl⟩ := own_shape hop1
  have B7 := hide (B6.out.trans (hbp1.mono B6.out.size))
  have Op1 := hide hop1
  have Gp1 := hide hbp1
  rw [HN.out.1]
  clear hbp1 hop1
  (try replace Ox1 := hide (OwnE.ext Ox1.out Gp1.out))
  (try replace Op := hide (OwnS.ext Op.out Gp1.out))
  (try replace Oq := hide (OwnS.ext Oq.out Gp1.out))
  (try replace Oz := hide (OwnE.ext Oz.out Gp1.out))
  go_wp2_with fail
  refine (HWo.out w7 B7.out).mono ?_
  rintro e w8 ⟨vp2, rfl, hop2, hbp2⟩
  obtain ⟨Ap2, cp2, rfl⟩ := own_shape hop2
  have B8 := hide (B7.out.trans (hbp2.mono B7.out.size))
  have Op2 := hide hop2
  have Gp2 := hide hbp2
  rw [HN.out.2.2]
  clear hbp2 hop2
  (try replace Ox1 := hide (OwnE.ext Ox1.out Gp2.out))
  (try replace Op := hide (OwnS.ext Op.out Gp2.out))
  (try replace Oq := hide (OwnS.ext Oq.out Gp2.out))
  (try replace Oz := hide (OwnE.ext Oz.out Gp2.out))
  have hs1 := (OwnS.ext Op1.out Gp2.out).sr.2
  have hs2 := Op2.out.sr.2
  have HAG := Align_any Ap1 Ap2 cp1 cp2 a o w8 HSA.out HSO.out hs1 hs2
  rw [HN.out.1, HN.out.2.2] at HAG
  unfold AgPost at HAG
  obtain ⟨lsx3, hlsx3⟩ : ∃ l, (if (textB a && textB o) = true then alL a 0 o else []) = l := ⟨_, rfl⟩
  obtain ⟨erx3, herx3⟩ : ∃ x : Int, (if (textB a && textB o) = true then (0 : Int) else 2) = x := ⟨_, rfl⟩
  rw [hlsx3, herx3] at HAG
  have HAG := hide HAG
  have Lx3 := hide hlsx3
  have Rx3 := hide herx3
  clear hs1 hs2 Op1 Op2 Gp1 Gp2 hlsx3 herx3
  go_wp2_with fail
  refine HAG.out.mono ?_
  rintro e w9 ⟨vx3, rfl, hox3, hbx3⟩
  obtain ⟨Ax3, cx3, hvx3⟩ := own_shape hox3
  subst hvx3
  have B9 := hide (B8.out.trans (hbx3.mono B8.out.size))
  have Ox3 := hide hox3
  have Gx3 := hide hbx3
  clear hox3 hbx3 HAG
  (try replace Ox1 := hide (OwnE.ext Ox1.out Gx3.out))
  (try replace Op := hide (OwnS.ext Op.out Gx3.out))
  (try replace Oq := hide (OwnS.ext Oq.out Gx3.out))
  (try replace Oz := hide (OwnE.ext Oz.out Gx3.out))
  clear Ox3
  go_wp2_with fail
  refine (HWo.out w9 B9.out).mono ?_
  rintro e wx ⟨vp1, rfl, hop1, hbp1⟩
  obtain ⟨Ap1, cp1, rfl⟩ := own_shape hop1
  have Bx := hide (B9.out.trans (hbp1.mono B9.out.size))
  have Op1 := hide hop1
  have Gp1 := hide hbp1
  rw [HN.out.2.2]
  clear hbp1 hop1
  (try replace Ox1 := hide (OwnE.ext Ox1.out Gp1.out))
  (try replace Op := hide (OwnS.ext Op.out Gp1.out))
  (try replace Oq := hide (OwnS.ext Oq.out Gp1.out))
  (try replace Oz := hide (OwnE.ext Oz.out Gp1.out))
  go_wp2_with fail
  refine (HWb.out wx Bx.out).mono ?_
  rintro e wy ⟨vp2, rfl, hop2, hbp2⟩
  obtain ⟨Ap2, cp2, rfl⟩ := own_shape hop2
  have By := hide (Bx.out.trans (hbp2.mono Bx.out.size))
  have Op2 := hide hop2
  have Gp2 := hide hbp2
  rw [HN.out.2.1]
  clear hbp2 hop2
  (try replace Ox1 := hide (OwnE.ext Ox1.out Gp2.out))
  (try replace Op := hide (OwnS.ext Op.out Gp2.out))
  (try replace Oq := hide (OwnS.ext Oq.out Gp2.out))
  (try replace Oz := hide (OwnE.ext Oz.out Gp2.out))
  have hs1 := (OwnS.ext Op1.out Gp2.out).sr.2
  have hs2 := Op2.out.sr.2
  have HAG := Align_any Ap1 Ap2 cp1 cp2 o b wy HSO.out HSB.out hs1 hs2
  rw [HN.out.2.2, HN.out.2.1] at HAG
  unfold AgPost at HAG
  obtain ⟨lsx4, hlsx4⟩ : ∃ l, (if (textB o && textB b) = true then alL o 0 b else []) = l := ⟨_, rfl⟩
  obtain ⟨erx4, herx4⟩ : ∃ x : Int, (if (textB o && textB b) = true then (0 : Int) else 2) = x := ⟨_, rfl⟩
  rw [hlsx4, herx4] at HAG
  have HAG := hide HAG
  have Lx4 := hide hlsx4
  have Rx4 := hide herx4
  clear hs1 hs2 Op1 Op2 Gp1 Gp2 hlsx4 herx4
  go_wp2_with fail
  refine HAG.out.mono ?_
  rintro e wz ⟨vx4, rfl, hox4, hbx4⟩
  obtain ⟨Ax4, cx4, hvx4⟩ := own_shape hox4
  subst hvx4
  have Bz := hide (By.out.trans (hbx4.mono By.out.size))
  have Ox4 := hide hox4
  have Gx4 := hide hbx4
  clear hox4 hbx4 HAG
  (try replace Ox1 := hide (OwnE.ext Ox1.out Gx4.out))
  (try replace Op := hide (OwnS.ext Op.out Gx4.out))
  (try replace Oq := hide (OwnS.ext Oq.out Gx4.out))
  (try replace Oz := hide (OwnE.ext Oz.out Gx4.out))
  clear Ox4
  rcases hab : (textB a && textB b) with _ | _
  · have he1 : erx1 = 2 := by rw [← Rx1.out, hab]; rfl
    subst he1
    clear hab
    go_wp2_with fail
    refine (known_any wz).mono ?_
    rintro e wz ⟨rfl, hbz⟩
    go_wp2_with fail
    go_ret
    exact ⟨rfl, Bz.out.trans (hbz.mono Bz.out.size)⟩
  rw [Bool.and_eq_true] at hab
  obtain ⟨ta, tb⟩ := hab
  have he1 : erx1 = 0 := by rw [← Rx1.out, ta, tb]; rfl
  have he2 : erx2 = 0 := by rw [← Rx2.out, ta, tb]; rfl
  subst he1 he2
  rcases tc : textB o with _ | _
  · have he3 : erx3 = 2 := by rw [← Rx3.out, ta, tc]; rfl
    subst he3
    clear ta tb tc
    go_wp2_with fail
    refine (known_any wz).mono ?_
    rintro e wz ⟨rfl, hbz⟩
    go_wp2_with fail
    go_ret
    exact ⟨rfl, Bz.out.trans (hbz.mono Bz.out.size)⟩
  have he3 : erx3 = 0 := by rw [← Rx3.out, ta, tc]; rfl
  have he4 : erx4 = 0 := by rw [← Rx4.out, tb, tc]; rfl
  subst he3 he4
  have hl1 : lsx1 = alL a 0 b := by rw [← Lx1.out, ta, tb]; rfl
  have hl2 : lsx2.length = dsL a b := by rw [← Lx2.out, ta, tb, dsL_comm, ← alL_len b 0 a]; rfl
  have hl3 : lsx3.length = dsL a o := by rw [← Lx3.out, ta, tc, ← alL_len a 0 o]; rfl
  have hl4 : lsx4.length = dsL o b := by rw [← Lx4.out, tb, tc, ← alL_len o 0 b]; rfl
  have hq1 : apR a lsx1 = (b, 0, 0) := by rw [hl1]; exact al_apR ta tb
  have hq2 : ivR lsx1 = (invL 0 lsx1, 0) := by rw [hl1]; exact al_ivR ta tb
  have hq3 : apR b (invL 0 lsx1) = (a, 0, 0) := by rw [hl1]; exact inv_apR ta tb
  have hz1 : ∀ e ∈ lsx1, e.old.size ≤ maxLen ∧ e.new.size ≤ maxLen := by rw [hl1]; exact fun e he => kind_size HSA.out HSB.out (alL_kind a 0 b e he)
  have hz2 : ∀ e ∈ invL 0 lsx1, e.old.size ≤ maxLen ∧ e.new.size ≤ maxLen := by rw [hl1]; exact fun e he => kind_size HSB.out HSA.out (inv_kind _ 0 (alL_kind a 0 b) e he)
  obtain ⟨mz, hmz⟩ : ∃ l, invL 0 lsx1 = l := ⟨_, rfl⟩
  rw [hmz] at hq2 hq3 hz2
  have hm1 : mz.length = lsx1.length := by rw [← hmz, invL_len]
  have hle1 : lsx1.length = dsL a b := by rw [hl1, alL_len]
  have hov := dsL_over a b o
  have hdf := dsL_diff _ a b (Nat.le_refl _)
  have hze := dsL_zero a b
  have hd40 := dsL_le a b
  have hd41 := dsL_le a o
  have hd42 := dsL_le o b
  have hta := textB_len ta
  have htb := textB_len tb
  have htc := textB_len tc
  obtain ⟨k1, hk1⟩ : ∃ k, dsL a b = k := ⟨_, rfl⟩
  obtain ⟨k3, hk3⟩ : ∃ k, dsL a o = k := ⟨_, rfl⟩
  obtain ⟨k4, hk4⟩ : ∃ k, dsL o b = k := ⟨_, rfl⟩
  rw [hk1] at hl2 hle1 hov hdf hze hd40
  rw [hk3] at hl3 hov hd41
  rw [hk4] at hl4 hov hd42
  rw [hle1] at hm1
  rw [hl2, hl3, hl4, hle1]
  have HL1 := hide hle1
  have HL2 := hide hm1
  have HQ1 := hide hq1
  have HQ2 := hide hq2
  have HQ3 := hide hq3
  have HZ1 := hide hz1
  have HZ2 := hide hz2
  have HZE := hide hze
  rw [HN.out.1, HN.out.2.1] at hdf hd40
  rw [HN.out.1, HN.out.2.2] at hd41
  rw [HN.out.2.2, HN.out.2.1] at hd42
  rw [HN.out.1] at hta
  rw [HN.out.2.1] at htb
  rw [HN.out.2.2] at htc
  have hk40 : k1 ≤ 40 := by omega
  have w34 : IntKind.i64.wrap ((k3 : Int) + (k4 : Int)) = (k3 : Int) + (k4 : Int) := IntWalk.i64_in _ (by omega)
  have wnm : IntKind.i64.wrap ((n : Int) - (m : Int)) = (n : Int) - (m : Int) := IntWalk.i64_in _ (by omega)
  have wmn : IntKind.i64.wrap ((m : Int) - (n : Int)) = (m : Int) - (n : Int) := IntWalk.i64_in _ (by omega)
  have f1 : ¬ (k3 : Int) + (k4 : Int) < (k1 : Int) := by omega
  have f1' : ¬ k3 + k4 < k1 := by omega
  have f2 : ¬ (k1 : Int) < (n : Int) - (m : Int) := by omega
  have f3 : ¬ (k1 : Int) < (m : Int) - (n : Int) := by omega
  clear ta tb tc hl1 hl2 hl3 hl4 hq1 hq2 hq3 hz1 hz2 hmz hm1 hle1 hov hdf hze hd40 hd41 hd42 hta htb htc hk1 hk3 hk4
  have HSM := same_any A0 A1 c d a b wz (by rw [HN.out.1]; unfold maxLen; omega) ((ER.below HA0.out Bz.out (Nat.le_refl _)).more Bz.out.size) ((ER.below HA1.out Bz.out (Nat.le_refl _)).more Bz.out.size)
  rw [HN.out.1, HN.out.2.1] at HSM
  by_cases hE : a = b
  · rw [decide_eq_true hE] at HSM
    have HSM := hide HSM
    have hk0 : k1 = 0 := HZE.out.2 hE
    subst hk0
    clear hE
    go_wp2_with fail
    refine HSM.out.mono ?_
    rintro e wb ⟨rfl, hb6⟩
    have Bb := hide (Bz.out.trans (hb6.mono Bz.out.size))
    have Ox1 := hide (OwnE.ext Ox1.out hb6)
    clear hb6 HSM
    go_wp2_with fail
    refine (HWa.out wb Bb.out).mono ?_
    rintro e wc ⟨vp1, rfl, hop1, hbp1⟩
    obtain ⟨Ap1, cp1, rfl⟩ := own_shape hop1
    have Bc := hide (Bb.out.trans (hbp1.mono Bb.out.size))
    have Op1 := hide hop1
    have Gp1 := hide hbp1
    rw [HN.out.1]
    clear hbp1 hop1
    (try replace Ox1 := hide (OwnE.ext Ox1.out Gp1.out))
    (try replace Op := hide (OwnS.ext Op.out Gp1.out))
    (try replace Oq := hide (OwnS.ext Oq.out Gp1.out))
    (try replace Oz := hide (OwnE.ext Oz.out Gp1.out))
    have HED := edits_any Ax1 cx1 lsx1 wc (by rw [HL1.out]; omega) Ox1.out.edS.2
    rw [HL1.out] at HED
    have HED := hide HED
    go_wp2_with fail
    refine HED.out.mono ?_
    rintro e wd ⟨ve1, rfl, hoe1, hbe1⟩
    obtain ⟨Ae1, ce1, hve1⟩ := own_shape hoe1
    rw [HL1.out] at hve1
    subst hve1
    have Bd := hide (Bc.out.trans (hbe1.mono Bc.out.size))
    have Oe1 := hide hoe1
    have Ge1 := hide hbe1
    clear hbe1 hoe1 HED
    (try replace Ox1 := hide (OwnE.ext Ox1.out Ge1.out))
    (try replace Op := hide (OwnS.ext Op.out Ge1.out))
    (try replace Oq := hide (OwnS.ext Oq.out Ge1.out))
    (try replace Oz := hide (OwnE.ext Oz.out Ge1.out))
    have hs1 := OwnS.ext Op1.out Ge1.out
    have hcap := hs1.cap2
    have HAP := Apply_any Ap1 Ae1 cp1 ce1 a lsx1 wd HSA.out (by rw [HL1.out]; omega) HZ1.out hs1.sr.2 Oe1.out.edS.2 (by have := hs1.sr.1; omega) hcap.2
    rw [HN.out.1, HL1.out, HQ1.out] at HAP
    unfold MgPost at HAP
    dsimp only at HAP
    have HAP := hide HAP
    clear hs1 hcap Op1 Gp1 Oe1 Ge1
    go_wp2_with fail
    refine HAP.out.mono ?_
    rintro e we ⟨vp, rfl, hop, hbp⟩
    obtain ⟨Ap, cp, hvp⟩ := own_shape hop
    rw [HN.out.2.1] at hvp
    subst hvp
    have Be := hide (Bd.out.trans (hbp.mono Bd.out.size))
    have Op := hide hop
    have Gp := hide hbp
    clear hop hbp HAP
    (try replace Ox1 := hide (OwnE.ext Ox1.out Gp.out))
    have HED := edits_any Ax1 cx1 lsx1 we (by rw [HL1.out]; omega) Ox1.out.edS.2
    rw [HL1.out] at HED
    have HED := hide HED
    go_wp2_with fail
    refine HED.out.mono ?_
    rintro e wf ⟨ve2, rfl, hoe2, hbe2⟩
    obtain ⟨Ae2, ce2, hve2⟩ := own_shape hoe2
    rw [HL1.out] at hve2
    subst hve2
    have Bf := hide (Be.out.trans (hbe2.mono Be.out.size))
    have Oe2 := hide hoe2
    have Ge2 := hide hbe2
    clear hbe2 hoe2 HED
    (try replace Ox1 := hide (OwnE.ext Ox1.out Ge2.out))
    (try replace Op := hide (OwnS.ext Op.out Ge2.out))
    (try replace Oq := hide (OwnS.ext Oq.out Ge2.out))
    (try replace Oz := hide (OwnE.ext Oz.out Ge2.out))
    have HIV := Invert_any Ae2 ce2 lsx1 wf (by rw [HL1.out]; omega) HZ1.out Oe2.out.edS.2
    rw [HL1.out, HQ2.out] at HIV
    unfold IvPost at HIV
    dsimp only at HIV
    have HIV := hide HIV
    go_wp2_with fail
    refine HIV.out.mono ?_
    rintro e wg ⟨vz, rfl, hoz, hbz⟩
    obtain ⟨Az, cz, hvz⟩ := own_shape hoz
    rw [HL2.out] at hvz
    subst hvz
    have Bg := hide (Bf.out.trans (hbz.mono Bf.out.size))
    have Oz := hide hoz
    have Op := hide (OwnS.ext Op.out hbz)
    clear hoz hbz HIV Ox1 Oe2 Ge2
    go_wp2_with fail
    refine (HWb.out wg Bg.out).mono ?_
    rintro e wh ⟨vq1, rfl, hoq1, hbq1⟩
    obtain ⟨Aq1, cq1, rfl⟩ := own_shape hoq1
    have Bh := hide (Bg.out.trans (hbq1.mono Bg.out.size))
    have Oq1 := hide hoq1
    have Gq1 := hide hbq1
    rw [HN.out.2.1]
    clear hbq1 hoq1
    (try replace Ox1 := hide (OwnE.ext Ox1.out Gq1.out))
    (try replace Op := hide (OwnS.ext Op.out Gq1.out))
    (try replace Oq := hide (OwnS.ext Oq.out Gq1.out))
    (try replace Oz := hide (OwnE.ext Oz.out Gq1.out))
    have HED := edits_any Az cz mz wh (by rw [HL2.out]; omega) Oz.out.edS.2
    rw [HL2.out] at HED
    have HED := hide HED
    go_wp2_with fail
    refine HED.out.mono ?_
    rintro e wi ⟨ve3, rfl, hoe3, hbe3⟩
    obtain ⟨Ae3, ce3, hve3⟩ := own_shape hoe3
    rw [HL2.out] at hve3
    subst hve3
    have Bi := hide (Bh.out.trans (hbe3.mono Bh.out.size))
    have Oe3 := hide hoe3
    have Ge3 := hide hbe3
    clear hbe3 hoe3 HED
    (try replace Ox1 := hide (OwnE.ext Ox1.out Ge3.out))
    (try replace Op := hide (OwnS.ext Op.out Ge3.out))
    (try replace Oq := hide (OwnS.ext Oq.out Ge3.out))
    (try replace Oz := hide (OwnE.ext Oz.out Ge3.out))
    have hs1 := OwnS.ext Oq1.out Ge3.out
    have hcap := hs1.cap2
    have HAP := Apply_any Aq1 Ae3 cq1 ce3 b mz wi HSB.out (by rw [HL2.out]; omega) HZ2.out hs1.sr.2 Oe3.out.edS.2 (by have := hs1.sr.1; omega) hcap.2
    rw [HN.out.2.1, HL2.out, HQ3.out] at HAP
    unfold MgPost at HAP
    dsimp only at HAP
    have HAP := hide HAP
    clear hs1 hcap Oq1 Gq1 Oe3 Ge3
    go_wp2_with fail
    refine HAP.out.mono ?_
    rintro e wj ⟨vq, rfl, hoq, hbq⟩
    obtain ⟨Aq, cq, hvq⟩ := own_shape hoq
    rw [HN.out.1] at hvq
    subst hvq
    have Bj := hide (Bi.out.trans (hbq.mono Bi.out.size))
    have Oq := hide hoq
    have Gq := hide hbq
    clear hoq hbq HAP
    have Op := hide (OwnS.ext Op.out Gq.out)
    have HSM := same_any Ap A1 cp d b b wj (by rw [HN.out.2.1]; unfold maxLen; omega) Op.out.sr.2 ((ER.below HA1.out Bj.out (Nat.le_refl _)).more Bj.out.size)
    rw [HN.out.2.1, decide_eq_true rfl] at HSM
    have HSM := hide HSM
    go_wp2_with fail
    refine HSM.out.mono ?_
    rintro e wk ⟨rfl, hb6⟩
    have Bk := hide (Bj.out.trans (hb6.mono Bj.out.size))
    have Gm := hide hb6
    clear hb6 HSM
    (try replace Ox1 := hide (OwnE.ext Ox1.out Gm.out))
    (try replace Op := hide (OwnS.ext Op.out Gm.out))
    (try replace Oq := hide (OwnS.ext Oq.out Gm.out))
    (try replace Oz := hide (OwnE.ext Oz.out Gm.out))
    have HSM := same_any Aq A0 cq c a a wk (by rw [HN.out.1]; unfold maxLen; omega) Oq.out.sr.2 ((ER.below HA0.out Bk.out (Nat.le_refl _)).more Bk.out.size)
    rw [HN.out.1, decide_eq_true rfl] at HSM
    have HSM := hide HSM
    go_wp2_with fail
    refine HSM.out.mono ?_
    rintro e wl ⟨rfl, hb6⟩
    have Bl := hide (Bk.out.trans (hb6.mono Bk.out.size))
    have Gm := hide hb6
    clear hb6 HSM
    (try replace Ox1 := hide (OwnE.ext Ox1.out Gm.out))
    (try replace Op := hide (OwnS.ext Op.out Gm.out))
    (try replace Oq := hide (OwnS.ext Oq.out Gm.out))
    (try replace Oz := hide (OwnE.ext Oz.out Gm.out))
    go_wp2_with fail
    refine (known_any wl).mono ?_
    rintro e wz ⟨rfl, hbz⟩
    go_wp2_with fail
    go_ret
    exact ⟨rfl, Bl.out.trans (hbz.mono Bl.out.size)⟩
  · rw [decide_eq_false hE] at HSM
    have HSM := hide HSM
    have hk0 : ¬ k1 = 0 := fun h => hE (HZE.out.1 h)
    have g1 : (k1 == 0) = false := by simp [hk0]
    have g2 : ((k1 : Int) == 0) = false := by simp; omega
    clear hE hk0
    go_wp2_with fail
    refine HSM.out.mono ?_
    rintro e wb ⟨rfl, hb6⟩
    have Bb := hide (Bz.out.trans (hb6.mono Bz.out.size))
    have Ox1 := hide (OwnE.ext Ox1.out hb6)
    clear hb6 HSM
    go_wp2_with fail
    refine (HWa.out wb Bb.out).mono ?_
    rintro e wc ⟨vp1, rfl, hop1, hbp1⟩
    obtain ⟨Ap1, cp1, rfl⟩ := own_shape hop1
    have Bc := hide (Bb.out.trans (hbp1.mono Bb.out.size))
    have Op1 := hide hop1
    have Gp1 := hide hbp1
    rw [HN.out.1]
    clear hbp1 hop1
    (try replace Ox1 := hide (OwnE.ext Ox1.out Gp1.out))
    (try replace Op := hide (OwnS.ext Op.out Gp1.out))
    (try replace Oq := hide (OwnS.ext Oq.out Gp1.out))
    (try replace Oz := hide (OwnE.ext Oz.out Gp1.out))
    have HED := edits_any Ax1 cx1 lsx1 wc (by rw [HL1.out]; omega) Ox1.out.edS.2
    rw [HL1.out] at HED
    have HED := hide HED
    go_wp2_with fail
    refine HED.out.mono ?_
    rintro e wd ⟨ve1, rfl, hoe1, hbe1⟩
    obtain ⟨Ae1, ce1, hve1⟩ := own_shape hoe1
    rw [HL1.out] at hve1
    subst hve1
    have Bd := hide (Bc.out.trans (hbe1.mono Bc.out.size))
    have Oe1 := hide hoe1
    have Ge1 := hide hbe1
    clear hbe1 hoe1 HED
    (try replace Ox1 := hide (OwnE.ext Ox1.out Ge1.out))
    (try replace Op := hide (OwnS.ext Op.out Ge1.out))
    (try replace Oq := hide (OwnS.ext Oq.out Ge1.out))
    (try replace Oz := hide (OwnE.ext Oz.out Ge1.out))
    have hs1 := OwnS.ext Op1.out Ge1.out
    have hcap := hs1.cap2
    have HAP := Apply_any Ap1 Ae1 cp1 ce1 a lsx1 wd HSA.out (by rw [HL1.out]; omega) HZ1.out hs1.sr.2 Oe1.out.edS.2 (by have := hs1.sr.1; omega) hcap.2
    rw [HN.out.1, HL1.out, HQ1.out] at HAP
    unfold MgPost at HAP
    dsimp only at HAP
    have HAP := hide HAP
    clear hs1 hcap Op1 Gp1 Oe1 Ge1
    go_wp2_with fail
    refine HAP.out.mono ?_
    rintro e we ⟨vp, rfl, hop, hbp⟩
    obtain ⟨Ap, cp, hvp⟩ := own_shape hop
    rw [HN.out.2.1] at hvp
    subst hvp
    have Be := hide (Bd.out.trans (hbp.mono Bd.out.size))
    have Op := hide hop
    have Gp := hide hbp
    clear hop hbp HAP
    (try replace Ox1 := hide (OwnE.ext Ox1.out Gp.out))
    have HED := edits_any Ax1 cx1 lsx1 we (by rw [HL1.out]; omega) Ox1.out.edS.2
    rw [HL1.out] at HED
    have HED := hide HED
    go_wp2_with fail
    refine HED.out.mono ?_
    rintro e wf ⟨ve2, rfl, hoe2, hbe2⟩
    obtain ⟨Ae2, ce2, hve2⟩ := own_shape hoe2
    rw [HL1.out] at hve2
    subst hve2
    have Bf := hide (Be.out.trans (hbe2.mono Be.out.size))
    have Oe2 := hide hoe2
    have Ge2 := hide hbe2
    clear hbe2 hoe2 HED
    (try replace Ox1 := hide (OwnE.ext Ox1.out Ge2.out))
    (try replace Op := hide (OwnS.ext Op.out Ge2.out))
    (try replace Oq := hide (OwnS.ext Oq.out Ge2.out))
    (try replace Oz := hide (OwnE.ext Oz.out Ge2.out))
    have HIV := Invert_any Ae2 ce2 lsx1 wf (by rw [HL1.out]; omega) HZ1.out Oe2.out.edS.2
    rw [HL1.out, HQ2.out] at HIV
    unfold IvPost at HIV
    dsimp only at HIV
    have HIV := hide HIV
    go_wp2_with fail
    refine HIV.out.mono ?_
    rintro e wg ⟨vz, rfl, hoz, hbz⟩
    obtain ⟨Az, cz, hvz⟩ := own_shape hoz
    rw [HL2.out] at hvz
    subst hvz
    have Bg := hide (Bf.out.trans (hbz.mono Bf.out.size))
    have Oz := hide hoz
    have Op := hide (OwnS.ext Op.out hbz)
    clear hoz hbz HIV Ox1 Oe2 Ge2
    go_wp2_with fail
    refine (HWb.out wg Bg.out).mono ?_
    rintro e wh ⟨vq1, rfl, hoq1, hbq1⟩
    obtain ⟨Aq1, cq1, rfl⟩ := own_shape hoq1
    have Bh := hide (Bg.out.trans (hbq1.mono Bg.out.size))
    have Oq1 := hide hoq1
    have Gq1 := hide hbq1
    rw [HN.out.2.1]
    clear hbq1 hoq1
    (try replace Ox1 := hide (OwnE.ext Ox1.out Gq1.out))
    (try replace Op := hide (OwnS.ext Op.out Gq1.out))
    (try replace Oq := hide (OwnS.ext Oq.out Gq1.out))
    (try replace Oz := hide (OwnE.ext Oz.out Gq1.out))
    have HED := edits_any Az cz mz wh (by rw [HL2.out]; omega) Oz.out.edS.2
    rw [HL2.out] at HED
    have HED := hide HED
    go_wp2_with fail
    refine HED.out.mono ?_
    rintro e wi ⟨ve3, rfl, hoe3, hbe3⟩
    obtain ⟨Ae3, ce3, hve3⟩ := own_shape hoe3
    rw [HL2.out] at hve3
    subst hve3
    have Bi := hide (Bh.out.trans (hbe3.mono Bh.out.size))
    have Oe3 := hide hoe3
    have Ge3 := hide hbe3
    clear hbe3 hoe3 HED
    (try replace Ox1 := hide (OwnE.ext Ox1.out Ge3.out))
    (try replace Op := hide (OwnS.ext Op.out Ge3.out))
    (try replace Oq := hide (OwnS.ext Oq.out Ge3.out))
    (try replace Oz := hide (OwnE.ext Oz.out Ge3.out))
    have hs1 := OwnS.ext Oq1.out Ge3.out
    have hcap := hs1.cap2
    have HAP := Apply_any Aq1 Ae3 cq1 ce3 b mz wi HSB.out (by rw [HL2.out]; omega) HZ2.out hs1.sr.2 Oe3.out.edS.2 (by have := hs1.sr.1; omega) hcap.2
    rw [HN.out.2.1, HL2.out, HQ3.out] at HAP
    unfold MgPost at HAP
    dsimp only at HAP
    have HAP := hide HAP
    clear hs1 hcap Oq1 Gq1 Oe3 Ge3
    go_wp2_with fail
    refine HAP.out.mono ?_
    rintro e wj ⟨vq, rfl, hoq, hbq⟩
    obtain ⟨Aq, cq, hvq⟩ := own_shape hoq
    rw [HN.out.1] at hvq
    subst hvq
    have Bj := hide (Bi.out.trans (hbq.mono Bi.out.size))
    have Oq := hide hoq
    have Gq := hide hbq
    clear hoq hbq HAP
    have Op := hide (OwnS.ext Op.out Gq.out)
    have HSM := same_any Ap A1 cp d b b wj (by rw [HN.out.2.1]; unfold maxLen; omega) Op.out.sr.2 ((ER.below HA1.out Bj.out (Nat.le_refl _)).more Bj.out.size)
    rw [HN.out.2.1, decide_eq_true rfl] at HSM
    have HSM := hide HSM
    go_wp2_with fail
    refine HSM.out.mono ?_
    rintro e wk ⟨rfl, hb6⟩
    have Bk := hide (Bj.out.trans (hb6.mono Bj.out.size))
    have Gm := hide hb6
    clear hb6 HSM
    (try replace Ox1 := hide (OwnE.ext Ox1.out Gm.out))
    (try replace Op := hide (OwnS.ext Op.out Gm.out))
    (try replace Oq := hide (OwnS.ext Oq.out Gm.out))
    (try replace Oz := hide (OwnE.ext Oz.out Gm.out))
    have HSM := same_any Aq A0 cq c a a wk (by rw [HN.out.1]; unfold maxLen; omega) Oq.out.sr.2 ((ER.below HA0.out Bk.out (Nat.le_refl _)).more Bk.out.size)
    rw [HN.out.1, decide_eq_true rfl] at HSM
    have HSM := hide HSM
    go_wp2_with fail
    refine HSM.out.mono ?_
    rintro e wl ⟨rfl, hb6⟩
    have Bl := hide (Bk.out.trans (hb6.mono Bk.out.size))
    have Gm := hide hb6
    clear hb6 HSM
    (try replace Ox1 := hide (OwnE.ext Ox1.out Gm.out))
    (try replace Op := hide (OwnS.ext Op.out Gm.out))
    (try replace Oq := hide (OwnS.ext Oq.out Gm.out))
    (try replace Oz := hide (OwnE.ext Oz.out Gm.out))
    go_wp2_with fail
    refine (known_any wl).mono ?_
    rintro e wz ⟨rfl, hbz⟩
    go_wp2_with fail
    go_ret
    exact ⟨rfl, Bl.out.trans (hbz.mono Bl.out.size)⟩
end Go.Proofs.YtmpegkojencbjaaDoor
/- How a law's statement follows from its walk; arguments opened as readings. -/
namespace Go.Proofs.YtmpegkojencbjaaDoor
open Go Go.RowKit Go.ChangeShapes Go.WideShapes Go.ChangeAt
set_option maxRecDepth 100000
theorem own_knob : ownKnob Tryd.prog.godebug = none := by kernel_rfl
theorem laidOut : laidOutB Tryd.prog = true := by kernel_rfl
section
variable {H : Type} {enc : TypeId × Value → H}
/-- arguments read behind the call as before, if below the heap's old size nothing has turned -/
theorem stay_all {W W' : World} (hb : Below W.heap.size W W') {sp : Nat → Bool} : ∀ {ts : List TypeId} {vs : List Value} {ds : List (DataW H)} {ps : List MemPlace},
    (∀ t ∈ ts, Tryd.prog.readableRec t = true ∧ t < Tryd.prog.types.size) → DataW.TrodAll enc Tryd.prog W 0 (fun _ => true) true ts vs ds ps → (∀ x ∈ ps, x.block < W.heap.size) → (∀ x ∈ ps, sp x.block = true) →
    DataW.TrodAll enc Tryd.prog W' 0 sp true ts vs ds ps
  | [], _, _, _, _, h, _, _ => by
    obtain ⟨rfl, rfl, rfl⟩ := trodAll_nil h
    exact trodAll_mk0
  | t :: ts, _, _, _, hr, h, hlt, hsp => by
    obtain ⟨v, vs, d, ds, p, q, rfl, rfl, rfl, h0, r0⟩ := trodAll_cons h
    have k := hr t (by simp)
    exact trodAll_cons_mk (WideElems.Trod_stays laidOut k.1 k.2 h0 (fun x hx => hb.same (hlt x (by simp [hx]))) (fun x hx => hsp x (by simp [hx])))
      (stay_all hb (fun t ht => hr t (by simp [ht])) r0 (fun x hx => hlt x (by simp [hx])) (fun x hx => hsp x (by simp [hx])))
/-- a law that returned true and turned nothing old -/
theorem law_post {f : Func} {s : ChangeSpec} {apart fresh handsOn again : Bool} {W W' : World} {args : Array Value} {ds gs : List (DataW H)} {before : List MemPlace}
    (hW : DataW.Whole enc Tryd.prog f.params.toList s.vars apart W args.toList ds gs before) (hb : Below W.heap.size W W')
    (hvs : s.vars = []) (hr1 : f.resultTypes = #[4])
    (hpar : f.params.toList.all (fun t => Tryd.prog.readableRec t && decide (t < Tryd.prog.types.size)) = true)
    (hfn : (s.fn H ds).results = [.lit (.bool true)] ∧ (s.fn H ds).args = ds ∧ (s.fn H ds).vars = []) :
    s.post enc Tryd.prog f apart fresh handsOn again W args (.bool true) W' := by
  have hW0 := hW
  have hlt : ∀ p ∈ before, p.block < W.heap.size := fun p hp => hW.lt p hp
  have hold : ∀ p ∈ before, (fun b => decide (b < W.heap.size)) p.block = true := fun p hp => by simpa using hlt p hp
  obtain ⟨p, q, hA, hV, rfl, hz, hn⟩ := hW
  rw [hvs] at hV
  obtain ⟨rfl, rfl⟩ := trodVars_none hV
  simp only [List.append_nil] at *
  have hk : ∀ t ∈ f.params.toList, Tryd.prog.readableRec t = true ∧ t < Tryd.prog.types.size := by
    intro t ht
    have := List.all_eq_true.1 hpar t ht
    simpa using this
  have hargs : ∀ sp : Nat → Bool, (∀ x ∈ p, sp x.block = true) → DataW.TrodAll enc Tryd.prog W' 0 sp true f.params.toList args.toList (s.fn H (ds ++ [])).args p := fun sp hsp => by
    rw [List.append_nil, hfn.2.1]; exact stay_all hb hk hA hlt hsp
  have hvars : ∀ sp : Nat → Bool, DataW.TrodVars enc Tryd.prog W' sp s.vars (s.fn H (ds ++ [])).vars [] := fun sp => by
    rw [hvs, List.append_nil, hfn.2.2]; exact rfl
  have hres : ∀ (b : Nat) (sp : Nat → Bool) (hd : Bool), DataW.TrodAll enc Tryd.prog W' b sp hd f.resultTypes.toList ((Value.bool true).resultList f.resultTypes.size) (s.fn H (ds ++ [])).results [] := fun b sp hd => by
    rw [List.append_nil, hfn.1, hr1]
    exact trodAll_cons_mk (shut_bool Tryd.underlying4 _) trodAll_mk0
  refine ⟨ds, [], p, [], p, [], hW0, hres _ _ _, hargs _ hold, hvars _, World.keptBut_mono (fun x hx => ⟨hx, Or.inr (by simpa using hx)⟩) (hb.frame (· ∈ p)), fun _ => ?_⟩
  refine ⟨ok_one hr1 rfl (okWide_bool_mk Tryd.underlying4 _), _, _, ([] ++ p) ++ [], ⟨[] ++ p, [], trodAll_append (hargs _ (fun _ _ => rfl)) (hres _ _ _), hvars (fun _ => true), rfl, ?_, ?_⟩, ?_⟩
  · intro b off hp
    have hin : MemPlace.cell b off ∈ p := by simpa using hp
    rw [hb.frozen (hlt _ hin)]
    exact hz b off hin
  · intro ha
    simpa using hn ha
  · intro x hx _
    simpa using hx
/-- a slice of structs of two cells: the readings of its elements -/
theorem open_pairs_c {W : World} {t e : TypeId} {f0 f1 : Field} {v : Value} {x : DataW H × List MemPlace} {fuel : Nat} (ht : Tryd.prog.underlying t = some (.slice e)) (he : Tryd.prog.underlying e = some (.struct #[f0, f1]))
    (ce : Tryd.prog.cellsOf e = 2) (o0 : f0.offset = 0) (o1 : f1.offset = 1) (c0 : Tryd.prog.cellsOf f0.type = 1) (c1 : Tryd.prog.cellsOf f1.type = 1)
    (h : DataW.trod enc Tryd.prog W 0 (fun _ => true) true fuel t [v] = some x) (hlt : ∀ y ∈ x.2, y.block < W.heap.size) :
    ∃ A n c V0 V1, v = .slice A n c ∧ n ≤ maxLen ∧ n ≤ c ∧ P2 W W.heap.size A n V0 V1 ∧ ∀ i, i < n → ∃ m x0 x1, DataW.trod enc Tryd.prog W 0 (fun _ => true) true m f0.type [V0 i] = some x0 ∧ DataW.trod enc Tryd.prog W 0 (fun _ => true) true m f1.type [V1 i] = some x1 ∧
      (∀ y ∈ x0.2, y.block < W.heap.size) ∧ (∀ y ∈ x1.2, y.block < W.heap.size) := by
  rcases Deep.open_slice_pairs ht he ce o0 o1 c0 c1 h with ⟨h1, -⟩ | ⟨a, len, cap, m, n, V0, V1, D0, D1, P0, P1, h1, hb, hl, hm, hmm, hx, hc⟩
  · injection h1 with h1
    subst h1
    exact ⟨none, 0, 0, fun _ => .nilIface, fun _ => .nilIface, rfl, by simp [maxLen], Nat.le_refl _, ER.nil _ _ _ _ _, fun i hi => absurd hi (by omega)⟩
  · injection h1 with h1
    subst h1
    simp only [if_true] at hmm
    subst hmm
    refine ⟨some a, len, m, V0, V1, rfl, by omega, hl, fun hn => ?_, fun i hi => ?_⟩
    · have h0 := (hc 0 (by omega)).1
      obtain ⟨b, off, spot⟩ := a
      have hsp : spot = none := by simpa [Addr.add] using World.cell?_spot h0
      subst hsp
      refine ⟨b, off, rfl, ?_, fun k i hk hi => ?_⟩
      · have hb1 := hlt (.cell b (off + 0)) (by
          rw [hx]
          exact List.mem_append_left _ (MemPlace.mem_row.2 ⟨0, by omega, rfl⟩))
        exact hb1
      · have hk2 := hc k (by omega)
        have q0 := hk2.1
        have q1 := hk2.2.1
        rw [add_lit'] at q0 q1
        rcases (by omega : i = 0 ∨ i = 1) with rfl | rfl
        · simpa using q0
        · simpa [Nat.add_assoc] using q1
    · have hi2 := hc i (by omega)
      refine ⟨n, _, _, hi2.2.2.1, hi2.2.2.2, fun y hy => hlt y ?_, fun y hy => hlt y ?_⟩
      · rw [hx]; exact List.mem_append_right _ (List.mem_flatMap.2 ⟨i, by simp; omega, List.mem_append_left _ hy⟩)
      · rw [hx]; exact List.mem_append_right _ (List.mem_flatMap.2 ⟨i, by simp; omega, List.mem_append_right _ hy⟩)
/-- a slice of ints -/
theorem open_ints_c {W : World} {t : TypeId} {v : Value} {x : DataW H × List MemPlace} {fuel : Nat} (ht : Tryd.prog.underlying t = some (.slice 3))
    (h : DataW.trod enc Tryd.prog W 0 (fun _ => true) true fuel t [v] = some x) (hlt : ∀ y ∈ x.2, y.block < W.heap.size) :
    ∃ A n c z, v = .slice A n c ∧ n ≤ maxLen ∧ n ≤ c ∧ IR W W.heap.size A n z ∧ ∀ i, i < n → -9223372036854775808 ≤ z i ∧ z i ≤ 9223372036854775807 := by
  rcases open_ints ht Tryd.underlying3 (by kernel_rfl) h with ⟨h1, -⟩ | ⟨a, len, cap, zs, h1, hb, hl, hm, hz, hx, hc, hwf⟩
  · injection h1 with h1
    subst h1
    exact ⟨none, 0, 0, fun _ => 0, rfl, by simp [maxLen], Nat.le_refl _, ER.nil _ _ _ _ _, fun i hi => absurd hi (by omega)⟩
  · injection h1 with h1
    subst h1
    simp only [if_true] at hz
    refine ⟨some a, len, cap, fun i => zs.getD i 0, rfl, by omega, hl, fun hn => ?_, fun i hi => ?_⟩
    · have h0 := hc 0 (by omega)
      obtain ⟨b, off, spot⟩ := a
      have hsp : spot = none := by simpa [Addr.add] using World.cell?_spot h0
      subst hsp
      refine ⟨b, off, rfl, ?_, fun k i hk hi => ?_⟩
      · have hb1 := hlt (.cell b (off + 0)) (by
          rw [hx]
          exact MemPlace.mem_row.2 ⟨0, by omega, rfl⟩)
        exact hb1
      · obtain rfl : i = 0 := by omega
        have := hc k (by omega)
        rw [add_lit'] at this
        simpa using this
    · have h1 : zs.getD i 0 ∈ zs := by
        rw [List.getD_eq_getElem?_getD, List.getElem?_eq_getElem (by omega)]
        exact List.getElem_mem _
      have := hwf _ h1
      simp only [Lit.wf, Bool.and_eq_true, decide_eq_true_eq] at this
      simpa [IntKind.min, IntKind.max, IntKind.signed, IntKind.bits] using this
theorem int_of_trod {W : World} {t : TypeId} {v : Value} {x : DataW H × List MemPlace} {fuel : Nat} (ht : Tryd.prog.underlying t = some (.int .i64)) (h : DataW.trod enc Tryd.prog W 0 (fun _ => true) true fuel t [v] = some x) :
    v = .int .i64 (intOf v) ∧ -9223372036854775808 ≤ intOf v ∧ intOf v ≤ 9223372036854775807 := by
  obtain ⟨z, hz, -, hw⟩ := DataW.trod_int ht h
  injection hz with hz
  subst hz
  simp only [Lit.wf, Bool.and_eq_true, decide_eq_true_eq] at hw
  exact ⟨rfl, by simpa [intOf, IntKind.min, IntKind.max, IntKind.signed, IntKind.bits] using hw⟩
theorem cells_slice {A : Option Addr} {n c : Nat} : (Value.slice A n c).cells.toList = [.slice A n c] := rfl
/-- a slice of structs of two ints -/
theorem open_pairs {r : Reach} {b0 : Nat} {W : World} {t e : TypeId} {f0 f1 : Field} {v : Value} {d : DataW H} {p : List MemPlace} (ht : Tryd.prog.underlying t = some (.slice e)) (he : Tryd.prog.underlying e = some (.struct #[f0, f1]))
    (ce : Tryd.prog.cellsOf e = 2) (o0 : f0.offset = 0) (o1 : f1.offset = 1) (c0 : Tryd.prog.cellsOf f0.type = 1) (c1 : Tryd.prog.cellsOf f1.type = 1)
    (k0 : Tryd.prog.underlying f0.type = some (.int .i64)) (k1 : Tryd.prog.underlying f1.type = some (.int .i64)) (hval : Value.okWide Tryd.prog W r b0 t v)
    (h : DataW.Trod enc Tryd.prog W 0 (fun _ => true) true t v d p) (hlt : ∀ x ∈ p, x.block < W.heap.size) :
    ∃ A n c x y, v = .slice A n c ∧ n ≤ maxLen ∧ n ≤ c ∧ PI W W.heap.size A n x y := by
  obtain ⟨fuel, h⟩ := h
  obtain ⟨A, n, c, rfl⟩ := okWide_slice ht hval
  rw [cells_slice] at h
  obtain ⟨A', n', c', V0, V1, h1, hn, hnc, hP, hV⟩ := open_pairs_c ht he ce o0 o1 c0 c1 h hlt
  injection h1 with h1 h2 h3
  subst h1 h2 h3
  refine ⟨A, n, c, fun i => intOf (V0 i), fun i => intOf (V1 i), rfl, hn, hnc, fun hn0 => ?_⟩
  obtain ⟨b, off, hA, hb, hc⟩ := hP hn0
  refine ⟨b, off, hA, hb, fun k i hk hi => ?_⟩
  obtain ⟨m, x0, x1, g0, g1, -, -⟩ := hV k hk
  rw [hc k i hk hi]
  rcases (by omega : i = 0 ∨ i = 1) with rfl | rfl
  · simpa using (int_of_trod k0 g0).1
  · simpa using (int_of_trod k1 g1).1
end
end Go.Proofs.YtmpegkojencbjaaDoor
/- School: a law's arguments opened: texts. -/
namespace Go.Proofs.YtmpegkojencbjaaDoor
open Go Go.RowKit Go.ChangeShapes Go.WideShapes Go.ChangeAt
section
variable {H : Type} {enc : TypeId × Value → H} {r : Reach} {b0 : Nat} {W : World} {v : Value} {d : DataW H} {p : List MemPlace}
set_option maxRecDepth 100000
theorem open_words (hval : Value.okWide Tryd.prog W r b0 22 v) (h : DataW.Trod enc Tryd.prog W 0 (fun _ => true) true 22 v d p) (hlt : ∀ x ∈ p, x.block < W.heap.size) :
    ∃ (A : Option Addr) (c : Nat) (l : List Wd), v = .slice A l.length c ∧ SzOk l ∧ SR W W.heap.size A l := by
  obtain ⟨fuel, h⟩ := h
  obtain ⟨A, n, c, rfl⟩ := okWide_slice Tryd.underlying22 hval
  rw [cells_slice] at h
  rcases open_strings Tryd.underlying22 Tryd.underlying9 (by kernel_rfl) h with ⟨h1, -⟩ | ⟨a, len, cap, ss, h1, -, hl, hm, hz, hx, hc, hsz⟩
  · injection h1 with h1
    injection h1 with h1 h2 h3
    subst h1 h2 h3
    exact ⟨none, 0, [], rfl, ⟨Nat.zero_le _, fun x hx => absurd hx (by simp)⟩, ER.nil _ _ _ _ _⟩
  · injection h1 with h1
    injection h1 with h1 h2 h3
    subst h1 h2 h3
    simp only [if_true] at hz
    have hlen : (ss.take n).length = n := by rw [List.length_take]; omega
    refine ⟨some a, c, ss.take n, by rw [hlen], ⟨by omega, fun x hx => hsz x (List.mem_of_mem_take hx)⟩, ?_⟩
    unfold SR
    rw [hlen]
    refine fun hn => ?_
    have h0 := hc 0 (by omega)
    obtain ⟨b, off, spot⟩ := a
    have hsp : spot = none := by simpa [Addr.add] using World.cell?_spot h0
    subst hsp
    refine ⟨b, off, rfl, ?_, fun k i hk hi => ?_⟩
    · have hb1 := hlt (.cell b (off + 0)) (by
        rw [(Prod.mk.inj hx).2]
        exact MemPlace.mem_row.2 ⟨0, by omega, rfl⟩)
      exact hb1
    · obtain rfl : i = 0 := by omega
      have h2 := hc k (by omega)
      rw [add_lit'] at h2
      have h3 : (ss.take n).getD k noW = ss.getD k ByteArray.empty := by
        simp [List.getD_eq_getElem?_getD, List.getElem?_take, hk, noW]
        rfl
      show W.cell? ⟨b, off + k * 1 + 0, none⟩ = some (.string ((ss.take n).getD k noW))
      rw [h3]
      simpa using h2
end
end Go.Proofs.YtmpegkojencbjaaDoor
namespace Go.Proofs.YtmpegkojencbjaaDoor.schoolEdits
open Go Go.ChangeShapes Go.WideShapes Go.ChangeAt Go.RowKit
set_option maxRecDepth 100000 in
theorem lifted (os : Os) (started : os.Started) (H : Type) (enc : TypeId × Value → H) :
    ReturnsInHanded {} Tryd.checked os 13 .any (fun w args => (Rows.schoolEditsSpec.pre enc Tryd.prog Tryd.f13 Rows.schoolEditsRow.domain false w args ∧ laidMetH Tryd.prog Rows.schoolEditsRow.laid w) ∧ sizedMet enc Tryd.prog Tryd.f13 (OpenSpec.ofChange Rows.schoolEditsSpec) false w args)
      (Rows.schoolEditsSpec.post enc Tryd.prog Tryd.f13 false true false false) := by
  refine returnsInHanded_of_change_and (C := Tryd.checked) (X := fun w _ => laidMetH Tryd.prog Rows.schoolEditsRow.laid w) (fun _ _ _ hh h => h.of_heap hh) own_knob started (by kernel_rfl) Tryd.func13
    (ChangeSpec.witness_shaped (enc := enc) (C := Tryd.checked) (os := os) (X := fun w _ => laidMetH Tryd.prog Rows.schoolEditsRow.laid w) false (World.laidAll Tryd.prog os Rows.schoolEditsRow.laid) #[.slice none 0 0, .slice none 0 0, .slice none 0 0] 8 (World.laidAll_os _ _ _)
      (World.shaped_of_ZipB (by kernel_rfl) (by kernel_rfl)) (by kernel_rfl) (by kernel_rfl) (by kernel_rfl)
      (by rw [MakeChecks.laidMetH_plain _ _ _ (by kernel_rfl)]; exact laidMet_laidAll _ (by kernel_rfl) (by kernel_rfl))) ?_
  intro W base args ds gs before hval0 hW _ _ hL _
  have hval : ∀ (j : Nat) t v, Tryd.f13.params[j]? = some t → args[j]? = some v → Value.okWide Tryd.prog W .any base t v := hval0
  have hW' := hW
  have hlt : ∀ p ∈ before, p.block < W.heap.size := fun p hp => hW.lt p hp
  obtain ⟨p, q, hA0, hV, rfl, hfz, hnd⟩ := hW
  have hA : DataW.TrodAll enc Tryd.prog W 0 (fun _ => true) true Tryd.f13.params.toList args.toList ds p := hA0
  rw [Tryd.params13] at hA hval
  obtain ⟨v0, vs0, d0, ds0, p0, q0, hargs, rfl, rfl, h0, r0⟩ := trodAll_cons hA
  obtain ⟨v1, vs1, d1, ds1, p1, q1, rfl, rfl, rfl, h1, r1⟩ := trodAll_cons r0
  obtain ⟨v2, vs2, d2, ds2, p2, q2, rfl, rfl, rfl, h2, r2⟩ := trodAll_cons r1
  obtain ⟨rfl, rfl, rfl⟩ := trodAll_nil r2
  obtain rfl : args = #[v0, v1, v2] := by cases args; simp_all
  obtain ⟨rfl, rfl⟩ := trodVars_none hV
  have k0 := hval 0 22 v0 rfl rfl
  have k1 := hval 1 22 v1 rfl rfl
  have k2 := hval 2 22 v2 rfl rfl
  obtain ⟨A0, c0, l0, rfl, z0, s0⟩ := open_words k0 h0 (fun x hx => hlt x (by simp [hx]))
  obtain ⟨A1, c1, l1, rfl, z1, s1⟩ := open_words k1 h1 (fun x hx => hlt x (by simp [hx]))
  obtain ⟨A2, c2, l2, rfl, z2, s2⟩ := open_words k2 h2 (fun x hx => hlt x (by simp [hx]))
  clear hA0 hval0
  refine (edits_law A0 A1 A2 c0 c1 c2 l0 l1 l2 W z0 z1 z2 s0 s1 s2).mono fun e W' ⟨he, hb⟩ => ?_
  subst he
  exact ⟨_, rfl, law_post hW' hb rfl rfl (by kernel_rfl) ⟨rfl, rfl, rfl⟩⟩
theorem over : Rows.schoolEditsRow.holds Tryd.pinned (OpenSpec.ofChange Rows.schoolEditsSpec) :=
  OpenClaim.holds_of_wide 13 Tryd.f13 rfl rfl rfl rfl rfl rfl rfl ⟨rfl, rfl, rfl, rfl, rfl⟩ rfl rfl rfl rfl rfl (by kernel_rfl) Tryd.func13 (by kernel_rfl)
    (of_decide_eq_true (by kernel_rfl)) (by unfold Func.isWrapper; first | (rw [if_pos (by decide +kernel)]; kernel_rfl) | (rw [if_neg (by decide +kernel)]; exact ⟨rfl, rfl⟩))
    (fun os started H enc _ => lifted os started H enc)
theorem proved : Rows.SchoolEditsCardSaid :=
  Claim7.holds_tied_plain_at .later [] [.data, .pinned] true (true, "de0e8bac062d770159938a4787e32507ef436192cdeecd4cdeadb3815a38d22b") false over (fun _ h => by cases h) (by kernel_rfl) (fun _ h => by cases h) schoolEdits_row_tie rfl ⟨rfl, rfl⟩ (by kernel_rfl) rfl
    (fun f fn hf hfn => by
      obtain rfl : f = 13 := Option.some.inj ((show Tryd.prog.funcNamed "chiti/chitilaw11.SchoolEdits" = some 13 by kernel_rfl).symm.trans hf) |>.symm
      obtain rfl : fn = Tryd.f13 := (Option.some.inj (Tryd.func13.symm.trans hfn)).symm
      exact ⟨by kernel_rfl, fun j t ht => by
        rw [Tryd.params13] at ht
        have hm : t ∈ ([22] : List TypeId) := by simpa using Array.mem_of_getElem? ht
        have hall : (([22] : List TypeId).all fun u => !Tryd.prog.wantsStandIn u) = true := by kernel_rfl
        exact (show Tryd.prog.wantsStandIn t = false by simpa using List.all_eq_true.1 hall t hm)⟩)
    (by kernel_rfl)
#print axioms proved
end Go.Proofs.YtmpegkojencbjaaDoor.schoolEdits
