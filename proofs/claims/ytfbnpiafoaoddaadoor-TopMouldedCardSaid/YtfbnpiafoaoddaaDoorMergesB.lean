/- School: distances, walked. -/
import Derived.Test.YtfbnpiafoaoddaaDoorMergesA
set_option linter.unusedSimpArgs false
set_option linter.unusedVariables false
set_option linter.unnecessarySimpa false
namespace Go.Proofs.YtfbnpiafoaoddaaDoor
open List renaming getElem_toArray → glA, getElem_cons_zero → glB, getElem_cons_succ → glC, setIfInBounds_toArray → glD, set_cons_zero → glE, set_cons_succ → glF
open Go Go.RowKit Go.Shelf
set_option maxHeartbeats 4000000
set_option maxRecDepth 100000
def DistPost (w : World) (a b : List Wd) (e : Ending) (w' : World) : Prop :=
  ∃ D g, e = .returned (.slice (some ⟨D, 0, none⟩) (a.length + 1) (a.length + 1)) ∧ DT w a.length b.length 0 D g (dsT a b) w'
theorem distances_any (A B : Option Addr) (c d : Nat) (a b : List Wd) (w : World) (ha : a.length ≤ 1000) (hb : b.length ≤ 1000) (hA : SR w w.heap.size A a) (hB : SR w w.heap.size B b) :
    Calls Tryd.prog 45 #[.slice A a.length c, .slice B b.length d] w (DistPost w a b) := by
  obtain ⟨n, hn⟩ : ∃ n, a.length = n := ⟨_, rfl⟩
  obtain ⟨m, hm⟩ : ∃ m, b.length = m := ⟨_, rfl⟩
  obtain ⟨N, hN⟩ : ∃ N, n + 1 = N := ⟨_, rfl⟩
  obtain ⟨M, hM⟩ : ∃ M, m + 1 = M := ⟨_, rfl⟩
  have HA := hide hA
  have HB := hide hB
  unfold DistPost
  unfold SR at HA HB
  rw [hn] at ha HA ⊢
  rw [hm] at hb HB ⊢
  obtain ⟨i0, hi, hz0, hz1, hz2⟩ := info_parts info_row
  obtain ⟨j0, hj, hy0, hy1, hy2⟩ := info_parts info_int
  have gl := run_make_rowN (P := Tryd.prog) 105 26 i0 _ Tryd.underlying105 hi hz0 .i64 .i64 N N (Nat.le_refl _) (by rw [hz2]; omega) (by omega) w
  rw [hz1, rowV_made] at gl
  have gr := fun W => run_make_rowN (P := Tryd.prog) 26 3 j0 _ Tryd.underlying26 hj hy0 .i64 .i64 M M (Nat.le_refl _) (by rw [hy2]; omega) (by omega) W
  simp only [hy1, rowV_ints] at gr
  have GR := hide gr
  have wN : IntKind.i64.wrap ((n : Int) + 1) = (N : Int) := by rw [IntWalk.i64_in _ (by omega)]; omega
  have wM : IntKind.i64.wrap ((m : Int) + 1) = (M : Int) := by rw [IntWalk.i64_in _ (by omega)]; omega
  have hNM := hide (And.intro (And.intro hn hm) (And.intro hN hM))
  have WM := hide wM
  clear hA hB hn hm hN hM hi hz0 hz1 hz2 hj hy0 hy1 hy2 gr wM
  go_enter Tryd.func45, Tryd.ntmps45
  go_wp2_with fail
  have D0 : Hid (DT w n m (n + 1) w.heap.size (fun _ => 0) (dsT a b) (w.alloc (.cells (rowV N fun _ => .slice none 0 0) 26))) := hide ⟨(Below.refl _ _).alloc (Nat.le_refl _) _, Blk.row (by have h := Blk.new w 26 (rowV N fun _ => .slice none 0 0); rw [← hNM.out.2.1] at h ⊢; exact h) (fun k hk => by rw [if_neg (by omega)]), fun k h1 h2 => by omega, Nat.le_refl _, fun k h1 h2 => by omega⟩
  generalize (w.alloc (.cells (rowV N fun _ => .slice none 0 0) 26)) = W0 at D0 ⊢
  clear gl wN
  go_loopw [6] (fun x wr => ∃ (r : Nat) (iv : Int) (g : Nat → Nat), x = .int .i64 iv ∧ iv = (r : Int) - 1 ∧ r ≤ n + 1 ∧ Hid (DT w n m r w.heap.size g (dsT a b) wr)) (fun x _ => (intOf x + 1).toNat)
  case atStart => exact ⟨n + 1, _, _, rfl, by omega, by omega, D0⟩
  case round =>
    obtain ⟨r, iv, g, rfl, hiv, hr, HD⟩ := hrel
    obtain ⟨D, hDe⟩ : ∃ D, w.heap.size = D := ⟨_, rfl⟩
    rw [hDe] at HD ⊢
    have HDE := hide hDe
    clear hDe D0
    rcases r with _ | i
    · have hv0 : iv = -1 := by omega
      subst hv0
      clear hiv
      go_wp2_with fail
      go_ret
      exact ⟨D, g, by rw [← hNM.out.2.1]; rfl, HD.out⟩
    · have hv0 : iv = (i : Int) := by omega
      subst hv0
      clear hiv
      have hin : i ≤ n := by omega
      have q1 : (0 : Int) ≤ (i : Int) := by omega
      have q2 : (i : Int) < (N : Int) := by have := hNM.out.2.1; omega
      have cD := HD.out.blk.cell i
      rw [rowV_get _ _ (by omega), if_neg (by omega)] at cD
      have fD := HD.out.blk.frozen i
      have lD := HD.out.blk.lt
      have gl := GR.out wr
      have wM := WM.out
      go_wp2_with fail
      have HC := hide (HD.out.row hin _ rfl)
      rw [hNM.out.2.2] at HC
      clear gl wM cD fD lD
      obtain ⟨gi, hgi⟩ : ∃ gi, wr.heap.size = gi := ⟨_, rfl⟩
      rw [hgi] at HC ⊢
      generalize ((wr.setCell ⟨D, i, none⟩ (.slice (some ⟨gi, 0, none⟩) M M)).alloc (.cells (rowV M fun _ => .int .i64 0) 3)) = W1 at HC ⊢
      clear hgi HD
      go_loopw [7] (fun x wq => ∃ (q : Nat) (jv : Int), x = .int .i64 jv ∧ jv = (q : Int) - 1 ∧ q ≤ m + 1 ∧ Hid (DC w n m i q D gi g (dsT a b) wq)) (fun x _ => (intOf x + 1).toNat)
      case atStart => exact ⟨m + 1, _, rfl, by omega, by omega, by rw [hNM.out.2.2]; exact HC⟩
      case round =>
        obtain ⟨q, jv, rfl, hjv, hq, HQ⟩ := hrel
        clear HC
        rcases q with _ | j
        · have hv0 : jv = -1 := by omega
          subst hv0
          clear hjv
          have w2 : IntKind.i64.wrap ((i : Int) - 1) = (i : Int) - 1 := IntWalk.i64_in _ (by omega)
          go_wp2_with fail
          go_roundw
          case rel => exact ⟨i, (i : Int) - 1, _, rfl, rfl, by omega, hide (HQ.out.full hin)⟩
          case measure => first | (simp [intOf]; omega) | simp [intOf]
        · have hv0 : jv = (j : Int) := by omega
          subst hv0
          clear hjv
          have hjm : j ≤ m := by omega
          have p1 : (0 : Int) ≤ (j : Int) := by omega
          have p2 : (j : Int) < (M : Int) := by have := hNM.out.2.2; omega
          have hMM := hNM.out.2.2
          have w4 : IntKind.i64.wrap ((j : Int) - 1) = (j : Int) - 1 := IntWalk.i64_in _ (by omega)
          have cD := HQ.out.blk.cell i
          rw [rowV_get _ _ (by omega), if_pos (Nat.le_refl _), upd_same, hMM] at cD
          have lD := HQ.out.blk.lt
          have cg := HQ.out.cur.cell j
          rw [rowV_get _ _ (by omega), if_neg (by omega)] at cg
          have fg := HQ.out.cur.frozen j
          have lg := HQ.out.cur.lt
          clear hMM
          by_cases hin2 : i = n
          · -- BEGIN1
            have e1 : ((i : Int) == (n : Int)) = true := by simp; omega
            have w3 : IntKind.i64.wrap ((m : Int) - (j : Int)) = (m : Int) - (j : Int) := IntWalk.i64_in _ (by omega)
            have HN := hide (HQ.out.put (Below.refl _ _) hjm ((m : Int) - (j : Int)) (by
              have h1 := dsT_end a b j
              have h2 := hNM.out.1
              rw [hin2, ← h2.1, h1, h2.2]; omega))
            clear hin2
            go_wp2_with fail
            go_roundw
            case rel => exact ⟨j, (j : Int) - 1, rfl, rfl, by omega, HN⟩
            case measure => first | (simp [intOf]; omega) | simp [intOf]
            -- END1
          · have e1 : ((i : Int) == (n : Int)) = false := by simp; omega
            by_cases hjm2 : j = m
            · -- BEGIN2
              have e2 : ((j : Int) == (m : Int)) = true := by simp; omega
              have w3 : IntKind.i64.wrap ((n : Int) - (i : Int)) = (n : Int) - (i : Int) := IntWalk.i64_in _ (by omega)
              have HN := hide (HQ.out.put (Below.refl _ _) hjm ((n : Int) - (i : Int)) (by
                have h1 := dsT_end2 a b i
                have h2 := hNM.out.1
                rw [hjm2, ← h2.2, h1, h2.1]; omega))
              clear hin2 hjm2
              go_wp2_with fail
              go_roundw
              case rel => exact ⟨j, (j : Int) - 1, rfl, rfl, by omega, HN⟩
              case measure => first | (simp [intOf]; omega) | simp [intOf]
              -- END2
            · have e2 : ((j : Int) == (m : Int)) = false := by simp; omega
              have hi3 : i < n := by omega
              have hj3 : j < m := by omega
              have i3 : (i : Int) < (n : Int) := by omega
              have j3 : (j : Int) < (m : Int) := by omega
              obtain ⟨xb, xo, hXA, hxb, hxc⟩ := VR1.at_ (HA.out.below HQ.out.below (Nat.le_refl _)) hi3
              obtain ⟨yb, yo, hYB, hyb, hyc⟩ := VR1.at_ (HB.out.below HQ.out.below (Nat.le_refl _)) hj3
              subst hXA hYB
              obtain ⟨x, hx⟩ : ∃ x, a.getD i noW = x := ⟨_, rfl⟩
              obtain ⟨y, hy⟩ : ∃ y, b.getD j noW = y := ⟨_, rfl⟩
              rw [hx] at hxc
              rw [hy] at hyc
              have hxb2 : xb < wr.heap.size := by have := HQ.out.below.size; omega
              have hyb2 : yb < wr.heap.size := by have := HQ.out.below.size; omega
              have HXY := hide (And.intro hx hy)
              have hs14 : Hid (∀ W, Below wr.heap.size wr W → W.cell? ⟨xb, xo + i, none⟩ = some (.string x) ∧ W.cell? ⟨yb, yo + j, none⟩ = some (.string y)) := hide (fun W h => ⟨(h.cell (p := ⟨xb, xo + i, none⟩) hxb2).trans hxc, (h.cell (p := ⟨yb, yo + j, none⟩) hyb2).trans hyc⟩)
              have hin3 : i + 1 ≤ n := by omega
              have cD2 := HQ.out.blk.cell (i + 1)
              rw [rowV_get _ _ (by omega), if_pos (by omega), upd_ne _ _ (by omega), hNM.out.2.2] at cD2
              obtain ⟨gn, hgn⟩ : ∃ gn, g (i + 1) = gn := ⟨_, rfl⟩
              have hrow := HQ.out.rows (i + 1) (by omega) (by omega)
              rw [hgn] at hrow cD2
              have cn1 := hrow.cell (j + 1)
              rw [rowV_get _ _ (by omega)] at cn1
              have cn2 := hrow.cell j
              rw [rowV_get _ _ (by omega)] at cn2
              have lgn := hrow.lt
              have cg2 := HQ.out.cur.cell (j + 1)
              rw [rowV_get _ _ (by omega), if_pos (by omega)] at cg2
              clear hrow hgn hx hy hin2 hjm2 hxc hyc
              obtain ⟨t1, ht1⟩ : ∃ t, dsT a b (i + 1) (j + 1) = t := ⟨_, rfl⟩
              obtain ⟨t2, ht2⟩ : ∃ t, dsT a b (i + 1) j = t := ⟨_, rfl⟩
              obtain ⟨t3, ht3⟩ : ∃ t, dsT a b i (j + 1) = t := ⟨_, rfl⟩
              rw [ht1] at cn1
              rw [ht2] at cn2
              rw [ht3] at cg2
              have b1 := dsT_le a b (i + 1) (j + 1)
              have b2 := dsT_le a b (i + 1) j
              have b3 := dsT_le a b i (j + 1)
              rw [ht1, hNM.out.1.1, hNM.out.1.2] at b1
              rw [ht2, hNM.out.1.1, hNM.out.1.2] at b2
              rw [ht3, hNM.out.1.1, hNM.out.1.2] at b3
              have HT := hide (And.intro ht1 (And.intro ht2 ht3))
              have hs9 : Hid (∀ W, Below wr.heap.size wr W → (W.cell? ⟨D, i, none⟩ = some (.slice (some ⟨gi, 0, none⟩) M M) ∧ W.cell? ⟨D, i + 1, none⟩ = some (.slice (some ⟨gn, 0, none⟩) M M)) ∧ (W.cell? ⟨gn, j + 1, none⟩ = some (.int .i64 t1) ∧ W.cell? ⟨gn, j, none⟩ = some (.int .i64 t2)) ∧ W.cell? ⟨gi, j + 1, none⟩ = some (.int .i64 t3)) := hide (fun W h => ⟨⟨(h.cell (p := ⟨D, i, none⟩) lD).trans cD, (h.cell (p := ⟨D, i + 1, none⟩) lD).trans cD2⟩, ⟨(h.cell (p := ⟨gn, j + 1, none⟩) lgn).trans cn1, (h.cell (p := ⟨gn, j, none⟩) lgn).trans cn2⟩, (h.cell (p := ⟨gi, j + 1, none⟩) lg).trans cg2⟩)
              have hgg : Hid (∀ W, Below wr.heap.size wr W → gi < W.heap.size ∧ W.cell? ⟨gi, j, none⟩ = some (.int .i64 0) ∧ W.frozen? ⟨gi, j, none⟩ = false) := hide (fun W h => ⟨by have := h.size; omega, (h.cell (p := ⟨gi, j, none⟩) lg).trans cg, (h.frozen (p := ⟨gi, j, none⟩) lg).trans fg⟩)
              have wi1 : IntKind.i64.wrap ((i : Int) + 1) = (i : Int) + 1 := IntWalk.i64_in _ (by omega)
              have wj1 : IntKind.i64.wrap ((j : Int) + 1) = (j : Int) + 1 := IntWalk.i64_in _ (by omega)
              have ii1 : (0 : Int) ≤ (i : Int) + 1 := by omega
              have ii2 : (i : Int) + 1 < (N : Int) := by have := hNM.out.2.1; omega
              have ii3 : ((i : Int) + 1).toNat = i + 1 := by omega
              have jj1 : (0 : Int) ≤ (j : Int) + 1 := by omega
              have jj2 : (j : Int) + 1 < (M : Int) := by have := hNM.out.2.2; omega
              have jj3 : ((j : Int) + 1).toNat = j + 1 := by omega
              have WI := hide (And.intro (And.intro wi1 (And.intro ii1 (And.intro ii2 ii3))) (And.intro wj1 (And.intro jj1 (And.intro jj2 jj3))))
              clear cD lD cD2 cn1 cn2 cg2 cg fg ht1 ht2 ht3 wi1 wj1 ii1 ii2 ii3 jj1 jj2 jj3
              by_cases hxy : x = y
              · -- BEGIN3
                have hTv : dsT a b i j = t1 := by rw [dsT_same (by rw [hNM.out.1.1]; exact hi3) (by rw [hNM.out.1.2]; exact hj3) (by rw [HXY.out.1, HXY.out.2]; exact hxy)]; exact HT.out.1
                have HTV := hide hTv
                subst hxy
                clear hTv
                have Bd := hide (Below.refl wr.heap.size wr).drew
                go_upto_region 14 with fail
                refine wp_region_J (fun W : World => W.cell? ⟨xb, xo + i, none⟩ = some (.string x) ∧ W.cell? ⟨yb, yo + j, none⟩ = some (.string x)) (by kernel_rfl) ?_
                generalize wr.drew = wd at Bd ⊢
                refine wpAnyJ_take 0 (v := ?_) (by first | exact hF | exact wideFn) (hs14.out _ Bd.out) rfl (by kernel_rfl) (by kernel_rfl) (by kernel_rfl) (by kernel_rfl) rfl ?_ (by first | exact fun _ _ _ h => h | exact fun _ _ _ h => hQ2 _ _ _ _ _ h) ?_
                rotate_left
                · intro W hSW
                  simp only [glA, glB, glC]
                  (try dsimp only at hSW)
                  go_simp
                  with_reducible rfl
                (try simp only [glA, glB, glC, Act.put, glD, glE, glF])
                refine wpAnyJ_take 1 (v := ?_) (by first | exact hF | exact wideFn) (hs14.out _ Bd.out) rfl (by kernel_rfl) (by kernel_rfl) (by kernel_rfl) (by kernel_rfl) rfl ?_ (by first | exact fun _ _ _ h => h | exact fun _ _ _ h => hQ2 _ _ _ _ _ h) ?_
                rotate_left
                · intro W hSW
                  simp only [glA, glB, glC]
                  (try dsimp only at hSW)
                  go_simp
                  with_reducible rfl
                (try simp only [glA, glB, glC, Act.put, glD, glE, glF])
                refine wpAnyJ_take 2 (v := ?_) (by first | exact hF | exact wideFn) (hs14.out _ Bd.out) rfl (by kernel_rfl) (by kernel_rfl) (by kernel_rfl) (by kernel_rfl) rfl ?_ (by first | exact fun _ _ _ h => h | exact fun _ _ _ h => hQ2 _ _ _ _ _ h) ?_
                rotate_left
                · intro W hSW
                  simp only [glA, glB, glC]
                  (try dsimp only at hSW)
                  go_simp
                  with_reducible rfl
                (try simp only [glA, glB, glC, Act.put, glD, glE, glF])
                refine wpAnyJ_take 3 (v := ?_) (by first | exact hF | exact wideFn) (hs14.out _ Bd.out) rfl (by kernel_rfl) (by kernel_rfl) (by kernel_rfl) (by kernel_rfl) rfl ?_ (by first | exact fun _ _ _ h => h | exact fun _ _ _ h => hQ2 _ _ _ _ _ h) ?_
                rotate_left
                · intro W hSW
                  simp only [glA, glB, glC]
                  (try dsimp only at hSW)
                  go_simp
                  with_reducible rfl
                (try simp only [glA, glB, glC, Act.put, glD, glE, glF])
                refine wpAnyJ_take 4 (v := ?_) (by first | exact hF | exact wideFn) (hs14.out _ Bd.out) rfl (by kernel_rfl) (by kernel_rfl) (by kernel_rfl) (by kernel_rfl) rfl ?_ (by first | exact fun _ _ _ h => h | exact fun _ _ _ h => hQ2 _ _ _ _ _ h) ?_
                rotate_left
                · intro W hSW
                  simp only [glA, glB, glC]
                  (try dsimp only at hSW)
                  go_simp
                  with_reducible rfl
                (try simp only [glA, glB, glC, Act.put, glD, glE, glF])
                refine wpAnyJ_take 5 (v := ?_) (by first | exact hF | exact wideFn) (hs14.out _ Bd.out) rfl (by kernel_rfl) (by kernel_rfl) (by kernel_rfl) (by kernel_rfl) rfl ?_ (by first | exact fun _ _ _ h => h | exact fun _ _ _ h => hQ2 _ _ _ _ _ h) ?_
                rotate_left
                · intro W hSW
                  simp only [glA, glB, glC]
                  (try dsimp only at hSW)
                  go_simp
                  with_reducible rfl
                (try simp only [glA, glB, glC, Act.put, glD, glE, glF])
                refine wpAnyJ_take 6 (v := ?_) (by first | exact hF | exact wideFn) (hs14.out _ Bd.out) rfl (by kernel_rfl) (by kernel_rfl) (by kernel_rfl) (by kernel_rfl) rfl ?_ (by first | exact fun _ _ _ h => h | exact fun _ _ _ h => hQ2 _ _ _ _ _ h) ?_
                rotate_left
                · intro W hSW
                  simp only [glA, glB, glC]
                  (try dsimp only at hSW)
                  go_simp
                  with_reducible rfl
                (try simp only [glA, glB, glC, Act.put, glD, glE, glF])
                refine wpAnyJ_take 7 (v := ?_) (by first | exact hF | exact wideFn) (hs14.out _ Bd.out) rfl (by kernel_rfl) (by kernel_rfl) (by kernel_rfl) (by kernel_rfl) rfl ?_ (by first | exact fun _ _ _ h => h | exact fun _ _ _ h => hQ2 _ _ _ _ _ h) ?_
                rotate_left
                · intro W hSW
                  simp only [glA, glB, glC]
                  (try dsimp only at hSW)
                  go_simp
                  with_reducible rfl
                (try simp only [glA, glB, glC, Act.put, glD, glE, glF])
                refine wpAnyJ_take 8 (v := ?_) (by first | exact hF | exact wideFn) (hs14.out _ Bd.out) rfl (by kernel_rfl) (by kernel_rfl) (by kernel_rfl) (by kernel_rfl) rfl ?_ (by first | exact fun _ _ _ h => h | exact fun _ _ _ h => hQ2 _ _ _ _ _ h) ?_
                rotate_left
                · intro W hSW
                  simp only [glA, glB, glC]
                  (try dsimp only at hSW)
                  go_simp
                  with_reducible rfl
                (try simp only [glA, glB, glC, Act.put, glD, glE, glF])
                refine wpAnyJ_take 9 (v := ?_) (by first | exact hF | exact wideFn) (hs14.out _ Bd.out) rfl (by kernel_rfl) (by kernel_rfl) (by kernel_rfl) (by kernel_rfl) rfl ?_ (by first | exact fun _ _ _ h => h | exact fun _ _ _ h => hQ2 _ _ _ _ _ h) ?_
                rotate_left
                · intro W hSW
                  simp only [glA, glB, glC]
                  (try dsimp only at hSW)
                  go_simp
                  with_reducible rfl
                (try simp only [glA, glB, glC, Act.put, glD, glE, glF])
                refine wpAnyJ_done (by kernel_rfl) ?_
                go_upto_region 15 with fail
                have Be := hide (Bd.out.trans ((Below.refl wd.heap.size wd).drew.mono Bd.out.size))
                refine wp_region_J (fun W : World => (W.cell? ⟨D, i, none⟩ = some (.slice (some ⟨gi, 0, none⟩) M M) ∧ W.cell? ⟨D, i + 1, none⟩ = some (.slice (some ⟨gn, 0, none⟩) M M)) ∧ (W.cell? ⟨gn, j + 1, none⟩ = some (.int .i64 t1) ∧ W.cell? ⟨gn, j, none⟩ = some (.int .i64 t2)) ∧ W.cell? ⟨gi, j + 1, none⟩ = some (.int .i64 t3)) (by kernel_rfl) ?_
                generalize wd.drew = we at Be ⊢
                obtain ⟨⟨wi1, ii1, ii2, ii3⟩, wj1, jj1, jj2, jj3⟩ := WI.out
                refine wpAnyJ_take 0 (v := ?_) (by first | exact hF | exact wideFn) (hs9.out _ Be.out) rfl (by kernel_rfl) (by kernel_rfl) (by kernel_rfl) (by kernel_rfl) rfl ?_ (by first | exact fun _ _ _ h => h | exact fun _ _ _ h => hQ2 _ _ _ _ _ h) ?_
                rotate_left
                · intro W hSW
                  simp only [glA, glB, glC]
                  (try dsimp only at hSW)
                  go_simp
                  with_reducible rfl
                (try simp only [glA, glB, glC, Act.put, glD, glE, glF])
                refine wpAnyJ_take 1 (v := ?_) (by first | exact hF | exact wideFn) (hs9.out _ Be.out) rfl (by kernel_rfl) (by kernel_rfl) (by kernel_rfl) (by kernel_rfl) rfl ?_ (by first | exact fun _ _ _ h => h | exact fun _ _ _ h => hQ2 _ _ _ _ _ h) ?_
                rotate_left
                · intro W hSW
                  simp only [glA, glB, glC]
                  (try dsimp only at hSW)
                  go_simp
                  with_reducible rfl
                (try simp only [glA, glB, glC, Act.put, glD, glE, glF])
                refine wpAnyJ_take 2 (v := ?_) (by first | exact hF | exact wideFn) (hs9.out _ Be.out) rfl (by kernel_rfl) (by kernel_rfl) (by kernel_rfl) (by kernel_rfl) rfl ?_ (by first | exact fun _ _ _ h => h | exact fun _ _ _ h => hQ2 _ _ _ _ _ h) ?_
                rotate_left
                · intro W hSW
                  simp only [glA, glB, glC]
                  (try dsimp only at hSW)
                  go_simp
                  with_reducible rfl
                (try simp only [glA, glB, glC, Act.put, glD, glE, glF])
                refine wpAnyJ_take 3 (v := ?_) (by first | exact hF | exact wideFn) (hs9.out _ Be.out) rfl (by kernel_rfl) (by kernel_rfl) (by kernel_rfl) (by kernel_rfl) rfl ?_ (by first | exact fun _ _ _ h => h | exact fun _ _ _ h => hQ2 _ _ _ _ _ h) ?_
                rotate_left
                · intro W hSW
                  simp only [glA, glB, glC]
                  (try dsimp only at hSW)
                  go_simp
                  with_reducible rfl
                (try simp only [glA, glB, glC, Act.put, glD, glE, glF])
                refine wpAnyJ_take 4 (v := ?_) (by first | exact hF | exact wideFn) (hs9.out _ Be.out) rfl (by kernel_rfl) (by kernel_rfl) (by kernel_rfl) (by kernel_rfl) rfl ?_ (by first | exact fun _ _ _ h => h | exact fun _ _ _ h => hQ2 _ _ _ _ _ h) ?_
                rotate_left
                · intro W hSW
                  simp only [glA, glB, glC]
                  (try dsimp only at hSW)
                  go_simp
                  with_reducible rfl
                (try simp only [glA, glB, glC, Act.put, glD, glE, glF])
                refine wpAnyJ_take 5 (v := ?_) (by first | exact hF | exact wideFn) (hs9.out _ Be.out) rfl (by kernel_rfl) (by kernel_rfl) (by kernel_rfl) (by kernel_rfl) rfl ?_ (by first | exact fun _ _ _ h => h | exact fun _ _ _ h => hQ2 _ _ _ _ _ h) ?_
                rotate_left
                · intro W hSW
                  simp only [glA, glB, glC]
                  (try dsimp only at hSW)
                  go_simp
                  with_reducible rfl
                (try simp only [glA, glB, glC, Act.put, glD, glE, glF])
                refine wpAnyJ_take 6 (v := ?_) (by first | exact hF | exact wideFn) (hs9.out _ Be.out) rfl (by kernel_rfl) (by kernel_rfl) (by kernel_rfl) (by kernel_rfl) rfl ?_ (by first | exact fun _ _ _ h => h | exact fun _ _ _ h => hQ2 _ _ _ _ _ h) ?_
                rotate_left
                · intro W hSW
                  simp only [glA, glB, glC]
                  (try dsimp only at hSW)
                  go_simp
                  with_reducible rfl
                (try simp only [glA, glB, glC, Act.put, glD, glE, glF])
                refine wpAnyJ_take 7 (v := ?_) (by first | exact hF | exact wideFn) (hs9.out _ Be.out) rfl (by kernel_rfl) (by kernel_rfl) (by kernel_rfl) (by kernel_rfl) rfl ?_ (by first | exact fun _ _ _ h => h | exact fun _ _ _ h => hQ2 _ _ _ _ _ h) ?_
                rotate_left
                · intro W hSW
                  simp only [glA, glB, glC]
                  (try dsimp only at hSW)
                  go_simp
                  with_reducible rfl
                (try simp only [glA, glB, glC, Act.put, glD, glE, glF])
                refine wpAnyJ_take 8 (v := ?_) (by first | exact hF | exact wideFn) (hs9.out _ Be.out) rfl (by kernel_rfl) (by kernel_rfl) (by kernel_rfl) (by kernel_rfl) rfl ?_ (by first | exact fun _ _ _ h => h | exact fun _ _ _ h => hQ2 _ _ _ _ _ h) ?_
                rotate_left
                · intro W hSW
                  simp only [glA, glB, glC]
                  (try dsimp only at hSW)
                  go_simp
                  with_reducible rfl
                (try simp only [glA, glB, glC, Act.put, glD, glE, glF])
                refine wpAnyJ_take 9 (v := ?_) (by first | exact hF | exact wideFn) (hs9.out _ Be.out) rfl (by kernel_rfl) (by kernel_rfl) (by kernel_rfl) (by kernel_rfl) rfl ?_ (by first | exact fun _ _ _ h => h | exact fun _ _ _ h => hQ2 _ _ _ _ _ h) ?_
                rotate_left
                · intro W hSW
                  simp only [glA, glB, glC]
                  (try dsimp only at hSW)
                  go_simp
                  with_reducible rfl
                (try simp only [glA, glB, glC, Act.put, glD, glE, glF])
                refine wpAnyJ_take 10 (v := ?_) (by first | exact hF | exact wideFn) (hs9.out _ Be.out) rfl (by kernel_rfl) (by kernel_rfl) (by kernel_rfl) (by kernel_rfl) rfl ?_ (by first | exact fun _ _ _ h => h | exact fun _ _ _ h => hQ2 _ _ _ _ _ h) ?_
                rotate_left
                · intro W hSW
                  simp only [glA, glB, glC]
                  (try dsimp only at hSW)
                  go_simp
                  with_reducible rfl
                (try simp only [glA, glB, glC, Act.put, glD, glE, glF])
                refine wpAnyJ_take 11 (v := ?_) (by first | exact hF | exact wideFn) (hs9.out _ Be.out) rfl (by kernel_rfl) (by kernel_rfl) (by kernel_rfl) (by kernel_rfl) rfl ?_ (by first | exact fun _ _ _ h => h | exact fun _ _ _ h => hQ2 _ _ _ _ _ h) ?_
                rotate_left
                · intro W hSW
                  simp only [glA, glB, glC]
                  (try dsimp only at hSW)
                  go_simp
                  with_reducible rfl
                (try simp only [glA, glB, glC, Act.put, glD, glE, glF])
                refine wpAnyJ_take 12 (v := ?_) (by first | exact hF | exact wideFn) (hs9.out _ Be.out) rfl (by kernel_rfl) (by kernel_rfl) (by kernel_rfl) (by kernel_rfl) rfl ?_ (by first | exact fun _ _ _ h => h | exact fun _ _ _ h => hQ2 _ _ _ _ _ h) ?_
                rotate_left
                · intro W hSW
                  simp only [glA, glB, glC]
                  (try dsimp only at hSW)
                  go_simp
                  with_reducible rfl
                (try simp only [glA, glB, glC, Act.put, glD, glE, glF])
                refine wpAnyJ_take 13 (v := ?_) (by first | exact hF | exact wideFn) (hs9.out _ Be.out) rfl (by kernel_rfl) (by kernel_rfl) (by kernel_rfl) (by kernel_rfl) rfl ?_ (by first | exact fun _ _ _ h => h | exact fun _ _ _ h => hQ2 _ _ _ _ _ h) ?_
                rotate_left
                · intro W hSW
                  simp only [glA, glB, glC]
                  (try dsimp only at hSW)
                  go_simp
                  with_reducible rfl
                (try simp only [glA, glB, glC, Act.put, glD, glE, glF])
                refine wpAnyJ_take 14 (v := ?_) (by first | exact hF | exact wideFn) (hs9.out _ Be.out) rfl (by kernel_rfl) (by kernel_rfl) (by kernel_rfl) (by kernel_rfl) rfl ?_ (by first | exact fun _ _ _ h => h | exact fun _ _ _ h => hQ2 _ _ _ _ _ h) ?_
                rotate_left
                · intro W hSW
                  simp only [glA, glB, glC]
                  (try dsimp only at hSW)
                  go_simp
                  with_reducible rfl
                (try simp only [glA, glB, glC, Act.put, glD, glE, glF])
                clear wi1 ii1 ii2 ii3 wj1 jj1 jj2 jj3
                obtain ⟨lg', cg', fg'⟩ := hgg.out _ Be.out
                refine wpAnyJ_one 15 rfl (by kernel_rfl) (fun K hK => ?_)
                simp only [glA, glB, glC]
                go_simp
                refine hK.out _ _ (fun h => absurd h (by rw [show lastOp _ _ _ = true from by kernel_rfl]; simp)) ?_
                clear hK K
                (try simp only [glA, glB, glC, Act.put, glD, glE, glF])
                refine wpAnyJ_done (by kernel_rfl) ?_
                have HN := hide (HQ.out.put Be.out hjm (t1 : Int) (by rw [HTV.out]))
                clear lg' cg' fg'
                go_wp2_with fail
                go_roundw
                case rel => exact ⟨j, (j : Int) - 1, rfl, rfl, by omega, HN⟩
                case measure => first | (simp [intOf]; omega) | simp [intOf]
                -- END3
              · -- BEGIN4
                have hTv : dsT a b i j = 1 + min (min t1 t2) t3 := by
                  rw [dsT_ne (by rw [hNM.out.1.1]; exact hi3) (by rw [hNM.out.1.2]; exact hj3) (by rw [HXY.out.1, HXY.out.2]; exact hxy), HT.out.1, HT.out.2.1, HT.out.2.2]
                have HTV := hide hTv
                have e3 := str_ne hxy
                clear hTv hxy
                have Bd := hide (Below.refl wr.heap.size wr).drew
                go_upto_region 14 with fail
                refine wp_region_J (fun W : World => W.cell? ⟨xb, xo + i, none⟩ = some (.string x) ∧ W.cell? ⟨yb, yo + j, none⟩ = some (.string y)) (by kernel_rfl) ?_
                generalize wr.drew = wd at Bd ⊢
                refine wpAnyJ_take 0 (v := ?_) (by first | exact hF | exact wideFn) (hs14.out _ Bd.out) rfl (by kernel_rfl) (by kernel_rfl) (by kernel_rfl) (by kernel_rfl) rfl ?_ (by first | exact fun _ _ _ h => h | exact fun _ _ _ h => hQ2 _ _ _ _ _ h) ?_
                rotate_left
                · intro W hSW
                  simp only [glA, glB, glC]
                  (try dsimp only at hSW)
                  go_simp
                  with_reducible rfl
                (try simp only [glA, glB, glC, Act.put, glD, glE, glF])
                refine wpAnyJ_take 1 (v := ?_) (by first | exact hF | exact wideFn) (hs14.out _ Bd.out) rfl (by kernel_rfl) (by kernel_rfl) (by kernel_rfl) (by kernel_rfl) rfl ?_ (by first | exact fun _ _ _ h => h | exact fun _ _ _ h => hQ2 _ _ _ _ _ h) ?_
                rotate_left
                · intro W hSW
                  simp only [glA, glB, glC]
                  (try dsimp only at hSW)
                  go_simp
                  with_reducible rfl
                (try simp only [glA, glB, glC, Act.put, glD, glE, glF])
                refine wpAnyJ_take 2 (v := ?_) (by first | exact hF | exact wideFn) (hs14.out _ Bd.out) rfl (by kernel_rfl) (by kernel_rfl) (by kernel_rfl) (by kernel_rfl) rfl ?_ (by first | exact fun _ _ _ h => h | exact fun _ _ _ h => hQ2 _ _ _ _ _ h) ?_
                rotate_left
                · intro W hSW
                  simp only [glA, glB, glC]
                  (try dsimp only at hSW)
                  go_simp
                  with_reducible rfl
                (try simp only [glA, glB, glC, Act.put, glD, glE, glF])
                refine wpAnyJ_take 3 (v := ?_) (by first | exact hF | exact wideFn) (hs14.out _ Bd.out) rfl (by kernel_rfl) (by kernel_rfl) (by kernel_rfl) (by kernel_rfl) rfl ?_ (by first | exact fun _ _ _ h => h | exact fun _ _ _ h => hQ2 _ _ _ _ _ h) ?_
                rotate_left
                · intro W hSW
                  simp only [glA, glB, glC]
                  (try dsimp only at hSW)
                  go_simp
                  with_reducible rfl
                (try simp only [glA, glB, glC, Act.put, glD, glE, glF])
                refine wpAnyJ_take 4 (v := ?_) (by first | exact hF | exact wideFn) (hs14.out _ Bd.out) rfl (by kernel_rfl) (by kernel_rfl) (by kernel_rfl) (by kernel_rfl) rfl ?_ (by first | exact fun _ _ _ h => h | exact fun _ _ _ h => hQ2 _ _ _ _ _ h) ?_
                rotate_left
                · intro W hSW
                  simp only [glA, glB, glC]
                  (try dsimp only at hSW)
                  go_simp
                  with_reducible rfl
                (try simp only [glA, glB, glC, Act.put, glD, glE, glF])
                refine wpAnyJ_take 5 (v := ?_) (by first | exact hF | exact wideFn) (hs14.out _ Bd.out) rfl (by kernel_rfl) (by kernel_rfl) (by kernel_rfl) (by kernel_rfl) rfl ?_ (by first | exact fun _ _ _ h => h | exact fun _ _ _ h => hQ2 _ _ _ _ _ h) ?_
                rotate_left
                · intro W hSW
                  simp only [glA, glB, glC]
                  (try dsimp only at hSW)
                  go_simp
                  with_reducible rfl
                (try simp only [glA, glB, glC, Act.put, glD, glE, glF])
                refine wpAnyJ_take 6 (v := ?_) (by first | exact hF | exact wideFn) (hs14.out _ Bd.out) rfl (by kernel_rfl) (by kernel_rfl) (by kernel_rfl) (by kernel_rfl) rfl ?_ (by first | exact fun _ _ _ h => h | exact fun _ _ _ h => hQ2 _ _ _ _ _ h) ?_
                rotate_left
                · intro W hSW
                  simp only [glA, glB, glC]
                  (try dsimp only at hSW)
                  go_simp
                  with_reducible rfl
                (try simp only [glA, glB, glC, Act.put, glD, glE, glF])
                refine wpAnyJ_take 7 (v := ?_) (by first | exact hF | exact wideFn) (hs14.out _ Bd.out) rfl (by kernel_rfl) (by kernel_rfl) (by kernel_rfl) (by kernel_rfl) rfl ?_ (by first | exact fun _ _ _ h => h | exact fun _ _ _ h => hQ2 _ _ _ _ _ h) ?_
                rotate_left
                · intro W hSW
                  simp only [glA, glB, glC]
                  (try dsimp only at hSW)
                  go_simp
                  with_reducible rfl
                (try simp only [glA, glB, glC, Act.put, glD, glE, glF])
                refine wpAnyJ_take 8 (v := ?_) (by first | exact hF | exact wideFn) (hs14.out _ Bd.out) rfl (by kernel_rfl) (by kernel_rfl) (by kernel_rfl) (by kernel_rfl) rfl ?_ (by first | exact fun _ _ _ h => h | exact fun _ _ _ h => hQ2 _ _ _ _ _ h) ?_
                rotate_left
                · intro W hSW
                  simp only [glA, glB, glC]
                  (try dsimp only at hSW)
                  go_simp
                  with_reducible rfl
                (try simp only [glA, glB, glC, Act.put, glD, glE, glF])
                refine wpAnyJ_take 9 (v := ?_) (by first | exact hF | exact wideFn) (hs14.out _ Bd.out) rfl (by kernel_rfl) (by kernel_rfl) (by kernel_rfl) (by kernel_rfl) rfl ?_ (by first | exact fun _ _ _ h => h | exact fun _ _ _ h => hQ2 _ _ _ _ _ h) ?_
                rotate_left
                · intro W hSW
                  simp only [glA, glB, glC]
                  (try dsimp only at hSW)
                  go_simp
                  with_reducible rfl
                (try simp only [glA, glB, glC, Act.put, glD, glE, glF])
                refine wpAnyJ_done (by kernel_rfl) ?_
                clear e3
                go_upto_region 9 with fail
                have Be := hide (Bd.out.trans ((Below.refl wd.heap.size wd).drew.mono Bd.out.size))
                refine wp_region_J (fun W : World => (W.cell? ⟨D, i, none⟩ = some (.slice (some ⟨gi, 0, none⟩) M M) ∧ W.cell? ⟨D, i + 1, none⟩ = some (.slice (some ⟨gn, 0, none⟩) M M)) ∧ (W.cell? ⟨gn, j + 1, none⟩ = some (.int .i64 t1) ∧ W.cell? ⟨gn, j, none⟩ = some (.int .i64 t2)) ∧ W.cell? ⟨gi, j + 1, none⟩ = some (.int .i64 t3)) (by kernel_rfl) ?_
                generalize wd.drew = we at Be ⊢
                obtain ⟨⟨wi1, ii1, ii2, ii3⟩, wj1, jj1, jj2, jj3⟩ := WI.out
                refine wpAnyJ_take 0 (v := ?_) (by first | exact hF | exact wideFn) (hs9.out _ Be.out) rfl (by kernel_rfl) (by kernel_rfl) (by kernel_rfl) (by kernel_rfl) rfl ?_ (by first | exact fun _ _ _ h => h | exact fun _ _ _ h => hQ2 _ _ _ _ _ h) ?_
                rotate_left
                · intro W hSW
                  simp only [glA, glB, glC]
                  (try dsimp only at hSW)
                  go_simp
                  with_reducible rfl
                (try simp only [glA, glB, glC, Act.put, glD, glE, glF])
                refine wpAnyJ_take 1 (v := ?_) (by first | exact hF | exact wideFn) (hs9.out _ Be.out) rfl (by kernel_rfl) (by kernel_rfl) (by kernel_rfl) (by kernel_rfl) rfl ?_ (by first | exact fun _ _ _ h => h | exact fun _ _ _ h => hQ2 _ _ _ _ _ h) ?_
                rotate_left
                · intro W hSW
                  simp only [glA, glB, glC]
                  (try dsimp only at hSW)
                  go_simp
                  with_reducible rfl
                (try simp only [glA, glB, glC, Act.put, glD, glE, glF])
                refine wpAnyJ_take 2 (v := ?_) (by first | exact hF | exact wideFn) (hs9.out _ Be.out) rfl (by kernel_rfl) (by kernel_rfl) (by kernel_rfl) (by kernel_rfl) rfl ?_ (by first | exact fun _ _ _ h => h | exact fun _ _ _ h => hQ2 _ _ _ _ _ h) ?_
                rotate_left
                · intro W hSW
                  simp only [glA, glB, glC]
                  (try dsimp only at hSW)
                  go_simp
                  with_reducible rfl
                (try simp only [glA, glB, glC, Act.put, glD, glE, glF])
                refine wpAnyJ_take 3 (v := ?_) (by first | exact hF | exact wideFn) (hs9.out _ Be.out) rfl (by kernel_rfl) (by kernel_rfl) (by kernel_rfl) (by kernel_rfl) rfl ?_ (by first | exact fun _ _ _ h => h | exact fun _ _ _ h => hQ2 _ _ _ _ _ h) ?_
                rotate_left
                · intro W hSW
                  simp only [glA, glB, glC]
                  (try dsimp only at hSW)
                  go_simp
                  with_reducible rfl
                (try simp only [glA, glB, glC, Act.put, glD, glE, glF])
                refine wpAnyJ_take 4 (v := ?_) (by first | exact hF | exact wideFn) (hs9.out _ Be.out) rfl (by kernel_rfl) (by kernel_rfl) (by kernel_rfl) (by kernel_rfl) rfl ?_ (by first | exact fun _ _ _ h => h | exact fun _ _ _ h => hQ2 _ _ _ _ _ h) ?_
                rotate_left
                · intro W hSW
                  simp only [glA, glB, glC]
                  (try dsimp only at hSW)
                  go_simp
                  with_reducible rfl
                (try simp only [glA, glB, glC, Act.put, glD, glE, glF])
                refine wpAnyJ_take 5 (v := ?_) (by first | exact hF | exact wideFn) (hs9.out _ Be.out) rfl (by kernel_rfl) (by kernel_rfl) (by kernel_rfl) (by kernel_rfl) rfl ?_ (by first | exact fun _ _ _ h => h | exact fun _ _ _ h => hQ2 _ _ _ _ _ h) ?_
                rotate_left
                · intro W hSW
                  simp only [glA, glB, glC]
                  (try dsimp only at hSW)
                  go_simp
                  with_reducible rfl
                (try simp only [glA, glB, glC, Act.put, glD, glE, glF])
                refine wpAnyJ_take 6 (v := ?_) (by first | exact hF | exact wideFn) (hs9.out _ Be.out) rfl (by kernel_rfl) (by kernel_rfl) (by kernel_rfl) (by kernel_rfl) rfl ?_ (by first | exact fun _ _ _ h => h | exact fun _ _ _ h => hQ2 _ _ _ _ _ h) ?_
                rotate_left
                · intro W hSW
                  simp only [glA, glB, glC]
                  (try dsimp only at hSW)
                  go_simp
                  with_reducible rfl
                (try simp only [glA, glB, glC, Act.put, glD, glE, glF])
                refine wpAnyJ_take 7 (v := ?_) (by first | exact hF | exact wideFn) (hs9.out _ Be.out) rfl (by kernel_rfl) (by kernel_rfl) (by kernel_rfl) (by kernel_rfl) rfl ?_ (by first | exact fun _ _ _ h => h | exact fun _ _ _ h => hQ2 _ _ _ _ _ h) ?_
                rotate_left
                · intro W hSW
                  simp only [glA, glB, glC]
                  (try dsimp only at hSW)
                  go_simp
                  with_reducible rfl
                (try simp only [glA, glB, glC, Act.put, glD, glE, glF])
                refine wpAnyJ_take 8 (v := ?_) (by first | exact hF | exact wideFn) (hs9.out _ Be.out) rfl (by kernel_rfl) (by kernel_rfl) (by kernel_rfl) (by kernel_rfl) rfl ?_ (by first | exact fun _ _ _ h => h | exact fun _ _ _ h => hQ2 _ _ _ _ _ h) ?_
                rotate_left
                · intro W hSW
                  simp only [glA, glB, glC]
                  (try dsimp only at hSW)
                  go_simp
                  with_reducible rfl
                (try simp only [glA, glB, glC, Act.put, glD, glE, glF])
                refine wpAnyJ_take 9 (v := ?_) (by first | exact hF | exact wideFn) (hs9.out _ Be.out) rfl (by kernel_rfl) (by kernel_rfl) (by kernel_rfl) (by kernel_rfl) rfl ?_ (by first | exact fun _ _ _ h => h | exact fun _ _ _ h => hQ2 _ _ _ _ _ h) ?_
                rotate_left
                · intro W hSW
                  simp only [glA, glB, glC]
                  (try dsimp only at hSW)
                  go_simp
                  with_reducible rfl
                (try simp only [glA, glB, glC, Act.put, glD, glE, glF])
                refine wpAnyJ_take 10 (v := ?_) (by first | exact hF | exact wideFn) (hs9.out _ Be.out) rfl (by kernel_rfl) (by kernel_rfl) (by kernel_rfl) (by kernel_rfl) rfl ?_ (by first | exact fun _ _ _ h => h | exact fun _ _ _ h => hQ2 _ _ _ _ _ h) ?_
                rotate_left
                · intro W hSW
                  simp only [glA, glB, glC]
                  (try dsimp only at hSW)
                  go_simp
                  with_reducible rfl
                (try simp only [glA, glB, glC, Act.put, glD, glE, glF])
                refine wpAnyJ_take 11 (v := ?_) (by first | exact hF | exact wideFn) (hs9.out _ Be.out) rfl (by kernel_rfl) (by kernel_rfl) (by kernel_rfl) (by kernel_rfl) rfl ?_ (by first | exact fun _ _ _ h => h | exact fun _ _ _ h => hQ2 _ _ _ _ _ h) ?_
                rotate_left
                · intro W hSW
                  simp only [glA, glB, glC]
                  (try dsimp only at hSW)
                  go_simp
                  with_reducible rfl
                (try simp only [glA, glB, glC, Act.put, glD, glE, glF])
                refine wpAnyJ_take 12 (v := ?_) (by first | exact hF | exact wideFn) (hs9.out _ Be.out) rfl (by kernel_rfl) (by kernel_rfl) (by kernel_rfl) (by kernel_rfl) rfl ?_ (by first | exact fun _ _ _ h => h | exact fun _ _ _ h => hQ2 _ _ _ _ _ h) ?_
                rotate_left
                · intro W hSW
                  simp only [glA, glB, glC]
                  (try dsimp only at hSW)
                  go_simp
                  with_reducible rfl
                (try simp only [glA, glB, glC, Act.put, glD, glE, glF])
                refine wpAnyJ_take 13 (v := ?_) (by first | exact hF | exact wideFn) (hs9.out _ Be.out) rfl (by kernel_rfl) (by kernel_rfl) (by kernel_rfl) (by kernel_rfl) rfl ?_ (by first | exact fun _ _ _ h => h | exact fun _ _ _ h => hQ2 _ _ _ _ _ h) ?_
                rotate_left
                · intro W hSW
                  simp only [glA, glB, glC]
                  (try dsimp only at hSW)
                  go_simp
                  with_reducible rfl
                (try simp only [glA, glB, glC, Act.put, glD, glE, glF])
                refine wpAnyJ_take 14 (v := ?_) (by first | exact hF | exact wideFn) (hs9.out _ Be.out) rfl (by kernel_rfl) (by kernel_rfl) (by kernel_rfl) (by kernel_rfl) rfl ?_ (by first | exact fun _ _ _ h => h | exact fun _ _ _ h => hQ2 _ _ _ _ _ h) ?_
                rotate_left
                · intro W hSW
                  simp only [glA, glB, glC]
                  (try dsimp only at hSW)
                  go_simp
                  with_reducible rfl
                (try simp only [glA, glB, glC, Act.put, glD, glE, glF])
                refine wpAnyJ_take 15 (v := ?_) (by first | exact hF | exact wideFn) (hs9.out _ Be.out) rfl (by kernel_rfl) (by kernel_rfl) (by kernel_rfl) (by kernel_rfl) rfl ?_ (by first | exact fun _ _ _ h => h | exact fun _ _ _ h => hQ2 _ _ _ _ _ h) ?_
                rotate_left
                · intro W hSW
                  simp only [glA, glB, glC]
                  (try dsimp only at hSW)
                  go_simp
                  with_reducible rfl
                (try simp only [glA, glB, glC, Act.put, glD, glE, glF])
                refine wpAnyJ_take 16 (v := ?_) (by first | exact hF | exact wideFn) (hs9.out _ Be.out) rfl (by kernel_rfl) (by kernel_rfl) (by kernel_rfl) (by kernel_rfl) rfl ?_ (by first | exact fun _ _ _ h => h | exact fun _ _ _ h => hQ2 _ _ _ _ _ h) ?_
                rotate_left
                · intro W hSW
                  simp only [glA, glB, glC]
                  (try dsimp only at hSW)
                  go_simp
                  with_reducible rfl
                (try simp only [glA, glB, glC, Act.put, glD, glE, glF])
                refine wpAnyJ_take 17 (v := ?_) (by first | exact hF | exact wideFn) (hs9.out _ Be.out) rfl (by kernel_rfl) (by kernel_rfl) (by kernel_rfl) (by kernel_rfl) rfl ?_ (by first | exact fun _ _ _ h => h | exact fun _ _ _ h => hQ2 _ _ _ _ _ h) ?_
                rotate_left
                · intro W hSW
                  simp only [glA, glB, glC]
                  (try dsimp only at hSW)
                  go_simp
                  with_reducible rfl
                (try simp only [glA, glB, glC, Act.put, glD, glE, glF])
                refine wpAnyJ_take 18 (v := ?_) (by first | exact hF | exact wideFn) (hs9.out _ Be.out) rfl (by kernel_rfl) (by kernel_rfl) (by kernel_rfl) (by kernel_rfl) rfl ?_ (by first | exact fun _ _ _ h => h | exact fun _ _ _ h => hQ2 _ _ _ _ _ h) ?_
                rotate_left
                · intro W hSW
                  simp only [glA, glB, glC]
                  (try dsimp only at hSW)
                  go_simp
                  with_reducible rfl
                (try simp only [glA, glB, glC, Act.put, glD, glE, glF])
                refine wpAnyJ_take 19 (v := ?_) (by first | exact hF | exact wideFn) (hs9.out _ Be.out) rfl (by kernel_rfl) (by kernel_rfl) (by kernel_rfl) (by kernel_rfl) rfl ?_ (by first | exact fun _ _ _ h => h | exact fun _ _ _ h => hQ2 _ _ _ _ _ h) ?_
                rotate_left
                · intro W hSW
                  simp only [glA, glB, glC]
                  (try dsimp only at hSW)
                  go_simp
                  with_reducible rfl
                (try simp only [glA, glB, glC, Act.put, glD, glE, glF])
                refine wpAnyJ_take 20 (v := ?_) (by first | exact hF | exact wideFn) (hs9.out _ Be.out) rfl (by kernel_rfl) (by kernel_rfl) (by kernel_rfl) (by kernel_rfl) rfl ?_ (by first | exact fun _ _ _ h => h | exact fun _ _ _ h => hQ2 _ _ _ _ _ h) ?_
                rotate_left
                · intro W hSW
                  simp only [glA, glB, glC]
                  (try dsimp only at hSW)
                  go_simp
                  with_reducible rfl
                (try simp only [glA, glB, glC, Act.put, glD, glE, glF])
                refine wpAnyJ_take 21 (v := ?_) (by first | exact hF | exact wideFn) (hs9.out _ Be.out) rfl (by kernel_rfl) (by kernel_rfl) (by kernel_rfl) (by kernel_rfl) rfl ?_ (by first | exact fun _ _ _ h => h | exact fun _ _ _ h => hQ2 _ _ _ _ _ h) ?_
                rotate_left
                · intro W hSW
                  simp only [glA, glB, glC]
                  (try dsimp only at hSW)
                  go_simp
                  with_reducible rfl
                (try simp only [glA, glB, glC, Act.put, glD, glE, glF])
                refine wpAnyJ_take 22 (v := ?_) (by first | exact hF | exact wideFn) (hs9.out _ Be.out) rfl (by kernel_rfl) (by kernel_rfl) (by kernel_rfl) (by kernel_rfl) rfl ?_ (by first | exact fun _ _ _ h => h | exact fun _ _ _ h => hQ2 _ _ _ _ _ h) ?_
                rotate_left
                · intro W hSW
                  simp only [glA, glB, glC]
                  (try dsimp only at hSW)
                  go_simp
                  with_reducible rfl
                (try simp only [glA, glB, glC, Act.put, glD, glE, glF])
                refine wpAnyJ_take 23 (v := ?_) (by first | exact hF | exact wideFn) (hs9.out _ Be.out) rfl (by kernel_rfl) (by kernel_rfl) (by kernel_rfl) (by kernel_rfl) rfl ?_ (by first | exact fun _ _ _ h => h | exact fun _ _ _ h => hQ2 _ _ _ _ _ h) ?_
                rotate_left
                · intro W hSW
                  simp only [glA, glB, glC]
                  (try dsimp only at hSW)
                  go_simp
                  with_reducible rfl
                (try simp only [glA, glB, glC, Act.put, glD, glE, glF])
                refine wpAnyJ_take 24 (v := ?_) (by first | exact hF | exact wideFn) (hs9.out _ Be.out) rfl (by kernel_rfl) (by kernel_rfl) (by kernel_rfl) (by kernel_rfl) rfl ?_ (by first | exact fun _ _ _ h => h | exact fun _ _ _ h => hQ2 _ _ _ _ _ h) ?_
                rotate_left
                · intro W hSW
                  simp only [glA, glB, glC]
                  (try dsimp only at hSW)
                  go_simp
                  with_reducible rfl
                (try simp only [glA, glB, glC, Act.put, glD, glE, glF])
                refine wpAnyJ_take 25 (v := ?_) (by first | exact hF | exact wideFn) (hs9.out _ Be.out) rfl (by kernel_rfl) (by kernel_rfl) (by kernel_rfl) (by kernel_rfl) rfl ?_ (by first | exact fun _ _ _ h => h | exact fun _ _ _ h => hQ2 _ _ _ _ _ h) ?_
                rotate_left
                · intro W hSW
                  simp only [glA, glB, glC]
                  (try dsimp only at hSW)
                  go_simp
                  with_reducible rfl
                (try simp only [glA, glB, glC, Act.put, glD, glE, glF])
                refine wpAnyJ_take 26 (v := ?_) (by first | exact hF | exact wideFn) (hs9.out _ Be.out) rfl (by kernel_rfl) (by kernel_rfl) (by kernel_rfl) (by kernel_rfl) rfl ?_ (by first | exact fun _ _ _ h => h | exact fun _ _ _ h => hQ2 _ _ _ _ _ h) ?_
                rotate_left
                · intro W hSW
                  simp only [glA, glB, glC]
                  (try dsimp only at hSW)
                  go_simp
                  with_reducible rfl
                (try simp only [glA, glB, glC, Act.put, glD, glE, glF])
                refine wpAnyJ_take 27 (v := ?_) (by first | exact hF | exact wideFn) (hs9.out _ Be.out) rfl (by kernel_rfl) (by kernel_rfl) (by kernel_rfl) (by kernel_rfl) rfl ?_ (by first | exact fun _ _ _ h => h | exact fun _ _ _ h => hQ2 _ _ _ _ _ h) ?_
                rotate_left
                · intro W hSW
                  simp only [glA, glB, glC]
                  (try dsimp only at hSW)
                  go_simp
                  with_reducible rfl
                (try simp only [glA, glB, glC, Act.put, glD, glE, glF])
                refine wpAnyJ_take 28 (v := ?_) (by first | exact hF | exact wideFn) (hs9.out _ Be.out) rfl (by kernel_rfl) (by kernel_rfl) (by kernel_rfl) (by kernel_rfl) rfl ?_ (by first | exact fun _ _ _ h => h | exact fun _ _ _ h => hQ2 _ _ _ _ _ h) ?_
                rotate_left
                · intro W hSW
                  simp only [glA, glB, glC]
                  (try dsimp only at hSW)
                  go_simp
                  with_reducible rfl
                (try simp only [glA, glB, glC, Act.put, glD, glE, glF])
                refine wpAnyJ_take 29 (v := ?_) (by first | exact hF | exact wideFn) (hs9.out _ Be.out) rfl (by kernel_rfl) (by kernel_rfl) (by kernel_rfl) (by kernel_rfl) rfl ?_ (by first | exact fun _ _ _ h => h | exact fun _ _ _ h => hQ2 _ _ _ _ _ h) ?_
                rotate_left
                · intro W hSW
                  simp only [glA, glB, glC]
                  (try dsimp only at hSW)
                  go_simp
                  with_reducible rfl
                (try simp only [glA, glB, glC, Act.put, glD, glE, glF])
                refine wpAnyJ_take 30 (v := ?_) (by first | exact hF | exact wideFn) (hs9.out _ Be.out) rfl (by kernel_rfl) (by kernel_rfl) (by kernel_rfl) (by kernel_rfl) rfl ?_ (by first | exact fun _ _ _ h => h | exact fun _ _ _ h => hQ2 _ _ _ _ _ h) ?_
                rotate_left
                · intro W hSW
                  simp only [glA, glB, glC]
                  (try dsimp only at hSW)
                  go_simp
                  with_reducible rfl
                (try simp only [glA, glB, glC, Act.put, glD, glE, glF])
                obtain ⟨mn, hmn⟩ : ∃ mn, min (min t1 t2) t3 = mn := ⟨_, rfl⟩
                have hmin : (if (t3 : Int) < (if t2 < t1 then (t2 : Int) else (t1 : Int)) then (t3 : Int) else if t2 < t1 then (t2 : Int) else (t1 : Int)) = (mn : Int) := by
                  rw [← hmn]
                  by_cases c1 : t2 < t1
                  · rw [if_pos c1]
                    by_cases c2 : (t3 : Int) < (t2 : Int)
                    · rw [if_pos c2]; omega
                    · rw [if_neg c2]; omega
                  · rw [if_neg c1]
                    by_cases c2 : (t3 : Int) < (t1 : Int)
                    · rw [if_pos c2]; omega
                    · rw [if_neg c2]; omega
                rw [hmin]
                have w5 : IntKind.i64.wrap (1 + (mn : Int)) = 1 + (mn : Int) := IntWalk.i64_in _ (by omega)
                clear hmin
                refine wpAnyJ_take 31 (v := ?_) (by first | exact hF | exact wideFn) (hs9.out _ Be.out) rfl (by kernel_rfl) (by kernel_rfl) (by kernel_rfl) (by kernel_rfl) rfl ?_ (by first | exact fun _ _ _ h => h | exact fun _ _ _ h => hQ2 _ _ _ _ _ h) ?_
                rotate_left
                · intro W hSW
                  simp only [glA, glB, glC]
                  (try dsimp only at hSW)
                  go_simp
                  with_reducible rfl
                (try simp only [glA, glB, glC, Act.put, glD, glE, glF])
                refine wpAnyJ_take 32 (v := ?_) (by first | exact hF | exact wideFn) (hs9.out _ Be.out) rfl (by kernel_rfl) (by kernel_rfl) (by kernel_rfl) (by kernel_rfl) rfl ?_ (by first | exact fun _ _ _ h => h | exact fun _ _ _ h => hQ2 _ _ _ _ _ h) ?_
                rotate_left
                · intro W hSW
                  simp only [glA, glB, glC]
                  (try dsimp only at hSW)
                  go_simp
                  with_reducible rfl
                (try simp only [glA, glB, glC, Act.put, glD, glE, glF])
                clear wi1 ii1 ii2 ii3 wj1 jj1 jj2 jj3 w5
                obtain ⟨lg', cg', fg'⟩ := hgg.out _ Be.out
                refine wpAnyJ_one 33 rfl (by kernel_rfl) (fun K hK => ?_)
                simp only [glA, glB, glC]
                go_simp
                refine hK.out _ _ (fun h => absurd h (by rw [show lastOp _ _ _ = true from by kernel_rfl]; simp)) ?_
                clear hK K
                (try simp only [glA, glB, glC, Act.put, glD, glE, glF])
                refine wpAnyJ_done (by kernel_rfl) ?_
                have HN := hide (HQ.out.put Be.out hjm (1 + (mn : Int)) (by rw [HTV.out, hmn]; omega))
                clear lg' cg' fg' hmn
                go_wp2_with fail
                go_roundw
                case rel => exact ⟨j, (j : Int) - 1, rfl, rfl, by omega, HN⟩
                case measure => first | (simp [intOf]; omega) | simp [intOf]
                -- END4
end Go.Proofs.YtfbnpiafoaoddaaDoor
/- School: lists of edits of one's own; what align keeps. -/
namespace Go.Proofs.YtfbnpiafoaoddaaDoor
open Go Go.RowKit Go.Shelf
set_option maxHeartbeats 2000000
set_option maxRecDepth 100000
theorem info_edit : (Tryd.prog.info? 53).map (fun i => (i.zero, i.size, i.bytes)) = some (some (.agg #[.int .i64 0, .int .i64 0, .string noW, .string noW]), 4, 48) := by kernel_rfl
def edC (e : Ed) : List Value := [.int .i64 e.ki, .int .i64 e.at_, .string e.old, .string e.new]
def cellsE (l : List Ed) : List Value := l.flatMap edC
theorem cellsE_append (l m : List Ed) : cellsE (l ++ m) = cellsE l ++ cellsE m := by simp [cellsE, List.flatMap_append]
theorem cellsE_len (l : List Ed) : (cellsE l).length = l.length * 4 := by
  induction l with
  | nil => rfl
  | cons x l ih => show (edC x ++ cellsE l).length = _; rw [List.length_append, ih, List.length_cons]; show 4 + _ = _; omega
theorem cellsE_one (l : List Ed) : ∀ u ∈ cellsE l, u.oneCell' = true := by
  intro u hu
  unfold cellsE at hu
  obtain ⟨e, -, he⟩ := List.mem_flatMap.1 hu
  simp only [edC, List.mem_cons, List.not_mem_nil, or_false] at he
  rcases he with rfl | rfl | rfl | rfl <;> rfl
/-- an own list of edits -/
def OwnE (W : World) (n0 : Nat) (v : Value) (l : List Ed) : Prop := W.ownsRow n0 53 4 v l.length (cellsE l)
theorem cell_four_new (w : World) (a b c d : Value) (t : TypeId) : ∀ (j : Nat) (u : Value), [a, b, c, d][j]? = some u → (w.alloc (.cells #[a, b, c, d] t)).cell? ((⟨w.heap.size, 0, none⟩ : Addr).add j) = some u := by
  intro j u h
  have hB := Blk.new w t #[a, b, c, d]
  match j, h with
  | 0, h => simpa [Addr.add] using (show (w.alloc (.cells #[a, b, c, d] t)).cell? ⟨w.heap.size, 0, none⟩ = some u by rw [hB.cell]; simpa using h)
  | 1, h => simpa [Addr.add] using (show (w.alloc (.cells #[a, b, c, d] t)).cell? ⟨w.heap.size, 1, none⟩ = some u by rw [hB.cell]; simpa using h)
  | 2, h => simpa [Addr.add] using (show (w.alloc (.cells #[a, b, c, d] t)).cell? ⟨w.heap.size, 2, none⟩ = some u by rw [hB.cell]; simpa using h)
  | 3, h => simpa [Addr.add] using (show (w.alloc (.cells #[a, b, c, d] t)).cell? ⟨w.heap.size, 3, none⟩ = some u by rw [hB.cell]; simpa using h)
  | j + 4, h => simp at h
/-- an edit is appended -/
theorem OwnE.push {W : World} {base : Nat} {v : Value} {l : List Ed} (h : OwnE W base v l) (e : Ed) (hl : l.length ≤ 1000000) (hb : base ≤ W.heap.size) :
    ∃ A c w', (Builtin.append_ #[45, 45] 45 #[v, .slice (some ⟨W.heap.size, 0, none⟩) 1 1]).run Tryd.prog (W.alloc (.cells #[.int .i64 e.ki, .int .i64 e.at_, .string e.old, .string e.new] 53)) = .ok (.slice A (l.length + 1) c) w' ∧
      OwnE w' base (.slice A (l.length + 1) c) (l ++ [e]) ∧ (W.alloc (.cells #[.int .i64 e.ki, .int .i64 e.at_, .string e.old, .string e.new] 53)).grownBy w' v.ownBlock := by
  obtain ⟨i0, hi, hz0, hz1, hz2⟩ := info_parts info_edit
  obtain ⟨v', w', hr, h2, h3, -⟩ := run_append_own (P := Tryd.prog) (w := W.alloc (.cells #[.int .i64 e.ki, .int .i64 e.at_, .string e.old, .string e.new] 53)) base 45 45 53 i0 _ 4 48 Tryd.underlying45 hi hz0 hz1 hz2 rfl (by decide) v l.length (cellsE l) (World.ownsRow.alloc h _)
    ⟨W.heap.size, 0, none⟩ 1 1 (edC e) rfl (cell_four_new _ _ _ _ _ _) (by have := cellsE_one [e]; simpa [cellsE] using this) (by unfold maxLen; omega) (by omega) (by simp; omega)
  obtain ⟨A, c, rfl⟩ := own_shape h2
  refine ⟨A, c, w', hr, ?_, h3⟩
  unfold OwnE
  rw [cellsE_append, List.length_append]
  simpa [cellsE] using h2
theorem OwnE.ext {W W' : World} {n0 : Nat} {v : Value} {l : List Ed} (h : OwnE W n0 v l) (hb : Below W.heap.size W W') : OwnE W' n0 v l := ownBelow h hb
/-- the table stays where an own list of edits grows -/
theorem DT.grownE {w W W' : World} {n m r D : Nat} {g : Nat → Nat} {T : Nat → Nat → Nat} {v : Value} {l : List Ed} {n0 : Nat} (h : DT w n m r D g T W) (ho : OwnE W n0 v l) (hg : W.grownBy W' v.ownBlock) (h0 : w.heap.size ≤ n0) : DT w n m r D g T W' :=
  ⟨h.below.grown hg h.below.size (fun j hj => by have := (World.ownsRow.lt ho j hj).1; omega), h.blk.grown hg (fun e => own_blk_ne ho h.blk (by decide) e.symm), fun k h1 h2 => (h.rows k h1 h2).grown hg (fun e => own_blk_ne ho (h.rows k h1 h2) (by decide) e.symm), h.lo, h.hi⟩
/-- at the head of a round of align -/
structure AI (w : World) (a b : List Wd) (D : Nat) (g : Nat → Nat) (i j : Nat) (l : List Ed) (v : Value) (W : World) : Prop where
  dt : DT w a.length b.length 0 D g (dsT a b) W
  own : OwnE W w.heap.size v l
  sum : l ++ alL (a.drop i) i (b.drop j) = alL a 0 b
  len : l.length ≤ i + j
section
variable {w W W' : World} {a b : List Wd} {D : Nat} {g : Nat → Nat} {i j : Nat} {l : List Ed} {v : Value}
theorem AI.ext (h : AI w a b D g i j l v W) (hb : Below W.heap.size W W') : AI w a b D g i j l v W' := ⟨h.dt.ext hb, h.own.ext hb, h.sum, h.len⟩
/-- nothing is appended: both go on -/
theorem AI.skip (h : AI w a b D g i j l v W) (hi : i < a.length) (hj : j < b.length) (e : a.getD i noW = b.getD j noW) : AI w a b D g (i + 1) (j + 1) l v W := by
  have hs := h.sum
  have hl := h.len
  rw [drop_cons hi, drop_cons hj, alL_cons, if_pos e] at hs
  exact ⟨h.dt, h.own, hs, by omega⟩
theorem AI.put (h : AI w a b D g i j l v W) (hb : Below W.heap.size W W') (e : Ed) (i' j' : Nat) (hs : alL (a.drop i) i (b.drop j) = e :: alL (a.drop i') i' (b.drop j')) (hl : l.length + 1 ≤ i' + j') (hm : l.length ≤ 1000000) :
    ∃ A c w', (Builtin.append_ #[45, 45] 45 #[v, .slice (some ⟨W'.heap.size, 0, none⟩) 1 1]).run Tryd.prog (W'.alloc (.cells #[.int .i64 e.ki, .int .i64 e.at_, .string e.old, .string e.new] 53)) = .ok (.slice A (l.length + 1) c) w' ∧ AI w a b D g i' j' (l ++ [e]) (.slice A (l.length + 1) c) w' := by
  have h0 := h.ext hb
  obtain ⟨A, c, w', hr, ho, hg⟩ := h0.own.push e hm (by have := h0.dt.below.size; omega)
  refine ⟨A, c, w', hr, (h0.dt.ext ((Below.refl _ _).alloc (Nat.le_refl _) (.cells #[.int .i64 e.ki, .int .i64 e.at_, .string e.old, .string e.new] 53))).grownE (h0.own.ext ((Below.refl _ _).alloc (Nat.le_refl _) (.cells #[.int .i64 e.ki, .int .i64 e.at_, .string e.old, .string e.new] 53))) hg (Nat.le_refl _), ho, ?_, by rw [List.length_append]; exact hl⟩
  rw [List.append_assoc, List.singleton_append, ← hs]; exact h.sum
end
end Go.Proofs.YtfbnpiafoaoddaaDoor
