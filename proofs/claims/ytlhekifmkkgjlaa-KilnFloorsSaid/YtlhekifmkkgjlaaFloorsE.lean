/- Stable sorting, walked: the insertion sort. -/
import Derived.Test.YtlhekifmkkgjlaaFloorsD
import Derived.Test.YtlhekifmkkgjlaaRows
import Derived.ProofKit
import Derived.OpenShut
import Derived.Carry
import Derived.ChangeSame
import Derived.Deep.SlicePairs
import Derived.ChangeSlices
import Derived.Deep.CutBlock
import Derived.Deep.DeepCutAuto
set_option linter.unusedSimpArgs false
set_option linter.unusedVariables false
set_option linter.unnecessarySimpa false
namespace Go.Proofs.Ytlhekifmkkgjlaa
open Go Go.RowKit Go.Shelf
set_option maxHeartbeats 4000000
set_option maxRecDepth 100000
theorem insSort_any {lt : Int × Int → Int × Int → Prop} (O : Ord2 bkLess lt) (g n cap a b : Nat) (F0 : Nat → Int × Int) (w : World) (hr : SBR w g n F0) (hab : a ≤ b) (hb : b ≤ n) (hn : n ≤ 1000000) (hp : ∀ x y, a ≤ x → x < y → y < b → Ahead bkLess lt (F0 x) (F0 y)) :
    Calls Try.prog 118 #[.slice (some ⟨g, 0, none⟩) n cap, .int .i64 a, .int .i64 b, .func (.func 96) #[] #[]] w fun e w' => e = .returned (.tuple #[]) ∧ ∃ f', SBR w' g n f' ∧ MQ lt F0 f' a b ∧ w.grownBy w' (some g) := by
  have HR0 := hide hr
  have HP := hide hp
  have eg := (enters_of Try.func96 (by kernel_rfl) rfl)
  clear hr hp
  have HN : Hid (∃ i : Nat, i = a + 1) := hide ⟨_, rfl⟩
  obtain ⟨i0, hi0⟩ := HN.out
  have w1 : IntKind.i64.wrap ((a : Int) + 1) = (i0 : Int) := by rw [IntWalk.i64_in _ (by omega)]; omega
  have HI0 := hide hi0
  clear hi0 HN
  go_enter Try.func118, Try.ntmps118
  go_wp2_with fail
  clear w1
  go_loopw [8] (fun x wr => ∃ (i : Nat) (F : Nat → Int × Int), x = .int .i64 i ∧ a + 1 ≤ i ∧ (i ≤ b ∨ b = a) ∧ Hid (SBR wr g n F) ∧ Hid (MQ lt F0 F a (min i b)) ∧ Hid (w.grownBy wr (some g))) (fun x _ => b - (intOf x).toNat)
  case atStart =>
    have e := HI0.out
    refine ⟨i0, F0, rfl, by omega, by omega, HR0, hide ?_, hide (World.grownBy.refl w _)⟩
    by_cases hz : b = a
    · rw [show min i0 b = a by omega]; exact ins_none F0 a
    · rw [show min i0 b = a + 1 by omega]; exact ins_one F0 a
  case round =>
    obtain ⟨i, F, rfl, hai, hib, HR, HM, HG⟩ := hrel
    by_cases hlt : i < b
    · have HM' : Hid (MQ lt F0 F a i) := hide (by have := HM.out; rwa [show min i b = i by omega] at this)
      clear HM
      have hlt' : (i : Int) < (b : Int) := by omega
      go_wp2_with fail
      obtain ⟨wo, hwo⟩ : ∃ wo, wo = wr := ⟨_, rfl⟩
      subst hwo
      go_loopw [9] (fun x wq => ∃ j : Nat, x = .int .i64 j ∧ a ≤ j ∧ j ≤ i ∧ Hid (j < i → bkLess (F i) (F j) = true) ∧ Hid (SBR wq g n (rotF F j i (i + 1))) ∧ Hid (w.grownBy wq (some g))) (fun x _ => (intOf x).toNat)
      case atStart => exact ⟨i, rfl, by omega, by omega, hide (fun h => absurd h (by omega)), hide (by rw [rot_same]; exact HR.out), HG⟩
      case round =>
        obtain ⟨j, rfl, haj, hji, Q2, HR1, HG1⟩ := hrel
        by_cases hja : a < j
        · -- BEGIN1
          have hja' : (a : Int) < (j : Int) := by omega
          obtain ⟨A, hA⟩ : ∃ A : Nat, A = j := ⟨_, rfl⟩
          obtain ⟨B, hB⟩ : ∃ B : Nat, j = B + 1 := ⟨j - 1, by omega⟩
          have HST := hide (swp_back F (i := i) (j := B) (by omega))
          have HINS := hide (fun (h : bkLess (F i) (F B) = false) => ins_step O HM'.out HP.out hlt haj hji (fun _ => (by rw [show j - 1 = B by omega]; exact h)) Q2.out)
          have HF1 := hide (rot_at F (i := i) (j := j) (by omega))
          have HF2 := hide (rot_before F (i := i) (j := j) (k := B) (by omega))
          have ha : A < n := by omega
          have hb' : B < n := by omega
          have i1 : (0 : Int) ≤ (A : Int) := by omega
          have i2 : (A : Int) < (n : Int) := by omega
          have i3 : (0 : Int) ≤ (B : Int) := by omega
          have i4 : (B : Int) < (n : Int) := by omega
          have w2 : IntKind.i64.wrap ((A : Int) - 1) = (B : Int) := by rw [IntWalk.i64_in _ (by omega)]; omega
          have HKB := hide (show A = B + 1 by omega)
          rw [← hB, ← hA] at HST
          rw [← hA] at HR1 HF1 HF2 HINS hja' ⊢
          have HA := hide hA
          clear hB hA
          generalize rotF F A i (i + 1) = F' at HR1 HST HF1 HF2 HINS
          go_upto_region 4 with fail
          have Bd := hide (Below.refl wr.heap.size wr).drew
          have HSB : Hid (∀ W, Below wr.heap.size wr W → (W.cell? ⟨g, A * 2, none⟩ = some (.int .i64 (F' A).1) ∧ W.cell? ⟨g, A * 2 + 1, none⟩ = some (.int .i64 (F' A).2)) ∧ W.cell? ⟨g, B * 2, none⟩ = some (.int .i64 (F' B).1) ∧ W.cell? ⟨g, B * 2 + 1, none⟩ = some (.int .i64 (F' B).2)) := hide (fun W hW => ⟨(HR1.out.ext hW).cells A ha, (HR1.out.ext hW).cells B hb'⟩)
          refine wp_region_J (fun W : World => (W.cell? ⟨g, A * 2, none⟩ = some (.int .i64 (F' A).1) ∧ W.cell? ⟨g, A * 2 + 1, none⟩ = some (.int .i64 (F' A).2)) ∧ W.cell? ⟨g, B * 2, none⟩ = some (.int .i64 (F' B).1) ∧ W.cell? ⟨g, B * 2 + 1, none⟩ = some (.int .i64 (F' B).2)) (by kernel_rfl) ?_
          generalize wr.drew = wd at Bd ⊢
          refine wpAnyJ_take 0 (v := ?_) (by first | exact hF | exact wideFn) (HSB.out _ Bd.out) rfl (by kernel_rfl) (by kernel_rfl) (by kernel_rfl) (by kernel_rfl) rfl ?_ (by first | exact fun _ _ _ h => h | exact fun _ _ _ h => hQ2 _ _ _ _ _ h) ?_
          rotate_left
          · intro W hSW
            simp only [List.getElem_toArray, List.getElem_cons_zero, List.getElem_cons_succ]
            (try dsimp only at hSW)
            go_simp
            with_reducible rfl
          (try simp only [List.getElem_toArray, List.getElem_cons_zero, List.getElem_cons_succ, Act.put, List.setIfInBounds_toArray, List.set_cons_zero, List.set_cons_succ])
          refine wpAnyJ_take 1 (v := ?_) (by first | exact hF | exact wideFn) (HSB.out _ Bd.out) rfl (by kernel_rfl) (by kernel_rfl) (by kernel_rfl) (by kernel_rfl) rfl ?_ (by first | exact fun _ _ _ h => h | exact fun _ _ _ h => hQ2 _ _ _ _ _ h) ?_
          rotate_left
          · intro W hSW
            simp only [List.getElem_toArray, List.getElem_cons_zero, List.getElem_cons_succ]
            (try dsimp only at hSW)
            go_simp
            with_reducible rfl
          (try simp only [List.getElem_toArray, List.getElem_cons_zero, List.getElem_cons_succ, Act.put, List.setIfInBounds_toArray, List.set_cons_zero, List.set_cons_succ])
          refine wpAnyJ_take 2 (v := ?_) (by first | exact hF | exact wideFn) (HSB.out _ Bd.out) rfl (by kernel_rfl) (by kernel_rfl) (by kernel_rfl) (by kernel_rfl) rfl ?_ (by first | exact fun _ _ _ h => h | exact fun _ _ _ h => hQ2 _ _ _ _ _ h) ?_
          rotate_left
          · intro W hSW
            simp only [List.getElem_toArray, List.getElem_cons_zero, List.getElem_cons_succ]
            (try dsimp only at hSW)
            go_simp
            with_reducible rfl
          (try simp only [List.getElem_toArray, List.getElem_cons_zero, List.getElem_cons_succ, Act.put, List.setIfInBounds_toArray, List.set_cons_zero, List.set_cons_succ])
          refine wpAnyJ_take 3 (v := ?_) (by first | exact hF | exact wideFn) (HSB.out _ Bd.out) rfl (by kernel_rfl) (by kernel_rfl) (by kernel_rfl) (by kernel_rfl) rfl ?_ (by first | exact fun _ _ _ h => h | exact fun _ _ _ h => hQ2 _ _ _ _ _ h) ?_
          rotate_left
          · intro W hSW
            simp only [List.getElem_toArray, List.getElem_cons_zero, List.getElem_cons_succ]
            (try dsimp only at hSW)
            go_simp
            with_reducible rfl
          (try simp only [List.getElem_toArray, List.getElem_cons_zero, List.getElem_cons_succ, Act.put, List.setIfInBounds_toArray, List.set_cons_zero, List.set_cons_succ])
          refine wpAnyJ_take 4 (v := ?_) (by first | exact hF | exact wideFn) (HSB.out _ Bd.out) rfl (by kernel_rfl) (by kernel_rfl) (by kernel_rfl) (by kernel_rfl) rfl ?_ (by first | exact fun _ _ _ h => h | exact fun _ _ _ h => hQ2 _ _ _ _ _ h) ?_
          rotate_left
          · intro W hSW
            simp only [List.getElem_toArray, List.getElem_cons_zero, List.getElem_cons_succ]
            (try dsimp only at hSW)
            go_simp
            with_reducible rfl
          (try simp only [List.getElem_toArray, List.getElem_cons_zero, List.getElem_cons_succ, Act.put, List.setIfInBounds_toArray, List.set_cons_zero, List.set_cons_succ])
          refine wpAnyJ_take 5 (v := ?_) (by first | exact hF | exact wideFn) (HSB.out _ Bd.out) rfl (by kernel_rfl) (by kernel_rfl) (by kernel_rfl) (by kernel_rfl) rfl ?_ (by first | exact fun _ _ _ h => h | exact fun _ _ _ h => hQ2 _ _ _ _ _ h) ?_
          rotate_left
          · intro W hSW
            simp only [List.getElem_toArray, List.getElem_cons_zero, List.getElem_cons_succ]
            (try dsimp only at hSW)
            go_simp
            with_reducible rfl
          (try simp only [List.getElem_toArray, List.getElem_cons_zero, List.getElem_cons_succ, Act.put, List.setIfInBounds_toArray, List.set_cons_zero, List.set_cons_succ])
          refine wpAnyJ_take 6 (v := ?_) (by first | exact hF | exact wideFn) (HSB.out _ Bd.out) rfl (by kernel_rfl) (by kernel_rfl) (by kernel_rfl) (by kernel_rfl) rfl ?_ (by first | exact fun _ _ _ h => h | exact fun _ _ _ h => hQ2 _ _ _ _ _ h) ?_
          rotate_left
          · intro W hSW
            simp only [List.getElem_toArray, List.getElem_cons_zero, List.getElem_cons_succ]
            (try dsimp only at hSW)
            go_simp
            with_reducible rfl
          (try simp only [List.getElem_toArray, List.getElem_cons_zero, List.getElem_cons_succ, Act.put, List.setIfInBounds_toArray, List.set_cons_zero, List.set_cons_succ])
          refine wpAnyJ_take 7 (v := ?_) (by first | exact hF | exact wideFn) (HSB.out _ Bd.out) rfl (by kernel_rfl) (by kernel_rfl) (by kernel_rfl) (by kernel_rfl) rfl ?_ (by first | exact fun _ _ _ h => h | exact fun _ _ _ h => hQ2 _ _ _ _ _ h) ?_
          rotate_left
          · intro W hSW
            simp only [List.getElem_toArray, List.getElem_cons_zero, List.getElem_cons_succ]
            (try dsimp only at hSW)
            go_simp
            with_reducible rfl
          (try simp only [List.getElem_toArray, List.getElem_cons_zero, List.getElem_cons_succ, Act.put, List.setIfInBounds_toArray, List.set_cons_zero, List.set_cons_succ])
          refine wpAnyJ_take 8 (v := ?_) (by first | exact hF | exact wideFn) (HSB.out _ Bd.out) rfl (by kernel_rfl) (by kernel_rfl) (by kernel_rfl) (by kernel_rfl) rfl ?_ (by first | exact fun _ _ _ h => h | exact fun _ _ _ h => hQ2 _ _ _ _ _ h) ?_
          rotate_left
          · intro W hSW
            simp only [List.getElem_toArray, List.getElem_cons_zero, List.getElem_cons_succ]
            (try dsimp only at hSW)
            go_simp
            with_reducible rfl
          (try simp only [List.getElem_toArray, List.getElem_cons_zero, List.getElem_cons_succ, Act.put, List.setIfInBounds_toArray, List.set_cons_zero, List.set_cons_succ])
          refine wpAnyJ_take 9 (v := ?_) (by first | exact hF | exact wideFn) (HSB.out _ Bd.out) rfl (by kernel_rfl) (by kernel_rfl) (by kernel_rfl) (by kernel_rfl) rfl ?_ (by first | exact fun _ _ _ h => h | exact fun _ _ _ h => hQ2 _ _ _ _ _ h) ?_
          rotate_left
          · intro W hSW
            simp only [List.getElem_toArray, List.getElem_cons_zero, List.getElem_cons_succ]
            (try dsimp only at hSW)
            go_simp
            with_reducible rfl
          (try simp only [List.getElem_toArray, List.getElem_cons_zero, List.getElem_cons_succ, Act.put, List.setIfInBounds_toArray, List.set_cons_zero, List.set_cons_succ])
          refine wpAnyJ_take 10 (v := ?_) (by first | exact hF | exact wideFn) (HSB.out _ Bd.out) rfl (by kernel_rfl) (by kernel_rfl) (by kernel_rfl) (by kernel_rfl) rfl ?_ (by first | exact fun _ _ _ h => h | exact fun _ _ _ h => hQ2 _ _ _ _ _ h) ?_
          rotate_left
          · intro W hSW
            simp only [List.getElem_toArray, List.getElem_cons_zero, List.getElem_cons_succ]
            (try dsimp only at hSW)
            go_simp
            with_reducible rfl
          (try simp only [List.getElem_toArray, List.getElem_cons_zero, List.getElem_cons_succ, Act.put, List.setIfInBounds_toArray, List.set_cons_zero, List.set_cons_succ])
          refine wpAnyJ_take 11 (v := ?_) (by first | exact hF | exact wideFn) (HSB.out _ Bd.out) rfl (by kernel_rfl) (by kernel_rfl) (by kernel_rfl) (by kernel_rfl) rfl ?_ (by first | exact fun _ _ _ h => h | exact fun _ _ _ h => hQ2 _ _ _ _ _ h) ?_
          rotate_left
          · intro W hSW
            simp only [List.getElem_toArray, List.getElem_cons_zero, List.getElem_cons_succ]
            (try dsimp only at hSW)
            go_simp
            with_reducible rfl
          (try simp only [List.getElem_toArray, List.getElem_cons_zero, List.getElem_cons_succ, Act.put, List.setIfInBounds_toArray, List.set_cons_zero, List.set_cons_succ])
          refine wpAnyJ_take 12 (v := ?_) (by first | exact hF | exact wideFn) (HSB.out _ Bd.out) rfl (by kernel_rfl) (by kernel_rfl) (by kernel_rfl) (by kernel_rfl) rfl ?_ (by first | exact fun _ _ _ h => h | exact fun _ _ _ h => hQ2 _ _ _ _ _ h) ?_
          rotate_left
          · intro W hSW
            simp only [List.getElem_toArray, List.getElem_cons_zero, List.getElem_cons_succ]
            (try dsimp only at hSW)
            go_simp
            with_reducible rfl
          (try simp only [List.getElem_toArray, List.getElem_cons_zero, List.getElem_cons_succ, Act.put, List.setIfInBounds_toArray, List.set_cons_zero, List.set_cons_succ])
          refine wpAnyJ_take 13 (v := ?_) (by first | exact hF | exact wideFn) (HSB.out _ Bd.out) rfl (by kernel_rfl) (by kernel_rfl) (by kernel_rfl) (by kernel_rfl) rfl ?_ (by first | exact fun _ _ _ h => h | exact fun _ _ _ h => hQ2 _ _ _ _ _ h) ?_
          rotate_left
          · intro W hSW
            simp only [List.getElem_toArray, List.getElem_cons_zero, List.getElem_cons_succ]
            (try dsimp only at hSW)
            go_simp
            with_reducible rfl
          (try simp only [List.getElem_toArray, List.getElem_cons_zero, List.getElem_cons_succ, Act.put, List.setIfInBounds_toArray, List.set_cons_zero, List.set_cons_succ])
          refine wpAnyJ_one 14 rfl (by kernel_rfl) (fun K hK => ?_)
          simp only [List.getElem_toArray, List.getElem_cons_zero, List.getElem_cons_succ]
          go_simp
          refine ⟨trivial, rfl, ?_⟩
          (with_reducible refine (callsIn_wide.2 (free1_any (F' A) (F' B) _)).mono ?_)
          rintro e w5 ⟨rfl, hb5⟩
          have HB5 := hide (Bd.out.trans (hb5.mono Bd.out.size)); clear hb5
          dsimp only
          refine hK.out _ _ (fun _ => HSB.out _ HB5.out) ?_
          clear hK K
          (try simp only [List.getElem_toArray, List.getElem_cons_zero, List.getElem_cons_succ, Act.put, List.setIfInBounds_toArray, List.set_cons_zero, List.set_cons_succ])
          refine wpAnyJ_take 15 (v := ?_) (by first | exact hF | exact wideFn) (HSB.out _ HB5.out) rfl (by kernel_rfl) (by kernel_rfl) (by kernel_rfl) (by kernel_rfl) rfl ?_ (by first | exact fun _ _ _ h => h | exact fun _ _ _ h => hQ2 _ _ _ _ _ h) ?_
          rotate_left
          · intro W hSW
            simp only [List.getElem_toArray, List.getElem_cons_zero, List.getElem_cons_succ]
            (try dsimp only at hSW)
            go_simp
            with_reducible rfl
          (try simp only [List.getElem_toArray, List.getElem_cons_zero, List.getElem_cons_succ, Act.put, List.setIfInBounds_toArray, List.set_cons_zero, List.set_cons_succ])
          refine wpAnyJ_take 16 (v := ?_) (by first | exact hF | exact wideFn) (HSB.out _ HB5.out) rfl (by kernel_rfl) (by kernel_rfl) (by kernel_rfl) (by kernel_rfl) rfl ?_ (by first | exact fun _ _ _ h => h | exact fun _ _ _ h => hQ2 _ _ _ _ _ h) ?_
          rotate_left
          · intro W hSW
            simp only [List.getElem_toArray, List.getElem_cons_zero, List.getElem_cons_succ]
            (try dsimp only at hSW)
            go_simp
            with_reducible rfl
          (try simp only [List.getElem_toArray, List.getElem_cons_zero, List.getElem_cons_succ, Act.put, List.setIfInBounds_toArray, List.set_cons_zero, List.set_cons_succ])
          refine wpAnyJ_done (by kernel_rfl) ?_
          have HR := hide (HR1.out.ext HB5.out)
          have HG := hide (HG1.out.trans (below_grown' HB5.out _))
          generalize hq : decide (wrap64 ((F' B).1 - (F' A).1) < 0) = q
          have hq' : bkLess (F' A) (F' B) = q := hq
          clear hq
          rw [HF1.out, HF2.out] at hq'
          have HL := hide hq'
          clear hq' HR1 HG1 HF1 HF2 HSB Bd HB5
          obtain ⟨wr, hwr⟩ : ∃ wr, wr = w5 := ⟨_, rfl⟩
          subst hwr
          rcases q with _ | _
          · go_wp2_with fail
            go_roundw
            case rel =>
              exact ⟨i + 1, F', by go_num, by omega, by omega, HR, hide (by rw [show min (i + 1) b = i + 1 by omega]; exact HINS.out HL.out), HG⟩
            case measure => simp [intOf]; omega
          · go_upto_region 6 with fail
            have Bd := hide (Below.refl wr.heap.size wr).drew
            have HRd := hide (HR.out.ext Bd.out)
            have HGd := hide (HG.out.trans (below_grown' Bd.out _))
            have HS : Hid ((wr.drew.cell? ⟨g, A * 2, none⟩ = some (.int .i64 (F' A).1) ∧ wr.drew.cell? ⟨g, A * 2 + 1, none⟩ = some (.int .i64 (F' A).2)) ∧ wr.drew.cell? ⟨g, B * 2, none⟩ = some (.int .i64 (F' B).1) ∧ wr.drew.cell? ⟨g, B * 2 + 1, none⟩ = some (.int .i64 (F' B).2)) := hide ⟨(HRd.out.cells A ha), HRd.out.cells B hb'⟩
            refine wp_region_K (pickS [9, 13] (fun W => (W.cell? ⟨g, A * 2, none⟩ = some (.int .i64 (F' A).1) ∧ W.cell? ⟨g, A * 2 + 1, none⟩ = some (.int .i64 (F' A).2)) ∧ W.cell? ⟨g, B * 2, none⟩ = some (.int .i64 (F' B).1) ∧ W.cell? ⟨g, B * 2 + 1, none⟩ = some (.int .i64 (F' B).2)) (fun _ => True)) (by kernel_rfl) ?_
            generalize wr.drew = wd at HRd HGd HS ⊢
            refine wpAnyK_take 0 (v := ?_) (by first | exact hF | exact wideFn) trivial rfl (by kernel_rfl) (by kernel_rfl) (by kernel_rfl) (by kernel_rfl) rfl ?_ (by first | exact fun _ _ _ h => h | exact fun _ _ _ h => hQ2 _ _ _ _ _ h) ?_
            rotate_left
            · intro W hSW
              replace hSW : True := hSW
              simp only [List.getElem_toArray, List.getElem_cons_zero, List.getElem_cons_succ]
              (try dsimp only at hSW)
              go_simp
              with_reducible rfl
            (try simp only [List.getElem_toArray, List.getElem_cons_zero, List.getElem_cons_succ, Act.put, List.setIfInBounds_toArray, List.set_cons_zero, List.set_cons_succ])
            refine wpAnyK_take 1 (v := ?_) (by first | exact hF | exact wideFn) trivial rfl (by kernel_rfl) (by kernel_rfl) (by kernel_rfl) (by kernel_rfl) rfl ?_ (by first | exact fun _ _ _ h => h | exact fun _ _ _ h => hQ2 _ _ _ _ _ h) ?_
            rotate_left
            · intro W hSW
              replace hSW : True := hSW
              simp only [List.getElem_toArray, List.getElem_cons_zero, List.getElem_cons_succ]
              (try dsimp only at hSW)
              go_simp
              with_reducible rfl
            (try simp only [List.getElem_toArray, List.getElem_cons_zero, List.getElem_cons_succ, Act.put, List.setIfInBounds_toArray, List.set_cons_zero, List.set_cons_succ])
            refine wpAnyK_take 2 (v := ?_) (by first | exact hF | exact wideFn) trivial rfl (by kernel_rfl) (by kernel_rfl) (by kernel_rfl) (by kernel_rfl) rfl ?_ (by first | exact fun _ _ _ h => h | exact fun _ _ _ h => hQ2 _ _ _ _ _ h) ?_
            rotate_left
            · intro W hSW
              replace hSW : True := hSW
              simp only [List.getElem_toArray, List.getElem_cons_zero, List.getElem_cons_succ]
              (try dsimp only at hSW)
              go_simp
              with_reducible rfl
            (try simp only [List.getElem_toArray, List.getElem_cons_zero, List.getElem_cons_succ, Act.put, List.setIfInBounds_toArray, List.set_cons_zero, List.set_cons_succ])
            refine wpAnyK_take 3 (v := ?_) (by first | exact hF | exact wideFn) trivial rfl (by kernel_rfl) (by kernel_rfl) (by kernel_rfl) (by kernel_rfl) rfl ?_ (by first | exact fun _ _ _ h => h | exact fun _ _ _ h => hQ2 _ _ _ _ _ h) ?_
            rotate_left
            · intro W hSW
              replace hSW : True := hSW
              simp only [List.getElem_toArray, List.getElem_cons_zero, List.getElem_cons_succ]
              (try dsimp only at hSW)
              go_simp
              with_reducible rfl
            (try simp only [List.getElem_toArray, List.getElem_cons_zero, List.getElem_cons_succ, Act.put, List.setIfInBounds_toArray, List.set_cons_zero, List.set_cons_succ])
            refine wpAnyK_take 4 (v := ?_) (by first | exact hF | exact wideFn) trivial rfl (by kernel_rfl) (by kernel_rfl) (by kernel_rfl) (by kernel_rfl) rfl ?_ (by first | exact fun _ _ _ h => h | exact fun _ _ _ h => hQ2 _ _ _ _ _ h) ?_
            rotate_left
            · intro W hSW
              replace hSW : True := hSW
              simp only [List.getElem_toArray, List.getElem_cons_zero, List.getElem_cons_succ]
              (try dsimp only at hSW)
              go_simp
              with_reducible rfl
            (try simp only [List.getElem_toArray, List.getElem_cons_zero, List.getElem_cons_succ, Act.put, List.setIfInBounds_toArray, List.set_cons_zero, List.set_cons_succ])
            refine wpAnyK_take 5 (v := ?_) (by first | exact hF | exact wideFn) trivial rfl (by kernel_rfl) (by kernel_rfl) (by kernel_rfl) (by kernel_rfl) rfl ?_ (by first | exact fun _ _ _ h => h | exact fun _ _ _ h => hQ2 _ _ _ _ _ h) ?_
            rotate_left
            · intro W hSW
              replace hSW : True := hSW
              simp only [List.getElem_toArray, List.getElem_cons_zero, List.getElem_cons_succ]
              (try dsimp only at hSW)
              go_simp
              with_reducible rfl
            (try simp only [List.getElem_toArray, List.getElem_cons_zero, List.getElem_cons_succ, Act.put, List.setIfInBounds_toArray, List.set_cons_zero, List.set_cons_succ])
            refine wpAnyK_take 6 (v := ?_) (by first | exact hF | exact wideFn) trivial rfl (by kernel_rfl) (by kernel_rfl) (by kernel_rfl) (by kernel_rfl) rfl ?_ (by first | exact fun _ _ _ h => h | exact fun _ _ _ h => hQ2 _ _ _ _ _ h) ?_
            rotate_left
            · intro W hSW
              replace hSW : True := hSW
              simp only [List.getElem_toArray, List.getElem_cons_zero, List.getElem_cons_succ]
              (try dsimp only at hSW)
              go_simp
              with_reducible rfl
            (try simp only [List.getElem_toArray, List.getElem_cons_zero, List.getElem_cons_succ, Act.put, List.setIfInBounds_toArray, List.set_cons_zero, List.set_cons_succ])
            refine wpAnyK_take 7 (v := ?_) (by first | exact hF | exact wideFn) trivial rfl (by kernel_rfl) (by kernel_rfl) (by kernel_rfl) (by kernel_rfl) rfl ?_ (by first | exact fun _ _ _ h => h | exact fun _ _ _ h => hQ2 _ _ _ _ _ h) ?_
            rotate_left
            · intro W hSW
              replace hSW : True := hSW
              simp only [List.getElem_toArray, List.getElem_cons_zero, List.getElem_cons_succ]
              (try dsimp only at hSW)
              go_simp
              with_reducible rfl
            (try simp only [List.getElem_toArray, List.getElem_cons_zero, List.getElem_cons_succ, Act.put, List.setIfInBounds_toArray, List.set_cons_zero, List.set_cons_succ])
            refine wpAnyK_take 8 (v := ?_) (by first | exact hF | exact wideFn) trivial rfl (by kernel_rfl) (by kernel_rfl) (by kernel_rfl) (by kernel_rfl) rfl ?_ (by first | exact fun _ _ _ h => h | exact fun _ _ _ h => hQ2 _ _ _ _ _ h) ?_
            rotate_left
            · intro W hSW
              replace hSW : True := hSW
              simp only [List.getElem_toArray, List.getElem_cons_zero, List.getElem_cons_succ]
              (try dsimp only at hSW)
              go_simp
              with_reducible rfl
            (try simp only [List.getElem_toArray, List.getElem_cons_zero, List.getElem_cons_succ, Act.put, List.setIfInBounds_toArray, List.set_cons_zero, List.set_cons_succ])
            refine wpAnyK_take 9 (v := ?_) (by first | exact hF | exact wideFn) (And.intro HS.out trivial) rfl (by kernel_rfl) (by kernel_rfl) (by kernel_rfl) (by kernel_rfl) rfl ?_ (by first | exact fun _ _ _ h => h | exact fun _ _ _ h => hQ2 _ _ _ _ _ h) ?_
            rotate_left
            · intro W hSW
              replace hSW : (((W.cell? ⟨g, A * 2, none⟩ = some (.int .i64 (F' A).1) ∧ W.cell? ⟨g, A * 2 + 1, none⟩ = some (.int .i64 (F' A).2)) ∧ W.cell? ⟨g, B * 2, none⟩ = some (.int .i64 (F' B).1) ∧ W.cell? ⟨g, B * 2 + 1, none⟩ = some (.int .i64 (F' B).2)) ∧ True) := hSW
              simp only [List.getElem_toArray, List.getElem_cons_zero, List.getElem_cons_succ]
              (try dsimp only at hSW)
              go_simp
              with_reducible rfl
            (try simp only [List.getElem_toArray, List.getElem_cons_zero, List.getElem_cons_succ, Act.put, List.setIfInBounds_toArray, List.set_cons_zero, List.set_cons_succ])
            refine wpAnyK_take 10 (v := ?_) (by first | exact hF | exact wideFn) trivial rfl (by kernel_rfl) (by kernel_rfl) (by kernel_rfl) (by kernel_rfl) rfl ?_ (by first | exact fun _ _ _ h => h | exact fun _ _ _ h => hQ2 _ _ _ _ _ h) ?_
            rotate_left
            · intro W hSW
              replace hSW : True := hSW
              simp only [List.getElem_toArray, List.getElem_cons_zero, List.getElem_cons_succ]
              (try dsimp only at hSW)
              go_simp
              with_reducible rfl
            (try simp only [List.getElem_toArray, List.getElem_cons_zero, List.getElem_cons_succ, Act.put, List.setIfInBounds_toArray, List.set_cons_zero, List.set_cons_succ])
            refine wpAnyK_take 11 (v := ?_) (by first | exact hF | exact wideFn) trivial rfl (by kernel_rfl) (by kernel_rfl) (by kernel_rfl) (by kernel_rfl) rfl ?_ (by first | exact fun _ _ _ h => h | exact fun _ _ _ h => hQ2 _ _ _ _ _ h) ?_
            rotate_left
            · intro W hSW
              replace hSW : True := hSW
              simp only [List.getElem_toArray, List.getElem_cons_zero, List.getElem_cons_succ]
              (try dsimp only at hSW)
              go_simp
              with_reducible rfl
            (try simp only [List.getElem_toArray, List.getElem_cons_zero, List.getElem_cons_succ, Act.put, List.setIfInBounds_toArray, List.set_cons_zero, List.set_cons_succ])
            refine wpAnyK_take 12 (v := ?_) (by first | exact hF | exact wideFn) trivial rfl (by kernel_rfl) (by kernel_rfl) (by kernel_rfl) (by kernel_rfl) rfl ?_ (by first | exact fun _ _ _ h => h | exact fun _ _ _ h => hQ2 _ _ _ _ _ h) ?_
            rotate_left
            · intro W hSW
              replace hSW : True := hSW
              simp only [List.getElem_toArray, List.getElem_cons_zero, List.getElem_cons_succ]
              (try dsimp only at hSW)
              go_simp
              with_reducible rfl
            (try simp only [List.getElem_toArray, List.getElem_cons_zero, List.getElem_cons_succ, Act.put, List.setIfInBounds_toArray, List.set_cons_zero, List.set_cons_succ])
            refine wpAnyK_take 13 (v := ?_) (by first | exact hF | exact wideFn) (And.intro HS.out trivial) rfl (by kernel_rfl) (by kernel_rfl) (by kernel_rfl) (by kernel_rfl) rfl ?_ (by first | exact fun _ _ _ h => h | exact fun _ _ _ h => hQ2 _ _ _ _ _ h) ?_
            rotate_left
            · intro W hSW
              replace hSW : (((W.cell? ⟨g, A * 2, none⟩ = some (.int .i64 (F' A).1) ∧ W.cell? ⟨g, A * 2 + 1, none⟩ = some (.int .i64 (F' A).2)) ∧ W.cell? ⟨g, B * 2, none⟩ = some (.int .i64 (F' B).1) ∧ W.cell? ⟨g, B * 2 + 1, none⟩ = some (.int .i64 (F' B).2)) ∧ True) := hSW
              simp only [List.getElem_toArray, List.getElem_cons_zero, List.getElem_cons_succ]
              (try dsimp only at hSW)
              go_simp
              with_reducible rfl
            (try simp only [List.getElem_toArray, List.getElem_cons_zero, List.getElem_cons_succ, Act.put, List.setIfInBounds_toArray, List.set_cons_zero, List.set_cons_succ])
            refine wpAnyK_take 14 (v := ?_) (by first | exact hF | exact wideFn) trivial rfl (by kernel_rfl) (by kernel_rfl) (by kernel_rfl) (by kernel_rfl) rfl ?_ (by first | exact fun _ _ _ h => h | exact fun _ _ _ h => hQ2 _ _ _ _ _ h) ?_
            rotate_left
            · intro W hSW
              replace hSW : True := hSW
              simp only [List.getElem_toArray, List.getElem_cons_zero, List.getElem_cons_succ]
              (try dsimp only at hSW)
              go_simp
              with_reducible rfl
            (try simp only [List.getElem_toArray, List.getElem_cons_zero, List.getElem_cons_succ, Act.put, List.setIfInBounds_toArray, List.set_cons_zero, List.set_cons_succ])
            obtain ⟨p0, p1, p2, p3, p4⟩ := HRd.out.at_ ha
            have HR1 := hide (HRd.out.put ha (F' B))
            have HG1 := hide (SBR.grow HGd.out A (F' B))
            refine wpAnyK_one 15 rfl (by kernel_rfl) (fun K hK => ?_)
            simp only [List.getElem_toArray, List.getElem_cons_zero, List.getElem_cons_succ]
            go_simp
            refine hK.out _ _ (.inr (pickS_need (by kernel_rfl) trivial)) ?_
            clear hK K
            (try simp only [List.getElem_toArray, List.getElem_cons_zero, List.getElem_cons_succ, Act.put, List.setIfInBounds_toArray, List.set_cons_zero, List.set_cons_succ])
            clear p0 p1 p2 p3 p4
            generalize ((wd.setCell ⟨g, A * 2, none⟩ (.int .i64 (F' B).1)).setCell ⟨g, A * 2 + 1, none⟩ (.int .i64 (F' B).2)) = w1 at HR1 HG1 ⊢
            have HR2 := hide (HR1.out.put hb' (F' A))
            have HG2 := hide (SBR.grow HG1.out B (F' A))
            rw [swp_upd, HST.out] at HR2
            obtain ⟨p0, p1, p2, p3, p4⟩ := HR1.out.at_ hb'
            refine wpAnyK_take 16 (v := ?_) (by first | exact hF | exact wideFn) trivial rfl (by kernel_rfl) (by kernel_rfl) (by kernel_rfl) (by kernel_rfl) rfl ?_ (by first | exact fun _ _ _ h => h | exact fun _ _ _ h => hQ2 _ _ _ _ _ h) ?_
            rotate_left
            · intro W hSW
              replace hSW : True := hSW
              simp only [List.getElem_toArray, List.getElem_cons_zero, List.getElem_cons_succ]
              (try dsimp only at hSW)
              go_simp
              with_reducible rfl
            (try simp only [List.getElem_toArray, List.getElem_cons_zero, List.getElem_cons_succ, Act.put, List.setIfInBounds_toArray, List.set_cons_zero, List.set_cons_succ])
            refine wpAnyK_one 17 rfl (by kernel_rfl) (fun K hK => ?_)
            simp only [List.getElem_toArray, List.getElem_cons_zero, List.getElem_cons_succ]
            go_simp
            refine hK.out _ _ (.inr (pickS_no (by kernel_rfl))) ?_
            clear hK K
            (try simp only [List.getElem_toArray, List.getElem_cons_zero, List.getElem_cons_succ, Act.put, List.setIfInBounds_toArray, List.set_cons_zero, List.set_cons_succ])
            refine wpAnyK_done (by kernel_rfl) ?_
            clear p0 p1 p2 p3 p4
            generalize ((w1.setCell ⟨g, B * 2, none⟩ (.int .i64 (F' A).1)).setCell ⟨g, B * 2 + 1, none⟩ (.int .i64 (F' A).2)) = w2 at HR2 HG2 ⊢
            go_wp2_with fail
            go_roundw
            case rel => exact ⟨B, rfl, by have := HKB.out; have := HA.out; omega, by have := HKB.out; have := HA.out; omega, hide (fun _ => HL.out), HR2, HG2⟩
            case measure => have := HKB.out; have := HA.out; simp [intOf]; omega
          -- END1
        · -- BEGIN2
          obtain rfl : a = j := by omega
          go_upto_region 4 with fail
          have Bd := hide (Below.refl wr.heap.size wr).drew
          refine wp_region_J (fun W : World => True) (by kernel_rfl) ?_
          generalize wr.drew = wd at Bd ⊢
          refine wpAnyJ_take 0 (v := ?_) (by first | exact hF | exact wideFn) trivial rfl (by kernel_rfl) (by kernel_rfl) (by kernel_rfl) (by kernel_rfl) rfl ?_ (by first | exact fun _ _ _ h => h | exact fun _ _ _ h => hQ2 _ _ _ _ _ h) ?_
          rotate_left
          · intro W hSW
            simp only [List.getElem_toArray, List.getElem_cons_zero, List.getElem_cons_succ]
            (try dsimp only at hSW)
            go_simp
            with_reducible rfl
          (try simp only [List.getElem_toArray, List.getElem_cons_zero, List.getElem_cons_succ, Act.put, List.setIfInBounds_toArray, List.set_cons_zero, List.set_cons_succ])
          refine wpAnyJ_take 1 (v := ?_) (by first | exact hF | exact wideFn) trivial rfl (by kernel_rfl) (by kernel_rfl) (by kernel_rfl) (by kernel_rfl) rfl ?_ (by first | exact fun _ _ _ h => h | exact fun _ _ _ h => hQ2 _ _ _ _ _ h) ?_
          rotate_left
          · intro W hSW
            simp only [List.getElem_toArray, List.getElem_cons_zero, List.getElem_cons_succ]
            (try dsimp only at hSW)
            go_simp
            with_reducible rfl
          (try simp only [List.getElem_toArray, List.getElem_cons_zero, List.getElem_cons_succ, Act.put, List.setIfInBounds_toArray, List.set_cons_zero, List.set_cons_succ])
          refine wpAnyJ_take 2 (v := ?_) (by first | exact hF | exact wideFn) trivial rfl (by kernel_rfl) (by kernel_rfl) (by kernel_rfl) (by kernel_rfl) rfl ?_ (by first | exact fun _ _ _ h => h | exact fun _ _ _ h => hQ2 _ _ _ _ _ h) ?_
          rotate_left
          · intro W hSW
            simp only [List.getElem_toArray, List.getElem_cons_zero, List.getElem_cons_succ]
            (try dsimp only at hSW)
            go_simp
            with_reducible rfl
          (try simp only [List.getElem_toArray, List.getElem_cons_zero, List.getElem_cons_succ, Act.put, List.setIfInBounds_toArray, List.set_cons_zero, List.set_cons_succ])
          refine wpAnyJ_take 3 (v := ?_) (by first | exact hF | exact wideFn) trivial rfl (by kernel_rfl) (by kernel_rfl) (by kernel_rfl) (by kernel_rfl) rfl ?_ (by first | exact fun _ _ _ h => h | exact fun _ _ _ h => hQ2 _ _ _ _ _ h) ?_
          rotate_left
          · intro W hSW
            simp only [List.getElem_toArray, List.getElem_cons_zero, List.getElem_cons_succ]
            (try dsimp only at hSW)
            go_simp
            with_reducible rfl
          (try simp only [List.getElem_toArray, List.getElem_cons_zero, List.getElem_cons_succ, Act.put, List.setIfInBounds_toArray, List.set_cons_zero, List.set_cons_succ])
          refine wpAnyJ_skip 4 (by first | exact hF | exact wideFn) trivial rfl (by kernel_rfl) (by kernel_rfl) (by kernel_rfl) (by kernel_rfl) rfl (by first | exact fun _ _ _ h => h | exact fun _ _ _ h => hQ2 _ _ _ _ _ h) ?_
          (try simp only [List.getElem_toArray, List.getElem_cons_zero, List.getElem_cons_succ, Act.put, List.setIfInBounds_toArray, List.set_cons_zero, List.set_cons_succ])
          refine wpAnyJ_skip 5 (by first | exact hF | exact wideFn) trivial rfl (by kernel_rfl) (by kernel_rfl) (by kernel_rfl) (by kernel_rfl) rfl (by first | exact fun _ _ _ h => h | exact fun _ _ _ h => hQ2 _ _ _ _ _ h) ?_
          (try simp only [List.getElem_toArray, List.getElem_cons_zero, List.getElem_cons_succ, Act.put, List.setIfInBounds_toArray, List.set_cons_zero, List.set_cons_succ])
          refine wpAnyJ_skip 6 (by first | exact hF | exact wideFn) trivial rfl (by kernel_rfl) (by kernel_rfl) (by kernel_rfl) (by kernel_rfl) rfl (by first | exact fun _ _ _ h => h | exact fun _ _ _ h => hQ2 _ _ _ _ _ h) ?_
          (try simp only [List.getElem_toArray, List.getElem_cons_zero, List.getElem_cons_succ, Act.put, List.setIfInBounds_toArray, List.set_cons_zero, List.set_cons_succ])
          refine wpAnyJ_skip 7 (by first | exact hF | exact wideFn) trivial rfl (by kernel_rfl) (by kernel_rfl) (by kernel_rfl) (by kernel_rfl) rfl (by first | exact fun _ _ _ h => h | exact fun _ _ _ h => hQ2 _ _ _ _ _ h) ?_
          (try simp only [List.getElem_toArray, List.getElem_cons_zero, List.getElem_cons_succ, Act.put, List.setIfInBounds_toArray, List.set_cons_zero, List.set_cons_succ])
          refine wpAnyJ_skip 8 (by first | exact hF | exact wideFn) trivial rfl (by kernel_rfl) (by kernel_rfl) (by kernel_rfl) (by kernel_rfl) rfl (by first | exact fun _ _ _ h => h | exact fun _ _ _ h => hQ2 _ _ _ _ _ h) ?_
          (try simp only [List.getElem_toArray, List.getElem_cons_zero, List.getElem_cons_succ, Act.put, List.setIfInBounds_toArray, List.set_cons_zero, List.set_cons_succ])
          refine wpAnyJ_skip 9 (by first | exact hF | exact wideFn) trivial rfl (by kernel_rfl) (by kernel_rfl) (by kernel_rfl) (by kernel_rfl) rfl (by first | exact fun _ _ _ h => h | exact fun _ _ _ h => hQ2 _ _ _ _ _ h) ?_
          (try simp only [List.getElem_toArray, List.getElem_cons_zero, List.getElem_cons_succ, Act.put, List.setIfInBounds_toArray, List.set_cons_zero, List.set_cons_succ])
          refine wpAnyJ_skip 10 (by first | exact hF | exact wideFn) trivial rfl (by kernel_rfl) (by kernel_rfl) (by kernel_rfl) (by kernel_rfl) rfl (by first | exact fun _ _ _ h => h | exact fun _ _ _ h => hQ2 _ _ _ _ _ h) ?_
          (try simp only [List.getElem_toArray, List.getElem_cons_zero, List.getElem_cons_succ, Act.put, List.setIfInBounds_toArray, List.set_cons_zero, List.set_cons_succ])
          refine wpAnyJ_skip 11 (by first | exact hF | exact wideFn) trivial rfl (by kernel_rfl) (by kernel_rfl) (by kernel_rfl) (by kernel_rfl) rfl (by first | exact fun _ _ _ h => h | exact fun _ _ _ h => hQ2 _ _ _ _ _ h) ?_
          (try simp only [List.getElem_toArray, List.getElem_cons_zero, List.getElem_cons_succ, Act.put, List.setIfInBounds_toArray, List.set_cons_zero, List.set_cons_succ])
          refine wpAnyJ_skip 12 (by first | exact hF | exact wideFn) trivial rfl (by kernel_rfl) (by kernel_rfl) (by kernel_rfl) (by kernel_rfl) rfl (by first | exact fun _ _ _ h => h | exact fun _ _ _ h => hQ2 _ _ _ _ _ h) ?_
          (try simp only [List.getElem_toArray, List.getElem_cons_zero, List.getElem_cons_succ, Act.put, List.setIfInBounds_toArray, List.set_cons_zero, List.set_cons_succ])
          refine wpAnyJ_skip 13 (by first | exact hF | exact wideFn) trivial rfl (by kernel_rfl) (by kernel_rfl) (by kernel_rfl) (by kernel_rfl) rfl (by first | exact fun _ _ _ h => h | exact fun _ _ _ h => hQ2 _ _ _ _ _ h) ?_
          (try simp only [List.getElem_toArray, List.getElem_cons_zero, List.getElem_cons_succ, Act.put, List.setIfInBounds_toArray, List.set_cons_zero, List.set_cons_succ])
          refine wpAnyJ_skip 14 (by first | exact hF | exact wideFn) trivial rfl (by kernel_rfl) (by kernel_rfl) (by kernel_rfl) (by kernel_rfl) rfl (by first | exact fun _ _ _ h => h | exact fun _ _ _ h => hQ2 _ _ _ _ _ h) ?_
          (try simp only [List.getElem_toArray, List.getElem_cons_zero, List.getElem_cons_succ, Act.put, List.setIfInBounds_toArray, List.set_cons_zero, List.set_cons_succ])
          refine wpAnyJ_skip 15 (by first | exact hF | exact wideFn) trivial rfl (by kernel_rfl) (by kernel_rfl) (by kernel_rfl) (by kernel_rfl) rfl (by first | exact fun _ _ _ h => h | exact fun _ _ _ h => hQ2 _ _ _ _ _ h) ?_
          (try simp only [List.getElem_toArray, List.getElem_cons_zero, List.getElem_cons_succ, Act.put, List.setIfInBounds_toArray, List.set_cons_zero, List.set_cons_succ])
          refine wpAnyJ_take 16 (v := ?_) (by first | exact hF | exact wideFn) trivial rfl (by kernel_rfl) (by kernel_rfl) (by kernel_rfl) (by kernel_rfl) rfl ?_ (by first | exact fun _ _ _ h => h | exact fun _ _ _ h => hQ2 _ _ _ _ _ h) ?_
          rotate_left
          · intro W hSW
            simp only [List.getElem_toArray, List.getElem_cons_zero, List.getElem_cons_succ]
            (try dsimp only at hSW)
            go_simp
            with_reducible rfl
          (try simp only [List.getElem_toArray, List.getElem_cons_zero, List.getElem_cons_succ, Act.put, List.setIfInBounds_toArray, List.set_cons_zero, List.set_cons_succ])
          refine wpAnyJ_done (by kernel_rfl) ?_
          go_wp2_with fail
          go_roundw
          case rel => exact ⟨i + 1, _, by go_num, by omega, by omega, hide (HR1.out.ext Bd.out), hide (by rw [show min (i + 1) b = i + 1 by omega]; exact ins_step O HM'.out HP.out hlt haj hji (fun h => absurd h (by omega)) Q2.out), hide (HG1.out.trans (below_grown' Bd.out _))⟩
          case measure => simp [intOf]; omega
          -- END2
    · have hlt' : ¬ (i : Int) < (b : Int) := by omega
      go_wp2_with fail
      go_end0
      exact ⟨rfl, F, HR.out, (by have := HM.out; rwa [show min i b = b by omega] at this), HG.out⟩
end Go.Proofs.Ytlhekifmkkgjlaa
/- Stable sorting, walked: slices.SortStableFunc at bricks. -/
namespace Go.Proofs.Ytlhekifmkkgjlaa
open Go Go.RowKit Go.Shelf
set_option maxHeartbeats 4000000
set_option maxRecDepth 100000
theorem stable_any {lt : Int × Int → Int × Int → Prop} (O : Ord2 bkLess lt) (g n cap : Nat) (F0 : Nat → Int × Int) (w : World) (hr : SBR w g n F0) (hn : n ≤ 1000000) (hp : ∀ x y, x < y → y < n → Ahead bkLess lt (F0 x) (F0 y)) :
    Calls Try.prog 112 #[.slice (some ⟨g, 0, none⟩) n cap, .int .i64 n, .func (.func 96) #[] #[]] w fun e w' => e = .returned (.tuple #[]) ∧ ∃ f', SBR w' g n f' ∧ MQ lt F0 f' 0 n ∧ w.grownBy w' (some g) := by
  have HR0 := hide hr
  have HP := hide hp
  clear hr hp
  go_enter Try.func112, Try.ntmps112
  go_wp2_with fail
  go_loopw [7, 8] (fun x y wr => ∃ (t A B : Nat) (F : Nat → Int × Int), x = .int .i64 A ∧ y = .int .i64 B ∧ Hid (A = t * 20 ∧ B = A + 20) ∧ A ≤ n ∧ Hid (IInv bkLess lt n F0 F t) ∧ Hid (SBR wr g n F) ∧ Hid (w.grownBy wr (some g))) (fun _ y _ => n + 20 - (intOf y).toNat)
  case atStart => exact ⟨0, 0, 20, F0, rfl, rfl, hide ⟨rfl, rfl⟩, by omega, hide (IInv.start HP.out), HR0, hide (World.grownBy.refl w _)⟩
  case round =>
    obtain ⟨t, A, B, F, rfl, rfl, HAB, hAn, HI, HR, HG⟩ := hrel
    by_cases hlt : B ≤ n
    · have hlt' : (B : Int) ≤ (n : Int) := by omega
      have e := HAB.out
      have HC := hide (insSort_any O g n cap A B F wr HR.out (by omega) hlt hn (fun x y h1 h2 h3 => HI.out.pre HP.out x y (by omega) h2 (by omega)))
      obtain ⟨B', hB'⟩ : ∃ B' : Nat, B' = B + 20 := ⟨_, rfl⟩
      have w1 : IntKind.i64.wrap ((B : Int) + 20) = (B' : Int) := by rw [IntWalk.i64_in _ (by omega)]; omega
      have HB := hide hB'
      clear hB' e
      go_wp2_with fail
      refine HC.out.mono ?_
      rintro e w5 ⟨rfl, f', h5, h6, h7⟩
      have H5 := hide h5
      have H6 := hide h6
      have H7 := hide (HG.out.trans h7)
      clear h5 h6 h7
      go_wp2_with fail
      go_roundw
      case rel => exact ⟨t + 1, B, B', f', rfl, rfl, hide ⟨by have := HAB.out; omega, HB.out⟩, by omega, hide (HI.out.next (by have := HAB.out; omega) (by have e := HAB.out; rw [← e.1, ← e.2]; exact H6.out)), H5, H7⟩
      case measure => have := HB.out; simp [intOf]; omega
    · have hlt' : ¬ (B : Int) ≤ (n : Int) := by omega
      have e := HAB.out
      have HC := hide (insSort_any O g n cap A n F wr HR.out hAn (Nat.le_refl _) hn (fun x y h1 h2 h3 => HI.out.pre HP.out x y (by omega) h2 h3))
      clear e
      go_wp2_with fail
      refine HC.out.mono ?_
      rintro e w5 ⟨rfl, f', h5, h6, h7⟩
      have HBI := hide (HI.out.done (g := f') (by have := HAB.out; omega) (by have := HAB.out; omega) (by have e := HAB.out; rw [← e.1]; exact h6))
      have H5 := hide h5
      have H7 := hide (HG.out.trans h7)
      clear h5 h6 h7 HC HR HG HI HAB hlt hlt' hAn
      go_wp2_with fail
      go_loopw [6] (fun z wr => ∃ (bs : Nat) (F : Nat → Int × Int), z = .int .i64 bs ∧ 20 ≤ bs ∧ bs ≤ 2000000 ∧ Hid (BInv bkLess lt n F0 F bs) ∧ Hid (SBR wr g n F) ∧ Hid (w.grownBy wr (some g))) (fun z _ => n - (intOf z).toNat)
      case atStart => exact ⟨20, f', rfl, by omega, by omega, HBI, H5, H7⟩
      case round =>
        obtain ⟨bs, F, rfl, hb20, hb2, HBN, HR, HG⟩ := hrel
        by_cases hlt : bs < n
        · -- BEGIN1
          have hlt' : (bs : Int) < (n : Int) := by omega
          obtain ⟨C, hC⟩ : ∃ C : Nat, C = 2 * bs := ⟨_, rfl⟩
          have w1 : IntKind.i64.wrap (2 * (bs : Int)) = (C : Int) := by rw [IntWalk.i64_in _ (by omega)]; omega
          have w2 : IntKind.i64.wrap ((bs : Int) * 2) = (C : Int) := by rw [IntWalk.i64_in _ (by omega)]; omega
          have HC := hide hC
          have hC1 : C ≤ 2000000 := by omega
          have hC2 : bs < C := by omega
          clear hC
          go_wp2_with fail
          obtain ⟨wo, hwo⟩ : ∃ wo, wo = wr := ⟨_, rfl⟩
          subst hwo
          go_loopw [7, 8] (fun x y wr => ∃ (t A B : Nat) (F : Nat → Int × Int), x = .int .i64 A ∧ y = .int .i64 B ∧ Hid (A = t * (2 * bs) ∧ B = A + C) ∧ A ≤ n ∧ Hid (RInv bkLess lt n F0 F bs t) ∧ Hid (SBR wr g n F) ∧ Hid (w.grownBy wr (some g))) (fun _ y _ => n + C - (intOf y).toNat)
          case atStart => exact ⟨0, 0, C, F, rfl, rfl, hide ⟨by omega, by omega⟩, by omega, hide (RInv.start HBN.out), HR, HG⟩
          case round =>
            obtain ⟨t, A, B, F, rfl, rfl, HAB, hAn, HI, HR, HG⟩ := hrel
            obtain ⟨M, hM⟩ : ∃ M : Nat, M = A + bs := ⟨_, rfl⟩
            have w3 : IntKind.i64.wrap ((A : Int) + (bs : Int)) = (M : Int) := by rw [IntWalk.i64_in _ (by omega)]; omega
            have HM := hide hM
            clear hM
            by_cases hlt3 : B ≤ n
            · have hlt3' : (B : Int) ≤ (n : Int) := by omega
              have e := HAB.out
              have e2 := HC.out
              have e3 := HM.out
              have HMP : Hid (MP bkLess lt F A M B) := hide (by
                have := HI.out.pair (b := B) (by omega) (by omega) hlt3 (.inr (by omega))
                rwa [← e.1, ← e3] at this)
              have HCL := hide (symMerge_any O g n cap hn (B - A) A M B F wr (Nat.le_refl _) HR.out (by omega) (by omega) hlt3 HMP.out)
              obtain ⟨B', hB'⟩ : ∃ B' : Nat, B' = B + C := ⟨_, rfl⟩
              have w4 : IntKind.i64.wrap ((B : Int) + (C : Int)) = (B' : Int) := by rw [IntWalk.i64_in _ (by omega)]; omega
              have HB := hide hB'
              clear hB' e e2 e3
              go_wp2_with fail
              refine HCL.out.mono ?_
              rintro e w5 ⟨rfl, f', h5, h6, h7⟩
              have H5 := hide h5
              have H6 := hide h6
              have H7 := hide (HG.out.trans h7)
              clear h5 h6 h7
              go_wp2_with fail
              go_roundw
              case rel => exact ⟨t + 1, B, B', f', rfl, rfl, hide ⟨by have e := HAB.out; have := HC.out; rw [Nat.add_mul, Nat.one_mul]; omega, HB.out⟩, by omega, hide (HI.out.next (by have := HAB.out; have := HC.out; omega) (by have e := HAB.out; have e2 := HC.out; rw [← e.1, ← e2, ← e.2]; exact H6.out)), H5, H7⟩
              case measure => have := HB.out; simp [intOf]; omega
            · have hlt3' : ¬ (B : Int) ≤ (n : Int) := by omega
              by_cases hmn : M < n
              · have hmn' : (M : Int) < (n : Int) := by omega
                have e := HAB.out
                have e2 := HC.out
                have e3 := HM.out
                have HMP : Hid (MP bkLess lt F A M n) := hide (by
                  have := HI.out.pair (b := n) (by omega) (by omega) (Nat.le_refl _) (.inl rfl)
                  rwa [← e.1, ← e3] at this)
                have HCL := hide (symMerge_any O g n cap hn (n - A) A M n F wr (Nat.le_refl _) HR.out (by omega) hmn (Nat.le_refl _) HMP.out)
                clear e e2 e3
                go_wp2_with fail
                refine HCL.out.mono ?_
                rintro e w5 ⟨rfl, f', h5, h6, h7⟩
                have HBI := hide (HI.out.done (g := f') (by have := HAB.out; omega) (by have := HAB.out; have := HC.out; omega) (by have e := HAB.out; rw [← e.1]; exact h6))
                have H5 := hide h5
                have H7 := hide (HG.out.trans h7)
                clear h5 h6 h7
                go_wp2_with fail
                go_roundw
                case rel => exact ⟨C, f', rfl, by omega, by omega, (by have e := HC.out; rw [e]; exact HBI), H5, H7⟩
                case measure => simp [intOf]; omega
              · have hmn' : ¬ (M : Int) < (n : Int) := by omega
                have HBI := hide (HI.out.done (by have := HAB.out; omega) (by have := HAB.out; have := HC.out; omega) (HI.out.alone (by have := HAB.out; have := HM.out; omega)))
                go_wp2_with fail
                go_roundw
                case rel => exact ⟨C, F, rfl, by omega, by omega, (by have e := HC.out; rw [e]; exact HBI), HR, HG⟩
                case measure => simp [intOf]; omega
          -- END1
        · have hlt' : ¬ (bs : Int) < (n : Int) := by omega
          go_wp2_with fail
          go_end0
          exact ⟨rfl, F, HR.out, HBN.out.done (by omega), HG.out⟩
theorem sortStable_any {lt : Int × Int → Int × Int → Prop} (O : Ord2 bkLess lt) (g n cap : Nat) (F0 : Nat → Int × Int) (w : World) (hr : SBR w g n F0) (hn : n ≤ 1000000) (hp : ∀ x y, x < y → y < n → Ahead bkLess lt (F0 x) (F0 y)) :
    Calls Try.prog 95 #[.slice (some ⟨g, 0, none⟩) n cap, .func (.func 96) #[] #[]] w fun e w' => e = .returned (.tuple #[]) ∧ ∃ f', SBR w' g n f' ∧ MQ lt F0 f' 0 n ∧ w.grownBy w' (some g) := by
  have HC := hide (stable_any O g n cap F0 w hr hn hp)
  clear hr hp
  go_enter Try.func95, Try.ntmps95
  go_wp2_with fail
  refine HC.out.mono ?_
  rintro e w5 ⟨rfl, f', h5, h6, h7⟩
  go_wp2_with fail
  go_end0
  exact ⟨rfl, f', h5, h6, h7⟩
end Go.Proofs.Ytlhekifmkkgjlaa
/- Free, plain: which bricks are free, and their order. -/
namespace Go.Proofs.Ytlhekifmkkgjlaa
open Go Go.RowKit Go.Shelf
set_option maxRecDepth 100000
/-- something lies on cell c of tier t -/
def lieB (s : Stk) (t c : Nat) : Bool := decide (t + 1 < s.nt) && decide (0 ≤ s.cf (t + 1) c)
/-- nothing lies on the cells below c of brick b of tier t -/
def freeTo (s : Stk) (t b : Nat) : Nat → Bool
  | 0 => true
  | c + 1 => freeTo s t b c && !(decide (s.cf t c = (b : Int)) && lieB s t c)
def freeB (s : Stk) (p : Nat × Nat) : Bool := freeTo s p.1 p.2 (s.cn p.1)
/-- the free ones of the first j bricks of tier t -/
def freeRow (s : Stk) (t j : Nat) : List (Nat × Nat) := (rowTo t j).filter (freeB s)
/-- those of the r highest tiers, the highest first -/
def freeDn (s : Stk) : Nat → List (Nat × Nat)
  | 0 => []
  | r + 1 => freeDn s r ++ freeRow s (s.nt - 1 - r) (s.wn (s.nt - 1 - r))
/-- those of the first k tiers, the lowest first -/
def freeAsc (s : Stk) (k : Nat) : List (Nat × Nat) := (bricksTo s.wn k).filter (freeB s)
theorem freeRow_yes {s : Stk} {t j : Nat} (h : freeB s (t, j) = true) : freeRow s t (j + 1) = freeRow s t j ++ [(t, j)] := by
  unfold freeRow
  rw [rowTo_succ, List.filter_append, List.filter_cons_of_pos h, List.filter_nil]
theorem freeRow_no {s : Stk} {t j : Nat} (h : freeB s (t, j) = false) : freeRow s t (j + 1) = freeRow s t j := by
  unfold freeRow
  rw [rowTo_succ, List.filter_append, List.filter_cons_of_neg (by simp [h]), List.filter_nil, List.append_nil]
theorem freeAsc_succ (s : Stk) (k : Nat) : freeAsc s (k + 1) = freeAsc s k ++ freeRow s k (s.wn k) := by
  unfold freeAsc freeRow
  rw [bricksTo_succ, List.filter_append]
theorem freeRow_mem {s : Stk} {t j : Nat} {p : Nat × Nat} (h : p ∈ freeRow s t j) : p.1 = t ∧ p.2 < j := by
  unfold freeRow rowTo at h
  obtain ⟨h1, -⟩ := List.mem_filter.1 h
  obtain ⟨i, h2, rfl⟩ := List.mem_map.1 h1
  exact ⟨rfl, List.mem_range.1 h2⟩
/-- the order that is made: the higher tier first, and in a tier the lower number -/
def bkLt (x y : Nat × Nat) : Prop := y.1 < x.1 ∨ (x.1 = y.1 ∧ x.2 < y.2)
theorem freeRow_sorted (s : Stk) (t j : Nat) : (freeRow s t j).Pairwise bkLt := by
  unfold freeRow
  refine List.Pairwise.filter _ ?_
  unfold rowTo
  rw [List.pairwise_map]
  exact List.Pairwise.imp (fun h => .inr ⟨rfl, h⟩) List.pairwise_lt_range
theorem freeDn_tier {s : Stk} {r : Nat} (h : r ≤ s.nt) {p : Nat × Nat} (hp : p ∈ freeDn s r) : s.nt - r ≤ p.1 ∧ p.1 < s.nt := by
  induction r with
  | zero => cases hp
  | succ r ih =>
    rcases List.mem_append.1 hp with h1 | h1
    · have := ih (by omega) h1; omega
    · have := freeRow_mem h1; omega
theorem freeDn_sorted (s : Stk) {r : Nat} (h : r ≤ s.nt) : (freeDn s r).Pairwise bkLt := by
  induction r with
  | zero => exact List.Pairwise.nil
  | succ r ih =>
    show (freeDn s r ++ freeRow s (s.nt - 1 - r) (s.wn (s.nt - 1 - r))).Pairwise bkLt
    rw [List.pairwise_append]
    refine ⟨ih (by omega), freeRow_sorted _ _ _, fun x hx y hy => .inl ?_⟩
    have h1 := freeDn_tier (by omega) hx
    have h2 := freeRow_mem hy
    omega
/-- both hold the same bricks -/
theorem freeDn_asc (s : Stk) {r : Nat} (h : r ≤ s.nt) : (freeAsc s (s.nt - r) ++ freeDn s r).Perm (freeAsc s s.nt) := by
  induction r with
  | zero => simp [freeDn]
  | succ r ih =>
    refine List.Perm.trans ?_ (ih (by omega))
    show (freeAsc s (s.nt - (r + 1)) ++ (freeDn s r ++ freeRow s (s.nt - 1 - r) (s.wn (s.nt - 1 - r)))).Perm _
    have e : s.nt - r = (s.nt - (r + 1)) + 1 := by omega
    rw [e, freeAsc_succ, show s.nt - 1 - r = s.nt - (r + 1) by omega, List.append_assoc]
    exact List.Perm.append_left _ List.perm_append_comm
theorem bkLt_uniq {l m : List (Nat × Nat)} (hp : l.Perm m) (hl : l.Pairwise bkLt) (hm : m.Pairwise bkLt) : l = m := by
  refine List.Perm.eq_of_pairwise (le := bkLt) ?_ hl hm hp
  intro a b _ _ h1 h2
  rcases h1 with h1 | ⟨h1, h3⟩ <;> rcases h2 with h2 | ⟨h2, h4⟩ <;> omega
end Go.Proofs.Ytlhekifmkkgjlaa
/- Chapter 8: is a stack large; a copy of a stack. -/
namespace Go.Proofs.Ytlhekifmkkgjlaa
open Go Go.RowKit Go.Shelf
set_option maxHeartbeats 4000000
set_option maxRecDepth 100000
/-- the tiers of a stack, whatever their lengths -/
def StkV (w : World) (s : Stk) : Prop := s.nt ≤ maxLen ∧ P2 w w.heap.size s.A s.nt s.u s.v ∧ ∀ k, k < s.nt → s.cn k ≤ maxLen ∧ s.wn k ≤ maxLen
def bigB (s : Stk) (M : Nat) (k : Nat) : Bool := decide (M < s.cn k) || decide (M < s.wn k)
def largeB (s : Stk) : Bool := anyTo (bigB s 150) s.nt || decide (12 < s.nt)
theorem large_any (s : Stk) (w : World) (hs : StkV w s) : Calls Try.prog 25 #[.agg #[.int .i64 s.wd, .int .i64 s.hg, .slice s.A s.nt s.cap]] w fun e w' => e = .returned (.bool (largeB s)) ∧ Below w.heap.size w w' := by
  have HS := hide hs
  have hn := hs.1
  unfold maxLen at hn
  have HB := hide ((Below.refl w.heap.size w).alloc (Nat.le_refl _) (.cells #[.int .i64 s.wd, .int .i64 s.hg, .slice s.A s.nt s.cap] 55))
  have KS := hide (Blk.new w 55 #[.int .i64 s.wd, .int .i64 s.hg, .slice s.A s.nt s.cap])
  clear hs
  go_enter Try.func25, Try.ntmps25
  go_wp2_with fail
  generalize (w.alloc (.cells #[.int .i64 s.wd, .int .i64 s.hg, .slice s.A s.nt s.cap] 55)) = W1 at HB KS ⊢
  obtain ⟨a0, a1, a2, a3, a4, a5, a6⟩ := blk3 KS.out
  go_loop [3] (fun i => ∃ k : Nat, i = .int .i64 k ∧ k ≤ s.nt ∧ Hid (anyTo (bigB s 150) k = false)) (fun i => s.nt - (intOf i).toNat)
  case atStart => exact ⟨0, rfl, by omega, hide rfl⟩
  case round =>
    obtain ⟨k, rfl, hk, HN⟩ := hrel
    by_cases hlt : k < s.nt
    · obtain ⟨tb, toff, hA, htb, hu, hv⟩ := P2.at_ (HS.out.2.1.below HB.out (Nat.le_refl _)) hlt
      obtain ⟨l1, l2⟩ := HS.out.2.2 k hlt
      unfold maxLen at l1 l2
      rw [hA] at a3
      have i1 : (0 : Int) ≤ (k : Int) := by omega
      have i2 : (k : Int) < (s.nt : Int) := by omega
      unfold Stk.u at hu
      unfold Stk.v at hv
      have hbig : bigB s 150 k = true → largeB s = true := fun h => by
        unfold largeB
        rw [(anyTo_iff _ _).2 ⟨k, hlt, h⟩, Bool.true_or]
      have HBG := hide hbig
      clear hbig
      by_cases c1 : 150 < s.cn k
      · have c1' : (150 : Int) < (s.cn k : Int) := by omega
        have HX := hide c1
        clear c1
        go_wp2_with fail
        go_ret
        exact ⟨by rw [HBG.out (by unfold bigB; rw [decide_eq_true HX.out, Bool.true_or])]; rfl, HB.out⟩
      · have c1' : ¬ (150 : Int) < (s.cn k : Int) := by omega
        by_cases c2 : 150 < s.wn k
        · have c2' : (150 : Int) < (s.wn k : Int) := by omega
          have HX := hide c2
          clear c1 c2
          go_wp2_with fail
          go_ret
          exact ⟨by rw [HBG.out (by unfold bigB; rw [decide_eq_true HX.out, Bool.or_true])]; rfl, HB.out⟩
        · have c2' : ¬ (150 : Int) < (s.wn k : Int) := by omega
          have HX : Hid (bigB s 150 k = false) := hide (by unfold bigB; rw [decide_eq_false c1, decide_eq_false c2]; rfl)
          clear c1 c2
          go_wp2_with fail
          go_round
          case rel => exact ⟨k + 1, by go_num, by omega, hide (by show (anyTo (bigB s 150) k || bigB s 150 k) = false; rw [HN.out, HX.out]; rfl)⟩
          case measure => simp [intOf]; omega
    · obtain rfl : k = s.nt := by omega
      have HL : Hid (largeB s = decide ((12 : Int) < (s.nt : Int))) := hide (by unfold largeB; rw [HN.out, Bool.false_or, Bool.eq_iff_iff]; simp; omega)
      go_wp2_with fail
      go_ret
      exact ⟨by rw [HL.out]; rfl, HB.out⟩
end Go.Proofs.Ytlhekifmkkgjlaa
/- How a law's statement follows from its walk; arguments opened as readings. -/
namespace Go.Proofs.Ytlhekifmkkgjlaa
open Go Go.RowKit Go.ChangeShapes Go.WideShapes Go.ChangeAt
set_option maxRecDepth 100000
theorem own_knob : ownKnob Try.prog.godebug = none := by kernel_rfl
theorem laidOut : laidOutB Try.prog = true := by kernel_rfl
section
variable {H : Type} {enc : TypeId × Value → H}
/-- arguments read behind the call as before, if below the heap's old size nothing has turned -/
theorem stay_all {W W' : World} (hb : Below W.heap.size W W') {sp : Nat → Bool} : ∀ {ts : List TypeId} {vs : List Value} {ds : List (DataW H)} {ps : List MemPlace},
    (∀ t ∈ ts, Try.prog.readableRec t = true ∧ t < Try.prog.types.size) → DataW.TrodAll enc Try.prog W 0 (fun _ => true) true ts vs ds ps → (∀ x ∈ ps, x.block < W.heap.size) → (∀ x ∈ ps, sp x.block = true) →
    DataW.TrodAll enc Try.prog W' 0 sp true ts vs ds ps
  | [], _, _, _, _, h, _, _ => by
    obtain ⟨rfl, rfl, rfl⟩ := trodAll_nil h
    exact trodAll_mk0
  | t :: ts, _, _, _, hr, h, hlt, hsp => by
    obtain ⟨v, vs, d, ds, p, q, rfl, rfl, rfl, h0, r0⟩ := trodAll_cons h
    have k := hr t (by simp)
    exact trodAll_cons_mk (WideElems.Trod_stays laidOut k.1 k.2 h0 (fun x hx => hb.same (hlt x (by simp [hx]))) (fun x hx => hsp x (by simp [hx])))
      (stay_all hb (fun t ht => hr t (by simp [ht])) r0 (fun x hx => hlt x (by simp [hx])) (fun x hx => hsp x (by simp [hx])))
/-- a law that returned true and turned nothing old -/
theorem law_post {f : Func} {s : ChangeSpec} {apart fresh handsOn again : Bool} {W W' : World} {args : Array Value} {ds gs : List (DataW H)} {before : List MemPlace}
    (hW : DataW.Whole enc Try.prog f.params.toList s.vars apart W args.toList ds gs before) (hb : Below W.heap.size W W')
    (hvs : s.vars = []) (hr1 : f.resultTypes = #[4])
    (hpar : f.params.toList.all (fun t => Try.prog.readableRec t && decide (t < Try.prog.types.size)) = true)
    (hfn : (s.fn H ds).results = [.lit (.bool true)] ∧ (s.fn H ds).args = ds ∧ (s.fn H ds).vars = []) :
    s.post enc Try.prog f apart fresh handsOn again W args (.bool true) W' := by
  have hW0 := hW
  have hlt : ∀ p ∈ before, p.block < W.heap.size := fun p hp => hW.lt p hp
  have hold : ∀ p ∈ before, (fun b => decide (b < W.heap.size)) p.block = true := fun p hp => by simpa using hlt p hp
  obtain ⟨p, q, hA, hV, rfl, hz, hn⟩ := hW
  rw [hvs] at hV
  obtain ⟨rfl, rfl⟩ := trodVars_none hV
  simp only [List.append_nil] at *
  have hk : ∀ t ∈ f.params.toList, Try.prog.readableRec t = true ∧ t < Try.prog.types.size := by
    intro t ht
    have := List.all_eq_true.1 hpar t ht
    simpa using this
  have hargs : ∀ sp : Nat → Bool, (∀ x ∈ p, sp x.block = true) → DataW.TrodAll enc Try.prog W' 0 sp true f.params.toList args.toList (s.fn H (ds ++ [])).args p := fun sp hsp => by
    rw [List.append_nil, hfn.2.1]; exact stay_all hb hk hA hlt hsp
  have hvars : ∀ sp : Nat → Bool, DataW.TrodVars enc Try.prog W' sp s.vars (s.fn H (ds ++ [])).vars [] := fun sp => by
    rw [hvs, List.append_nil, hfn.2.2]; exact rfl
  have hres : ∀ (b : Nat) (sp : Nat → Bool) (hd : Bool), DataW.TrodAll enc Try.prog W' b sp hd f.resultTypes.toList ((Value.bool true).resultList f.resultTypes.size) (s.fn H (ds ++ [])).results [] := fun b sp hd => by
    rw [List.append_nil, hfn.1, hr1]
    exact trodAll_cons_mk (shut_bool Try.underlying4 _) trodAll_mk0
  refine ⟨ds, [], p, [], p, [], hW0, hres _ _ _, hargs _ hold, hvars _, World.keptBut_mono (fun x hx => ⟨hx, Or.inr (by simpa using hx)⟩) (hb.frame (· ∈ p)), fun _ => ?_⟩
  refine ⟨ok_one hr1 rfl (okWide_bool_mk Try.underlying4 _), _, _, ([] ++ p) ++ [], ⟨[] ++ p, [], trodAll_append (hargs _ (fun _ _ => rfl)) (hres _ _ _), hvars (fun _ => true), rfl, ?_, ?_⟩, ?_⟩
  · intro b off hp
    have hin : MemPlace.cell b off ∈ p := by simpa using hp
    rw [hb.frozen (hlt _ hin)]
    exact hz b off hin
  · intro ha
    simpa using hn ha
  · intro x hx _
    simpa using hx
/-- a slice of structs of two cells: the readings of its elements -/
theorem open_pairs_c {W : World} {t e : TypeId} {f0 f1 : Field} {v : Value} {x : DataW H × List MemPlace} {fuel : Nat} (ht : Try.prog.underlying t = some (.slice e)) (he : Try.prog.underlying e = some (.struct #[f0, f1]))
    (ce : Try.prog.cellsOf e = 2) (o0 : f0.offset = 0) (o1 : f1.offset = 1) (c0 : Try.prog.cellsOf f0.type = 1) (c1 : Try.prog.cellsOf f1.type = 1)
    (h : DataW.trod enc Try.prog W 0 (fun _ => true) true fuel t [v] = some x) (hlt : ∀ y ∈ x.2, y.block < W.heap.size) :
    ∃ A n c V0 V1, v = .slice A n c ∧ n ≤ maxLen ∧ n ≤ c ∧ P2 W W.heap.size A n V0 V1 ∧ ∀ i, i < n → ∃ m x0 x1, DataW.trod enc Try.prog W 0 (fun _ => true) true m f0.type [V0 i] = some x0 ∧ DataW.trod enc Try.prog W 0 (fun _ => true) true m f1.type [V1 i] = some x1 ∧
      (∀ y ∈ x0.2, y.block < W.heap.size) ∧ (∀ y ∈ x1.2, y.block < W.heap.size) := by
  rcases Deep.open_slice_pairs ht he ce o0 o1 c0 c1 h with ⟨h1, -⟩ | ⟨a, len, cap, m, n, V0, V1, D0, D1, P0, P1, h1, hb, hl, hm, hmm, hx, hc⟩
  · injection h1 with h1
    subst h1
    exact ⟨none, 0, 0, fun _ => .nilIface, fun _ => .nilIface, rfl, by simp [maxLen], Nat.le_refl _, ER.nil _ _ _ _ _, fun i hi => absurd hi (by omega)⟩
  · injection h1 with h1
    subst h1
    simp only [if_true] at hmm
    subst hmm
    refine ⟨some a, len, m, V0, V1, rfl, by omega, hl, fun hn => ?_, fun i hi => ?_⟩
    · have h0 := (hc 0 (by omega)).1
      obtain ⟨b, off, spot⟩ := a
      have hsp : spot = none := by simpa [Addr.add] using World.cell?_spot h0
      subst hsp
      refine ⟨b, off, rfl, ?_, fun k i hk hi => ?_⟩
      · have hb1 := hlt (.cell b (off + 0)) (by
          rw [hx]
          exact List.mem_append_left _ (MemPlace.mem_row.2 ⟨0, by omega, rfl⟩))
        exact hb1
      · have hk2 := hc k (by omega)
        have q0 := hk2.1
        have q1 := hk2.2.1
        rw [add_lit'] at q0 q1
        rcases (by omega : i = 0 ∨ i = 1) with rfl | rfl
        · simpa using q0
        · simpa [Nat.add_assoc] using q1
    · have hi2 := hc i (by omega)
      refine ⟨n, _, _, hi2.2.2.1, hi2.2.2.2, fun y hy => hlt y ?_, fun y hy => hlt y ?_⟩
      · rw [hx]; exact List.mem_append_right _ (List.mem_flatMap.2 ⟨i, by simp; omega, List.mem_append_left _ hy⟩)
      · rw [hx]; exact List.mem_append_right _ (List.mem_flatMap.2 ⟨i, by simp; omega, List.mem_append_right _ hy⟩)
/-- a slice of ints -/
theorem open_ints_c {W : World} {t : TypeId} {v : Value} {x : DataW H × List MemPlace} {fuel : Nat} (ht : Try.prog.underlying t = some (.slice 3))
    (h : DataW.trod enc Try.prog W 0 (fun _ => true) true fuel t [v] = some x) (hlt : ∀ y ∈ x.2, y.block < W.heap.size) :
    ∃ A n c z, v = .slice A n c ∧ n ≤ maxLen ∧ n ≤ c ∧ IR W W.heap.size A n z ∧ ∀ i, i < n → -9223372036854775808 ≤ z i ∧ z i ≤ 9223372036854775807 := by
  rcases open_ints ht Try.underlying3 (by kernel_rfl) h with ⟨h1, -⟩ | ⟨a, len, cap, zs, h1, hb, hl, hm, hz, hx, hc, hwf⟩
  · injection h1 with h1
    subst h1
    exact ⟨none, 0, 0, fun _ => 0, rfl, by simp [maxLen], Nat.le_refl _, ER.nil _ _ _ _ _, fun i hi => absurd hi (by omega)⟩
  · injection h1 with h1
    subst h1
    simp only [if_true] at hz
    refine ⟨some a, len, cap, fun i => zs.getD i 0, rfl, by omega, hl, fun hn => ?_, fun i hi => ?_⟩
    · have h0 := hc 0 (by omega)
      obtain ⟨b, off, spot⟩ := a
      have hsp : spot = none := by simpa [Addr.add] using World.cell?_spot h0
      subst hsp
      refine ⟨b, off, rfl, ?_, fun k i hk hi => ?_⟩
      · have hb1 := hlt (.cell b (off + 0)) (by
          rw [hx]
          exact MemPlace.mem_row.2 ⟨0, by omega, rfl⟩)
        exact hb1
      · obtain rfl : i = 0 := by omega
        have := hc k (by omega)
        rw [add_lit'] at this
        simpa using this
    · have h1 : zs.getD i 0 ∈ zs := by
        rw [List.getD_eq_getElem?_getD, List.getElem?_eq_getElem (by omega)]
        exact List.getElem_mem _
      have := hwf _ h1
      simp only [Lit.wf, Bool.and_eq_true, decide_eq_true_eq] at this
      simpa [IntKind.min, IntKind.max, IntKind.signed, IntKind.bits] using this
theorem int_of_trod {W : World} {t : TypeId} {v : Value} {x : DataW H × List MemPlace} {fuel : Nat} (ht : Try.prog.underlying t = some (.int .i64)) (h : DataW.trod enc Try.prog W 0 (fun _ => true) true fuel t [v] = some x) :
    v = .int .i64 (intOf v) ∧ -9223372036854775808 ≤ intOf v ∧ intOf v ≤ 9223372036854775807 := by
  obtain ⟨z, hz, -, hw⟩ := DataW.trod_int ht h
  injection hz with hz
  subst hz
  simp only [Lit.wf, Bool.and_eq_true, decide_eq_true_eq] at hw
  exact ⟨rfl, by simpa [intOf, IntKind.min, IntKind.max, IntKind.signed, IntKind.bits] using hw⟩
theorem cells_slice {A : Option Addr} {n c : Nat} : (Value.slice A n c).cells.toList = [.slice A n c] := rfl
/-- a slice of structs of two ints -/
theorem open_pairs {r : Reach} {b0 : Nat} {W : World} {t e : TypeId} {f0 f1 : Field} {v : Value} {d : DataW H} {p : List MemPlace} (ht : Try.prog.underlying t = some (.slice e)) (he : Try.prog.underlying e = some (.struct #[f0, f1]))
    (ce : Try.prog.cellsOf e = 2) (o0 : f0.offset = 0) (o1 : f1.offset = 1) (c0 : Try.prog.cellsOf f0.type = 1) (c1 : Try.prog.cellsOf f1.type = 1)
    (k0 : Try.prog.underlying f0.type = some (.int .i64)) (k1 : Try.prog.underlying f1.type = some (.int .i64)) (hval : Value.okWide Try.prog W r b0 t v)
    (h : DataW.Trod enc Try.prog W 0 (fun _ => true) true t v d p) (hlt : ∀ x ∈ p, x.block < W.heap.size) :
    ∃ A n c x y, v = .slice A n c ∧ n ≤ maxLen ∧ n ≤ c ∧ PI W W.heap.size A n x y := by
  obtain ⟨fuel, h⟩ := h
  obtain ⟨A, n, c, rfl⟩ := okWide_slice ht hval
  rw [cells_slice] at h
  obtain ⟨A', n', c', V0, V1, h1, hn, hnc, hP, hV⟩ := open_pairs_c ht he ce o0 o1 c0 c1 h hlt
  injection h1 with h1 h2 h3
  subst h1 h2 h3
  refine ⟨A, n, c, fun i => intOf (V0 i), fun i => intOf (V1 i), rfl, hn, hnc, fun hn0 => ?_⟩
  obtain ⟨b, off, hA, hb, hc⟩ := hP hn0
  refine ⟨b, off, hA, hb, fun k i hk hi => ?_⟩
  obtain ⟨m, x0, x1, g0, g1, -, -⟩ := hV k hk
  rw [hc k i hk hi]
  rcases (by omega : i = 0 ∨ i = 1) with rfl | rfl
  · simpa using (int_of_trod k0 g0).1
  · simpa using (int_of_trod k1 g1).1
end
end Go.Proofs.Ytlhekifmkkgjlaa
/- Chapter 8: a copy of a stack. -/
namespace Go.Proofs.Ytlhekifmkkgjlaa
open Go Go.RowKit Go.Shelf
set_option maxHeartbeats 4000000
set_option maxRecDepth 100000
theorem info_tier : (Try.prog.info? 72).map (fun i => (i.zero, i.size, i.bytes)) = some (some (.agg #[.slice none 0 0, .slice none 0 0]), 2, 48) := by kernel_rfl
theorem rows_ne {w : World} {base base' : Nat} {e e' : TypeId} {sz sz' n n' : Nat} {v v' : Value} {xs xs' : List Value} (h : w.ownsRow base e sz v n xs) (h' : w.ownsRow base' e' sz' v' n' xs') (hne : e ≠ e') : v.ownBlock = none ∨ v.ownBlock ≠ v'.ownBlock := by
  rcases h'.2 with ⟨rfl, -⟩ | ⟨g, cap, cur, rfl, -, hg, -⟩
  · rcases h.2 with ⟨rfl, -⟩ | ⟨g', cap', cur', rfl, -⟩
    · exact .inl rfl
    · exact .inr (by simp [Value.ownBlock])
  · exact .inr (own_blk_ne h (show Blk w g e' cur from hg) hne)
def tierV (s : Stk) (ca wa : Nat → Option Addr) (cc wc : Nat → Nat) (j i : Nat) : Value := if i = 0 then .slice (ca j) (s.cn j) (cc j) else .slice (wa j) (s.wn j) (wc j)
def rowI (w : World) (base : Nat) (A : Option Addr) (n c : Nat) (x : Nat → Int) : Prop := w.ownsRow base 3 1 (.slice A n c) n (cellsOf 1 n fun i _ => .int .i64 (x i))
theorem rowI.kept {w w' : World} {base n c : Nat} {A : Option Addr} {x : Nat → Int} {row : Option Nat} (h : rowI w base A n c x) (hg : w.grownBy w' row) (hne : (Value.slice A n c).ownBlock = none ∨ (Value.slice A n c).ownBlock ≠ row) : rowI w' base A n c x := World.ownsRow.kept h hg hne
theorem rowI.ext {w w' : World} {base n c : Nat} {A : Option Addr} {x : Nat → Int} (h : rowI w base A n c x) (hb : Below w.heap.size w w') : rowI w' base A n c x := ownBelow h hb
theorem rowI.ir {w : World} {base n c : Nat} {A : Option Addr} {x : Nat → Int} (h : rowI w base A n c x) : IR w w.heap.size A n x := by
  obtain ⟨A', c', hv, hE, -⟩ := ER.of_own h (by omega)
  injection hv with h1 h2 h3
  subst h1
  exact hE
/-- k tiers copied into v -/
structure OwnRel (w : World) (s : Stk) (k : Nat) (v : Value) (ca wa : Nat → Option Addr) (cc wc : Nat → Nat) (wr : World) : Prop where
  below : Below w.heap.size w wr
  bx : Blk wr w.heap.size 55 #[.int .i64 s.wd, .int .i64 s.hg, .slice s.A s.nt s.cap]
  rb : Blk wr (w.heap.size + 1) 55 #[.int .i64 0, .int .i64 0, .slice none 0 0]
  own : wr.ownsRow w.heap.size 72 2 v k (cellsOf 2 k (tierV s ca wa cc wc))
  rows : ∀ j, j < k → rowI wr w.heap.size (ca j) (s.cn j) (cc j) (s.cf j) ∧ rowI wr w.heap.size (wa j) (s.wn j) (wc j) (s.wf j)
theorem OwnRel.ext {w wr w' : World} {s : Stk} {k : Nat} {v : Value} {ca wa : Nat → Option Addr} {cc wc : Nat → Nat} (h : OwnRel w s k v ca wa cc wc wr) (hb : Below wr.heap.size wr w') : OwnRel w s k v ca wa cc wc w' :=
  ⟨h.below.trans (hb.mono h.below.size), h.bx.ext hb, h.rb.ext hb, ownBelow h.own hb, fun j hj => ⟨(h.rows j hj).1.ext hb, (h.rows j hj).2.ext hb⟩⟩
theorem cellsOf_two (n : Nat) (g : Nat → Nat → Value) : cellsOf 2 (n + 1) g = cellsOf 2 n g ++ [g n 0, g n 1] := by
  unfold cellsOf
  rw [show (n + 1) * 2 = n * 2 + 1 + 1 by omega, List.range_succ, List.range_succ, List.map_append, List.map_append, List.append_assoc]
  congr 1
  simp only [List.map_cons, List.map_nil, List.cons_append, List.nil_append]
  rw [show n * 2 / 2 = n by omega, show n * 2 % 2 = 0 by omega, show (n * 2 + 1) / 2 = n by omega, show (n * 2 + 1) % 2 = 1 by omega]
theorem cellsOf_same {sz n : Nat} {g g' : Nat → Nat → Value} (h : ∀ j i, j < n → i < sz → g j i = g' j i) (hs : 0 < sz) : cellsOf sz n g = cellsOf sz n g' := by
  unfold cellsOf
  refine List.map_congr_left fun j hj => h _ _ ?_ (Nat.mod_lt _ hs)
  have := List.mem_range.1 hj
  exact (Nat.div_lt_iff_lt_mul hs).2 this
theorem OwnRel.step {w wr w2 w3 : World} {s : Stk} {k : Nat} {v v' : Value} {ca wa : Nat → Option Addr} {cc wc : Nat → Nat} {A B : Option Addr} {c d : Nat} (h : OwnRel w s k v ca wa cc wc wr) (hb : Below wr.heap.size wr w2)
    (hA : rowI w2 w.heap.size A (s.cn k) c (s.cf k)) (hB : rowI w2 w.heap.size B (s.wn k) d (s.wf k)) (hg : w2.grownBy w3 v.ownBlock)
    (ho : w3.ownsRow w.heap.size 72 2 v' (k + 1) (cellsOf 2 k (tierV s ca wa cc wc) ++ [.slice A (s.cn k) c, .slice B (s.wn k) d])) :
    OwnRel w s (k + 1) v' (upd ca k A) (upd wa k B) (upd cc k c) (upd wc k d) w3 := by
  have h2 := h.ext hb
  have hlt : ∀ j, v.ownBlock = some j → w.heap.size ≤ j := fun j hj => (h2.own.lt j hj).1
  refine ⟨h2.below.grown hg h2.below.size hlt, h2.bx.grown hg (fun e => own_blk_ne h2.own h2.bx (by decide) e.symm), h2.rb.grown hg (fun e => own_blk_ne h2.own h2.rb (by decide) e.symm), ?_, fun j hj => ?_⟩
  · rw [cellsOf_two, cellsOf_same (g := tierV s (upd ca k A) (upd wa k B) (upd cc k c) (upd wc k d)) (g' := tierV s ca wa cc wc) (fun j i hj hi => by unfold tierV; rw [upd_ne _ _ (by omega), upd_ne _ _ (by omega), upd_ne _ _ (by omega), upd_ne _ _ (by omega)]) (by omega)]
    have e0 : tierV s (upd ca k A) (upd wa k B) (upd cc k c) (upd wc k d) k 0 = .slice A (s.cn k) c := by unfold tierV; rw [if_pos rfl, upd_same, upd_same]
    have e1 : tierV s (upd ca k A) (upd wa k B) (upd cc k c) (upd wc k d) k 1 = .slice B (s.wn k) d := by unfold tierV; rw [if_neg (by omega), upd_same, upd_same]
    rw [e0, e1]
    exact ho
  · by_cases e : j = k
    · subst e
      simp only [upd_same]
      exact ⟨hA.kept hg (rows_ne hA h2.own (by decide)), hB.kept hg (rows_ne hB h2.own (by decide))⟩
    · rw [upd_ne _ _ e, upd_ne _ _ e, upd_ne _ _ e, upd_ne _ _ e]
      obtain ⟨r1, r2⟩ := h2.rows j (by omega)
      exact ⟨r1.kept hg (rows_ne r1 h2.own (by decide)), r2.kept hg (rows_ne r2 h2.own (by decide))⟩
def Stk.at (s : Stk) (A : Option Addr) (c : Nat) (ca wa : Nat → Option Addr) (cc wc : Nat → Nat) : Stk := { s with A := A, cap := c, ca := ca, wa := wa, cc := cc, wc := wc }
def OwnPost (s : Stk) (w : World) (e : Ending) (w' : World) : Prop :=
  ∃ A c ca wa cc wc, e = .returned (.agg #[.int .i64 s.wd, .int .i64 s.hg, .slice A s.nt c]) ∧ StkR w' w'.heap.size (s.at A c ca wa cc wc) ∧ Below w.heap.size w w'
theorem OwnRel.stk {w wr : World} {s : Stk} {A : Option Addr} {c : Nat} {ca wa : Nat → Option Addr} {cc wc : Nat → Nat} (h : OwnRel w s s.nt (.slice A s.nt c) ca wa cc wc wr) (hs : StkR w w.heap.size s) : StkR wr wr.heap.size (s.at A c ca wa cc wc) := by
  obtain ⟨A', c', hv, hE, -⟩ := ER.of_own h.own (by omega)
  injection hv with h1 h2 h3
  subst h1 h3
  exact ⟨hs.1, hE, fun k hk => ⟨(hs.2.2 k hk).1, (hs.2.2 k hk).2.1, (h.rows k hk).1.ir, (h.rows k hk).2.ir⟩⟩
/-- the two boxes are written at the end -/
theorem OwnRel.shut {w wr : World} {s : Stk} {A : Option Addr} {c : Nat} {ca wa : Nat → Option Addr} {cc wc : Nat → Nat} (h : OwnRel w s s.nt (.slice A s.nt c) ca wa cc wc wr) (a b d e : Value) :
    Below w.heap.size w ((((wr.setCell ⟨w.heap.size, 2, none⟩ a).setCell ⟨w.heap.size + 1, 0, none⟩ b).setCell ⟨w.heap.size + 1, 1, none⟩ d).setCell ⟨w.heap.size + 1, 2, none⟩ e) ∧ (StkR w w.heap.size s →
    StkR ((((wr.setCell ⟨w.heap.size, 2, none⟩ a).setCell ⟨w.heap.size + 1, 0, none⟩ b).setCell ⟨w.heap.size + 1, 1, none⟩ d).setCell ⟨w.heap.size + 1, 2, none⟩ e) ((((wr.setCell ⟨w.heap.size, 2, none⟩ a).setCell ⟨w.heap.size + 1, 0, none⟩ b).setCell ⟨w.heap.size + 1, 1, none⟩ d).setCell ⟨w.heap.size + 1, 2, none⟩ e).heap.size (s.at A c ca wa cc wc)) := by
  have hb : Below w.heap.size w ((((wr.setCell ⟨w.heap.size, 2, none⟩ a).setCell ⟨w.heap.size + 1, 0, none⟩ b).setCell ⟨w.heap.size + 1, 1, none⟩ d).setCell ⟨w.heap.size + 1, 2, none⟩ e) :=
    (((h.below.setCell (p := ⟨w.heap.size, 2, none⟩) (Nat.le_refl _) _).setCell (p := ⟨w.heap.size + 1, 0, none⟩) (by show w.heap.size ≤ w.heap.size + 1; omega) _).setCell (p := ⟨w.heap.size + 1, 1, none⟩) (by show w.heap.size ≤ w.heap.size + 1; omega) _).setCell (p := ⟨w.heap.size + 1, 2, none⟩) (by show w.heap.size ≤ w.heap.size + 1; omega) _
  refine ⟨hb, fun hs => ?_⟩
  have g1 := grownBy_setC wr w.heap.size 2 a
  have hr : ∀ j, j < s.nt → rowI (wr.setCell ⟨w.heap.size, 2, none⟩ a) w.heap.size (ca j) (s.cn j) (cc j) (s.cf j) ∧ rowI (wr.setCell ⟨w.heap.size, 2, none⟩ a) w.heap.size (wa j) (s.wn j) (wc j) (s.wf j) := fun j hj => ⟨(h.rows j hj).1.kept g1 (.inr (own_blk_ne (h.rows j hj).1 h.bx (by decide))), (h.rows j hj).2.kept g1 (.inr (own_blk_ne (h.rows j hj).2 h.bx (by decide)))⟩
  have ho := World.ownsRow.kept h.own g1 (.inr (own_blk_ne h.own h.bx (by decide)))
  have hrb : Blk (wr.setCell ⟨w.heap.size, 2, none⟩ a) (w.heap.size + 1) 55 #[.int .i64 0, .int .i64 0, .slice none 0 0] := h.rb.far (by show w.heap.size + 1 ≠ w.heap.size; omega) _
  generalize wr.setCell ⟨w.heap.size, 2, none⟩ a = w1 at hb hr ho hrb ⊢
  have g2 := grownBy_setS (grownBy_setS (grownBy_setS (World.grownBy.refl w1 (some (w.heap.size + 1))) 0 b) 1 d) 2 e
  generalize ((w1.setCell ⟨w.heap.size + 1, 0, none⟩ b).setCell ⟨w.heap.size + 1, 1, none⟩ d).setCell ⟨w.heap.size + 1, 2, none⟩ e = w2 at hb g2 ⊢
  have ho2 := ho.kept g2 (.inr (own_blk_ne ho hrb (by decide)))
  obtain ⟨A', c', hv, hE, -⟩ := ER.of_own ho2 (by omega)
  injection hv with h1 h2 h3
  subst h1 h3
  exact ⟨hs.1, hE, fun k hk => ⟨(hs.2.2 k hk).1, (hs.2.2 k hk).2.1, rowI.ir ((hr k hk).1.kept g2 (.inr (own_blk_ne (hr k hk).1 hrb (by decide)))), rowI.ir ((hr k hk).2.kept g2 (.inr (own_blk_ne (hr k hk).2 hrb (by decide))))⟩⟩
end Go.Proofs.Ytlhekifmkkgjlaa
/- Chapter 8, the reference: in, Rests. -/
namespace Go.Proofs.Ytlhekifmkkgjlaa
open Go Go.RowKit Go.Shelf
set_option maxHeartbeats 4000000
set_option maxRecDepth 100000
def inB (n a b : Int) : Bool := decide (a ≤ n) && decide (n ≤ b)
theorem refIn_any (n a b : Int) (w : World) : Calls Try.prog 70 #[.int .i64 n, .int .i64 a, .int .i64 b] w fun e w' => e = .returned (.bool (inB n a b)) ∧ w = w' := by
  by_cases h1 : a ≤ n
  · go_enter Try.func70, Try.ntmps70
    go_wp2_with fail
    go_ret
    exact ⟨by simp [inB, h1], rfl⟩
  · have hx : inB n a b = false := by simp [inB, h1]
    have HX := hide hx
    clear hx
    go_enter Try.func70, Try.ntmps70
    go_wp2_with fail
    go_ret
    exact ⟨by rw [HX.out]; rfl, rfl⟩
/-- the cells below k on which a brick rests -/
def restTo (s : Stk) (t : Nat) (b : Int) (k : Nat) : List Nat := (cellsTo (s.cf t) b k).filter fun c => covB s ((t : Int) - 1) c
theorem restTo_all (s : Stk) (t : Nat) (b : Int) : restTo s t b (s.cn t) = restL s t b := rfl
theorem restTo_no {s : Stk} {t : Nat} {b : Int} {k : Nat} (h : s.cf t k ≠ b) : restTo s t b (k + 1) = restTo s t b k := by unfold restTo; rw [cellsTo_no h]
theorem restTo_off {s : Stk} {t : Nat} {b : Int} {k : Nat} (h : s.cf t k = b) (hc : covB s ((t : Int) - 1) k = false) : restTo s t b (k + 1) = restTo s t b k := by
  unfold restTo; rw [cellsTo_yes h, List.filter_append, List.filter_cons_of_neg (by simp [hc]), List.filter_nil, List.append_nil]
theorem restTo_on {s : Stk} {t : Nat} {b : Int} {k : Nat} (h : s.cf t k = b) (hc : covB s ((t : Int) - 1) k = true) : restTo s t b (k + 1) = restTo s t b k ++ [k] := by
  unfold restTo; rw [cellsTo_yes h, List.filter_append, List.filter_cons_of_pos (by simp [hc]), List.filter_nil]
theorem restTo_len (s : Stk) (t : Nat) (b : Int) (k : Nat) : (restTo s t b k).length ≤ k := Nat.le_trans (List.length_filter_le _ _) (cellsTo_len _ _ _)
def RestInv (w : World) (s : Stk) (t : Nat) (b : Int) (k : Nat) (v : Value) (wr : World) : Prop :=
  Below w.heap.size w wr ∧ Blk wr w.heap.size 55 #[.int .i64 s.wd, .int .i64 s.hg, .slice s.A s.nt s.cap] ∧ wr.ownsRow w.heap.size 3 1 v (restTo s t b k).length ((restTo s t b k).map iv')
theorem RestInv.push {w wr w2 : World} {s : Stk} {t : Nat} {b : Int} {k : Nat} {v v' : Value} (h : RestInv w s t b k v wr) (he : restTo s t b (k + 1) = restTo s t b k ++ [k]) (hg : (wr.alloc (.cells #[.int .i64 k] 3)).grownBy w2 v.ownBlock)
    (ho : w2.ownsRow w.heap.size 3 1 v' ((restTo s t b k).length + 1) ((restTo s t b k).map iv' ++ [.int .i64 k])) : RestInv w s t b (k + 1) v' w2 := by
  obtain ⟨h1, h2, h3⟩ := h
  have h4 := World.ownsRow.alloc h3 (.cells #[.int .i64 k] 3)
  have h5 := h2.alloc (.cells #[.int .i64 k] 3)
  refine ⟨(h1.alloc h1.size _).grown hg (by have := h1.size; simp; omega) (fun j hj => (h3.lt j hj).1), h5.grown hg (fun e => own_blk_ne h4 h5 (by decide) e.symm), ?_⟩
  rw [he, List.length_append, List.map_append]
  exact ho
theorem refRests_any (s : Stk) (t : Nat) (b : Int) (w : World) (hs : StkR w w.heap.size s) (ht : t < s.nt) (hc : ∀ k, k < s.nt → s.cn k = s.cn t) :
    Calls Try.prog 71 #[.agg #[.int .i64 s.wd, .int .i64 s.hg, .slice s.A s.nt s.cap], .int .i64 t, .int .i64 b] w (RestsPost s t b w) := by
  obtain ⟨i0, hi, hz0, hz1, hz2⟩ := info_parts info_int
  have HI := hide (show _ ∧ _ ∧ _ ∧ _ from ⟨hi, hz0, hz1, hz2⟩)
  obtain ⟨tb, toff, hA, htb, hu, -⟩ := P2.at_ hs.2.1 ht
  obtain ⟨m1, -, hI, -⟩ := hs.2.2 t ht
  have m0 := hs.1
  unfold Stk.u at hu
  have HII := hide hI
  have HSS := hide hs
  have HCC := hide hc
  have HU := hide hu
  have HAA := hide hA
  have i1 : (0 : Int) ≤ (t : Int) := by omega
  have i2 : (t : Int) < (s.nt : Int) := by omega
  clear hi hz0 hz1 hz2 hs hc hI hu hA
  go_enter Try.func71, Try.ntmps71
  go_wp2_with fail
  have HR0 : Hid (RestInv w s t b 0 (.slice (some ⟨w.heap.size + 1, 0, none⟩) 0 0) ((w.alloc (.cells #[.int .i64 s.wd, .int .i64 s.hg, .slice s.A s.nt s.cap] 55)).alloc (.cells #[] 3))) := hide ⟨((Below.refl _ _).alloc (Nat.le_refl _) _).alloc (by simp) _, (Blk.new w _ _).alloc _, by
    have h := own_empty (w.alloc (.cells #[.int .i64 s.wd, .int .i64 s.hg, .slice s.A s.nt s.cap] 55)) 3 1
    simp only [World.size_alloc] at h
    exact ownMono h (by omega)⟩
  generalize ((w.alloc (.cells #[.int .i64 s.wd, .int .i64 s.hg, .slice s.A s.nt s.cap] 55)).alloc (.cells #[] 3)) = W0 at HR0 ⊢
  go_loopw [7, 8] (fun v i wr => ∃ k : Nat, i = .int .i64 k ∧ k ≤ s.cn t ∧ Hid (RestInv w s t b k v wr)) (fun _ i _ => s.cn t - (intOf i).toNat)
  case atStart => exact ⟨0, rfl, by omega, HR0⟩
  case round =>
    obtain ⟨k, rfl, hk, HR⟩ := hrel
    obtain ⟨a0, a1, a2, a3, -, -, -⟩ := blk3 HR.out.2.1
    rw [HAA.out] at a3
    have u1 := (HR.out.1.cell (p := ⟨tb, toff + t * 2, none⟩) htb).trans HU.out
    have l1 := restTo_len s t b k
    by_cases hlt : k < s.cn t
    · obtain ⟨cb, coff, hca, hcb, hcc⟩ := (HII.out.below HR.out.1 (Nat.le_refl _)).at_ hlt
      rw [hca] at u1
      have j1 : (0 : Int) ≤ (k : Int) := by omega
      have j2 : (k : Int) < (s.cn t : Int) := by omega
      obtain ⟨vA, vc, rfl⟩ := own_shape HR.out.2.2
      by_cases hx : s.cf t k = b
      · have HX := hide hx
        have hxb : (s.cf t k == b) = true := by simpa using hx
        clear hx
        by_cases ht0 : t = 0
        · have HV : Hid (covB s ((t : Int) - 1) k = true) := hide (by unfold covB; rw [decide_eq_true (by omega), Bool.true_or])
          have ht1 : ((t : Int) == 0) = true := by simp [ht0]
          clear ht0
          go_wp2_with (at_builtin; refine wpList_append_own _ rfl _ _ 56 rfl w.heap.size 3 i0 (.int .i64 0) 1 8 Try.underlying56 HI.out.1 HI.out.2.1 HI.out.2.2.1 HI.out.2.2.2 rfl (by decide) _ _ _ rfl (HR.out.2.2.alloc _) ⟨wr.heap.size, 0, none⟩ 1 1 [.int .i64 k] rfl rfl (cell_one_new _ _ _) (by simp [Value.oneCell']) (by unfold maxLen; omega) (by omega) (by have := HR.out.1.size; simp; omega) ?_; intro v2 w2 hown2 hg2 _; have HN := hide (HR.out.push (restTo_on HX.out HV.out) hg2 hown2); clear hown2 hg2)
          go_roundw
          case rel => exact ⟨k + 1, by go_num, by omega, HN⟩
          case measure => simp [intOf]; omega
        · have ht1 : ((t : Int) == 0) = false := by simp; omega
          obtain ⟨tb2, toff2, hA2, htb2, hu2, -⟩ := P2.at_ HSS.out.2.1 (show t - 1 < s.nt by omega)
          obtain ⟨-, -, hI2, -⟩ := HSS.out.2.2 (t - 1) (by omega)
          rw [HAA.out] at hA2
          injection hA2 with hA2
          injection hA2 with hA2 hA3
          subst hA2 hA3
          unfold Stk.u at hu2
          obtain ⟨cb2, coff2, hca2, hcb2, hcc2⟩ := (hI2.below HR.out.1 (Nat.le_refl _)).at_ (show k < s.cn (t - 1) by rw [HCC.out _ (by omega)]; exact hlt)
          have u2 := (HR.out.1.cell (p := ⟨tb, toff + (t - 1) * 2, none⟩) htb2).trans hu2
          rw [hca2, HCC.out (t - 1) (by omega)] at u2
          have ht3 : ((t : Int) - 1).toNat = t - 1 := by omega
          have ht4 : (0 : Int) ≤ (t : Int) - 1 := by omega
          have hcv : covB s ((t : Int) - 1) k = decide (0 ≤ s.cf (t - 1) k) := by
            unfold covB; rw [decide_eq_false (by omega), decide_eq_true (by omega), Bool.false_or, Bool.true_and, ht3]
          by_cases hcov : 0 ≤ s.cf (t - 1) k
          · have HV : Hid (covB s ((t : Int) - 1) k = true) := hide (by rw [hcv]; exact decide_eq_true hcov)
            clear hcv hu2 hI2 ht0
            go_wp2_with (at_builtin; refine wpList_append_own _ rfl _ _ 56 rfl w.heap.size 3 i0 (.int .i64 0) 1 8 Try.underlying56 HI.out.1 HI.out.2.1 HI.out.2.2.1 HI.out.2.2.2 rfl (by decide) _ _ _ rfl (HR.out.2.2.alloc _) ⟨wr.heap.size, 0, none⟩ 1 1 [.int .i64 k] rfl rfl (cell_one_new _ _ _) (by simp [Value.oneCell']) (by unfold maxLen; omega) (by omega) (by have := HR.out.1.size; simp; omega) ?_; intro v2 w2 hown2 hg2 _; have HN := hide (HR.out.push (restTo_on HX.out HV.out) hg2 hown2); clear hown2 hg2)
            go_roundw
            case rel => exact ⟨k + 1, by go_num, by omega, HN⟩
            case measure => simp [intOf]; omega
          · have HV : Hid (covB s ((t : Int) - 1) k = false) := hide (by rw [hcv]; exact decide_eq_false hcov)
            clear hcv hu2 hI2 ht0
            have HN : Hid (RestInv w s t b (k + 1) (.slice vA (restTo s t b k).length vc) wr) := hide ⟨HR.out.1, HR.out.2.1, by rw [restTo_off HX.out HV.out]; exact HR.out.2.2⟩
            go_wp2_with fail
            go_roundw
            case rel => exact ⟨k + 1, by go_num, by omega, HN⟩
            case measure => simp [intOf]; omega
      · have HX := hide hx
        have hxb : (s.cf t k == b) = false := by simpa using hx
        clear hx
        have HN : Hid (RestInv w s t b (k + 1) (.slice vA (restTo s t b k).length vc) wr) := hide ⟨HR.out.1, HR.out.2.1, by rw [restTo_no HX.out]; exact HR.out.2.2⟩
        go_wp2_with fail
        go_roundw
        case rel => exact ⟨k + 1, by go_num, by omega, HN⟩
        case measure => simp [intOf]; omega
    · obtain rfl : k = s.cn t := by omega
      obtain ⟨vA, vc, rfl⟩ := own_shape HR.out.2.2
      go_wp2_with fail
      go_ret
      exact ⟨_, rfl, by have h := HR.out.2.2; rw [restTo_all] at h; exact h, HR.out.1⟩
end Go.Proofs.Ytlhekifmkkgjlaa
/- The reference's Free, walked. -/
namespace Go.Proofs.Ytlhekifmkkgjlaa
open Go Go.RowKit Go.Shelf
set_option maxHeartbeats 4000000
set_option maxRecDepth 100000
theorem info_brick : (Try.prog.info? 59).map (fun i => (i.zero, i.size, i.bytes)) = some (some (.agg #[.int .i64 0, .int .i64 0]), 2, 16) := by kernel_rfl
theorem cell_two_new (w : World) (x y : Value) (e : TypeId) : ∀ (j : Nat) (u : Value), [x, y][j]? = some u → (w.alloc (.cells #[x, y] e)).cell? ((⟨w.heap.size, 0, none⟩ : Addr).add j) = some u := by
  intro j u h
  have hB := Blk.new w e #[x, y]
  match j, h with
  | 0, h => simpa [Addr.add] using (show (w.alloc (.cells #[x, y] e)).cell? ⟨w.heap.size, 0, none⟩ = some u by rw [hB.cell]; simpa using h)
  | 1, h => simpa [Addr.add] using (show (w.alloc (.cells #[x, y] e)).cell? ⟨w.heap.size, 1, none⟩ = some u by rw [hB.cell]; simpa using h)
  | j + 2, h => simp at h
/-- an own list of bricks -/
def OwnB (W : World) (n0 : Nat) (v : Value) (l : List (Nat × Nat)) : Prop := W.ownsRow n0 59 2 v l.length (cellsL l)
def FI (w : World) (s : Stk) (l : List (Nat × Nat)) (v : Value) (wr : World) : Prop :=
  Below w.heap.size w wr ∧ Blk wr w.heap.size 55 #[.int .i64 s.wd, .int .i64 s.hg, .slice s.A s.nt s.cap] ∧ OwnB wr w.heap.size v l
theorem FI.push {w wr w2 : World} {s : Stk} {l : List (Nat × Nat)} {v v' : Value} {t j : Nat} (h : FI w s l v wr) (hg : (wr.alloc (.cells #[.int .i64 t, .int .i64 j] 59)).grownBy w2 v.ownBlock)
    (ho : w2.ownsRow w.heap.size 59 2 v' (l.length + 1) (cellsL l ++ [.int .i64 t, .int .i64 j])) : FI w s (l ++ [(t, j)]) v' w2 := by
  obtain ⟨h1, h2, h3⟩ := h
  have h4 := World.ownsRow.alloc h3 (.cells #[.int .i64 t, .int .i64 j] 59)
  have h5 := h2.alloc (.cells #[.int .i64 t, .int .i64 j] 59)
  refine ⟨(h1.alloc h1.size _).grown hg (by have := h1.size; simp; omega) (fun j hj => (World.ownsRow.lt h3 j hj).1), h5.grown hg (fun e => own_blk_ne h4 h5 (by decide) e.symm), ?_⟩
  unfold OwnB
  rw [cellsL_append, List.length_append]
  exact ho
theorem freeRow_len (s : Stk) (t j : Nat) : (freeRow s t j).length ≤ j := by
  unfold freeRow
  refine Nat.le_trans (List.length_filter_le _ _) ?_
  simp [rowTo]
def RefFreePost (s : Stk) (w : World) (e : Ending) (w' : World) : Prop := ∃ v, e = .returned v ∧ OwnB w' w.heap.size v (freeDn s s.nt) ∧ Below w.heap.size w w'
theorem refFree_any (s : Stk) (m : Nat) (w : World) (hs : StkR w w.heap.size s) (hc : ∀ k, k < s.nt → s.cn k = m) (hb : ∀ r, r ≤ s.nt → (freeDn s r).length ≤ 1000000) (hw : ∀ t, t < s.nt → s.wn t ≤ 1000000) :
    Calls Try.prog 49 #[.agg #[.int .i64 s.wd, .int .i64 s.hg, .slice s.A s.nt s.cap]] w (RefFreePost s w) := by
  obtain ⟨i0, hi, hz0, hz1, hz2⟩ := info_parts info_brick
  have HI := hide (show _ ∧ _ ∧ _ ∧ _ from ⟨hi, hz0, hz1, hz2⟩)
  have m0 := hs.1
  have HSS := hide hs
  have HCC := hide hc
  have HBB := hide hb
  have HWW := hide hw
  clear hi hz0 hz1 hz2 hs hc hb hw
  have w0 : IntKind.i64.wrap ((s.nt : Int) - 1) = (s.nt : Int) - 1 := IntWalk.i64_in _ (by omega)
  go_enter Try.func49, Try.ntmps49
  go_wp2_with fail
  have HR0 : Hid (FI w s (freeDn s 0) (.slice (some ⟨w.heap.size + 1, 0, none⟩) 0 0) ((w.alloc (.cells #[.int .i64 s.wd, .int .i64 s.hg, .slice s.A s.nt s.cap] 55)).alloc (.cells #[] 59))) := hide ⟨((Below.refl _ _).alloc (Nat.le_refl _) _).alloc (by simp) _, (Blk.new w _ _).alloc _, by
    have h := own_empty (w.alloc (.cells #[.int .i64 s.wd, .int .i64 s.hg, .slice s.A s.nt s.cap] 55)) 59 2
    simp only [World.size_alloc] at h
    exact ownMono h (by omega)⟩
  generalize ((w.alloc (.cells #[.int .i64 s.wd, .int .i64 s.hg, .slice s.A s.nt s.cap] 55)).alloc (.cells #[] 59)) = W0 at HR0 ⊢
  clear w0
  go_loopw [3, 4] (fun v x wr => ∃ (r : Nat) (iv : Int), x = .int .i64 iv ∧ iv = (s.nt : Int) - 1 - r ∧ r ≤ s.nt ∧ Hid (FI w s (freeDn s r) v wr)) (fun _ x _ => (intOf x + 1).toNat)
  case atStart => exact ⟨0, _, rfl, by omega, by omega, HR0⟩
  case round =>
    obtain ⟨r, iv, rfl, hiv, hr, HR⟩ := hrel
    by_cases h0 : r = s.nt
    · have hv0 : iv = -1 := by omega
      subst hv0
      clear hiv
      have HE := hide h0
      clear h0
      go_wp2_with fail
      go_ret
      exact ⟨_, rfl, by rw [← HE.out]; exact HR.out.2.2, HR.out.1⟩
    · obtain ⟨t, ht⟩ : ∃ t : Nat, t + 1 + r = s.nt := ⟨s.nt - 1 - r, by omega⟩
      have hv0 : iv = (t : Int) := by omega
      clear hiv
      subst hv0
      have HTR := hide ht
      have hlt : t < s.nt := by omega
      clear ht h0
      obtain ⟨tb, toff, hA, htb, hu, hvv⟩ := P2.at_ HSS.out.2.1 hlt
      obtain ⟨l1, l2, hIc, hIw⟩ := HSS.out.2.2 t hlt
      have HAA := hide hA
      have HIC := hide hIc
      unfold Stk.u at hu
      unfold Stk.v at hvv
      have HU := hide hu
      have HV := hide hvv
      clear hA hIc hIw hu hvv
      have i1 : (0 : Int) ≤ (t : Int) := by omega
      have i2 : (t : Int) < (s.nt : Int) := by omega
      go_wp2_with fail
      obtain ⟨wo, hwo⟩ : ∃ wo, wo = wr := ⟨_, rfl⟩
      subst hwo
      go_loopw [3, 5] (fun v x wr => ∃ j : Nat, x = .int .i64 j ∧ j ≤ s.wn t ∧ Hid (FI w s (freeDn s r ++ freeRow s t j) v wr)) (fun _ x _ => s.wn t - (intOf x).toNat)
      case atStart => exact ⟨0, rfl, by omega, hide (by rw [show freeRow s t 0 = [] from rfl, List.append_nil]; exact HR.out)⟩
      case round =>
        obtain ⟨j, rfl, hj, HR⟩ := hrel
        obtain ⟨a0, a1, a2, a3, -, -, -⟩ := blk3 HR.out.2.1
        rw [HAA.out] at a3
        have u1 := (HR.out.1.cell (p := ⟨tb, toff + t * 2, none⟩) htb).trans HU.out
        have u2 := (HR.out.1.cell (p := ⟨tb, toff + t * 2 + 1, none⟩) htb).trans HV.out
        by_cases hlt2 : j < s.wn t
        · obtain ⟨w1, hw1⟩ : ∃ w1, w1 = wr := ⟨_, rfl⟩
          subst hw1
          have hj' : (j : Int) < (s.wn t : Int) := by omega
          go_wp2_with fail
          go_loopw [6, 7] (fun ok x wr => ∃ c : Nat, ok = .bool (freeTo s t j c) ∧ x = .int .i64 c ∧ c ≤ s.cn t ∧ w1 = wr) (fun _ x _ => s.cn t - (intOf x).toNat)
          case atStart => exact ⟨0, rfl, rfl, by omega, rfl⟩
          case round =>
            obtain ⟨c, rfl, rfl, hc, rfl⟩ := hrel
            by_cases hlt3 : c < s.cn t
            · -- BEGIN1
              obtain ⟨cb, coff, hca, hcb, hcc⟩ := (HIC.out.below HR.out.1 (Nat.le_refl _)).at_ hlt3
              rw [hca] at u1
              have j1 : (0 : Int) ≤ (c : Int) := by omega
              have j2 : (c : Int) < (s.cn t : Int) := by omega
              have HST := hide (show freeTo s t j (c + 1) = (freeTo s t j c && !(decide (s.cf t c = (j : Int)) && lieB s t c)) from rfl)
              generalize freeTo s t j c = q at HST
              by_cases hx : s.cf t c = (j : Int)
              · have hxb : (s.cf t c == (j : Int)) = true := by simpa using hx
                have HX := hide hx
                clear hx
                obtain ⟨T, hT⟩ : ∃ T : Nat, T = t + 1 := ⟨_, rfl⟩
                have w2 : IntKind.i64.wrap ((t : Int) + 1) = (T : Int) := by rw [IntWalk.i64_in _ (by omega)]; omega
                by_cases hTn : T < s.nt
                · have hTn' : (T : Int) < (s.nt : Int) := by omega
                  have hT0 : (0 : Int) ≤ (T : Int) := by omega
                  obtain ⟨tb2, toff2, hA2, htb2, hu2, -⟩ := P2.at_ HSS.out.2.1 hTn
                  rw [HAA.out] at hA2
                  injection hA2 with hA2
                  injection hA2 with q1 q2
                  subst q1 q2
                  obtain ⟨-, -, hI2, -⟩ := HSS.out.2.2 T hTn
                  have hcn : s.cn T = s.cn t := (HCC.out T hTn).trans (HCC.out t hlt).symm
                  obtain ⟨cb2, coff2, hca2, hcb2, hcc2⟩ := (hI2.below HR.out.1 (Nat.le_refl _)).at_ (show c < s.cn T by omega)
                  unfold Stk.u at hu2
                  have u3 := (HR.out.1.cell (p := ⟨tb, toff + T * 2, none⟩) htb).trans hu2
                  rw [hca2] at u3
                  have j3 : (c : Int) < (s.cn T : Int) := by omega
                  have HTT := hide hT
                  have HTN := hide hTn
                  clear hu2 hI2 hca2 hT hTn hcn
                  by_cases hl : 0 ≤ s.cf T c
                  · have HN : Hid (freeTo s t j (c + 1) = false) := hide (by
                      rw [HST.out, decide_eq_true HX.out]; unfold lieB; rw [← HTT.out, decide_eq_true HTN.out, decide_eq_true hl]; cases q <;> rfl)
                    go_wp2_with fail
                    go_roundw
                    case rel => exact ⟨c + 1, by rw [HN.out], by go_num, by omega, by trivial⟩
                    case measure => simp [intOf]; omega
                  · have HN : Hid (freeTo s t j (c + 1) = q) := hide (by
                      rw [HST.out, decide_eq_true HX.out]; unfold lieB; rw [← HTT.out, decide_eq_true HTN.out, decide_eq_false hl]; cases q <;> rfl)
                    go_wp2_with fail
                    go_roundw
                    case rel => exact ⟨c + 1, by rw [HN.out], by go_num, by omega, by trivial⟩
                    case measure => simp [intOf]; omega
                · have hTn' : ¬ (T : Int) < (s.nt : Int) := by omega
                  have HN : Hid (freeTo s t j (c + 1) = q) := hide (by
                    rw [HST.out, decide_eq_true HX.out]; unfold lieB; rw [← hT, decide_eq_false hTn]; cases q <;> rfl)
                  clear hT hTn
                  go_wp2_with fail
                  go_roundw
                  case rel => exact ⟨c + 1, by rw [HN.out], by go_num, by omega, by trivial⟩
                  case measure => simp [intOf]; omega
              · have hxb : (s.cf t c == (j : Int)) = false := by simpa using hx
                have HN : Hid (freeTo s t j (c + 1) = q) := hide (by rw [HST.out, decide_eq_false hx]; cases q <;> rfl)
                clear hx
                go_wp2_with fail
                go_roundw
                case rel => exact ⟨c + 1, by rw [HN.out], by go_num, by omega, by trivial⟩
                case measure => simp [intOf]; omega
              -- END1
            · obtain ⟨CN, hCN⟩ : ∃ CN, CN = s.cn t := ⟨_, rfl⟩
              have hcn : c = CN := by omega
              subst hcn
              have hc2 : ¬ (c : Int) < (s.cn t : Int) := by omega
              have HFB := hide (show freeB s (t, j) = freeTo s t j c by unfold freeB; rw [hCN])
              generalize freeTo s t j c = q at HFB
              clear hCN hc hlt3
              rcases q with _ | _
              · -- BEGIN2
                go_wp2_with fail
                go_roundw
                case rel => exact ⟨j + 1, by go_num, by omega, hide (by rw [freeRow_no HFB.out]; exact HR.out)⟩
                case measure => simp [intOf]; omega
                -- END2
              · -- BEGIN3
                have hln : (freeDn s r ++ freeRow s t j).length ≤ 2000000 := by
                  rw [List.length_append]
                  have := HBB.out r hr
                  have := freeRow_len s t j
                  have := HWW.out t hlt
                  omega
                obtain ⟨vA, vc, hv⟩ := own_shape HR.out.2.2
                subst hv
                go_wp2_with (at_builtin; refine wpList_append_own _ rfl _ _ 112 rfl w.heap.size 59 i0 (.agg #[.int .i64 0, .int .i64 0]) 2 16 Try.underlying112 HI.out.1 HI.out.2.1 HI.out.2.2.1 HI.out.2.2.2 rfl (by decide) _ _ _ rfl (World.ownsRow.alloc HR.out.2.2 _) ⟨w1.heap.size, 0, none⟩ 1 1 [.int .i64 t, .int .i64 j] rfl rfl (cell_two_new _ _ _ _) (by simp [Value.oneCell']) (by unfold maxLen; omega) (by omega) (by have := HR.out.1.size; simp; omega) ?_; intro v2 w2 hown2 hg2 _; have HN := hide (HR.out.push hg2 hown2); clear hown2 hg2)
                go_roundw
                case rel => exact ⟨j + 1, by go_num, by omega, hide (by rw [freeRow_yes HFB.out, ← List.append_assoc]; exact HN.out)⟩
                case measure => simp [intOf]; omega
                -- END3
        · obtain ⟨WN, hWN⟩ : ∃ WN, WN = s.wn t := ⟨_, rfl⟩
          have hjn : j = WN := by omega
          subst hjn
          have hj' : ¬ (j : Int) < (s.wn t : Int) := by omega
          have HWN := hide hWN
          have w2 : IntKind.i64.wrap ((t : Int) - 1) = (t : Int) - 1 := IntWalk.i64_in _ (by omega)
          clear hWN hj hlt2
          go_wp2_with fail
          go_roundw
          case rel => exact ⟨r + 1, (t : Int) - 1, rfl, by have := HTR.out; omega, by have := HTR.out; omega, hide (by
            show FI w s (freeDn s r ++ freeRow s (s.nt - 1 - r) (s.wn (s.nt - 1 - r))) _ _
            rw [show s.nt - 1 - r = t by have := HTR.out; omega, ← HWN.out]
            exact HR.out)⟩
          case measure => first | (simp [intOf]; omega) | simp [intOf]
end Go.Proofs.Ytlhekifmkkgjlaa
/- kiln.Hangs walked; slices.SortStableFunc at no bricks; Free's bricks, plain: sorted as the reference lists them. -/
namespace Go.Proofs.Ytlhekifmkkgjlaa
open Go Go.RowKit Go.Shelf
set_option maxHeartbeats 2000000
set_option maxRecDepth 100000
/-- what Hangs answers -/
def hgA (s : Stk) : Int × Int := if stackB s = true then hangF s else (0, 0)
theorem Hangs_any (s : Stk) (w : World) (hs : StkR w w.heap.size s) :
    Calls Try.prog 46 #[.agg #[.int .i64 s.wd, .int .i64 s.hg, .slice s.A s.nt s.cap]] w fun e w' => e = .returned (.tuple #[brV (hgA s), .int .i64 (stkE s)]) ∧ Below w.heap.size w w' := by
  have HB := hide (((Below.refl w.heap.size w).alloc (Nat.le_refl _) (.cells #[.int .i64 s.wd, .int .i64 s.hg, .slice s.A s.nt s.cap] 55)).alloc (by simp) (.cells #[.int .i64 0, .int .i64 0] 59))
  have K0 := hide ((Blk.new w 55 #[.int .i64 s.wd, .int .i64 s.hg, .slice s.A s.nt s.cap]).alloc (.cells #[.int .i64 0, .int .i64 0] 59))
  have K1 := hide (Blk.new (w.alloc (.cells #[.int .i64 s.wd, .int .i64 s.hg, .slice s.A s.nt s.cap] 55)) 59 #[.int .i64 0, .int .i64 0])
  have HC := hide (newPile_any s ((w.alloc (.cells #[.int .i64 s.wd, .int .i64 s.hg, .slice s.A s.nt s.cap] 55)).alloc (.cells #[.int .i64 0, .int .i64 0] 59)) ((hs.below HB.out (Nat.le_refl _)).more HB.out.size))
  have hsz : (w.alloc (.cells #[.int .i64 s.wd, .int .i64 s.hg, .slice s.A s.nt s.cap] 55)).heap.size = w.heap.size + 1 := by simp
  rw [hsz] at K1
  clear hsz
  rcases h : stackB s with _ | _
  · have hA : hgA s = (0, 0) := by unfold hgA; rw [h, if_neg (by simp)]
    rw [hA]
    rw [stkE_no h] at HC ⊢
    clear h hs hA
    unfold brV
    go_enter Try.func46, Try.ntmps46
    go_wp2_with fail
    generalize ((w.alloc (.cells #[.int .i64 s.wd, .int .i64 s.hg, .slice s.A s.nt s.cap] 55)).alloc (.cells #[.int .i64 0, .int .i64 0] 59)) = W0 at HB K0 K1 HC ⊢
    refine HC.out.mono ?_
    rintro e w1 ⟨rfl, hb1⟩
    have k1 := K1.out.ext hb1
    have K2 := hide (k1.alloc (.cells #[.int .i64 s.wd, .int .i64 s.hg, .slice s.A s.nt s.cap] 131))
    have HB2 := hide ((HB.out.trans (hb1.mono HB.out.size)).alloc (by have := HB.out.size; have := hb1.size; omega) (.cells #[.int .i64 s.wd, .int .i64 s.hg, .slice s.A s.nt s.cap] 131))
    clear k1
    obtain ⟨b0, b1, b2, b3, b4⟩ := blk2 K2.out
    go_wp2_with fail
    generalize (w1.alloc (.cells #[.int .i64 s.wd, .int .i64 s.hg, .slice s.A s.nt s.cap] 131)) = W2 at K2 HB2 b0 b1 b2 b3 b4 ⊢
    obtain ⟨c0, c1, c2, -, -⟩ := blk2 (K2.out.set2 (.int .i64 0) (.int .i64 0))
    refine bodyPost_ret (v := .tuple #[.agg #[.int .i64 0, .int .i64 0], .int .i64 2]) (by simp [results, Try.results46, go_sem, c1, c2]) rfl ⟨rfl, ?_⟩
    exact set2B HB2.out (by omega) _ _
  · have hA : hgA s = hangF s := by unfold hgA; rw [h, if_pos rfl]
    rw [hA]
    have HH := hide (fun W (hb : Below w.heap.size w W) => hangs_any s (flr s) W ((hs.below hb (Nat.le_refl _)).more hb.size) (fun k hk => by have h1 := flr_eq h; have h2 := stack_cn h k hk; omega))
    rw [stkE_ok h] at HC ⊢
    clear h hs hA
    generalize hangF s = R at HH ⊢
    unfold brV at HH ⊢
    go_enter Try.func46, Try.ntmps46
    go_wp2_with fail
    generalize ((w.alloc (.cells #[.int .i64 s.wd, .int .i64 s.hg, .slice s.A s.nt s.cap] 55)).alloc (.cells #[.int .i64 0, .int .i64 0] 59)) = W0 at HB K0 K1 HC ⊢
    refine HC.out.mono ?_
    rintro e w1 ⟨rfl, hb1⟩
    have k1 := K1.out.ext hb1
    have K2 := hide (k1.alloc (.cells #[.int .i64 s.wd, .int .i64 s.hg, .slice s.A s.nt s.cap] 131))
    have HB2 := hide ((HB.out.trans (hb1.mono HB.out.size)).alloc (by have := HB.out.size; have := hb1.size; omega) (.cells #[.int .i64 s.wd, .int .i64 s.hg, .slice s.A s.nt s.cap] 131))
    clear k1
    obtain ⟨b0, b1, b2, b3, b4⟩ := blk2 K2.out
    have P2 := hide (Blk.new w1 131 #[.int .i64 s.wd, .int .i64 s.hg, .slice s.A s.nt s.cap])
    obtain ⟨p0, p1, p2, p3, -, -, -⟩ := blk3 P2.out
    go_wp2_with fail
    generalize (w1.alloc (.cells #[.int .i64 s.wd, .int .i64 s.hg, .slice s.A s.nt s.cap] 131)) = W2 at K2 HB2 b0 b1 b2 b3 b4 ⊢
    refine (HH.out _ HB2.out).mono ?_
    rintro e w3 ⟨rfl, hb3⟩
    have K3 := hide (K2.out.ext hb3)
    obtain ⟨d0, d1, d2, d3, d4⟩ := blk2 K3.out
    go_wp2_with fail
    obtain ⟨c0, c1, c2, -, -⟩ := blk2 (K3.out.set2 (.int .i64 R.1) (.int .i64 R.2))
    refine bodyPost_ret (v := .tuple #[.agg #[.int .i64 R.1, .int .i64 R.2], .int .i64 0]) (by simp [results, Try.results46, go_sem, c1, c2]) rfl ⟨rfl, ?_⟩
    exact set2B (HB2.out.trans (hb3.mono HB2.out.size)) (by omega) _ _
theorem insSort_nil (w : World) : Calls Try.prog 118 #[.slice none 0 0, .int .i64 0, .int .i64 0, .func (.func 96) #[] #[]] w fun e w' => e = .returned (.tuple #[]) ∧ w = w' := by
  go_enter Try.func118, Try.ntmps118
  go_wp2_with fail
  go_loop [8] (fun x => x = .int .i64 1) (fun _ => 0)
  case atStart => rfl
  obtain rfl := hrel
  go_wp2_with fail
  go_end0
  exact ⟨rfl, rfl⟩
theorem stable_nil (w : World) : Calls Try.prog 112 #[.slice none 0 0, .int .i64 0, .func (.func 96) #[] #[]] w fun e w' => e = .returned (.tuple #[]) ∧ w = w' := by
  go_enter Try.func112, Try.ntmps112
  go_wp2_with fail
  go_loop [7, 8] (fun x y => x = .int .i64 0 ∧ y = .int .i64 20) (fun _ _ => 0)
  case atStart => exact ⟨rfl, rfl⟩
  obtain ⟨rfl, rfl⟩ := hrel
  go_wp2_with fail
  refine (insSort_nil _).mono ?_
  rintro e w5 ⟨rfl, rfl⟩
  go_wp2_with fail
  go_loop [6] (fun x => x = .int .i64 20) (fun _ => 0)
  case atStart => rfl
  obtain rfl := hrel
  go_wp2_with fail
  go_end0
  exact ⟨rfl, rfl⟩
theorem sortStable_nil (w : World) : Calls Try.prog 95 #[.slice none 0 0, .func (.func 96) #[] #[]] w fun e w' => e = .returned (.tuple #[]) ∧ w = w' := by
  go_enter Try.func95, Try.ntmps95
  go_wp2_with fail
  refine (stable_nil _).mono ?_
  rintro e w5 ⟨rfl, rfl⟩
  go_wp2_with fail
  go_end0
  exact ⟨rfl, rfl⟩
/-- a brick as the program holds it -/
def bkI (p : Nat × Nat) : Int × Int := ((p.1 : Int), (p.2 : Int))
def bkLtI (x y : Int × Int) : Prop := y.1 < x.1 ∨ (x.1 = y.1 ∧ x.2 < y.2)
theorem bkO : Ord2 bkLess bkLtI := ⟨fun x y z h1 h2 => by
  unfold bkLtI at *
  rcases h1 with h1 | ⟨h1, h3⟩ <;> rcases h2 with h2 | ⟨h2, h4⟩ <;> omega⟩
theorem bkI_lt {p q : Nat × Nat} (h : bkLt p q) : bkLtI (bkI p) (bkI q) := by
  unfold bkLtI bkI
  rcases h with h | ⟨h1, h2⟩
  · exact .inl (by dsimp only; omega)
  · exact .inr ⟨by dsimp only; omega, by dsimp only; omega⟩
/-- the lowest tier first -/
def bkUp (x y : Nat × Nat) : Prop := x.1 < y.1 ∨ (x.1 = y.1 ∧ x.2 < y.2)
theorem bricksTo_up (wn : Nat → Nat) (k : Nat) : (bricksTo wn k).Pairwise bkUp := by
  induction k with
  | zero => exact List.Pairwise.nil
  | succ k ih =>
    rw [bricksTo_succ, List.pairwise_append]
    refine ⟨ih, ?_, fun x hx y hy => .inl ?_⟩
    · unfold rowTo
      rw [List.pairwise_map]
      exact List.Pairwise.imp (fun h => .inr ⟨rfl, h⟩) List.pairwise_lt_range
    · have h1 := ((mem_bricksTo wn k x.1 x.2).1 hx).1
      unfold rowTo at hy
      obtain ⟨i, -, rfl⟩ := List.mem_map.1 hy
      exact h1
theorem freeAsc_up (s : Stk) (k : Nat) : (freeAsc s k).Pairwise bkUp := List.Pairwise.filter _ (bricksTo_up _ _)
theorem freeAsc_tier {s : Stk} {k : Nat} {p : Nat × Nat} (h : p ∈ freeAsc s k) : p.1 < k := ((mem_bricksTo _ _ _ _).1 (List.mem_filter.1 h).1).1
theorem free_ahead {p q : Nat × Nat} (h : bkUp p q) (hp : p.1 ≤ 1000000) (hq : q.1 ≤ 1000000) : Ahead bkLess bkLtI (bkI p) (bkI q) := by
  have e : wrap64 (((bkI p).1) - (bkI q).1) = (p.1 : Int) - q.1 := by
    show wrap64 ((p.1 : Int) - q.1) = _
    exact IntWalk.wrap64_in _ ⟨by omega, by omega⟩
  unfold Ahead bkLess
  rw [e, decide_eq_false_iff_not, decide_eq_true_eq]
  unfold bkLtI bkI
  dsimp only
  rcases h with h | ⟨h1, h2⟩
  · exact ⟨fun h3 => by omega, fun _ => .inl (by omega)⟩
  · exact ⟨fun _ => .inr ⟨by omega, by omega⟩, fun h3 => by omega⟩
/-- a list as a row -/
def rowOf (l : List (Nat × Nat)) (k : Nat) : Int × Int := bkI (l.getD k (0, 1))
theorem seg_rowOf (l : List (Nat × Nat)) : seg (rowOf l) 0 l.length = l.map bkI := by
  apply List.ext_getElem
  · rw [seg_length, List.length_map]; omega
  · intro i h1 h2
    rw [seg_get, List.getElem_map]
    unfold rowOf
    rw [List.length_map] at h2
    rw [Nat.zero_add, List.getD_eq_getElem?_getD, List.getElem?_eq_getElem h2]
    rfl
theorem rowOf_ahead (s : Stk) (hn : s.nt ≤ 1000000) : ∀ x y, x < y → y < (freeAsc s s.nt).length → Ahead bkLess bkLtI (rowOf (freeAsc s s.nt) x) (rowOf (freeAsc s s.nt) y) := by
  intro x y h1 h2
  have hx : x < (freeAsc s s.nt).length := by omega
  have h3 := List.pairwise_iff_getElem.1 (freeAsc_up s s.nt) x y hx h2 h1
  unfold rowOf
  rw [List.getD_eq_getElem?_getD, List.getElem?_eq_getElem hx, List.getD_eq_getElem?_getD, List.getElem?_eq_getElem h2]
  refine free_ahead h3 ?_ ?_
  · have := freeAsc_tier (List.getElem_mem hx)
    show (freeAsc s s.nt)[x].1 ≤ _
    omega
  · have := freeAsc_tier (List.getElem_mem h2)
    show (freeAsc s s.nt)[y].1 ≤ _
    omega
theorem freeAsc_len (s : Stk) : (freeAsc s s.nt).length = (freeDn s s.nt).length := by
  have h := (freeDn_asc s (Nat.le_refl s.nt)).length_eq
  rw [Nat.sub_self] at h
  simpa [freeAsc, bricksTo] using h.symm
/-- sorted, the bricks stand as the reference lists them -/
theorem free_sorted (s : Stk) {f' : Nat → Int × Int} (h : MQ bkLtI (rowOf (freeAsc s s.nt)) f' 0 (freeAsc s s.nt).length) {k : Nat} (hk : k < (freeAsc s s.nt).length) : f' k = rowOf (freeDn s s.nt) k := by
  obtain ⟨⟨-, hp⟩, hs⟩ := h
  rw [seg_rowOf] at hp
  have hd : (freeDn s s.nt).Perm (freeAsc s s.nt) := by
    have h := freeDn_asc s (Nat.le_refl s.nt)
    rw [Nat.sub_self] at h
    simpa [freeAsc, bricksTo] using h
  have hd2 : ((freeDn s s.nt).map bkI).Pairwise bkLtI := by
    rw [List.pairwise_map]
    exact (freeDn_sorted s (Nat.le_refl _)).imp bkI_lt
  have he : seg f' 0 (freeAsc s s.nt).length = (freeDn s s.nt).map bkI := by
    refine List.Perm.eq_of_pairwise (le := bkLtI) ?_ hs hd2 (hp.trans (hd.map bkI).symm)
    intro a b _ _ h1 h2
    unfold bkLtI at h1 h2
    rcases h1 with h1 | ⟨h1, h3⟩ <;> rcases h2 with h2 | ⟨h2, h4⟩ <;> omega
  have h1 : (seg f' 0 (freeAsc s s.nt).length)[k]? = some (f' k) := by
    rw [List.getElem?_eq_getElem (by rw [seg_length]; omega), seg_get, Nat.zero_add]
  rw [he, List.getElem?_map] at h1
  unfold rowOf
  rw [List.getD_eq_getElem?_getD]
  have hk2 : k < (freeDn s s.nt).length := by rw [← freeAsc_len]; exact hk
  rw [List.getElem?_eq_getElem hk2] at h1 ⊢
  injection h1 with h1
  exact h1.symm
theorem freeTo_all (s : Stk) (t b n : Nat) : freeTo s t b n = (cellsTo (s.cf t) b n).all fun c => !covB s ((t : Int) + 1) c := by
  induction n with
  | zero => rfl
  | succ n ih =>
    show (freeTo s t b n && !(decide (s.cf t n = (b : Int)) && lieB s t n)) = _
    have e : lieB s t n = covB s ((t : Int) + 1) n := by
      unfold lieB covB
      have h1 : ¬ (t : Int) + 1 < 0 := by omega
      have h2 : ((t : Int) + 1).toNat = t + 1 := by omega
      rw [decide_eq_false h1, h2, Bool.false_or]
      congr 1
      rw [Bool.eq_iff_iff, decide_eq_true_eq, decide_eq_true_eq]
      omega
    rw [ih, e]
    by_cases h : s.cf t n = (b : Int)
    · rw [cellsTo_yes h, List.all_append, decide_eq_true h]; simp
    · rw [cellsTo_no h, decide_eq_false h]; simp
end Go.Proofs.Ytlhekifmkkgjlaa
/- Chapter 8: what the loads of a stack are like (no program in sight). -/
namespace Go.Proofs.Ytlhekifmkkgjlaa
open Go Go.RowKit Go.Shelf
theorem loads_step {s : Stk} {m r : Nat} (h : r < s.nt) : loadsF s m (backTo s.nt r) = tierSt s m (loadsF s m (backTo s.nt (r + 1))) r := by
  rw [backTo_succ h, loadsF_append]
theorem loads_top (s : Stk) (m : Nat) : loadsF s m (backTo s.nt s.nt) = ld0 s m := by rw [backTo_top]; rfl
theorem loads_cnt (s : Stk) (m : Nat) : ∀ d r, r + d = s.nt → ∀ k, k < s.nt → ((loadsF s m (backTo s.nt r)).1 k).length = if r ≤ k then s.wn k else 0
  | 0, r, h, k, hk => by
    obtain rfl : r = s.nt := by omega
    rw [loads_top, if_neg (by omega)]
    simp [ld0, show k ≠ s.nt by omega]
  | d + 1, r, h, k, hk => by
    have ih := loads_cnt s m d (r + 1) (by omega)
    rw [loads_step (by omega)]
    unfold tierSt
    dsimp only
    rw [upd_ne _ _ (by omega)]
    by_cases e : k = r
    · subst e
      rw [upd_same, tierR_cnt, ih k hk, if_neg (by omega), if_pos (by omega)]
      omega
    · rw [upd_ne _ _ e, ih k hk]
      by_cases l : r ≤ k
      · rw [if_pos (by omega), if_pos l]
      · rw [if_neg (by omega), if_neg l]
theorem LoadsL_len {s : Stk} {k : Nat} (hk : k < s.nt) : (LoadsL s k).length = s.wn k := by
  have h := loads_cnt s (flr s) s.nt 0 (by omega) k hk
  rw [if_pos (by omega)] at h
  exact h
theorem onBrk_ok {s : Stk} {t i : Nat} {on : List (Nat × Nat)} (ok : Bool) (ho : ∀ x ∈ on, LdOk x) : LdOk (onBrk s t i on ok).1 := by
  unfold onBrk
  generalize cellsTo (s.cf t) i (s.cn t) = cs
  have key : ∀ (cs : List Nat) (st : (Nat × Nat) × Bool), LdOk st.1 → LdOk (cs.foldl (addSt on) st).1 := by
    intro cs
    induction cs with
    | nil => intro st h; exact h
    | cons c cs ih => intro st h; rw [List.foldl_cons]; exact ih _ (addSt_ok on st c h ho)
  exact key cs _ LdOk_zero
theorem brkSt_ok {s : Stk} {t i : Nat} {on : List (Nat × Nat)} {st : List (Nat × Nat) × List (Nat × Nat) × Bool} (ho : ∀ x ∈ on, LdOk x) (hr : 0 < (restL s t i).length) (h1 : ∀ x ∈ st.1, LdOk x) (h2 : ∀ x ∈ st.2.1, LdOk x) :
    (∀ x ∈ (brkSt s t on st i).1, LdOk x) ∧ ∀ x ∈ (brkSt s t on st i).2.1, LdOk x := by
  have hon := onBrk_ok (s := s) (t := t) (i := i) st.2.2 ho
  have hdn : LdOk (dnBrk s t i (onBrk s t i on st.2.2).1) := lowS_ok _ _ (by
    show 0 < (onBrk s t i on st.2.2).1.2 * 1
    have := hon.2.1; omega)
  have hsh : LdOk (shBrk s t i (dnBrk s t i (onBrk s t i on st.2.2).1)) := lowS_ok _ _ (Nat.mul_pos hdn.2.1 hr)
  unfold brkSt
  refine ⟨layOn_ok h1 _ hsh, fun x hx => ?_⟩
  rcases List.mem_append.1 hx with hx | hx
  · exact h2 x hx
  · rw [List.mem_singleton.1 hx]; exact hon
theorem tierR_ok {s : Stk} {m t : Nat} {on l : List (Nat × Nat)} {ok : Bool} (ho : ∀ x ∈ on, LdOk x) (hl : ∀ x ∈ l, LdOk x) : ∀ k : Nat, (∀ i : Nat, i < k → 0 < (restL s t i).length) → (∀ x ∈ (tierR s m t on l ok k).1, LdOk x) ∧ ∀ x ∈ (tierR s m t on l ok k).2.1, LdOk x
  | 0, _ => ⟨fun x hx => by
      have : x = (0, 1) := (List.mem_replicate.1 (show x ∈ List.replicate m (0, 1) from hx)).2
      rw [this]; exact LdOk_zero, hl⟩
  | k + 1, hr => by
    have ih := tierR_ok (m := m) (ok := ok) ho hl k (fun i hi => hr i (by omega))
    rw [tierR_succ]
    exact brkSt_ok ho (hr k (by omega)) ih.1 ih.2
theorem loads_ok (s : Stk) (m : Nat) (hr : ∀ t i : Nat, t < s.nt → i < s.wn t → 0 < (restL s t i).length) : ∀ d r, r + d = s.nt → ∀ k, k ≤ s.nt → ∀ x ∈ (loadsF s m (backTo s.nt r)).1 k, LdOk x
  | 0, r, h, k, hk => by
    obtain rfl : r = s.nt := by omega
    rw [loads_top]
    intro x hx
    unfold ld0 at hx
    dsimp only at hx
    split at hx
    · rw [(List.mem_replicate.1 hx).2]; exact LdOk_zero
    · simp at hx
  | d + 1, r, h, k, hk => by
    have ih := loads_ok s m hr d (r + 1) (by omega)
    rw [loads_step (by omega)]
    have ht := tierR_ok (s := s) (m := m) (t := r) (ok := (loadsF s m (backTo s.nt (r + 1))).2) (ih s.nt (by omega)) (ih r (by omega)) (s.wn r) (fun i hi => hr r i (by omega) hi)
    unfold tierSt
    dsimp only
    by_cases e : k = s.nt
    · subst e
      rw [upd_same]
      exact ht.1
    · rw [upd_ne _ _ e]
      by_cases e2 : k = r
      · subst e2
        rw [upd_same]
        exact ht.2
      · rw [upd_ne _ _ e2]
        exact ih k hk
theorem LoadsL_ok {s : Stk} (hf : (hangF s).1 < 0) {k : Nat} (hk : k ≤ s.nt) : ∀ x ∈ LoadsL s k, LdOk x :=
  loads_ok s (flr s) (fun t i ht hi => by
    have h := hangF_none hf t i ht hi
    simp only [hangP, decide_eq_false_iff_not] at h
    omega) s.nt 0 (by omega) k hk
theorem firstOf_at {p : Nat → Nat → Bool} {wn : Nat → Nat} {n k i : Nat} (h1 : ∀ t j, t < k → j < wn t → p t j = false) (h2 : ∀ j, j < i → p k j = false) (hk : k < n) (hi : i < wn k) (hp : p k i = true) : firstOf p (bricksTo wn n) = ((k : Int), (i : Int)) := by
  refine firstOf_some (pre := bricksTo wn k ++ rowTo k i) (x := (k, i)) ?_ ?_ hp
  · have h := bricksTo_part wn hk (show i + 1 ≤ wn k from hi)
    rw [show rowTo k (i + 1) = rowTo k i ++ [(k, i)] by simp [rowTo, List.range_succ], ← List.append_assoc] at h
    exact h
  · rintro ⟨t, j⟩ hy
    rcases List.mem_append.1 hy with hy | hy
    · obtain ⟨a, b⟩ := (mem_bricksTo _ _ _ _).1 hy
      exact h1 t j a b
    · simp only [rowTo, List.mem_map, List.mem_range, Prod.mk.injEq] at hy
      obtain ⟨j', a, rfl, rfl⟩ := hy
      exact h2 _ a
theorem firstOf_no {p : Nat → Nat → Bool} {wn : Nat → Nat} {n : Nat} (h : ∀ t j, t < n → j < wn t → p t j = false) : firstOf p (bricksTo wn n) = (-1, -1) :=
  firstOf_none fun x hx => by
    obtain ⟨a, b⟩ := (mem_bricksTo wn n x.1 x.2).1 hx
    exact h _ _ a b
end Go.Proofs.Ytlhekifmkkgjlaa
/- Chapter 8: loads as exact numbers: what presses below is the weight of all above (no program in sight). -/
namespace Go.Proofs.Ytlhekifmkkgjlaa
open Go Go.RowKit Go.Shelf
/-- a load as a number -/
def qR (x : Nat × Nat) : Rat := (x.1 : Rat) / (x.2 : Rat)
def sumTo (f : Nat → Rat) : Nat → Rat
  | 0 => 0
  | n + 1 => sumTo f n + f n
def sumL (f : Nat → Rat) : List Nat → Rat
  | [] => 0
  | c :: l => f c + sumL f l
theorem sumL_append (f : Nat → Rat) (l m : List Nat) : sumL f (l ++ m) = sumL f l + sumL f m := by
  induction l with
  | nil => show sumL f m = 0 + sumL f m; grind
  | cons c l ih => show f c + sumL f (l ++ m) = (f c + sumL f l) + sumL f m; rw [ih]; grind
theorem sumTo_congr {f g : Nat → Rat} {n : Nat} (h : ∀ c, c < n → f c = g c) : sumTo f n = sumTo g n := by
  induction n with
  | zero => rfl
  | succ n ih => show sumTo f n + f n = sumTo g n + g n; rw [ih (fun c hc => h c (by omega)), h n (by omega)]
theorem sumTo_add (f g : Nat → Rat) (n : Nat) : sumTo (fun c => f c + g c) n = sumTo f n + sumTo g n := by
  induction n with
  | zero => show (0 : Rat) = 0 + 0; grind
  | succ n ih => show sumTo (fun c => f c + g c) n + (f n + g n) = (sumTo f n + f n) + (sumTo g n + g n); rw [ih]; grind
theorem sumTo_zero {f : Nat → Rat} {n : Nat} (h : ∀ c, c < n → f c = 0) : sumTo f n = 0 := by
  induction n with
  | zero => rfl
  | succ n ih => show sumTo f n + f n = 0; rw [ih (fun c hc => h c (by omega)), h n (by omega)]; grind
theorem sumTo_nonneg {f : Nat → Rat} {n : Nat} (h : ∀ c, c < n → 0 ≤ f c) : 0 ≤ sumTo f n := by
  induction n with
  | zero => show (0 : Rat) ≤ 0; grind
  | succ n ih =>
    have h1 := ih (fun c hc => h c (by omega))
    have h2 := h n (by omega)
    show 0 ≤ sumTo f n + f n; grind
theorem sumTo_le {f g : Nat → Rat} {n : Nat} (h : ∀ c, c < n → f c ≤ g c) : sumTo f n ≤ sumTo g n := by
  induction n with
  | zero => show (0 : Rat) ≤ 0; grind
  | succ n ih =>
    have h1 := ih (fun c hc => h c (by omega))
    have h2 := h n (by omega)
    show sumTo f n + f n ≤ sumTo g n + g n; grind
/-- a sum over the cells of a brick -/
theorem sumL_cells (f : Nat → Rat) (x : Nat → Int) (b : Int) (n : Nat) : sumL f (cellsTo x b n) = sumTo (fun c => if x c = b then f c else 0) n := by
  induction n with
  | zero => rfl
  | succ n ih =>
    show _ = sumTo _ n + (if x n = b then f n else 0)
    by_cases h : x n = b
    · rw [cellsTo_yes h, sumL_append, ih, if_pos h]; show _ + (f n + 0) = _; grind
    · rw [cellsTo_no h, ih, if_neg h]; grind
/-- the cells of bricks 0 to k - 1 are those that hold one of them -/
theorem sumTo_bricks (f : Nat → Rat) (x : Nat → Int) (n : Nat) : ∀ k : Nat, sumTo (fun i => sumTo (fun c => if x c = (i : Int) then f c else 0) n) k = sumTo (fun c => if 0 ≤ x c ∧ x c < (k : Int) then f c else 0) n
  | 0 => by
    rw [sumTo_zero (n := n) (fun c _ => if_neg (by omega))]; rfl
  | k + 1 => by
    show sumTo _ k + sumTo _ n = _
    rw [sumTo_bricks f x n k, ← sumTo_add]
    refine sumTo_congr fun c _ => ?_
    by_cases h : x c = (k : Int)
    · rw [if_pos h, if_neg (by omega), if_pos (by omega)]; grind
    · rw [if_neg h]
      by_cases h2 : 0 ≤ x c ∧ x c < (k : Int)
      · rw [if_pos h2, if_pos (by omega)]; grind
      · rw [if_neg h2, if_neg (by omega)]; grind
theorem natR_pos {a : Nat} (h : 0 < a) : (a : Rat) ≠ 0 := by
  intro e
  have : a = 0 := by exact_mod_cast e
  omega
theorem qR_low {n d : Nat} (hd : 0 < d) : qR (lowP n d) = (n : Rat) / (d : Rat) := by
  have hg : 0 < Nat.gcd n d := Nat.gcd_pos_of_pos_right _ hd
  have h1 : n = Nat.gcd n d * (n / Nat.gcd n d) := (Nat.mul_div_cancel' (Nat.gcd_dvd_left _ _)).symm
  have h2 : d = Nat.gcd n d * (d / Nat.gcd n d) := (Nat.mul_div_cancel' (Nat.gcd_dvd_right _ _)).symm
  unfold qR lowP
  dsimp only
  have h3 : 0 < d / Nat.gcd n d := Nat.div_pos (Nat.le_of_dvd hd (Nat.gcd_dvd_right _ _)) hg
  generalize n / Nat.gcd n d = N at *
  generalize d / Nat.gcd n d = D at *
  generalize Nat.gcd n d = g at *
  subst h1 h2
  have e1 : ((g * N : Nat) : Rat) = (g : Rat) * N := by push_cast; rfl
  have e2 : ((g * D : Nat) : Rat) = (g : Rat) * D := by push_cast; rfl
  rw [e1, e2]
  have hgr := natR_pos hg
  have hdr := natR_pos h3
  grind
theorem qR_lowS {n d : Nat} (hd : 0 < d) (hf : fitP (lowP n d) = true) : qR (lowS n d) = (n : Rat) / (d : Rat) := by
  unfold lowS; rw [capP_yes hf]; exact qR_low hd
theorem qR_add {x y : Nat × Nat} (hx : LdOk x) (hy : LdOk y) (hf : fitP (lowP (addN x y) (addD x y)) = true) : qR (lowS (addN x y) (addD x y)) = qR x + qR y := by
  rw [qR_lowS (n := addN x y) (d := addD x y) (Nat.mul_pos hx.2.1 hy.2.1) hf]
  unfold qR addN addD
  have e1 : ((x.1 * y.2 + y.1 * x.2 : Nat) : Rat) = (x.1 : Rat) * y.2 + (y.1 : Rat) * x.2 := by push_cast; rfl
  have e2 : ((x.2 * y.2 : Nat) : Rat) = (x.2 : Rat) * y.2 := by push_cast; rfl
  rw [e1, e2]
  have h1 := natR_pos hx.2.1
  have h2 := natR_pos hy.2.1
  grind
theorem qR_zero : qR (0, 1) = 0 := by unfold qR; grind
theorem qR_nonneg {x : Nat × Nat} (h : LdOk x) : 0 ≤ qR x := by
  unfold qR
  have h1 : (0 : Rat) ≤ x.1 := by exact_mod_cast Nat.zero_le x.1
  have h2 : (0 : Rat) < x.2 := by
    have := natR_pos h.2.1
    have h3 : (0 : Rat) ≤ x.2 := by exact_mod_cast Nat.zero_le x.2
    grind
  rw [Rat.div_def]
  have h4 := Rat.inv_pos.2 h2
  exact Rat.mul_nonneg h1 (by grind)
/-- what lies on a brick is the sum of what presses on its cells -/
theorem addSt_sum {on : List (Nat × Nat)} (ho : ∀ x ∈ on, LdOk x) : ∀ (cs : List Nat) (st : (Nat × Nat) × Bool), LdOk st.1 → (cs.foldl (addSt on) st).2 = true → st.2 = true ∧ qR (cs.foldl (addSt on) st).1 = qR st.1 + sumL (fun c => qR (on.getD c (0, 1))) cs
  | [], st, h, h2 => ⟨h2, by show qR st.1 = qR st.1 + 0; grind⟩
  | c :: cs, st, h, h2 => by
    rw [List.foldl_cons] at h2 ⊢
    obtain ⟨a, b⟩ := addSt_sum ho cs (addSt on st c) (addSt_ok on st c h ho) h2
    rw [b]
    unfold addSt at a ⊢
    simp only [Bool.and_eq_true] at a
    refine ⟨a.1, ?_⟩
    dsimp only
    rw [qR_add h (getD_ok ho c) a.2]
    show _ = _ + (_ + _)
    grind
theorem onBrk_sum {s : Stk} {t i : Nat} {on : List (Nat × Nat)} {ok : Bool} (ho : ∀ x ∈ on, LdOk x) (h : (onBrk s t i on ok).2 = true) : ok = true ∧ qR (onBrk s t i on ok).1 = sumTo (fun c => if s.cf t c = (i : Int) then qR (on.getD c (0, 1)) else 0) (s.cn t) := by
  unfold onBrk at h ⊢
  obtain ⟨a, b⟩ := addSt_sum ho (cellsTo (s.cf t) i (s.cn t)) ((0, 1), ok) LdOk_zero h
  refine ⟨a, ?_⟩
  rw [b, sumL_cells, qR_zero]
  grind
theorem share_eq (a b z : Rat) (hb : b ≠ 0) (hz : z ≠ 0) : z * (a / (b * z)) = a / b := by grind
def sumS (m : Nat) (l : List (Nat × Nat)) : Rat := sumTo (fun c => qR (l.getD c (0, 1))) m
theorem getD_set (l : List (Nat × Nat)) (a c : Nat) (x : Nat × Nat) (ha : a < l.length) : (l.set a x).getD c (0, 1) = if c = a then x else l.getD c (0, 1) := by
  rw [List.getD_eq_getElem?_getD, List.getD_eq_getElem?_getD, List.getElem?_set]
  by_cases e : c = a
  · subst e; rw [if_pos rfl, if_pos rfl, if_pos ha]; rfl
  · rw [if_neg (Ne.symm e), if_neg e]
theorem layOn_get (x : Nat × Nat) (c : Nat) : ∀ (cs : List Nat) (l : List (Nat × Nat)), (∀ a ∈ cs, a < l.length) → (layOn l cs x).getD c (0, 1) = if c ∈ cs then x else l.getD c (0, 1)
  | [], l, _ => by simp [layOn]
  | a :: cs, l, h => by
    have ih := layOn_get x c cs (l.set a x) (fun b hb => by rw [List.length_set]; exact h b (List.mem_cons_of_mem _ hb))
    show (layOn (l.set a x) cs x).getD c (0, 1) = _
    rw [ih, getD_set l a c x (h a (List.mem_cons_self ..))]
    by_cases e : c = a
    · subst e; simp
    · by_cases e2 : c ∈ cs <;> simp [e, e2]
theorem sumTo_filter (p : Nat → Bool) (y : Rat) (n : Nat) : sumTo (fun c => if p c = true then y else 0) n = (((List.range n).filter p).length : Rat) * y := by
  induction n with
  | zero => show (0 : Rat) = ((0 : Nat) : Rat) * y; grind
  | succ n ih =>
    show sumTo _ n + (if p n = true then y else 0) = _
    rw [ih, List.range_succ, List.filter_append, List.length_append]
    by_cases h : p n = true
    · rw [if_pos h, List.filter_cons_of_pos h]
      show _ = (((_ + 1 : Nat)) : Rat) * y
      push_cast; grind
    · rw [if_neg h, List.filter_cons_of_neg h]
      show _ = (((_ + 0 : Nat)) : Rat) * y
      push_cast; grind
def restP (s : Stk) (t : Nat) (b : Int) (c : Nat) : Bool := covB s ((t : Int) - 1) c && decide (s.cf t c = b)
theorem restL_eq (s : Stk) (t : Nat) (b : Int) : restL s t b = (List.range (s.cn t)).filter (restP s t b) := by
  unfold restL cellsTo; rw [List.filter_filter]; rfl
theorem mem_restL {s : Stk} {t : Nat} {b : Int} {c : Nat} : c ∈ restL s t b ↔ c < s.cn t ∧ restP s t b c = true := by
  rw [restL_eq, List.mem_filter, List.mem_range]
theorem lay_sum {s : Stk} {t : Nat} {b : Int} {l : List (Nat × Nat)} (x : Nat × Nat) (hl : l.length = s.cn t) (hz : ∀ c, c < s.cn t → restP s t b c = true → l.getD c (0, 1) = (0, 1)) :
    sumS (s.cn t) (layOn l (restL s t b) x) = sumS (s.cn t) l + ((restL s t b).length : Rat) * qR x := by
  unfold sumS
  rw [restL_eq, ← sumTo_filter, ← sumTo_add]
  refine sumTo_congr fun c hc => ?_
  rw [← restL_eq, layOn_get x c _ l (fun a ha => by rw [hl]; exact (mem_restL.1 ha).1)]
  by_cases h : restP s t b c = true
  · rw [if_pos (mem_restL.2 ⟨hc, h⟩), if_pos h, hz c hc h, qR_zero]; grind
  · rw [if_neg (fun e => h (mem_restL.1 e).2), if_neg h]; grind
theorem qR_nat (n : Nat) : qR (n, 1) = (n : Rat) := by unfold qR; grind
theorem LdOk_nat {n : Nat} (h : n ≤ 1000000000) : LdOk (n, 1) := ⟨h, by simp, by simp⟩
def wtR (s : Stk) (t i : Nat) : Rat := (((s.wf t i).toNat : Nat) : Rat)
/-- after k bricks of a tier -/
structure TierOk (s : Stk) (t : Nat) (on : List (Nat × Nat)) (k : Nat) (st : List (Nat × Nat) × List (Nat × Nat) × Bool) : Prop where
  len : st.1.length = s.cn t
  cnt : st.2.1.length = k
  zero : ∀ c, c < s.cn t → (s.cf t c < 0 ∨ (k : Int) ≤ s.cf t c ∨ covB s ((t : Int) - 1) c = false) → st.1.getD c (0, 1) = (0, 1)
  loads : ∀ i, i < k → qR (st.2.1.getD i (0, 1)) = sumTo (fun c => if s.cf t c = (i : Int) then qR (on.getD c (0, 1)) else 0) (s.cn t)
  sum : sumS (s.cn t) st.1 = sumTo (fun i => sumTo (fun c => if s.cf t c = (i : Int) then qR (on.getD c (0, 1)) else 0) (s.cn t) + wtR s t i) k
theorem tier_sums {s : Stk} {t : Nat} {on : List (Nat × Nat)} {ok : Bool} (ho : ∀ x ∈ on, LdOk x) (hw : ∀ i : Nat, i < s.wn t → (s.wf t i).toNat ≤ 1000000000) (hr : ∀ i : Nat, i < s.wn t → 0 < (restL s t i).length) :
    ∀ k : Nat, k ≤ s.wn t → (tierR s (s.cn t) t on [] ok k).2.2 = true → ok = true ∧ TierOk s t on k (tierR s (s.cn t) t on [] ok k)
  | 0, _, h => ⟨h, ⟨by simp [tierR], rfl, fun c hc _ => by
      show (List.replicate (s.cn t) (0, 1)).getD c (0, 1) = (0, 1)
      rw [List.getD_eq_getElem?_getD, List.getElem?_replicate, if_pos hc]; rfl, fun i hi => absurd hi (by omega), by
      show sumTo (fun c => qR ((List.replicate (s.cn t) (0, 1)).getD c (0, 1))) (s.cn t) = 0
      refine sumTo_zero fun c hc => ?_
      rw [List.getD_eq_getElem?_getD, List.getElem?_replicate, if_pos hc]
      exact qR_zero⟩⟩
  | k + 1, hk, h => by
    rw [tierR_succ] at h ⊢
    generalize htr : tierR s (s.cn t) t on [] ok k = st at h ⊢
    unfold brkSt at h
    simp only [Bool.and_eq_true] at h
    obtain ⟨⟨h1, h2⟩, h3⟩ := h
    obtain ⟨h4, hon⟩ := onBrk_sum ho h1
    obtain ⟨hok, ih⟩ := tier_sums ho hw hr k (by omega) (by rw [htr]; exact h4)
    rw [htr] at ih
    have hlon := onBrk_ok (s := s) (t := t) (i := k) st.2.2 ho
    have hwk := hw k (by omega)
    have hrk := hr k (by omega)
    have hdn : qR (dnBrk s t k (onBrk s t k on st.2.2).1) = qR (onBrk s t k on st.2.2).1 + wtR s t k := by
      unfold dnBrk
      rw [qR_add (y := wtP s t k) hlon (LdOk_nat hwk) h2]
      unfold wtP
      rw [qR_nat]; rfl
    have hdo : LdOk (dnBrk s t k (onBrk s t k on st.2.2).1) := lowS_ok _ _ (Nat.mul_pos hlon.2.1 (by unfold wtP; simp))
    have hsh : ((restL s t k).length : Rat) * qR (shBrk s t k (dnBrk s t k (onBrk s t k on st.2.2).1)) = qR (dnBrk s t k (onBrk s t k on st.2.2).1) := by
      unfold shBrk
      rw [qR_lowS (Nat.mul_pos hdo.2.1 hrk) h3]
      generalize dnBrk s t k (onBrk s t k on st.2.2).1 = y at hdo ⊢
      have e2 : ((y.2 * (restL s t k).length : Nat) : Rat) = (y.2 : Rat) * ((restL s t k).length : Rat) := by push_cast; rfl
      rw [e2]
      have p1 := natR_pos hdo.2.1
      have p2 := natR_pos hrk
      exact share_eq _ _ _ p1 p2
    refine ⟨hok, ⟨?_, ?_, fun c hc hor => ?_, fun i hi => ?_, ?_⟩⟩
    · exact (brkSt_len ..).trans ih.len
    · show (st.2.1 ++ [_]).length = k + 1
      rw [List.length_append, ih.cnt]; rfl
    · show (layOn st.1 (restL s t k) _).getD c (0, 1) = (0, 1)
      rw [layOn_get _ c _ st.1 (fun a ha => by rw [ih.len]; exact (mem_restL.1 ha).1), if_neg (fun e => by
        have h5 := (mem_restL.1 e).2
        unfold restP at h5
        simp only [Bool.and_eq_true, decide_eq_true_eq] at h5
        rcases hor with h6 | h6 | h6
        · omega
        · omega
        · rw [h6] at h5; simp at h5)]
      exact ih.zero c hc (by rcases hor with h6 | h6 | h6 <;> first | exact .inl h6 | exact .inr (.inl (by omega)) | exact .inr (.inr h6))
    · show qR ((st.2.1 ++ [_]).getD i (0, 1)) = _
      by_cases e : i = k
      · subst e
        rw [List.getD_eq_getElem?_getD, List.getElem?_append_right (by rw [ih.cnt]; omega), ih.cnt, Nat.sub_self]
        exact hon
      · rw [List.getD_eq_getElem?_getD, List.getElem?_append_left (by rw [ih.cnt]; omega), ← List.getD_eq_getElem?_getD]
        exact ih.loads i (by omega)
    · show sumS (s.cn t) (layOn st.1 (restL s t k) _) = sumTo _ k + (_ + _)
      rw [lay_sum _ ih.len (fun c hc hp => ih.zero c hc (by
        unfold restP at hp
        simp only [Bool.and_eq_true, decide_eq_true_eq] at hp
        exact .inr (.inl (by omega)))), ih.sum, hsh, hdn, hon]
end Go.Proofs.Ytlhekifmkkgjlaa
/- Chapter 8: the loads of a whole stack as exact numbers (no program in sight). -/
namespace Go.Proofs.Ytlhekifmkkgjlaa
open Go Go.RowKit Go.Shelf
/-- the weight of a tier, and of d tiers from r on -/
def wSum (s : Stk) (t : Nat) : Rat := sumTo (wtR s t) (s.wn t)
def wUp (s : Stk) : Nat → Nat → Rat
  | 0, _ => 0
  | d + 1, r => wSum s r + wUp s d (r + 1)
abbrev gL (s : Stk) (r : Nat) : (Nat → List (Nat × Nat)) × Bool := loadsF s (flr s) (backTo s.nt r)
theorem tier_facts {s : Stk} (h : stackB s = true) {t : Nat} (ht : t < s.nt) : s.cn t = flr s ∧ s.wn t ≤ flr s ∧ (∀ i, i < s.wn t → 0 ≤ s.wf t i ∧ s.wf t i ≤ 1000) ∧ (∀ c, c < s.cn t → -1 ≤ s.cf t c ∧ s.cf t c ≤ (s.wn t : Int) - 1) ∧ flr s ≤ 144 := by
  have h1 := ((stackB_iff s).1 h).2.2 t ht
  have h2 := (stackB_iff s).1 h
  have hm := flr_eq h
  simp only [tierB, Bool.and_eq_true, decide_eq_true_eq, wiB_iff] at h1
  obtain ⟨a, b, c, d, -⟩ := h1
  have h3 := mul_bd (a := s.wd) (b := s.hg) (M := 12) (N := 12) (by omega) (by omega) (by omega) (by omega)
  exact ⟨by omega, by omega, c, d, by omega⟩
theorem gL_step {s : Stk} {r : Nat} (h : r < s.nt) : gL s r = tierSt s (flr s) (gL s (r + 1)) r := loads_step h
structure TowerOk (s : Stk) (d r : Nat) : Prop where
  zero : ∀ c, c < flr s → covB s ((r : Int) - 1) c = false → ((gL s r).1 s.nt).getD c (0, 1) = (0, 1)
  sum : sumS (flr s) ((gL s r).1 s.nt) = wUp s d r
  loads : ∀ t i, r ≤ t → t < s.nt → i < s.wn t → qR (((gL s r).1 t).getD i (0, 1)) = sumTo (fun c => if s.cf t c = (i : Int) then qR (((gL s (t + 1)).1 s.nt).getD c (0, 1)) else 0) (flr s)
theorem rest_pos {s : Stk} (hf : (hangF s).1 < 0) : ∀ t i : Nat, t < s.nt → i < s.wn t → 0 < (restL s t i).length := fun t i ht hi => by
  have h := hangF_none hf t i ht hi
  simp only [hangP, decide_eq_false_iff_not] at h
  omega
theorem tower {s : Stk} (h : stackB s = true) (hf : (hangF s).1 < 0) : ∀ d r, r + d = s.nt → (gL s r).2 = true → TowerOk s d r ∧ ∀ r', r ≤ r' → r' ≤ s.nt → (gL s r').2 = true
  | 0, r, hr, hok => by
    obtain rfl : r = s.nt := by omega
    have e : (gL s s.nt).1 s.nt = List.replicate (flr s) (0, 1) := by
      show (loadsF s (flr s) (backTo s.nt s.nt)).1 s.nt = _
      rw [loads_top]; simp [ld0]
    have hz : ∀ c, c < flr s → ((gL s s.nt).1 s.nt).getD c (0, 1) = (0, 1) := fun c hc => by
      rw [e, List.getD_eq_getElem?_getD, List.getElem?_replicate, if_pos hc]; rfl
    refine ⟨⟨fun c hc _ => hz c hc, ?_, fun t i h1 h2 => absurd h2 (by omega)⟩, fun r' h1 h2 => by
      obtain rfl : r' = s.nt := by omega
      exact hok⟩
    refine sumTo_zero fun c hc => ?_
    rw [hz c hc]; exact qR_zero
  | d + 1, r, hr, hok => by
    have hrn : r < s.nt := by omega
    obtain ⟨f1, f2, f3, f4, f5⟩ := tier_facts h hrn
    have hlok := loads_ok s (flr s) (rest_pos hf) d (r + 1) (by omega) s.nt (Nat.le_refl _)
    have hnil : (gL s (r + 1)).1 r = [] := by
      have h1 := loads_cnt s (flr s) d (r + 1) (by omega) r hrn
      rw [if_neg (by omega)] at h1
      exact List.eq_nil_of_length_eq_zero h1
    have hstep := gL_step hrn
    have hok' := hok
    rw [hstep] at hok'
    unfold tierSt at hok'
    dsimp only at hok'
    rw [hnil] at hok'
    rw [← f1] at hok'
    obtain ⟨hok1, htk⟩ := tier_sums (on := (gL s (r + 1)).1 s.nt) (ok := (gL s (r + 1)).2) hlok (fun i hi => by have := f3 i hi; omega) (fun i hi => rest_pos hf r i hrn hi) (s.wn r) (Nat.le_refl _) hok'
    obtain ⟨ih, ihok⟩ := tower h hf d (r + 1) (by omega) hok1
    have eon : (gL s r).1 s.nt = (tierR s (s.cn r) r ((gL s (r + 1)).1 s.nt) [] (gL s (r + 1)).2 (s.wn r)).1 := by
      rw [hstep]; unfold tierSt; dsimp only; rw [upd_same, hnil, f1]
    have eld : (gL s r).1 r = (tierR s (s.cn r) r ((gL s (r + 1)).1 s.nt) [] (gL s (r + 1)).2 (s.wn r)).2.1 := by
      rw [hstep]; unfold tierSt; dsimp only; rw [upd_ne _ _ (by omega), upd_same, hnil, f1]
    have eot : ∀ t, t < s.nt → t ≠ r → (gL s r).1 t = (gL s (r + 1)).1 t := fun t h1 h2 => by
      rw [hstep]; unfold tierSt; dsimp only; rw [upd_ne _ _ (by omega), upd_ne _ _ h2]
    refine ⟨⟨fun c hc hcv => ?_, ?_, fun t i h1 h2 h3 => ?_⟩, fun r' h1 h2 => ?_⟩
    · rw [eon]; exact htk.zero c (by omega) (.inr (.inr hcv))
    · rw [eon, ← f1, htk.sum, sumTo_add, sumTo_bricks]
      show _ + wSum s r = wSum s r + wUp s d (r + 1)
      rw [← ih.sum]
      have e : sumTo (fun c => if 0 ≤ s.cf r c ∧ s.cf r c < ((s.wn r : Nat) : Int) then qR (((gL s (r + 1)).1 s.nt).getD c (0, 1)) else 0) (s.cn r) = sumS (flr s) ((gL s (r + 1)).1 s.nt) := by
        unfold sumS
        rw [f1]
        refine sumTo_congr fun c hc => ?_
        obtain ⟨g1, g2⟩ := f4 c (by omega)
        by_cases hp : 0 ≤ s.cf r c
        · rw [if_pos (by omega)]
        · rw [if_neg (by omega), ih.zero c hc (by
            unfold covB
            rw [decide_eq_false (by omega), Bool.false_or]
            have e3 : (((r + 1 : Nat) : Int) - 1).toNat = r := by omega
            rw [e3, decide_eq_false hp, Bool.and_false]), qR_zero]
      rw [e]; grind
    · by_cases e : t = r
      · subst e
        rw [eld, ← f1]
        exact htk.loads i h3
      · rw [eot t h2 e]
        exact ih.loads t i (by omega) h2 h3
    · by_cases e : r' = r
      · subst e; exact hok
      · exact ihok r' (by omega) h2
theorem wSum_bd {s : Stk} (h : stackB s = true) {t : Nat} (ht : t < s.nt) {M : Nat} (hM : s.wn t ≤ M) : 0 ≤ wSum s t ∧ wSum s t ≤ ((M * 1000 : Nat) : Rat) := by
  obtain ⟨-, -, f3, -, -⟩ := tier_facts h ht
  have key : ∀ k, k ≤ s.wn t → 0 ≤ sumTo (wtR s t) k ∧ sumTo (wtR s t) k ≤ ((k * 1000 : Nat) : Rat) := by
    intro k
    induction k with
    | zero => intro _; exact ⟨by show (0 : Rat) ≤ 0; grind, by show (0 : Rat) ≤ ((0 * 1000 : Nat) : Rat); push_cast; grind⟩
    | succ k ih =>
      intro hk
      obtain ⟨a, b⟩ := ih (by omega)
      obtain ⟨c, d⟩ := f3 k (by omega)
      have h1 : (0 : Rat) ≤ wtR s t k := by unfold wtR; exact Rat.natCast_nonneg
      have h2 : wtR s t k ≤ ((1000 : Nat) : Rat) := by unfold wtR; exact Rat.natCast_le_natCast.2 (by omega)
      have e : (((k + 1) * 1000 : Nat) : Rat) = ((k * 1000 : Nat) : Rat) + ((1000 : Nat) : Rat) := by push_cast; grind
      show 0 ≤ sumTo (wtR s t) k + wtR s t k ∧ sumTo (wtR s t) k + wtR s t k ≤ _
      rw [e]
      exact ⟨by grind, by grind⟩
  obtain ⟨a, b⟩ := key (s.wn t) (Nat.le_refl _)
  refine ⟨a, ?_⟩
  have h3 : ((s.wn t * 1000 : Nat) : Rat) ≤ ((M * 1000 : Nat) : Rat) := Rat.natCast_le_natCast.2 (by omega)
  unfold wSum
  grind
theorem wUp_bd {s : Stk} (h : stackB s = true) {M : Nat} (hM : ∀ t, t < s.nt → s.wn t ≤ M) : ∀ d r, r + d = s.nt → 0 ≤ wUp s d r ∧ wUp s d r ≤ ((d * (M * 1000) : Nat) : Rat)
  | 0, r, _ => ⟨by show (0 : Rat) ≤ 0; grind, by show (0 : Rat) ≤ ((0 * (M * 1000) : Nat) : Rat); rw [Nat.zero_mul]; push_cast; grind⟩
  | d + 1, r, hr => by
    obtain ⟨a, b⟩ := wUp_bd h hM d (r + 1) (by omega)
    obtain ⟨c, e⟩ := wSum_bd h (show r < s.nt by omega) (hM r (by omega))
    have e2 : (((d + 1) * (M * 1000) : Nat) : Rat) = ((d * (M * 1000) : Nat) : Rat) + ((M * 1000 : Nat) : Rat) := by
      rw [Nat.add_mul, Nat.one_mul]; push_cast; rfl
    show 0 ≤ wSum s r + wUp s d (r + 1) ∧ wSum s r + wUp s d (r + 1) ≤ _
    rw [e2]
    exact ⟨by grind, by grind⟩
/-- no load is more than all weights together -/
theorem load_bd {s : Stk} (h : stackB s = true) (hf : (hangF s).1 < 0) (ho : LoadsB s = true) {M : Nat} (hM : ∀ t, t < s.nt → s.wn t ≤ M) {t i : Nat} (ht : t < s.nt) (hi : i < s.wn t) :
    ((LoadsL s t).getD i (0, 1)).1 ≤ s.nt * (M * 1000) * ((LoadsL s t).getD i (0, 1)).2 := by
  obtain ⟨hT, hokr⟩ := tower h hf s.nt 0 (by omega) ho
  have hokt := hokr (t + 1) (by omega) (by omega)
  obtain ⟨hT1, -⟩ := tower h hf (s.nt - (t + 1)) (t + 1) (by omega) hokt
  have h1 := hT.loads t i (by omega) ht hi
  have hon := loads_ok s (flr s) (rest_pos hf) (s.nt - (t + 1)) (t + 1) (by omega) s.nt (Nat.le_refl _)
  have h2 : qR ((LoadsL s t).getD i (0, 1)) ≤ sumS (flr s) ((gL s (t + 1)).1 s.nt) := by
    refine (show _ = _ from h1) ▸ sumTo_le fun c hc => ?_
    have hq := qR_nonneg (getD_ok hon c)
    by_cases e : s.cf t c = (i : Int)
    · rw [if_pos e]; grind
    · rw [if_neg e]; exact hq
  rw [hT1.sum] at h2
  have h3 := (wUp_bd h hM (s.nt - (t + 1)) (t + 1) (by omega)).2
  have h4 : (((s.nt - (t + 1)) * (M * 1000) : Nat) : Rat) ≤ ((s.nt * (M * 1000) : Nat) : Rat) := Rat.natCast_le_natCast.2 (Nat.mul_le_mul_right _ (by omega))
  have hx := getD_ok (LoadsL_ok hf (show t ≤ s.nt by omega)) i
  generalize (LoadsL s t).getD i (0, 1) = x at h2 hx ⊢
  have h5 : qR x ≤ ((s.nt * (M * 1000) : Nat) : Rat) := by grind
  have hp := natR_pos hx.2.1
  have hp2 : (0 : Rat) ≤ x.2 := Rat.natCast_nonneg
  have h6 : (x.1 : Rat) = qR x * x.2 := by unfold qR; grind
  have h7 : qR x * x.2 ≤ ((s.nt * (M * 1000) : Nat) : Rat) * x.2 := Rat.mul_le_mul_of_nonneg_right h5 hp2
  rw [← h6] at h7
  have h8 : ((s.nt * (M * 1000) : Nat) : Rat) * (x.2 : Rat) = ((s.nt * (M * 1000) * x.2 : Nat) : Rat) := (Rat.natCast_mul ..).symm
  rw [h8] at h7
  exact Rat.natCast_le_natCast.1 h7
end Go.Proofs.Ytlhekifmkkgjlaa
