/- School: the laws' helpers on words, the reference's Word, Text, Same. -/
import Derived.Test.YtmpegkojencbjaaDoorMergesH
import Derived.Deep.CutBlock
import Derived.Deep.DeepCutAuto
import Derived.IntWalk
import Derived.Deep.QuietTactic
import Derived.BigQuiet
set_option linter.unusedSimpArgs false
set_option linter.unusedVariables false
set_option linter.unnecessarySimpa false
namespace Go.Proofs.YtmpegkojencbjaaDoor
open List renaming getElem_toArray → glA, getElem_cons_zero → glB, getElem_cons_succ → glC, setIfInBounds_toArray → glD, set_cons_zero → glE, set_cons_succ → glF
open Go Go.RowKit Go.Shelf
set_option maxHeartbeats 2000000
set_option maxRecDepth 100000
theorem refSame_any (A B : Option Addr) (c d : Nat) (l m : List Ed) (w : World) (hl : l.length ≤ maxLen) (hA : EdR w w.heap.size A l) (hB : EdR w w.heap.size B m) :
    Calls Tryd.prog 20 #[.slice A l.length c, .slice B m.length d] w fun e w' => e = .returned (.bool (decide (l = m))) ∧ Below w.heap.size w w' := by
  unfold maxLen at hl
  have HA := hide hA
  have HB := hide hB
  clear hA hB
  by_cases hlm : l.length = m.length
  · obtain ⟨n, hn⟩ : ∃ n, l.length = n := ⟨_, rfl⟩
    have hm : m.length = n := by omega
    have HN := hide (And.intro hn hm)
    rw [hn] at hl
    rw [hn, hm]
    clear hlm hn hm
    go_enter Tryd.func20, Tryd.ntmps20
    go_wp2_with fail
    go_loopw [5] (fun i wr => ∃ k : Nat, k ≤ n ∧ i = .int .i64 k ∧ (∀ j, j < k → l.getD j e0 = m.getD j e0) ∧ Below w.heap.size w wr) (fun i _ => n - (intOf i).toNat)
    case atStart => exact ⟨0, Nat.zero_le _, rfl, fun j hj => absurd hj (by omega), Below.refl _ _⟩
    case round =>
      obtain ⟨k, hk, rfl, hx, hbw⟩ := hrel
      have HX := hide hx
      have HBW := hide hbw
      clear hx
      by_cases hlt : k < n
      · have hlt' : (k : Int) < (n : Int) := by omega
        have i0 : (0 : Int) ≤ (k : Int) := by omega
        obtain ⟨e, he⟩ : ∃ e, l.getD k e0 = e := ⟨_, rfl⟩
        obtain ⟨f, hf⟩ : ∃ f, m.getD k e0 = f := ⟨_, rfl⟩
        obtain ⟨xb, xo, rfl, hxb, a0, a1, a2, a3⟩ := HA.out.at_ (by rw [HN.out.1]; exact hlt) he
        obtain ⟨yb, yo, rfl, hyb, b0, b1, b2, b3⟩ := HB.out.at_ (by rw [HN.out.2]; exact hlt) hf
        have HE := hide (And.intro he hf)
        clear he hf
        obtain ⟨x0, x1, x2, x3⟩ := e
        obtain ⟨y0, y1, y2, y3⟩ := f
        dsimp only at a0 a1 a2 a3 b0 b1 b2 b3
        have HS : Hid (∀ W, Below w.heap.size w W → (W.cell? ⟨xb, xo + k * 4, none⟩ = some (.int .i64 x0) ∧ W.cell? ⟨xb, xo + k * 4 + 1, none⟩ = some (.int .i64 x1) ∧ W.cell? ⟨xb, xo + k * 4 + 2, none⟩ = some (.string x2) ∧ W.cell? ⟨xb, xo + k * 4 + 3, none⟩ = some (.string x3)) ∧ (W.cell? ⟨yb, yo + k * 4, none⟩ = some (.int .i64 y0) ∧ W.cell? ⟨yb, yo + k * 4 + 1, none⟩ = some (.int .i64 y1) ∧ W.cell? ⟨yb, yo + k * 4 + 2, none⟩ = some (.string y2) ∧ W.cell? ⟨yb, yo + k * 4 + 3, none⟩ = some (.string y3))) := hide fun W h =>
          ⟨⟨(h.cell (p := ⟨xb, xo + k * 4, none⟩) hxb).trans a0, (h.cell (p := ⟨xb, xo + k * 4 + 1, none⟩) hxb).trans a1, (h.cell (p := ⟨xb, xo + k * 4 + 2, none⟩) hxb).trans a2, (h.cell (p := ⟨xb, xo + k * 4 + 3, none⟩) hxb).trans a3⟩,
           (h.cell (p := ⟨yb, yo + k * 4, none⟩) hyb).trans b0, (h.cell (p := ⟨yb, yo + k * 4 + 1, none⟩) hyb).trans b1, (h.cell (p := ⟨yb, yo + k * 4 + 2, none⟩) hyb).trans b2, (h.cell (p := ⟨yb, yo + k * 4 + 3, none⟩) hyb).trans b3⟩
        clear a0 a1 a2 a3 b0 b1 b2 b3 hbw
        go_upto_region 6 with fail
        have Bd := hide (HBW.out.trans ((Below.refl wr.heap.size wr).drew.mono HBW.out.size))
        refine wp_region_J (fun W : World => (W.cell? ⟨xb, xo + k * 4, none⟩ = some (.int .i64 x0) ∧ W.cell? ⟨xb, xo + k * 4 + 1, none⟩ = some (.int .i64 x1) ∧ W.cell? ⟨xb, xo + k * 4 + 2, none⟩ = some (.string x2) ∧ W.cell? ⟨xb, xo + k * 4 + 3, none⟩ = some (.string x3)) ∧ (W.cell? ⟨yb, yo + k * 4, none⟩ = some (.int .i64 y0) ∧ W.cell? ⟨yb, yo + k * 4 + 1, none⟩ = some (.int .i64 y1) ∧ W.cell? ⟨yb, yo + k * 4 + 2, none⟩ = some (.string y2) ∧ W.cell? ⟨yb, yo + k * 4 + 3, none⟩ = some (.string y3))) (by kernel_rfl) ?_
        generalize wr.drew = wd at Bd ⊢
        refine wpAnyJ_take 0 (v := ?_) (by first | exact hF | exact wideFn) (HS.out _ Bd.out) rfl (by kernel_rfl) (by kernel_rfl) (by kernel_rfl) (by kernel_rfl) rfl ?_ (by first | exact fun _ _ _ h => h | exact fun _ _ _ h => hQ2 _ _ _ _ _ h) ?_
        rotate_left
        · intro W hSW
          simp only [glA, glB, glC]
          (try dsimp only at hSW)
          go_simp
          with_reducible rfl
        (try simp only [glA, glB, glC, Act.put, glD, glE, glF])
        refine wpAnyJ_take 1 (v := ?_) (by first | exact hF | exact wideFn) (HS.out _ Bd.out) rfl (by kernel_rfl) (by kernel_rfl) (by kernel_rfl) (by kernel_rfl) rfl ?_ (by first | exact fun _ _ _ h => h | exact fun _ _ _ h => hQ2 _ _ _ _ _ h) ?_
        rotate_left
        · intro W hSW
          simp only [glA, glB, glC]
          (try dsimp only at hSW)
          go_simp
          with_reducible rfl
        (try simp only [glA, glB, glC, Act.put, glD, glE, glF])
        refine wpAnyJ_take 2 (v := ?_) (by first | exact hF | exact wideFn) (HS.out _ Bd.out) rfl (by kernel_rfl) (by kernel_rfl) (by kernel_rfl) (by kernel_rfl) rfl ?_ (by first | exact fun _ _ _ h => h | exact fun _ _ _ h => hQ2 _ _ _ _ _ h) ?_
        rotate_left
        · intro W hSW
          simp only [glA, glB, glC]
          (try dsimp only at hSW)
          go_simp
          with_reducible rfl
        (try simp only [glA, glB, glC, Act.put, glD, glE, glF])
        refine wpAnyJ_take 3 (v := ?_) (by first | exact hF | exact wideFn) (HS.out _ Bd.out) rfl (by kernel_rfl) (by kernel_rfl) (by kernel_rfl) (by kernel_rfl) rfl ?_ (by first | exact fun _ _ _ h => h | exact fun _ _ _ h => hQ2 _ _ _ _ _ h) ?_
        rotate_left
        · intro W hSW
          simp only [glA, glB, glC]
          (try dsimp only at hSW)
          go_simp
          with_reducible rfl
        (try simp only [glA, glB, glC, Act.put, glD, glE, glF])
        refine wpAnyJ_take 4 (v := ?_) (by first | exact hF | exact wideFn) (HS.out _ Bd.out) rfl (by kernel_rfl) (by kernel_rfl) (by kernel_rfl) (by kernel_rfl) rfl ?_ (by first | exact fun _ _ _ h => h | exact fun _ _ _ h => hQ2 _ _ _ _ _ h) ?_
        rotate_left
        · intro W hSW
          simp only [glA, glB, glC]
          (try dsimp only at hSW)
          go_simp
          with_reducible rfl
        (try simp only [glA, glB, glC, Act.put, glD, glE, glF])
        refine wpAnyJ_take 5 (v := ?_) (by first | exact hF | exact wideFn) (HS.out _ Bd.out) rfl (by kernel_rfl) (by kernel_rfl) (by kernel_rfl) (by kernel_rfl) rfl ?_ (by first | exact fun _ _ _ h => h | exact fun _ _ _ h => hQ2 _ _ _ _ _ h) ?_
        rotate_left
        · intro W hSW
          simp only [glA, glB, glC]
          (try dsimp only at hSW)
          go_simp
          with_reducible rfl
        (try simp only [glA, glB, glC, Act.put, glD, glE, glF])
        refine wpAnyJ_take 6 (v := ?_) (by first | exact hF | exact wideFn) (HS.out _ Bd.out) rfl (by kernel_rfl) (by kernel_rfl) (by kernel_rfl) (by kernel_rfl) rfl ?_ (by first | exact fun _ _ _ h => h | exact fun _ _ _ h => hQ2 _ _ _ _ _ h) ?_
        rotate_left
        · intro W hSW
          simp only [glA, glB, glC]
          (try dsimp only at hSW)
          go_simp
          with_reducible rfl
        (try simp only [glA, glB, glC, Act.put, glD, glE, glF])
        refine wpAnyJ_take 7 (v := ?_) (by first | exact hF | exact wideFn) (HS.out _ Bd.out) rfl (by kernel_rfl) (by kernel_rfl) (by kernel_rfl) (by kernel_rfl) rfl ?_ (by first | exact fun _ _ _ h => h | exact fun _ _ _ h => hQ2 _ _ _ _ _ h) ?_
        rotate_left
        · intro W hSW
          simp only [glA, glB, glC]
          (try dsimp only at hSW)
          go_simp
          with_reducible rfl
        (try simp only [glA, glB, glC, Act.put, glD, glE, glF])
        by_cases q0 : x0 = y0
        · by_cases q1 : x1 = y1
          · by_cases q2 : x2 = y2
            · by_cases q3 : x3 = y3
              · subst q0 q1 q2 q3
                refine wpAnyJ_take 8 (v := ?_) (by first | exact hF | exact wideFn) (HS.out _ Bd.out) rfl (by kernel_rfl) (by kernel_rfl) (by kernel_rfl) (by kernel_rfl) rfl ?_ (by first | exact fun _ _ _ h => h | exact fun _ _ _ h => hQ2 _ _ _ _ _ h) ?_
                rotate_left
                · intro W hSW
                  simp only [glA, glB, glC]
                  (try dsimp only at hSW)
                  go_simp
                  with_reducible rfl
                (try simp only [glA, glB, glC, Act.put, glD, glE, glF])
                refine wpAnyJ_done (by kernel_rfl) ?_
                go_wp2_with fail
                go_roundw
                case rel => exact ⟨k + 1, by omega, by go_num, fun j hj => by
                  rcases (by omega : j < k ∨ j = k) with h | h
                  · exact HX.out j h
                  · rw [h, HE.out.1, HE.out.2], Bd.out⟩
                case measure => simp [intOf]; omega
              · have q3' := str_ne q3
                refine wpAnyJ_take 8 (v := ?_) (by first | exact hF | exact wideFn) (HS.out _ Bd.out) rfl (by kernel_rfl) (by kernel_rfl) (by kernel_rfl) (by kernel_rfl) rfl ?_ (by first | exact fun _ _ _ h => h | exact fun _ _ _ h => hQ2 _ _ _ _ _ h) ?_
                rotate_left
                · intro W hSW
                  simp only [glA, glB, glC]
                  (try dsimp only at hSW)
                  go_simp
                  with_reducible rfl
                (try simp only [glA, glB, glC, Act.put, glD, glE, glF])
                refine wpAnyJ_done (by kernel_rfl) ?_
                go_wp2_with fail
                go_ret
                refine ⟨ret_bool ?_, Bd.out⟩
                have hne : ¬ l = m := fun e => by
                  have h1 := HE.out.1
                  rw [e, HE.out.2] at h1
                  injection h1 with h0 h1 h2 h3
                  exact q3 h3.symm
                simp [hne]
            · have q2' := str_ne q2
              refine wpAnyJ_take 8 (v := ?_) (by first | exact hF | exact wideFn) (HS.out _ Bd.out) rfl (by kernel_rfl) (by kernel_rfl) (by kernel_rfl) (by kernel_rfl) rfl ?_ (by first | exact fun _ _ _ h => h | exact fun _ _ _ h => hQ2 _ _ _ _ _ h) ?_
              rotate_left
              · intro W hSW
                simp only [glA, glB, glC]
                (try dsimp only at hSW)
                go_simp
                with_reducible rfl
              (try simp only [glA, glB, glC, Act.put, glD, glE, glF])
              refine wpAnyJ_done (by kernel_rfl) ?_
              go_wp2_with fail
              go_ret
              refine ⟨ret_bool ?_, Bd.out⟩
              have hne : ¬ l = m := fun e => by
                have h1 := HE.out.1
                rw [e, HE.out.2] at h1
                injection h1 with h0 h1 h2 h3
                exact q2 h2.symm
              simp [hne]
          · refine wpAnyJ_take 8 (v := ?_) (by first | exact hF | exact wideFn) (HS.out _ Bd.out) rfl (by kernel_rfl) (by kernel_rfl) (by kernel_rfl) (by kernel_rfl) rfl ?_ (by first | exact fun _ _ _ h => h | exact fun _ _ _ h => hQ2 _ _ _ _ _ h) ?_
            rotate_left
            · intro W hSW
              simp only [glA, glB, glC]
              (try dsimp only at hSW)
              go_simp
              with_reducible rfl
            (try simp only [glA, glB, glC, Act.put, glD, glE, glF])
            refine wpAnyJ_done (by kernel_rfl) ?_
            go_wp2_with fail
            go_ret
            refine ⟨ret_bool ?_, Bd.out⟩
            have hne : ¬ l = m := fun e => by
              have h1 := HE.out.1
              rw [e, HE.out.2] at h1
              injection h1 with h0 h1 h2 h3
              exact q1 h1.symm
            simp [hne]
        · refine wpAnyJ_take 8 (v := ?_) (by first | exact hF | exact wideFn) (HS.out _ Bd.out) rfl (by kernel_rfl) (by kernel_rfl) (by kernel_rfl) (by kernel_rfl) rfl ?_ (by first | exact fun _ _ _ h => h | exact fun _ _ _ h => hQ2 _ _ _ _ _ h) ?_
          rotate_left
          · intro W hSW
            simp only [glA, glB, glC]
            (try dsimp only at hSW)
            go_simp
            with_reducible rfl
          (try simp only [glA, glB, glC, Act.put, glD, glE, glF])
          refine wpAnyJ_done (by kernel_rfl) ?_
          go_wp2_with fail
          go_ret
          refine ⟨ret_bool ?_, Bd.out⟩
          have hne : ¬ l = m := fun e => by
            have h1 := HE.out.1
            rw [e, HE.out.2] at h1
            injection h1 with h0 h1 h2 h3
            exact q0 h0.symm
          simp [hne]
      · obtain rfl : k = n := by omega
        go_wp2_with fail
        go_ret
        refine ⟨ret_bool ?_, HBW.out⟩
        have : l = m := getD_all (by rw [HN.out.1, HN.out.2]) (by rw [HN.out.1]; exact HX.out)
        simp [this]
  · have hne : ¬ ((l.length : Int) = (m.length : Int)) := by omega
    have hd : decide (l = m) = false := by
      rw [decide_eq_false_iff_not]; intro h; exact hlm (by rw [h])
    rw [hd]
    clear hd
    generalize l.length = n1 at *
    generalize m.length = n2 at *
    go_enter Tryd.func20, Tryd.ntmps20
    go_wp2_with fail
    go_ret
    exact ⟨rfl, Below.refl _ _⟩
theorem getD_allW {l m : List Wd} (hl : l.length = m.length) (h : ∀ k, k < l.length → l.getD k noW = m.getD k noW) : l = m := by
  apply List.ext_getElem hl
  intro k h1 h2
  have := h k h1
  rwa [List.getD_eq_getElem?_getD, List.getD_eq_getElem?_getD, List.getElem?_eq_getElem h1, List.getElem?_eq_getElem h2] at this
theorem same_any (A B : Option Addr) (c d : Nat) (l m : List Wd) (w : World) (hl : l.length ≤ maxLen) (hA : SR w w.heap.size A l) (hB : SR w w.heap.size B m) :
    Calls Tryd.prog 18 #[.slice A l.length c, .slice B m.length d] w fun e w' => e = .returned (.bool (decide (l = m))) ∧ Below w.heap.size w w' := by
  unfold maxLen at hl
  have HA := hide hA
  have HB := hide hB
  clear hA hB
  by_cases hlm : l.length = m.length
  · obtain ⟨n, hn⟩ : ∃ n, l.length = n := ⟨_, rfl⟩
    have hm : m.length = n := by omega
    have HN := hide (And.intro hn hm)
    rw [hn] at hl
    rw [hn, hm]
    clear hlm hn hm
    go_enter Tryd.func18, Tryd.ntmps18
    go_wp2_with fail
    go_loopw [5] (fun i wr => ∃ k : Nat, k ≤ n ∧ i = .int .i64 k ∧ (∀ j, j < k → l.getD j noW = m.getD j noW) ∧ Below w.heap.size w wr) (fun i _ => n - (intOf i).toNat)
    case atStart => exact ⟨0, Nat.zero_le _, rfl, fun j hj => absurd hj (by omega), Below.refl _ _⟩
    case round =>
      obtain ⟨k, hk, rfl, hx, hbw⟩ := hrel
      have HX := hide hx
      have HBW := hide hbw
      clear hx
      by_cases hlt : k < n
      · have hlt' : (k : Int) < (n : Int) := by omega
        have i0 : (0 : Int) ≤ (k : Int) := by omega
        obtain ⟨x, he⟩ : ∃ e, l.getD k noW = e := ⟨_, rfl⟩
        obtain ⟨y, hf⟩ : ∃ f, m.getD k noW = f := ⟨_, rfl⟩
        obtain ⟨xb, xo, rfl, hxb, a0⟩ := VR1.at_ HA.out (by rw [HN.out.1]; exact hlt)
        obtain ⟨yb, yo, rfl, hyb, b0⟩ := VR1.at_ HB.out (by rw [HN.out.2]; exact hlt)
        rw [he] at a0
        rw [hf] at b0
        have HE := hide (And.intro he hf)
        clear he hf
        have HS : Hid (∀ W, Below w.heap.size w W → W.cell? ⟨xb, xo + k, none⟩ = some (.string x) ∧ W.cell? ⟨yb, yo + k, none⟩ = some (.string y)) := hide fun W h =>
          ⟨(h.cell (p := ⟨xb, xo + k, none⟩) hxb).trans a0, (h.cell (p := ⟨yb, yo + k, none⟩) hyb).trans b0⟩
        clear a0 b0 hbw
        go_upto_region 6 with fail
        have Bd := hide (HBW.out.trans ((Below.refl wr.heap.size wr).drew.mono HBW.out.size))
        refine wp_region_J (fun W : World => W.cell? ⟨xb, xo + k, none⟩ = some (.string x) ∧ W.cell? ⟨yb, yo + k, none⟩ = some (.string y)) (by kernel_rfl) ?_
        generalize wr.drew = wd at Bd ⊢
        refine wpAnyJ_take 0 (v := ?_) (by first | exact hF | exact wideFn) (HS.out _ Bd.out) rfl (by kernel_rfl) (by kernel_rfl) (by kernel_rfl) (by kernel_rfl) rfl ?_ (by first | exact fun _ _ _ h => h | exact fun _ _ _ h => hQ2 _ _ _ _ _ h) ?_
        rotate_left
        · intro W hSW
          simp only [glA, glB, glC]
          (try dsimp only at hSW)
          go_simp
          with_reducible rfl
        (try simp only [glA, glB, glC, Act.put, glD, glE, glF])
        refine wpAnyJ_take 1 (v := ?_) (by first | exact hF | exact wideFn) (HS.out _ Bd.out) rfl (by kernel_rfl) (by kernel_rfl) (by kernel_rfl) (by kernel_rfl) rfl ?_ (by first | exact fun _ _ _ h => h | exact fun _ _ _ h => hQ2 _ _ _ _ _ h) ?_
        rotate_left
        · intro W hSW
          simp only [glA, glB, glC]
          (try dsimp only at hSW)
          go_simp
          with_reducible rfl
        (try simp only [glA, glB, glC, Act.put, glD, glE, glF])
        refine wpAnyJ_take 2 (v := ?_) (by first | exact hF | exact wideFn) (HS.out _ Bd.out) rfl (by kernel_rfl) (by kernel_rfl) (by kernel_rfl) (by kernel_rfl) rfl ?_ (by first | exact fun _ _ _ h => h | exact fun _ _ _ h => hQ2 _ _ _ _ _ h) ?_
        rotate_left
        · intro W hSW
          simp only [glA, glB, glC]
          (try dsimp only at hSW)
          go_simp
          with_reducible rfl
        (try simp only [glA, glB, glC, Act.put, glD, glE, glF])
        refine wpAnyJ_take 3 (v := ?_) (by first | exact hF | exact wideFn) (HS.out _ Bd.out) rfl (by kernel_rfl) (by kernel_rfl) (by kernel_rfl) (by kernel_rfl) rfl ?_ (by first | exact fun _ _ _ h => h | exact fun _ _ _ h => hQ2 _ _ _ _ _ h) ?_
        rotate_left
        · intro W hSW
          simp only [glA, glB, glC]
          (try dsimp only at hSW)
          go_simp
          with_reducible rfl
        (try simp only [glA, glB, glC, Act.put, glD, glE, glF])
        refine wpAnyJ_take 4 (v := ?_) (by first | exact hF | exact wideFn) (HS.out _ Bd.out) rfl (by kernel_rfl) (by kernel_rfl) (by kernel_rfl) (by kernel_rfl) rfl ?_ (by first | exact fun _ _ _ h => h | exact fun _ _ _ h => hQ2 _ _ _ _ _ h) ?_
        rotate_left
        · intro W hSW
          simp only [glA, glB, glC]
          (try dsimp only at hSW)
          go_simp
          with_reducible rfl
        (try simp only [glA, glB, glC, Act.put, glD, glE, glF])
        refine wpAnyJ_take 5 (v := ?_) (by first | exact hF | exact wideFn) (HS.out _ Bd.out) rfl (by kernel_rfl) (by kernel_rfl) (by kernel_rfl) (by kernel_rfl) rfl ?_ (by first | exact fun _ _ _ h => h | exact fun _ _ _ h => hQ2 _ _ _ _ _ h) ?_
        rotate_left
        · intro W hSW
          simp only [glA, glB, glC]
          (try dsimp only at hSW)
          go_simp
          with_reducible rfl
        (try simp only [glA, glB, glC, Act.put, glD, glE, glF])
        refine wpAnyJ_take 6 (v := ?_) (by first | exact hF | exact wideFn) (HS.out _ Bd.out) rfl (by kernel_rfl) (by kernel_rfl) (by kernel_rfl) (by kernel_rfl) rfl ?_ (by first | exact fun _ _ _ h => h | exact fun _ _ _ h => hQ2 _ _ _ _ _ h) ?_
        rotate_left
        · intro W hSW
          simp only [glA, glB, glC]
          (try dsimp only at hSW)
          go_simp
          with_reducible rfl
        (try simp only [glA, glB, glC, Act.put, glD, glE, glF])
        refine wpAnyJ_take 7 (v := ?_) (by first | exact hF | exact wideFn) (HS.out _ Bd.out) rfl (by kernel_rfl) (by kernel_rfl) (by kernel_rfl) (by kernel_rfl) rfl ?_ (by first | exact fun _ _ _ h => h | exact fun _ _ _ h => hQ2 _ _ _ _ _ h) ?_
        rotate_left
        · intro W hSW
          simp only [glA, glB, glC]
          (try dsimp only at hSW)
          go_simp
          with_reducible rfl
        (try simp only [glA, glB, glC, Act.put, glD, glE, glF])
        by_cases q : x = y
        · subst q
          refine wpAnyJ_take 8 (v := ?_) (by first | exact hF | exact wideFn) (HS.out _ Bd.out) rfl (by kernel_rfl) (by kernel_rfl) (by kernel_rfl) (by kernel_rfl) rfl ?_ (by first | exact fun _ _ _ h => h | exact fun _ _ _ h => hQ2 _ _ _ _ _ h) ?_
          rotate_left
          · intro W hSW
            simp only [glA, glB, glC]
            (try dsimp only at hSW)
            go_simp
            with_reducible rfl
          (try simp only [glA, glB, glC, Act.put, glD, glE, glF])
          refine wpAnyJ_done (by kernel_rfl) ?_
          go_wp2_with fail
          go_roundw
          case rel => exact ⟨k + 1, by omega, by go_num, fun j hj => by
            rcases (by omega : j < k ∨ j = k) with h | h
            · exact HX.out j h
            · rw [h, HE.out.1, HE.out.2], Bd.out⟩
          case measure => simp [intOf]; omega
        · have q1 := str_ne q
          refine wpAnyJ_take 8 (v := ?_) (by first | exact hF | exact wideFn) (HS.out _ Bd.out) rfl (by kernel_rfl) (by kernel_rfl) (by kernel_rfl) (by kernel_rfl) rfl ?_ (by first | exact fun _ _ _ h => h | exact fun _ _ _ h => hQ2 _ _ _ _ _ h) ?_
          rotate_left
          · intro W hSW
            simp only [glA, glB, glC]
            (try dsimp only at hSW)
            go_simp
            with_reducible rfl
          (try simp only [glA, glB, glC, Act.put, glD, glE, glF])
          refine wpAnyJ_done (by kernel_rfl) ?_
          go_wp2_with fail
          go_ret
          refine ⟨ret_bool ?_, Bd.out⟩
          have hne : ¬ l = m := fun e => by
            have h1 := HE.out.1
            rw [e, HE.out.2] at h1
            exact q h1.symm
          simp [hne]
      · obtain rfl : k = n := by omega
        go_wp2_with fail
        go_ret
        refine ⟨ret_bool ?_, HBW.out⟩
        have : l = m := getD_allW (by rw [HN.out.1, HN.out.2]) (by rw [HN.out.1]; exact HX.out)
        simp [this]
  · have hne : ¬ ((l.length : Int) = (m.length : Int)) := by omega
    have hd : decide (l = m) = false := by
      rw [decide_eq_false_iff_not]; intro h; exact hlm (by rw [h])
    rw [hd]
    clear hd
    generalize l.length = n1 at *
    generalize m.length = n2 at *
    go_enter Tryd.func18, Tryd.ntmps18
    go_wp2_with fail
    go_ret
    exact ⟨rfl, Below.refl _ _⟩
/-- more than is looked at -/
def lgB (l : List Wd) : Bool := decide (25 < l.length) || l.any fun x => decide (20 < x.size)
theorem lgB_no {l : List Wd} (h : lgB l = false) : l.length ≤ 25 ∧ ∀ x ∈ l, x.size ≤ 20 := by
  unfold lgB at h
  rw [Bool.or_eq_false_iff] at h
  have h1 := of_decide_eq_false h.1
  refine ⟨by omega, fun x hx => ?_⟩
  have h2 := List.any_eq_false.1 h.2 x hx
  simp at h2
  exact h2
theorem long_any (A : Option Addr) (c : Nat) (l : List Wd) (w : World) (hl : SzOk l) (hA : SR w w.heap.size A l) :
    Calls Tryd.prog 14 #[.slice A l.length c] w fun e w' => e = .returned (.bool (lgB l)) ∧ w = w' := by
  have hl1 := hl.1
  unfold maxLen at hl1
  have HA := hide hA
  have HL := hide hl
  obtain ⟨n, hn⟩ : ∃ n, l.length = n := ⟨_, rfl⟩
  have HN := hide hn
  rw [hn] at hl1 ⊢
  clear hA hl hn
  go_enter Tryd.func14, Tryd.ntmps14
  go_wp2_with fail
  go_loopw [3] (fun i wr => ∃ k : Nat, k ≤ n ∧ k ≤ 26 ∧ i = .int .i64 k ∧ Hid (∀ j, j < k → (l.getD j noW).size ≤ 20) ∧ Hid (w = wr)) (fun i _ => n - (intOf i).toNat)
  case atStart => exact ⟨0, Nat.zero_le _, by omega, rfl, hide (fun j hj => absurd hj (by omega)), hide rfl⟩
  case round =>
    obtain ⟨k, hk, hk26, rfl, HX, HW⟩ := hrel
    obtain rfl := HW.out
    by_cases hlt : k < n
    · have hlt' : (k : Int) < (n : Int) := by omega
      by_cases h26 : k < 26
      · have h26' : (k : Int) < 26 := by omega
        have i0 : (0 : Int) ≤ (k : Int) := by omega
        have hkl : k < l.length := by rw [HN.out]; exact hlt
        obtain ⟨b, off, rfl, hb, hc⟩ := VR1.at_ HA.out hkl
        obtain ⟨x, hx⟩ : ∃ x, l.getD k noW = x := ⟨_, rfl⟩
        have hxm := HL.out.at_ k
        rw [hx] at hc hxm
        unfold maxLen at hxm
        by_cases h20 : 20 < x.size
        · have h20' : (20 : Int) < (x.size : Int) := by omega
          have hg : lgB l = true := by
            unfold lgB
            rw [Bool.or_eq_true]
            refine .inr (List.any_eq_true.2 ⟨x, ?_, by simpa using h20⟩)
            rw [← hx, List.getD_eq_getElem?_getD, List.getElem?_eq_getElem hkl]
            exact List.getElem_mem hkl
          have HG := hide hg
          clear hg hx h20
          go_wp2_with fail
          go_ret
          exact ⟨ret_bool HG.out.symm, rfl⟩
        · have h20' : ¬ (20 : Int) < (x.size : Int) := by omega
          have HX2 : Hid (∀ j, j < k + 1 → (l.getD j noW).size ≤ 20) := hide (fun j hj => by
            rcases (by omega : j < k ∨ j = k) with h | rfl
            · exact HX.out j h
            · rw [hx]; omega)
          clear hx h20
          go_wp2_with fail
          go_roundw
          case rel => exact ⟨k + 1, by omega, by omega, by go_num, HX2, by first | trivial | exact hide rfl⟩
          case measure => simp [intOf]; omega
      · have h26' : ¬ (k : Int) < 26 := by omega
        have h25 : (25 : Int) < (n : Int) := by omega
        have hg : lgB l = true := by
          unfold lgB
          rw [Bool.or_eq_true, HN.out]
          exact .inl (by simp; omega)
        have HG := hide hg
        clear hg
        go_wp2_with fail
        go_ret
        exact ⟨ret_bool HG.out.symm, rfl⟩
    · obtain rfl : k = n := by omega
      have hnl : ¬ (k : Int) < (k : Int) := by omega
      have hg : lgB l = decide (25 < (k : Int)) := by
        unfold lgB
        have h2 : (l.any fun x => decide (20 < x.size)) = false := by
          rw [List.any_eq_false]
          intro x hx
          obtain ⟨j, hj, rfl⟩ := List.getElem_of_mem hx
          have := HX.out j (by rw [← HN.out]; exact hj)
          rw [List.getD_eq_getElem?_getD, List.getElem?_eq_getElem hj] at this
          have h3 : l[j].size ≤ 20 := this
          simp; exact h3
        rw [h2, Bool.or_false, HN.out]
        rw [Bool.eq_iff_iff]; simp; omega
      have HG := hide hg
      clear hg
      go_wp2_with fail
      go_ret
      exact ⟨ret_bool (by rw [HG.out]), rfl⟩
theorem OwnS.made0 (W : World) : OwnS (W.alloc (.cells #[] 9)) W.heap.size (.slice (some ⟨W.heap.size, 0, none⟩) 0 0) [] :=
  World.ownsRow_made W #[] 0 (Nat.le_refl _) (by unfold maxLen; omega) rfl
theorem words_any (A : Option Addr) (c : Nat) (l : List Wd) (w : World) (hl : l.length ≤ 100000) (hA : SR w w.heap.size A l) :
    Calls Tryd.prog 16 #[.slice A l.length c] w fun e w' => ∃ v, e = .returned v ∧ OwnS w' w.heap.size v l ∧ Below w.heap.size w w' := by
  have hB0 : Below w.heap.size w (w.alloc (.cells #[] 9)) := (Below.refl _ _).alloc (Nat.le_refl _) _
  obtain ⟨v', w', hrun, ho, hg, -⟩ := (OwnS.made0 w).pushes A c l ((ER.below hA hB0 (Nat.le_refl _)).more hB0.size) (by simp; omega) hB0.size
  rw [List.nil_append] at ho
  have HRUN := hide hrun
  have HO := hide (And.intro ho (hB0.grown hg hB0.size (fun k hk => (World.ownsRow.lt (OwnS.made0 w) k hk).1)))
  clear hrun ho hg hB0 hA
  generalize l.length = n at HRUN ⊢
  go_enter Tryd.func16, Tryd.ntmps16
  go_wp2_with (at_builtin; refine wpList_append_run rfl (.tmp 3) (.tmp 4) 22 rfl rfl rfl HRUN.out ?_)
  go_ret
  exact ⟨_, rfl, HO.out.1, HO.out.2⟩
end Go.Proofs.YtmpegkojencbjaaDoor
/- School: numbers, equal; the reference's Copies. -/
namespace Go.Proofs.YtmpegkojencbjaaDoor
open List renaming getElem_toArray → glA, getElem_cons_zero → glB, getElem_cons_succ → glC, setIfInBounds_toArray → glD, set_cons_zero → glE, set_cons_succ → glF
open Go Go.RowKit Go.Shelf
set_option maxHeartbeats 4000000
set_option maxRecDepth 100000
theorem numbers_any (A : Option Addr) (c : Nat) (l : List Int) (w : World) (hl : l.length ≤ 100000) (hA : LI w w.heap.size A l) :
    Calls Tryd.prog 24 #[.slice A l.length c] w fun e w' => ∃ v, e = .returned v ∧ OwnJ w' w.heap.size v l ∧ Below w.heap.size w w' := by
  have hB0 : Below w.heap.size w (w.alloc (.cells #[] 3)) := (Below.refl _ _).alloc (Nat.le_refl _) _
  obtain ⟨v', w', hrun, ho, hg, -⟩ := (OwnJ.made0 w).pushes A c l ((ER.below hA hB0 (Nat.le_refl _)).more hB0.size) (by simp; omega) hB0.size
  rw [List.nil_append] at ho
  have HRUN := hide hrun
  have HO := hide (And.intro ho (hB0.grown hg hB0.size (fun k hk => (World.ownsRow.lt (OwnJ.made0 w) k hk).1)))
  clear hrun ho hg hB0 hA
  generalize l.length = n at HRUN ⊢
  go_enter Tryd.func24, Tryd.ntmps24
  go_wp2_with (at_builtin; refine wpList_append_run rfl (.tmp 3) (.tmp 4) 36 rfl rfl rfl HRUN.out ?_)
  go_ret
  exact ⟨_, rfl, HO.out.1, HO.out.2⟩
theorem equal_any (A B : Option Addr) (c d : Nat) (l m : List Int) (w : World) (hl : l.length ≤ maxLen) (hA : LI w w.heap.size A l) (hB : LI w w.heap.size B m) :
    Calls Tryd.prog 26 #[.slice A l.length c, .slice B m.length d] w fun e w' => e = .returned (.bool (decide (l = m))) ∧ Below w.heap.size w w' := by
  unfold maxLen at hl
  have HA := hide hA
  have HB := hide hB
  clear hA hB
  by_cases hlm : l.length = m.length
  · obtain ⟨n, hn⟩ : ∃ n, l.length = n := ⟨_, rfl⟩
    have hm : m.length = n := by omega
    have HN := hide (And.intro hn hm)
    rw [hn] at hl
    rw [hn, hm]
    clear hlm hn hm
    go_enter Tryd.func26, Tryd.ntmps26
    go_wp2_with fail
    go_loopw [5] (fun i wr => ∃ k : Nat, k ≤ n ∧ i = .int .i64 k ∧ (∀ j, j < k → l.getD j 0 = m.getD j 0) ∧ Below w.heap.size w wr) (fun i _ => n - (intOf i).toNat)
    case atStart => exact ⟨0, Nat.zero_le _, rfl, fun j hj => absurd hj (by omega), Below.refl _ _⟩
    case round =>
      obtain ⟨k, hk, rfl, hx, hbw⟩ := hrel
      have HX := hide hx
      have HBW := hide hbw
      clear hx
      by_cases hlt : k < n
      · have hlt' : (k : Int) < (n : Int) := by omega
        have i0 : (0 : Int) ≤ (k : Int) := by omega
        obtain ⟨x, hx⟩ : ∃ e, l.getD k 0 = e := ⟨_, rfl⟩
        obtain ⟨y, hy⟩ : ∃ f, m.getD k 0 = f := ⟨_, rfl⟩
        obtain ⟨xb, xo, rfl, hxb, a0⟩ := VR1.at_ HA.out (by rw [HN.out.1]; exact hlt)
        obtain ⟨yb, yo, rfl, hyb, b0⟩ := VR1.at_ HB.out (by rw [HN.out.2]; exact hlt)
        rw [hx] at a0
        rw [hy] at b0
        have HE := hide (And.intro hx hy)
        clear hx hy
        have HS : Hid (∀ W, Below w.heap.size w W → W.cell? ⟨xb, xo + k, none⟩ = some (.int .i64 x) ∧ W.cell? ⟨yb, yo + k, none⟩ = some (.int .i64 y)) := hide fun W h =>
          ⟨(h.cell (p := ⟨xb, xo + k, none⟩) hxb).trans a0, (h.cell (p := ⟨yb, yo + k, none⟩) hyb).trans b0⟩
        clear a0 b0 hbw
        go_upto_region 6 with fail
        have Bd := hide (HBW.out.trans ((Below.refl wr.heap.size wr).drew.mono HBW.out.size))
        refine wp_region_J (fun W : World => W.cell? ⟨xb, xo + k, none⟩ = some (.int .i64 x) ∧ W.cell? ⟨yb, yo + k, none⟩ = some (.int .i64 y)) (by kernel_rfl) ?_
        generalize wr.drew = wd at Bd ⊢
        refine wpAnyJ_take 0 (v := ?_) (by first | exact hF | exact wideFn) (HS.out _ Bd.out) rfl (by kernel_rfl) (by kernel_rfl) (by kernel_rfl) (by kernel_rfl) rfl ?_ (by first | exact fun _ _ _ h => h | exact fun _ _ _ h => hQ2 _ _ _ _ _ h) ?_
        rotate_left
        · intro W hSW
          simp only [glA, glB, glC]
          (try dsimp only at hSW)
          go_simp
          with_reducible rfl
        (try simp only [glA, glB, glC, Act.put, glD, glE, glF])
        refine wpAnyJ_take 1 (v := ?_) (by first | exact hF | exact wideFn) (HS.out _ Bd.out) rfl (by kernel_rfl) (by kernel_rfl) (by kernel_rfl) (by kernel_rfl) rfl ?_ (by first | exact fun _ _ _ h => h | exact fun _ _ _ h => hQ2 _ _ _ _ _ h) ?_
        rotate_left
        · intro W hSW
          simp only [glA, glB, glC]
          (try dsimp only at hSW)
          go_simp
          with_reducible rfl
        (try simp only [glA, glB, glC, Act.put, glD, glE, glF])
        refine wpAnyJ_take 2 (v := ?_) (by first | exact hF | exact wideFn) (HS.out _ Bd.out) rfl (by kernel_rfl) (by kernel_rfl) (by kernel_rfl) (by kernel_rfl) rfl ?_ (by first | exact fun _ _ _ h => h | exact fun _ _ _ h => hQ2 _ _ _ _ _ h) ?_
        rotate_left
        · intro W hSW
          simp only [glA, glB, glC]
          (try dsimp only at hSW)
          go_simp
          with_reducible rfl
        (try simp only [glA, glB, glC, Act.put, glD, glE, glF])
        refine wpAnyJ_take 3 (v := ?_) (by first | exact hF | exact wideFn) (HS.out _ Bd.out) rfl (by kernel_rfl) (by kernel_rfl) (by kernel_rfl) (by kernel_rfl) rfl ?_ (by first | exact fun _ _ _ h => h | exact fun _ _ _ h => hQ2 _ _ _ _ _ h) ?_
        rotate_left
        · intro W hSW
          simp only [glA, glB, glC]
          (try dsimp only at hSW)
          go_simp
          with_reducible rfl
        (try simp only [glA, glB, glC, Act.put, glD, glE, glF])
        refine wpAnyJ_take 4 (v := ?_) (by first | exact hF | exact wideFn) (HS.out _ Bd.out) rfl (by kernel_rfl) (by kernel_rfl) (by kernel_rfl) (by kernel_rfl) rfl ?_ (by first | exact fun _ _ _ h => h | exact fun _ _ _ h => hQ2 _ _ _ _ _ h) ?_
        rotate_left
        · intro W hSW
          simp only [glA, glB, glC]
          (try dsimp only at hSW)
          go_simp
          with_reducible rfl
        (try simp only [glA, glB, glC, Act.put, glD, glE, glF])
        refine wpAnyJ_take 5 (v := ?_) (by first | exact hF | exact wideFn) (HS.out _ Bd.out) rfl (by kernel_rfl) (by kernel_rfl) (by kernel_rfl) (by kernel_rfl) rfl ?_ (by first | exact fun _ _ _ h => h | exact fun _ _ _ h => hQ2 _ _ _ _ _ h) ?_
        rotate_left
        · intro W hSW
          simp only [glA, glB, glC]
          (try dsimp only at hSW)
          go_simp
          with_reducible rfl
        (try simp only [glA, glB, glC, Act.put, glD, glE, glF])
        refine wpAnyJ_take 6 (v := ?_) (by first | exact hF | exact wideFn) (HS.out _ Bd.out) rfl (by kernel_rfl) (by kernel_rfl) (by kernel_rfl) (by kernel_rfl) rfl ?_ (by first | exact fun _ _ _ h => h | exact fun _ _ _ h => hQ2 _ _ _ _ _ h) ?_
        rotate_left
        · intro W hSW
          simp only [glA, glB, glC]
          (try dsimp only at hSW)
          go_simp
          with_reducible rfl
        (try simp only [glA, glB, glC, Act.put, glD, glE, glF])
        refine wpAnyJ_take 7 (v := ?_) (by first | exact hF | exact wideFn) (HS.out _ Bd.out) rfl (by kernel_rfl) (by kernel_rfl) (by kernel_rfl) (by kernel_rfl) rfl ?_ (by first | exact fun _ _ _ h => h | exact fun _ _ _ h => hQ2 _ _ _ _ _ h) ?_
        rotate_left
        · intro W hSW
          simp only [glA, glB, glC]
          (try dsimp only at hSW)
          go_simp
          with_reducible rfl
        (try simp only [glA, glB, glC, Act.put, glD, glE, glF])
        by_cases q0 : x = y
        · subst q0
          refine wpAnyJ_take 8 (v := ?_) (by first | exact hF | exact wideFn) (HS.out _ Bd.out) rfl (by kernel_rfl) (by kernel_rfl) (by kernel_rfl) (by kernel_rfl) rfl ?_ (by first | exact fun _ _ _ h => h | exact fun _ _ _ h => hQ2 _ _ _ _ _ h) ?_
          rotate_left
          · intro W hSW
            simp only [glA, glB, glC]
            (try dsimp only at hSW)
            go_simp
            with_reducible rfl
          (try simp only [glA, glB, glC, Act.put, glD, glE, glF])
          refine wpAnyJ_done (by kernel_rfl) ?_
          go_wp2_with fail
          go_roundw
          case rel => exact ⟨k + 1, by omega, by go_num, fun j hj => by
            rcases (by omega : j < k ∨ j = k) with h | h
            · exact HX.out j h
            · rw [h, HE.out.1, HE.out.2], Bd.out⟩
          case measure => simp [intOf]; omega
        · have q1 := q0
          refine wpAnyJ_take 8 (v := ?_) (by first | exact hF | exact wideFn) (HS.out _ Bd.out) rfl (by kernel_rfl) (by kernel_rfl) (by kernel_rfl) (by kernel_rfl) rfl ?_ (by first | exact fun _ _ _ h => h | exact fun _ _ _ h => hQ2 _ _ _ _ _ h) ?_
          rotate_left
          · intro W hSW
            simp only [glA, glB, glC]
            (try dsimp only at hSW)
            go_simp
            with_reducible rfl
          (try simp only [glA, glB, glC, Act.put, glD, glE, glF])
          refine wpAnyJ_done (by kernel_rfl) ?_
          go_wp2_with fail
          go_ret
          refine ⟨ret_bool ?_, Bd.out⟩
          have hne : ¬ l = m := fun e => by
            have h1 := HE.out.1
            rw [e, HE.out.2] at h1
            exact q0 h1.symm
          simp [hne]
      · obtain rfl : k = n := by omega
        go_wp2_with fail
        go_ret
        refine ⟨ret_bool ?_, HBW.out⟩
        have : l = m := getD_allI (by rw [HN.out.1, HN.out.2]) (by rw [HN.out.1]; exact HX.out)
        simp [this]
  · have hne : ¬ ((l.length : Int) = (m.length : Int)) := by omega
    have hd : decide (l = m) = false := by
      rw [decide_eq_false_iff_not]; intro h; exact hlm (by rw [h])
    rw [hd]
    clear hd
    generalize l.length = n1 at *
    generalize m.length = n2 at *
    go_enter Tryd.func26, Tryd.ntmps26
    go_wp2_with fail
    go_ret
    exact ⟨rfl, Below.refl _ _⟩
/-- parents and readings as told -/
def cpB (P R : List Int) : Bool := !(decide (P.length = 0)) && (decide (R.length = P.length) && cpAll (fun k => P.getD k 0) (fun k => R.getD k 0) P.length)
theorem cpAll_head {p r : Nat → Int} {n : Nat} (hn : 0 < n) (h : p 0 ≠ -1) : cpAll p r n = false :=
  cpAll_no (i := 0) (by unfold cpOk; rw [if_pos rfl, decide_eq_false h]; rfl) hn
theorem cpOk_step {p r : Nat → Int} {k : Nat} (h0 : p 0 = -1) (h1 : 0 < k → 0 ≤ p k ∧ p k < k) (h2 : -1 ≤ r k) (h3 : r k ≤ 15) : cpOk p r k = true := by
  unfold cpOk
  by_cases hk : k = 0
  · subst hk
    rw [if_pos rfl, decide_eq_true h0, decide_eq_true ⟨h2, h3⟩]; rfl
  · have := h1 (by omega)
    rw [if_neg hk, decide_eq_true ⟨this.1, by omega⟩, decide_eq_true ⟨h2, h3⟩]; rfl
theorem cpOk_negp {p r : Nat → Int} {k : Nat} (h0 : 0 < k) (h : ¬ (0 ≤ p k ∧ p k < k)) : cpOk p r k = false := by
  cases h1 : cpOk p r k with
  | false => rfl
  | true =>
    have h2 := cpOk_p h1
    exact absurd ⟨h2.2.2.1 h0, h2.1⟩ h
theorem cpOk_negr {p r : Nat → Int} {k : Nat} (h : ¬ (-1 ≤ r k ∧ r k ≤ 15)) : cpOk p r k = false := by
  cases h1 : cpOk p r k with
  | false => rfl
  | true => exact absurd (cpOk_p h1).2.2.2 h
theorem refCopies_any (A B : Option Addr) (c d : Nat) (P R : List Int) (w : World) (hl : P.length ≤ 100000) (hP : LI w w.heap.size A P) (hR : LI w w.heap.size B R) :
    Calls Tryd.prog 27 #[.slice A P.length c, .slice B R.length d] w fun e w' => e = .returned (.bool (cpB P R)) ∧ w = w' := by
  have HP := hide hP
  have HR := hide hR
  clear hP hR
  obtain ⟨n, hn⟩ : ∃ n, P.length = n := ⟨_, rfl⟩
  obtain ⟨m, hm⟩ : ∃ n, R.length = n := ⟨_, rfl⟩
  have HN := hide (And.intro hn hm)
  rw [hn] at hl
  rw [hn, hm]
  clear hn hm
  rcases (by omega : n = 0 ∨ (0 < n ∧ m ≠ n) ∨ (0 < n ∧ m = n)) with h | ⟨h, h1⟩ | ⟨h, rfl⟩
  · subst h
    go_enter Tryd.func27, Tryd.ntmps27
    go_wp2_with fail
    go_ret
    refine ⟨ret_bool ?_, rfl⟩
    unfold cpB
    rw [decide_eq_true HN.out.1]; rfl
  · have e1 : ¬ (n : Int) = 0 := by omega
    have e2 : ¬ (m : Int) = (n : Int) := by omega
    go_enter Tryd.func27, Tryd.ntmps27
    go_wp2_with fail
    go_ret
    refine ⟨ret_bool ?_, rfl⟩
    unfold cpB
    rw [decide_eq_false (p := R.length = P.length) (by rw [HN.out.1, HN.out.2]; exact h1)]; simp
  · have e1 : ¬ (m : Int) = 0 := by omega
    have e1' : ((m : Int) == 0) = false := by simp; omega
    obtain ⟨xb, xo, rfl, hxb, a0⟩ := VR1.at_ HP.out (k := 0) (by rw [HN.out.1]; exact h)
    obtain ⟨x, hx⟩ : ∃ e, P.getD 0 0 = e := ⟨_, rfl⟩
    rw [hx] at a0
    rw [Nat.add_zero] at a0
    have hlt0 : (0 : Int) < (m : Int) := by omega
    have HX0 := hide hx
    clear hx
    by_cases hx1 : x = -1
    · subst hx1
      go_enter Tryd.func27, Tryd.ntmps27
      go_wp2_with fail
      go_loopw [5] (fun i wr => ∃ k : Nat, k ≤ m ∧ i = .int .i64 k ∧ Hid (cpAll (fun k => P.getD k 0) (fun k => R.getD k 0) k = true) ∧ w = wr) (fun i _ => m - (intOf i).toNat)
      case atStart => exact ⟨0, Nat.zero_le _, rfl, hide rfl, rfl⟩
      case round =>
        obtain ⟨k, hk, rfl, HC, rfl⟩ := hrel
        clear a0
        by_cases hlt : k < m
        · have hlt' : (k : Int) < (m : Int) := by omega
          have i0 : (0 : Int) ≤ (k : Int) := by omega
          obtain ⟨p, hp⟩ : ∃ e, P.getD k 0 = e := ⟨_, rfl⟩
          obtain ⟨r, hr⟩ : ∃ e, R.getD k 0 = e := ⟨_, rfl⟩
          obtain ⟨zb, zo, hz, hzb, b0⟩ := VR1.at_ HP.out (k := k) (by rw [HN.out.1]; exact hlt)
          injection hz with hz
          injection hz with hz1 hz2
          subst hz1 hz2
          obtain ⟨yb, yo, rfl, hyb, c0⟩ := VR1.at_ HR.out (k := k) (by rw [HN.out.2]; exact hlt)
          rw [hp] at b0
          rw [hr] at c0
          have HE := hide (And.intro hp hr)
          clear hp hr
          by_cases hk0 : k = 0
          · subst hk0
            rw [Nat.add_zero] at c0 b0
            have hlt0' : (0 : Int) < (m : Int) := by omega
            by_cases hr1 : r < -1
            · go_wp2_with fail
              go_ret
              refine ⟨ret_bool ?_, rfl⟩
              unfold cpB
              rw [cpAll_no (i := 0) (cpOk_negr (by (try dsimp only); rw [HE.out.2]; omega)) (by rw [HN.out.1]; exact hlt)]
              simp
            · by_cases hr2 : 15 < r
              · go_wp2_with fail
                go_ret
                refine ⟨ret_bool ?_, rfl⟩
                unfold cpB
                rw [cpAll_no (i := 0) (cpOk_negr (by (try dsimp only); rw [HE.out.2]; omega)) (by rw [HN.out.1]; exact hlt)]
                simp
              · go_wp2_with fail
                go_roundw
                case rel => exact ⟨1, by omega, rfl, hide (by
                  show (cpAll _ _ 0 && cpOk _ _ 0) = true
                  rw [HC.out, Bool.true_and]
                  exact cpOk_step HX0.out (fun h => absurd h (by omega)) (by (try dsimp only); rw [HE.out.2]; omega) (by (try dsimp only); rw [HE.out.2]; omega)), by simp⟩
                case measure => simp [intOf]; omega
          · have hk1 : (0 : Int) < (k : Int) := by omega
            by_cases hp1 : p < 0
            · go_wp2_with fail
              go_ret
              refine ⟨ret_bool ?_, rfl⟩
              unfold cpB
              rw [cpAll_no (i := k) (cpOk_negp (by omega) (by (try dsimp only); rw [HE.out.1]; omega)) (by rw [HN.out.1]; exact hlt)]
              simp
            · by_cases hp2 : (k : Int) ≤ p
              · go_wp2_with fail
                go_ret
                refine ⟨ret_bool ?_, rfl⟩
                unfold cpB
                rw [cpAll_no (i := k) (cpOk_negp (by omega) (by (try dsimp only); rw [HE.out.1]; omega)) (by rw [HN.out.1]; exact hlt)]
                simp
              · have hp3 : p < (k : Int) := by omega
                by_cases hr1 : r < -1
                · go_wp2_with fail
                  go_ret
                  refine ⟨ret_bool ?_, rfl⟩
                  unfold cpB
                  rw [cpAll_no (i := k) (cpOk_negr (by (try dsimp only); rw [HE.out.2]; omega)) (by rw [HN.out.1]; exact hlt)]
                  simp
                · by_cases hr2 : 15 < r
                  · go_wp2_with fail
                    go_ret
                    refine ⟨ret_bool ?_, rfl⟩
                    unfold cpB
                    rw [cpAll_no (i := k) (cpOk_negr (by (try dsimp only); rw [HE.out.2]; omega)) (by rw [HN.out.1]; exact hlt)]
                    simp
                  · have hst : IntKind.i64.wrap ((k : Int) + 1) = (k : Int) + 1 := IntWalk.i64_in _ (by omega)
                    go_wp2_with fail
                    go_roundw
                    case rel => exact ⟨k + 1, by omega, by go_num, hide (by
                      show (cpAll _ _ k && cpOk _ _ k) = true
                      rw [HC.out, Bool.true_and]
                      exact cpOk_step HX0.out (fun h => by (try dsimp only); rw [HE.out.1]; omega) (by (try dsimp only); rw [HE.out.2]; omega) (by (try dsimp only); rw [HE.out.2]; omega)), by simp⟩
                    case measure => simp [intOf]; omega
        · obtain rfl : m = k := by omega
          have hnl : ¬ (m : Int) < (m : Int) := by omega
          go_wp2_with fail
          go_ret
          refine ⟨ret_bool ?_, rfl⟩
          unfold cpB
          rw [HN.out.1, HN.out.2, HC.out, decide_eq_false (by omega)]; simp
    · have hx2 : (x == -1) = false := by simpa using hx1
      go_enter Tryd.func27, Tryd.ntmps27
      go_wp2_with fail
      go_ret
      refine ⟨ret_bool ?_, rfl⟩
      unfold cpB
      rw [cpAll_head (by rw [HN.out.1]; exact h) (by rw [HX0.out]; exact hx1)]; simp
end Go.Proofs.YtmpegkojencbjaaDoor
/- School: the law's copied. -/
namespace Go.Proofs.YtmpegkojencbjaaDoor
open Go Go.RowKit Go.Shelf
set_option maxHeartbeats 8000000
set_option maxRecDepth 100000
/-- what a loop of copied keeps -/
structure CpI (w W : World) (G R T : Nat) (d : Ad_) (s : Sch) (fa : Option Addr) (fc : Nat) (k : Nat) (V : Value) (L : List R3) : Prop where
  below : Below w.heap.size w W
  loG : w.heap.size ≤ G
  loR : w.heap.size ≤ R
  lo : w.heap.size ≤ T
  neG : G ≠ T
  neR : R ≠ T
  blkG : Blk W G 47 #[.slice d.fa s.fs.length d.fc, .int .i64 s.q, .slice d.ra s.rs.length d.rc]
  blkR : Blk W R 47 #[.slice none 0 0, .int .i64 0, .slice none 0 0]
  blk : Blk W T 47 #[.slice fa s.fs.length fc, .int .i64 s.q, V]
  fsO : OwnJ W w.heap.size (.slice fa s.fs.length fc) s.fs
  rsO : Own3 W w.heap.size V L
  len : L.length = k
  rl : ∀ j, j < k → ∃ a c, L.getD j r30 = (.slice a (s.rs.getD j r0).when_.length c, (s.rs.getD j r0).ask, (s.rs.getD j r0).say) ∧ OwnQ W w.heap.size (.slice a (s.rs.getD j r0).when_.length c) (s.rs.getD j r0).when_
section
variable {w W W' : World} {G R T : Nat} {d : Ad_} {s : Sch} {fa : Option Addr} {fc k : Nat} {V : Value} {L : List R3}
theorem CpI.ext (h : CpI w W G R T d s fa fc k V L) (hb : Below W.heap.size W W') : CpI w W' G R T d s fa fc k V L :=
  ⟨h.below.trans (hb.mono h.below.size), h.loG, h.loR, h.lo, h.neG, h.neR, h.blkG.ext hb, h.blkR.ext hb, h.blk.ext hb, h.fsO.ext hb, h.rsO.ext hb, h.len, fun j hj => by
    obtain ⟨a, c, h1, h2⟩ := h.rl j hj
    exact ⟨a, c, h1, h2.ext hb⟩⟩
theorem none_or {v : Value} : v.ownBlock = none ∨ v.ownBlock ≠ none := by
  cases v.ownBlock with
  | none => exact .inl rfl
  | some k => exact .inr (by simp)
theorem blk_kx {X g : Nat} {row : Option Nat} {t : TypeId} {cs : Array Value} (h : Blk W g t cs) (hk : KX W W' X row) (h1 : g ≠ X) (h2 : some g ≠ row) : Blk W' g t cs := (hk.block g h.lt h1 h2).trans h
/-- a rule goes to the list -/
theorem CpI.put (h : CpI w W G R T d s fa fc k V L) (a : Option Addr) (c : Nat) (hk : k ≤ 1000)
    (ho : OwnQ W w.heap.size (.slice a (s.rs.getD k r0).when_.length c) (s.rs.getD k r0).when_) :
    ∃ A c' w6, (Builtin.append_ #[45, 45] 45 #[V, .slice (some ⟨W.heap.size, 0, none⟩) 1 1]).run Tryd.prog (W.alloc (.cells #[.slice a (s.rs.getD k r0).when_.length c, .int .i64 (s.rs.getD k r0).ask, .int .i64 (s.rs.getD k r0).say] 73)) = .ok (.slice A (k + 1) c') w6 ∧
      Blk w6 T 47 #[.slice fa s.fs.length fc, .int .i64 s.q, V] ∧
      CpI w (w6.setCell ⟨T, 2, none⟩ (.slice A (k + 1) c')) G R T d s fa fc (k + 1) (.slice A (k + 1) c') (L ++ [(.slice a (s.rs.getD k r0).when_.length c, (s.rs.getD k r0).ask, (s.rs.getD k r0).say)]) := by
  obtain ⟨A, c', w6, hr, h6, hg⟩ := h.rsO.push (.slice a (s.rs.getD k r0).when_.length c, (s.rs.getD k r0).ask, (s.rs.getD k r0).say) rfl (by rw [h.len]; omega) h.below.size
  rw [h.len] at hr h6
  have hBA : Below W.heap.size W (W.alloc (.cells #[.slice a (s.rs.getD k r0).when_.length c, .int .i64 (s.rs.getD k r0).ask, .int .i64 (s.rs.getD k r0).say] 73)) := (Below.refl _ _).alloc (Nat.le_refl _) _
  have h5 := h.ext hBA
  have ho5 := ho.ext hBA
  dsimp only at hg hr
  have kx6 : KX (W.alloc (.cells #[.slice a (s.rs.getD k r0).when_.length c, .int .i64 (s.rs.getD k r0).ask, .int .i64 (s.rs.getD k r0).say] 73)) w6 T V.ownBlock := (KX.refl _ _ _).grown hg
  have kx7 := kx6.set 2 (.slice A (k + 1) c')
  have nT := own_blk_ne h5.rsO h5.blk (by decide)
  have nG := own_blk_ne h5.rsO h5.blkG (by decide)
  have nR := own_blk_ne h5.rsO h5.blkR (by decide)
  have b6 : Blk w6 T 47 #[.slice fa s.fs.length fc, .int .i64 s.q, V] := h5.blk.grown hg (fun e => nT e.symm)
  refine ⟨A, c', w6, hr, b6, ⟨?_, h.loG, h.loR, h.lo, h.neG, h.neR, blk_kx h5.blkG kx7 h.neG (fun e => nG e.symm), blk_kx h5.blkR kx7 h.neR (fun e => nR e.symm), ?_, ?_, ?_, ?_, fun j hj => ?_⟩⟩
  · exact (h5.below.grown hg h5.below.size (fun j hj => (World.ownsRow.lt h5.rsO j hj).1)).setCell h.lo _
  · exact b6.set_ 2 _
  · exact own_kx h5.fsO kx7 (own_blk_ne h5.fsO h5.blk (by decide)) (own_own_ne h5.fsO h5.rsO (by decide))
  · have kx8 : KX w6 (w6.setCell ⟨T, 2, none⟩ (.slice A (k + 1) c')) T none := (KX.refl w6 T none).set 2 _
    exact own_kx h6 kx8 (own_blk_ne h6 b6 (by decide)) none_or
  · rw [List.length_append, h.len]; rfl
  · by_cases e : j = k
    · subst e
      refine ⟨a, c, ?_, own_kx ho5 kx7 (own_blk_ne ho5 h5.blk (by decide)) (own_own_ne ho5 h5.rsO (by decide))⟩
      rw [List.getD_eq_getElem?_getD, List.getElem?_append_right (by rw [h.len]; exact Nat.le_refl _), h.len, Nat.sub_self]
      rfl
    · obtain ⟨a1, c1, e1, o1⟩ := h5.rl j (by omega)
      refine ⟨a1, c1, ?_, own_kx o1 kx7 (own_blk_ne o1 h5.blk (by decide)) (own_own_ne o1 h5.rsO (by decide))⟩
      rw [← e1, List.getD_eq_getElem?_getD, List.getElem?_append_left (by rw [h.len]; omega), List.getD_eq_getElem?_getD]
/-- what is copied is read as the same school -/
theorem CpI.read (h : CpI w W G R T d s fa fc s.rs.length V L) (w' : World) (hk : KX W w' R none) : ∃ d', V = .slice d'.ra s.rs.length d'.rc ∧ d'.fa = fa ∧ d'.fc = fc ∧ ScR w' w'.heap.size d' s := by
  obtain ⟨A, c, hV⟩ := own_shape h.rsO
  rw [h.len] at hV
  subst hV
  have hc : ∀ j, ∃ ac : Option Addr × Nat, j < s.rs.length → L.getD j r30 = (.slice ac.1 (s.rs.getD j r0).when_.length ac.2, (s.rs.getD j r0).ask, (s.rs.getD j r0).say) ∧ OwnQ W w.heap.size (.slice ac.1 (s.rs.getD j r0).when_.length ac.2) (s.rs.getD j r0).when_ := fun j => by
    by_cases hj : j < s.rs.length
    · obtain ⟨a, c, h1, h2⟩ := h.rl j hj
      exact ⟨(a, c), fun _ => ⟨h1, h2⟩⟩
    · exact ⟨(none, 0), fun h => absurd h hj⟩
  obtain ⟨f, hf⟩ := Classical.axiomOfChoice hc
  refine ⟨⟨fa, fc, A, c, fun j => (f j).1, fun j => (f j).2⟩, rfl, rfl, rfl, ?_⟩
  have o1 := own_kx h.fsO hk (own_blk_ne h.fsO h.blkR (by decide)) none_or
  have o2 := own_kx h.rsO hk (own_blk_ne h.rsO h.blkR (by decide)) none_or
  refine ⟨(OwnJ.li o1).2, ⟨?_, fun k hk2 => ?_⟩⟩
  · have h3 := (Own3.row o2).2
    rw [h.len] at h3
    intro hn
    obtain ⟨b, off, hA, hb, hc⟩ := h3 hn
    refine ⟨b, off, hA, hb, fun k i hk1 hi => ?_⟩
    rw [hc k i hk1 hi]
    show some (r3V (L.getD k r30) i) = some (rlV (s.rs.getD k r0) (f k).1 (f k).2 i)
    rw [(hf k hk1).1]
    rcases (by omega : i = 0 ∨ i = 1 ∨ i = 2) with rfl | rfl | rfl <;> rfl
  · have o3 := (hf k hk2).2
    exact (OwnQ.tsR (own_kx o3 hk (own_blk_ne o3 h.blkR (by decide)) none_or)).2
end
def CpPost (w : World) (s : Sch) (e : Ending) (w' : World) : Prop :=
  ∃ d', e = .returned (scV d' s) ∧ ScR w' w'.heap.size d' s ∧ Below w.heap.size w w'
end Go.Proofs.YtmpegkojencbjaaDoor
/- School: the law's copied, walked. -/
namespace Go.Proofs.YtmpegkojencbjaaDoor
open List renaming getElem_toArray → glA, getElem_cons_zero → glB, getElem_cons_succ → glC, setIfInBounds_toArray → glD, set_cons_zero → glE, set_cons_succ → glF
open Go Go.RowKit Go.Shelf
set_option maxHeartbeats 8000000
set_option maxRecDepth 100000
theorem OwnJ.low2 {W : World} {n0 n1 : Nat} {v : Value} {l : List Int} (h : OwnJ W n0 v l) (hb : n1 ≤ n0) : OwnJ W n1 v l := ⟨h.1, h.2.imp id fun ⟨g, cap, cur, h1, h2, h3⟩ => ⟨g, cap, cur, h1, Nat.le_trans hb h2, h3⟩⟩
theorem OwnQ.low {W : World} {n0 n1 : Nat} {v : Value} {l : List (Int × Int)} (h : OwnQ W n0 v l) (hb : n1 ≤ n0) : OwnQ W n1 v l := ⟨h.1, h.2.imp id fun ⟨g, cap, cur, h1, h2, h3⟩ => ⟨g, cap, cur, h1, Nat.le_trans hb h2, h3⟩⟩
theorem copied_any (d : Ad_) (s : Sch) (w : World) (hd : ScR w w.heap.size d s) (h1 : s.fs.length ≤ 1000) (h2 : s.rs.length ≤ 1000) (h3 : ∀ r ∈ s.rs, r.when_.length ≤ 1000) :
    Calls Tryd.prog 31 #[scV d s] w (CpPost w s) := by
  have HD := hide hd
  have HT := hide h3
  obtain ⟨nf, hf⟩ : ∃ n, s.fs.length = n := ⟨_, rfl⟩
  obtain ⟨nr, hr⟩ : ∃ n, s.rs.length = n := ⟨_, rfl⟩
  obtain ⟨Q, hQ⟩ : ∃ n, s.q = n := ⟨_, rfl⟩
  have HN := hide (And.intro hf (And.intro hr hQ))
  have HNU : Hid (∀ W, Below w.heap.size w W → Calls Tryd.prog 24 #[.slice d.fa nf d.fc] W fun e w' => ∃ v, e = .returned v ∧ OwnJ w' W.heap.size v s.fs ∧ Below W.heap.size W w') := hide fun W h => by
    have := numbers_any d.fa d.fc s.fs W (by omega) (hd.below h).fs
    rwa [hf] at this
  unfold scV
  rw [hf, hr, hQ]
  rw [hf] at h1
  rw [hr] at h2
  have G1 := (Blk.new w 47 #[.slice d.fa nf d.fc, .int .i64 Q, .slice d.ra nr d.rc]).alloc (.cells #[.slice none 0 0, .int .i64 0, .slice none 0 0] 47)
  have R1 : Blk ((w.alloc (.cells #[.slice d.fa nf d.fc, .int .i64 Q, .slice d.ra nr d.rc] 47)).alloc (.cells #[.slice none 0 0, .int .i64 0, .slice none 0 0] 47)) (w.heap.size + 1) 47 #[.slice none 0 0, .int .i64 0, .slice none 0 0] := by simpa using Blk.new (w.alloc (.cells #[.slice d.fa nf d.fc, .int .i64 Q, .slice d.ra nr d.rc] 47)) 47 #[.slice none 0 0, .int .i64 0, .slice none 0 0]
  have B2 : Hid (Below w.heap.size w ((w.alloc (.cells #[.slice d.fa nf d.fc, .int .i64 Q, .slice d.ra nr d.rc] 47)).alloc (.cells #[.slice none 0 0, .int .i64 0, .slice none 0 0] 47))) := hide (((Below.refl _ _).alloc (Nat.le_refl _) _).alloc (by simp) _)
  have HSZ : Hid (((w.alloc (.cells #[.slice d.fa nf d.fc, .int .i64 Q, .slice d.ra nr d.rc] 47)).alloc (.cells #[.slice none 0 0, .int .i64 0, .slice none 0 0] 47)).heap.size = w.heap.size + 2) := hide (by simp)
  clear hd hf hr hQ h3
  unfold CpPost
  go_enter Tryd.func31, Tryd.ntmps31
  go_upto_region 1 with fail
  generalize ((w.alloc (.cells #[.slice d.fa nf d.fc, .int .i64 Q, .slice d.ra nr d.rc] 47)).alloc (.cells #[.slice none 0 0, .int .i64 0, .slice none 0 0] 47)) = w2 at B2 G1 R1 HSZ ⊢
  obtain ⟨G, hG⟩ : ∃ x, w.heap.size = x := ⟨_, rfl⟩
  have HG := hide hG
  rw [hG] at G1 R1 ⊢
  have HG1 := hide G1
  have HR1 := hide R1
  clear hG G1 R1
  go_cut [3] (fun v w' => ∃ T fa fc, v = .pointer (some ⟨T, 0, none⟩) ∧ Hid (CpI w w' G (G + 1) T d s fa fc 0 (.slice none 0 0) []))
  case first =>
   as_aux_lemma =>
    have Bd := hide (B2.out.trans ((Below.refl w2.heap.size w2).drew.mono B2.out.size))
    have Gd := hide (HG1.out.ext (Below.refl w2.heap.size w2).drew)
    have Rd := hide (HR1.out.ext (Below.refl w2.heap.size w2).drew)
    have HSd : Hid (w2.drew.heap.size = w.heap.size + 2) := hide HSZ.out
    refine wp_region_J (fun W : World => (W.cell? ⟨G, 0, none⟩ = some (.slice d.fa nf d.fc) ∧ W.cell? ⟨G, 1, none⟩ = some (.int .i64 Q))) (by kernel_rfl) ?_
    generalize w2.drew = wd at Bd Gd Rd HSd ⊢
    clear B2 HG1 HR1 HSZ
    have HC : Hid (∀ W, Below wd.heap.size wd W → (W.cell? ⟨G, 0, none⟩ = some (.slice d.fa nf d.fc) ∧ W.cell? ⟨G, 1, none⟩ = some (.int .i64 Q))) := hide fun W h => by
      obtain ⟨-, q0, q1, q2, -⟩ := blk3 (Gd.out.ext h)
      exact ⟨q0, q1⟩
    refine wpAnyJ_take 0 (v := ?_) (by first | exact hF | exact wideFn) (HC.out _ (Below.refl _ _)) rfl (by kernel_rfl) (by kernel_rfl) (by kernel_rfl) (by kernel_rfl) rfl ?_ (by first | exact fun _ _ _ h => h | exact fun _ _ _ h => hQ2 _ _ _ _ _ h) ?_
    rotate_left
    · intro W hSW
      simp only [glA, glB, glC]
      (try dsimp only at hSW)
      go_simp
      with_reducible rfl
    (try simp only [glA, glB, glC, Act.put, glD, glE, glF])
    refine wpAnyJ_take 1 (v := ?_) (by first | exact hF | exact wideFn) (HC.out _ (Below.refl _ _)) rfl (by kernel_rfl) (by kernel_rfl) (by kernel_rfl) (by kernel_rfl) rfl ?_ (by first | exact fun _ _ _ h => h | exact fun _ _ _ h => hQ2 _ _ _ _ _ h) ?_
    rotate_left
    · intro W hSW
      simp only [glA, glB, glC]
      (try dsimp only at hSW)
      go_simp
      with_reducible rfl
    (try simp only [glA, glB, glC, Act.put, glD, glE, glF])
    refine wpAnyJ_take 3 (v := ?_) (by first | exact hF | exact wideFn) (HC.out _ (Below.refl _ _)) rfl (by kernel_rfl) (by kernel_rfl) (by kernel_rfl) (by kernel_rfl) rfl ?_ (by first | exact fun _ _ _ h => h | exact fun _ _ _ h => hQ2 _ _ _ _ _ h) ?_
    rotate_left
    · intro W hSW
      simp only [glA, glB, glC]
      (try dsimp only at hSW)
      go_simp
      with_reducible rfl
    (try simp only [glA, glB, glC, Act.put, glD, glE, glF])
    refine wpAnyJ_take 4 (v := ?_) (by first | exact hF | exact wideFn) (HC.out _ (Below.refl _ _)) rfl (by kernel_rfl) (by kernel_rfl) (by kernel_rfl) (by kernel_rfl) rfl ?_ (by first | exact fun _ _ _ h => h | exact fun _ _ _ h => hQ2 _ _ _ _ _ h) ?_
    rotate_left
    · intro W hSW
      simp only [glA, glB, glC]
      (try dsimp only at hSW)
      go_simp
      with_reducible rfl
    (try simp only [glA, glB, glC, Act.put, glD, glE, glF])
    refine wpAnyJ_two 2 6 rfl rfl (by kernel_rfl) (fun K hK => ?_) (fun K hK => ?_)
    · simp only [glA, glB, glC]
      go_simp
      refine ⟨trivial, rfl, ?_⟩
      refine (callsIn_wide.2 (HNU.out wd Bd.out)).mono ?_
      rintro e w3 ⟨v, rfl, ho, hb3⟩
      obtain ⟨A', c', rfl⟩ := own_shape ho
      dsimp only
      refine hK.out _ _ (fun _ => HC.out _ hb3) ?_
      clear hK K
      (try simp only [glA, glB, glC, Act.put, glD, glE, glF])
      rw [HN.out.1]
      have hf := HN.out.1
      refine wpAnyJ_take 5 (v := ?_) (by first | exact hF | exact wideFn) (HC.out _ hb3) rfl (by kernel_rfl) (by kernel_rfl) (by kernel_rfl) (by kernel_rfl) rfl ?_ (by first | exact fun _ _ _ h => h | exact fun _ _ _ h => hQ2 _ _ _ _ _ h) ?_
      rotate_left
      · intro W hSW
        simp only [glA, glB, glC]
        (try dsimp only at hSW)
        go_simp
        with_reducible rfl
      (try simp only [glA, glB, glC, Act.put, glD, glE, glF])
      refine wpAnyJ_one 6 rfl (by kernel_rfl) (fun K hK => ?_)
      simp only [glA, glB, glC]
      go_simp
      refine hK.out _ _ (fun _ => HC.out _ (hb3.alloc hb3.size _)) ?_
      clear hK K
      (try simp only [glA, glB, glC, Act.put, glD, glE, glF])
      refine wpAnyJ_one 7 rfl (by kernel_rfl) (fun K hK => ?_)
      simp only [glA, glB, glC]
      go_simp
      refine hK.out _ _ (fun _ => HC.out _ (hb3.alloc hb3.size _)) ?_
      clear hK K
      (try simp only [glA, glB, glC, Act.put, glD, glE, glF])
      refine wpAnyJ_done (by kernel_rfl) ?_
      go_wp2_with fail
      go_meet
      refine ⟨w3.heap.size, A', c', rfl, hide ?_⟩
      have z1 := HSd.out
      have z2 := hb3.size
      have z3 := HG.out
      refine ⟨(Bd.out.trans (hb3.mono Bd.out.size)).alloc (Nat.le_trans Bd.out.size hb3.size) _, Nat.le_of_eq HG.out, by omega, by omega, by omega, by omega, ?_, (Rd.out.ext hb3).alloc _, ?_, ?_, Own3.nil _ _, rfl, fun j hj => absurd hj (by omega)⟩
      · rw [HN.out.1, HN.out.2.1, HN.out.2.2]; exact (Gd.out.ext hb3).alloc _
      · rw [HN.out.1, HN.out.2.2]; exact Blk.new _ _ _
      · exact (ho.low2 Bd.out.size).ext ((Below.refl _ _).alloc (Nat.le_refl _) _)
    · simp only [glA, glB, glC]
      go_simp
      refine hK.out _ _ (fun _ => (HC.out _ ((Below.refl _ _).alloc (Nat.le_refl _) _))) ?_
      clear hK K
      (try simp only [glA, glB, glC, Act.put, glD, glE, glF])
      have Bz : Hid (Below wd.heap.size wd (wd.alloc (.cells #[.slice none 0 0, .int .i64 0, .slice none 0 0] 47))) := hide ((Below.refl _ _).alloc (Nat.le_refl _) _)
      have T1 := hide (Blk.new wd 47 #[.slice none 0 0, .int .i64 0, .slice none 0 0])
      have HSa : Hid ((wd.alloc (.cells #[.slice none 0 0, .int .i64 0, .slice none 0 0] 47)).heap.size = wd.heap.size + 1) := hide (by simp)
      obtain ⟨T, hT⟩ : ∃ x, wd.heap.size = x := ⟨_, rfl⟩
      have HTT := hide hT
      rw [hT] at T1 ⊢
      clear hT
      generalize (wd.alloc (.cells #[.slice none 0 0, .int .i64 0, .slice none 0 0] 47)) = wa at Bz T1 HSa ⊢
      refine wpAnyJ_one 2 rfl (by kernel_rfl) (fun K hK => ?_)
      simp only [glA, glB, glC]
      go_simp
      refine ⟨trivial, rfl, ?_⟩
      refine (callsIn_wide.2 (HNU.out wa (Bd.out.trans (Bz.out.mono Bd.out.size)))).mono ?_
      rintro e w3 ⟨v, rfl, ho, hb3⟩
      obtain ⟨A', c', rfl⟩ := own_shape ho
      dsimp only
      refine hK.out _ _ (fun _ => HC.out _ (Bz.out.trans (hb3.mono Bz.out.size))) ?_
      clear hK K
      (try simp only [glA, glB, glC, Act.put, glD, glE, glF])
      rw [HN.out.1]
      refine wpAnyJ_take 5 (v := ?_) (by first | exact hF | exact wideFn) (HC.out _ (Bz.out.trans (hb3.mono Bz.out.size))) rfl (by kernel_rfl) (by kernel_rfl) (by kernel_rfl) (by kernel_rfl) rfl ?_ (by first | exact fun _ _ _ h => h | exact fun _ _ _ h => hQ2 _ _ _ _ _ h) ?_
      rotate_left
      · intro W hSW
        simp only [glA, glB, glC]
        (try dsimp only at hSW)
        go_simp
        with_reducible rfl
      (try simp only [glA, glB, glC, Act.put, glD, glE, glF])
      obtain ⟨y9, y0, y1, y2, -⟩ := blk3 (T1.out.ext hb3)
      have yf0 := (T1.out.ext hb3).frozen 0
      have yf1 := (T1.out.ext hb3).frozen 1
      have yf2 := (T1.out.ext hb3).frozen 2
      have z1 := HSd.out
      have z2 := hb3.size
      have z3 := HG.out
      have z4 := HTT.out
      have z5 := HSa.out
      have hbS : Below wd.heap.size wd (((w3.setCell ⟨T, 0, none⟩ (.slice A' nf c')).setCell ⟨T, 1, none⟩ (.int .i64 Q)).setCell ⟨T, 2, none⟩ (.slice none 0 0)) := (((Bz.out.trans (hb3.mono Bz.out.size)).setCell (p := ⟨T, 0, none⟩) (by show wd.heap.size ≤ T; omega) _).setCell (p := ⟨T, 1, none⟩) (by show wd.heap.size ≤ T; omega) _).setCell (p := ⟨T, 2, none⟩) (by show wd.heap.size ≤ T; omega) _
      have HBS := hide hbS
      clear hbS z1 z2 z3 z4 z5
      refine wpAnyJ_one 7 rfl (by kernel_rfl) (fun K hK => ?_)
      simp only [glA, glB, glC]
      go_simp
      refine hK.out _ _ (fun _ => HC.out _ HBS.out) ?_
      clear hK K
      (try simp only [glA, glB, glC, Act.put, glD, glE, glF])
      refine wpAnyJ_done (by kernel_rfl) ?_
      go_wp2_with fail
      go_meet
      have z1 := HSd.out
      have z2 := hb3.size
      have z3 := HG.out
      have z4 := HTT.out
      have z5 := HSa.out
      refine ⟨T, A', c', rfl, hide ?_⟩
      refine ⟨Bd.out.trans (HBS.out.mono Bd.out.size), Nat.le_of_eq HG.out, by omega, by omega, by omega, by omega, ?_, ?_, ?_, ?_, Own3.nil _ _, rfl, fun j hj => absurd hj (by omega)⟩
      · rw [HN.out.1, HN.out.2.1, HN.out.2.2]; exact Gd.out.below HBS.out Gd.out.lt
      · exact Rd.out.below HBS.out Rd.out.lt
      · rw [HN.out.1, HN.out.2.2]; exact (T1.out.ext hb3).set3 _ _ _
      · have hlo : T < wa.heap.size := by omega
        rw [← HN.out.1]
        exact OwnJ.low2 (ownsRow_setCell_below (ownsRow_setCell_below (ownsRow_setCell_below ho (a := ⟨T, 0, none⟩) hlo _) (a := ⟨T, 1, none⟩) hlo _) (a := ⟨T, 2, none⟩) hlo _) (by omega)
  obtain ⟨T, fa, fc, rfl, HI⟩ := hcut
  clear B2 HG1 HR1 HSZ HNU
  go_wp2_with fail
  go_loopw [4] (fun i wr => ∃ (k : Nat) (V : Value) (L : List R3), k ≤ nr ∧ i = .int .i64 k ∧ Hid (CpI w wr G (G + 1) T d s fa fc k V L)) (fun i _ => nr - (intOf i).toNat)
  case atStart => exact ⟨0, _, _, Nat.zero_le _, rfl, HI⟩
  case round =>
    obtain ⟨k, V, L, hk, rfl, HK⟩ := hrel
    clear HI
    have hgb := HK.out.blkG
    rw [HN.out.1, HN.out.2.1, HN.out.2.2] at hgb
    obtain ⟨q9, q0, q1, q2, -⟩ := blk3 hgb
    clear hgb
    by_cases hlt : k < nr
    · -- BEGIN2
      have hlt' : (k : Int) < (nr : Int) := by omega
      have k0 : (0 : Int) ≤ (k : Int) := by omega
      have hst : IntKind.i64.wrap ((k : Int) + 1) = ((k + 1 : Nat) : Int) := by rw [IntWalk.i64_in _ (by omega)]; omega
      have hkl : k < s.rs.length := by rw [HN.out.2.1]; exact hlt
      obtain ⟨x, hx⟩ : ∃ x, s.rs.getD k r0 = x := ⟨_, rfl⟩
      have htl : x.when_.length ≤ 1000 := HT.out x (by rw [← hx, List.getD_eq_getElem?_getD, List.getElem?_eq_getElem hkl]; exact List.getElem_mem _)
      have htr := HD.out.rs.tests k hkl
      rw [hx] at htr
      obtain ⟨b, off, hra, hb, a0, a1, a2⟩ := HD.out.rs.at_ hkl hx
      rw [hra] at q2 ⊢
      have c0 := (HK.out.below.cell (p := ⟨b, off + k * 3, none⟩) hb).trans a0
      have c1 := (HK.out.below.cell (p := ⟨b, off + k * 3 + 1, none⟩) hb).trans a1
      have c2 := (HK.out.below.cell (p := ⟨b, off + k * 3 + 2, none⟩) hb).trans a2
      have HXX := hide hx
      have HTR := hide htr
      obtain ⟨ta, hta⟩ : ∃ y, d.ta k = y := ⟨_, rfl⟩
      obtain ⟨tc, htc⟩ : ∃ y, d.tc k = y := ⟨_, rfl⟩
      rw [hta] at HTR
      rw [hta, htc] at c0
      obtain ⟨tn, htn⟩ : ∃ y, x.when_.length = y := ⟨_, rfl⟩
      obtain ⟨ask, hask⟩ : ∃ y, x.ask = y := ⟨_, rfl⟩
      obtain ⟨say, hsay⟩ : ∃ y, x.say = y := ⟨_, rfl⟩
      rw [htn] at c0
      rw [hask] at c1
      rw [hsay] at c2
      have HV := hide (And.intro htn (And.intro hask hsay))
      clear hx htr a0 a1 a2 hta htc htn hask hsay
      go_upto_region 6 with fail
      have HB1 : Hid (Below wr.heap.size wr (wr.alloc (.cells #[.slice ta tn tc, .int .i64 ask, .int .i64 say] 73))) := hide ((Below.refl _ _).alloc (Nat.le_refl _) _)
      have E1 := hide (Blk.new wr 73 #[.slice ta tn tc, .int .i64 ask, .int .i64 say])
      have HZ1 : Hid ((wr.alloc (.cells #[.slice ta tn tc, .int .i64 ask, .int .i64 say] 73)).heap.size = wr.heap.size + 1) := hide (by simp)
      obtain ⟨g, hg⟩ : ∃ x, wr.heap.size = x := ⟨_, rfl⟩
      have HGG := hide hg
      rw [hg] at E1 ⊢
      clear hg c0 c1 c2 q9 q0 q1 q2
      generalize (wr.alloc (.cells #[.slice ta tn tc, .int .i64 ask, .int .i64 say] 73)) = w1 at HB1 E1 HZ1 ⊢
      go_cut [27] (fun v w' => ∃ A1 c1, Hid (CpI w w' G (G + 1) T d s fa fc k V L) ∧ Hid (Blk w' g 73 #[.slice A1 tn c1, .int .i64 ask, .int .i64 say]) ∧ Hid (OwnQ w' w.heap.size (.slice A1 tn c1) x.when_))
      case first =>
       as_aux_lemma =>
        have hBA : Below w1.heap.size w1 (w1.alloc (.cells #[] 76)) := (Below.refl _ _).alloc (Nat.le_refl _) _
        have hbw : Below w.heap.size w w1 := HK.out.below.trans (HB1.out.mono HK.out.below.size)
        obtain ⟨v', w3, hrun, ho, hgr⟩ := (OwnQ.made0 w1).pushes ta tc x.when_ ((ER.below HTR.out (hbw.trans (hBA.mono hbw.size)) (Nat.le_refl _)).more (Nat.le_trans hbw.size hBA.size)) (by simp; omega) hBA.size
        rw [List.nil_append] at ho
        rw [HV.out.1] at hrun
        obtain ⟨A1, c1, hv⟩ := own_shape ho
        rw [HV.out.1] at hv
        subst hv
        have hb3 : Below w1.heap.size w1 w3 := hBA.grown hgr hBA.size (fun k hk => (World.ownsRow.lt (OwnQ.made0 w1) k hk).1)
        have E3 := hide (E1.out.ext hb3)
        have HRUN := hide hrun
        have HO := hide ho
        have HB3 := hide (HB1.out.trans (hb3.mono HB1.out.size))
        obtain ⟨f1, f2, f3, f4, f5⟩ := blk3 E1.out
        obtain ⟨e1, e2, e3, e4, e5⟩ := blk3 E3.out
        have ef := E3.out.frozen 0
        clear hrun ho hgr hb3 hBA hbw e5 f5
        go_wp2_with (at_builtin; refine wpList_append_run rfl (.tmp 24) (.tmp 26) 71 rfl rfl rfl HRUN.out ?_)
        go_meet
        have z1 := HZ1.out
        have z2 := HGG.out
        have hbs : Below wr.heap.size wr (w3.setCell ⟨g, 0, none⟩ (.slice A1 tn c1)) := HB3.out.setCell (p := ⟨g, 0, none⟩) (by show wr.heap.size ≤ g; omega) _
        refine ⟨A1, c1, hide (HK.out.ext hbs), hide (E3.out.set_ 0 _), hide ?_⟩
        have := ownsRow_setCell_below HO.out (a := ⟨g, 0, none⟩) (show g < w1.heap.size by omega) (.slice A1 tn c1)
        exact OwnQ.low this (by have := HK.out.below.size; omega)
      obtain ⟨A1, c1, HI2, HE2, HO2⟩ := hcut
      clear HB1 E1 HZ1 HK HGG
      obtain ⟨AV, cV, hV⟩ := own_shape HI2.out.rsO
      rw [HI2.out.len] at hV
      subst hV
      obtain ⟨A', c', w6, hrun, hb6, hput⟩ := HI2.out.put A1 c1 (by omega) (by rw [HXX.out, HV.out.1]; exact HO2.out)
      rw [HXX.out, HV.out.1, HV.out.2.1, HV.out.2.2] at hrun
      have htb := HI2.out.blk
      rw [HN.out.1, HN.out.2.2] at htb
      obtain ⟨t1, t2, t3, t4, t5⟩ := blk3 htb
      obtain ⟨e1, e2, e3, e4, e5⟩ := blk3 HE2.out
      rw [HN.out.1, HN.out.2.2] at hb6
      obtain ⟨f1, f2, f3, f4, f5⟩ := blk3 hb6
      have ff := hb6.frozen 2
      have HRUN := hide hrun
      have HPUT := hide hput
      clear hrun hput htb hb6 t5 e5 f5 HI2 HE2 HO2
      go_wp2_with (at_builtin; refine wpList_append_run rfl (.tmp 30) (.tmp 32) 45 rfl rfl rfl HRUN.out ?_)
      go_roundw
      case rel => exact ⟨k + 1, _, _, by omega, by go_num, HPUT⟩
      case measure => simp [intOf]; omega
      -- END2
    · obtain rfl : k = nr := by omega
      have hnl : ¬ (k : Int) < (k : Int) := by omega
      obtain ⟨AV, cV, hV⟩ := own_shape HK.out.rsO
      rw [HK.out.len] at hV
      subst hV
      have htb := HK.out.blk
      rw [HN.out.1, HN.out.2.2] at htb
      obtain ⟨t1, t2, t3, t4, -⟩ := blk3 htb
      obtain ⟨r1, r2, r3, r4, -⟩ := blk3 HK.out.blkR
      have rf0 := HK.out.blkR.frozen 0
      have rf1 := HK.out.blkR.frozen 1
      have rf2 := HK.out.blkR.frozen 2
      clear htb
      go_wp2_with fail
      have hw8 := HK.out.blkR.set3 (.slice fa nf fc) (.int .i64 Q) (.slice AV k cV)
      have kx : KX wr (((wr.setCell ⟨G + 1, 0, none⟩ (.slice fa nf fc)).setCell ⟨G + 1, 1, none⟩ (.int .i64 Q)).setCell ⟨G + 1, 2, none⟩ (.slice AV k cV)) (G + 1) none := (((KX.refl wr (G + 1) none).set 0 _).set 1 _).set 2 _
      have hbf : Below w.heap.size w (((wr.setCell ⟨G + 1, 0, none⟩ (.slice fa nf fc)).setCell ⟨G + 1, 1, none⟩ (.int .i64 Q)).setCell ⟨G + 1, 2, none⟩ (.slice AV k cV)) := ((HK.out.below.setCell (p := ⟨G + 1, 0, none⟩) HK.out.loR _).setCell (p := ⟨G + 1, 1, none⟩) HK.out.loR _).setCell (p := ⟨G + 1, 2, none⟩) HK.out.loR _
      have hk' : CpI w wr G (G + 1) T d s fa fc s.rs.length (.slice AV k cV) L := by rw [HN.out.2.1]; exact HK.out
      obtain ⟨d', hd1, hd2, hd3, hd4⟩ := hk'.read _ kx
      injection hd1 with z1 z2 z3
      have hv : scV d' s = .agg #[.slice fa nf fc, .int .i64 Q, .slice AV k cV] := by
        unfold scV
        rw [hd2, hd3, HN.out.1, HN.out.2.1, HN.out.2.2, z1, z3]
      generalize (((wr.setCell ⟨G + 1, 0, none⟩ (.slice fa nf fc)).setCell ⟨G + 1, 1, none⟩ (.int .i64 Q)).setCell ⟨G + 1, 2, none⟩ (.slice AV k cV)) = w8 at hw8 hbf hd4 ⊢
      obtain ⟨-, q0', q1', q2', -⟩ := blk3 hw8
      refine bodyPost_ret (v := .agg #[.slice fa nf fc, .int .i64 Q, .slice AV k cV]) (by simp [results, Tryd.results31, go_sem, q0', q1', q2']) rfl ⟨d', by rw [hv], hd4, hbf⟩
end Go.Proofs.YtmpegkojencbjaaDoor
/- School, plain: bits of sets; each valid list of choices is a case; sets as sets of cases. -/
namespace Go.Proofs.YtmpegkojencbjaaDoor
open Go Go.RowKit Go.Shelf
set_option maxHeartbeats 4000000
set_option maxRecDepth 100000
theorem wrap0 (n : Nat) (h : n < 18446744073709551616) : IntKind.i64.wrap (n : Int) = 0 ↔ n = 0 := by
  have hk : IntKind.i64.wrap (n : Int) = if (decide ((n : Int) % 18446744073709551616 ≥ 9223372036854775808)) = true then (n : Int) % 18446744073709551616 - 18446744073709551616 else (n : Int) % 18446744073709551616 := rfl
  rw [hk]
  by_cases h1 : (n : Int) % 18446744073709551616 ≥ 9223372036854775808
  · rw [if_pos (decide_eq_true h1)]
    omega
  · rw [if_neg (by rw [decide_eq_false h1]; decide)]
    omega
theorem anot_zero (a b : Int) : bits BinOp.andNot IntKind.i64 a b = 0 ↔ ∀ i, (BitVec.ofInt 64 a).getLsbD i = true → (BitVec.ofInt 64 b).getLsbD i = true := by
  show IntKind.i64.wrap (((BitVec.ofInt 64 a &&& ~~~ BitVec.ofInt 64 b).toNat : Nat) : Int) = 0 ↔ _
  rw [wrap0 _ (BitVec.isLt _)]
  constructor
  · intro h i hi
    have h1 : (BitVec.ofInt 64 a &&& ~~~ BitVec.ofInt 64 b).getLsbD i = false := by
      rw [← BitVec.testBit_toNat, h]; exact Nat.zero_testBit i
    rw [BitVec.getLsbD_and, BitVec.getLsbD_not, hi] at h1
    have h2 : i < 64 := BitVec.lt_of_getLsbD hi
    simpa [h2] using h1
  · intro h
    have h1 : BitVec.ofInt 64 a &&& ~~~ BitVec.ofInt 64 b = 0#64 := by
      apply BitVec.eq_of_getLsbD_eq
      intro i hi
      rw [BitVec.getLsbD_and, BitVec.getLsbD_not]
      cases h2 : (BitVec.ofInt 64 a).getLsbD i with
      | false => simp
      | true => rw [h i h2]; simp
    rw [h1]; rfl
theorem big_bit {a i : Nat} (h : a < 65536) (hi : 64 ≤ i) : a.testBit i = false :=
  Nat.testBit_lt_two_pow (Nat.lt_of_lt_of_le h (Nat.le_trans (by decide : 65536 ≤ 2 ^ 64) (Nat.pow_le_pow_right (by decide) hi)))
theorem nat_bit (a : Nat) (h : a < 65536) (i : Nat) : (BitVec.ofInt 64 (a : Int)).getLsbD i = a.testBit i := by
  rw [BitVec.ofInt_natCast, ← BitVec.testBit_toNat, BitVec.toNat_ofNat, Nat.mod_eq_of_lt (by omega)]
theorem in_iff {s t : Nat → Nat} (hs : ∀ k, s k < 65536) (ht : ∀ k, t k < 65536) (n : Nat) : inTo s t n = true ↔ ∀ k, k < n → ∀ i, (s k).testBit i = true → (t k).testBit i = true := by
  unfold inTo
  rw [decide_eq_true_iff]
  constructor
  · intro h k hk i hi
    have h1 := (anot_zero _ _).1 (h k hk) i
    rw [nat_bit _ (hs k), nat_bit _ (ht k)] at h1
    exact h1 hi
  · intro h k hk
    rw [anot_zero]
    intro i
    rw [nat_bit _ (hs k), nat_bit _ (ht k)]
    exact h k hk i
theorem hb_iff {s : Nat → Nat} (hs : ∀ k, s k < 65536) (c : List Int) (k : Nat) : hasBit s c k ≠ 0 ↔ (s k).testBit (c.getD k 0).toNat = true := by
  unfold hasBit
  obtain ⟨m, hm⟩ : ∃ m, (c.getD k 0).toNat = m := ⟨_, rfl⟩
  rw [hm]
  have e : (((s k : Nat) : Int) / 2 ^ m) = ((s k / 2 ^ m : Nat) : Int) := by push_cast; rfl
  have hlt : s k / 2 ^ m < 65536 := Nat.lt_of_le_of_lt (Nat.div_le_self _ _) (hs k)
  rw [e, bits_and_nat _ _ hlt, Nat.testBit_eq_decide_div_mod_eq]
  rw [show (BitVec.ofInt 64 1).toNat = 1 from rfl, Nat.and_one_is_mod]
  rw [decide_eq_true_iff]
  omega
theorem has_iff {s : Nat → Nat} (hs : ∀ k, s k < 65536) (c : List Int) : hsB s c = true ↔ ∀ k, k < c.length → (s k).testBit (c.getD k 0).toNat = true := by
  unfold hsB
  rw [decide_eq_true_iff]
  constructor
  · intro h k hk
    exact (hb_iff hs c k).1 (h k hk)
  · intro h k hk
    exact (hb_iff hs c k).2 (h k hk)
theorem eqS_iff {s t : Nat → Nat} : eqS s t = true ↔ ∀ k, k < 5 → s k = t k := by
  unfold eqS
  simp only [Bool.and_eq_true, beq_iff_eq]
  constructor
  · rintro ⟨h0, h1, h2, h3, h4⟩ k hk
    rcases (by omega : k = 0 ∨ k = 1 ∨ k = 2 ∨ k = 3 ∨ k = 4) with rfl | rfl | rfl | rfl | rfl <;> omega
  · intro h
    have h0 := h 0 (by omega)
    have h1 := h 1 (by omega)
    have h2 := h 2 (by omega)
    have h3 := h 3 (by omega)
    have h4 := h 4 (by omega)
    exact ⟨by omega, by omega, by omega, by omega, by omega⟩
-- each list of choices is a case
theorem vl_lt {fs : List Int} (c : Nat → Int) : ∀ n, (∀ j, j < n → 0 ≤ c j ∧ c j < (chF fs j : Int)) → vl fs c n < pr fs n
  | 0, _ => by show 0 < 1; omega
  | n + 1, h => by
    have h1 := vl_lt c n (fun j hj => h j (by omega))
    have h2 := h n (by omega)
    show vl fs c n * chF fs n + (c n).toNat < pr fs n * chF fs n
    have h3 : (c n).toNat < chF fs n := by omega
    have h4 : (vl fs c n + 1) * chF fs n ≤ pr fs n * chF fs n := Nat.mul_le_mul_right _ h1
    rw [Nat.add_mul, Nat.one_mul] at h4
    omega
theorem dg_vl {fs : List Int} (c : Nat → Int) : ∀ n, (∀ j, j < n → 0 ≤ c j ∧ c j < (chF fs j : Int)) → ∀ j, j < n → dg fs n (vl fs c n) j = c j
  | 0, _, j, hj => absurd hj (by omega)
  | n + 1, h, j, hj => by
    have h2 := h n (by omega)
    have h3 : (c n).toNat < chF fs n := by omega
    have hv : vl fs c (n + 1) = vl fs c n * chF fs n + (c n).toNat := rfl
    by_cases e : j = n
    · subst e
      rw [dg_last, hv, Nat.mul_comm, Nat.mul_add_mod, Nat.mod_eq_of_lt h3]
      omega
    · rw [dg_lo _ _ _ e, hv, Nat.mul_comm, Nat.mul_add_div (by omega), Nat.div_eq_of_lt h3, Nat.add_zero]
      exact dg_vl c n (fun j hj => h j (by omega)) j (by omega)
theorem ic_iff {fs c : List Int} : icB fs c = true ↔ c.length = fs.length ∧ ∀ j, j < fs.length → 0 ≤ c.getD j 0 ∧ c.getD j 0 ≤ fs.getD j 0 - 1 := by
  unfold icB
  rw [Bool.and_eq_true, decide_eq_true_iff]
  constructor
  · rintro ⟨h1, h2⟩
    exact ⟨h1, fun j hj => csB_at h2 j hj⟩
  · rintro ⟨h1, h2⟩
    refine ⟨h1, ?_⟩
    have key : ∀ n, n ≤ fs.length → csB c fs n = true := fun n => by
      induction n with
      | zero => intro _; rfl
      | succ n ih =>
        intro hn
        show (csB c fs n && decide _) = true
        rw [ih (by omega), Bool.true_and]
        exact decide_eq_true (h2 n (by omega))
    exact key _ (Nat.le_refl _)
theorem case_at {fs c : List Int} (h : icB fs c = true) : ∃ n, n < pr fs fs.length ∧ clL fs n = c := by
  obtain ⟨h1, h2⟩ := ic_iff.1 h
  have h3 : ∀ j, j < fs.length → 0 ≤ c.getD j 0 ∧ c.getD j 0 < (chF fs j : Int) := fun j hj => by
    have := h2 j hj
    unfold chF
    omega
  refine ⟨vl fs (fun j => c.getD j 0) fs.length, vl_lt _ _ h3, getD_allI (by rw [clL_len, h1]) (fun k hk => ?_)⟩
  rw [clL_len] at hk
  rw [clL_at _ _ hk]
  exact dg_vl _ _ h3 k hk
end Go.Proofs.YtmpegkojencbjaaDoor
/- School, plain: rules case by case: what the reference says of rules is what their sets say. -/
namespace Go.Proofs.YtmpegkojencbjaaDoor
open Go Go.RowKit Go.Shelf
set_option maxHeartbeats 4000000
set_option maxRecDepth 100000
/-- whether a rule applies in a case, test by test -/
def apB (r : Rl) (c : List Int) : Bool := r.when_.all fun t => t.2.toNat.testBit (c.getD t.1.toNat 0).toNat
/-- choices that are numbers of the machine -/
def ScI (s : Sch) : Prop := ∀ r ∈ s.rs, ∀ t ∈ r.when_, -9223372036854775808 ≤ t.2 ∧ t.2 ≤ 9223372036854775807
theorem tst_iff {t : Int} {n : Nat} (hn : n ≤ 4) (h : -9223372036854775808 ≤ t ∧ t ≤ 9223372036854775807) : bits BinOp.andNot IntKind.i64 t ((2 ^ n - 1 : Nat) : Int) = 0 ↔ 0 ≤ t ∧ t < 2 ^ n := by
  have hev : 2 ^ n - 1 < 65536 := by
    have : 2 ^ n ≤ 2 ^ 4 := Nat.pow_le_pow_right (by decide) hn
    omega
  have hpi : ((2 : Int) ^ n) = ((2 ^ n : Nat) : Int) := by push_cast; rfl
  have hp4 : 2 ^ n ≤ 2 ^ 4 := Nat.pow_le_pow_right (by decide) hn
  rw [anot_zero, hpi]
  constructor
  · intro h1
    have h2 : (BitVec.ofInt 64 t).toNat < 2 ^ n := by
      apply Nat.lt_pow_two_of_testBit
      intro i hi
      cases hb : (BitVec.ofInt 64 t).toNat.testBit i with
      | false => rfl
      | true =>
        rw [BitVec.testBit_toNat] at hb
        have h3 := h1 i hb
        rw [nat_bit _ hev, Nat.testBit_two_pow_sub_one, decide_eq_true_iff] at h3
        omega
    rw [BitVec.toNat_ofInt] at h2
    omega
  · rintro ⟨h1, h2⟩ i hi
    obtain ⟨m, rfl⟩ : ∃ m : Nat, t = m := ⟨t.toNat, by omega⟩
    rw [nat_bit _ (by omega)] at hi
    rw [nat_bit _ hev, Nat.testBit_two_pow_sub_one, decide_eq_true_iff]
    refine Nat.lt_of_not_le fun h3 => ?_
    rw [Nat.testBit_lt_two_pow (Nat.lt_of_lt_of_le (show m < 2 ^ n by omega) (Nat.pow_le_pow_right (by decide) h3))] at hi
    cases hi
theorem wth_bit (ev : Nat → Nat) (l : List (Int × Int)) (k i : Nat) : (wthL ev l k).testBit i = true ↔ (ev k).testBit i = true ∧ ∀ t ∈ l, t.1.toNat = k → (BitVec.ofInt 64 t.2).toNat.testBit i = true := by
  induction l generalizing ev with
  | nil => exact ⟨fun h => ⟨h, fun t ht => by cases ht⟩, fun h => h.1⟩
  | cons x l ih =>
    show (wthL (wthF ev x) l k).testBit i = true ↔ _
    rw [ih]
    unfold wthF upd
    by_cases e : k = x.1.toNat
    · subst e
      rw [if_pos rfl, Nat.testBit_and, Bool.and_eq_true]
      constructor
      · rintro ⟨⟨h1, h2⟩, h3⟩
        refine ⟨h1, fun t ht hk => ?_⟩
        rcases List.mem_cons.1 ht with rfl | ht
        · exact h2
        · exact h3 t ht hk
      · rintro ⟨h1, h2⟩
        exact ⟨⟨h1, h2 x (List.mem_cons_self ..) rfl⟩, fun t ht hk => h2 t (List.mem_cons_of_mem _ ht) hk⟩
    · rw [if_neg e]
      constructor
      · rintro ⟨h1, h3⟩
        refine ⟨h1, fun t ht hk => ?_⟩
        rcases List.mem_cons.1 ht with rfl | ht
        · exact absurd hk.symm e
        · exact h3 t ht hk
      · rintro ⟨h1, h2⟩
        exact ⟨h1, fun t ht hk => h2 t (List.mem_cons_of_mem _ ht) hk⟩
theorem rule_ok {s : Sch} (hs : schB s = true) {r : Rl} (hr : r ∈ s.rs) : rlB s.fs.length s.q (evF s.fs) r = true := by
  unfold schB at hs
  simp only [Bool.and_eq_true] at hs
  exact List.all_eq_true.1 hs.2.2.2.2 r hr
theorem test_ok {s : Sch} (hs : schB s = true) (hi : ScI s) {r : Rl} (hr : r ∈ s.rs) {t : Int × Int} (ht : t ∈ r.when_) : 0 ≤ t.1 ∧ t.1 < s.fs.length ∧ 0 ≤ t.2 ∧ t.2 < 16 := by
  have h := rule_ok hs hr
  unfold rlB at h
  simp only [Bool.and_eq_true] at h
  have h2 := List.all_eq_true.1 h.2.2.2 t ht
  unfold tstB at h2
  rw [Bool.and_eq_true, decide_eq_true_iff, beq_iff_eq] at h2
  obtain ⟨⟨h3, h4⟩, h5⟩ := h2
  have hk : t.1.toNat < s.fs.length := by omega
  have hf := fsB_at (schB_ok hs).fs _ hk
  unfold evF at h5
  rw [if_pos hk] at h5
  obtain ⟨h6, h7⟩ := (tst_iff (by omega) (hi r hr t ht)).1 h5
  refine ⟨h3, by omega, h6, ?_⟩
  have hp4 : 2 ^ (s.fs.getD t.1.toNat 0).toNat ≤ 2 ^ 4 := Nat.pow_le_pow_right (by decide) (by omega)
  have hpi : ((2 : Int) ^ (s.fs.getD t.1.toNat 0).toNat) = ((2 ^ (s.fs.getD t.1.toNat 0).toNat : Nat) : Int) := by push_cast; rfl
  rw [hpi] at h7
  omega
theorem ofInt_small {t : Int} (h0 : 0 ≤ t) (h1 : t < 16) : (BitVec.ofInt 64 t).toNat = t.toNat := by
  rw [BitVec.toNat_ofInt]; omega
theorem mem_at {s : Sch} {k : Nat} (hk : k < s.rs.length) : s.rs.getD k r0 ∈ s.rs := by
  rw [List.getD_eq_getElem?_getD, List.getElem?_eq_getElem hk]
  exact List.getElem_mem hk
theorem ev_bit {fs : List Int} (hf : fsB fs = true) {c : List Int} (hc : icB fs c = true) {k : Nat} (hk : k < fs.length) : (evF fs k).testBit (c.getD k 0).toNat = true := by
  have h1 := (ic_iff.1 hc).2 k hk
  have h2 := fsB_at hf k hk
  unfold evF
  rw [if_pos hk, Nat.testBit_two_pow_sub_one, decide_eq_true_iff]
  omega
/-- a rule's sets have a case just if the rule applies in it -/
theorem has_ap {s : Sch} (hs : schB s = true) (hi : ScI s) {k : Nat} (hk : k < s.rs.length) {c : List Int} (hc : icB s.fs c = true) : hsB (stF s k) c = apB (s.rs.getD k r0) c := by
  have hok := schB_ok hs
  have hr := mem_at hk
  obtain ⟨r, hrr⟩ : ∃ r, s.rs.getD k r0 = r := ⟨_, rfl⟩
  have hcl := (ic_iff.1 hc).1
  have hw : ∀ j, j < s.fs.length → ((wthL (evF s.fs) r.when_ j).testBit (c.getD j 0).toNat = true ↔ ∀ t ∈ r.when_, t.1.toNat = j → t.2.toNat.testBit (c.getD j 0).toNat = true) := fun j hj => by
    rw [wth_bit]
    constructor
    · rintro ⟨-, h⟩ t ht e
      have h2 := h t ht e
      have h3 := test_ok hs hi (hrr ▸ hr) ht
      rwa [ofInt_small h3.2.2.1 h3.2.2.2] at h2
    · intro h
      refine ⟨ev_bit hok.fs hc hj, fun t ht e => ?_⟩
      have h3 := test_ok hs hi (hrr ▸ hr) ht
      rw [ofInt_small h3.2.2.1 h3.2.2.2]
      exact h t ht e
  have hap : apB r c = true ↔ ∀ j, j < s.fs.length → (wthL (evF s.fs) r.when_ j).testBit (c.getD j 0).toNat = true := by
    unfold apB
    rw [List.all_eq_true]
    constructor
    · intro h j hj
      rw [hw j hj]
      intro t ht e
      have := h t ht
      rwa [e] at this
    · intro h t ht
      have h3 := test_ok hs hi (hrr ▸ hr) ht
      exact (hw t.1.toNat (by omega)).1 (h _ (by omega)) t ht rfl
  rw [hrr, Bool.eq_iff_iff, has_iff (fun x => Nat.lt_of_lt_of_le (stF_lt hok.fs k x) (by decide)), hap, hcl]
  unfold stF setF clnF
  rw [hrr]
  constructor
  · intro h j hj
    have h2 := h j hj
    split at h2
    · rw [Nat.zero_testBit] at h2; cases h2
    · exact h2
  · intro h j hj
    split
    · rename_i h2
      obtain ⟨m, hm, h3⟩ := (anyTo_iff _ _).1 h2
      have h4 := h m hm
      have h5 : wthL (evF s.fs) r.when_ m = 0 := by
        have h6 : ((wthL (evF s.fs) r.when_ m : Nat) : Int) = 0 := by simpa using h3
        omega
      rw [h5, Nat.zero_testBit] at h4
      cases h4
    · exact h j hj
/-- sets of a rule: none, or some of each feature; nothing else -/
theorem st_shape {s : Sch} (hs : schB s = true) (k : Nat) : (∀ j, stF s k j = 0) ∨ ((∀ j, j < s.fs.length → stF s k j ≠ 0) ∧ (∀ j, s.fs.length ≤ j → stF s k j = 0) ∧ ∀ j i, (stF s k j).testBit i = true → (i : Int) < s.fs.getD j 0) := by
  obtain ⟨r, hrr⟩ : ∃ r, s.rs.getD k r0 = r := ⟨_, rfl⟩
  unfold stF setF clnF
  rw [hrr]
  by_cases h : anyTo (fun j => ((wthL (evF s.fs) r.when_ j : Nat) : Int) == 0) s.fs.length = true
  · left
    intro j
    rw [if_pos h]
  · right
    simp only [if_neg h]
    refine ⟨fun j hj e => h ((anyTo_iff _ _).2 ⟨j, hj, by rw [e]; rfl⟩), fun j hj => ?_, fun j i hb => ?_⟩
    · have h1 := wthL_le (evF s.fs) r.when_ j
      unfold evF at h1
      rw [if_neg (by omega)] at h1
      exact Nat.le_zero.1 h1
    · have h1 := ((wth_bit _ _ _ _).1 hb).1
      unfold evF at h1
      split at h1
      · rename_i hj
        have h2 := fsB_at (schB_ok hs).fs j hj
        rw [Nat.testBit_two_pow_sub_one, decide_eq_true_iff] at h1
        omega
      · rw [Nat.zero_testBit] at h1; cases h1
theorem bit_some {n : Nat} (h : n ≠ 0) : ∃ i, n.testBit i = true := Nat.exists_testBit_of_ne_zero h
/-- of two rules: where the one has a case, so has the other -/
theorem in_cases {s : Sch} (hs : schB s = true) (a b : Nat) : inTo (stF s a) (stF s b) 5 = true ↔ ∀ n, n < pr s.fs s.fs.length → hsB (stF s a) (clL s.fs n) = true → hsB (stF s b) (clL s.fs n) = true := by
  have hok := schB_ok hs
  have la : ∀ x, stF s a x < 65536 := fun x => Nat.lt_of_lt_of_le (stF_lt hok.fs a x) (by decide)
  have lb : ∀ x, stF s b x < 65536 := fun x => Nat.lt_of_lt_of_le (stF_lt hok.fs b x) (by decide)
  rw [in_iff la lb]
  constructor
  · intro h n hn
    rw [has_iff la, has_iff lb]
    intro h1 k hk
    exact h k (by rw [clL_len] at hk; have := hok.nf5; omega) _ (h1 k hk)
  · intro h k hk i hi
    rcases st_shape hs a with h0 | ⟨h1, h2, h3⟩
    · rw [h0, Nat.zero_testBit] at hi; cases hi
    · have hkn : k < s.fs.length := by
        refine Nat.lt_of_not_le fun hle => ?_
        rw [h2 k hle, Nat.zero_testBit] at hi; cases hi
      have hp : ∀ j, j < s.fs.length → ∃ x : Nat, (stF s a j).testBit x = true := fun j hj => bit_some (h1 j hj)
      obtain ⟨p, hp⟩ : ∃ p : Nat → Nat, ∀ j, j < s.fs.length → (stF s a j).testBit (p j) = true :=
        ⟨fun j => if h : j < s.fs.length then (hp j h).choose else 0, fun j hj => by
          dsimp only
          rw [dif_pos hj]
          exact (hp j hj).choose_spec⟩
      obtain ⟨f, hf⟩ : ∃ f : Nat → Nat, f = fun j => if j = k then i else p j := ⟨_, rfl⟩
      have hfb : ∀ j, j < s.fs.length → (stF s a j).testBit (f j) = true := fun j hj => by
        rw [hf]
        dsimp only
        by_cases e : j = k
        · rw [if_pos e, e]; exact hi
        · rw [if_neg e]; exact hp j hj
      have hll : ((List.range s.fs.length).map fun j => (f j : Int)).length = s.fs.length := by simp
      have hg : ∀ j, j < s.fs.length → ((List.range s.fs.length).map fun j => (f j : Int)).getD j 0 = (f j : Int) := fun j hj => by
        rw [List.getD_eq_getElem?_getD, List.getElem?_map, List.getElem?_range hj]; rfl
      have hc : icB s.fs ((List.range s.fs.length).map fun j => (f j : Int)) = true := ic_iff.2 ⟨hll, fun j hj => by
        rw [hg j hj]
        have := h3 j (f j) (hfb j hj)
        omega⟩
      obtain ⟨n, hn, hcn⟩ := case_at hc
      have h4 := h n hn (by
        rw [hcn, has_iff la]
        intro j hj
        rw [hll] at hj
        rw [hg j hj, Int.toNat_natCast]
        exact hfb j hj)
      rw [hcn, has_iff lb] at h4
      have h5 := h4 k (by rw [hll]; exact hkn)
      rw [hg k hkn, Int.toNat_natCast, hf] at h5
      dsimp only at h5
      rwa [if_pos rfl] at h5
def nvF (a b : Nat → Bool) : Nat → Bool
  | 0 => true
  | n + 1 => nvF a b n && (!a n || b n)
def smF (a b : Nat → Bool) : Nat → Bool
  | 0 => false
  | n + 1 => smF a b n || (b n && !a n)
theorem nvF_iff (a b : Nat → Bool) (n : Nat) : nvF a b n = true ↔ ∀ k, k < n → a k = true → b k = true := by
  induction n with
  | zero => exact ⟨fun _ k hk => absurd hk (by omega), fun _ => rfl⟩
  | succ n ih =>
    show (nvF a b n && (!a n || b n)) = true ↔ _
    rw [Bool.and_eq_true, ih]
    constructor
    · rintro ⟨h1, h2⟩ k hk h3
      rcases (by omega : k < n ∨ k = n) with h4 | rfl
      · exact h1 k h4 h3
      · rw [h3] at h2; exact h2
    · intro h
      refine ⟨fun k hk => h k (by omega), ?_⟩
      cases h1 : a n with
      | false => rfl
      | true => rw [h n (by omega) h1]; rfl
theorem smF_iff (a b : Nat → Bool) (n : Nat) : smF a b n = true ↔ ∃ k, k < n ∧ b k = true ∧ a k = false := by
  induction n with
  | zero =>
    constructor
    · intro h; cases h
    · rintro ⟨k, hk, -⟩; omega
  | succ n ih =>
    show (smF a b n || (b n && !a n)) = true ↔ _
    rw [Bool.or_eq_true, ih, Bool.and_eq_true]
    constructor
    · rintro (⟨k, h1, h2, h3⟩ | ⟨h1, h2⟩)
      · exact ⟨k, by omega, h2, h3⟩
      · exact ⟨n, by omega, h1, by simpa using h2⟩
    · rintro ⟨k, h1, h2, h3⟩
      rcases (by omega : k < n ∨ k = n) with h4 | rfl
      · exact .inl ⟨k, h4, h2, h3⟩
      · exact .inr ⟨h2, by rw [h3]; rfl⟩
/-- whether a rule applies in the n-th case -/
def apN (s : Sch) (i n : Nat) : Bool := apB (s.rs.getD i r0) (clL s.fs n)
/-- more special, case by case -/
def spP (s : Sch) (i k : Nat) : Bool := nvF (apN s i) (apN s k) (pr s.fs s.fs.length) && smF (apN s i) (apN s k) (pr s.fs s.fs.length)
theorem cl_ic {fs : List Int} (hf : fsB fs = true) (k : Nat) : icB fs (clL fs k) = true := by
  refine ic_iff.2 ⟨clL_len fs k, fun j hj => ?_⟩
  have h5 : ∀ j, j < fs.length → 1 ≤ fs.getD j 0 ∧ fs.getD j 0 ≤ 4 := fun j hj => fsB_at hf j hj
  rw [clL_at fs k hj]
  have h6 := dg_bd (fs := fs) (n := fs.length) k (fun j hj => by have := h5 j hj; unfold chF; omega) j hj
  have h7 := h5 j hj
  have h8 : (chF fs j : Int) = fs.getD j 0 := by unfold chF; omega
  omega
theorem sp_eq {s : Sch} (hs : schB s = true) (hi : ScI s) {a b : Nat} (ha : a < s.rs.length) (hb : b < s.rs.length) : spP s a b = spc (stF s a) (stF s b) := by
  have hok := schB_ok hs
  have la : ∀ x, stF s a x < 65536 := fun x => Nat.lt_of_lt_of_le (stF_lt hok.fs a x) (by decide)
  have lb : ∀ x, stF s b x < 65536 := fun x => Nat.lt_of_lt_of_le (stF_lt hok.fs b x) (by decide)
  have e1 : ∀ n, apN s a n = hsB (stF s a) (clL s.fs n) := fun n => (has_ap hs hi ha (cl_ic hok.fs n)).symm
  have e2 : ∀ n, apN s b n = hsB (stF s b) (clL s.fs n) := fun n => (has_ap hs hi hb (cl_ic hok.fs n)).symm
  unfold spP spc
  rw [Bool.eq_iff_iff, Bool.and_eq_true, Bool.and_eq_true, nvF_iff, smF_iff, in_cases hs a b, Bool.not_eq_true', ← Bool.not_eq_true, eqS_iff]
  simp only [e1, e2]
  constructor
  · rintro ⟨h1, k, hk, h2, h3⟩
    refine ⟨fun h4 => ?_, h1⟩
    have : hsB (stF s a) (clL s.fs k) = true := by
      rw [has_iff lb] at h2
      rw [has_iff la]
      intro j hj
      rw [h4 j (by rw [clL_len] at hj; have := hok.nf5; omega)]
      exact h2 j hj
    rw [this] at h3; cases h3
  · rintro ⟨h1, h2⟩
    refine ⟨h2, ?_⟩
    by_cases h3 : ∃ k, k < pr s.fs s.fs.length ∧ hsB (stF s b) (clL s.fs k) = true ∧ hsB (stF s a) (clL s.fs k) = false
    · exact h3
    · exfalso
      have h4 : inTo (stF s b) (stF s a) 5 = true := (in_cases hs b a).2 fun n hn h5 => by
        cases h6 : hsB (stF s a) (clL s.fs n) with
        | true => rfl
        | false => exact absurd ⟨n, hn, h5, h6⟩ h3
      have h7 := (in_iff lb la 5).1 h4
      have h8 := (in_iff la lb 5).1 ((in_cases hs a b).2 h2)
      refine h1 fun k hk => Nat.eq_of_testBit_eq fun i => ?_
      rw [Bool.eq_iff_iff]
      exact ⟨h8 k hk i, h7 k hk i⟩
-- which rules decide
theorem apF_filter (Q : Nat → Bool) (R : Int → Bool) : ∀ n, (apF Q n).filter R = apF (fun i => Q i && R (i : Int)) n
  | 0 => rfl
  | n + 1 => by
    show (if Q n then apF Q n ++ [(n : Int)] else apF Q n).filter R = if (Q n && R (n : Int)) then apF _ n ++ [(n : Int)] else apF _ n
    rw [← apF_filter Q R n]
    cases h1 : Q n with
    | false => simp
    | true =>
      cases h2 : R (n : Int) with
      | false => simp [List.filter_append, h2]
      | true => simp [List.filter_append, h2]
theorem apF_congr {Q R : Nat → Bool} : ∀ n, (∀ i, i < n → Q i = R i) → apF Q n = apF R n
  | 0, _ => rfl
  | n + 1, h => by
    show (if Q n then apF Q n ++ [(n : Int)] else apF Q n) = if R n then apF R n ++ [(n : Int)] else apF R n
    rw [apF_congr n (fun i hi => h i (by omega)), h n (by omega)]
theorem apF_in {Q : Nat → Bool} {n k : Nat} (hk : k < n) (h : Q k = true) : (k : Int) ∈ apF Q n := by
  induction n with
  | zero => omega
  | succ n ih =>
    show (k : Int) ∈ (if Q n then apF Q n ++ [(n : Int)] else apF Q n)
    rcases (by omega : k < n ∨ k = n) with h1 | rfl
    · split
      · exact List.mem_append_left _ (ih h1)
      · exact ih h1
    · rw [if_pos h]; exact List.mem_append_right _ (List.mem_singleton.2 rfl)
/-- no rule that is asked and applies is more special -/
def tpF (p : Nat → Bool) : Nat → Bool
  | 0 => true
  | n + 1 => tpF p n && !(p n)
theorem tpF_iff (p : Nat → Bool) (n : Nat) : tpF p n = true ↔ ∀ k, k < n → p k = false := by
  induction n with
  | zero => exact ⟨fun _ k hk => absurd hk (by omega), fun _ => rfl⟩
  | succ n ih =>
    show (tpF p n && !(p n)) = true ↔ _
    rw [Bool.and_eq_true, ih, Bool.not_eq_true']
    constructor
    · rintro ⟨h1, h2⟩ k hk
      rcases (by omega : k < n ∨ k = n) with h4 | rfl
      · exact h1 k h4
      · exact h2
    · intro h
      exact ⟨fun k hk => h k (by omega), h n (by omega)⟩
/-- a rule is asked and applies -/
def asB (s : Sch) (c : List Int) (q : Int) (i : Nat) : Bool := ((s.rs.getD i r0).ask == q) && apB (s.rs.getD i r0) c
/-- the rules that decide, as the reference finds them -/
def byP (s : Sch) (c : List Int) (q : Int) : List Int := apF (fun i => asB s c q i && tpF (fun k => ((s.rs.getD k r0).ask == q) && (spP s k i && apB (s.rs.getD k r0) c)) s.rs.length) s.rs.length
theorem by_eq {s : Sch} (hs : schB s = true) (hi : ScI s) {c : List Int} (hc : icB s.fs c = true) (q : Int) : byP s c q = dcB s (stF s) c q := by
  unfold dcB
  have hA : dcA s (stF s) c q = apF (asB s c q) s.rs.length := by
    unfold dcA
    refine apF_congr _ fun i hi' => ?_
    unfold asB
    rw [has_ap hs hi hi' hc]
  rw [hA, apF_filter]
  unfold byP
  refine apF_congr _ fun i hi' => ?_
  cases h0 : asB s c q i with
  | false => rfl
  | true =>
    rw [Bool.true_and, Bool.true_and]
    unfold topB
    rw [Bool.eq_iff_iff, tpF_iff, Bool.not_eq_true', ← Bool.not_eq_true, anyTo_iff]
    constructor
    · rintro h ⟨j, hj, h2⟩
      have hm : (apF (asB s c q) s.rs.length).getD j 0 ∈ apF (asB s c q) s.rs.length := by
        rw [List.getD_eq_getElem?_getD, List.getElem?_eq_getElem hj]
        exact List.getElem_mem hj
      obtain ⟨k, hk, hkn, hkq⟩ := apF_mem _ _ _ hm
      rw [hk] at h2
      rw [Int.toNat_natCast, Int.toNat_natCast, ← sp_eq hs hi hkn hi'] at h2
      have h3 := h k hkn
      unfold asB at hkq
      rw [Bool.and_eq_true] at hkq
      rw [hkq.1, hkq.2, h2] at h3
      cases h3
    · intro h k hk
      cases h3 : ((s.rs.getD k r0).ask == q && (spP s k i && apB (s.rs.getD k r0) c)) with
      | false => rfl
      | true =>
        exfalso
        rw [Bool.and_eq_true, Bool.and_eq_true] at h3
        have hm := apF_in (Q := asB s c q) hk (by unfold asB; rw [h3.1, h3.2.2]; rfl)
        obtain ⟨j, hj, hjj⟩ := List.getElem_of_mem hm
        refine h ⟨j, hj, ?_⟩
        rw [List.getD_eq_getElem?_getD, List.getElem?_eq_getElem hj, hjj]
        show spc (stF s ((k : Int)).toNat) (stF s ((i : Int)).toNat) = true
        rw [Int.toNat_natCast, Int.toNat_natCast, ← sp_eq hs hi hk hi']
        exact h3.2.1
end Go.Proofs.YtmpegkojencbjaaDoor
/- School, plain: a rule that asks for one case alone, and is added. -/
namespace Go.Proofs.YtmpegkojencbjaaDoor
open Go Go.RowKit Go.Shelf
set_option maxHeartbeats 4000000
set_option maxRecDepth 100000
/-- the tests that ask for one case alone -/
def oneT (c : List Int) : List (Int × Int) := (List.range c.length).map fun (i : Nat) => ((i : Int), ((2 ^ (c.getD i 0).toNat : Nat) : Int))
/-- the rule for one case alone -/
def oneR (c : List Int) (ask say : Int) : Rl := ⟨oneT c, ask, say⟩
/-- a school with a rule more -/
def plusR (s : Sch) (r : Rl) : Sch := ⟨s.fs, s.q, s.rs ++ [r]⟩
/-- the sets of one case alone -/
def ptF (c : List Int) (j : Nat) : Nat := if j < c.length then 2 ^ (c.getD j 0).toNat else 0
theorem pt_bit (c : List Int) (k i : Nat) : (ptF c k).testBit i = true ↔ k < c.length ∧ (c.getD k 0).toNat = i := by
  unfold ptF
  by_cases h : k < c.length
  · rw [if_pos h, Nat.testBit_two_pow, decide_eq_true_iff]
    exact ⟨fun e => ⟨h, e⟩, fun e => e.2⟩
  · rw [if_neg h]
    simp [h]
theorem case_bd {fs c : List Int} (hf : fsB fs = true) (hc : icB fs c = true) (j : Nat) (hj : j < c.length) : 0 ≤ c.getD j 0 ∧ c.getD j 0 ≤ 3 ∧ c.getD j 0 < fs.getD j 0 := by
  obtain ⟨h1, h2⟩ := ic_iff.1 hc
  have h3 := h2 j (by omega)
  have h4 := fsB_at hf j (by omega)
  omega
theorem pt_small {fs c : List Int} (hf : fsB fs = true) (hc : icB fs c = true) (k : Nat) : ptF c k < 65536 := by
  unfold ptF
  by_cases h : k < c.length
  · rw [if_pos h]
    have h1 := case_bd hf hc k h
    have h2 : 2 ^ (c.getD k 0).toNat ≤ 2 ^ 3 := Nat.pow_le_pow_right (by decide) (by omega)
    omega
  · rw [if_neg h]; decide
theorem one_mem {c : List Int} {t : Int × Int} : t ∈ oneT c ↔ ∃ i, i < c.length ∧ t = ((i : Int), ((2 ^ (c.getD i 0).toNat : Nat) : Int)) := by
  unfold oneT
  rw [List.mem_map]
  constructor
  · rintro ⟨i, hi, rfl⟩
    exact ⟨i, List.mem_range.1 hi, rfl⟩
  · rintro ⟨i, hi, rfl⟩
    exact ⟨i, List.mem_range.2 hi, rfl⟩
theorem one_val {fs c : List Int} (hf : fsB fs = true) (hc : icB fs c = true) {i : Nat} (hi : i < c.length) : (1 : Int) ≤ ((2 ^ (c.getD i 0).toNat : Nat) : Int) ∧ ((2 ^ (c.getD i 0).toNat : Nat) : Int) < 16 := by
  have h1 := case_bd hf hc i hi
  have h2 : 2 ^ (c.getD i 0).toNat ≤ 2 ^ 3 := Nat.pow_le_pow_right (by decide) (by omega)
  have h3 : 0 < 2 ^ (c.getD i 0).toNat := Nat.pow_pos (by decide)
  omega
theorem one_wth {fs c : List Int} (hf : fsB fs = true) (hc : icB fs c = true) (k : Nat) : wthL (evF fs) (oneT c) k = ptF c k := by
  obtain ⟨h1, h2⟩ := ic_iff.1 hc
  refine Nat.eq_of_testBit_eq fun i => ?_
  rw [Bool.eq_iff_iff, wth_bit, pt_bit]
  constructor
  · rintro ⟨a, b⟩
    have hk : k < c.length := by
      rcases Nat.lt_or_ge k c.length with h | h
      · exact h
      · unfold evF at a
        rw [if_neg (by omega)] at a
        simp at a
    have h3 := b _ (one_mem.2 ⟨k, hk, rfl⟩) (by simp)
    have h4 := one_val hf hc hk
    dsimp only at h3
    rw [ofInt_small (by omega) h4.2, Int.toNat_natCast, Nat.testBit_two_pow, decide_eq_true_iff] at h3
    exact ⟨hk, h3⟩
  · rintro ⟨hk, rfl⟩
    refine ⟨ev_bit hf hc (by omega), fun t ht e => ?_⟩
    obtain ⟨j, hj, rfl⟩ := one_mem.1 ht
    obtain rfl : j = k := by simpa using e
    have h4 := one_val hf hc hj
    dsimp only
    rw [ofInt_small (by omega) h4.2, Int.toNat_natCast, Nat.testBit_two_pow, decide_eq_true_iff]
theorem one_set {s : Sch} (hs : schB s = true) {c : List Int} (hc : icB s.fs c = true) (a y : Int) (k : Nat) : setF s (oneR c a y) k = ptF c k := by
  have hf := (schB_ok hs).fs
  obtain ⟨h1, h2⟩ := ic_iff.1 hc
  show clnF (wthL (evF s.fs) (oneT c)) s.fs.length k = _
  unfold clnF
  rw [if_neg, one_wth hf hc]
  intro h
  obtain ⟨j, hj, h0⟩ := (anyTo_iff _ _).1 h
  rw [one_wth hf hc, beq_iff_eq] at h0
  unfold ptF at h0
  rw [if_pos (by omega)] at h0
  have h3 : 0 < 2 ^ (c.getD j 0).toNat := Nat.pow_pos (by decide)
  omega
theorem plus_old {s : Sch} {r : Rl} {k : Nat} (hk : k < s.rs.length) : (plusR s r).rs.getD k r0 = s.rs.getD k r0 := by
  show (s.rs ++ [r]).getD k r0 = _
  rw [List.getD_eq_getElem?_getD, List.getD_eq_getElem?_getD, List.getElem?_append_left hk]
theorem plus_new {s : Sch} {r : Rl} : (plusR s r).rs.getD s.rs.length r0 = r := by
  show (s.rs ++ [r]).getD s.rs.length r0 = _
  rw [List.getD_eq_getElem?_getD, List.getElem?_append_right (Nat.le_refl _)]
  simp
theorem plus_len {s : Sch} {r : Rl} : (plusR s r).rs.length = s.rs.length + 1 := by
  show (s.rs ++ [r]).length = _
  simp
theorem plus_st {s : Sch} {r : Rl} {k : Nat} (hk : k < s.rs.length) : stF (plusR s r) k = stF s k := by
  unfold stF
  rw [plus_old hk]
  rfl
theorem plus_stn {s : Sch} (hs : schB s = true) {c : List Int} (hc : icB s.fs c = true) (a y : Int) : stF (plusR s (oneR c a y)) s.rs.length = ptF c := by
  funext k
  unfold stF
  rw [plus_new]
  exact one_set hs hc a y k
theorem one_rl {s : Sch} (hs : schB s = true) {c : List Int} (hc : icB s.fs c = true) {a y : Int} (ha : 0 ≤ a ∧ a ≤ s.q - 1) (hy : 0 ≤ y ∧ y ≤ 999) : rlB s.fs.length s.q (evF s.fs) (oneR c a y) = true := by
  have hok := schB_ok hs
  obtain ⟨h1, h2⟩ := ic_iff.1 hc
  have hl : (oneT c).length = c.length := by unfold oneT; simp
  unfold rlB
  rw [Bool.and_eq_true, Bool.and_eq_true, Bool.and_eq_true]
  refine ⟨decide_eq_true ?_, decide_eq_true ha, decide_eq_true hy, List.all_eq_true.2 fun t ht => ?_⟩
  · show (oneT c).length ≤ 5
    have := hok.nf5
    omega
  · obtain ⟨i, hi, rfl⟩ := one_mem.1 ht
    unfold tstB
    have h4 := one_val hok.fs hc hi
    rw [Bool.and_eq_true]
    refine ⟨decide_eq_true ?_, ?_⟩
    · dsimp only; omega
    · dsimp only
      rw [beq_iff_eq, Int.toNat_natCast, anot_zero]
      intro j hj
      have h5 : 2 ^ (c.getD i 0).toNat < 65536 := by omega
      rw [nat_bit _ h5, Nat.testBit_two_pow, decide_eq_true_iff] at hj
      subst hj
      have h6 : evF s.fs i < 65536 := by
        unfold evF
        split
        · have := fsB_at hok.fs i (by omega)
          have : 2 ^ (s.fs.getD i 0).toNat ≤ 2 ^ 4 := Nat.pow_le_pow_right (by decide) (by omega)
          omega
        · decide
      rw [nat_bit _ h6]
      exact ev_bit hok.fs hc (by omega)
theorem plus_ok {s : Sch} (hs : schB s = true) (hn : s.rs.length ≤ 11) {r : Rl} (hr : rlB s.fs.length s.q (evF s.fs) r = true) : schB (plusR s r) = true := by
  unfold schB at hs ⊢
  rw [Bool.and_eq_true, Bool.and_eq_true, Bool.and_eq_true, Bool.and_eq_true] at hs ⊢
  obtain ⟨h1, h2, h3, h4, h5⟩ := hs
  refine ⟨h1, h2, decide_eq_true ?_, h4, ?_⟩
  · rw [plus_len]; omega
  · show (s.rs ++ [r]).all _ = true
    rw [List.all_append, Bool.and_eq_true]
    exact ⟨h5, by show ([r] : List Rl).all (rlB s.fs.length s.q (evF s.fs)) = true; simpa using hr⟩
theorem eq_of_case {fs c d : List Int} (hc : icB fs c = true) (hd : icB fs d = true) (h : ∀ k, k < c.length → (c.getD k 0).toNat = (d.getD k 0).toNat) : c = d := by
  obtain ⟨h1, h2⟩ := ic_iff.1 hc
  obtain ⟨h3, h4⟩ := ic_iff.1 hd
  refine List.ext_getElem (by omega) fun k hk hk' => ?_
  have a := h2 k (by omega)
  have b := h4 k (by omega)
  have e := h k hk
  rw [List.getD_eq_getElem?_getD, List.getElem?_eq_getElem hk] at a e
  rw [List.getD_eq_getElem?_getD, List.getElem?_eq_getElem hk'] at b e
  change 0 ≤ c[k] ∧ _ at a
  change 0 ≤ d[k] ∧ _ at b
  change c[k].toNat = d[k].toNat at e
  omega
theorem pt_has {fs c d : List Int} (hf : fsB fs = true) (hc : icB fs c = true) (hd : icB fs d = true) : hsB (ptF c) d = true ↔ c = d := by
  rw [has_iff (pt_small hf hc)]
  obtain ⟨h1, h2⟩ := ic_iff.1 hc
  obtain ⟨h3, h4⟩ := ic_iff.1 hd
  constructor
  · intro h
    refine eq_of_case hc hd fun k hk => ?_
    exact ((pt_bit _ _ _).1 (h k (by omega))).2
  · rintro rfl k hk
    exact (pt_bit _ _ _).2 ⟨hk, rfl⟩
end Go.Proofs.YtmpegkojencbjaaDoor
/- School: own lists of lists of numbers, own lists of bools, own tables of bools. -/
namespace Go.Proofs.YtmpegkojencbjaaDoor
open Go Go.RowKit Go.Shelf
set_option maxHeartbeats 4000000
set_option maxRecDepth 100000
theorem info_ints : (Tryd.prog.info? 36).map (fun i => (i.zero, i.size, i.bytes)) = some (some (.slice none 0 0), 1, 24) := by kernel_rfl
theorem info_boo : (Tryd.prog.info? 4).map (fun i => (i.zero, i.size, i.bytes)) = some (some (.bool false), 1, 1) := by kernel_rfl
theorem info_boos : (Tryd.prog.info? 66).map (fun i => (i.zero, i.size, i.bytes)) = some (some (.slice none 0 0), 1, 24) := by kernel_rfl
theorem own_low {W : World} {b b' : Nat} {e : TypeId} {size n : Nat} {v : Value} {xs : List Value} (h : W.ownsRow b e size v n xs) (hb : b' ≤ b) : W.ownsRow b' e size v n xs := by
  refine ⟨h.1, ?_⟩
  rcases h.2 with h2 | ⟨g, cap, cur, h2, h3, h4⟩
  · exact .inl h2
  · exact .inr ⟨g, cap, cur, h2, Nat.le_trans hb h3, h4⟩
theorem own_grown {W W' : World} {b : Nat} {e : TypeId} {size n : Nat} {v : Value} {xs : List Value} {row : Option Nat} (h : W.ownsRow b e size v n xs) (hg : W.grownBy W' row) (h2 : v.ownBlock = none ∨ v.ownBlock ≠ row) : W'.ownsRow b e size v n xs :=
  own_kx h ((KX.refl W W.heap.size row).grown hg) (fun he => by
    have := (World.ownsRow.lt h W.heap.size he).2
    omega) h2
theorem push_cs {W : World} {base : Nat} {v : Value} {xs : List Value} (h : W.ownsRow base 36 1 v xs.length xs) (x : Value) (hx : x.oneCell' = true) (hl : xs.length ≤ 100000) (hb : base ≤ W.heap.size) :
    ∃ A c w', (Builtin.append_ #[54, 54] 54 #[v, .slice (some ⟨W.heap.size, 0, none⟩) 1 1]).run Tryd.prog (W.alloc (.cells #[x] 36)) = .ok (.slice A (xs.length + 1) c) w' ∧
      w'.ownsRow base 36 1 (.slice A (xs.length + 1) c) (xs ++ [x]).length (xs ++ [x]) ∧ (W.alloc (.cells #[x] 36)).grownBy w' v.ownBlock ∧
      ((Value.slice A (xs.length + 1) c).ownBlock = v.ownBlock ∨ (Value.slice A (xs.length + 1) c).ownBlock = some (W.heap.size + 1)) := by
  obtain ⟨i0, hi, hz0, hz1, hz2⟩ := info_parts info_ints
  obtain ⟨v', w', hr, h2, h3, -, h4⟩ := run_append_own_at (P := Tryd.prog) (w := W.alloc (.cells #[x] 36)) base 54 54 36 i0 _ 1 24 Tryd.underlying54 hi hz0 hz1 hz2 rfl (by decide) v xs.length xs (ownBelow h ((Below.refl _ _).alloc (Nat.le_refl _) _))
    ⟨W.heap.size, 0, none⟩ 1 1 [x] rfl (fun j u hj => by
      match j, hj with
      | 0, hj =>
        simp at hj
        subst hj
        have := (Blk.new W 36 #[x]).cell 0
        simpa [Addr.add] using this
      | j + 1, hj => simp at hj) (by simpa using hx) (by unfold maxLen; omega) (by omega) (by simp; omega)
  obtain ⟨A, c, rfl⟩ := own_shape h2
  refine ⟨A, c, w', hr, ?_, h3, ?_⟩
  · rw [List.length_append]; exact h2
  · simpa using h4
theorem made_cs (W : World) : (W.alloc (.cells #[] 36)).ownsRow W.heap.size 36 1 (.slice (some ⟨W.heap.size, 0, none⟩) 0 0) 0 [] :=
  World.ownsRow_made W #[] 0 (Nat.le_refl _) (by unfold maxLen; omega) rfl
theorem push_bs {W : World} {base : Nat} {v : Value} {xs : List Value} (h : W.ownsRow base 4 1 v xs.length xs) (x : Value) (hx : x.oneCell' = true) (hl : xs.length ≤ 100000) (hb : base ≤ W.heap.size) :
    ∃ A c w', (Builtin.append_ #[66, 66] 66 #[v, .slice (some ⟨W.heap.size, 0, none⟩) 1 1]).run Tryd.prog (W.alloc (.cells #[x] 4)) = .ok (.slice A (xs.length + 1) c) w' ∧
      w'.ownsRow base 4 1 (.slice A (xs.length + 1) c) (xs ++ [x]).length (xs ++ [x]) ∧ (W.alloc (.cells #[x] 4)).grownBy w' v.ownBlock ∧
      ((Value.slice A (xs.length + 1) c).ownBlock = v.ownBlock ∨ (Value.slice A (xs.length + 1) c).ownBlock = some (W.heap.size + 1)) := by
  obtain ⟨i0, hi, hz0, hz1, hz2⟩ := info_parts info_boo
  obtain ⟨v', w', hr, h2, h3, -, h4⟩ := run_append_own_at (P := Tryd.prog) (w := W.alloc (.cells #[x] 4)) base 66 66 4 i0 _ 1 1 Tryd.underlying66 hi hz0 hz1 hz2 rfl (by decide) v xs.length xs (ownBelow h ((Below.refl _ _).alloc (Nat.le_refl _) _))
    ⟨W.heap.size, 0, none⟩ 1 1 [x] rfl (fun j u hj => by
      match j, hj with
      | 0, hj =>
        simp at hj
        subst hj
        have := (Blk.new W 4 #[x]).cell 0
        simpa [Addr.add] using this
      | j + 1, hj => simp at hj) (by simpa using hx) (by unfold maxLen; omega) (by omega) (by simp; omega)
  obtain ⟨A, c, rfl⟩ := own_shape h2
  refine ⟨A, c, w', hr, ?_, h3, ?_⟩
  · rw [List.length_append]; exact h2
  · simpa using h4
theorem made_bs (W : World) : (W.alloc (.cells #[] 4)).ownsRow W.heap.size 4 1 (.slice (some ⟨W.heap.size, 0, none⟩) 0 0) 0 [] :=
  World.ownsRow_made W #[] 0 (Nat.le_refl _) (by unfold maxLen; omega) rfl
theorem push_tb {W : World} {base : Nat} {v : Value} {xs : List Value} (h : W.ownsRow base 66 1 v xs.length xs) (x : Value) (hx : x.oneCell' = true) (hl : xs.length ≤ 100000) (hb : base ≤ W.heap.size) :
    ∃ A c w', (Builtin.append_ #[56, 56] 56 #[v, .slice (some ⟨W.heap.size, 0, none⟩) 1 1]).run Tryd.prog (W.alloc (.cells #[x] 66)) = .ok (.slice A (xs.length + 1) c) w' ∧
      w'.ownsRow base 66 1 (.slice A (xs.length + 1) c) (xs ++ [x]).length (xs ++ [x]) ∧ (W.alloc (.cells #[x] 66)).grownBy w' v.ownBlock ∧
      ((Value.slice A (xs.length + 1) c).ownBlock = v.ownBlock ∨ (Value.slice A (xs.length + 1) c).ownBlock = some (W.heap.size + 1)) := by
  obtain ⟨i0, hi, hz0, hz1, hz2⟩ := info_parts info_boos
  obtain ⟨v', w', hr, h2, h3, -, h4⟩ := run_append_own_at (P := Tryd.prog) (w := W.alloc (.cells #[x] 66)) base 56 56 66 i0 _ 1 24 Tryd.underlying56 hi hz0 hz1 hz2 rfl (by decide) v xs.length xs (ownBelow h ((Below.refl _ _).alloc (Nat.le_refl _) _))
    ⟨W.heap.size, 0, none⟩ 1 1 [x] rfl (fun j u hj => by
      match j, hj with
      | 0, hj =>
        simp at hj
        subst hj
        have := (Blk.new W 66 #[x]).cell 0
        simpa [Addr.add] using this
      | j + 1, hj => simp at hj) (by simpa using hx) (by unfold maxLen; omega) (by omega) (by simp; omega)
  obtain ⟨A, c, rfl⟩ := own_shape h2
  refine ⟨A, c, w', hr, ?_, h3, ?_⟩
  · rw [List.length_append]; exact h2
  · simpa using h4
theorem made_tb (W : World) : (W.alloc (.cells #[] 66)).ownsRow W.heap.size 66 1 (.slice (some ⟨W.heap.size, 0, none⟩) 0 0) 0 [] :=
  World.ownsRow_made W #[] 0 (Nat.le_refl _) (by unfold maxLen; omega) rfl
/-- a cell of an own list of one-cell values -/
theorem own_one {W : World} {base : Nat} {e : TypeId} {A : Option Addr} {n c : Nat} {xs : List Value} (h : W.ownsRow base e 1 (.slice A n c) n xs) {k : Nat} {x : Value} (hx : xs[k]? = some x) :
    ∃ g, A = some ⟨g, 0, none⟩ ∧ g < W.heap.size ∧ base ≤ g ∧ W.cell? ⟨g, k, none⟩ = some x := by
  rcases h.2 with ⟨h1, h2⟩ | ⟨g, cap, cur, h1, h2, h3⟩
  · have h3 := h.1
    have := (List.getElem?_eq_some_iff.1 hx).1
    omega
  · injection h1 with hA
    subst hA
    have hc := World.ownsRow.cells h (g := g) rfl k x hx
    rw [show ((⟨g, 0, none⟩ : Addr).add k) = ⟨g, k, none⟩ by unfold Addr.add; simp; omega] at hc
    exact ⟨g, rfl, (World.ownsRow.lt h g rfl).2, h2, hc⟩
/-- an own list of n lists of numbers -/
def CsR (W : World) (base : Nat) (v : Value) (n : Nat) (f : Nat → List Int) : Prop :=
  ∃ xs, xs.length = n ∧ W.ownsRow base 36 1 v n xs ∧ ∀ k, k < n → ∃ A c, xs[k]? = some (.slice A (f k).length c) ∧ OwnJ W base (.slice A (f k).length c) (f k)
section
variable {W W' : World} {base n : Nat} {v : Value} {f : Nat → List Int}
theorem CsR.ext (h : CsR W base v n f) (hb : Below W.heap.size W W') : CsR W' base v n f := by
  obtain ⟨xs, h1, h2, h3⟩ := h
  refine ⟨xs, h1, ownBelow h2 hb, fun k hk => ?_⟩
  obtain ⟨A, c, h4, h5⟩ := h3 k hk
  exact ⟨A, c, h4, h5.ext hb⟩
theorem CsR.grown (h : CsR W base v n f) {row : Option Nat} (hg : W.grownBy W' row) (h1 : v.ownBlock = none ∨ v.ownBlock ≠ row) (h2 : ∀ k, k < n → ∀ A c, OwnJ W base (.slice A (f k).length c) (f k) → (Value.slice A (f k).length c).ownBlock = none ∨ (Value.slice A (f k).length c).ownBlock ≠ row) : CsR W' base v n f := by
  obtain ⟨xs, h3, h4, h5⟩ := h
  refine ⟨xs, h3, own_grown h4 hg h1, fun k hk => ?_⟩
  obtain ⟨A, c, h6, h7⟩ := h5 k hk
  exact ⟨A, c, h6, own_grown h7 hg (h2 k hk A c h7)⟩
theorem CsR.low (h : CsR W base v n f) {b : Nat} (hb : b ≤ base) : CsR W b v n f := by
  obtain ⟨xs, h3, h4, h5⟩ := h
  refine ⟨xs, h3, own_low h4 hb, fun k hk => ?_⟩
  obtain ⟨A, c, h6, h7⟩ := h5 k hk
  exact ⟨A, c, h6, own_low h7 hb⟩
theorem CsR.congr (h : CsR W base v n f) {g : Nat → List Int} (hg : ∀ k, k < n → f k = g k) : CsR W base v n g := by
  obtain ⟨xs, h3, h4, h5⟩ := h
  refine ⟨xs, h3, h4, fun k hk => ?_⟩
  rw [← hg k hk]
  exact h5 k hk
theorem CsR.made0 (W : World) (f : Nat → List Int) : CsR (W.alloc (.cells #[] 36)) W.heap.size (.slice (some ⟨W.heap.size, 0, none⟩) 0 0) 0 f :=
  ⟨[], rfl, made_cs W, fun k hk => absurd hk (by omega)⟩
/-- a list goes to the lists -/
theorem CsR.push (h : CsR W base v n f) (A : Option Addr) (c : Nat) (ho : OwnJ W base (.slice A (f n).length c) (f n)) (hl : n ≤ 100000) (hb : base ≤ W.heap.size) :
    ∃ B c' w', (Builtin.append_ #[54, 54] 54 #[v, .slice (some ⟨W.heap.size, 0, none⟩) 1 1]).run Tryd.prog (W.alloc (.cells #[.slice A (f n).length c] 36)) = .ok (.slice B (n + 1) c') w' ∧
      CsR w' base (.slice B (n + 1) c') (n + 1) f ∧ (W.alloc (.cells #[.slice A (f n).length c] 36)).grownBy w' v.ownBlock ∧
      ((Value.slice B (n + 1) c').ownBlock = v.ownBlock ∨ (Value.slice B (n + 1) c').ownBlock = some (W.heap.size + 1)) := by
  have hB : Below W.heap.size W (W.alloc (.cells #[.slice A (f n).length c] 36)) := (Below.refl _ _).alloc (Nat.le_refl _) _
  have ho5 := ho.ext hB
  have h5 := h.ext hB
  obtain ⟨xs, h1, h2, h3⟩ := h
  subst h1
  obtain ⟨B, c', w', hr, h6, hg, ha⟩ := push_cs h2 (.slice A (f xs.length).length c) rfl hl hb
  refine ⟨B, c', w', hr, ⟨xs ++ [.slice A (f xs.length).length c], by simp, by simpa using h6, fun k hk => ?_⟩, hg, ha⟩
  have hown := ownBelow h2 hB
  by_cases e : k = xs.length
  · subst e
    exact ⟨A, c, by simp, own_grown ho5 hg (own_own_ne ho5 hown (by decide))⟩
  · obtain ⟨A1, c1, e1, o1⟩ := h3 k (by omega)
    have o2 := o1.ext hB
    exact ⟨A1, c1, by rw [List.getElem?_append_left (by omega)]; exact e1, own_grown o2 hg (own_own_ne o2 hown (by decide))⟩
/-- a list of the lists is read -/
theorem CsR.at_ {A : Option Addr} {c : Nat} (h : CsR W base (.slice A n c) n f) {k : Nat} (hk : k < n) :
    ∃ g B b, A = some ⟨g, 0, none⟩ ∧ g < W.heap.size ∧ W.cell? ⟨g, k, none⟩ = some (.slice B (f k).length b) ∧ LI W W.heap.size B (f k) := by
  obtain ⟨xs, h1, h2, h3⟩ := h
  obtain ⟨B, b, h4, h5⟩ := h3 k hk
  obtain ⟨g, e1, e2, -, e3⟩ := own_one h2 h4
  exact ⟨g, B, b, e1, e2, e3, (OwnJ.li h5).2⟩
theorem CsR.shape (h : CsR W base v n f) : ∃ A c, v = .slice A n c := by
  obtain ⟨xs, h1, h2, h3⟩ := h
  exact own_shape h2
end
/-- an own list of bools -/
def OwnB (W : World) (base : Nat) (v : Value) (n : Nat) (p : Nat → Bool) : Prop := W.ownsRow base 4 1 v n ((List.range n).map fun k => .bool (p k))
theorem boo_len (n : Nat) (p : Nat → Bool) : ((List.range n).map fun k => Value.bool (p k)).length = n := by simp
theorem OwnB.ext {W W' : World} {base n : Nat} {v : Value} {p : Nat → Bool} (h : OwnB W base v n p) (hb : Below W.heap.size W W') : OwnB W' base v n p := ownBelow h hb
theorem OwnB.made0 (W : World) (p : Nat → Bool) : OwnB (W.alloc (.cells #[] 4)) W.heap.size (.slice (some ⟨W.heap.size, 0, none⟩) 0 0) 0 p := made_bs W
theorem OwnB.push {W : World} {base n : Nat} {v : Value} {p : Nat → Bool} (h : OwnB W base v n p) (hl : n ≤ 100000) (hb : base ≤ W.heap.size) :
    ∃ A c w', (Builtin.append_ #[66, 66] 66 #[v, .slice (some ⟨W.heap.size, 0, none⟩) 1 1]).run Tryd.prog (W.alloc (.cells #[.bool (p n)] 4)) = .ok (.slice A (n + 1) c) w' ∧
      OwnB w' base (.slice A (n + 1) c) (n + 1) p ∧ (W.alloc (.cells #[.bool (p n)] 4)).grownBy w' v.ownBlock := by
  have h' : W.ownsRow base 4 1 v ((List.range n).map fun k => Value.bool (p k)).length ((List.range n).map fun k => .bool (p k)) := by rw [boo_len]; exact h
  obtain ⟨A, c, w', hr, h6, hg, -⟩ := push_bs h' (.bool (p n)) rfl (by rw [boo_len]; exact hl) hb
  rw [boo_len] at hr h6
  refine ⟨A, c, w', hr, ?_, hg⟩
  unfold OwnB
  rw [List.range_succ, List.map_append]
  simpa using h6
theorem OwnB.at_ {W : World} {base n c : Nat} {A : Option Addr} {p : Nat → Bool} (h : OwnB W base (.slice A n c) n p) {k : Nat} (hk : k < n) : ∃ g, A = some ⟨g, 0, none⟩ ∧ g < W.heap.size ∧ W.cell? ⟨g, k, none⟩ = some (.bool (p k)) := by
  obtain ⟨g, e1, e2, -, e3⟩ := own_one h (k := k) (x := .bool (p k)) (by rw [List.getElem?_map, List.getElem?_range hk]; rfl)
  exact ⟨g, e1, e2, e3⟩
/-- an own table of bools: n rows of m -/
def TbB (W : World) (base : Nat) (v : Value) (n m : Nat) (p : Nat → Nat → Bool) : Prop :=
  ∃ xs, xs.length = n ∧ W.ownsRow base 66 1 v n xs ∧ ∀ k, k < n → ∃ A c, xs[k]? = some (.slice A m c) ∧ OwnB W base (.slice A m c) m (p k)
section
variable {W W' : World} {base n m : Nat} {v : Value} {p : Nat → Nat → Bool}
theorem TbB.ext (h : TbB W base v n m p) (hb : Below W.heap.size W W') : TbB W' base v n m p := by
  obtain ⟨xs, h1, h2, h3⟩ := h
  refine ⟨xs, h1, ownBelow h2 hb, fun k hk => ?_⟩
  obtain ⟨A, c, h4, h5⟩ := h3 k hk
  exact ⟨A, c, h4, h5.ext hb⟩
theorem TbB.made0 (W : World) (p : Nat → Nat → Bool) : TbB (W.alloc (.cells #[] 66)) W.heap.size (.slice (some ⟨W.heap.size, 0, none⟩) 0 0) 0 m p :=
  ⟨[], rfl, made_tb W, fun k hk => absurd hk (by omega)⟩
theorem TbB.push (h : TbB W base v n m p) (A : Option Addr) (c : Nat) (ho : OwnB W base (.slice A m c) m (p n)) (hl : n ≤ 100000) (hb : base ≤ W.heap.size) :
    ∃ B c' w', (Builtin.append_ #[56, 56] 56 #[v, .slice (some ⟨W.heap.size, 0, none⟩) 1 1]).run Tryd.prog (W.alloc (.cells #[.slice A m c] 66)) = .ok (.slice B (n + 1) c') w' ∧
      TbB w' base (.slice B (n + 1) c') (n + 1) m p ∧ (W.alloc (.cells #[.slice A m c] 66)).grownBy w' v.ownBlock := by
  have hB : Below W.heap.size W (W.alloc (.cells #[.slice A m c] 66)) := (Below.refl _ _).alloc (Nat.le_refl _) _
  have ho5 := ho.ext hB
  obtain ⟨xs, h1, h2, h3⟩ := h
  subst h1
  obtain ⟨B, c', w', hr, h6, hg, ha⟩ := push_tb h2 (.slice A m c) rfl hl hb
  refine ⟨B, c', w', hr, ⟨xs ++ [.slice A m c], by simp, by simpa using h6, fun k hk => ?_⟩, hg⟩
  have hown := ownBelow h2 hB
  by_cases e : k = xs.length
  · subst e
    exact ⟨A, c, by simp, own_grown ho5 hg (own_own_ne ho5 hown (by decide))⟩
  · obtain ⟨A1, c1, e1, o1⟩ := h3 k (by omega)
    have o2 := o1.ext hB
    exact ⟨A1, c1, by rw [List.getElem?_append_left (by omega)]; exact e1, own_grown o2 hg (own_own_ne o2 hown (by decide))⟩
theorem TbB.at_ {A : Option Addr} {c : Nat} (h : TbB W base (.slice A n c) n m p) {k : Nat} (hk : k < n) {i : Nat} (hi : i < m) :
    ∃ g g2 b, A = some ⟨g, 0, none⟩ ∧ g < W.heap.size ∧ W.cell? ⟨g, k, none⟩ = some (.slice (some ⟨g2, 0, none⟩) m b) ∧ g2 < W.heap.size ∧ W.cell? ⟨g2, i, none⟩ = some (.bool (p k i)) := by
  obtain ⟨xs, h1, h2, h3⟩ := h
  obtain ⟨B, b, h4, h5⟩ := h3 k hk
  obtain ⟨g, e1, e2, -, e3⟩ := own_one h2 h4
  obtain ⟨g2, rfl, e5, e6⟩ := h5.at_ hi
  exact ⟨g, g2, b, e1, e2, e3, e5, e6⟩
theorem TbB.shape (h : TbB W base v n m p) : ∃ A c, v = .slice A n c := by
  obtain ⟨xs, h1, h2, h3⟩ := h
  exact own_shape h2
end
/-- a list with one number more, made anew -/
theorem row_new (W : World) (A : Option Addr) (c : Nat) (l : List Int) (x : Int) (hA : LI W W.heap.size A l) (hl : l.length ≤ 100000) :
    ∃ v1 w1, (Builtin.append_ #[36, 36] 36 #[.slice (some ⟨W.heap.size, 0, none⟩) 0 0, .slice A l.length c]).run Tryd.prog (W.alloc (.cells #[] 3)) = .ok v1 w1 ∧
      ∃ B b w2, (Builtin.append_ #[36, 36] 36 #[v1, .slice (some ⟨w1.heap.size, 0, none⟩) 1 1]).run Tryd.prog (w1.alloc (.cells #[.int .i64 x] 3)) = .ok (.slice B (l.length + 1) b) w2 ∧
        OwnJ w2 W.heap.size (.slice B (l.length + 1) b) (l ++ [x]) ∧ Below W.heap.size W w2 := by
  have hB0 : Below W.heap.size W (W.alloc (.cells #[] 3)) := (Below.refl _ _).alloc (Nat.le_refl _) _
  obtain ⟨v1, w1, hr, h2, hg, -⟩ := (OwnJ.made0 W).pushes A c l ((ER.below hA hB0 (Nat.le_refl _)).more hB0.size) (by simp; omega) hB0.size
  rw [List.nil_append] at h2
  have hB1 := hB0.grown hg hB0.size (fun k hk => (World.ownsRow.lt (OwnJ.made0 W) k hk).1)
  have hB2 : Below W.heap.size W (w1.alloc (.cells #[.int .i64 x] 3)) := hB1.alloc hB1.size _
  have hBB : Below w1.heap.size w1 (w1.alloc (.cells #[.int .i64 x] 3)) := (Below.refl _ _).alloc (Nat.le_refl _) _
  obtain ⟨v2, w2, hr2, h3, hg2, -⟩ := (h2.ext hBB).pushes (some ⟨w1.heap.size, 0, none⟩) 1 [x] (fun _ => ⟨w1.heap.size, 0, rfl, by simp, fun k i hk hi => by
    obtain rfl : k = 0 := by simp at hk; omega
    obtain rfl : i = 0 := by omega
    exact (Blk.new w1 3 #[.int .i64 x]).cell 0⟩) (by simp; omega) hB2.size
  obtain ⟨B, b, rfl⟩ := own_shape h3
  have hr3 : _ = _ := hr2
  rw [List.length_append] at hr3
  refine ⟨v1, w1, hr, B, b, w2, hr3, ?_, hB2.grown hg2 hB2.size (fun k hk => (World.ownsRow.lt h2 k hk).1)⟩
  have h4 := h3
  rw [show (l ++ [x]).length = l.length + 1 by simp] at h4
  exact h4
end Go.Proofs.YtmpegkojencbjaaDoor
