/- School: the laws' helpers on words, the reference's Word, Text, Same. -/
import Derived.Test.YtmpegkojencbjaaDoorMergesH
set_option linter.unusedSimpArgs false
set_option linter.unusedVariables false
set_option linter.unnecessarySimpa false
namespace Go.Proofs.YtmpegkojencbjaaDoor
open List renaming getElem_toArray → glA, getElem_cons_zero → glB, getElem_cons_succ → glC, setIfInBounds_toArray → glD, set_cons_zero → glE, set_cons_succ → glF
open Go Go.RowKit Go.Shelf
set_option maxHeartbeats 2000000
set_option maxRecDepth 100000
theorem refSame_any (A B : Option Addr) (c d : Nat) (l m : List Ed) (w : World) (hl : l.length ≤ maxLen) (hA : EdR w w.heap.size A l) (hB : EdR w w.heap.size B m) :
    Calls Tryd.prog 20 #[.slice A l.length c, .slice B m.length d] w fun e w' => e = .returned (.bool (decide (l = m))) ∧ Below w.heap.size w w' := by
  unfold maxLen at hl
  have HA := hide hA
  have HB := hide hB
  clear hA hB
  by_cases hlm : l.length = m.length
  · obtain ⟨n, hn⟩ : ∃ n, l.length = n := ⟨_, rfl⟩
    have hm : m.length = n := by omega
    have HN := hide (And.intro hn hm)
    rw [hn] at hl
    rw [hn, hm]
    clear hlm hn hm
    go_enter Tryd.func20, Tryd.ntmps20
    go_wp2_with fail
    go_loopw [5] (fun i wr => ∃ k : Nat, k ≤ n ∧ i = .int .i64 k ∧ (∀ j, j < k → l.getD j e0 = m.getD j e0) ∧ Below w.heap.size w wr) (fun i _ => n - (intOf i).toNat)
    case atStart => exact ⟨0, Nat.zero_le _, rfl, fun j hj => absurd hj (by omega), Below.refl _ _⟩
    case round =>
      obtain ⟨k, hk, rfl, hx, hbw⟩ := hrel
      have HX := hide hx
      have HBW := hide hbw
      clear hx
      by_cases hlt : k < n
      · have hlt' : (k : Int) < (n : Int) := by omega
        have i0 : (0 : Int) ≤ (k : Int) := by omega
        obtain ⟨e, he⟩ : ∃ e, l.getD k e0 = e := ⟨_, rfl⟩
        obtain ⟨f, hf⟩ : ∃ f, m.getD k e0 = f := ⟨_, rfl⟩
        obtain ⟨xb, xo, rfl, hxb, a0, a1, a2, a3⟩ := HA.out.at_ (by rw [HN.out.1]; exact hlt) he
        obtain ⟨yb, yo, rfl, hyb, b0, b1, b2, b3⟩ := HB.out.at_ (by rw [HN.out.2]; exact hlt) hf
        have HE := hide (And.intro he hf)
        clear he hf
        obtain ⟨x0, x1, x2, x3⟩ := e
        obtain ⟨y0, y1, y2, y3⟩ := f
        dsimp only at a0 a1 a2 a3 b0 b1 b2 b3
        have HS : Hid (∀ W, Below w.heap.size w W → (W.cell? ⟨xb, xo + k * 4, none⟩ = some (.int .i64 x0) ∧ W.cell? ⟨xb, xo + k * 4 + 1, none⟩ = some (.int .i64 x1) ∧ W.cell? ⟨xb, xo + k * 4 + 2, none⟩ = some (.string x2) ∧ W.cell? ⟨xb, xo + k * 4 + 3, none⟩ = some (.string x3)) ∧ (W.cell? ⟨yb, yo + k * 4, none⟩ = some (.int .i64 y0) ∧ W.cell? ⟨yb, yo + k * 4 + 1, none⟩ = some (.int .i64 y1) ∧ W.cell? ⟨yb, yo + k * 4 + 2, none⟩ = some (.string y2) ∧ W.cell? ⟨yb, yo + k * 4 + 3, none⟩ = some (.string y3))) := hide fun W h =>
          ⟨⟨(h.cell (p := ⟨xb, xo + k * 4, none⟩) hxb).trans a0, (h.cell (p := ⟨xb, xo + k * 4 + 1, none⟩) hxb).trans a1, (h.cell (p := ⟨xb, xo + k * 4 + 2, none⟩) hxb).trans a2, (h.cell (p := ⟨xb, xo + k * 4 + 3, none⟩) hxb).trans a3⟩,
           (h.cell (p := ⟨yb, yo + k * 4, none⟩) hyb).trans b0, (h.cell (p := ⟨yb, yo + k * 4 + 1, none⟩) hyb).trans b1, (h.cell (p := ⟨yb, yo + k * 4 + 2, none⟩) hyb).trans b2, (h.cell (p := ⟨yb, yo + k * 4 + 3, none⟩) hyb).trans b3⟩
        clear a0 a1 a2 a3 b0 b1 b2 b3 hbw
        go_upto_region 6 with fail
        have Bd := hide (HBW.out.trans ((Below.refl wr.heap.size wr).drew.mono HBW.out.size))
        refine wp_region_J (fun W : World => (W.cell? ⟨xb, xo + k * 4, none⟩ = some (.int .i64 x0) ∧ W.cell? ⟨xb, xo + k * 4 + 1, none⟩ = some (.int .i64 x1) ∧ W.cell? ⟨xb, xo + k * 4 + 2, none⟩ = some (.string x2) ∧ W.cell? ⟨xb, xo + k * 4 + 3, none⟩ = some (.string x3)) ∧ (W.cell? ⟨yb, yo + k * 4, none⟩ = some (.int .i64 y0) ∧ W.cell? ⟨yb, yo + k * 4 + 1, none⟩ = some (.int .i64 y1) ∧ W.cell? ⟨yb, yo + k * 4 + 2, none⟩ = some (.string y2) ∧ W.cell? ⟨yb, yo + k * 4 + 3, none⟩ = some (.string y3))) (by kernel_rfl) ?_
        generalize wr.drew = wd at Bd ⊢
        refine wpAnyJ_take 0 (v := ?_) (by first | exact hF | exact wideFn) (HS.out _ Bd.out) rfl (by kernel_rfl) (by kernel_rfl) (by kernel_rfl) (by kernel_rfl) rfl ?_ (by first | exact fun _ _ _ h => h | exact fun _ _ _ h => hQ2 _ _ _ _ _ h) ?_
        rotate_left
        · intro W hSW
          simp only [glA, glB, glC]
          (try dsimp only at hSW)
          go_simp
          with_reducible rfl
        (try simp only [glA, glB, glC, Act.put, glD, glE, glF])
        refine wpAnyJ_take 1 (v := ?_) (by first | exact hF | exact wideFn) (HS.out _ Bd.out) rfl (by kernel_rfl) (by kernel_rfl) (by kernel_rfl) (by kernel_rfl) rfl ?_ (by first | exact fun _ _ _ h => h | exact fun _ _ _ h => hQ2 _ _ _ _ _ h) ?_
        rotate_left
        · intro W hSW
          simp only [glA, glB, glC]
          (try dsimp only at hSW)
          go_simp
          with_reducible rfl
        (try simp only [glA, glB, glC, Act.put, glD, glE, glF])
        refine wpAnyJ_take 2 (v := ?_) (by first | exact hF | exact wideFn) (HS.out _ Bd.out) rfl (by kernel_rfl) (by kernel_rfl) (by kernel_rfl) (by kernel_rfl) rfl ?_ (by first | exact fun _ _ _ h => h | exact fun _ _ _ h => hQ2 _ _ _ _ _ h) ?_
        rotate_left
        · intro W hSW
          simp only [glA, glB, glC]
          (try dsimp only at hSW)
          go_simp
          with_reducible rfl
        (try simp only [glA, glB, glC, Act.put, glD, glE, glF])
        refine wpAnyJ_take 3 (v := ?_) (by first | exact hF | exact wideFn) (HS.out _ Bd.out) rfl (by kernel_rfl) (by kernel_rfl) (by kernel_rfl) (by kernel_rfl) rfl ?_ (by first | exact fun _ _ _ h => h | exact fun _ _ _ h => hQ2 _ _ _ _ _ h) ?_
        rotate_left
        · intro W hSW
          simp only [glA, glB, glC]
          (try dsimp only at hSW)
          go_simp
          with_reducible rfl
        (try simp only [glA, glB, glC, Act.put, glD, glE, glF])
        refine wpAnyJ_take 4 (v := ?_) (by first | exact hF | exact wideFn) (HS.out _ Bd.out) rfl (by kernel_rfl) (by kernel_rfl) (by kernel_rfl) (by kernel_rfl) rfl ?_ (by first | exact fun _ _ _ h => h | exact fun _ _ _ h => hQ2 _ _ _ _ _ h) ?_
        rotate_left
        · intro W hSW
          simp only [glA, glB, glC]
          (try dsimp only at hSW)
          go_simp
          with_reducible rfl
        (try simp only [glA, glB, glC, Act.put, glD, glE, glF])
        refine wpAnyJ_take 5 (v := ?_) (by first | exact hF | exact wideFn) (HS.out _ Bd.out) rfl (by kernel_rfl) (by kernel_rfl) (by kernel_rfl) (by kernel_rfl) rfl ?_ (by first | exact fun _ _ _ h => h | exact fun _ _ _ h => hQ2 _ _ _ _ _ h) ?_
        rotate_left
        · intro W hSW
          simp only [glA, glB, glC]
          (try dsimp only at hSW)
          go_simp
          with_reducible rfl
        (try simp only [glA, glB, glC, Act.put, glD, glE, glF])
        refine wpAnyJ_take 6 (v := ?_) (by first | exact hF | exact wideFn) (HS.out _ Bd.out) rfl (by kernel_rfl) (by kernel_rfl) (by kernel_rfl) (by kernel_rfl) rfl ?_ (by first | exact fun _ _ _ h => h | exact fun _ _ _ h => hQ2 _ _ _ _ _ h) ?_
        rotate_left
        · intro W hSW
          simp only [glA, glB, glC]
          (try dsimp only at hSW)
          go_simp
          with_reducible rfl
        (try simp only [glA, glB, glC, Act.put, glD, glE, glF])
        refine wpAnyJ_take 7 (v := ?_) (by first | exact hF | exact wideFn) (HS.out _ Bd.out) rfl (by kernel_rfl) (by kernel_rfl) (by kernel_rfl) (by kernel_rfl) rfl ?_ (by first | exact fun _ _ _ h => h | exact fun _ _ _ h => hQ2 _ _ _ _ _ h) ?_
        rotate_left
        · intro W hSW
          simp only [glA, glB, glC]
          (try dsimp only at hSW)
          go_simp
          with_reducible rfl
        (try simp only [glA, glB, glC, Act.put, glD, glE, glF])
        by_cases q0 : x0 = y0
        · by_cases q1 : x1 = y1
          · by_cases q2 : x2 = y2
            · by_cases q3 : x3 = y3
              · subst q0 q1 q2 q3
                refine wpAnyJ_take 8 (v := ?_) (by first | exact hF | exact wideFn) (HS.out _ Bd.out) rfl (by kernel_rfl) (by kernel_rfl) (by kernel_rfl) (by kernel_rfl) rfl ?_ (by first | exact fun _ _ _ h => h | exact fun _ _ _ h => hQ2 _ _ _ _ _ h) ?_
                rotate_left
                · intro W hSW
                  simp only [glA, glB, glC]
                  (try dsimp only at hSW)
                  go_simp
                  with_reducible rfl
                (try simp only [glA, glB, glC, Act.put, glD, glE, glF])
                refine wpAnyJ_done (by kernel_rfl) ?_
                go_wp2_with fail
                go_roundw
                case rel => exact ⟨k + 1, by omega, by go_num, fun j hj => by
                  rcases (by omega : j < k ∨ j = k) with h | h
                  · exact HX.out j h
                  · rw [h, HE.out.1, HE.out.2], Bd.out⟩
                case measure => simp [intOf]; omega
              · have q3' := str_ne q3
                refine wpAnyJ_take 8 (v := ?_) (by first | exact hF | exact wideFn) (HS.out _ Bd.out) rfl (by kernel_rfl) (by kernel_rfl) (by kernel_rfl) (by kernel_rfl) rfl ?_ (by first | exact fun _ _ _ h => h | exact fun _ _ _ h => hQ2 _ _ _ _ _ h) ?_
                rotate_left
                · intro W hSW
                  simp only [glA, glB, glC]
                  (try dsimp only at hSW)
                  go_simp
                  with_reducible rfl
                (try simp only [glA, glB, glC, Act.put, glD, glE, glF])
                refine wpAnyJ_done (by kernel_rfl) ?_
                go_wp2_with fail
                go_ret
                refine ⟨ret_bool ?_, Bd.out⟩
                have hne : ¬ l = m := fun e => by
                  have h1 := HE.out.1
                  rw [e, HE.out.2] at h1
                  injection h1 with h0 h1 h2 h3
                  exact q3 h3.symm
                simp [hne]
            · have q2' := str_ne q2
              refine wpAnyJ_take 8 (v := ?_) (by first | exact hF | exact wideFn) (HS.out _ Bd.out) rfl (by kernel_rfl) (by kernel_rfl) (by kernel_rfl) (by kernel_rfl) rfl ?_ (by first | exact fun _ _ _ h => h | exact fun _ _ _ h => hQ2 _ _ _ _ _ h) ?_
              rotate_left
              · intro W hSW
                simp only [glA, glB, glC]
                (try dsimp only at hSW)
                go_simp
                with_reducible rfl
              (try simp only [glA, glB, glC, Act.put, glD, glE, glF])
              refine wpAnyJ_done (by kernel_rfl) ?_
              go_wp2_with fail
              go_ret
              refine ⟨ret_bool ?_, Bd.out⟩
              have hne : ¬ l = m := fun e => by
                have h1 := HE.out.1
                rw [e, HE.out.2] at h1
                injection h1 with h0 h1 h2 h3
                exact q2 h2.symm
              simp [hne]
          · refine wpAnyJ_take 8 (v := ?_) (by first | exact hF | exact wideFn) (HS.out _ Bd.out) rfl (by kernel_rfl) (by kernel_rfl) (by kernel_rfl) (by kernel_rfl) rfl ?_ (by first | exact fun _ _ _ h => h | exact fun _ _ _ h => hQ2 _ _ _ _ _ h) ?_
            rotate_left
            · intro W hSW
              simp only [glA, glB, glC]
              (try dsimp only at hSW)
              go_simp
              with_reducible rfl
            (try simp only [glA, glB, glC, Act.put, glD, glE, glF])
            refine wpAnyJ_done (by kernel_rfl) ?_
            go_wp2_with fail
            go_ret
            refine ⟨ret_bool ?_, Bd.out⟩
            have hne : ¬ l = m := fun e => by
              have h1 := HE.out.1
              rw [e, HE.out.2] at h1
              injection h1 with h0 h1 h2 h3
              exact q1 h1.symm
            simp [hne]
        · refine wpAnyJ_take 8 (v := ?_) (by first | exact hF | exact wideFn) (HS.out _ Bd.out) rfl (by kernel_rfl) (by kernel_rfl) (by kernel_rfl) (by kernel_rfl) rfl ?_ (by first | exact fun _ _ _ h => h | exact fun _ _ _ h => hQ2 _ _ _ _ _ h) ?_
          rotate_left
          · intro W hSW
            simp only [glA, glB, glC]
            (try dsimp only at hSW)
            go_simp
            with_reducible rfl
          (try simp only [glA, glB, glC, Act.put, glD, glE, glF])
          refine wpAnyJ_done (by kernel_rfl) ?_
          go_wp2_with fail
          go_ret
          refine ⟨ret_bool ?_, Bd.out⟩
          have hne : ¬ l = m := fun e => by
            have h1 := HE.out.1
            rw [e, HE.out.2] at h1
            injection h1 with h0 h1 h2 h3
            exact q0 h0.symm
          simp [hne]
      · obtain rfl : k = n := by omega
        go_wp2_with fail
        go_ret
        refine ⟨ret_bool ?_, HBW.out⟩
        have : l = m := getD_all (by rw [HN.out.1, HN.out.2]) (by rw [HN.out.1]; exact HX.out)
        simp [this]
  · have hne : ¬ ((l.length : Int) = (m.length : Int)) := by omega
    have hd : decide (l = m) = false := by
      rw [decide_eq_false_iff_not]; intro h; exact hlm (by rw [h])
    rw [hd]
    clear hd
    generalize l.length = n1 at *
    generalize m.length = n2 at *
    go_enter Tryd.func20, Tryd.ntmps20
    go_wp2_with fail
    go_ret
    exact ⟨rfl, Below.refl _ _⟩
theorem getD_allW {l m : List Wd} (hl : l.length = m.length) (h : ∀ k, k < l.length → l.getD k noW = m.getD k noW) : l = m := by
  apply List.ext_getElem hl
  intro k h1 h2
  have := h k h1
  rwa [List.getD_eq_getElem?_getD, List.getD_eq_getElem?_getD, List.getElem?_eq_getElem h1, List.getElem?_eq_getElem h2] at this
theorem same_any (A B : Option Addr) (c d : Nat) (l m : List Wd) (w : World) (hl : l.length ≤ maxLen) (hA : SR w w.heap.size A l) (hB : SR w w.heap.size B m) :
    Calls Tryd.prog 18 #[.slice A l.length c, .slice B m.length d] w fun e w' => e = .returned (.bool (decide (l = m))) ∧ Below w.heap.size w w' := by
  unfold maxLen at hl
  have HA := hide hA
  have HB := hide hB
  clear hA hB
  by_cases hlm : l.length = m.length
  · obtain ⟨n, hn⟩ : ∃ n, l.length = n := ⟨_, rfl⟩
    have hm : m.length = n := by omega
    have HN := hide (And.intro hn hm)
    rw [hn] at hl
    rw [hn, hm]
    clear hlm hn hm
    go_enter Tryd.func18, Tryd.ntmps18
    go_wp2_with fail
    go_loopw [5] (fun i wr => ∃ k : Nat, k ≤ n ∧ i = .int .i64 k ∧ (∀ j, j < k → l.getD j noW = m.getD j noW) ∧ Below w.heap.size w wr) (fun i _ => n - (intOf i).toNat)
    case atStart => exact ⟨0, Nat.zero_le _, rfl, fun j hj => absurd hj (by omega), Below.refl _ _⟩
    case round =>
      obtain ⟨k, hk, rfl, hx, hbw⟩ := hrel
      have HX := hide hx
      have HBW := hide hbw
      clear hx
      by_cases hlt : k < n
      · have hlt' : (k : Int) < (n : Int) := by omega
        have i0 : (0 : Int) ≤ (k : Int) := by omega
        obtain ⟨x, he⟩ : ∃ e, l.getD k noW = e := ⟨_, rfl⟩
        obtain ⟨y, hf⟩ : ∃ f, m.getD k noW = f := ⟨_, rfl⟩
        obtain ⟨xb, xo, rfl, hxb, a0⟩ := VR1.at_ HA.out (by rw [HN.out.1]; exact hlt)
        obtain ⟨yb, yo, rfl, hyb, b0⟩ := VR1.at_ HB.out (by rw [HN.out.2]; exact hlt)
        rw [he] at a0
        rw [hf] at b0
        have HE := hide (And.intro he hf)
        clear he hf
        have HS : Hid (∀ W, Below w.heap.size w W → W.cell? ⟨xb, xo + k, none⟩ = some (.string x) ∧ W.cell? ⟨yb, yo + k, none⟩ = some (.string y)) := hide fun W h =>
          ⟨(h.cell (p := ⟨xb, xo + k, none⟩) hxb).trans a0, (h.cell (p := ⟨yb, yo + k, none⟩) hyb).trans b0⟩
        clear a0 b0 hbw
        go_upto_region 6 with fail
        have Bd := hide (HBW.out.trans ((Below.refl wr.heap.size wr).drew.mono HBW.out.size))
        refine wp_region_J (fun W : World => W.cell? ⟨xb, xo + k, none⟩ = some (.string x) ∧ W.cell? ⟨yb, yo + k, none⟩ = some (.string y)) (by kernel_rfl) ?_
        generalize wr.drew = wd at Bd ⊢
        refine wpAnyJ_take 0 (v := ?_) (by first | exact hF | exact wideFn) (HS.out _ Bd.out) rfl (by kernel_rfl) (by kernel_rfl) (by kernel_rfl) (by kernel_rfl) rfl ?_ (by first | exact fun _ _ _ h => h | exact fun _ _ _ h => hQ2 _ _ _ _ _ h) ?_
        rotate_left
        · intro W hSW
          simp only [glA, glB, glC]
          (try dsimp only at hSW)
          go_simp
          with_reducible rfl
        (try simp only [glA, glB, glC, Act.put, glD, glE, glF])
        refine wpAnyJ_take 1 (v := ?_) (by first | exact hF | exact wideFn) (HS.out _ Bd.out) rfl (by kernel_rfl) (by kernel_rfl) (by kernel_rfl) (by kernel_rfl) rfl ?_ (by first | exact fun _ _ _ h => h | exact fun _ _ _ h => hQ2 _ _ _ _ _ h) ?_
        rotate_left
        · intro W hSW
          simp only [glA, glB, glC]
          (try dsimp only at hSW)
          go_simp
          with_reducible rfl
        (try simp only [glA, glB, glC, Act.put, glD, glE, glF])
        refine wpAnyJ_take 2 (v := ?_) (by first | exact hF | exact wideFn) (HS.out _ Bd.out) rfl (by kernel_rfl) (by kernel_rfl) (by kernel_rfl) (by kernel_rfl) rfl ?_ (by first | exact fun _ _ _ h => h | exact fun _ _ _ h => hQ2 _ _ _ _ _ h) ?_
        rotate_left
        · intro W hSW
          simp only [glA, glB, glC]
          (try dsimp only at hSW)
          go_simp
          with_reducible rfl
        (try simp only [glA, glB, glC, Act.put, glD, glE, glF])
        refine wpAnyJ_take 3 (v := ?_) (by first | exact hF | exact wideFn) (HS.out _ Bd.out) rfl (by kernel_rfl) (by kernel_rfl) (by kernel_rfl) (by kernel_rfl) rfl ?_ (by first | exact fun _ _ _ h => h | exact fun _ _ _ h => hQ2 _ _ _ _ _ h) ?_
        rotate_left
        · intro W hSW
          simp only [glA, glB, glC]
          (try dsimp only at hSW)
          go_simp
          with_reducible rfl
        (try simp only [glA, glB, glC, Act.put, glD, glE, glF])
        refine wpAnyJ_take 4 (v := ?_) (by first | exact hF | exact wideFn) (HS.out _ Bd.out) rfl (by kernel_rfl) (by kernel_rfl) (by kernel_rfl) (by kernel_rfl) rfl ?_ (by first | exact fun _ _ _ h => h | exact fun _ _ _ h => hQ2 _ _ _ _ _ h) ?_
        rotate_left
        · intro W hSW
          simp only [glA, glB, glC]
          (try dsimp only at hSW)
          go_simp
          with_reducible rfl
        (try simp only [glA, glB, glC, Act.put, glD, glE, glF])
        refine wpAnyJ_take 5 (v := ?_) (by first | exact hF | exact wideFn) (HS.out _ Bd.out) rfl (by kernel_rfl) (by kernel_rfl) (by kernel_rfl) (by kernel_rfl) rfl ?_ (by first | exact fun _ _ _ h => h | exact fun _ _ _ h => hQ2 _ _ _ _ _ h) ?_
        rotate_left
        · intro W hSW
          simp only [glA, glB, glC]
          (try dsimp only at hSW)
          go_simp
          with_reducible rfl
        (try simp only [glA, glB, glC, Act.put, glD, glE, glF])
        refine wpAnyJ_take 6 (v := ?_) (by first | exact hF | exact wideFn) (HS.out _ Bd.out) rfl (by kernel_rfl) (by kernel_rfl) (by kernel_rfl) (by kernel_rfl) rfl ?_ (by first | exact fun _ _ _ h => h | exact fun _ _ _ h => hQ2 _ _ _ _ _ h) ?_
        rotate_left
        · intro W hSW
          simp only [glA, glB, glC]
          (try dsimp only at hSW)
          go_simp
          with_reducible rfl
        (try simp only [glA, glB, glC, Act.put, glD, glE, glF])
        refine wpAnyJ_take 7 (v := ?_) (by first | exact hF | exact wideFn) (HS.out _ Bd.out) rfl (by kernel_rfl) (by kernel_rfl) (by kernel_rfl) (by kernel_rfl) rfl ?_ (by first | exact fun _ _ _ h => h | exact fun _ _ _ h => hQ2 _ _ _ _ _ h) ?_
        rotate_left
        · intro W hSW
          simp only [glA, glB, glC]
          (try dsimp only at hSW)
          go_simp
          with_reducible rfl
        (try simp only [glA, glB, glC, Act.put, glD, glE, glF])
        by_cases q : x = y
        · subst q
          refine wpAnyJ_take 8 (v := ?_) (by first | exact hF | exact wideFn) (HS.out _ Bd.out) rfl (by kernel_rfl) (by kernel_rfl) (by kernel_rfl) (by kernel_rfl) rfl ?_ (by first | exact fun _ _ _ h => h | exact fun _ _ _ h => hQ2 _ _ _ _ _ h) ?_
          rotate_left
          · intro W hSW
            simp only [glA, glB, glC]
            (try dsimp only at hSW)
            go_simp
            with_reducible rfl
          (try simp only [glA, glB, glC, Act.put, glD, glE, glF])
          refine wpAnyJ_done (by kernel_rfl) ?_
          go_wp2_with fail
          go_roundw
          case rel => exact ⟨k + 1, by omega, by go_num, fun j hj => by
            rcases (by omega : j < k ∨ j = k) with h | h
            · exact HX.out j h
            · rw [h, HE.out.1, HE.out.2], Bd.out⟩
          case measure => simp [intOf]; omega
        · have q1 := str_ne q
          refine wpAnyJ_take 8 (v := ?_) (by first | exact hF | exact wideFn) (HS.out _ Bd.out) rfl (by kernel_rfl) (by kernel_rfl) (by kernel_rfl) (by kernel_rfl) rfl ?_ (by first | exact fun _ _ _ h => h | exact fun _ _ _ h => hQ2 _ _ _ _ _ h) ?_
          rotate_left
          · intro W hSW
            simp only [glA, glB, glC]
            (try dsimp only at hSW)
            go_simp
            with_reducible rfl
          (try simp only [glA, glB, glC, Act.put, glD, glE, glF])
          refine wpAnyJ_done (by kernel_rfl) ?_
          go_wp2_with fail
          go_ret
          refine ⟨ret_bool ?_, Bd.out⟩
          have hne : ¬ l = m := fun e => by
            have h1 := HE.out.1
            rw [e, HE.out.2] at h1
            exact q h1.symm
          simp [hne]
      · obtain rfl : k = n := by omega
        go_wp2_with fail
        go_ret
        refine ⟨ret_bool ?_, HBW.out⟩
        have : l = m := getD_allW (by rw [HN.out.1, HN.out.2]) (by rw [HN.out.1]; exact HX.out)
        simp [this]
  · have hne : ¬ ((l.length : Int) = (m.length : Int)) := by omega
    have hd : decide (l = m) = false := by
      rw [decide_eq_false_iff_not]; intro h; exact hlm (by rw [h])
    rw [hd]
    clear hd
    generalize l.length = n1 at *
    generalize m.length = n2 at *
    go_enter Tryd.func18, Tryd.ntmps18
    go_wp2_with fail
    go_ret
    exact ⟨rfl, Below.refl _ _⟩
/-- more than is looked at -/
def lgB (l : List Wd) : Bool := decide (25 < l.length) || l.any fun x => decide (20 < x.size)
theorem lgB_no {l : List Wd} (h : lgB l = false) : l.length ≤ 25 ∧ ∀ x ∈ l, x.size ≤ 20 := by
  unfold lgB at h
  rw [Bool.or_eq_false_iff] at h
  have h1 := of_decide_eq_false h.1
  refine ⟨by omega, fun x hx => ?_⟩
  have h2 := List.any_eq_false.1 h.2 x hx
  simp at h2
  exact h2
theorem long_any (A : Option Addr) (c : Nat) (l : List Wd) (w : World) (hl : SzOk l) (hA : SR w w.heap.size A l) :
    Calls Tryd.prog 14 #[.slice A l.length c] w fun e w' => e = .returned (.bool (lgB l)) ∧ w = w' := by
  have hl1 := hl.1
  unfold maxLen at hl1
  have HA := hide hA
  have HL := hide hl
  obtain ⟨n, hn⟩ : ∃ n, l.length = n := ⟨_, rfl⟩
  have HN := hide hn
  rw [hn] at hl1 ⊢
  clear hA hl hn
  go_enter Tryd.func14, Tryd.ntmps14
  go_wp2_with fail
  go_loopw [3] (fun i wr => ∃ k : Nat, k ≤ n ∧ k ≤ 26 ∧ i = .int .i64 k ∧ Hid (∀ j, j < k → (l.getD j noW).size ≤ 20) ∧ Hid (w = wr)) (fun i _ => n - (intOf i).toNat)
  case atStart => exact ⟨0, Nat.zero_le _, by omega, rfl, hide (fun j hj => absurd hj (by omega)), hide rfl⟩
  case round =>
    obtain ⟨k, hk, hk26, rfl, HX, HW⟩ := hrel
    obtain rfl := HW.out
    by_cases hlt : k < n
    · have hlt' : (k : Int) < (n : Int) := by omega
      by_cases h26 : k < 26
      · have h26' : (k : Int) < 26 := by omega
        have i0 : (0 : Int) ≤ (k : Int) := by omega
        have hkl : k < l.length := by rw [HN.out]; exact hlt
        obtain ⟨b, off, rfl, hb, hc⟩ := VR1.at_ HA.out hkl
        obtain ⟨x, hx⟩ : ∃ x, l.getD k noW = x := ⟨_, rfl⟩
        have hxm := HL.out.at_ k
        rw [hx] at hc hxm
        unfold maxLen at hxm
        by_cases h20 : 20 < x.size
        · have h20' : (20 : Int) < (x.size : Int) := by omega
          have hg : lgB l = true := by
            unfold lgB
            rw [Bool.or_eq_true]
            refine .inr (List.any_eq_true.2 ⟨x, ?_, by simpa using h20⟩)
            rw [← hx, List.getD_eq_getElem?_getD, List.getElem?_eq_getElem hkl]
            exact List.getElem_mem hkl
          have HG := hide hg
          clear hg hx h20
          go_wp2_with fail
          go_ret
          exact ⟨ret_bool HG.out.symm, rfl⟩
        · have h20' : ¬ (20 : Int) < (x.size : Int) := by omega
          have HX2 : Hid (∀ j, j < k + 1 → (l.getD j noW).size ≤ 20) := hide (fun j hj => by
            rcases (by omega : j < k ∨ j = k) with h | rfl
            · exact HX.out j h
            · rw [hx]; omega)
          clear hx h20
          go_wp2_with fail
          go_roundw
          case rel => exact ⟨k + 1, by omega, by omega, by go_num, HX2, by first | trivial | exact hide rfl⟩
          case measure => simp [intOf]; omega
      · have h26' : ¬ (k : Int) < 26 := by omega
        have h25 : (25 : Int) < (n : Int) := by omega
        have hg : lgB l = true := by
          unfold lgB
          rw [Bool.or_eq_true, HN.out]
          exact .inl (by simp; omega)
        have HG := hide hg
        clear hg
        go_wp2_with fail
        go_ret
        exact ⟨ret_bool HG.out.symm, rfl⟩
    · obtain rfl : k = n := by omega
      have hnl : ¬ (k : Int) < (k : Int) := by omega
      have hg : lgB l = decide (25 < (k : Int)) := by
        unfold lgB
        have h2 : (l.any fun x => decide (20 < x.size)) = false := by
          rw [List.any_eq_false]
          intro x hx
          obtain ⟨j, hj, rfl⟩ := List.getElem_of_mem hx
          have := HX.out j (by rw [← HN.out]; exact hj)
          rw [List.getD_eq_getElem?_getD, List.getElem?_eq_getElem hj] at this
          have h3 : l[j].size ≤ 20 := this
          simp; exact h3
        rw [h2, Bool.or_false, HN.out]
        rw [Bool.eq_iff_iff]; simp; omega
      have HG := hide hg
      clear hg
      go_wp2_with fail
      go_ret
      exact ⟨ret_bool (by rw [HG.out]), rfl⟩
theorem OwnS.made0 (W : World) : OwnS (W.alloc (.cells #[] 9)) W.heap.size (.slice (some ⟨W.heap.size, 0, none⟩) 0 0) [] :=
  World.ownsRow_made W #[] 0 (Nat.le_refl _) (by unfold maxLen; omega) rfl
theorem words_any (A : Option Addr) (c : Nat) (l : List Wd) (w : World) (hl : l.length ≤ 100000) (hA : SR w w.heap.size A l) :
    Calls Tryd.prog 16 #[.slice A l.length c] w fun e w' => ∃ v, e = .returned v ∧ OwnS w' w.heap.size v l ∧ Below w.heap.size w w' := by
  have hB0 : Below w.heap.size w (w.alloc (.cells #[] 9)) := (Below.refl _ _).alloc (Nat.le_refl _) _
  obtain ⟨v', w', hrun, ho, hg, -⟩ := (OwnS.made0 w).pushes A c l ((ER.below hA hB0 (Nat.le_refl _)).more hB0.size) (by simp; omega) hB0.size
  rw [List.nil_append] at ho
  have HRUN := hide hrun
  have HO := hide (And.intro ho (hB0.grown hg hB0.size (fun k hk => (World.ownsRow.lt (OwnS.made0 w) k hk).1)))
  clear hrun ho hg hB0 hA
  generalize l.length = n at HRUN ⊢
  go_enter Tryd.func16, Tryd.ntmps16
  go_wp2_with (at_builtin; refine wpList_append_run rfl (.tmp 3) (.tmp 4) 22 rfl rfl rfl HRUN.out ?_)
  go_ret
  exact ⟨_, rfl, HO.out.1, HO.out.2⟩
end Go.Proofs.YtmpegkojencbjaaDoor
/- School: numbers, equal; the reference's Copies. -/
namespace Go.Proofs.YtmpegkojencbjaaDoor
open List renaming getElem_toArray → glA, getElem_cons_zero → glB, getElem_cons_succ → glC, setIfInBounds_toArray → glD, set_cons_zero → glE, set_cons_succ → glF
open Go Go.RowKit Go.Shelf
set_option maxHeartbeats 4000000
set_option maxRecDepth 100000
theorem numbers_any (A : Option Addr) (c : Nat) (l : List Int) (w : World) (hl : l.length ≤ 100000) (hA : LI w w.heap.size A l) :
    Calls Tryd.prog 24 #[.slice A l.length c] w fun e w' => ∃ v, e = .returned v ∧ OwnJ w' w.heap.size v l ∧ Below w.heap.size w w' := by
  have hB0 : Below w.heap.size w (w.alloc (.cells #[] 3)) := (Below.refl _ _).alloc (Nat.le_refl _) _
  obtain ⟨v', w', hrun, ho, hg, -⟩ := (OwnJ.made0 w).pushes A c l ((ER.below hA hB0 (Nat.le_refl _)).more hB0.size) (by simp; omega) hB0.size
  rw [List.nil_append] at ho
  have HRUN := hide hrun
  have HO := hide (And.intro ho (hB0.grown hg hB0.size (fun k hk => (World.ownsRow.lt (OwnJ.made0 w) k hk).1)))
  clear hrun ho hg hB0 hA
  generalize l.length = n at HRUN ⊢
  go_enter Tryd.func24, Tryd.ntmps24
  go_wp2_with (at_builtin; refine wpList_append_run rfl (.tmp 3) (.tmp 4) 36 rfl rfl rfl HRUN.out ?_)
  go_ret
  exact ⟨_, rfl, HO.out.1, HO.out.2⟩
theorem equal_any (A B : Option Addr) (c d : Nat) (l m : List Int) (w : World) (hl : l.length ≤ maxLen) (hA : LI w w.heap.size A l) (hB : LI w w.heap.size B m) :
    Calls Tryd.prog 26 #[.slice A l.length c, .slice B m.length d] w fun e w' => e = .returned (.bool (decide (l = m))) ∧ Below w.heap.size w w' := by
  unfold maxLen at hl
  have HA := hide hA
  have HB := hide hB
  clear hA hB
  by_cases hlm : l.length = m.length
  · obtain ⟨n, hn⟩ : ∃ n, l.length = n := ⟨_, rfl⟩
    have hm : m.length = n := by omega
    have HN := hide (And.intro hn hm)
    rw [hn] at hl
    rw [hn, hm]
    clear hlm hn hm
    go_enter Tryd.func26, Tryd.ntmps26
    go_wp2_with fail
    go_loopw [5] (fun i wr => ∃ k : Nat, k ≤ n ∧ i = .int .i64 k ∧ (∀ j, j < k → l.getD j 0 = m.getD j 0) ∧ Below w.heap.size w wr) (fun i _ => n - (intOf i).toNat)
    case atStart => exact ⟨0, Nat.zero_le _, rfl, fun j hj => absurd hj (by omega), Below.refl _ _⟩
    case round =>
      obtain ⟨k, hk, rfl, hx, hbw⟩ := hrel
      have HX := hide hx
      have HBW := hide hbw
      clear hx
      by_cases hlt : k < n
      · have hlt' : (k : Int) < (n : Int) := by omega
        have i0 : (0 : Int) ≤ (k : Int) := by omega
        obtain ⟨x, hx⟩ : ∃ e, l.getD k 0 = e := ⟨_, rfl⟩
        obtain ⟨y, hy⟩ : ∃ f, m.getD k 0 = f := ⟨_, rfl⟩
        obtain ⟨xb, xo, rfl, hxb, a0⟩ := VR1.at_ HA.out (by rw [HN.out.1]; exact hlt)
        obtain ⟨yb, yo, rfl, hyb, b0⟩ := VR1.at_ HB.out (by rw [HN.out.2]; exact hlt)
        rw [hx] at a0
        rw [hy] at b0
        have HE := hide (And.intro hx hy)
        clear hx hy
        have HS : Hid (∀ W, Below w.heap.size w W → W.cell? ⟨xb, xo + k, none⟩ = some (.int .i64 x) ∧ W.cell? ⟨yb, yo + k, none⟩ = some (.int .i64 y)) := hide fun W h =>
          ⟨(h.cell (p := ⟨xb, xo + k, none⟩) hxb).trans a0, (h.cell (p := ⟨yb, yo + k, none⟩) hyb).trans b0⟩
        clear a0 b0 hbw
        go_upto_region 6 with fail
        have Bd := hide (HBW.out.trans ((Below.refl wr.heap.size wr).drew.mono HBW.out.size))
        refine wp_region_J (fun W : World => W.cell? ⟨xb, xo + k, none⟩ = some (.int .i64 x) ∧ W.cell? ⟨yb, yo + k, none⟩ = some (.int .i64 y)) (by kernel_rfl) ?_
        generalize wr.drew = wd at Bd ⊢
        refine wpAnyJ_take 0 (v := ?_) (by first | exact hF | exact wideFn) (HS.out _ Bd.out) rfl (by kernel_rfl) (by kernel_rfl) (by kernel_rfl) (by kernel_rfl) rfl ?_ (by first | exact fun _ _ _ h => h | exact fun _ _ _ h => hQ2 _ _ _ _ _ h) ?_
        rotate_left
        · intro W hSW
          simp only [glA, glB, glC]
          (try dsimp only at hSW)
          go_simp
          with_reducible rfl
        (try simp only [glA, glB, glC, Act.put, glD, glE, glF])
        refine wpAnyJ_take 1 (v := ?_) (by first | exact hF | exact wideFn) (HS.out _ Bd.out) rfl (by kernel_rfl) (by kernel_rfl) (by kernel_rfl) (by kernel_rfl) rfl ?_ (by first | exact fun _ _ _ h => h | exact fun _ _ _ h => hQ2 _ _ _ _ _ h) ?_
        rotate_left
        · intro W hSW
          simp only [glA, glB, glC]
          (try dsimp only at hSW)
          go_simp
          with_reducible rfl
        (try simp only [glA, glB, glC, Act.put, glD, glE, glF])
        refine wpAnyJ_take 2 (v := ?_) (by first | exact hF | exact wideFn) (HS.out _ Bd.out) rfl (by kernel_rfl) (by kernel_rfl) (by kernel_rfl) (by kernel_rfl) rfl ?_ (by first | exact fun _ _ _ h => h | exact fun _ _ _ h => hQ2 _ _ _ _ _ h) ?_
        rotate_left
        · intro W hSW
          simp only [glA, glB, glC]
          (try dsimp only at hSW)
          go_simp
          with_reducible rfl
        (try simp only [glA, glB, glC, Act.put, glD, glE, glF])
        refine wpAnyJ_take 3 (v := ?_) (by first | exact hF | exact wideFn) (HS.out _ Bd.out) rfl (by kernel_rfl) (by kernel_rfl) (by kernel_rfl) (by kernel_rfl) rfl ?_ (by first | exact fun _ _ _ h => h | exact fun _ _ _ h => hQ2 _ _ _ _ _ h) ?_
        rotate_left
        · intro W hSW
          simp only [glA, glB, glC]
          (try dsimp only at hSW)
          go_simp
          with_reducible rfl
        (try simp only [glA, glB, glC, Act.put, glD, glE, glF])
        refine wpAnyJ_take 4 (v := ?_) (by first | exact hF | exact wideFn) (HS.out _ Bd.out) rfl (by kernel_rfl) (by kernel_rfl) (by kernel_rfl) (by kernel_rfl) rfl ?_ (by first | exact fun _ _ _ h => h | exact fun _ _ _ h => hQ2 _ _ _ _ _ h) ?_
        rotate_left
        · intro W hSW
          simp only [glA, glB, glC]
          (try dsimp only at hSW)
          go_simp
          with_reducible rfl
        (try simp only [glA, glB, glC, Act.put, glD, glE, glF])
        refine wpAnyJ_take 5 (v := ?_) (by first | exact hF | exact wideFn) (HS.out _ Bd.out) rfl (by kernel_rfl) (by kernel_rfl) (by kernel_rfl) (by kernel_rfl) rfl ?_ (by first | exact fun _ _ _ h => h | exact fun _ _ _ h => hQ2 _ _ _ _ _ h) ?_
        rotate_left
        · intro W hSW
          simp only [glA, glB, glC]
          (try dsimp only at hSW)
          go_simp
          with_reducible rfl
        (try simp only [glA, glB, glC, Act.put, glD, glE, glF])
        refine wpAnyJ_take 6 (v := ?_) (by first | exact hF | exact wideFn) (HS.out _ Bd.out) rfl (by kernel_rfl) (by kernel_rfl) (by kernel_rfl) (by kernel_rfl) rfl ?_ (by first | exact fun _ _ _ h => h | exact fun _ _ _ h => hQ2 _ _ _ _ _ h) ?_
        rotate_left
        · intro W hSW
          simp only [glA, glB, glC]
          (try dsimp only at hSW)
          go_simp
          with_reducible rfl
        (try simp only [glA, glB, glC, Act.put, glD, glE, glF])
        refine wpAnyJ_take 7 (v := ?_) (by first | exact hF | exact wideFn) (HS.out _ Bd.out) rfl (by kernel_rfl) (by kernel_rfl) (by kernel_rfl) (by kernel_rfl) rfl ?_ (by first | exact fun _ _ _ h => h | exact fun _ _ _ h => hQ2 _ _ _ _ _ h) ?_
        rotate_left
        · intro W hSW
          simp only [glA, glB, glC]
          (try dsimp only at hSW)
          go_simp
          with_reducible rfl
        (try simp only [glA, glB, glC, Act.put, glD, glE, glF])
        by_cases q0 : x = y
        · subst q0
          refine wpAnyJ_take 8 (v := ?_) (by first | exact hF | exact wideFn) (HS.out _ Bd.out) rfl (by kernel_rfl) (by kernel_rfl) (by kernel_rfl) (by kernel_rfl) rfl ?_ (by first | exact fun _ _ _ h => h | exact fun _ _ _ h => hQ2 _ _ _ _ _ h) ?_
          rotate_left
          · intro W hSW
            simp only [glA, glB, glC]
            (try dsimp only at hSW)
            go_simp
            with_reducible rfl
          (try simp only [glA, glB, glC, Act.put, glD, glE, glF])
          refine wpAnyJ_done (by kernel_rfl) ?_
          go_wp2_with fail
          go_roundw
          case rel => exact ⟨k + 1, by omega, by go_num, fun j hj => by
            rcases (by omega : j < k ∨ j = k) with h | h
            · exact HX.out j h
            · rw [h, HE.out.1, HE.out.2], Bd.out⟩
          case measure => simp [intOf]; omega
        · have q1 := q0
          refine wpAnyJ_take 8 (v := ?_) (by first | exact hF | exact wideFn) (HS.out _ Bd.out) rfl (by kernel_rfl) (by kernel_rfl) (by kernel_rfl) (by kernel_rfl) rfl ?_ (by first | exact fun _ _ _ h => h | exact fun _ _ _ h => hQ2 _ _ _ _ _ h) ?_
          rotate_left
          · intro W hSW
            simp only [glA, glB, glC]
            (try dsimp only at hSW)
            go_simp
            with_reducible rfl
          (try simp only [glA, glB, glC, Act.put, glD, glE, glF])
          refine wpAnyJ_done (by kernel_rfl) ?_
          go_wp2_with fail
          go_ret
          refine ⟨ret_bool ?_, Bd.out⟩
          have hne : ¬ l = m := fun e => by
            have h1 := HE.out.1
            rw [e, HE.out.2] at h1
            exact q0 h1.symm
          simp [hne]
      · obtain rfl : k = n := by omega
        go_wp2_with fail
        go_ret
        refine ⟨ret_bool ?_, HBW.out⟩
        have : l = m := getD_allI (by rw [HN.out.1, HN.out.2]) (by rw [HN.out.1]; exact HX.out)
        simp [this]
  · have hne : ¬ ((l.length : Int) = (m.length : Int)) := by omega
    have hd : decide (l = m) = false := by
      rw [decide_eq_false_iff_not]; intro h; exact hlm (by rw [h])
    rw [hd]
    clear hd
    generalize l.length = n1 at *
    generalize m.length = n2 at *
    go_enter Tryd.func26, Tryd.ntmps26
    go_wp2_with fail
    go_ret
    exact ⟨rfl, Below.refl _ _⟩
/-- parents and readings as told -/
def cpB (P R : List Int) : Bool := !(decide (P.length = 0)) && (decide (R.length = P.length) && cpAll (fun k => P.getD k 0) (fun k => R.getD k 0) P.length)
theorem cpAll_head {p r : Nat → Int} {n : Nat} (hn : 0 < n) (h : p 0 ≠ -1) : cpAll p r n = false :=
  cpAll_no (i := 0) (by unfold cpOk; rw [if_pos rfl, decide_eq_false h]; rfl) hn
theorem cpOk_step {p r : Nat → Int} {k : Nat} (h0 : p 0 = -1) (h1 : 0 < k → 0 ≤ p k ∧ p k < k) (h2 : -1 ≤ r k) (h3 : r k ≤ 15) : cpOk p r k = true := by
  unfold cpOk
  by_cases hk : k = 0
  · subst hk
    rw [if_pos rfl, decide_eq_true h0, decide_eq_true ⟨h2, h3⟩]; rfl
  · have := h1 (by omega)
    rw [if_neg hk, decide_eq_true ⟨this.1, by omega⟩, decide_eq_true ⟨h2, h3⟩]; rfl
theorem cpOk_negp {p r : Nat → Int} {k : Nat} (h0 : 0 < k) (h : ¬ (0 ≤ p k ∧ p k < k)) : cpOk p r k = false := by
  cases h1 : cpOk p r k with
  | false => rfl
  | true =>
    have h2 := cpOk_p h1
    exact absurd ⟨h2.2.2.1 h0, h2.1⟩ h
theorem cpOk_negr {p r : Nat → Int} {k : Nat} (h : ¬ (-1 ≤ r k ∧ r k ≤ 15)) : cpOk p r k = false := by
  cases h1 : cpOk p r k with
  | false => rfl
  | true => exact absurd (cpOk_p h1).2.2.2 h
theorem refCopies_any (A B : Option Addr) (c d : Nat) (P R : List Int) (w : World) (hl : P.length ≤ 100000) (hP : LI w w.heap.size A P) (hR : LI w w.heap.size B R) :
    Calls Tryd.prog 27 #[.slice A P.length c, .slice B R.length d] w fun e w' => e = .returned (.bool (cpB P R)) ∧ w = w' := by
  have HP := hide hP
  have HR := hide hR
  clear hP hR
  obtain ⟨n, hn⟩ : ∃ n, P.length = n := ⟨_, rfl⟩
  obtain ⟨m, hm⟩ : ∃ n, R.length = n := ⟨_, rfl⟩
  have HN := hide (And.intro hn hm)
  rw [hn] at hl
  rw [hn, hm]
  clear hn hm
  rcases (by omega : n = 0 ∨ (0 < n ∧ m ≠ n) ∨ (0 < n ∧ m = n)) with h | ⟨h, h1⟩ | ⟨h, rfl⟩
  · subst h
    go_enter Tryd.func27, Tryd.ntmps27
    go_wp2_with fail
    go_ret
    refine ⟨ret_bool ?_, rfl⟩
    unfold cpB
    rw [decide_eq_true HN.out.1]; rfl
  · have e1 : ¬ (n : Int) = 0 := by omega
    have e2 : ¬ (m : Int) = (n : Int) := by omega
    go_enter Tryd.func27, Tryd.ntmps27
    go_wp2_with fail
    go_ret
    refine ⟨ret_bool ?_, rfl⟩
    unfold cpB
    rw [decide_eq_false (p := R.length = P.length) (by rw [HN.out.1, HN.out.2]; exact h1)]; simp
  · have e1 : ¬ (m : Int) = 0 := by omega
    have e1' : ((m : Int) == 0) = false := by simp; omega
    obtain ⟨xb, xo, rfl, hxb, a0⟩ := VR1.at_ HP.out (k := 0) (by rw [HN.out.1]; exact h)
    obtain ⟨x, hx⟩ : ∃ e, P.getD 0 0 = e := ⟨_, rfl⟩
    rw [hx] at a0
    rw [Nat.add_zero] at a0
    have hlt0 : (0 : Int) < (m : Int) := by omega
    have HX0 := hide hx
    clear hx
    by_cases hx1 : x = -1
    · subst hx1
      go_enter Tryd.func27, Tryd.ntmps27
      go_wp2_with fail
      go_loopw [5] (fun i wr => ∃ k : Nat, k ≤ m ∧ i = .int .i64 k ∧ Hid (cpAll (fun k => P.getD k 0) (fun k => R.getD k 0) k = true) ∧ w = wr) (fun i _ => m - (intOf i).toNat)
      case atStart => exact ⟨0, Nat.zero_le _, rfl, hide rfl, rfl⟩
      case round =>
        obtain ⟨k, hk, rfl, HC, rfl⟩ := hrel
        clear a0
        by_cases hlt : k < m
        · have hlt' : (k : Int) < (m : Int) := by omega
          have i0 : (0 : Int) ≤ (k : Int) := by omega
          obtain ⟨p, hp⟩ : ∃ e, P.getD k 0 = e := ⟨_, rfl⟩
          obtain ⟨r, hr⟩ : ∃ e, R.getD k 0 = e := ⟨_, rfl⟩
          obtain ⟨zb, zo, hz, hzb, b0⟩ := VR1.at_ HP.out (k := k) (by rw [HN.out.1]; exact hlt)
          injection hz with hz
          injection hz with hz1 hz2
          subst hz1 hz2
          obtain ⟨yb, yo, rfl, hyb, c0⟩ := VR1.at_ HR.out (k := k) (by rw [HN.out.2]; exact hlt)
          rw [hp] at b0
          rw [hr] at c0
          have HE := hide (And.intro hp hr)
          clear hp hr
          by_cases hk0 : k = 0
          · subst hk0
            rw [Nat.add_zero] at c0 b0
            have hlt0' : (0 : Int) < (m : Int) := by omega
            by_cases hr1 : r < -1
            · go_wp2_with fail
              go_ret
              refine ⟨ret_bool ?_, rfl⟩
              unfold cpB
              rw [cpAll_no (i := 0) (cpOk_negr (by (try dsimp only); rw [HE.out.2]; omega)) (by rw [HN.out.1]; exact hlt)]
              simp
            · by_cases hr2 : 15 < r
              · go_wp2_with fail
                go_ret
                refine ⟨ret_bool ?_, rfl⟩
                unfold cpB
                rw [cpAll_no (i := 0) (cpOk_negr (by (try dsimp only); rw [HE.out.2]; omega)) (by rw [HN.out.1]; exact hlt)]
                simp
              · go_wp2_with fail
                go_roundw
                case rel => exact ⟨1, by omega, rfl, hide (by
                  show (cpAll _ _ 0 && cpOk _ _ 0) = true
                  rw [HC.out, Bool.true_and]
                  exact cpOk_step HX0.out (fun h => absurd h (by omega)) (by (try dsimp only); rw [HE.out.2]; omega) (by (try dsimp only); rw [HE.out.2]; omega)), by simp⟩
                case measure => simp [intOf]; omega
          · have hk1 : (0 : Int) < (k : Int) := by omega
            by_cases hp1 : p < 0
            · go_wp2_with fail
              go_ret
              refine ⟨ret_bool ?_, rfl⟩
              unfold cpB
              rw [cpAll_no (i := k) (cpOk_negp (by omega) (by (try dsimp only); rw [HE.out.1]; omega)) (by rw [HN.out.1]; exact hlt)]
              simp
            · by_cases hp2 : (k : Int) ≤ p
              · go_wp2_with fail
                go_ret
                refine ⟨ret_bool ?_, rfl⟩
                unfold cpB
                rw [cpAll_no (i := k) (cpOk_negp (by omega) (by (try dsimp only); rw [HE.out.1]; omega)) (by rw [HN.out.1]; exact hlt)]
                simp
              · have hp3 : p < (k : Int) := by omega
                by_cases hr1 : r < -1
                · go_wp2_with fail
                  go_ret
                  refine ⟨ret_bool ?_, rfl⟩
                  unfold cpB
                  rw [cpAll_no (i := k) (cpOk_negr (by (try dsimp only); rw [HE.out.2]; omega)) (by rw [HN.out.1]; exact hlt)]
                  simp
                · by_cases hr2 : 15 < r
                  · go_wp2_with fail
                    go_ret
                    refine ⟨ret_bool ?_, rfl⟩
                    unfold cpB
                    rw [cpAll_no (i := k) (cpOk_negr (by (try dsimp only); rw [HE.out.2]; omega)) (by rw [HN.out.1]; exact hlt)]
                    simp
                  · have hst : IntKind.i64.wrap ((k : Int) + 1) = (k : Int) + 1 := IntWalk.i64_in _ (by omega)
                    go_wp2_with fail
                    go_roundw
                    case rel => exact ⟨k + 1, by omega, by go_num, hide (by
                      show (cpAll _ _ k && cpOk _ _ k) = true
                      rw [HC.out, Bool.true_and]
                      exact cpOk_step HX0.out (fun h => by (try dsimp only); rw [HE.out.1]; omega) (by (try dsimp only); rw [HE.out.2]; omega) (by (try dsimp only); rw [HE.out.2]; omega)), by simp⟩
                    case measure => simp [intOf]; omega
        · obtain rfl : m = k := by omega
          have hnl : ¬ (m : Int) < (m : Int) := by omega
          go_wp2_with fail
          go_ret
          refine ⟨ret_bool ?_, rfl⟩
          unfold cpB
          rw [HN.out.1, HN.out.2, HC.out, decide_eq_false (by omega)]; simp
    · have hx2 : (x == -1) = false := by simpa using hx1
      go_enter Tryd.func27, Tryd.ntmps27
      go_wp2_with fail
      go_ret
      refine ⟨ret_bool ?_, rfl⟩
      unfold cpB
      rw [cpAll_head (by rw [HN.out.1]; exact h) (by rw [HX0.out]; exact hx1)]; simp
end Go.Proofs.YtmpegkojencbjaaDoor
/- School, plain: the reference's table and readings, and what Restore computes. -/
namespace Go.Proofs.YtmpegkojencbjaaDoor
open Go Go.RowKit Go.Shelf
set_option maxHeartbeats 2000000
set_option maxRecDepth 100000
/-- the first of the least, below a start -/
def scF (c : Nat → Int) (s : Int × Int) : Nat → Int × Int
  | 0 => s
  | n + 1 => if c n < (scF c s n).2 then ((n : Int), c n) else scF c s n
theorem bestF_sc (t : Nat → Int) (v : Int) : ∀ n, bestF t v n = scF (cstF t v) (0, 1000000) n
  | 0 => rfl
  | n + 1 => by
    show (if cstF t v n < (bestF t v n).2 then ((n : Int), cstF t v n) else bestF t v n) = _
    rw [bestF_sc t v n]
    rfl
theorem scF_le (c : Nat → Int) (s : Int × Int) {x : Nat} : ∀ n, x < n → (scF c s n).2 ≤ c x
  | 0, h => absurd h (by omega)
  | n + 1, h => by
    show (if c n < (scF c s n).2 then ((n : Int), c n) else scF c s n).2 ≤ c x
    by_cases e : x = n
    · subst e
      split
      · exact Int.le_refl _
      · omega
    · have ih := scF_le c s n (x := x) (by omega)
      split
      · dsimp only; omega
      · exact ih
/-- with 1000 for what is barred, and with 99 -/
theorem scan {co cr : Nat → Int} {d : Int} (h0 : 0 ≤ d) (h1 : d ≤ 1) (h : ∀ x, x < 16 → (1000 ≤ co x ∧ 99 ≤ cr x) ∨ (co x = cr x + d ∧ cr x ≤ 98)) :
    ∀ n, n ≤ 16 → (1000 ≤ (scF co (0, 1000000) n).2 ∧ scF cr (-1, 99) n = (-1, 99) ∧ ∀ x, x < n → 1000 ≤ co x) ∨
      ((scF co (0, 1000000) n).1 = (scF cr (-1, 99) n).1 ∧ (scF co (0, 1000000) n).2 = (scF cr (-1, 99) n).2 + d ∧ (scF cr (-1, 99) n).2 ≤ 98)
  | 0, _ => .inl ⟨by simp [scF], rfl, fun x hx => absurd hx (by omega)⟩
  | n + 1, hn => by
    have ih := scan h0 h1 h n (by omega)
    have e1 : scF co (0, 1000000) (n + 1) = if co n < (scF co (0, 1000000) n).2 then ((n : Int), co n) else scF co (0, 1000000) n := rfl
    have e2 : scF cr (-1, 99) (n + 1) = if cr n < (scF cr (-1, 99) n).2 then ((n : Int), cr n) else scF cr (-1, 99) n := rfl
    rw [e1, e2]
    rcases ih with ⟨i1, i2, i3⟩ | ⟨i1, i2, i3⟩
    · rcases h n (by omega) with ⟨g1, g2⟩ | ⟨g1, g2⟩
      · left
        rw [i2]
        refine ⟨?_, ?_, fun x hx => ?_⟩
        · split
          · exact g1
          · exact i1
        · rw [if_neg (by dsimp only; omega)]
        · rcases (by omega : x < n ∨ x = n) with h | rfl
          · exact i3 x h
          · exact g1
      · right
        rw [i2, if_pos (by omega), if_pos (by dsimp only; omega)]
        exact ⟨rfl, g1, g2⟩
    · right
      rcases h n (by omega) with ⟨g1, g2⟩ | ⟨g1, g2⟩
      · rw [if_neg (by omega), if_neg (by omega)]
        exact ⟨i1, i2, i3⟩
      · by_cases hc : cr n < (scF cr (-1, 99) n).2
        · rw [if_pos (by omega), if_pos hc]
          exact ⟨rfl, g1, g2⟩
        · rw [if_neg (by omega), if_neg hc]
          exact ⟨i1, i2, i3⟩
/-- what is found is one of them, at its cost -/
theorem scF_at (c : Nat → Int) (s : Int × Int) : ∀ n, scF c s n = s ∨ ∃ x : Nat, x < n ∧ scF c s n = ((x : Int), c x)
  | 0 => .inl rfl
  | n + 1 => by
    have e1 : scF c s (n + 1) = if c n < (scF c s n).2 then ((n : Int), c n) else scF c s n := rfl
    rw [e1]
    split
    · exact .inr ⟨n, by omega, rfl⟩
    · rcases scF_at c s n with h | ⟨x, hx, h⟩
      · exact .inl h
      · exact .inr ⟨x, by omega, h⟩
/-- the reference's row: what is barred costs 99 -/
def barU (r : Int) (t : Nat → Int) (v : Nat) : Int := if barI r v then 99 else t v
theorem bar_free {r : Int} (h : -1 ≤ r ∧ r ≤ 15) : ∃ x : Nat, x < 16 ∧ barI r x = false := by
  by_cases h0 : 0 ≤ r
  · exact ⟨r.toNat, by omega, by unfold barI; simp; omega⟩
  · exact ⟨0, by omega, by unfold barI; simp; omega⟩
theorem bar_costs {r : Int} {f : Nat → Int} (hf : ∀ v, 0 ≤ f v ∧ f v ≤ 90) (v : Int) (x : Nat) :
    (1000 ≤ cstF (barT r f) v x ∧ 99 ≤ cstF (barU r f) v x) ∨ (cstF (barT r f) v x = cstF (barU r f) v x + 0 ∧ cstF (barU r f) v x ≤ 98) := by
  have := hf x
  unfold cstF barT barU
  cases barI r x
  · right; simp only [Bool.false_eq_true, if_false]; split <;> omega
  · left; simp only [if_true]; split <;> omega
/-- the reference's least is the best's cost -/
theorem mn_best {r : Int} {f : Nat → Int} (hr : -1 ≤ r ∧ r ≤ 15) (hf : ∀ v, 0 ≤ f v ∧ f v ≤ 90) (v : Int) :
    (scF (cstF (barU r f) v) (-1, 99) 16).2 = (bestF (barT r f) v 16).2 ∧ (scF (cstF (barU r f) v) (-1, 99) 16).1 = (bestF (barT r f) v 16).1 := by
  rw [bestF_sc]
  rcases scan (Int.le_refl 0) (by decide) (fun x _ => bar_costs (r := r) hf v x) 16 (Nat.le_refl _) with ⟨-, -, h⟩ | ⟨h1, h2, -⟩
  · exfalso
    obtain ⟨x, hx, hb⟩ := bar_free hr
    have h3 := h x hx
    have h4 := hf x
    unfold cstF barT at h3
    rw [hb] at h3
    simp only [Bool.false_eq_true, if_false] at h3
    split at h3 <;> omega
  · exact ⟨by omega, h1.symm⟩
/-- at the first copy no change is counted -/
theorem mn_root {r : Int} {f : Nat → Int} (hr : -1 ≤ r ∧ r ≤ 15) (hf : ∀ v, 0 ≤ f v ∧ f v ≤ 90) :
    (scF (barU r f) (-1, 99) 16).1 = (bestF (barT r f) (-1) 16).1 ∧ (scF (barU r f) (-1, 99) 16).2 = (bestF (barT r f) (-1) 16).2 - 1 := by
  rw [bestF_sc]
  have hs : ∀ x, x < 16 → (1000 ≤ cstF (barT r f) (-1) x ∧ 99 ≤ barU r f x) ∨ (cstF (barT r f) (-1) x = barU r f x + 1 ∧ barU r f x ≤ 98) := fun x _ => by
    have := hf x
    unfold cstF barT barU
    rw [if_neg (show ¬ ((x : Int) = -1) by omega)]
    cases barI r x
    · right; simp only [Bool.false_eq_true, if_false]; exact ⟨trivial, by omega⟩
    · left; simp only [if_true]; exact ⟨by omega, by omega⟩
  rcases scan (by decide : (0 : Int) ≤ 1) (Int.le_refl 1) hs 16 (Nat.le_refl _) with ⟨-, -, h⟩ | ⟨h1, h2, -⟩
  · exfalso
    obtain ⟨x, hx, hb⟩ := bar_free hr
    have h3 := h x hx
    have h4 := hf x
    unfold cstF barT at h3
    rw [hb, if_neg (show ¬ ((x : Int) = -1) by omega)] at h3
    simp only [Bool.false_eq_true, if_false] at h3
    omega
  · exact ⟨h1.symm, by omega⟩
/-- the best's reading is allowed, and costs what it costs -/
theorem best_at {r : Int} {f : Nat → Int} (hr : -1 ≤ r ∧ r ≤ 15) (hf : ∀ v, 0 ≤ f v ∧ f v ≤ 90) (v : Int) :
    ∃ x : Nat, x < 16 ∧ bestF (barT r f) v 16 = ((x : Int), if (x : Int) = v then f x else f x + 1) := by
  obtain ⟨y, hy, hb⟩ := bar_free hr
  have hle := scF_le (cstF (barT r f) v) (0, 1000000) 16 hy
  have h4 := hf y
  have hcy : cstF (barT r f) v y ≤ 91 := by
    unfold cstF barT
    rw [hb]
    simp only [Bool.false_eq_true, if_false]
    split <;> omega
  rw [bestF_sc]
  rcases scF_at (cstF (barT r f) v) (0, 1000000) 16 with h | ⟨x, hx, h⟩
  · rw [h] at hle; dsimp only at hle; omega
  · refine ⟨x, hx, ?_⟩
    rw [h] at hle ⊢
    dsimp only at hle
    have hx2 : barI r x = false := by
      cases hxx : barI r x with
      | false => rfl
      | true =>
        exfalso
        have : 1000 ≤ cstF (barT r f) v x := by
          unfold cstF barT
          rw [hxx]
          simp only [if_true]
          split <;> omega
        omega
    congr 1
    unfold cstF barT
    rw [hx2]
    simp only [Bool.false_eq_true, if_false]
end Go.Proofs.YtmpegkojencbjaaDoor
/- School, plain: the table in sums; few changes; their count. -/
namespace Go.Proofs.YtmpegkojencbjaaDoor
open Go Go.RowKit Go.Shelf
set_option maxHeartbeats 2000000
set_option maxRecDepth 100000
def smN (f : Nat → Nat) : Nat → Nat
  | 0 => 0
  | n + 1 => smN f n + f n
def smI (f : Nat → Int) : Nat → Int
  | 0 => 0
  | n + 1 => smI f n + f n
theorem smN_ge (f : Nat → Nat) {k : Nat} : ∀ n, k < n → f k ≤ smN f n
  | 0, h => absurd h (by omega)
  | n + 1, h => by
    show f k ≤ smN f n + f n
    by_cases e : k = n
    · subst e; omega
    · have := smN_ge f n (k := k) (by omega); omega
/-- one of the summands is greater by d at most -/
theorem smN_one (f : Nat → Nat) (q : Int) (d : Nat) : ∀ n, smN (fun k => if (k : Int) = q then f k + d else f k) n ≤ smN f n + if q < n then d else 0
  | 0 => by show 0 ≤ _; omega
  | n + 1 => by
    have ih := smN_one f q d n
    show smN _ n + (if (n : Int) = q then f n + d else f n) ≤ smN f n + f n + _
    by_cases h : (n : Int) = q
    · rw [if_pos h, if_pos (by omega)]
      rw [if_neg (by omega)] at ih
      omega
    · rw [if_neg h]
      by_cases h2 : q < (n : Int)
      · rw [if_pos h2] at ih
        rw [if_pos (by omega)]
        omega
      · rw [if_neg h2] at ih
        omega
/-- how many copies stand below copy k, of the last m -/
def szF (p : Nat → Int) (n : Nat) : Nat → Nat → Nat
  | 0 => fun _ => 0
  | m + 1 => fun k => if (k : Int) = p (n - 1 - m) then szF p n m k + (1 + szF p n m (n - 1 - m)) else szF p n m k
section
variable {p r : Nat → Int} {n : Nat} (hc : cpAll p r n = true) (hn : n ≤ 20)
include hc hn
theorem sz_inv : ∀ m, m ≤ n → smN (szF p n m) (n - m) ≤ m ∧ ∀ k v, k < n - m → tabF p r n m k v ≤ szF p n m k
  | 0, _ => by
    refine ⟨?_, fun k v _ => by simp [tabF]⟩
    have : ∀ j, smN (szF p n 0) j = 0 := fun j => by
      induction j with
      | zero => rfl
      | succ j ih => show smN (szF p n 0) j + 0 = 0; rw [ih]
    rw [this]
    exact Nat.le_refl _
  | m + 1, hm => by
    obtain ⟨h1, h2⟩ := sz_inv m (by omega)
    obtain ⟨i, hi⟩ : ∃ i, n - 1 - m = i := ⟨_, rfl⟩
    have e1 : n - m = i + 1 := by omega
    have e2 : n - (m + 1) = i := by omega
    rw [e1] at h1 h2
    rw [e2]
    have hok := cpOk_p (cpAll_at hc i (by omega))
    have hs : smN (szF p n m) i + szF p n m i ≤ m := h1
    have hrow : ∀ v, 0 ≤ tabF p r n m i v ∧ tabF p r n m i v ≤ 90 := fun v => by
      have h3 := h2 i v (by omega)
      have h4 := tabF_bd p r n m i v
      omega
    refine ⟨?_, fun k v hk => ?_⟩
    · have h3 := smN_one (szF p n m) (p i) (1 + szF p n m i) i
      have h4 : szF p n (m + 1) = fun k : Nat => if (k : Int) = p i then szF p n m k + (1 + szF p n m i) else szF p n m k := by
        funext k; show (if (k : Int) = p (n - 1 - m) then _ else _) = _; rw [hi]
      rw [h4]
      rw [if_pos hok.1] at h3
      omega
    · have h3 : tabF p r n (m + 1) k v = if 0 < i ∧ (k : Int) = p i then tabF p r n m k v + (bestF (barT (r i) (tabF p r n m i)) v 16).2 else tabF p r n m k v := by
        show stepT p r (n - 1 - m) (tabF p r n m) k v = _
        rw [hi]
        unfold stepT
        rw [if_neg (by omega)]
      have h4 : szF p n (m + 1) k = if (k : Int) = p i then szF p n m k + (1 + szF p n m i) else szF p n m k := by
        show (if (k : Int) = p (n - 1 - m) then _ else _) = _; rw [hi]
      have h5 := h2 k v (by omega)
      rw [h3, h4]
      by_cases hk2 : (k : Int) = p i
      · rw [if_pos hk2, if_pos ⟨by omega, hk2⟩]
        obtain ⟨x, hx, hb⟩ := best_at (r := r i) (f := tabF p r n m i) ⟨hok.2.2.2.1, hok.2.2.2.2⟩ hrow v
        rw [hb]
        have h6 := h2 i x (by omega)
        dsimp only
        split <;> omega
      · rw [if_neg (fun h => hk2 h.2), if_neg hk2]
        exact h5
/-- a row, ahead of its bars -/
theorem raw_bd {i : Nat} (hi : i < n) (v : Nat) : 0 ≤ tabF p r n (n - 1 - i) i v ∧ tabF p r n (n - 1 - i) i v ≤ 90 := by
  obtain ⟨h1, h2⟩ := sz_inv hc hn (n - 1 - i) (by omega)
  have h3 := h2 i v (by omega)
  have h4 := tabF_bd p r n (n - 1 - i) i v
  have h5 := smN_ge (szF p n (n - 1 - i)) (k := i) (n - (n - 1 - i)) (by omega)
  omega
end
/-- a row, ahead of its bars -/
def rwF (p r : Nat → Int) (n i : Nat) : Nat → Int := tabF p r n (n - 1 - i) i
/-- the best of copy j below reading v -/
def bsF (p r : Nat → Int) (n j : Nat) (v : Int) : Int := (bestF (barT (r j) (rwF p r n j)) v 16).2
section
variable {p r : Nat → Int} {n : Nat} (hc : cpAll p r n = true)
include hc
/-- a row that is done stays -/
theorem tab_done {k : Nat} (hk : k < n) : ∀ m, n - k ≤ m → m ≤ n → tabF p r n m k = barT (r k) (rwF p r n k)
  | 0, h, _ => absurd h (by omega)
  | m + 1, h, hm => by
    obtain ⟨i, hi⟩ : ∃ i, n - 1 - m = i := ⟨_, rfl⟩
    have e : tabF p r n (m + 1) = stepT p r i (tabF p r n m) := by rw [← hi]; rfl
    rw [e]
    funext v
    unfold stepT
    by_cases hki : k = i
    · rw [if_pos hki]
      subst hki
      unfold rwF
      rw [show n - 1 - k = m by omega]
    · have hok := cpOk_p (cpAll_at hc i (by omega))
      rw [if_neg hki, if_neg (by omega), tab_done hk m (by omega) (by omega)]
omit hc in
/-- rows as sums -/
theorem tab_sum {k : Nat} (v : Nat) : ∀ m, m ≤ n → k < n - m → tabF p r n m k v + smI (fun j => if p j = (k : Int) then bsF p r n j v else 0) (n - m) = smI (fun j => if p j = (k : Int) then bsF p r n j v else 0) n
  | 0, _, _ => by
    show (0 : Int) + smI _ (n - 0) = _
    rw [Nat.sub_zero, Int.zero_add]
  | m + 1, hm, hk => by
    have ih := tab_sum v m (by omega) (k := k) (by omega)
    obtain ⟨i, hi⟩ : ∃ i, n - 1 - m = i := ⟨_, rfl⟩
    rw [show n - m = i + 1 by omega] at ih
    rw [show n - (m + 1) = i by omega]
    have e2 : smI (fun j => if p j = (k : Int) then bsF p r n j v else 0) (i + 1) = smI (fun j => if p j = (k : Int) then bsF p r n j v else 0) i + if p i = (k : Int) then bsF p r n i v else 0 := rfl
    rw [e2] at ih
    have h3 : tabF p r n (m + 1) k v = if 0 < i ∧ (k : Int) = p i then tabF p r n m k v + bsF p r n i v else tabF p r n m k v := by
      show stepT p r (n - 1 - m) (tabF p r n m) k v = _
      rw [hi]
      unfold stepT bsF rwF
      rw [if_neg (by omega), show n - 1 - i = m by omega]
    rw [h3]
    by_cases hk2 : p i = (k : Int)
    · rw [if_pos hk2] at ih
      rw [if_pos ⟨by omega, hk2.symm⟩]
      omega
    · rw [if_neg hk2] at ih
      rw [if_neg (fun h => hk2 h.2.symm)]
      omega
/-- no copy stands below a later one -/
theorem sum_low {k : Nat} (v : Nat) : ∀ q, q ≤ k + 1 → q ≤ n → smI (fun j => if p j = (k : Int) then bsF p r n j v else 0) q = 0
  | 0, _, _ => rfl
  | q + 1, h, hq => by
    have hok := cpOk_p (cpAll_at hc q (by omega))
    show smI _ q + (if p q = (k : Int) then _ else _) = 0
    rw [sum_low v q (by omega) (by omega), if_neg (by omega)]
    rfl
theorem rw_sum {k : Nat} (hk : k < n) (v : Nat) : rwF p r n k v = smI (fun j => if p j = (k : Int) then bsF p r n j v else 0) n := by
  have h := tab_sum (p := p) (r := r) (n := n) (k := k) v (n - 1 - k) (by omega) (by omega)
  rw [sum_low hc v (n - (n - 1 - k)) (by omega) (by omega)] at h
  unfold rwF
  omega
end
/-- the reading of copy k -/
def aLF (p r : Nat → Int) (n k : Nat) : Int := (allF p (tabF p r n n) n).getD k 0
theorem allF_getD (p : Nat → Int) (T : Nat → Nat → Int) {k : Nat} : ∀ n, k < n → (allF p T n).getD k 0 = (allF p T (k + 1)).getD k 0
  | 0, h => absurd h (by omega)
  | n + 1, h => by
    rcases (by omega : k = n ∨ k < n) with rfl | h1
    · rfl
    · have ih := allF_getD p T n h1
      rw [← ih]
      show (allF p T n ++ [_]).getD k 0 = _
      rw [List.getD_eq_getElem?_getD, List.getElem?_append_left (by rw [allF_len]; exact h1), List.getD_eq_getElem?_getD]
theorem aLF_eq {p r : Nat → Int} {n : Nat} (hc : cpAll p r n = true) {i : Nat} (hi : i < n) : aLF p r n i = (bestF (barT (r i) (rwF p r n i)) (if 0 ≤ p i then aLF p r n (p i).toNat else -1) 16).1 := by
  have hok := cpOk_p (cpAll_at hc i hi)
  unfold aLF
  rw [allF_getD p _ n hi]
  show (allF p (tabF p r n n) i ++ [_]).getD i 0 = _
  rw [List.getD_eq_getElem?_getD, List.getElem?_append_right (by rw [allF_len]; exact Nat.le_refl _), allF_len, Nat.sub_self]
  show (bestF (tabF p r n n i) _ 16).1 = _
  rw [tab_done hc hi n (by omega) (Nat.le_refl _)]
  by_cases h0 : 0 ≤ p i
  · have h1 : (p i).toNat < i := by omega
    rw [if_pos h0, if_pos h0, allF_getD p _ i h1, allF_getD p _ n (by omega)]
  · rw [if_neg h0, if_neg h0]
/-- the changes that the first q copies show -/
def cgF (p r : Nat → Int) (n : Nat) : Nat → Int
  | 0 => 0
  | q + 1 => cgF p r n q + if 0 < q ∧ aLF p r n (p q).toNat ≠ aLF p r n q then 1 else 0
section
variable {p r : Nat → Int} {n : Nat} (hc : cpAll p r n = true) (hn : n ≤ 20)
include hc hn
theorem aLF_at {i : Nat} (hi : i < n) (hp : 0 < i) : 0 ≤ aLF p r n i ∧ bsF p r n i (aLF p r n (p i).toNat) = rwF p r n i (aLF p r n i).toNat + if aLF p r n (p i).toNat ≠ aLF p r n i then 1 else 0 := by
  have hok := cpOk_p (cpAll_at hc i hi)
  have h1 := aLF_eq hc hi
  rw [if_pos (by omega)] at h1
  obtain ⟨x, hx, hb⟩ := best_at (r := r i) (f := rwF p r n i) ⟨hok.2.2.2.1, hok.2.2.2.2⟩ (fun v => raw_bd hc hn hi v) (aLF p r n (p i).toNat)
  unfold bsF
  rw [hb] at h1 ⊢
  dsimp only at h1 ⊢
  rw [h1]
  refine ⟨by omega, ?_⟩
  rw [show ((x : Int)).toNat = x by omega]
  by_cases hx2 : (x : Int) = aLF p r n (p i).toNat
  · rw [if_pos hx2, if_neg (by omega), Int.add_zero]
  · rw [if_neg hx2, if_pos (by omega)]
omit hc hn in
theorem smI_one (f g : Nat → Int) (q : Nat) (d : Int) : ∀ n, (∀ k, k < n → g k = if k = q then f k + d else f k) → smI g n = smI f n + if q < n then d else 0
  | 0, _ => by show (0 : Int) = 0 + _; rw [if_neg (by omega)]; rfl
  | n + 1, h => by
    have ih := smI_one f g q d n (fun k hk => h k (by omega))
    show smI g n + g n = smI f n + f n + _
    rw [ih, h n (by omega)]
    by_cases h1 : n = q
    · subst h1
      rw [if_neg (by omega), if_pos rfl, if_pos (by omega)]; omega
    · rw [if_neg h1]
      by_cases h2 : q < n
      · rw [if_pos h2, if_pos (by omega)]; omega
      · rw [if_neg h2, if_neg (by omega)]; omega
/-- the costs that stand in the open rows are the changes of the rest -/
theorem cost_sum : ∀ m, m + 1 ≤ n → smI (fun k => tabF p r n m k (aLF p r n k).toNat) (n - m) + cgF p r n (n - m) = cgF p r n n
  | 0, _ => by
    have : ∀ j, smI (fun k => tabF p r n 0 k (aLF p r n k).toNat) j = 0 := fun j => by
      induction j with
      | zero => rfl
      | succ j ih => show smI _ j + 0 = 0; rw [ih]; rfl
    rw [this, Nat.sub_zero, Int.zero_add]
  | m + 1, hm => by
    have ih := cost_sum m (by omega)
    obtain ⟨i, hi⟩ : ∃ i, n - 1 - m = i := ⟨_, rfl⟩
    rw [show n - m = i + 1 by omega] at ih
    rw [show n - (m + 1) = i by omega]
    have hi0 : 0 < i := by omega
    have hok := cpOk_p (cpAll_at hc i (by omega))
    have h1 := aLF_at hc hn (i := i) (by omega) hi0
    have hrw : rwF p r n i = tabF p r n m i := by unfold rwF; rw [show n - 1 - i = m by omega]
    have e1 : smI (fun k => tabF p r n m k (aLF p r n k).toNat) (i + 1) = smI (fun k => tabF p r n m k (aLF p r n k).toNat) i + tabF p r n m i (aLF p r n i).toNat := rfl
    have e2 : cgF p r n (i + 1) = cgF p r n i + if 0 < i ∧ aLF p r n (p i).toNat ≠ aLF p r n i then 1 else 0 := rfl
    rw [e1, e2] at ih
    have e3 : (if 0 < i ∧ aLF p r n (p i).toNat ≠ aLF p r n i then (1 : Int) else 0) = if aLF p r n (p i).toNat ≠ aLF p r n i then 1 else 0 := by
      by_cases h : aLF p r n (p i).toNat ≠ aLF p r n i
      · rw [if_pos ⟨hi0, h⟩, if_pos h]
      · rw [if_neg (fun h2 => h h2.2), if_neg h]
    rw [e3] at ih
    have h2 := smI_one (fun k => tabF p r n m k (aLF p r n k).toNat) (fun k => tabF p r n (m + 1) k (aLF p r n k).toNat) (p i).toNat (bsF p r n i (aLF p r n (p i).toNat)) i (fun k hk => by
      have h3 : tabF p r n (m + 1) k (aLF p r n k).toNat = stepT p r i (tabF p r n m) k (aLF p r n k).toNat := by rw [← hi]; rfl
      show tabF p r n (m + 1) k (aLF p r n k).toNat = if k = (p i).toNat then tabF p r n m k (aLF p r n k).toNat + _ else tabF p r n m k (aLF p r n k).toNat
      rw [h3]
      unfold stepT
      rw [if_neg (by omega)]
      by_cases hk2 : (k : Int) = p i
      · have hk3 : k = (p i).toNat := by omega
        rw [if_pos ⟨hi0, hk2⟩, if_pos hk3]
        unfold bsF
        rw [hrw, ← hk3]
        have h4 : 0 ≤ aLF p r n k := by
          rcases Nat.eq_zero_or_pos k with hz | hz
          · have h5 := aLF_eq hc (i := k) (by omega)
            have h6 := cpOk_p (cpAll_at hc k (by omega))
            obtain ⟨x, hx, hb⟩ := best_at (r := r k) (f := rwF p r n k) ⟨h6.2.2.2.1, h6.2.2.2.2⟩ (fun v => raw_bd hc hn (by omega) v) (if 0 ≤ p k then aLF p r n (p k).toNat else -1)
            rw [hb] at h5
            dsimp only at h5
            omega
          · exact (aLF_at hc hn (by omega) hz).1
        rw [show (((aLF p r n k).toNat : Nat) : Int) = aLF p r n k by omega]
      · rw [if_neg (fun h => hk2 h.2), if_neg (by omega)])
    rw [if_pos (by omega)] at h2
    rw [h2, h1.2, hrw]
    omega
/-- the first copy's cost is the count of all changes -/
theorem count_all (h0 : 0 < n) : (bestF (tabF p r n n 0) (-1) 16).2 - 1 = cgF p r n n := by
  have h1 := cost_sum hc hn (n - 1) (by omega)
  rw [show n - (n - 1) = 1 by omega] at h1
  have e1 : smI (fun k => tabF p r n (n - 1) k (aLF p r n k).toNat) 1 = 0 + tabF p r n (n - 1) 0 (aLF p r n 0).toNat := rfl
  have e2 : cgF p r n 1 = 0 + if 0 < 0 ∧ aLF p r n (p 0).toNat ≠ aLF p r n 0 then 1 else 0 := rfl
  rw [if_neg (by omega)] at e2
  rw [e1, e2] at h1
  have hok := cpOk_p (cpAll_at hc 0 h0)
  obtain ⟨x, hx, hb⟩ := best_at (r := r 0) (f := rwF p r n 0) ⟨hok.2.2.2.1, hok.2.2.2.2⟩ (fun v => raw_bd hc hn h0 v) (-1)
  have h3 := aLF_eq hc (i := 0) h0
  rw [if_neg (by have := hok.2.1 rfl; omega), hb] at h3
  rw [tab_done hc h0 n (by omega) (Nat.le_refl _), hb, if_neg (by omega)]
  dsimp only at h3 ⊢
  rw [h3, show ((x : Int)).toNat = x by omega] at h1
  have hrw : rwF p r n 0 = tabF p r n (n - 1) 0 := by unfold rwF; rw [show n - 1 - 0 = n - 1 by omega]
  rw [hrw]
  omega
end
end Go.Proofs.YtmpegkojencbjaaDoor
/- School: the reference's table: rows that are made from the last on. -/
namespace Go.Proofs.YtmpegkojencbjaaDoor
open Go Go.RowKit Go.Shelf
set_option maxHeartbeats 4000000
set_option maxRecDepth 100000
/-- rows s to n - 1 of the table are there -/
structure RU (w : World) (n s D : Nat) (g : Nat → Nat) (U : Nat → Nat → Int) (W : World) : Prop where
  below : Below w.heap.size w W
  lo : w.heap.size ≤ D
  blk : Blk W D 36 (rowV n fun k => if s ≤ k then .slice (some ⟨g k, 0, none⟩) 16 16 else .slice none 0 0)
  rows : ∀ k, s ≤ k → k < n → Blk W (g k) 3 (rowV 16 fun v => .int .i64 (U k v))
  hi : ∀ k, s ≤ k → k < n → D < g k
  ap : ∀ k j, s ≤ k → k < n → s ≤ j → j < n → k ≠ j → g k ≠ g j
section
variable {w W W' : World} {n s i D : Nat} {g : Nat → Nat} {U U' : Nat → Nat → Int}
theorem RU.ext (h : RU w n s D g U W) (hb : Below W.heap.size W W') : RU w n s D g U W' :=
  ⟨h.below.trans (hb.mono h.below.size), h.lo, h.blk.ext hb, fun k h1 h2 => (h.rows k h1 h2).ext hb, h.hi, h.ap⟩
theorem RU.congr (h : RU w n s D g U W) (hU : ∀ k v, s ≤ k → k < n → v < 16 → U k v = U' k v) : RU w n s D g U' W :=
  ⟨h.below, h.lo, h.blk, fun k h1 h2 => Blk.row (h.rows k h1 h2) fun v hv => by rw [hU k v h1 h2 hv], h.hi, h.ap⟩
/-- a new row is laid -/
theorem RU.row (h : RU w n (i + 1) D g U W) (hi : i < n) (o : Obj) (ho : o = .cells (rowV 16 fun _ => .int .i64 0) 3) :
    RU w n i D (upd g i W.heap.size) (fun k v => if k = i then 0 else U k v) ((W.setCell ⟨D, i, none⟩ (.slice (some ⟨W.heap.size, 0, none⟩) 16 16)).alloc o) := by
  subst ho
  have hD := h.blk.lt
  have h2 := h.blk.set_ i (.slice (some ⟨W.heap.size, 0, none⟩) 16 16)
  rw [rowV_set] at h2
  have hb1 := h.below.setCell (p := ⟨D, i, none⟩) h.lo (.slice (some ⟨W.heap.size, 0, none⟩) 16 16)
  have hN := Blk.new (W.setCell ⟨D, i, none⟩ (.slice (some ⟨W.heap.size, 0, none⟩) 16 16)) 3 (rowV 16 fun _ => .int .i64 0)
  rw [size_set] at hN
  refine ⟨hb1.alloc hb1.size _, h.lo, ?_, fun k hk1 hk2 => ?_, fun k hk1 hk2 => ?_, fun k j hk1 hk2 hj1 hj2 hne => ?_⟩
  · refine (Blk.row h2 fun k hk => ?_).alloc _
    by_cases e : k = i
    · subst e; rw [upd_same, if_pos (Nat.le_refl _), upd_same]
    · rw [upd_ne _ _ e, upd_ne _ _ e]
      by_cases e2 : i ≤ k
      · rw [if_pos e2, if_pos (by omega)]
      · rw [if_neg e2, if_neg (by omega)]
  · by_cases e : k = i
    · subst e
      rw [upd_same]
      exact Blk.row hN fun v hv => by rw [if_pos rfl]
    · rw [upd_ne _ _ e]
      have h3 := ((h.rows k (by omega) hk2).far (p := ⟨D, i, none⟩) (by have := h.hi k (by omega) hk2; simp only []; omega) (.slice (some ⟨W.heap.size, 0, none⟩) 16 16)).alloc (.cells (rowV 16 fun _ => .int .i64 0) 3)
      exact Blk.row h3 fun v hv => by rw [if_neg e]
  · by_cases e : k = i
    · subst e; rw [upd_same]; exact hD
    · rw [upd_ne _ _ e]; exact h.hi k (by omega) hk2
  · by_cases e : k = i
    · subst e
      rw [upd_same, upd_ne _ _ (Ne.symm hne)]
      have := (h.rows j (by omega) hj2).lt
      omega
    · rw [upd_ne _ _ e]
      by_cases e2 : j = i
      · subst e2
        rw [upd_same]
        have := (h.rows k (by omega) hk2).lt
        omega
      · rw [upd_ne _ _ e2]
        exact h.ap k j (by omega) hk2 (by omega) hj2 hne
/-- an entry is set -/
theorem RU.set (h : RU w n s D g U W) {k v : Nat} (hk : s ≤ k) (hk2 : k < n) (x : Int) :
    RU w n s D g (fun k' v' => if k' = k ∧ v' = v then x else U k' v') (W.setCell ⟨g k, v, none⟩ (.int .i64 x)) := by
  have hD := h.hi k hk hk2
  refine ⟨h.below.setCell (p := ⟨g k, v, none⟩) (by have := h.lo; simp only []; omega) _, h.lo, h.blk.far (p := ⟨g k, v, none⟩) (by simp only []; omega) _, fun j hj1 hj2 => ?_, h.hi, h.ap⟩
  by_cases e : j = k
  · subst e
    have h3 := (h.rows j hj1 hj2).set_ v (.int .i64 x)
    rw [rowV_set] at h3
    refine Blk.row h3 fun u hu => ?_
    by_cases e2 : u = v
    · subst e2; rw [upd_same, if_pos ⟨rfl, rfl⟩]
    · rw [upd_ne _ _ e2, if_neg (fun h => e2 h.2)]
  · refine Blk.row ((h.rows j hj1 hj2).far (p := ⟨g k, v, none⟩) (h.ap j k hj1 hj2 hk hk2 e) _) fun u hu => ?_
    rw [if_neg (fun h => e h.1)]
/-- where a row lies, and what an entry is -/
theorem RU.at_ (h : RU w n s D g U W) {k v : Nat} (hk : s ≤ k) (hk2 : k < n) (hv : v < 16) :
    W.cell? ⟨D, k, none⟩ = some (.slice (some ⟨g k, 0, none⟩) 16 16) ∧ W.cell? ⟨g k, v, none⟩ = some (.int .i64 (U k v)) ∧ W.frozen? ⟨g k, v, none⟩ = false ∧ g k < W.heap.size := by
  have h1 := h.blk.cell k
  rw [rowV_get _ _ hk2, if_pos hk] at h1
  have h2 := (h.rows k hk hk2).cell v
  rw [rowV_get _ _ hv] at h2
  exact ⟨h1, h2, (h.rows k hk hk2).frozen v, (h.rows k hk hk2).lt⟩
end
/-- the reference's table -/
def UF (p r : Nat → Int) (n k v : Nat) : Int := barU (r k) (rwF p r n k) v
def gsF (p r : Nat → Int) (n i : Nat) (v : Int) (j : Nat) : Int := if p j = (i : Int) then bsF p r n j v else 0
section
variable {p r : Nat → Int} {n : Nat} (hc : cpAll p r n = true) (hn : n ≤ 20)
include hc hn
theorem bs_bd {j : Nat} (hj : j < n) (v : Int) : 0 ≤ bsF p r n j v ∧ bsF p r n j v ≤ 91 := by
  have hok := cpOk_p (cpAll_at hc j hj)
  obtain ⟨x, hx, hb⟩ := best_at (r := r j) (f := rwF p r n j) ⟨hok.2.2.2.1, hok.2.2.2.2⟩ (fun v => raw_bd hc hn hj v) v
  unfold bsF
  rw [hb]
  have h4 := raw_bd hc hn hj x
  unfold rwF
  dsimp only
  split <;> omega
theorem gs_bd (i : Nat) (v : Int) : ∀ q, q ≤ n → 0 ≤ smI (gsF p r n i v) q ∧ smI (gsF p r n i v) q ≤ q * 91
  | 0, _ => by simp [smI]
  | q + 1, h => by
    have ih := gs_bd i v q (by omega)
    have h1 := bs_bd hc hn (j := q) (by omega) v
    have e : smI (gsF p r n i v) (q + 1) = smI (gsF p r n i v) q + if p q = (i : Int) then bsF p r n q v else 0 := rfl
    rw [e]
    split <;> omega
theorem UF_bd {k : Nat} (hk : k < n) (v : Nat) : 0 ≤ UF p r n k v ∧ UF p r n k v ≤ 99 := by
  have h4 := raw_bd hc hn hk v
  unfold UF barU rwF
  split <;> omega
/-- the least that a child costs -/
theorem UF_mn {j : Nat} (hj : j < n) (v : Int) : (scF (cstF (UF p r n j) v) (-1, 99) 16).2 = bsF p r n j v := by
  have hok := cpOk_p (cpAll_at hc j hj)
  exact (mn_best (r := r j) (f := rwF p r n j) ⟨hok.2.2.2.1, hok.2.2.2.2⟩ (fun v => raw_bd hc hn hj v) v).1
end
end Go.Proofs.YtmpegkojencbjaaDoor
/- School: the reference's Table, walked. -/
namespace Go.Proofs.YtmpegkojencbjaaDoor
open Go Go.RowKit Go.Shelf
set_option maxHeartbeats 4000000
set_option maxRecDepth 100000
def pF (l : List Int) (k : Nat) : Int := l.getD k 0
theorem UF_eq {p r : Nat → Int} {n : Nat} (hc : cpAll p r n = true) {i : Nat} (hi : i < n) (v : Nat) : UF p r n i v = if barI (r i) v then 99 else smI (gsF p r n i v) n := by
  unfold UF barU
  rw [rw_sum hc hi v]
  rfl
/-- row i, ahead of entry v, which holds x -/
def mixU (p r : Nat → Int) (n i v : Nat) (x : Int) (k u : Nat) : Int := if k = i then (if u < v then UF p r n i u else if u = v then x else 0) else UF p r n k u
theorem mix_put (p r : Nat → Int) (n i v : Nat) (x y : Int) (k u : Nat) : (if k = i ∧ u = v then y else mixU p r n i v x k u) = mixU p r n i v y k u := by
  unfold mixU
  by_cases hk : k = i
  · by_cases hu : u = v
    · subst hk hu; simp
    · simp [hk, hu]
  · simp [hk]
theorem mix_next {p r : Nat → Int} {n i v : Nat} {y : Int} (h : UF p r n i v = y) (k u : Nat) : mixU p r n i v y k u = mixU p r n i (v + 1) 0 k u := by
  unfold mixU
  by_cases hk : k = i
  · simp only [if_pos hk]
    rcases (by omega : u < v ∨ u = v ∨ v < u) with h1 | h1 | h1
    · rw [if_pos h1, if_pos (by omega)]
    · subst h1
      rw [if_neg (by omega), if_pos rfl, if_pos (by omega), h]
    · rw [if_neg (by omega), if_neg (by omega), if_neg (by omega)]
      split <;> rfl
  · simp only [if_neg hk]
def TbPost (w : World) (p r : Nat → Int) (n : Nat) (e : Ending) (w' : World) : Prop :=
  ∃ D g, e = .returned (.slice (some ⟨D, 0, none⟩) n n) ∧ RU w n 0 D g (UF p r n) w'
theorem refTable_any (A B : Option Addr) (c d : Nat) (P R : List Int) (w : World) (hn0 : P.length ≤ 20) (hl : R.length = P.length) (hcp : cpAll (pF P) (pF R) P.length = true) (hP : LI w w.heap.size A P) (hR : LI w w.heap.size B R) :
    Calls Tryd.prog 61 #[.slice A P.length c, .slice B R.length d] w (TbPost w (pF P) (pF R) P.length) := by
  have HP := hide hP
  have HR := hide hR
  obtain ⟨n, hn⟩ : ∃ n, P.length = n := ⟨_, rfl⟩
  rw [hl]
  rw [hn] at hn0 hcp hl ⊢
  have HN := hide (And.intro hn hl)
  have HC := hide hcp
  have HN0 := hide hn0
  obtain ⟨p, hp⟩ : ∃ p, pF P = p := ⟨_, rfl⟩
  obtain ⟨r, hr⟩ : ∃ p, pF R = p := ⟨_, rfl⟩
  rw [hp, hr] at HC ⊢
  have HPF := hide (And.intro hp hr)
  clear hP hR hn hl hcp hp hr
  obtain ⟨i0, hi, hz0, hz1, hz2⟩ := info_parts info_row
  obtain ⟨j0, hj, hy0, hy1, hy2⟩ := info_parts info_int
  have gl := run_make_rowN (P := Tryd.prog) 54 36 i0 _ Tryd.underlying54 hi hz0 .i64 .i64 n n (Nat.le_refl _) (by rw [hz2]; omega) (by omega) w
  rw [hz1, rowV_made] at gl
  have gr := fun W => run_make_rowN (P := Tryd.prog) 36 3 j0 _ Tryd.underlying36 hj hy0 .i64 .i64 16 16 (Nat.le_refl _) (by rw [hy2]; omega) (by omega) W
  have e16 : ((16 : Nat) : Int) = 16 := rfl
  simp only [hy1, rowV_ints, e16] at gr
  clear e16
  have GR := hide gr
  have wN : IntKind.i64.wrap ((n : Int) - 1) = (n : Int) - 1 := IntWalk.i64_in _ (by omega)
  clear hi hz0 hz1 hz2 hj hy0 hy1 hy2 gr
  unfold TbPost
  go_enter Tryd.func61, Tryd.ntmps61
  go_wp2_with fail
  have D0 : Hid (RU w n n w.heap.size (fun _ => 0) (UF p r n) (w.alloc (.cells (rowV n fun _ => .slice none 0 0) 36))) := hide ⟨(Below.refl _ _).alloc (Nat.le_refl _) _, Nat.le_refl _, Blk.row (by have h := Blk.new w 36 (rowV n fun _ => .slice none 0 0); exact h) fun k hk => by rw [if_neg (by omega)], fun k h1 h2 => absurd h1 (by omega), fun k h1 h2 => absurd h1 (by omega), fun k j h1 h2 => absurd h1 (by omega)⟩
  generalize (w.alloc (.cells (rowV n fun _ => .slice none 0 0) 36)) = W0 at D0 ⊢
  clear gl wN
  go_loopw [6] (fun x wr => ∃ (s : Nat) (iv : Int) (g : Nat → Nat), x = .int .i64 iv ∧ iv = (s : Int) - 1 ∧ s ≤ n ∧ Hid (RU w n s w.heap.size g (UF p r n) wr)) (fun x _ => (intOf x + 1).toNat)
  case atStart => exact ⟨n, _, _, rfl, by omega, by omega, D0⟩
  case round =>
    obtain ⟨s, iv, g, rfl, hiv, hs, HD⟩ := hrel
    obtain ⟨D, hDe⟩ : ∃ D, w.heap.size = D := ⟨_, rfl⟩
    rw [hDe] at HD ⊢
    have HDE := hide hDe
    clear hDe D0
    rcases s with _ | i
    · have hv0 : iv = -1 := by omega
      subst hv0
      clear hiv
      go_wp2_with fail
      go_ret
      exact ⟨D, g, rfl, HD.out⟩
    · have hv0 : iv = (i : Int) := by omega
      subst hv0
      clear hiv
      have hin : i < n := by omega
      have q1 : (0 : Int) ≤ (i : Int) := by omega
      have q2 : (i : Int) < (n : Int) := by omega
      have cD := HD.out.blk.cell i
      rw [rowV_get _ _ (by omega), if_neg (by omega)] at cD
      have fD := HD.out.blk.frozen i
      have lD := HD.out.blk.lt
      have gl := GR.out wr
      go_upto_region 7 with fail
      have HC1 := hide (HD.out.row hin _ rfl)
      clear gl cD fD lD
      obtain ⟨gi, hgi⟩ : ∃ gi, wr.heap.size = gi := ⟨_, rfl⟩
      rw [hgi] at HC1 ⊢
      generalize ((wr.setCell ⟨D, i, none⟩ (.slice (some ⟨gi, 0, none⟩) 16 16)).alloc (.cells (rowV 16 fun _ => .int .i64 0) 3)) = W1 at HC1 ⊢
      have HC2 : Hid (RU w n i D (upd g i gi) (mixU p r n i 0 0) W1) := hide (HC1.out.congr fun k v h1 h2 h3 => by
        unfold mixU
        by_cases hk : k = i
        · rw [if_pos hk, if_pos hk, if_neg (by omega)]; split <;> rfl
        · rw [if_neg hk, if_neg hk])
      obtain ⟨gg, hgg⟩ : ∃ gg, upd g i gi = gg := ⟨_, rfl⟩
      rw [hgg] at HC2
      clear hgi HD HC1 hgg
      go_loopw [7] (fun x wq => ∃ (v : Nat), x = .int .i64 v ∧ v ≤ 16 ∧ Hid (RU w n i D gg (mixU p r n i v 0) wq)) (fun x _ => 16 - (intOf x).toNat)
      case atStart => exact ⟨0, rfl, by omega, HC2⟩
      case round =>
        obtain ⟨v, rfl, hv, HV⟩ := hrel
        clear HC2
        by_cases hlt : v < 16
        · -- BEGIN1
          have hlt' : (v : Int) ≤ 15 := by omega
          have v0 : (0 : Int) ≤ (v : Int) := by omega
          have v16 : (v : Int) < 16 := by omega
          have wi1 : IntKind.i64.wrap ((i : Int) + 1) = ((i + 1 : Nat) : Int) := by rw [IntWalk.i64_in _ (by omega)]; omega
          have HV0 : Hid (RU w n i D gg (mixU p r n i v (smI (gsF p r n i v) (i + 1))) wr) := hide (HV.out.congr fun k u h1 h2 h3 => by
            have e := sum_low HC.out (k := i) v (i + 1) (Nat.le_refl _) (by omega)
            have e2 : smI (gsF p r n i v) (i + 1) = 0 := e
            rw [e2])
          go_upto_region 10 with fail
          clear wi1
          go_loopw [8] (fun x wq => ∃ (q : Nat), x = .int .i64 q ∧ i + 1 ≤ q ∧ q ≤ n ∧ Hid (RU w n i D gg (mixU p r n i v (smI (gsF p r n i v) q)) wq)) (fun x _ => n - (intOf x).toNat)
          case atStart => exact ⟨i + 1, rfl, Nat.le_refl _, by omega, HV0⟩
          case round =>
            obtain ⟨q, rfl, hq1, hq2, HQ⟩ := hrel
            clear HV0 HV
            by_cases hqn : q < n
            · -- BEGIN2
              have hqn' : (q : Int) < (n : Int) := by omega
              have q0 : (0 : Int) ≤ (q : Int) := by omega
              have wq1 : IntKind.i64.wrap ((q : Int) + 1) = ((q + 1 : Nat) : Int) := by rw [IntWalk.i64_in _ (by omega)]; omega
              obtain ⟨pb, po, rfl, hpb, b0⟩ := VR1.at_ HP.out (k := q) (by rw [HN.out.1]; exact hqn)
              have b1 : w.cell? ⟨pb, po + q, none⟩ = some (.int .i64 (p q)) := by rw [← HPF.out.1]; exact b0
              have c0 := (HQ.out.below.cell (p := ⟨pb, po + q, none⟩) hpb).trans b1
              clear b0 b1
              have hsum : smI (gsF p r n i v) (q + 1) = smI (gsF p r n i v) q + if p q = (i : Int) then bsF p r n q v else 0 := rfl
              by_cases hpi : p q = (i : Int)
              · rw [if_pos hpi] at hsum
                have HSUM := hide hsum
                rw [hpi] at c0
                have HPI := hide hpi
                clear hsum hpi
                go_upto_region 15 with fail
                clear c0
                go_loopw [9, 10] (fun m x wx => ∃ (u : Nat), x = .int .i64 u ∧ u ≤ 16 ∧ m = .int .i64 (scF (cstF (UF p r n q) v) (-1, 99) u).2 ∧ Hid (RU w n i D gg (mixU p r n i v (smI (gsF p r n i v) q)) wx)) (fun _ x _ => 16 - (intOf x).toNat)
                case atStart => exact ⟨0, rfl, by omega, rfl, HQ⟩
                case round =>
                  obtain ⟨u, rfl, hu, rfl, HX⟩ := hrel
                  clear HQ
                  by_cases hu16 : u < 16
                  · -- BEGIN3
                    have hu' : (u : Int) ≤ 15 := by omega
                    have u0 : (0 : Int) ≤ (u : Int) := by omega
                    have u16 : (u : Int) < 16 := by omega
                    have wu1 : IntKind.i64.wrap ((u : Int) + 1) = ((u + 1 : Nat) : Int) := by rw [IntWalk.i64_in _ (by omega)]; omega
                    obtain ⟨e1, e2, -, -⟩ := HX.out.at_ (k := q) (v := u) (by omega) hqn hu16
                    have e3 : mixU p r n i v (smI (gsF p r n i v) q) q u = UF p r n q u := by unfold mixU; rw [if_neg (by omega)]
                    rw [e3] at e2
                    have hbd := UF_bd HC.out HN0.out (k := q) hqn u
                    have hm : scF (cstF (UF p r n q) v) (-1, 99) (u + 1) = if cstF (UF p r n q) v u < (scF (cstF (UF p r n q) v) (-1, 99) u).2 then ((u : Int), cstF (UF p r n q) v u) else scF (cstF (UF p r n q) v) (-1, 99) u := rfl
                    obtain ⟨t, ht⟩ : ∃ t, UF p r n q u = t := ⟨_, rfl⟩
                    obtain ⟨m0, hm0⟩ : ∃ t, (scF (cstF (UF p r n q) v) (-1, 99) u).2 = t := ⟨_, rfl⟩
                    have hm2 : (scF (cstF (UF p r n q) v) (-1, 99) (u + 1)).2 = if cstF (UF p r n q) v u < m0 then cstF (UF p r n q) v u else m0 := by
                      rw [hm, hm0]; split
                      · rfl
                      · exact hm0
                    unfold cstF at hm2
                    rw [ht] at e2 hbd
                    simp only [ht] at hm2
                    rw [hm0]
                    have HM := hide hm2
                    have wt : IntKind.i64.wrap (t + 1) = t + 1 := IntWalk.i64_in _ (by omega)
                    clear e3 hm hm2 ht hm0
                    obtain ⟨gq, hgq⟩ : ∃ x, gg q = x := ⟨_, rfl⟩
                    rw [hgq] at e1 e2
                    clear hgq
                    by_cases huv : (u : Int) = (v : Int)
                    · have huv' : ((u : Int) == (v : Int)) = true := by simpa using huv
                      have HM2 : Hid ((scF (cstF (UF p r n q) v) (-1, 99) (u + 1)).2 = if t < m0 then t else m0) := hide (by have := HM.out; rwa [if_pos huv] at this)
                      have huv2 : u = v := by omega
                      subst huv2
                      go_wp2_with fail
                      go_roundw
                      case rel => exact ⟨u + 1, by go_num, by omega, by rw [HM2.out]; first | rfl | (split <;> split <;> first | rfl | omega) | (congr 1; omega), HX⟩
                      case measure => simp [intOf]; omega
                    · have huv' : ((u : Int) == (v : Int)) = false := by simpa using huv
                      have HM2 : Hid ((scF (cstF (UF p r n q) v) (-1, 99) (u + 1)).2 = if t + 1 < m0 then t + 1 else m0) := hide (by have := HM.out; rwa [if_neg huv] at this)
                      go_wp2_with fail
                      go_roundw
                      case rel => exact ⟨u + 1, by go_num, by omega, by rw [HM2.out]; first | rfl | (split <;> split <;> first | rfl | omega) | (congr 1; omega), HX⟩
                      case measure => simp [intOf]; omega
                    -- END3
                  · -- BEGIN4
                    obtain rfl : u = 16 := by omega
                    have hu' : ¬ ((16 : Nat) : Int) ≤ 15 := by omega
                    rw [UF_mn HC.out HN0.out hqn v]
                    have hb := bs_bd HC.out HN0.out hqn v
                    have hg := gs_bd HC.out HN0.out i v q hq2
                    obtain ⟨e1, e2, fg, lg⟩ := HX.out.at_ (k := i) (v := v) (Nat.le_refl _) hin hlt
                    have e3 : mixU p r n i v (smI (gsF p r n i v) q) i v = smI (gsF p r n i v) q := by unfold mixU; rw [if_pos rfl, if_neg (by omega), if_pos rfl]
                    rw [e3] at e2
                    have HS2 := HX.out.set (k := i) (v := v) (Nat.le_refl _) hin (smI (gsF p r n i v) q + bsF p r n q v)
                    have HS3 : Hid (RU w n i D gg (mixU p r n i v (smI (gsF p r n i v) (q + 1))) (wr.setCell ⟨gg i, v, none⟩ (.int .i64 (smI (gsF p r n i v) q + bsF p r n q v)))) := hide (HS2.congr fun k u h1 h2 h3 => by rw [HSUM.out]; exact mix_put _ _ _ _ _ _ _ _ _)
                    clear HS2 e3 HSUM HX
                    obtain ⟨sm, hsm⟩ : ∃ t, smI (gsF p r n i v) q = t := ⟨_, rfl⟩
                    obtain ⟨bb, hbb⟩ : ∃ t, bsF p r n q v = t := ⟨_, rfl⟩
                    rw [hsm] at hg e2 HS3
                    rw [hbb] at hb HS3
                    rw [hbb]
                    clear hsm hbb
                    have ws : IntKind.i64.wrap (sm + bb) = sm + bb := IntWalk.i64_in _ (by omega)
                    obtain ⟨gq, hgq⟩ : ∃ x, gg i = x := ⟨_, rfl⟩
                    rw [hgq] at e1 e2 fg lg HS3
                    go_wp2_with fail
                    go_roundw
                    case rel => exact ⟨q + 1, by go_num, by omega, by omega, HS3⟩
                    case measure => simp [intOf]; omega
                    -- END4
              · -- BEGIN5
                rw [if_neg hpi, Int.add_zero] at hsum
                have HSUM := hide hsum
                clear hsum
                obtain ⟨pq, hpq⟩ : ∃ t, p q = t := ⟨_, rfl⟩
                rw [hpq] at c0 hpi
                clear hpq
                go_wp2_with fail
                go_roundw
                case rel => exact ⟨q + 1, by go_num, by omega, by omega, hide (by rw [HSUM.out]; exact HQ.out)⟩
                case measure => simp [intOf]; omega
                -- END5
              -- END2
            · -- BEGIN6
              obtain rfl : n = q := by omega
              have hnl : ¬ (n : Int) < (n : Int) := by omega
              obtain ⟨rb, ro, rfl, hrb, b0⟩ := VR1.at_ HR.out (k := i) (by rw [HN.out.2]; exact hin)
              have b1 : w.cell? ⟨rb, ro + i, none⟩ = some (.int .i64 (r i)) := by rw [← HPF.out.2]; exact b0
              have c0 := (HQ.out.below.cell (p := ⟨rb, ro + i, none⟩) hrb).trans b1
              clear b0 b1
              have wv1 : IntKind.i64.wrap ((v : Int) + 1) = ((v + 1 : Nat) : Int) := by rw [IntWalk.i64_in _ (by omega)]; omega
              have hUF := UF_eq HC.out hin v
              by_cases hbar : barI (r i) v = true
              · rw [if_pos hbar] at hUF
                have HUF := hide hUF
                unfold barI at hbar
                rw [Bool.and_eq_true] at hbar
                have hb1 := of_decide_eq_true hbar.1
                have hb2 := of_decide_eq_true hbar.2
                obtain ⟨e1, e2, fg, lg⟩ := HQ.out.at_ (k := i) (v := v) (Nat.le_refl _) hin hlt
                have HS2 := HQ.out.set (k := i) (v := v) (Nat.le_refl _) hin 99
                have HS3 : Hid (RU w n i D gg (mixU p r n i (v + 1) 0) (wr.setCell ⟨gg i, v, none⟩ (.int .i64 99))) := hide (HS2.congr fun k u h1 h2 h3 => (mix_put _ _ _ _ _ _ _ _ _).trans (mix_next HUF.out k u))
                clear HS2 hUF hbar
                obtain ⟨ov, hov⟩ : ∃ t, mixU p r n i v (smI (gsF p r n i v) n) i v = t := ⟨_, rfl⟩
                rw [hov] at e2
                clear hov
                obtain ⟨ri, hri⟩ : ∃ t, r i = t := ⟨_, rfl⟩
                rw [hri] at c0 hb1 hb2
                obtain ⟨gq, hgq⟩ : ∃ x, gg i = x := ⟨_, rfl⟩
                rw [hgq] at e1 e2 fg lg HS3
                clear hri
                go_wp2_with fail
                go_roundw
                case rel => exact ⟨v + 1, by go_num, by omega, HS3⟩
                case measure => simp [intOf]; omega
              · rw [if_neg hbar] at hUF
                have HS3 : Hid (RU w n i D gg (mixU p r n i (v + 1) 0) wr) := hide (HQ.out.congr fun k u h1 h2 h3 => mix_next hUF k u)
                clear hUF
                obtain ⟨ri, hri⟩ : ∃ t, r i = t := ⟨_, rfl⟩
                rw [hri] at c0 hbar
                clear hri
                by_cases hr0 : 0 ≤ ri
                · have hrv : ri = (v : Int) := by
                    unfold barI at hbar
                    simp at hbar
                    exact hbar hr0
                  subst hrv
                  go_wp2_with fail
                  go_roundw
                  case rel => exact ⟨v + 1, by go_num, by omega, HS3⟩
                  case measure => simp [intOf]; omega
                · clear hbar
                  go_wp2_with fail
                  go_roundw
                  case rel => exact ⟨v + 1, by go_num, by omega, HS3⟩
                  case measure => simp [intOf]; omega
              -- END6
          -- END1
        · -- BEGIN7
          obtain rfl : v = 16 := by omega
          have hl' : ¬ ((16 : Nat) : Int) ≤ 15 := by omega
          have w2 : IntKind.i64.wrap ((i : Int) - 1) = (i : Int) - 1 := IntWalk.i64_in _ (by omega)
          go_wp2_with fail
          go_roundw
          case rel => exact ⟨i, (i : Int) - 1, gg, rfl, rfl, by omega, hide (HV.out.congr fun k u h1 h2 h3 => by
            unfold mixU
            by_cases hk : k = i
            · rw [if_pos hk, if_pos h3, hk]
            · rw [if_neg hk])⟩
          case measure => first | (simp [intOf]; omega) | simp [intOf]
          -- END7
end Go.Proofs.YtmpegkojencbjaaDoor
/- School: the reference's Restore, walked. -/
namespace Go.Proofs.YtmpegkojencbjaaDoor
open Go Go.RowKit Go.Shelf
set_option maxHeartbeats 4000000
set_option maxRecDepth 100000
/-- what choosing reading v of copy i costs in the reference -/
def coF (p r : Nat → Int) (n i : Nat) (v : Nat) : Int := if i = 0 then UF p r n 0 v else cstF (UF p r n i) (aLF p r n (p i).toNat) v
theorem allF_succ (p : Nat → Int) (T : Nat → Nat → Int) (i : Nat) : ∃ x, allF p T (i + 1) = allF p T i ++ [x] := ⟨_, rfl⟩
section
variable {p r : Nat → Int} {n : Nat} (hc : cpAll p r n = true) (hn : n ≤ 20)
include hc hn
theorem co_best {i : Nat} (hi : i < n) : (scF (coF p r n i) (-1, 99) 16).1 = aLF p r n i := by
  have hok := cpOk_p (cpAll_at hc i hi)
  rw [aLF_eq hc hi]
  by_cases h0 : i = 0
  · subst h0
    have h1 : ¬ 0 ≤ p 0 := by have := hok.2.1 rfl; omega
    rw [if_neg h1]
    have e : coF p r n 0 = barU (r 0) (rwF p r n 0) := by funext v; unfold coF; rw [if_pos rfl]; rfl
    rw [e]
    exact (mn_root (r := r 0) (f := rwF p r n 0) ⟨hok.2.2.2.1, hok.2.2.2.2⟩ (fun v => raw_bd hc hn hi v)).1
  · have h1 : 0 ≤ p i := hok.2.2.1 (by omega)
    rw [if_pos h1]
    have e : coF p r n i = cstF (barU (r i) (rwF p r n i)) (aLF p r n (p i).toNat) := by funext v; unfold coF; rw [if_neg h0]; rfl
    rw [e]
    exact (mn_best (r := r i) (f := rwF p r n i) ⟨hok.2.2.2.1, hok.2.2.2.2⟩ (fun v => raw_bd hc hn hi v) _).2
omit hc hn in
theorem allF_put {i : Nat} (hi : i < n) : allF p (tabF p r n n) (i + 1) = allF p (tabF p r n n) i ++ [aLF p r n i] := by
  obtain ⟨x, hx⟩ := allF_succ p (tabF p r n n) i
  have h : aLF p r n i = x := by
    unfold aLF
    rw [allF_getD p _ n hi, hx, List.getD_eq_getElem?_getD, List.getElem?_append_right (by rw [allF_len]; exact Nat.le_refl _), allF_len, Nat.sub_self]
    rfl
  rw [hx, h]
omit hc hn in
theorem allF_read {i k : Nat} (hi : i ≤ n) (hk : k < i) : (allF p (tabF p r n n) i).getD k 0 = aLF p r n k := by
  unfold aLF
  rw [allF_getD p _ i hk, allF_getD p _ n (by omega)]
omit hc hn in
theorem cg_bd : ∀ q, 0 ≤ cgF p r n q ∧ cgF p r n q ≤ q
  | 0 => by simp [cgF]
  | q + 1 => by
    have ih := cg_bd q
    have e : cgF p r n (q + 1) = cgF p r n q + if 0 < q ∧ aLF p r n (p q).toNat ≠ aLF p r n q then 1 else 0 := rfl
    rw [e]
    split <;> omega
end
end Go.Proofs.YtmpegkojencbjaaDoor
/- School: the reference's Restore, walked. -/
namespace Go.Proofs.YtmpegkojencbjaaDoor
open Go Go.RowKit Go.Shelf
set_option maxHeartbeats 4000000
set_option maxRecDepth 100000
theorem OwnJ.low {W : World} {n0 n1 : Nat} {v : Value} {l : List Int} (h : OwnJ W n0 v l) (hb : n1 ≤ n0) : OwnJ W n1 v l := ⟨h.1, h.2.imp id fun ⟨g, cap, cur, h1, h2, h3⟩ => ⟨g, cap, cur, h1, Nat.le_trans hb h2, h3⟩⟩
theorem refRestore_any (A B : Option Addr) (c d : Nat) (P R : List Int) (w : World) (hn0 : P.length ≤ 20) (hn1 : 0 < P.length) (hl : R.length = P.length) (hcp : cpAll (pF P) (pF R) P.length = true) (hP : LI w w.heap.size A P) (hR : LI w w.heap.size B R) :
    Calls Tryd.prog 28 #[.slice A P.length c, .slice B R.length d] w fun e w' => ∃ v, e = .returned (.tuple #[v, .int .i64 (cgF (pF P) (pF R) P.length P.length)]) ∧ OwnJ w' w.heap.size v (allF (pF P) (tabF (pF P) (pF R) P.length P.length) P.length) ∧ Below w.heap.size w w' := by
  have HTB := refTable_any A B c d P R w hn0 hl hcp hP hR
  have HP := hide hP
  obtain ⟨n, hn⟩ : ∃ n, P.length = n := ⟨_, rfl⟩
  rw [hl] at HTB ⊢
  rw [hn] at hn0 hn1 hcp hl HTB ⊢
  have HN := hide (And.intro hn hl)
  have HC := hide hcp
  have HN0 := hide hn0
  obtain ⟨p, hp⟩ : ∃ p, pF P = p := ⟨_, rfl⟩
  obtain ⟨r, hr⟩ : ∃ p, pF R = p := ⟨_, rfl⟩
  rw [hp, hr] at HC HTB ⊢
  have HPF := hide hp
  unfold TbPost at HTB
  have HTB := hide HTB
  obtain ⟨T, hT⟩ : ∃ T, tabF p r n n = T := ⟨_, rfl⟩
  have HT := hide hT
  rw [hT]
  clear hP hR hn hl hcp hp hr hT
  go_enter Tryd.func28, Tryd.ntmps28
  go_wp2_with fail
  refine HTB.out.mono ?_
  rintro e w1 ⟨D, g, rfl, hru⟩
  have HRU := hide hru
  have HO0 : Hid (OwnJ (w1.alloc (.cells #[] 3)) w1.heap.size (.slice (some ⟨w1.heap.size, 0, none⟩) 0 0) (allF p T 0)) := hide (show OwnJ (w1.alloc (.cells #[] 3)) w1.heap.size (.slice (some ⟨w1.heap.size, 0, none⟩) 0 0) [] from OwnJ.made0 w1)
  have HB0 : Hid (Below w1.heap.size w1 (w1.alloc (.cells #[] 3))) := hide ((Below.refl _ _).alloc (Nat.le_refl _) _)
  clear hru HTB
  go_upto_region 4 with fail
  generalize (w1.alloc (.cells #[] 3)) = w2 at HO0 HB0 ⊢
  go_loopw [7, 8, 9] (fun v y x wr => ∃ (i : Nat) (vl : Value), x = .int .i64 i ∧ i ≤ n ∧ v = vl ∧ y = .int .i64 (cgF p r n i) ∧ Hid (OwnJ wr w1.heap.size vl (allF p T i)) ∧ Hid (Below w1.heap.size w1 wr)) (fun _ _ x _ => n - (intOf x).toNat)
  case atStart => exact ⟨0, _, rfl, by omega, rfl, rfl, HO0, HB0⟩
  case round =>
    obtain ⟨i, vl, rfl, hi, rfl, rfl, HO, HB⟩ := hrel
    clear HO0 HB0
    obtain ⟨vA, vc, hv⟩ := own_shape HO.out
    subst hv
    rw [allF_len] at HO ⊢
    by_cases hin : i < n
    · -- BEGIN1
      have hin' : (i : Int) < (n : Int) := by omega
      have i0 : (0 : Int) ≤ (i : Int) := by omega
      go_upto_region 8 with fail
      go_loopw [10, 11, 12] (fun b m x wx => ∃ (u : Nat), x = .int .i64 u ∧ u ≤ 16 ∧ b = .int .i64 (scF (coF p r n i) (-1, 99) u).1 ∧ m = .int .i64 (scF (coF p r n i) (-1, 99) u).2 ∧ Hid (OwnJ wx w1.heap.size (.slice vA i vc) (allF p T i)) ∧ Hid (Below w1.heap.size w1 wx)) (fun _ _ x _ => 16 - (intOf x).toNat)
      case atStart => exact ⟨0, rfl, by omega, rfl, rfl, HO, HB⟩
      case round =>
        obtain ⟨u, rfl, hu, rfl, rfl, HX, HY⟩ := hrel
        clear HO HB
        have hok := cpOk_p (cpAll_at HC.out i hin)
        obtain ⟨pb, po, rfl, hpb, b0⟩ := VR1.at_ HP.out (k := i) (by rw [HN.out.1]; exact hin)
        have b1 : w.cell? ⟨pb, po + i, none⟩ = some (.int .i64 (p i)) := by rw [← HPF.out]; exact b0
        have cP := (HY.out.cell (p := ⟨pb, po + i, none⟩) (Nat.lt_of_lt_of_le hpb HRU.out.below.size)).trans ((HRU.out.below.cell (p := ⟨pb, po + i, none⟩) hpb).trans b1)
        have b00 := b0
        clear b1
        by_cases hu16 : u < 16
        · -- BEGIN2
          have hu' : (u : Int) ≤ 15 := by omega
          have u0 : (0 : Int) ≤ (u : Int) := by omega
          have u16 : (u : Int) < 16 := by omega
          have wu1 : IntKind.i64.wrap ((u : Int) + 1) = ((u + 1 : Nat) : Int) := by rw [IntWalk.i64_in _ (by omega)]; omega
          obtain ⟨e1, e2, -, lg⟩ := HRU.out.at_ (k := i) (v := u) (Nat.zero_le _) hin hu16
          have c1 := (HY.out.cell (p := ⟨D, i, none⟩) HRU.out.blk.lt).trans e1
          have c2 := (HY.out.cell (p := ⟨g i, u, none⟩) lg).trans e2
          have hbd := UF_bd HC.out HN0.out (k := i) hin u
          clear e1 e2
          have hm : scF (coF p r n i) (-1, 99) (u + 1) = if coF p r n i u < (scF (coF p r n i) (-1, 99) u).2 then ((u : Int), coF p r n i u) else scF (coF p r n i) (-1, 99) u := rfl
          obtain ⟨s, hs⟩ : ∃ s, scF (coF p r n i) (-1, 99) u = s := ⟨_, rfl⟩
          rw [hs] at hm ⊢
          obtain ⟨s1, s2⟩ := s
          dsimp only at hm ⊢
          obtain ⟨gi, hgi⟩ : ∃ x, g i = x := ⟨_, rfl⟩
          rw [hgi] at c1 c2 lg
          clear hs hgi
          by_cases hi0 : i = 0
          · have hco : coF p r n i u = UF p r n i u := by unfold coF; rw [if_pos hi0, hi0]
            rw [hco] at hm
            have hi1 : ¬ (0 : Int) < (i : Int) := by omega
            obtain ⟨t, ht⟩ : ∃ t, UF p r n i u = t := ⟨_, rfl⟩
            rw [ht] at hm c2 hbd
            clear ht hco hok hi0
            by_cases hlt2 : t < s2
            · rw [if_pos hlt2] at hm
              have HM := hide hm
              clear hm
              go_wp2_with fail
              go_roundw
              case rel => exact ⟨u + 1, by go_num, by omega, by rw [HM.out], by rw [HM.out], HX, HY⟩
              case measure => simp [intOf]; omega
            · rw [if_neg hlt2] at hm
              have HM := hide hm
              clear hm
              go_wp2_with fail
              go_roundw
              case rel => exact ⟨u + 1, by go_num, by omega, by rw [HM.out], by rw [HM.out], HX, HY⟩
              case measure => simp [intOf]; omega
          · have hi1 : (0 : Int) < (i : Int) := by omega
            obtain ⟨q, hq⟩ : ∃ q : Nat, p i = (q : Int) := ⟨(p i).toNat, by omega⟩
            have hqi : q < i := by omega
            have q0 : (0 : Int) ≤ (q : Int) := by omega
            have qi : (q : Int) < (i : Int) := by omega
            have hqn : (p i).toNat = q := by omega
            obtain ⟨ab, ao, hA, hab, ca⟩ := VR1.at_ (HX.out.li).2 (k := q) (by rw [allF_len]; exact hqi)
            have ha : (allF p T i).getD q 0 = aLF p r n q := by rw [← HT.out]; exact allF_read (by omega) hqi
            rw [ha] at ca
            subst hA
            have hco : coF p r n i u = if (u : Int) = aLF p r n q then UF p r n i u else UF p r n i u + 1 := by unfold coF; rw [if_neg hi0, hqn]; rfl
            rw [hco] at hm
            rw [hq] at cP
            obtain ⟨t, ht⟩ : ∃ t, UF p r n i u = t := ⟨_, rfl⟩
            obtain ⟨a, haa⟩ : ∃ t, aLF p r n q = t := ⟨_, rfl⟩
            rw [ht] at hm c2 hbd
            rw [haa] at hm ca
            clear ht hco hok ha haa hq hqn
            by_cases hua : a = (u : Int)
            · subst hua
              rw [if_pos rfl] at hm
              by_cases hlt2 : t < s2
              · rw [if_pos hlt2] at hm
                have HM := hide hm
                clear hm
                go_wp2_with fail
                go_roundw
                case rel => exact ⟨u + 1, by go_num, by omega, by rw [HM.out], by rw [HM.out], HX, HY⟩
                case measure => simp [intOf]; omega
              · rw [if_neg hlt2] at hm
                have HM := hide hm
                clear hm
                go_wp2_with fail
                go_roundw
                case rel => exact ⟨u + 1, by go_num, by omega, by rw [HM.out], by rw [HM.out], HX, HY⟩
                case measure => simp [intOf]; omega
            · rw [if_neg (show ¬ ((u : Int) = a) from fun h => hua h.symm)] at hm
              have wt : IntKind.i64.wrap (t + 1) = t + 1 := IntWalk.i64_in _ (by omega)
              by_cases hlt2 : t + 1 < s2
              · rw [if_pos hlt2] at hm
                have HM := hide hm
                clear hm
                go_wp2_with fail
                go_roundw
                case rel => exact ⟨u + 1, by go_num, by omega, by rw [HM.out], by rw [HM.out], HX, HY⟩
                case measure => simp [intOf]; omega
              · rw [if_neg hlt2] at hm
                have HM := hide hm
                clear hm
                go_wp2_with fail
                go_roundw
                case rel => exact ⟨u + 1, by go_num, by omega, by rw [HM.out], by rw [HM.out], HX, HY⟩
                case measure => simp [intOf]; omega
          -- END2
        · -- BEGIN3
          obtain rfl : u = 16 := by omega
          have hu' : ¬ ((16 : Nat) : Int) ≤ 15 := by omega
          rw [co_best HC.out HN0.out hin]
          have hst : IntKind.i64.wrap ((i : Int) + 1) = ((i + 1 : Nat) : Int) := by rw [IntWalk.i64_in _ (by omega)]; omega
          obtain ⟨v', w', hrun, ho, hg⟩ := HX.out.push (aLF p r n i) (by rw [allF_len]; omega) HY.out.size
          have hput : allF p T i ++ [aLF p r n i] = allF p T (i + 1) := by rw [← HT.out]; exact (allF_put hin).symm
          rw [hput] at ho
          obtain ⟨A2, c2, hv2⟩ := own_shape ho
          subst hv2
          rw [allF_len] at ho hrun
          have hby := (((HY.out.trans (((Below.refl wr.heap.size wr).alloc (Nat.le_refl _) _).mono HY.out.size))).grown hg (Nat.le_trans HY.out.size (by simp)) (fun k hk => (World.ownsRow.lt HX.out k hk).1))
          have HRUN := hide hrun
          have HO2 := hide ho
          have HY2 := hide hby
          have hcg : cgF p r n (i + 1) = cgF p r n i + if 0 < i ∧ aLF p r n (p i).toNat ≠ aLF p r n i then 1 else 0 := rfl
          have hbd := cg_bd (p := p) (r := r) (n := n) i
          have cP2 := (HY2.out.cell (p := ⟨pb, po + i, none⟩) (Nat.lt_of_lt_of_le hpb HRU.out.below.size)).trans ((HRU.out.below.cell (p := ⟨pb, po + i, none⟩) hpb).trans (show w.cell? ⟨pb, po + i, none⟩ = some (.int .i64 (p i)) by rw [← HPF.out]; exact b00))
          clear hrun ho hg hby hput cP
          by_cases hi0 : i = 0
          · have hi1 : ¬ (0 : Int) < (i : Int) := by omega
            rw [if_neg (by omega), Int.add_zero] at hcg
            have HCG := hide hcg
            clear hcg hok hi0
            go_wp2_with (at_builtin; refine wpList_append_run rfl (.tmp 55) (.tmp 57) 36 rfl rfl rfl HRUN.out ?_)
            go_roundw
            case rel => exact ⟨i + 1, _, by go_num, by omega, rfl, by rw [HCG.out], HO2, HY2⟩
            case measure => simp [intOf]; omega
          · have hi1 : (0 : Int) < (i : Int) := by omega
            obtain ⟨q, hq⟩ : ∃ q : Nat, p i = (q : Int) := ⟨(p i).toNat, by omega⟩
            have hqi : q < i := by omega
            have q0 : (0 : Int) ≤ (q : Int) := by omega
            have qi : (q : Int) < ((i + 1 : Nat) : Int) := by omega
            have hqn : (p i).toNat = q := by omega
            obtain ⟨ab, ao, hA, hab, ca⟩ := VR1.at_ (HO2.out.li).2 (k := q) (by rw [allF_len]; omega)
            have ha : (allF p T (i + 1)).getD q 0 = aLF p r n q := by rw [← HT.out]; exact allF_read (by omega) (by omega)
            rw [ha] at ca
            subst hA
            rw [hqn] at hcg
            rw [hq] at cP2
            obtain ⟨bi, hbi⟩ : ∃ t, aLF p r n i = t := ⟨_, rfl⟩
            obtain ⟨a, haa⟩ : ∃ t, aLF p r n q = t := ⟨_, rfl⟩
            obtain ⟨cg, hcgg⟩ : ∃ t, cgF p r n i = t := ⟨_, rfl⟩
            rw [hbi, haa, hcgg] at hcg
            rw [hcgg] at hbd
            rw [haa] at ca
            rw [hbi] at HRUN
            rw [hbi, hcgg]
            have wc : IntKind.i64.wrap (cg + 1) = cg + 1 := IntWalk.i64_in _ (by omega)
            obtain ⟨N, hNe⟩ : ∃ N, i + 1 = N := ⟨_, rfl⟩
            have HNE := hide hNe
            rw [hNe] at qi HRUN HO2 hcg hst
            clear hbi haa hcgg ha hq hqn hok hNe
            by_cases hab2 : a = bi
            · subst hab2
              rw [if_neg (by simp), Int.add_zero] at hcg
              have HCG := hide hcg
              clear hcg
              go_wp2_with (at_builtin; refine wpList_append_run rfl (.tmp 55) (.tmp 57) 36 rfl rfl rfl HRUN.out ?_)
              go_roundw
              case rel => exact ⟨N, _, by go_num, by have := HNE.out; omega, rfl, by rw [HCG.out], HO2, HY2⟩
              case measure => have := HNE.out; simp [intOf]; omega
            · rw [if_pos ⟨by omega, hab2⟩] at hcg
              have HCG := hide hcg
              clear hcg
              go_wp2_with (at_builtin; refine wpList_append_run rfl (.tmp 55) (.tmp 57) 36 rfl rfl rfl HRUN.out ?_)
              go_roundw
              case rel => exact ⟨N, _, by go_num, by have := HNE.out; omega, rfl, by rw [HCG.out], HO2, HY2⟩
              case measure => have := HNE.out; simp [intOf]; omega
          -- END3
      -- END1
    · -- BEGIN4
      obtain rfl : n = i := by omega
      have hnl : ¬ (n : Int) < (n : Int) := by omega
      go_wp2_with fail
      go_ret2
      exact ⟨_, rfl, HO.out.low HRU.out.below.size, HRU.out.below.trans (HB.out.mono HRU.out.below.size)⟩
      -- END4
end Go.Proofs.YtmpegkojencbjaaDoor
/- School: the law SchoolRestores, walked. -/
namespace Go.Proofs.YtmpegkojencbjaaDoor
open Go Go.RowKit Go.Shelf
set_option maxHeartbeats 4000000
set_option maxRecDepth 100000
theorem rsR_long {P R : List Int} (h : 20 < P.length) : rsR P R = ([], 0, 5) := by unfold rsR; rw [if_pos h]
theorem rsR_no {P R : List Int} (h : ¬ 20 < P.length) (hc : cpB P R = false) : rsR P R = ([], 0, 2) := by
  unfold rsR
  rw [if_neg h, if_pos]
  unfold cpB at hc
  by_cases h1 : P.length = 0
  · exact .inl h1
  · by_cases h2 : R.length = P.length
    · rw [decide_eq_false h1, decide_eq_true h2] at hc
      exact .inr (.inr hc)
    · exact .inr (.inl h2)
theorem cpB_yes {P R : List Int} (hc : cpB P R = true) : 0 < P.length ∧ R.length = P.length ∧ cpAll (pF P) (pF R) P.length = true := by
  unfold cpB at hc
  rw [Bool.and_eq_true, Bool.and_eq_true] at hc
  obtain ⟨h1, h2, h3⟩ := hc
  have h2 := of_decide_eq_true h2
  refine ⟨?_, h2, h3⟩
  rcases Nat.eq_zero_or_pos P.length with h | h
  · rw [decide_eq_true h] at h1; cases h1
  · exact h
theorem rsR_yes {P R : List Int} (h : ¬ 20 < P.length) (hc : cpB P R = true) : rsR P R = (allF (pF P) (tabF (pF P) (pF R) P.length P.length) P.length, cgF (pF P) (pF R) P.length P.length, 0) := by
  obtain ⟨h1, h2, h3⟩ := cpB_yes hc
  have hcnt := count_all h3 (by omega) h1
  unfold rsR
  rw [if_neg h, if_neg (by
    rintro (h4 | h4 | h4)
    · omega
    · exact h4 h2
    · have h5 : cpAll (pF P) (pF R) P.length = false := h4
      rw [h3] at h5; cases h5)]
  rw [← hcnt]
  rfl
theorem restores_any (A B : Option Addr) (c d : Nat) (P R : List Int) (w : World) (hp : P.length ≤ maxLen) (hr : R.length ≤ maxLen) (hP : LI w w.heap.size A P) (hR : LI w w.heap.size B R) :
    Calls Tryd.prog 5 #[.slice A P.length c, .slice B R.length d] w fun e w' => e = .returned (.bool true) ∧ Below w.heap.size w w' := by
  unfold maxLen at hp hr
  have HP := hide hP
  have HR := hide hR
  obtain ⟨n, hn⟩ : ∃ n, P.length = n := ⟨_, rfl⟩
  obtain ⟨m, hm⟩ : ∃ n, R.length = n := ⟨_, rfl⟩
  have HN := hide (And.intro hn hm)
  rw [hn] at hp ⊢
  rw [hm] at hr ⊢
  clear hP hR hn hm
  by_cases h1 : 25 < n
  · have h1' : (25 : Int) < (n : Int) := by omega
    have HK := hide (known_any w)
    go_enter Tryd.func5, Tryd.ntmps5
    go_wp2_with fail
    refine HK.out.mono ?_
    rintro e w6 ⟨rfl, hb6⟩
    go_wp2_with fail
    go_ret
    exact ⟨rfl, hb6⟩
  have h1' : ¬ (25 : Int) < (n : Int) := by omega
  by_cases h2 : 25 < m
  · have h2' : (25 : Int) < (m : Int) := by omega
    have HK := hide (known_any w)
    go_enter Tryd.func5, Tryd.ntmps5
    go_wp2_with fail
    refine HK.out.mono ?_
    rintro e w6 ⟨rfl, hb6⟩
    go_wp2_with fail
    go_ret
    exact ⟨rfl, hb6⟩
  have h2' : ¬ (25 : Int) < (m : Int) := by omega
  have HW1 := numbers_any A c P w (by rw [HN.out.1]; omega) HP.out
  rw [HN.out.1] at HW1
  have HW1 := hide HW1
  have HW2 : Hid (∀ W, Below w.heap.size w W → Calls Tryd.prog 24 #[.slice B m d] W fun e w' => ∃ v, e = .returned v ∧ OwnJ w' W.heap.size v R ∧ Below W.heap.size W w') := hide fun W h => by
    have := numbers_any B d R W (by rw [HN.out.2]; omega) ((ER.below HR.out h (Nat.le_refl _)).more h.size)
    rwa [HN.out.2] at this
  go_enter Tryd.func5, Tryd.ntmps5
  go_wp2_with fail
  refine HW1.out.mono ?_
  rintro e w1 ⟨v1, rfl, ho1, hb1⟩
  obtain ⟨A1, c1, rfl⟩ := own_shape ho1
  have B1 := hide hb1
  have O1 := hide ho1
  rw [HN.out.1]
  clear hb1 ho1
  go_wp2_with fail
  refine (HW2.out w1 B1.out).mono ?_
  rintro e w2 ⟨v2, rfl, ho2, hb2⟩
  obtain ⟨A2, c2, rfl⟩ := own_shape ho2
  have B2 := hide (B1.out.trans (hb2.mono B1.out.size))
  have hs1 := (OwnJ.li (OwnJ.ext O1.out hb2)).2
  have hs2 := (OwnJ.li ho2).2
  rw [HN.out.2]
  have HMG := Restore_any A1 A2 c1 c2 P R w2 hs1 hs2
  rw [HN.out.1, HN.out.2] at HMG
  obtain ⟨q, hq⟩ : ∃ q, rsR P R = q := ⟨_, rfl⟩
  rw [hq] at HMG
  obtain ⟨ml, me, mc⟩ := q
  have HRS := hide hq
  unfold RsPost at HMG
  dsimp only at HMG
  have HMG := hide HMG
  have HS1 := hide hs1
  have HS2 := hide hs2
  clear hb2 ho2 hs1 hs2 hq O1 B1
  go_wp2_with fail
  refine HMG.out.mono ?_
  rintro e w4 ⟨v4, rfl, ho4, hb4⟩
  obtain ⟨A4, c4, hv4⟩ := own_shape ho4
  subst hv4
  have B4 := hide (B2.out.trans (hb4.mono B2.out.size))
  have O4 := hide ho4
  have HS3 := hide ((ER.below HS1.out hb4 (Nat.le_refl _)).more hb4.size)
  have HS4 := hide ((ER.below HS2.out hb4 (Nat.le_refl _)).more hb4.size)
  have HE1 := equal_any A1 A c1 c P P w4 (by rw [HN.out.1]; unfold maxLen; omega) HS3.out ((ER.below HP.out B4.out (Nat.le_refl _)).more B4.out.size)
  rw [HN.out.1, decide_eq_true rfl] at HE1
  have HE1 := hide HE1
  have HE2 : Hid (∀ W, Below w4.heap.size w4 W → Calls Tryd.prog 26 #[.slice A2 m c2, .slice B m d] W fun e w' => e = .returned (.bool true) ∧ Below W.heap.size W w') := hide fun W hW => by
    have := equal_any A2 B c2 d R R W (by rw [HN.out.2]; unfold maxLen; omega) ((ER.below HS4.out hW (Nat.le_refl _)).more hW.size) ((ER.below HR.out (B4.out.trans (hW.mono B4.out.size)) (Nat.le_refl _)).more (Nat.le_trans B4.out.size hW.size))
    rw [HN.out.2, decide_eq_true rfl] at this
    exact this
  clear ho4 hb4 HMG HW1 HW2
  go_wp2_with fail
  refine HE1.out.mono ?_
  rintro e w5 ⟨rfl, hb5⟩
  have B45 := hide hb5
  clear hb5
  go_wp2_with fail
  refine (HE2.out w5 B45.out).mono ?_
  rintro e w7 ⟨rfl, hb7⟩
  have B47 := hide (B45.out.trans (hb7.mono B45.out.size))
  have B7 := hide (B4.out.trans (B47.out.mono B4.out.size))
  have HK := hide (known_any w7)
  clear hb7 HE1 HE2 B45
  by_cases h20 : 20 < n
  · have h20' : (20 : Int) < (n : Int) := by omega
    have hr := HRS.out
    rw [rsR_long (by rw [HN.out.1]; exact h20)] at hr
    injection hr with hr1 hr2
    injection hr2 with hr2 hr3
    subst hr1 hr2 hr3
    go_wp2_with fail
    refine HK.out.mono ?_
    rintro e w6 ⟨rfl, hb6⟩
    go_wp2_with fail
    go_ret
    exact ⟨rfl, B7.out.trans (hb6.mono B7.out.size)⟩
  have h20' : ¬ (20 : Int) < (n : Int) := by omega
  have HCO := refCopies_any A B c d P R w7 (by rw [HN.out.1]; omega) ((ER.below HP.out B7.out (Nat.le_refl _)).more B7.out.size) ((ER.below HR.out B7.out (Nat.le_refl _)).more B7.out.size)
  rw [HN.out.1, HN.out.2] at HCO
  rcases hcb : cpB P R with _ | _
  · rw [hcb] at HCO
    have HCO := hide HCO
    have hr := HRS.out
    rw [rsR_no (by rw [HN.out.1]; exact h20) hcb] at hr
    injection hr with hr1 hr2
    injection hr2 with hr2 hr3
    subst hr1 hr2 hr3
    clear hcb
    go_wp2_with fail
    refine HCO.out.mono ?_
    rintro e _ ⟨rfl, rfl⟩
    go_wp2_with fail
    refine HK.out.mono ?_
    rintro e w6 ⟨rfl, hb6⟩
    go_wp2_with fail
    go_ret
    exact ⟨rfl, B7.out.trans (hb6.mono B7.out.size)⟩
  rw [hcb] at HCO
  have HCO := hide HCO
  obtain ⟨g1, g2, g3⟩ := cpB_yes hcb
  have HRR := refRestore_any A B c d P R w7 (by rw [HN.out.1]; omega) g1 g2 g3 ((ER.below HP.out B7.out (Nat.le_refl _)).more B7.out.size) ((ER.below HR.out B7.out (Nat.le_refl _)).more B7.out.size)
  have hr := HRS.out
  rw [rsR_yes (by rw [HN.out.1]; exact h20) hcb] at hr
  injection hr with hr1 hr2
  injection hr2 with hr2 hr3
  have hlen := allF_len (pF P) (tabF (pF P) (pF R) P.length P.length) P.length
  rw [hr1] at HRR hlen
  rw [hr2] at HRR
  subst hr3
  rw [HN.out.1, HN.out.2] at HRR
  rw [HN.out.1] at hlen
  have HRR := hide HRR
  have HLEN := hide hlen
  clear hcb g1 g2 g3 hr1 hr2 hlen HK
  go_wp2_with fail
  refine HCO.out.mono ?_
  rintro e _ ⟨rfl, rfl⟩
  go_wp2_with fail
  refine HRR.out.mono ?_
  rintro e w8 ⟨v8, rfl, ho8, hb8⟩
  obtain ⟨A8, c8, hv8⟩ := own_shape ho8
  subst hv8
  have HSM := equal_any A4 A8 c4 c8 ml ml w8 (by have := HLEN.out; unfold maxLen; omega) (OwnJ.li (OwnJ.ext O4.out (B47.out.trans (hb8.mono B47.out.size)))).2 (OwnJ.li ho8).2
  rw [decide_eq_true rfl] at HSM
  have HSM := hide HSM
  have B8 := hide (B7.out.trans (hb8.mono B7.out.size))
  clear ho8 hb8 HRR
  go_wp2_with fail
  refine HSM.out.mono ?_
  rintro e w9 ⟨rfl, hb9⟩
  have B9 := hide (B8.out.trans (hb9.mono B8.out.size))
  clear hb9
  go_wp2_with fail
  refine (known_any w9).mono ?_
  rintro e w10 ⟨rfl, hb10⟩
  go_wp2_with fail
  go_ret
  exact ⟨rfl, B9.out.trans (hb10.mono B9.out.size)⟩
end Go.Proofs.YtmpegkojencbjaaDoor
/- School, plain: no readings show fewer changes than Restore's; how many different ones there are; neighbours. -/
namespace Go.Proofs.YtmpegkojencbjaaDoor
open Go Go.RowKit Go.Shelf
set_option maxHeartbeats 2000000
set_option maxRecDepth 100000
set_option linter.unusedSectionVars false
/-- the changes that any readings show, among the first q copies -/
def cgA (p : Nat → Int) (f : Nat → Nat) : Nat → Int
  | 0 => 0
  | q + 1 => cgA p f q + if 0 < q ∧ f (p q).toNat ≠ f q then 1 else 0
theorem cgA_nn (p : Nat → Int) (f : Nat → Nat) : ∀ q, 0 ≤ cgA p f q
  | 0 => Int.le_refl _
  | q + 1 => by
    have := cgA_nn p f q
    show 0 ≤ cgA p f q + _
    split <;> omega
theorem bs_le {p r : Nat → Int} {n i x : Nat} (hx : x < 16) (hb : barI (r i) x = false) (v : Int) : bsF p r n i v ≤ rwF p r n i x + if (x : Int) = v then 0 else 1 := by
  unfold bsF
  rw [bestF_sc]
  refine Int.le_trans (scF_le (cstF (barT (r i) (rwF p r n i)) v) (0, 1000000) 16 hx) ?_
  unfold cstF barT
  rw [hb]
  simp only [Bool.false_eq_true, if_false]
  split <;> omega
section
variable {p r : Nat → Int} {n : Nat} (hc : cpAll p r n = true)
include hc
theorem cost_any {f : Nat → Nat} (hf : ∀ k, k < n → f k < 16 ∧ barI (r k) (f k) = false) : ∀ m, m + 1 ≤ n → smI (fun k => tabF p r n m k (f k)) (n - m) + cgA p f (n - m) ≤ cgA p f n
  | 0, _ => by
    have : ∀ j, smI (fun k => tabF p r n 0 k (f k)) j = 0 := fun j => by
      induction j with
      | zero => rfl
      | succ j ih => show smI _ j + 0 = 0; rw [ih]; rfl
    rw [this, Nat.sub_zero, Int.zero_add]
    exact Int.le_refl _
  | m + 1, hm => by
    have ih := cost_any hf m (by omega)
    obtain ⟨i, hi⟩ : ∃ i, n - 1 - m = i := ⟨_, rfl⟩
    rw [show n - m = i + 1 by omega] at ih
    rw [show n - (m + 1) = i by omega]
    have hi0 : 0 < i := by omega
    have hok := cpOk_p (cpAll_at hc i (by omega))
    have h1 := bs_le (p := p) (r := r) (n := n) (hf i (by omega)).1 (hf i (by omega)).2 (f (p i).toNat : Nat)
    have hrw : rwF p r n i = tabF p r n m i := by unfold rwF; rw [show n - 1 - i = m by omega]
    have e1 : smI (fun k => tabF p r n m k (f k)) (i + 1) = smI (fun k => tabF p r n m k (f k)) i + tabF p r n m i (f i) := rfl
    have e2 : cgA p f (i + 1) = cgA p f i + if 0 < i ∧ f (p i).toNat ≠ f i then 1 else 0 := rfl
    rw [e1, e2] at ih
    have e3 : (if 0 < i ∧ f (p i).toNat ≠ f i then (1 : Int) else 0) = if ((f i : Nat) : Int) = (f (p i).toNat : Nat) then 0 else 1 := by
      by_cases h : f (p i).toNat = f i
      · rw [if_neg (fun h2 => h2.2 h), if_pos (by rw [h])]
      · rw [if_pos ⟨hi0, h⟩, if_neg (by omega)]
    rw [e3] at ih
    have h2 := smI_one (fun k => tabF p r n m k (f k)) (fun k => tabF p r n (m + 1) k (f k)) (p i).toNat (bsF p r n i (f (p i).toNat : Nat)) i (fun k hk => by
      have h3 : tabF p r n (m + 1) k (f k) = stepT p r i (tabF p r n m) k (f k) := by rw [← hi]; rfl
      show tabF p r n (m + 1) k (f k) = if k = (p i).toNat then tabF p r n m k (f k) + _ else tabF p r n m k (f k)
      rw [h3]
      unfold stepT
      rw [if_neg (by omega)]
      by_cases hk2 : (k : Int) = p i
      · have hk3 : k = (p i).toNat := by omega
        rw [if_pos ⟨hi0, hk2⟩, if_pos hk3]
        unfold bsF
        rw [hrw, ← hk3]
      · rw [if_neg (fun h => hk2 h.2), if_neg (by omega)])
    rw [if_pos (by omega)] at h2
    rw [h2]
    rw [hrw] at h1
    omega
end
section
variable {p r : Nat → Int} {n : Nat} (hc : cpAll p r n = true) (hn : n ≤ 20)
include hc hn
/-- no readings that are allowed show fewer changes -/
theorem least_any (h0 : 0 < n) {f : Nat → Nat} (hf : ∀ k, k < n → f k < 16 ∧ barI (r k) (f k) = false) : cgF p r n n ≤ cgA p f n := by
  rw [← count_all hc hn h0, tab_done hc h0 n (by omega) (Nat.le_refl _)]
  have h1 := cost_any hc hf (n - 1) (by omega)
  rw [show n - (n - 1) = 1 by omega] at h1
  have e1 : smI (fun k => tabF p r n (n - 1) k (f k)) 1 = 0 + tabF p r n (n - 1) 0 (f 0) := rfl
  have e2 : cgA p f 1 = 0 + if 0 < 0 ∧ f (p 0).toNat ≠ f 0 then 1 else 0 := rfl
  rw [if_neg (by omega)] at e2
  rw [e1, e2] at h1
  have h2 := bs_le (p := p) (r := r) (n := n) (hf 0 h0).1 (hf 0 h0).2 (-1)
  rw [if_neg (by omega)] at h2
  have hrw : rwF p r n 0 = tabF p r n (n - 1) 0 := by unfold rwF; rw [show n - 1 - 0 = n - 1 by omega]
  unfold bsF at h2
  rw [hrw] at h2 ⊢
  omega
/-- a reading of Restore's answer -/
theorem aLF_ok {i : Nat} (hi : i < n) : ∃ x : Nat, x < 16 ∧ barI (r i) x = false ∧ aLF p r n i = (x : Int) := by
  have hok := cpOk_p (cpAll_at hc i hi)
  have h1 := aLF_eq hc hi
  obtain ⟨v, hv⟩ : ∃ v, (if 0 ≤ p i then aLF p r n (p i).toNat else -1) = v := ⟨_, rfl⟩
  rw [hv] at h1
  obtain ⟨x, hx, hb⟩ := best_at (r := r i) (f := rwF p r n i) ⟨hok.2.2.2.1, hok.2.2.2.2⟩ (fun v => raw_bd hc hn hi v) v
  obtain ⟨y, hy, hby⟩ := bar_free (r := r i) ⟨hok.2.2.2.1, hok.2.2.2.2⟩
  refine ⟨x, hx, ?_, by rw [h1, hb]⟩
  have hle := scF_le (cstF (barT (r i) (rwF p r n i)) v) (0, 1000000) 16 hy
  rw [bestF_sc] at hb
  have h4 := raw_bd hc hn hi y
  have hcy : cstF (barT (r i) (rwF p r n i)) v y ≤ 91 := by
    unfold cstF barT rwF
    rw [hby]
    simp only [Bool.false_eq_true, if_false]
    split <;> omega
  cases hxx : barI (r i) x with
  | false => rfl
  | true =>
    exfalso
    rcases scF_at (cstF (barT (r i) (rwF p r n i)) v) (0, 1000000) 16 with h | ⟨z, hz, h⟩
    · rw [h] at hle; dsimp only at hle; omega
    · rw [h] at hle hb
      injection hb with hb1 hb2
      have hzx : z = x := by omega
      subst hzx
      have : 1000 ≤ cstF (barT (r i) (rwF p r n i)) v z := by
        unfold cstF barT
        rw [hxx]
        simp only [if_true]
        split <;> omega
      dsimp only at hle
      omega
theorem cgF_A : ∀ q, q ≤ n → cgF p r n q = cgA p (fun k => (aLF p r n k).toNat) q
  | 0, _ => rfl
  | q + 1, hq => by
    have ih := cgF_A q (by omega)
    show cgF p r n q + _ = cgA p _ q + _
    rw [ih]
    congr 1
    have hok := cpOk_p (cpAll_at hc q (by omega))
    by_cases h0 : 0 < q
    · obtain ⟨x, -, -, hx⟩ := aLF_ok hc hn (i := q) (by omega)
      obtain ⟨y, -, -, hy⟩ := aLF_ok hc hn (i := (p q).toNat) (by omega)
      simp only [hx, hy, Int.toNat_natCast]
      by_cases e : y = x
      · rw [if_neg (fun h2 => h2.2 (by rw [e])), if_neg (fun h2 => h2.2 e)]
      · rw [if_pos ⟨h0, fun h2 => e (by omega)⟩, if_pos ⟨h0, e⟩]
    · rw [if_neg (by omega), if_neg (by omega)]
end
/-- how many of the first n numbers P names -/
def cntB (P : Nat → Bool) : Nat → Nat
  | 0 => 0
  | n + 1 => cntB P n + if P n then 1 else 0
theorem cntB_congr {P Q : Nat → Bool} : ∀ n, (∀ v, v < n → P v = Q v) → cntB P n = cntB Q n
  | 0, _ => rfl
  | n + 1, h => by
    show cntB P n + _ = cntB Q n + _
    rw [cntB_congr n (fun v hv => h v (by omega)), h n (by omega)]
theorem cntB_put {P : Nat → Bool} {x : Nat} : ∀ n, cntB (fun v => P v || decide (v = x)) n = cntB P n + if x < n ∧ P x = false then 1 else 0
  | 0 => by rw [if_neg (by omega)]; rfl
  | n + 1 => by
    have ih := cntB_put (P := P) (x := x) n
    show cntB _ n + (if (P n || decide (n = x)) = true then 1 else 0) = cntB P n + (if P n = true then 1 else 0) + _
    rw [ih]
    by_cases e : n = x
    · subst e
      rw [if_neg (by omega)]
      cases P n <;> simp
    · rw [decide_eq_false e, Bool.or_false]
      by_cases h : x < n ∧ P x = false
      · rw [if_pos h, if_pos (show x < n + 1 ∧ P x = false from ⟨by omega, h.2⟩)]; omega
      · rw [if_neg h, if_neg (show ¬ (x < n + 1 ∧ P x = false) from fun h2 => h ⟨by omega, h2.2⟩)]; omega
theorem cntB_mono {P Q : Nat → Bool} : ∀ n, (∀ v, v < n → P v = true → Q v = true) → cntB P n ≤ cntB Q n
  | 0, _ => Nat.le_refl _
  | n + 1, h => by
    have ih := cntB_mono n (fun v hv => h v (by omega))
    show cntB P n + _ ≤ cntB Q n + _
    cases hp : P n with
    | false => simp only [Bool.false_eq_true, if_false]; omega
    | true => rw [h n (by omega) hp]; omega
theorem cntB_one {P : Nat → Bool} {x : Nat} (hp : P x = true) : ∀ n, x < n → 1 ≤ cntB P n
  | 0, h => absurd h (by omega)
  | n + 1, h => by
    show 1 ≤ cntB P n + _
    by_cases e : x = n
    · subst e; rw [if_pos hp]; omega
    · have := cntB_one hp n (by omega); omega
theorem cntB_two {P : Nat → Bool} {x y : Nat} (hp : P x = true) (hq : P y = true) (h : x < y) : ∀ n, y < n → 2 ≤ cntB P n
  | 0, h => absurd h (by omega)
  | n + 1, hn => by
    show 2 ≤ cntB P n + _
    by_cases e : y = n
    · subst e; rw [if_pos hq]; have := cntB_one hp y h; omega
    · have := cntB_two hp hq h n (by omega); omega
/-- which readings were read among the first k copies -/
def snF (r : Nat → Int) (A : Nat → Nat) : Nat → Nat → Bool
  | 0 => fun _ => false
  | k + 1 => fun v => snF r A k v || (decide (0 ≤ r k) && decide (v = A k))
/-- how many -/
def dfN (r : Nat → Int) (A : Nat → Nat) : Nat → Nat
  | 0 => 0
  | k + 1 => dfN r A k + if 0 ≤ r k ∧ snF r A k (A k) = false then 1 else 0
theorem dfN_cnt {r : Nat → Int} {A : Nat → Nat} : ∀ k, (∀ j, j < k → A j < 16) → dfN r A k = cntB (snF r A k) 16
  | 0, _ => rfl
  | k + 1, h => by
    have ih := dfN_cnt (r := r) k (fun j hj => h j (by omega))
    show dfN r A k + _ = cntB (fun v => snF r A k v || (decide (0 ≤ r k) && decide (v = A k))) 16
    rw [ih]
    by_cases h0 : 0 ≤ r k
    · rw [decide_eq_true h0]
      simp only [Bool.true_and]
      rw [cntB_put]
      have := h k (by omega)
      by_cases h1 : snF r A k (A k) = false
      · rw [if_pos ⟨h0, h1⟩, if_pos ⟨this, h1⟩]
      · rw [if_neg (fun h2 => h1 h2.2), if_neg (fun h2 => h1 h2.2)]
    · rw [decide_eq_false h0, if_neg (fun h2 => h0 h2.1)]
      simp only [Bool.false_and, Bool.or_false]
      rfl
/-- which values there are among the first k -/
def alF (A : Nat → Nat) : Nat → Nat → Bool
  | 0 => fun _ => false
  | k + 1 => fun v => alF A k v || decide (v = A k)
theorem alF_at {A : Nat → Nat} {j : Nat} : ∀ k, j < k → alF A k (A j) = true
  | 0, h => absurd h (by omega)
  | k + 1, h => by
    show (alF A k (A j) || decide (A j = A k)) = true
    by_cases e : j = k
    · subst e; simp
    · rw [alF_at k (by omega)]; rfl
theorem snF_al {r : Nat → Int} {A : Nat → Nat} {v : Nat} : ∀ k, snF r A k v = true → alF A k v = true
  | 0, h => by cases h
  | k + 1, h => by
    have h : (snF r A k v || (decide (0 ≤ r k) && decide (v = A k))) = true := h
    show (alF A k v || decide (v = A k)) = true
    rw [Bool.or_eq_true] at h ⊢
    rcases h with h | h
    · exact .inl (snF_al k h)
    · rw [Bool.and_eq_true] at h; exact .inr h.2
theorem snF_at {r : Nat → Int} {A : Nat → Nat} {j : Nat} (h0 : 0 ≤ r j) : ∀ k, j < k → snF r A k (A j) = true
  | 0, h => absurd h (by omega)
  | k + 1, h => by
    show (snF r A k (A j) || (decide (0 ≤ r k) && decide (A j = A k))) = true
    by_cases e : j = k
    · subst e; simp [h0]
    · rw [snF_at h0 k (by omega)]; rfl
section
variable {p r : Nat → Int} {n : Nat} (hc : cpAll p r n = true)
include hc
/-- there are no more values than changes, and one -/
theorem al_cg {A : Nat → Nat} : ∀ k, k < n → (cntB (alF A (k + 1)) 16 : Int) ≤ cgA p A (k + 1) + 1
  | 0, _ => by
    have e : cntB (alF A 1) 16 = cntB (alF A 0) 16 + if A 0 < 16 ∧ alF A 0 (A 0) = false then 1 else 0 := cntB_put (P := alF A 0) 16
    have e0 : cntB (alF A 0) 16 = 0 := rfl
    have := cgA_nn p A (0 + 1)
    rw [e, e0]
    split <;> omega
  | k + 1, hk => by
    have ih := al_cg (A := A) k (by omega)
    have hok := cpOk_p (cpAll_at hc (k + 1) hk)
    have e : cntB (alF A (k + 1 + 1)) 16 = cntB (alF A (k + 1)) 16 + if A (k + 1) < 16 ∧ alF A (k + 1) (A (k + 1)) = false then 1 else 0 := cntB_put (P := alF A (k + 1)) 16
    have e2 : cgA p A (k + 1 + 1) = cgA p A (k + 1) + if 0 < k + 1 ∧ A (p (k + 1)).toNat ≠ A (k + 1) then 1 else 0 := rfl
    rw [e, e2]
    by_cases h : A (p (k + 1)).toNat = A (k + 1)
    · have h2 := alF_at (A := A) (j := (p (k + 1)).toNat) (k + 1) (by omega)
      rw [h] at h2
      rw [if_neg (fun h3 => by rw [h2] at h3; cases h3.2)]
      split <;> omega
    · rw [if_pos (show 0 < k + 1 ∧ A (p (k + 1)).toNat ≠ A (k + 1) from ⟨by omega, h⟩)]
      split <;> omega
end
/-- how many neighbours of copy i among the first q have reading v -/
def nrF (p : Nat → Int) (A : Nat → Nat) (i : Nat) : Nat → Nat → Int
  | 0 => fun v => if 0 < i ∧ v = A (p i).toNat then 1 else 0
  | q + 1 => fun v => nrF p A i q v + if i < q ∧ p q = (i : Int) ∧ v = A q then 1 else 0
theorem nrF_low (p : Nat → Int) (A : Nat → Nat) (i v : Nat) : ∀ q, q ≤ i + 1 → nrF p A i q v = if 0 < i ∧ v = A (p i).toNat then 1 else 0
  | 0, _ => rfl
  | q + 1, h => by
    show nrF p A i q v + _ = _
    rw [nrF_low p A i v q (by omega), if_neg (show ¬ (i < q ∧ _) from fun h2 => by omega)]
    omega
/-- one reading turned -/
def swF (A : Nat → Nat) (i v : Nat) (k : Nat) : Nat := if k = i then v else A k
section
variable {p r : Nat → Int} {n : Nat} (hc : cpAll p r n = true)
include hc
theorem sw_cg {A : Nat → Nat} {i v : Nat} (hi : i < n) : ∀ q, q ≤ n → (q ≤ i → cgA p (swF A i v) q = cgA p A q) ∧ (i < q → cgA p (swF A i v) q + nrF p A i q v = cgA p A q + nrF p A i q (A i))
  | 0, _ => ⟨fun _ => rfl, fun h => absurd h (by omega)⟩
  | q + 1, hq => by
    obtain ⟨h1, h2⟩ := sw_cg (A := A) (v := v) hi q (by omega)
    have hok := cpOk_p (cpAll_at hc q (by omega))
    have e1 : cgA p (swF A i v) (q + 1) = cgA p (swF A i v) q + if 0 < q ∧ swF A i v (p q).toNat ≠ swF A i v q then 1 else 0 := rfl
    have e2 : cgA p A (q + 1) = cgA p A q + if 0 < q ∧ A (p q).toNat ≠ A q then 1 else 0 := rfl
    rcases Nat.lt_trichotomy q i with h | h | h
    · refine ⟨fun _ => ?_, fun h3 => absurd h3 (by omega)⟩
      rw [e1, e2, h1 (by omega)]
      congr 1
      by_cases h0 : 0 < q
      · have ea : swF A i v (p q).toNat = A (p q).toNat := by unfold swF; rw [if_neg (by omega)]
        have eb : swF A i v q = A q := by unfold swF; rw [if_neg (by omega)]
        rw [ea, eb]
      · rw [if_neg (fun h3 => h0 h3.1), if_neg (fun h3 => h0 h3.1)]
    · subst h
      refine ⟨fun h3 => absurd h3 (by omega), fun _ => ?_⟩
      rw [e1, e2, h1 (by omega), nrF_low p A q v (q + 1) (by omega), nrF_low p A q (A q) (q + 1) (by omega)]
      by_cases h0 : 0 < q
      · have ea : swF A q v (p q).toNat = A (p q).toNat := by unfold swF; rw [if_neg (by omega)]
        have eb : swF A q v q = v := by unfold swF; rw [if_pos rfl]
        rw [ea, eb]
        have f1 : (if 0 < q ∧ A (p q).toNat ≠ v then (1 : Int) else 0) + (if 0 < q ∧ v = A (p q).toNat then 1 else 0) = 1 := by
          by_cases e : v = A (p q).toNat
          · rw [if_neg (fun h3 => h3.2 e.symm), if_pos ⟨h0, e⟩]; rfl
          · rw [if_pos ⟨h0, fun h3 => e h3.symm⟩, if_neg (fun h3 => e h3.2)]; rfl
        have f2 : (if 0 < q ∧ A (p q).toNat ≠ A q then (1 : Int) else 0) + (if 0 < q ∧ A q = A (p q).toNat then 1 else 0) = 1 := by
          by_cases e : A q = A (p q).toNat
          · rw [if_neg (fun h3 => h3.2 e.symm), if_pos ⟨h0, e⟩]; rfl
          · rw [if_pos ⟨h0, fun h3 => e h3.symm⟩, if_neg (fun h3 => e h3.2)]; rfl
        omega
      · rw [if_neg (fun h3 => h0 h3.1), if_neg (fun h3 => h0 h3.1), if_neg (fun h3 => h0 h3.1), if_neg (fun h3 => h0 h3.1)]
    · refine ⟨fun h3 => absurd h3 (by omega), fun _ => ?_⟩
      have h2 := h2 h
      have e3 : nrF p A i (q + 1) v = nrF p A i q v + if i < q ∧ p q = (i : Int) ∧ v = A q then 1 else 0 := rfl
      have e4 : nrF p A i (q + 1) (A i) = nrF p A i q (A i) + if i < q ∧ p q = (i : Int) ∧ A i = A q then 1 else 0 := rfl
      rw [e1, e2, e3, e4]
      have eb : swF A i v q = A q := by unfold swF; rw [if_neg (by omega)]
      rw [eb]
      by_cases hp : p q = (i : Int)
      · have ea : swF A i v (p q).toNat = v := by unfold swF; rw [if_pos (by omega)]
        have ec : A (p q).toNat = A i := by rw [hp]; rfl
        rw [ea, ec]
        have f1 : (if 0 < q ∧ v ≠ A q then (1 : Int) else 0) + (if i < q ∧ p q = (i : Int) ∧ v = A q then 1 else 0) = 1 := by
          by_cases e : v = A q
          · rw [if_neg (fun h3 => h3.2 e), if_pos ⟨h, hp, e⟩]; rfl
          · rw [if_pos ⟨by omega, e⟩, if_neg (fun h3 => e h3.2.2)]; rfl
        have f2 : (if 0 < q ∧ A i ≠ A q then (1 : Int) else 0) + (if i < q ∧ p q = (i : Int) ∧ A i = A q then 1 else 0) = 1 := by
          by_cases e : A i = A q
          · rw [if_neg (fun h3 => h3.2 e), if_pos ⟨h, hp, e⟩]; rfl
          · rw [if_pos ⟨by omega, e⟩, if_neg (fun h3 => e h3.2.2)]; rfl
        omega
      · have ea : swF A i v (p q).toNat = A (p q).toNat := by unfold swF; rw [if_neg (by omega)]
        rw [ea, if_neg (show ¬ (i < q ∧ p q = (i : Int) ∧ v = A q) from fun h3 => hp h3.2.1), if_neg (show ¬ (i < q ∧ p q = (i : Int) ∧ A i = A q) from fun h3 => hp h3.2.1)]
        omega
end
section
variable {p r : Nat → Int} {n : Nat} (hc : cpAll p r n = true) (hn : n ≤ 20)
include hc hn
/-- **no reading of a lost copy has more neighbours** -/
theorem near_best {A : Nat → Nat} (hA : ∀ k, k < n → aLF p r n k = (A k : Int)) {i v : Nat} (hi : i < n) (hr : r i < 0) (hv : v < 16) : nrF p A i n v ≤ nrF p A i n (A i) := by
  have h0 : 0 < n := by omega
  have hl := least_any hc hn h0 (f := swF A i v) (fun k hk => by
    unfold swF
    by_cases e : k = i
    · subst e
      rw [if_pos rfl]
      refine ⟨hv, ?_⟩
      unfold barI
      rw [decide_eq_false (by omega)]; rfl
    · rw [if_neg e]
      obtain ⟨x, hx, hb, hx2⟩ := aLF_ok hc hn hk
      have : A k = x := by have := hA k hk; omega
      rw [this]
      exact ⟨hx, hb⟩)
  have h1 : ∀ q, q ≤ n → cgA p (fun k => (aLF p r n k).toNat) q = cgA p A q := fun q => by
    induction q with
    | zero => exact fun _ => rfl
    | succ q ih =>
      intro hq
      have hok := cpOk_p (cpAll_at hc q (by omega))
      show cgA p _ q + _ = cgA p A q + _
      rw [ih (by omega)]
      congr 1
      by_cases h : 0 < q
      · simp only [hA q (by omega), hA (p q).toNat (by omega), Int.toNat_natCast]
      · rw [if_neg (fun h3 => h h3.1), if_neg (fun h3 => h h3.1)]
  have h2 := (sw_cg hc (A := A) (v := v) hi n (Nat.le_refl _)).2 hi
  rw [cgF_A hc hn n (Nat.le_refl _), h1 n (Nat.le_refl _)] at hl
  omega
theorem cgF_is {A : Nat → Nat} (hA : ∀ k, k < n → aLF p r n k = (A k : Int)) : ∀ q, q ≤ n → cgF p r n q = cgA p A q
  | 0, _ => rfl
  | q + 1, hq => by
    have hok := cpOk_p (cpAll_at hc q (by omega))
    show cgF p r n q + _ = cgA p A q + _
    rw [cgF_is hA q (by omega)]
    congr 1
    by_cases h : 0 < q
    · rw [hA q (by omega), hA (p q).toNat (by omega)]
      by_cases e : A (p q).toNat = A q
      · rw [if_neg (by omega), if_neg (by omega)]
      · rw [if_pos (by omega), if_pos (by omega)]
    · rw [if_neg (fun h3 => h h3.1), if_neg (fun h3 => h h3.1)]
/-- **changes and different readings** -/
theorem diff_ok (h0 : 0 < n) {A : Nat → Nat} (hA : ∀ k, k < n → aLF p r n k = (A k : Int)) : (dfN r A n : Int) - 1 ≤ cgA p A n ∧ (dfN r A n ≤ 1 → cgA p A n = 0) := by
  have hlt : ∀ j, j < n → A j < 16 := fun j hj => by
    obtain ⟨x, hx, -, hx2⟩ := aLF_ok hc hn hj
    have := hA j hj
    omega
  have hd := dfN_cnt (r := r) n hlt
  constructor
  · have h1 := al_cg hc (A := A) (n - 1) (by omega)
    rw [show n - 1 + 1 = n by omega] at h1
    have h2 := cntB_mono (P := snF r A n) (Q := alF A n) 16 (fun v _ => snF_al n)
    omega
  · intro hle
    have key : ∃ q, q < 16 ∧ ∀ j, j < n → 0 ≤ r j → A j = q := by
      by_cases he : ∃ j, j < n ∧ 0 ≤ r j
      · obtain ⟨j, hj, hr⟩ := he
        refine ⟨A j, hlt j hj, fun i hi hri => ?_⟩
        have s1 := snF_at (A := A) hr n hj
        have s2 := snF_at (A := A) hri n hi
        rcases Nat.lt_trichotomy (A i) (A j) with h | h | h
        · have := cntB_two s2 s1 h 16 (hlt j hj); omega
        · exact h
        · have := cntB_two s1 s2 h 16 (hlt i hi); omega
      · exact ⟨0, by omega, fun j hj hr => absurd ⟨j, hj, hr⟩ he⟩
    obtain ⟨q, hq, hall⟩ := key
    have hl := least_any hc hn h0 (f := fun _ => q) (fun k hk => by
      refine ⟨hq, ?_⟩
      obtain ⟨x, hx, hb, hx2⟩ := aLF_ok hc hn hk
      by_cases hr : 0 ≤ r k
      · have h3 := hall k hk hr
        have h4 := hA k hk
        have : x = q := by omega
        rw [← this]; exact hb
      · unfold barI
        rw [decide_eq_false hr]; rfl)
    have hz : ∀ m, cgA p (fun _ => q) m = 0 := fun m => by
      induction m with
      | zero => rfl
      | succ m ih => show cgA p _ m + _ = 0; rw [ih, if_neg (fun h => h.2 rfl)]; rfl
    rw [hz, cgF_is hc hn hA n (Nat.le_refl _)] at hl
    have := cgA_nn p A n
    omega
end
end Go.Proofs.YtmpegkojencbjaaDoor
