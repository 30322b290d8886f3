/- School: the laws' helpers on words, the reference's Word, Text, Same. -/
import Derived.Test.YtmpegkojencbjaaDoorMergesH
set_option linter.unusedSimpArgs false
set_option linter.unusedVariables false
set_option linter.unnecessarySimpa false
namespace Go.Proofs.YtmpegkojencbjaaDoor
open List renaming getElem_toArray → glA, getElem_cons_zero → glB, getElem_cons_succ → glC, setIfInBounds_toArray → glD, set_cons_zero → glE, set_cons_succ → glF
open Go Go.RowKit Go.Shelf
set_option maxHeartbeats 2000000
set_option maxRecDepth 100000
theorem refSame_any (A B : Option Addr) (c d : Nat) (l m : List Ed) (w : World) (hl : l.length ≤ maxLen) (hA : EdR w w.heap.size A l) (hB : EdR w w.heap.size B m) :
    Calls Tryd.prog 20 #[.slice A l.length c, .slice B m.length d] w fun e w' => e = .returned (.bool (decide (l = m))) ∧ Below w.heap.size w w' := by
  unfold maxLen at hl
  have HA := hide hA
  have HB := hide hB
  clear hA hB
  by_cases hlm : l.length = m.length
  · obtain ⟨n, hn⟩ : ∃ n, l.length = n := ⟨_, rfl⟩
    have hm : m.length = n := by omega
    have HN := hide (And.intro hn hm)
    rw [hn] at hl
    rw [hn, hm]
    clear hlm hn hm
    go_enter Tryd.func20, Tryd.ntmps20
    go_wp2_with fail
    go_loopw [5] (fun i wr => ∃ k : Nat, k ≤ n ∧ i = .int .i64 k ∧ (∀ j, j < k → l.getD j e0 = m.getD j e0) ∧ Below w.heap.size w wr) (fun i _ => n - (intOf i).toNat)
    case atStart => exact ⟨0, Nat.zero_le _, rfl, fun j hj => absurd hj (by omega), Below.refl _ _⟩
    case round =>
      obtain ⟨k, hk, rfl, hx, hbw⟩ := hrel
      have HX := hide hx
      have HBW := hide hbw
      clear hx
      by_cases hlt : k < n
      · have hlt' : (k : Int) < (n : Int) := by omega
        have i0 : (0 : Int) ≤ (k : Int) := by omega
        obtain ⟨e, he⟩ : ∃ e, l.getD k e0 = e := ⟨_, rfl⟩
        obtain ⟨f, hf⟩ : ∃ f, m.getD k e0 = f := ⟨_, rfl⟩
        obtain ⟨xb, xo, rfl, hxb, a0, a1, a2, a3⟩ := HA.out.at_ (by rw [HN.out.1]; exact hlt) he
        obtain ⟨yb, yo, rfl, hyb, b0, b1, b2, b3⟩ := HB.out.at_ (by rw [HN.out.2]; exact hlt) hf
        have HE := hide (And.intro he hf)
        clear he hf
        obtain ⟨x0, x1, x2, x3⟩ := e
        obtain ⟨y0, y1, y2, y3⟩ := f
        dsimp only at a0 a1 a2 a3 b0 b1 b2 b3
        have HS : Hid (∀ W, Below w.heap.size w W → (W.cell? ⟨xb, xo + k * 4, none⟩ = some (.int .i64 x0) ∧ W.cell? ⟨xb, xo + k * 4 + 1, none⟩ = some (.int .i64 x1) ∧ W.cell? ⟨xb, xo + k * 4 + 2, none⟩ = some (.string x2) ∧ W.cell? ⟨xb, xo + k * 4 + 3, none⟩ = some (.string x3)) ∧ (W.cell? ⟨yb, yo + k * 4, none⟩ = some (.int .i64 y0) ∧ W.cell? ⟨yb, yo + k * 4 + 1, none⟩ = some (.int .i64 y1) ∧ W.cell? ⟨yb, yo + k * 4 + 2, none⟩ = some (.string y2) ∧ W.cell? ⟨yb, yo + k * 4 + 3, none⟩ = some (.string y3))) := hide fun W h =>
          ⟨⟨(h.cell (p := ⟨xb, xo + k * 4, none⟩) hxb).trans a0, (h.cell (p := ⟨xb, xo + k * 4 + 1, none⟩) hxb).trans a1, (h.cell (p := ⟨xb, xo + k * 4 + 2, none⟩) hxb).trans a2, (h.cell (p := ⟨xb, xo + k * 4 + 3, none⟩) hxb).trans a3⟩,
           (h.cell (p := ⟨yb, yo + k * 4, none⟩) hyb).trans b0, (h.cell (p := ⟨yb, yo + k * 4 + 1, none⟩) hyb).trans b1, (h.cell (p := ⟨yb, yo + k * 4 + 2, none⟩) hyb).trans b2, (h.cell (p := ⟨yb, yo + k * 4 + 3, none⟩) hyb).trans b3⟩
        clear a0 a1 a2 a3 b0 b1 b2 b3 hbw
        go_upto_region 6 with fail
        have Bd := hide (HBW.out.trans ((Below.refl wr.heap.size wr).drew.mono HBW.out.size))
        refine wp_region_J (fun W : World => (W.cell? ⟨xb, xo + k * 4, none⟩ = some (.int .i64 x0) ∧ W.cell? ⟨xb, xo + k * 4 + 1, none⟩ = some (.int .i64 x1) ∧ W.cell? ⟨xb, xo + k * 4 + 2, none⟩ = some (.string x2) ∧ W.cell? ⟨xb, xo + k * 4 + 3, none⟩ = some (.string x3)) ∧ (W.cell? ⟨yb, yo + k * 4, none⟩ = some (.int .i64 y0) ∧ W.cell? ⟨yb, yo + k * 4 + 1, none⟩ = some (.int .i64 y1) ∧ W.cell? ⟨yb, yo + k * 4 + 2, none⟩ = some (.string y2) ∧ W.cell? ⟨yb, yo + k * 4 + 3, none⟩ = some (.string y3))) (by kernel_rfl) ?_
        generalize wr.drew = wd at Bd ⊢
        refine wpAnyJ_take 0 (v := ?_) (by first | exact hF | exact wideFn) (HS.out _ Bd.out) rfl (by kernel_rfl) (by kernel_rfl) (by kernel_rfl) (by kernel_rfl) rfl ?_ (by first | exact fun _ _ _ h => h | exact fun _ _ _ h => hQ2 _ _ _ _ _ h) ?_
        rotate_left
        · intro W hSW
          simp only [glA, glB, glC]
          (try dsimp only at hSW)
          go_simp
          with_reducible rfl
        (try simp only [glA, glB, glC, Act.put, glD, glE, glF])
        refine wpAnyJ_take 1 (v := ?_) (by first | exact hF | exact wideFn) (HS.out _ Bd.out) rfl (by kernel_rfl) (by kernel_rfl) (by kernel_rfl) (by kernel_rfl) rfl ?_ (by first | exact fun _ _ _ h => h | exact fun _ _ _ h => hQ2 _ _ _ _ _ h) ?_
        rotate_left
        · intro W hSW
          simp only [glA, glB, glC]
          (try dsimp only at hSW)
          go_simp
          with_reducible rfl
        (try simp only [glA, glB, glC, Act.put, glD, glE, glF])
        refine wpAnyJ_take 2 (v := ?_) (by first | exact hF | exact wideFn) (HS.out _ Bd.out) rfl (by kernel_rfl) (by kernel_rfl) (by kernel_rfl) (by kernel_rfl) rfl ?_ (by first | exact fun _ _ _ h => h | exact fun _ _ _ h => hQ2 _ _ _ _ _ h) ?_
        rotate_left
        · intro W hSW
          simp only [glA, glB, glC]
          (try dsimp only at hSW)
          go_simp
          with_reducible rfl
        (try simp only [glA, glB, glC, Act.put, glD, glE, glF])
        refine wpAnyJ_take 3 (v := ?_) (by first | exact hF | exact wideFn) (HS.out _ Bd.out) rfl (by kernel_rfl) (by kernel_rfl) (by kernel_rfl) (by kernel_rfl) rfl ?_ (by first | exact fun _ _ _ h => h | exact fun _ _ _ h => hQ2 _ _ _ _ _ h) ?_
        rotate_left
        · intro W hSW
          simp only [glA, glB, glC]
          (try dsimp only at hSW)
          go_simp
          with_reducible rfl
        (try simp only [glA, glB, glC, Act.put, glD, glE, glF])
        refine wpAnyJ_take 4 (v := ?_) (by first | exact hF | exact wideFn) (HS.out _ Bd.out) rfl (by kernel_rfl) (by kernel_rfl) (by kernel_rfl) (by kernel_rfl) rfl ?_ (by first | exact fun _ _ _ h => h | exact fun _ _ _ h => hQ2 _ _ _ _ _ h) ?_
        rotate_left
        · intro W hSW
          simp only [glA, glB, glC]
          (try dsimp only at hSW)
          go_simp
          with_reducible rfl
        (try simp only [glA, glB, glC, Act.put, glD, glE, glF])
        refine wpAnyJ_take 5 (v := ?_) (by first | exact hF | exact wideFn) (HS.out _ Bd.out) rfl (by kernel_rfl) (by kernel_rfl) (by kernel_rfl) (by kernel_rfl) rfl ?_ (by first | exact fun _ _ _ h => h | exact fun _ _ _ h => hQ2 _ _ _ _ _ h) ?_
        rotate_left
        · intro W hSW
          simp only [glA, glB, glC]
          (try dsimp only at hSW)
          go_simp
          with_reducible rfl
        (try simp only [glA, glB, glC, Act.put, glD, glE, glF])
        refine wpAnyJ_take 6 (v := ?_) (by first | exact hF | exact wideFn) (HS.out _ Bd.out) rfl (by kernel_rfl) (by kernel_rfl) (by kernel_rfl) (by kernel_rfl) rfl ?_ (by first | exact fun _ _ _ h => h | exact fun _ _ _ h => hQ2 _ _ _ _ _ h) ?_
        rotate_left
        · intro W hSW
          simp only [glA, glB, glC]
          (try dsimp only at hSW)
          go_simp
          with_reducible rfl
        (try simp only [glA, glB, glC, Act.put, glD, glE, glF])
        refine wpAnyJ_take 7 (v := ?_) (by first | exact hF | exact wideFn) (HS.out _ Bd.out) rfl (by kernel_rfl) (by kernel_rfl) (by kernel_rfl) (by kernel_rfl) rfl ?_ (by first | exact fun _ _ _ h => h | exact fun _ _ _ h => hQ2 _ _ _ _ _ h) ?_
        rotate_left
        · intro W hSW
          simp only [glA, glB, glC]
          (try dsimp only at hSW)
          go_simp
          with_reducible rfl
        (try simp only [glA, glB, glC, Act.put, glD, glE, glF])
        by_cases q0 : x0 = y0
        · by_cases q1 : x1 = y1
          · by_cases q2 : x2 = y2
            · by_cases q3 : x3 = y3
              · subst q0 q1 q2 q3
                refine wpAnyJ_take 8 (v := ?_) (by first | exact hF | exact wideFn) (HS.out _ Bd.out) rfl (by kernel_rfl) (by kernel_rfl) (by kernel_rfl) (by kernel_rfl) rfl ?_ (by first | exact fun _ _ _ h => h | exact fun _ _ _ h => hQ2 _ _ _ _ _ h) ?_
                rotate_left
                · intro W hSW
                  simp only [glA, glB, glC]
                  (try dsimp only at hSW)
                  go_simp
                  with_reducible rfl
                (try simp only [glA, glB, glC, Act.put, glD, glE, glF])
                refine wpAnyJ_done (by kernel_rfl) ?_
                go_wp2_with fail
                go_roundw
                case rel => exact ⟨k + 1, by omega, by go_num, fun j hj => by
                  rcases (by omega : j < k ∨ j = k) with h | h
                  · exact HX.out j h
                  · rw [h, HE.out.1, HE.out.2], Bd.out⟩
                case measure => simp [intOf]; omega
              · have q3' := str_ne q3
                refine wpAnyJ_take 8 (v := ?_) (by first | exact hF | exact wideFn) (HS.out _ Bd.out) rfl (by kernel_rfl) (by kernel_rfl) (by kernel_rfl) (by kernel_rfl) rfl ?_ (by first | exact fun _ _ _ h => h | exact fun _ _ _ h => hQ2 _ _ _ _ _ h) ?_
                rotate_left
                · intro W hSW
                  simp only [glA, glB, glC]
                  (try dsimp only at hSW)
                  go_simp
                  with_reducible rfl
                (try simp only [glA, glB, glC, Act.put, glD, glE, glF])
                refine wpAnyJ_done (by kernel_rfl) ?_
                go_wp2_with fail
                go_ret
                refine ⟨ret_bool ?_, Bd.out⟩
                have hne : ¬ l = m := fun e => by
                  have h1 := HE.out.1
                  rw [e, HE.out.2] at h1
                  injection h1 with h0 h1 h2 h3
                  exact q3 h3.symm
                simp [hne]
            · have q2' := str_ne q2
              refine wpAnyJ_take 8 (v := ?_) (by first | exact hF | exact wideFn) (HS.out _ Bd.out) rfl (by kernel_rfl) (by kernel_rfl) (by kernel_rfl) (by kernel_rfl) rfl ?_ (by first | exact fun _ _ _ h => h | exact fun _ _ _ h => hQ2 _ _ _ _ _ h) ?_
              rotate_left
              · intro W hSW
                simp only [glA, glB, glC]
                (try dsimp only at hSW)
                go_simp
                with_reducible rfl
              (try simp only [glA, glB, glC, Act.put, glD, glE, glF])
              refine wpAnyJ_done (by kernel_rfl) ?_
              go_wp2_with fail
              go_ret
              refine ⟨ret_bool ?_, Bd.out⟩
              have hne : ¬ l = m := fun e => by
                have h1 := HE.out.1
                rw [e, HE.out.2] at h1
                injection h1 with h0 h1 h2 h3
                exact q2 h2.symm
              simp [hne]
          · refine wpAnyJ_take 8 (v := ?_) (by first | exact hF | exact wideFn) (HS.out _ Bd.out) rfl (by kernel_rfl) (by kernel_rfl) (by kernel_rfl) (by kernel_rfl) rfl ?_ (by first | exact fun _ _ _ h => h | exact fun _ _ _ h => hQ2 _ _ _ _ _ h) ?_
            rotate_left
            · intro W hSW
              simp only [glA, glB, glC]
              (try dsimp only at hSW)
              go_simp
              with_reducible rfl
            (try simp only [glA, glB, glC, Act.put, glD, glE, glF])
            refine wpAnyJ_done (by kernel_rfl) ?_
            go_wp2_with fail
            go_ret
            refine ⟨ret_bool ?_, Bd.out⟩
            have hne : ¬ l = m := fun e => by
              have h1 := HE.out.1
              rw [e, HE.out.2] at h1
              injection h1 with h0 h1 h2 h3
              exact q1 h1.symm
            simp [hne]
        · refine wpAnyJ_take 8 (v := ?_) (by first | exact hF | exact wideFn) (HS.out _ Bd.out) rfl (by kernel_rfl) (by kernel_rfl) (by kernel_rfl) (by kernel_rfl) rfl ?_ (by first | exact fun _ _ _ h => h | exact fun _ _ _ h => hQ2 _ _ _ _ _ h) ?_
          rotate_left
          · intro W hSW
            simp only [glA, glB, glC]
            (try dsimp only at hSW)
            go_simp
            with_reducible rfl
          (try simp only [glA, glB, glC, Act.put, glD, glE, glF])
          refine wpAnyJ_done (by kernel_rfl) ?_
          go_wp2_with fail
          go_ret
          refine ⟨ret_bool ?_, Bd.out⟩
          have hne : ¬ l = m := fun e => by
            have h1 := HE.out.1
            rw [e, HE.out.2] at h1
            injection h1 with h0 h1 h2 h3
            exact q0 h0.symm
          simp [hne]
      · obtain rfl : k = n := by omega
        go_wp2_with fail
        go_ret
        refine ⟨ret_bool ?_, HBW.out⟩
        have : l = m := getD_all (by rw [HN.out.1, HN.out.2]) (by rw [HN.out.1]; exact HX.out)
        simp [this]
  · have hne : ¬ ((l.length : Int) = (m.length : Int)) := by omega
    have hd : decide (l = m) = false := by
      rw [decide_eq_false_iff_not]; intro h; exact hlm (by rw [h])
    rw [hd]
    clear hd
    generalize l.length = n1 at *
    generalize m.length = n2 at *
    go_enter Tryd.func20, Tryd.ntmps20
    go_wp2_with fail
    go_ret
    exact ⟨rfl, Below.refl _ _⟩
theorem getD_allW {l m : List Wd} (hl : l.length = m.length) (h : ∀ k, k < l.length → l.getD k noW = m.getD k noW) : l = m := by
  apply List.ext_getElem hl
  intro k h1 h2
  have := h k h1
  rwa [List.getD_eq_getElem?_getD, List.getD_eq_getElem?_getD, List.getElem?_eq_getElem h1, List.getElem?_eq_getElem h2] at this
theorem same_any (A B : Option Addr) (c d : Nat) (l m : List Wd) (w : World) (hl : l.length ≤ maxLen) (hA : SR w w.heap.size A l) (hB : SR w w.heap.size B m) :
    Calls Tryd.prog 18 #[.slice A l.length c, .slice B m.length d] w fun e w' => e = .returned (.bool (decide (l = m))) ∧ Below w.heap.size w w' := by
  unfold maxLen at hl
  have HA := hide hA
  have HB := hide hB
  clear hA hB
  by_cases hlm : l.length = m.length
  · obtain ⟨n, hn⟩ : ∃ n, l.length = n := ⟨_, rfl⟩
    have hm : m.length = n := by omega
    have HN := hide (And.intro hn hm)
    rw [hn] at hl
    rw [hn, hm]
    clear hlm hn hm
    go_enter Tryd.func18, Tryd.ntmps18
    go_wp2_with fail
    go_loopw [5] (fun i wr => ∃ k : Nat, k ≤ n ∧ i = .int .i64 k ∧ (∀ j, j < k → l.getD j noW = m.getD j noW) ∧ Below w.heap.size w wr) (fun i _ => n - (intOf i).toNat)
    case atStart => exact ⟨0, Nat.zero_le _, rfl, fun j hj => absurd hj (by omega), Below.refl _ _⟩
    case round =>
      obtain ⟨k, hk, rfl, hx, hbw⟩ := hrel
      have HX := hide hx
      have HBW := hide hbw
      clear hx
      by_cases hlt : k < n
      · have hlt' : (k : Int) < (n : Int) := by omega
        have i0 : (0 : Int) ≤ (k : Int) := by omega
        obtain ⟨x, he⟩ : ∃ e, l.getD k noW = e := ⟨_, rfl⟩
        obtain ⟨y, hf⟩ : ∃ f, m.getD k noW = f := ⟨_, rfl⟩
        obtain ⟨xb, xo, rfl, hxb, a0⟩ := VR1.at_ HA.out (by rw [HN.out.1]; exact hlt)
        obtain ⟨yb, yo, rfl, hyb, b0⟩ := VR1.at_ HB.out (by rw [HN.out.2]; exact hlt)
        rw [he] at a0
        rw [hf] at b0
        have HE := hide (And.intro he hf)
        clear he hf
        have HS : Hid (∀ W, Below w.heap.size w W → W.cell? ⟨xb, xo + k, none⟩ = some (.string x) ∧ W.cell? ⟨yb, yo + k, none⟩ = some (.string y)) := hide fun W h =>
          ⟨(h.cell (p := ⟨xb, xo + k, none⟩) hxb).trans a0, (h.cell (p := ⟨yb, yo + k, none⟩) hyb).trans b0⟩
        clear a0 b0 hbw
        go_upto_region 6 with fail
        have Bd := hide (HBW.out.trans ((Below.refl wr.heap.size wr).drew.mono HBW.out.size))
        refine wp_region_J (fun W : World => W.cell? ⟨xb, xo + k, none⟩ = some (.string x) ∧ W.cell? ⟨yb, yo + k, none⟩ = some (.string y)) (by kernel_rfl) ?_
        generalize wr.drew = wd at Bd ⊢
        refine wpAnyJ_take 0 (v := ?_) (by first | exact hF | exact wideFn) (HS.out _ Bd.out) rfl (by kernel_rfl) (by kernel_rfl) (by kernel_rfl) (by kernel_rfl) rfl ?_ (by first | exact fun _ _ _ h => h | exact fun _ _ _ h => hQ2 _ _ _ _ _ h) ?_
        rotate_left
        · intro W hSW
          simp only [glA, glB, glC]
          (try dsimp only at hSW)
          go_simp
          with_reducible rfl
        (try simp only [glA, glB, glC, Act.put, glD, glE, glF])
        refine wpAnyJ_take 1 (v := ?_) (by first | exact hF | exact wideFn) (HS.out _ Bd.out) rfl (by kernel_rfl) (by kernel_rfl) (by kernel_rfl) (by kernel_rfl) rfl ?_ (by first | exact fun _ _ _ h => h | exact fun _ _ _ h => hQ2 _ _ _ _ _ h) ?_
        rotate_left
        · intro W hSW
          simp only [glA, glB, glC]
          (try dsimp only at hSW)
          go_simp
          with_reducible rfl
        (try simp only [glA, glB, glC, Act.put, glD, glE, glF])
        refine wpAnyJ_take 2 (v := ?_) (by first | exact hF | exact wideFn) (HS.out _ Bd.out) rfl (by kernel_rfl) (by kernel_rfl) (by kernel_rfl) (by kernel_rfl) rfl ?_ (by first | exact fun _ _ _ h => h | exact fun _ _ _ h => hQ2 _ _ _ _ _ h) ?_
        rotate_left
        · intro W hSW
          simp only [glA, glB, glC]
          (try dsimp only at hSW)
          go_simp
          with_reducible rfl
        (try simp only [glA, glB, glC, Act.put, glD, glE, glF])
        refine wpAnyJ_take 3 (v := ?_) (by first | exact hF | exact wideFn) (HS.out _ Bd.out) rfl (by kernel_rfl) (by kernel_rfl) (by kernel_rfl) (by kernel_rfl) rfl ?_ (by first | exact fun _ _ _ h => h | exact fun _ _ _ h => hQ2 _ _ _ _ _ h) ?_
        rotate_left
        · intro W hSW
          simp only [glA, glB, glC]
          (try dsimp only at hSW)
          go_simp
          with_reducible rfl
        (try simp only [glA, glB, glC, Act.put, glD, glE, glF])
        refine wpAnyJ_take 4 (v := ?_) (by first | exact hF | exact wideFn) (HS.out _ Bd.out) rfl (by kernel_rfl) (by kernel_rfl) (by kernel_rfl) (by kernel_rfl) rfl ?_ (by first | exact fun _ _ _ h => h | exact fun _ _ _ h => hQ2 _ _ _ _ _ h) ?_
        rotate_left
        · intro W hSW
          simp only [glA, glB, glC]
          (try dsimp only at hSW)
          go_simp
          with_reducible rfl
        (try simp only [glA, glB, glC, Act.put, glD, glE, glF])
        refine wpAnyJ_take 5 (v := ?_) (by first | exact hF | exact wideFn) (HS.out _ Bd.out) rfl (by kernel_rfl) (by kernel_rfl) (by kernel_rfl) (by kernel_rfl) rfl ?_ (by first | exact fun _ _ _ h => h | exact fun _ _ _ h => hQ2 _ _ _ _ _ h) ?_
        rotate_left
        · intro W hSW
          simp only [glA, glB, glC]
          (try dsimp only at hSW)
          go_simp
          with_reducible rfl
        (try simp only [glA, glB, glC, Act.put, glD, glE, glF])
        refine wpAnyJ_take 6 (v := ?_) (by first | exact hF | exact wideFn) (HS.out _ Bd.out) rfl (by kernel_rfl) (by kernel_rfl) (by kernel_rfl) (by kernel_rfl) rfl ?_ (by first | exact fun _ _ _ h => h | exact fun _ _ _ h => hQ2 _ _ _ _ _ h) ?_
        rotate_left
        · intro W hSW
          simp only [glA, glB, glC]
          (try dsimp only at hSW)
          go_simp
          with_reducible rfl
        (try simp only [glA, glB, glC, Act.put, glD, glE, glF])
        refine wpAnyJ_take 7 (v := ?_) (by first | exact hF | exact wideFn) (HS.out _ Bd.out) rfl (by kernel_rfl) (by kernel_rfl) (by kernel_rfl) (by kernel_rfl) rfl ?_ (by first | exact fun _ _ _ h => h | exact fun _ _ _ h => hQ2 _ _ _ _ _ h) ?_
        rotate_left
        · intro W hSW
          simp only [glA, glB, glC]
          (try dsimp only at hSW)
          go_simp
          with_reducible rfl
        (try simp only [glA, glB, glC, Act.put, glD, glE, glF])
        by_cases q : x = y
        · subst q
          refine wpAnyJ_take 8 (v := ?_) (by first | exact hF | exact wideFn) (HS.out _ Bd.out) rfl (by kernel_rfl) (by kernel_rfl) (by kernel_rfl) (by kernel_rfl) rfl ?_ (by first | exact fun _ _ _ h => h | exact fun _ _ _ h => hQ2 _ _ _ _ _ h) ?_
          rotate_left
          · intro W hSW
            simp only [glA, glB, glC]
            (try dsimp only at hSW)
            go_simp
            with_reducible rfl
          (try simp only [glA, glB, glC, Act.put, glD, glE, glF])
          refine wpAnyJ_done (by kernel_rfl) ?_
          go_wp2_with fail
          go_roundw
          case rel => exact ⟨k + 1, by omega, by go_num, fun j hj => by
            rcases (by omega : j < k ∨ j = k) with h | h
            · exact HX.out j h
            · rw [h, HE.out.1, HE.out.2], Bd.out⟩
          case measure => simp [intOf]; omega
        · have q1 := str_ne q
          refine wpAnyJ_take 8 (v := ?_) (by first | exact hF | exact wideFn) (HS.out _ Bd.out) rfl (by kernel_rfl) (by kernel_rfl) (by kernel_rfl) (by kernel_rfl) rfl ?_ (by first | exact fun _ _ _ h => h | exact fun _ _ _ h => hQ2 _ _ _ _ _ h) ?_
          rotate_left
          · intro W hSW
            simp only [glA, glB, glC]
            (try dsimp only at hSW)
            go_simp
            with_reducible rfl
          (try simp only [glA, glB, glC, Act.put, glD, glE, glF])
          refine wpAnyJ_done (by kernel_rfl) ?_
          go_wp2_with fail
          go_ret
          refine ⟨ret_bool ?_, Bd.out⟩
          have hne : ¬ l = m := fun e => by
            have h1 := HE.out.1
            rw [e, HE.out.2] at h1
            exact q h1.symm
          simp [hne]
      · obtain rfl : k = n := by omega
        go_wp2_with fail
        go_ret
        refine ⟨ret_bool ?_, HBW.out⟩
        have : l = m := getD_allW (by rw [HN.out.1, HN.out.2]) (by rw [HN.out.1]; exact HX.out)
        simp [this]
  · have hne : ¬ ((l.length : Int) = (m.length : Int)) := by omega
    have hd : decide (l = m) = false := by
      rw [decide_eq_false_iff_not]; intro h; exact hlm (by rw [h])
    rw [hd]
    clear hd
    generalize l.length = n1 at *
    generalize m.length = n2 at *
    go_enter Tryd.func18, Tryd.ntmps18
    go_wp2_with fail
    go_ret
    exact ⟨rfl, Below.refl _ _⟩
/-- more than is looked at -/
def lgB (l : List Wd) : Bool := decide (25 < l.length) || l.any fun x => decide (20 < x.size)
theorem lgB_no {l : List Wd} (h : lgB l = false) : l.length ≤ 25 ∧ ∀ x ∈ l, x.size ≤ 20 := by
  unfold lgB at h
  rw [Bool.or_eq_false_iff] at h
  have h1 := of_decide_eq_false h.1
  refine ⟨by omega, fun x hx => ?_⟩
  have h2 := List.any_eq_false.1 h.2 x hx
  simp at h2
  exact h2
theorem long_any (A : Option Addr) (c : Nat) (l : List Wd) (w : World) (hl : SzOk l) (hA : SR w w.heap.size A l) :
    Calls Tryd.prog 14 #[.slice A l.length c] w fun e w' => e = .returned (.bool (lgB l)) ∧ w = w' := by
  have hl1 := hl.1
  unfold maxLen at hl1
  have HA := hide hA
  have HL := hide hl
  obtain ⟨n, hn⟩ : ∃ n, l.length = n := ⟨_, rfl⟩
  have HN := hide hn
  rw [hn] at hl1 ⊢
  clear hA hl hn
  go_enter Tryd.func14, Tryd.ntmps14
  go_wp2_with fail
  go_loopw [3] (fun i wr => ∃ k : Nat, k ≤ n ∧ k ≤ 26 ∧ i = .int .i64 k ∧ Hid (∀ j, j < k → (l.getD j noW).size ≤ 20) ∧ Hid (w = wr)) (fun i _ => n - (intOf i).toNat)
  case atStart => exact ⟨0, Nat.zero_le _, by omega, rfl, hide (fun j hj => absurd hj (by omega)), hide rfl⟩
  case round =>
    obtain ⟨k, hk, hk26, rfl, HX, HW⟩ := hrel
    obtain rfl := HW.out
    by_cases hlt : k < n
    · have hlt' : (k : Int) < (n : Int) := by omega
      by_cases h26 : k < 26
      · have h26' : (k : Int) < 26 := by omega
        have i0 : (0 : Int) ≤ (k : Int) := by omega
        have hkl : k < l.length := by rw [HN.out]; exact hlt
        obtain ⟨b, off, rfl, hb, hc⟩ := VR1.at_ HA.out hkl
        obtain ⟨x, hx⟩ : ∃ x, l.getD k noW = x := ⟨_, rfl⟩
        have hxm := HL.out.at_ k
        rw [hx] at hc hxm
        unfold maxLen at hxm
        by_cases h20 : 20 < x.size
        · have h20' : (20 : Int) < (x.size : Int) := by omega
          have hg : lgB l = true := by
            unfold lgB
            rw [Bool.or_eq_true]
            refine .inr (List.any_eq_true.2 ⟨x, ?_, by simpa using h20⟩)
            rw [← hx, List.getD_eq_getElem?_getD, List.getElem?_eq_getElem hkl]
            exact List.getElem_mem hkl
          have HG := hide hg
          clear hg hx h20
          go_wp2_with fail
          go_ret
          exact ⟨ret_bool HG.out.symm, rfl⟩
        · have h20' : ¬ (20 : Int) < (x.size : Int) := by omega
          have HX2 : Hid (∀ j, j < k + 1 → (l.getD j noW).size ≤ 20) := hide (fun j hj => by
            rcases (by omega : j < k ∨ j = k) with h | rfl
            · exact HX.out j h
            · rw [hx]; omega)
          clear hx h20
          go_wp2_with fail
          go_roundw
          case rel => exact ⟨k + 1, by omega, by omega, by go_num, HX2, by first | trivial | exact hide rfl⟩
          case measure => simp [intOf]; omega
      · have h26' : ¬ (k : Int) < 26 := by omega
        have h25 : (25 : Int) < (n : Int) := by omega
        have hg : lgB l = true := by
          unfold lgB
          rw [Bool.or_eq_true, HN.out]
          exact .inl (by simp; omega)
        have HG := hide hg
        clear hg
        go_wp2_with fail
        go_ret
        exact ⟨ret_bool HG.out.symm, rfl⟩
    · obtain rfl : k = n := by omega
      have hnl : ¬ (k : Int) < (k : Int) := by omega
      have hg : lgB l = decide (25 < (k : Int)) := by
        unfold lgB
        have h2 : (l.any fun x => decide (20 < x.size)) = false := by
          rw [List.any_eq_false]
          intro x hx
          obtain ⟨j, hj, rfl⟩ := List.getElem_of_mem hx
          have := HX.out j (by rw [← HN.out]; exact hj)
          rw [List.getD_eq_getElem?_getD, List.getElem?_eq_getElem hj] at this
          have h3 : l[j].size ≤ 20 := this
          simp; exact h3
        rw [h2, Bool.or_false, HN.out]
        rw [Bool.eq_iff_iff]; simp; omega
      have HG := hide hg
      clear hg
      go_wp2_with fail
      go_ret
      exact ⟨ret_bool (by rw [HG.out]), rfl⟩
theorem OwnS.made0 (W : World) : OwnS (W.alloc (.cells #[] 9)) W.heap.size (.slice (some ⟨W.heap.size, 0, none⟩) 0 0) [] :=
  World.ownsRow_made W #[] 0 (Nat.le_refl _) (by unfold maxLen; omega) rfl
theorem words_any (A : Option Addr) (c : Nat) (l : List Wd) (w : World) (hl : l.length ≤ 100000) (hA : SR w w.heap.size A l) :
    Calls Tryd.prog 16 #[.slice A l.length c] w fun e w' => ∃ v, e = .returned v ∧ OwnS w' w.heap.size v l ∧ Below w.heap.size w w' := by
  have hB0 : Below w.heap.size w (w.alloc (.cells #[] 9)) := (Below.refl _ _).alloc (Nat.le_refl _) _
  obtain ⟨v', w', hrun, ho, hg, -⟩ := (OwnS.made0 w).pushes A c l ((ER.below hA hB0 (Nat.le_refl _)).more hB0.size) (by simp; omega) hB0.size
  rw [List.nil_append] at ho
  have HRUN := hide hrun
  have HO := hide (And.intro ho (hB0.grown hg hB0.size (fun k hk => (World.ownsRow.lt (OwnS.made0 w) k hk).1)))
  clear hrun ho hg hB0 hA
  generalize l.length = n at HRUN ⊢
  go_enter Tryd.func16, Tryd.ntmps16
  go_wp2_with (at_builtin; refine wpList_append_run rfl (.tmp 3) (.tmp 4) 22 rfl rfl rfl HRUN.out ?_)
  go_ret
  exact ⟨_, rfl, HO.out.1, HO.out.2⟩
end Go.Proofs.YtmpegkojencbjaaDoor
/- School: the reference's Word and Text. -/
namespace Go.Proofs.YtmpegkojencbjaaDoor
open Go Go.RowKit Go.Shelf
set_option maxHeartbeats 2000000
set_option maxRecDepth 100000
theorem refWord_any (s : Wd) (w : World) (hs : s.size ≤ maxLen) : Calls Tryd.prog 51 #[.string s] w fun e w' => e = .returned (.bool (wordB s)) ∧ w = w' := by
  unfold maxLen at hs
  obtain ⟨n, hn⟩ : ∃ n, s.size = n := ⟨_, rfl⟩
  have HN := hide hn
  by_cases h1 : n < 1
  · have hw : wordB s = false := by unfold wordB; rw [hn, decide_eq_false (show ¬ 1 ≤ n by omega)]; rfl
    have HW := hide hw
    have h1' : (n : Int) < 1 := by omega
    have h1s : (s.size : Int) < 1 := by omega
    clear hw hn
    go_enter Tryd.func51, Tryd.ntmps51
    go_wp2_with fail
    go_ret
    exact ⟨ret_bool HW.out.symm, rfl⟩
  by_cases h2 : 12 < n
  · have hw : wordB s = false := by unfold wordB; rw [hn, decide_eq_false (show ¬ n ≤ 12 by omega), Bool.and_false, Bool.false_and]
    have HW := hide hw
    have h1s : ¬ (s.size : Int) < 1 := by omega
    have h2s : (12 : Int) < (s.size : Int) := by omega
    clear hw hn
    go_enter Tryd.func51, Tryd.ntmps51
    go_wp2_with fail
    go_ret
    exact ⟨ret_bool HW.out.symm, rfl⟩
  have h1s : ¬ (s.size : Int) < 1 := by omega
  have h2s : ¬ (12 : Int) < (s.size : Int) := by omega
  go_enter Tryd.func51, Tryd.ntmps51
  go_wp2_with fail
  clear h1s h2s
  go_loopw [3] (fun i wr => ∃ k : Nat, k ≤ n ∧ i = .int .i64 k ∧ Hid (∀ j, j < k → lowerB (s.data.toList.getD j 0) = true) ∧ Hid (w = wr)) (fun i _ => n - (intOf i).toNat)
  case atStart => exact ⟨0, Nat.zero_le _, rfl, hide (fun j hj => absurd hj (by omega)), hide rfl⟩
  case round =>
    obtain ⟨k, hk, rfl, HX, HW⟩ := hrel
    obtain rfl := HW.out
    by_cases hlt : k < n
    · have hlt' : (k : Int) < (s.size : Int) := by omega
      have k0 : (0 : Int) ≤ (k : Int) := by omega
      have hks : k < s.size := by omega
      have hcd : s.data.toList.getD k 0 = s[k]'hks := by
        have hkd : k < s.data.toList.length := hks
        rw [List.getD_eq_getElem?_getD, List.getElem?_eq_getElem hkd]
        rfl
      have hlo : lowerB (s.data.toList.getD k 0) = (decide (97 ≤ (s[k]'hks).toNat) && decide ((s[k]'hks).toNat ≤ 122)) := by rw [hcd]; rfl
      have HNO : Hid (lowerB (s.data.toList.getD k 0) = false → wordB s = false) := hide (fun h => by
        unfold wordB
        have : s.data.toList.all lowerB = false := all_take_no lowerB s.data.toList (k := k) hks 0 h
        rw [this, Bool.and_false])
      have HYES : Hid (lowerB (s.data.toList.getD k 0) = true → ∀ j, j < k + 1 → lowerB (s.data.toList.getD j 0) = true) := hide (fun h j hj => by
        rcases (by omega : j < k ∨ j = k) with h2 | rfl
        · exact HX.out j h2
        · exact h)
      have HLO := hide hlo
      clear hlo hcd
      by_cases c1 : ((s[k]'hks).toNat : Int) < 97
      · have HWB := hide (HNO.out (by rw [HLO.out, decide_eq_false (by omega)]; rfl))
        go_wp2_with fail
        go_ret
        exact ⟨ret_bool HWB.out.symm, rfl⟩
      · by_cases c2 : (122 : Int) < ((s[k]'hks).toNat : Int)
        · have HWB := hide (HNO.out (by rw [HLO.out, decide_eq_false (show ¬ (s[k]'hks).toNat ≤ 122 by omega), Bool.and_false]))
          go_wp2_with fail
          go_ret
          exact ⟨ret_bool HWB.out.symm, rfl⟩
        · have HX2 := hide (HYES.out (by rw [HLO.out, decide_eq_true (by omega), decide_eq_true (by omega)]; rfl))
          go_wp2_with fail
          go_roundw
          case rel => exact ⟨k + 1, by omega, by go_num, HX2, by first | trivial | exact hide rfl⟩
          case measure => simp [intOf]; omega
    · obtain rfl : k = n := by omega
      have hnl : ¬ (k : Int) < (k : Int) := by omega
      have hw : wordB s = true := by
        unfold wordB
        rw [hn, decide_eq_true (show 1 ≤ k by omega), decide_eq_true (show k ≤ 12 by omega), Bool.true_and, Bool.true_and, List.all_eq_true]
        intro x hx
        obtain ⟨j, hj, rfl⟩ := List.getElem_of_mem hx
        have hj2 : j < k := by
          have : s.data.toList.length = s.size := rfl
          omega
        have := HX.out j hj2
        rwa [List.getD_eq_getElem?_getD, List.getElem?_eq_getElem hj] at this
      have HWB := hide hw
      clear hw
      go_wp2_with fail
      go_ret
      exact ⟨ret_bool HWB.out.symm, rfl⟩
theorem refText_any (A : Option Addr) (c : Nat) (l : List Wd) (w : World) (hl : SzOk l) (hA : SR w w.heap.size A l) :
    Calls Tryd.prog 19 #[.slice A l.length c] w fun e w' => e = .returned (.bool (textB l)) ∧ w = w' := by
  have hl1 := hl.1
  unfold maxLen at hl1
  have HA := hide hA
  have HL := hide hl
  obtain ⟨n, hn⟩ : ∃ n, l.length = n := ⟨_, rfl⟩
  have HN := hide hn
  rw [hn] at hl1 ⊢
  clear hA hl hn
  go_enter Tryd.func19, Tryd.ntmps19
  go_wp2_with fail
  go_loopw [3] (fun i wr => ∃ k : Nat, k ≤ n ∧ i = .int .i64 k ∧ Hid (∀ j, j < k → wordB (l.getD j noW) = true) ∧ Hid (w = wr)) (fun i _ => n - (intOf i).toNat)
  case atStart => exact ⟨0, Nat.zero_le _, rfl, hide (fun j hj => absurd hj (by omega)), hide rfl⟩
  case round =>
    obtain ⟨k, hk, rfl, HX, HW⟩ := hrel
    obtain rfl := HW.out
    by_cases hlt : k < n
    · have hlt' : (k : Int) < (n : Int) := by omega
      have i0 : (0 : Int) ≤ (k : Int) := by omega
      have hkl : k < l.length := by rw [HN.out]; exact hlt
      obtain ⟨b, off, rfl, hb, hc⟩ := VR1.at_ HA.out hkl
      have HWD := refWord_any (l.getD k noW) w (HL.out.at_ k)
      obtain ⟨x, hx⟩ : ∃ x, l.getD k noW = x := ⟨_, rfl⟩
      rw [hx] at hc HWD
      rcases hwx : wordB x with _ | _
      · rw [hwx] at HWD
        have HT : Hid (textB l = false) := hide (by
          unfold textB
          rw [all_take_no wordB l hkl noW (by rw [hx]; exact hwx), Bool.and_false])
        have HWD := hide HWD
        clear hwx hx
        go_wp2_with fail
        refine HWD.out.mono ?_
        rintro e _ ⟨rfl, rfl⟩
        go_wp2_with fail
        go_ret
        exact ⟨ret_bool HT.out.symm, rfl⟩
      · rw [hwx] at HWD
        have HX2 : Hid (∀ j, j < k + 1 → wordB (l.getD j noW) = true) := hide (fun j hj => by
          rcases (by omega : j < k ∨ j = k) with h | rfl
          · exact HX.out j h
          · rw [hx]; exact hwx)
        have HWD := hide HWD
        clear hwx hx
        go_wp2_with fail
        refine HWD.out.mono ?_
        rintro e _ ⟨rfl, rfl⟩
        go_wp2_with fail
        go_roundw
        case rel => exact ⟨k + 1, by omega, by go_num, HX2, by first | trivial | exact hide rfl⟩
        case measure => simp [intOf]; omega
    · obtain rfl : k = n := by omega
      have hnl : ¬ (k : Int) < (k : Int) := by omega
      have ht : textB l = decide ((k : Int) ≤ 20) := by
        unfold textB
        have h2 : l.all wordB = true := by
          rw [List.all_eq_true]
          intro x hx
          obtain ⟨j, hj, rfl⟩ := List.getElem_of_mem hx
          have := HX.out j (by rw [← HN.out]; exact hj)
          rwa [List.getD_eq_getElem?_getD, List.getElem?_eq_getElem hj] at this
        rw [h2, Bool.and_true, HN.out]
        rw [Bool.eq_iff_iff]; simp; omega
      have HT := hide ht
      clear ht
      go_wp2_with fail
      go_ret
      exact ⟨ret_bool (by rw [HT.out]), rfl⟩
end Go.Proofs.YtmpegkojencbjaaDoor
/- School: the reference's Fewest, walked. -/
namespace Go.Proofs.YtmpegkojencbjaaDoor
open List renaming getElem_toArray → glA, getElem_cons_zero → glB, getElem_cons_succ → glC, setIfInBounds_toArray → glD, set_cons_zero → glE, set_cons_succ → glF
open Go Go.RowKit Go.Shelf
set_option maxHeartbeats 8000000
set_option maxRecDepth 100000
theorem dsT_min {a b : List Wd} {k j : Nat} (hk : k < a.length) (hj : j < b.length) : dsT a b k j = min (min ((if a.getD k noW = b.getD j noW then 0 else 1) + dsT a b (k + 1) (j + 1)) (1 + dsT a b (k + 1) j)) (1 + dsT a b k (j + 1)) := by
  unfold dsT; rw [drop_cons hk, drop_cons hj, dsL_min]
theorem fewest_any (A B : Option Addr) (c d : Nat) (a b : List Wd) (w : World) (ha : a.length ≤ 20) (hb : b.length ≤ 20) (hA : SR w w.heap.size A a) (hB : SR w w.heap.size B b) :
    Calls Tryd.prog 52 #[.slice A a.length c, .slice B b.length d] w (DistPost w a b) := by
  obtain ⟨n, hn⟩ : ∃ n, a.length = n := ⟨_, rfl⟩
  obtain ⟨m, hm⟩ : ∃ m, b.length = m := ⟨_, rfl⟩
  obtain ⟨N, hN⟩ : ∃ N, n + 1 = N := ⟨_, rfl⟩
  obtain ⟨M, hM⟩ : ∃ M, m + 1 = M := ⟨_, rfl⟩
  have HA := hide hA
  have HB := hide hB
  unfold DistPost
  unfold SR at HA HB
  rw [hn] at ha HA ⊢
  rw [hm] at hb HB ⊢
  obtain ⟨i0, hi, hz0, hz1, hz2⟩ := info_parts info_row
  obtain ⟨j0, hj, hy0, hy1, hy2⟩ := info_parts info_int
  have gl := run_make_rowN (P := Tryd.prog) 54 36 i0 _ Tryd.underlying54 hi hz0 .i64 .i64 N N (Nat.le_refl _) (by rw [hz2]; omega) (by omega) w
  rw [hz1, rowV_made] at gl
  have gr := fun W => run_make_rowN (P := Tryd.prog) 36 3 j0 _ Tryd.underlying36 hj hy0 .i64 .i64 M M (Nat.le_refl _) (by rw [hy2]; omega) (by omega) W
  simp only [hy1, rowV_ints] at gr
  have GR := hide gr
  have wN : IntKind.i64.wrap ((n : Int) + 1) = (N : Int) := by rw [IntWalk.i64_in _ (by omega)]; omega
  have wM : IntKind.i64.wrap ((m : Int) + 1) = (M : Int) := by rw [IntWalk.i64_in _ (by omega)]; omega
  have hNM := hide (And.intro (And.intro hn hm) (And.intro hN hM))
  have WM := hide wM
  clear hA hB hn hm hN hM hi hz0 hz1 hz2 hj hy0 hy1 hy2 gr wM
  go_enter Tryd.func52, Tryd.ntmps52
  go_wp2_with fail
  have D0 : Hid (DT w n m (n + 1) w.heap.size (fun _ => 0) (dsT a b) (w.alloc (.cells (rowV N fun _ => .slice none 0 0) 36))) := hide ⟨(Below.refl _ _).alloc (Nat.le_refl _) _, Blk.row (by have h := Blk.new w 36 (rowV N fun _ => .slice none 0 0); rw [← hNM.out.2.1] at h ⊢; exact h) (fun k hk => by rw [if_neg (by omega)]), fun k h1 h2 => by omega, Nat.le_refl _, fun k h1 h2 => by omega⟩
  generalize (w.alloc (.cells (rowV N fun _ => .slice none 0 0) 36)) = W0 at D0 ⊢
  clear gl wN
  go_loopw [6] (fun x wr => ∃ (r : Nat) (iv : Int) (g : Nat → Nat), x = .int .i64 iv ∧ iv = (r : Int) - 1 ∧ r ≤ n + 1 ∧ Hid (DT w n m r w.heap.size g (dsT a b) wr)) (fun x _ => (intOf x + 1).toNat)
  case atStart => exact ⟨n + 1, _, _, rfl, by omega, by omega, D0⟩
  case round =>
    obtain ⟨r, iv, g, rfl, hiv, hr, HD⟩ := hrel
    obtain ⟨D, hDe⟩ : ∃ D, w.heap.size = D := ⟨_, rfl⟩
    rw [hDe] at HD ⊢
    have HDE := hide hDe
    clear hDe D0
    rcases r with _ | i
    · have hv0 : iv = -1 := by omega
      subst hv0
      clear hiv
      go_wp2_with fail
      go_ret
      exact ⟨D, g, by rw [← hNM.out.2.1]; rfl, HD.out⟩
    · have hv0 : iv = (i : Int) := by omega
      subst hv0
      clear hiv
      have hin : i ≤ n := by omega
      have q1 : (0 : Int) ≤ (i : Int) := by omega
      have q2 : (i : Int) < (N : Int) := by have := hNM.out.2.1; omega
      have cD := HD.out.blk.cell i
      rw [rowV_get _ _ (by omega), if_neg (by omega)] at cD
      have fD := HD.out.blk.frozen i
      have lD := HD.out.blk.lt
      have gl := GR.out wr
      have wM := WM.out
      go_wp2_with fail
      have HC := hide (HD.out.row hin _ rfl)
      rw [hNM.out.2.2] at HC
      clear gl wM cD fD lD
      obtain ⟨gi, hgi⟩ : ∃ gi, wr.heap.size = gi := ⟨_, rfl⟩
      rw [hgi] at HC ⊢
      generalize ((wr.setCell ⟨D, i, none⟩ (.slice (some ⟨gi, 0, none⟩) M M)).alloc (.cells (rowV M fun _ => .int .i64 0) 3)) = W1 at HC ⊢
      clear hgi HD
      go_loopw [7] (fun x wq => ∃ (q : Nat) (jv : Int), x = .int .i64 jv ∧ jv = (q : Int) - 1 ∧ q ≤ m + 1 ∧ Hid (DC w n m i q D gi g (dsT a b) wq)) (fun x _ => (intOf x + 1).toNat)
      case atStart => exact ⟨m + 1, _, rfl, by omega, by omega, by rw [hNM.out.2.2]; exact HC⟩
      case round =>
        obtain ⟨q, jv, rfl, hjv, hq, HQ⟩ := hrel
        clear HC
        rcases q with _ | j
        · have hv0 : jv = -1 := by omega
          subst hv0
          clear hjv
          have w2 : IntKind.i64.wrap ((i : Int) - 1) = (i : Int) - 1 := IntWalk.i64_in _ (by omega)
          go_wp2_with fail
          go_roundw
          case rel => exact ⟨i, (i : Int) - 1, _, rfl, rfl, by omega, hide (HQ.out.full hin)⟩
          case measure => first | (simp [intOf]; omega) | simp [intOf]
        · have hv0 : jv = (j : Int) := by omega
          subst hv0
          clear hjv
          have hjm : j ≤ m := by omega
          have p1 : (0 : Int) ≤ (j : Int) := by omega
          have p2 : (j : Int) < (M : Int) := by have := hNM.out.2.2; omega
          have hMM := hNM.out.2.2
          have w4 : IntKind.i64.wrap ((j : Int) - 1) = (j : Int) - 1 := IntWalk.i64_in _ (by omega)
          have cD := HQ.out.blk.cell i
          rw [rowV_get _ _ (by omega), if_pos (Nat.le_refl _), upd_same, hMM] at cD
          have lD := HQ.out.blk.lt
          have cg := HQ.out.cur.cell j
          rw [rowV_get _ _ (by omega), if_neg (by omega)] at cg
          have fg := HQ.out.cur.frozen j
          have lg := HQ.out.cur.lt
          clear hMM
          by_cases hin2 : i = n
          · have e1 : ((i : Int) == (n : Int)) = true := by simp; omega
            have l1 : ¬ (i : Int) < (n : Int) := by omega
            by_cases hjm2 : j = m
            · -- BEGIN1
              have e2 : ((j : Int) == (m : Int)) = true := by simp; omega
              have l2 : ¬ (j : Int) < (m : Int) := by omega
              have HN := hide (HQ.out.put (Below.refl _ _) hjm 0 (by
                have h1 := dsT_end a b j
                have h2 := hNM.out.1
                rw [hin2, ← h2.1, h1, h2.2]; omega))
              clear hin2 hjm2
              go_wp2_with fail
              go_roundw
              case rel => exact ⟨j, (j : Int) - 1, by first | rfl | rw [w4], rfl, by omega, HN⟩
              case measure => first | (simp [intOf]; omega) | simp [intOf]
              -- END1
            · -- BEGIN2
              have e2 : ((j : Int) == (m : Int)) = false := by simp; omega
              have l2 : (j : Int) < (m : Int) := by omega
              have cg2 := HQ.out.cur.cell (j + 1)
              rw [rowV_get _ _ (by omega), if_pos (by omega)] at cg2
              obtain ⟨t3, ht3⟩ : ∃ t, dsT a b i (j + 1) = t := ⟨_, rfl⟩
              rw [ht3] at cg2
              have hv3 : t3 = m - (j + 1) := by
                have h1 := dsT_end a b (j + 1)
                have h2 := hNM.out.1
                rw [← ht3, hin2, ← h2.1, h1, h2.2]
              have HN := hide (HQ.out.put (Below.refl _ _) hjm (1 + (t3 : Int)) (by
                have h1 := dsT_end a b j
                have h2 := hNM.out.1
                rw [hin2, ← h2.1, h1, h2.2]; omega))
              have wj1 : IntKind.i64.wrap ((j : Int) + 1) = (j : Int) + 1 := IntWalk.i64_in _ (by omega)
              have jj1 : (0 : Int) ≤ (j : Int) + 1 := by omega
              have jj2 : (j : Int) + 1 < (M : Int) := by have := hNM.out.2.2; omega
              have jj3 : ((j : Int) + 1).toNat = j + 1 := by omega
              have w5 : IntKind.i64.wrap (1 + (t3 : Int)) = 1 + (t3 : Int) := IntWalk.i64_in _ (by omega)
              have m5 : min (99 : Int) (1 + (t3 : Int)) = 1 + (t3 : Int) := by omega
              clear hin2 hjm2 ht3 hv3
              go_wp2_with fail
              go_roundw
              case rel => exact ⟨j, (j : Int) - 1, by first | rfl | rw [w4], rfl, by omega, HN⟩
              case measure => first | (simp [intOf]; omega) | simp [intOf]
              -- END2
          · have e1 : ((i : Int) == (n : Int)) = false := by simp; omega
            have l1 : (i : Int) < (n : Int) := by omega
            have cD2 := HQ.out.blk.cell (i + 1)
            rw [rowV_get _ _ (by omega), if_pos (by omega), upd_ne _ _ (by omega), hNM.out.2.2] at cD2
            obtain ⟨gn, hgn⟩ : ∃ gn, g (i + 1) = gn := ⟨_, rfl⟩
            have hrow := HQ.out.rows (i + 1) (by omega) (by omega)
            rw [hgn] at hrow cD2
            have cn2 := hrow.cell j
            rw [rowV_get _ _ (by omega)] at cn2
            obtain ⟨t2, ht2⟩ : ∃ t, dsT a b (i + 1) j = t := ⟨_, rfl⟩
            rw [ht2] at cn2
            have b2 := dsT_le a b (i + 1) j
            rw [ht2, hNM.out.1.1, hNM.out.1.2] at b2
            have wi1 : IntKind.i64.wrap ((i : Int) + 1) = (i : Int) + 1 := IntWalk.i64_in _ (by omega)
            have ii1 : (0 : Int) ≤ (i : Int) + 1 := by omega
            have ii2 : (i : Int) + 1 < (N : Int) := by have := hNM.out.2.1; omega
            have ii3 : ((i : Int) + 1).toNat = i + 1 := by omega
            have w6 : IntKind.i64.wrap (1 + (t2 : Int)) = 1 + (t2 : Int) := IntWalk.i64_in _ (by omega)
            by_cases hjm2 : j = m
            · -- BEGIN3
              have e2 : ((j : Int) == (m : Int)) = true := by simp; omega
              have l2 : ¬ (j : Int) < (m : Int) := by omega
              have hv2 : t2 = n - (i + 1) := by
                have h1 := dsT_end2 a b (i + 1)
                have h2 := hNM.out.1
                rw [← ht2, hjm2, ← h2.2, h1, h2.1]
              have HN := hide (HQ.out.put (Below.refl _ _) hjm (1 + (t2 : Int)) (by
                have h1 := dsT_end2 a b i
                have h2 := hNM.out.1
                rw [hjm2, ← h2.2, h1, h2.1]; omega))
              have m5 : min (99 : Int) (1 + (t2 : Int)) = 1 + (t2 : Int) := by omega
              clear hin2 hjm2 ht2 hv2 hrow hgn
              go_wp2_with fail
              go_roundw
              case rel => exact ⟨j, (j : Int) - 1, by first | rfl | rw [w4], rfl, by omega, HN⟩
              case measure => first | (simp [intOf]; omega) | simp [intOf]
              -- END3
            · have e2 : ((j : Int) == (m : Int)) = false := by simp; omega
              have l2 : (j : Int) < (m : Int) := by omega
              have hi3 : i < n := by omega
              have hj3 : j < m := by omega
              have cg2 := HQ.out.cur.cell (j + 1)
              rw [rowV_get _ _ (by omega), if_pos (by omega)] at cg2
              have cn1 := hrow.cell (j + 1)
              rw [rowV_get _ _ (by omega)] at cn1
              obtain ⟨t1, ht1⟩ : ∃ t, dsT a b (i + 1) (j + 1) = t := ⟨_, rfl⟩
              obtain ⟨t3, ht3⟩ : ∃ t, dsT a b i (j + 1) = t := ⟨_, rfl⟩
              rw [ht1] at cn1
              rw [ht3] at cg2
              have b1 := dsT_le a b (i + 1) (j + 1)
              have b3 := dsT_le a b i (j + 1)
              rw [ht1, hNM.out.1.1, hNM.out.1.2] at b1
              rw [ht3, hNM.out.1.1, hNM.out.1.2] at b3
              have hmn := dsT_min (a := a) (b := b) (k := i) (j := j) (by rw [hNM.out.1.1]; exact hi3) (by rw [hNM.out.1.2]; exact hj3)
              rw [ht1, ht2, ht3] at hmn
              obtain ⟨xb, xo, hXA, hxb, hxc⟩ := VR1.at_ (HA.out.below HQ.out.below (Nat.le_refl _)) hi3
              obtain ⟨yb, yo, hYB, hyb, hyc⟩ := VR1.at_ (HB.out.below HQ.out.below (Nat.le_refl _)) hj3
              subst hXA hYB
              obtain ⟨x, hx⟩ : ∃ x, a.getD i noW = x := ⟨_, rfl⟩
              obtain ⟨y, hy⟩ : ∃ y, b.getD j noW = y := ⟨_, rfl⟩
              rw [hx] at hxc
              rw [hy] at hyc
              rw [hx, hy] at hmn
              have hxb2 : xb < wr.heap.size := by have := HQ.out.below.size; omega
              have hyb2 : yb < wr.heap.size := by have := HQ.out.below.size; omega
              have hs14 : Hid (∀ W, Below wr.heap.size wr W → W.cell? ⟨xb, xo + i, none⟩ = some (.string x) ∧ W.cell? ⟨yb, yo + j, none⟩ = some (.string y)) := hide (fun W h => ⟨(h.cell (p := ⟨xb, xo + i, none⟩) hxb2).trans hxc, (h.cell (p := ⟨yb, yo + j, none⟩) hyb2).trans hyc⟩)
              have lgn := hrow.lt
              have HC := hide (And.intro cD (And.intro cD2 (And.intro cn1 (And.intro cn2 (And.intro cg2 (And.intro cg fg))))))
              have wj1 : IntKind.i64.wrap ((j : Int) + 1) = (j : Int) + 1 := IntWalk.i64_in _ (by omega)
              have jj1 : (0 : Int) ≤ (j : Int) + 1 := by omega
              have jj2 : (j : Int) + 1 < (M : Int) := by have := hNM.out.2.2; omega
              have jj3 : ((j : Int) + 1).toNat = j + 1 := by omega
              have w5 : IntKind.i64.wrap (1 + (t3 : Int)) = 1 + (t3 : Int) := IntWalk.i64_in _ (by omega)
              have HMN := hide hmn
              have HI := hide (And.intro hi3 hj3)
              clear hin2 hjm2 ht1 ht2 ht3 hrow hgn hx hy hxc hyc cD cD2 cn1 cn2 cg2 cg fg hmn hxb hyb hi3 hj3
              obtain ⟨T, hT⟩ : ∃ T, dsT a b i j = T := ⟨_, rfl⟩
              rw [hT] at HMN
              have Bd := hide (Below.refl wr.heap.size wr).drew
              go_upto_region 14 with fail
              refine wp_region_J (fun W : World => W.cell? ⟨xb, xo + i, none⟩ = some (.string x) ∧ W.cell? ⟨yb, yo + j, none⟩ = some (.string y)) (by kernel_rfl) ?_
              generalize wr.drew = wd at Bd ⊢
              refine wpAnyJ_take 0 (v := ?_) (by first | exact hF | exact wideFn) (hs14.out _ Bd.out) rfl (by kernel_rfl) (by kernel_rfl) (by kernel_rfl) (by kernel_rfl) rfl ?_ (by first | exact fun _ _ _ h => h | exact fun _ _ _ h => hQ2 _ _ _ _ _ h) ?_
              rotate_left
              · intro W hSW
                simp only [glA, glB, glC]
                (try dsimp only at hSW)
                go_simp
                with_reducible rfl
              (try simp only [glA, glB, glC, Act.put, glD, glE, glF])
              refine wpAnyJ_take 1 (v := ?_) (by first | exact hF | exact wideFn) (hs14.out _ Bd.out) rfl (by kernel_rfl) (by kernel_rfl) (by kernel_rfl) (by kernel_rfl) rfl ?_ (by first | exact fun _ _ _ h => h | exact fun _ _ _ h => hQ2 _ _ _ _ _ h) ?_
              rotate_left
              · intro W hSW
                simp only [glA, glB, glC]
                (try dsimp only at hSW)
                go_simp
                with_reducible rfl
              (try simp only [glA, glB, glC, Act.put, glD, glE, glF])
              refine wpAnyJ_take 2 (v := ?_) (by first | exact hF | exact wideFn) (hs14.out _ Bd.out) rfl (by kernel_rfl) (by kernel_rfl) (by kernel_rfl) (by kernel_rfl) rfl ?_ (by first | exact fun _ _ _ h => h | exact fun _ _ _ h => hQ2 _ _ _ _ _ h) ?_
              rotate_left
              · intro W hSW
                simp only [glA, glB, glC]
                (try dsimp only at hSW)
                go_simp
                with_reducible rfl
              (try simp only [glA, glB, glC, Act.put, glD, glE, glF])
              refine wpAnyJ_take 3 (v := ?_) (by first | exact hF | exact wideFn) (hs14.out _ Bd.out) rfl (by kernel_rfl) (by kernel_rfl) (by kernel_rfl) (by kernel_rfl) rfl ?_ (by first | exact fun _ _ _ h => h | exact fun _ _ _ h => hQ2 _ _ _ _ _ h) ?_
              rotate_left
              · intro W hSW
                simp only [glA, glB, glC]
                (try dsimp only at hSW)
                go_simp
                with_reducible rfl
              (try simp only [glA, glB, glC, Act.put, glD, glE, glF])
              refine wpAnyJ_take 4 (v := ?_) (by first | exact hF | exact wideFn) (hs14.out _ Bd.out) rfl (by kernel_rfl) (by kernel_rfl) (by kernel_rfl) (by kernel_rfl) rfl ?_ (by first | exact fun _ _ _ h => h | exact fun _ _ _ h => hQ2 _ _ _ _ _ h) ?_
              rotate_left
              · intro W hSW
                simp only [glA, glB, glC]
                (try dsimp only at hSW)
                go_simp
                with_reducible rfl
              (try simp only [glA, glB, glC, Act.put, glD, glE, glF])
              refine wpAnyJ_take 5 (v := ?_) (by first | exact hF | exact wideFn) (hs14.out _ Bd.out) rfl (by kernel_rfl) (by kernel_rfl) (by kernel_rfl) (by kernel_rfl) rfl ?_ (by first | exact fun _ _ _ h => h | exact fun _ _ _ h => hQ2 _ _ _ _ _ h) ?_
              rotate_left
              · intro W hSW
                simp only [glA, glB, glC]
                (try dsimp only at hSW)
                go_simp
                with_reducible rfl
              (try simp only [glA, glB, glC, Act.put, glD, glE, glF])
              refine wpAnyJ_take 6 (v := ?_) (by first | exact hF | exact wideFn) (hs14.out _ Bd.out) rfl (by kernel_rfl) (by kernel_rfl) (by kernel_rfl) (by kernel_rfl) rfl ?_ (by first | exact fun _ _ _ h => h | exact fun _ _ _ h => hQ2 _ _ _ _ _ h) ?_
              rotate_left
              · intro W hSW
                simp only [glA, glB, glC]
                (try dsimp only at hSW)
                go_simp
                with_reducible rfl
              (try simp only [glA, glB, glC, Act.put, glD, glE, glF])
              refine wpAnyJ_take 7 (v := ?_) (by first | exact hF | exact wideFn) (hs14.out _ Bd.out) rfl (by kernel_rfl) (by kernel_rfl) (by kernel_rfl) (by kernel_rfl) rfl ?_ (by first | exact fun _ _ _ h => h | exact fun _ _ _ h => hQ2 _ _ _ _ _ h) ?_
              rotate_left
              · intro W hSW
                simp only [glA, glB, glC]
                (try dsimp only at hSW)
                go_simp
                with_reducible rfl
              (try simp only [glA, glB, glC, Act.put, glD, glE, glF])
              have cD := (Bd.out.cell (p := ⟨D, i, none⟩) lD).trans HC.out.1
              have cD2 := (Bd.out.cell (p := ⟨D, i + 1, none⟩) lD).trans HC.out.2.1
              have cn1 := (Bd.out.cell (p := ⟨gn, j + 1, none⟩) lgn).trans HC.out.2.2.1
              have cn2 := (Bd.out.cell (p := ⟨gn, j, none⟩) lgn).trans HC.out.2.2.2.1
              have cg2 := (Bd.out.cell (p := ⟨gi, j + 1, none⟩) lg).trans HC.out.2.2.2.2.1
              have cg := (Bd.out.cell (p := ⟨gi, j, none⟩) lg).trans HC.out.2.2.2.2.2.1
              have fg := (Bd.out.frozen (p := ⟨gi, j, none⟩) lg).trans HC.out.2.2.2.2.2.2
              have HTT := hide hT
              have lgd : gi < wd.heap.size := by have := Bd.out.size; omega
              by_cases hxy : x = y
              · rw [if_pos hxy] at HMN
                subst hxy
                refine wpAnyJ_take 8 (v := ?_) (by first | exact hF | exact wideFn) (hs14.out _ Bd.out) rfl (by kernel_rfl) (by kernel_rfl) (by kernel_rfl) (by kernel_rfl) rfl ?_ (by first | exact fun _ _ _ h => h | exact fun _ _ _ h => hQ2 _ _ _ _ _ h) ?_
                rotate_left
                · intro W hSW
                  simp only [glA, glB, glC]
                  (try dsimp only at hSW)
                  go_simp
                  with_reducible rfl
                (try simp only [glA, glB, glC, Act.put, glD, glE, glF])
                refine wpAnyJ_done (by kernel_rfl) ?_
                obtain ⟨p, hp⟩ : ∃ p, min (0 + t1) (1 + t2) = p := ⟨_, rfl⟩
                have hmn := HMN.out
                rw [hp] at hmn
                have w7 : IntKind.i64.wrap (0 + (t1 : Int)) = (t1 : Int) := by rw [Int.zero_add]; exact IntWalk.i64_in _ (by omega)
                have w8 : IntKind.i64.wrap (t1 : Int) = (t1 : Int) := IntWalk.i64_in _ (by omega)
                have m1 : min (99 : Int) (t1 : Int) = (t1 : Int) := by omega
                have m2 : min (t1 : Int) (1 + (t2 : Int)) = (p : Int) := by omega
                have m3 : min (p : Int) (1 + (t3 : Int)) = (T : Int) := by omega
                have HN := hide (HQ.out.put Bd.out hjm (T : Int) (by rw [HTT.out]))
                clear hT hp hmn
                go_wp2_with fail
                go_roundw
                case rel => exact ⟨j, (j : Int) - 1, by first | rfl | rw [w4], rfl, by omega, HN⟩
                case measure => first | (simp [intOf]; omega) | simp [intOf]
              · have e3 := str_ne hxy
                rw [if_neg hxy] at HMN
                clear hxy
                refine wpAnyJ_take 8 (v := ?_) (by first | exact hF | exact wideFn) (hs14.out _ Bd.out) rfl (by kernel_rfl) (by kernel_rfl) (by kernel_rfl) (by kernel_rfl) rfl ?_ (by first | exact fun _ _ _ h => h | exact fun _ _ _ h => hQ2 _ _ _ _ _ h) ?_
                rotate_left
                · intro W hSW
                  simp only [glA, glB, glC]
                  (try dsimp only at hSW)
                  go_simp
                  with_reducible rfl
                (try simp only [glA, glB, glC, Act.put, glD, glE, glF])
                refine wpAnyJ_done (by kernel_rfl) ?_
                clear e3
                obtain ⟨p, hp⟩ : ∃ p, min (1 + t1) (1 + t2) = p := ⟨_, rfl⟩
                have hmn := HMN.out
                rw [hp] at hmn
                have w7 : IntKind.i64.wrap (1 + (t1 : Int)) = 1 + (t1 : Int) := IntWalk.i64_in _ (by omega)
                have m1 : min (99 : Int) (1 + (t1 : Int)) = 1 + (t1 : Int) := by omega
                have m2 : min (1 + (t1 : Int)) (1 + (t2 : Int)) = (p : Int) := by omega
                have m3 : min (p : Int) (1 + (t3 : Int)) = (T : Int) := by omega
                have HN := hide (HQ.out.put Bd.out hjm (T : Int) (by rw [HTT.out]))
                clear hT hp hmn
                go_wp2_with fail
                go_roundw
                case rel => exact ⟨j, (j : Int) - 1, by first | rfl | rw [w4], rfl, by omega, HN⟩
                case measure => first | (simp [intOf]; omega) | simp [intOf]
end Go.Proofs.YtmpegkojencbjaaDoor
/- School: the reference's at. -/
namespace Go.Proofs.YtmpegkojencbjaaDoor
open Go Go.RowKit Go.Shelf
set_option maxHeartbeats 4000000
set_option maxRecDepth 100000
theorem OwnE.made1 (W : World) : OwnE (W.alloc (.cells #[] 86)) W.heap.size (.slice (some ⟨W.heap.size, 0, none⟩) 0 0) [] :=
  World.ownsRow_made W #[] 0 (Nat.le_refl _) (by unfold maxLen; omega) rfl
def atB (i : Int) (wd : Bool) (e : Ed) : Bool := decide (e.at_ = i) && ((e.ki == 3) == wd)
def atL (l : List Ed) (i : Int) (wd : Bool) : List Ed := l.filter (atB i wd)
theorem atL_take (l : List Ed) (i : Int) (wd : Bool) (k : Nat) (hk : k < l.length) {e : Ed} (he : l.getD k e0 = e) : atL (l.take (k + 1)) i wd = if atB i wd e then atL (l.take k) i wd ++ [e] else atL (l.take k) i wd := by
  have h1 : l.take (k + 1) = l.take k ++ [e] := by
    rw [List.take_succ_eq_append_getElem hk]
    rw [List.getD_eq_getElem?_getD, List.getElem?_eq_getElem hk] at he
    rw [← he]; rfl
  unfold atL
  rw [h1, List.filter_append]
  cases h : atB i wd e <;> simp [h]
theorem atL_len (l : List Ed) (i : Int) (wd : Bool) : (atL l i wd).length ≤ l.length := List.length_filter_le _ _
theorem at_any (A : Option Addr) (c : Nat) (l : List Ed) (i : Int) (wd : Bool) (w : World) (hl : l.length ≤ 100000) (hA : EdR w w.heap.size A l) :
    Calls Tryd.prog 58 #[.slice A l.length c, .int .i64 i, .bool wd] w fun e w' => ∃ v, e = .returned v ∧ OwnE w' w.heap.size v (atL l i wd) ∧ Below w.heap.size w w' := by
  have HA := hide hA
  obtain ⟨n, hn⟩ : ∃ n, l.length = n := ⟨_, rfl⟩
  have HN := hide hn
  rw [hn] at hl ⊢
  clear hA hn
  go_enter Tryd.func58, Tryd.ntmps58
  have HO0 : Hid (OwnE (w.alloc (.cells #[] 86)) w.heap.size (.slice (some ⟨w.heap.size, 0, none⟩) 0 0) (atL (l.take 0) i wd)) := hide (OwnE.made1 w)
  have HB0 := hide ((Below.refl w.heap.size w).alloc (Nat.le_refl _) (.cells #[] 86))
  go_wp2_with fail
  generalize (w.alloc (.cells #[] 86)) = w1 at HO0 HB0 ⊢
  go_loopw [7, 8] (fun v x wr => ∃ (k : Nat) (vl : Value), k ≤ n ∧ x = .int .i64 k ∧ v = vl ∧ Hid (OwnE wr w.heap.size vl (atL (l.take k) i wd)) ∧ Hid (Below w.heap.size w wr)) (fun _ x _ => n - (intOf x).toNat)
  case atStart => exact ⟨0, _, Nat.zero_le _, rfl, rfl, HO0, HB0⟩
  case round =>
    obtain ⟨k, vl, hk, rfl, rfl, HO, HBW⟩ := hrel
    clear HO0 HB0
    obtain ⟨vA, vc, hv⟩ := own_shape HO.out
    subst hv
    by_cases hlt : k < n
    · have hlt' : (k : Int) < (n : Int) := by omega
      have k0 : (0 : Int) ≤ (k : Int) := by omega
      obtain ⟨e, he⟩ : ∃ e, l.getD k e0 = e := ⟨_, rfl⟩
      obtain ⟨xb, xo, rfl, hxb, a0, a1, a2, a3⟩ := HA.out.at_ (by rw [HN.out]; exact hlt) he
      have HE := hide he
      clear he
      obtain ⟨x0, x1, x2, x3⟩ := e
      dsimp only at a0 a1 a2 a3
      have hst : IntKind.i64.wrap ((k : Int) + 1) = (k : Int) + 1 := IntWalk.i64_in _ (by omega)
      have c0 := (HBW.out.cell (p := ⟨xb, xo + k * 4, none⟩) hxb).trans a0
      have c1 := (HBW.out.cell (p := ⟨xb, xo + k * 4 + 1, none⟩) hxb).trans a1
      have c2 := (HBW.out.cell (p := ⟨xb, xo + k * 4 + 2, none⟩) hxb).trans a2
      have c3 := (HBW.out.cell (p := ⟨xb, xo + k * 4 + 3, none⟩) hxb).trans a3
      clear a0 a1 a2 a3
      by_cases h1 : x1 = i
      · subst h1
        by_cases h3 : ((x0 == 3) == wd) = true
        · have hf : atB x1 wd ⟨x0, x1, x2, x3⟩ = true := by unfold atB; simp only [decide_true, Bool.true_and]; exact h3
          have hlen : (atL (l.take k) x1 wd).length ≤ 1000000 := by
            have h2 := atL_len (l.take k) x1 wd
            have h4 : (l.take k).length ≤ k := List.length_take_le _ _
            omega
          obtain ⟨A2, c2', w2, hrun, ho, hg⟩ := HO.out.push ⟨x0, x1, x2, x3⟩ hlen HBW.out.size
          have HN2 := hide ho
          have HB2 : Hid (Below w.heap.size w w2) := hide (((HBW.out.trans ((Below.refl wr.heap.size wr).alloc (Nat.le_refl _) _ |>.mono HBW.out.size))).grown hg (Nat.le_trans HBW.out.size (by simp)) (fun k hk => (World.ownsRow.lt HO.out k hk).1))
          dsimp only at hrun
          have HRUN := hide hrun
          clear hrun ho hg hlen
          have e3 : ((x0 == 3) == wd) = true := h3
          clear h3
          go_wp2_with (at_builtin; refine wpList_append_run rfl (.tmp 33) (.tmp 38) 26 rfl rfl rfl HRUN.out ?_)
          go_roundw
          case rel => exact ⟨k + 1, _, by omega, by go_num, rfl, hide (by rw [atL_take l x1 wd k (by rw [HN.out]; exact hlt) HE.out, if_pos hf]; exact HN2.out), HB2⟩
          case measure => simp [intOf]; omega
        · have hf : ¬ atB x1 wd ⟨x0, x1, x2, x3⟩ = true := by unfold atB; simp only [decide_true, Bool.true_and]; exact h3
          have e3 : ((x0 == 3) == wd) = false := by simpa using h3
          clear h3
          generalize x1 = i at *
          go_wp2_with fail
          go_roundw
          case rel => exact ⟨k + 1, _, by omega, by go_num, rfl, hide (by rw [atL_take l i wd k (by rw [HN.out]; exact hlt) HE.out, if_neg hf]; exact HO.out), HBW⟩
          case measure => simp [intOf]; omega
      · have hf : ¬ atB i wd ⟨x0, x1, x2, x3⟩ = true := by unfold atB; simp [h1]
        go_wp2_with fail
        go_roundw
        case rel => exact ⟨k + 1, _, by omega, by go_num, rfl, hide (by rw [atL_take l i wd k (by rw [HN.out]; exact hlt) HE.out, if_neg hf]; exact HO.out), HBW⟩
        case measure => simp [intOf]; omega
    · obtain rfl : n = k := by omega
      have hnl : ¬ (n : Int) < (n : Int) := by omega
      go_wp2_with fail
      go_ret
      refine ⟨_, rfl, ?_, HBW.out⟩
      have hall : l.take n = l := List.take_of_length_le (by rw [HN.out]; exact Nat.le_refl _)
      have := HO.out
      rw [hall] at this ⊢
      exact this
end Go.Proofs.YtmpegkojencbjaaDoor
/- School: the reference's Apply: what it returns, and its walk. -/
namespace Go.Proofs.YtmpegkojencbjaaDoor
open List renaming getElem_toArray → glA, getElem_cons_zero → glB, getElem_cons_succ → glC, setIfInBounds_toArray → glD, set_cons_zero → glE, set_cons_succ → glF
open Go Go.RowKit Go.Shelf
set_option maxHeartbeats 4000000
set_option maxRecDepth 100000
/-- the first edit of n that does not fit -/
def apC (a : List Wd) (es : List Ed) : Nat → Option Nat
  | 0 => none
  | n + 1 => match apC a es n with | some k => some k | none => if edE a (es.getD n e0) = 0 then none else some n
theorem apC_succ (a : List Wd) (es : List Ed) (n : Nat) (h : apC a es n = none) : apC a es (n + 1) = if edE a (es.getD n e0) = 0 then none else some n := by
  show (match apC a es n with | some k => some k | none => if edE a (es.getD n e0) = 0 then none else some n) = _
  rw [h]
theorem apC_some (a : List Wd) (es : List Ed) {k : Nat} : ∀ n m, n ≤ m → apC a es n = some k → apC a es m = some k := by
  intro n m h
  induction h with
  | refl => exact id
  | step _ ih =>
    intro h
    show (match apC a es _ with | some k => some k | none => _) = _
    rw [ih h]
/-- one place: the new words of j edits, and whether the old word is gone -/
def apJ (es : List Ed) (i : Nat) (l : List Wd) : Nat → List Wd × Bool
  | 0 => (l, false)
  | j + 1 => if (es.getD j e0).at_ = (i : Int) then ((apJ es i l j).1 ++ (if (es.getD j e0).ki = 2 then [] else [(es.getD j e0).new]), (apJ es i l j).2 || decide ((es.getD j e0).ki ≠ 3)) else apJ es i l j
def apI (a : List Wd) (es : List Ed) : Nat → List Wd
  | 0 => []
  | i + 1 => (apJ es i (apI a es i) es.length).1 ++ if (apJ es i (apI a es i) es.length).2 = false ∧ i < a.length then [a.getD i noW] else []
theorem apJ_len (es : List Ed) (i : Nat) (l : List Wd) : ∀ j, (apJ es i l j).1.length ≤ l.length + j
  | 0 => Nat.le_refl _
  | j + 1 => by
    have h := apJ_len es i l j
    unfold apJ
    split
    · simp only [List.length_append]
      split <;> simp only [List.length_nil, List.length_cons] <;> omega
    · omega
theorem apI_len (a : List Wd) (es : List Ed) : ∀ i, (apI a es i).length ≤ i * (es.length + 1)
  | 0 => Nat.zero_le _
  | i + 1 => by
    have h := apI_len a es i
    have h2 := apJ_len es i (apI a es i) es.length
    have h3 : (i + 1) * (es.length + 1) = i * (es.length + 1) + (es.length + 1) := Nat.succ_mul _ _
    unfold apI
    rw [List.length_append, h3]
    split <;> simp only [List.length_nil, List.length_cons] <;> omega
/-- what Apply returns -/
def apX (a : List Wd) (es : List Ed) : List Wd × Int × Int :=
  match apC a es es.length with
  | some k => ([], (k : Int), edE a (es.getD k e0))
  | none => if (apI a es (a.length + 1)).length ≤ 20 then (apI a es (a.length + 1), 0, 0) else ([], 0, 5)
theorem apX_bad {a : List Wd} {es : List Ed} {k : Nat} (hk : k < es.length) (h : apC a es k = none) {e : Ed} (he : es.getD k e0 = e) {r : Int} (hr : edE a e = r) (h0 : r ≠ 0) : apX a es = ([], (k : Int), r) := by
  have h1 : apC a es (k + 1) = some k := by rw [apC_succ a es k h, he, hr, if_neg h0]
  unfold apX
  rw [apC_some a es (k + 1) es.length hk h1]
  dsimp only
  rw [he, hr]
theorem OwnS.push {W : World} {base : Nat} {v : Value} {l : List Wd} (h : OwnS W base v l) (x : Wd) (hl : l.length ≤ 900000) (hb : base ≤ W.heap.size) :
    ∃ A c w', (Builtin.append_ #[22, 22] 22 #[v, .slice (some ⟨W.heap.size, 0, none⟩) 1 1]).run Tryd.prog (W.alloc (.cells #[.string x] 9)) = .ok (.slice A (l.length + 1) c) w' ∧
      OwnS w' base (.slice A (l.length + 1) c) (l ++ [x]) ∧ (∀ W0, W0.heap.size = base → Below base W0 W → Below base W0 w') := by
  have hBA : Below W.heap.size W (W.alloc (.cells #[.string x] 9)) := (Below.refl _ _).alloc (Nat.le_refl _) _
  obtain ⟨v', w', hr, ho, hg, -⟩ := (h.ext hBA).pushes (some ⟨W.heap.size, 0, none⟩) 1 [x] (SR.one W x) (by simp; omega) (Nat.le_trans hb hBA.size)
  obtain ⟨A', c', rfl⟩ := own_shape ho
  rw [List.length_append] at ho hr
  exact ⟨A', c', w', hr, ho, fun W0 _ hB => (hB.trans (hBA.mono hb)).grown hg (Nat.le_trans hb hBA.size) (fun k hk => (World.ownsRow.lt (h.ext hBA) k hk).1)⟩
theorem OwnS.low {W : World} {n0 n1 : Nat} {v : Value} {l : List Wd} (h : OwnS W n0 v l) (hb : n1 ≤ n0) : OwnS W n1 v l := ⟨h.1, h.2.imp id fun ⟨g, cap, cur, h1, h2, h3⟩ => ⟨g, cap, cur, h1, Nat.le_trans hb h2, h3⟩⟩
theorem apJ_no {es : List Ed} {i j : Nat} {l : List Wd} {e : Ed} (he : es.getD j e0 = e) (h : ¬ e.at_ = (i : Int)) : apJ es i l (j + 1) = apJ es i l j := by
  show (if _ then _ else _) = _
  rw [he, if_neg h]
theorem apJ_yes {es : List Ed} {i j : Nat} {l : List Wd} {e : Ed} (he : es.getD j e0 = e) (h : e.at_ = (i : Int)) {p : List Wd} {f : Bool} (hp : apJ es i l j = (p, f)) : apJ es i l (j + 1) = (p ++ (if e.ki = 2 then [] else [e.new]), f || decide (e.ki ≠ 3)) := by
  show (if _ then _ else _) = _
  rw [he, if_pos h, hp]
theorem apI_next {a : List Wd} {es : List Ed} {i m : Nat} (hm : es.length = m) {p : List Wd} {f : Bool} (hp : apJ es i (apI a es i) m = (p, f)) : apI a es (i + 1) = p ++ if f = false ∧ i < a.length then [a.getD i noW] else [] := by
  show (apJ es i (apI a es i) es.length).1 ++ _ = _
  rw [hm, hp]
theorem SR.at_ {w : World} {B : Nat} {A : Option Addr} {l : List Wd} (h : SR w B A l) {k : Nat} (hk : k < l.length) :
    ∃ b off, A = some ⟨b, off, none⟩ ∧ b < B ∧ w.cell? ⟨b, off + k, none⟩ = some (.string (l.getD k noW)) := VR1.at_ h hk
theorem refApply_any (A B : Option Addr) (c d : Nat) (a : List Wd) (es : List Ed) (w : World) (ha : a.length ≤ 30) (he : es.length ≤ 10000) (hA : SR w w.heap.size A a) (hB : EdR w w.heap.size B es) (hes : ∀ e ∈ es, 0 ≤ e.at_) :
    Calls Tryd.prog 47 #[.slice A a.length c, .slice B es.length d] w (MgPost w (apX a es)) := by
  have HA := hide hA
  have HB := hide hB
  have HP := hide hes
  obtain ⟨n, hn⟩ : ∃ n, a.length = n := ⟨_, rfl⟩
  obtain ⟨m, hm⟩ : ∃ n, es.length = n := ⟨_, rfl⟩
  have HN := hide (And.intro hn hm)
  rw [hn] at ha ⊢
  rw [hm] at he ⊢
  clear hA hB hes hn hm
  go_enter Tryd.func47, Tryd.ntmps47
  go_wp2_with fail
  go_loopw [7] (fun x wr => ∃ (k : Nat), k ≤ m ∧ x = .int .i64 k ∧ Hid (apC a es k = none) ∧ Hid (Below w.heap.size w wr)) (fun x _ => m - (intOf x).toNat)
  case atStart => exact ⟨0, Nat.zero_le _, rfl, hide rfl, hide (Below.refl _ _)⟩
  case round =>
    obtain ⟨k, hk, rfl, HC, HBW⟩ := hrel
    by_cases hlt : k < m
    · -- BEGIN1
      have hlt' : (k : Int) < (m : Int) := by omega
      have k0 : (0 : Int) ≤ (k : Int) := by omega
      have hst : IntKind.i64.wrap ((k : Int) + 1) = (k : Int) + 1 := IntWalk.i64_in _ (by omega)
      obtain ⟨e, he'⟩ : ∃ e, es.getD k e0 = e := ⟨_, rfl⟩
      have hmem : e ∈ es := by
        rw [← he', List.getD_eq_getElem?_getD, List.getElem?_eq_getElem (by rw [HN.out.2]; exact hlt)]
        exact List.getElem_mem _
      have hat0 := HP.out e hmem
      obtain ⟨xb, xo, rfl, hxb, a0, a1, a2, a3⟩ := HB.out.at_ (by rw [HN.out.2]; exact hlt) he'
      have HE := hide he'
      clear he' hmem
      obtain ⟨x0, x1, x2, x3⟩ := e
      dsimp only at a0 a1 a2 a3 hat0
      obtain ⟨t, rfl⟩ : ∃ t : Nat, x1 = (t : Int) := ⟨x1.toNat, by omega⟩
      have c0 := (HBW.out.cell (p := ⟨xb, xo + k * 4, none⟩) hxb).trans a0
      have c1 := (HBW.out.cell (p := ⟨xb, xo + k * 4 + 1, none⟩) hxb).trans a1
      by_cases htn : n < t
      · have htn' : (n : Int) < (t : Int) := by omega
        go_wp2_with fail
        go_ret3
        unfold MgPost
        rw [apX_bad (by rw [HN.out.2]; exact hlt) HC.out HE.out (r := 3) (by unfold edE; rw [HN.out.1]; simp; omega) (by decide)]
        exact ⟨_, rfl, OwnS.nil _ _, HBW.out⟩
      · have htn' : ¬ (n : Int) < (t : Int) := by omega
        by_cases h3 : x0 = 3
        · subst h3
          go_upto_region 6 with fail
          have Bd := hide (HBW.out.trans ((Below.refl wr.heap.size wr).drew.mono HBW.out.size))
          have HS : Hid (∀ W, Below w.heap.size w W → W.cell? ⟨xb, xo + k * 4, none⟩ = some (.int .i64 3)) := hide fun W h => (h.cell (p := ⟨xb, xo + k * 4, none⟩) hxb).trans a0
          clear a0 a1 a2 a3 c0 c1
          refine wp_region_J (fun W : World => W.cell? ⟨xb, xo + k * 4, none⟩ = some (.int .i64 3)) (by kernel_rfl) ?_
          generalize wr.drew = wd at Bd ⊢
          refine wpAnyJ_take 0 (v := ?_) (by first | exact hF | exact wideFn) (HS.out _ Bd.out) rfl (by kernel_rfl) (by kernel_rfl) (by kernel_rfl) (by kernel_rfl) rfl ?_ (by first | exact fun _ _ _ h => h | exact fun _ _ _ h => hQ2 _ _ _ _ _ h) ?_
          rotate_left
          · intro W hSW
            simp only [glA, glB, glC]
            (try dsimp only at hSW)
            go_simp
            with_reducible rfl
          (try simp only [glA, glB, glC, Act.put, glD, glE, glF])
          refine wpAnyJ_take 1 (v := ?_) (by first | exact hF | exact wideFn) (HS.out _ Bd.out) rfl (by kernel_rfl) (by kernel_rfl) (by kernel_rfl) (by kernel_rfl) rfl ?_ (by first | exact fun _ _ _ h => h | exact fun _ _ _ h => hQ2 _ _ _ _ _ h) ?_
          rotate_left
          · intro W hSW
            simp only [glA, glB, glC]
            (try dsimp only at hSW)
            go_simp
            with_reducible rfl
          (try simp only [glA, glB, glC, Act.put, glD, glE, glF])
          refine wpAnyJ_take 2 (v := ?_) (by first | exact hF | exact wideFn) (HS.out _ Bd.out) rfl (by kernel_rfl) (by kernel_rfl) (by kernel_rfl) (by kernel_rfl) rfl ?_ (by first | exact fun _ _ _ h => h | exact fun _ _ _ h => hQ2 _ _ _ _ _ h) ?_
          rotate_left
          · intro W hSW
            simp only [glA, glB, glC]
            (try dsimp only at hSW)
            go_simp
            with_reducible rfl
          (try simp only [glA, glB, glC, Act.put, glD, glE, glF])
          refine wpAnyJ_take 3 (v := ?_) (by first | exact hF | exact wideFn) (HS.out _ Bd.out) rfl (by kernel_rfl) (by kernel_rfl) (by kernel_rfl) (by kernel_rfl) rfl ?_ (by first | exact fun _ _ _ h => h | exact fun _ _ _ h => hQ2 _ _ _ _ _ h) ?_
          rotate_left
          · intro W hSW
            simp only [glA, glB, glC]
            (try dsimp only at hSW)
            go_simp
            with_reducible rfl
          (try simp only [glA, glB, glC, Act.put, glD, glE, glF])
          refine wpAnyJ_take 4 (v := ?_) (by first | exact hF | exact wideFn) (HS.out _ Bd.out) rfl (by kernel_rfl) (by kernel_rfl) (by kernel_rfl) (by kernel_rfl) rfl ?_ (by first | exact fun _ _ _ h => h | exact fun _ _ _ h => hQ2 _ _ _ _ _ h) ?_
          rotate_left
          · intro W hSW
            simp only [glA, glB, glC]
            (try dsimp only at hSW)
            go_simp
            with_reducible rfl
          (try simp only [glA, glB, glC, Act.put, glD, glE, glF])
          refine wpAnyJ_take 5 (v := ?_) (by first | exact hF | exact wideFn) (HS.out _ Bd.out) rfl (by kernel_rfl) (by kernel_rfl) (by kernel_rfl) (by kernel_rfl) rfl ?_ (by first | exact fun _ _ _ h => h | exact fun _ _ _ h => hQ2 _ _ _ _ _ h) ?_
          rotate_left
          · intro W hSW
            simp only [glA, glB, glC]
            (try dsimp only at hSW)
            go_simp
            with_reducible rfl
          (try simp only [glA, glB, glC, Act.put, glD, glE, glF])
          refine wpAnyJ_take 6 (v := ?_) (by first | exact hF | exact wideFn) (HS.out _ Bd.out) rfl (by kernel_rfl) (by kernel_rfl) (by kernel_rfl) (by kernel_rfl) rfl ?_ (by first | exact fun _ _ _ h => h | exact fun _ _ _ h => hQ2 _ _ _ _ _ h) ?_
          rotate_left
          · intro W hSW
            simp only [glA, glB, glC]
            (try dsimp only at hSW)
            go_simp
            with_reducible rfl
          (try simp only [glA, glB, glC, Act.put, glD, glE, glF])
          refine wpAnyJ_skip 7 (by first | exact hF | exact wideFn) (HS.out _ Bd.out) rfl (by kernel_rfl) (by kernel_rfl) (by kernel_rfl) (by kernel_rfl) rfl (by first | exact fun _ _ _ h => h | exact fun _ _ _ h => hQ2 _ _ _ _ _ h) ?_
          (try simp only [glA, glB, glC, Act.put, glD, glE, glF])
          refine wpAnyJ_skip 8 (by first | exact hF | exact wideFn) (HS.out _ Bd.out) rfl (by kernel_rfl) (by kernel_rfl) (by kernel_rfl) (by kernel_rfl) rfl (by first | exact fun _ _ _ h => h | exact fun _ _ _ h => hQ2 _ _ _ _ _ h) ?_
          (try simp only [glA, glB, glC, Act.put, glD, glE, glF])
          refine wpAnyJ_skip 9 (by first | exact hF | exact wideFn) (HS.out _ Bd.out) rfl (by kernel_rfl) (by kernel_rfl) (by kernel_rfl) (by kernel_rfl) rfl (by first | exact fun _ _ _ h => h | exact fun _ _ _ h => hQ2 _ _ _ _ _ h) ?_
          (try simp only [glA, glB, glC, Act.put, glD, glE, glF])
          refine wpAnyJ_skip 10 (by first | exact hF | exact wideFn) (HS.out _ Bd.out) rfl (by kernel_rfl) (by kernel_rfl) (by kernel_rfl) (by kernel_rfl) rfl (by first | exact fun _ _ _ h => h | exact fun _ _ _ h => hQ2 _ _ _ _ _ h) ?_
          (try simp only [glA, glB, glC, Act.put, glD, glE, glF])
          refine wpAnyJ_skip 11 (by first | exact hF | exact wideFn) (HS.out _ Bd.out) rfl (by kernel_rfl) (by kernel_rfl) (by kernel_rfl) (by kernel_rfl) rfl (by first | exact fun _ _ _ h => h | exact fun _ _ _ h => hQ2 _ _ _ _ _ h) ?_
          (try simp only [glA, glB, glC, Act.put, glD, glE, glF])
          refine wpAnyJ_skip 12 (by first | exact hF | exact wideFn) (HS.out _ Bd.out) rfl (by kernel_rfl) (by kernel_rfl) (by kernel_rfl) (by kernel_rfl) rfl (by first | exact fun _ _ _ h => h | exact fun _ _ _ h => hQ2 _ _ _ _ _ h) ?_
          (try simp only [glA, glB, glC, Act.put, glD, glE, glF])
          refine wpAnyJ_skip 13 (by first | exact hF | exact wideFn) (HS.out _ Bd.out) rfl (by kernel_rfl) (by kernel_rfl) (by kernel_rfl) (by kernel_rfl) rfl (by first | exact fun _ _ _ h => h | exact fun _ _ _ h => hQ2 _ _ _ _ _ h) ?_
          (try simp only [glA, glB, glC, Act.put, glD, glE, glF])
          refine wpAnyJ_skip 14 (by first | exact hF | exact wideFn) (HS.out _ Bd.out) rfl (by kernel_rfl) (by kernel_rfl) (by kernel_rfl) (by kernel_rfl) rfl (by first | exact fun _ _ _ h => h | exact fun _ _ _ h => hQ2 _ _ _ _ _ h) ?_
          (try simp only [glA, glB, glC, Act.put, glD, glE, glF])
          refine wpAnyJ_skip 15 (by first | exact hF | exact wideFn) (HS.out _ Bd.out) rfl (by kernel_rfl) (by kernel_rfl) (by kernel_rfl) (by kernel_rfl) rfl (by first | exact fun _ _ _ h => h | exact fun _ _ _ h => hQ2 _ _ _ _ _ h) ?_
          (try simp only [glA, glB, glC, Act.put, glD, glE, glF])
          refine wpAnyJ_skip 16 (by first | exact hF | exact wideFn) (HS.out _ Bd.out) rfl (by kernel_rfl) (by kernel_rfl) (by kernel_rfl) (by kernel_rfl) rfl (by first | exact fun _ _ _ h => h | exact fun _ _ _ h => hQ2 _ _ _ _ _ h) ?_
          (try simp only [glA, glB, glC, Act.put, glD, glE, glF])
          refine wpAnyJ_skip 17 (by first | exact hF | exact wideFn) (HS.out _ Bd.out) rfl (by kernel_rfl) (by kernel_rfl) (by kernel_rfl) (by kernel_rfl) rfl (by first | exact fun _ _ _ h => h | exact fun _ _ _ h => hQ2 _ _ _ _ _ h) ?_
          (try simp only [glA, glB, glC, Act.put, glD, glE, glF])
          refine wpAnyJ_skip 18 (by first | exact hF | exact wideFn) (HS.out _ Bd.out) rfl (by kernel_rfl) (by kernel_rfl) (by kernel_rfl) (by kernel_rfl) rfl (by first | exact fun _ _ _ h => h | exact fun _ _ _ h => hQ2 _ _ _ _ _ h) ?_
          (try simp only [glA, glB, glC, Act.put, glD, glE, glF])
          refine wpAnyJ_skip 19 (by first | exact hF | exact wideFn) (HS.out _ Bd.out) rfl (by kernel_rfl) (by kernel_rfl) (by kernel_rfl) (by kernel_rfl) rfl (by first | exact fun _ _ _ h => h | exact fun _ _ _ h => hQ2 _ _ _ _ _ h) ?_
          (try simp only [glA, glB, glC, Act.put, glD, glE, glF])
          refine wpAnyJ_skip 20 (by first | exact hF | exact wideFn) (HS.out _ Bd.out) rfl (by kernel_rfl) (by kernel_rfl) (by kernel_rfl) (by kernel_rfl) rfl (by first | exact fun _ _ _ h => h | exact fun _ _ _ h => hQ2 _ _ _ _ _ h) ?_
          (try simp only [glA, glB, glC, Act.put, glD, glE, glF])
          refine wpAnyJ_take 21 (v := ?_) (by first | exact hF | exact wideFn) (HS.out _ Bd.out) rfl (by kernel_rfl) (by kernel_rfl) (by kernel_rfl) (by kernel_rfl) rfl ?_ (by first | exact fun _ _ _ h => h | exact fun _ _ _ h => hQ2 _ _ _ _ _ h) ?_
          rotate_left
          · intro W hSW
            simp only [glA, glB, glC]
            (try dsimp only at hSW)
            go_simp
            with_reducible rfl
          (try simp only [glA, glB, glC, Act.put, glD, glE, glF])
          refine wpAnyJ_done (by kernel_rfl) ?_
          go_wp2_with fail
          go_roundw
          case rel => exact ⟨k + 1, by omega, by go_num, hide (by rw [apC_succ a es k HC.out, HE.out, if_pos (by unfold edE; rw [HN.out.1]; simp; omega)]), Bd⟩
          case measure => simp [intOf]; omega
        · have h3' : ¬ (x0 = 3) := h3
          by_cases htn2 : t = n
          · subst htn2
            go_wp2_with fail
            go_ret3
            unfold MgPost
            rw [apX_bad (by rw [HN.out.2]; exact hlt) HC.out HE.out (r := 3) (by unfold edE; rw [HN.out.1]; simp; omega) (by decide)]
            exact ⟨_, rfl, OwnS.nil _ _, HBW.out⟩
          · have htn3 : ¬ ((t : Int) = (n : Int)) := by omega
            have e4 : ((t : Int) == (n : Int)) = false := by simp; omega
            have t0 : (0 : Int) ≤ (t : Int) := by omega
            have t1 : (t : Int) < (n : Int) := by omega
            obtain ⟨yb, yo, rfl, hyb, b0⟩ := HA.out.at_ (k := t) (by rw [HN.out.1]; omega)
            obtain ⟨y, hy⟩ : ∃ y, a.getD t noW = y := ⟨_, rfl⟩
            rw [hy] at b0
            have HY := hide hy
            go_upto_region 6 with fail
            have Bd := hide (HBW.out.trans ((Below.refl wr.heap.size wr).drew.mono HBW.out.size))
            have HS : Hid (∀ W, Below w.heap.size w W → (W.cell? ⟨xb, xo + k * 4, none⟩ = some (.int .i64 x0) ∧ W.cell? ⟨xb, xo + k * 4 + 1, none⟩ = some (.int .i64 (t : Nat)) ∧ W.cell? ⟨xb, xo + k * 4 + 2, none⟩ = some (.string x2)) ∧ W.cell? ⟨yb, yo + t, none⟩ = some (.string y)) := hide fun W h => ⟨⟨(h.cell (p := ⟨xb, xo + k * 4, none⟩) hxb).trans a0, (h.cell (p := ⟨xb, xo + k * 4 + 1, none⟩) hxb).trans a1, (h.cell (p := ⟨xb, xo + k * 4 + 2, none⟩) hxb).trans a2⟩, (h.cell (p := ⟨yb, yo + t, none⟩) hyb).trans b0⟩
            have e5 : (x0 != 3) = true := by simp [h3]
            clear a0 a1 a2 a3 c0 c1 b0 hy e4
            refine wp_region_J (fun W : World => (W.cell? ⟨xb, xo + k * 4, none⟩ = some (.int .i64 x0) ∧ W.cell? ⟨xb, xo + k * 4 + 1, none⟩ = some (.int .i64 (t : Nat)) ∧ W.cell? ⟨xb, xo + k * 4 + 2, none⟩ = some (.string x2)) ∧ W.cell? ⟨yb, yo + t, none⟩ = some (.string y)) (by kernel_rfl) ?_
            generalize wr.drew = wd at Bd ⊢
            refine wpAnyJ_take 0 (v := ?_) (by first | exact hF | exact wideFn) (HS.out _ Bd.out) rfl (by kernel_rfl) (by kernel_rfl) (by kernel_rfl) (by kernel_rfl) rfl ?_ (by first | exact fun _ _ _ h => h | exact fun _ _ _ h => hQ2 _ _ _ _ _ h) ?_
            rotate_left
            · intro W hSW
              simp only [glA, glB, glC]
              (try dsimp only at hSW)
              go_simp
              with_reducible rfl
            (try simp only [glA, glB, glC, Act.put, glD, glE, glF])
            refine wpAnyJ_take 1 (v := ?_) (by first | exact hF | exact wideFn) (HS.out _ Bd.out) rfl (by kernel_rfl) (by kernel_rfl) (by kernel_rfl) (by kernel_rfl) rfl ?_ (by first | exact fun _ _ _ h => h | exact fun _ _ _ h => hQ2 _ _ _ _ _ h) ?_
            rotate_left
            · intro W hSW
              simp only [glA, glB, glC]
              (try dsimp only at hSW)
              go_simp
              with_reducible rfl
            (try simp only [glA, glB, glC, Act.put, glD, glE, glF])
            refine wpAnyJ_take 2 (v := ?_) (by first | exact hF | exact wideFn) (HS.out _ Bd.out) rfl (by kernel_rfl) (by kernel_rfl) (by kernel_rfl) (by kernel_rfl) rfl ?_ (by first | exact fun _ _ _ h => h | exact fun _ _ _ h => hQ2 _ _ _ _ _ h) ?_
            rotate_left
            · intro W hSW
              simp only [glA, glB, glC]
              (try dsimp only at hSW)
              go_simp
              with_reducible rfl
            (try simp only [glA, glB, glC, Act.put, glD, glE, glF])
            refine wpAnyJ_take 3 (v := ?_) (by first | exact hF | exact wideFn) (HS.out _ Bd.out) rfl (by kernel_rfl) (by kernel_rfl) (by kernel_rfl) (by kernel_rfl) rfl ?_ (by first | exact fun _ _ _ h => h | exact fun _ _ _ h => hQ2 _ _ _ _ _ h) ?_
            rotate_left
            · intro W hSW
              simp only [glA, glB, glC]
              (try dsimp only at hSW)
              go_simp
              with_reducible rfl
            (try simp only [glA, glB, glC, Act.put, glD, glE, glF])
            refine wpAnyJ_take 4 (v := ?_) (by first | exact hF | exact wideFn) (HS.out _ Bd.out) rfl (by kernel_rfl) (by kernel_rfl) (by kernel_rfl) (by kernel_rfl) rfl ?_ (by first | exact fun _ _ _ h => h | exact fun _ _ _ h => hQ2 _ _ _ _ _ h) ?_
            rotate_left
            · intro W hSW
              simp only [glA, glB, glC]
              (try dsimp only at hSW)
              go_simp
              with_reducible rfl
            (try simp only [glA, glB, glC, Act.put, glD, glE, glF])
            refine wpAnyJ_take 5 (v := ?_) (by first | exact hF | exact wideFn) (HS.out _ Bd.out) rfl (by kernel_rfl) (by kernel_rfl) (by kernel_rfl) (by kernel_rfl) rfl ?_ (by first | exact fun _ _ _ h => h | exact fun _ _ _ h => hQ2 _ _ _ _ _ h) ?_
            rotate_left
            · intro W hSW
              simp only [glA, glB, glC]
              (try dsimp only at hSW)
              go_simp
              with_reducible rfl
            (try simp only [glA, glB, glC, Act.put, glD, glE, glF])
            refine wpAnyJ_take 6 (v := ?_) (by first | exact hF | exact wideFn) (HS.out _ Bd.out) rfl (by kernel_rfl) (by kernel_rfl) (by kernel_rfl) (by kernel_rfl) rfl ?_ (by first | exact fun _ _ _ h => h | exact fun _ _ _ h => hQ2 _ _ _ _ _ h) ?_
            rotate_left
            · intro W hSW
              simp only [glA, glB, glC]
              (try dsimp only at hSW)
              go_simp
              with_reducible rfl
            (try simp only [glA, glB, glC, Act.put, glD, glE, glF])
            refine wpAnyJ_take 7 (v := ?_) (by first | exact hF | exact wideFn) (HS.out _ Bd.out) rfl (by kernel_rfl) (by kernel_rfl) (by kernel_rfl) (by kernel_rfl) rfl ?_ (by first | exact fun _ _ _ h => h | exact fun _ _ _ h => hQ2 _ _ _ _ _ h) ?_
            rotate_left
            · intro W hSW
              simp only [glA, glB, glC]
              (try dsimp only at hSW)
              go_simp
              with_reducible rfl
            (try simp only [glA, glB, glC, Act.put, glD, glE, glF])
            refine wpAnyJ_take 8 (v := ?_) (by first | exact hF | exact wideFn) (HS.out _ Bd.out) rfl (by kernel_rfl) (by kernel_rfl) (by kernel_rfl) (by kernel_rfl) rfl ?_ (by first | exact fun _ _ _ h => h | exact fun _ _ _ h => hQ2 _ _ _ _ _ h) ?_
            rotate_left
            · intro W hSW
              simp only [glA, glB, glC]
              (try dsimp only at hSW)
              go_simp
              with_reducible rfl
            (try simp only [glA, glB, glC, Act.put, glD, glE, glF])
            refine wpAnyJ_take 9 (v := ?_) (by first | exact hF | exact wideFn) (HS.out _ Bd.out) rfl (by kernel_rfl) (by kernel_rfl) (by kernel_rfl) (by kernel_rfl) rfl ?_ (by first | exact fun _ _ _ h => h | exact fun _ _ _ h => hQ2 _ _ _ _ _ h) ?_
            rotate_left
            · intro W hSW
              simp only [glA, glB, glC]
              (try dsimp only at hSW)
              go_simp
              with_reducible rfl
            (try simp only [glA, glB, glC, Act.put, glD, glE, glF])
            refine wpAnyJ_take 10 (v := ?_) (by first | exact hF | exact wideFn) (HS.out _ Bd.out) rfl (by kernel_rfl) (by kernel_rfl) (by kernel_rfl) (by kernel_rfl) rfl ?_ (by first | exact fun _ _ _ h => h | exact fun _ _ _ h => hQ2 _ _ _ _ _ h) ?_
            rotate_left
            · intro W hSW
              simp only [glA, glB, glC]
              (try dsimp only at hSW)
              go_simp
              with_reducible rfl
            (try simp only [glA, glB, glC, Act.put, glD, glE, glF])
            refine wpAnyJ_take 11 (v := ?_) (by first | exact hF | exact wideFn) (HS.out _ Bd.out) rfl (by kernel_rfl) (by kernel_rfl) (by kernel_rfl) (by kernel_rfl) rfl ?_ (by first | exact fun _ _ _ h => h | exact fun _ _ _ h => hQ2 _ _ _ _ _ h) ?_
            rotate_left
            · intro W hSW
              simp only [glA, glB, glC]
              (try dsimp only at hSW)
              go_simp
              with_reducible rfl
            (try simp only [glA, glB, glC, Act.put, glD, glE, glF])
            refine wpAnyJ_take 12 (v := ?_) (by first | exact hF | exact wideFn) (HS.out _ Bd.out) rfl (by kernel_rfl) (by kernel_rfl) (by kernel_rfl) (by kernel_rfl) rfl ?_ (by first | exact fun _ _ _ h => h | exact fun _ _ _ h => hQ2 _ _ _ _ _ h) ?_
            rotate_left
            · intro W hSW
              simp only [glA, glB, glC]
              (try dsimp only at hSW)
              go_simp
              with_reducible rfl
            (try simp only [glA, glB, glC, Act.put, glD, glE, glF])
            refine wpAnyJ_take 13 (v := ?_) (by first | exact hF | exact wideFn) (HS.out _ Bd.out) rfl (by kernel_rfl) (by kernel_rfl) (by kernel_rfl) (by kernel_rfl) rfl ?_ (by first | exact fun _ _ _ h => h | exact fun _ _ _ h => hQ2 _ _ _ _ _ h) ?_
            rotate_left
            · intro W hSW
              simp only [glA, glB, glC]
              (try dsimp only at hSW)
              go_simp
              with_reducible rfl
            (try simp only [glA, glB, glC, Act.put, glD, glE, glF])
            refine wpAnyJ_take 14 (v := ?_) (by first | exact hF | exact wideFn) (HS.out _ Bd.out) rfl (by kernel_rfl) (by kernel_rfl) (by kernel_rfl) (by kernel_rfl) rfl ?_ (by first | exact fun _ _ _ h => h | exact fun _ _ _ h => hQ2 _ _ _ _ _ h) ?_
            rotate_left
            · intro W hSW
              simp only [glA, glB, glC]
              (try dsimp only at hSW)
              go_simp
              with_reducible rfl
            (try simp only [glA, glB, glC, Act.put, glD, glE, glF])
            refine wpAnyJ_take 15 (v := ?_) (by first | exact hF | exact wideFn) (HS.out _ Bd.out) rfl (by kernel_rfl) (by kernel_rfl) (by kernel_rfl) (by kernel_rfl) rfl ?_ (by first | exact fun _ _ _ h => h | exact fun _ _ _ h => hQ2 _ _ _ _ _ h) ?_
            rotate_left
            · intro W hSW
              simp only [glA, glB, glC]
              (try dsimp only at hSW)
              go_simp
              with_reducible rfl
            (try simp only [glA, glB, glC, Act.put, glD, glE, glF])
            refine wpAnyJ_take 16 (v := ?_) (by first | exact hF | exact wideFn) (HS.out _ Bd.out) rfl (by kernel_rfl) (by kernel_rfl) (by kernel_rfl) (by kernel_rfl) rfl ?_ (by first | exact fun _ _ _ h => h | exact fun _ _ _ h => hQ2 _ _ _ _ _ h) ?_
            rotate_left
            · intro W hSW
              simp only [glA, glB, glC]
              (try dsimp only at hSW)
              go_simp
              with_reducible rfl
            (try simp only [glA, glB, glC, Act.put, glD, glE, glF])
            refine wpAnyJ_take 17 (v := ?_) (by first | exact hF | exact wideFn) (HS.out _ Bd.out) rfl (by kernel_rfl) (by kernel_rfl) (by kernel_rfl) (by kernel_rfl) rfl ?_ (by first | exact fun _ _ _ h => h | exact fun _ _ _ h => hQ2 _ _ _ _ _ h) ?_
            rotate_left
            · intro W hSW
              simp only [glA, glB, glC]
              (try dsimp only at hSW)
              go_simp
              with_reducible rfl
            (try simp only [glA, glB, glC, Act.put, glD, glE, glF])
            refine wpAnyJ_take 18 (v := ?_) (by first | exact hF | exact wideFn) (HS.out _ Bd.out) rfl (by kernel_rfl) (by kernel_rfl) (by kernel_rfl) (by kernel_rfl) rfl ?_ (by first | exact fun _ _ _ h => h | exact fun _ _ _ h => hQ2 _ _ _ _ _ h) ?_
            rotate_left
            · intro W hSW
              simp only [glA, glB, glC]
              (try dsimp only at hSW)
              go_simp
              with_reducible rfl
            (try simp only [glA, glB, glC, Act.put, glD, glE, glF])
            refine wpAnyJ_take 19 (v := ?_) (by first | exact hF | exact wideFn) (HS.out _ Bd.out) rfl (by kernel_rfl) (by kernel_rfl) (by kernel_rfl) (by kernel_rfl) rfl ?_ (by first | exact fun _ _ _ h => h | exact fun _ _ _ h => hQ2 _ _ _ _ _ h) ?_
            rotate_left
            · intro W hSW
              simp only [glA, glB, glC]
              (try dsimp only at hSW)
              go_simp
              with_reducible rfl
            (try simp only [glA, glB, glC, Act.put, glD, glE, glF])
            by_cases hxy : y = x2
            · subst hxy
              refine wpAnyJ_take 20 (v := ?_) (by first | exact hF | exact wideFn) (HS.out _ Bd.out) rfl (by kernel_rfl) (by kernel_rfl) (by kernel_rfl) (by kernel_rfl) rfl ?_ (by first | exact fun _ _ _ h => h | exact fun _ _ _ h => hQ2 _ _ _ _ _ h) ?_
              rotate_left
              · intro W hSW
                simp only [glA, glB, glC]
                (try dsimp only at hSW)
                go_simp
                with_reducible rfl
              (try simp only [glA, glB, glC, Act.put, glD, glE, glF])
              refine wpAnyJ_take 21 (v := ?_) (by first | exact hF | exact wideFn) (HS.out _ Bd.out) rfl (by kernel_rfl) (by kernel_rfl) (by kernel_rfl) (by kernel_rfl) rfl ?_ (by first | exact fun _ _ _ h => h | exact fun _ _ _ h => hQ2 _ _ _ _ _ h) ?_
              rotate_left
              · intro W hSW
                simp only [glA, glB, glC]
                (try dsimp only at hSW)
                go_simp
                with_reducible rfl
              (try simp only [glA, glB, glC, Act.put, glD, glE, glF])
              refine wpAnyJ_done (by kernel_rfl) ?_
              go_wp2_with fail
              go_roundw
              case rel => exact ⟨k + 1, by omega, by go_num, hide (by
                rw [apC_succ a es k HC.out, HE.out]
                refine if_pos ?_
                unfold edE
                rw [HN.out.1]
                dsimp only
                rw [if_neg (by rintro (h | ⟨h, -⟩) <;> omega), if_neg (by rintro ⟨-, h⟩; exact h HY.out)]), Bd⟩
              case measure => simp [intOf]; omega
            · have e3 := str_ne hxy
              refine wpAnyJ_take 20 (v := ?_) (by first | exact hF | exact wideFn) (HS.out _ Bd.out) rfl (by kernel_rfl) (by kernel_rfl) (by kernel_rfl) (by kernel_rfl) rfl ?_ (by first | exact fun _ _ _ h => h | exact fun _ _ _ h => hQ2 _ _ _ _ _ h) ?_
              rotate_left
              · intro W hSW
                simp only [glA, glB, glC]
                (try dsimp only at hSW)
                go_simp
                with_reducible rfl
              (try simp only [glA, glB, glC, Act.put, glD, glE, glF])
              refine wpAnyJ_take 21 (v := ?_) (by first | exact hF | exact wideFn) (HS.out _ Bd.out) rfl (by kernel_rfl) (by kernel_rfl) (by kernel_rfl) (by kernel_rfl) rfl ?_ (by first | exact fun _ _ _ h => h | exact fun _ _ _ h => hQ2 _ _ _ _ _ h) ?_
              rotate_left
              · intro W hSW
                simp only [glA, glB, glC]
                (try dsimp only at hSW)
                go_simp
                with_reducible rfl
              (try simp only [glA, glB, glC, Act.put, glD, glE, glF])
              refine wpAnyJ_done (by kernel_rfl) ?_
              go_wp2_with fail
              go_ret3
              unfold MgPost
              rw [apX_bad (by rw [HN.out.2]; exact hlt) HC.out HE.out (r := 111) (by
                unfold edE
                rw [HN.out.1]
                dsimp only
                rw [if_neg (by rintro (h | ⟨h, -⟩) <;> omega), if_pos ⟨h3, fun h => hxy (HY.out.symm.trans h)⟩]) (by decide)]
              exact ⟨_, rfl, OwnS.nil _ _, Bd.out⟩
      -- END1
    · -- BEGIN2
      obtain rfl : m = k := by omega
      have hnl : ¬ (m : Int) < (m : Int) := by omega
      have HX : Hid (apX a es = if (apI a es (a.length + 1)).length ≤ 20 then (apI a es (a.length + 1), 0, 0) else ([], 0, 5)) := hide (by unfold apX; rw [HN.out.2, HC.out])
      have HI0 : Hid (OwnS (wr.alloc (.cells #[] 9)) w.heap.size (.slice (some ⟨wr.heap.size, 0, none⟩) 0 0) (apI a es 0)) := hide (show OwnS (wr.alloc (.cells #[] 9)) w.heap.size (.slice (some ⟨wr.heap.size, 0, none⟩) 0 0) [] from OwnS.low (OwnS.made0 wr) HBW.out.size)
      have HB1 : Hid (Below w.heap.size w (wr.alloc (.cells #[] 9))) := hide (HBW.out.trans (((Below.refl wr.heap.size wr).alloc (Nat.le_refl _) _).mono HBW.out.size))
      go_upto_region 10 with fail
      generalize (wr.alloc (.cells #[] 9)) = w1 at HI0 HB1 ⊢
      go_loopw [8, 9] (fun v x wr => ∃ (i : Nat) (vl : Value), i ≤ n + 1 ∧ x = .int .i64 i ∧ v = vl ∧ Hid (OwnS wr w.heap.size vl (apI a es i)) ∧ Hid (Below w.heap.size w wr)) (fun _ x _ => n + 1 - (intOf x).toNat)
      case atStart => exact ⟨0, _, Nat.zero_le _, rfl, rfl, HI0, HB1⟩
      case round =>
        obtain ⟨i, vl, hi, rfl, rfl, HO, HB2⟩ := hrel
        clear HI0 HB1
        obtain ⟨vA, vc, hv⟩ := own_shape HO.out
        subst hv
        have hlen := apI_len a es i
        rw [HN.out.2] at hlen
        have hlen2 : (apI a es i).length ≤ 32 * 10001 := Nat.le_trans hlen (Nat.mul_le_mul (by omega) (by omega))
        clear hlen
        by_cases hin : i ≤ n
        · -- BEGIN3
          have hin' : (i : Int) ≤ (n : Int) := by omega
          have hst : IntKind.i64.wrap ((i : Int) + 1) = (i : Int) + 1 := IntWalk.i64_in _ (by omega)
          have HST := hide hst
          clear hst
          obtain ⟨L, hL⟩ : ∃ L, apI a es i = L := ⟨_, rfl⟩
          have HL := hide hL
          rw [hL] at HO hlen2 ⊢
          clear hL
          go_upto_region 14 with fail
          go_loopw [8, 10, 11] (fun v fl x wq => ∃ (j : Nat) (vl : Value) (p : List Wd) (f : Bool), j ≤ m ∧ x = .int .i64 j ∧ v = vl ∧ fl = .bool f ∧ Hid (apJ es i L j = (p, f)) ∧ Hid (OwnS wq w.heap.size vl p) ∧ Hid (Below w.heap.size w wq)) (fun _ _ x _ => m - (intOf x).toNat)
          case atStart => exact ⟨0, _, L, false, Nat.zero_le _, rfl, rfl, rfl, hide rfl, HO, HB2⟩
          case round =>
            obtain ⟨j, vl, p, f, hj, rfl, rfl, rfl, HJ, HQ, HB3⟩ := hrel
            obtain ⟨qA, qc, hv⟩ := own_shape HQ.out
            subst hv
            have hpl := apJ_len es i L j
            rw [HJ.out] at hpl
            dsimp only at hpl
            by_cases hjm : j < m
            · -- BEGIN5
              have hjm' : (j : Int) < (m : Int) := by omega
              have j0 : (0 : Int) ≤ (j : Int) := by omega
              have hst : IntKind.i64.wrap ((j : Int) + 1) = (j : Int) + 1 := IntWalk.i64_in _ (by omega)
              obtain ⟨e, he'⟩ : ∃ e, es.getD j e0 = e := ⟨_, rfl⟩
              obtain ⟨xb, xo, rfl, hxb, a0, a1, a2, a3⟩ := HB.out.at_ (by rw [HN.out.2]; exact hjm) he'
              have HE := hide he'
              clear he'
              obtain ⟨x0, x1, x2, x3⟩ := e
              dsimp only at a0 a1 a2 a3
              have c0 := (HB3.out.cell (p := ⟨xb, xo + j * 4, none⟩) hxb).trans a0
              have c1 := (HB3.out.cell (p := ⟨xb, xo + j * 4 + 1, none⟩) hxb).trans a1
              have c3 := (HB3.out.cell (p := ⟨xb, xo + j * 4 + 3, none⟩) hxb).trans a3
              by_cases hx1 : x1 = (i : Int)
              · subst hx1
                by_cases h2 : x0 = 2
                · subst h2
                  rcases f with _ | _
                  · go_wp2_with fail
                    go_roundw
                    case rel => exact ⟨j + 1, _, p, true, by omega, by go_num, rfl, rfl, hide (by rw [apJ_yes HE.out rfl HJ.out]; simp), HQ, HB3⟩
                    case measure => simp [intOf]; omega
                  · go_wp2_with fail
                    go_roundw
                    case rel => exact ⟨j + 1, _, p, true, by omega, by go_num, rfl, rfl, hide (by rw [apJ_yes HE.out rfl HJ.out]; simp), HQ, HB3⟩
                    case measure => simp [intOf]; omega
                · obtain ⟨A2, c2, w2, hrun, ho, hbb⟩ := HQ.out.push x3 (by omega) HB3.out.size
                  have HQ2 := hide ho
                  have HB4 := hide (hbb w rfl HB3.out)
                  have HRUN := hide hrun
                  have c0' := (HB4.out.cell (p := ⟨xb, xo + j * 4, none⟩) hxb).trans a0
                  have c1' := (HB4.out.cell (p := ⟨xb, xo + j * 4 + 1, none⟩) hxb).trans a1
                  clear hrun ho hbb a0 a1 a2 a3
                  rcases f with _ | _
                  · by_cases h3 : x0 = 3
                    · subst h3
                      go_wp2_with (at_builtin; refine wpList_append_run rfl (.tmp 94) (.tmp 100) 22 rfl rfl rfl HRUN.out ?_)
                      go_roundw
                      case rel => exact ⟨j + 1, _, p ++ [x3], false, by omega, by go_num, rfl, rfl, hide (by rw [apJ_yes HE.out rfl HJ.out]; simp), HQ2, HB4⟩
                      case measure => simp [intOf]; omega
                    · have e3 : (x0 != 3) = true := by simp [h3]
                      go_wp2_with (at_builtin; refine wpList_append_run rfl (.tmp 94) (.tmp 100) 22 rfl rfl rfl HRUN.out ?_)
                      go_roundw
                      case rel => exact ⟨j + 1, _, p ++ [x3], true, by omega, by go_num, rfl, (by simp [e3]), hide (by rw [apJ_yes HE.out rfl HJ.out]; simp [h2, h3]), HQ2, HB4⟩
                      case measure => simp [intOf]; omega
                  · go_wp2_with (at_builtin; refine wpList_append_run rfl (.tmp 94) (.tmp 100) 22 rfl rfl rfl HRUN.out ?_)
                    go_roundw
                    case rel => exact ⟨j + 1, _, p ++ [x3], true, by omega, by go_num, rfl, rfl, hide (by rw [apJ_yes HE.out rfl HJ.out]; simp [h2]), HQ2, HB4⟩
                    case measure => simp [intOf]; omega
              · clear a0 a1 a2 a3
                go_wp2_with fail
                go_roundw
                case rel => exact ⟨j + 1, _, p, f, by omega, by go_num, rfl, rfl, hide (by rw [apJ_no HE.out hx1]; exact HJ.out), HQ, HB3⟩
                case measure => simp [intOf]; omega
              -- END5
            · -- BEGIN6
              obtain rfl : m = j := by omega
              have hnl : ¬ (m : Int) < (m : Int) := by omega
              have HAI := hide (apI_next (a := a) (es := es) (i := i) (p := p) (f := f) HN.out.2 (by rw [HL.out]; exact HJ.out))
              have hst := HST.out
              rcases f with _ | _
              · by_cases hlt : i < n
                · have hlt' : (i : Int) < (n : Int) := by omega
                  have i0 : (0 : Int) ≤ (i : Int) := by omega
                  obtain ⟨yb, yo, rfl, hyb, b0⟩ := HA.out.at_ (k := i) (by rw [HN.out.1]; omega)
                  obtain ⟨y, hy⟩ : ∃ y, a.getD i noW = y := ⟨_, rfl⟩
                  rw [hy] at b0
                  have HY := hide hy
                  have c0 := (HB3.out.cell (p := ⟨yb, yo + i, none⟩) hyb).trans b0
                  obtain ⟨A2, c2, w2, hrun, ho, hbb⟩ := HQ.out.push y (by omega) HB3.out.size
                  have HQ2 := hide ho
                  have HB4 := hide (hbb w rfl HB3.out)
                  have HRUN := hide hrun
                  clear hrun ho hbb b0 hy
                  go_wp2_with (at_builtin; refine wpList_append_run rfl (.tmp 119) (.tmp 124) 22 rfl rfl rfl HRUN.out ?_)
                  go_roundw
                  case rel => exact ⟨i + 1, _, by omega, by go_num, rfl, hide (by rw [HAI.out, if_pos ⟨rfl, by rw [HN.out.1]; exact hlt⟩, HY.out]; exact HQ2.out), HB4⟩
                  case measure => simp [intOf]; omega
                · have hlt' : ¬ (i : Int) < (n : Int) := by omega
                  go_wp2_with fail
                  go_roundw
                  case rel => exact ⟨i + 1, _, by omega, by go_num, rfl, hide (by rw [HAI.out, if_neg (by rw [HN.out.1]; omega), List.append_nil]; exact HQ.out), HB3⟩
                  case measure => simp [intOf]; omega
              · go_wp2_with fail
                go_roundw
                case rel => exact ⟨i + 1, _, by omega, by go_num, rfl, hide (by rw [HAI.out, if_neg (by simp), List.append_nil]; exact HQ.out), HB3⟩
                case measure => simp [intOf]; omega
              -- END6
          -- END3
        · -- BEGIN4
          obtain rfl : i = n + 1 := by omega
          have hin' : ¬ (((n + 1 : Nat) : Int)) ≤ (n : Int) := by omega
          have HX2 := HX.out
          rw [HN.out.1] at HX2
          obtain ⟨L, hL⟩ : ∃ L, apI a es (n + 1) = L := ⟨_, rfl⟩
          rw [hL] at HO HX2 ⊢
          obtain ⟨N, hNn⟩ : ∃ N, n + 1 = N := ⟨_, rfl⟩
          rw [hNn] at hin' ⊢
          by_cases hl : L.length ≤ 20
          · have hl' : ¬ (20 : Int) < (L.length : Int) := by omega
            rw [if_pos hl] at HX2
            have HX3 := hide HX2
            clear HX2 hL hlen2
            go_wp2_with fail
            go_ret3
            unfold MgPost
            rw [HX3.out]
            exact ⟨_, rfl, HO.out, HB2.out⟩
          · have hl' : (20 : Int) < (L.length : Int) := by omega
            rw [if_neg hl] at HX2
            have HX3 := hide HX2
            clear HX2 hL hlen2
            go_wp2_with fail
            go_ret3
            unfold MgPost
            rw [HX3.out]
            exact ⟨_, rfl, OwnS.nil _ _, HB2.out⟩
          -- END4
      -- END2
end Go.Proofs.YtmpegkojencbjaaDoor
/- School, plain: what the reference's Apply makes of joined edits is what Merge makes. -/
namespace Go.Proofs.YtmpegkojencbjaaDoor
open Go Go.RowKit Go.Shelf
set_option maxHeartbeats 2000000
set_option maxRecDepth 100000
/-- the edits joined, list after list -/
def flQ (la lb : List Ed) : Nat → List Ed
  | 0 => []
  | q + 1 => flQ la lb q ++ jnL (plL la q) (plL lb q)
theorem atL_pl {l : List Ed} (h : ∀ e ∈ l, 0 ≤ e.at_) (i : Nat) : atL l i true = plL l (i * 2) ∧ atL l i false = plL l (i * 2 + 1) := by
  unfold atL plL
  refine ⟨List.filter_congr fun e he => ?_, List.filter_congr fun e he => ?_⟩
  all_goals
    have h0 := h e he
    unfold atB plq
    by_cases h3 : e.ki = 3
    · rw [if_pos h3]
      by_cases h1 : e.at_ = (i : Int)
      · simp [h3, h1]; try omega
      · simp [h3, h1]; omega
    · rw [if_neg h3]
      by_cases h1 : e.at_ = (i : Int)
      · simp [h3, h1]; try omega
      · simp [h3, h1]; omega
theorem flQ_two (la lb : List Ed) (i : Nat) : flQ la lb ((i + 1) * 2) = flQ la lb (i * 2) ++ mgE la lb i := by
  have e1 : (i + 1) * 2 = i * 2 + 1 + 1 := by omega
  rw [e1]
  unfold mgE
  rw [← List.append_assoc]
  rfl
theorem flQ_len (la lb : List Ed) {n : Nat} (hl : la.length ≤ n) (hm : lb.length ≤ n) : ∀ q, (flQ la lb q).length ≤ q * n
  | 0 => Nat.zero_le _
  | q + 1 => by
    have h1 := flQ_len la lb hl hm q
    have h2 := jnL_len (plL la q) (plL lb q) (n := n) (by have := plL_len la q; omega) (by have := plL_len lb q; omega)
    have h3 : (q + 1) * n = q * n + n := Nat.succ_mul _ _
    show (flQ la lb q ++ jnL (plL la q) (plL lb q)).length ≤ _
    rw [List.length_append, h3]
    omega
theorem mgC_none {la lb : List Ed} : ∀ {i : Nat}, (∀ q, q < i * 2 → jnB (plL la q) (plL lb q) = true) → mgC la lb i = none
  | 0, _ => rfl
  | i + 1, h => by
    rw [mgC_succ la lb i (mgC_none fun q hq => h q (by omega)), if_pos]
    unfold mgOk
    rw [h (i * 2) (by omega), h (i * 2 + 1) (by omega)]
    rfl
theorem mgC_at {la lb : List Ed} {i q n : Nat} (h : ∀ q, q < i * 2 → jnB (plL la q) (plL lb q) = true) (hq : q = i * 2 ∨ q = i * 2 + 1) (hb : jnB (plL la q) (plL lb q) = false) (hn : i < n) : mgC la lb n = some i := by
  refine mgC_some la lb (i + 1) n hn ?_
  rw [mgC_succ la lb i (mgC_none h), if_neg]
  unfold mgOk
  rcases hq with rfl | rfl
  · rw [hb]; simp
  · rw [hb]; simp
/-- the new words of edits -/
def nwL (es : List Ed) : List Wd := es.flatMap fun e => if e.ki = 2 then [] else [e.new]
theorem nwL_append (l m : List Ed) : nwL (l ++ m) = nwL l ++ nwL m := by unfold nwL; rw [List.flatMap_append]
def atP (i : Nat) (e : Ed) : Bool := decide (e.at_ = (i : Int))
theorem apJ_eq (es : List Ed) (i : Nat) (l : List Wd) : ∀ j, j ≤ es.length → apJ es i l j = (l ++ nwL ((es.take j).filter (atP i)), ((es.take j).filter (atP i)).any fun e => decide (e.ki ≠ 3))
  | 0, _ => by
    rw [List.take_zero]
    show (l, false) = (l ++ [], false)
    rw [List.append_nil]
  | j + 1, hj => by
    have ih := apJ_eq es i l j (by omega)
    obtain ⟨e, he⟩ : ∃ e, es.getD j e0 = e := ⟨_, rfl⟩
    have h1 : es.take (j + 1) = es.take j ++ [e] := by
      rw [List.take_succ_eq_append_getElem (by omega)]
      rw [List.getD_eq_getElem?_getD, List.getElem?_eq_getElem (by omega)] at he
      rw [← he]; rfl
    rw [h1, List.filter_append]
    by_cases h : e.at_ = (i : Int)
    · rw [apJ_yes he h ih, List.filter_cons_of_pos (by unfold atP; exact decide_eq_true h), List.filter_nil, nwL_append, List.any_append, List.append_assoc]
      have e1 : nwL [e] = if e.ki = 2 then [] else [e.new] := by
        show (if e.ki = 2 then [] else [e.new]) ++ [] = _
        rw [List.append_nil]
      rw [e1]
      simp
    · rw [apJ_no he h, ih, List.filter_cons_of_neg (by unfold atP; simpa using h), List.filter_nil, List.append_nil]
theorem apI_eq (a : List Wd) (es : List Ed) (i : Nat) : apI a es (i + 1) = (apI a es i ++ nwL (es.filter (atP i))) ++ if ((es.filter (atP i)).any fun e => decide (e.ki ≠ 3)) = false ∧ i < a.length then [a.getD i noW] else [] := by
  have h := apJ_eq es i (apI a es i) es.length (Nat.le_refl _)
  rw [List.take_length] at h
  rw [apI_next rfl h]
section
variable {a : List Wd} {la lb : List Ed} (ha : ∀ e ∈ la, EdFit a 0 e) (hb : ∀ e ∈ lb, EdFit a 0 e)
include ha hb
theorem flQ_ok : ∀ (q : Nat) (e : Ed), e ∈ flQ la lb q → EdOk a e
  | 0, e, h => absurd h (by simp [flQ])
  | q + 1, e, h => by
    rcases List.mem_append.1 (show e ∈ flQ la lb q ++ jnL (plL la q) (plL lb q) from h) with h | h
    · exact flQ_ok q e h
    · exact (jn_mem ha hb h).1
theorem flQ_at (i : Nat) : ∀ n, (flQ la lb (n * 2)).filter (atP i) = if i < n then mgE la lb i else []
  | 0 => by rw [if_neg (by omega)]; rfl
  | n + 1 => by
    rw [flQ_two, List.filter_append, flQ_at i n]
    have key : ∀ e ∈ mgE la lb n, atP i e = decide (i = n) := fun e he => by
      obtain ⟨h1, h2⟩ := mgE_ok ha hb he
      have := h1.lo
      unfold atP
      rw [decide_eq_decide]
      omega
    by_cases h : i = n
    · subst h
      rw [if_neg (by omega), if_pos (by omega), List.nil_append]
      exact List.filter_eq_self.2 fun e he => by rw [key e he]; simp
    · have h1 : (mgE la lb n).filter (atP i) = [] := List.filter_eq_nil_iff.2 fun e he => by rw [key e he]; simp [h]
      rw [h1, List.append_nil]
      by_cases h2 : i < n
      · rw [if_pos h2, if_pos (by omega)]
      · rw [if_neg h2, if_neg (by omega)]
end
theorem takeL_self (a : List Wd) (k : Nat) (l : List Wd) : takeL a k k l = l := by
  unfold takeL
  rw [Nat.sub_self, List.take_zero, List.append_nil]
theorem takeL_next (a : List Wd) (i k : Nat) (l : List Wd) (hi : i ≤ k) (hk : k < a.length) : takeL a i (k + 1) l = takeL a i k l ++ [a.getD k noW] := by
  unfold takeL
  have h1 : k + 1 - i = k - i + 1 := by omega
  have h2 : k - i < (a.drop i).length := by rw [List.length_drop]; omega
  rw [h1, List.take_succ_eq_append_getElem h2, List.append_assoc, List.getElem_drop, List.getD_eq_getElem?_getD, List.getElem?_eq_getElem hk]
  have h3 : i + (k - i) = k := by omega
  simp only [h3, Option.getD_some]
/-- words put ahead of word k -/
theorem adds_eq (a : List Wd) (k : Nat) : ∀ (es : List Ed) (s : Nat × List Wd), (∀ e ∈ es, e.ki = 3 ∧ e.at_.toNat = k) → takeL a (edsF a s es).1 k (edsF a s es).2 = takeL a s.1 k s.2 ++ nwL es
  | [], s, _ => by
    show takeL a s.1 k s.2 = _ ++ []
    rw [List.append_nil]
  | e :: es, s, h => by
    obtain ⟨h1, h2⟩ := h e List.mem_cons_self
    have ih := adds_eq a k es (edI s.1 e, edL a s.1 e s.2) (fun e he => h e (List.mem_cons_of_mem _ he))
    refine ih.trans ?_
    dsimp only
    have e1 : edI s.1 e = k := by unfold edI; rw [if_pos h1, h2]
    have e2 : nwL (e :: es) = [e.new] ++ nwL es := by
      show (if e.ki = 2 then [] else [e.new]) ++ nwL es = _
      rw [if_neg (by omega)]
    rw [e1, takeL_self, e2]
    unfold edL
    rw [h2, if_neg (by omega), List.append_assoc]
theorem place_eq {a : List Wd} {la lb : List Ed} (ha : ∀ e ∈ la, EdFit a 0 e) (hb : ∀ e ∈ lb, EdFit a 0 e) (h1 : ∀ q, (plL la (q * 2 + 1)).length ≤ 1) (h2 : ∀ q, (plL lb (q * 2 + 1)).length ≤ 1) (k : Nat) (s : Nat × List Wd) (hs : s.1 ≤ k) (hk : k ≤ a.length) :
    takeL a (edsF a s (mgE la lb k)).1 (min (k + 1) a.length) (edsF a s (mgE la lb k)).2 = (takeL a s.1 k s.2 ++ nwL (mgE la lb k)) ++ if ((mgE la lb k).any fun e => decide (e.ki ≠ 3)) = false ∧ k < a.length then [a.getD k noW] else [] := by
  have hok := fun e (he : e ∈ mgE la lb k) => mgE_ok ha hb he
  unfold mgE at hok ⊢
  obtain ⟨es, hes⟩ : ∃ es, jnL (plL la (k * 2)) (plL lb (k * 2)) = es := ⟨_, rfl⟩
  obtain ⟨fs, hfs⟩ : ∃ fs, jnL (plL la (k * 2 + 1)) (plL lb (k * 2 + 1)) = fs := ⟨_, rfl⟩
  have hE : ∀ e ∈ es, e.ki = 3 ∧ e.at_.toNat = k := fun e he => by
    rw [← hes] at he
    have h3 := jn_mem ha hb he
    exact plq_even h3.1 h3.2
  have hF : ∀ e ∈ fs, e.ki ≠ 3 ∧ e.at_.toNat = k := fun e he => by
    rw [← hfs] at he
    have h3 := jn_mem ha hb he
    exact plq_odd h3.1 h3.2
  have hF1 : fs.length ≤ 1 := by
    rw [← hfs]
    unfold jnL; split
    · exact h2 k
    · exact h1 k
  rw [hes, hfs] at hok ⊢
  rw [edsF_append, nwL_append, List.any_append]
  obtain ⟨s', hs'⟩ : ∃ s', edsF a s es = s' := ⟨_, rfl⟩
  have hp := adds_place (a := a) k es s hE hs
  have ht := adds_eq a k es s hE
  rw [hs'] at hp ht ⊢
  have hany : (es.any fun e => decide (e.ki ≠ 3)) = false := by
    rw [List.any_eq_false]
    intro e he
    simp [(hE e he).1]
  rw [hany, Bool.false_or, ← List.append_assoc, ← ht]
  rcases fs with _ | ⟨f, fs⟩
  · have e1 : edsF a s' [] = s' := rfl
    have e2 : nwL [] = [] := rfl
    rw [e1, e2, List.any_nil, List.append_nil]
    by_cases hlt : k < a.length
    · rw [if_pos ⟨rfl, hlt⟩, Nat.min_eq_left (by omega), takeL_next a s'.1 k s'.2 hp hlt]
    · rw [if_neg (fun h => hlt h.2), Nat.min_eq_right (by omega), List.append_nil]
      rw [show a.length = k by omega]
  · obtain rfl : fs = [] := by
      rw [List.length_cons] at hF1
      exact List.length_eq_zero_iff.1 (by omega)
    obtain ⟨h3, h4⟩ := hF f List.mem_cons_self
    have hlt : k < a.length := by
      have h5 := (hok f (by simp)).1
      rcases h5.ki with h6 | ⟨-, h6, -⟩
      · exact absurd h6 h3
      · have := h5.lo; omega
    rw [Nat.min_eq_left (by omega), if_neg (by simp [h3]), List.append_nil]
    show takeL a (edI s'.1 f) (k + 1) (edL a s'.1 f s'.2) = takeL a s'.1 k s'.2 ++ ((if f.ki = 2 then [] else [f.new]) ++ [])
    have e1 : edI s'.1 f = k + 1 := by unfold edI; rw [if_neg h3, h4]
    rw [e1, takeL_self, List.append_nil]
    unfold edL
    rw [h4]
theorem apI_mg {a : List Wd} {la lb : List Ed} (ha : ∀ e ∈ la, EdFit a 0 e) (hb : ∀ e ∈ lb, EdFit a 0 e) (h1 : ∀ q, (plL la (q * 2 + 1)).length ≤ 1) (h2 : ∀ q, (plL lb (q * 2 + 1)).length ≤ 1) :
    ∀ k, k ≤ a.length + 1 → apI a (flQ la lb ((a.length + 1) * 2)) k = takeL a (mgF a la lb k).1 (min k a.length) (mgF a la lb k).2
  | 0, _ => by
    rw [Nat.zero_min]
    show [] = takeL a 0 0 []
    rw [takeL_self]
  | k + 1, hk => by
    have ih := apI_mg ha hb h1 h2 k (by omega)
    rw [Nat.min_eq_left (by omega)] at ih
    rw [apI_eq, flQ_at ha hb k, if_pos (by omega), ih]
    exact (place_eq ha hb h1 h2 k _ (mgF_place ha hb h1 h2 k) (by omega)).symm
theorem edE_ok {a : List Wd} {e : Ed} (h : EdOk a e) : edE a e = 0 := by
  have h0 := h.lo
  have h1 := h.hi
  unfold edE
  rcases h.ki with h3 | ⟨h3, h4, h5⟩
  · rw [if_neg (by rintro (h | ⟨-, h⟩) <;> omega), if_neg (fun h => h.1 h3)]
  · rw [if_neg (by rintro (h | ⟨h, -⟩) <;> omega), if_neg (fun h => h.2 h5)]
theorem apC_none {a : List Wd} {es : List Ed} (h : ∀ e ∈ es, edE a e = 0) : ∀ n, n ≤ es.length → apC a es n = none
  | 0, _ => rfl
  | n + 1, hn => by
    rw [apC_succ a es n (apC_none h n (by omega)), if_pos]
    refine h _ ?_
    rw [List.getD_eq_getElem?_getD, List.getElem?_eq_getElem (by omega)]
    exact List.getElem_mem _
/-- what Apply makes of all joined edits is what Merge makes -/
theorem apX_mg (a : List Wd) (b e : List Wd) (hc : mgC (alL a 0 b) (alL a 0 e) (a.length + 1) = none) :
    apX a (flQ (alL a 0 b) (alL a 0 e) ((a.length + 1) * 2)) = mgX a (alL a 0 b) (alL a 0 e) := by
  have ha := alL_fit a 0 b
  have hb := alL_fit a 0 e
  have h1 := alL_one a 0 b
  have h2 := alL_one a 0 e
  have hn := apC_none (a := a) (es := flQ (alL a 0 b) (alL a 0 e) ((a.length + 1) * 2)) (fun x hx => edE_ok (flQ_ok ha hb _ x hx)) _ (Nat.le_refl _)
  unfold apX mgX
  rw [hn, hc]
  dsimp only
  rw [apI_mg ha hb h1 h2 (a.length + 1) (Nat.le_refl _), Nat.min_eq_right (by omega)]
end Go.Proofs.YtmpegkojencbjaaDoor
/- School, plain: the edits that make b of a, carried out, give b. -/
namespace Go.Proofs.YtmpegkojencbjaaDoor
open Go Go.RowKit Go.Shelf
set_option maxHeartbeats 2000000
set_option maxRecDepth 100000
/-- what edits make of the words from word i on -/
def resF (es : List Ed) : List Wd → Nat → List Wd
  | [], i => nwL (es.filter (atP i))
  | x :: o, i => (nwL (es.filter (atP i)) ++ if ((es.filter (atP i)).any fun e => decide (e.ki ≠ 3)) = false then [x] else []) ++ resF es o (i + 1)
theorem atP_no {i : Nat} {e : Ed} (h : e.at_ ≠ (i : Int)) : ¬ atP i e = true := by unfold atP; simpa using h
theorem atP_yes {i : Nat} {e : Ed} (h : e.at_ = (i : Int)) : atP i e = true := by unfold atP; simpa using h
theorem resF_skip {e : Ed} (es : List Ed) : ∀ (o : List Wd) (i : Nat), e.at_ < (i : Int) → resF (e :: es) o i = resF es o i
  | [], i, h => by
    unfold resF
    rw [List.filter_cons_of_neg (atP_no (by omega))]
  | x :: o, i, h => by
    unfold resF
    rw [List.filter_cons_of_neg (atP_no (by omega)), resF_skip es o (i + 1) (by omega)]
theorem none_at {a b : List Wd} (i : Nat) : (alL a (i + 1) b).filter (atP i) = [] :=
  List.filter_eq_nil_iff.2 fun e he => atP_no (by have := (alL_fit a (i + 1) b e he).1; omega)
theorem resF_cons (es : List Ed) (x : Wd) (o : List Wd) (i : Nat) : resF es (x :: o) i = (nwL (es.filter (atP i)) ++ if ((es.filter (atP i)).any fun e => decide (e.ki ≠ 3)) = false then [x] else []) ++ resF es o (i + 1) := rfl
/-- a word's own edit at i, and the rest behind it -/
theorem resF_word {a b : List Wd} (x : Wd) (i : Nat) (k : Int) (hk : k ≠ 3) (old new : Wd) : resF (⟨k, i, old, new⟩ :: alL a (i + 1) b) (x :: a) i = (if k = 2 then [] else [new]) ++ resF (alL a (i + 1) b) a (i + 1) := by
  rw [resF_cons, List.filter_cons_of_pos (atP_yes rfl), none_at, resF_skip _ _ _ (by show (i : Int) < ((i + 1 : Nat) : Int); omega)]
  have e1 : nwL [(⟨k, i, old, new⟩ : Ed)] = if k = 2 then [] else [new] := by
    show (if k = 2 then [] else [new]) ++ [] = _
    rw [List.append_nil]
  have e2 : ([(⟨k, i, old, new⟩ : Ed)].any fun e => decide (e.ki ≠ 3)) = true := by simp [hk]
  rw [e1, e2, if_neg (show ¬ true = false by decide), List.append_nil]
theorem alL_res : ∀ (a : List Wd) (i : Nat) (b : List Wd), resF (alL a i b) a i = b
  | [], i, b => by
    show nwL ((alL [] i b).filter (atP i)) = b
    rw [alL_nil]
    induction b with
    | nil => rfl
    | cons y b ih =>
      rw [List.map_cons, List.filter_cons_of_pos (atP_yes rfl)]
      show [y] ++ nwL _ = _
      rw [ih]; rfl
  | x :: a, i, [] => by
    rw [alL_end, resF_word x i 2 (by decide), if_pos rfl, List.nil_append]
    exact alL_res a (i + 1) []
  | x :: a, i, y :: b => by
    rw [alL_cons]
    by_cases e0 : x = y
    · rw [if_pos e0, resF_cons, none_at, alL_res a (i + 1) b, e0]
      rfl
    · rw [if_neg e0]
      by_cases e1 : dsL (x :: a) (y :: b) = 1 + dsL a b
      · rw [if_pos e1, resF_word x i 1 (by decide), if_neg (by decide), alL_res a (i + 1) b]
        rfl
      · rw [if_neg e1]
        by_cases e2 : dsL (x :: a) (y :: b) = 1 + dsL a (y :: b)
        · rw [if_pos e2, resF_word x i 2 (by decide), if_pos rfl, alL_res a (i + 1) (y :: b)]
          rfl
        · rw [if_neg e2]
          have ih := alL_res (x :: a) i b
          rw [resF_cons] at ih
          rw [resF_cons, List.filter_cons_of_pos (atP_yes rfl), resF_skip _ _ _ (by show (i : Int) < ((i + 1 : Nat) : Int); omega)]
          have e3 : ∀ l : List Ed, nwL ((⟨3, i, noW, y⟩ : Ed) :: l) = y :: nwL l := fun l => rfl
          have e4 : ∀ l : List Ed, ((((⟨3, i, noW, y⟩ : Ed) :: l).any fun e => decide (e.ki ≠ 3))) = l.any fun e => decide (e.ki ≠ 3) := fun l => by simp
          rw [e3, e4, List.cons_append, List.cons_append, ih]
theorem apI_res (a : List Wd) (es : List Ed) : ∀ i, i ≤ a.length → apI a es i ++ resF es (a.drop i) i = resF es a 0
  | 0, _ => rfl
  | i + 1, h => by
    have ih := apI_res a es i (by omega)
    rw [← ih, apI_eq, drop_cons (l := a) (k := i) (by omega), resF_cons]
    by_cases hb : ((es.filter (atP i)).any fun e => decide (e.ki ≠ 3)) = false
    · rw [if_pos ⟨hb, by omega⟩, if_pos hb]; simp only [List.append_assoc]
    · rw [if_neg (fun h => hb h.1), if_neg hb]; simp only [List.append_assoc]
theorem apI_all (a : List Wd) (es : List Ed) : apI a es (a.length + 1) = resF es a 0 := by
  have h := apI_res a es a.length (Nat.le_refl _)
  rw [List.drop_length] at h
  rw [← h, apI_eq, if_neg (fun h => by omega), List.append_nil]
  rfl
end Go.Proofs.YtmpegkojencbjaaDoor
/- School, plain: fewest edits: triangle, lengths, none. -/
namespace Go.Proofs.YtmpegkojencbjaaDoor
set_option maxHeartbeats 2000000
/-- more words, more edits -/
theorem dsL_diff : ∀ n (a b : List Wd), a.length + b.length ≤ n → a.length ≤ b.length + dsL a b ∧ b.length ≤ a.length + dsL a b := by
  intro n
  induction n with
  | zero =>
    intro a b h
    omega
  | succ n ih =>
    intro a b h
    cases a with
    | nil => rw [dsL_nil]; simp
    | cons x a =>
      cases b with
      | nil => rw [dsL_end]; simp
      | cons y b =>
        simp only [List.length_cons] at h
        have h1 := ih a b (by omega)
        have h2 := ih a (y :: b) (by simp only [List.length_cons]; omega)
        have h3 := ih (x :: a) b (by simp only [List.length_cons]; omega)
        simp only [List.length_cons] at h2 h3 ⊢
        rw [dsL_cons]
        split <;> omega
theorem dsL_zero (a b : List Wd) : dsL a b = 0 ↔ a = b := by
  refine ⟨?_, fun h => by rw [h, dsL_self]⟩
  intro h
  induction a generalizing b with
  | nil => rw [dsL_nil] at h; exact (List.eq_nil_of_length_eq_zero h).symm
  | cons x a ih =>
    cases b with
    | nil => rw [dsL_end] at h; cases h
    | cons y b =>
      rw [dsL_cons] at h
      split at h
      · rename_i e; rw [e, ih b h]
      · omega
/-- the reference's three ways, as bounds -/
theorem dsL_ways (x y : Wd) (a b : List Wd) : dsL (x :: a) (y :: b) ≤ (if x = y then 0 else 1) + dsL a b ∧ dsL (x :: a) (y :: b) ≤ 1 + dsL a (y :: b) ∧ dsL (x :: a) (y :: b) ≤ 1 + dsL (x :: a) b := by
  have := dsL_min x y a b
  omega
theorem dsL_tri : ∀ n (a b c : List Wd), a.length + b.length + c.length ≤ n → dsL a b ≤ dsL a c + dsL c b := by
  intro n
  induction n with
  | zero =>
    intro a b c h
    have ha : a = [] := List.eq_nil_of_length_eq_zero (by omega)
    have hb : b = [] := List.eq_nil_of_length_eq_zero (by omega)
    subst ha hb
    rw [dsL_nil]; simp
  | succ n ih =>
    intro a b c h
    cases c with
    | nil =>
      have := dsL_le a b
      rw [dsL_end, dsL_nil]; exact this
    | cons z c =>
      cases a with
      | nil =>
        have := (dsL_diff _ (z :: c) b (Nat.le_refl _)).2
        rw [dsL_nil, dsL_nil]; omega
      | cons x a =>
        cases b with
        | nil =>
          have := (dsL_diff _ (x :: a) (z :: c) (Nat.le_refl _)).1
          rw [dsL_end, dsL_end]; omega
        | cons y b =>
          simp only [List.length_cons] at h
          obtain ⟨w1, w2, w3⟩ := dsL_ways x y a b
          have m1 := dsL_min x z a c
          have m2 := dsL_min z y c b
          have i1 := ih a (y :: b) (z :: c) (by simp only [List.length_cons]; omega)
          have i2 := ih (x :: a) b (z :: c) (by simp only [List.length_cons]; omega)
          have i3 := ih (x :: a) b c (by simp only [List.length_cons]; omega)
          have i4 := ih (x :: a) (y :: b) c (by simp only [List.length_cons]; omega)
          have i5 := ih a b c (by omega)
          have i6 := ih a (y :: b) c (by simp only [List.length_cons]; omega)
          have e : (if x = y then 0 else 1) ≤ (if x = z then 0 else 1) + (if z = y then (0 : Nat) else 1) := by
            by_cases e1 : x = z
            · by_cases e2 : z = y
              · rw [if_pos (e1.trans e2)]; omega
              · rw [if_neg e2]; split <;> omega
            · rw [if_neg e1]; split <;> omega
          omega
theorem dsL_over (a b c : List Wd) : dsL a b ≤ dsL a c + dsL c b := dsL_tri _ a b c (Nat.le_refl _)
end Go.Proofs.YtmpegkojencbjaaDoor
/- School, plain: edits that undo edits; edits in order. -/
namespace Go.Proofs.YtmpegkojencbjaaDoor
open Go Go.RowKit Go.Shelf
set_option maxHeartbeats 2000000
set_option maxRecDepth 100000
/-- by how much what stands behind an edit is moved -/
def mvF (d : Int) (e : Ed) : Int := if e.ki = 3 then d + 1 else if e.ki = 2 then d - 1 else d
/-- the kind that undoes a kind -/
def bkF (k : Int) : Int := if k = 3 then 2 else if k = 2 then 3 else k
def invE (d : Int) (e : Ed) : Ed := ⟨bkF e.ki, e.at_ + d, e.new, e.old⟩
/-- the edits that undo edits -/
def invL : Int → List Ed → List Ed
  | _, [] => []
  | d, e :: es => invE d e :: invL (mvF d e) es
theorem invL_len : ∀ (d : Int) (es : List Ed), (invL d es).length = es.length
  | _, [] => rfl
  | d, e :: es => by show (invL _ es).length + 1 = es.length + 1; rw [invL_len]
/-- what undoes the edits of b stands at its words -/
theorem inv_low : ∀ (a : List Wd) (i : Nat) (b : List Wd) (d : Int), ∀ e ∈ invL d (alL a i b), (i : Int) + d ≤ e.at_
  | [], i, b, d => by
    rw [alL_nil]
    induction b generalizing d with
    | nil => intro e he; cases he
    | cons y b ih =>
      intro e he
      rcases List.mem_cons.1 he with rfl | he
      · exact Int.le_refl _
      · have := ih (d + 1) e he
        omega
  | x :: a, i, [], d => by
    rw [alL_end]
    intro e he
    rcases List.mem_cons.1 he with rfl | he
    · exact Int.le_refl _
    · have := inv_low a (i + 1) [] (d - 1) e he
      omega
  | x :: a, i, y :: b, d => by
    rw [alL_cons]
    by_cases e0 : x = y
    · rw [if_pos e0]
      intro e he
      have := inv_low a (i + 1) b d e he
      omega
    · rw [if_neg e0]
      by_cases e1 : dsL (x :: a) (y :: b) = 1 + dsL a b
      · rw [if_pos e1]
        intro e he
        rcases List.mem_cons.1 he with rfl | he
        · exact Int.le_refl _
        · have := inv_low a (i + 1) b d e he
          omega
      · rw [if_neg e1]
        by_cases e2 : dsL (x :: a) (y :: b) = 1 + dsL a (y :: b)
        · rw [if_pos e2]
          intro e he
          rcases List.mem_cons.1 he with rfl | he
          · exact Int.le_refl _
          · have := inv_low a (i + 1) (y :: b) (d - 1) e he
            omega
        · rw [if_neg e2]
          intro e he
          rcases List.mem_cons.1 he with rfl | he
          · exact Int.le_refl _
          · have := inv_low (x :: a) i b (d + 1) e he
            omega
theorem filt_none {es : List Ed} {j : Nat} (h : ∀ e ∈ es, (j : Int) < e.at_) : es.filter (atP j) = [] :=
  List.filter_eq_nil_iff.2 fun e he => atP_no (by have := h e he; omega)
/-- a word's own edit, ahead of later ones -/
theorem res_word {es : List Ed} (x : Wd) (a : List Wd) (i : Nat) (e : Ed) (he : e.at_ = (i : Int)) (hk : e.ki ≠ 3) (h : ∀ f ∈ es, (i : Int) < f.at_) : resF (e :: es) (x :: a) i = (if e.ki = 2 then [] else [e.new]) ++ resF es a (i + 1) := by
  rw [resF_cons, List.filter_cons_of_pos (atP_yes he), filt_none h, resF_skip _ _ _ (by omega)]
  have e1 : nwL [e] = if e.ki = 2 then [] else [e.new] := by
    show (if e.ki = 2 then [] else [e.new]) ++ [] = _
    rw [List.append_nil]
  have e2 : ([e].any fun e => decide (e.ki ≠ 3)) = true := by simp [hk]
  rw [e1, e2, if_neg (show ¬ true = false by decide), List.append_nil]
/-- a word put ahead of word i -/
theorem res_add (es : List Ed) : ∀ (a : List Wd) (i : Nat) (e : Ed), e.at_ = (i : Int) → e.ki = 3 → resF (e :: es) a i = e.new :: resF es a i
  | [], i, e, he, hk => by
    show nwL ((e :: es).filter (atP i)) = e.new :: nwL (es.filter (atP i))
    rw [List.filter_cons_of_pos (atP_yes he)]
    show (if e.ki = 2 then [] else [e.new]) ++ nwL _ = _
    rw [if_neg (by omega)]; rfl
  | x :: a, i, e, he, hk => by
    rw [resF_cons, resF_cons, List.filter_cons_of_pos (atP_yes he), resF_skip _ _ _ (by omega)]
    have e3 : ∀ l : List Ed, nwL (e :: l) = e.new :: nwL l := fun l => by
      show (if e.ki = 2 then [] else [e.new]) ++ nwL l = _
      rw [if_neg (by omega)]; rfl
    have e4 : ∀ l : List Ed, ((e :: l).any fun e => decide (e.ki ≠ 3)) = l.any fun e => decide (e.ki ≠ 3) := fun l => by simp [hk]
    rw [e3, e4]; rfl
theorem res_pass (es : List Ed) (x : Wd) (a : List Wd) (i : Nat) (h : ∀ f ∈ es, (i : Int) < f.at_) : resF es (x :: a) i = x :: resF es a (i + 1) := by
  rw [resF_cons, filt_none h]; rfl
theorem inv_res : ∀ (a : List Wd) (i : Nat) (b : List Wd) (j : Nat) (d : Int), (j : Int) = i + d → resF (invL d (alL a i b)) b j = a
  | [], i, b, j, d => by
    rw [alL_nil]
    induction b generalizing d j with
    | nil => intro _; rfl
    | cons y b ih =>
      intro h
      have hl : ∀ f ∈ invL (d + 1) (b.map fun y => (⟨3, i, noW, y⟩ : Ed)), (j : Int) < f.at_ := fun f hf => by
        have := inv_low [] i b (d + 1) f (by rw [alL_nil]; exact hf)
        omega
      show resF (invE d ⟨3, i, noW, y⟩ :: invL (d + 1) (b.map fun y => (⟨3, i, noW, y⟩ : Ed))) (y :: b) j = []
      rw [res_word y b j (invE d ⟨3, i, noW, y⟩) (by show (i : Int) + d = j; omega) (by show bkF 3 ≠ 3; decide) hl, if_pos (show (invE d ⟨3, i, noW, y⟩).ki = 2 from by show bkF 3 = 2; decide), List.nil_append]
      exact ih (j + 1) (d + 1) (by omega)
  | x :: a, i, [], j, d => by
    intro h
    rw [alL_end]
    show resF (invE d ⟨2, i, x, noW⟩ :: invL (d - 1) (alL a (i + 1) [])) [] j = x :: a
    rw [res_add _ [] j (invE d ⟨2, i, x, noW⟩) (by show (i : Int) + d = j; omega) (by show bkF 2 = 3; decide), inv_res a (i + 1) [] j (d - 1) (by omega)]
    rfl
  | x :: a, i, y :: b, j, d => by
    intro h
    rw [alL_cons]
    by_cases e0 : x = y
    · rw [if_pos e0, res_pass _ _ _ _ (fun f hf => by have := inv_low a (i + 1) b d f hf; omega), inv_res a (i + 1) b (j + 1) d (by omega), e0]
    · rw [if_neg e0]
      by_cases e1 : dsL (x :: a) (y :: b) = 1 + dsL a b
      · rw [if_pos e1]
        show resF (invE d ⟨1, i, x, y⟩ :: invL d (alL a (i + 1) b)) (y :: b) j = x :: a
        rw [res_word y b j (invE d ⟨1, i, x, y⟩) (by show (i : Int) + d = j; omega) (by show bkF 1 ≠ 3; decide) (fun f hf => by have := inv_low a (i + 1) b d f hf; omega), if_neg (show ¬ (invE d ⟨1, i, x, y⟩).ki = 2 from by show ¬ bkF 1 = 2; decide), inv_res a (i + 1) b (j + 1) d (by omega)]
        rfl
      · rw [if_neg e1]
        by_cases e2 : dsL (x :: a) (y :: b) = 1 + dsL a (y :: b)
        · rw [if_pos e2]
          show resF (invE d ⟨2, i, x, noW⟩ :: invL (d - 1) (alL a (i + 1) (y :: b))) (y :: b) j = x :: a
          rw [res_add _ (y :: b) j (invE d ⟨2, i, x, noW⟩) (by show (i : Int) + d = j; omega) (by show bkF 2 = 3; decide), inv_res a (i + 1) (y :: b) j (d - 1) (by omega)]
          rfl
        · rw [if_neg e2]
          show resF (invE d ⟨3, i, noW, y⟩ :: invL (d + 1) (alL (x :: a) i b)) (y :: b) j = x :: a
          rw [res_word y b j (invE d ⟨3, i, noW, y⟩) (by show (i : Int) + d = j; omega) (by show bkF 3 ≠ 3; decide) (fun f hf => by have := inv_low (x :: a) i b (d + 1) f hf; omega), if_pos (show (invE d ⟨3, i, noW, y⟩).ki = 2 from by show bkF 3 = 2; decide), List.nil_append]
          exact inv_res (x :: a) i b (j + 1) (d + 1) (by omega)
/-- edits in order from word i on: no edit ahead of one that stands there, none behind a word's own edit -/
def OrdE : Nat → List Ed → Prop
  | _, [] => True
  | i, e :: es => (i : Int) ≤ e.at_ ∧ OrdE (if e.ki = 3 then e.at_.toNat else e.at_.toNat + 1) es
theorem OrdE.low : ∀ {es : List Ed} {i : Nat}, OrdE i es → ∀ e ∈ es, (i : Int) ≤ e.at_
  | [], _, _, e, he => by cases he
  | f :: es, i, h, e, he => by
    rcases List.mem_cons.1 he with rfl | he
    · exact h.1
    · have := OrdE.low h.2 e he
      have h1 := h.1
      split at this <;> omega
theorem OrdE.less : ∀ {es : List Ed} {i j : Nat}, j ≤ i → OrdE i es → OrdE j es
  | [], _, _, _, _ => trivial
  | _ :: _, _, _, h, h2 => ⟨by have := h2.1; omega, h2.2⟩
/-- words that no edit names stay -/
theorem res_skip (es : List Ed) (a : List Wd) (i : Nat) : ∀ m, i + m ≤ a.length → (∀ e ∈ es, ((i + m : Nat) : Int) ≤ e.at_) → resF es (a.drop i) i = (a.drop i).take m ++ resF es (a.drop (i + m)) (i + m)
  | 0, _, _ => by simp
  | m + 1, h, hl => by
    rw [res_skip es a i m (by omega) (fun e he => by have := hl e he; omega), drop_cons (l := a) (k := i + m) (by omega), res_pass _ _ _ _ (fun f hf => by have := hl f hf; omega)]
    have h2 : m < (a.drop i).length := by rw [List.length_drop]; omega
    rw [List.take_succ_eq_append_getElem h2, List.append_assoc, List.getElem_drop]
    simp only [List.singleton_append, List.getD_eq_getElem?_getD]
    rw [List.getElem?_eq_getElem (by omega)]
    rfl
/-- edits in order, carried out one after another -/
theorem ord_res (a : List Wd) : ∀ (es : List Ed) (s : Nat × List Wd), s.1 ≤ a.length → OrdE s.1 es → (∀ e ∈ es, EdOk a e) → takeL a (edsF a s es).1 a.length (edsF a s es).2 = s.2 ++ resF es (a.drop s.1) s.1
  | [], (i, l), hi, _, _ => by
    show takeL a i a.length l = l ++ resF [] (a.drop i) i
    dsimp only at hi
    rw [res_skip [] a i (a.length - i) (by omega) (fun e he => by cases he), show i + (a.length - i) = a.length by omega, List.drop_length]
    show l ++ _ = l ++ (_ ++ nwL _)
    show l ++ _ = l ++ (_ ++ [])
    rw [List.append_nil]
  | e :: es, (i, l), hi, ho, hok => by
    dsimp only at hi ho ⊢
    have hl := ho.1
    have he := hok e List.mem_cons_self
    obtain ⟨q, hq⟩ : ∃ q : Nat, e.at_ = (q : Int) := ⟨e.at_.toNat, by omega⟩
    have hqn : e.at_.toNat = q := by omega
    have hqa : q ≤ a.length := by
      obtain ⟨h1, h2, -⟩ := he
      omega
    have ih := ord_res a es (edI i e, edL a i e l)
    have e1 : edsF a (i, l) (e :: es) = edsF a (edI i e, edL a i e l) es := rfl
    rw [e1]
    have hrest : ∀ f ∈ es, ((if e.ki = 3 then q else q + 1 : Nat) : Int) ≤ f.at_ := fun f hf => by
      have := OrdE.low ho.2 f hf
      rw [hqn] at this
      exact this
    have hall : ∀ f ∈ e :: es, ((i + (q - i) : Nat) : Int) ≤ f.at_ := fun f hf => by
      rcases List.mem_cons.1 hf with rfl | hf
      · omega
      · have := hrest f hf
        split at this <;> omega
    rw [res_skip (e :: es) a i (q - i) (by omega) hall, show i + (q - i) = q by omega]
    by_cases hk : e.ki = 3
    · have ei : edI i e = q := by unfold edI; rw [if_pos hk, hqn]
      have el : edL a i e l = takeL a i q l ++ [e.new] := by unfold edL; rw [if_neg (by omega), hqn]
      rw [ei, el] at ih ⊢
      have ho2 := ho.2
      rw [if_pos hk, hqn] at ho2
      rw [ih hqa ho2 (fun f hf => hok f (List.mem_cons_of_mem _ hf)), res_add es (a.drop q) q e hq hk]
      unfold takeL
      simp [List.append_assoc]
    · have hqa2 : q < a.length := by
        obtain ⟨h1, h2, h3⟩ := he
        rcases h3 with h3 | h3
        · exact absurd h3 hk
        · omega
      have ei : edI i e = q + 1 := by unfold edI; rw [if_neg hk, hqn]
      have el : edL a i e l = takeL a i q l ++ if e.ki = 2 then [] else [e.new] := by unfold edL; rw [hqn]
      rw [ei, el] at ih ⊢
      have ho2 := ho.2
      rw [if_neg hk, hqn] at ho2
      rw [ih (by omega) ho2 (fun f hf => hok f (List.mem_cons_of_mem _ hf)), drop_cons (l := a) (k := q) hqa2, res_word _ _ _ e hq hk (fun f hf => by have := hrest f hf; rw [if_neg hk] at this; omega)]
      unfold takeL
      simp only [List.append_assoc]
end Go.Proofs.YtmpegkojencbjaaDoor
