/- School: the laws' helpers on words, the reference's Word, Text, Same. -/
import Derived.Test.YtmpegkojencbjaaDoorMergesH
set_option linter.unusedSimpArgs false
set_option linter.unusedVariables false
set_option linter.unnecessarySimpa false
namespace Go.Proofs.YtmpegkojencbjaaDoor
open List renaming getElem_toArray → glA, getElem_cons_zero → glB, getElem_cons_succ → glC, setIfInBounds_toArray → glD, set_cons_zero → glE, set_cons_succ → glF
open Go Go.RowKit Go.Shelf
set_option maxHeartbeats 2000000
set_option maxRecDepth 100000
theorem refSame_any (A B : Option Addr) (c d : Nat) (l m : List Ed) (w : World) (hl : l.length ≤ maxLen) (hA : EdR w w.heap.size A l) (hB : EdR w w.heap.size B m) :
    Calls Tryd.prog 20 #[.slice A l.length c, .slice B m.length d] w fun e w' => e = .returned (.bool (decide (l = m))) ∧ Below w.heap.size w w' := by
  unfold maxLen at hl
  have HA := hide hA
  have HB := hide hB
  clear hA hB
  by_cases hlm : l.length = m.length
  · obtain ⟨n, hn⟩ : ∃ n, l.length = n := ⟨_, rfl⟩
    have hm : m.length = n := by omega
    have HN := hide (And.intro hn hm)
    rw [hn] at hl
    rw [hn, hm]
    clear hlm hn hm
    go_enter Tryd.func20, Tryd.ntmps20
    go_wp2_with fail
    go_loopw [5] (fun i wr => ∃ k : Nat, k ≤ n ∧ i = .int .i64 k ∧ (∀ j, j < k → l.getD j e0 = m.getD j e0) ∧ Below w.heap.size w wr) (fun i _ => n - (intOf i).toNat)
    case atStart => exact ⟨0, Nat.zero_le _, rfl, fun j hj => absurd hj (by omega), Below.refl _ _⟩
    case round =>
      obtain ⟨k, hk, rfl, hx, hbw⟩ := hrel
      have HX := hide hx
      have HBW := hide hbw
      clear hx
      by_cases hlt : k < n
      · have hlt' : (k : Int) < (n : Int) := by omega
        have i0 : (0 : Int) ≤ (k : Int) := by omega
        obtain ⟨e, he⟩ : ∃ e, l.getD k e0 = e := ⟨_, rfl⟩
        obtain ⟨f, hf⟩ : ∃ f, m.getD k e0 = f := ⟨_, rfl⟩
        obtain ⟨xb, xo, rfl, hxb, a0, a1, a2, a3⟩ := HA.out.at_ (by rw [HN.out.1]; exact hlt) he
        obtain ⟨yb, yo, rfl, hyb, b0, b1, b2, b3⟩ := HB.out.at_ (by rw [HN.out.2]; exact hlt) hf
        have HE := hide (And.intro he hf)
        clear he hf
        obtain ⟨x0, x1, x2, x3⟩ := e
        obtain ⟨y0, y1, y2, y3⟩ := f
        dsimp only at a0 a1 a2 a3 b0 b1 b2 b3
        have HS : Hid (∀ W, Below w.heap.size w W → (W.cell? ⟨xb, xo + k * 4, none⟩ = some (.int .i64 x0) ∧ W.cell? ⟨xb, xo + k * 4 + 1, none⟩ = some (.int .i64 x1) ∧ W.cell? ⟨xb, xo + k * 4 + 2, none⟩ = some (.string x2) ∧ W.cell? ⟨xb, xo + k * 4 + 3, none⟩ = some (.string x3)) ∧ (W.cell? ⟨yb, yo + k * 4, none⟩ = some (.int .i64 y0) ∧ W.cell? ⟨yb, yo + k * 4 + 1, none⟩ = some (.int .i64 y1) ∧ W.cell? ⟨yb, yo + k * 4 + 2, none⟩ = some (.string y2) ∧ W.cell? ⟨yb, yo + k * 4 + 3, none⟩ = some (.string y3))) := hide fun W h =>
          ⟨⟨(h.cell (p := ⟨xb, xo + k * 4, none⟩) hxb).trans a0, (h.cell (p := ⟨xb, xo + k * 4 + 1, none⟩) hxb).trans a1, (h.cell (p := ⟨xb, xo + k * 4 + 2, none⟩) hxb).trans a2, (h.cell (p := ⟨xb, xo + k * 4 + 3, none⟩) hxb).trans a3⟩,
           (h.cell (p := ⟨yb, yo + k * 4, none⟩) hyb).trans b0, (h.cell (p := ⟨yb, yo + k * 4 + 1, none⟩) hyb).trans b1, (h.cell (p := ⟨yb, yo + k * 4 + 2, none⟩) hyb).trans b2, (h.cell (p := ⟨yb, yo + k * 4 + 3, none⟩) hyb).trans b3⟩
        clear a0 a1 a2 a3 b0 b1 b2 b3 hbw
        go_upto_region 6 with fail
        have Bd := hide (HBW.out.trans ((Below.refl wr.heap.size wr).drew.mono HBW.out.size))
        refine wp_region_J (fun W : World => (W.cell? ⟨xb, xo + k * 4, none⟩ = some (.int .i64 x0) ∧ W.cell? ⟨xb, xo + k * 4 + 1, none⟩ = some (.int .i64 x1) ∧ W.cell? ⟨xb, xo + k * 4 + 2, none⟩ = some (.string x2) ∧ W.cell? ⟨xb, xo + k * 4 + 3, none⟩ = some (.string x3)) ∧ (W.cell? ⟨yb, yo + k * 4, none⟩ = some (.int .i64 y0) ∧ W.cell? ⟨yb, yo + k * 4 + 1, none⟩ = some (.int .i64 y1) ∧ W.cell? ⟨yb, yo + k * 4 + 2, none⟩ = some (.string y2) ∧ W.cell? ⟨yb, yo + k * 4 + 3, none⟩ = some (.string y3))) (by kernel_rfl) ?_
        generalize wr.drew = wd at Bd ⊢
        refine wpAnyJ_take 0 (v := ?_) (by first | exact hF | exact wideFn) (HS.out _ Bd.out) rfl (by kernel_rfl) (by kernel_rfl) (by kernel_rfl) (by kernel_rfl) rfl ?_ (by first | exact fun _ _ _ h => h | exact fun _ _ _ h => hQ2 _ _ _ _ _ h) ?_
        rotate_left
        · intro W hSW
          simp only [glA, glB, glC]
          (try dsimp only at hSW)
          go_simp
          with_reducible rfl
        (try simp only [glA, glB, glC, Act.put, glD, glE, glF])
        refine wpAnyJ_take 1 (v := ?_) (by first | exact hF | exact wideFn) (HS.out _ Bd.out) rfl (by kernel_rfl) (by kernel_rfl) (by kernel_rfl) (by kernel_rfl) rfl ?_ (by first | exact fun _ _ _ h => h | exact fun _ _ _ h => hQ2 _ _ _ _ _ h) ?_
        rotate_left
        · intro W hSW
          simp only [glA, glB, glC]
          (try dsimp only at hSW)
          go_simp
          with_reducible rfl
        (try simp only [glA, glB, glC, Act.put, glD, glE, glF])
        refine wpAnyJ_take 2 (v := ?_) (by first | exact hF | exact wideFn) (HS.out _ Bd.out) rfl (by kernel_rfl) (by kernel_rfl) (by kernel_rfl) (by kernel_rfl) rfl ?_ (by first | exact fun _ _ _ h => h | exact fun _ _ _ h => hQ2 _ _ _ _ _ h) ?_
        rotate_left
        · intro W hSW
          simp only [glA, glB, glC]
          (try dsimp only at hSW)
          go_simp
          with_reducible rfl
        (try simp only [glA, glB, glC, Act.put, glD, glE, glF])
        refine wpAnyJ_take 3 (v := ?_) (by first | exact hF | exact wideFn) (HS.out _ Bd.out) rfl (by kernel_rfl) (by kernel_rfl) (by kernel_rfl) (by kernel_rfl) rfl ?_ (by first | exact fun _ _ _ h => h | exact fun _ _ _ h => hQ2 _ _ _ _ _ h) ?_
        rotate_left
        · intro W hSW
          simp only [glA, glB, glC]
          (try dsimp only at hSW)
          go_simp
          with_reducible rfl
        (try simp only [glA, glB, glC, Act.put, glD, glE, glF])
        refine wpAnyJ_take 4 (v := ?_) (by first | exact hF | exact wideFn) (HS.out _ Bd.out) rfl (by kernel_rfl) (by kernel_rfl) (by kernel_rfl) (by kernel_rfl) rfl ?_ (by first | exact fun _ _ _ h => h | exact fun _ _ _ h => hQ2 _ _ _ _ _ h) ?_
        rotate_left
        · intro W hSW
          simp only [glA, glB, glC]
          (try dsimp only at hSW)
          go_simp
          with_reducible rfl
        (try simp only [glA, glB, glC, Act.put, glD, glE, glF])
        refine wpAnyJ_take 5 (v := ?_) (by first | exact hF | exact wideFn) (HS.out _ Bd.out) rfl (by kernel_rfl) (by kernel_rfl) (by kernel_rfl) (by kernel_rfl) rfl ?_ (by first | exact fun _ _ _ h => h | exact fun _ _ _ h => hQ2 _ _ _ _ _ h) ?_
        rotate_left
        · intro W hSW
          simp only [glA, glB, glC]
          (try dsimp only at hSW)
          go_simp
          with_reducible rfl
        (try simp only [glA, glB, glC, Act.put, glD, glE, glF])
        refine wpAnyJ_take 6 (v := ?_) (by first | exact hF | exact wideFn) (HS.out _ Bd.out) rfl (by kernel_rfl) (by kernel_rfl) (by kernel_rfl) (by kernel_rfl) rfl ?_ (by first | exact fun _ _ _ h => h | exact fun _ _ _ h => hQ2 _ _ _ _ _ h) ?_
        rotate_left
        · intro W hSW
          simp only [glA, glB, glC]
          (try dsimp only at hSW)
          go_simp
          with_reducible rfl
        (try simp only [glA, glB, glC, Act.put, glD, glE, glF])
        refine wpAnyJ_take 7 (v := ?_) (by first | exact hF | exact wideFn) (HS.out _ Bd.out) rfl (by kernel_rfl) (by kernel_rfl) (by kernel_rfl) (by kernel_rfl) rfl ?_ (by first | exact fun _ _ _ h => h | exact fun _ _ _ h => hQ2 _ _ _ _ _ h) ?_
        rotate_left
        · intro W hSW
          simp only [glA, glB, glC]
          (try dsimp only at hSW)
          go_simp
          with_reducible rfl
        (try simp only [glA, glB, glC, Act.put, glD, glE, glF])
        by_cases q0 : x0 = y0
        · by_cases q1 : x1 = y1
          · by_cases q2 : x2 = y2
            · by_cases q3 : x3 = y3
              · subst q0 q1 q2 q3
                refine wpAnyJ_take 8 (v := ?_) (by first | exact hF | exact wideFn) (HS.out _ Bd.out) rfl (by kernel_rfl) (by kernel_rfl) (by kernel_rfl) (by kernel_rfl) rfl ?_ (by first | exact fun _ _ _ h => h | exact fun _ _ _ h => hQ2 _ _ _ _ _ h) ?_
                rotate_left
                · intro W hSW
                  simp only [glA, glB, glC]
                  (try dsimp only at hSW)
                  go_simp
                  with_reducible rfl
                (try simp only [glA, glB, glC, Act.put, glD, glE, glF])
                refine wpAnyJ_done (by kernel_rfl) ?_
                go_wp2_with fail
                go_roundw
                case rel => exact ⟨k + 1, by omega, by go_num, fun j hj => by
                  rcases (by omega : j < k ∨ j = k) with h | h
                  · exact HX.out j h
                  · rw [h, HE.out.1, HE.out.2], Bd.out⟩
                case measure => simp [intOf]; omega
              · have q3' := str_ne q3
                refine wpAnyJ_take 8 (v := ?_) (by first | exact hF | exact wideFn) (HS.out _ Bd.out) rfl (by kernel_rfl) (by kernel_rfl) (by kernel_rfl) (by kernel_rfl) rfl ?_ (by first | exact fun _ _ _ h => h | exact fun _ _ _ h => hQ2 _ _ _ _ _ h) ?_
                rotate_left
                · intro W hSW
                  simp only [glA, glB, glC]
                  (try dsimp only at hSW)
                  go_simp
                  with_reducible rfl
                (try simp only [glA, glB, glC, Act.put, glD, glE, glF])
                refine wpAnyJ_done (by kernel_rfl) ?_
                go_wp2_with fail
                go_ret
                refine ⟨ret_bool ?_, Bd.out⟩
                have hne : ¬ l = m := fun e => by
                  have h1 := HE.out.1
                  rw [e, HE.out.2] at h1
                  injection h1 with h0 h1 h2 h3
                  exact q3 h3.symm
                simp [hne]
            · have q2' := str_ne q2
              refine wpAnyJ_take 8 (v := ?_) (by first | exact hF | exact wideFn) (HS.out _ Bd.out) rfl (by kernel_rfl) (by kernel_rfl) (by kernel_rfl) (by kernel_rfl) rfl ?_ (by first | exact fun _ _ _ h => h | exact fun _ _ _ h => hQ2 _ _ _ _ _ h) ?_
              rotate_left
              · intro W hSW
                simp only [glA, glB, glC]
                (try dsimp only at hSW)
                go_simp
                with_reducible rfl
              (try simp only [glA, glB, glC, Act.put, glD, glE, glF])
              refine wpAnyJ_done (by kernel_rfl) ?_
              go_wp2_with fail
              go_ret
              refine ⟨ret_bool ?_, Bd.out⟩
              have hne : ¬ l = m := fun e => by
                have h1 := HE.out.1
                rw [e, HE.out.2] at h1
                injection h1 with h0 h1 h2 h3
                exact q2 h2.symm
              simp [hne]
          · refine wpAnyJ_take 8 (v := ?_) (by first | exact hF | exact wideFn) (HS.out _ Bd.out) rfl (by kernel_rfl) (by kernel_rfl) (by kernel_rfl) (by kernel_rfl) rfl ?_ (by first | exact fun _ _ _ h => h | exact fun _ _ _ h => hQ2 _ _ _ _ _ h) ?_
            rotate_left
            · intro W hSW
              simp only [glA, glB, glC]
              (try dsimp only at hSW)
              go_simp
              with_reducible rfl
            (try simp only [glA, glB, glC, Act.put, glD, glE, glF])
            refine wpAnyJ_done (by kernel_rfl) ?_
            go_wp2_with fail
            go_ret
            refine ⟨ret_bool ?_, Bd.out⟩
            have hne : ¬ l = m := fun e => by
              have h1 := HE.out.1
              rw [e, HE.out.2] at h1
              injection h1 with h0 h1 h2 h3
              exact q1 h1.symm
            simp [hne]
        · refine wpAnyJ_take 8 (v := ?_) (by first | exact hF | exact wideFn) (HS.out _ Bd.out) rfl (by kernel_rfl) (by kernel_rfl) (by kernel_rfl) (by kernel_rfl) rfl ?_ (by first | exact fun _ _ _ h => h | exact fun _ _ _ h => hQ2 _ _ _ _ _ h) ?_
          rotate_left
          · intro W hSW
            simp only [glA, glB, glC]
            (try dsimp only at hSW)
            go_simp
            with_reducible rfl
          (try simp only [glA, glB, glC, Act.put, glD, glE, glF])
          refine wpAnyJ_done (by kernel_rfl) ?_
          go_wp2_with fail
          go_ret
          refine ⟨ret_bool ?_, Bd.out⟩
          have hne : ¬ l = m := fun e => by
            have h1 := HE.out.1
            rw [e, HE.out.2] at h1
            injection h1 with h0 h1 h2 h3
            exact q0 h0.symm
          simp [hne]
      · obtain rfl : k = n := by omega
        go_wp2_with fail
        go_ret
        refine ⟨ret_bool ?_, HBW.out⟩
        have : l = m := getD_all (by rw [HN.out.1, HN.out.2]) (by rw [HN.out.1]; exact HX.out)
        simp [this]
  · have hne : ¬ ((l.length : Int) = (m.length : Int)) := by omega
    have hd : decide (l = m) = false := by
      rw [decide_eq_false_iff_not]; intro h; exact hlm (by rw [h])
    rw [hd]
    clear hd
    generalize l.length = n1 at *
    generalize m.length = n2 at *
    go_enter Tryd.func20, Tryd.ntmps20
    go_wp2_with fail
    go_ret
    exact ⟨rfl, Below.refl _ _⟩
theorem getD_allW {l m : List Wd} (hl : l.length = m.length) (h : ∀ k, k < l.length → l.getD k noW = m.getD k noW) : l = m := by
  apply List.ext_getElem hl
  intro k h1 h2
  have := h k h1
  rwa [List.getD_eq_getElem?_getD, List.getD_eq_getElem?_getD, List.getElem?_eq_getElem h1, List.getElem?_eq_getElem h2] at this
theorem same_any (A B : Option Addr) (c d : Nat) (l m : List Wd) (w : World) (hl : l.length ≤ maxLen) (hA : SR w w.heap.size A l) (hB : SR w w.heap.size B m) :
    Calls Tryd.prog 18 #[.slice A l.length c, .slice B m.length d] w fun e w' => e = .returned (.bool (decide (l = m))) ∧ Below w.heap.size w w' := by
  unfold maxLen at hl
  have HA := hide hA
  have HB := hide hB
  clear hA hB
  by_cases hlm : l.length = m.length
  · obtain ⟨n, hn⟩ : ∃ n, l.length = n := ⟨_, rfl⟩
    have hm : m.length = n := by omega
    have HN := hide (And.intro hn hm)
    rw [hn] at hl
    rw [hn, hm]
    clear hlm hn hm
    go_enter Tryd.func18, Tryd.ntmps18
    go_wp2_with fail
    go_loopw [5] (fun i wr => ∃ k : Nat, k ≤ n ∧ i = .int .i64 k ∧ (∀ j, j < k → l.getD j noW = m.getD j noW) ∧ Below w.heap.size w wr) (fun i _ => n - (intOf i).toNat)
    case atStart => exact ⟨0, Nat.zero_le _, rfl, fun j hj => absurd hj (by omega), Below.refl _ _⟩
    case round =>
      obtain ⟨k, hk, rfl, hx, hbw⟩ := hrel
      have HX := hide hx
      have HBW := hide hbw
      clear hx
      by_cases hlt : k < n
      · have hlt' : (k : Int) < (n : Int) := by omega
        have i0 : (0 : Int) ≤ (k : Int) := by omega
        obtain ⟨x, he⟩ : ∃ e, l.getD k noW = e := ⟨_, rfl⟩
        obtain ⟨y, hf⟩ : ∃ f, m.getD k noW = f := ⟨_, rfl⟩
        obtain ⟨xb, xo, rfl, hxb, a0⟩ := VR1.at_ HA.out (by rw [HN.out.1]; exact hlt)
        obtain ⟨yb, yo, rfl, hyb, b0⟩ := VR1.at_ HB.out (by rw [HN.out.2]; exact hlt)
        rw [he] at a0
        rw [hf] at b0
        have HE := hide (And.intro he hf)
        clear he hf
        have HS : Hid (∀ W, Below w.heap.size w W → W.cell? ⟨xb, xo + k, none⟩ = some (.string x) ∧ W.cell? ⟨yb, yo + k, none⟩ = some (.string y)) := hide fun W h =>
          ⟨(h.cell (p := ⟨xb, xo + k, none⟩) hxb).trans a0, (h.cell (p := ⟨yb, yo + k, none⟩) hyb).trans b0⟩
        clear a0 b0 hbw
        go_upto_region 6 with fail
        have Bd := hide (HBW.out.trans ((Below.refl wr.heap.size wr).drew.mono HBW.out.size))
        refine wp_region_J (fun W : World => W.cell? ⟨xb, xo + k, none⟩ = some (.string x) ∧ W.cell? ⟨yb, yo + k, none⟩ = some (.string y)) (by kernel_rfl) ?_
        generalize wr.drew = wd at Bd ⊢
        refine wpAnyJ_take 0 (v := ?_) (by first | exact hF | exact wideFn) (HS.out _ Bd.out) rfl (by kernel_rfl) (by kernel_rfl) (by kernel_rfl) (by kernel_rfl) rfl ?_ (by first | exact fun _ _ _ h => h | exact fun _ _ _ h => hQ2 _ _ _ _ _ h) ?_
        rotate_left
        · intro W hSW
          simp only [glA, glB, glC]
          (try dsimp only at hSW)
          go_simp
          with_reducible rfl
        (try simp only [glA, glB, glC, Act.put, glD, glE, glF])
        refine wpAnyJ_take 1 (v := ?_) (by first | exact hF | exact wideFn) (HS.out _ Bd.out) rfl (by kernel_rfl) (by kernel_rfl) (by kernel_rfl) (by kernel_rfl) rfl ?_ (by first | exact fun _ _ _ h => h | exact fun _ _ _ h => hQ2 _ _ _ _ _ h) ?_
        rotate_left
        · intro W hSW
          simp only [glA, glB, glC]
          (try dsimp only at hSW)
          go_simp
          with_reducible rfl
        (try simp only [glA, glB, glC, Act.put, glD, glE, glF])
        refine wpAnyJ_take 2 (v := ?_) (by first | exact hF | exact wideFn) (HS.out _ Bd.out) rfl (by kernel_rfl) (by kernel_rfl) (by kernel_rfl) (by kernel_rfl) rfl ?_ (by first | exact fun _ _ _ h => h | exact fun _ _ _ h => hQ2 _ _ _ _ _ h) ?_
        rotate_left
        · intro W hSW
          simp only [glA, glB, glC]
          (try dsimp only at hSW)
          go_simp
          with_reducible rfl
        (try simp only [glA, glB, glC, Act.put, glD, glE, glF])
        refine wpAnyJ_take 3 (v := ?_) (by first | exact hF | exact wideFn) (HS.out _ Bd.out) rfl (by kernel_rfl) (by kernel_rfl) (by kernel_rfl) (by kernel_rfl) rfl ?_ (by first | exact fun _ _ _ h => h | exact fun _ _ _ h => hQ2 _ _ _ _ _ h) ?_
        rotate_left
        · intro W hSW
          simp only [glA, glB, glC]
          (try dsimp only at hSW)
          go_simp
          with_reducible rfl
        (try simp only [glA, glB, glC, Act.put, glD, glE, glF])
        refine wpAnyJ_take 4 (v := ?_) (by first | exact hF | exact wideFn) (HS.out _ Bd.out) rfl (by kernel_rfl) (by kernel_rfl) (by kernel_rfl) (by kernel_rfl) rfl ?_ (by first | exact fun _ _ _ h => h | exact fun _ _ _ h => hQ2 _ _ _ _ _ h) ?_
        rotate_left
        · intro W hSW
          simp only [glA, glB, glC]
          (try dsimp only at hSW)
          go_simp
          with_reducible rfl
        (try simp only [glA, glB, glC, Act.put, glD, glE, glF])
        refine wpAnyJ_take 5 (v := ?_) (by first | exact hF | exact wideFn) (HS.out _ Bd.out) rfl (by kernel_rfl) (by kernel_rfl) (by kernel_rfl) (by kernel_rfl) rfl ?_ (by first | exact fun _ _ _ h => h | exact fun _ _ _ h => hQ2 _ _ _ _ _ h) ?_
        rotate_left
        · intro W hSW
          simp only [glA, glB, glC]
          (try dsimp only at hSW)
          go_simp
          with_reducible rfl
        (try simp only [glA, glB, glC, Act.put, glD, glE, glF])
        refine wpAnyJ_take 6 (v := ?_) (by first | exact hF | exact wideFn) (HS.out _ Bd.out) rfl (by kernel_rfl) (by kernel_rfl) (by kernel_rfl) (by kernel_rfl) rfl ?_ (by first | exact fun _ _ _ h => h | exact fun _ _ _ h => hQ2 _ _ _ _ _ h) ?_
        rotate_left
        · intro W hSW
          simp only [glA, glB, glC]
          (try dsimp only at hSW)
          go_simp
          with_reducible rfl
        (try simp only [glA, glB, glC, Act.put, glD, glE, glF])
        refine wpAnyJ_take 7 (v := ?_) (by first | exact hF | exact wideFn) (HS.out _ Bd.out) rfl (by kernel_rfl) (by kernel_rfl) (by kernel_rfl) (by kernel_rfl) rfl ?_ (by first | exact fun _ _ _ h => h | exact fun _ _ _ h => hQ2 _ _ _ _ _ h) ?_
        rotate_left
        · intro W hSW
          simp only [glA, glB, glC]
          (try dsimp only at hSW)
          go_simp
          with_reducible rfl
        (try simp only [glA, glB, glC, Act.put, glD, glE, glF])
        by_cases q : x = y
        · subst q
          refine wpAnyJ_take 8 (v := ?_) (by first | exact hF | exact wideFn) (HS.out _ Bd.out) rfl (by kernel_rfl) (by kernel_rfl) (by kernel_rfl) (by kernel_rfl) rfl ?_ (by first | exact fun _ _ _ h => h | exact fun _ _ _ h => hQ2 _ _ _ _ _ h) ?_
          rotate_left
          · intro W hSW
            simp only [glA, glB, glC]
            (try dsimp only at hSW)
            go_simp
            with_reducible rfl
          (try simp only [glA, glB, glC, Act.put, glD, glE, glF])
          refine wpAnyJ_done (by kernel_rfl) ?_
          go_wp2_with fail
          go_roundw
          case rel => exact ⟨k + 1, by omega, by go_num, fun j hj => by
            rcases (by omega : j < k ∨ j = k) with h | h
            · exact HX.out j h
            · rw [h, HE.out.1, HE.out.2], Bd.out⟩
          case measure => simp [intOf]; omega
        · have q1 := str_ne q
          refine wpAnyJ_take 8 (v := ?_) (by first | exact hF | exact wideFn) (HS.out _ Bd.out) rfl (by kernel_rfl) (by kernel_rfl) (by kernel_rfl) (by kernel_rfl) rfl ?_ (by first | exact fun _ _ _ h => h | exact fun _ _ _ h => hQ2 _ _ _ _ _ h) ?_
          rotate_left
          · intro W hSW
            simp only [glA, glB, glC]
            (try dsimp only at hSW)
            go_simp
            with_reducible rfl
          (try simp only [glA, glB, glC, Act.put, glD, glE, glF])
          refine wpAnyJ_done (by kernel_rfl) ?_
          go_wp2_with fail
          go_ret
          refine ⟨ret_bool ?_, Bd.out⟩
          have hne : ¬ l = m := fun e => by
            have h1 := HE.out.1
            rw [e, HE.out.2] at h1
            exact q h1.symm
          simp [hne]
      · obtain rfl : k = n := by omega
        go_wp2_with fail
        go_ret
        refine ⟨ret_bool ?_, HBW.out⟩
        have : l = m := getD_allW (by rw [HN.out.1, HN.out.2]) (by rw [HN.out.1]; exact HX.out)
        simp [this]
  · have hne : ¬ ((l.length : Int) = (m.length : Int)) := by omega
    have hd : decide (l = m) = false := by
      rw [decide_eq_false_iff_not]; intro h; exact hlm (by rw [h])
    rw [hd]
    clear hd
    generalize l.length = n1 at *
    generalize m.length = n2 at *
    go_enter Tryd.func18, Tryd.ntmps18
    go_wp2_with fail
    go_ret
    exact ⟨rfl, Below.refl _ _⟩
/-- more than is looked at -/
def lgB (l : List Wd) : Bool := decide (25 < l.length) || l.any fun x => decide (20 < x.size)
theorem lgB_no {l : List Wd} (h : lgB l = false) : l.length ≤ 25 ∧ ∀ x ∈ l, x.size ≤ 20 := by
  unfold lgB at h
  rw [Bool.or_eq_false_iff] at h
  have h1 := of_decide_eq_false h.1
  refine ⟨by omega, fun x hx => ?_⟩
  have h2 := List.any_eq_false.1 h.2 x hx
  simp at h2
  exact h2
theorem long_any (A : Option Addr) (c : Nat) (l : List Wd) (w : World) (hl : SzOk l) (hA : SR w w.heap.size A l) :
    Calls Tryd.prog 14 #[.slice A l.length c] w fun e w' => e = .returned (.bool (lgB l)) ∧ w = w' := by
  have hl1 := hl.1
  unfold maxLen at hl1
  have HA := hide hA
  have HL := hide hl
  obtain ⟨n, hn⟩ : ∃ n, l.length = n := ⟨_, rfl⟩
  have HN := hide hn
  rw [hn] at hl1 ⊢
  clear hA hl hn
  go_enter Tryd.func14, Tryd.ntmps14
  go_wp2_with fail
  go_loopw [3] (fun i wr => ∃ k : Nat, k ≤ n ∧ k ≤ 26 ∧ i = .int .i64 k ∧ Hid (∀ j, j < k → (l.getD j noW).size ≤ 20) ∧ Hid (w = wr)) (fun i _ => n - (intOf i).toNat)
  case atStart => exact ⟨0, Nat.zero_le _, by omega, rfl, hide (fun j hj => absurd hj (by omega)), hide rfl⟩
  case round =>
    obtain ⟨k, hk, hk26, rfl, HX, HW⟩ := hrel
    obtain rfl := HW.out
    by_cases hlt : k < n
    · have hlt' : (k : Int) < (n : Int) := by omega
      by_cases h26 : k < 26
      · have h26' : (k : Int) < 26 := by omega
        have i0 : (0 : Int) ≤ (k : Int) := by omega
        have hkl : k < l.length := by rw [HN.out]; exact hlt
        obtain ⟨b, off, rfl, hb, hc⟩ := VR1.at_ HA.out hkl
        obtain ⟨x, hx⟩ : ∃ x, l.getD k noW = x := ⟨_, rfl⟩
        have hxm := HL.out.at_ k
        rw [hx] at hc hxm
        unfold maxLen at hxm
        by_cases h20 : 20 < x.size
        · have h20' : (20 : Int) < (x.size : Int) := by omega
          have hg : lgB l = true := by
            unfold lgB
            rw [Bool.or_eq_true]
            refine .inr (List.any_eq_true.2 ⟨x, ?_, by simpa using h20⟩)
            rw [← hx, List.getD_eq_getElem?_getD, List.getElem?_eq_getElem hkl]
            exact List.getElem_mem hkl
          have HG := hide hg
          clear hg hx h20
          go_wp2_with fail
          go_ret
          exact ⟨ret_bool HG.out.symm, rfl⟩
        · have h20' : ¬ (20 : Int) < (x.size : Int) := by omega
          have HX2 : Hid (∀ j, j < k + 1 → (l.getD j noW).size ≤ 20) := hide (fun j hj => by
            rcases (by omega : j < k ∨ j = k) with h | rfl
            · exact HX.out j h
            · rw [hx]; omega)
          clear hx h20
          go_wp2_with fail
          go_roundw
          case rel => exact ⟨k + 1, by omega, by omega, by go_num, HX2, by first | trivial | exact hide rfl⟩
          case measure => simp [intOf]; omega
      · have h26' : ¬ (k : Int) < 26 := by omega
        have h25 : (25 : Int) < (n : Int) := by omega
        have hg : lgB l = true := by
          unfold lgB
          rw [Bool.or_eq_true, HN.out]
          exact .inl (by simp; omega)
        have HG := hide hg
        clear hg
        go_wp2_with fail
        go_ret
        exact ⟨ret_bool HG.out.symm, rfl⟩
    · obtain rfl : k = n := by omega
      have hnl : ¬ (k : Int) < (k : Int) := by omega
      have hg : lgB l = decide (25 < (k : Int)) := by
        unfold lgB
        have h2 : (l.any fun x => decide (20 < x.size)) = false := by
          rw [List.any_eq_false]
          intro x hx
          obtain ⟨j, hj, rfl⟩ := List.getElem_of_mem hx
          have := HX.out j (by rw [← HN.out]; exact hj)
          rw [List.getD_eq_getElem?_getD, List.getElem?_eq_getElem hj] at this
          have h3 : l[j].size ≤ 20 := this
          simp; exact h3
        rw [h2, Bool.or_false, HN.out]
        rw [Bool.eq_iff_iff]; simp; omega
      have HG := hide hg
      clear hg
      go_wp2_with fail
      go_ret
      exact ⟨ret_bool (by rw [HG.out]), rfl⟩
theorem OwnS.made0 (W : World) : OwnS (W.alloc (.cells #[] 9)) W.heap.size (.slice (some ⟨W.heap.size, 0, none⟩) 0 0) [] :=
  World.ownsRow_made W #[] 0 (Nat.le_refl _) (by unfold maxLen; omega) rfl
theorem words_any (A : Option Addr) (c : Nat) (l : List Wd) (w : World) (hl : l.length ≤ 100000) (hA : SR w w.heap.size A l) :
    Calls Tryd.prog 16 #[.slice A l.length c] w fun e w' => ∃ v, e = .returned v ∧ OwnS w' w.heap.size v l ∧ Below w.heap.size w w' := by
  have hB0 : Below w.heap.size w (w.alloc (.cells #[] 9)) := (Below.refl _ _).alloc (Nat.le_refl _) _
  obtain ⟨v', w', hrun, ho, hg, -⟩ := (OwnS.made0 w).pushes A c l ((ER.below hA hB0 (Nat.le_refl _)).more hB0.size) (by simp; omega) hB0.size
  rw [List.nil_append] at ho
  have HRUN := hide hrun
  have HO := hide (And.intro ho (hB0.grown hg hB0.size (fun k hk => (World.ownsRow.lt (OwnS.made0 w) k hk).1)))
  clear hrun ho hg hB0 hA
  generalize l.length = n at HRUN ⊢
  go_enter Tryd.func16, Tryd.ntmps16
  go_wp2_with (at_builtin; refine wpList_append_run rfl (.tmp 3) (.tmp 4) 22 rfl rfl rfl HRUN.out ?_)
  go_ret
  exact ⟨_, rfl, HO.out.1, HO.out.2⟩
end Go.Proofs.YtmpegkojencbjaaDoor
/- School: the reference's Word and Text. -/
namespace Go.Proofs.YtmpegkojencbjaaDoor
open Go Go.RowKit Go.Shelf
set_option maxHeartbeats 2000000
set_option maxRecDepth 100000
theorem refWord_any (s : Wd) (w : World) (hs : s.size ≤ maxLen) : Calls Tryd.prog 51 #[.string s] w fun e w' => e = .returned (.bool (wordB s)) ∧ w = w' := by
  unfold maxLen at hs
  obtain ⟨n, hn⟩ : ∃ n, s.size = n := ⟨_, rfl⟩
  have HN := hide hn
  by_cases h1 : n < 1
  · have hw : wordB s = false := by unfold wordB; rw [hn, decide_eq_false (show ¬ 1 ≤ n by omega)]; rfl
    have HW := hide hw
    have h1' : (n : Int) < 1 := by omega
    have h1s : (s.size : Int) < 1 := by omega
    clear hw hn
    go_enter Tryd.func51, Tryd.ntmps51
    go_wp2_with fail
    go_ret
    exact ⟨ret_bool HW.out.symm, rfl⟩
  by_cases h2 : 12 < n
  · have hw : wordB s = false := by unfold wordB; rw [hn, decide_eq_false (show ¬ n ≤ 12 by omega), Bool.and_false, Bool.false_and]
    have HW := hide hw
    have h1s : ¬ (s.size : Int) < 1 := by omega
    have h2s : (12 : Int) < (s.size : Int) := by omega
    clear hw hn
    go_enter Tryd.func51, Tryd.ntmps51
    go_wp2_with fail
    go_ret
    exact ⟨ret_bool HW.out.symm, rfl⟩
  have h1s : ¬ (s.size : Int) < 1 := by omega
  have h2s : ¬ (12 : Int) < (s.size : Int) := by omega
  go_enter Tryd.func51, Tryd.ntmps51
  go_wp2_with fail
  clear h1s h2s
  go_loopw [3] (fun i wr => ∃ k : Nat, k ≤ n ∧ i = .int .i64 k ∧ Hid (∀ j, j < k → lowerB (s.data.toList.getD j 0) = true) ∧ Hid (w = wr)) (fun i _ => n - (intOf i).toNat)
  case atStart => exact ⟨0, Nat.zero_le _, rfl, hide (fun j hj => absurd hj (by omega)), hide rfl⟩
  case round =>
    obtain ⟨k, hk, rfl, HX, HW⟩ := hrel
    obtain rfl := HW.out
    by_cases hlt : k < n
    · have hlt' : (k : Int) < (s.size : Int) := by omega
      have k0 : (0 : Int) ≤ (k : Int) := by omega
      have hks : k < s.size := by omega
      have hcd : s.data.toList.getD k 0 = s[k]'hks := by
        have hkd : k < s.data.toList.length := hks
        rw [List.getD_eq_getElem?_getD, List.getElem?_eq_getElem hkd]
        rfl
      have hlo : lowerB (s.data.toList.getD k 0) = (decide (97 ≤ (s[k]'hks).toNat) && decide ((s[k]'hks).toNat ≤ 122)) := by rw [hcd]; rfl
      have HNO : Hid (lowerB (s.data.toList.getD k 0) = false → wordB s = false) := hide (fun h => by
        unfold wordB
        have : s.data.toList.all lowerB = false := all_take_no lowerB s.data.toList (k := k) hks 0 h
        rw [this, Bool.and_false])
      have HYES : Hid (lowerB (s.data.toList.getD k 0) = true → ∀ j, j < k + 1 → lowerB (s.data.toList.getD j 0) = true) := hide (fun h j hj => by
        rcases (by omega : j < k ∨ j = k) with h2 | rfl
        · exact HX.out j h2
        · exact h)
      have HLO := hide hlo
      clear hlo hcd
      by_cases c1 : ((s[k]'hks).toNat : Int) < 97
      · have HWB := hide (HNO.out (by rw [HLO.out, decide_eq_false (by omega)]; rfl))
        go_wp2_with fail
        go_ret
        exact ⟨ret_bool HWB.out.symm, rfl⟩
      · by_cases c2 : (122 : Int) < ((s[k]'hks).toNat : Int)
        · have HWB := hide (HNO.out (by rw [HLO.out, decide_eq_false (show ¬ (s[k]'hks).toNat ≤ 122 by omega), Bool.and_false]))
          go_wp2_with fail
          go_ret
          exact ⟨ret_bool HWB.out.symm, rfl⟩
        · have HX2 := hide (HYES.out (by rw [HLO.out, decide_eq_true (by omega), decide_eq_true (by omega)]; rfl))
          go_wp2_with fail
          go_roundw
          case rel => exact ⟨k + 1, by omega, by go_num, HX2, by first | trivial | exact hide rfl⟩
          case measure => simp [intOf]; omega
    · obtain rfl : k = n := by omega
      have hnl : ¬ (k : Int) < (k : Int) := by omega
      have hw : wordB s = true := by
        unfold wordB
        rw [hn, decide_eq_true (show 1 ≤ k by omega), decide_eq_true (show k ≤ 12 by omega), Bool.true_and, Bool.true_and, List.all_eq_true]
        intro x hx
        obtain ⟨j, hj, rfl⟩ := List.getElem_of_mem hx
        have hj2 : j < k := by
          have : s.data.toList.length = s.size := rfl
          omega
        have := HX.out j hj2
        rwa [List.getD_eq_getElem?_getD, List.getElem?_eq_getElem hj] at this
      have HWB := hide hw
      clear hw
      go_wp2_with fail
      go_ret
      exact ⟨ret_bool HWB.out.symm, rfl⟩
theorem refText_any (A : Option Addr) (c : Nat) (l : List Wd) (w : World) (hl : SzOk l) (hA : SR w w.heap.size A l) :
    Calls Tryd.prog 19 #[.slice A l.length c] w fun e w' => e = .returned (.bool (textB l)) ∧ w = w' := by
  have hl1 := hl.1
  unfold maxLen at hl1
  have HA := hide hA
  have HL := hide hl
  obtain ⟨n, hn⟩ : ∃ n, l.length = n := ⟨_, rfl⟩
  have HN := hide hn
  rw [hn] at hl1 ⊢
  clear hA hl hn
  go_enter Tryd.func19, Tryd.ntmps19
  go_wp2_with fail
  go_loopw [3] (fun i wr => ∃ k : Nat, k ≤ n ∧ i = .int .i64 k ∧ Hid (∀ j, j < k → wordB (l.getD j noW) = true) ∧ Hid (w = wr)) (fun i _ => n - (intOf i).toNat)
  case atStart => exact ⟨0, Nat.zero_le _, rfl, hide (fun j hj => absurd hj (by omega)), hide rfl⟩
  case round =>
    obtain ⟨k, hk, rfl, HX, HW⟩ := hrel
    obtain rfl := HW.out
    by_cases hlt : k < n
    · have hlt' : (k : Int) < (n : Int) := by omega
      have i0 : (0 : Int) ≤ (k : Int) := by omega
      have hkl : k < l.length := by rw [HN.out]; exact hlt
      obtain ⟨b, off, rfl, hb, hc⟩ := VR1.at_ HA.out hkl
      have HWD := refWord_any (l.getD k noW) w (HL.out.at_ k)
      obtain ⟨x, hx⟩ : ∃ x, l.getD k noW = x := ⟨_, rfl⟩
      rw [hx] at hc HWD
      rcases hwx : wordB x with _ | _
      · rw [hwx] at HWD
        have HT : Hid (textB l = false) := hide (by
          unfold textB
          rw [all_take_no wordB l hkl noW (by rw [hx]; exact hwx), Bool.and_false])
        have HWD := hide HWD
        clear hwx hx
        go_wp2_with fail
        refine HWD.out.mono ?_
        rintro e _ ⟨rfl, rfl⟩
        go_wp2_with fail
        go_ret
        exact ⟨ret_bool HT.out.symm, rfl⟩
      · rw [hwx] at HWD
        have HX2 : Hid (∀ j, j < k + 1 → wordB (l.getD j noW) = true) := hide (fun j hj => by
          rcases (by omega : j < k ∨ j = k) with h | rfl
          · exact HX.out j h
          · rw [hx]; exact hwx)
        have HWD := hide HWD
        clear hwx hx
        go_wp2_with fail
        refine HWD.out.mono ?_
        rintro e _ ⟨rfl, rfl⟩
        go_wp2_with fail
        go_roundw
        case rel => exact ⟨k + 1, by omega, by go_num, HX2, by first | trivial | exact hide rfl⟩
        case measure => simp [intOf]; omega
    · obtain rfl : k = n := by omega
      have hnl : ¬ (k : Int) < (k : Int) := by omega
      have ht : textB l = decide ((k : Int) ≤ 20) := by
        unfold textB
        have h2 : l.all wordB = true := by
          rw [List.all_eq_true]
          intro x hx
          obtain ⟨j, hj, rfl⟩ := List.getElem_of_mem hx
          have := HX.out j (by rw [← HN.out]; exact hj)
          rwa [List.getD_eq_getElem?_getD, List.getElem?_eq_getElem hj] at this
        rw [h2, Bool.and_true, HN.out]
        rw [Bool.eq_iff_iff]; simp; omega
      have HT := hide ht
      clear ht
      go_wp2_with fail
      go_ret
      exact ⟨ret_bool (by rw [HT.out]), rfl⟩
end Go.Proofs.YtmpegkojencbjaaDoor
/- School: the reference's Fewest, walked. -/
namespace Go.Proofs.YtmpegkojencbjaaDoor
open List renaming getElem_toArray → glA, getElem_cons_zero → glB, getElem_cons_succ → glC, setIfInBounds_toArray → glD, set_cons_zero → glE, set_cons_succ → glF
open Go Go.RowKit Go.Shelf
set_option maxHeartbeats 8000000
set_option maxRecDepth 100000
theorem dsT_min {a b : List Wd} {k j : Nat} (hk : k < a.length) (hj : j < b.length) : dsT a b k j = min (min ((if a.getD k noW = b.getD j noW then 0 else 1) + dsT a b (k + 1) (j + 1)) (1 + dsT a b (k + 1) j)) (1 + dsT a b k (j + 1)) := by
  unfold dsT; rw [drop_cons hk, drop_cons hj, dsL_min]
theorem fewest_any (A B : Option Addr) (c d : Nat) (a b : List Wd) (w : World) (ha : a.length ≤ 20) (hb : b.length ≤ 20) (hA : SR w w.heap.size A a) (hB : SR w w.heap.size B b) :
    Calls Tryd.prog 52 #[.slice A a.length c, .slice B b.length d] w (DistPost w a b) := by
  obtain ⟨n, hn⟩ : ∃ n, a.length = n := ⟨_, rfl⟩
  obtain ⟨m, hm⟩ : ∃ m, b.length = m := ⟨_, rfl⟩
  obtain ⟨N, hN⟩ : ∃ N, n + 1 = N := ⟨_, rfl⟩
  obtain ⟨M, hM⟩ : ∃ M, m + 1 = M := ⟨_, rfl⟩
  have HA := hide hA
  have HB := hide hB
  unfold DistPost
  unfold SR at HA HB
  rw [hn] at ha HA ⊢
  rw [hm] at hb HB ⊢
  obtain ⟨i0, hi, hz0, hz1, hz2⟩ := info_parts info_row
  obtain ⟨j0, hj, hy0, hy1, hy2⟩ := info_parts info_int
  have gl := run_make_rowN (P := Tryd.prog) 54 36 i0 _ Tryd.underlying54 hi hz0 .i64 .i64 N N (Nat.le_refl _) (by rw [hz2]; omega) (by omega) w
  rw [hz1, rowV_made] at gl
  have gr := fun W => run_make_rowN (P := Tryd.prog) 36 3 j0 _ Tryd.underlying36 hj hy0 .i64 .i64 M M (Nat.le_refl _) (by rw [hy2]; omega) (by omega) W
  simp only [hy1, rowV_ints] at gr
  have GR := hide gr
  have wN : IntKind.i64.wrap ((n : Int) + 1) = (N : Int) := by rw [IntWalk.i64_in _ (by omega)]; omega
  have wM : IntKind.i64.wrap ((m : Int) + 1) = (M : Int) := by rw [IntWalk.i64_in _ (by omega)]; omega
  have hNM := hide (And.intro (And.intro hn hm) (And.intro hN hM))
  have WM := hide wM
  clear hA hB hn hm hN hM hi hz0 hz1 hz2 hj hy0 hy1 hy2 gr wM
  go_enter Tryd.func52, Tryd.ntmps52
  go_wp2_with fail
  have D0 : Hid (DT w n m (n + 1) w.heap.size (fun _ => 0) (dsT a b) (w.alloc (.cells (rowV N fun _ => .slice none 0 0) 36))) := hide ⟨(Below.refl _ _).alloc (Nat.le_refl _) _, Blk.row (by have h := Blk.new w 36 (rowV N fun _ => .slice none 0 0); rw [← hNM.out.2.1] at h ⊢; exact h) (fun k hk => by rw [if_neg (by omega)]), fun k h1 h2 => by omega, Nat.le_refl _, fun k h1 h2 => by omega⟩
  generalize (w.alloc (.cells (rowV N fun _ => .slice none 0 0) 36)) = W0 at D0 ⊢
  clear gl wN
  go_loopw [6] (fun x wr => ∃ (r : Nat) (iv : Int) (g : Nat → Nat), x = .int .i64 iv ∧ iv = (r : Int) - 1 ∧ r ≤ n + 1 ∧ Hid (DT w n m r w.heap.size g (dsT a b) wr)) (fun x _ => (intOf x + 1).toNat)
  case atStart => exact ⟨n + 1, _, _, rfl, by omega, by omega, D0⟩
  case round =>
    obtain ⟨r, iv, g, rfl, hiv, hr, HD⟩ := hrel
    obtain ⟨D, hDe⟩ : ∃ D, w.heap.size = D := ⟨_, rfl⟩
    rw [hDe] at HD ⊢
    have HDE := hide hDe
    clear hDe D0
    rcases r with _ | i
    · have hv0 : iv = -1 := by omega
      subst hv0
      clear hiv
      go_wp2_with fail
      go_ret
      exact ⟨D, g, by rw [← hNM.out.2.1]; rfl, HD.out⟩
    · have hv0 : iv = (i : Int) := by omega
      subst hv0
      clear hiv
      have hin : i ≤ n := by omega
      have q1 : (0 : Int) ≤ (i : Int) := by omega
      have q2 : (i : Int) < (N : Int) := by have := hNM.out.2.1; omega
      have cD := HD.out.blk.cell i
      rw [rowV_get _ _ (by omega), if_neg (by omega)] at cD
      have fD := HD.out.blk.frozen i
      have lD := HD.out.blk.lt
      have gl := GR.out wr
      have wM := WM.out
      go_wp2_with fail
      have HC := hide (HD.out.row hin _ rfl)
      rw [hNM.out.2.2] at HC
      clear gl wM cD fD lD
      obtain ⟨gi, hgi⟩ : ∃ gi, wr.heap.size = gi := ⟨_, rfl⟩
      rw [hgi] at HC ⊢
      generalize ((wr.setCell ⟨D, i, none⟩ (.slice (some ⟨gi, 0, none⟩) M M)).alloc (.cells (rowV M fun _ => .int .i64 0) 3)) = W1 at HC ⊢
      clear hgi HD
      go_loopw [7] (fun x wq => ∃ (q : Nat) (jv : Int), x = .int .i64 jv ∧ jv = (q : Int) - 1 ∧ q ≤ m + 1 ∧ Hid (DC w n m i q D gi g (dsT a b) wq)) (fun x _ => (intOf x + 1).toNat)
      case atStart => exact ⟨m + 1, _, rfl, by omega, by omega, by rw [hNM.out.2.2]; exact HC⟩
      case round =>
        obtain ⟨q, jv, rfl, hjv, hq, HQ⟩ := hrel
        clear HC
        rcases q with _ | j
        · have hv0 : jv = -1 := by omega
          subst hv0
          clear hjv
          have w2 : IntKind.i64.wrap ((i : Int) - 1) = (i : Int) - 1 := IntWalk.i64_in _ (by omega)
          go_wp2_with fail
          go_roundw
          case rel => exact ⟨i, (i : Int) - 1, _, rfl, rfl, by omega, hide (HQ.out.full hin)⟩
          case measure => first | (simp [intOf]; omega) | simp [intOf]
        · have hv0 : jv = (j : Int) := by omega
          subst hv0
          clear hjv
          have hjm : j ≤ m := by omega
          have p1 : (0 : Int) ≤ (j : Int) := by omega
          have p2 : (j : Int) < (M : Int) := by have := hNM.out.2.2; omega
          have hMM := hNM.out.2.2
          have w4 : IntKind.i64.wrap ((j : Int) - 1) = (j : Int) - 1 := IntWalk.i64_in _ (by omega)
          have cD := HQ.out.blk.cell i
          rw [rowV_get _ _ (by omega), if_pos (Nat.le_refl _), upd_same, hMM] at cD
          have lD := HQ.out.blk.lt
          have cg := HQ.out.cur.cell j
          rw [rowV_get _ _ (by omega), if_neg (by omega)] at cg
          have fg := HQ.out.cur.frozen j
          have lg := HQ.out.cur.lt
          clear hMM
          by_cases hin2 : i = n
          · have e1 : ((i : Int) == (n : Int)) = true := by simp; omega
            have l1 : ¬ (i : Int) < (n : Int) := by omega
            by_cases hjm2 : j = m
            · -- BEGIN1
              have e2 : ((j : Int) == (m : Int)) = true := by simp; omega
              have l2 : ¬ (j : Int) < (m : Int) := by omega
              have HN := hide (HQ.out.put (Below.refl _ _) hjm 0 (by
                have h1 := dsT_end a b j
                have h2 := hNM.out.1
                rw [hin2, ← h2.1, h1, h2.2]; omega))
              clear hin2 hjm2
              go_wp2_with fail
              go_roundw
              case rel => exact ⟨j, (j : Int) - 1, by first | rfl | rw [w4], rfl, by omega, HN⟩
              case measure => first | (simp [intOf]; omega) | simp [intOf]
              -- END1
            · -- BEGIN2
              have e2 : ((j : Int) == (m : Int)) = false := by simp; omega
              have l2 : (j : Int) < (m : Int) := by omega
              have cg2 := HQ.out.cur.cell (j + 1)
              rw [rowV_get _ _ (by omega), if_pos (by omega)] at cg2
              obtain ⟨t3, ht3⟩ : ∃ t, dsT a b i (j + 1) = t := ⟨_, rfl⟩
              rw [ht3] at cg2
              have hv3 : t3 = m - (j + 1) := by
                have h1 := dsT_end a b (j + 1)
                have h2 := hNM.out.1
                rw [← ht3, hin2, ← h2.1, h1, h2.2]
              have HN := hide (HQ.out.put (Below.refl _ _) hjm (1 + (t3 : Int)) (by
                have h1 := dsT_end a b j
                have h2 := hNM.out.1
                rw [hin2, ← h2.1, h1, h2.2]; omega))
              have wj1 : IntKind.i64.wrap ((j : Int) + 1) = (j : Int) + 1 := IntWalk.i64_in _ (by omega)
              have jj1 : (0 : Int) ≤ (j : Int) + 1 := by omega
              have jj2 : (j : Int) + 1 < (M : Int) := by have := hNM.out.2.2; omega
              have jj3 : ((j : Int) + 1).toNat = j + 1 := by omega
              have w5 : IntKind.i64.wrap (1 + (t3 : Int)) = 1 + (t3 : Int) := IntWalk.i64_in _ (by omega)
              have m5 : min (99 : Int) (1 + (t3 : Int)) = 1 + (t3 : Int) := by omega
              clear hin2 hjm2 ht3 hv3
              go_wp2_with fail
              go_roundw
              case rel => exact ⟨j, (j : Int) - 1, by first | rfl | rw [w4], rfl, by omega, HN⟩
              case measure => first | (simp [intOf]; omega) | simp [intOf]
              -- END2
          · have e1 : ((i : Int) == (n : Int)) = false := by simp; omega
            have l1 : (i : Int) < (n : Int) := by omega
            have cD2 := HQ.out.blk.cell (i + 1)
            rw [rowV_get _ _ (by omega), if_pos (by omega), upd_ne _ _ (by omega), hNM.out.2.2] at cD2
            obtain ⟨gn, hgn⟩ : ∃ gn, g (i + 1) = gn := ⟨_, rfl⟩
            have hrow := HQ.out.rows (i + 1) (by omega) (by omega)
            rw [hgn] at hrow cD2
            have cn2 := hrow.cell j
            rw [rowV_get _ _ (by omega)] at cn2
            obtain ⟨t2, ht2⟩ : ∃ t, dsT a b (i + 1) j = t := ⟨_, rfl⟩
            rw [ht2] at cn2
            have b2 := dsT_le a b (i + 1) j
            rw [ht2, hNM.out.1.1, hNM.out.1.2] at b2
            have wi1 : IntKind.i64.wrap ((i : Int) + 1) = (i : Int) + 1 := IntWalk.i64_in _ (by omega)
            have ii1 : (0 : Int) ≤ (i : Int) + 1 := by omega
            have ii2 : (i : Int) + 1 < (N : Int) := by have := hNM.out.2.1; omega
            have ii3 : ((i : Int) + 1).toNat = i + 1 := by omega
            have w6 : IntKind.i64.wrap (1 + (t2 : Int)) = 1 + (t2 : Int) := IntWalk.i64_in _ (by omega)
            by_cases hjm2 : j = m
            · -- BEGIN3
              have e2 : ((j : Int) == (m : Int)) = true := by simp; omega
              have l2 : ¬ (j : Int) < (m : Int) := by omega
              have hv2 : t2 = n - (i + 1) := by
                have h1 := dsT_end2 a b (i + 1)
                have h2 := hNM.out.1
                rw [← ht2, hjm2, ← h2.2, h1, h2.1]
              have HN := hide (HQ.out.put (Below.refl _ _) hjm (1 + (t2 : Int)) (by
                have h1 := dsT_end2 a b i
                have h2 := hNM.out.1
                rw [hjm2, ← h2.2, h1, h2.1]; omega))
              have m5 : min (99 : Int) (1 + (t2 : Int)) = 1 + (t2 : Int) := by omega
              clear hin2 hjm2 ht2 hv2 hrow hgn
              go_wp2_with fail
              go_roundw
              case rel => exact ⟨j, (j : Int) - 1, by first | rfl | rw [w4], rfl, by omega, HN⟩
              case measure => first | (simp [intOf]; omega) | simp [intOf]
              -- END3
            · have e2 : ((j : Int) == (m : Int)) = false := by simp; omega
              have l2 : (j : Int) < (m : Int) := by omega
              have hi3 : i < n := by omega
              have hj3 : j < m := by omega
              have cg2 := HQ.out.cur.cell (j + 1)
              rw [rowV_get _ _ (by omega), if_pos (by omega)] at cg2
              have cn1 := hrow.cell (j + 1)
              rw [rowV_get _ _ (by omega)] at cn1
              obtain ⟨t1, ht1⟩ : ∃ t, dsT a b (i + 1) (j + 1) = t := ⟨_, rfl⟩
              obtain ⟨t3, ht3⟩ : ∃ t, dsT a b i (j + 1) = t := ⟨_, rfl⟩
              rw [ht1] at cn1
              rw [ht3] at cg2
              have b1 := dsT_le a b (i + 1) (j + 1)
              have b3 := dsT_le a b i (j + 1)
              rw [ht1, hNM.out.1.1, hNM.out.1.2] at b1
              rw [ht3, hNM.out.1.1, hNM.out.1.2] at b3
              have hmn := dsT_min (a := a) (b := b) (k := i) (j := j) (by rw [hNM.out.1.1]; exact hi3) (by rw [hNM.out.1.2]; exact hj3)
              rw [ht1, ht2, ht3] at hmn
              obtain ⟨xb, xo, hXA, hxb, hxc⟩ := VR1.at_ (HA.out.below HQ.out.below (Nat.le_refl _)) hi3
              obtain ⟨yb, yo, hYB, hyb, hyc⟩ := VR1.at_ (HB.out.below HQ.out.below (Nat.le_refl _)) hj3
              subst hXA hYB
              obtain ⟨x, hx⟩ : ∃ x, a.getD i noW = x := ⟨_, rfl⟩
              obtain ⟨y, hy⟩ : ∃ y, b.getD j noW = y := ⟨_, rfl⟩
              rw [hx] at hxc
              rw [hy] at hyc
              rw [hx, hy] at hmn
              have hxb2 : xb < wr.heap.size := by have := HQ.out.below.size; omega
              have hyb2 : yb < wr.heap.size := by have := HQ.out.below.size; omega
              have hs14 : Hid (∀ W, Below wr.heap.size wr W → W.cell? ⟨xb, xo + i, none⟩ = some (.string x) ∧ W.cell? ⟨yb, yo + j, none⟩ = some (.string y)) := hide (fun W h => ⟨(h.cell (p := ⟨xb, xo + i, none⟩) hxb2).trans hxc, (h.cell (p := ⟨yb, yo + j, none⟩) hyb2).trans hyc⟩)
              have lgn := hrow.lt
              have HC := hide (And.intro cD (And.intro cD2 (And.intro cn1 (And.intro cn2 (And.intro cg2 (And.intro cg fg))))))
              have wj1 : IntKind.i64.wrap ((j : Int) + 1) = (j : Int) + 1 := IntWalk.i64_in _ (by omega)
              have jj1 : (0 : Int) ≤ (j : Int) + 1 := by omega
              have jj2 : (j : Int) + 1 < (M : Int) := by have := hNM.out.2.2; omega
              have jj3 : ((j : Int) + 1).toNat = j + 1 := by omega
              have w5 : IntKind.i64.wrap (1 + (t3 : Int)) = 1 + (t3 : Int) := IntWalk.i64_in _ (by omega)
              have HMN := hide hmn
              have HI := hide (And.intro hi3 hj3)
              clear hin2 hjm2 ht1 ht2 ht3 hrow hgn hx hy hxc hyc cD cD2 cn1 cn2 cg2 cg fg hmn hxb hyb hi3 hj3
              obtain ⟨T, hT⟩ : ∃ T, dsT a b i j = T := ⟨_, rfl⟩
              rw [hT] at HMN
              have Bd := hide (Below.refl wr.heap.size wr).drew
              go_upto_region 14 with fail
              refine wp_region_J (fun W : World => W.cell? ⟨xb, xo + i, none⟩ = some (.string x) ∧ W.cell? ⟨yb, yo + j, none⟩ = some (.string y)) (by kernel_rfl) ?_
              generalize wr.drew = wd at Bd ⊢
              refine wpAnyJ_take 0 (v := ?_) (by first | exact hF | exact wideFn) (hs14.out _ Bd.out) rfl (by kernel_rfl) (by kernel_rfl) (by kernel_rfl) (by kernel_rfl) rfl ?_ (by first | exact fun _ _ _ h => h | exact fun _ _ _ h => hQ2 _ _ _ _ _ h) ?_
              rotate_left
              · intro W hSW
                simp only [glA, glB, glC]
                (try dsimp only at hSW)
                go_simp
                with_reducible rfl
              (try simp only [glA, glB, glC, Act.put, glD, glE, glF])
              refine wpAnyJ_take 1 (v := ?_) (by first | exact hF | exact wideFn) (hs14.out _ Bd.out) rfl (by kernel_rfl) (by kernel_rfl) (by kernel_rfl) (by kernel_rfl) rfl ?_ (by first | exact fun _ _ _ h => h | exact fun _ _ _ h => hQ2 _ _ _ _ _ h) ?_
              rotate_left
              · intro W hSW
                simp only [glA, glB, glC]
                (try dsimp only at hSW)
                go_simp
                with_reducible rfl
              (try simp only [glA, glB, glC, Act.put, glD, glE, glF])
              refine wpAnyJ_take 2 (v := ?_) (by first | exact hF | exact wideFn) (hs14.out _ Bd.out) rfl (by kernel_rfl) (by kernel_rfl) (by kernel_rfl) (by kernel_rfl) rfl ?_ (by first | exact fun _ _ _ h => h | exact fun _ _ _ h => hQ2 _ _ _ _ _ h) ?_
              rotate_left
              · intro W hSW
                simp only [glA, glB, glC]
                (try dsimp only at hSW)
                go_simp
                with_reducible rfl
              (try simp only [glA, glB, glC, Act.put, glD, glE, glF])
              refine wpAnyJ_take 3 (v := ?_) (by first | exact hF | exact wideFn) (hs14.out _ Bd.out) rfl (by kernel_rfl) (by kernel_rfl) (by kernel_rfl) (by kernel_rfl) rfl ?_ (by first | exact fun _ _ _ h => h | exact fun _ _ _ h => hQ2 _ _ _ _ _ h) ?_
              rotate_left
              · intro W hSW
                simp only [glA, glB, glC]
                (try dsimp only at hSW)
                go_simp
                with_reducible rfl
              (try simp only [glA, glB, glC, Act.put, glD, glE, glF])
              refine wpAnyJ_take 4 (v := ?_) (by first | exact hF | exact wideFn) (hs14.out _ Bd.out) rfl (by kernel_rfl) (by kernel_rfl) (by kernel_rfl) (by kernel_rfl) rfl ?_ (by first | exact fun _ _ _ h => h | exact fun _ _ _ h => hQ2 _ _ _ _ _ h) ?_
              rotate_left
              · intro W hSW
                simp only [glA, glB, glC]
                (try dsimp only at hSW)
                go_simp
                with_reducible rfl
              (try simp only [glA, glB, glC, Act.put, glD, glE, glF])
              refine wpAnyJ_take 5 (v := ?_) (by first | exact hF | exact wideFn) (hs14.out _ Bd.out) rfl (by kernel_rfl) (by kernel_rfl) (by kernel_rfl) (by kernel_rfl) rfl ?_ (by first | exact fun _ _ _ h => h | exact fun _ _ _ h => hQ2 _ _ _ _ _ h) ?_
              rotate_left
              · intro W hSW
                simp only [glA, glB, glC]
                (try dsimp only at hSW)
                go_simp
                with_reducible rfl
              (try simp only [glA, glB, glC, Act.put, glD, glE, glF])
              refine wpAnyJ_take 6 (v := ?_) (by first | exact hF | exact wideFn) (hs14.out _ Bd.out) rfl (by kernel_rfl) (by kernel_rfl) (by kernel_rfl) (by kernel_rfl) rfl ?_ (by first | exact fun _ _ _ h => h | exact fun _ _ _ h => hQ2 _ _ _ _ _ h) ?_
              rotate_left
              · intro W hSW
                simp only [glA, glB, glC]
                (try dsimp only at hSW)
                go_simp
                with_reducible rfl
              (try simp only [glA, glB, glC, Act.put, glD, glE, glF])
              refine wpAnyJ_take 7 (v := ?_) (by first | exact hF | exact wideFn) (hs14.out _ Bd.out) rfl (by kernel_rfl) (by kernel_rfl) (by kernel_rfl) (by kernel_rfl) rfl ?_ (by first | exact fun _ _ _ h => h | exact fun _ _ _ h => hQ2 _ _ _ _ _ h) ?_
              rotate_left
              · intro W hSW
                simp only [glA, glB, glC]
                (try dsimp only at hSW)
                go_simp
                with_reducible rfl
              (try simp only [glA, glB, glC, Act.put, glD, glE, glF])
              have cD := (Bd.out.cell (p := ⟨D, i, none⟩) lD).trans HC.out.1
              have cD2 := (Bd.out.cell (p := ⟨D, i + 1, none⟩) lD).trans HC.out.2.1
              have cn1 := (Bd.out.cell (p := ⟨gn, j + 1, none⟩) lgn).trans HC.out.2.2.1
              have cn2 := (Bd.out.cell (p := ⟨gn, j, none⟩) lgn).trans HC.out.2.2.2.1
              have cg2 := (Bd.out.cell (p := ⟨gi, j + 1, none⟩) lg).trans HC.out.2.2.2.2.1
              have cg := (Bd.out.cell (p := ⟨gi, j, none⟩) lg).trans HC.out.2.2.2.2.2.1
              have fg := (Bd.out.frozen (p := ⟨gi, j, none⟩) lg).trans HC.out.2.2.2.2.2.2
              have HTT := hide hT
              have lgd : gi < wd.heap.size := by have := Bd.out.size; omega
              by_cases hxy : x = y
              · rw [if_pos hxy] at HMN
                subst hxy
                refine wpAnyJ_take 8 (v := ?_) (by first | exact hF | exact wideFn) (hs14.out _ Bd.out) rfl (by kernel_rfl) (by kernel_rfl) (by kernel_rfl) (by kernel_rfl) rfl ?_ (by first | exact fun _ _ _ h => h | exact fun _ _ _ h => hQ2 _ _ _ _ _ h) ?_
                rotate_left
                · intro W hSW
                  simp only [glA, glB, glC]
                  (try dsimp only at hSW)
                  go_simp
                  with_reducible rfl
                (try simp only [glA, glB, glC, Act.put, glD, glE, glF])
                refine wpAnyJ_done (by kernel_rfl) ?_
                obtain ⟨p, hp⟩ : ∃ p, min (0 + t1) (1 + t2) = p := ⟨_, rfl⟩
                have hmn := HMN.out
                rw [hp] at hmn
                have w7 : IntKind.i64.wrap (0 + (t1 : Int)) = (t1 : Int) := by rw [Int.zero_add]; exact IntWalk.i64_in _ (by omega)
                have w8 : IntKind.i64.wrap (t1 : Int) = (t1 : Int) := IntWalk.i64_in _ (by omega)
                have m1 : min (99 : Int) (t1 : Int) = (t1 : Int) := by omega
                have m2 : min (t1 : Int) (1 + (t2 : Int)) = (p : Int) := by omega
                have m3 : min (p : Int) (1 + (t3 : Int)) = (T : Int) := by omega
                have HN := hide (HQ.out.put Bd.out hjm (T : Int) (by rw [HTT.out]))
                clear hT hp hmn
                go_wp2_with fail
                go_roundw
                case rel => exact ⟨j, (j : Int) - 1, by first | rfl | rw [w4], rfl, by omega, HN⟩
                case measure => first | (simp [intOf]; omega) | simp [intOf]
              · have e3 := str_ne hxy
                rw [if_neg hxy] at HMN
                clear hxy
                refine wpAnyJ_take 8 (v := ?_) (by first | exact hF | exact wideFn) (hs14.out _ Bd.out) rfl (by kernel_rfl) (by kernel_rfl) (by kernel_rfl) (by kernel_rfl) rfl ?_ (by first | exact fun _ _ _ h => h | exact fun _ _ _ h => hQ2 _ _ _ _ _ h) ?_
                rotate_left
                · intro W hSW
                  simp only [glA, glB, glC]
                  (try dsimp only at hSW)
                  go_simp
                  with_reducible rfl
                (try simp only [glA, glB, glC, Act.put, glD, glE, glF])
                refine wpAnyJ_done (by kernel_rfl) ?_
                clear e3
                obtain ⟨p, hp⟩ : ∃ p, min (1 + t1) (1 + t2) = p := ⟨_, rfl⟩
                have hmn := HMN.out
                rw [hp] at hmn
                have w7 : IntKind.i64.wrap (1 + (t1 : Int)) = 1 + (t1 : Int) := IntWalk.i64_in _ (by omega)
                have m1 : min (99 : Int) (1 + (t1 : Int)) = 1 + (t1 : Int) := by omega
                have m2 : min (1 + (t1 : Int)) (1 + (t2 : Int)) = (p : Int) := by omega
                have m3 : min (p : Int) (1 + (t3 : Int)) = (T : Int) := by omega
                have HN := hide (HQ.out.put Bd.out hjm (T : Int) (by rw [HTT.out]))
                clear hT hp hmn
                go_wp2_with fail
                go_roundw
                case rel => exact ⟨j, (j : Int) - 1, by first | rfl | rw [w4], rfl, by omega, HN⟩
                case measure => first | (simp [intOf]; omega) | simp [intOf]
end Go.Proofs.YtmpegkojencbjaaDoor
