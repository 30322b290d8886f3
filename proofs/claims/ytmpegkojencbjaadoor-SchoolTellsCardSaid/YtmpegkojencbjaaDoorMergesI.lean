/- School: the laws' helpers on words, the reference's Word, Text, Same. -/
import Derived.Test.YtmpegkojencbjaaDoorMergesH
set_option linter.unusedSimpArgs false
set_option linter.unusedVariables false
set_option linter.unnecessarySimpa false
namespace Go.Proofs.YtmpegkojencbjaaDoor
open List renaming getElem_toArray → glA, getElem_cons_zero → glB, getElem_cons_succ → glC, setIfInBounds_toArray → glD, set_cons_zero → glE, set_cons_succ → glF
open Go Go.RowKit Go.Shelf
set_option maxHeartbeats 2000000
set_option maxRecDepth 100000
theorem refSame_any (A B : Option Addr) (c d : Nat) (l m : List Ed) (w : World) (hl : l.length ≤ maxLen) (hA : EdR w w.heap.size A l) (hB : EdR w w.heap.size B m) :
    Calls Tryd.prog 20 #[.slice A l.length c, .slice B m.length d] w fun e w' => e = .returned (.bool (decide (l = m))) ∧ Below w.heap.size w w' := by
  unfold maxLen at hl
  have HA := hide hA
  have HB := hide hB
  clear hA hB
  by_cases hlm : l.length = m.length
  · obtain ⟨n, hn⟩ : ∃ n, l.length = n := ⟨_, rfl⟩
    have hm : m.length = n := by omega
    have HN := hide (And.intro hn hm)
    rw [hn] at hl
    rw [hn, hm]
    clear hlm hn hm
    go_enter Tryd.func20, Tryd.ntmps20
    go_wp2_with fail
    go_loopw [5] (fun i wr => ∃ k : Nat, k ≤ n ∧ i = .int .i64 k ∧ (∀ j, j < k → l.getD j e0 = m.getD j e0) ∧ Below w.heap.size w wr) (fun i _ => n - (intOf i).toNat)
    case atStart => exact ⟨0, Nat.zero_le _, rfl, fun j hj => absurd hj (by omega), Below.refl _ _⟩
    case round =>
      obtain ⟨k, hk, rfl, hx, hbw⟩ := hrel
      have HX := hide hx
      have HBW := hide hbw
      clear hx
      by_cases hlt : k < n
      · have hlt' : (k : Int) < (n : Int) := by omega
        have i0 : (0 : Int) ≤ (k : Int) := by omega
        obtain ⟨e, he⟩ : ∃ e, l.getD k e0 = e := ⟨_, rfl⟩
        obtain ⟨f, hf⟩ : ∃ f, m.getD k e0 = f := ⟨_, rfl⟩
        obtain ⟨xb, xo, rfl, hxb, a0, a1, a2, a3⟩ := HA.out.at_ (by rw [HN.out.1]; exact hlt) he
        obtain ⟨yb, yo, rfl, hyb, b0, b1, b2, b3⟩ := HB.out.at_ (by rw [HN.out.2]; exact hlt) hf
        have HE := hide (And.intro he hf)
        clear he hf
        obtain ⟨x0, x1, x2, x3⟩ := e
        obtain ⟨y0, y1, y2, y3⟩ := f
        dsimp only at a0 a1 a2 a3 b0 b1 b2 b3
        have HS : Hid (∀ W, Below w.heap.size w W → (W.cell? ⟨xb, xo + k * 4, none⟩ = some (.int .i64 x0) ∧ W.cell? ⟨xb, xo + k * 4 + 1, none⟩ = some (.int .i64 x1) ∧ W.cell? ⟨xb, xo + k * 4 + 2, none⟩ = some (.string x2) ∧ W.cell? ⟨xb, xo + k * 4 + 3, none⟩ = some (.string x3)) ∧ (W.cell? ⟨yb, yo + k * 4, none⟩ = some (.int .i64 y0) ∧ W.cell? ⟨yb, yo + k * 4 + 1, none⟩ = some (.int .i64 y1) ∧ W.cell? ⟨yb, yo + k * 4 + 2, none⟩ = some (.string y2) ∧ W.cell? ⟨yb, yo + k * 4 + 3, none⟩ = some (.string y3))) := hide fun W h =>
          ⟨⟨(h.cell (p := ⟨xb, xo + k * 4, none⟩) hxb).trans a0, (h.cell (p := ⟨xb, xo + k * 4 + 1, none⟩) hxb).trans a1, (h.cell (p := ⟨xb, xo + k * 4 + 2, none⟩) hxb).trans a2, (h.cell (p := ⟨xb, xo + k * 4 + 3, none⟩) hxb).trans a3⟩,
           (h.cell (p := ⟨yb, yo + k * 4, none⟩) hyb).trans b0, (h.cell (p := ⟨yb, yo + k * 4 + 1, none⟩) hyb).trans b1, (h.cell (p := ⟨yb, yo + k * 4 + 2, none⟩) hyb).trans b2, (h.cell (p := ⟨yb, yo + k * 4 + 3, none⟩) hyb).trans b3⟩
        clear a0 a1 a2 a3 b0 b1 b2 b3 hbw
        go_upto_region 6 with fail
        have Bd := hide (HBW.out.trans ((Below.refl wr.heap.size wr).drew.mono HBW.out.size))
        refine wp_region_J (fun W : World => (W.cell? ⟨xb, xo + k * 4, none⟩ = some (.int .i64 x0) ∧ W.cell? ⟨xb, xo + k * 4 + 1, none⟩ = some (.int .i64 x1) ∧ W.cell? ⟨xb, xo + k * 4 + 2, none⟩ = some (.string x2) ∧ W.cell? ⟨xb, xo + k * 4 + 3, none⟩ = some (.string x3)) ∧ (W.cell? ⟨yb, yo + k * 4, none⟩ = some (.int .i64 y0) ∧ W.cell? ⟨yb, yo + k * 4 + 1, none⟩ = some (.int .i64 y1) ∧ W.cell? ⟨yb, yo + k * 4 + 2, none⟩ = some (.string y2) ∧ W.cell? ⟨yb, yo + k * 4 + 3, none⟩ = some (.string y3))) (by kernel_rfl) ?_
        generalize wr.drew = wd at Bd ⊢
        refine wpAnyJ_take 0 (v := ?_) (by first | exact hF | exact wideFn) (HS.out _ Bd.out) rfl (by kernel_rfl) (by kernel_rfl) (by kernel_rfl) (by kernel_rfl) rfl ?_ (by first | exact fun _ _ _ h => h | exact fun _ _ _ h => hQ2 _ _ _ _ _ h) ?_
        rotate_left
        · intro W hSW
          simp only [glA, glB, glC]
          (try dsimp only at hSW)
          go_simp
          with_reducible rfl
        (try simp only [glA, glB, glC, Act.put, glD, glE, glF])
        refine wpAnyJ_take 1 (v := ?_) (by first | exact hF | exact wideFn) (HS.out _ Bd.out) rfl (by kernel_rfl) (by kernel_rfl) (by kernel_rfl) (by kernel_rfl) rfl ?_ (by first | exact fun _ _ _ h => h | exact fun _ _ _ h => hQ2 _ _ _ _ _ h) ?_
        rotate_left
        · intro W hSW
          simp only [glA, glB, glC]
          (try dsimp only at hSW)
          go_simp
          with_reducible rfl
        (try simp only [glA, glB, glC, Act.put, glD, glE, glF])
        refine wpAnyJ_take 2 (v := ?_) (by first | exact hF | exact wideFn) (HS.out _ Bd.out) rfl (by kernel_rfl) (by kernel_rfl) (by kernel_rfl) (by kernel_rfl) rfl ?_ (by first | exact fun _ _ _ h => h | exact fun _ _ _ h => hQ2 _ _ _ _ _ h) ?_
        rotate_left
        · intro W hSW
          simp only [glA, glB, glC]
          (try dsimp only at hSW)
          go_simp
          with_reducible rfl
        (try simp only [glA, glB, glC, Act.put, glD, glE, glF])
        refine wpAnyJ_take 3 (v := ?_) (by first | exact hF | exact wideFn) (HS.out _ Bd.out) rfl (by kernel_rfl) (by kernel_rfl) (by kernel_rfl) (by kernel_rfl) rfl ?_ (by first | exact fun _ _ _ h => h | exact fun _ _ _ h => hQ2 _ _ _ _ _ h) ?_
        rotate_left
        · intro W hSW
          simp only [glA, glB, glC]
          (try dsimp only at hSW)
          go_simp
          with_reducible rfl
        (try simp only [glA, glB, glC, Act.put, glD, glE, glF])
        refine wpAnyJ_take 4 (v := ?_) (by first | exact hF | exact wideFn) (HS.out _ Bd.out) rfl (by kernel_rfl) (by kernel_rfl) (by kernel_rfl) (by kernel_rfl) rfl ?_ (by first | exact fun _ _ _ h => h | exact fun _ _ _ h => hQ2 _ _ _ _ _ h) ?_
        rotate_left
        · intro W hSW
          simp only [glA, glB, glC]
          (try dsimp only at hSW)
          go_simp
          with_reducible rfl
        (try simp only [glA, glB, glC, Act.put, glD, glE, glF])
        refine wpAnyJ_take 5 (v := ?_) (by first | exact hF | exact wideFn) (HS.out _ Bd.out) rfl (by kernel_rfl) (by kernel_rfl) (by kernel_rfl) (by kernel_rfl) rfl ?_ (by first | exact fun _ _ _ h => h | exact fun _ _ _ h => hQ2 _ _ _ _ _ h) ?_
        rotate_left
        · intro W hSW
          simp only [glA, glB, glC]
          (try dsimp only at hSW)
          go_simp
          with_reducible rfl
        (try simp only [glA, glB, glC, Act.put, glD, glE, glF])
        refine wpAnyJ_take 6 (v := ?_) (by first | exact hF | exact wideFn) (HS.out _ Bd.out) rfl (by kernel_rfl) (by kernel_rfl) (by kernel_rfl) (by kernel_rfl) rfl ?_ (by first | exact fun _ _ _ h => h | exact fun _ _ _ h => hQ2 _ _ _ _ _ h) ?_
        rotate_left
        · intro W hSW
          simp only [glA, glB, glC]
          (try dsimp only at hSW)
          go_simp
          with_reducible rfl
        (try simp only [glA, glB, glC, Act.put, glD, glE, glF])
        refine wpAnyJ_take 7 (v := ?_) (by first | exact hF | exact wideFn) (HS.out _ Bd.out) rfl (by kernel_rfl) (by kernel_rfl) (by kernel_rfl) (by kernel_rfl) rfl ?_ (by first | exact fun _ _ _ h => h | exact fun _ _ _ h => hQ2 _ _ _ _ _ h) ?_
        rotate_left
        · intro W hSW
          simp only [glA, glB, glC]
          (try dsimp only at hSW)
          go_simp
          with_reducible rfl
        (try simp only [glA, glB, glC, Act.put, glD, glE, glF])
        by_cases q0 : x0 = y0
        · by_cases q1 : x1 = y1
          · by_cases q2 : x2 = y2
            · by_cases q3 : x3 = y3
              · subst q0 q1 q2 q3
                refine wpAnyJ_take 8 (v := ?_) (by first | exact hF | exact wideFn) (HS.out _ Bd.out) rfl (by kernel_rfl) (by kernel_rfl) (by kernel_rfl) (by kernel_rfl) rfl ?_ (by first | exact fun _ _ _ h => h | exact fun _ _ _ h => hQ2 _ _ _ _ _ h) ?_
                rotate_left
                · intro W hSW
                  simp only [glA, glB, glC]
                  (try dsimp only at hSW)
                  go_simp
                  with_reducible rfl
                (try simp only [glA, glB, glC, Act.put, glD, glE, glF])
                refine wpAnyJ_done (by kernel_rfl) ?_
                go_wp2_with fail
                go_roundw
                case rel => exact ⟨k + 1, by omega, by go_num, fun j hj => by
                  rcases (by omega : j < k ∨ j = k) with h | h
                  · exact HX.out j h
                  · rw [h, HE.out.1, HE.out.2], Bd.out⟩
                case measure => simp [intOf]; omega
              · have q3' := str_ne q3
                refine wpAnyJ_take 8 (v := ?_) (by first | exact hF | exact wideFn) (HS.out _ Bd.out) rfl (by kernel_rfl) (by kernel_rfl) (by kernel_rfl) (by kernel_rfl) rfl ?_ (by first | exact fun _ _ _ h => h | exact fun _ _ _ h => hQ2 _ _ _ _ _ h) ?_
                rotate_left
                · intro W hSW
                  simp only [glA, glB, glC]
                  (try dsimp only at hSW)
                  go_simp
                  with_reducible rfl
                (try simp only [glA, glB, glC, Act.put, glD, glE, glF])
                refine wpAnyJ_done (by kernel_rfl) ?_
                go_wp2_with fail
                go_ret
                refine ⟨ret_bool ?_, Bd.out⟩
                have hne : ¬ l = m := fun e => by
                  have h1 := HE.out.1
                  rw [e, HE.out.2] at h1
                  injection h1 with h0 h1 h2 h3
                  exact q3 h3.symm
                simp [hne]
            · have q2' := str_ne q2
              refine wpAnyJ_take 8 (v := ?_) (by first | exact hF | exact wideFn) (HS.out _ Bd.out) rfl (by kernel_rfl) (by kernel_rfl) (by kernel_rfl) (by kernel_rfl) rfl ?_ (by first | exact fun _ _ _ h => h | exact fun _ _ _ h => hQ2 _ _ _ _ _ h) ?_
              rotate_left
              · intro W hSW
                simp only [glA, glB, glC]
                (try dsimp only at hSW)
                go_simp
                with_reducible rfl
              (try simp only [glA, glB, glC, Act.put, glD, glE, glF])
              refine wpAnyJ_done (by kernel_rfl) ?_
              go_wp2_with fail
              go_ret
              refine ⟨ret_bool ?_, Bd.out⟩
              have hne : ¬ l = m := fun e => by
                have h1 := HE.out.1
                rw [e, HE.out.2] at h1
                injection h1 with h0 h1 h2 h3
                exact q2 h2.symm
              simp [hne]
          · refine wpAnyJ_take 8 (v := ?_) (by first | exact hF | exact wideFn) (HS.out _ Bd.out) rfl (by kernel_rfl) (by kernel_rfl) (by kernel_rfl) (by kernel_rfl) rfl ?_ (by first | exact fun _ _ _ h => h | exact fun _ _ _ h => hQ2 _ _ _ _ _ h) ?_
            rotate_left
            · intro W hSW
              simp only [glA, glB, glC]
              (try dsimp only at hSW)
              go_simp
              with_reducible rfl
            (try simp only [glA, glB, glC, Act.put, glD, glE, glF])
            refine wpAnyJ_done (by kernel_rfl) ?_
            go_wp2_with fail
            go_ret
            refine ⟨ret_bool ?_, Bd.out⟩
            have hne : ¬ l = m := fun e => by
              have h1 := HE.out.1
              rw [e, HE.out.2] at h1
              injection h1 with h0 h1 h2 h3
              exact q1 h1.symm
            simp [hne]
        · refine wpAnyJ_take 8 (v := ?_) (by first | exact hF | exact wideFn) (HS.out _ Bd.out) rfl (by kernel_rfl) (by kernel_rfl) (by kernel_rfl) (by kernel_rfl) rfl ?_ (by first | exact fun _ _ _ h => h | exact fun _ _ _ h => hQ2 _ _ _ _ _ h) ?_
          rotate_left
          · intro W hSW
            simp only [glA, glB, glC]
            (try dsimp only at hSW)
            go_simp
            with_reducible rfl
          (try simp only [glA, glB, glC, Act.put, glD, glE, glF])
          refine wpAnyJ_done (by kernel_rfl) ?_
          go_wp2_with fail
          go_ret
          refine ⟨ret_bool ?_, Bd.out⟩
          have hne : ¬ l = m := fun e => by
            have h1 := HE.out.1
            rw [e, HE.out.2] at h1
            injection h1 with h0 h1 h2 h3
            exact q0 h0.symm
          simp [hne]
      · obtain rfl : k = n := by omega
        go_wp2_with fail
        go_ret
        refine ⟨ret_bool ?_, HBW.out⟩
        have : l = m := getD_all (by rw [HN.out.1, HN.out.2]) (by rw [HN.out.1]; exact HX.out)
        simp [this]
  · have hne : ¬ ((l.length : Int) = (m.length : Int)) := by omega
    have hd : decide (l = m) = false := by
      rw [decide_eq_false_iff_not]; intro h; exact hlm (by rw [h])
    rw [hd]
    clear hd
    generalize l.length = n1 at *
    generalize m.length = n2 at *
    go_enter Tryd.func20, Tryd.ntmps20
    go_wp2_with fail
    go_ret
    exact ⟨rfl, Below.refl _ _⟩
theorem getD_allW {l m : List Wd} (hl : l.length = m.length) (h : ∀ k, k < l.length → l.getD k noW = m.getD k noW) : l = m := by
  apply List.ext_getElem hl
  intro k h1 h2
  have := h k h1
  rwa [List.getD_eq_getElem?_getD, List.getD_eq_getElem?_getD, List.getElem?_eq_getElem h1, List.getElem?_eq_getElem h2] at this
theorem same_any (A B : Option Addr) (c d : Nat) (l m : List Wd) (w : World) (hl : l.length ≤ maxLen) (hA : SR w w.heap.size A l) (hB : SR w w.heap.size B m) :
    Calls Tryd.prog 18 #[.slice A l.length c, .slice B m.length d] w fun e w' => e = .returned (.bool (decide (l = m))) ∧ Below w.heap.size w w' := by
  unfold maxLen at hl
  have HA := hide hA
  have HB := hide hB
  clear hA hB
  by_cases hlm : l.length = m.length
  · obtain ⟨n, hn⟩ : ∃ n, l.length = n := ⟨_, rfl⟩
    have hm : m.length = n := by omega
    have HN := hide (And.intro hn hm)
    rw [hn] at hl
    rw [hn, hm]
    clear hlm hn hm
    go_enter Tryd.func18, Tryd.ntmps18
    go_wp2_with fail
    go_loopw [5] (fun i wr => ∃ k : Nat, k ≤ n ∧ i = .int .i64 k ∧ (∀ j, j < k → l.getD j noW = m.getD j noW) ∧ Below w.heap.size w wr) (fun i _ => n - (intOf i).toNat)
    case atStart => exact ⟨0, Nat.zero_le _, rfl, fun j hj => absurd hj (by omega), Below.refl _ _⟩
    case round =>
      obtain ⟨k, hk, rfl, hx, hbw⟩ := hrel
      have HX := hide hx
      have HBW := hide hbw
      clear hx
      by_cases hlt : k < n
      · have hlt' : (k : Int) < (n : Int) := by omega
        have i0 : (0 : Int) ≤ (k : Int) := by omega
        obtain ⟨x, he⟩ : ∃ e, l.getD k noW = e := ⟨_, rfl⟩
        obtain ⟨y, hf⟩ : ∃ f, m.getD k noW = f := ⟨_, rfl⟩
        obtain ⟨xb, xo, rfl, hxb, a0⟩ := VR1.at_ HA.out (by rw [HN.out.1]; exact hlt)
        obtain ⟨yb, yo, rfl, hyb, b0⟩ := VR1.at_ HB.out (by rw [HN.out.2]; exact hlt)
        rw [he] at a0
        rw [hf] at b0
        have HE := hide (And.intro he hf)
        clear he hf
        have HS : Hid (∀ W, Below w.heap.size w W → W.cell? ⟨xb, xo + k, none⟩ = some (.string x) ∧ W.cell? ⟨yb, yo + k, none⟩ = some (.string y)) := hide fun W h =>
          ⟨(h.cell (p := ⟨xb, xo + k, none⟩) hxb).trans a0, (h.cell (p := ⟨yb, yo + k, none⟩) hyb).trans b0⟩
        clear a0 b0 hbw
        go_upto_region 6 with fail
        have Bd := hide (HBW.out.trans ((Below.refl wr.heap.size wr).drew.mono HBW.out.size))
        refine wp_region_J (fun W : World => W.cell? ⟨xb, xo + k, none⟩ = some (.string x) ∧ W.cell? ⟨yb, yo + k, none⟩ = some (.string y)) (by kernel_rfl) ?_
        generalize wr.drew = wd at Bd ⊢
        refine wpAnyJ_take 0 (v := ?_) (by first | exact hF | exact wideFn) (HS.out _ Bd.out) rfl (by kernel_rfl) (by kernel_rfl) (by kernel_rfl) (by kernel_rfl) rfl ?_ (by first | exact fun _ _ _ h => h | exact fun _ _ _ h => hQ2 _ _ _ _ _ h) ?_
        rotate_left
        · intro W hSW
          simp only [glA, glB, glC]
          (try dsimp only at hSW)
          go_simp
          with_reducible rfl
        (try simp only [glA, glB, glC, Act.put, glD, glE, glF])
        refine wpAnyJ_take 1 (v := ?_) (by first | exact hF | exact wideFn) (HS.out _ Bd.out) rfl (by kernel_rfl) (by kernel_rfl) (by kernel_rfl) (by kernel_rfl) rfl ?_ (by first | exact fun _ _ _ h => h | exact fun _ _ _ h => hQ2 _ _ _ _ _ h) ?_
        rotate_left
        · intro W hSW
          simp only [glA, glB, glC]
          (try dsimp only at hSW)
          go_simp
          with_reducible rfl
        (try simp only [glA, glB, glC, Act.put, glD, glE, glF])
        refine wpAnyJ_take 2 (v := ?_) (by first | exact hF | exact wideFn) (HS.out _ Bd.out) rfl (by kernel_rfl) (by kernel_rfl) (by kernel_rfl) (by kernel_rfl) rfl ?_ (by first | exact fun _ _ _ h => h | exact fun _ _ _ h => hQ2 _ _ _ _ _ h) ?_
        rotate_left
        · intro W hSW
          simp only [glA, glB, glC]
          (try dsimp only at hSW)
          go_simp
          with_reducible rfl
        (try simp only [glA, glB, glC, Act.put, glD, glE, glF])
        refine wpAnyJ_take 3 (v := ?_) (by first | exact hF | exact wideFn) (HS.out _ Bd.out) rfl (by kernel_rfl) (by kernel_rfl) (by kernel_rfl) (by kernel_rfl) rfl ?_ (by first | exact fun _ _ _ h => h | exact fun _ _ _ h => hQ2 _ _ _ _ _ h) ?_
        rotate_left
        · intro W hSW
          simp only [glA, glB, glC]
          (try dsimp only at hSW)
          go_simp
          with_reducible rfl
        (try simp only [glA, glB, glC, Act.put, glD, glE, glF])
        refine wpAnyJ_take 4 (v := ?_) (by first | exact hF | exact wideFn) (HS.out _ Bd.out) rfl (by kernel_rfl) (by kernel_rfl) (by kernel_rfl) (by kernel_rfl) rfl ?_ (by first | exact fun _ _ _ h => h | exact fun _ _ _ h => hQ2 _ _ _ _ _ h) ?_
        rotate_left
        · intro W hSW
          simp only [glA, glB, glC]
          (try dsimp only at hSW)
          go_simp
          with_reducible rfl
        (try simp only [glA, glB, glC, Act.put, glD, glE, glF])
        refine wpAnyJ_take 5 (v := ?_) (by first | exact hF | exact wideFn) (HS.out _ Bd.out) rfl (by kernel_rfl) (by kernel_rfl) (by kernel_rfl) (by kernel_rfl) rfl ?_ (by first | exact fun _ _ _ h => h | exact fun _ _ _ h => hQ2 _ _ _ _ _ h) ?_
        rotate_left
        · intro W hSW
          simp only [glA, glB, glC]
          (try dsimp only at hSW)
          go_simp
          with_reducible rfl
        (try simp only [glA, glB, glC, Act.put, glD, glE, glF])
        refine wpAnyJ_take 6 (v := ?_) (by first | exact hF | exact wideFn) (HS.out _ Bd.out) rfl (by kernel_rfl) (by kernel_rfl) (by kernel_rfl) (by kernel_rfl) rfl ?_ (by first | exact fun _ _ _ h => h | exact fun _ _ _ h => hQ2 _ _ _ _ _ h) ?_
        rotate_left
        · intro W hSW
          simp only [glA, glB, glC]
          (try dsimp only at hSW)
          go_simp
          with_reducible rfl
        (try simp only [glA, glB, glC, Act.put, glD, glE, glF])
        refine wpAnyJ_take 7 (v := ?_) (by first | exact hF | exact wideFn) (HS.out _ Bd.out) rfl (by kernel_rfl) (by kernel_rfl) (by kernel_rfl) (by kernel_rfl) rfl ?_ (by first | exact fun _ _ _ h => h | exact fun _ _ _ h => hQ2 _ _ _ _ _ h) ?_
        rotate_left
        · intro W hSW
          simp only [glA, glB, glC]
          (try dsimp only at hSW)
          go_simp
          with_reducible rfl
        (try simp only [glA, glB, glC, Act.put, glD, glE, glF])
        by_cases q : x = y
        · subst q
          refine wpAnyJ_take 8 (v := ?_) (by first | exact hF | exact wideFn) (HS.out _ Bd.out) rfl (by kernel_rfl) (by kernel_rfl) (by kernel_rfl) (by kernel_rfl) rfl ?_ (by first | exact fun _ _ _ h => h | exact fun _ _ _ h => hQ2 _ _ _ _ _ h) ?_
          rotate_left
          · intro W hSW
            simp only [glA, glB, glC]
            (try dsimp only at hSW)
            go_simp
            with_reducible rfl
          (try simp only [glA, glB, glC, Act.put, glD, glE, glF])
          refine wpAnyJ_done (by kernel_rfl) ?_
          go_wp2_with fail
          go_roundw
          case rel => exact ⟨k + 1, by omega, by go_num, fun j hj => by
            rcases (by omega : j < k ∨ j = k) with h | h
            · exact HX.out j h
            · rw [h, HE.out.1, HE.out.2], Bd.out⟩
          case measure => simp [intOf]; omega
        · have q1 := str_ne q
          refine wpAnyJ_take 8 (v := ?_) (by first | exact hF | exact wideFn) (HS.out _ Bd.out) rfl (by kernel_rfl) (by kernel_rfl) (by kernel_rfl) (by kernel_rfl) rfl ?_ (by first | exact fun _ _ _ h => h | exact fun _ _ _ h => hQ2 _ _ _ _ _ h) ?_
          rotate_left
          · intro W hSW
            simp only [glA, glB, glC]
            (try dsimp only at hSW)
            go_simp
            with_reducible rfl
          (try simp only [glA, glB, glC, Act.put, glD, glE, glF])
          refine wpAnyJ_done (by kernel_rfl) ?_
          go_wp2_with fail
          go_ret
          refine ⟨ret_bool ?_, Bd.out⟩
          have hne : ¬ l = m := fun e => by
            have h1 := HE.out.1
            rw [e, HE.out.2] at h1
            exact q h1.symm
          simp [hne]
      · obtain rfl : k = n := by omega
        go_wp2_with fail
        go_ret
        refine ⟨ret_bool ?_, HBW.out⟩
        have : l = m := getD_allW (by rw [HN.out.1, HN.out.2]) (by rw [HN.out.1]; exact HX.out)
        simp [this]
  · have hne : ¬ ((l.length : Int) = (m.length : Int)) := by omega
    have hd : decide (l = m) = false := by
      rw [decide_eq_false_iff_not]; intro h; exact hlm (by rw [h])
    rw [hd]
    clear hd
    generalize l.length = n1 at *
    generalize m.length = n2 at *
    go_enter Tryd.func18, Tryd.ntmps18
    go_wp2_with fail
    go_ret
    exact ⟨rfl, Below.refl _ _⟩
/-- more than is looked at -/
def lgB (l : List Wd) : Bool := decide (25 < l.length) || l.any fun x => decide (20 < x.size)
theorem lgB_no {l : List Wd} (h : lgB l = false) : l.length ≤ 25 ∧ ∀ x ∈ l, x.size ≤ 20 := by
  unfold lgB at h
  rw [Bool.or_eq_false_iff] at h
  have h1 := of_decide_eq_false h.1
  refine ⟨by omega, fun x hx => ?_⟩
  have h2 := List.any_eq_false.1 h.2 x hx
  simp at h2
  exact h2
theorem long_any (A : Option Addr) (c : Nat) (l : List Wd) (w : World) (hl : SzOk l) (hA : SR w w.heap.size A l) :
    Calls Tryd.prog 14 #[.slice A l.length c] w fun e w' => e = .returned (.bool (lgB l)) ∧ w = w' := by
  have hl1 := hl.1
  unfold maxLen at hl1
  have HA := hide hA
  have HL := hide hl
  obtain ⟨n, hn⟩ : ∃ n, l.length = n := ⟨_, rfl⟩
  have HN := hide hn
  rw [hn] at hl1 ⊢
  clear hA hl hn
  go_enter Tryd.func14, Tryd.ntmps14
  go_wp2_with fail
  go_loopw [3] (fun i wr => ∃ k : Nat, k ≤ n ∧ k ≤ 26 ∧ i = .int .i64 k ∧ Hid (∀ j, j < k → (l.getD j noW).size ≤ 20) ∧ Hid (w = wr)) (fun i _ => n - (intOf i).toNat)
  case atStart => exact ⟨0, Nat.zero_le _, by omega, rfl, hide (fun j hj => absurd hj (by omega)), hide rfl⟩
  case round =>
    obtain ⟨k, hk, hk26, rfl, HX, HW⟩ := hrel
    obtain rfl := HW.out
    by_cases hlt : k < n
    · have hlt' : (k : Int) < (n : Int) := by omega
      by_cases h26 : k < 26
      · have h26' : (k : Int) < 26 := by omega
        have i0 : (0 : Int) ≤ (k : Int) := by omega
        have hkl : k < l.length := by rw [HN.out]; exact hlt
        obtain ⟨b, off, rfl, hb, hc⟩ := VR1.at_ HA.out hkl
        obtain ⟨x, hx⟩ : ∃ x, l.getD k noW = x := ⟨_, rfl⟩
        have hxm := HL.out.at_ k
        rw [hx] at hc hxm
        unfold maxLen at hxm
        by_cases h20 : 20 < x.size
        · have h20' : (20 : Int) < (x.size : Int) := by omega
          have hg : lgB l = true := by
            unfold lgB
            rw [Bool.or_eq_true]
            refine .inr (List.any_eq_true.2 ⟨x, ?_, by simpa using h20⟩)
            rw [← hx, List.getD_eq_getElem?_getD, List.getElem?_eq_getElem hkl]
            exact List.getElem_mem hkl
          have HG := hide hg
          clear hg hx h20
          go_wp2_with fail
          go_ret
          exact ⟨ret_bool HG.out.symm, rfl⟩
        · have h20' : ¬ (20 : Int) < (x.size : Int) := by omega
          have HX2 : Hid (∀ j, j < k + 1 → (l.getD j noW).size ≤ 20) := hide (fun j hj => by
            rcases (by omega : j < k ∨ j = k) with h | rfl
            · exact HX.out j h
            · rw [hx]; omega)
          clear hx h20
          go_wp2_with fail
          go_roundw
          case rel => exact ⟨k + 1, by omega, by omega, by go_num, HX2, by first | trivial | exact hide rfl⟩
          case measure => simp [intOf]; omega
      · have h26' : ¬ (k : Int) < 26 := by omega
        have h25 : (25 : Int) < (n : Int) := by omega
        have hg : lgB l = true := by
          unfold lgB
          rw [Bool.or_eq_true, HN.out]
          exact .inl (by simp; omega)
        have HG := hide hg
        clear hg
        go_wp2_with fail
        go_ret
        exact ⟨ret_bool HG.out.symm, rfl⟩
    · obtain rfl : k = n := by omega
      have hnl : ¬ (k : Int) < (k : Int) := by omega
      have hg : lgB l = decide (25 < (k : Int)) := by
        unfold lgB
        have h2 : (l.any fun x => decide (20 < x.size)) = false := by
          rw [List.any_eq_false]
          intro x hx
          obtain ⟨j, hj, rfl⟩ := List.getElem_of_mem hx
          have := HX.out j (by rw [← HN.out]; exact hj)
          rw [List.getD_eq_getElem?_getD, List.getElem?_eq_getElem hj] at this
          have h3 : l[j].size ≤ 20 := this
          simp; exact h3
        rw [h2, Bool.or_false, HN.out]
        rw [Bool.eq_iff_iff]; simp; omega
      have HG := hide hg
      clear hg
      go_wp2_with fail
      go_ret
      exact ⟨ret_bool (by rw [HG.out]), rfl⟩
theorem OwnS.made0 (W : World) : OwnS (W.alloc (.cells #[] 9)) W.heap.size (.slice (some ⟨W.heap.size, 0, none⟩) 0 0) [] :=
  World.ownsRow_made W #[] 0 (Nat.le_refl _) (by unfold maxLen; omega) rfl
theorem words_any (A : Option Addr) (c : Nat) (l : List Wd) (w : World) (hl : l.length ≤ 100000) (hA : SR w w.heap.size A l) :
    Calls Tryd.prog 16 #[.slice A l.length c] w fun e w' => ∃ v, e = .returned v ∧ OwnS w' w.heap.size v l ∧ Below w.heap.size w w' := by
  have hB0 : Below w.heap.size w (w.alloc (.cells #[] 9)) := (Below.refl _ _).alloc (Nat.le_refl _) _
  obtain ⟨v', w', hrun, ho, hg, -⟩ := (OwnS.made0 w).pushes A c l ((ER.below hA hB0 (Nat.le_refl _)).more hB0.size) (by simp; omega) hB0.size
  rw [List.nil_append] at ho
  have HRUN := hide hrun
  have HO := hide (And.intro ho (hB0.grown hg hB0.size (fun k hk => (World.ownsRow.lt (OwnS.made0 w) k hk).1)))
  clear hrun ho hg hB0 hA
  generalize l.length = n at HRUN ⊢
  go_enter Tryd.func16, Tryd.ntmps16
  go_wp2_with (at_builtin; refine wpList_append_run rfl (.tmp 3) (.tmp 4) 22 rfl rfl rfl HRUN.out ?_)
  go_ret
  exact ⟨_, rfl, HO.out.1, HO.out.2⟩
end Go.Proofs.YtmpegkojencbjaaDoor
/- School: numbers, equal; the reference's Copies. -/
namespace Go.Proofs.YtmpegkojencbjaaDoor
open List renaming getElem_toArray → glA, getElem_cons_zero → glB, getElem_cons_succ → glC, setIfInBounds_toArray → glD, set_cons_zero → glE, set_cons_succ → glF
open Go Go.RowKit Go.Shelf
set_option maxHeartbeats 4000000
set_option maxRecDepth 100000
theorem numbers_any (A : Option Addr) (c : Nat) (l : List Int) (w : World) (hl : l.length ≤ 100000) (hA : LI w w.heap.size A l) :
    Calls Tryd.prog 24 #[.slice A l.length c] w fun e w' => ∃ v, e = .returned v ∧ OwnJ w' w.heap.size v l ∧ Below w.heap.size w w' := by
  have hB0 : Below w.heap.size w (w.alloc (.cells #[] 3)) := (Below.refl _ _).alloc (Nat.le_refl _) _
  obtain ⟨v', w', hrun, ho, hg, -⟩ := (OwnJ.made0 w).pushes A c l ((ER.below hA hB0 (Nat.le_refl _)).more hB0.size) (by simp; omega) hB0.size
  rw [List.nil_append] at ho
  have HRUN := hide hrun
  have HO := hide (And.intro ho (hB0.grown hg hB0.size (fun k hk => (World.ownsRow.lt (OwnJ.made0 w) k hk).1)))
  clear hrun ho hg hB0 hA
  generalize l.length = n at HRUN ⊢
  go_enter Tryd.func24, Tryd.ntmps24
  go_wp2_with (at_builtin; refine wpList_append_run rfl (.tmp 3) (.tmp 4) 36 rfl rfl rfl HRUN.out ?_)
  go_ret
  exact ⟨_, rfl, HO.out.1, HO.out.2⟩
theorem equal_any (A B : Option Addr) (c d : Nat) (l m : List Int) (w : World) (hl : l.length ≤ maxLen) (hA : LI w w.heap.size A l) (hB : LI w w.heap.size B m) :
    Calls Tryd.prog 26 #[.slice A l.length c, .slice B m.length d] w fun e w' => e = .returned (.bool (decide (l = m))) ∧ Below w.heap.size w w' := by
  unfold maxLen at hl
  have HA := hide hA
  have HB := hide hB
  clear hA hB
  by_cases hlm : l.length = m.length
  · obtain ⟨n, hn⟩ : ∃ n, l.length = n := ⟨_, rfl⟩
    have hm : m.length = n := by omega
    have HN := hide (And.intro hn hm)
    rw [hn] at hl
    rw [hn, hm]
    clear hlm hn hm
    go_enter Tryd.func26, Tryd.ntmps26
    go_wp2_with fail
    go_loopw [5] (fun i wr => ∃ k : Nat, k ≤ n ∧ i = .int .i64 k ∧ (∀ j, j < k → l.getD j 0 = m.getD j 0) ∧ Below w.heap.size w wr) (fun i _ => n - (intOf i).toNat)
    case atStart => exact ⟨0, Nat.zero_le _, rfl, fun j hj => absurd hj (by omega), Below.refl _ _⟩
    case round =>
      obtain ⟨k, hk, rfl, hx, hbw⟩ := hrel
      have HX := hide hx
      have HBW := hide hbw
      clear hx
      by_cases hlt : k < n
      · have hlt' : (k : Int) < (n : Int) := by omega
        have i0 : (0 : Int) ≤ (k : Int) := by omega
        obtain ⟨x, hx⟩ : ∃ e, l.getD k 0 = e := ⟨_, rfl⟩
        obtain ⟨y, hy⟩ : ∃ f, m.getD k 0 = f := ⟨_, rfl⟩
        obtain ⟨xb, xo, rfl, hxb, a0⟩ := VR1.at_ HA.out (by rw [HN.out.1]; exact hlt)
        obtain ⟨yb, yo, rfl, hyb, b0⟩ := VR1.at_ HB.out (by rw [HN.out.2]; exact hlt)
        rw [hx] at a0
        rw [hy] at b0
        have HE := hide (And.intro hx hy)
        clear hx hy
        have HS : Hid (∀ W, Below w.heap.size w W → W.cell? ⟨xb, xo + k, none⟩ = some (.int .i64 x) ∧ W.cell? ⟨yb, yo + k, none⟩ = some (.int .i64 y)) := hide fun W h =>
          ⟨(h.cell (p := ⟨xb, xo + k, none⟩) hxb).trans a0, (h.cell (p := ⟨yb, yo + k, none⟩) hyb).trans b0⟩
        clear a0 b0 hbw
        go_upto_region 6 with fail
        have Bd := hide (HBW.out.trans ((Below.refl wr.heap.size wr).drew.mono HBW.out.size))
        refine wp_region_J (fun W : World => W.cell? ⟨xb, xo + k, none⟩ = some (.int .i64 x) ∧ W.cell? ⟨yb, yo + k, none⟩ = some (.int .i64 y)) (by kernel_rfl) ?_
        generalize wr.drew = wd at Bd ⊢
        refine wpAnyJ_take 0 (v := ?_) (by first | exact hF | exact wideFn) (HS.out _ Bd.out) rfl (by kernel_rfl) (by kernel_rfl) (by kernel_rfl) (by kernel_rfl) rfl ?_ (by first | exact fun _ _ _ h => h | exact fun _ _ _ h => hQ2 _ _ _ _ _ h) ?_
        rotate_left
        · intro W hSW
          simp only [glA, glB, glC]
          (try dsimp only at hSW)
          go_simp
          with_reducible rfl
        (try simp only [glA, glB, glC, Act.put, glD, glE, glF])
        refine wpAnyJ_take 1 (v := ?_) (by first | exact hF | exact wideFn) (HS.out _ Bd.out) rfl (by kernel_rfl) (by kernel_rfl) (by kernel_rfl) (by kernel_rfl) rfl ?_ (by first | exact fun _ _ _ h => h | exact fun _ _ _ h => hQ2 _ _ _ _ _ h) ?_
        rotate_left
        · intro W hSW
          simp only [glA, glB, glC]
          (try dsimp only at hSW)
          go_simp
          with_reducible rfl
        (try simp only [glA, glB, glC, Act.put, glD, glE, glF])
        refine wpAnyJ_take 2 (v := ?_) (by first | exact hF | exact wideFn) (HS.out _ Bd.out) rfl (by kernel_rfl) (by kernel_rfl) (by kernel_rfl) (by kernel_rfl) rfl ?_ (by first | exact fun _ _ _ h => h | exact fun _ _ _ h => hQ2 _ _ _ _ _ h) ?_
        rotate_left
        · intro W hSW
          simp only [glA, glB, glC]
          (try dsimp only at hSW)
          go_simp
          with_reducible rfl
        (try simp only [glA, glB, glC, Act.put, glD, glE, glF])
        refine wpAnyJ_take 3 (v := ?_) (by first | exact hF | exact wideFn) (HS.out _ Bd.out) rfl (by kernel_rfl) (by kernel_rfl) (by kernel_rfl) (by kernel_rfl) rfl ?_ (by first | exact fun _ _ _ h => h | exact fun _ _ _ h => hQ2 _ _ _ _ _ h) ?_
        rotate_left
        · intro W hSW
          simp only [glA, glB, glC]
          (try dsimp only at hSW)
          go_simp
          with_reducible rfl
        (try simp only [glA, glB, glC, Act.put, glD, glE, glF])
        refine wpAnyJ_take 4 (v := ?_) (by first | exact hF | exact wideFn) (HS.out _ Bd.out) rfl (by kernel_rfl) (by kernel_rfl) (by kernel_rfl) (by kernel_rfl) rfl ?_ (by first | exact fun _ _ _ h => h | exact fun _ _ _ h => hQ2 _ _ _ _ _ h) ?_
        rotate_left
        · intro W hSW
          simp only [glA, glB, glC]
          (try dsimp only at hSW)
          go_simp
          with_reducible rfl
        (try simp only [glA, glB, glC, Act.put, glD, glE, glF])
        refine wpAnyJ_take 5 (v := ?_) (by first | exact hF | exact wideFn) (HS.out _ Bd.out) rfl (by kernel_rfl) (by kernel_rfl) (by kernel_rfl) (by kernel_rfl) rfl ?_ (by first | exact fun _ _ _ h => h | exact fun _ _ _ h => hQ2 _ _ _ _ _ h) ?_
        rotate_left
        · intro W hSW
          simp only [glA, glB, glC]
          (try dsimp only at hSW)
          go_simp
          with_reducible rfl
        (try simp only [glA, glB, glC, Act.put, glD, glE, glF])
        refine wpAnyJ_take 6 (v := ?_) (by first | exact hF | exact wideFn) (HS.out _ Bd.out) rfl (by kernel_rfl) (by kernel_rfl) (by kernel_rfl) (by kernel_rfl) rfl ?_ (by first | exact fun _ _ _ h => h | exact fun _ _ _ h => hQ2 _ _ _ _ _ h) ?_
        rotate_left
        · intro W hSW
          simp only [glA, glB, glC]
          (try dsimp only at hSW)
          go_simp
          with_reducible rfl
        (try simp only [glA, glB, glC, Act.put, glD, glE, glF])
        refine wpAnyJ_take 7 (v := ?_) (by first | exact hF | exact wideFn) (HS.out _ Bd.out) rfl (by kernel_rfl) (by kernel_rfl) (by kernel_rfl) (by kernel_rfl) rfl ?_ (by first | exact fun _ _ _ h => h | exact fun _ _ _ h => hQ2 _ _ _ _ _ h) ?_
        rotate_left
        · intro W hSW
          simp only [glA, glB, glC]
          (try dsimp only at hSW)
          go_simp
          with_reducible rfl
        (try simp only [glA, glB, glC, Act.put, glD, glE, glF])
        by_cases q0 : x = y
        · subst q0
          refine wpAnyJ_take 8 (v := ?_) (by first | exact hF | exact wideFn) (HS.out _ Bd.out) rfl (by kernel_rfl) (by kernel_rfl) (by kernel_rfl) (by kernel_rfl) rfl ?_ (by first | exact fun _ _ _ h => h | exact fun _ _ _ h => hQ2 _ _ _ _ _ h) ?_
          rotate_left
          · intro W hSW
            simp only [glA, glB, glC]
            (try dsimp only at hSW)
            go_simp
            with_reducible rfl
          (try simp only [glA, glB, glC, Act.put, glD, glE, glF])
          refine wpAnyJ_done (by kernel_rfl) ?_
          go_wp2_with fail
          go_roundw
          case rel => exact ⟨k + 1, by omega, by go_num, fun j hj => by
            rcases (by omega : j < k ∨ j = k) with h | h
            · exact HX.out j h
            · rw [h, HE.out.1, HE.out.2], Bd.out⟩
          case measure => simp [intOf]; omega
        · have q1 := q0
          refine wpAnyJ_take 8 (v := ?_) (by first | exact hF | exact wideFn) (HS.out _ Bd.out) rfl (by kernel_rfl) (by kernel_rfl) (by kernel_rfl) (by kernel_rfl) rfl ?_ (by first | exact fun _ _ _ h => h | exact fun _ _ _ h => hQ2 _ _ _ _ _ h) ?_
          rotate_left
          · intro W hSW
            simp only [glA, glB, glC]
            (try dsimp only at hSW)
            go_simp
            with_reducible rfl
          (try simp only [glA, glB, glC, Act.put, glD, glE, glF])
          refine wpAnyJ_done (by kernel_rfl) ?_
          go_wp2_with fail
          go_ret
          refine ⟨ret_bool ?_, Bd.out⟩
          have hne : ¬ l = m := fun e => by
            have h1 := HE.out.1
            rw [e, HE.out.2] at h1
            exact q0 h1.symm
          simp [hne]
      · obtain rfl : k = n := by omega
        go_wp2_with fail
        go_ret
        refine ⟨ret_bool ?_, HBW.out⟩
        have : l = m := getD_allI (by rw [HN.out.1, HN.out.2]) (by rw [HN.out.1]; exact HX.out)
        simp [this]
  · have hne : ¬ ((l.length : Int) = (m.length : Int)) := by omega
    have hd : decide (l = m) = false := by
      rw [decide_eq_false_iff_not]; intro h; exact hlm (by rw [h])
    rw [hd]
    clear hd
    generalize l.length = n1 at *
    generalize m.length = n2 at *
    go_enter Tryd.func26, Tryd.ntmps26
    go_wp2_with fail
    go_ret
    exact ⟨rfl, Below.refl _ _⟩
/-- parents and readings as told -/
def cpB (P R : List Int) : Bool := !(decide (P.length = 0)) && (decide (R.length = P.length) && cpAll (fun k => P.getD k 0) (fun k => R.getD k 0) P.length)
theorem cpAll_head {p r : Nat → Int} {n : Nat} (hn : 0 < n) (h : p 0 ≠ -1) : cpAll p r n = false :=
  cpAll_no (i := 0) (by unfold cpOk; rw [if_pos rfl, decide_eq_false h]; rfl) hn
theorem cpOk_step {p r : Nat → Int} {k : Nat} (h0 : p 0 = -1) (h1 : 0 < k → 0 ≤ p k ∧ p k < k) (h2 : -1 ≤ r k) (h3 : r k ≤ 15) : cpOk p r k = true := by
  unfold cpOk
  by_cases hk : k = 0
  · subst hk
    rw [if_pos rfl, decide_eq_true h0, decide_eq_true ⟨h2, h3⟩]; rfl
  · have := h1 (by omega)
    rw [if_neg hk, decide_eq_true ⟨this.1, by omega⟩, decide_eq_true ⟨h2, h3⟩]; rfl
theorem cpOk_negp {p r : Nat → Int} {k : Nat} (h0 : 0 < k) (h : ¬ (0 ≤ p k ∧ p k < k)) : cpOk p r k = false := by
  cases h1 : cpOk p r k with
  | false => rfl
  | true =>
    have h2 := cpOk_p h1
    exact absurd ⟨h2.2.2.1 h0, h2.1⟩ h
theorem cpOk_negr {p r : Nat → Int} {k : Nat} (h : ¬ (-1 ≤ r k ∧ r k ≤ 15)) : cpOk p r k = false := by
  cases h1 : cpOk p r k with
  | false => rfl
  | true => exact absurd (cpOk_p h1).2.2.2 h
theorem refCopies_any (A B : Option Addr) (c d : Nat) (P R : List Int) (w : World) (hl : P.length ≤ 100000) (hP : LI w w.heap.size A P) (hR : LI w w.heap.size B R) :
    Calls Tryd.prog 27 #[.slice A P.length c, .slice B R.length d] w fun e w' => e = .returned (.bool (cpB P R)) ∧ w = w' := by
  have HP := hide hP
  have HR := hide hR
  clear hP hR
  obtain ⟨n, hn⟩ : ∃ n, P.length = n := ⟨_, rfl⟩
  obtain ⟨m, hm⟩ : ∃ n, R.length = n := ⟨_, rfl⟩
  have HN := hide (And.intro hn hm)
  rw [hn] at hl
  rw [hn, hm]
  clear hn hm
  rcases (by omega : n = 0 ∨ (0 < n ∧ m ≠ n) ∨ (0 < n ∧ m = n)) with h | ⟨h, h1⟩ | ⟨h, rfl⟩
  · subst h
    go_enter Tryd.func27, Tryd.ntmps27
    go_wp2_with fail
    go_ret
    refine ⟨ret_bool ?_, rfl⟩
    unfold cpB
    rw [decide_eq_true HN.out.1]; rfl
  · have e1 : ¬ (n : Int) = 0 := by omega
    have e2 : ¬ (m : Int) = (n : Int) := by omega
    go_enter Tryd.func27, Tryd.ntmps27
    go_wp2_with fail
    go_ret
    refine ⟨ret_bool ?_, rfl⟩
    unfold cpB
    rw [decide_eq_false (p := R.length = P.length) (by rw [HN.out.1, HN.out.2]; exact h1)]; simp
  · have e1 : ¬ (m : Int) = 0 := by omega
    have e1' : ((m : Int) == 0) = false := by simp; omega
    obtain ⟨xb, xo, rfl, hxb, a0⟩ := VR1.at_ HP.out (k := 0) (by rw [HN.out.1]; exact h)
    obtain ⟨x, hx⟩ : ∃ e, P.getD 0 0 = e := ⟨_, rfl⟩
    rw [hx] at a0
    rw [Nat.add_zero] at a0
    have hlt0 : (0 : Int) < (m : Int) := by omega
    have HX0 := hide hx
    clear hx
    by_cases hx1 : x = -1
    · subst hx1
      go_enter Tryd.func27, Tryd.ntmps27
      go_wp2_with fail
      go_loopw [5] (fun i wr => ∃ k : Nat, k ≤ m ∧ i = .int .i64 k ∧ Hid (cpAll (fun k => P.getD k 0) (fun k => R.getD k 0) k = true) ∧ w = wr) (fun i _ => m - (intOf i).toNat)
      case atStart => exact ⟨0, Nat.zero_le _, rfl, hide rfl, rfl⟩
      case round =>
        obtain ⟨k, hk, rfl, HC, rfl⟩ := hrel
        clear a0
        by_cases hlt : k < m
        · have hlt' : (k : Int) < (m : Int) := by omega
          have i0 : (0 : Int) ≤ (k : Int) := by omega
          obtain ⟨p, hp⟩ : ∃ e, P.getD k 0 = e := ⟨_, rfl⟩
          obtain ⟨r, hr⟩ : ∃ e, R.getD k 0 = e := ⟨_, rfl⟩
          obtain ⟨zb, zo, hz, hzb, b0⟩ := VR1.at_ HP.out (k := k) (by rw [HN.out.1]; exact hlt)
          injection hz with hz
          injection hz with hz1 hz2
          subst hz1 hz2
          obtain ⟨yb, yo, rfl, hyb, c0⟩ := VR1.at_ HR.out (k := k) (by rw [HN.out.2]; exact hlt)
          rw [hp] at b0
          rw [hr] at c0
          have HE := hide (And.intro hp hr)
          clear hp hr
          by_cases hk0 : k = 0
          · subst hk0
            rw [Nat.add_zero] at c0 b0
            have hlt0' : (0 : Int) < (m : Int) := by omega
            by_cases hr1 : r < -1
            · go_wp2_with fail
              go_ret
              refine ⟨ret_bool ?_, rfl⟩
              unfold cpB
              rw [cpAll_no (i := 0) (cpOk_negr (by (try dsimp only); rw [HE.out.2]; omega)) (by rw [HN.out.1]; exact hlt)]
              simp
            · by_cases hr2 : 15 < r
              · go_wp2_with fail
                go_ret
                refine ⟨ret_bool ?_, rfl⟩
                unfold cpB
                rw [cpAll_no (i := 0) (cpOk_negr (by (try dsimp only); rw [HE.out.2]; omega)) (by rw [HN.out.1]; exact hlt)]
                simp
              · go_wp2_with fail
                go_roundw
                case rel => exact ⟨1, by omega, rfl, hide (by
                  show (cpAll _ _ 0 && cpOk _ _ 0) = true
                  rw [HC.out, Bool.true_and]
                  exact cpOk_step HX0.out (fun h => absurd h (by omega)) (by (try dsimp only); rw [HE.out.2]; omega) (by (try dsimp only); rw [HE.out.2]; omega)), by simp⟩
                case measure => simp [intOf]; omega
          · have hk1 : (0 : Int) < (k : Int) := by omega
            by_cases hp1 : p < 0
            · go_wp2_with fail
              go_ret
              refine ⟨ret_bool ?_, rfl⟩
              unfold cpB
              rw [cpAll_no (i := k) (cpOk_negp (by omega) (by (try dsimp only); rw [HE.out.1]; omega)) (by rw [HN.out.1]; exact hlt)]
              simp
            · by_cases hp2 : (k : Int) ≤ p
              · go_wp2_with fail
                go_ret
                refine ⟨ret_bool ?_, rfl⟩
                unfold cpB
                rw [cpAll_no (i := k) (cpOk_negp (by omega) (by (try dsimp only); rw [HE.out.1]; omega)) (by rw [HN.out.1]; exact hlt)]
                simp
              · have hp3 : p < (k : Int) := by omega
                by_cases hr1 : r < -1
                · go_wp2_with fail
                  go_ret
                  refine ⟨ret_bool ?_, rfl⟩
                  unfold cpB
                  rw [cpAll_no (i := k) (cpOk_negr (by (try dsimp only); rw [HE.out.2]; omega)) (by rw [HN.out.1]; exact hlt)]
                  simp
                · by_cases hr2 : 15 < r
                  · go_wp2_with fail
                    go_ret
                    refine ⟨ret_bool ?_, rfl⟩
                    unfold cpB
                    rw [cpAll_no (i := k) (cpOk_negr (by (try dsimp only); rw [HE.out.2]; omega)) (by rw [HN.out.1]; exact hlt)]
                    simp
                  · have hst : IntKind.i64.wrap ((k : Int) + 1) = (k : Int) + 1 := IntWalk.i64_in _ (by omega)
                    go_wp2_with fail
                    go_roundw
                    case rel => exact ⟨k + 1, by omega, by go_num, hide (by
                      show (cpAll _ _ k && cpOk _ _ k) = true
                      rw [HC.out, Bool.true_and]
                      exact cpOk_step HX0.out (fun h => by (try dsimp only); rw [HE.out.1]; omega) (by (try dsimp only); rw [HE.out.2]; omega) (by (try dsimp only); rw [HE.out.2]; omega)), by simp⟩
                    case measure => simp [intOf]; omega
        · obtain rfl : m = k := by omega
          have hnl : ¬ (m : Int) < (m : Int) := by omega
          go_wp2_with fail
          go_ret
          refine ⟨ret_bool ?_, rfl⟩
          unfold cpB
          rw [HN.out.1, HN.out.2, HC.out, decide_eq_false (by omega)]; simp
    · have hx2 : (x == -1) = false := by simpa using hx1
      go_enter Tryd.func27, Tryd.ntmps27
      go_wp2_with fail
      go_ret
      refine ⟨ret_bool ?_, rfl⟩
      unfold cpB
      rw [cpAll_head (by rw [HN.out.1]; exact h) (by rw [HX0.out]; exact hx1)]; simp
end Go.Proofs.YtmpegkojencbjaaDoor
/- School: own lists of lists of numbers, own lists of bools, own tables of bools. -/
namespace Go.Proofs.YtmpegkojencbjaaDoor
open Go Go.RowKit Go.Shelf
set_option maxHeartbeats 4000000
set_option maxRecDepth 100000
theorem info_ints : (Tryd.prog.info? 36).map (fun i => (i.zero, i.size, i.bytes)) = some (some (.slice none 0 0), 1, 24) := by kernel_rfl
theorem info_boo : (Tryd.prog.info? 4).map (fun i => (i.zero, i.size, i.bytes)) = some (some (.bool false), 1, 1) := by kernel_rfl
theorem info_boos : (Tryd.prog.info? 66).map (fun i => (i.zero, i.size, i.bytes)) = some (some (.slice none 0 0), 1, 24) := by kernel_rfl
theorem own_low {W : World} {b b' : Nat} {e : TypeId} {size n : Nat} {v : Value} {xs : List Value} (h : W.ownsRow b e size v n xs) (hb : b' ≤ b) : W.ownsRow b' e size v n xs := by
  refine ⟨h.1, ?_⟩
  rcases h.2 with h2 | ⟨g, cap, cur, h2, h3, h4⟩
  · exact .inl h2
  · exact .inr ⟨g, cap, cur, h2, Nat.le_trans hb h3, h4⟩
theorem own_grown {W W' : World} {b : Nat} {e : TypeId} {size n : Nat} {v : Value} {xs : List Value} {row : Option Nat} (h : W.ownsRow b e size v n xs) (hg : W.grownBy W' row) (h2 : v.ownBlock = none ∨ v.ownBlock ≠ row) : W'.ownsRow b e size v n xs :=
  own_kx h ((KX.refl W W.heap.size row).grown hg) (fun he => by
    have := (World.ownsRow.lt h W.heap.size he).2
    omega) h2
theorem push_cs {W : World} {base : Nat} {v : Value} {xs : List Value} (h : W.ownsRow base 36 1 v xs.length xs) (x : Value) (hx : x.oneCell' = true) (hl : xs.length ≤ 100000) (hb : base ≤ W.heap.size) :
    ∃ A c w', (Builtin.append_ #[54, 54] 54 #[v, .slice (some ⟨W.heap.size, 0, none⟩) 1 1]).run Tryd.prog (W.alloc (.cells #[x] 36)) = .ok (.slice A (xs.length + 1) c) w' ∧
      w'.ownsRow base 36 1 (.slice A (xs.length + 1) c) (xs ++ [x]).length (xs ++ [x]) ∧ (W.alloc (.cells #[x] 36)).grownBy w' v.ownBlock ∧
      ((Value.slice A (xs.length + 1) c).ownBlock = v.ownBlock ∨ (Value.slice A (xs.length + 1) c).ownBlock = some (W.heap.size + 1)) := by
  obtain ⟨i0, hi, hz0, hz1, hz2⟩ := info_parts info_ints
  obtain ⟨v', w', hr, h2, h3, -, h4⟩ := run_append_own_at (P := Tryd.prog) (w := W.alloc (.cells #[x] 36)) base 54 54 36 i0 _ 1 24 Tryd.underlying54 hi hz0 hz1 hz2 rfl (by decide) v xs.length xs (ownBelow h ((Below.refl _ _).alloc (Nat.le_refl _) _))
    ⟨W.heap.size, 0, none⟩ 1 1 [x] rfl (fun j u hj => by
      match j, hj with
      | 0, hj =>
        simp at hj
        subst hj
        have := (Blk.new W 36 #[x]).cell 0
        simpa [Addr.add] using this
      | j + 1, hj => simp at hj) (by simpa using hx) (by unfold maxLen; omega) (by omega) (by simp; omega)
  obtain ⟨A, c, rfl⟩ := own_shape h2
  refine ⟨A, c, w', hr, ?_, h3, ?_⟩
  · rw [List.length_append]; exact h2
  · simpa using h4
theorem made_cs (W : World) : (W.alloc (.cells #[] 36)).ownsRow W.heap.size 36 1 (.slice (some ⟨W.heap.size, 0, none⟩) 0 0) 0 [] :=
  World.ownsRow_made W #[] 0 (Nat.le_refl _) (by unfold maxLen; omega) rfl
theorem push_bs {W : World} {base : Nat} {v : Value} {xs : List Value} (h : W.ownsRow base 4 1 v xs.length xs) (x : Value) (hx : x.oneCell' = true) (hl : xs.length ≤ 100000) (hb : base ≤ W.heap.size) :
    ∃ A c w', (Builtin.append_ #[66, 66] 66 #[v, .slice (some ⟨W.heap.size, 0, none⟩) 1 1]).run Tryd.prog (W.alloc (.cells #[x] 4)) = .ok (.slice A (xs.length + 1) c) w' ∧
      w'.ownsRow base 4 1 (.slice A (xs.length + 1) c) (xs ++ [x]).length (xs ++ [x]) ∧ (W.alloc (.cells #[x] 4)).grownBy w' v.ownBlock ∧
      ((Value.slice A (xs.length + 1) c).ownBlock = v.ownBlock ∨ (Value.slice A (xs.length + 1) c).ownBlock = some (W.heap.size + 1)) := by
  obtain ⟨i0, hi, hz0, hz1, hz2⟩ := info_parts info_boo
  obtain ⟨v', w', hr, h2, h3, -, h4⟩ := run_append_own_at (P := Tryd.prog) (w := W.alloc (.cells #[x] 4)) base 66 66 4 i0 _ 1 1 Tryd.underlying66 hi hz0 hz1 hz2 rfl (by decide) v xs.length xs (ownBelow h ((Below.refl _ _).alloc (Nat.le_refl _) _))
    ⟨W.heap.size, 0, none⟩ 1 1 [x] rfl (fun j u hj => by
      match j, hj with
      | 0, hj =>
        simp at hj
        subst hj
        have := (Blk.new W 4 #[x]).cell 0
        simpa [Addr.add] using this
      | j + 1, hj => simp at hj) (by simpa using hx) (by unfold maxLen; omega) (by omega) (by simp; omega)
  obtain ⟨A, c, rfl⟩ := own_shape h2
  refine ⟨A, c, w', hr, ?_, h3, ?_⟩
  · rw [List.length_append]; exact h2
  · simpa using h4
theorem made_bs (W : World) : (W.alloc (.cells #[] 4)).ownsRow W.heap.size 4 1 (.slice (some ⟨W.heap.size, 0, none⟩) 0 0) 0 [] :=
  World.ownsRow_made W #[] 0 (Nat.le_refl _) (by unfold maxLen; omega) rfl
theorem push_tb {W : World} {base : Nat} {v : Value} {xs : List Value} (h : W.ownsRow base 66 1 v xs.length xs) (x : Value) (hx : x.oneCell' = true) (hl : xs.length ≤ 100000) (hb : base ≤ W.heap.size) :
    ∃ A c w', (Builtin.append_ #[56, 56] 56 #[v, .slice (some ⟨W.heap.size, 0, none⟩) 1 1]).run Tryd.prog (W.alloc (.cells #[x] 66)) = .ok (.slice A (xs.length + 1) c) w' ∧
      w'.ownsRow base 66 1 (.slice A (xs.length + 1) c) (xs ++ [x]).length (xs ++ [x]) ∧ (W.alloc (.cells #[x] 66)).grownBy w' v.ownBlock ∧
      ((Value.slice A (xs.length + 1) c).ownBlock = v.ownBlock ∨ (Value.slice A (xs.length + 1) c).ownBlock = some (W.heap.size + 1)) := by
  obtain ⟨i0, hi, hz0, hz1, hz2⟩ := info_parts info_boos
  obtain ⟨v', w', hr, h2, h3, -, h4⟩ := run_append_own_at (P := Tryd.prog) (w := W.alloc (.cells #[x] 66)) base 56 56 66 i0 _ 1 24 Tryd.underlying56 hi hz0 hz1 hz2 rfl (by decide) v xs.length xs (ownBelow h ((Below.refl _ _).alloc (Nat.le_refl _) _))
    ⟨W.heap.size, 0, none⟩ 1 1 [x] rfl (fun j u hj => by
      match j, hj with
      | 0, hj =>
        simp at hj
        subst hj
        have := (Blk.new W 66 #[x]).cell 0
        simpa [Addr.add] using this
      | j + 1, hj => simp at hj) (by simpa using hx) (by unfold maxLen; omega) (by omega) (by simp; omega)
  obtain ⟨A, c, rfl⟩ := own_shape h2
  refine ⟨A, c, w', hr, ?_, h3, ?_⟩
  · rw [List.length_append]; exact h2
  · simpa using h4
theorem made_tb (W : World) : (W.alloc (.cells #[] 66)).ownsRow W.heap.size 66 1 (.slice (some ⟨W.heap.size, 0, none⟩) 0 0) 0 [] :=
  World.ownsRow_made W #[] 0 (Nat.le_refl _) (by unfold maxLen; omega) rfl
/-- a cell of an own list of one-cell values -/
theorem own_one {W : World} {base : Nat} {e : TypeId} {A : Option Addr} {n c : Nat} {xs : List Value} (h : W.ownsRow base e 1 (.slice A n c) n xs) {k : Nat} {x : Value} (hx : xs[k]? = some x) :
    ∃ g, A = some ⟨g, 0, none⟩ ∧ g < W.heap.size ∧ base ≤ g ∧ W.cell? ⟨g, k, none⟩ = some x := by
  rcases h.2 with ⟨h1, h2⟩ | ⟨g, cap, cur, h1, h2, h3⟩
  · have h3 := h.1
    have := (List.getElem?_eq_some_iff.1 hx).1
    omega
  · injection h1 with hA
    subst hA
    have hc := World.ownsRow.cells h (g := g) rfl k x hx
    rw [show ((⟨g, 0, none⟩ : Addr).add k) = ⟨g, k, none⟩ by unfold Addr.add; simp; omega] at hc
    exact ⟨g, rfl, (World.ownsRow.lt h g rfl).2, h2, hc⟩
/-- an own list of n lists of numbers -/
def CsR (W : World) (base : Nat) (v : Value) (n : Nat) (f : Nat → List Int) : Prop :=
  ∃ xs, xs.length = n ∧ W.ownsRow base 36 1 v n xs ∧ ∀ k, k < n → ∃ A c, xs[k]? = some (.slice A (f k).length c) ∧ OwnJ W base (.slice A (f k).length c) (f k)
section
variable {W W' : World} {base n : Nat} {v : Value} {f : Nat → List Int}
theorem CsR.ext (h : CsR W base v n f) (hb : Below W.heap.size W W') : CsR W' base v n f := by
  obtain ⟨xs, h1, h2, h3⟩ := h
  refine ⟨xs, h1, ownBelow h2 hb, fun k hk => ?_⟩
  obtain ⟨A, c, h4, h5⟩ := h3 k hk
  exact ⟨A, c, h4, h5.ext hb⟩
theorem CsR.grown (h : CsR W base v n f) {row : Option Nat} (hg : W.grownBy W' row) (h1 : v.ownBlock = none ∨ v.ownBlock ≠ row) (h2 : ∀ k, k < n → ∀ A c, OwnJ W base (.slice A (f k).length c) (f k) → (Value.slice A (f k).length c).ownBlock = none ∨ (Value.slice A (f k).length c).ownBlock ≠ row) : CsR W' base v n f := by
  obtain ⟨xs, h3, h4, h5⟩ := h
  refine ⟨xs, h3, own_grown h4 hg h1, fun k hk => ?_⟩
  obtain ⟨A, c, h6, h7⟩ := h5 k hk
  exact ⟨A, c, h6, own_grown h7 hg (h2 k hk A c h7)⟩
theorem CsR.low (h : CsR W base v n f) {b : Nat} (hb : b ≤ base) : CsR W b v n f := by
  obtain ⟨xs, h3, h4, h5⟩ := h
  refine ⟨xs, h3, own_low h4 hb, fun k hk => ?_⟩
  obtain ⟨A, c, h6, h7⟩ := h5 k hk
  exact ⟨A, c, h6, own_low h7 hb⟩
theorem CsR.congr (h : CsR W base v n f) {g : Nat → List Int} (hg : ∀ k, k < n → f k = g k) : CsR W base v n g := by
  obtain ⟨xs, h3, h4, h5⟩ := h
  refine ⟨xs, h3, h4, fun k hk => ?_⟩
  rw [← hg k hk]
  exact h5 k hk
theorem CsR.made0 (W : World) (f : Nat → List Int) : CsR (W.alloc (.cells #[] 36)) W.heap.size (.slice (some ⟨W.heap.size, 0, none⟩) 0 0) 0 f :=
  ⟨[], rfl, made_cs W, fun k hk => absurd hk (by omega)⟩
/-- a list goes to the lists -/
theorem CsR.push (h : CsR W base v n f) (A : Option Addr) (c : Nat) (ho : OwnJ W base (.slice A (f n).length c) (f n)) (hl : n ≤ 100000) (hb : base ≤ W.heap.size) :
    ∃ B c' w', (Builtin.append_ #[54, 54] 54 #[v, .slice (some ⟨W.heap.size, 0, none⟩) 1 1]).run Tryd.prog (W.alloc (.cells #[.slice A (f n).length c] 36)) = .ok (.slice B (n + 1) c') w' ∧
      CsR w' base (.slice B (n + 1) c') (n + 1) f ∧ (W.alloc (.cells #[.slice A (f n).length c] 36)).grownBy w' v.ownBlock ∧
      ((Value.slice B (n + 1) c').ownBlock = v.ownBlock ∨ (Value.slice B (n + 1) c').ownBlock = some (W.heap.size + 1)) := by
  have hB : Below W.heap.size W (W.alloc (.cells #[.slice A (f n).length c] 36)) := (Below.refl _ _).alloc (Nat.le_refl _) _
  have ho5 := ho.ext hB
  have h5 := h.ext hB
  obtain ⟨xs, h1, h2, h3⟩ := h
  subst h1
  obtain ⟨B, c', w', hr, h6, hg, ha⟩ := push_cs h2 (.slice A (f xs.length).length c) rfl hl hb
  refine ⟨B, c', w', hr, ⟨xs ++ [.slice A (f xs.length).length c], by simp, by simpa using h6, fun k hk => ?_⟩, hg, ha⟩
  have hown := ownBelow h2 hB
  by_cases e : k = xs.length
  · subst e
    exact ⟨A, c, by simp, own_grown ho5 hg (own_own_ne ho5 hown (by decide))⟩
  · obtain ⟨A1, c1, e1, o1⟩ := h3 k (by omega)
    have o2 := o1.ext hB
    exact ⟨A1, c1, by rw [List.getElem?_append_left (by omega)]; exact e1, own_grown o2 hg (own_own_ne o2 hown (by decide))⟩
/-- a list of the lists is read -/
theorem CsR.at_ {A : Option Addr} {c : Nat} (h : CsR W base (.slice A n c) n f) {k : Nat} (hk : k < n) :
    ∃ g B b, A = some ⟨g, 0, none⟩ ∧ g < W.heap.size ∧ W.cell? ⟨g, k, none⟩ = some (.slice B (f k).length b) ∧ LI W W.heap.size B (f k) := by
  obtain ⟨xs, h1, h2, h3⟩ := h
  obtain ⟨B, b, h4, h5⟩ := h3 k hk
  obtain ⟨g, e1, e2, -, e3⟩ := own_one h2 h4
  exact ⟨g, B, b, e1, e2, e3, (OwnJ.li h5).2⟩
theorem CsR.shape (h : CsR W base v n f) : ∃ A c, v = .slice A n c := by
  obtain ⟨xs, h1, h2, h3⟩ := h
  exact own_shape h2
end
/-- an own list of bools -/
def OwnB (W : World) (base : Nat) (v : Value) (n : Nat) (p : Nat → Bool) : Prop := W.ownsRow base 4 1 v n ((List.range n).map fun k => .bool (p k))
theorem boo_len (n : Nat) (p : Nat → Bool) : ((List.range n).map fun k => Value.bool (p k)).length = n := by simp
theorem OwnB.ext {W W' : World} {base n : Nat} {v : Value} {p : Nat → Bool} (h : OwnB W base v n p) (hb : Below W.heap.size W W') : OwnB W' base v n p := ownBelow h hb
theorem OwnB.made0 (W : World) (p : Nat → Bool) : OwnB (W.alloc (.cells #[] 4)) W.heap.size (.slice (some ⟨W.heap.size, 0, none⟩) 0 0) 0 p := made_bs W
theorem OwnB.push {W : World} {base n : Nat} {v : Value} {p : Nat → Bool} (h : OwnB W base v n p) (hl : n ≤ 100000) (hb : base ≤ W.heap.size) :
    ∃ A c w', (Builtin.append_ #[66, 66] 66 #[v, .slice (some ⟨W.heap.size, 0, none⟩) 1 1]).run Tryd.prog (W.alloc (.cells #[.bool (p n)] 4)) = .ok (.slice A (n + 1) c) w' ∧
      OwnB w' base (.slice A (n + 1) c) (n + 1) p ∧ (W.alloc (.cells #[.bool (p n)] 4)).grownBy w' v.ownBlock := by
  have h' : W.ownsRow base 4 1 v ((List.range n).map fun k => Value.bool (p k)).length ((List.range n).map fun k => .bool (p k)) := by rw [boo_len]; exact h
  obtain ⟨A, c, w', hr, h6, hg, -⟩ := push_bs h' (.bool (p n)) rfl (by rw [boo_len]; exact hl) hb
  rw [boo_len] at hr h6
  refine ⟨A, c, w', hr, ?_, hg⟩
  unfold OwnB
  rw [List.range_succ, List.map_append]
  simpa using h6
theorem OwnB.at_ {W : World} {base n c : Nat} {A : Option Addr} {p : Nat → Bool} (h : OwnB W base (.slice A n c) n p) {k : Nat} (hk : k < n) : ∃ g, A = some ⟨g, 0, none⟩ ∧ g < W.heap.size ∧ W.cell? ⟨g, k, none⟩ = some (.bool (p k)) := by
  obtain ⟨g, e1, e2, -, e3⟩ := own_one h (k := k) (x := .bool (p k)) (by rw [List.getElem?_map, List.getElem?_range hk]; rfl)
  exact ⟨g, e1, e2, e3⟩
/-- an own table of bools: n rows of m -/
def TbB (W : World) (base : Nat) (v : Value) (n m : Nat) (p : Nat → Nat → Bool) : Prop :=
  ∃ xs, xs.length = n ∧ W.ownsRow base 66 1 v n xs ∧ ∀ k, k < n → ∃ A c, xs[k]? = some (.slice A m c) ∧ OwnB W base (.slice A m c) m (p k)
section
variable {W W' : World} {base n m : Nat} {v : Value} {p : Nat → Nat → Bool}
theorem TbB.ext (h : TbB W base v n m p) (hb : Below W.heap.size W W') : TbB W' base v n m p := by
  obtain ⟨xs, h1, h2, h3⟩ := h
  refine ⟨xs, h1, ownBelow h2 hb, fun k hk => ?_⟩
  obtain ⟨A, c, h4, h5⟩ := h3 k hk
  exact ⟨A, c, h4, h5.ext hb⟩
theorem TbB.made0 (W : World) (p : Nat → Nat → Bool) : TbB (W.alloc (.cells #[] 66)) W.heap.size (.slice (some ⟨W.heap.size, 0, none⟩) 0 0) 0 m p :=
  ⟨[], rfl, made_tb W, fun k hk => absurd hk (by omega)⟩
theorem TbB.push (h : TbB W base v n m p) (A : Option Addr) (c : Nat) (ho : OwnB W base (.slice A m c) m (p n)) (hl : n ≤ 100000) (hb : base ≤ W.heap.size) :
    ∃ B c' w', (Builtin.append_ #[56, 56] 56 #[v, .slice (some ⟨W.heap.size, 0, none⟩) 1 1]).run Tryd.prog (W.alloc (.cells #[.slice A m c] 66)) = .ok (.slice B (n + 1) c') w' ∧
      TbB w' base (.slice B (n + 1) c') (n + 1) m p ∧ (W.alloc (.cells #[.slice A m c] 66)).grownBy w' v.ownBlock := by
  have hB : Below W.heap.size W (W.alloc (.cells #[.slice A m c] 66)) := (Below.refl _ _).alloc (Nat.le_refl _) _
  have ho5 := ho.ext hB
  obtain ⟨xs, h1, h2, h3⟩ := h
  subst h1
  obtain ⟨B, c', w', hr, h6, hg, ha⟩ := push_tb h2 (.slice A m c) rfl hl hb
  refine ⟨B, c', w', hr, ⟨xs ++ [.slice A m c], by simp, by simpa using h6, fun k hk => ?_⟩, hg⟩
  have hown := ownBelow h2 hB
  by_cases e : k = xs.length
  · subst e
    exact ⟨A, c, by simp, own_grown ho5 hg (own_own_ne ho5 hown (by decide))⟩
  · obtain ⟨A1, c1, e1, o1⟩ := h3 k (by omega)
    have o2 := o1.ext hB
    exact ⟨A1, c1, by rw [List.getElem?_append_left (by omega)]; exact e1, own_grown o2 hg (own_own_ne o2 hown (by decide))⟩
theorem TbB.at_ {A : Option Addr} {c : Nat} (h : TbB W base (.slice A n c) n m p) {k : Nat} (hk : k < n) {i : Nat} (hi : i < m) :
    ∃ g g2 b, A = some ⟨g, 0, none⟩ ∧ g < W.heap.size ∧ W.cell? ⟨g, k, none⟩ = some (.slice (some ⟨g2, 0, none⟩) m b) ∧ g2 < W.heap.size ∧ W.cell? ⟨g2, i, none⟩ = some (.bool (p k i)) := by
  obtain ⟨xs, h1, h2, h3⟩ := h
  obtain ⟨B, b, h4, h5⟩ := h3 k hk
  obtain ⟨g, e1, e2, -, e3⟩ := own_one h2 h4
  obtain ⟨g2, rfl, e5, e6⟩ := h5.at_ hi
  exact ⟨g, g2, b, e1, e2, e3, e5, e6⟩
theorem TbB.shape (h : TbB W base v n m p) : ∃ A c, v = .slice A n c := by
  obtain ⟨xs, h1, h2, h3⟩ := h
  exact own_shape h2
end
/-- a list with one number more, made anew -/
theorem row_new (W : World) (A : Option Addr) (c : Nat) (l : List Int) (x : Int) (hA : LI W W.heap.size A l) (hl : l.length ≤ 100000) :
    ∃ v1 w1, (Builtin.append_ #[36, 36] 36 #[.slice (some ⟨W.heap.size, 0, none⟩) 0 0, .slice A l.length c]).run Tryd.prog (W.alloc (.cells #[] 3)) = .ok v1 w1 ∧
      ∃ B b w2, (Builtin.append_ #[36, 36] 36 #[v1, .slice (some ⟨w1.heap.size, 0, none⟩) 1 1]).run Tryd.prog (w1.alloc (.cells #[.int .i64 x] 3)) = .ok (.slice B (l.length + 1) b) w2 ∧
        OwnJ w2 W.heap.size (.slice B (l.length + 1) b) (l ++ [x]) ∧ Below W.heap.size W w2 := by
  have hB0 : Below W.heap.size W (W.alloc (.cells #[] 3)) := (Below.refl _ _).alloc (Nat.le_refl _) _
  obtain ⟨v1, w1, hr, h2, hg, -⟩ := (OwnJ.made0 W).pushes A c l ((ER.below hA hB0 (Nat.le_refl _)).more hB0.size) (by simp; omega) hB0.size
  rw [List.nil_append] at h2
  have hB1 := hB0.grown hg hB0.size (fun k hk => (World.ownsRow.lt (OwnJ.made0 W) k hk).1)
  have hB2 : Below W.heap.size W (w1.alloc (.cells #[.int .i64 x] 3)) := hB1.alloc hB1.size _
  have hBB : Below w1.heap.size w1 (w1.alloc (.cells #[.int .i64 x] 3)) := (Below.refl _ _).alloc (Nat.le_refl _) _
  obtain ⟨v2, w2, hr2, h3, hg2, -⟩ := (h2.ext hBB).pushes (some ⟨w1.heap.size, 0, none⟩) 1 [x] (fun _ => ⟨w1.heap.size, 0, rfl, by simp, fun k i hk hi => by
    obtain rfl : k = 0 := by simp at hk; omega
    obtain rfl : i = 0 := by omega
    exact (Blk.new w1 3 #[.int .i64 x]).cell 0⟩) (by simp; omega) hB2.size
  obtain ⟨B, b, rfl⟩ := own_shape h3
  have hr3 : _ = _ := hr2
  rw [List.length_append] at hr3
  refine ⟨v1, w1, hr, B, b, w2, hr3, ?_, hB2.grown hg2 hB2.size (fun k hk => (World.ownsRow.lt h2 k hk).1)⟩
  have h4 := h3
  rw [show (l ++ [x]).length = l.length + 1 by simp] at h4
  exact h4
end Go.Proofs.YtmpegkojencbjaaDoor
/- School: great, Check, Special. -/
namespace Go.Proofs.YtmpegkojencbjaaDoor
open Go Go.RowKit Go.Shelf
set_option maxHeartbeats 4000000
set_option maxRecDepth 100000
/-- lengths of a school that can be -/
structure ScZ (s : Sch) : Prop where
  nf : s.fs.length ≤ maxLen
  nr : s.rs.length ≤ maxLen
  ts : ∀ r ∈ s.rs, r.when_.length ≤ maxLen
/-- whether a school is more than is looked at -/
def grB (s : Sch) : Bool := (decide (7 < s.fs.length) || decide (15 < s.rs.length)) || s.rs.any fun r => decide (7 < r.when_.length)
theorem grB_no {s : Sch} (h : grB s = false) : s.fs.length ≤ 7 ∧ s.rs.length ≤ 15 ∧ ∀ r ∈ s.rs, r.when_.length ≤ 7 := by
  unfold grB at h
  rw [Bool.or_eq_false_iff, Bool.or_eq_false_iff] at h
  have h1 := of_decide_eq_false h.1.1
  have h2 := of_decide_eq_false h.1.2
  refine ⟨by omega, by omega, fun r hr => ?_⟩
  have h3 := List.any_eq_false.1 h.2 r hr
  simpa using h3
theorem great_any (d : Ad_) (s : Sch) (w : World) (hd : ScR w w.heap.size d s) (hz : ScZ s) :
    Calls Tryd.prog 29 #[scV d s] w fun e w' => e = .returned (.bool (grB s)) ∧ Below w.heap.size w w' := by
  have hz1 := hz.nf
  have hz2 := hz.nr
  unfold maxLen at hz1 hz2
  have HD := hide hd
  have HZ := hide hz
  obtain ⟨nf, hf⟩ : ∃ n, s.fs.length = n := ⟨_, rfl⟩
  obtain ⟨nr, hr⟩ : ∃ n, s.rs.length = n := ⟨_, rfl⟩
  obtain ⟨Q, hQ⟩ : ∃ n, s.q = n := ⟨_, rfl⟩
  have HN := hide (And.intro hf hr)
  unfold scV
  rw [hf, hr, hQ]
  rw [hf] at hz1
  rw [hr] at hz2
  have HB0 := hide ((Below.refl w.heap.size w).alloc (Nat.le_refl _) (.cells #[.slice d.fa nf d.fc, .int .i64 Q, .slice d.ra nr d.rc] 47))
  have G1 := Blk.new w 47 #[.slice d.fa nf d.fc, .int .i64 Q, .slice d.ra nr d.rc]
  clear hd hz hf hr hQ
  go_enter Tryd.func29, Tryd.ntmps29
  go_upto_region 1 with fail
  generalize (w.alloc (.cells #[.slice d.fa nf d.fc, .int .i64 Q, .slice d.ra nr d.rc] 47)) = w1 at HB0 G1 ⊢
  generalize w.heap.size = G at G1 ⊢
  obtain ⟨g9, g0, g1, g2, -⟩ := blk3 G1
  clear G1
  go_wp2_with fail
  go_loopw [3] (fun i wr => ∃ k : Nat, k ≤ nr ∧ k ≤ 16 ∧ i = .int .i64 k ∧ Hid (∀ j, j < k → (s.rs.getD j r0).when_.length ≤ 7) ∧ Hid (w1 = wr)) (fun i _ => nr - (intOf i).toNat)
  case atStart => exact ⟨0, Nat.zero_le _, by omega, rfl, hide (fun j hj => absurd hj (by omega)), hide rfl⟩
  case round =>
    obtain ⟨k, hk, hk26, rfl, HX, HW⟩ := hrel
    obtain rfl := HW.out
    have hst : IntKind.i64.wrap ((k : Int) + 1) = ((k + 1 : Nat) : Int) := by rw [IntWalk.i64_in _ (by omega)]; omega
    by_cases hlt : k < nr
    · have hlt' : (k : Int) < (nr : Int) := by omega
      by_cases h26 : k < 16
      · have h26' : (k : Int) < 16 := by omega
        have i0 : (0 : Int) ≤ (k : Int) := by omega
        have hkl : k < s.rs.length := by rw [HN.out.2]; exact hlt
        obtain ⟨x, hx⟩ : ∃ x, s.rs.getD k r0 = x := ⟨_, rfl⟩
        obtain ⟨b, off, hra, hb, a0, a1, a2⟩ := HD.out.rs.at_ hkl hx
        rw [hra] at g2 ⊢
        have c0 := (HB0.out.cell (p := ⟨b, off + k * 3, none⟩) hb).trans a0
        have hmem : x ∈ s.rs := by
          rw [← hx, List.getD_eq_getElem?_getD, List.getElem?_eq_getElem hkl]
          exact List.getElem_mem _
        have hxm := HZ.out.ts x hmem
        unfold maxLen at hxm
        have HXX := hide hx
        have HMEM := hide hmem
        obtain ⟨tn, htn⟩ : ∃ n, x.when_.length = n := ⟨_, rfl⟩
        rw [htn] at c0 hxm
        have HTN := hide htn
        clear hx hmem htn a0 a1 a2
        by_cases h20 : 7 < tn
        · have h20' : (7 : Int) < (tn : Int) := by omega
          have hg : grB s = true := by
            unfold grB
            rw [Bool.or_eq_true]
            exact .inr (List.any_eq_true.2 ⟨x, HMEM.out, by rw [HTN.out]; exact decide_eq_true h20⟩)
          have HG := hide hg
          clear hg h20
          go_wp2_with fail
          go_ret
          exact ⟨ret_bool HG.out.symm, HB0.out⟩
        · have h20' : ¬ (7 : Int) < (tn : Int) := by omega
          have HX2 : Hid (∀ j, j < k + 1 → (s.rs.getD j r0).when_.length ≤ 7) := hide (fun j hj => by
            rcases (by omega : j < k ∨ j = k) with h | rfl
            · exact HX.out j h
            · rw [HXX.out, HTN.out]; omega)
          clear h20
          go_wp2_with fail
          go_roundw
          case rel => exact ⟨k + 1, by omega, by omega, by go_num, HX2, by first | exact hide trivial | exact hide rfl⟩
          case measure => simp [intOf]; omega
      · have h26' : ¬ (k : Int) < 16 := by omega
        have h25 : (15 : Int) < (nr : Int) := by omega
        have hg : grB s = true := by
          unfold grB
          rw [Bool.or_eq_true, Bool.or_eq_true, HN.out.2]
          exact .inl (.inr (by simp; omega))
        have HG := hide hg
        clear hg
        by_cases h7 : 7 < nf
        · have h7' : (7 : Int) < (nf : Int) := by omega
          go_wp2_with fail
          go_ret
          exact ⟨ret_bool HG.out.symm, HB0.out⟩
        · have h7' : ¬ (7 : Int) < (nf : Int) := by omega
          go_wp2_with fail
          go_ret
          exact ⟨ret_bool HG.out.symm, HB0.out⟩
    · obtain rfl : k = nr := by omega
      have hnl : ¬ (k : Int) < (k : Int) := by omega
      have hg : grB s = (decide ((7 : Int) < nf) || decide ((15 : Int) < k)) := by
        unfold grB
        have h2 : (s.rs.any fun r => decide (7 < r.when_.length)) = false := by
          rw [List.any_eq_false]
          intro x hx
          obtain ⟨j, hj, rfl⟩ := List.getElem_of_mem hx
          have := HX.out j (by rw [← HN.out.2]; exact hj)
          rw [List.getD_eq_getElem?_getD, List.getElem?_eq_getElem hj] at this
          have h3 : s.rs[j].when_.length ≤ 7 := this
          simp; exact h3
        rw [h2, Bool.or_false, HN.out.1, HN.out.2]
        rw [Bool.eq_iff_iff]; simp; omega
      have HG := hide hg
      clear hg
      by_cases h7 : 7 < nf
      · have h7' : (7 : Int) < (nf : Int) := by omega
        go_wp2_with fail
        go_ret
        exact ⟨ret_bool (by rw [HG.out, decide_eq_true h7']; rfl), HB0.out⟩
      · have h7' : ¬ (7 : Int) < (nf : Int) := by omega
        by_cases h15 : 15 < k
        · have h15' : (15 : Int) < (k : Int) := by omega
          go_wp2_with fail
          go_ret
          exact ⟨ret_bool (by rw [HG.out, decide_eq_true h15', Bool.or_true]), HB0.out⟩
        · have h15' : ¬ (15 : Int) < (k : Int) := by omega
          go_wp2_with fail
          go_ret
          exact ⟨ret_bool (by rw [HG.out, decide_eq_false (show ¬ (15 : Int) < k by omega), decide_eq_false (show ¬ (7 : Int) < nf by omega)]; rfl), HB0.out⟩
theorem Check_any (d : Ad_) (s : Sch) (w : World) (hd : ScR w w.heap.size d s) (hz : ScZ s) :
    Calls Tryd.prog 37 #[scV d s] w fun e w' => e = .returned (.int .i64 (if schB s = true then 0 else 2)) ∧ Below w.heap.size w w' := by
  obtain ⟨nf, hf⟩ : ∃ n, s.fs.length = n := ⟨_, rfl⟩
  obtain ⟨nr, hr⟩ : ∃ n, s.rs.length = n := ⟨_, rfl⟩
  obtain ⟨Q, hQ⟩ : ∃ n, s.q = n := ⟨_, rfl⟩
  have HOP : Hid (∀ W, Below w.heap.size w W → Calls Tryd.prog 62 #[.agg #[.slice d.fa nf d.fc, .int .i64 Q, .slice d.ra nr d.rc]] W (OpPost W d s)) := hide fun W hB => by
    have := open_any d s W (hd.below hB) hz.nf hz.nr
    unfold scV at this
    rw [hf, hr, hQ] at this
    exact this
  unfold scV
  rw [hf, hr, hQ]
  obtain ⟨ck, hck⟩ : ∃ x : Int, (if schB s = true then (0 : Int) else 2) = x := ⟨_, rfl⟩
  rw [hck]
  have HCK := hide hck
  have HB0 := hide ((Below.refl w.heap.size w).alloc (Nat.le_refl _) (.cells #[.slice d.fa nf d.fc, .int .i64 Q, .slice d.ra nr d.rc] 47))
  have G1 := Blk.new w 47 #[.slice d.fa nf d.fc, .int .i64 Q, .slice d.ra nr d.rc]
  clear hd hf hr hQ hz hck
  go_enter Tryd.func37, Tryd.ntmps37
  go_upto_region 1 with fail
  generalize (w.alloc (.cells #[.slice d.fa nf d.fc, .int .i64 Q, .slice d.ra nr d.rc] 47)) = w1 at HB0 G1 ⊢
  generalize w.heap.size = G at G1 ⊢
  obtain ⟨-, g0, g1, g2, -⟩ := blk3 G1
  clear G1
  go_wp2_with fail
  refine (HOP.out w1 HB0.out).mono ?_
  intro e w2 hop
  obtain ⟨p, rfl, hb2, -⟩ := hop.any
  have HB2 := hide (HB0.out.trans (hb2.mono HB0.out.size))
  clear hb2 hop g0 g1 g2
  rcases hs : schB s with _ | _
  · have h : ck = 2 := by rw [← HCK.out, hs]; rfl
    subst h
    clear hs
    go_wp2_with fail
    go_ret
    exact ⟨rfl, HB2.out⟩
  · have h : ck = 0 := by rw [← HCK.out, hs]; rfl
    subst h
    clear hs
    go_wp2_with fail
    go_ret
    exact ⟨rfl, HB2.out⟩
end Go.Proofs.YtmpegkojencbjaaDoor
/- School: the reference's Cases. -/
namespace Go.Proofs.YtmpegkojencbjaaDoor
open Go Go.RowKit Go.Shelf
set_option maxHeartbeats 8000000
set_option maxRecDepth 100000
/-- the m-th case of the first i features -/
def cI (fs : List Int) (i m : Nat) : List Int := (List.range i).map (dg fs i m)
theorem cI_len (fs : List Int) (i m : Nat) : (cI fs i m).length = i := by unfold cI; simp
theorem cI_succ {fs : List Int} {i k ch : Nat} (h : ch < chF fs i) : cI fs (i + 1) (k * chF fs i + ch) = cI fs i k ++ [(ch : Int)] := by
  unfold cI
  rw [List.range_succ, List.map_append, List.map_singleton, dg_last, Nat.mul_comm, Nat.mul_add_mod, Nat.mod_eq_of_lt h]
  congr 1
  refine List.map_congr_left fun j hj => ?_
  have hj := List.mem_range.1 hj
  rw [dg_lo _ _ _ (by omega), Nat.mul_add_div (by omega), Nat.div_eq_of_lt h, Nat.add_zero]
theorem cs_start (W : World) (fs : List Int) (base : Nat) (hb : base ≤ W.heap.size) :
    CsR ((W.alloc (.cells #[] 3)).alloc (.cells #[.slice (some ⟨W.heap.size, 0, none⟩) 0 0] 36)) base (.slice (some ⟨W.heap.size + 1, 0, none⟩) 1 1) (pr fs 0) (cI fs 0) := by
  have hm : ((W.alloc (.cells #[] 3)).alloc (.cells #[.slice (some ⟨W.heap.size, 0, none⟩) 0 0] 36)).heap[W.heap.size + 1]? = some (.cells #[.slice (some ⟨W.heap.size, 0, none⟩) 0 0] 36) := by
    have := heap_alloc_new (W.alloc (.cells #[] 3)) (.cells #[.slice (some ⟨W.heap.size, 0, none⟩) 0 0] 36)
    simpa using this
  refine ⟨[.slice (some ⟨W.heap.size, 0, none⟩) 0 0], rfl, ⟨rfl, .inr ⟨W.heap.size + 1, 1, _, rfl, by omega, hm, Nat.le_refl _, by unfold maxLen; omega, rfl, rfl⟩⟩, fun k hk => ?_⟩
  obtain rfl : k = 0 := by have : pr fs 0 = 1 := rfl; omega
  refine ⟨some ⟨W.heap.size, 0, none⟩, 0, rfl, ?_⟩
  have h := (OwnJ.made0 W).ext (W' := (W.alloc (.cells #[] 3)).alloc (.cells #[.slice (some ⟨W.heap.size, 0, none⟩) 0 0] 36)) ((Below.refl _ _).alloc (Nat.le_refl _) _)
  exact own_low h hb
/-- one more case -/
theorem cs_step {W Wb : World} {base i k ch : Nat} {fs : List Int} {VA : Option Addr} {vc : Nat} {U : Value} (hV : CsR W base (.slice VA (pr fs i) vc) (pr fs i) (cI fs i)) (hU : CsR W base U (k * chF fs i + ch) (cI fs (i + 1)))
    (hk : k < pr fs i) (hc : ch < chF fs i) (hi : i ≤ 100) (hn : k * chF fs i + ch ≤ 100000) (hb : base ≤ W.heap.size) (hB : Below base Wb W) (ha : (Value.slice VA (pr fs i) vc).ownBlock ≠ U.ownBlock) :
    ∃ g B b, VA = some ⟨g, 0, none⟩ ∧ g < W.heap.size ∧ W.cell? ⟨g, k, none⟩ = some (.slice B i b) ∧
      ∃ v1 w1, (Builtin.append_ #[36, 36] 36 #[.slice (some ⟨W.heap.size, 0, none⟩) 0 0, .slice B i b]).run Tryd.prog (W.alloc (.cells #[] 3)) = .ok v1 w1 ∧
      ∃ B2 b2 w2, (Builtin.append_ #[36, 36] 36 #[v1, .slice (some ⟨w1.heap.size, 0, none⟩) 1 1]).run Tryd.prog (w1.alloc (.cells #[.int .i64 (ch : Int)] 3)) = .ok (.slice B2 (i + 1) b2) w2 ∧
      ∃ U' c' w3, (Builtin.append_ #[54, 54] 54 #[U, .slice (some ⟨w2.heap.size, 0, none⟩) 1 1]).run Tryd.prog (w2.alloc (.cells #[.slice B2 (i + 1) b2] 36)) = .ok (.slice U' (k * chF fs i + ch + 1) c') w3 ∧
        CsR w3 base (.slice VA (pr fs i) vc) (pr fs i) (cI fs i) ∧ CsR w3 base (.slice U' (k * chF fs i + ch + 1) c') (k * chF fs i + (ch + 1)) (cI fs (i + 1)) ∧ Below base Wb w3 ∧
        (Value.slice VA (pr fs i) vc).ownBlock ≠ (Value.slice U' (k * chF fs i + ch + 1) c').ownBlock := by
  obtain ⟨g, B, b, e1, e2, e3, e4⟩ := hV.at_ hk
  rw [cI_len] at e3
  obtain ⟨v1, w1, r1, B2, b2, w2, r2, o2, hb2⟩ := row_new W B b (cI fs i k) (ch : Int) e4 (by rw [cI_len]; omega)
  rw [cI_len] at r1 r2 o2
  rw [← cI_succ hc] at o2
  have o2' : OwnJ w2 base (.slice B2 (cI fs (i + 1) (k * chF fs i + ch)).length b2) (cI fs (i + 1) (k * chF fs i + ch)) := by
    rw [cI_len]; exact own_low o2 hb
  have hU2 := hU.ext hb2
  have hV2 := hV.ext hb2
  obtain ⟨U', c', w3, r3, h3, hg, h4⟩ := hU2.push B2 b2 o2' hn (Nat.le_trans hb hb2.size)
  rw [cI_len] at r3 hg
  have hB2 : Below base Wb w2 := hB.trans (hb2.mono hb)
  have hB3 : Below base Wb (w2.alloc (.cells #[.slice B2 (i + 1) b2] 36)) := hB2.alloc (Nat.le_trans hb hb2.size) _
  have hBB : Below w2.heap.size w2 (w2.alloc (.cells #[.slice B2 (i + 1) b2] 36)) := (Below.refl _ _).alloc (Nat.le_refl _) _
  have hU3 := hU2.ext hBB
  have hV3 := hV2.ext hBB
  have hs2 : base ≤ (w2.alloc (.cells #[.slice B2 (i + 1) b2] 36)).heap.size := Nat.le_trans (Nat.le_trans hb hb2.size) hBB.size
  refine ⟨g, B, b, e1, e2, e3, v1, w1, r1, B2, b2, w2, r2, U', c', w3, r3, ?_, h3, ?_, ?_⟩
  · obtain ⟨us, -, hus, -⟩ := hU3
    exact hV3.grown hg (.inr ha) (fun k hk A c ho => own_own_ne ho hus (by decide))
  · obtain ⟨us, -, hus, -⟩ := hU3
    exact hB3.grown hg hs2 (fun k hk => (World.ownsRow.lt hus k hk).1)
  · rcases h4 with h4 | h4
    · rw [h4]; exact ha
    · rw [h4, e1]
      intro h
      have h5 : g = w2.heap.size + 1 := by simpa [Value.ownBlock] using h
      have := hb2.size
      omega
theorem pr_bd {fs : List Int} (hf : fsB fs = true) (hl : fs.length ≤ 5) {i : Nat} (hi : i ≤ fs.length) : pr fs i ≤ 1024 := by
  have key : ∀ n, n ≤ fs.length → pr fs n ≤ 4 ^ n := fun n => by
    induction n with
    | zero => intro _; exact Nat.le_refl _
    | succ n ih =>
      intro hn
      have h1 := ih (by omega)
      have h2 := fsB_at hf n (by omega)
      have h3 : chF fs n ≤ 4 := by unfold chF; omega
      show pr fs n * chF fs n ≤ 4 ^ n * 4
      exact Nat.mul_le_mul h1 h3
  have h1 := key i hi
  have h2 : 4 ^ i ≤ 4 ^ 5 := Nat.pow_le_pow_right (by decide) (by omega)
  omega
theorem refCases_any (d : Ad_) (s : Sch) (w : World) (hd : ScR w w.heap.size d s) (hs : schB s = true) :
    Calls Tryd.prog 34 #[scV d s] w fun e w' => ∃ v, e = .returned v ∧ CsR w' w.heap.size v (pr s.fs s.fs.length) (clL s.fs) ∧ Below w.heap.size w w' := by
  have hok := schB_ok hs
  have HF := hide hd.fs
  have HFB := hide hok.fs
  have HPR := hide (fun i (hi : i ≤ s.fs.length) => pr_bd hok.fs hok.nf5 hi)
  obtain ⟨nf, hf⟩ : ∃ n, s.fs.length = n := ⟨_, rfl⟩
  obtain ⟨nr, hr⟩ : ∃ n, s.rs.length = n := ⟨_, rfl⟩
  obtain ⟨Q, hQ⟩ : ∃ n, s.q = n := ⟨_, rfl⟩
  obtain ⟨fa, hfa⟩ : ∃ x, d.fa = x := ⟨_, rfl⟩
  have HN := hide hf
  have hnf5 := hok.nf5
  rw [hfa] at HF
  unfold scV
  rw [hf, hr, hQ, hfa]
  rw [hf] at hnf5
  have HB0 := hide ((Below.refl w.heap.size w).alloc (Nat.le_refl _) (.cells #[.slice fa nf d.fc, .int .i64 Q, .slice d.ra nr d.rc] 47))
  have G1 := Blk.new w 47 #[.slice fa nf d.fc, .int .i64 Q, .slice d.ra nr d.rc]
  clear hd hf hr hQ hok hs hfa
  go_enter Tryd.func34, Tryd.ntmps34
  go_upto_region 1 with fail
  generalize (w.alloc (.cells #[.slice fa nf d.fc, .int .i64 Q, .slice d.ra nr d.rc] 47)) = w1 at HB0 G1 ⊢
  generalize w.heap.size = G at G1 ⊢
  have HG1 := hide G1
  clear G1
  go_upto_region 2 with fail
  have HC0 := hide (cs_start w1 s.fs w1.heap.size (Nat.le_refl _))
  have HB1 := hide (((Below.refl w1.heap.size w1).alloc (Nat.le_refl _) (.cells #[] 3)).alloc (by simp) (.cells #[.slice (some ⟨w1.heap.size, 0, none⟩) 0 0] 36))
  generalize ((w1.alloc (.cells #[] 3)).alloc (.cells #[.slice (some ⟨w1.heap.size, 0, none⟩) 0 0] 36)) = w3 at HC0 HB1 ⊢
  obtain ⟨T0, hT0⟩ : ∃ x, Value.slice (some ⟨w1.heap.size + 1, 0, none⟩) 1 1 = x := ⟨_, rfl⟩
  rw [hT0] at HC0 ⊢
  clear hT0
  go_wp2_with fail
  go_loopw [3, 4] (fun v3 v4 wr => ∃ i : Nat, i ≤ nf ∧ v4 = .int .i64 i ∧ Hid (CsR wr w1.heap.size v3 (pr s.fs i) (cI s.fs i)) ∧ Hid (Below w1.heap.size w1 wr)) (fun _ v4 _ => nf - (intOf v4).toNat)
  case atStart => exact ⟨0, Nat.zero_le _, rfl, HC0, HB1⟩
  case round =>
    obtain ⟨i, hi, rfl, HC, HB⟩ := hrel
    have HGr := hide (HG1.out.ext HB.out)
    obtain ⟨-, g0, -, -, -⟩ := blk3 HGr.out
    obtain ⟨VA, vc, hv⟩ := HC.out.shape
    subst hv
    obtain ⟨P, hP⟩ : ∃ P, pr s.fs i = P := ⟨_, rfl⟩
    have hP1 := HPR.out i (by rw [HN.out]; exact hi)
    rw [hP] at hP1
    have HP := hide hP
    rw [hP]
    clear hP
    by_cases hlt : i < nf
    · -- BEGIN1
      have hlt' : (i : Int) < (nf : Int) := by omega
      have i0 : (0 : Int) ≤ (i : Int) := by omega
      have hsti : IntKind.i64.wrap ((i : Int) + 1) = ((i + 1 : Nat) : Int) := by rw [IntWalk.i64_in _ (by omega)]; omega
      have hin : i < s.fs.length := by rw [HN.out]; exact hlt
      obtain ⟨fb, fo, hfa, hfb, a0⟩ := VR1.at_ HF.out hin
      have hb4 := fsB_at HFB.out i hin
      obtain ⟨C, hC⟩ : ∃ C : Nat, chF s.fs i = C := ⟨_, rfl⟩
      have hC2 : s.fs.getD i 0 = (C : Int) := by rw [← hC]; unfold chF; omega
      rw [hC2] at a0 hb4
      have HFI : Hid (∀ W, Below w1.heap.size w1 W → W.cell? ⟨fb, fo + i, none⟩ = some (.int .i64 (C : Int))) := hide (fun W h => ((HB0.out.trans (h.mono HB0.out.size)).cell (p := ⟨fb, fo + i, none⟩) hfb).trans a0)
      have HCC := hide hC
      have C1 : 1 ≤ C := by omega
      have C4 : C ≤ 4 := by omega
      subst hfa
      clear a0 hC hC2 hb4 hin
      go_upto_region 6 with fail
      have HU0 := hide (CsR.made0 wr (cI s.fs (i + 1)))
      have HBa : Hid (Below wr.heap.size wr (wr.alloc (.cells #[] 36))) := hide ((Below.refl _ _).alloc (Nat.le_refl _) _)
      have HB2 := hide (HB.out.trans (HBa.out.mono HB.out.size))
      have HV2 := hide (HC.out.ext HBa.out)
      have HU2 := hide (HU0.out.low HB.out.size)
      have hap : (Value.slice VA (pr s.fs i) vc).ownBlock ≠ (Value.slice (some ⟨wr.heap.size, 0, none⟩) 0 0).ownBlock := by
        obtain ⟨xs, -, hx, -⟩ := HC.out
        intro h
        have := (World.ownsRow.lt hx wr.heap.size h).2
        omega
      have HAP := hide hap
      clear hap HU0 g0
      generalize (wr.alloc (.cells #[] 36)) = w4 at HB2 HV2 HU2 ⊢
      obtain ⟨U0, hU0⟩ : ∃ x, Value.slice (some ⟨wr.heap.size, 0, none⟩) 0 0 = x := ⟨_, rfl⟩
      rw [hU0] at HU2 HAP ⊢
      clear hU0 HBa HB HC HGr
      go_wp2_with fail
      go_loopw [5, 6] (fun v5 v6 wr => ∃ k : Nat, k ≤ P ∧ v6 = .int .i64 k ∧ Hid (CsR wr w1.heap.size (.slice VA (pr s.fs i) vc) (pr s.fs i) (cI s.fs i)) ∧ Hid (CsR wr w1.heap.size v5 (k * C) (cI s.fs (i + 1))) ∧ Hid (Below w1.heap.size w1 wr) ∧ Hid ((Value.slice VA (pr s.fs i) vc).ownBlock ≠ v5.ownBlock)) (fun _ v6 _ => P - (intOf v6).toNat)
      case atStart => exact ⟨0, Nat.zero_le _, rfl, HV2, by rw [Nat.zero_mul]; exact HU2, HB2, HAP⟩
      case round =>
        obtain ⟨k, hk, rfl, HV, HU, HB, HA⟩ := hrel
        by_cases hkl : k < P
        · have hkl' : (k : Int) < (P : Int) := by omega
          have k0 : (0 : Int) ≤ (k : Int) := by omega
          have hstk : IntKind.i64.wrap ((k : Int) + 1) = ((k + 1 : Nat) : Int) := by rw [IntWalk.i64_in _ (by omega)]; omega
          clear HV2 HU2 HB2 HAP
          go_wp2_with fail
          go_loopw [5, 7] (fun v5 v7 wr => ∃ ch : Nat, ch ≤ C ∧ v7 = .int .i64 ch ∧ Hid (CsR wr w1.heap.size (.slice VA (pr s.fs i) vc) (pr s.fs i) (cI s.fs i)) ∧ Hid (CsR wr w1.heap.size v5 (k * C + ch) (cI s.fs (i + 1))) ∧ Hid (Below w1.heap.size w1 wr) ∧ Hid ((Value.slice VA (pr s.fs i) vc).ownBlock ≠ v5.ownBlock)) (fun _ v7 _ => C - (intOf v7).toNat)
          case atStart => exact ⟨0, Nat.zero_le _, rfl, HV, HU, HB, HA⟩
          case round =>
            obtain ⟨ch, hch, rfl, HV3, HU3, HB3, HA3⟩ := hrel
            have HGr := hide (HG1.out.ext HB3.out)
            obtain ⟨-, g0, -, -, -⟩ := blk3 HGr.out
            have f0 := HFI.out _ HB3.out
            by_cases hcl : ch < C
            · have hcl' : (ch : Int) < (C : Int) := by omega
              have hstc : IntKind.i64.wrap ((ch : Int) + 1) = ((ch + 1 : Nat) : Int) := by rw [IntWalk.i64_in _ (by omega)]; omega
              obtain ⟨g, B, b, e1, e2, e3, v1, w1', r1, B2, b2, w2, r2, U', c', w4', r3, n1, n2, n3, n4⟩ := cs_step (i := i) (k := k) (ch := ch) HV3.out (by rw [HCC.out]; exact HU3.out) (by rw [HP.out]; exact hkl) (by rw [HCC.out]; exact hcl) (by omega) (by rw [HCC.out]; have : k * C ≤ 1024 * 4 := Nat.mul_le_mul (by omega) C4; omega) HB3.out.size HB3.out HA3.out
              rw [HCC.out] at r3 n2 n4
              subst e1
              have R1 := hide r1
              have R2 := hide r2
              have R3 := hide r3
              have N1 := hide n1
              have N2 := hide n2
              have N3 := hide n3
              have N4 := hide n4
              clear r1 r2 r3 n1 n2 n3 n4
              go_wp2_with (at_builtin; first | refine wpList_append_run rfl (.tmp 34) (.tmp 38) 36 rfl rfl rfl R1.out ?_ | refine wpList_append_run rfl (.tmp 39) (.tmp 41) 36 rfl rfl rfl R2.out ?_ | refine wpList_append_run rfl (.tmp 33) (.tmp 43) 54 rfl rfl rfl R3.out ?_)
              go_roundw
              case rel => exact ⟨ch + 1, by omega, by go_num, N1, N2, N3, N4⟩
              case measure => simp [intOf]; omega
            · obtain rfl : ch = C := by omega
              have hnl : ¬ (ch : Int) < (ch : Int) := by omega
              have HU4 : Hid (CsR wr w1.heap.size _ ((k + 1) * ch) (cI s.fs (i + 1))) := hide (by rw [Nat.add_mul, Nat.one_mul]; exact HU3.out)
              go_wp2_with fail
              go_roundw
              case rel => exact ⟨k + 1, by omega, by go_num, HV3, HU4, HB3, HA3⟩
              case measure => simp [intOf]; omega
        · obtain rfl : k = P := by omega
          have hnl : ¬ (k : Int) < (k : Int) := by omega
          have HU4 : Hid (CsR wr w1.heap.size _ (pr s.fs (i + 1)) (cI s.fs (i + 1))) := hide (by
            show CsR _ _ _ (pr s.fs i * chF s.fs i) _
            rw [HP.out, HCC.out]; exact HU.out)
          go_wp2_with fail
          go_roundw
          case rel => exact ⟨i + 1, by omega, by go_num, HU4, HB⟩
          case measure => simp [intOf]; omega
      -- END1
    · obtain rfl : i = nf := by omega
      have hnl : ¬ (i : Int) < (i : Int) := by omega
      go_wp2_with fail
      go_ret
      refine ⟨_, rfl, ?_, HB0.out.trans (HB.out.mono HB0.out.size)⟩
      have h := HC.out.low HB0.out.size
      rw [← HP.out]
      rw [← HN.out] at h ⊢
      exact h
end Go.Proofs.YtmpegkojencbjaaDoor
/- School: the reference's Case and Applies. -/
namespace Go.Proofs.YtmpegkojencbjaaDoor
open List renaming getElem_toArray → glA, getElem_cons_zero → glB, getElem_cons_succ → glC, setIfInBounds_toArray → glD, set_cons_zero → glE, set_cons_succ → glF
open Go Go.RowKit Go.Shelf
set_option maxHeartbeats 4000000
set_option maxRecDepth 100000
theorem ic_no {fs c : List Int} {k : Nat} (hk : k < fs.length) (h : ¬ (0 ≤ c.getD k 0 ∧ c.getD k 0 ≤ fs.getD k 0 - 1)) : icB fs c = false := by
  cases h1 : icB fs c with
  | false => rfl
  | true => exact absurd ((ic_iff.1 h1).2 k hk) h
theorem refCase_any (d : Ad_) (s : Sch) (A : Option Addr) (cc : Nat) (c : List Int) (w : World) (hd : ScR w w.heap.size d s) (hnf : s.fs.length ≤ maxLen) (hA : LI w w.heap.size A c) :
    Calls Tryd.prog 40 #[scV d s, .slice A c.length cc] w fun e w' => e = .returned (.bool (icB s.fs c)) ∧ Below w.heap.size w w' := by
  unfold maxLen at hnf
  have HFS := hide hd.fs
  have HA := hide hA
  obtain ⟨nf, hf⟩ : ∃ n, s.fs.length = n := ⟨_, rfl⟩
  obtain ⟨nr, hr⟩ : ∃ n, s.rs.length = n := ⟨_, rfl⟩
  obtain ⟨Q, hQ⟩ : ∃ n, s.q = n := ⟨_, rfl⟩
  obtain ⟨nc, hc⟩ : ∃ n, c.length = n := ⟨_, rfl⟩
  have HN := hide (And.intro hf hc)
  unfold scV
  rw [hf, hr, hQ, hc]
  rw [hf] at hnf
  have HB0 := hide ((Below.refl w.heap.size w).alloc (Nat.le_refl _) (.cells #[.slice d.fa nf d.fc, .int .i64 Q, .slice d.ra nr d.rc] 47))
  have G1 := Blk.new w 47 #[.slice d.fa nf d.fc, .int .i64 Q, .slice d.ra nr d.rc]
  clear hd hA hf hr hQ hc
  go_enter Tryd.func40, Tryd.ntmps40
  go_upto_region 1 with fail
  generalize (w.alloc (.cells #[.slice d.fa nf d.fc, .int .i64 Q, .slice d.ra nr d.rc] 47)) = w1 at HB0 G1 ⊢
  generalize w.heap.size = G at G1 ⊢
  have HG1 := hide G1
  obtain ⟨g9, g0, g1, g2, -⟩ := blk3 G1
  clear G1
  by_cases hlen : nc = nf
  rotate_left
  · have hne : ¬ ((nc : Int) = (nf : Int)) := by omega
    have hic : icB s.fs c = false := by
      unfold icB
      rw [HN.out.1, HN.out.2, decide_eq_false hlen]; rfl
    have HIC := hide hic
    clear hic
    go_wp2_with fail
    go_ret
    exact ⟨ret_bool HIC.out.symm, HB0.out⟩
  subst hlen
  go_wp2_with fail
  clear g0 g1 g2 g9
  go_loopw [5] (fun i wr => ∃ k : Nat, k ≤ nc ∧ i = .int .i64 k ∧ Hid (∀ j, j < k → 0 ≤ c.getD j 0 ∧ c.getD j 0 ≤ s.fs.getD j 0 - 1) ∧ Hid (Below w1.heap.size w1 wr)) (fun i _ => nc - (intOf i).toNat)
  case atStart => exact ⟨0, Nat.zero_le _, rfl, hide (fun j hj => absurd hj (by omega)), hide (Below.refl _ _)⟩
  case round =>
    obtain ⟨k, hk, rfl, HX, HBW⟩ := hrel
    have HBF := hide (HB0.out.trans (HBW.out.mono HB0.out.size))
    by_cases hlt : k < nc
    · have hlt' : (k : Int) < (nc : Int) := by omega
      have i0 : (0 : Int) ≤ (k : Int) := by omega
      have hst : IntKind.i64.wrap ((k : Int) + 1) = ((k + 1 : Nat) : Int) := by rw [IntWalk.i64_in _ (by omega)]; omega
      obtain ⟨x, hx⟩ : ∃ e, c.getD k 0 = e := ⟨_, rfl⟩
      obtain ⟨y, hy⟩ : ∃ f, s.fs.getD k 0 = f := ⟨_, rfl⟩
      obtain ⟨xb, xo, rfl, hxb, a0⟩ := VR1.at_ HA.out (by rw [HN.out.2]; exact hlt)
      obtain ⟨yb, yo, hfa, hyb, b0⟩ := VR1.at_ HFS.out (by rw [HN.out.1]; exact hlt)
      rw [hx] at a0
      rw [hy] at b0
      have HE := hide (And.intro hx hy)
      clear hx hy
      have HS : Hid (∀ W, Below w1.heap.size w1 W → (W.cell? ⟨xb, xo + k, none⟩ = some (.int .i64 x) ∧ W.cell? ⟨G, 0, none⟩ = some (.slice (some ⟨yb, yo, none⟩) nc d.fc) ∧ W.cell? ⟨yb, yo + k, none⟩ = some (.int .i64 y))) := hide fun W h => by
        have h2 := HB0.out.trans (h.mono HB0.out.size)
        have h3 := (HG1.out.ext h).cell 0
        rw [hfa] at h3
        exact ⟨(h2.cell (p := ⟨xb, xo + k, none⟩) hxb).trans a0, h3, (h2.cell (p := ⟨yb, yo + k, none⟩) hyb).trans b0⟩
      clear a0 b0 hfa
      go_upto_region 6 with fail
      have Bd := hide (HBW.out.trans ((Below.refl wr.heap.size wr).drew.mono HBW.out.size))
      have BF := hide (HB0.out.trans (Bd.out.mono HB0.out.size))
      refine wp_region_J (fun W : World => (W.cell? ⟨xb, xo + k, none⟩ = some (.int .i64 x) ∧ W.cell? ⟨G, 0, none⟩ = some (.slice (some ⟨yb, yo, none⟩) nc d.fc) ∧ W.cell? ⟨yb, yo + k, none⟩ = some (.int .i64 y))) (by kernel_rfl) ?_
      generalize wr.drew = wd at Bd BF ⊢
      refine wpAnyJ_take 0 (v := ?_) (by first | exact hF | exact wideFn) (HS.out _ Bd.out) rfl (by kernel_rfl) (by kernel_rfl) (by kernel_rfl) (by kernel_rfl) rfl ?_ (by first | exact fun _ _ _ h => h | exact fun _ _ _ h => hQ2 _ _ _ _ _ h) ?_
      rotate_left
      · intro W hSW
        simp only [glA, glB, glC]
        (try dsimp only at hSW)
        go_simp
        with_reducible rfl
      (try simp only [glA, glB, glC, Act.put, glD, glE, glF])
      refine wpAnyJ_take 1 (v := ?_) (by first | exact hF | exact wideFn) (HS.out _ Bd.out) rfl (by kernel_rfl) (by kernel_rfl) (by kernel_rfl) (by kernel_rfl) rfl ?_ (by first | exact fun _ _ _ h => h | exact fun _ _ _ h => hQ2 _ _ _ _ _ h) ?_
      rotate_left
      · intro W hSW
        simp only [glA, glB, glC]
        (try dsimp only at hSW)
        go_simp
        with_reducible rfl
      (try simp only [glA, glB, glC, Act.put, glD, glE, glF])
      refine wpAnyJ_take 2 (v := ?_) (by first | exact hF | exact wideFn) (HS.out _ Bd.out) rfl (by kernel_rfl) (by kernel_rfl) (by kernel_rfl) (by kernel_rfl) rfl ?_ (by first | exact fun _ _ _ h => h | exact fun _ _ _ h => hQ2 _ _ _ _ _ h) ?_
      rotate_left
      · intro W hSW
        simp only [glA, glB, glC]
        (try dsimp only at hSW)
        go_simp
        with_reducible rfl
      (try simp only [glA, glB, glC, Act.put, glD, glE, glF])
      refine wpAnyJ_take 3 (v := ?_) (by first | exact hF | exact wideFn) (HS.out _ Bd.out) rfl (by kernel_rfl) (by kernel_rfl) (by kernel_rfl) (by kernel_rfl) rfl ?_ (by first | exact fun _ _ _ h => h | exact fun _ _ _ h => hQ2 _ _ _ _ _ h) ?_
      rotate_left
      · intro W hSW
        simp only [glA, glB, glC]
        (try dsimp only at hSW)
        go_simp
        with_reducible rfl
      (try simp only [glA, glB, glC, Act.put, glD, glE, glF])
      refine wpAnyJ_take 4 (v := ?_) (by first | exact hF | exact wideFn) (HS.out _ Bd.out) rfl (by kernel_rfl) (by kernel_rfl) (by kernel_rfl) (by kernel_rfl) rfl ?_ (by first | exact fun _ _ _ h => h | exact fun _ _ _ h => hQ2 _ _ _ _ _ h) ?_
      rotate_left
      · intro W hSW
        simp only [glA, glB, glC]
        (try dsimp only at hSW)
        go_simp
        with_reducible rfl
      (try simp only [glA, glB, glC, Act.put, glD, glE, glF])
      by_cases q0 : x < 0
      · have qq := trivial
        refine wpAnyJ_take 5 (v := ?_) (by first | exact hF | exact wideFn) (HS.out _ Bd.out) rfl (by kernel_rfl) (by kernel_rfl) (by kernel_rfl) (by kernel_rfl) rfl ?_ (by first | exact fun _ _ _ h => h | exact fun _ _ _ h => hQ2 _ _ _ _ _ h) ?_
        rotate_left
        · intro W hSW
          simp only [glA, glB, glC]
          (try dsimp only at hSW)
          go_simp
          with_reducible rfl
        (try simp only [glA, glB, glC, Act.put, glD, glE, glF])
        refine wpAnyJ_skip 6 (by first | exact hF | exact wideFn) (HS.out _ Bd.out) rfl (by kernel_rfl) (by kernel_rfl) (by kernel_rfl) (by kernel_rfl) rfl (by first | exact fun _ _ _ h => h | exact fun _ _ _ h => hQ2 _ _ _ _ _ h) ?_
        (try simp only [glA, glB, glC, Act.put, glD, glE, glF])
        refine wpAnyJ_skip 7 (by first | exact hF | exact wideFn) (HS.out _ Bd.out) rfl (by kernel_rfl) (by kernel_rfl) (by kernel_rfl) (by kernel_rfl) rfl (by first | exact fun _ _ _ h => h | exact fun _ _ _ h => hQ2 _ _ _ _ _ h) ?_
        (try simp only [glA, glB, glC, Act.put, glD, glE, glF])
        refine wpAnyJ_skip 8 (by first | exact hF | exact wideFn) (HS.out _ Bd.out) rfl (by kernel_rfl) (by kernel_rfl) (by kernel_rfl) (by kernel_rfl) rfl (by first | exact fun _ _ _ h => h | exact fun _ _ _ h => hQ2 _ _ _ _ _ h) ?_
        (try simp only [glA, glB, glC, Act.put, glD, glE, glF])
        refine wpAnyJ_skip 9 (by first | exact hF | exact wideFn) (HS.out _ Bd.out) rfl (by kernel_rfl) (by kernel_rfl) (by kernel_rfl) (by kernel_rfl) rfl (by first | exact fun _ _ _ h => h | exact fun _ _ _ h => hQ2 _ _ _ _ _ h) ?_
        (try simp only [glA, glB, glC, Act.put, glD, glE, glF])
        refine wpAnyJ_skip 10 (by first | exact hF | exact wideFn) (HS.out _ Bd.out) rfl (by kernel_rfl) (by kernel_rfl) (by kernel_rfl) (by kernel_rfl) rfl (by first | exact fun _ _ _ h => h | exact fun _ _ _ h => hQ2 _ _ _ _ _ h) ?_
        (try simp only [glA, glB, glC, Act.put, glD, glE, glF])
        refine wpAnyJ_skip 11 (by first | exact hF | exact wideFn) (HS.out _ Bd.out) rfl (by kernel_rfl) (by kernel_rfl) (by kernel_rfl) (by kernel_rfl) rfl (by first | exact fun _ _ _ h => h | exact fun _ _ _ h => hQ2 _ _ _ _ _ h) ?_
        (try simp only [glA, glB, glC, Act.put, glD, glE, glF])
        refine wpAnyJ_skip 12 (by first | exact hF | exact wideFn) (HS.out _ Bd.out) rfl (by kernel_rfl) (by kernel_rfl) (by kernel_rfl) (by kernel_rfl) rfl (by first | exact fun _ _ _ h => h | exact fun _ _ _ h => hQ2 _ _ _ _ _ h) ?_
        (try simp only [glA, glB, glC, Act.put, glD, glE, glF])
        refine wpAnyJ_skip 13 (by first | exact hF | exact wideFn) (HS.out _ Bd.out) rfl (by kernel_rfl) (by kernel_rfl) (by kernel_rfl) (by kernel_rfl) rfl (by first | exact fun _ _ _ h => h | exact fun _ _ _ h => hQ2 _ _ _ _ _ h) ?_
        (try simp only [glA, glB, glC, Act.put, glD, glE, glF])
        refine wpAnyJ_skip 14 (by first | exact hF | exact wideFn) (HS.out _ Bd.out) rfl (by kernel_rfl) (by kernel_rfl) (by kernel_rfl) (by kernel_rfl) rfl (by first | exact fun _ _ _ h => h | exact fun _ _ _ h => hQ2 _ _ _ _ _ h) ?_
        (try simp only [glA, glB, glC, Act.put, glD, glE, glF])
        refine wpAnyJ_skip 15 (by first | exact hF | exact wideFn) (HS.out _ Bd.out) rfl (by kernel_rfl) (by kernel_rfl) (by kernel_rfl) (by kernel_rfl) rfl (by first | exact fun _ _ _ h => h | exact fun _ _ _ h => hQ2 _ _ _ _ _ h) ?_
        (try simp only [glA, glB, glC, Act.put, glD, glE, glF])
        refine wpAnyJ_take 16 (v := ?_) (by first | exact hF | exact wideFn) (HS.out _ Bd.out) rfl (by kernel_rfl) (by kernel_rfl) (by kernel_rfl) (by kernel_rfl) rfl ?_ (by first | exact fun _ _ _ h => h | exact fun _ _ _ h => hQ2 _ _ _ _ _ h) ?_
        rotate_left
        · intro W hSW
          simp only [glA, glB, glC]
          (try dsimp only at hSW)
          go_simp
          with_reducible rfl
        (try simp only [glA, glB, glC, Act.put, glD, glE, glF])
        refine wpAnyJ_done (by kernel_rfl) ?_
        go_wp2_with fail
        go_ret
        exact ⟨ret_bool (ic_no (fs := s.fs) (c := c) (k := k) (by rw [HN.out.1]; exact hlt) (by rw [HE.out.1, HE.out.2]; omega)).symm, BF.out⟩
      · have qq := trivial
        refine wpAnyJ_take 5 (v := ?_) (by first | exact hF | exact wideFn) (HS.out _ Bd.out) rfl (by kernel_rfl) (by kernel_rfl) (by kernel_rfl) (by kernel_rfl) rfl ?_ (by first | exact fun _ _ _ h => h | exact fun _ _ _ h => hQ2 _ _ _ _ _ h) ?_
        rotate_left
        · intro W hSW
          simp only [glA, glB, glC]
          (try dsimp only at hSW)
          go_simp
          with_reducible rfl
        (try simp only [glA, glB, glC, Act.put, glD, glE, glF])
        refine wpAnyJ_take 6 (v := ?_) (by first | exact hF | exact wideFn) (HS.out _ Bd.out) rfl (by kernel_rfl) (by kernel_rfl) (by kernel_rfl) (by kernel_rfl) rfl ?_ (by first | exact fun _ _ _ h => h | exact fun _ _ _ h => hQ2 _ _ _ _ _ h) ?_
        rotate_left
        · intro W hSW
          simp only [glA, glB, glC]
          (try dsimp only at hSW)
          go_simp
          with_reducible rfl
        (try simp only [glA, glB, glC, Act.put, glD, glE, glF])
        refine wpAnyJ_take 7 (v := ?_) (by first | exact hF | exact wideFn) (HS.out _ Bd.out) rfl (by kernel_rfl) (by kernel_rfl) (by kernel_rfl) (by kernel_rfl) rfl ?_ (by first | exact fun _ _ _ h => h | exact fun _ _ _ h => hQ2 _ _ _ _ _ h) ?_
        rotate_left
        · intro W hSW
          simp only [glA, glB, glC]
          (try dsimp only at hSW)
          go_simp
          with_reducible rfl
        (try simp only [glA, glB, glC, Act.put, glD, glE, glF])
        refine wpAnyJ_take 8 (v := ?_) (by first | exact hF | exact wideFn) (HS.out _ Bd.out) rfl (by kernel_rfl) (by kernel_rfl) (by kernel_rfl) (by kernel_rfl) rfl ?_ (by first | exact fun _ _ _ h => h | exact fun _ _ _ h => hQ2 _ _ _ _ _ h) ?_
        rotate_left
        · intro W hSW
          simp only [glA, glB, glC]
          (try dsimp only at hSW)
          go_simp
          with_reducible rfl
        (try simp only [glA, glB, glC, Act.put, glD, glE, glF])
        refine wpAnyJ_take 9 (v := ?_) (by first | exact hF | exact wideFn) (HS.out _ Bd.out) rfl (by kernel_rfl) (by kernel_rfl) (by kernel_rfl) (by kernel_rfl) rfl ?_ (by first | exact fun _ _ _ h => h | exact fun _ _ _ h => hQ2 _ _ _ _ _ h) ?_
        rotate_left
        · intro W hSW
          simp only [glA, glB, glC]
          (try dsimp only at hSW)
          go_simp
          with_reducible rfl
        (try simp only [glA, glB, glC, Act.put, glD, glE, glF])
        refine wpAnyJ_take 10 (v := ?_) (by first | exact hF | exact wideFn) (HS.out _ Bd.out) rfl (by kernel_rfl) (by kernel_rfl) (by kernel_rfl) (by kernel_rfl) rfl ?_ (by first | exact fun _ _ _ h => h | exact fun _ _ _ h => hQ2 _ _ _ _ _ h) ?_
        rotate_left
        · intro W hSW
          simp only [glA, glB, glC]
          (try dsimp only at hSW)
          go_simp
          with_reducible rfl
        (try simp only [glA, glB, glC, Act.put, glD, glE, glF])
        refine wpAnyJ_take 11 (v := ?_) (by first | exact hF | exact wideFn) (HS.out _ Bd.out) rfl (by kernel_rfl) (by kernel_rfl) (by kernel_rfl) (by kernel_rfl) rfl ?_ (by first | exact fun _ _ _ h => h | exact fun _ _ _ h => hQ2 _ _ _ _ _ h) ?_
        rotate_left
        · intro W hSW
          simp only [glA, glB, glC]
          (try dsimp only at hSW)
          go_simp
          with_reducible rfl
        (try simp only [glA, glB, glC, Act.put, glD, glE, glF])
        refine wpAnyJ_take 12 (v := ?_) (by first | exact hF | exact wideFn) (HS.out _ Bd.out) rfl (by kernel_rfl) (by kernel_rfl) (by kernel_rfl) (by kernel_rfl) rfl ?_ (by first | exact fun _ _ _ h => h | exact fun _ _ _ h => hQ2 _ _ _ _ _ h) ?_
        rotate_left
        · intro W hSW
          simp only [glA, glB, glC]
          (try dsimp only at hSW)
          go_simp
          with_reducible rfl
        (try simp only [glA, glB, glC, Act.put, glD, glE, glF])
        refine wpAnyJ_take 13 (v := ?_) (by first | exact hF | exact wideFn) (HS.out _ Bd.out) rfl (by kernel_rfl) (by kernel_rfl) (by kernel_rfl) (by kernel_rfl) rfl ?_ (by first | exact fun _ _ _ h => h | exact fun _ _ _ h => hQ2 _ _ _ _ _ h) ?_
        rotate_left
        · intro W hSW
          simp only [glA, glB, glC]
          (try dsimp only at hSW)
          go_simp
          with_reducible rfl
        (try simp only [glA, glB, glC, Act.put, glD, glE, glF])
        refine wpAnyJ_take 14 (v := ?_) (by first | exact hF | exact wideFn) (HS.out _ Bd.out) rfl (by kernel_rfl) (by kernel_rfl) (by kernel_rfl) (by kernel_rfl) rfl ?_ (by first | exact fun _ _ _ h => h | exact fun _ _ _ h => hQ2 _ _ _ _ _ h) ?_
        rotate_left
        · intro W hSW
          simp only [glA, glB, glC]
          (try dsimp only at hSW)
          go_simp
          with_reducible rfl
        (try simp only [glA, glB, glC, Act.put, glD, glE, glF])
        by_cases q1 : y ≤ x
        · have qq := trivial
          refine wpAnyJ_take 15 (v := ?_) (by first | exact hF | exact wideFn) (HS.out _ Bd.out) rfl (by kernel_rfl) (by kernel_rfl) (by kernel_rfl) (by kernel_rfl) rfl ?_ (by first | exact fun _ _ _ h => h | exact fun _ _ _ h => hQ2 _ _ _ _ _ h) ?_
          rotate_left
          · intro W hSW
            simp only [glA, glB, glC]
            (try dsimp only at hSW)
            go_simp
            with_reducible rfl
          (try simp only [glA, glB, glC, Act.put, glD, glE, glF])
          refine wpAnyJ_take 16 (v := ?_) (by first | exact hF | exact wideFn) (HS.out _ Bd.out) rfl (by kernel_rfl) (by kernel_rfl) (by kernel_rfl) (by kernel_rfl) rfl ?_ (by first | exact fun _ _ _ h => h | exact fun _ _ _ h => hQ2 _ _ _ _ _ h) ?_
          rotate_left
          · intro W hSW
            simp only [glA, glB, glC]
            (try dsimp only at hSW)
            go_simp
            with_reducible rfl
          (try simp only [glA, glB, glC, Act.put, glD, glE, glF])
          refine wpAnyJ_done (by kernel_rfl) ?_
          go_wp2_with fail
          go_ret
          exact ⟨ret_bool (ic_no (fs := s.fs) (c := c) (k := k) (by rw [HN.out.1]; exact hlt) (by rw [HE.out.1, HE.out.2]; omega)).symm, BF.out⟩
        · have qq := trivial
          refine wpAnyJ_take 15 (v := ?_) (by first | exact hF | exact wideFn) (HS.out _ Bd.out) rfl (by kernel_rfl) (by kernel_rfl) (by kernel_rfl) (by kernel_rfl) rfl ?_ (by first | exact fun _ _ _ h => h | exact fun _ _ _ h => hQ2 _ _ _ _ _ h) ?_
          rotate_left
          · intro W hSW
            simp only [glA, glB, glC]
            (try dsimp only at hSW)
            go_simp
            with_reducible rfl
          (try simp only [glA, glB, glC, Act.put, glD, glE, glF])
          refine wpAnyJ_take 16 (v := ?_) (by first | exact hF | exact wideFn) (HS.out _ Bd.out) rfl (by kernel_rfl) (by kernel_rfl) (by kernel_rfl) (by kernel_rfl) rfl ?_ (by first | exact fun _ _ _ h => h | exact fun _ _ _ h => hQ2 _ _ _ _ _ h) ?_
          rotate_left
          · intro W hSW
            simp only [glA, glB, glC]
            (try dsimp only at hSW)
            go_simp
            with_reducible rfl
          (try simp only [glA, glB, glC, Act.put, glD, glE, glF])
          refine wpAnyJ_done (by kernel_rfl) ?_
          go_wp2_with fail
          go_roundw
          case rel => exact ⟨k + 1, by omega, by go_num, hide (fun j hj => by
            rcases (by omega : j < k ∨ j = k) with h | h
            · exact HX.out j h
            · rw [h, HE.out.1, HE.out.2]; omega), Bd⟩
          case measure => simp [intOf]; omega
    · obtain rfl : k = nc := by omega
      have hnl : ¬ (k : Int) < (k : Int) := by omega
      go_wp2_with fail
      go_ret
      exact ⟨ret_bool ((ic_iff (fs := s.fs) (c := c)).2 ⟨by rw [HN.out.1, HN.out.2], by rw [HN.out.1]; exact HX.out⟩).symm, HBF.out⟩
/-- how a test applies -/
theorem bit_div (n k : Nat) : n.testBit k = decide (¬ n / 2 ^ k % 2 = 0) := by
  rw [Nat.testBit_eq_decide_div_mod_eq, Bool.eq_iff_iff, decide_eq_true_iff, decide_eq_true_iff]
  omega
theorem apB_no {r : Rl} {c : List Int} {k : Nat} (hk : k < r.when_.length) {t : Int × Int} (ht : r.when_.getD k (0, 0) = t) (h : t.2.toNat.testBit (c.getD t.1.toNat 0).toNat = false) : apB r c = false := by
  unfold apB
  exact all_take_no _ _ hk (0, 0) (by rw [ht]; exact h)
theorem refApplies_any (ta A : Option Addr) (tc cc : Nat) (r : Rl) (c : List Int) (w : World) (hT : TsR w w.heap.size ta r.when_) (hA : LI w w.heap.size A c) (hc : c.length ≤ 100) (hr : r.when_.length ≤ 100)
    (ht : ∀ t ∈ r.when_, 0 ≤ t.1 ∧ t.1 < c.length ∧ 0 ≤ t.2 ∧ t.2 < 16) (hv : ∀ j, j < c.length → 0 ≤ c.getD j 0 ∧ c.getD j 0 ≤ 62) :
    Calls Tryd.prog 67 #[.agg #[.slice ta r.when_.length tc, .int .i64 r.ask, .int .i64 r.say], .slice A c.length cc] w fun e w' => e = .returned (.bool (apB r c)) ∧ Below w.heap.size w w' := by
  have HT := hide hT
  have HA := hide hA
  have HTT := hide ht
  have HV := hide hv
  obtain ⟨nt, hnt⟩ : ∃ n, r.when_.length = n := ⟨_, rfl⟩
  obtain ⟨nc, hnc⟩ : ∃ n, c.length = n := ⟨_, rfl⟩
  obtain ⟨ask, hask⟩ : ∃ n, r.ask = n := ⟨_, rfl⟩
  obtain ⟨say, hsay⟩ : ∃ n, r.say = n := ⟨_, rfl⟩
  have HN := hide (And.intro hnt hnc)
  rw [hnt, hnc, hask, hsay]
  rw [hnc] at hc
  rw [hnt] at hr
  clear hT hA ht hv hnt hnc hask hsay
  have HB0 := hide ((Below.refl w.heap.size w).alloc (Nat.le_refl _) (.cells #[.slice ta nt tc, .int .i64 ask, .int .i64 say] 73))
  have G1 := Blk.new w 73 #[.slice ta nt tc, .int .i64 ask, .int .i64 say]
  go_enter Tryd.func67, Tryd.ntmps67
  go_upto_region 1 with fail
  generalize (w.alloc (.cells #[.slice ta nt tc, .int .i64 ask, .int .i64 say] 73)) = w1 at HB0 G1 ⊢
  generalize w.heap.size = G at G1 ⊢
  obtain ⟨g9, g0, -, -, -⟩ := blk3 G1
  clear G1
  go_wp2_with fail
  go_loopw [5] (fun i wr => ∃ k : Nat, k ≤ nt ∧ i = .int .i64 k ∧ Hid ((r.when_.take k).all (fun t => t.2.toNat.testBit (c.getD t.1.toNat 0).toNat) = true) ∧ Hid (w1 = wr)) (fun i _ => nt - (intOf i).toNat)
  case atStart => exact ⟨0, Nat.zero_le _, rfl, hide rfl, hide rfl⟩
  case round =>
    obtain ⟨k, hk, rfl, HX, HW⟩ := hrel
    obtain rfl := HW.out
    by_cases hlt : k < nt
    · have hlt' : (k : Int) < (nt : Int) := by omega
      have i0 : (0 : Int) ≤ (k : Int) := by omega
      have hst : IntKind.i64.wrap ((k : Int) + 1) = ((k + 1 : Nat) : Int) := by rw [IntWalk.i64_in _ (by omega)]; omega
      have hkn : k < r.when_.length := by rw [HN.out.1]; exact hlt
      obtain ⟨t, htk⟩ : ∃ t, r.when_.getD k (0, 0) = t := ⟨_, rfl⟩
      obtain ⟨tb, to_, rfl, htb, a0, a1⟩ := HT.out.at_ hkn htk
      have hmem : t ∈ r.when_ := by
        rw [← htk, List.getD_eq_getElem?_getD, List.getElem?_eq_getElem hkn]
        exact List.getElem_mem hkn
      obtain ⟨t1, t2, t3, t4⟩ := HTT.out t hmem
      rw [HN.out.2] at t2
      have c0 := (HB0.out.cell (p := ⟨tb, to_ + k * 2, none⟩) htb).trans a0
      have c1 := (HB0.out.cell (p := ⟨tb, to_ + k * 2 + 1, none⟩) htb).trans a1
      obtain ⟨f, ch⟩ := t
      obtain ⟨F, rfl⟩ : ∃ F : Nat, f = F := ⟨f.toNat, by dsimp only at t1; omega⟩
      obtain ⟨C, rfl⟩ : ∃ C : Nat, ch = C := ⟨ch.toNat, by dsimp only at t3; omega⟩
      dsimp only at t2 t4 c0 c1
      have hFn : F < nc := by omega
      obtain ⟨v, hv⟩ : ∃ v, c.getD F 0 = v := ⟨_, rfl⟩
      obtain ⟨v0, v1⟩ := HV.out F (by rw [HN.out.2]; exact hFn)
      obtain ⟨cb, co, hA2, hcb, b0⟩ := VR1.at_ HA.out (by rw [HN.out.2]; exact hFn)
      rw [hv] at b0 v0 v1
      obtain ⟨V, rfl⟩ : ∃ V : Nat, v = V := ⟨v.toNat, by omega⟩
      have c2 := (HB0.out.cell (p := ⟨cb, co + F, none⟩) hcb).trans b0
      have HTK := hide htk
      have HVV := hide hv
      have HKN := hide hkn
      have C16 : C < 16 := by omega
      have V62 : V ≤ 62 := by omega
      have F0 : (0 : Int) ≤ (F : Int) := by omega
      subst hA2
      clear a0 a1 b0 t1 t3 v0 v1 htk hv hkn hmem t4
      go_wp2_with fail
      go_loopw [6, 7] (fun v6 v7 wr => ∃ m : Nat, m ≤ V ∧ v6 = .int .i64 ((C / 2 ^ m : Nat) : Int) ∧ v7 = .int .i64 m ∧ Hid (w1 = wr)) (fun _ v7 _ => V - (intOf v7).toNat)
      case atStart => exact ⟨0, Nat.zero_le _, by simp, rfl, hide rfl⟩
      case round =>
        obtain ⟨m, hm, rfl, rfl, HW⟩ := hrel
        obtain rfl := HW.out
        have m0 : (0 : Int) ≤ (m : Int) := by omega
        by_cases hml : m < V
        · have hml' : (m : Int) < (V : Int) := by omega
          have hst2 : IntKind.i64.wrap ((m : Int) + 1) = ((m + 1 : Nat) : Int) := by rw [IntWalk.i64_in _ (by omega)]; omega
          have hdd : C / 2 ^ m / 2 = C / 2 ^ (m + 1) := by rw [Nat.div_div_eq_div_mul, Nat.pow_succ]
          have hlt2 : C / 2 ^ m < 16 := Nat.lt_of_le_of_lt (Nat.div_le_self _ _) C16
          have hlt3 : C / 2 ^ (m + 1) < 16 := Nat.lt_of_le_of_lt (Nat.div_le_self _ _) C16
          obtain ⟨D1, hD1⟩ : ∃ x, C / 2 ^ (m + 1) = x := ⟨_, rfl⟩
          have HD1 := hide hD1
          rw [hD1] at hdd hlt3
          clear hD1
          have w2 : (2 : Int) ≠ 0 := by decide
          have e2 : (((C / 2 ^ m : Nat) : Int)).tdiv 2 = (D1 : Int) := by rw [Int.tdiv_eq_ediv_of_nonneg (by omega)]; omega
          have e3 : IntKind.i64.wrap (D1 : Int) = (D1 : Int) := IntWalk.i64_in _ (by omega)
          have HDD := hide hdd
          generalize C / 2 ^ m = D0 at e2 HDD hlt2
          clear hdd
          go_wp2_with fail
          go_roundw
          case rel => exact ⟨m + 1, by omega, by rw [HD1.out], by go_num, by first | exact hide trivial | exact hide rfl⟩
          case measure => simp [intOf]; omega
        · obtain rfl : m = V := by omega
          have hml' : ¬ (m : Int) < (m : Int) := by omega
          obtain ⟨D0, hD0⟩ : ∃ x, C / 2 ^ m = x := ⟨_, rfl⟩
          have HD0 := hide hD0
          have w2 : (2 : Int) ≠ 0 := by decide
          have e2 : ((D0 : Int)).tmod 2 = ((D0 % 2 : Nat) : Int) := by rw [Int.tmod_eq_emod_of_nonneg (by omega)]; rfl
          have e3 : IntKind.i64.wrap ((D0 % 2 : Nat) : Int) = ((D0 % 2 : Nat) : Int) := IntWalk.i64_in _ (by omega)
          rw [hD0]
          clear hD0
          obtain ⟨R, hR⟩ : ∃ x, D0 % 2 = x := ⟨_, rfl⟩
          rw [hR] at e2 e3
          have HB : Hid ((C : Nat).testBit m = decide (¬ R = 0)) := hide (by rw [bit_div, HD0.out, hR])
          clear hR
          by_cases q : R = 0
          · have q1 : ((R : Int) == 0) = true := by simp [q]
            have q2 : (R : Int) = 0 := by omega
            have HQ : Hid ((C : Nat).testBit m = false) := hide (by rw [HB.out, q]; rfl)
            clear q
            go_wp2_with fail
            go_ret
            exact ⟨ret_bool (apB_no HKN.out HTK.out (by
              show ((C : Int)).toNat.testBit (c.getD ((F : Int)).toNat 0).toNat = false
              rw [Int.toNat_natCast, Int.toNat_natCast, HVV.out, Int.toNat_natCast]
              exact HQ.out)).symm, HB0.out⟩
          · have q1 : ((R : Int) == 0) = false := by simp; omega
            have q2 : ¬ (R : Int) = 0 := by omega
            have HQ : Hid ((C : Nat).testBit m = true) := hide (by rw [HB.out]; exact decide_eq_true q)
            clear q
            go_wp2_with fail
            go_roundw
            case rel => exact ⟨k + 1, by omega, by go_num, hide (all_take_succ _ _ HKN.out (0, 0) (by
              rw [HTK.out]
              show ((C : Int)).toNat.testBit (c.getD ((F : Int)).toNat 0).toNat = true
              rw [Int.toNat_natCast, Int.toNat_natCast, HVV.out, Int.toNat_natCast]
              exact HQ.out) HX.out), by first | exact hide trivial | exact hide rfl⟩
            case measure => simp [intOf]; omega
    · obtain rfl : k = nt := by omega
      have hnl : ¬ (k : Int) < (k : Int) := by omega
      go_wp2_with fail
      go_ret
      refine ⟨ret_bool ?_, HB0.out⟩
      have h := HX.out
      rw [List.take_of_length_le (by rw [HN.out.1]; exact Nat.le_refl _)] at h
      exact h.symm
end Go.Proofs.YtmpegkojencbjaaDoor
/- School: the reference's Special. -/
namespace Go.Proofs.YtmpegkojencbjaaDoor
open List renaming getElem_toArray → glA, getElem_cons_zero → glB, getElem_cons_succ → glC, setIfInBounds_toArray → glD, set_cons_zero → glE, set_cons_succ → glF
open Go Go.RowKit Go.Shelf
set_option maxHeartbeats 16000000
set_option maxRecDepth 100000
/-- the reference's Applies at a rule of a school -/
theorem ap_rule {w : World} {d : Ad_} {s : Sch} (hd : ScR w w.heap.size d s) (hs : schB s = true) (hi : ScI s) {i : Nat} (hin : i < s.rs.length) {c : List Int} (hc : icB s.fs c = true) (W : World) (hB : Below w.heap.size w W) (A : Option Addr) (cc : Nat) (hA : LI W W.heap.size A c) :
    Calls Tryd.prog 67 #[.agg #[.slice (d.ta i) (s.rs.getD i r0).when_.length (d.tc i), .int .i64 (s.rs.getD i r0).ask, .int .i64 (s.rs.getD i r0).say], .slice A s.fs.length cc] W (fun e w' => e = .returned (.bool (apB (s.rs.getD i r0) c)) ∧ Below W.heap.size W w') := by
  have hok := schB_ok hs
  obtain ⟨h1, h2⟩ := ic_iff.1 hc
  have h3 := (hd.below hB).rs.tests i hin
  have h4 := rule_ok hs (mem_at hin)
  unfold rlB at h4
  rw [Bool.and_eq_true] at h4
  have h5 := of_decide_eq_true h4.1
  have h6 := refApplies_any (d.ta i) A (d.tc i) cc (s.rs.getD i r0) c W h3 hA (by have := hok.nf5; omega) (by omega) (fun t ht => by
    have := test_ok hs hi (mem_at hin) ht
    rw [h1]
    exact this) (fun j hj => by
      have h7 := h2 j (by omega)
      have h8 := fsB_at hok.fs j (by omega)
      omega)
  rw [h1] at h6
  exact h6
theorem refSpecial_any (d : Ad_) (s : Sch) (w : World) (hd : ScR w w.heap.size d s) (hs : schB s = true) (hi : ScI s) :
    Calls Tryd.prog 35 #[scV d s] w fun e w' => ∃ v, e = .returned v ∧ (∃ b, TbB w' b v s.rs.length s.rs.length (spP s)) ∧ Below w.heap.size w w' := by
  have hok := schB_ok hs
  have HD := hide hd
  have HS := hide hs
  have HI := hide hi
  have HFB := hide hok.fs
  have HPR := hide (pr_bd hok.fs hok.nf5 (Nat.le_refl _))
  have HCS : Hid (∀ W, Below w.heap.size w W → Calls Tryd.prog 34 #[scV d s] W (fun e w' => ∃ v, e = .returned v ∧ CsR w' W.heap.size v (pr s.fs s.fs.length) (clL s.fs) ∧ Below W.heap.size W w')) := hide fun W hB => refCases_any d s W (hd.below hB) hs
  have HAP : Hid (∀ i, i < s.rs.length → ∀ n W A cc, Below w.heap.size w W → LI W W.heap.size A (clL s.fs n) → Calls Tryd.prog 67 #[.agg #[.slice (d.ta i) (s.rs.getD i r0).when_.length (d.tc i), .int .i64 (s.rs.getD i r0).ask, .int .i64 (s.rs.getD i r0).say], .slice A s.fs.length cc] W (fun e w' => e = .returned (.bool (apN s i n)) ∧ Below W.heap.size W w')) :=
    hide fun i hin n W A cc hB hA => ap_rule hd hs hi hin (cl_ic hok.fs n) W hB A cc hA
  obtain ⟨nf, hf⟩ : ∃ n, s.fs.length = n := ⟨_, rfl⟩
  obtain ⟨nr, hr⟩ : ∃ n, s.rs.length = n := ⟨_, rfl⟩
  obtain ⟨Q, hQ⟩ : ∃ n, s.q = n := ⟨_, rfl⟩
  obtain ⟨fa, hfa⟩ : ∃ x, d.fa = x := ⟨_, rfl⟩
  obtain ⟨ra, hra⟩ : ∃ x, d.ra = x := ⟨_, rfl⟩
  obtain ⟨N, hNN⟩ : ∃ x, pr s.fs s.fs.length = x := ⟨_, rfl⟩
  have HN := hide (And.intro hf (And.intro hr hNN))
  have hnr := hok.nr
  unfold scV at HCS ⊢
  rw [hNN] at HCS HPR
  rw [hf, hr, hQ, hfa, hra] at HCS
  rw [hf] at HAP
  rw [hf, hr, hQ, hfa, hra]
  rw [hr] at hnr HAP
  have HRA := hide hra
  have hpr := HPR.out
  have HB0 := hide ((Below.refl w.heap.size w).alloc (Nat.le_refl _) (.cells #[.slice fa nf d.fc, .int .i64 Q, .slice ra nr d.rc] 47))
  have G1 := Blk.new w 47 #[.slice fa nf d.fc, .int .i64 Q, .slice ra nr d.rc]
  clear hd hf hr hQ hok hs hfa hra hi hNN HPR
  go_enter Tryd.func35, Tryd.ntmps35
  go_upto_region 1 with fail
  generalize (w.alloc (.cells #[.slice fa nf d.fc, .int .i64 Q, .slice ra nr d.rc] 47)) = w1 at HB0 G1 ⊢
  generalize w.heap.size = G at G1 ⊢
  have HG1 := hide G1
  obtain ⟨-, g0, g1, g2, -⟩ := blk3 G1
  clear G1
  go_wp2_with fail
  refine (HCS.out w1 HB0.out).mono ?_
  rintro e w2 ⟨v3, rfl, hcs, hb2⟩
  have HC2 := hide hcs
  obtain ⟨CA, cc, rfl⟩ := hcs.shape
  have HB2 := hide hb2
  clear hcs hb2 g0 g1 g2 HCS
  go_upto_region 2 with fail
  have HT0 := hide (TbB.made0 (m := nr) w2 (spP s))
  have HB3 : Hid (Below w2.heap.size w2 (w2.alloc (.cells #[] 66))) := hide ((Below.refl _ _).alloc (Nat.le_refl _) _)
  generalize (w2.alloc (.cells #[] 66)) = w3 at HT0 HB3 ⊢
  obtain ⟨T0, hT0⟩ : ∃ x, Value.slice (some ⟨w2.heap.size, 0, none⟩) 0 0 = x := ⟨_, rfl⟩
  rw [hT0] at HT0 ⊢
  clear hT0
  go_wp2_with fail
  go_loopw [4, 5] (fun v4 v5 wr => ∃ i : Nat, i ≤ nr ∧ v5 = .int .i64 i ∧ Hid (TbB wr w2.heap.size v4 i nr (spP s)) ∧ Hid (Below w2.heap.size w2 wr)) (fun _ v5 _ => nr - (intOf v5).toNat)
  case atStart => exact ⟨0, Nat.zero_le _, rfl, HT0, HB3⟩
  case round =>
    obtain ⟨i, hin, rfl, HT, HB⟩ := hrel
    have HBG := hide (HB2.out.trans (HB.out.mono HB2.out.size))
    have HGr := hide (HG1.out.ext HBG.out)
    obtain ⟨-, -, -, g2, -⟩ := blk3 HGr.out
    clear HT0 HB3
    obtain ⟨TA, tc, hv⟩ := HT.out.shape
    subst hv
    by_cases hlt : i < nr
    · -- BEGIN1
      have hlt' : (i : Int) < (nr : Int) := by omega
      have i0 : (0 : Int) ≤ (i : Int) := by omega
      have hsti : IntKind.i64.wrap ((i : Int) + 1) = ((i + 1 : Nat) : Int) := by rw [IntWalk.i64_in _ (by omega)]; omega
      have hi_ : i < s.rs.length := by rw [HN.out.2.1]; exact hlt
      obtain ⟨r1, hr1⟩ : ∃ r, s.rs.getD i r0 = r := ⟨_, rfl⟩
      obtain ⟨rb, ro, hra, hrb, a0, a1, a2⟩ := HD.out.rs.at_ hi_ hr1
      rw [HRA.out] at hra
      subst hra
      obtain ⟨ta1, hta1⟩ : ∃ x, d.ta i = x := ⟨_, rfl⟩
      obtain ⟨tc1, htc1⟩ : ∃ x, d.tc i = x := ⟨_, rfl⟩
      obtain ⟨nt1, hnt1⟩ : ∃ x, r1.when_.length = x := ⟨_, rfl⟩
      obtain ⟨as1, has1⟩ : ∃ x, r1.ask = x := ⟨_, rfl⟩
      obtain ⟨sa1, hsa1⟩ : ∃ x, r1.say = x := ⟨_, rfl⟩
      have HA1 := hide (HAP.out i hlt)
      rw [hr1, hta1, htc1, hnt1, has1, hsa1] at HA1
      rw [hta1, hnt1, htc1] at a0
      rw [has1] at a1
      rw [hsa1] at a2
      have HR1 := hide (And.intro hrb (And.intro a0 (And.intro a1 a2)))
      clear hr1 hrb a0 a1 a2 hta1 htc1 hnt1 has1 hsa1 hi_
      go_upto_region 6 with fail
      clear g2 HGr HBG
      generalize wr = wi at HT HB ⊢
      have HO2 := hide (OwnB.made0 wi (spP s i))
      have HB4 : Hid (Below wi.heap.size wi (wi.alloc (.cells #[] 4))) := hide ((Below.refl _ _).alloc (Nat.le_refl _) _)
      generalize (wi.alloc (.cells #[] 4)) = w4 at HB4 HO2 ⊢
      obtain ⟨O0, hO0⟩ : ∃ x, Value.slice (some ⟨wi.heap.size, 0, none⟩) 0 0 = x := ⟨_, rfl⟩
      rw [hO0] at HO2 ⊢
      clear hO0
      go_wp2_with fail
      go_loopw [6, 7] (fun v6 v7 wr => ∃ k : Nat, k ≤ nr ∧ v7 = .int .i64 k ∧ Hid (OwnB wr wi.heap.size v6 k (spP s i)) ∧ Hid (Below wi.heap.size wi wr)) (fun _ v7 _ => nr - (intOf v7).toNat)
      case atStart => exact ⟨0, Nat.zero_le _, rfl, HO2, HB4⟩
      case round =>
        obtain ⟨k, hk, rfl, HO, HBI⟩ := hrel
        clear HO2 HB4
        have HBW := hide (HB.out.trans (HBI.out.mono HB.out.size))
        have HBG := hide (HB2.out.trans (HBW.out.mono HB2.out.size))
        have HGr := hide (HG1.out.ext HBG.out)
        obtain ⟨-, -, -, g2, -⟩ := blk3 HGr.out
        obtain ⟨OA, oc, hv⟩ := own_shape HO.out
        subst hv
        by_cases hkl : k < nr
        · -- BEGIN2
          have hkl' : (k : Int) < (nr : Int) := by omega
          have k0 : (0 : Int) ≤ (k : Int) := by omega
          have hstk : IntKind.i64.wrap ((k : Int) + 1) = ((k + 1 : Nat) : Int) := by rw [IntWalk.i64_in _ (by omega)]; omega
          have hk_ : k < s.rs.length := by rw [HN.out.2.1]; exact hkl
          obtain ⟨r2, hr2⟩ : ∃ r, s.rs.getD k r0 = r := ⟨_, rfl⟩
          obtain ⟨rb', ro', hra, hrb, a0, a1, a2⟩ := HD.out.rs.at_ hk_ hr2
          rw [HRA.out] at hra
          injection hra with hra
          injection hra with e1 e2
          subst e1 e2
          obtain ⟨ta2, hta2⟩ : ∃ x, d.ta k = x := ⟨_, rfl⟩
          obtain ⟨tc2, htc2⟩ : ∃ x, d.tc k = x := ⟨_, rfl⟩
          obtain ⟨nt2, hnt2⟩ : ∃ x, r2.when_.length = x := ⟨_, rfl⟩
          obtain ⟨as2, has2⟩ : ∃ x, r2.ask = x := ⟨_, rfl⟩
          obtain ⟨sa2, hsa2⟩ : ∃ x, r2.say = x := ⟨_, rfl⟩
          have HA2 := hide (HAP.out k hkl)
          rw [hr2, hta2, htc2, hnt2, has2, hsa2] at HA2
          rw [hta2, hnt2, htc2] at a0
          rw [has2] at a1
          rw [hsa2] at a2
          have HR2 := hide (And.intro a0 (And.intro a1 a2))
          clear hr2 hrb a0 a1 a2 hta2 htc2 hnt2 has2 hsa2 hk_
          go_wp2_with fail
          clear g2 HGr
          generalize wr = w5 at HO HBI HBW HBG ⊢
          go_loopw [8, 9, 10] (fun v8 v9 v10 wr => ∃ n : Nat, n ≤ N ∧ v8 = .bool (nvF (apN s i) (apN s k) n) ∧ v9 = .bool (smF (apN s i) (apN s k) n) ∧ v10 = .int .i64 n ∧ Hid (Below w5.heap.size w5 wr)) (fun _ _ v10 _ => N - (intOf v10).toNat)
          case atStart => exact ⟨0, Nat.zero_le _, rfl, rfl, rfl, hide (Below.refl _ _)⟩
          case round =>
            obtain ⟨n, hn, rfl, rfl, rfl, HBJ⟩ := hrel
            have HBX := hide (HBW.out.trans (HBJ.out.mono HBW.out.size))
            obtain ⟨nv, hnv⟩ : ∃ x, nvF (apN s i) (apN s k) n = x := ⟨_, rfl⟩
            obtain ⟨sm, hsm⟩ : ∃ x, smF (apN s i) (apN s k) n = x := ⟨_, rfl⟩
            have HNV := hide hnv
            have HSM := hide hsm
            rw [hnv, hsm]
            clear hnv hsm
            by_cases hnl : n < N
            · -- BEGIN3
              have hnl' : (n : Int) < (N : Int) := by omega
              have n0 : (0 : Int) ≤ (n : Int) := by omega
              have hstn : IntKind.i64.wrap ((n : Int) + 1) = ((n + 1 : Nat) : Int) := by rw [IntWalk.i64_in _ (by omega)]; omega
              obtain ⟨cg, CB, cb, e1, e2, e3, e4⟩ := HC2.out.at_ hnl
              rw [clL_len, HN.out.1] at e3
              subst e1
              obtain ⟨a, ha⟩ : ∃ x, apN s i n = x := ⟨_, rfl⟩
              obtain ⟨b, hb⟩ : ∃ x, apN s k n = x := ⟨_, rfl⟩
              have E8 : Hid (nvF (apN s i) (apN s k) (n + 1) = (nv && (!a || b))) := hide (by
                show (nvF (apN s i) (apN s k) n && (!(apN s i n) || apN s k n)) = _
                rw [HNV.out, ha, hb])
              have E9 : Hid (smF (apN s i) (apN s k) (n + 1) = (sm || (b && !a))) := hide (by
                show (smF (apN s i) (apN s k) n || (apN s k n && !(apN s i n))) = _
                rw [HSM.out, ha, hb])
              have HL : Hid (∀ W, Below w2.heap.size w2 W → LI W W.heap.size CB (clL s.fs n)) := hide fun W h => (ER.below e4 h (Nat.le_refl _)).more h.size
              have HW0 : Hid (∀ W, Below w2.heap.size w2 W → Below w.heap.size w W) := hide fun W h => HB0.out.trans ((HB2.out.trans (h.mono HB2.out.size)).mono HB0.out.size)
              have HP1 : Hid (∀ W, Below w2.heap.size w2 W → Calls Tryd.prog 67 #[(.agg #[.slice ta1 nt1 tc1, .int .i64 as1, .int .i64 sa1]), .slice CB nf cb] W (fun e w' => e = .returned (.bool a) ∧ Below W.heap.size W w')) := hide fun W h => by
                have := HA1.out n W CB cb (HW0.out W h) (HL.out W h)
                rwa [ha] at this
              have HP2 : Hid (∀ W, Below w2.heap.size w2 W → Calls Tryd.prog 67 #[(.agg #[.slice ta2 nt2 tc2, .int .i64 as2, .int .i64 sa2]), .slice CB nf cb] W (fun e w' => e = .returned (.bool b) ∧ Below W.heap.size W w')) := hide fun W h => by
                have := HA2.out n W CB cb (HW0.out W h) (HL.out W h)
                rwa [hb] at this
              have HS : Hid (∀ W, Below w2.heap.size w2 W → (W.cell? ⟨G, 2, none⟩ = some (.slice (some ⟨rb, ro, none⟩) nr d.rc) ∧
               W.cell? ⟨rb, ro + i * 3, none⟩ = some (.slice ta1 nt1 tc1) ∧ W.cell? ⟨rb, ro + i * 3 + 1, none⟩ = some (.int .i64 as1) ∧ W.cell? ⟨rb, ro + i * 3 + 2, none⟩ = some (.int .i64 sa1) ∧
               W.cell? ⟨rb, ro + k * 3, none⟩ = some (.slice ta2 nt2 tc2) ∧ W.cell? ⟨rb, ro + k * 3 + 1, none⟩ = some (.int .i64 as2) ∧ W.cell? ⟨rb, ro + k * 3 + 2, none⟩ = some (.int .i64 sa2) ∧
               W.cell? ⟨cg, n, none⟩ = some (.slice CB nf cb))) := hide fun W h => by
                have h0 := HW0.out W h
                obtain ⟨-, -, -, g2, -⟩ := blk3 (HG1.out.ext (HB2.out.trans (h.mono HB2.out.size)))
                obtain ⟨q0, q1, q2, q3⟩ := HR1.out
                obtain ⟨p1, p2, p3⟩ := HR2.out
                exact ⟨g2, (h0.cell (p := ⟨rb, ro + i * 3, none⟩) q0).trans q1, (h0.cell (p := ⟨rb, ro + i * 3 + 1, none⟩) q0).trans q2, (h0.cell (p := ⟨rb, ro + i * 3 + 2, none⟩) q0).trans q3,
                  (h0.cell (p := ⟨rb, ro + k * 3, none⟩) q0).trans p1, (h0.cell (p := ⟨rb, ro + k * 3 + 1, none⟩) q0).trans p2, (h0.cell (p := ⟨rb, ro + k * 3 + 2, none⟩) q0).trans p3,
                  (h.cell (p := ⟨cg, n, none⟩) e2).trans e3⟩
              clear e2 e3 e4 ha hb
              go_upto_region 13 with fail
              have Bd := hide (HBX.out.trans ((Below.refl wr.heap.size wr).drew.mono HBX.out.size))
              have Bj := hide (HBJ.out.trans ((Below.refl wr.heap.size wr).drew.mono HBJ.out.size))
              refine wp_region_J (fun W : World => (W.cell? ⟨G, 2, none⟩ = some (.slice (some ⟨rb, ro, none⟩) nr d.rc) ∧
               W.cell? ⟨rb, ro + i * 3, none⟩ = some (.slice ta1 nt1 tc1) ∧ W.cell? ⟨rb, ro + i * 3 + 1, none⟩ = some (.int .i64 as1) ∧ W.cell? ⟨rb, ro + i * 3 + 2, none⟩ = some (.int .i64 sa1) ∧
               W.cell? ⟨rb, ro + k * 3, none⟩ = some (.slice ta2 nt2 tc2) ∧ W.cell? ⟨rb, ro + k * 3 + 1, none⟩ = some (.int .i64 as2) ∧ W.cell? ⟨rb, ro + k * 3 + 2, none⟩ = some (.int .i64 sa2) ∧
               W.cell? ⟨cg, n, none⟩ = some (.slice CB nf cb))) (by kernel_rfl) ?_
              generalize wr.drew = wd at Bd Bj ⊢
              refine wpAnyJ_take 0 (v := ?_) (by first | exact hF | exact wideFn) (HS.out _ Bd.out) rfl (by kernel_rfl) (by kernel_rfl) (by kernel_rfl) (by kernel_rfl) rfl ?_ (by first | exact fun _ _ _ h => h | exact fun _ _ _ h => hQ2 _ _ _ _ _ h) ?_
              rotate_left
              · intro W hSW
                simp only [glA, glB, glC]
                (try dsimp only at hSW)
                go_simp
                with_reducible rfl
              (try simp only [glA, glB, glC, Act.put, glD, glE, glF])
              refine wpAnyJ_take 1 (v := ?_) (by first | exact hF | exact wideFn) (HS.out _ Bd.out) rfl (by kernel_rfl) (by kernel_rfl) (by kernel_rfl) (by kernel_rfl) rfl ?_ (by first | exact fun _ _ _ h => h | exact fun _ _ _ h => hQ2 _ _ _ _ _ h) ?_
              rotate_left
              · intro W hSW
                simp only [glA, glB, glC]
                (try dsimp only at hSW)
                go_simp
                with_reducible rfl
              (try simp only [glA, glB, glC, Act.put, glD, glE, glF])
              refine wpAnyJ_take 2 (v := ?_) (by first | exact hF | exact wideFn) (HS.out _ Bd.out) rfl (by kernel_rfl) (by kernel_rfl) (by kernel_rfl) (by kernel_rfl) rfl ?_ (by first | exact fun _ _ _ h => h | exact fun _ _ _ h => hQ2 _ _ _ _ _ h) ?_
              rotate_left
              · intro W hSW
                simp only [glA, glB, glC]
                (try dsimp only at hSW)
                go_simp
                with_reducible rfl
              (try simp only [glA, glB, glC, Act.put, glD, glE, glF])
              refine wpAnyJ_take 3 (v := ?_) (by first | exact hF | exact wideFn) (HS.out _ Bd.out) rfl (by kernel_rfl) (by kernel_rfl) (by kernel_rfl) (by kernel_rfl) rfl ?_ (by first | exact fun _ _ _ h => h | exact fun _ _ _ h => hQ2 _ _ _ _ _ h) ?_
              rotate_left
              · intro W hSW
                simp only [glA, glB, glC]
                (try dsimp only at hSW)
                go_simp
                with_reducible rfl
              (try simp only [glA, glB, glC, Act.put, glD, glE, glF])
              refine wpAnyJ_take 4 (v := ?_) (by first | exact hF | exact wideFn) (HS.out _ Bd.out) rfl (by kernel_rfl) (by kernel_rfl) (by kernel_rfl) (by kernel_rfl) rfl ?_ (by first | exact fun _ _ _ h => h | exact fun _ _ _ h => hQ2 _ _ _ _ _ h) ?_
              rotate_left
              · intro W hSW
                simp only [glA, glB, glC]
                (try dsimp only at hSW)
                go_simp
                with_reducible rfl
              (try simp only [glA, glB, glC, Act.put, glD, glE, glF])
              refine wpAnyJ_take 5 (v := ?_) (by first | exact hF | exact wideFn) (HS.out _ Bd.out) rfl (by kernel_rfl) (by kernel_rfl) (by kernel_rfl) (by kernel_rfl) rfl ?_ (by first | exact fun _ _ _ h => h | exact fun _ _ _ h => hQ2 _ _ _ _ _ h) ?_
              rotate_left
              · intro W hSW
                simp only [glA, glB, glC]
                (try dsimp only at hSW)
                go_simp
                with_reducible rfl
              (try simp only [glA, glB, glC, Act.put, glD, glE, glF])
              refine wpAnyJ_take 6 (v := ?_) (by first | exact hF | exact wideFn) (HS.out _ Bd.out) rfl (by kernel_rfl) (by kernel_rfl) (by kernel_rfl) (by kernel_rfl) rfl ?_ (by first | exact fun _ _ _ h => h | exact fun _ _ _ h => hQ2 _ _ _ _ _ h) ?_
              rotate_left
              · intro W hSW
                simp only [glA, glB, glC]
                (try dsimp only at hSW)
                go_simp
                with_reducible rfl
              (try simp only [glA, glB, glC, Act.put, glD, glE, glF])
              refine wpAnyJ_take 7 (v := ?_) (by first | exact hF | exact wideFn) (HS.out _ Bd.out) rfl (by kernel_rfl) (by kernel_rfl) (by kernel_rfl) (by kernel_rfl) rfl ?_ (by first | exact fun _ _ _ h => h | exact fun _ _ _ h => hQ2 _ _ _ _ _ h) ?_
              rotate_left
              · intro W hSW
                simp only [glA, glB, glC]
                (try dsimp only at hSW)
                go_simp
                with_reducible rfl
              (try simp only [glA, glB, glC, Act.put, glD, glE, glF])
              refine wpAnyJ_take 8 (v := ?_) (by first | exact hF | exact wideFn) (HS.out _ Bd.out) rfl (by kernel_rfl) (by kernel_rfl) (by kernel_rfl) (by kernel_rfl) rfl ?_ (by first | exact fun _ _ _ h => h | exact fun _ _ _ h => hQ2 _ _ _ _ _ h) ?_
              rotate_left
              · intro W hSW
                simp only [glA, glB, glC]
                (try dsimp only at hSW)
                go_simp
                with_reducible rfl
              (try simp only [glA, glB, glC, Act.put, glD, glE, glF])
              refine wpAnyJ_take 10 (v := ?_) (by first | exact hF | exact wideFn) (HS.out _ Bd.out) rfl (by kernel_rfl) (by kernel_rfl) (by kernel_rfl) (by kernel_rfl) rfl ?_ (by first | exact fun _ _ _ h => h | exact fun _ _ _ h => hQ2 _ _ _ _ _ h) ?_
              rotate_left
              · intro W hSW
                simp only [glA, glB, glC]
                (try dsimp only at hSW)
                go_simp
                with_reducible rfl
              (try simp only [glA, glB, glC, Act.put, glD, glE, glF])
              refine wpAnyJ_take 11 (v := ?_) (by first | exact hF | exact wideFn) (HS.out _ Bd.out) rfl (by kernel_rfl) (by kernel_rfl) (by kernel_rfl) (by kernel_rfl) rfl ?_ (by first | exact fun _ _ _ h => h | exact fun _ _ _ h => hQ2 _ _ _ _ _ h) ?_
              rotate_left
              · intro W hSW
                simp only [glA, glB, glC]
                (try dsimp only at hSW)
                go_simp
                with_reducible rfl
              (try simp only [glA, glB, glC, Act.put, glD, glE, glF])
              refine wpAnyJ_take 12 (v := ?_) (by first | exact hF | exact wideFn) (HS.out _ Bd.out) rfl (by kernel_rfl) (by kernel_rfl) (by kernel_rfl) (by kernel_rfl) rfl ?_ (by first | exact fun _ _ _ h => h | exact fun _ _ _ h => hQ2 _ _ _ _ _ h) ?_
              rotate_left
              · intro W hSW
                simp only [glA, glB, glC]
                (try dsimp only at hSW)
                go_simp
                with_reducible rfl
              (try simp only [glA, glB, glC, Act.put, glD, glE, glF])
              refine wpAnyJ_take 13 (v := ?_) (by first | exact hF | exact wideFn) (HS.out _ Bd.out) rfl (by kernel_rfl) (by kernel_rfl) (by kernel_rfl) (by kernel_rfl) rfl ?_ (by first | exact fun _ _ _ h => h | exact fun _ _ _ h => hQ2 _ _ _ _ _ h) ?_
              rotate_left
              · intro W hSW
                simp only [glA, glB, glC]
                (try dsimp only at hSW)
                go_simp
                with_reducible rfl
              (try simp only [glA, glB, glC, Act.put, glD, glE, glF])
              refine wpAnyJ_take 14 (v := ?_) (by first | exact hF | exact wideFn) (HS.out _ Bd.out) rfl (by kernel_rfl) (by kernel_rfl) (by kernel_rfl) (by kernel_rfl) rfl ?_ (by first | exact fun _ _ _ h => h | exact fun _ _ _ h => hQ2 _ _ _ _ _ h) ?_
              rotate_left
              · intro W hSW
                simp only [glA, glB, glC]
                (try dsimp only at hSW)
                go_simp
                with_reducible rfl
              (try simp only [glA, glB, glC, Act.put, glD, glE, glF])
              refine wpAnyJ_take 15 (v := ?_) (by first | exact hF | exact wideFn) (HS.out _ Bd.out) rfl (by kernel_rfl) (by kernel_rfl) (by kernel_rfl) (by kernel_rfl) rfl ?_ (by first | exact fun _ _ _ h => h | exact fun _ _ _ h => hQ2 _ _ _ _ _ h) ?_
              rotate_left
              · intro W hSW
                simp only [glA, glB, glC]
                (try dsimp only at hSW)
                go_simp
                with_reducible rfl
              (try simp only [glA, glB, glC, Act.put, glD, glE, glF])
              refine wpAnyJ_take 16 (v := ?_) (by first | exact hF | exact wideFn) (HS.out _ Bd.out) rfl (by kernel_rfl) (by kernel_rfl) (by kernel_rfl) (by kernel_rfl) rfl ?_ (by first | exact fun _ _ _ h => h | exact fun _ _ _ h => hQ2 _ _ _ _ _ h) ?_
              rotate_left
              · intro W hSW
                simp only [glA, glB, glC]
                (try dsimp only at hSW)
                go_simp
                with_reducible rfl
              (try simp only [glA, glB, glC, Act.put, glD, glE, glF])
              refine wpAnyJ_take 17 (v := ?_) (by first | exact hF | exact wideFn) (HS.out _ Bd.out) rfl (by kernel_rfl) (by kernel_rfl) (by kernel_rfl) (by kernel_rfl) rfl ?_ (by first | exact fun _ _ _ h => h | exact fun _ _ _ h => hQ2 _ _ _ _ _ h) ?_
              rotate_left
              · intro W hSW
                simp only [glA, glB, glC]
                (try dsimp only at hSW)
                go_simp
                with_reducible rfl
              (try simp only [glA, glB, glC, Act.put, glD, glE, glF])
              refine wpAnyJ_take 18 (v := ?_) (by first | exact hF | exact wideFn) (HS.out _ Bd.out) rfl (by kernel_rfl) (by kernel_rfl) (by kernel_rfl) (by kernel_rfl) rfl ?_ (by first | exact fun _ _ _ h => h | exact fun _ _ _ h => hQ2 _ _ _ _ _ h) ?_
              rotate_left
              · intro W hSW
                simp only [glA, glB, glC]
                (try dsimp only at hSW)
                go_simp
                with_reducible rfl
              (try simp only [glA, glB, glC, Act.put, glD, glE, glF])
              refine wpAnyJ_one 9 rfl (by kernel_rfl) (fun K hK => ?_)
              simp only [glA, glB, glC]
              go_simp
              refine ⟨trivial, rfl, ?_⟩
              refine (callsIn_wide.2 (HP1.out wd Bd.out)).mono ?_
              rintro e w6 ⟨rfl, hb6⟩
              have Bd6 := hide (Bd.out.trans (hb6.mono Bd.out.size))
              dsimp only
              refine hK.out _ _ (fun _ => HS.out _ Bd6.out) ?_
              clear hK K
              (try simp only [glA, glB, glC, Act.put, glD, glE, glF])
              refine wpAnyJ_one 19 rfl (by kernel_rfl) (fun K hK => ?_)
              simp only [glA, glB, glC]
              go_simp
              refine ⟨trivial, rfl, ?_⟩
              refine (callsIn_wide.2 (HP2.out w6 Bd6.out)).mono ?_
              rintro e w7 ⟨rfl, hb7⟩
              have Bd7 := hide (Bd6.out.trans (hb7.mono Bd6.out.size))
              dsimp only
              refine hK.out _ _ (fun _ => HS.out _ Bd7.out) ?_
              clear hK K
              (try simp only [glA, glB, glC, Act.put, glD, glE, glF])
              refine wpAnyJ_take 20 (v := ?_) (by first | exact hF | exact wideFn) (HS.out _ Bd7.out) rfl (by kernel_rfl) (by kernel_rfl) (by kernel_rfl) (by kernel_rfl) rfl ?_ (by first | exact fun _ _ _ h => h | exact fun _ _ _ h => hQ2 _ _ _ _ _ h) ?_
              rotate_left
              · intro W hSW
                simp only [glA, glB, glC]
                (try dsimp only at hSW)
                go_simp
                with_reducible rfl
              (try simp only [glA, glB, glC, Act.put, glD, glE, glF])
              refine wpAnyJ_take 21 (v := ?_) (by first | exact hF | exact wideFn) (HS.out _ Bd7.out) rfl (by kernel_rfl) (by kernel_rfl) (by kernel_rfl) (by kernel_rfl) rfl ?_ (by first | exact fun _ _ _ h => h | exact fun _ _ _ h => hQ2 _ _ _ _ _ h) ?_
              rotate_left
              · intro W hSW
                simp only [glA, glB, glC]
                (try dsimp only at hSW)
                go_simp
                with_reducible rfl
              (try simp only [glA, glB, glC, Act.put, glD, glE, glF])
              refine wpAnyJ_done (by kernel_rfl) ?_
              have HBK := hide ((Bj.out.trans (hb6.mono Bj.out.size)).trans (hb7.mono (Nat.le_trans Bj.out.size hb6.size)))
              clear hb6 hb7
              rcases nv with _ | _ <;> rcases sm with _ | _ <;> rcases a with _ | _ <;> rcases b with _ | _
              all_goals
                go_wp2_with fail
                go_roundw
                case rel => exact ⟨n + 1, by omega, by rw [E8.out]; rfl, by rw [E9.out]; rfl, by go_num, HBK⟩
                case measure => simp [intOf]; omega
              -- END3
            · -- BEGIN4
              obtain rfl : n = N := by omega
              have hnl : ¬ (n : Int) < (n : Int) := by omega
              have HO3 := hide (HO.out.ext HBJ.out)
              have HBI3 := hide (HBI.out.trans (HBJ.out.mono HBI.out.size))
              obtain ⟨A2, c2, w9, hr9, h9, hg9⟩ := HO3.out.push (by omega) HBI3.out.size
              have HB9 := hide ((HBI3.out.alloc HBI3.out.size (.cells #[.bool (spP s i k)] 4)).grown hg9 (Nat.le_trans HBI3.out.size (by simp)) (fun q hq => (World.ownsRow.lt HO3.out q hq).1))
              have HO9 := hide h9
              obtain ⟨x, hx⟩ : ∃ x, spP s i k = x := ⟨_, rfl⟩
              have EX : Hid (x = (nv && sm)) := hide (by
                rw [← hx]
                unfold spP
                rw [HN.out.2.2, HNV.out, HSM.out])
              rw [hx] at hr9
              have HRUN := hide hr9
              clear hr9 h9 hg9 hx
              rcases nv with _ | _ <;> rcases sm with _ | _
              all_goals
                first
                | obtain rfl : x = true := EX.out
                | obtain rfl : x = false := EX.out
                go_wp2_with (at_builtin; refine wpList_append_run rfl (.tmp 73) (.tmp 78) 66 rfl rfl rfl HRUN.out ?_)
                go_roundw
                case rel => exact ⟨k + 1, by omega, by go_num, HO9, HB9⟩
                case measure => simp [intOf]; omega
              -- END4
          -- END2
        · -- BEGIN5
          obtain rfl : k = nr := by omega
          have hnl : ¬ (k : Int) < (k : Int) := by omega
          have HT3 := hide (HT.out.ext HBI.out)
          have HOL : Hid (OwnB wr w2.heap.size (.slice OA k oc) k (spP s i)) := hide (own_low HO.out HB.out.size)
          obtain ⟨A2, c2, w9, hr9, h9, hg9⟩ := HT3.out.push OA oc HOL.out (by omega) HBW.out.size
          have HB9 := hide ((HBW.out.alloc HBW.out.size (.cells #[.slice OA k oc] 66)).grown hg9 (Nat.le_trans HBW.out.size (by simp)) (fun q hq => by
            obtain ⟨xs, -, hx, -⟩ := HT3.out
            exact (World.ownsRow.lt hx q hq).1))
          have HT9 := hide h9
          have HRUN := hide hr9
          clear hr9 h9 hg9
          go_wp2_with (at_builtin; refine wpList_append_run rfl (.tmp 80) (.tmp 82) 56 rfl rfl rfl HRUN.out ?_)
          go_roundw
          case rel => exact ⟨i + 1, by omega, by go_num, HT9, HB9⟩
          case measure => simp [intOf]; omega
          -- END5
      -- END1
    · obtain rfl : i = nr := by omega
      have hnl : ¬ (i : Int) < (i : Int) := by omega
      go_wp2_with fail
      go_ret
      exact ⟨_, rfl, ⟨w2.heap.size, HT.out⟩, HB0.out.trans (HBG.out.mono HB0.out.size)⟩
end Go.Proofs.YtmpegkojencbjaaDoor
/- School, plain: what a school decides, by its rules. -/
namespace Go.Proofs.YtmpegkojencbjaaDoor
open Go Go.RowKit Go.Shelf
set_option maxHeartbeats 4000000
set_option maxRecDepth 100000
/-- what a rule asks -/
def apQ (s : Sch) (st : Nat → Nat → Nat) (c : List Int) (q : Int) (i : Nat) : Bool := ((s.rs.getD i r0).ask == q) && hsB (st i) c
theorem dcA_mem {s : Sch} {st : Nat → Nat → Nat} {c : List Int} {q : Int} {x : Int} : x ∈ dcA s st c q ↔ ∃ k : Nat, x = (k : Int) ∧ k < s.rs.length ∧ apQ s st c q k = true := by
  constructor
  · intro h
    exact apF_mem _ _ _ h
  · rintro ⟨k, rfl, h1, h2⟩
    exact apF_in h1 h2
theorem top_iff {st : Nat → Nat → Nat} {ap : List Int} {i : Int} : topB st ap i = true ↔ ∀ x ∈ ap, spc (st x.toNat) (st i.toNat) = false := by
  unfold topB
  rw [Bool.not_eq_true', ← Bool.not_eq_true, anyTo_iff]
  constructor
  · intro h x hx
    obtain ⟨k, hk, rfl⟩ := List.getElem_of_mem hx
    rw [← Bool.not_eq_true]
    intro h2
    exact h ⟨k, hk, by rw [List.getD_eq_getElem?_getD, List.getElem?_eq_getElem hk]; exact h2⟩
  · rintro h ⟨k, hk, h2⟩
    rw [List.getD_eq_getElem?_getD, List.getElem?_eq_getElem hk] at h2
    have h3 := h _ (List.getElem_mem hk)
    change spc (st (ap[k]).toNat) _ = true at h2
    rw [h3] at h2
    cases h2
theorem dcB_mem {s : Sch} {st : Nat → Nat → Nat} {c : List Int} {q : Int} {x : Int} : x ∈ dcB s st c q ↔ ∃ k : Nat, x = (k : Int) ∧ k < s.rs.length ∧ apQ s st c q k = true ∧ ∀ j, j < s.rs.length → apQ s st c q j = true → spc (st j) (st k) = false := by
  unfold dcB
  rw [List.mem_filter, dcA_mem, top_iff]
  constructor
  · rintro ⟨⟨k, rfl, h1, h2⟩, h3⟩
    refine ⟨k, rfl, h1, h2, fun j hj hq => ?_⟩
    have := h3 (j : Int) (dcA_mem.2 ⟨j, rfl, hj, hq⟩)
    simpa using this
  · rintro ⟨k, rfl, h1, h2, h3⟩
    refine ⟨⟨k, rfl, h1, h2⟩, fun x hx => ?_⟩
    obtain ⟨j, rfl, hj, hq⟩ := dcA_mem.1 hx
    simpa using h3 j hj hq
/-- what is said by a rule -/
def sayF (s : Sch) (x : Int) : Int := (s.rs.getD x.toNat r0).say
theorem clB_iff {s : Sch} {l : List Int} : clB s l = true ↔ ∃ x ∈ l, sayF s x ≠ sayF s (l.getD 0 0) := by
  unfold clB sayF
  rw [anyTo_iff]
  constructor
  · rintro ⟨k, hk, h⟩
    have e : l.getD k 0 = l[k] := by rw [List.getD_eq_getElem?_getD, List.getElem?_eq_getElem hk]; rfl
    rw [e] at h
    exact ⟨_, List.getElem_mem hk, by simpa using h⟩
  · rintro ⟨x, hx, h⟩
    obtain ⟨k, hk, rfl⟩ := List.getElem_of_mem hx
    refine ⟨k, hk, ?_⟩
    have e : l.getD k 0 = l[k] := by rw [List.getD_eq_getElem?_getD, List.getElem?_eq_getElem hk]; rfl
    rw [e]
    simpa using h
theorem dcF_cases (s : Sch) (st : Nat → Nat → Nat) (c : List Int) (q : Int) :
    (dcB s st c q = [] ∧ dcF s st c q = (0, 7, [])) ∨ (dcB s st c q ≠ [] ∧ (∃ x ∈ dcB s st c q, sayF s x ≠ sayF s ((dcB s st c q).getD 0 0)) ∧ dcF s st c q = (0, 110, [])) ∨
      (dcB s st c q ≠ [] ∧ (∀ x ∈ dcB s st c q, sayF s x = sayF s ((dcB s st c q).getD 0 0)) ∧ dcF s st c q = (sayF s ((dcB s st c q).getD 0 0), 0, dcB s st c q)) := by
  unfold dcF
  by_cases h : (dcB s st c q).length = 0
  · rw [if_pos h]
    exact .inl ⟨List.length_eq_zero_iff.1 h, rfl⟩
  · rw [if_neg h]
    have hne : dcB s st c q ≠ [] := fun e => h (by rw [e]; rfl)
    right
    rcases h2 : clB s (dcB s st c q) with _ | _
    · right
      refine ⟨hne, fun x hx => ?_, rfl⟩
      rcases Classical.em (sayF s x = sayF s ((dcB s st c q).getD 0 0)) with h3 | h3
      · exact h3
      · rw [clB_iff.2 ⟨x, hx, h3⟩] at h2
        cases h2
    · exact .inl ⟨hne, clB_iff.1 h2, rfl⟩
theorem dcF_len (s : Sch) (st : Nat → Nat → Nat) (c : List Int) (q : Int) : (dcF s st c q).2.2.length ≤ s.rs.length := by
  rcases dcF_cases s st c q with ⟨-, h⟩ | ⟨-, -, h⟩ | ⟨-, -, h⟩ <;> rw [h]
  · exact Nat.zero_le _
  · exact Nat.zero_le _
  · exact Nat.le_trans (List.length_filter_le _ _) (apF_len _ _)
theorem decR_len (s : Sch) (c : List Int) (q : Int) : (decR s c q).2.2.length ≤ s.rs.length := by
  unfold decR
  split
  · split
    · split
      · exact dcF_len _ _ _ _
      · exact Nat.zero_le _
    · exact Nat.zero_le _
  · exact Nat.zero_le _
theorem decR_ok {s : Sch} {c : List Int} {q : Int} (hs : schB s = true) (hq : 0 ≤ q ∧ q ≤ s.q - 1) (hc : icB s.fs c = true) : decR s c q = dcF s (stF s) c q := by
  unfold decR
  rw [if_pos hs, if_pos hq, if_pos hc]
theorem dcF_old {s : Sch} {st : Nat → Nat → Nat} {c : List Int} {q : Int} (h : (dcF s st c q).2.1 = 0) : (dcF s st c q).2.2 ≠ [] := by
  rcases dcF_cases s st c q with ⟨-, h2⟩ | ⟨-, -, h2⟩ | ⟨h1, -, h2⟩
  · rw [h2] at h; cases h
  · rw [h2] at h; cases h
  · rw [h2]; exact h1
end Go.Proofs.YtmpegkojencbjaaDoor
