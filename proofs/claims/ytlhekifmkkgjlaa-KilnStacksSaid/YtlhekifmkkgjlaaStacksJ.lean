/- KilnStacks: for every stack the law returns true and leaves its argument as it is. No condition. -/
import Derived.Test.YtlhekifmkkgjlaaStacksI
set_option linter.unusedSimpArgs false
set_option linter.unusedVariables false
set_option linter.unnecessarySimpa false
/- The law KilnStacks, walked. -/
namespace Go.Proofs.Ytlhekifmkkgjlaa
open Go Go.RowKit Go.Shelf
set_option maxHeartbeats 8000000
set_option maxRecDepth 100000
/-- the boxes of the law: the stack, its copy in box g3 -/
structure KQ (w : World) (s : Stk) (g3 : Nat) (A : Option Addr) (c : Nat) (ca wa : Nat → Option Addr) (cc wc : Nat → Nat) (W : World) : Prop where
  below : Below w.heap.size w W
  bx : Blk W w.heap.size 55 #[.int .i64 s.wd, .int .i64 s.hg, .slice s.A s.nt s.cap]
  inb : Blk W g3 55 #[.int .i64 s.wd, .int .i64 s.hg, .slice A s.nt c]
  ins : StkR W W.heap.size (s.at A c ca wa cc wc)
theorem KQ.ext {w W W' : World} {s : Stk} {g3 : Nat} {A : Option Addr} {c : Nat} {ca wa : Nat → Option Addr} {cc wc : Nat → Nat} (h : KQ w s g3 A c ca wa cc wc W) (hb : Below W.heap.size W W') : KQ w s g3 A c ca wa cc wc W' :=
  ⟨h.below.trans (hb.mono h.below.size), h.bx.ext hb, h.inb.ext hb, (h.ins.below hb (Nat.le_refl _)).more hb.size⟩
theorem stacks_guard (s : Stk) (w : World) (hs : StkV w s) (hg : largeB s = true) : Calls Try.prog 11 #[.agg #[.int .i64 s.wd, .int .i64 s.hg, .slice s.A s.nt s.cap]] w fun e w' => e = .returned (.bool true) ∧ Below w.heap.size w w' := by
  have HK := hide known_any
  have HB := hide ((Below.refl w.heap.size w).alloc (Nat.le_refl _) (.cells #[.int .i64 s.wd, .int .i64 s.hg, .slice s.A s.nt s.cap] 55))
  have KS := hide (Blk.new w 55 #[.int .i64 s.wd, .int .i64 s.hg, .slice s.A s.nt s.cap])
  have HL := hide (large_any s (w.alloc (.cells #[.int .i64 s.wd, .int .i64 s.hg, .slice s.A s.nt s.cap] 55)) ⟨hs.1, (hs.2.1.below HB.out (Nat.le_refl _)).more HB.out.size, hs.2.2⟩)
  rw [hg] at HL
  clear hs hg
  go_enter Try.func11, Try.ntmps11
  go_wp2_with fail
  generalize (w.alloc (.cells #[.int .i64 s.wd, .int .i64 s.hg, .slice s.A s.nt s.cap] 55)) = W1 at HB KS HL ⊢
  obtain ⟨a0, a1, a2, a3, a4, a5, a6⟩ := blk3 KS.out
  go_wp2_with (go_at_call 25; refine HL.out.mono ?_; rintro e w2 ⟨rfl, hb2⟩)
  refine (HK.out _).mono ?_
  rintro e w9 ⟨rfl, hb9⟩
  go_wp2_with fail
  go_ret
  exact ⟨rfl, (HB.out.trans (hb2.mono HB.out.size)).trans (hb9.mono (HB.out.trans (hb2.mono HB.out.size)).size)⟩
theorem stacks_main (s : Stk) (w : World) (hs : StkR w w.heap.size s) (hnt : s.nt ≤ 12) (hc : ∀ k, k < s.nt → s.cn k ≤ 150 ∧ s.wn k ≤ 150) (hL : largeB s = false) : Calls Try.prog 11 #[.agg #[.int .i64 s.wd, .int .i64 s.hg, .slice s.A s.nt s.cap]] w fun e w' => e = .returned (.bool true) ∧ Below w.heap.size w w' := by
  have HK := hide known_any
  have HSS := hide hs
  have HCC := hide hc
  have HB := hide ((Below.refl w.heap.size w).alloc (Nat.le_refl _) (.cells #[.int .i64 s.wd, .int .i64 s.hg, .slice s.A s.nt s.cap] 55))
  have KS := hide (Blk.new w 55 #[.int .i64 s.wd, .int .i64 s.hg, .slice s.A s.nt s.cap])
  have HLG := hide (large_any s (w.alloc (.cells #[.int .i64 s.wd, .int .i64 s.hg, .slice s.A s.nt s.cap] 55)) ⟨by unfold maxLen; omega, (hs.2.1.below HB.out (Nat.le_refl _)).more HB.out.size, fun k hk => ⟨by unfold maxLen; have := hc k hk; omega, by unfold maxLen; have := hc k hk; omega⟩⟩)
  rw [hL] at HLG
  obtain ⟨E1, hE1⟩ : ∃ E, stkE s = E := ⟨_, rfl⟩
  obtain ⟨E2, hE2⟩ : ∃ E, ldE s = E := ⟨_, rfl⟩
  obtain ⟨R, hR⟩ : ∃ R, hgA s = R := ⟨_, rfl⟩
  have HM : Hid (∀ (A : Option Addr) (c : Nat) (ca wa : Nat → Option Addr) (cc wc : Nat → Nat) (W : World), StkR W W.heap.size (s.at A c ca wa cc wc) →
      (Calls Try.prog 45 #[.agg #[.int .i64 s.wd, .int .i64 s.hg, .slice A s.nt c]] W fun e w' => e = .returned (.int .i64 E1) ∧ Below W.heap.size W w') ∧
      (Calls Try.prog 46 #[.agg #[.int .i64 s.wd, .int .i64 s.hg, .slice A s.nt c]] W fun e w' => e = .returned (.tuple #[.agg #[.int .i64 R.1, .int .i64 R.2], .int .i64 E1]) ∧ Below W.heap.size W w') ∧
      (Calls Try.prog 32 #[.agg #[.int .i64 s.wd, .int .i64 s.hg, .slice A s.nt c]] W fun e w' => ∃ (AA : Option Addr) (an ac : Nat) (FA : Option Addr) (fn fc : Nat), e = .returned (.tuple #[.slice AA an ac, .slice FA fn fc, .int .i64 E2]) ∧ Below W.heap.size W w' ∧ Hid ((E2 ≠ 0 → an = 0 ∧ fn = 0) ∧
        (E2 = 0 → ∃ z, AA = some ⟨z, 0, none⟩ ∧ an = s.nt ∧ LsR w' z s.nt (LoadsL s) ∧ fn = (LoadsL s s.nt).length ∧ PI w' w'.heap.size FA fn (fun i => (((LoadsL s s.nt).getD i (0, 1)).1 : Int)) (fun i => (((LoadsL s s.nt).getD i (0, 1)).2 : Int))))) ∧
      (Calls Try.prog 47 #[.agg #[.int .i64 s.wd, .int .i64 s.hg, .slice A s.nt c]] W fun e w' => ∃ (A : Option Addr) (n c : Nat), e = .returned (.tuple #[.slice A n c, .int .i64 E1]) ∧ Below W.heap.size W w' ∧ Hid ((stackB s = false → n = 0) ∧
        (stackB s = true → n = (freeDn s s.nt).length ∧ PI w' w'.heap.size A n (fun k => (rowOf (freeDn s s.nt) k).1) (fun k => (rowOf (freeDn s s.nt) k).2))))) :=
    hide (fun A c ca wa cc wc W h => by
      have e1 : stkE (s.at A c ca wa cc wc) = E1 := hE1
      have e2 : ldE (s.at A c ca wa cc wc) = E2 := hE2
      have e3 : hgA (s.at A c ca wa cc wc) = R := hR
      refine ⟨?_, ?_, ?_, ?_⟩
      · have := CheckStack_any (s.at A c ca wa cc wc) W h
        rw [e1] at this
        exact this
      · have := Hangs_any (s.at A c ca wa cc wc) W h
        rw [e1, e3] at this
        exact this
      · refine (Loads_any (s.at A c ca wa cc wc) W h).mono ?_
        rintro e w' ⟨AA, an, ac, FA, fn, fc, h1, h2, h3, h4⟩
        rw [e2] at h1 h3 h4
        exact ⟨AA, an, ac, FA, fn, fc, h1, h2, hide ⟨h3, h4⟩⟩
      · refine (Free_any (s.at A c ca wa cc wc) W h).mono ?_
        rintro e w' ⟨A', n', c', h1, h2, h3, h4⟩
        rw [e1] at h1
        rw [show freeDn (s.at A c ca wa cc wc) (s.at A c ca wa cc wc).nt = freeDn s s.nt from freeDn_at s A c ca wa cc wc _] at h4
        exact ⟨A', n', c', h1, h2, hide ⟨h3, h4⟩⟩)
  have HE1 := hide hE1
  have HE2 := hide hE2
  have HR := hide hR
  clear hs hc hL hE1 hE2 hR
  go_enter Try.func11, Try.ntmps11
  go_wp2_with fail
  generalize (w.alloc (.cells #[.int .i64 s.wd, .int .i64 s.hg, .slice s.A s.nt s.cap] 55)) = W1 at HB KS HLG ⊢
  obtain ⟨a0, a1, a2, a3, a4, a5, a6⟩ := blk3 KS.out
  go_wp2_with fail
  refine HLG.out.mono ?_
  rintro e w2 ⟨rfl, hb2⟩
  have HB2 := hide (HB.out.trans (hb2.mono HB.out.size))
  have KS2 := hide (KS.out.ext hb2)
  clear hb2 a0 a1 a2 a3 a4 a5 a6
  obtain ⟨a0, a1, a2, a3, a4, a5, a6⟩ := blk3 KS2.out
  go_wp2_with fail
  refine (own_any s _ ((HSS.out.below HB2.out (Nat.le_refl _)).more HB2.out.size) (by omega) (fun k hk => by have := HCC.out k hk; omega)).mono ?_
  rintro e w3 ⟨A, c, ca, wa, cc, wc, rfl, hs3, hb3⟩
  have HB3 := hide (HB2.out.trans (hb3.mono HB2.out.size))
  have KS3 := hide (KS2.out.ext hb3)
  have HS3 := hide hs3
  clear hb3 hs3 a0 a1 a2 a3 a4 a5 a6 KS2 HB2 KS HB
  have HM' := hide (HM.out A c ca wa cc wc)
  go_upto_region 4 with fail
  have Q4 : Hid (KQ w s w3.heap.size A c ca wa cc wc (w3.alloc (.cells #[.int .i64 s.wd, .int .i64 s.hg, .slice A s.nt c] 55))) := hide ⟨HB3.out.alloc HB3.out.size _, KS3.out.alloc _, Blk.new w3 _ _, (HS3.out.below ((Below.refl _ _).alloc (Nat.le_refl _) _) (Nat.le_refl _)).more (by simp)⟩
  clear HB3 KS3 HS3
  generalize (w3.alloc (.cells #[.int .i64 s.wd, .int .i64 s.hg, .slice A s.nt c] 55)) = W4 at Q4 ⊢
  generalize w3.heap.size = g3 at Q4 ⊢
  obtain ⟨c0, c1, c2, c3, -, -, -⟩ := blk3 Q4.out.inb
  go_wp2_with fail
  refine (HM'.out _ Q4.out.ins).1.mono ?_
  rintro e w5 ⟨rfl, hb5⟩
  have Q5 := hide (Q4.out.ext hb5)
  clear hb5 c0 c1 c2 c3 Q4
  obtain ⟨c0, c1, c2, c3, -, -, -⟩ := blk3 Q5.out.inb
  go_wp2_with fail
  refine (HM'.out _ Q5.out.ins).2.1.mono ?_
  rintro e w6 ⟨rfl, hb6⟩
  have Q6 := hide ((Q5.out.ext hb6).ext ((Below.refl w6.heap.size w6).alloc (Nat.le_refl _) (.cells #[.int .i64 R.1, .int .i64 R.2] 59)))
  have KB := hide (Blk.new w6 59 #[.int .i64 R.1, .int .i64 R.2])
  clear hb6 c0 c1 c2 c3 Q5
  go_upto_region 6 with fail
  generalize (w6.alloc (.cells #[.int .i64 R.1, .int .i64 R.2] 59)) = W6 at Q6 KB ⊢
  generalize w6.heap.size = g5 at KB ⊢
  obtain ⟨c0, c1, c2, c3, -, -, -⟩ := blk3 Q6.out.inb
  go_wp2_with fail
  refine (HM'.out _ Q6.out.ins).2.2.1.mono ?_
  rintro e wL ⟨AA, an, ac, FA, fn, fc, rfl, hb7, HLD⟩
  have Q7 := hide (Q6.out.ext hb7)
  have KB7 := hide (KB.out.ext hb7)
  clear hb7 c0 c1 c2 c3 Q6 KB
  obtain ⟨c0, c1, c2, c3, -, -, -⟩ := blk3 Q7.out.inb
  go_wp2_with fail
  refine (HM'.out _ Q7.out.ins).2.2.2.mono ?_
  rintro e w8 ⟨FB, bn, bc, rfl, hb8, HFR⟩
  have HB8 := hide hb8
  have Q8 := hide (Q7.out.ext hb8)
  have KB8 := hide (KB7.out.ext hb8)
  clear hb8 c0 c1 c2 c3 KB7 HM HM'
  go_wp2_with fail
  go_loopw [12] (fun i wr => ∃ k : Nat, i = .int .i64 k ∧ k ≤ s.nt ∧ Hid (Below w8.heap.size w8 wr)) (fun i _ => s.nt - (intOf i).toNat)
  case atStart => exact ⟨0, rfl, by omega, hide (Below.refl _ _)⟩
  case round =>
    obtain ⟨k, rfl, hk, HW⟩ := hrel
    have QW := hide (Q8.out.ext HW.out)
    obtain ⟨a0, a1, a2, a3, -, -, -⟩ := blk3 QW.out.bx
    by_cases hlt : k < s.nt
    · -- BEGIN1
      have hlt' : (k : Int) < (s.nt : Int) := by omega
      have k0 : (0 : Int) ≤ (k : Int) := by omega
      obtain ⟨tb, toff, hA, htb, hu, -⟩ := P2.at_ HSS.out.2.1 hlt
      obtain ⟨l1, -, hIc, -⟩ := HSS.out.2.2 k hlt
      obtain ⟨ib, ioff, hA2, hib, hu2, -⟩ := P2.at_ QW.out.ins.2.1 hlt
      obtain ⟨-, -, hIc2, -⟩ := QW.out.ins.2.2 k hlt
      have ctb := (QW.out.below.cell (p := ⟨tb, toff + k * 2, none⟩) htb).trans hu
      unfold Stk.u at ctb hu2
      replace hA2 : A = some ⟨ib, ioff, none⟩ := hA2
      replace hu2 : wr.cell? ⟨ib, ioff + k * 2, none⟩ = some (.slice (ca k) (s.cn k) (cc k)) := hu2
      replace hIc2 : IR wr wr.heap.size (ca k) (s.cn k) (s.cf k) := hIc2
      have HI1 := hide hIc
      have HI2 := hide hIc2
      have CT := hide ctb
      have CI := hide hu2
      have HA := hide hA
      have HA2 := hide hA2
      have hnt2 : s.nt ≤ 12 := hnt
      clear hu hIc hIc2 ctb hu2 hA hA2
      obtain ⟨w1, hw1⟩ : ∃ w1, w1 = wr := ⟨_, rfl⟩
      subst hw1
      rw [HA.out] at a3
      have ct := CT.out
      go_wp2_with fail
      go_loopw [13] (fun i wr => ∃ j : Nat, i = .int .i64 j ∧ j ≤ s.cn k ∧ Hid (Below w1.heap.size w1 wr)) (fun i _ => s.cn k - (intOf i).toNat)
      case atStart => exact ⟨0, rfl, by omega, hide (Below.refl _ _)⟩
      case round =>
        obtain ⟨j, rfl, hj, HV⟩ := hrel
        have QV := hide (QW.out.ext HV.out)
        obtain ⟨b0, b1, b2, b3, -, -, -⟩ := blk3 QV.out.bx
        rw [HA.out] at b3
        have dt := (HV.out.cell (p := ⟨tb, toff + k * 2, none⟩) (by have := QW.out.below.size; show tb < w1.heap.size; omega)).trans CT.out
        by_cases hlj : j < s.cn k
        · have hlj' : (j : Int) < (s.cn k : Int) := by omega
          have j0 : (0 : Int) ≤ (j : Int) := by omega
          obtain ⟨yb, yoff, hya, hyb, hyc⟩ := HI1.out.at_ hlj
          obtain ⟨xb, xoff, hxa, hxb, hxc⟩ := HI2.out.at_ hlj
          obtain ⟨e0, e1, e2, e3, -, -, -⟩ := blk3 QV.out.inb
          rw [HA2.out] at e3
          have di := (HV.out.cell (p := ⟨ib, ioff + k * 2, none⟩) hib).trans CI.out
          rw [hxa] at di
          rw [hya] at dt
          have fx := (HV.out.cell (p := ⟨xb, xoff + j, none⟩) hxb).trans hxc
          have fy := (QV.out.below.cell (p := ⟨yb, yoff + j, none⟩) hyb).trans hyc
          have hyb2 : yb < wr.heap.size := by have := QV.out.below.size; omega
          have htb2 : tb < wr.heap.size := by have := QV.out.below.size; omega
          have hxb2 : xb < wr.heap.size := by have := HV.out.size; omega
          have hib2 : ib < wr.heap.size := by have := HV.out.size; omega
          have HST : Hid (∀ W, Below wr.heap.size wr W → (W.cell? ⟨g3, 2, none⟩ = some (.slice (some ⟨ib, ioff, none⟩) s.nt c) ∧ W.cell? ⟨w.heap.size, 2, none⟩ = some (.slice (some ⟨tb, toff, none⟩) s.nt s.cap)) ∧ (W.cell? ⟨ib, ioff + k * 2, none⟩ = some (.slice (some ⟨xb, xoff, none⟩) (s.cn k) (cc k)) ∧ W.cell? ⟨tb, toff + k * 2, none⟩ = some (.slice (some ⟨yb, yoff, none⟩) (s.cn k) (s.cc k))) ∧ W.cell? ⟨xb, xoff + j, none⟩ = some (.int .i64 (s.cf k j)) ∧ W.cell? ⟨yb, yoff + j, none⟩ = some (.int .i64 (s.cf k j))) := hide (fun W h => ⟨⟨(h.cell (p := ⟨g3, 2, none⟩) e0).trans e3, (h.cell (p := ⟨w.heap.size, 2, none⟩) b0).trans b3⟩, ⟨(h.cell (p := ⟨ib, ioff + k * 2, none⟩) hib2).trans di, (h.cell (p := ⟨tb, toff + k * 2, none⟩) htb2).trans dt⟩, (h.cell (p := ⟨xb, xoff + j, none⟩) hxb2).trans fx, (h.cell (p := ⟨yb, yoff + j, none⟩) hyb2).trans fy⟩)
          clear hya hxa hyc hxc e1 e2 di fx fy e3
          go_upto_region 14 with fail
          have Bd := hide (Below.refl wr.heap.size wr).drew
          refine wp_region_J (fun W : World => (W.cell? ⟨g3, 2, none⟩ = some (.slice (some ⟨ib, ioff, none⟩) s.nt c) ∧ W.cell? ⟨w.heap.size, 2, none⟩ = some (.slice (some ⟨tb, toff, none⟩) s.nt s.cap)) ∧ (W.cell? ⟨ib, ioff + k * 2, none⟩ = some (.slice (some ⟨xb, xoff, none⟩) (s.cn k) (cc k)) ∧ W.cell? ⟨tb, toff + k * 2, none⟩ = some (.slice (some ⟨yb, yoff, none⟩) (s.cn k) (s.cc k))) ∧ W.cell? ⟨xb, xoff + j, none⟩ = some (.int .i64 (s.cf k j)) ∧ W.cell? ⟨yb, yoff + j, none⟩ = some (.int .i64 (s.cf k j))) (by kernel_rfl) ?_
          have HVd := hide (HV.out.trans (Bd.out.mono HV.out.size))
          generalize wr.drew = wd at Bd HVd ⊢
          refine wpAnyJ_take 0 (v := ?_) (by first | exact hF | exact wideFn) (HST.out _ Bd.out) rfl (by kernel_rfl) (by kernel_rfl) (by kernel_rfl) (by kernel_rfl) rfl ?_ (by first | exact fun _ _ _ h => h | exact fun _ _ _ h => hQ2 _ _ _ _ _ h) ?_
          rotate_left
          · intro W hSW
            simp only [List.getElem_toArray, List.getElem_cons_zero, List.getElem_cons_succ]
            (try dsimp only at hSW)
            go_simp
            with_reducible rfl
          (try simp only [List.getElem_toArray, List.getElem_cons_zero, List.getElem_cons_succ, Act.put, List.setIfInBounds_toArray, List.set_cons_zero, List.set_cons_succ])
          refine wpAnyJ_take 1 (v := ?_) (by first | exact hF | exact wideFn) (HST.out _ Bd.out) rfl (by kernel_rfl) (by kernel_rfl) (by kernel_rfl) (by kernel_rfl) rfl ?_ (by first | exact fun _ _ _ h => h | exact fun _ _ _ h => hQ2 _ _ _ _ _ h) ?_
          rotate_left
          · intro W hSW
            simp only [List.getElem_toArray, List.getElem_cons_zero, List.getElem_cons_succ]
            (try dsimp only at hSW)
            go_simp
            with_reducible rfl
          (try simp only [List.getElem_toArray, List.getElem_cons_zero, List.getElem_cons_succ, Act.put, List.setIfInBounds_toArray, List.set_cons_zero, List.set_cons_succ])
          refine wpAnyJ_take 2 (v := ?_) (by first | exact hF | exact wideFn) (HST.out _ Bd.out) rfl (by kernel_rfl) (by kernel_rfl) (by kernel_rfl) (by kernel_rfl) rfl ?_ (by first | exact fun _ _ _ h => h | exact fun _ _ _ h => hQ2 _ _ _ _ _ h) ?_
          rotate_left
          · intro W hSW
            simp only [List.getElem_toArray, List.getElem_cons_zero, List.getElem_cons_succ]
            (try dsimp only at hSW)
            go_simp
            with_reducible rfl
          (try simp only [List.getElem_toArray, List.getElem_cons_zero, List.getElem_cons_succ, Act.put, List.setIfInBounds_toArray, List.set_cons_zero, List.set_cons_succ])
          refine wpAnyJ_take 3 (v := ?_) (by first | exact hF | exact wideFn) (HST.out _ Bd.out) rfl (by kernel_rfl) (by kernel_rfl) (by kernel_rfl) (by kernel_rfl) rfl ?_ (by first | exact fun _ _ _ h => h | exact fun _ _ _ h => hQ2 _ _ _ _ _ h) ?_
          rotate_left
          · intro W hSW
            simp only [List.getElem_toArray, List.getElem_cons_zero, List.getElem_cons_succ]
            (try dsimp only at hSW)
            go_simp
            with_reducible rfl
          (try simp only [List.getElem_toArray, List.getElem_cons_zero, List.getElem_cons_succ, Act.put, List.setIfInBounds_toArray, List.set_cons_zero, List.set_cons_succ])
          refine wpAnyJ_take 4 (v := ?_) (by first | exact hF | exact wideFn) (HST.out _ Bd.out) rfl (by kernel_rfl) (by kernel_rfl) (by kernel_rfl) (by kernel_rfl) rfl ?_ (by first | exact fun _ _ _ h => h | exact fun _ _ _ h => hQ2 _ _ _ _ _ h) ?_
          rotate_left
          · intro W hSW
            simp only [List.getElem_toArray, List.getElem_cons_zero, List.getElem_cons_succ]
            (try dsimp only at hSW)
            go_simp
            with_reducible rfl
          (try simp only [List.getElem_toArray, List.getElem_cons_zero, List.getElem_cons_succ, Act.put, List.setIfInBounds_toArray, List.set_cons_zero, List.set_cons_succ])
          refine wpAnyJ_take 5 (v := ?_) (by first | exact hF | exact wideFn) (HST.out _ Bd.out) rfl (by kernel_rfl) (by kernel_rfl) (by kernel_rfl) (by kernel_rfl) rfl ?_ (by first | exact fun _ _ _ h => h | exact fun _ _ _ h => hQ2 _ _ _ _ _ h) ?_
          rotate_left
          · intro W hSW
            simp only [List.getElem_toArray, List.getElem_cons_zero, List.getElem_cons_succ]
            (try dsimp only at hSW)
            go_simp
            with_reducible rfl
          (try simp only [List.getElem_toArray, List.getElem_cons_zero, List.getElem_cons_succ, Act.put, List.setIfInBounds_toArray, List.set_cons_zero, List.set_cons_succ])
          refine wpAnyJ_take 6 (v := ?_) (by first | exact hF | exact wideFn) (HST.out _ Bd.out) rfl (by kernel_rfl) (by kernel_rfl) (by kernel_rfl) (by kernel_rfl) rfl ?_ (by first | exact fun _ _ _ h => h | exact fun _ _ _ h => hQ2 _ _ _ _ _ h) ?_
          rotate_left
          · intro W hSW
            simp only [List.getElem_toArray, List.getElem_cons_zero, List.getElem_cons_succ]
            (try dsimp only at hSW)
            go_simp
            with_reducible rfl
          (try simp only [List.getElem_toArray, List.getElem_cons_zero, List.getElem_cons_succ, Act.put, List.setIfInBounds_toArray, List.set_cons_zero, List.set_cons_succ])
          refine wpAnyJ_take 7 (v := ?_) (by first | exact hF | exact wideFn) (HST.out _ Bd.out) rfl (by kernel_rfl) (by kernel_rfl) (by kernel_rfl) (by kernel_rfl) rfl ?_ (by first | exact fun _ _ _ h => h | exact fun _ _ _ h => hQ2 _ _ _ _ _ h) ?_
          rotate_left
          · intro W hSW
            simp only [List.getElem_toArray, List.getElem_cons_zero, List.getElem_cons_succ]
            (try dsimp only at hSW)
            go_simp
            with_reducible rfl
          (try simp only [List.getElem_toArray, List.getElem_cons_zero, List.getElem_cons_succ, Act.put, List.setIfInBounds_toArray, List.set_cons_zero, List.set_cons_succ])
          refine wpAnyJ_take 8 (v := ?_) (by first | exact hF | exact wideFn) (HST.out _ Bd.out) rfl (by kernel_rfl) (by kernel_rfl) (by kernel_rfl) (by kernel_rfl) rfl ?_ (by first | exact fun _ _ _ h => h | exact fun _ _ _ h => hQ2 _ _ _ _ _ h) ?_
          rotate_left
          · intro W hSW
            simp only [List.getElem_toArray, List.getElem_cons_zero, List.getElem_cons_succ]
            (try dsimp only at hSW)
            go_simp
            with_reducible rfl
          (try simp only [List.getElem_toArray, List.getElem_cons_zero, List.getElem_cons_succ, Act.put, List.setIfInBounds_toArray, List.set_cons_zero, List.set_cons_succ])
          refine wpAnyJ_take 9 (v := ?_) (by first | exact hF | exact wideFn) (HST.out _ Bd.out) rfl (by kernel_rfl) (by kernel_rfl) (by kernel_rfl) (by kernel_rfl) rfl ?_ (by first | exact fun _ _ _ h => h | exact fun _ _ _ h => hQ2 _ _ _ _ _ h) ?_
          rotate_left
          · intro W hSW
            simp only [List.getElem_toArray, List.getElem_cons_zero, List.getElem_cons_succ]
            (try dsimp only at hSW)
            go_simp
            with_reducible rfl
          (try simp only [List.getElem_toArray, List.getElem_cons_zero, List.getElem_cons_succ, Act.put, List.setIfInBounds_toArray, List.set_cons_zero, List.set_cons_succ])
          refine wpAnyJ_take 10 (v := ?_) (by first | exact hF | exact wideFn) (HST.out _ Bd.out) rfl (by kernel_rfl) (by kernel_rfl) (by kernel_rfl) (by kernel_rfl) rfl ?_ (by first | exact fun _ _ _ h => h | exact fun _ _ _ h => hQ2 _ _ _ _ _ h) ?_
          rotate_left
          · intro W hSW
            simp only [List.getElem_toArray, List.getElem_cons_zero, List.getElem_cons_succ]
            (try dsimp only at hSW)
            go_simp
            with_reducible rfl
          (try simp only [List.getElem_toArray, List.getElem_cons_zero, List.getElem_cons_succ, Act.put, List.setIfInBounds_toArray, List.set_cons_zero, List.set_cons_succ])
          refine wpAnyJ_take 11 (v := ?_) (by first | exact hF | exact wideFn) (HST.out _ Bd.out) rfl (by kernel_rfl) (by kernel_rfl) (by kernel_rfl) (by kernel_rfl) rfl ?_ (by first | exact fun _ _ _ h => h | exact fun _ _ _ h => hQ2 _ _ _ _ _ h) ?_
          rotate_left
          · intro W hSW
            simp only [List.getElem_toArray, List.getElem_cons_zero, List.getElem_cons_succ]
            (try dsimp only at hSW)
            go_simp
            with_reducible rfl
          (try simp only [List.getElem_toArray, List.getElem_cons_zero, List.getElem_cons_succ, Act.put, List.setIfInBounds_toArray, List.set_cons_zero, List.set_cons_succ])
          refine wpAnyJ_take 12 (v := ?_) (by first | exact hF | exact wideFn) (HST.out _ Bd.out) rfl (by kernel_rfl) (by kernel_rfl) (by kernel_rfl) (by kernel_rfl) rfl ?_ (by first | exact fun _ _ _ h => h | exact fun _ _ _ h => hQ2 _ _ _ _ _ h) ?_
          rotate_left
          · intro W hSW
            simp only [List.getElem_toArray, List.getElem_cons_zero, List.getElem_cons_succ]
            (try dsimp only at hSW)
            go_simp
            with_reducible rfl
          (try simp only [List.getElem_toArray, List.getElem_cons_zero, List.getElem_cons_succ, Act.put, List.setIfInBounds_toArray, List.set_cons_zero, List.set_cons_succ])
          refine wpAnyJ_take 13 (v := ?_) (by first | exact hF | exact wideFn) (HST.out _ Bd.out) rfl (by kernel_rfl) (by kernel_rfl) (by kernel_rfl) (by kernel_rfl) rfl ?_ (by first | exact fun _ _ _ h => h | exact fun _ _ _ h => hQ2 _ _ _ _ _ h) ?_
          rotate_left
          · intro W hSW
            simp only [List.getElem_toArray, List.getElem_cons_zero, List.getElem_cons_succ]
            (try dsimp only at hSW)
            go_simp
            with_reducible rfl
          (try simp only [List.getElem_toArray, List.getElem_cons_zero, List.getElem_cons_succ, Act.put, List.setIfInBounds_toArray, List.set_cons_zero, List.set_cons_succ])
          refine wpAnyJ_take 14 (v := ?_) (by first | exact hF | exact wideFn) (HST.out _ Bd.out) rfl (by kernel_rfl) (by kernel_rfl) (by kernel_rfl) (by kernel_rfl) rfl ?_ (by first | exact fun _ _ _ h => h | exact fun _ _ _ h => hQ2 _ _ _ _ _ h) ?_
          rotate_left
          · intro W hSW
            simp only [List.getElem_toArray, List.getElem_cons_zero, List.getElem_cons_succ]
            (try dsimp only at hSW)
            go_simp
            with_reducible rfl
          (try simp only [List.getElem_toArray, List.getElem_cons_zero, List.getElem_cons_succ, Act.put, List.setIfInBounds_toArray, List.set_cons_zero, List.set_cons_succ])
          refine wpAnyJ_take 15 (v := ?_) (by first | exact hF | exact wideFn) (HST.out _ Bd.out) rfl (by kernel_rfl) (by kernel_rfl) (by kernel_rfl) (by kernel_rfl) rfl ?_ (by first | exact fun _ _ _ h => h | exact fun _ _ _ h => hQ2 _ _ _ _ _ h) ?_
          rotate_left
          · intro W hSW
            simp only [List.getElem_toArray, List.getElem_cons_zero, List.getElem_cons_succ]
            (try dsimp only at hSW)
            go_simp
            with_reducible rfl
          (try simp only [List.getElem_toArray, List.getElem_cons_zero, List.getElem_cons_succ, Act.put, List.setIfInBounds_toArray, List.set_cons_zero, List.set_cons_succ])
          refine wpAnyJ_take 16 (v := ?_) (by first | exact hF | exact wideFn) (HST.out _ Bd.out) rfl (by kernel_rfl) (by kernel_rfl) (by kernel_rfl) (by kernel_rfl) rfl ?_ (by first | exact fun _ _ _ h => h | exact fun _ _ _ h => hQ2 _ _ _ _ _ h) ?_
          rotate_left
          · intro W hSW
            simp only [List.getElem_toArray, List.getElem_cons_zero, List.getElem_cons_succ]
            (try dsimp only at hSW)
            go_simp
            with_reducible rfl
          (try simp only [List.getElem_toArray, List.getElem_cons_zero, List.getElem_cons_succ, Act.put, List.setIfInBounds_toArray, List.set_cons_zero, List.set_cons_succ])
          refine wpAnyJ_take 17 (v := ?_) (by first | exact hF | exact wideFn) (HST.out _ Bd.out) rfl (by kernel_rfl) (by kernel_rfl) (by kernel_rfl) (by kernel_rfl) rfl ?_ (by first | exact fun _ _ _ h => h | exact fun _ _ _ h => hQ2 _ _ _ _ _ h) ?_
          rotate_left
          · intro W hSW
            simp only [List.getElem_toArray, List.getElem_cons_zero, List.getElem_cons_succ]
            (try dsimp only at hSW)
            go_simp
            with_reducible rfl
          (try simp only [List.getElem_toArray, List.getElem_cons_zero, List.getElem_cons_succ, Act.put, List.setIfInBounds_toArray, List.set_cons_zero, List.set_cons_succ])
          refine wpAnyJ_take 18 (v := ?_) (by first | exact hF | exact wideFn) (HST.out _ Bd.out) rfl (by kernel_rfl) (by kernel_rfl) (by kernel_rfl) (by kernel_rfl) rfl ?_ (by first | exact fun _ _ _ h => h | exact fun _ _ _ h => hQ2 _ _ _ _ _ h) ?_
          rotate_left
          · intro W hSW
            simp only [List.getElem_toArray, List.getElem_cons_zero, List.getElem_cons_succ]
            (try dsimp only at hSW)
            go_simp
            with_reducible rfl
          (try simp only [List.getElem_toArray, List.getElem_cons_zero, List.getElem_cons_succ, Act.put, List.setIfInBounds_toArray, List.set_cons_zero, List.set_cons_succ])
          refine wpAnyJ_done (by kernel_rfl) ?_
          go_wp2_with fail
          go_roundw
          case rel => exact ⟨j + 1, by go_num, by omega, HVd⟩
          case measure => simp [intOf]; omega
        · obtain ⟨CN, hCN⟩ : ∃ CN, CN = s.cn k := ⟨_, rfl⟩
          have hjn : j = CN := by omega
          subst hjn
          have hlj' : ¬ (j : Int) < (s.cn k : Int) := by omega
          clear hCN hj hlj
          go_wp2_with fail
          go_roundw
          case rel => exact ⟨k + 1, by go_num, by omega, hide (HW.out.trans (HV.out.mono HW.out.size))⟩
          case measure => simp [intOf]; omega
      -- END1
    · obtain rfl : s.nt = k := by omega
      clear hlt hk
      have KBW := hide (KB8.out.ext HW.out)
      have HRS := hide (refStack_any s wr ((HSS.out.below QW.out.below (Nat.le_refl _)).more QW.out.below.size))
      rcases h1 : stackB s with _ | _
      · -- BEGIN2
        have hv1 : E1 = 2 ∧ E2 = 2 ∧ R = (0, 0) := ⟨HE1.out.symm.trans (stkE_no h1), HE2.out.symm.trans (by unfold ldE; rw [if_pos h1]), HR.out.symm.trans (by unfold hgA; rw [h1, if_neg (by simp)])⟩
        obtain ⟨rfl, rfl, rfl⟩ := hv1
        obtain ⟨rfl, rfl⟩ := HLD.out.1 (by omega)
        obtain rfl := HFR.out.1 h1
        rw [h1] at HRS
        clear h1
        go_wp2_with fail
        refine HRS.out.mono ?_
        rintro e w7 ⟨rfl, hb7⟩
        obtain ⟨f0, f1, f2, -, -⟩ := blk2 (KBW.out.ext hb7)
        have HQ := hide (QW.out.ext hb7)
        go_wp2_with fail
        refine (HK.out _).mono ?_
        rintro e w9 ⟨rfl, hb9⟩
        go_wp2_with fail
        go_ret
        exact ⟨rfl, (HQ.out.below).trans (hb9.mono (HQ.out.below).size)⟩
        -- END2
      · rw [h1] at HRS
        have hfn := HFR.out.2 h1
        obtain ⟨rfl, hPF⟩ := hfn
        have hv1 : E1 = 0 ∧ R = hangF s := ⟨HE1.out.symm.trans (stkE_ok h1), HR.out.symm.trans (by unfold hgA; rw [h1, if_pos rfl])⟩
        obtain ⟨rfl, hRR⟩ := hv1
        have hf144 : flr s ≤ 144 := by
          have hfl := flr_eq h1
          obtain ⟨⟨⟨d1, d2⟩, ⟨d3, d4⟩⟩, -, -⟩ := (stackB_iff s).1 h1
          have hmb := mul_bd (a := s.wd) (b := s.hg) (M := 12) (N := 12) (by omega) (by omega) (by omega) (by omega)
          omega
        have HFL := hide (fun (k : Nat) (hk : k < s.nt) => (tier_facts h1 hk).1)
        have HWN := hide (fun (k : Nat) (hk : k < s.nt) => (tier_facts h1 hk).2.1)
        have HFB := hide (fun r hr => free_len_bd h1 r hr)
        have HPF := hide hPF
        have H1 := hide h1
        have HRR := hide hRR
        have hflen := free_len_bd h1 s.nt (Nat.le_refl _)
        clear h1 hPF hRR HFR
        obtain ⟨bn, hbn⟩ : ∃ n, (freeDn s s.nt).length = n := ⟨_, rfl⟩
        rw [hbn] at HPF hflen ⊢
        have HBN := hide hbn
        clear hbn
        go_wp2_with fail
        refine HRS.out.mono ?_
        rintro e w7 ⟨rfl, hb7⟩
        have QX := hide (QW.out.ext hb7)
        have KBX := hide (KBW.out.ext hb7)
        have HX8 := hide (HW.out.trans (hb7.mono HW.out.size))
        clear hb7 a0 a1 a2 a3 HRS
        go_upto_region 18 with fail
        have HSQ : Hid (∀ W, Below w7.heap.size w7 W → (W.cell? ⟨w.heap.size, 0, none⟩ = some (.int .i64 s.wd) ∧ W.cell? ⟨w.heap.size, 1, none⟩ = some (.int .i64 s.hg) ∧ W.cell? ⟨w.heap.size, 2, none⟩ = some (.slice s.A s.nt s.cap)) ∧ W.cell? ⟨g5, 0, none⟩ = some (.int .i64 R.1) ∧ W.cell? ⟨g5, 1, none⟩ = some (.int .i64 R.2)) := hide (fun W h => by
          obtain ⟨-, d1, d2, d3, -, -, -⟩ := blk3 (QX.out.bx.ext h)
          obtain ⟨-, d4, d5, -, -⟩ := blk2 (KBX.out.ext h)
          exact ⟨⟨d1, d2, d3⟩, d4, d5⟩)
        have HRH := hide (fun W (h : Below w7.heap.size w7 W) => (by
          have hB := QX.out.below.trans (h.mono QX.out.below.size)
          have h2 := refHangs_any s W ((HSS.out.below hB (Nat.le_refl _)).more hB.size) (fun k j hk hj => (HFL.out k hk).trans (HFL.out j hj).symm)
          rw [← HRR.out] at h2
          exact h2 : Calls Try.prog 29 #[.agg #[.int .i64 s.wd, .int .i64 s.hg, .slice s.A s.nt s.cap]] W fun e w' => e = .returned (.agg #[.int .i64 R.1, .int .i64 R.2]) ∧ Below W.heap.size W w'))
        have HRF := hide (fun W (h : Below w7.heap.size w7 W) => (by
          have hB := QX.out.below.trans (h.mono QX.out.below.size)
          refine (refFree_any s (flr s) W ((HSS.out.below hB (Nat.le_refl _)).more hB.size) HFL.out (fun r hr => Nat.le_trans (HFB.out r hr) (by omega)) (fun t ht => Nat.le_trans (HWN.out t ht) (by omega))).mono ?_
          rintro e w' ⟨v, rfl, hv, hb⟩
          obtain ⟨A', c', rfl, hP⟩ := hv.pi
          rw [HBN.out] at hP ⊢
          exact ⟨A', c', rfl, hP, hb⟩ : Calls Try.prog 49 #[.agg #[.int .i64 s.wd, .int .i64 s.hg, .slice s.A s.nt s.cap]] W fun e w' => ∃ A' c', e = .returned (.slice A' bn c') ∧ PI w' w'.heap.size A' bn (fun k => (rowOf (freeDn s s.nt) k).1) (fun k => (rowOf (freeDn s s.nt) k).2) ∧ Below W.heap.size W w'))
        have HPW := hide (fun W (h : Below w7.heap.size w7 W) => (HPF.out.below (HX8.out.trans (h.mono HX8.out.size)) (Nat.le_refl _)).more (HX8.out.trans (h.mono HX8.out.size)).size)
        clear HFB HWN
        have hbm : bn ≤ maxLen := by unfold maxLen; omega
        have Bd := hide (Below.refl w7.heap.size w7).drew
        refine wp_region_J (fun W : World => (W.cell? ⟨w.heap.size, 0, none⟩ = some (.int .i64 s.wd) ∧ W.cell? ⟨w.heap.size, 1, none⟩ = some (.int .i64 s.hg) ∧ W.cell? ⟨w.heap.size, 2, none⟩ = some (.slice s.A s.nt s.cap)) ∧ W.cell? ⟨g5, 0, none⟩ = some (.int .i64 R.1) ∧ W.cell? ⟨g5, 1, none⟩ = some (.int .i64 R.2)) (by kernel_rfl) ?_
        generalize w7.drew = wd at Bd ⊢
        refine wpAnyJ_take 0 (v := ?_) (by first | exact hF | exact wideFn) (HSQ.out _ Bd.out) rfl (by kernel_rfl) (by kernel_rfl) (by kernel_rfl) (by kernel_rfl) rfl ?_ (by first | exact fun _ _ _ h => h | exact fun _ _ _ h => hQ2 _ _ _ _ _ h) ?_
        rotate_left
        · intro W hSW
          simp only [List.getElem_toArray, List.getElem_cons_zero, List.getElem_cons_succ]
          (try dsimp only at hSW)
          go_simp
          with_reducible rfl
        (try simp only [List.getElem_toArray, List.getElem_cons_zero, List.getElem_cons_succ, Act.put, List.setIfInBounds_toArray, List.set_cons_zero, List.set_cons_succ])
        refine wpAnyJ_take 1 (v := ?_) (by first | exact hF | exact wideFn) (HSQ.out _ Bd.out) rfl (by kernel_rfl) (by kernel_rfl) (by kernel_rfl) (by kernel_rfl) rfl ?_ (by first | exact fun _ _ _ h => h | exact fun _ _ _ h => hQ2 _ _ _ _ _ h) ?_
        rotate_left
        · intro W hSW
          simp only [List.getElem_toArray, List.getElem_cons_zero, List.getElem_cons_succ]
          (try dsimp only at hSW)
          go_simp
          with_reducible rfl
        (try simp only [List.getElem_toArray, List.getElem_cons_zero, List.getElem_cons_succ, Act.put, List.setIfInBounds_toArray, List.set_cons_zero, List.set_cons_succ])
        refine wpAnyJ_take 2 (v := ?_) (by first | exact hF | exact wideFn) (HSQ.out _ Bd.out) rfl (by kernel_rfl) (by kernel_rfl) (by kernel_rfl) (by kernel_rfl) rfl ?_ (by first | exact fun _ _ _ h => h | exact fun _ _ _ h => hQ2 _ _ _ _ _ h) ?_
        rotate_left
        · intro W hSW
          simp only [List.getElem_toArray, List.getElem_cons_zero, List.getElem_cons_succ]
          (try dsimp only at hSW)
          go_simp
          with_reducible rfl
        (try simp only [List.getElem_toArray, List.getElem_cons_zero, List.getElem_cons_succ, Act.put, List.setIfInBounds_toArray, List.set_cons_zero, List.set_cons_succ])
        refine wpAnyJ_take 3 (v := ?_) (by first | exact hF | exact wideFn) (HSQ.out _ Bd.out) rfl (by kernel_rfl) (by kernel_rfl) (by kernel_rfl) (by kernel_rfl) rfl ?_ (by first | exact fun _ _ _ h => h | exact fun _ _ _ h => hQ2 _ _ _ _ _ h) ?_
        rotate_left
        · intro W hSW
          simp only [List.getElem_toArray, List.getElem_cons_zero, List.getElem_cons_succ]
          (try dsimp only at hSW)
          go_simp
          with_reducible rfl
        (try simp only [List.getElem_toArray, List.getElem_cons_zero, List.getElem_cons_succ, Act.put, List.setIfInBounds_toArray, List.set_cons_zero, List.set_cons_succ])
        refine wpAnyJ_take 4 (v := ?_) (by first | exact hF | exact wideFn) (HSQ.out _ Bd.out) rfl (by kernel_rfl) (by kernel_rfl) (by kernel_rfl) (by kernel_rfl) rfl ?_ (by first | exact fun _ _ _ h => h | exact fun _ _ _ h => hQ2 _ _ _ _ _ h) ?_
        rotate_left
        · intro W hSW
          simp only [List.getElem_toArray, List.getElem_cons_zero, List.getElem_cons_succ]
          (try dsimp only at hSW)
          go_simp
          with_reducible rfl
        (try simp only [List.getElem_toArray, List.getElem_cons_zero, List.getElem_cons_succ, Act.put, List.setIfInBounds_toArray, List.set_cons_zero, List.set_cons_succ])
        refine wpAnyJ_take 5 (v := ?_) (by first | exact hF | exact wideFn) (HSQ.out _ Bd.out) rfl (by kernel_rfl) (by kernel_rfl) (by kernel_rfl) (by kernel_rfl) rfl ?_ (by first | exact fun _ _ _ h => h | exact fun _ _ _ h => hQ2 _ _ _ _ _ h) ?_
        rotate_left
        · intro W hSW
          simp only [List.getElem_toArray, List.getElem_cons_zero, List.getElem_cons_succ]
          (try dsimp only at hSW)
          go_simp
          with_reducible rfl
        (try simp only [List.getElem_toArray, List.getElem_cons_zero, List.getElem_cons_succ, Act.put, List.setIfInBounds_toArray, List.set_cons_zero, List.set_cons_succ])
        refine wpAnyJ_take 6 (v := ?_) (by first | exact hF | exact wideFn) (HSQ.out _ Bd.out) rfl (by kernel_rfl) (by kernel_rfl) (by kernel_rfl) (by kernel_rfl) rfl ?_ (by first | exact fun _ _ _ h => h | exact fun _ _ _ h => hQ2 _ _ _ _ _ h) ?_
        rotate_left
        · intro W hSW
          simp only [List.getElem_toArray, List.getElem_cons_zero, List.getElem_cons_succ]
          (try dsimp only at hSW)
          go_simp
          with_reducible rfl
        (try simp only [List.getElem_toArray, List.getElem_cons_zero, List.getElem_cons_succ, Act.put, List.setIfInBounds_toArray, List.set_cons_zero, List.set_cons_succ])
        refine wpAnyJ_take 7 (v := ?_) (by first | exact hF | exact wideFn) (HSQ.out _ Bd.out) rfl (by kernel_rfl) (by kernel_rfl) (by kernel_rfl) (by kernel_rfl) rfl ?_ (by first | exact fun _ _ _ h => h | exact fun _ _ _ h => hQ2 _ _ _ _ _ h) ?_
        rotate_left
        · intro W hSW
          simp only [List.getElem_toArray, List.getElem_cons_zero, List.getElem_cons_succ]
          (try dsimp only at hSW)
          go_simp
          with_reducible rfl
        (try simp only [List.getElem_toArray, List.getElem_cons_zero, List.getElem_cons_succ, Act.put, List.setIfInBounds_toArray, List.set_cons_zero, List.set_cons_succ])
        refine wpAnyJ_take 8 (v := ?_) (by first | exact hF | exact wideFn) (HSQ.out _ Bd.out) rfl (by kernel_rfl) (by kernel_rfl) (by kernel_rfl) (by kernel_rfl) rfl ?_ (by first | exact fun _ _ _ h => h | exact fun _ _ _ h => hQ2 _ _ _ _ _ h) ?_
        rotate_left
        · intro W hSW
          simp only [List.getElem_toArray, List.getElem_cons_zero, List.getElem_cons_succ]
          (try dsimp only at hSW)
          go_simp
          with_reducible rfl
        (try simp only [List.getElem_toArray, List.getElem_cons_zero, List.getElem_cons_succ, Act.put, List.setIfInBounds_toArray, List.set_cons_zero, List.set_cons_succ])
        refine wpAnyJ_take 9 (v := ?_) (by first | exact hF | exact wideFn) (HSQ.out _ Bd.out) rfl (by kernel_rfl) (by kernel_rfl) (by kernel_rfl) (by kernel_rfl) rfl ?_ (by first | exact fun _ _ _ h => h | exact fun _ _ _ h => hQ2 _ _ _ _ _ h) ?_
        rotate_left
        · intro W hSW
          simp only [List.getElem_toArray, List.getElem_cons_zero, List.getElem_cons_succ]
          (try dsimp only at hSW)
          go_simp
          with_reducible rfl
        (try simp only [List.getElem_toArray, List.getElem_cons_zero, List.getElem_cons_succ, Act.put, List.setIfInBounds_toArray, List.set_cons_zero, List.set_cons_succ])
        refine wpAnyJ_take 10 (v := ?_) (by first | exact hF | exact wideFn) (HSQ.out _ Bd.out) rfl (by kernel_rfl) (by kernel_rfl) (by kernel_rfl) (by kernel_rfl) rfl ?_ (by first | exact fun _ _ _ h => h | exact fun _ _ _ h => hQ2 _ _ _ _ _ h) ?_
        rotate_left
        · intro W hSW
          simp only [List.getElem_toArray, List.getElem_cons_zero, List.getElem_cons_succ]
          (try dsimp only at hSW)
          go_simp
          with_reducible rfl
        (try simp only [List.getElem_toArray, List.getElem_cons_zero, List.getElem_cons_succ, Act.put, List.setIfInBounds_toArray, List.set_cons_zero, List.set_cons_succ])
        refine wpAnyJ_take 11 (v := ?_) (by first | exact hF | exact wideFn) (HSQ.out _ Bd.out) rfl (by kernel_rfl) (by kernel_rfl) (by kernel_rfl) (by kernel_rfl) rfl ?_ (by first | exact fun _ _ _ h => h | exact fun _ _ _ h => hQ2 _ _ _ _ _ h) ?_
        rotate_left
        · intro W hSW
          simp only [List.getElem_toArray, List.getElem_cons_zero, List.getElem_cons_succ]
          (try dsimp only at hSW)
          go_simp
          with_reducible rfl
        (try simp only [List.getElem_toArray, List.getElem_cons_zero, List.getElem_cons_succ, Act.put, List.setIfInBounds_toArray, List.set_cons_zero, List.set_cons_succ])
        refine wpAnyJ_take 12 (v := ?_) (by first | exact hF | exact wideFn) (HSQ.out _ Bd.out) rfl (by kernel_rfl) (by kernel_rfl) (by kernel_rfl) (by kernel_rfl) rfl ?_ (by first | exact fun _ _ _ h => h | exact fun _ _ _ h => hQ2 _ _ _ _ _ h) ?_
        rotate_left
        · intro W hSW
          simp only [List.getElem_toArray, List.getElem_cons_zero, List.getElem_cons_succ]
          (try dsimp only at hSW)
          go_simp
          with_reducible rfl
        (try simp only [List.getElem_toArray, List.getElem_cons_zero, List.getElem_cons_succ, Act.put, List.setIfInBounds_toArray, List.set_cons_zero, List.set_cons_succ])
        refine wpAnyJ_one 13 rfl (by kernel_rfl) (fun K hK => ?_)
        simp only [List.getElem_toArray, List.getElem_cons_zero, List.getElem_cons_succ]
        go_simp
        refine ⟨trivial, rfl, ?_⟩
        refine (callsIn_wide.2 (HRH.out _ Bd.out)).mono ?_
        rintro e w10 ⟨rfl, hb10⟩
        have HE := hide (Bd.out.trans (hb10.mono Bd.out.size))
        dsimp only
        refine hK.out _ _ (fun _ => HSQ.out _ HE.out) ?_
        clear hK K
        (try simp only [List.getElem_toArray, List.getElem_cons_zero, List.getElem_cons_succ, Act.put, List.setIfInBounds_toArray, List.set_cons_zero, List.set_cons_succ])
        refine wpAnyJ_take 14 (v := ?_) (by first | exact hF | exact wideFn) (HSQ.out _ HE.out) rfl (by kernel_rfl) (by kernel_rfl) (by kernel_rfl) (by kernel_rfl) rfl ?_ (by first | exact fun _ _ _ h => h | exact fun _ _ _ h => hQ2 _ _ _ _ _ h) ?_
        rotate_left
        · intro W hSW
          simp only [List.getElem_toArray, List.getElem_cons_zero, List.getElem_cons_succ]
          (try dsimp only at hSW)
          go_simp
          with_reducible rfl
        (try simp only [List.getElem_toArray, List.getElem_cons_zero, List.getElem_cons_succ, Act.put, List.setIfInBounds_toArray, List.set_cons_zero, List.set_cons_succ])
        refine wpAnyJ_take 15 (v := ?_) (by first | exact hF | exact wideFn) (HSQ.out _ HE.out) rfl (by kernel_rfl) (by kernel_rfl) (by kernel_rfl) (by kernel_rfl) rfl ?_ (by first | exact fun _ _ _ h => h | exact fun _ _ _ h => hQ2 _ _ _ _ _ h) ?_
        rotate_left
        · intro W hSW
          simp only [List.getElem_toArray, List.getElem_cons_zero, List.getElem_cons_succ]
          (try dsimp only at hSW)
          go_simp
          with_reducible rfl
        (try simp only [List.getElem_toArray, List.getElem_cons_zero, List.getElem_cons_succ, Act.put, List.setIfInBounds_toArray, List.set_cons_zero, List.set_cons_succ])
        refine wpAnyJ_take 16 (v := ?_) (by first | exact hF | exact wideFn) (HSQ.out _ HE.out) rfl (by kernel_rfl) (by kernel_rfl) (by kernel_rfl) (by kernel_rfl) rfl ?_ (by first | exact fun _ _ _ h => h | exact fun _ _ _ h => hQ2 _ _ _ _ _ h) ?_
        rotate_left
        · intro W hSW
          simp only [List.getElem_toArray, List.getElem_cons_zero, List.getElem_cons_succ]
          (try dsimp only at hSW)
          go_simp
          with_reducible rfl
        (try simp only [List.getElem_toArray, List.getElem_cons_zero, List.getElem_cons_succ, Act.put, List.setIfInBounds_toArray, List.set_cons_zero, List.set_cons_succ])
        refine wpAnyJ_take 17 (v := ?_) (by first | exact hF | exact wideFn) (HSQ.out _ HE.out) rfl (by kernel_rfl) (by kernel_rfl) (by kernel_rfl) (by kernel_rfl) rfl ?_ (by first | exact fun _ _ _ h => h | exact fun _ _ _ h => hQ2 _ _ _ _ _ h) ?_
        rotate_left
        · intro W hSW
          simp only [List.getElem_toArray, List.getElem_cons_zero, List.getElem_cons_succ]
          (try dsimp only at hSW)
          go_simp
          with_reducible rfl
        (try simp only [List.getElem_toArray, List.getElem_cons_zero, List.getElem_cons_succ, Act.put, List.setIfInBounds_toArray, List.set_cons_zero, List.set_cons_succ])
        refine wpAnyJ_take 18 (v := ?_) (by first | exact hF | exact wideFn) (HSQ.out _ HE.out) rfl (by kernel_rfl) (by kernel_rfl) (by kernel_rfl) (by kernel_rfl) rfl ?_ (by first | exact fun _ _ _ h => h | exact fun _ _ _ h => hQ2 _ _ _ _ _ h) ?_
        rotate_left
        · intro W hSW
          simp only [List.getElem_toArray, List.getElem_cons_zero, List.getElem_cons_succ]
          (try dsimp only at hSW)
          go_simp
          with_reducible rfl
        (try simp only [List.getElem_toArray, List.getElem_cons_zero, List.getElem_cons_succ, Act.put, List.setIfInBounds_toArray, List.set_cons_zero, List.set_cons_succ])
        refine wpAnyJ_one 19 rfl (by kernel_rfl) (fun K hK => ?_)
        simp only [List.getElem_toArray, List.getElem_cons_zero, List.getElem_cons_succ]
        go_simp
        refine ⟨trivial, rfl, ?_⟩
        refine (callsIn_wide.2 (HRF.out _ HE.out)).mono ?_
        rintro e w11 ⟨FA2, fc2, rfl, hpi2, hb11⟩
        have HF := hide (HE.out.trans (hb11.mono HE.out.size)); have HP2 := hide hpi2; clear hpi2
        dsimp only
        refine hK.out _ _ (fun _ => HSQ.out _ HF.out) ?_
        clear hK K
        (try simp only [List.getElem_toArray, List.getElem_cons_zero, List.getElem_cons_succ, Act.put, List.setIfInBounds_toArray, List.set_cons_zero, List.set_cons_succ])
        refine wpAnyJ_one 20 rfl (by kernel_rfl) (fun K hK => ?_)
        simp only [List.getElem_toArray, List.getElem_cons_zero, List.getElem_cons_succ]
        go_simp
        refine ⟨trivial, rfl, ?_⟩
        refine (callsIn_wide.2 (bricks_same FB FA2 bn bc fc2 _ _ _ hbm (HPW.out _ HF.out) HP2.out)).mono ?_
        rintro e w12 ⟨rfl, hb12⟩
        have HG := hide (HF.out.trans (hb12.mono HF.out.size))
        dsimp only
        refine hK.out _ _ (fun _ => HSQ.out _ HG.out) ?_
        clear hK K
        (try simp only [List.getElem_toArray, List.getElem_cons_zero, List.getElem_cons_succ, Act.put, List.setIfInBounds_toArray, List.set_cons_zero, List.set_cons_succ])
        refine wpAnyJ_take 21 (v := ?_) (by first | exact hF | exact wideFn) (HSQ.out _ HG.out) rfl (by kernel_rfl) (by kernel_rfl) (by kernel_rfl) (by kernel_rfl) rfl ?_ (by first | exact fun _ _ _ h => h | exact fun _ _ _ h => hQ2 _ _ _ _ _ h) ?_
        rotate_left
        · intro W hSW
          simp only [List.getElem_toArray, List.getElem_cons_zero, List.getElem_cons_succ]
          (try dsimp only at hSW)
          go_simp
          with_reducible rfl
        (try simp only [List.getElem_toArray, List.getElem_cons_zero, List.getElem_cons_succ, Act.put, List.setIfInBounds_toArray, List.set_cons_zero, List.set_cons_succ])
        refine wpAnyJ_take 22 (v := ?_) (by first | exact hF | exact wideFn) (HSQ.out _ HG.out) rfl (by kernel_rfl) (by kernel_rfl) (by kernel_rfl) (by kernel_rfl) rfl ?_ (by first | exact fun _ _ _ h => h | exact fun _ _ _ h => hQ2 _ _ _ _ _ h) ?_
        rotate_left
        · intro W hSW
          simp only [List.getElem_toArray, List.getElem_cons_zero, List.getElem_cons_succ]
          (try dsimp only at hSW)
          go_simp
          with_reducible rfl
        (try simp only [List.getElem_toArray, List.getElem_cons_zero, List.getElem_cons_succ, Act.put, List.setIfInBounds_toArray, List.set_cons_zero, List.set_cons_succ])
        refine wpAnyJ_done (by kernel_rfl) ?_
        go_upto_region 20 with fail
        have QG := hide (QX.out.ext HG.out)
        have KG := hide (KBX.out.ext HG.out)
        have HLX := hide ((HB8.out.trans (HX8.out.mono HB8.out.size)).trans (HG.out.mono (by have := HB8.out.size; have := HX8.out.size; omega)))
        clear HSQ HRH HRF HPW HP2 HPF HF HE Bd QX KBX QW KBW HX8 HG HB8
        obtain ⟨f0, f1, f2, -, -⟩ := blk2 KG.out
        by_cases hR0 : 0 ≤ R.1
        · -- BEGIN3
          have e2 : E2 = 80 := HE2.out.symm.trans (by unfold ldE; rw [H1.out, if_neg (by simp), ← HRR.out, if_pos hR0])
          obtain ⟨rfl, rfl⟩ := HLD.out.1 (by omega)
          subst e2
          go_wp2_with fail
          refine (HK.out _).mono ?_
          rintro e w9 ⟨rfl, hb9⟩
          go_wp2_with fail
          go_ret
          exact ⟨rfl, (QG.out.below).trans (hb9.mono (QG.out.below).size)⟩
          -- END3
        · have hRn : (hangF s).1 < 0 := by rw [← HRR.out]; omega
          have HRN := hide hRn
          have HRL := hide (refLoads_any s w12 ((HSS.out.below QG.out.below (Nat.le_refl _)).more QG.out.below.size) H1.out hRn)
          obtain ⟨a0, a1, a2, a3, -, -, -⟩ := blk3 QG.out.bx
          have e2 : ∀ b, LoadsB s = b → E2 = if b = false then 10 else 0 := fun b hb => HE2.out.symm.trans (by unfold ldE; rw [H1.out, if_neg (by simp), if_neg (by omega), hb])
          have HE2' := hide e2
          clear hRn e2
          go_wp2_with fail
          refine HRL.out.mono ?_
          rintro e w9 hpost
          rcases hpost with ⟨h5, rfl, hb9⟩ | ⟨h5, zo, v, rfl, hR⟩
          · -- BEGIN4
            have e2 := HE2'.out _ h5
            rw [if_pos rfl] at e2
            obtain ⟨rfl, rfl⟩ := HLD.out.1 (by omega)
            subst e2
            have HC9 := hide (QG.out.ext hb9)
            clear h5 hb9 hR0 a0 a1 a2 a3 f0 f1 f2
            go_wp2_with fail
            refine (HK.out _).mono ?_
            rintro e w10 ⟨rfl, hb10⟩
            go_wp2_with fail
            go_ret
            exact ⟨rfl, HC9.out.below.trans (hb10.mono HC9.out.below.size)⟩
            -- END4
          · have e2 := HE2'.out _ h5
            rw [if_neg (by simp)] at e2
            subst e2
            obtain ⟨z, rfl, rfl, hls, hfn, hpf⟩ := HLD.out.2 rfl
            have hbw9 := hR.below
            have HC9 := hide (QG.out.ext hbw9)
            have hlx := HLX.out.trans (hbw9.mono HLX.out.size)
            have LS1 := hide (hls.ext hlx)
            have LS2 : Hid (LsR w9 zo s.nt (LoadsL s)) := hide ⟨v, hR.row, fun k hk => ⟨_, hR.fam.own k (by omega)⟩⟩
            obtain ⟨GA, gc, hv, hpg⟩ := OwnL.pi (hR.fam.own s.nt (by omega))
            replace hpg : PI w9 w9.heap.size GA (LoadsL s s.nt).length (fun i => (((LoadsL s s.nt).getD i (0, 1)).1 : Int)) (fun i => (((LoadsL s s.nt).getD i (0, 1)).2 : Int)) := hpg
            replace hv : v s.nt = .slice GA (LoadsL s s.nt).length gc := hv
            rw [hv]
            have hfl : (LoadsL s s.nt).length = flr s := loadsF_len s (flr s) _
            have PF := hide ((hpf.below hlx (Nat.le_refl _)).more hlx.size)
            rw [← hfn] at hpg ⊢
            have PG := hide hpg
            have hfm : fn ≤ maxLen := by unfold maxLen; omega
            have hnn : ((s.nt : Int) != (s.nt : Int)) = false := by simp
            clear hls hfn hpf hbw9 hlx hpg hv h5 hR hfl a0 a1 a2 a3 f0 f1 f2 hR0
            go_wp2_with fail
            refine (loads_same FA GA fn fc gc _ _ w9 hfm PF.out PG.out).mono ?_
            rintro e w10 ⟨rfl, hb10⟩
            have HC10 := hide (HC9.out.ext hb10)
            have L1 := hide (LS1.out.ext hb10)
            have L2 := hide (LS2.out.ext hb10)
            have HLL := hide (fun k (hk : k < s.nt) => LoadsL_len hk)
            clear hb10 LS1 LS2 PF PG HC9 QG KG HLX
            go_wp2_with fail
            go_loopw [17] (fun i wq => ∃ k : Nat, i = .int .i64 k ∧ k ≤ s.nt ∧ Hid (Below w10.heap.size w10 wq)) (fun i _ => s.nt - (intOf i).toNat)
            case atStart => exact ⟨0, rfl, by omega, hide (Below.refl _ _)⟩
            case round =>
              obtain ⟨k, rfl, hk, HV⟩ := hrel
              have HCW := hide (HC10.out.ext HV.out)
              by_cases hlt : k < s.nt
              · have hlt' : (k : Int) < (s.nt : Int) := by omega
                have k0 : (0 : Int) ≤ (k : Int) := by omega
                obtain ⟨A1, c1, hz1, q1, p1⟩ := (L1.out.ext HV.out).at_ hlt
                obtain ⟨A2, c2, hz2, q2, p2⟩ := (L2.out.ext HV.out).at_ hlt
                have P1 := hide p1
                have P2 := hide p2
                have hlm : (LoadsL s k).length ≤ maxLen := by
                  rw [HLL.out k hlt]
                  have := (HCC.out k hlt).2
                  unfold maxLen; omega
                have HS30 : Hid (∀ W, Below wr.heap.size wr W → W.cell? ⟨z, k, none⟩ = some (.slice A1 (LoadsL s k).length c1) ∧ W.cell? ⟨zo, k, none⟩ = some (.slice A2 (LoadsL s k).length c2)) := hide (fun W h => ⟨(h.cell (p := ⟨z, k, none⟩) hz1).trans q1, (h.cell (p := ⟨zo, k, none⟩) hz2).trans q2⟩)
                clear p1 p2 q1 q2
                go_upto_region 30 with fail
                have Bd := hide (Below.refl wr.heap.size wr).drew
                refine wp_region_J (fun W : World => W.cell? ⟨z, k, none⟩ = some (.slice A1 (LoadsL s k).length c1) ∧ W.cell? ⟨zo, k, none⟩ = some (.slice A2 (LoadsL s k).length c2)) (by kernel_rfl) ?_
                generalize wr.drew = wd at Bd ⊢
                refine wpAnyJ_take 0 (v := ?_) (by first | exact hF | exact wideFn) (HS30.out _ Bd.out) rfl (by kernel_rfl) (by kernel_rfl) (by kernel_rfl) (by kernel_rfl) rfl ?_ (by first | exact fun _ _ _ h => h | exact fun _ _ _ h => hQ2 _ _ _ _ _ h) ?_
                rotate_left
                · intro W hSW
                  simp only [List.getElem_toArray, List.getElem_cons_zero, List.getElem_cons_succ]
                  (try dsimp only at hSW)
                  go_simp
                  with_reducible rfl
                (try simp only [List.getElem_toArray, List.getElem_cons_zero, List.getElem_cons_succ, Act.put, List.setIfInBounds_toArray, List.set_cons_zero, List.set_cons_succ])
                refine wpAnyJ_take 1 (v := ?_) (by first | exact hF | exact wideFn) (HS30.out _ Bd.out) rfl (by kernel_rfl) (by kernel_rfl) (by kernel_rfl) (by kernel_rfl) rfl ?_ (by first | exact fun _ _ _ h => h | exact fun _ _ _ h => hQ2 _ _ _ _ _ h) ?_
                rotate_left
                · intro W hSW
                  simp only [List.getElem_toArray, List.getElem_cons_zero, List.getElem_cons_succ]
                  (try dsimp only at hSW)
                  go_simp
                  with_reducible rfl
                (try simp only [List.getElem_toArray, List.getElem_cons_zero, List.getElem_cons_succ, Act.put, List.setIfInBounds_toArray, List.set_cons_zero, List.set_cons_succ])
                refine wpAnyJ_take 2 (v := ?_) (by first | exact hF | exact wideFn) (HS30.out _ Bd.out) rfl (by kernel_rfl) (by kernel_rfl) (by kernel_rfl) (by kernel_rfl) rfl ?_ (by first | exact fun _ _ _ h => h | exact fun _ _ _ h => hQ2 _ _ _ _ _ h) ?_
                rotate_left
                · intro W hSW
                  simp only [List.getElem_toArray, List.getElem_cons_zero, List.getElem_cons_succ]
                  (try dsimp only at hSW)
                  go_simp
                  with_reducible rfl
                (try simp only [List.getElem_toArray, List.getElem_cons_zero, List.getElem_cons_succ, Act.put, List.setIfInBounds_toArray, List.set_cons_zero, List.set_cons_succ])
                refine wpAnyJ_take 3 (v := ?_) (by first | exact hF | exact wideFn) (HS30.out _ Bd.out) rfl (by kernel_rfl) (by kernel_rfl) (by kernel_rfl) (by kernel_rfl) rfl ?_ (by first | exact fun _ _ _ h => h | exact fun _ _ _ h => hQ2 _ _ _ _ _ h) ?_
                rotate_left
                · intro W hSW
                  simp only [List.getElem_toArray, List.getElem_cons_zero, List.getElem_cons_succ]
                  (try dsimp only at hSW)
                  go_simp
                  with_reducible rfl
                (try simp only [List.getElem_toArray, List.getElem_cons_zero, List.getElem_cons_succ, Act.put, List.setIfInBounds_toArray, List.set_cons_zero, List.set_cons_succ])
                refine wpAnyJ_take 4 (v := ?_) (by first | exact hF | exact wideFn) (HS30.out _ Bd.out) rfl (by kernel_rfl) (by kernel_rfl) (by kernel_rfl) (by kernel_rfl) rfl ?_ (by first | exact fun _ _ _ h => h | exact fun _ _ _ h => hQ2 _ _ _ _ _ h) ?_
                rotate_left
                · intro W hSW
                  simp only [List.getElem_toArray, List.getElem_cons_zero, List.getElem_cons_succ]
                  (try dsimp only at hSW)
                  go_simp
                  with_reducible rfl
                (try simp only [List.getElem_toArray, List.getElem_cons_zero, List.getElem_cons_succ, Act.put, List.setIfInBounds_toArray, List.set_cons_zero, List.set_cons_succ])
                refine wpAnyJ_take 5 (v := ?_) (by first | exact hF | exact wideFn) (HS30.out _ Bd.out) rfl (by kernel_rfl) (by kernel_rfl) (by kernel_rfl) (by kernel_rfl) rfl ?_ (by first | exact fun _ _ _ h => h | exact fun _ _ _ h => hQ2 _ _ _ _ _ h) ?_
                rotate_left
                · intro W hSW
                  simp only [List.getElem_toArray, List.getElem_cons_zero, List.getElem_cons_succ]
                  (try dsimp only at hSW)
                  go_simp
                  with_reducible rfl
                (try simp only [List.getElem_toArray, List.getElem_cons_zero, List.getElem_cons_succ, Act.put, List.setIfInBounds_toArray, List.set_cons_zero, List.set_cons_succ])
                refine wpAnyJ_take 6 (v := ?_) (by first | exact hF | exact wideFn) (HS30.out _ Bd.out) rfl (by kernel_rfl) (by kernel_rfl) (by kernel_rfl) (by kernel_rfl) rfl ?_ (by first | exact fun _ _ _ h => h | exact fun _ _ _ h => hQ2 _ _ _ _ _ h) ?_
                rotate_left
                · intro W hSW
                  simp only [List.getElem_toArray, List.getElem_cons_zero, List.getElem_cons_succ]
                  (try dsimp only at hSW)
                  go_simp
                  with_reducible rfl
                (try simp only [List.getElem_toArray, List.getElem_cons_zero, List.getElem_cons_succ, Act.put, List.setIfInBounds_toArray, List.set_cons_zero, List.set_cons_succ])
                refine wpAnyJ_take 7 (v := ?_) (by first | exact hF | exact wideFn) (HS30.out _ Bd.out) rfl (by kernel_rfl) (by kernel_rfl) (by kernel_rfl) (by kernel_rfl) rfl ?_ (by first | exact fun _ _ _ h => h | exact fun _ _ _ h => hQ2 _ _ _ _ _ h) ?_
                rotate_left
                · intro W hSW
                  simp only [List.getElem_toArray, List.getElem_cons_zero, List.getElem_cons_succ]
                  (try dsimp only at hSW)
                  go_simp
                  with_reducible rfl
                (try simp only [List.getElem_toArray, List.getElem_cons_zero, List.getElem_cons_succ, Act.put, List.setIfInBounds_toArray, List.set_cons_zero, List.set_cons_succ])
                refine wpAnyJ_one 8 rfl (by kernel_rfl) (fun K hK => ?_)
                simp only [List.getElem_toArray, List.getElem_cons_zero, List.getElem_cons_succ]
                go_simp
                refine ⟨trivial, rfl, ?_⟩
                refine (callsIn_wide.2 (loads_same A1 A2 _ c1 c2 _ _ _ hlm ((P1.out.below Bd.out (Nat.le_refl _)).more Bd.out.size) ((P2.out.below Bd.out (Nat.le_refl _)).more Bd.out.size))).mono ?_
                rintro e w11 ⟨rfl, hb11⟩
                have HG := hide (Bd.out.trans (hb11.mono Bd.out.size))
                dsimp only
                refine hK.out _ _ (fun _ => HS30.out _ HG.out) ?_
                clear hK K
                (try simp only [List.getElem_toArray, List.getElem_cons_zero, List.getElem_cons_succ, Act.put, List.setIfInBounds_toArray, List.set_cons_zero, List.set_cons_succ])
                refine wpAnyJ_take 9 (v := ?_) (by first | exact hF | exact wideFn) (HS30.out _ HG.out) rfl (by kernel_rfl) (by kernel_rfl) (by kernel_rfl) (by kernel_rfl) rfl ?_ (by first | exact fun _ _ _ h => h | exact fun _ _ _ h => hQ2 _ _ _ _ _ h) ?_
                rotate_left
                · intro W hSW
                  simp only [List.getElem_toArray, List.getElem_cons_zero, List.getElem_cons_succ]
                  (try dsimp only at hSW)
                  go_simp
                  with_reducible rfl
                (try simp only [List.getElem_toArray, List.getElem_cons_zero, List.getElem_cons_succ, Act.put, List.setIfInBounds_toArray, List.set_cons_zero, List.set_cons_succ])
                refine wpAnyJ_done (by kernel_rfl) ?_
                go_wp2_with fail
                go_roundw
                case rel => exact ⟨k + 1, by go_num, by omega, hide (HV.out.trans (HG.out.mono HV.out.size))⟩
                case measure => simp [intOf]; omega
              · obtain rfl : s.nt = k := by omega
                go_wp2_with fail
                refine (HK.out _).mono ?_
                rintro e w11 ⟨rfl, hb11⟩
                go_wp2_with fail
                go_ret
                exact ⟨rfl, HCW.out.below.trans (hb11.mono HCW.out.below.size)⟩
theorem stacks_law (s : Stk) (w : World) (hq : StkQ w s) : Calls Try.prog 11 #[.agg #[.int .i64 s.wd, .int .i64 s.hg, .slice s.A s.nt s.cap]] w fun e w' => e = .returned (.bool true) ∧ Below w.heap.size w w' := by
  rcases hL : largeB s with _ | _
  · obtain ⟨h1, h2⟩ := large_no hL
    exact stacks_main s w (hq.tight (by omega) (fun k hk => by have := h2 k hk; omega)) h1 h2 hL
  · exact stacks_guard s w hq.loose hL
end Go.Proofs.Ytlhekifmkkgjlaa
namespace Go.Proofs.Ytlhekifmkkgjlaa.kilnStacks
open Go Go.ChangeShapes Go.WideShapes Go.ChangeAt Go.RowKit
set_option maxRecDepth 100000 in
theorem lifted (os : Os) (started : os.Started) (H : Type) (enc : TypeId × Value → H) :
    ReturnsInHanded {} Try.checked os 11 .any (Rows.kilnStacksSpec.pre6 enc Try.prog Try.f11 Rows.kilnStacksRow.domain false) (Rows.kilnStacksSpec.post enc Try.prog Try.f11 false true false false) := by
  refine returnsInHanded_of_change (C := Try.checked) own_knob started (by kernel_rfl) Try.func11
    (ChangeSpec.witness6 (enc := enc) (C := Try.checked) false ⟨#[], #[.agg #[.int .i64 0, .int .i64 0, .slice none 0 0]], []⟩ 8 (by kernel_rfl) (by kernel_rfl) (by kernel_rfl) (by kernel_rfl)) ?_
  intro W base args ds gs before hval0 hW hcnd _
  have hval : ∀ (j : Nat) t v, Try.f11.params[j]? = some t → args[j]? = some v → Value.okWide Try.prog W .any base t v := hval0
  have hW' := hW
  have hlt : ∀ p ∈ before, p.block < W.heap.size := fun p hp => hW.lt p hp
  obtain ⟨p, q, hA0, hV, rfl, hfz, hnd⟩ := hW
  have hA : DataW.TrodAll enc Try.prog W 0 (fun _ => true) true Try.f11.params.toList args.toList ds p := hA0
  rw [Try.params11] at hA hval
  obtain ⟨v0, vs0, d0, ds0, p0, q0, hargs, rfl, rfl, h0, r0⟩ := trodAll_cons hA
  obtain ⟨rfl, rfl, rfl⟩ := trodAll_nil r0
  obtain rfl : args = #[v0] := by cases args; simp_all
  obtain ⟨rfl, rfl⟩ := trodVars_none hV
  have k0 := hval 0 55 v0 rfl rfl
  obtain ⟨s, rfl, hq⟩ := open_stack k0 h0 (fun z hz => hlt z (by simp [hz]))
  clear hA0 hval0
  refine (stacks_law s W hq).mono fun e W' ⟨he, hb⟩ => ?_
  subst he
  exact ⟨_, rfl, law_post hW' hb rfl rfl (by kernel_rfl) ⟨rfl, rfl, rfl⟩⟩
theorem over : Rows.kilnStacksRow.holds Try.pinned (OpenSpec.ofChange Rows.kilnStacksSpec) :=
  OpenClaim.holds_of_wide 11 Try.f11 rfl rfl rfl rfl rfl rfl rfl ⟨rfl, rfl, rfl, rfl, rfl⟩ rfl rfl rfl rfl rfl (by kernel_rfl) Try.func11 (by kernel_rfl)
    (of_decide_eq_true (by kernel_rfl)) (by unfold Func.isWrapper; first | (rw [if_pos (by decide +kernel)]; kernel_rfl) | (rw [if_neg (by decide +kernel)]; exact ⟨rfl, rfl⟩))
    (fun os started H enc _ => lifted os started H enc)
theorem proved : Rows.KilnStacksSaid := over
end Go.Proofs.Ytlhekifmkkgjlaa.kilnStacks
