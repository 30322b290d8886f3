/- The law KilnFloors, walked. -/
import Derived.Test.YtlhekifmkkgjlaaFloorsF
import Derived.Deep.CutBlock
import Derived.Deep.DeepCutAuto
set_option linter.unusedSimpArgs false
set_option linter.unusedVariables false
set_option linter.unnecessarySimpa false
namespace Go.Proofs.Ytlhekifmkkgjlaa
open Go Go.RowKit Go.Shelf
set_option maxHeartbeats 200000000
set_option maxRecDepth 100000
/-- the stack's box -/
def SB (w : World) (s : Stk) (W : World) : Prop := Below w.heap.size w W ∧ Blk W w.heap.size 55 #[.int .i64 s.wd, .int .i64 s.hg, .slice s.A s.nt s.cap]
theorem SB.ext {w W W' : World} {s : Stk} (h : SB w s W) (hb : Below W.heap.size W W') : SB w s W' := ⟨h.1.trans (hb.mono h.1.size), h.2.ext hb⟩
theorem floors_main (s : Stk) (w : World) (hs : StkR w w.heap.size s) (hn1 : 1 ≤ s.nt) (hnt : s.nt ≤ 8) (hc : ∀ k, k < s.nt → s.cn k ≤ 36 ∧ s.wn k ≤ 36) : Calls Try.prog 12 #[.agg #[.int .i64 s.wd, .int .i64 s.hg, .slice s.A s.nt s.cap]] w fun e w' => e = .returned (.bool true) ∧ Below w.heap.size w w' := by
  have HK := hide known_any
  have HSS := hide hs
  have HCC := hide hc
  have HB := hide ((Below.refl w.heap.size w).alloc (Nat.le_refl _) (.cells #[.int .i64 s.wd, .int .i64 s.hg, .slice s.A s.nt s.cap] 55))
  have KS := hide (Blk.new w 55 #[.int .i64 s.wd, .int .i64 s.hg, .slice s.A s.nt s.cap])
  obtain ⟨E2, hE2⟩ : ∃ E, ldE s = E := ⟨_, rfl⟩
  have HE2 := hide hE2
  have HOW := hide (fun W (h : SB w s W) => own_cap s W ((HSS.out.below h.1 (Nat.le_refl _)).more h.1.size) (by omega) (fun k hk => by have := HCC.out k hk; omega))
  have HLO : Hid (∀ (A : Option Addr) (c : Nat) (ca wa : Nat → Option Addr) (cc wc : Nat → Nat) (W : World), StkR W W.heap.size (s.at A c ca wa cc wc) →
      Calls Try.prog 32 #[.agg #[.int .i64 s.wd, .int .i64 s.hg, .slice A s.nt c]] W fun e w' => ∃ (AA : Option Addr) (an ac : Nat) (FA : Option Addr) (fn fc : Nat), e = .returned (.tuple #[.slice AA an ac, .slice FA fn fc, .int .i64 E2]) ∧ Below W.heap.size W w' ∧ Hid ((E2 ≠ 0 → an = 0 ∧ fn = 0) ∧
        (E2 = 0 → ∃ z, AA = some ⟨z, 0, none⟩ ∧ an = s.nt ∧ LsR w' z s.nt (LoadsL s) ∧ fn = (LoadsL s s.nt).length ∧ PI w' w'.heap.size FA fn (fun i => (((LoadsL s s.nt).getD i (0, 1)).1 : Int)) (fun i => (((LoadsL s s.nt).getD i (0, 1)).2 : Int))))) :=
    hide (fun A c ca wa cc wc W h => by
      have e2 : ldE (s.at A c ca wa cc wc) = E2 := hE2
      refine (Loads_any (s.at A c ca wa cc wc) W h).mono ?_
      rintro e w' ⟨AA, an, ac, FA, fn, fc, h1, h2, h3, h4⟩
      rw [e2] at h1 h3 h4
      exact ⟨AA, an, ac, FA, fn, fc, h1, h2, hide ⟨h3, h4⟩⟩)
  clear hs hc hE2
  go_enter Try.func12, Try.ntmps12
  go_wp2_with fail
  generalize (w.alloc (.cells #[.int .i64 s.wd, .int .i64 s.hg, .slice s.A s.nt s.cap] 55)) = W1 at HB KS ⊢
  obtain ⟨a0, a1, a2, a3, a4, a5, a6⟩ := blk3 KS.out
  go_loop [3] (fun i => ∃ k : Nat, i = .int .i64 k ∧ k ≤ s.nt) (fun i => s.nt - (intOf i).toNat)
  case atStart => exact ⟨0, rfl, by omega⟩
  case round =>
    obtain ⟨k, rfl, hk⟩ := hrel
    by_cases hlt : k < s.nt
    · as_aux_lemma =>
      -- BEGIN1
      obtain ⟨tb, toff, hA, htb, hu, hv⟩ := P2.at_ (HSS.out.2.1.below HB.out (Nat.le_refl _)) hlt
      rw [hA] at a3
      have i1 : (0 : Int) ≤ (k : Int) := by omega
      have i2 : (k : Int) < (s.nt : Int) := by omega
      obtain ⟨b3, b4⟩ := HCC.out k hlt
      have b1' : ¬ (36 : Int) < (s.cn k : Int) := by omega
      have b2' : ¬ (36 : Int) < (s.wn k : Int) := by omega
      unfold Stk.u at hu
      unfold Stk.v at hv
      go_wp2_with fail
      go_round
      case rel => exact ⟨k + 1, by go_num, by omega⟩
      case measure => simp [intOf]; omega
      -- END1
    · obtain rfl : k = s.nt := by omega
      have c8' : ¬ (8 : Int) < (s.nt : Int) := by omega
      have c1' : ¬ (s.nt : Int) < 1 := by omega
      go_wp2_with fail
      refine (HOW.out _ ⟨HB.out, KS.out⟩).mono ?_
      rintro e w2 ⟨A, c, ca, wa, cc, wc, rfl, hs2, hb2, -⟩
      have HS2 := hide hs2
      have Q2 := hide (show SB w s w2 from ⟨HB.out.trans (hb2.mono HB.out.size), KS.out.ext hb2⟩)
      clear hb2 hs2 a0 a1 a2 a3 a4 a5 a6 KS HB
      go_wp2_with fail
      refine (HLO.out A c ca wa cc wc _ HS2.out).mono ?_
      rintro e wL ⟨AA, an, ac, FA, fn, fc, rfl, hb3, HLD⟩
      have Q3 := hide (Q2.out.ext hb3)
      clear hb3 Q2 HS2 HLO
      by_cases hE : E2 = 0
      · subst hE
        obtain ⟨z, rfl, rfl, hls, hfn, hpf⟩ := HLD.out.2 rfl
        obtain ⟨H1, H2, H3⟩ := ldE_zero HE2.out
        have H1 := hide H1
        have H2 := hide H2
        have H3 := hide H3
        have hfl : (LoadsL s s.nt).length = flr s := loadsF_len s (flr s) _
        rw [hfl] at hfn
        have hc0 := (tier_facts H1.out (show 0 < s.nt by omega)).1
        obtain ⟨f, hf⟩ : ∃ f, flr s = f := ⟨_, rfl⟩
        rw [hf] at hfn hc0
        have HF := hide hf
        have hf36 : f ≤ 36 := by have := (HCC.out 0 (by omega)).1; omega
        subst hfn
        have LS := hide hls
        have PF := hide hpf
        have HC0 := hide hc0
        clear hls hpf hfl hf hc0 HLD
        obtain ⟨a0, a1, a2, a3, -, -, -⟩ := blk3 Q3.out.2
        go_wp2_with fail
        refine (HOW.out _ Q3.out).mono ?_
        rintro e w4 ⟨A, c, ca, wa, cc, wc, rfl, hs2, hb2, -⟩
        have HS4 := hide hs2
        have Q4 := hide (Q3.out.ext hb2)
        have B4 := hide hb2
        clear hb2 hs2 a0 a1 a2 a3
        go_wp2_with fail
        refine (Hangs_any (s.at A c ca wa cc wc) _ HS4.out).mono ?_
        rintro e w5 ⟨rfl, hb5⟩
        have e1 : hgA (s.at A c ca wa cc wc) = (-1, -1) := by
          have : hgA (s.at A c ca wa cc wc) = hangF s := by unfold hgA; rw [show stackB (s.at A c ca wa cc wc) = true from H1.out, if_pos rfl]; rfl
          rw [this]; exact hangF_m1 H2.out
        have e2 : stkE (s.at A c ca wa cc wc) = 0 := stkE_ok H1.out
        rw [e1, e2]
        unfold brV
        have Q5 := hide ((Q4.out.ext hb5).ext ((Below.refl w5.heap.size w5).alloc (Nat.le_refl _) (.cells #[.int .i64 (-1), .int .i64 (-1)] 59)))
        have B5 := hide ((B4.out.trans (hb5.mono B4.out.size)).alloc (by have := B4.out.size; have := hb5.size; omega) (.cells #[.int .i64 (-1), .int .i64 (-1)] 59))
        have KB := hide (Blk.new w5 59 #[.int .i64 (-1), .int .i64 (-1)])
        clear hb5 e1 e2 Q4 B4 HS4
        go_upto_region 12 with fail
        generalize (w5.alloc (.cells #[.int .i64 (-1), .int .i64 (-1)] 59)) = W5 at Q5 B5 KB ⊢
        generalize w5.heap.size = g7 at KB ⊢
        obtain ⟨a0, a1, a2, a3, -, -, -⟩ := blk3 Q5.out.2
        go_wp2_with fail
        refine (HOW.out _ Q5.out).mono ?_
        rintro e w6 ⟨A, c, ca, wa, cc, wc, rfl, hs2, hb2, -⟩
        have HS6 := hide hs2
        have Q6 := hide (Q5.out.ext hb2)
        have B6 := hide (B5.out.trans (hb2.mono B5.out.size))
        have KB6 := hide (KB.out.ext hb2)
        clear hb2 hs2 a0 a1 a2 a3
        go_wp2_with fail
        refine (Free_ok (s.at A c ca wa cc wc) _ HS6.out H1.out).mono ?_
        rintro e w7 ⟨FB, bc, rfl, hpb, hb7⟩
        rw [show freeDn (s.at A c ca wa cc wc) (s.at A c ca wa cc wc).nt = freeDn s s.nt from freeDn_at s A c ca wa cc wc _] at hpb ⊢
        have Q7 := hide (Q6.out.ext hb7)
        have B7 := hide (B6.out.trans (hb7.mono B6.out.size))
        have KB7 := hide (KB6.out.ext hb7)
        obtain ⟨bn, hbn⟩ : ∃ n, (freeDn s s.nt).length = n := ⟨_, rfl⟩
        have hbm := free_len_bd H1.out s.nt (Nat.le_refl _)
        rw [hbn] at hpb hbm ⊢
        have HBN := hide hbn
        have PB := hide hpb
        have LS7 := hide (LS.out.ext B7.out)
        have PF7 := hide ((PF.out.below B7.out (Nat.le_refl _)).more B7.out.size)
        clear hb7 hpb hbn Q6 B6 KB6 HS6 Q5 B5 KB B7 LS PF Q3
        go_upto_region 13 with fail
        obtain ⟨a0, a1, a2, a3, -, -, -⟩ := blk3 Q7.out.2
        obtain ⟨k0, k1, k2, -, -⟩ := blk2 KB7.out
        obtain ⟨tb, toff, hA, htb, hu, -⟩ := P2.at_ HSS.out.2.1 (show 0 < s.nt by omega)
        unfold Stk.u at hu
        have hu2 := (Q7.out.1.cell (p := ⟨tb, toff + 0 * 2, none⟩) htb).trans hu
        rw [hA] at a3
        simp only [Nat.zero_mul, Nat.add_zero] at hu2
        have i2 : (0 : Int) < (s.nt : Int) := by omega
        have hnn : ((s.nt : Int) != (s.nt : Int)) = false := by simp
        have hff : ((fn : Int) != (s.cn 0 : Int)) = false := by rw [HC0.out]; simp
        clear hA hu
        go_wp2_with fail
        clear hnn hff hu2 i2 k0 k1 k2 a0 a1 a2 a3
        have HWR := hide (fun k i (hk : k < s.nt) (hi : i < s.wn k) => (tier_facts H1.out hk).2.2.1 i hi)
        have HNB := hide (fun k (hk : k ≤ s.nt) => natW_bd H1.out k hk)
        have HNR := hide (fun k i (hk : k < s.nt) (hi : i ≤ s.wn k) => natRow_bd H1.out hk i hi)
        have HLL := hide (fun k (hk : k < s.nt) => LoadsL_len hk)
        have HOKL := hide (fun k (hk : k ≤ s.nt) i => And.intro (getD_ok (LoadsL_ok H2.out hk) i) (getD_c (LoadsL_c H2.out hk) i))
        go_loopw [11, 12] (fun q i wr => ∃ k : Nat, i = .int .i64 k ∧ k ≤ s.nt ∧ q = .int .i64 (natW s k : Nat) ∧ Hid (Below w7.heap.size w7 wr)) (fun _ i _ => s.nt - (intOf i).toNat)
        case atStart => exact ⟨0, rfl, by omega, rfl, hide (Below.refl _ _)⟩
        case round =>
          obtain ⟨k, rfl, hk, rfl, HV⟩ := hrel
          have QV := hide (Q7.out.ext HV.out)
          obtain ⟨a0, a1, a2, a3, -, -, -⟩ := blk3 QV.out.2
          by_cases hlt : k < s.nt
          · as_aux_lemma =>
            -- BEGIN2
            have i1 : (0 : Int) ≤ (k : Int) := by omega
            have i2 : (k : Int) < (s.nt : Int) := by omega
            obtain ⟨tb, toff, hA, htb, hu, hv⟩ := P2.at_ HSS.out.2.1 hlt
            obtain ⟨-, -, -, hIw⟩ := HSS.out.2.2 k hlt
            unfold Stk.v at hv
            have cv := (QV.out.1.cell (p := ⟨tb, toff + k * 2 + 1, none⟩) htb).trans hv
            rw [hA] at a3
            obtain ⟨A1, c1, hz, q1, p1⟩ := (LS7.out.ext HV.out).at_ hlt
            rw [HLL.out k hlt] at q1 p1
            have P1 := hide p1
            have HIW := hide hIw
            have HA := hide hA
            have CV := hide cv
            have CQ := hide q1
            have htb2 : tb < wr.heap.size := by have := QV.out.1.size; omega
            have HST : Hid (∀ W, Below wr.heap.size wr W → (W.cell? ⟨z, k, none⟩ = some (.slice A1 (s.wn k) c1) ∧ W.cell? ⟨w.heap.size, 2, none⟩ = some (.slice (some ⟨tb, toff, none⟩) s.nt s.cap)) ∧ W.cell? ⟨tb, toff + k * 2 + 1, none⟩ = some (.slice (s.wa k) (s.wn k) (s.wc k))) := hide (fun W h => ⟨⟨(h.cell (p := ⟨z, k, none⟩) hz).trans q1, (h.cell (p := ⟨w.heap.size, 2, none⟩) a0).trans a3⟩, (h.cell (p := ⟨tb, toff + k * 2 + 1, none⟩) htb2).trans cv⟩)
            have hw36 := (HCC.out k hlt).2
            clear hu hv hIw p1 q1 cv hA
            go_upto_region 19 with fail
            obtain ⟨w1, hw1⟩ : ∃ w1, w1 = wr := ⟨_, rfl⟩
            subst hw1
            have Bd := hide (Below.refl w1.heap.size w1).drew
            refine wp_region_J (fun W : World => (W.cell? ⟨z, k, none⟩ = some (.slice A1 (s.wn k) c1) ∧ W.cell? ⟨w.heap.size, 2, none⟩ = some (.slice (some ⟨tb, toff, none⟩) s.nt s.cap)) ∧ W.cell? ⟨tb, toff + k * 2 + 1, none⟩ = some (.slice (s.wa k) (s.wn k) (s.wc k))) (by kernel_rfl) ?_
            generalize w1.drew = wd at Bd ⊢
            refine wpAnyJ_take 0 (v := ?_) (by first | exact hF | exact wideFn) (HST.out _ Bd.out) rfl (by kernel_rfl) (by kernel_rfl) (by kernel_rfl) (by kernel_rfl) rfl ?_ (by first | exact fun _ _ _ h => h | exact fun _ _ _ h => hQ2 _ _ _ _ _ h) ?_
            rotate_left
            · intro W hSW
              simp only [List.getElem_toArray, List.getElem_cons_zero, List.getElem_cons_succ]
              (try dsimp only at hSW)
              go_simp
              with_reducible rfl
            (try simp only [List.getElem_toArray, List.getElem_cons_zero, List.getElem_cons_succ, Act.put, List.setIfInBounds_toArray, List.set_cons_zero, List.set_cons_succ])
            refine wpAnyJ_take 1 (v := ?_) (by first | exact hF | exact wideFn) (HST.out _ Bd.out) rfl (by kernel_rfl) (by kernel_rfl) (by kernel_rfl) (by kernel_rfl) rfl ?_ (by first | exact fun _ _ _ h => h | exact fun _ _ _ h => hQ2 _ _ _ _ _ h) ?_
            rotate_left
            · intro W hSW
              simp only [List.getElem_toArray, List.getElem_cons_zero, List.getElem_cons_succ]
              (try dsimp only at hSW)
              go_simp
              with_reducible rfl
            (try simp only [List.getElem_toArray, List.getElem_cons_zero, List.getElem_cons_succ, Act.put, List.setIfInBounds_toArray, List.set_cons_zero, List.set_cons_succ])
            refine wpAnyJ_take 2 (v := ?_) (by first | exact hF | exact wideFn) (HST.out _ Bd.out) rfl (by kernel_rfl) (by kernel_rfl) (by kernel_rfl) (by kernel_rfl) rfl ?_ (by first | exact fun _ _ _ h => h | exact fun _ _ _ h => hQ2 _ _ _ _ _ h) ?_
            rotate_left
            · intro W hSW
              simp only [List.getElem_toArray, List.getElem_cons_zero, List.getElem_cons_succ]
              (try dsimp only at hSW)
              go_simp
              with_reducible rfl
            (try simp only [List.getElem_toArray, List.getElem_cons_zero, List.getElem_cons_succ, Act.put, List.setIfInBounds_toArray, List.set_cons_zero, List.set_cons_succ])
            refine wpAnyJ_take 3 (v := ?_) (by first | exact hF | exact wideFn) (HST.out _ Bd.out) rfl (by kernel_rfl) (by kernel_rfl) (by kernel_rfl) (by kernel_rfl) rfl ?_ (by first | exact fun _ _ _ h => h | exact fun _ _ _ h => hQ2 _ _ _ _ _ h) ?_
            rotate_left
            · intro W hSW
              simp only [List.getElem_toArray, List.getElem_cons_zero, List.getElem_cons_succ]
              (try dsimp only at hSW)
              go_simp
              with_reducible rfl
            (try simp only [List.getElem_toArray, List.getElem_cons_zero, List.getElem_cons_succ, Act.put, List.setIfInBounds_toArray, List.set_cons_zero, List.set_cons_succ])
            refine wpAnyJ_take 4 (v := ?_) (by first | exact hF | exact wideFn) (HST.out _ Bd.out) rfl (by kernel_rfl) (by kernel_rfl) (by kernel_rfl) (by kernel_rfl) rfl ?_ (by first | exact fun _ _ _ h => h | exact fun _ _ _ h => hQ2 _ _ _ _ _ h) ?_
            rotate_left
            · intro W hSW
              simp only [List.getElem_toArray, List.getElem_cons_zero, List.getElem_cons_succ]
              (try dsimp only at hSW)
              go_simp
              with_reducible rfl
            (try simp only [List.getElem_toArray, List.getElem_cons_zero, List.getElem_cons_succ, Act.put, List.setIfInBounds_toArray, List.set_cons_zero, List.set_cons_succ])
            refine wpAnyJ_take 5 (v := ?_) (by first | exact hF | exact wideFn) (HST.out _ Bd.out) rfl (by kernel_rfl) (by kernel_rfl) (by kernel_rfl) (by kernel_rfl) rfl ?_ (by first | exact fun _ _ _ h => h | exact fun _ _ _ h => hQ2 _ _ _ _ _ h) ?_
            rotate_left
            · intro W hSW
              simp only [List.getElem_toArray, List.getElem_cons_zero, List.getElem_cons_succ]
              (try dsimp only at hSW)
              go_simp
              with_reducible rfl
            (try simp only [List.getElem_toArray, List.getElem_cons_zero, List.getElem_cons_succ, Act.put, List.setIfInBounds_toArray, List.set_cons_zero, List.set_cons_succ])
            refine wpAnyJ_take 6 (v := ?_) (by first | exact hF | exact wideFn) (HST.out _ Bd.out) rfl (by kernel_rfl) (by kernel_rfl) (by kernel_rfl) (by kernel_rfl) rfl ?_ (by first | exact fun _ _ _ h => h | exact fun _ _ _ h => hQ2 _ _ _ _ _ h) ?_
            rotate_left
            · intro W hSW
              simp only [List.getElem_toArray, List.getElem_cons_zero, List.getElem_cons_succ]
              (try dsimp only at hSW)
              go_simp
              with_reducible rfl
            (try simp only [List.getElem_toArray, List.getElem_cons_zero, List.getElem_cons_succ, Act.put, List.setIfInBounds_toArray, List.set_cons_zero, List.set_cons_succ])
            refine wpAnyJ_take 7 (v := ?_) (by first | exact hF | exact wideFn) (HST.out _ Bd.out) rfl (by kernel_rfl) (by kernel_rfl) (by kernel_rfl) (by kernel_rfl) rfl ?_ (by first | exact fun _ _ _ h => h | exact fun _ _ _ h => hQ2 _ _ _ _ _ h) ?_
            rotate_left
            · intro W hSW
              simp only [List.getElem_toArray, List.getElem_cons_zero, List.getElem_cons_succ]
              (try dsimp only at hSW)
              go_simp
              with_reducible rfl
            (try simp only [List.getElem_toArray, List.getElem_cons_zero, List.getElem_cons_succ, Act.put, List.setIfInBounds_toArray, List.set_cons_zero, List.set_cons_succ])
            refine wpAnyJ_take 8 (v := ?_) (by first | exact hF | exact wideFn) (HST.out _ Bd.out) rfl (by kernel_rfl) (by kernel_rfl) (by kernel_rfl) (by kernel_rfl) rfl ?_ (by first | exact fun _ _ _ h => h | exact fun _ _ _ h => hQ2 _ _ _ _ _ h) ?_
            rotate_left
            · intro W hSW
              simp only [List.getElem_toArray, List.getElem_cons_zero, List.getElem_cons_succ]
              (try dsimp only at hSW)
              go_simp
              with_reducible rfl
            (try simp only [List.getElem_toArray, List.getElem_cons_zero, List.getElem_cons_succ, Act.put, List.setIfInBounds_toArray, List.set_cons_zero, List.set_cons_succ])
            refine wpAnyJ_take 9 (v := ?_) (by first | exact hF | exact wideFn) (HST.out _ Bd.out) rfl (by kernel_rfl) (by kernel_rfl) (by kernel_rfl) (by kernel_rfl) rfl ?_ (by first | exact fun _ _ _ h => h | exact fun _ _ _ h => hQ2 _ _ _ _ _ h) ?_
            rotate_left
            · intro W hSW
              simp only [List.getElem_toArray, List.getElem_cons_zero, List.getElem_cons_succ]
              (try dsimp only at hSW)
              go_simp
              with_reducible rfl
            (try simp only [List.getElem_toArray, List.getElem_cons_zero, List.getElem_cons_succ, Act.put, List.setIfInBounds_toArray, List.set_cons_zero, List.set_cons_succ])
            refine wpAnyJ_take 10 (v := ?_) (by first | exact hF | exact wideFn) (HST.out _ Bd.out) rfl (by kernel_rfl) (by kernel_rfl) (by kernel_rfl) (by kernel_rfl) rfl ?_ (by first | exact fun _ _ _ h => h | exact fun _ _ _ h => hQ2 _ _ _ _ _ h) ?_
            rotate_left
            · intro W hSW
              simp only [List.getElem_toArray, List.getElem_cons_zero, List.getElem_cons_succ]
              (try dsimp only at hSW)
              go_simp
              with_reducible rfl
            (try simp only [List.getElem_toArray, List.getElem_cons_zero, List.getElem_cons_succ, Act.put, List.setIfInBounds_toArray, List.set_cons_zero, List.set_cons_succ])
            refine wpAnyJ_take 11 (v := ?_) (by first | exact hF | exact wideFn) (HST.out _ Bd.out) rfl (by kernel_rfl) (by kernel_rfl) (by kernel_rfl) (by kernel_rfl) rfl ?_ (by first | exact fun _ _ _ h => h | exact fun _ _ _ h => hQ2 _ _ _ _ _ h) ?_
            rotate_left
            · intro W hSW
              simp only [List.getElem_toArray, List.getElem_cons_zero, List.getElem_cons_succ]
              (try dsimp only at hSW)
              go_simp
              with_reducible rfl
            (try simp only [List.getElem_toArray, List.getElem_cons_zero, List.getElem_cons_succ, Act.put, List.setIfInBounds_toArray, List.set_cons_zero, List.set_cons_succ])
            refine wpAnyJ_take 12 (v := ?_) (by first | exact hF | exact wideFn) (HST.out _ Bd.out) rfl (by kernel_rfl) (by kernel_rfl) (by kernel_rfl) (by kernel_rfl) rfl ?_ (by first | exact fun _ _ _ h => h | exact fun _ _ _ h => hQ2 _ _ _ _ _ h) ?_
            rotate_left
            · intro W hSW
              simp only [List.getElem_toArray, List.getElem_cons_zero, List.getElem_cons_succ]
              (try dsimp only at hSW)
              go_simp
              with_reducible rfl
            (try simp only [List.getElem_toArray, List.getElem_cons_zero, List.getElem_cons_succ, Act.put, List.setIfInBounds_toArray, List.set_cons_zero, List.set_cons_succ])
            refine wpAnyJ_done (by kernel_rfl) ?_
            have Dd := hide (HV.out.trans (Bd.out.mono HV.out.size))
            clear HST a1 a2 a3
            go_wp2_with fail
            go_loopw [11, 13] (fun q i wr => ∃ j : Nat, i = .int .i64 j ∧ j ≤ s.wn k ∧ q = .int .i64 (natW s k + natRow s k j : Nat) ∧ Hid (Below wd.heap.size wd wr)) (fun _ i _ => s.wn k - (intOf i).toNat)
            case atStart => exact ⟨0, rfl, by omega, rfl, hide (Below.refl _ _)⟩
            case round =>
              obtain ⟨j, rfl, hj, rfl, HX⟩ := hrel
              have DX := hide (Dd.out.trans (HX.out.mono Dd.out.size))
              have QX := hide (Q7.out.ext DX.out)
              obtain ⟨a0, a1, a2, a3, -, -, -⟩ := blk3 QX.out.2
              rw [HA.out] at a3
              have BX := hide (Bd.out.trans (HX.out.mono Bd.out.size))
              have q1 := (BX.out.cell (p := ⟨z, k, none⟩) hz).trans CQ.out
              by_cases hlj : j < s.wn k
              · have j1 : (0 : Int) ≤ (j : Int) := by omega
                have j2 : (j : Int) < (s.wn k : Int) := by omega
                obtain ⟨gb, goff, hA1, hgb, h1, h2⟩ := P1.out.at_ hlj
                obtain ⟨wb, woff, hwa, hwb, hwc⟩ := HIW.out.at_ hlj
                have cv := (BX.out.cell (p := ⟨tb, toff + k * 2 + 1, none⟩) htb2).trans CV.out
                have cw := (QX.out.1.cell (p := ⟨wb, woff + j, none⟩) hwb).trans hwc
                have c3 := (BX.out.cell (p := ⟨gb, goff + j * 2, none⟩) hgb).trans h1
                have c4 := (BX.out.cell (p := ⟨gb, goff + j * 2 + 1, none⟩) hgb).trans h2
                rw [hwa] at cv
                rw [hA1] at q1
                obtain ⟨wj, hwj⟩ : ∃ wj : Nat, s.wf k j = wj := Int.eq_ofNat_of_zero_le (HWR.out k j hlt hlj).1
                have hwj1 := (HWR.out k j hlt hlj).2
                rw [hwj] at cw hwj1
                have hnr : natRow s k (j + 1) = natRow s k j + wj := by show natRow s k j + (s.wf k j).toNat = _; rw [hwj]; rfl
                have hb1 := HNB.out k (by omega)
                have hb2 := HNR.out k j hlt hj
                have HNX := hide hnr
                obtain ⟨x, hx⟩ : ∃ x, (LoadsL s k).getD j (0, 1) = x := ⟨_, rfl⟩
                obtain ⟨ok1, ok2⟩ := HOKL.out k (by omega) j
                rw [hx] at c3 c4 ok1 ok2
                have HLW := hide (fun W => lowestL_any x W ok1 ok2)
                have l1 : ¬ ((wj : Int) < 0) := by omega
                have l2 : ¬ ((1000 : Int) < (wj : Int)) := by omega
                obtain ⟨S, hS⟩ : ∃ S, natW s k + natRow s k j = S := ⟨_, rfl⟩
                rw [hS]
                have hSb : S ≤ 2000000 := by omega
                have hS2 : natW s k + natRow s k (j + 1) = S + wj := by omega
                have HS2 := hide hS2
                have htb3 : tb < wr.heap.size := by have := QX.out.1.size; omega
                have hwb3 : wb < wr.heap.size := by have := QX.out.1.size; omega
                have HCE := hide (show _ ∧ _ ∧ _ ∧ _ ∧ _ ∧ _ from ⟨a3, q1, cv, cw, htb3, hwb3⟩)
                clear hwj hnr hx ok1 ok2 hS hS2 h1 h2 hwc hA1 hwa hb1 hb2
                go_wp2_with fail
                refine (HLW.out _).mono ?_
                rintro e w8 ⟨rfl, hb8⟩
                obtain ⟨a3', q1', cv', cw', -⟩ := HCE.out
                have a3 := (hb8.cell (p := ⟨w.heap.size, 2, none⟩) a0).trans a3'
                have cv := (hb8.cell (p := ⟨tb, toff + k * 2 + 1, none⟩) htb3).trans cv'
                have cw := (hb8.cell (p := ⟨wb, woff + j, none⟩) hwb3).trans cw'
                have HX8 := hide (HX.out.trans (hb8.mono HX.out.size))
                clear a3' q1' cv' cw' hb8
                go_wp2_with fail
                go_roundw
                case rel => exact ⟨j + 1, by go_num, by omega, by rw [HS2.out]; go_num, HX8⟩
                case measure => simp [intOf]; omega
              · obtain ⟨WN, hWN⟩ : ∃ WN, WN = s.wn k := ⟨_, rfl⟩
                have hjn : j = WN := by omega
                subst hjn
                have j2 : ¬ (j : Int) < (s.wn k : Int) := by omega
                have HWN := hide hWN
                clear hWN hj hlj
                go_wp2_with fail
                go_roundw
                case rel => exact ⟨k + 1, by go_num, by omega, by rw [show natW s (k + 1) = natW s k + natRow s k j by rw [HWN.out]; rfl], DX⟩
                case measure => simp [intOf]; omega
            -- END2
          · as_aux_lemma =>
            obtain rfl : s.nt = k := by omega
            have HNT := hide (HNB.out s.nt (Nat.le_refl _))
            obtain ⟨N, hN⟩ : ∃ N, natW s s.nt = N := ⟨_, rfl⟩
            rw [hN]
            have HN := hide hN
            clear hN hlt hk
            go_wp2_with fail
            have KL := hide (Blk.new wr 76 #[.int .i64 ((0, 1) : Nat × Nat).1, .int .i64 ((0, 1) : Nat × Nat).2])
            have HV2 := hide (HV.out.alloc HV.out.size (.cells #[.int .i64 0, .int .i64 1] 76))
            have HGT := hide (show w7.heap.size ≤ wr.heap.size from HV.out.size)
            clear HV QV a0 a1 a2 a3
            generalize (wr.alloc (.cells #[.int .i64 0, .int .i64 1] 76)) = W8 at KL HV2 ⊢
            generalize wr.heap.size = g14 at KL HGT ⊢
            have hfm : fn ≤ 36 := hf36
            go_loopw [15] (fun i wr => ∃ (k : Nat) (x : Nat × Nat), i = .int .i64 k ∧ k ≤ fn ∧ Hid (LdOk x ∧ LdC x ∧ qR x = sumTo (fun c => qR ((LoadsL s s.nt).getD c (0, 1))) k) ∧ Hid (Blk wr g14 76 #[.int .i64 x.1, .int .i64 x.2]) ∧ Hid (Below w7.heap.size w7 wr)) (fun i _ => fn - (intOf i).toNat)
            case atStart => exact ⟨0, (0, 1), rfl, by omega, hide ⟨LdOk_zero, LdC_zero, qR_zero⟩, KL, HV2⟩
            case round =>
              obtain ⟨k, x, rfl, hk, HX, KX, HV⟩ := hrel
              by_cases hlt : k < fn
              · as_aux_lemma =>
                -- BEGIN3
                have i1 : (0 : Int) ≤ (k : Int) := by omega
                have i2 : (k : Int) < (fn : Int) := by omega
                obtain ⟨gb, goff, hFA, hgb, h1, h2⟩ := PF7.out.at_ hlt
                have c1 := (HV.out.cell (p := ⟨gb, goff + k * 2, none⟩) hgb).trans h1
                have c2 := (HV.out.cell (p := ⟨gb, goff + k * 2 + 1, none⟩) hgb).trans h2
                subst hFA
                obtain ⟨y, hy⟩ : ∃ y, (LoadsL s s.nt).getD k (0, 1) = y := ⟨_, rfl⟩
                obtain ⟨ok1, ok2⟩ := HOKL.out s.nt (Nat.le_refl _) k
                rw [hy] at c1 c2 ok1 ok2
                have HY := hide hy
                have HYO := hide ok1
                have HLW := hide (fun W => lowestL_any y W ok1 ok2)
                have hxo := HX.out.1
                obtain ⟨xn, xd⟩ := x
                obtain ⟨yn, yd⟩ := y
                dsimp only at c1 c2 KX HLW
                obtain ⟨n, d, haf⟩ := add_facts hxo ok1
                have HAF := hide haf
                clear haf hxo ok1 ok2
                have hgb2 : gb < wr.heap.size := by have := HV.out.size; omega
                obtain ⟨g0, g1, g2, g3, g4⟩ := blk2 KX.out
                clear h1 h2 hy
                go_wp2_with fail
                refine (HLW.out _).mono ?_
                rintro e w8 ⟨rfl, hb8⟩
                have KX8 := hide (KX.out.ext hb8)
                have HV8 := hide (HV.out.trans (hb8.mono HV.out.size))
                have c2' := (hb8.cell (p := ⟨gb, goff + k * 2 + 1, none⟩) hgb2).trans c2
                have c1' := (hb8.cell (p := ⟨gb, goff + k * 2, none⟩) hgb2).trans c1
                have hgb3 : gb < w8.heap.size := by have := hb8.size; omega
                have HST : Hid (∀ W, Below w8.heap.size w8 W → (W.cell? ⟨g14, 0, none⟩ = some (.int .i64 xn) ∧ W.cell? ⟨g14, 1, none⟩ = some (.int .i64 xd)) ∧ W.cell? ⟨gb, goff + k * 2, none⟩ = some (.int .i64 yn) ∧ W.cell? ⟨gb, goff + k * 2 + 1, none⟩ = some (.int .i64 yd)) := hide (fun W h => by
                  obtain ⟨-, q1, q2, -, -⟩ := blk2 (KX8.out.ext h)
                  exact ⟨⟨q1, q2⟩, (h.cell (p := ⟨gb, goff + k * 2, none⟩) hgb3).trans c1', (h.cell (p := ⟨gb, goff + k * 2 + 1, none⟩) hgb3).trans c2'⟩)
                clear hb8 c1 c2 c1' c2' g1 g2 g3 g4 KX HV
                go_upto_region 33 with fail
                have Bd := hide (Below.refl w8.heap.size w8).drew
                refine wp_region_J (fun W : World => (W.cell? ⟨g14, 0, none⟩ = some (.int .i64 xn) ∧ W.cell? ⟨g14, 1, none⟩ = some (.int .i64 xd)) ∧ W.cell? ⟨gb, goff + k * 2, none⟩ = some (.int .i64 yn) ∧ W.cell? ⟨gb, goff + k * 2 + 1, none⟩ = some (.int .i64 yd)) (by kernel_rfl) ?_
                generalize w8.drew = wd at Bd ⊢
                have w1' := HAF.out.w1
                have w2' := HAF.out.w2
                have w3' := HAF.out.w3
                have w4' := HAF.out.w4
                have w5' := HAF.out.en
                have w6' := HAF.out.ed
                have w7' := HAF.out.w5
                refine wpAnyJ_take 0 (v := ?_) (by first | exact hF | exact wideFn) (HST.out _ Bd.out) rfl (by kernel_rfl) (by kernel_rfl) (by kernel_rfl) (by kernel_rfl) rfl ?_ (by first | exact fun _ _ _ h => h | exact fun _ _ _ h => hQ2 _ _ _ _ _ h) ?_
                rotate_left
                · intro W hSW
                  simp only [List.getElem_toArray, List.getElem_cons_zero, List.getElem_cons_succ]
                  (try dsimp only at hSW)
                  go_simp
                  with_reducible rfl
                (try simp only [List.getElem_toArray, List.getElem_cons_zero, List.getElem_cons_succ, Act.put, List.setIfInBounds_toArray, List.set_cons_zero, List.set_cons_succ])
                refine wpAnyJ_take 1 (v := ?_) (by first | exact hF | exact wideFn) (HST.out _ Bd.out) rfl (by kernel_rfl) (by kernel_rfl) (by kernel_rfl) (by kernel_rfl) rfl ?_ (by first | exact fun _ _ _ h => h | exact fun _ _ _ h => hQ2 _ _ _ _ _ h) ?_
                rotate_left
                · intro W hSW
                  simp only [List.getElem_toArray, List.getElem_cons_zero, List.getElem_cons_succ]
                  (try dsimp only at hSW)
                  go_simp
                  with_reducible rfl
                (try simp only [List.getElem_toArray, List.getElem_cons_zero, List.getElem_cons_succ, Act.put, List.setIfInBounds_toArray, List.set_cons_zero, List.set_cons_succ])
                refine wpAnyJ_take 2 (v := ?_) (by first | exact hF | exact wideFn) (HST.out _ Bd.out) rfl (by kernel_rfl) (by kernel_rfl) (by kernel_rfl) (by kernel_rfl) rfl ?_ (by first | exact fun _ _ _ h => h | exact fun _ _ _ h => hQ2 _ _ _ _ _ h) ?_
                rotate_left
                · intro W hSW
                  simp only [List.getElem_toArray, List.getElem_cons_zero, List.getElem_cons_succ]
                  (try dsimp only at hSW)
                  go_simp
                  with_reducible rfl
                (try simp only [List.getElem_toArray, List.getElem_cons_zero, List.getElem_cons_succ, Act.put, List.setIfInBounds_toArray, List.set_cons_zero, List.set_cons_succ])
                refine wpAnyJ_take 3 (v := ?_) (by first | exact hF | exact wideFn) (HST.out _ Bd.out) rfl (by kernel_rfl) (by kernel_rfl) (by kernel_rfl) (by kernel_rfl) rfl ?_ (by first | exact fun _ _ _ h => h | exact fun _ _ _ h => hQ2 _ _ _ _ _ h) ?_
                rotate_left
                · intro W hSW
                  simp only [List.getElem_toArray, List.getElem_cons_zero, List.getElem_cons_succ]
                  (try dsimp only at hSW)
                  go_simp
                  with_reducible rfl
                (try simp only [List.getElem_toArray, List.getElem_cons_zero, List.getElem_cons_succ, Act.put, List.setIfInBounds_toArray, List.set_cons_zero, List.set_cons_succ])
                refine wpAnyJ_take 4 (v := ?_) (by first | exact hF | exact wideFn) (HST.out _ Bd.out) rfl (by kernel_rfl) (by kernel_rfl) (by kernel_rfl) (by kernel_rfl) rfl ?_ (by first | exact fun _ _ _ h => h | exact fun _ _ _ h => hQ2 _ _ _ _ _ h) ?_
                rotate_left
                · intro W hSW
                  simp only [List.getElem_toArray, List.getElem_cons_zero, List.getElem_cons_succ]
                  (try dsimp only at hSW)
                  go_simp
                  with_reducible rfl
                (try simp only [List.getElem_toArray, List.getElem_cons_zero, List.getElem_cons_succ, Act.put, List.setIfInBounds_toArray, List.set_cons_zero, List.set_cons_succ])
                refine wpAnyJ_take 5 (v := ?_) (by first | exact hF | exact wideFn) (HST.out _ Bd.out) rfl (by kernel_rfl) (by kernel_rfl) (by kernel_rfl) (by kernel_rfl) rfl ?_ (by first | exact fun _ _ _ h => h | exact fun _ _ _ h => hQ2 _ _ _ _ _ h) ?_
                rotate_left
                · intro W hSW
                  simp only [List.getElem_toArray, List.getElem_cons_zero, List.getElem_cons_succ]
                  (try dsimp only at hSW)
                  go_simp
                  with_reducible rfl
                (try simp only [List.getElem_toArray, List.getElem_cons_zero, List.getElem_cons_succ, Act.put, List.setIfInBounds_toArray, List.set_cons_zero, List.set_cons_succ])
                refine wpAnyJ_take 6 (v := ?_) (by first | exact hF | exact wideFn) (HST.out _ Bd.out) rfl (by kernel_rfl) (by kernel_rfl) (by kernel_rfl) (by kernel_rfl) rfl ?_ (by first | exact fun _ _ _ h => h | exact fun _ _ _ h => hQ2 _ _ _ _ _ h) ?_
                rotate_left
                · intro W hSW
                  simp only [List.getElem_toArray, List.getElem_cons_zero, List.getElem_cons_succ]
                  (try dsimp only at hSW)
                  go_simp
                  with_reducible rfl
                (try simp only [List.getElem_toArray, List.getElem_cons_zero, List.getElem_cons_succ, Act.put, List.setIfInBounds_toArray, List.set_cons_zero, List.set_cons_succ])
                refine wpAnyJ_take 7 (v := ?_) (by first | exact hF | exact wideFn) (HST.out _ Bd.out) rfl (by kernel_rfl) (by kernel_rfl) (by kernel_rfl) (by kernel_rfl) rfl ?_ (by first | exact fun _ _ _ h => h | exact fun _ _ _ h => hQ2 _ _ _ _ _ h) ?_
                rotate_left
                · intro W hSW
                  simp only [List.getElem_toArray, List.getElem_cons_zero, List.getElem_cons_succ]
                  (try dsimp only at hSW)
                  go_simp
                  with_reducible rfl
                (try simp only [List.getElem_toArray, List.getElem_cons_zero, List.getElem_cons_succ, Act.put, List.setIfInBounds_toArray, List.set_cons_zero, List.set_cons_succ])
                refine wpAnyJ_take 8 (v := ?_) (by first | exact hF | exact wideFn) (HST.out _ Bd.out) rfl (by kernel_rfl) (by kernel_rfl) (by kernel_rfl) (by kernel_rfl) rfl ?_ (by first | exact fun _ _ _ h => h | exact fun _ _ _ h => hQ2 _ _ _ _ _ h) ?_
                rotate_left
                · intro W hSW
                  simp only [List.getElem_toArray, List.getElem_cons_zero, List.getElem_cons_succ]
                  (try dsimp only at hSW)
                  go_simp
                  with_reducible rfl
                (try simp only [List.getElem_toArray, List.getElem_cons_zero, List.getElem_cons_succ, Act.put, List.setIfInBounds_toArray, List.set_cons_zero, List.set_cons_succ])
                refine wpAnyJ_take 9 (v := ?_) (by first | exact hF | exact wideFn) (HST.out _ Bd.out) rfl (by kernel_rfl) (by kernel_rfl) (by kernel_rfl) (by kernel_rfl) rfl ?_ (by first | exact fun _ _ _ h => h | exact fun _ _ _ h => hQ2 _ _ _ _ _ h) ?_
                rotate_left
                · intro W hSW
                  simp only [List.getElem_toArray, List.getElem_cons_zero, List.getElem_cons_succ]
                  (try dsimp only at hSW)
                  go_simp
                  with_reducible rfl
                (try simp only [List.getElem_toArray, List.getElem_cons_zero, List.getElem_cons_succ, Act.put, List.setIfInBounds_toArray, List.set_cons_zero, List.set_cons_succ])
                refine wpAnyJ_take 10 (v := ?_) (by first | exact hF | exact wideFn) (HST.out _ Bd.out) rfl (by kernel_rfl) (by kernel_rfl) (by kernel_rfl) (by kernel_rfl) rfl ?_ (by first | exact fun _ _ _ h => h | exact fun _ _ _ h => hQ2 _ _ _ _ _ h) ?_
                rotate_left
                · intro W hSW
                  simp only [List.getElem_toArray, List.getElem_cons_zero, List.getElem_cons_succ]
                  (try dsimp only at hSW)
                  go_simp
                  with_reducible rfl
                (try simp only [List.getElem_toArray, List.getElem_cons_zero, List.getElem_cons_succ, Act.put, List.setIfInBounds_toArray, List.set_cons_zero, List.set_cons_succ])
                refine wpAnyJ_take 11 (v := ?_) (by first | exact hF | exact wideFn) (HST.out _ Bd.out) rfl (by kernel_rfl) (by kernel_rfl) (by kernel_rfl) (by kernel_rfl) rfl ?_ (by first | exact fun _ _ _ h => h | exact fun _ _ _ h => hQ2 _ _ _ _ _ h) ?_
                rotate_left
                · intro W hSW
                  simp only [List.getElem_toArray, List.getElem_cons_zero, List.getElem_cons_succ]
                  (try dsimp only at hSW)
                  go_simp
                  with_reducible rfl
                (try simp only [List.getElem_toArray, List.getElem_cons_zero, List.getElem_cons_succ, Act.put, List.setIfInBounds_toArray, List.set_cons_zero, List.set_cons_succ])
                refine wpAnyJ_take 12 (v := ?_) (by first | exact hF | exact wideFn) (HST.out _ Bd.out) rfl (by kernel_rfl) (by kernel_rfl) (by kernel_rfl) (by kernel_rfl) rfl ?_ (by first | exact fun _ _ _ h => h | exact fun _ _ _ h => hQ2 _ _ _ _ _ h) ?_
                rotate_left
                · intro W hSW
                  simp only [List.getElem_toArray, List.getElem_cons_zero, List.getElem_cons_succ]
                  (try dsimp only at hSW)
                  go_simp
                  with_reducible rfl
                (try simp only [List.getElem_toArray, List.getElem_cons_zero, List.getElem_cons_succ, Act.put, List.setIfInBounds_toArray, List.set_cons_zero, List.set_cons_succ])
                refine wpAnyJ_take 13 (v := ?_) (by first | exact hF | exact wideFn) (HST.out _ Bd.out) rfl (by kernel_rfl) (by kernel_rfl) (by kernel_rfl) (by kernel_rfl) rfl ?_ (by first | exact fun _ _ _ h => h | exact fun _ _ _ h => hQ2 _ _ _ _ _ h) ?_
                rotate_left
                · intro W hSW
                  simp only [List.getElem_toArray, List.getElem_cons_zero, List.getElem_cons_succ]
                  (try dsimp only at hSW)
                  go_simp
                  with_reducible rfl
                (try simp only [List.getElem_toArray, List.getElem_cons_zero, List.getElem_cons_succ, Act.put, List.setIfInBounds_toArray, List.set_cons_zero, List.set_cons_succ])
                refine wpAnyJ_take 14 (v := ?_) (by first | exact hF | exact wideFn) (HST.out _ Bd.out) rfl (by kernel_rfl) (by kernel_rfl) (by kernel_rfl) (by kernel_rfl) rfl ?_ (by first | exact fun _ _ _ h => h | exact fun _ _ _ h => hQ2 _ _ _ _ _ h) ?_
                rotate_left
                · intro W hSW
                  simp only [List.getElem_toArray, List.getElem_cons_zero, List.getElem_cons_succ]
                  (try dsimp only at hSW)
                  go_simp
                  with_reducible rfl
                (try simp only [List.getElem_toArray, List.getElem_cons_zero, List.getElem_cons_succ, Act.put, List.setIfInBounds_toArray, List.set_cons_zero, List.set_cons_succ])
                refine wpAnyJ_take 15 (v := ?_) (by first | exact hF | exact wideFn) (HST.out _ Bd.out) rfl (by kernel_rfl) (by kernel_rfl) (by kernel_rfl) (by kernel_rfl) rfl ?_ (by first | exact fun _ _ _ h => h | exact fun _ _ _ h => hQ2 _ _ _ _ _ h) ?_
                rotate_left
                · intro W hSW
                  simp only [List.getElem_toArray, List.getElem_cons_zero, List.getElem_cons_succ]
                  (try dsimp only at hSW)
                  go_simp
                  with_reducible rfl
                (try simp only [List.getElem_toArray, List.getElem_cons_zero, List.getElem_cons_succ, Act.put, List.setIfInBounds_toArray, List.set_cons_zero, List.set_cons_succ])
                refine wpAnyJ_take 16 (v := ?_) (by first | exact hF | exact wideFn) (HST.out _ Bd.out) rfl (by kernel_rfl) (by kernel_rfl) (by kernel_rfl) (by kernel_rfl) rfl ?_ (by first | exact fun _ _ _ h => h | exact fun _ _ _ h => hQ2 _ _ _ _ _ h) ?_
                rotate_left
                · intro W hSW
                  simp only [List.getElem_toArray, List.getElem_cons_zero, List.getElem_cons_succ]
                  (try dsimp only at hSW)
                  go_simp
                  with_reducible rfl
                (try simp only [List.getElem_toArray, List.getElem_cons_zero, List.getElem_cons_succ, Act.put, List.setIfInBounds_toArray, List.set_cons_zero, List.set_cons_succ])
                refine wpAnyJ_take 17 (v := ?_) (by first | exact hF | exact wideFn) (HST.out _ Bd.out) rfl (by kernel_rfl) (by kernel_rfl) (by kernel_rfl) (by kernel_rfl) rfl ?_ (by first | exact fun _ _ _ h => h | exact fun _ _ _ h => hQ2 _ _ _ _ _ h) ?_
                rotate_left
                · intro W hSW
                  simp only [List.getElem_toArray, List.getElem_cons_zero, List.getElem_cons_succ]
                  (try dsimp only at hSW)
                  go_simp
                  with_reducible rfl
                (try simp only [List.getElem_toArray, List.getElem_cons_zero, List.getElem_cons_succ, Act.put, List.setIfInBounds_toArray, List.set_cons_zero, List.set_cons_succ])
                refine wpAnyJ_take 18 (v := ?_) (by first | exact hF | exact wideFn) (HST.out _ Bd.out) rfl (by kernel_rfl) (by kernel_rfl) (by kernel_rfl) (by kernel_rfl) rfl ?_ (by first | exact fun _ _ _ h => h | exact fun _ _ _ h => hQ2 _ _ _ _ _ h) ?_
                rotate_left
                · intro W hSW
                  simp only [List.getElem_toArray, List.getElem_cons_zero, List.getElem_cons_succ]
                  (try dsimp only at hSW)
                  go_simp
                  with_reducible rfl
                (try simp only [List.getElem_toArray, List.getElem_cons_zero, List.getElem_cons_succ, Act.put, List.setIfInBounds_toArray, List.set_cons_zero, List.set_cons_succ])
                refine wpAnyJ_take 19 (v := ?_) (by first | exact hF | exact wideFn) (HST.out _ Bd.out) rfl (by kernel_rfl) (by kernel_rfl) (by kernel_rfl) (by kernel_rfl) rfl ?_ (by first | exact fun _ _ _ h => h | exact fun _ _ _ h => hQ2 _ _ _ _ _ h) ?_
                rotate_left
                · intro W hSW
                  simp only [List.getElem_toArray, List.getElem_cons_zero, List.getElem_cons_succ]
                  (try dsimp only at hSW)
                  go_simp
                  with_reducible rfl
                (try simp only [List.getElem_toArray, List.getElem_cons_zero, List.getElem_cons_succ, Act.put, List.setIfInBounds_toArray, List.set_cons_zero, List.set_cons_succ])
                refine wpAnyJ_take 20 (v := ?_) (by first | exact hF | exact wideFn) (HST.out _ Bd.out) rfl (by kernel_rfl) (by kernel_rfl) (by kernel_rfl) (by kernel_rfl) rfl ?_ (by first | exact fun _ _ _ h => h | exact fun _ _ _ h => hQ2 _ _ _ _ _ h) ?_
                rotate_left
                · intro W hSW
                  simp only [List.getElem_toArray, List.getElem_cons_zero, List.getElem_cons_succ]
                  (try dsimp only at hSW)
                  go_simp
                  with_reducible rfl
                (try simp only [List.getElem_toArray, List.getElem_cons_zero, List.getElem_cons_succ, Act.put, List.setIfInBounds_toArray, List.set_cons_zero, List.set_cons_succ])
                refine wpAnyJ_take 21 (v := ?_) (by first | exact hF | exact wideFn) (HST.out _ Bd.out) rfl (by kernel_rfl) (by kernel_rfl) (by kernel_rfl) (by kernel_rfl) rfl ?_ (by first | exact fun _ _ _ h => h | exact fun _ _ _ h => hQ2 _ _ _ _ _ h) ?_
                rotate_left
                · intro W hSW
                  simp only [List.getElem_toArray, List.getElem_cons_zero, List.getElem_cons_succ]
                  (try dsimp only at hSW)
                  go_simp
                  with_reducible rfl
                (try simp only [List.getElem_toArray, List.getElem_cons_zero, List.getElem_cons_succ, Act.put, List.setIfInBounds_toArray, List.set_cons_zero, List.set_cons_succ])
                refine wpAnyJ_take 22 (v := ?_) (by first | exact hF | exact wideFn) (HST.out _ Bd.out) rfl (by kernel_rfl) (by kernel_rfl) (by kernel_rfl) (by kernel_rfl) rfl ?_ (by first | exact fun _ _ _ h => h | exact fun _ _ _ h => hQ2 _ _ _ _ _ h) ?_
                rotate_left
                · intro W hSW
                  simp only [List.getElem_toArray, List.getElem_cons_zero, List.getElem_cons_succ]
                  (try dsimp only at hSW)
                  go_simp
                  with_reducible rfl
                (try simp only [List.getElem_toArray, List.getElem_cons_zero, List.getElem_cons_succ, Act.put, List.setIfInBounds_toArray, List.set_cons_zero, List.set_cons_succ])
                refine wpAnyJ_take 23 (v := ?_) (by first | exact hF | exact wideFn) (HST.out _ Bd.out) rfl (by kernel_rfl) (by kernel_rfl) (by kernel_rfl) (by kernel_rfl) rfl ?_ (by first | exact fun _ _ _ h => h | exact fun _ _ _ h => hQ2 _ _ _ _ _ h) ?_
                rotate_left
                · intro W hSW
                  simp only [List.getElem_toArray, List.getElem_cons_zero, List.getElem_cons_succ]
                  (try dsimp only at hSW)
                  go_simp
                  with_reducible rfl
                (try simp only [List.getElem_toArray, List.getElem_cons_zero, List.getElem_cons_succ, Act.put, List.setIfInBounds_toArray, List.set_cons_zero, List.set_cons_succ])
                refine wpAnyJ_take 24 (v := ?_) (by first | exact hF | exact wideFn) (HST.out _ Bd.out) rfl (by kernel_rfl) (by kernel_rfl) (by kernel_rfl) (by kernel_rfl) rfl ?_ (by first | exact fun _ _ _ h => h | exact fun _ _ _ h => hQ2 _ _ _ _ _ h) ?_
                rotate_left
                · intro W hSW
                  simp only [List.getElem_toArray, List.getElem_cons_zero, List.getElem_cons_succ]
                  (try dsimp only at hSW)
                  go_simp
                  with_reducible rfl
                (try simp only [List.getElem_toArray, List.getElem_cons_zero, List.getElem_cons_succ, Act.put, List.setIfInBounds_toArray, List.set_cons_zero, List.set_cons_succ])
                refine wpAnyJ_take 25 (v := ?_) (by first | exact hF | exact wideFn) (HST.out _ Bd.out) rfl (by kernel_rfl) (by kernel_rfl) (by kernel_rfl) (by kernel_rfl) rfl ?_ (by first | exact fun _ _ _ h => h | exact fun _ _ _ h => hQ2 _ _ _ _ _ h) ?_
                rotate_left
                · intro W hSW
                  simp only [List.getElem_toArray, List.getElem_cons_zero, List.getElem_cons_succ]
                  (try dsimp only at hSW)
                  go_simp
                  with_reducible rfl
                (try simp only [List.getElem_toArray, List.getElem_cons_zero, List.getElem_cons_succ, Act.put, List.setIfInBounds_toArray, List.set_cons_zero, List.set_cons_succ])
                refine wpAnyJ_take 26 (v := ?_) (by first | exact hF | exact wideFn) (HST.out _ Bd.out) rfl (by kernel_rfl) (by kernel_rfl) (by kernel_rfl) (by kernel_rfl) rfl ?_ (by first | exact fun _ _ _ h => h | exact fun _ _ _ h => hQ2 _ _ _ _ _ h) ?_
                rotate_left
                · intro W hSW
                  simp only [List.getElem_toArray, List.getElem_cons_zero, List.getElem_cons_succ]
                  (try dsimp only at hSW)
                  go_simp
                  with_reducible rfl
                (try simp only [List.getElem_toArray, List.getElem_cons_zero, List.getElem_cons_succ, Act.put, List.setIfInBounds_toArray, List.set_cons_zero, List.set_cons_succ])
                refine wpAnyJ_done (by kernel_rfl) ?_
                clear w1' w2' w3' w4' w5' w6' w7'
                have KD := hide (KX8.out.ext Bd.out)
                have HVD := hide (HV8.out.trans (Bd.out.mono HV8.out.size))
                clear HST KX8 HV8 HLW
                obtain ⟨G, NN, DD, hdf⟩ := div_facts HAF.out.bn HAF.out.bd HAF.out.d0
                have g0' := hdf.g0
                have X := hide hdf
                have HLP := hide hdf.lp
                have HDV := hide (fun W => divisor_big n d G W HAF.out.bn HAF.out.bd X.out.g)
                clear hdf
                go_wp2_with fail
                refine (HDV.out _).mono ?_
                rintro e w9 ⟨rfl, hb9⟩
                have K9 := hide (KD.out.ext hb9)
                have V9 := hide (HVD.out.trans (hb9.mono HVD.out.size))
                have r1 : ((G : Nat) : Int) ≠ 0 := by omega
                have r2 : (0 : Int) < ((G : Nat) : Int) := by omega
                clear hb9 KD HVD HDV Bd
                go_wp2_with fail
                go_upto_region 35 with fail
                have r3 : ((G : Int) == 0) = false := by simp; omega
                have r4 : ¬ G = 0 := by omega
                have r5 : ¬ (G : Int) = 0 := by omega
                obtain ⟨⟨s1, s2⟩, -, -⟩ := X.out.x
                obtain ⟨s3, s4⟩ := X.out.t
                obtain ⟨s5, s6⟩ := X.out.v
                have Bg := hide (Below.refl w9.heap.size w9).drew
                refine wp_region_J (fun _ : World => True) (by kernel_rfl) ?_
                have K9d := hide (K9.out.ext Bg.out)
                obtain ⟨g0, g1, g2, g3, g4⟩ := blk2 K9d.out
                have V9d := hide (V9.out.trans (Bg.out.mono V9.out.size))
                generalize w9.drew = wg at Bg K9d V9d g0 g1 g2 g3 g4 ⊢
                refine wpAnyJ_take 0 (v := ?_) (by first | exact hF | exact wideFn) trivial rfl (by kernel_rfl) (by kernel_rfl) (by kernel_rfl) (by kernel_rfl) rfl ?_ (by first | exact fun _ _ _ h => h | exact fun _ _ _ h => hQ2 _ _ _ _ _ h) ?_
                rotate_left
                · intro W hSW
                  simp only [List.getElem_toArray, List.getElem_cons_zero, List.getElem_cons_succ]
                  (try dsimp only at hSW)
                  go_simp
                  with_reducible rfl
                (try simp only [List.getElem_toArray, List.getElem_cons_zero, List.getElem_cons_succ, Act.put, List.setIfInBounds_toArray, List.set_cons_zero, List.set_cons_succ])
                refine wpAnyJ_take 1 (v := ?_) (by first | exact hF | exact wideFn) trivial rfl (by kernel_rfl) (by kernel_rfl) (by kernel_rfl) (by kernel_rfl) rfl ?_ (by first | exact fun _ _ _ h => h | exact fun _ _ _ h => hQ2 _ _ _ _ _ h) ?_
                rotate_left
                · intro W hSW
                  simp only [List.getElem_toArray, List.getElem_cons_zero, List.getElem_cons_succ]
                  (try dsimp only at hSW)
                  go_simp
                  with_reducible rfl
                (try simp only [List.getElem_toArray, List.getElem_cons_zero, List.getElem_cons_succ, Act.put, List.setIfInBounds_toArray, List.set_cons_zero, List.set_cons_succ])
                refine wpAnyJ_take 2 (v := ?_) (by first | exact hF | exact wideFn) trivial rfl (by kernel_rfl) (by kernel_rfl) (by kernel_rfl) (by kernel_rfl) rfl ?_ (by first | exact fun _ _ _ h => h | exact fun _ _ _ h => hQ2 _ _ _ _ _ h) ?_
                rotate_left
                · intro W hSW
                  simp only [List.getElem_toArray, List.getElem_cons_zero, List.getElem_cons_succ]
                  (try dsimp only at hSW)
                  go_simp
                  with_reducible rfl
                (try simp only [List.getElem_toArray, List.getElem_cons_zero, List.getElem_cons_succ, Act.put, List.setIfInBounds_toArray, List.set_cons_zero, List.set_cons_succ])
                refine wpAnyJ_take 3 (v := ?_) (by first | exact hF | exact wideFn) trivial rfl (by kernel_rfl) (by kernel_rfl) (by kernel_rfl) (by kernel_rfl) rfl ?_ (by first | exact fun _ _ _ h => h | exact fun _ _ _ h => hQ2 _ _ _ _ _ h) ?_
                rotate_left
                · intro W hSW
                  simp only [List.getElem_toArray, List.getElem_cons_zero, List.getElem_cons_succ]
                  (try dsimp only at hSW)
                  go_simp
                  with_reducible rfl
                (try simp only [List.getElem_toArray, List.getElem_cons_zero, List.getElem_cons_succ, Act.put, List.setIfInBounds_toArray, List.set_cons_zero, List.set_cons_succ])
                refine wpAnyJ_take 4 (v := ?_) (by first | exact hF | exact wideFn) trivial rfl (by kernel_rfl) (by kernel_rfl) (by kernel_rfl) (by kernel_rfl) rfl ?_ (by first | exact fun _ _ _ h => h | exact fun _ _ _ h => hQ2 _ _ _ _ _ h) ?_
                rotate_left
                · intro W hSW
                  simp only [List.getElem_toArray, List.getElem_cons_zero, List.getElem_cons_succ]
                  (try dsimp only at hSW)
                  go_simp
                  with_reducible rfl
                (try simp only [List.getElem_toArray, List.getElem_cons_zero, List.getElem_cons_succ, Act.put, List.setIfInBounds_toArray, List.set_cons_zero, List.set_cons_succ])
                refine wpAnyJ_take 5 (v := ?_) (by first | exact hF | exact wideFn) trivial rfl (by kernel_rfl) (by kernel_rfl) (by kernel_rfl) (by kernel_rfl) rfl ?_ (by first | exact fun _ _ _ h => h | exact fun _ _ _ h => hQ2 _ _ _ _ _ h) ?_
                rotate_left
                · intro W hSW
                  simp only [List.getElem_toArray, List.getElem_cons_zero, List.getElem_cons_succ]
                  (try dsimp only at hSW)
                  go_simp
                  with_reducible rfl
                (try simp only [List.getElem_toArray, List.getElem_cons_zero, List.getElem_cons_succ, Act.put, List.setIfInBounds_toArray, List.set_cons_zero, List.set_cons_succ])
                refine wpAnyJ_take 6 (v := ?_) (by first | exact hF | exact wideFn) trivial rfl (by kernel_rfl) (by kernel_rfl) (by kernel_rfl) (by kernel_rfl) rfl ?_ (by first | exact fun _ _ _ h => h | exact fun _ _ _ h => hQ2 _ _ _ _ _ h) ?_
                rotate_left
                · intro W hSW
                  simp only [List.getElem_toArray, List.getElem_cons_zero, List.getElem_cons_succ]
                  (try dsimp only at hSW)
                  go_simp
                  with_reducible rfl
                (try simp only [List.getElem_toArray, List.getElem_cons_zero, List.getElem_cons_succ, Act.put, List.setIfInBounds_toArray, List.set_cons_zero, List.set_cons_succ])
                clear s1 s2 s3 s4 s5 s6 r1 r2 r3 r4 r5
                refine wpAnyJ_one 7 rfl (by kernel_rfl) (fun K hK => ?_)
                simp only [List.getElem_toArray, List.getElem_cons_zero, List.getElem_cons_succ]
                go_simp
                refine hK.out _ _ (fun h => absurd h (by rw [show lastOp _ _ _ = true from by kernel_rfl]; simp)) ?_
                clear hK K
                (try simp only [List.getElem_toArray, List.getElem_cons_zero, List.getElem_cons_succ, Act.put, List.setIfInBounds_toArray, List.set_cons_zero, List.set_cons_succ])
                refine wpAnyJ_done (by kernel_rfl) ?_
                have K10 := hide (K9d.out.set2 (.int .i64 NN) (.int .i64 DD))
                have V10 := hide (set2B V9d.out HGT.out (.int .i64 NN) (.int .i64 DD))
                generalize (wg.setCell ⟨g14, 0, none⟩ (.int .i64 NN)).setCell ⟨g14, 1, none⟩ (.int .i64 DD) = w10 at K10 V10 ⊢
                clear K9 V9 K9d V9d g0 g1 g2 g3 g4
                obtain ⟨g0, g1, g2, g3, g4⟩ := blk2 K10.out
                by_cases f1 : NN ≤ 1000000000
                · have u1 : ¬ (1000000000 : Int) < NN := by omega
                  by_cases f2 : DD ≤ 1000000000
                  · have u2 : ¬ (1000000000 : Int) < DD := by omega
                    have hfit : fitP (lowP n d) = true := by rw [HLP.out]; simp [fitP, f1, f2]
                    have hxy := qR_add (x := (xn, xd)) (y := (yn, yd)) HX.out.1 HYO.out (by rw [HAF.out.hn, HAF.out.hd]; exact hfit)
                    rw [HAF.out.hn, HAF.out.hd] at hxy
                    have hls : lowS n d = (NN, DD) := by unfold lowS; rw [capP_yes hfit, HLP.out]
                    have hlo := lowS_ok n d HAF.out.d0
                    have hlc := lowS_c (n := n) HAF.out.d0
                    rw [hls] at hxy hlo hlc
                    have HNX : Hid (LdOk (NN, DD) ∧ LdC (NN, DD) ∧ qR (NN, DD) = sumTo (fun c => qR ((LoadsL s s.nt).getD c (0, 1))) (k + 1)) := hide ⟨hlo, hlc, by
                      show _ = sumTo _ k + qR ((LoadsL s s.nt).getD k (0, 1))
                      rw [hxy, HX.out.2.2, HY.out]⟩
                    clear hfit hxy hls hlo hlc
                    go_wp2_with fail
                    go_roundw
                    case rel => exact ⟨k + 1, (NN, DD), by go_num, by omega, HNX, K10, V10⟩
                    case measure => simp [intOf]; omega
                  · have u2 : (1000000000 : Int) < DD := by omega
                    go_wp2_with fail
                    refine (HK.out _).mono ?_
                    rintro e w99 ⟨rfl, hb99⟩
                    go_wp2_with fail
                    go_ret
                    exact ⟨rfl, (Q7.out.1.trans (V10.out.mono Q7.out.1.size)).trans (hb99.mono (Q7.out.1.trans (V10.out.mono Q7.out.1.size)).size)⟩
                · have u1 : (1000000000 : Int) < NN := by omega
                  go_wp2_with fail
                  refine (HK.out _).mono ?_
                  rintro e w99 ⟨rfl, hb99⟩
                  go_wp2_with fail
                  go_ret
                  exact ⟨rfl, (Q7.out.1.trans (V10.out.mono Q7.out.1.size)).trans (hb99.mono (Q7.out.1.trans (V10.out.mono Q7.out.1.size)).size)⟩
                -- END3
              · as_aux_lemma =>
                obtain rfl : fn = k := by omega
                have hx : x = (N, 1) := whole_of HX.out.1.2.1 HX.out.2.1 (by
                  rw [HX.out.2.2, ← HN.out, ← floor_sum H1.out H2.out H3.out, HF.out]; rfl)
                subst hx
                obtain ⟨H, hH⟩ : ∃ H, H + 1 = s.nt := ⟨s.nt - 1, by omega⟩
                have wH : IntKind.i64.wrap ((s.nt : Int) - 1) = (H : Int) := by rw [IntWalk.i64_in _ (by omega)]; omega
                have QV := hide (Q7.out.ext HV.out)
                obtain ⟨a0, a1, a2, a3, -, -, -⟩ := blk3 QV.out.2
                obtain ⟨g0, g1, g2, g3, g4⟩ := blk2 KX.out
                dsimp only at g1 g2
                have HHH := hide hH
                have hHn : H < s.nt := by omega
                clear hlt hk HX hH
                go_wp2_with fail
                clear wH g0 g1 g2 g3 g4 a0 a1 a2 a3 KX
                have HV0 := hide HV.out
                have HTP := hide (free_tops (s := s) (by omega))
                have HFA := hide (fun i => free_at (s := s) (i := i))
                have HFX := hide (fun i => free_next (s := s) (i := i))
                have hH' : s.nt - 1 = H := by have := HHH.out; omega
                rw [HBN.out, hH'] at HTP
                rw [HBN.out] at HFA HFX
                clear hH'
                go_loopw [20, 21] (fun q i wr => ∃ (k m : Nat), i = .int .i64 k ∧ k ≤ bn ∧ q = .int .i64 m ∧ m ≤ k ∧ Hid (m = min k (s.wn H)) ∧ Hid (Below w7.heap.size w7 wr)) (fun _ i _ => bn - (intOf i).toNat)
                case atStart => exact ⟨0, 0, rfl, by omega, rfl, by omega, hide (by omega), HV0⟩
                case round =>
                  obtain ⟨k, m, rfl, hk, rfl, hmk, HM, HV⟩ := hrel
                  by_cases hlt : k < bn
                  · as_aux_lemma =>
                    -- BEGIN4
                    have i1 : (0 : Int) ≤ (k : Int) := by omega
                    have i2 : (k : Int) < (bn : Int) := by omega
                    obtain ⟨fb, foff, hFB, hfb, h1, h2⟩ := PB.out.at_ hlt
                    obtain ⟨p, hp⟩ : ∃ p, (freeDn s s.nt).getD k (0, 1) = p := ⟨_, rfl⟩
                    obtain ⟨p1, p2, p3⟩ := HFA.out k hlt
                    have pt := HTP.out.2 k hlt
                    unfold rowOf at h1 h2
                    rw [hp] at h1 h2 p1 p2 p3 pt
                    obtain ⟨t, j⟩ := p
                    dsimp only at p1 p2 pt
                    replace h1 : w7.cell? ⟨fb, foff + k * 2, none⟩ = some (.int .i64 (t : Int)) := h1
                    replace h2 : w7.cell? ⟨fb, foff + k * 2 + 1, none⟩ = some (.int .i64 (j : Int)) := h2
                    have c1 := (HV.out.cell (p := ⟨fb, foff + k * 2, none⟩) hfb).trans h1
                    have c2 := (HV.out.cell (p := ⟨fb, foff + k * 2 + 1, none⟩) hfb).trans h2
                    have hz0 := free_zero H1.out H2.out H3.out p1 p2 p3
                    obtain ⟨A1, cc1, hz, q1, P1⟩ := (LS7.out.ext HV.out).at_ p1
                    rw [HLL.out t p1] at q1 P1
                    obtain ⟨gb, goff, hA1, hgb, d1, -⟩ := P1.at_ p2
                    rw [hz0] at d1
                    subst hA1
                    have HP := hide hp
                    have HPT := hide pt
                    have t0 : (0 : Int) ≤ (t : Int) := by omega
                    have t1 : (t : Int) < (s.nt : Int) := by omega
                    have t2 : ¬ (H : Int) < (t : Int) := by have := HHH.out; omega
                    have j0 : (0 : Int) ≤ (j : Int) := by omega
                    have j1 : (j : Int) < (s.wn t : Int) := by omega
                    have hw36 := (HCC.out t p1).2
                    have j2 : ¬ (s.wn t : Int) ≤ (j : Int) := by omega
                    have j3 : ¬ s.wn t ≤ j := by omega
                    have j4 : decide (s.wn t ≤ j) = false := by simpa using j3
                    have hfb2 : fb < wr.heap.size := by have := HV.out.size; omega
                    subst hFB
                    clear h1 h2 hp hz0 p3 P1
                    go_upto_region 46 with fail
                    have KB8 := hide (Blk.new wr 59 #[.int .i64 t, .int .i64 j])
                    have HVA := hide (HV.out.alloc HV.out.size (.cells #[.int .i64 t, .int .i64 j] 59))
                    have bz := (Below.refl wr.heap.size wr).alloc (Nat.le_refl _) (.cells #[.int .i64 t, .int .i64 j] 59)
                    have e1 := (bz.cell (p := ⟨z, t, none⟩) hz).trans q1
                    have e2 := (bz.cell (p := ⟨gb, goff + j * 2, none⟩) hgb).trans d1
                    have hz2 : z < (wr.alloc (.cells #[.int .i64 t, .int .i64 j] 59)).heap.size := by simp; omega
                    have hgb2 : gb < (wr.alloc (.cells #[.int .i64 t, .int .i64 j] 59)).heap.size := by simp; omega
                    have hfb3 : fb < (wr.alloc (.cells #[.int .i64 t, .int .i64 j] 59)).heap.size := by simp; omega
                    have HE := hide (And.intro e1 e2)
                    have BZ := hide bz
                    clear q1 d1 e1 e2 c1 c2 bz
                    obtain ⟨g22, hg22⟩ : ∃ g, wr.heap.size = g := ⟨_, rfl⟩
                    rw [hg22] at KB8 ⊢
                    clear hg22
                    have HST : Hid (∀ W, Below (wr.alloc (.cells #[.int .i64 t, .int .i64 j] 59)).heap.size (wr.alloc (.cells #[.int .i64 t, .int .i64 j] 59)) W → (W.cell? ⟨g22, 0, none⟩ = some (.int .i64 t) ∧ W.cell? ⟨g22, 1, none⟩ = some (.int .i64 j)) ∧ W.cell? ⟨z, t, none⟩ = some (.slice (some ⟨gb, goff, none⟩) (s.wn t) cc1) ∧ W.cell? ⟨gb, goff + j * 2, none⟩ = some (.int .i64 0)) := hide (fun W h => by
                      obtain ⟨-, y1, y2, -, -⟩ := blk2 (KB8.out.ext h)
                      exact ⟨⟨y1, y2⟩, (h.cell (p := ⟨z, t, none⟩) hz2).trans HE.out.1, (h.cell (p := ⟨gb, goff + j * 2, none⟩) hgb2).trans HE.out.2⟩)
                    by_cases hk0 : 0 < k
                    · obtain ⟨k', hk'⟩ : ∃ k', k = k' + 1 := ⟨k - 1, by omega⟩
                      obtain ⟨p', hp'⟩ : ∃ p', (freeDn s s.nt).getD k' (0, 1) = p' := ⟨_, rfl⟩
                      have hbk := HFX.out k' (by omega)
                      rw [← hk', HP.out, hp'] at hbk
                      obtain ⟨fb', foff', hFB', -, h1', h2'⟩ := PB.out.at_ (k := k') (by omega)
                      injection hFB' with hFB'
                      injection hFB' with hFB1 hFB2
                      subst hFB1 hFB2
                      unfold rowOf at h1' h2'
                      rw [hp'] at h1' h2'
                      obtain ⟨t', j'⟩ := p'
                      replace h1' : w7.cell? ⟨fb, foff + k' * 2, none⟩ = some (.int .i64 (t' : Int)) := h1'
                      replace h2' : w7.cell? ⟨fb, foff + k' * 2 + 1, none⟩ = some (.int .i64 (j' : Int)) := h2'
                      have c1 := (HV.out.cell (p := ⟨fb, foff + k' * 2, none⟩) hfb).trans h1'
                      have c2 := (HV.out.cell (p := ⟨fb, foff + k' * 2 + 1, none⟩) hfb).trans h2'
                      have c1' := (BZ.out.cell (p := ⟨fb, foff + k' * 2, none⟩) hfb2).trans c1
                      have c2' := (BZ.out.cell (p := ⟨fb, foff + k' * 2 + 1, none⟩) hfb2).trans c2
                      have HPC := hide (And.intro c1' c2')
                      have HST2 : Hid (∀ W, Below (wr.alloc (.cells #[.int .i64 t, .int .i64 j] 59)).heap.size (wr.alloc (.cells #[.int .i64 t, .int .i64 j] 59)) W → ((W.cell? ⟨g22, 0, none⟩ = some (.int .i64 t) ∧ W.cell? ⟨g22, 1, none⟩ = some (.int .i64 j)) ∧ W.cell? ⟨z, t, none⟩ = some (.slice (some ⟨gb, goff, none⟩) (s.wn t) cc1) ∧ W.cell? ⟨gb, goff + j * 2, none⟩ = some (.int .i64 0)) ∧ W.cell? ⟨fb, foff + k' * 2, none⟩ = some (.int .i64 t') ∧ W.cell? ⟨fb, foff + k' * 2 + 1, none⟩ = some (.int .i64 j')) := hide (fun W h => ⟨HST.out W h, (h.cell (p := ⟨fb, foff + k' * 2, none⟩) hfb3).trans HPC.out.1, (h.cell (p := ⟨fb, foff + k' * 2 + 1, none⟩) hfb3).trans HPC.out.2⟩)
                      have wk : IntKind.i64.wrap ((k : Int) - 1) = (k' : Int) := by rw [IntWalk.i64_in _ (by omega)]; omega
                      have l0 : (0 : Int) < (k : Int) := by omega
                      have l1 : (0 : Int) ≤ (k' : Int) := by omega
                      have l2 : (k' : Int) < (bn : Int) := by omega
                      have n0 : decide (0 < k) = true := by simpa using hk0
                      clear h1' h2' c1 c2 c1' c2' hk' hp'
                      generalize (wr.alloc (.cells #[.int .i64 t, .int .i64 j] 59)) = W8 at KB8 HVA HST2 ⊢
                      have Bd := hide (Below.refl W8.heap.size W8).drew
                      rcases hbk with hlt' | ⟨heq, hlt'⟩
                      · as_aux_lemma =>
                        -- BEGIN5
                        dsimp only at hlt'
                        have n1 : ¬ (t' : Int) < (t : Int) := by omega
                        have n2 : decide (t' < t) = false := by simp; omega
                        have n3 : ((t' : Int) == (t : Int)) = false := by simp; omega
                        have n4 : (t' == t) = false := by simp; omega
                        have n5 : decide (t' = t) = false := by simp; omega
                        (try dsimp only [List.append])
                        refine wp_region_J (fun W : World => ((W.cell? ⟨g22, 0, none⟩ = some (.int .i64 t) ∧ W.cell? ⟨g22, 1, none⟩ = some (.int .i64 j)) ∧ W.cell? ⟨z, t, none⟩ = some (.slice (some ⟨gb, goff, none⟩) (s.wn t) cc1) ∧ W.cell? ⟨gb, goff + j * 2, none⟩ = some (.int .i64 0)) ∧ W.cell? ⟨fb, foff + k' * 2, none⟩ = some (.int .i64 t') ∧ W.cell? ⟨fb, foff + k' * 2 + 1, none⟩ = some (.int .i64 j')) (by kernel_rfl) ?_
                        generalize W8.drew = wd at Bd ⊢
                        refine wpAnyJ_take 0 (v := ?_) (by first | exact hF | exact wideFn) (HST2.out _ Bd.out) rfl (by kernel_rfl) (by kernel_rfl) (by kernel_rfl) (by kernel_rfl) rfl ?_ (by first | exact fun _ _ _ h => h | exact fun _ _ _ h => hQ2 _ _ _ _ _ h) ?_
                        rotate_left
                        · intro W hSW
                          simp only [List.getElem_toArray, List.getElem_cons_zero, List.getElem_cons_succ]
                          (try dsimp only at hSW)
                          go_simp
                          with_reducible rfl
                        (try simp only [List.getElem_toArray, List.getElem_cons_zero, List.getElem_cons_succ, Act.put, List.setIfInBounds_toArray, List.set_cons_zero, List.set_cons_succ])
                        refine wpAnyJ_take 1 (v := ?_) (by first | exact hF | exact wideFn) (HST2.out _ Bd.out) rfl (by kernel_rfl) (by kernel_rfl) (by kernel_rfl) (by kernel_rfl) rfl ?_ (by first | exact fun _ _ _ h => h | exact fun _ _ _ h => hQ2 _ _ _ _ _ h) ?_
                        rotate_left
                        · intro W hSW
                          simp only [List.getElem_toArray, List.getElem_cons_zero, List.getElem_cons_succ]
                          (try dsimp only at hSW)
                          go_simp
                          with_reducible rfl
                        (try simp only [List.getElem_toArray, List.getElem_cons_zero, List.getElem_cons_succ, Act.put, List.setIfInBounds_toArray, List.set_cons_zero, List.set_cons_succ])
                        refine wpAnyJ_take 2 (v := ?_) (by first | exact hF | exact wideFn) (HST2.out _ Bd.out) rfl (by kernel_rfl) (by kernel_rfl) (by kernel_rfl) (by kernel_rfl) rfl ?_ (by first | exact fun _ _ _ h => h | exact fun _ _ _ h => hQ2 _ _ _ _ _ h) ?_
                        rotate_left
                        · intro W hSW
                          simp only [List.getElem_toArray, List.getElem_cons_zero, List.getElem_cons_succ]
                          (try dsimp only at hSW)
                          go_simp
                          with_reducible rfl
                        (try simp only [List.getElem_toArray, List.getElem_cons_zero, List.getElem_cons_succ, Act.put, List.setIfInBounds_toArray, List.set_cons_zero, List.set_cons_succ])
                        refine wpAnyJ_take 3 (v := ?_) (by first | exact hF | exact wideFn) (HST2.out _ Bd.out) rfl (by kernel_rfl) (by kernel_rfl) (by kernel_rfl) (by kernel_rfl) rfl ?_ (by first | exact fun _ _ _ h => h | exact fun _ _ _ h => hQ2 _ _ _ _ _ h) ?_
                        rotate_left
                        · intro W hSW
                          simp only [List.getElem_toArray, List.getElem_cons_zero, List.getElem_cons_succ]
                          (try dsimp only at hSW)
                          go_simp
                          with_reducible rfl
                        (try simp only [List.getElem_toArray, List.getElem_cons_zero, List.getElem_cons_succ, Act.put, List.setIfInBounds_toArray, List.set_cons_zero, List.set_cons_succ])
                        refine wpAnyJ_take 4 (v := ?_) (by first | exact hF | exact wideFn) (HST2.out _ Bd.out) rfl (by kernel_rfl) (by kernel_rfl) (by kernel_rfl) (by kernel_rfl) rfl ?_ (by first | exact fun _ _ _ h => h | exact fun _ _ _ h => hQ2 _ _ _ _ _ h) ?_
                        rotate_left
                        · intro W hSW
                          simp only [List.getElem_toArray, List.getElem_cons_zero, List.getElem_cons_succ]
                          (try dsimp only at hSW)
                          go_simp
                          with_reducible rfl
                        (try simp only [List.getElem_toArray, List.getElem_cons_zero, List.getElem_cons_succ, Act.put, List.setIfInBounds_toArray, List.set_cons_zero, List.set_cons_succ])
                        refine wpAnyJ_take 5 (v := ?_) (by first | exact hF | exact wideFn) (HST2.out _ Bd.out) rfl (by kernel_rfl) (by kernel_rfl) (by kernel_rfl) (by kernel_rfl) rfl ?_ (by first | exact fun _ _ _ h => h | exact fun _ _ _ h => hQ2 _ _ _ _ _ h) ?_
                        rotate_left
                        · intro W hSW
                          simp only [List.getElem_toArray, List.getElem_cons_zero, List.getElem_cons_succ]
                          (try dsimp only at hSW)
                          go_simp
                          with_reducible rfl
                        (try simp only [List.getElem_toArray, List.getElem_cons_zero, List.getElem_cons_succ, Act.put, List.setIfInBounds_toArray, List.set_cons_zero, List.set_cons_succ])
                        refine wpAnyJ_take 6 (v := ?_) (by first | exact hF | exact wideFn) (HST2.out _ Bd.out) rfl (by kernel_rfl) (by kernel_rfl) (by kernel_rfl) (by kernel_rfl) rfl ?_ (by first | exact fun _ _ _ h => h | exact fun _ _ _ h => hQ2 _ _ _ _ _ h) ?_
                        rotate_left
                        · intro W hSW
                          simp only [List.getElem_toArray, List.getElem_cons_zero, List.getElem_cons_succ]
                          (try dsimp only at hSW)
                          go_simp
                          with_reducible rfl
                        (try simp only [List.getElem_toArray, List.getElem_cons_zero, List.getElem_cons_succ, Act.put, List.setIfInBounds_toArray, List.set_cons_zero, List.set_cons_succ])
                        refine wpAnyJ_take 7 (v := ?_) (by first | exact hF | exact wideFn) (HST2.out _ Bd.out) rfl (by kernel_rfl) (by kernel_rfl) (by kernel_rfl) (by kernel_rfl) rfl ?_ (by first | exact fun _ _ _ h => h | exact fun _ _ _ h => hQ2 _ _ _ _ _ h) ?_
                        rotate_left
                        · intro W hSW
                          simp only [List.getElem_toArray, List.getElem_cons_zero, List.getElem_cons_succ]
                          (try dsimp only at hSW)
                          go_simp
                          with_reducible rfl
                        (try simp only [List.getElem_toArray, List.getElem_cons_zero, List.getElem_cons_succ, Act.put, List.setIfInBounds_toArray, List.set_cons_zero, List.set_cons_succ])
                        refine wpAnyJ_take 8 (v := ?_) (by first | exact hF | exact wideFn) (HST2.out _ Bd.out) rfl (by kernel_rfl) (by kernel_rfl) (by kernel_rfl) (by kernel_rfl) rfl ?_ (by first | exact fun _ _ _ h => h | exact fun _ _ _ h => hQ2 _ _ _ _ _ h) ?_
                        rotate_left
                        · intro W hSW
                          simp only [List.getElem_toArray, List.getElem_cons_zero, List.getElem_cons_succ]
                          (try dsimp only at hSW)
                          go_simp
                          with_reducible rfl
                        (try simp only [List.getElem_toArray, List.getElem_cons_zero, List.getElem_cons_succ, Act.put, List.setIfInBounds_toArray, List.set_cons_zero, List.set_cons_succ])
                        refine wpAnyJ_take 9 (v := ?_) (by first | exact hF | exact wideFn) (HST2.out _ Bd.out) rfl (by kernel_rfl) (by kernel_rfl) (by kernel_rfl) (by kernel_rfl) rfl ?_ (by first | exact fun _ _ _ h => h | exact fun _ _ _ h => hQ2 _ _ _ _ _ h) ?_
                        rotate_left
                        · intro W hSW
                          simp only [List.getElem_toArray, List.getElem_cons_zero, List.getElem_cons_succ]
                          (try dsimp only at hSW)
                          go_simp
                          with_reducible rfl
                        (try simp only [List.getElem_toArray, List.getElem_cons_zero, List.getElem_cons_succ, Act.put, List.setIfInBounds_toArray, List.set_cons_zero, List.set_cons_succ])
                        refine wpAnyJ_take 10 (v := ?_) (by first | exact hF | exact wideFn) (HST2.out _ Bd.out) rfl (by kernel_rfl) (by kernel_rfl) (by kernel_rfl) (by kernel_rfl) rfl ?_ (by first | exact fun _ _ _ h => h | exact fun _ _ _ h => hQ2 _ _ _ _ _ h) ?_
                        rotate_left
                        · intro W hSW
                          simp only [List.getElem_toArray, List.getElem_cons_zero, List.getElem_cons_succ]
                          (try dsimp only at hSW)
                          go_simp
                          with_reducible rfl
                        (try simp only [List.getElem_toArray, List.getElem_cons_zero, List.getElem_cons_succ, Act.put, List.setIfInBounds_toArray, List.set_cons_zero, List.set_cons_succ])
                        refine wpAnyJ_take 11 (v := ?_) (by first | exact hF | exact wideFn) (HST2.out _ Bd.out) rfl (by kernel_rfl) (by kernel_rfl) (by kernel_rfl) (by kernel_rfl) rfl ?_ (by first | exact fun _ _ _ h => h | exact fun _ _ _ h => hQ2 _ _ _ _ _ h) ?_
                        rotate_left
                        · intro W hSW
                          simp only [List.getElem_toArray, List.getElem_cons_zero, List.getElem_cons_succ]
                          (try dsimp only at hSW)
                          go_simp
                          with_reducible rfl
                        (try simp only [List.getElem_toArray, List.getElem_cons_zero, List.getElem_cons_succ, Act.put, List.setIfInBounds_toArray, List.set_cons_zero, List.set_cons_succ])
                        refine wpAnyJ_take 12 (v := ?_) (by first | exact hF | exact wideFn) (HST2.out _ Bd.out) rfl (by kernel_rfl) (by kernel_rfl) (by kernel_rfl) (by kernel_rfl) rfl ?_ (by first | exact fun _ _ _ h => h | exact fun _ _ _ h => hQ2 _ _ _ _ _ h) ?_
                        rotate_left
                        · intro W hSW
                          simp only [List.getElem_toArray, List.getElem_cons_zero, List.getElem_cons_succ]
                          (try dsimp only at hSW)
                          go_simp
                          with_reducible rfl
                        (try simp only [List.getElem_toArray, List.getElem_cons_zero, List.getElem_cons_succ, Act.put, List.setIfInBounds_toArray, List.set_cons_zero, List.set_cons_succ])
                        refine wpAnyJ_take 13 (v := ?_) (by first | exact hF | exact wideFn) (HST2.out _ Bd.out) rfl (by kernel_rfl) (by kernel_rfl) (by kernel_rfl) (by kernel_rfl) rfl ?_ (by first | exact fun _ _ _ h => h | exact fun _ _ _ h => hQ2 _ _ _ _ _ h) ?_
                        rotate_left
                        · intro W hSW
                          simp only [List.getElem_toArray, List.getElem_cons_zero, List.getElem_cons_succ]
                          (try dsimp only at hSW)
                          go_simp
                          with_reducible rfl
                        (try simp only [List.getElem_toArray, List.getElem_cons_zero, List.getElem_cons_succ, Act.put, List.setIfInBounds_toArray, List.set_cons_zero, List.set_cons_succ])
                        refine wpAnyJ_take 14 (v := ?_) (by first | exact hF | exact wideFn) (HST2.out _ Bd.out) rfl (by kernel_rfl) (by kernel_rfl) (by kernel_rfl) (by kernel_rfl) rfl ?_ (by first | exact fun _ _ _ h => h | exact fun _ _ _ h => hQ2 _ _ _ _ _ h) ?_
                        rotate_left
                        · intro W hSW
                          simp only [List.getElem_toArray, List.getElem_cons_zero, List.getElem_cons_succ]
                          (try dsimp only at hSW)
                          go_simp
                          with_reducible rfl
                        (try simp only [List.getElem_toArray, List.getElem_cons_zero, List.getElem_cons_succ, Act.put, List.setIfInBounds_toArray, List.set_cons_zero, List.set_cons_succ])
                        refine wpAnyJ_take 15 (v := ?_) (by first | exact hF | exact wideFn) (HST2.out _ Bd.out) rfl (by kernel_rfl) (by kernel_rfl) (by kernel_rfl) (by kernel_rfl) rfl ?_ (by first | exact fun _ _ _ h => h | exact fun _ _ _ h => hQ2 _ _ _ _ _ h) ?_
                        rotate_left
                        · intro W hSW
                          simp only [List.getElem_toArray, List.getElem_cons_zero, List.getElem_cons_succ]
                          (try dsimp only at hSW)
                          go_simp
                          with_reducible rfl
                        (try simp only [List.getElem_toArray, List.getElem_cons_zero, List.getElem_cons_succ, Act.put, List.setIfInBounds_toArray, List.set_cons_zero, List.set_cons_succ])
                        refine wpAnyJ_take 16 (v := ?_) (by first | exact hF | exact wideFn) (HST2.out _ Bd.out) rfl (by kernel_rfl) (by kernel_rfl) (by kernel_rfl) (by kernel_rfl) rfl ?_ (by first | exact fun _ _ _ h => h | exact fun _ _ _ h => hQ2 _ _ _ _ _ h) ?_
                        rotate_left
                        · intro W hSW
                          simp only [List.getElem_toArray, List.getElem_cons_zero, List.getElem_cons_succ]
                          (try dsimp only at hSW)
                          go_simp
                          with_reducible rfl
                        (try simp only [List.getElem_toArray, List.getElem_cons_zero, List.getElem_cons_succ, Act.put, List.setIfInBounds_toArray, List.set_cons_zero, List.set_cons_succ])
                        refine wpAnyJ_take 17 (v := ?_) (by first | exact hF | exact wideFn) (HST2.out _ Bd.out) rfl (by kernel_rfl) (by kernel_rfl) (by kernel_rfl) (by kernel_rfl) rfl ?_ (by first | exact fun _ _ _ h => h | exact fun _ _ _ h => hQ2 _ _ _ _ _ h) ?_
                        rotate_left
                        · intro W hSW
                          simp only [List.getElem_toArray, List.getElem_cons_zero, List.getElem_cons_succ]
                          (try dsimp only at hSW)
                          go_simp
                          with_reducible rfl
                        (try simp only [List.getElem_toArray, List.getElem_cons_zero, List.getElem_cons_succ, Act.put, List.setIfInBounds_toArray, List.set_cons_zero, List.set_cons_succ])
                        refine wpAnyJ_take 18 (v := ?_) (by first | exact hF | exact wideFn) (HST2.out _ Bd.out) rfl (by kernel_rfl) (by kernel_rfl) (by kernel_rfl) (by kernel_rfl) rfl ?_ (by first | exact fun _ _ _ h => h | exact fun _ _ _ h => hQ2 _ _ _ _ _ h) ?_
                        rotate_left
                        · intro W hSW
                          simp only [List.getElem_toArray, List.getElem_cons_zero, List.getElem_cons_succ]
                          (try dsimp only at hSW)
                          go_simp
                          with_reducible rfl
                        (try simp only [List.getElem_toArray, List.getElem_cons_zero, List.getElem_cons_succ, Act.put, List.setIfInBounds_toArray, List.set_cons_zero, List.set_cons_succ])
                        refine wpAnyJ_take 19 (v := ?_) (by first | exact hF | exact wideFn) (HST2.out _ Bd.out) rfl (by kernel_rfl) (by kernel_rfl) (by kernel_rfl) (by kernel_rfl) rfl ?_ (by first | exact fun _ _ _ h => h | exact fun _ _ _ h => hQ2 _ _ _ _ _ h) ?_
                        rotate_left
                        · intro W hSW
                          simp only [List.getElem_toArray, List.getElem_cons_zero, List.getElem_cons_succ]
                          (try dsimp only at hSW)
                          go_simp
                          with_reducible rfl
                        (try simp only [List.getElem_toArray, List.getElem_cons_zero, List.getElem_cons_succ, Act.put, List.setIfInBounds_toArray, List.set_cons_zero, List.set_cons_succ])
                        refine wpAnyJ_take 20 (v := ?_) (by first | exact hF | exact wideFn) (HST2.out _ Bd.out) rfl (by kernel_rfl) (by kernel_rfl) (by kernel_rfl) (by kernel_rfl) rfl ?_ (by first | exact fun _ _ _ h => h | exact fun _ _ _ h => hQ2 _ _ _ _ _ h) ?_
                        rotate_left
                        · intro W hSW
                          simp only [List.getElem_toArray, List.getElem_cons_zero, List.getElem_cons_succ]
                          (try dsimp only at hSW)
                          go_simp
                          with_reducible rfl
                        (try simp only [List.getElem_toArray, List.getElem_cons_zero, List.getElem_cons_succ, Act.put, List.setIfInBounds_toArray, List.set_cons_zero, List.set_cons_succ])
                        refine wpAnyJ_take 21 (v := ?_) (by first | exact hF | exact wideFn) (HST2.out _ Bd.out) rfl (by kernel_rfl) (by kernel_rfl) (by kernel_rfl) (by kernel_rfl) rfl ?_ (by first | exact fun _ _ _ h => h | exact fun _ _ _ h => hQ2 _ _ _ _ _ h) ?_
                        rotate_left
                        · intro W hSW
                          simp only [List.getElem_toArray, List.getElem_cons_zero, List.getElem_cons_succ]
                          (try dsimp only at hSW)
                          go_simp
                          with_reducible rfl
                        (try simp only [List.getElem_toArray, List.getElem_cons_zero, List.getElem_cons_succ, Act.put, List.setIfInBounds_toArray, List.set_cons_zero, List.set_cons_succ])
                        refine wpAnyJ_take 22 (v := ?_) (by first | exact hF | exact wideFn) (HST2.out _ Bd.out) rfl (by kernel_rfl) (by kernel_rfl) (by kernel_rfl) (by kernel_rfl) rfl ?_ (by first | exact fun _ _ _ h => h | exact fun _ _ _ h => hQ2 _ _ _ _ _ h) ?_
                        rotate_left
                        · intro W hSW
                          simp only [List.getElem_toArray, List.getElem_cons_zero, List.getElem_cons_succ]
                          (try dsimp only at hSW)
                          go_simp
                          with_reducible rfl
                        (try simp only [List.getElem_toArray, List.getElem_cons_zero, List.getElem_cons_succ, Act.put, List.setIfInBounds_toArray, List.set_cons_zero, List.set_cons_succ])
                        refine wpAnyJ_take 23 (v := ?_) (by first | exact hF | exact wideFn) (HST2.out _ Bd.out) rfl (by kernel_rfl) (by kernel_rfl) (by kernel_rfl) (by kernel_rfl) rfl ?_ (by first | exact fun _ _ _ h => h | exact fun _ _ _ h => hQ2 _ _ _ _ _ h) ?_
                        rotate_left
                        · intro W hSW
                          simp only [List.getElem_toArray, List.getElem_cons_zero, List.getElem_cons_succ]
                          (try dsimp only at hSW)
                          go_simp
                          with_reducible rfl
                        (try simp only [List.getElem_toArray, List.getElem_cons_zero, List.getElem_cons_succ, Act.put, List.setIfInBounds_toArray, List.set_cons_zero, List.set_cons_succ])
                        refine wpAnyJ_take 24 (v := ?_) (by first | exact hF | exact wideFn) (HST2.out _ Bd.out) rfl (by kernel_rfl) (by kernel_rfl) (by kernel_rfl) (by kernel_rfl) rfl ?_ (by first | exact fun _ _ _ h => h | exact fun _ _ _ h => hQ2 _ _ _ _ _ h) ?_
                        rotate_left
                        · intro W hSW
                          simp only [List.getElem_toArray, List.getElem_cons_zero, List.getElem_cons_succ]
                          (try dsimp only at hSW)
                          go_simp
                          with_reducible rfl
                        (try simp only [List.getElem_toArray, List.getElem_cons_zero, List.getElem_cons_succ, Act.put, List.setIfInBounds_toArray, List.set_cons_zero, List.set_cons_succ])
                        refine wpAnyJ_take 25 (v := ?_) (by first | exact hF | exact wideFn) (HST2.out _ Bd.out) rfl (by kernel_rfl) (by kernel_rfl) (by kernel_rfl) (by kernel_rfl) rfl ?_ (by first | exact fun _ _ _ h => h | exact fun _ _ _ h => hQ2 _ _ _ _ _ h) ?_
                        rotate_left
                        · intro W hSW
                          simp only [List.getElem_toArray, List.getElem_cons_zero, List.getElem_cons_succ]
                          (try dsimp only at hSW)
                          go_simp
                          with_reducible rfl
                        (try simp only [List.getElem_toArray, List.getElem_cons_zero, List.getElem_cons_succ, Act.put, List.setIfInBounds_toArray, List.set_cons_zero, List.set_cons_succ])
                        refine wpAnyJ_take 26 (v := ?_) (by first | exact hF | exact wideFn) (HST2.out _ Bd.out) rfl (by kernel_rfl) (by kernel_rfl) (by kernel_rfl) (by kernel_rfl) rfl ?_ (by first | exact fun _ _ _ h => h | exact fun _ _ _ h => hQ2 _ _ _ _ _ h) ?_
                        rotate_left
                        · intro W hSW
                          simp only [List.getElem_toArray, List.getElem_cons_zero, List.getElem_cons_succ]
                          (try dsimp only at hSW)
                          go_simp
                          with_reducible rfl
                        (try simp only [List.getElem_toArray, List.getElem_cons_zero, List.getElem_cons_succ, Act.put, List.setIfInBounds_toArray, List.set_cons_zero, List.set_cons_succ])
                        refine wpAnyJ_take 27 (v := ?_) (by first | exact hF | exact wideFn) (HST2.out _ Bd.out) rfl (by kernel_rfl) (by kernel_rfl) (by kernel_rfl) (by kernel_rfl) rfl ?_ (by first | exact fun _ _ _ h => h | exact fun _ _ _ h => hQ2 _ _ _ _ _ h) ?_
                        rotate_left
                        · intro W hSW
                          simp only [List.getElem_toArray, List.getElem_cons_zero, List.getElem_cons_succ]
                          (try dsimp only at hSW)
                          go_simp
                          with_reducible rfl
                        (try simp only [List.getElem_toArray, List.getElem_cons_zero, List.getElem_cons_succ, Act.put, List.setIfInBounds_toArray, List.set_cons_zero, List.set_cons_succ])
                        refine wpAnyJ_take 28 (v := ?_) (by first | exact hF | exact wideFn) (HST2.out _ Bd.out) rfl (by kernel_rfl) (by kernel_rfl) (by kernel_rfl) (by kernel_rfl) rfl ?_ (by first | exact fun _ _ _ h => h | exact fun _ _ _ h => hQ2 _ _ _ _ _ h) ?_
                        rotate_left
                        · intro W hSW
                          simp only [List.getElem_toArray, List.getElem_cons_zero, List.getElem_cons_succ]
                          (try dsimp only at hSW)
                          go_simp
                          with_reducible rfl
                        (try simp only [List.getElem_toArray, List.getElem_cons_zero, List.getElem_cons_succ, Act.put, List.setIfInBounds_toArray, List.set_cons_zero, List.set_cons_succ])
                        refine wpAnyJ_take 29 (v := ?_) (by first | exact hF | exact wideFn) (HST2.out _ Bd.out) rfl (by kernel_rfl) (by kernel_rfl) (by kernel_rfl) (by kernel_rfl) rfl ?_ (by first | exact fun _ _ _ h => h | exact fun _ _ _ h => hQ2 _ _ _ _ _ h) ?_
                        rotate_left
                        · intro W hSW
                          simp only [List.getElem_toArray, List.getElem_cons_zero, List.getElem_cons_succ]
                          (try dsimp only at hSW)
                          go_simp
                          with_reducible rfl
                        (try simp only [List.getElem_toArray, List.getElem_cons_zero, List.getElem_cons_succ, Act.put, List.setIfInBounds_toArray, List.set_cons_zero, List.set_cons_succ])
                        refine wpAnyJ_take 30 (v := ?_) (by first | exact hF | exact wideFn) (HST2.out _ Bd.out) rfl (by kernel_rfl) (by kernel_rfl) (by kernel_rfl) (by kernel_rfl) rfl ?_ (by first | exact fun _ _ _ h => h | exact fun _ _ _ h => hQ2 _ _ _ _ _ h) ?_
                        rotate_left
                        · intro W hSW
                          simp only [List.getElem_toArray, List.getElem_cons_zero, List.getElem_cons_succ]
                          (try dsimp only at hSW)
                          go_simp
                          with_reducible rfl
                        (try simp only [List.getElem_toArray, List.getElem_cons_zero, List.getElem_cons_succ, Act.put, List.setIfInBounds_toArray, List.set_cons_zero, List.set_cons_succ])
                        refine wpAnyJ_take 31 (v := ?_) (by first | exact hF | exact wideFn) (HST2.out _ Bd.out) rfl (by kernel_rfl) (by kernel_rfl) (by kernel_rfl) (by kernel_rfl) rfl ?_ (by first | exact fun _ _ _ h => h | exact fun _ _ _ h => hQ2 _ _ _ _ _ h) ?_
                        rotate_left
                        · intro W hSW
                          simp only [List.getElem_toArray, List.getElem_cons_zero, List.getElem_cons_succ]
                          (try dsimp only at hSW)
                          go_simp
                          with_reducible rfl
                        (try simp only [List.getElem_toArray, List.getElem_cons_zero, List.getElem_cons_succ, Act.put, List.setIfInBounds_toArray, List.set_cons_zero, List.set_cons_succ])
                        refine wpAnyJ_take 32 (v := ?_) (by first | exact hF | exact wideFn) (HST2.out _ Bd.out) rfl (by kernel_rfl) (by kernel_rfl) (by kernel_rfl) (by kernel_rfl) rfl ?_ (by first | exact fun _ _ _ h => h | exact fun _ _ _ h => hQ2 _ _ _ _ _ h) ?_
                        rotate_left
                        · intro W hSW
                          simp only [List.getElem_toArray, List.getElem_cons_zero, List.getElem_cons_succ]
                          (try dsimp only at hSW)
                          go_simp
                          with_reducible rfl
                        (try simp only [List.getElem_toArray, List.getElem_cons_zero, List.getElem_cons_succ, Act.put, List.setIfInBounds_toArray, List.set_cons_zero, List.set_cons_succ])
                        refine wpAnyJ_take 33 (v := ?_) (by first | exact hF | exact wideFn) (HST2.out _ Bd.out) rfl (by kernel_rfl) (by kernel_rfl) (by kernel_rfl) (by kernel_rfl) rfl ?_ (by first | exact fun _ _ _ h => h | exact fun _ _ _ h => hQ2 _ _ _ _ _ h) ?_
                        rotate_left
                        · intro W hSW
                          simp only [List.getElem_toArray, List.getElem_cons_zero, List.getElem_cons_succ]
                          (try dsimp only at hSW)
                          go_simp
                          with_reducible rfl
                        (try simp only [List.getElem_toArray, List.getElem_cons_zero, List.getElem_cons_succ, Act.put, List.setIfInBounds_toArray, List.set_cons_zero, List.set_cons_succ])
                        refine wpAnyJ_take 34 (v := ?_) (by first | exact hF | exact wideFn) (HST2.out _ Bd.out) rfl (by kernel_rfl) (by kernel_rfl) (by kernel_rfl) (by kernel_rfl) rfl ?_ (by first | exact fun _ _ _ h => h | exact fun _ _ _ h => hQ2 _ _ _ _ _ h) ?_
                        rotate_left
                        · intro W hSW
                          simp only [List.getElem_toArray, List.getElem_cons_zero, List.getElem_cons_succ]
                          (try dsimp only at hSW)
                          go_simp
                          with_reducible rfl
                        (try simp only [List.getElem_toArray, List.getElem_cons_zero, List.getElem_cons_succ, Act.put, List.setIfInBounds_toArray, List.set_cons_zero, List.set_cons_succ])
                        refine wpAnyJ_take 35 (v := ?_) (by first | exact hF | exact wideFn) (HST2.out _ Bd.out) rfl (by kernel_rfl) (by kernel_rfl) (by kernel_rfl) (by kernel_rfl) rfl ?_ (by first | exact fun _ _ _ h => h | exact fun _ _ _ h => hQ2 _ _ _ _ _ h) ?_
                        rotate_left
                        · intro W hSW
                          simp only [List.getElem_toArray, List.getElem_cons_zero, List.getElem_cons_succ]
                          (try dsimp only at hSW)
                          go_simp
                          with_reducible rfl
                        (try simp only [List.getElem_toArray, List.getElem_cons_zero, List.getElem_cons_succ, Act.put, List.setIfInBounds_toArray, List.set_cons_zero, List.set_cons_succ])
                        refine wpAnyJ_take 36 (v := ?_) (by first | exact hF | exact wideFn) (HST2.out _ Bd.out) rfl (by kernel_rfl) (by kernel_rfl) (by kernel_rfl) (by kernel_rfl) rfl ?_ (by first | exact fun _ _ _ h => h | exact fun _ _ _ h => hQ2 _ _ _ _ _ h) ?_
                        rotate_left
                        · intro W hSW
                          simp only [List.getElem_toArray, List.getElem_cons_zero, List.getElem_cons_succ]
                          (try dsimp only at hSW)
                          go_simp
                          with_reducible rfl
                        (try simp only [List.getElem_toArray, List.getElem_cons_zero, List.getElem_cons_succ, Act.put, List.setIfInBounds_toArray, List.set_cons_zero, List.set_cons_succ])
                        refine wpAnyJ_take 37 (v := ?_) (by first | exact hF | exact wideFn) (HST2.out _ Bd.out) rfl (by kernel_rfl) (by kernel_rfl) (by kernel_rfl) (by kernel_rfl) rfl ?_ (by first | exact fun _ _ _ h => h | exact fun _ _ _ h => hQ2 _ _ _ _ _ h) ?_
                        rotate_left
                        · intro W hSW
                          simp only [List.getElem_toArray, List.getElem_cons_zero, List.getElem_cons_succ]
                          (try dsimp only at hSW)
                          go_simp
                          with_reducible rfl
                        (try simp only [List.getElem_toArray, List.getElem_cons_zero, List.getElem_cons_succ, Act.put, List.setIfInBounds_toArray, List.set_cons_zero, List.set_cons_succ])
                        refine wpAnyJ_take 38 (v := ?_) (by first | exact hF | exact wideFn) (HST2.out _ Bd.out) rfl (by kernel_rfl) (by kernel_rfl) (by kernel_rfl) (by kernel_rfl) rfl ?_ (by first | exact fun _ _ _ h => h | exact fun _ _ _ h => hQ2 _ _ _ _ _ h) ?_
                        rotate_left
                        · intro W hSW
                          simp only [List.getElem_toArray, List.getElem_cons_zero, List.getElem_cons_succ]
                          (try dsimp only at hSW)
                          go_simp
                          with_reducible rfl
                        (try simp only [List.getElem_toArray, List.getElem_cons_zero, List.getElem_cons_succ, Act.put, List.setIfInBounds_toArray, List.set_cons_zero, List.set_cons_succ])
                        refine wpAnyJ_take 39 (v := ?_) (by first | exact hF | exact wideFn) (HST2.out _ Bd.out) rfl (by kernel_rfl) (by kernel_rfl) (by kernel_rfl) (by kernel_rfl) rfl ?_ (by first | exact fun _ _ _ h => h | exact fun _ _ _ h => hQ2 _ _ _ _ _ h) ?_
                        rotate_left
                        · intro W hSW
                          simp only [List.getElem_toArray, List.getElem_cons_zero, List.getElem_cons_succ]
                          (try dsimp only at hSW)
                          go_simp
                          with_reducible rfl
                        (try simp only [List.getElem_toArray, List.getElem_cons_zero, List.getElem_cons_succ, Act.put, List.setIfInBounds_toArray, List.set_cons_zero, List.set_cons_succ])
                        refine wpAnyJ_take 40 (v := ?_) (by first | exact hF | exact wideFn) (HST2.out _ Bd.out) rfl (by kernel_rfl) (by kernel_rfl) (by kernel_rfl) (by kernel_rfl) rfl ?_ (by first | exact fun _ _ _ h => h | exact fun _ _ _ h => hQ2 _ _ _ _ _ h) ?_
                        rotate_left
                        · intro W hSW
                          simp only [List.getElem_toArray, List.getElem_cons_zero, List.getElem_cons_succ]
                          (try dsimp only at hSW)
                          go_simp
                          with_reducible rfl
                        (try simp only [List.getElem_toArray, List.getElem_cons_zero, List.getElem_cons_succ, Act.put, List.setIfInBounds_toArray, List.set_cons_zero, List.set_cons_succ])
                        refine wpAnyJ_take 41 (v := ?_) (by first | exact hF | exact wideFn) (HST2.out _ Bd.out) rfl (by kernel_rfl) (by kernel_rfl) (by kernel_rfl) (by kernel_rfl) rfl ?_ (by first | exact fun _ _ _ h => h | exact fun _ _ _ h => hQ2 _ _ _ _ _ h) ?_
                        rotate_left
                        · intro W hSW
                          simp only [List.getElem_toArray, List.getElem_cons_zero, List.getElem_cons_succ]
                          (try dsimp only at hSW)
                          go_simp
                          with_reducible rfl
                        (try simp only [List.getElem_toArray, List.getElem_cons_zero, List.getElem_cons_succ, Act.put, List.setIfInBounds_toArray, List.set_cons_zero, List.set_cons_succ])
                        refine wpAnyJ_take 42 (v := ?_) (by first | exact hF | exact wideFn) (HST2.out _ Bd.out) rfl (by kernel_rfl) (by kernel_rfl) (by kernel_rfl) (by kernel_rfl) rfl ?_ (by first | exact fun _ _ _ h => h | exact fun _ _ _ h => hQ2 _ _ _ _ _ h) ?_
                        rotate_left
                        · intro W hSW
                          simp only [List.getElem_toArray, List.getElem_cons_zero, List.getElem_cons_succ]
                          (try dsimp only at hSW)
                          go_simp
                          with_reducible rfl
                        (try simp only [List.getElem_toArray, List.getElem_cons_zero, List.getElem_cons_succ, Act.put, List.setIfInBounds_toArray, List.set_cons_zero, List.set_cons_succ])
                        refine wpAnyJ_take 43 (v := ?_) (by first | exact hF | exact wideFn) (HST2.out _ Bd.out) rfl (by kernel_rfl) (by kernel_rfl) (by kernel_rfl) (by kernel_rfl) rfl ?_ (by first | exact fun _ _ _ h => h | exact fun _ _ _ h => hQ2 _ _ _ _ _ h) ?_
                        rotate_left
                        · intro W hSW
                          simp only [List.getElem_toArray, List.getElem_cons_zero, List.getElem_cons_succ]
                          (try dsimp only at hSW)
                          go_simp
                          with_reducible rfl
                        (try simp only [List.getElem_toArray, List.getElem_cons_zero, List.getElem_cons_succ, Act.put, List.setIfInBounds_toArray, List.set_cons_zero, List.set_cons_succ])
                        refine wpAnyJ_take 44 (v := ?_) (by first | exact hF | exact wideFn) (HST2.out _ Bd.out) rfl (by kernel_rfl) (by kernel_rfl) (by kernel_rfl) (by kernel_rfl) rfl ?_ (by first | exact fun _ _ _ h => h | exact fun _ _ _ h => hQ2 _ _ _ _ _ h) ?_
                        rotate_left
                        · intro W hSW
                          simp only [List.getElem_toArray, List.getElem_cons_zero, List.getElem_cons_succ]
                          (try dsimp only at hSW)
                          go_simp
                          with_reducible rfl
                        (try simp only [List.getElem_toArray, List.getElem_cons_zero, List.getElem_cons_succ, Act.put, List.setIfInBounds_toArray, List.set_cons_zero, List.set_cons_succ])
                        refine wpAnyJ_take 45 (v := ?_) (by first | exact hF | exact wideFn) (HST2.out _ Bd.out) rfl (by kernel_rfl) (by kernel_rfl) (by kernel_rfl) (by kernel_rfl) rfl ?_ (by first | exact fun _ _ _ h => h | exact fun _ _ _ h => hQ2 _ _ _ _ _ h) ?_
                        rotate_left
                        · intro W hSW
                          simp only [List.getElem_toArray, List.getElem_cons_zero, List.getElem_cons_succ]
                          (try dsimp only at hSW)
                          go_simp
                          with_reducible rfl
                        (try simp only [List.getElem_toArray, List.getElem_cons_zero, List.getElem_cons_succ, Act.put, List.setIfInBounds_toArray, List.set_cons_zero, List.set_cons_succ])
                        refine wpAnyJ_take 46 (v := ?_) (by first | exact hF | exact wideFn) (HST2.out _ Bd.out) rfl (by kernel_rfl) (by kernel_rfl) (by kernel_rfl) (by kernel_rfl) rfl ?_ (by first | exact fun _ _ _ h => h | exact fun _ _ _ h => hQ2 _ _ _ _ _ h) ?_
                        rotate_left
                        · intro W hSW
                          simp only [List.getElem_toArray, List.getElem_cons_zero, List.getElem_cons_succ]
                          (try dsimp only at hSW)
                          go_simp
                          with_reducible rfl
                        (try simp only [List.getElem_toArray, List.getElem_cons_zero, List.getElem_cons_succ, Act.put, List.setIfInBounds_toArray, List.set_cons_zero, List.set_cons_succ])
                        refine wpAnyJ_take 47 (v := ?_) (by first | exact hF | exact wideFn) (HST2.out _ Bd.out) rfl (by kernel_rfl) (by kernel_rfl) (by kernel_rfl) (by kernel_rfl) rfl ?_ (by first | exact fun _ _ _ h => h | exact fun _ _ _ h => hQ2 _ _ _ _ _ h) ?_
                        rotate_left
                        · intro W hSW
                          simp only [List.getElem_toArray, List.getElem_cons_zero, List.getElem_cons_succ]
                          (try dsimp only at hSW)
                          go_simp
                          with_reducible rfl
                        (try simp only [List.getElem_toArray, List.getElem_cons_zero, List.getElem_cons_succ, Act.put, List.setIfInBounds_toArray, List.set_cons_zero, List.set_cons_succ])
                        refine wpAnyJ_take 48 (v := ?_) (by first | exact hF | exact wideFn) (HST2.out _ Bd.out) rfl (by kernel_rfl) (by kernel_rfl) (by kernel_rfl) (by kernel_rfl) rfl ?_ (by first | exact fun _ _ _ h => h | exact fun _ _ _ h => hQ2 _ _ _ _ _ h) ?_
                        rotate_left
                        · intro W hSW
                          simp only [List.getElem_toArray, List.getElem_cons_zero, List.getElem_cons_succ]
                          (try dsimp only at hSW)
                          go_simp
                          with_reducible rfl
                        (try simp only [List.getElem_toArray, List.getElem_cons_zero, List.getElem_cons_succ, Act.put, List.setIfInBounds_toArray, List.set_cons_zero, List.set_cons_succ])
                        refine wpAnyJ_take 49 (v := ?_) (by first | exact hF | exact wideFn) (HST2.out _ Bd.out) rfl (by kernel_rfl) (by kernel_rfl) (by kernel_rfl) (by kernel_rfl) rfl ?_ (by first | exact fun _ _ _ h => h | exact fun _ _ _ h => hQ2 _ _ _ _ _ h) ?_
                        rotate_left
                        · intro W hSW
                          simp only [List.getElem_toArray, List.getElem_cons_zero, List.getElem_cons_succ]
                          (try dsimp only at hSW)
                          go_simp
                          with_reducible rfl
                        (try simp only [List.getElem_toArray, List.getElem_cons_zero, List.getElem_cons_succ, Act.put, List.setIfInBounds_toArray, List.set_cons_zero, List.set_cons_succ])
                        refine wpAnyJ_take 50 (v := ?_) (by first | exact hF | exact wideFn) (HST2.out _ Bd.out) rfl (by kernel_rfl) (by kernel_rfl) (by kernel_rfl) (by kernel_rfl) rfl ?_ (by first | exact fun _ _ _ h => h | exact fun _ _ _ h => hQ2 _ _ _ _ _ h) ?_
                        rotate_left
                        · intro W hSW
                          simp only [List.getElem_toArray, List.getElem_cons_zero, List.getElem_cons_succ]
                          (try dsimp only at hSW)
                          go_simp
                          with_reducible rfl
                        (try simp only [List.getElem_toArray, List.getElem_cons_zero, List.getElem_cons_succ, Act.put, List.setIfInBounds_toArray, List.set_cons_zero, List.set_cons_succ])
                        refine wpAnyJ_take 51 (v := ?_) (by first | exact hF | exact wideFn) (HST2.out _ Bd.out) rfl (by kernel_rfl) (by kernel_rfl) (by kernel_rfl) (by kernel_rfl) rfl ?_ (by first | exact fun _ _ _ h => h | exact fun _ _ _ h => hQ2 _ _ _ _ _ h) ?_
                        rotate_left
                        · intro W hSW
                          simp only [List.getElem_toArray, List.getElem_cons_zero, List.getElem_cons_succ]
                          (try dsimp only at hSW)
                          go_simp
                          with_reducible rfl
                        (try simp only [List.getElem_toArray, List.getElem_cons_zero, List.getElem_cons_succ, Act.put, List.setIfInBounds_toArray, List.set_cons_zero, List.set_cons_succ])
                        refine wpAnyJ_take 52 (v := ?_) (by first | exact hF | exact wideFn) (HST2.out _ Bd.out) rfl (by kernel_rfl) (by kernel_rfl) (by kernel_rfl) (by kernel_rfl) rfl ?_ (by first | exact fun _ _ _ h => h | exact fun _ _ _ h => hQ2 _ _ _ _ _ h) ?_
                        rotate_left
                        · intro W hSW
                          simp only [List.getElem_toArray, List.getElem_cons_zero, List.getElem_cons_succ]
                          (try dsimp only at hSW)
                          go_simp
                          with_reducible rfl
                        (try simp only [List.getElem_toArray, List.getElem_cons_zero, List.getElem_cons_succ, Act.put, List.setIfInBounds_toArray, List.set_cons_zero, List.set_cons_succ])
                        refine wpAnyJ_take 53 (v := ?_) (by first | exact hF | exact wideFn) (HST2.out _ Bd.out) rfl (by kernel_rfl) (by kernel_rfl) (by kernel_rfl) (by kernel_rfl) rfl ?_ (by first | exact fun _ _ _ h => h | exact fun _ _ _ h => hQ2 _ _ _ _ _ h) ?_
                        rotate_left
                        · intro W hSW
                          simp only [List.getElem_toArray, List.getElem_cons_zero, List.getElem_cons_succ]
                          (try dsimp only at hSW)
                          go_simp
                          with_reducible rfl
                        (try simp only [List.getElem_toArray, List.getElem_cons_zero, List.getElem_cons_succ, Act.put, List.setIfInBounds_toArray, List.set_cons_zero, List.set_cons_succ])
                        refine wpAnyJ_take 54 (v := ?_) (by first | exact hF | exact wideFn) (HST2.out _ Bd.out) rfl (by kernel_rfl) (by kernel_rfl) (by kernel_rfl) (by kernel_rfl) rfl ?_ (by first | exact fun _ _ _ h => h | exact fun _ _ _ h => hQ2 _ _ _ _ _ h) ?_
                        rotate_left
                        · intro W hSW
                          simp only [List.getElem_toArray, List.getElem_cons_zero, List.getElem_cons_succ]
                          (try dsimp only at hSW)
                          go_simp
                          with_reducible rfl
                        (try simp only [List.getElem_toArray, List.getElem_cons_zero, List.getElem_cons_succ, Act.put, List.setIfInBounds_toArray, List.set_cons_zero, List.set_cons_succ])
                        refine wpAnyJ_take 55 (v := ?_) (by first | exact hF | exact wideFn) (HST2.out _ Bd.out) rfl (by kernel_rfl) (by kernel_rfl) (by kernel_rfl) (by kernel_rfl) rfl ?_ (by first | exact fun _ _ _ h => h | exact fun _ _ _ h => hQ2 _ _ _ _ _ h) ?_
                        rotate_left
                        · intro W hSW
                          simp only [List.getElem_toArray, List.getElem_cons_zero, List.getElem_cons_succ]
                          (try dsimp only at hSW)
                          go_simp
                          with_reducible rfl
                        (try simp only [List.getElem_toArray, List.getElem_cons_zero, List.getElem_cons_succ, Act.put, List.setIfInBounds_toArray, List.set_cons_zero, List.set_cons_succ])
                        refine wpAnyJ_take 56 (v := ?_) (by first | exact hF | exact wideFn) (HST2.out _ Bd.out) rfl (by kernel_rfl) (by kernel_rfl) (by kernel_rfl) (by kernel_rfl) rfl ?_ (by first | exact fun _ _ _ h => h | exact fun _ _ _ h => hQ2 _ _ _ _ _ h) ?_
                        rotate_left
                        · intro W hSW
                          simp only [List.getElem_toArray, List.getElem_cons_zero, List.getElem_cons_succ]
                          (try dsimp only at hSW)
                          go_simp
                          with_reducible rfl
                        (try simp only [List.getElem_toArray, List.getElem_cons_zero, List.getElem_cons_succ, Act.put, List.setIfInBounds_toArray, List.set_cons_zero, List.set_cons_succ])
                        refine wpAnyJ_take 57 (v := ?_) (by first | exact hF | exact wideFn) (HST2.out _ Bd.out) rfl (by kernel_rfl) (by kernel_rfl) (by kernel_rfl) (by kernel_rfl) rfl ?_ (by first | exact fun _ _ _ h => h | exact fun _ _ _ h => hQ2 _ _ _ _ _ h) ?_
                        rotate_left
                        · intro W hSW
                          simp only [List.getElem_toArray, List.getElem_cons_zero, List.getElem_cons_succ]
                          (try dsimp only at hSW)
                          go_simp
                          with_reducible rfl
                        (try simp only [List.getElem_toArray, List.getElem_cons_zero, List.getElem_cons_succ, Act.put, List.setIfInBounds_toArray, List.set_cons_zero, List.set_cons_succ])
                        refine wpAnyJ_take 58 (v := ?_) (by first | exact hF | exact wideFn) (HST2.out _ Bd.out) rfl (by kernel_rfl) (by kernel_rfl) (by kernel_rfl) (by kernel_rfl) rfl ?_ (by first | exact fun _ _ _ h => h | exact fun _ _ _ h => hQ2 _ _ _ _ _ h) ?_
                        rotate_left
                        · intro W hSW
                          simp only [List.getElem_toArray, List.getElem_cons_zero, List.getElem_cons_succ]
                          (try dsimp only at hSW)
                          go_simp
                          with_reducible rfl
                        (try simp only [List.getElem_toArray, List.getElem_cons_zero, List.getElem_cons_succ, Act.put, List.setIfInBounds_toArray, List.set_cons_zero, List.set_cons_succ])
                        refine wpAnyJ_take 59 (v := ?_) (by first | exact hF | exact wideFn) (HST2.out _ Bd.out) rfl (by kernel_rfl) (by kernel_rfl) (by kernel_rfl) (by kernel_rfl) rfl ?_ (by first | exact fun _ _ _ h => h | exact fun _ _ _ h => hQ2 _ _ _ _ _ h) ?_
                        rotate_left
                        · intro W hSW
                          simp only [List.getElem_toArray, List.getElem_cons_zero, List.getElem_cons_succ]
                          (try dsimp only at hSW)
                          go_simp
                          with_reducible rfl
                        (try simp only [List.getElem_toArray, List.getElem_cons_zero, List.getElem_cons_succ, Act.put, List.setIfInBounds_toArray, List.set_cons_zero, List.set_cons_succ])
                        refine wpAnyJ_take 60 (v := ?_) (by first | exact hF | exact wideFn) (HST2.out _ Bd.out) rfl (by kernel_rfl) (by kernel_rfl) (by kernel_rfl) (by kernel_rfl) rfl ?_ (by first | exact fun _ _ _ h => h | exact fun _ _ _ h => hQ2 _ _ _ _ _ h) ?_
                        rotate_left
                        · intro W hSW
                          simp only [List.getElem_toArray, List.getElem_cons_zero, List.getElem_cons_succ]
                          (try dsimp only at hSW)
                          go_simp
                          with_reducible rfl
                        (try simp only [List.getElem_toArray, List.getElem_cons_zero, List.getElem_cons_succ, Act.put, List.setIfInBounds_toArray, List.set_cons_zero, List.set_cons_succ])
                        refine wpAnyJ_take 61 (v := ?_) (by first | exact hF | exact wideFn) (HST2.out _ Bd.out) rfl (by kernel_rfl) (by kernel_rfl) (by kernel_rfl) (by kernel_rfl) rfl ?_ (by first | exact fun _ _ _ h => h | exact fun _ _ _ h => hQ2 _ _ _ _ _ h) ?_
                        rotate_left
                        · intro W hSW
                          simp only [List.getElem_toArray, List.getElem_cons_zero, List.getElem_cons_succ]
                          (try dsimp only at hSW)
                          go_simp
                          with_reducible rfl
                        (try simp only [List.getElem_toArray, List.getElem_cons_zero, List.getElem_cons_succ, Act.put, List.setIfInBounds_toArray, List.set_cons_zero, List.set_cons_succ])
                        refine wpAnyJ_skip 62 (by first | exact hF | exact wideFn) (HST2.out _ Bd.out) rfl (by kernel_rfl) (by kernel_rfl) (by kernel_rfl) (by kernel_rfl) rfl (by first | exact fun _ _ _ h => h | exact fun _ _ _ h => hQ2 _ _ _ _ _ h) ?_
                        (try simp only [List.getElem_toArray, List.getElem_cons_zero, List.getElem_cons_succ, Act.put, List.setIfInBounds_toArray, List.set_cons_zero, List.set_cons_succ])
                        refine wpAnyJ_skip 63 (by first | exact hF | exact wideFn) (HST2.out _ Bd.out) rfl (by kernel_rfl) (by kernel_rfl) (by kernel_rfl) (by kernel_rfl) rfl (by first | exact fun _ _ _ h => h | exact fun _ _ _ h => hQ2 _ _ _ _ _ h) ?_
                        (try simp only [List.getElem_toArray, List.getElem_cons_zero, List.getElem_cons_succ, Act.put, List.setIfInBounds_toArray, List.set_cons_zero, List.set_cons_succ])
                        refine wpAnyJ_skip 64 (by first | exact hF | exact wideFn) (HST2.out _ Bd.out) rfl (by kernel_rfl) (by kernel_rfl) (by kernel_rfl) (by kernel_rfl) rfl (by first | exact fun _ _ _ h => h | exact fun _ _ _ h => hQ2 _ _ _ _ _ h) ?_
                        (try simp only [List.getElem_toArray, List.getElem_cons_zero, List.getElem_cons_succ, Act.put, List.setIfInBounds_toArray, List.set_cons_zero, List.set_cons_succ])
                        refine wpAnyJ_skip 65 (by first | exact hF | exact wideFn) (HST2.out _ Bd.out) rfl (by kernel_rfl) (by kernel_rfl) (by kernel_rfl) (by kernel_rfl) rfl (by first | exact fun _ _ _ h => h | exact fun _ _ _ h => hQ2 _ _ _ _ _ h) ?_
                        (try simp only [List.getElem_toArray, List.getElem_cons_zero, List.getElem_cons_succ, Act.put, List.setIfInBounds_toArray, List.set_cons_zero, List.set_cons_succ])
                        refine wpAnyJ_skip 66 (by first | exact hF | exact wideFn) (HST2.out _ Bd.out) rfl (by kernel_rfl) (by kernel_rfl) (by kernel_rfl) (by kernel_rfl) rfl (by first | exact fun _ _ _ h => h | exact fun _ _ _ h => hQ2 _ _ _ _ _ h) ?_
                        (try simp only [List.getElem_toArray, List.getElem_cons_zero, List.getElem_cons_succ, Act.put, List.setIfInBounds_toArray, List.set_cons_zero, List.set_cons_succ])
                        refine wpAnyJ_skip 67 (by first | exact hF | exact wideFn) (HST2.out _ Bd.out) rfl (by kernel_rfl) (by kernel_rfl) (by kernel_rfl) (by kernel_rfl) rfl (by first | exact fun _ _ _ h => h | exact fun _ _ _ h => hQ2 _ _ _ _ _ h) ?_
                        (try simp only [List.getElem_toArray, List.getElem_cons_zero, List.getElem_cons_succ, Act.put, List.setIfInBounds_toArray, List.set_cons_zero, List.set_cons_succ])
                        refine wpAnyJ_skip 68 (by first | exact hF | exact wideFn) (HST2.out _ Bd.out) rfl (by kernel_rfl) (by kernel_rfl) (by kernel_rfl) (by kernel_rfl) rfl (by first | exact fun _ _ _ h => h | exact fun _ _ _ h => hQ2 _ _ _ _ _ h) ?_
                        (try simp only [List.getElem_toArray, List.getElem_cons_zero, List.getElem_cons_succ, Act.put, List.setIfInBounds_toArray, List.set_cons_zero, List.set_cons_succ])
                        refine wpAnyJ_skip 69 (by first | exact hF | exact wideFn) (HST2.out _ Bd.out) rfl (by kernel_rfl) (by kernel_rfl) (by kernel_rfl) (by kernel_rfl) rfl (by first | exact fun _ _ _ h => h | exact fun _ _ _ h => hQ2 _ _ _ _ _ h) ?_
                        (try simp only [List.getElem_toArray, List.getElem_cons_zero, List.getElem_cons_succ, Act.put, List.setIfInBounds_toArray, List.set_cons_zero, List.set_cons_succ])
                        refine wpAnyJ_skip 70 (by first | exact hF | exact wideFn) (HST2.out _ Bd.out) rfl (by kernel_rfl) (by kernel_rfl) (by kernel_rfl) (by kernel_rfl) rfl (by first | exact fun _ _ _ h => h | exact fun _ _ _ h => hQ2 _ _ _ _ _ h) ?_
                        (try simp only [List.getElem_toArray, List.getElem_cons_zero, List.getElem_cons_succ, Act.put, List.setIfInBounds_toArray, List.set_cons_zero, List.set_cons_succ])
                        refine wpAnyJ_take 71 (v := ?_) (by first | exact hF | exact wideFn) (HST2.out _ Bd.out) rfl (by kernel_rfl) (by kernel_rfl) (by kernel_rfl) (by kernel_rfl) rfl ?_ (by first | exact fun _ _ _ h => h | exact fun _ _ _ h => hQ2 _ _ _ _ _ h) ?_
                        rotate_left
                        · intro W hSW
                          simp only [List.getElem_toArray, List.getElem_cons_zero, List.getElem_cons_succ]
                          (try dsimp only at hSW)
                          go_simp
                          with_reducible rfl
                        (try simp only [List.getElem_toArray, List.getElem_cons_zero, List.getElem_cons_succ, Act.put, List.setIfInBounds_toArray, List.set_cons_zero, List.set_cons_succ])
                        refine wpAnyJ_take 72 (v := ?_) (by first | exact hF | exact wideFn) (HST2.out _ Bd.out) rfl (by kernel_rfl) (by kernel_rfl) (by kernel_rfl) (by kernel_rfl) rfl ?_ (by first | exact fun _ _ _ h => h | exact fun _ _ _ h => hQ2 _ _ _ _ _ h) ?_
                        rotate_left
                        · intro W hSW
                          simp only [List.getElem_toArray, List.getElem_cons_zero, List.getElem_cons_succ]
                          (try dsimp only at hSW)
                          go_simp
                          with_reducible rfl
                        (try simp only [List.getElem_toArray, List.getElem_cons_zero, List.getElem_cons_succ, Act.put, List.setIfInBounds_toArray, List.set_cons_zero, List.set_cons_succ])
                        refine wpAnyJ_take 73 (v := ?_) (by first | exact hF | exact wideFn) (HST2.out _ Bd.out) rfl (by kernel_rfl) (by kernel_rfl) (by kernel_rfl) (by kernel_rfl) rfl ?_ (by first | exact fun _ _ _ h => h | exact fun _ _ _ h => hQ2 _ _ _ _ _ h) ?_
                        rotate_left
                        · intro W hSW
                          simp only [List.getElem_toArray, List.getElem_cons_zero, List.getElem_cons_succ]
                          (try dsimp only at hSW)
                          go_simp
                          with_reducible rfl
                        (try simp only [List.getElem_toArray, List.getElem_cons_zero, List.getElem_cons_succ, Act.put, List.setIfInBounds_toArray, List.set_cons_zero, List.set_cons_succ])
                        refine wpAnyJ_take 74 (v := ?_) (by first | exact hF | exact wideFn) (HST2.out _ Bd.out) rfl (by kernel_rfl) (by kernel_rfl) (by kernel_rfl) (by kernel_rfl) rfl ?_ (by first | exact fun _ _ _ h => h | exact fun _ _ _ h => hQ2 _ _ _ _ _ h) ?_
                        rotate_left
                        · intro W hSW
                          simp only [List.getElem_toArray, List.getElem_cons_zero, List.getElem_cons_succ]
                          (try dsimp only at hSW)
                          go_simp
                          with_reducible rfl
                        (try simp only [List.getElem_toArray, List.getElem_cons_zero, List.getElem_cons_succ, Act.put, List.setIfInBounds_toArray, List.set_cons_zero, List.set_cons_succ])
                        refine wpAnyJ_done (by kernel_rfl) ?_
                        clear n0 n1 n2 n3 n4 n5 wk
                        have HVD := hide (HVA.out.trans (Bd.out.mono HVA.out.size))
                        obtain ⟨-, y1, y2, -, -⟩ := blk2 (KB8.out.ext Bd.out)
                        by_cases htH : t = H
                        · have hkH : k < s.wn H := HPT.out.1 htH
                          have hm2 : m + 1 = min (k + 1) (s.wn H) := by have := HM.out; omega
                          have HM2 := hide hm2
                          have e1 : ((t : Int) == (H : Int)) = true := by simp; omega
                          have e2 : (t == H) = true := by simp; omega
                          clear hm2 hkH
                          go_wp2_with fail
                          go_roundw
                          case rel => exact ⟨k + 1, m + 1, by go_num, by omega, by go_num, by omega, HM2, HVD⟩
                          case measure => simp [intOf]; omega
                        · have hkH : ¬ k < s.wn H := fun e => htH (HPT.out.2 e)
                          have hm2 : m = min (k + 1) (s.wn H) := by have := HM.out; omega
                          have HM2 := hide hm2
                          have e1 : ((t : Int) == (H : Int)) = false := by simp; omega
                          have e2 : (t == H) = false := by simp; omega
                          clear hm2 hkH
                          go_wp2_with fail
                          go_roundw
                          case rel => exact ⟨k + 1, m, by go_num, by omega, rfl, by omega, HM2, HVD⟩
                          case measure => simp [intOf]; omega
                        -- END5
                      · as_aux_lemma =>
                        -- BEGIN6
                        dsimp only at heq hlt'
                        subst heq
                        have n1 : ¬ (j : Int) ≤ (j' : Int) := by omega
                        have n2 : decide (j ≤ j') = false := by simp; omega
                        (try dsimp only [List.append])
                        refine wp_region_J (fun W : World => ((W.cell? ⟨g22, 0, none⟩ = some (.int .i64 t') ∧ W.cell? ⟨g22, 1, none⟩ = some (.int .i64 j)) ∧ W.cell? ⟨z, t', none⟩ = some (.slice (some ⟨gb, goff, none⟩) (s.wn t') cc1) ∧ W.cell? ⟨gb, goff + j * 2, none⟩ = some (.int .i64 0)) ∧ W.cell? ⟨fb, foff + k' * 2, none⟩ = some (.int .i64 t') ∧ W.cell? ⟨fb, foff + k' * 2 + 1, none⟩ = some (.int .i64 j')) (by kernel_rfl) ?_
                        generalize W8.drew = wd at Bd ⊢
                        refine wpAnyJ_take 0 (v := ?_) (by first | exact hF | exact wideFn) (HST2.out _ Bd.out) rfl (by kernel_rfl) (by kernel_rfl) (by kernel_rfl) (by kernel_rfl) rfl ?_ (by first | exact fun _ _ _ h => h | exact fun _ _ _ h => hQ2 _ _ _ _ _ h) ?_
                        rotate_left
                        · intro W hSW
                          simp only [List.getElem_toArray, List.getElem_cons_zero, List.getElem_cons_succ]
                          (try dsimp only at hSW)
                          go_simp
                          with_reducible rfl
                        (try simp only [List.getElem_toArray, List.getElem_cons_zero, List.getElem_cons_succ, Act.put, List.setIfInBounds_toArray, List.set_cons_zero, List.set_cons_succ])
                        refine wpAnyJ_take 1 (v := ?_) (by first | exact hF | exact wideFn) (HST2.out _ Bd.out) rfl (by kernel_rfl) (by kernel_rfl) (by kernel_rfl) (by kernel_rfl) rfl ?_ (by first | exact fun _ _ _ h => h | exact fun _ _ _ h => hQ2 _ _ _ _ _ h) ?_
                        rotate_left
                        · intro W hSW
                          simp only [List.getElem_toArray, List.getElem_cons_zero, List.getElem_cons_succ]
                          (try dsimp only at hSW)
                          go_simp
                          with_reducible rfl
                        (try simp only [List.getElem_toArray, List.getElem_cons_zero, List.getElem_cons_succ, Act.put, List.setIfInBounds_toArray, List.set_cons_zero, List.set_cons_succ])
                        refine wpAnyJ_take 2 (v := ?_) (by first | exact hF | exact wideFn) (HST2.out _ Bd.out) rfl (by kernel_rfl) (by kernel_rfl) (by kernel_rfl) (by kernel_rfl) rfl ?_ (by first | exact fun _ _ _ h => h | exact fun _ _ _ h => hQ2 _ _ _ _ _ h) ?_
                        rotate_left
                        · intro W hSW
                          simp only [List.getElem_toArray, List.getElem_cons_zero, List.getElem_cons_succ]
                          (try dsimp only at hSW)
                          go_simp
                          with_reducible rfl
                        (try simp only [List.getElem_toArray, List.getElem_cons_zero, List.getElem_cons_succ, Act.put, List.setIfInBounds_toArray, List.set_cons_zero, List.set_cons_succ])
                        refine wpAnyJ_take 3 (v := ?_) (by first | exact hF | exact wideFn) (HST2.out _ Bd.out) rfl (by kernel_rfl) (by kernel_rfl) (by kernel_rfl) (by kernel_rfl) rfl ?_ (by first | exact fun _ _ _ h => h | exact fun _ _ _ h => hQ2 _ _ _ _ _ h) ?_
                        rotate_left
                        · intro W hSW
                          simp only [List.getElem_toArray, List.getElem_cons_zero, List.getElem_cons_succ]
                          (try dsimp only at hSW)
                          go_simp
                          with_reducible rfl
                        (try simp only [List.getElem_toArray, List.getElem_cons_zero, List.getElem_cons_succ, Act.put, List.setIfInBounds_toArray, List.set_cons_zero, List.set_cons_succ])
                        refine wpAnyJ_take 4 (v := ?_) (by first | exact hF | exact wideFn) (HST2.out _ Bd.out) rfl (by kernel_rfl) (by kernel_rfl) (by kernel_rfl) (by kernel_rfl) rfl ?_ (by first | exact fun _ _ _ h => h | exact fun _ _ _ h => hQ2 _ _ _ _ _ h) ?_
                        rotate_left
                        · intro W hSW
                          simp only [List.getElem_toArray, List.getElem_cons_zero, List.getElem_cons_succ]
                          (try dsimp only at hSW)
                          go_simp
                          with_reducible rfl
                        (try simp only [List.getElem_toArray, List.getElem_cons_zero, List.getElem_cons_succ, Act.put, List.setIfInBounds_toArray, List.set_cons_zero, List.set_cons_succ])
                        refine wpAnyJ_take 5 (v := ?_) (by first | exact hF | exact wideFn) (HST2.out _ Bd.out) rfl (by kernel_rfl) (by kernel_rfl) (by kernel_rfl) (by kernel_rfl) rfl ?_ (by first | exact fun _ _ _ h => h | exact fun _ _ _ h => hQ2 _ _ _ _ _ h) ?_
                        rotate_left
                        · intro W hSW
                          simp only [List.getElem_toArray, List.getElem_cons_zero, List.getElem_cons_succ]
                          (try dsimp only at hSW)
                          go_simp
                          with_reducible rfl
                        (try simp only [List.getElem_toArray, List.getElem_cons_zero, List.getElem_cons_succ, Act.put, List.setIfInBounds_toArray, List.set_cons_zero, List.set_cons_succ])
                        refine wpAnyJ_take 6 (v := ?_) (by first | exact hF | exact wideFn) (HST2.out _ Bd.out) rfl (by kernel_rfl) (by kernel_rfl) (by kernel_rfl) (by kernel_rfl) rfl ?_ (by first | exact fun _ _ _ h => h | exact fun _ _ _ h => hQ2 _ _ _ _ _ h) ?_
                        rotate_left
                        · intro W hSW
                          simp only [List.getElem_toArray, List.getElem_cons_zero, List.getElem_cons_succ]
                          (try dsimp only at hSW)
                          go_simp
                          with_reducible rfl
                        (try simp only [List.getElem_toArray, List.getElem_cons_zero, List.getElem_cons_succ, Act.put, List.setIfInBounds_toArray, List.set_cons_zero, List.set_cons_succ])
                        refine wpAnyJ_take 7 (v := ?_) (by first | exact hF | exact wideFn) (HST2.out _ Bd.out) rfl (by kernel_rfl) (by kernel_rfl) (by kernel_rfl) (by kernel_rfl) rfl ?_ (by first | exact fun _ _ _ h => h | exact fun _ _ _ h => hQ2 _ _ _ _ _ h) ?_
                        rotate_left
                        · intro W hSW
                          simp only [List.getElem_toArray, List.getElem_cons_zero, List.getElem_cons_succ]
                          (try dsimp only at hSW)
                          go_simp
                          with_reducible rfl
                        (try simp only [List.getElem_toArray, List.getElem_cons_zero, List.getElem_cons_succ, Act.put, List.setIfInBounds_toArray, List.set_cons_zero, List.set_cons_succ])
                        refine wpAnyJ_take 8 (v := ?_) (by first | exact hF | exact wideFn) (HST2.out _ Bd.out) rfl (by kernel_rfl) (by kernel_rfl) (by kernel_rfl) (by kernel_rfl) rfl ?_ (by first | exact fun _ _ _ h => h | exact fun _ _ _ h => hQ2 _ _ _ _ _ h) ?_
                        rotate_left
                        · intro W hSW
                          simp only [List.getElem_toArray, List.getElem_cons_zero, List.getElem_cons_succ]
                          (try dsimp only at hSW)
                          go_simp
                          with_reducible rfl
                        (try simp only [List.getElem_toArray, List.getElem_cons_zero, List.getElem_cons_succ, Act.put, List.setIfInBounds_toArray, List.set_cons_zero, List.set_cons_succ])
                        refine wpAnyJ_take 9 (v := ?_) (by first | exact hF | exact wideFn) (HST2.out _ Bd.out) rfl (by kernel_rfl) (by kernel_rfl) (by kernel_rfl) (by kernel_rfl) rfl ?_ (by first | exact fun _ _ _ h => h | exact fun _ _ _ h => hQ2 _ _ _ _ _ h) ?_
                        rotate_left
                        · intro W hSW
                          simp only [List.getElem_toArray, List.getElem_cons_zero, List.getElem_cons_succ]
                          (try dsimp only at hSW)
                          go_simp
                          with_reducible rfl
                        (try simp only [List.getElem_toArray, List.getElem_cons_zero, List.getElem_cons_succ, Act.put, List.setIfInBounds_toArray, List.set_cons_zero, List.set_cons_succ])
                        refine wpAnyJ_take 10 (v := ?_) (by first | exact hF | exact wideFn) (HST2.out _ Bd.out) rfl (by kernel_rfl) (by kernel_rfl) (by kernel_rfl) (by kernel_rfl) rfl ?_ (by first | exact fun _ _ _ h => h | exact fun _ _ _ h => hQ2 _ _ _ _ _ h) ?_
                        rotate_left
                        · intro W hSW
                          simp only [List.getElem_toArray, List.getElem_cons_zero, List.getElem_cons_succ]
                          (try dsimp only at hSW)
                          go_simp
                          with_reducible rfl
                        (try simp only [List.getElem_toArray, List.getElem_cons_zero, List.getElem_cons_succ, Act.put, List.setIfInBounds_toArray, List.set_cons_zero, List.set_cons_succ])
                        refine wpAnyJ_take 11 (v := ?_) (by first | exact hF | exact wideFn) (HST2.out _ Bd.out) rfl (by kernel_rfl) (by kernel_rfl) (by kernel_rfl) (by kernel_rfl) rfl ?_ (by first | exact fun _ _ _ h => h | exact fun _ _ _ h => hQ2 _ _ _ _ _ h) ?_
                        rotate_left
                        · intro W hSW
                          simp only [List.getElem_toArray, List.getElem_cons_zero, List.getElem_cons_succ]
                          (try dsimp only at hSW)
                          go_simp
                          with_reducible rfl
                        (try simp only [List.getElem_toArray, List.getElem_cons_zero, List.getElem_cons_succ, Act.put, List.setIfInBounds_toArray, List.set_cons_zero, List.set_cons_succ])
                        refine wpAnyJ_take 12 (v := ?_) (by first | exact hF | exact wideFn) (HST2.out _ Bd.out) rfl (by kernel_rfl) (by kernel_rfl) (by kernel_rfl) (by kernel_rfl) rfl ?_ (by first | exact fun _ _ _ h => h | exact fun _ _ _ h => hQ2 _ _ _ _ _ h) ?_
                        rotate_left
                        · intro W hSW
                          simp only [List.getElem_toArray, List.getElem_cons_zero, List.getElem_cons_succ]
                          (try dsimp only at hSW)
                          go_simp
                          with_reducible rfl
                        (try simp only [List.getElem_toArray, List.getElem_cons_zero, List.getElem_cons_succ, Act.put, List.setIfInBounds_toArray, List.set_cons_zero, List.set_cons_succ])
                        refine wpAnyJ_take 13 (v := ?_) (by first | exact hF | exact wideFn) (HST2.out _ Bd.out) rfl (by kernel_rfl) (by kernel_rfl) (by kernel_rfl) (by kernel_rfl) rfl ?_ (by first | exact fun _ _ _ h => h | exact fun _ _ _ h => hQ2 _ _ _ _ _ h) ?_
                        rotate_left
                        · intro W hSW
                          simp only [List.getElem_toArray, List.getElem_cons_zero, List.getElem_cons_succ]
                          (try dsimp only at hSW)
                          go_simp
                          with_reducible rfl
                        (try simp only [List.getElem_toArray, List.getElem_cons_zero, List.getElem_cons_succ, Act.put, List.setIfInBounds_toArray, List.set_cons_zero, List.set_cons_succ])
                        refine wpAnyJ_take 14 (v := ?_) (by first | exact hF | exact wideFn) (HST2.out _ Bd.out) rfl (by kernel_rfl) (by kernel_rfl) (by kernel_rfl) (by kernel_rfl) rfl ?_ (by first | exact fun _ _ _ h => h | exact fun _ _ _ h => hQ2 _ _ _ _ _ h) ?_
                        rotate_left
                        · intro W hSW
                          simp only [List.getElem_toArray, List.getElem_cons_zero, List.getElem_cons_succ]
                          (try dsimp only at hSW)
                          go_simp
                          with_reducible rfl
                        (try simp only [List.getElem_toArray, List.getElem_cons_zero, List.getElem_cons_succ, Act.put, List.setIfInBounds_toArray, List.set_cons_zero, List.set_cons_succ])
                        refine wpAnyJ_take 15 (v := ?_) (by first | exact hF | exact wideFn) (HST2.out _ Bd.out) rfl (by kernel_rfl) (by kernel_rfl) (by kernel_rfl) (by kernel_rfl) rfl ?_ (by first | exact fun _ _ _ h => h | exact fun _ _ _ h => hQ2 _ _ _ _ _ h) ?_
                        rotate_left
                        · intro W hSW
                          simp only [List.getElem_toArray, List.getElem_cons_zero, List.getElem_cons_succ]
                          (try dsimp only at hSW)
                          go_simp
                          with_reducible rfl
                        (try simp only [List.getElem_toArray, List.getElem_cons_zero, List.getElem_cons_succ, Act.put, List.setIfInBounds_toArray, List.set_cons_zero, List.set_cons_succ])
                        refine wpAnyJ_take 16 (v := ?_) (by first | exact hF | exact wideFn) (HST2.out _ Bd.out) rfl (by kernel_rfl) (by kernel_rfl) (by kernel_rfl) (by kernel_rfl) rfl ?_ (by first | exact fun _ _ _ h => h | exact fun _ _ _ h => hQ2 _ _ _ _ _ h) ?_
                        rotate_left
                        · intro W hSW
                          simp only [List.getElem_toArray, List.getElem_cons_zero, List.getElem_cons_succ]
                          (try dsimp only at hSW)
                          go_simp
                          with_reducible rfl
                        (try simp only [List.getElem_toArray, List.getElem_cons_zero, List.getElem_cons_succ, Act.put, List.setIfInBounds_toArray, List.set_cons_zero, List.set_cons_succ])
                        refine wpAnyJ_take 17 (v := ?_) (by first | exact hF | exact wideFn) (HST2.out _ Bd.out) rfl (by kernel_rfl) (by kernel_rfl) (by kernel_rfl) (by kernel_rfl) rfl ?_ (by first | exact fun _ _ _ h => h | exact fun _ _ _ h => hQ2 _ _ _ _ _ h) ?_
                        rotate_left
                        · intro W hSW
                          simp only [List.getElem_toArray, List.getElem_cons_zero, List.getElem_cons_succ]
                          (try dsimp only at hSW)
                          go_simp
                          with_reducible rfl
                        (try simp only [List.getElem_toArray, List.getElem_cons_zero, List.getElem_cons_succ, Act.put, List.setIfInBounds_toArray, List.set_cons_zero, List.set_cons_succ])
                        refine wpAnyJ_take 18 (v := ?_) (by first | exact hF | exact wideFn) (HST2.out _ Bd.out) rfl (by kernel_rfl) (by kernel_rfl) (by kernel_rfl) (by kernel_rfl) rfl ?_ (by first | exact fun _ _ _ h => h | exact fun _ _ _ h => hQ2 _ _ _ _ _ h) ?_
                        rotate_left
                        · intro W hSW
                          simp only [List.getElem_toArray, List.getElem_cons_zero, List.getElem_cons_succ]
                          (try dsimp only at hSW)
                          go_simp
                          with_reducible rfl
                        (try simp only [List.getElem_toArray, List.getElem_cons_zero, List.getElem_cons_succ, Act.put, List.setIfInBounds_toArray, List.set_cons_zero, List.set_cons_succ])
                        refine wpAnyJ_take 19 (v := ?_) (by first | exact hF | exact wideFn) (HST2.out _ Bd.out) rfl (by kernel_rfl) (by kernel_rfl) (by kernel_rfl) (by kernel_rfl) rfl ?_ (by first | exact fun _ _ _ h => h | exact fun _ _ _ h => hQ2 _ _ _ _ _ h) ?_
                        rotate_left
                        · intro W hSW
                          simp only [List.getElem_toArray, List.getElem_cons_zero, List.getElem_cons_succ]
                          (try dsimp only at hSW)
                          go_simp
                          with_reducible rfl
                        (try simp only [List.getElem_toArray, List.getElem_cons_zero, List.getElem_cons_succ, Act.put, List.setIfInBounds_toArray, List.set_cons_zero, List.set_cons_succ])
                        refine wpAnyJ_take 20 (v := ?_) (by first | exact hF | exact wideFn) (HST2.out _ Bd.out) rfl (by kernel_rfl) (by kernel_rfl) (by kernel_rfl) (by kernel_rfl) rfl ?_ (by first | exact fun _ _ _ h => h | exact fun _ _ _ h => hQ2 _ _ _ _ _ h) ?_
                        rotate_left
                        · intro W hSW
                          simp only [List.getElem_toArray, List.getElem_cons_zero, List.getElem_cons_succ]
                          (try dsimp only at hSW)
                          go_simp
                          with_reducible rfl
                        (try simp only [List.getElem_toArray, List.getElem_cons_zero, List.getElem_cons_succ, Act.put, List.setIfInBounds_toArray, List.set_cons_zero, List.set_cons_succ])
                        refine wpAnyJ_take 21 (v := ?_) (by first | exact hF | exact wideFn) (HST2.out _ Bd.out) rfl (by kernel_rfl) (by kernel_rfl) (by kernel_rfl) (by kernel_rfl) rfl ?_ (by first | exact fun _ _ _ h => h | exact fun _ _ _ h => hQ2 _ _ _ _ _ h) ?_
                        rotate_left
                        · intro W hSW
                          simp only [List.getElem_toArray, List.getElem_cons_zero, List.getElem_cons_succ]
                          (try dsimp only at hSW)
                          go_simp
                          with_reducible rfl
                        (try simp only [List.getElem_toArray, List.getElem_cons_zero, List.getElem_cons_succ, Act.put, List.setIfInBounds_toArray, List.set_cons_zero, List.set_cons_succ])
                        refine wpAnyJ_take 22 (v := ?_) (by first | exact hF | exact wideFn) (HST2.out _ Bd.out) rfl (by kernel_rfl) (by kernel_rfl) (by kernel_rfl) (by kernel_rfl) rfl ?_ (by first | exact fun _ _ _ h => h | exact fun _ _ _ h => hQ2 _ _ _ _ _ h) ?_
                        rotate_left
                        · intro W hSW
                          simp only [List.getElem_toArray, List.getElem_cons_zero, List.getElem_cons_succ]
                          (try dsimp only at hSW)
                          go_simp
                          with_reducible rfl
                        (try simp only [List.getElem_toArray, List.getElem_cons_zero, List.getElem_cons_succ, Act.put, List.setIfInBounds_toArray, List.set_cons_zero, List.set_cons_succ])
                        refine wpAnyJ_take 23 (v := ?_) (by first | exact hF | exact wideFn) (HST2.out _ Bd.out) rfl (by kernel_rfl) (by kernel_rfl) (by kernel_rfl) (by kernel_rfl) rfl ?_ (by first | exact fun _ _ _ h => h | exact fun _ _ _ h => hQ2 _ _ _ _ _ h) ?_
                        rotate_left
                        · intro W hSW
                          simp only [List.getElem_toArray, List.getElem_cons_zero, List.getElem_cons_succ]
                          (try dsimp only at hSW)
                          go_simp
                          with_reducible rfl
                        (try simp only [List.getElem_toArray, List.getElem_cons_zero, List.getElem_cons_succ, Act.put, List.setIfInBounds_toArray, List.set_cons_zero, List.set_cons_succ])
                        refine wpAnyJ_take 24 (v := ?_) (by first | exact hF | exact wideFn) (HST2.out _ Bd.out) rfl (by kernel_rfl) (by kernel_rfl) (by kernel_rfl) (by kernel_rfl) rfl ?_ (by first | exact fun _ _ _ h => h | exact fun _ _ _ h => hQ2 _ _ _ _ _ h) ?_
                        rotate_left
                        · intro W hSW
                          simp only [List.getElem_toArray, List.getElem_cons_zero, List.getElem_cons_succ]
                          (try dsimp only at hSW)
                          go_simp
                          with_reducible rfl
                        (try simp only [List.getElem_toArray, List.getElem_cons_zero, List.getElem_cons_succ, Act.put, List.setIfInBounds_toArray, List.set_cons_zero, List.set_cons_succ])
                        refine wpAnyJ_take 25 (v := ?_) (by first | exact hF | exact wideFn) (HST2.out _ Bd.out) rfl (by kernel_rfl) (by kernel_rfl) (by kernel_rfl) (by kernel_rfl) rfl ?_ (by first | exact fun _ _ _ h => h | exact fun _ _ _ h => hQ2 _ _ _ _ _ h) ?_
                        rotate_left
                        · intro W hSW
                          simp only [List.getElem_toArray, List.getElem_cons_zero, List.getElem_cons_succ]
                          (try dsimp only at hSW)
                          go_simp
                          with_reducible rfl
                        (try simp only [List.getElem_toArray, List.getElem_cons_zero, List.getElem_cons_succ, Act.put, List.setIfInBounds_toArray, List.set_cons_zero, List.set_cons_succ])
                        refine wpAnyJ_take 26 (v := ?_) (by first | exact hF | exact wideFn) (HST2.out _ Bd.out) rfl (by kernel_rfl) (by kernel_rfl) (by kernel_rfl) (by kernel_rfl) rfl ?_ (by first | exact fun _ _ _ h => h | exact fun _ _ _ h => hQ2 _ _ _ _ _ h) ?_
                        rotate_left
                        · intro W hSW
                          simp only [List.getElem_toArray, List.getElem_cons_zero, List.getElem_cons_succ]
                          (try dsimp only at hSW)
                          go_simp
                          with_reducible rfl
                        (try simp only [List.getElem_toArray, List.getElem_cons_zero, List.getElem_cons_succ, Act.put, List.setIfInBounds_toArray, List.set_cons_zero, List.set_cons_succ])
                        refine wpAnyJ_take 27 (v := ?_) (by first | exact hF | exact wideFn) (HST2.out _ Bd.out) rfl (by kernel_rfl) (by kernel_rfl) (by kernel_rfl) (by kernel_rfl) rfl ?_ (by first | exact fun _ _ _ h => h | exact fun _ _ _ h => hQ2 _ _ _ _ _ h) ?_
                        rotate_left
                        · intro W hSW
                          simp only [List.getElem_toArray, List.getElem_cons_zero, List.getElem_cons_succ]
                          (try dsimp only at hSW)
                          go_simp
                          with_reducible rfl
                        (try simp only [List.getElem_toArray, List.getElem_cons_zero, List.getElem_cons_succ, Act.put, List.setIfInBounds_toArray, List.set_cons_zero, List.set_cons_succ])
                        refine wpAnyJ_take 28 (v := ?_) (by first | exact hF | exact wideFn) (HST2.out _ Bd.out) rfl (by kernel_rfl) (by kernel_rfl) (by kernel_rfl) (by kernel_rfl) rfl ?_ (by first | exact fun _ _ _ h => h | exact fun _ _ _ h => hQ2 _ _ _ _ _ h) ?_
                        rotate_left
                        · intro W hSW
                          simp only [List.getElem_toArray, List.getElem_cons_zero, List.getElem_cons_succ]
                          (try dsimp only at hSW)
                          go_simp
                          with_reducible rfl
                        (try simp only [List.getElem_toArray, List.getElem_cons_zero, List.getElem_cons_succ, Act.put, List.setIfInBounds_toArray, List.set_cons_zero, List.set_cons_succ])
                        refine wpAnyJ_take 29 (v := ?_) (by first | exact hF | exact wideFn) (HST2.out _ Bd.out) rfl (by kernel_rfl) (by kernel_rfl) (by kernel_rfl) (by kernel_rfl) rfl ?_ (by first | exact fun _ _ _ h => h | exact fun _ _ _ h => hQ2 _ _ _ _ _ h) ?_
                        rotate_left
                        · intro W hSW
                          simp only [List.getElem_toArray, List.getElem_cons_zero, List.getElem_cons_succ]
                          (try dsimp only at hSW)
                          go_simp
                          with_reducible rfl
                        (try simp only [List.getElem_toArray, List.getElem_cons_zero, List.getElem_cons_succ, Act.put, List.setIfInBounds_toArray, List.set_cons_zero, List.set_cons_succ])
                        refine wpAnyJ_take 30 (v := ?_) (by first | exact hF | exact wideFn) (HST2.out _ Bd.out) rfl (by kernel_rfl) (by kernel_rfl) (by kernel_rfl) (by kernel_rfl) rfl ?_ (by first | exact fun _ _ _ h => h | exact fun _ _ _ h => hQ2 _ _ _ _ _ h) ?_
                        rotate_left
                        · intro W hSW
                          simp only [List.getElem_toArray, List.getElem_cons_zero, List.getElem_cons_succ]
                          (try dsimp only at hSW)
                          go_simp
                          with_reducible rfl
                        (try simp only [List.getElem_toArray, List.getElem_cons_zero, List.getElem_cons_succ, Act.put, List.setIfInBounds_toArray, List.set_cons_zero, List.set_cons_succ])
                        refine wpAnyJ_take 31 (v := ?_) (by first | exact hF | exact wideFn) (HST2.out _ Bd.out) rfl (by kernel_rfl) (by kernel_rfl) (by kernel_rfl) (by kernel_rfl) rfl ?_ (by first | exact fun _ _ _ h => h | exact fun _ _ _ h => hQ2 _ _ _ _ _ h) ?_
                        rotate_left
                        · intro W hSW
                          simp only [List.getElem_toArray, List.getElem_cons_zero, List.getElem_cons_succ]
                          (try dsimp only at hSW)
                          go_simp
                          with_reducible rfl
                        (try simp only [List.getElem_toArray, List.getElem_cons_zero, List.getElem_cons_succ, Act.put, List.setIfInBounds_toArray, List.set_cons_zero, List.set_cons_succ])
                        refine wpAnyJ_take 32 (v := ?_) (by first | exact hF | exact wideFn) (HST2.out _ Bd.out) rfl (by kernel_rfl) (by kernel_rfl) (by kernel_rfl) (by kernel_rfl) rfl ?_ (by first | exact fun _ _ _ h => h | exact fun _ _ _ h => hQ2 _ _ _ _ _ h) ?_
                        rotate_left
                        · intro W hSW
                          simp only [List.getElem_toArray, List.getElem_cons_zero, List.getElem_cons_succ]
                          (try dsimp only at hSW)
                          go_simp
                          with_reducible rfl
                        (try simp only [List.getElem_toArray, List.getElem_cons_zero, List.getElem_cons_succ, Act.put, List.setIfInBounds_toArray, List.set_cons_zero, List.set_cons_succ])
                        refine wpAnyJ_take 33 (v := ?_) (by first | exact hF | exact wideFn) (HST2.out _ Bd.out) rfl (by kernel_rfl) (by kernel_rfl) (by kernel_rfl) (by kernel_rfl) rfl ?_ (by first | exact fun _ _ _ h => h | exact fun _ _ _ h => hQ2 _ _ _ _ _ h) ?_
                        rotate_left
                        · intro W hSW
                          simp only [List.getElem_toArray, List.getElem_cons_zero, List.getElem_cons_succ]
                          (try dsimp only at hSW)
                          go_simp
                          with_reducible rfl
                        (try simp only [List.getElem_toArray, List.getElem_cons_zero, List.getElem_cons_succ, Act.put, List.setIfInBounds_toArray, List.set_cons_zero, List.set_cons_succ])
                        refine wpAnyJ_take 34 (v := ?_) (by first | exact hF | exact wideFn) (HST2.out _ Bd.out) rfl (by kernel_rfl) (by kernel_rfl) (by kernel_rfl) (by kernel_rfl) rfl ?_ (by first | exact fun _ _ _ h => h | exact fun _ _ _ h => hQ2 _ _ _ _ _ h) ?_
                        rotate_left
                        · intro W hSW
                          simp only [List.getElem_toArray, List.getElem_cons_zero, List.getElem_cons_succ]
                          (try dsimp only at hSW)
                          go_simp
                          with_reducible rfl
                        (try simp only [List.getElem_toArray, List.getElem_cons_zero, List.getElem_cons_succ, Act.put, List.setIfInBounds_toArray, List.set_cons_zero, List.set_cons_succ])
                        refine wpAnyJ_take 35 (v := ?_) (by first | exact hF | exact wideFn) (HST2.out _ Bd.out) rfl (by kernel_rfl) (by kernel_rfl) (by kernel_rfl) (by kernel_rfl) rfl ?_ (by first | exact fun _ _ _ h => h | exact fun _ _ _ h => hQ2 _ _ _ _ _ h) ?_
                        rotate_left
                        · intro W hSW
                          simp only [List.getElem_toArray, List.getElem_cons_zero, List.getElem_cons_succ]
                          (try dsimp only at hSW)
                          go_simp
                          with_reducible rfl
                        (try simp only [List.getElem_toArray, List.getElem_cons_zero, List.getElem_cons_succ, Act.put, List.setIfInBounds_toArray, List.set_cons_zero, List.set_cons_succ])
                        refine wpAnyJ_take 36 (v := ?_) (by first | exact hF | exact wideFn) (HST2.out _ Bd.out) rfl (by kernel_rfl) (by kernel_rfl) (by kernel_rfl) (by kernel_rfl) rfl ?_ (by first | exact fun _ _ _ h => h | exact fun _ _ _ h => hQ2 _ _ _ _ _ h) ?_
                        rotate_left
                        · intro W hSW
                          simp only [List.getElem_toArray, List.getElem_cons_zero, List.getElem_cons_succ]
                          (try dsimp only at hSW)
                          go_simp
                          with_reducible rfl
                        (try simp only [List.getElem_toArray, List.getElem_cons_zero, List.getElem_cons_succ, Act.put, List.setIfInBounds_toArray, List.set_cons_zero, List.set_cons_succ])
                        refine wpAnyJ_take 37 (v := ?_) (by first | exact hF | exact wideFn) (HST2.out _ Bd.out) rfl (by kernel_rfl) (by kernel_rfl) (by kernel_rfl) (by kernel_rfl) rfl ?_ (by first | exact fun _ _ _ h => h | exact fun _ _ _ h => hQ2 _ _ _ _ _ h) ?_
                        rotate_left
                        · intro W hSW
                          simp only [List.getElem_toArray, List.getElem_cons_zero, List.getElem_cons_succ]
                          (try dsimp only at hSW)
                          go_simp
                          with_reducible rfl
                        (try simp only [List.getElem_toArray, List.getElem_cons_zero, List.getElem_cons_succ, Act.put, List.setIfInBounds_toArray, List.set_cons_zero, List.set_cons_succ])
                        refine wpAnyJ_take 38 (v := ?_) (by first | exact hF | exact wideFn) (HST2.out _ Bd.out) rfl (by kernel_rfl) (by kernel_rfl) (by kernel_rfl) (by kernel_rfl) rfl ?_ (by first | exact fun _ _ _ h => h | exact fun _ _ _ h => hQ2 _ _ _ _ _ h) ?_
                        rotate_left
                        · intro W hSW
                          simp only [List.getElem_toArray, List.getElem_cons_zero, List.getElem_cons_succ]
                          (try dsimp only at hSW)
                          go_simp
                          with_reducible rfl
                        (try simp only [List.getElem_toArray, List.getElem_cons_zero, List.getElem_cons_succ, Act.put, List.setIfInBounds_toArray, List.set_cons_zero, List.set_cons_succ])
                        refine wpAnyJ_take 39 (v := ?_) (by first | exact hF | exact wideFn) (HST2.out _ Bd.out) rfl (by kernel_rfl) (by kernel_rfl) (by kernel_rfl) (by kernel_rfl) rfl ?_ (by first | exact fun _ _ _ h => h | exact fun _ _ _ h => hQ2 _ _ _ _ _ h) ?_
                        rotate_left
                        · intro W hSW
                          simp only [List.getElem_toArray, List.getElem_cons_zero, List.getElem_cons_succ]
                          (try dsimp only at hSW)
                          go_simp
                          with_reducible rfl
                        (try simp only [List.getElem_toArray, List.getElem_cons_zero, List.getElem_cons_succ, Act.put, List.setIfInBounds_toArray, List.set_cons_zero, List.set_cons_succ])
                        refine wpAnyJ_take 40 (v := ?_) (by first | exact hF | exact wideFn) (HST2.out _ Bd.out) rfl (by kernel_rfl) (by kernel_rfl) (by kernel_rfl) (by kernel_rfl) rfl ?_ (by first | exact fun _ _ _ h => h | exact fun _ _ _ h => hQ2 _ _ _ _ _ h) ?_
                        rotate_left
                        · intro W hSW
                          simp only [List.getElem_toArray, List.getElem_cons_zero, List.getElem_cons_succ]
                          (try dsimp only at hSW)
                          go_simp
                          with_reducible rfl
                        (try simp only [List.getElem_toArray, List.getElem_cons_zero, List.getElem_cons_succ, Act.put, List.setIfInBounds_toArray, List.set_cons_zero, List.set_cons_succ])
                        refine wpAnyJ_take 41 (v := ?_) (by first | exact hF | exact wideFn) (HST2.out _ Bd.out) rfl (by kernel_rfl) (by kernel_rfl) (by kernel_rfl) (by kernel_rfl) rfl ?_ (by first | exact fun _ _ _ h => h | exact fun _ _ _ h => hQ2 _ _ _ _ _ h) ?_
                        rotate_left
                        · intro W hSW
                          simp only [List.getElem_toArray, List.getElem_cons_zero, List.getElem_cons_succ]
                          (try dsimp only at hSW)
                          go_simp
                          with_reducible rfl
                        (try simp only [List.getElem_toArray, List.getElem_cons_zero, List.getElem_cons_succ, Act.put, List.setIfInBounds_toArray, List.set_cons_zero, List.set_cons_succ])
                        refine wpAnyJ_take 42 (v := ?_) (by first | exact hF | exact wideFn) (HST2.out _ Bd.out) rfl (by kernel_rfl) (by kernel_rfl) (by kernel_rfl) (by kernel_rfl) rfl ?_ (by first | exact fun _ _ _ h => h | exact fun _ _ _ h => hQ2 _ _ _ _ _ h) ?_
                        rotate_left
                        · intro W hSW
                          simp only [List.getElem_toArray, List.getElem_cons_zero, List.getElem_cons_succ]
                          (try dsimp only at hSW)
                          go_simp
                          with_reducible rfl
                        (try simp only [List.getElem_toArray, List.getElem_cons_zero, List.getElem_cons_succ, Act.put, List.setIfInBounds_toArray, List.set_cons_zero, List.set_cons_succ])
                        refine wpAnyJ_take 43 (v := ?_) (by first | exact hF | exact wideFn) (HST2.out _ Bd.out) rfl (by kernel_rfl) (by kernel_rfl) (by kernel_rfl) (by kernel_rfl) rfl ?_ (by first | exact fun _ _ _ h => h | exact fun _ _ _ h => hQ2 _ _ _ _ _ h) ?_
                        rotate_left
                        · intro W hSW
                          simp only [List.getElem_toArray, List.getElem_cons_zero, List.getElem_cons_succ]
                          (try dsimp only at hSW)
                          go_simp
                          with_reducible rfl
                        (try simp only [List.getElem_toArray, List.getElem_cons_zero, List.getElem_cons_succ, Act.put, List.setIfInBounds_toArray, List.set_cons_zero, List.set_cons_succ])
                        refine wpAnyJ_take 44 (v := ?_) (by first | exact hF | exact wideFn) (HST2.out _ Bd.out) rfl (by kernel_rfl) (by kernel_rfl) (by kernel_rfl) (by kernel_rfl) rfl ?_ (by first | exact fun _ _ _ h => h | exact fun _ _ _ h => hQ2 _ _ _ _ _ h) ?_
                        rotate_left
                        · intro W hSW
                          simp only [List.getElem_toArray, List.getElem_cons_zero, List.getElem_cons_succ]
                          (try dsimp only at hSW)
                          go_simp
                          with_reducible rfl
                        (try simp only [List.getElem_toArray, List.getElem_cons_zero, List.getElem_cons_succ, Act.put, List.setIfInBounds_toArray, List.set_cons_zero, List.set_cons_succ])
                        refine wpAnyJ_take 45 (v := ?_) (by first | exact hF | exact wideFn) (HST2.out _ Bd.out) rfl (by kernel_rfl) (by kernel_rfl) (by kernel_rfl) (by kernel_rfl) rfl ?_ (by first | exact fun _ _ _ h => h | exact fun _ _ _ h => hQ2 _ _ _ _ _ h) ?_
                        rotate_left
                        · intro W hSW
                          simp only [List.getElem_toArray, List.getElem_cons_zero, List.getElem_cons_succ]
                          (try dsimp only at hSW)
                          go_simp
                          with_reducible rfl
                        (try simp only [List.getElem_toArray, List.getElem_cons_zero, List.getElem_cons_succ, Act.put, List.setIfInBounds_toArray, List.set_cons_zero, List.set_cons_succ])
                        refine wpAnyJ_take 46 (v := ?_) (by first | exact hF | exact wideFn) (HST2.out _ Bd.out) rfl (by kernel_rfl) (by kernel_rfl) (by kernel_rfl) (by kernel_rfl) rfl ?_ (by first | exact fun _ _ _ h => h | exact fun _ _ _ h => hQ2 _ _ _ _ _ h) ?_
                        rotate_left
                        · intro W hSW
                          simp only [List.getElem_toArray, List.getElem_cons_zero, List.getElem_cons_succ]
                          (try dsimp only at hSW)
                          go_simp
                          with_reducible rfl
                        (try simp only [List.getElem_toArray, List.getElem_cons_zero, List.getElem_cons_succ, Act.put, List.setIfInBounds_toArray, List.set_cons_zero, List.set_cons_succ])
                        refine wpAnyJ_take 47 (v := ?_) (by first | exact hF | exact wideFn) (HST2.out _ Bd.out) rfl (by kernel_rfl) (by kernel_rfl) (by kernel_rfl) (by kernel_rfl) rfl ?_ (by first | exact fun _ _ _ h => h | exact fun _ _ _ h => hQ2 _ _ _ _ _ h) ?_
                        rotate_left
                        · intro W hSW
                          simp only [List.getElem_toArray, List.getElem_cons_zero, List.getElem_cons_succ]
                          (try dsimp only at hSW)
                          go_simp
                          with_reducible rfl
                        (try simp only [List.getElem_toArray, List.getElem_cons_zero, List.getElem_cons_succ, Act.put, List.setIfInBounds_toArray, List.set_cons_zero, List.set_cons_succ])
                        refine wpAnyJ_take 48 (v := ?_) (by first | exact hF | exact wideFn) (HST2.out _ Bd.out) rfl (by kernel_rfl) (by kernel_rfl) (by kernel_rfl) (by kernel_rfl) rfl ?_ (by first | exact fun _ _ _ h => h | exact fun _ _ _ h => hQ2 _ _ _ _ _ h) ?_
                        rotate_left
                        · intro W hSW
                          simp only [List.getElem_toArray, List.getElem_cons_zero, List.getElem_cons_succ]
                          (try dsimp only at hSW)
                          go_simp
                          with_reducible rfl
                        (try simp only [List.getElem_toArray, List.getElem_cons_zero, List.getElem_cons_succ, Act.put, List.setIfInBounds_toArray, List.set_cons_zero, List.set_cons_succ])
                        refine wpAnyJ_take 49 (v := ?_) (by first | exact hF | exact wideFn) (HST2.out _ Bd.out) rfl (by kernel_rfl) (by kernel_rfl) (by kernel_rfl) (by kernel_rfl) rfl ?_ (by first | exact fun _ _ _ h => h | exact fun _ _ _ h => hQ2 _ _ _ _ _ h) ?_
                        rotate_left
                        · intro W hSW
                          simp only [List.getElem_toArray, List.getElem_cons_zero, List.getElem_cons_succ]
                          (try dsimp only at hSW)
                          go_simp
                          with_reducible rfl
                        (try simp only [List.getElem_toArray, List.getElem_cons_zero, List.getElem_cons_succ, Act.put, List.setIfInBounds_toArray, List.set_cons_zero, List.set_cons_succ])
                        refine wpAnyJ_take 50 (v := ?_) (by first | exact hF | exact wideFn) (HST2.out _ Bd.out) rfl (by kernel_rfl) (by kernel_rfl) (by kernel_rfl) (by kernel_rfl) rfl ?_ (by first | exact fun _ _ _ h => h | exact fun _ _ _ h => hQ2 _ _ _ _ _ h) ?_
                        rotate_left
                        · intro W hSW
                          simp only [List.getElem_toArray, List.getElem_cons_zero, List.getElem_cons_succ]
                          (try dsimp only at hSW)
                          go_simp
                          with_reducible rfl
                        (try simp only [List.getElem_toArray, List.getElem_cons_zero, List.getElem_cons_succ, Act.put, List.setIfInBounds_toArray, List.set_cons_zero, List.set_cons_succ])
                        refine wpAnyJ_take 51 (v := ?_) (by first | exact hF | exact wideFn) (HST2.out _ Bd.out) rfl (by kernel_rfl) (by kernel_rfl) (by kernel_rfl) (by kernel_rfl) rfl ?_ (by first | exact fun _ _ _ h => h | exact fun _ _ _ h => hQ2 _ _ _ _ _ h) ?_
                        rotate_left
                        · intro W hSW
                          simp only [List.getElem_toArray, List.getElem_cons_zero, List.getElem_cons_succ]
                          (try dsimp only at hSW)
                          go_simp
                          with_reducible rfl
                        (try simp only [List.getElem_toArray, List.getElem_cons_zero, List.getElem_cons_succ, Act.put, List.setIfInBounds_toArray, List.set_cons_zero, List.set_cons_succ])
                        refine wpAnyJ_take 52 (v := ?_) (by first | exact hF | exact wideFn) (HST2.out _ Bd.out) rfl (by kernel_rfl) (by kernel_rfl) (by kernel_rfl) (by kernel_rfl) rfl ?_ (by first | exact fun _ _ _ h => h | exact fun _ _ _ h => hQ2 _ _ _ _ _ h) ?_
                        rotate_left
                        · intro W hSW
                          simp only [List.getElem_toArray, List.getElem_cons_zero, List.getElem_cons_succ]
                          (try dsimp only at hSW)
                          go_simp
                          with_reducible rfl
                        (try simp only [List.getElem_toArray, List.getElem_cons_zero, List.getElem_cons_succ, Act.put, List.setIfInBounds_toArray, List.set_cons_zero, List.set_cons_succ])
                        refine wpAnyJ_take 53 (v := ?_) (by first | exact hF | exact wideFn) (HST2.out _ Bd.out) rfl (by kernel_rfl) (by kernel_rfl) (by kernel_rfl) (by kernel_rfl) rfl ?_ (by first | exact fun _ _ _ h => h | exact fun _ _ _ h => hQ2 _ _ _ _ _ h) ?_
                        rotate_left
                        · intro W hSW
                          simp only [List.getElem_toArray, List.getElem_cons_zero, List.getElem_cons_succ]
                          (try dsimp only at hSW)
                          go_simp
                          with_reducible rfl
                        (try simp only [List.getElem_toArray, List.getElem_cons_zero, List.getElem_cons_succ, Act.put, List.setIfInBounds_toArray, List.set_cons_zero, List.set_cons_succ])
                        refine wpAnyJ_take 54 (v := ?_) (by first | exact hF | exact wideFn) (HST2.out _ Bd.out) rfl (by kernel_rfl) (by kernel_rfl) (by kernel_rfl) (by kernel_rfl) rfl ?_ (by first | exact fun _ _ _ h => h | exact fun _ _ _ h => hQ2 _ _ _ _ _ h) ?_
                        rotate_left
                        · intro W hSW
                          simp only [List.getElem_toArray, List.getElem_cons_zero, List.getElem_cons_succ]
                          (try dsimp only at hSW)
                          go_simp
                          with_reducible rfl
                        (try simp only [List.getElem_toArray, List.getElem_cons_zero, List.getElem_cons_succ, Act.put, List.setIfInBounds_toArray, List.set_cons_zero, List.set_cons_succ])
                        refine wpAnyJ_take 55 (v := ?_) (by first | exact hF | exact wideFn) (HST2.out _ Bd.out) rfl (by kernel_rfl) (by kernel_rfl) (by kernel_rfl) (by kernel_rfl) rfl ?_ (by first | exact fun _ _ _ h => h | exact fun _ _ _ h => hQ2 _ _ _ _ _ h) ?_
                        rotate_left
                        · intro W hSW
                          simp only [List.getElem_toArray, List.getElem_cons_zero, List.getElem_cons_succ]
                          (try dsimp only at hSW)
                          go_simp
                          with_reducible rfl
                        (try simp only [List.getElem_toArray, List.getElem_cons_zero, List.getElem_cons_succ, Act.put, List.setIfInBounds_toArray, List.set_cons_zero, List.set_cons_succ])
                        refine wpAnyJ_take 56 (v := ?_) (by first | exact hF | exact wideFn) (HST2.out _ Bd.out) rfl (by kernel_rfl) (by kernel_rfl) (by kernel_rfl) (by kernel_rfl) rfl ?_ (by first | exact fun _ _ _ h => h | exact fun _ _ _ h => hQ2 _ _ _ _ _ h) ?_
                        rotate_left
                        · intro W hSW
                          simp only [List.getElem_toArray, List.getElem_cons_zero, List.getElem_cons_succ]
                          (try dsimp only at hSW)
                          go_simp
                          with_reducible rfl
                        (try simp only [List.getElem_toArray, List.getElem_cons_zero, List.getElem_cons_succ, Act.put, List.setIfInBounds_toArray, List.set_cons_zero, List.set_cons_succ])
                        refine wpAnyJ_take 57 (v := ?_) (by first | exact hF | exact wideFn) (HST2.out _ Bd.out) rfl (by kernel_rfl) (by kernel_rfl) (by kernel_rfl) (by kernel_rfl) rfl ?_ (by first | exact fun _ _ _ h => h | exact fun _ _ _ h => hQ2 _ _ _ _ _ h) ?_
                        rotate_left
                        · intro W hSW
                          simp only [List.getElem_toArray, List.getElem_cons_zero, List.getElem_cons_succ]
                          (try dsimp only at hSW)
                          go_simp
                          with_reducible rfl
                        (try simp only [List.getElem_toArray, List.getElem_cons_zero, List.getElem_cons_succ, Act.put, List.setIfInBounds_toArray, List.set_cons_zero, List.set_cons_succ])
                        refine wpAnyJ_take 58 (v := ?_) (by first | exact hF | exact wideFn) (HST2.out _ Bd.out) rfl (by kernel_rfl) (by kernel_rfl) (by kernel_rfl) (by kernel_rfl) rfl ?_ (by first | exact fun _ _ _ h => h | exact fun _ _ _ h => hQ2 _ _ _ _ _ h) ?_
                        rotate_left
                        · intro W hSW
                          simp only [List.getElem_toArray, List.getElem_cons_zero, List.getElem_cons_succ]
                          (try dsimp only at hSW)
                          go_simp
                          with_reducible rfl
                        (try simp only [List.getElem_toArray, List.getElem_cons_zero, List.getElem_cons_succ, Act.put, List.setIfInBounds_toArray, List.set_cons_zero, List.set_cons_succ])
                        refine wpAnyJ_take 59 (v := ?_) (by first | exact hF | exact wideFn) (HST2.out _ Bd.out) rfl (by kernel_rfl) (by kernel_rfl) (by kernel_rfl) (by kernel_rfl) rfl ?_ (by first | exact fun _ _ _ h => h | exact fun _ _ _ h => hQ2 _ _ _ _ _ h) ?_
                        rotate_left
                        · intro W hSW
                          simp only [List.getElem_toArray, List.getElem_cons_zero, List.getElem_cons_succ]
                          (try dsimp only at hSW)
                          go_simp
                          with_reducible rfl
                        (try simp only [List.getElem_toArray, List.getElem_cons_zero, List.getElem_cons_succ, Act.put, List.setIfInBounds_toArray, List.set_cons_zero, List.set_cons_succ])
                        refine wpAnyJ_take 60 (v := ?_) (by first | exact hF | exact wideFn) (HST2.out _ Bd.out) rfl (by kernel_rfl) (by kernel_rfl) (by kernel_rfl) (by kernel_rfl) rfl ?_ (by first | exact fun _ _ _ h => h | exact fun _ _ _ h => hQ2 _ _ _ _ _ h) ?_
                        rotate_left
                        · intro W hSW
                          simp only [List.getElem_toArray, List.getElem_cons_zero, List.getElem_cons_succ]
                          (try dsimp only at hSW)
                          go_simp
                          with_reducible rfl
                        (try simp only [List.getElem_toArray, List.getElem_cons_zero, List.getElem_cons_succ, Act.put, List.setIfInBounds_toArray, List.set_cons_zero, List.set_cons_succ])
                        refine wpAnyJ_take 61 (v := ?_) (by first | exact hF | exact wideFn) (HST2.out _ Bd.out) rfl (by kernel_rfl) (by kernel_rfl) (by kernel_rfl) (by kernel_rfl) rfl ?_ (by first | exact fun _ _ _ h => h | exact fun _ _ _ h => hQ2 _ _ _ _ _ h) ?_
                        rotate_left
                        · intro W hSW
                          simp only [List.getElem_toArray, List.getElem_cons_zero, List.getElem_cons_succ]
                          (try dsimp only at hSW)
                          go_simp
                          with_reducible rfl
                        (try simp only [List.getElem_toArray, List.getElem_cons_zero, List.getElem_cons_succ, Act.put, List.setIfInBounds_toArray, List.set_cons_zero, List.set_cons_succ])
                        refine wpAnyJ_take 62 (v := ?_) (by first | exact hF | exact wideFn) (HST2.out _ Bd.out) rfl (by kernel_rfl) (by kernel_rfl) (by kernel_rfl) (by kernel_rfl) rfl ?_ (by first | exact fun _ _ _ h => h | exact fun _ _ _ h => hQ2 _ _ _ _ _ h) ?_
                        rotate_left
                        · intro W hSW
                          simp only [List.getElem_toArray, List.getElem_cons_zero, List.getElem_cons_succ]
                          (try dsimp only at hSW)
                          go_simp
                          with_reducible rfl
                        (try simp only [List.getElem_toArray, List.getElem_cons_zero, List.getElem_cons_succ, Act.put, List.setIfInBounds_toArray, List.set_cons_zero, List.set_cons_succ])
                        refine wpAnyJ_take 63 (v := ?_) (by first | exact hF | exact wideFn) (HST2.out _ Bd.out) rfl (by kernel_rfl) (by kernel_rfl) (by kernel_rfl) (by kernel_rfl) rfl ?_ (by first | exact fun _ _ _ h => h | exact fun _ _ _ h => hQ2 _ _ _ _ _ h) ?_
                        rotate_left
                        · intro W hSW
                          simp only [List.getElem_toArray, List.getElem_cons_zero, List.getElem_cons_succ]
                          (try dsimp only at hSW)
                          go_simp
                          with_reducible rfl
                        (try simp only [List.getElem_toArray, List.getElem_cons_zero, List.getElem_cons_succ, Act.put, List.setIfInBounds_toArray, List.set_cons_zero, List.set_cons_succ])
                        refine wpAnyJ_take 64 (v := ?_) (by first | exact hF | exact wideFn) (HST2.out _ Bd.out) rfl (by kernel_rfl) (by kernel_rfl) (by kernel_rfl) (by kernel_rfl) rfl ?_ (by first | exact fun _ _ _ h => h | exact fun _ _ _ h => hQ2 _ _ _ _ _ h) ?_
                        rotate_left
                        · intro W hSW
                          simp only [List.getElem_toArray, List.getElem_cons_zero, List.getElem_cons_succ]
                          (try dsimp only at hSW)
                          go_simp
                          with_reducible rfl
                        (try simp only [List.getElem_toArray, List.getElem_cons_zero, List.getElem_cons_succ, Act.put, List.setIfInBounds_toArray, List.set_cons_zero, List.set_cons_succ])
                        refine wpAnyJ_take 65 (v := ?_) (by first | exact hF | exact wideFn) (HST2.out _ Bd.out) rfl (by kernel_rfl) (by kernel_rfl) (by kernel_rfl) (by kernel_rfl) rfl ?_ (by first | exact fun _ _ _ h => h | exact fun _ _ _ h => hQ2 _ _ _ _ _ h) ?_
                        rotate_left
                        · intro W hSW
                          simp only [List.getElem_toArray, List.getElem_cons_zero, List.getElem_cons_succ]
                          (try dsimp only at hSW)
                          go_simp
                          with_reducible rfl
                        (try simp only [List.getElem_toArray, List.getElem_cons_zero, List.getElem_cons_succ, Act.put, List.setIfInBounds_toArray, List.set_cons_zero, List.set_cons_succ])
                        refine wpAnyJ_take 66 (v := ?_) (by first | exact hF | exact wideFn) (HST2.out _ Bd.out) rfl (by kernel_rfl) (by kernel_rfl) (by kernel_rfl) (by kernel_rfl) rfl ?_ (by first | exact fun _ _ _ h => h | exact fun _ _ _ h => hQ2 _ _ _ _ _ h) ?_
                        rotate_left
                        · intro W hSW
                          simp only [List.getElem_toArray, List.getElem_cons_zero, List.getElem_cons_succ]
                          (try dsimp only at hSW)
                          go_simp
                          with_reducible rfl
                        (try simp only [List.getElem_toArray, List.getElem_cons_zero, List.getElem_cons_succ, Act.put, List.setIfInBounds_toArray, List.set_cons_zero, List.set_cons_succ])
                        refine wpAnyJ_take 67 (v := ?_) (by first | exact hF | exact wideFn) (HST2.out _ Bd.out) rfl (by kernel_rfl) (by kernel_rfl) (by kernel_rfl) (by kernel_rfl) rfl ?_ (by first | exact fun _ _ _ h => h | exact fun _ _ _ h => hQ2 _ _ _ _ _ h) ?_
                        rotate_left
                        · intro W hSW
                          simp only [List.getElem_toArray, List.getElem_cons_zero, List.getElem_cons_succ]
                          (try dsimp only at hSW)
                          go_simp
                          with_reducible rfl
                        (try simp only [List.getElem_toArray, List.getElem_cons_zero, List.getElem_cons_succ, Act.put, List.setIfInBounds_toArray, List.set_cons_zero, List.set_cons_succ])
                        refine wpAnyJ_take 68 (v := ?_) (by first | exact hF | exact wideFn) (HST2.out _ Bd.out) rfl (by kernel_rfl) (by kernel_rfl) (by kernel_rfl) (by kernel_rfl) rfl ?_ (by first | exact fun _ _ _ h => h | exact fun _ _ _ h => hQ2 _ _ _ _ _ h) ?_
                        rotate_left
                        · intro W hSW
                          simp only [List.getElem_toArray, List.getElem_cons_zero, List.getElem_cons_succ]
                          (try dsimp only at hSW)
                          go_simp
                          with_reducible rfl
                        (try simp only [List.getElem_toArray, List.getElem_cons_zero, List.getElem_cons_succ, Act.put, List.setIfInBounds_toArray, List.set_cons_zero, List.set_cons_succ])
                        refine wpAnyJ_take 69 (v := ?_) (by first | exact hF | exact wideFn) (HST2.out _ Bd.out) rfl (by kernel_rfl) (by kernel_rfl) (by kernel_rfl) (by kernel_rfl) rfl ?_ (by first | exact fun _ _ _ h => h | exact fun _ _ _ h => hQ2 _ _ _ _ _ h) ?_
                        rotate_left
                        · intro W hSW
                          simp only [List.getElem_toArray, List.getElem_cons_zero, List.getElem_cons_succ]
                          (try dsimp only at hSW)
                          go_simp
                          with_reducible rfl
                        (try simp only [List.getElem_toArray, List.getElem_cons_zero, List.getElem_cons_succ, Act.put, List.setIfInBounds_toArray, List.set_cons_zero, List.set_cons_succ])
                        refine wpAnyJ_take 70 (v := ?_) (by first | exact hF | exact wideFn) (HST2.out _ Bd.out) rfl (by kernel_rfl) (by kernel_rfl) (by kernel_rfl) (by kernel_rfl) rfl ?_ (by first | exact fun _ _ _ h => h | exact fun _ _ _ h => hQ2 _ _ _ _ _ h) ?_
                        rotate_left
                        · intro W hSW
                          simp only [List.getElem_toArray, List.getElem_cons_zero, List.getElem_cons_succ]
                          (try dsimp only at hSW)
                          go_simp
                          with_reducible rfl
                        (try simp only [List.getElem_toArray, List.getElem_cons_zero, List.getElem_cons_succ, Act.put, List.setIfInBounds_toArray, List.set_cons_zero, List.set_cons_succ])
                        refine wpAnyJ_take 71 (v := ?_) (by first | exact hF | exact wideFn) (HST2.out _ Bd.out) rfl (by kernel_rfl) (by kernel_rfl) (by kernel_rfl) (by kernel_rfl) rfl ?_ (by first | exact fun _ _ _ h => h | exact fun _ _ _ h => hQ2 _ _ _ _ _ h) ?_
                        rotate_left
                        · intro W hSW
                          simp only [List.getElem_toArray, List.getElem_cons_zero, List.getElem_cons_succ]
                          (try dsimp only at hSW)
                          go_simp
                          with_reducible rfl
                        (try simp only [List.getElem_toArray, List.getElem_cons_zero, List.getElem_cons_succ, Act.put, List.setIfInBounds_toArray, List.set_cons_zero, List.set_cons_succ])
                        refine wpAnyJ_take 72 (v := ?_) (by first | exact hF | exact wideFn) (HST2.out _ Bd.out) rfl (by kernel_rfl) (by kernel_rfl) (by kernel_rfl) (by kernel_rfl) rfl ?_ (by first | exact fun _ _ _ h => h | exact fun _ _ _ h => hQ2 _ _ _ _ _ h) ?_
                        rotate_left
                        · intro W hSW
                          simp only [List.getElem_toArray, List.getElem_cons_zero, List.getElem_cons_succ]
                          (try dsimp only at hSW)
                          go_simp
                          with_reducible rfl
                        (try simp only [List.getElem_toArray, List.getElem_cons_zero, List.getElem_cons_succ, Act.put, List.setIfInBounds_toArray, List.set_cons_zero, List.set_cons_succ])
                        refine wpAnyJ_take 73 (v := ?_) (by first | exact hF | exact wideFn) (HST2.out _ Bd.out) rfl (by kernel_rfl) (by kernel_rfl) (by kernel_rfl) (by kernel_rfl) rfl ?_ (by first | exact fun _ _ _ h => h | exact fun _ _ _ h => hQ2 _ _ _ _ _ h) ?_
                        rotate_left
                        · intro W hSW
                          simp only [List.getElem_toArray, List.getElem_cons_zero, List.getElem_cons_succ]
                          (try dsimp only at hSW)
                          go_simp
                          with_reducible rfl
                        (try simp only [List.getElem_toArray, List.getElem_cons_zero, List.getElem_cons_succ, Act.put, List.setIfInBounds_toArray, List.set_cons_zero, List.set_cons_succ])
                        refine wpAnyJ_take 74 (v := ?_) (by first | exact hF | exact wideFn) (HST2.out _ Bd.out) rfl (by kernel_rfl) (by kernel_rfl) (by kernel_rfl) (by kernel_rfl) rfl ?_ (by first | exact fun _ _ _ h => h | exact fun _ _ _ h => hQ2 _ _ _ _ _ h) ?_
                        rotate_left
                        · intro W hSW
                          simp only [List.getElem_toArray, List.getElem_cons_zero, List.getElem_cons_succ]
                          (try dsimp only at hSW)
                          go_simp
                          with_reducible rfl
                        (try simp only [List.getElem_toArray, List.getElem_cons_zero, List.getElem_cons_succ, Act.put, List.setIfInBounds_toArray, List.set_cons_zero, List.set_cons_succ])
                        refine wpAnyJ_done (by kernel_rfl) ?_
                        clear n0 n1 n2 wk
                        have HVD := hide (HVA.out.trans (Bd.out.mono HVA.out.size))
                        obtain ⟨-, y1, y2, -, -⟩ := blk2 (KB8.out.ext Bd.out)
                        by_cases htH : t' = H
                        · have hkH : k < s.wn H := HPT.out.1 htH
                          have hm2 : m + 1 = min (k + 1) (s.wn H) := by have := HM.out; omega
                          have HM2 := hide hm2
                          have e1 : ((t' : Int) == (H : Int)) = true := by simp; omega
                          have e2 : (t' == H) = true := by simp; omega
                          clear hm2 hkH
                          go_wp2_with fail
                          go_roundw
                          case rel => exact ⟨k + 1, m + 1, by go_num, by omega, by go_num, by omega, HM2, HVD⟩
                          case measure => simp [intOf]; omega
                        · have hkH : ¬ k < s.wn H := fun e => htH (HPT.out.2 e)
                          have hm2 : m = min (k + 1) (s.wn H) := by have := HM.out; omega
                          have HM2 := hide hm2
                          have e1 : ((t' : Int) == (H : Int)) = false := by simp; omega
                          have e2 : (t' == H) = false := by simp; omega
                          clear hm2 hkH
                          go_wp2_with fail
                          go_roundw
                          case rel => exact ⟨k + 1, m, by go_num, by omega, rfl, by omega, HM2, HVD⟩
                          case measure => simp [intOf]; omega
                        -- END6
                    · as_aux_lemma =>
                      -- BEGIN7
                      have l0 : ¬ (0 : Int) < (k : Int) := by omega
                      generalize (wr.alloc (.cells #[.int .i64 t, .int .i64 j] 59)) = W8 at KB8 HVA HST ⊢
                      have Bd := hide (Below.refl W8.heap.size W8).drew
                      (try dsimp only [List.append])
                      refine wp_region_J (fun W : World => (W.cell? ⟨g22, 0, none⟩ = some (.int .i64 t) ∧ W.cell? ⟨g22, 1, none⟩ = some (.int .i64 j)) ∧ W.cell? ⟨z, t, none⟩ = some (.slice (some ⟨gb, goff, none⟩) (s.wn t) cc1) ∧ W.cell? ⟨gb, goff + j * 2, none⟩ = some (.int .i64 0)) (by kernel_rfl) ?_
                      generalize W8.drew = wd at Bd ⊢
                      refine wpAnyJ_take 0 (v := ?_) (by first | exact hF | exact wideFn) (HST.out _ Bd.out) rfl (by kernel_rfl) (by kernel_rfl) (by kernel_rfl) (by kernel_rfl) rfl ?_ (by first | exact fun _ _ _ h => h | exact fun _ _ _ h => hQ2 _ _ _ _ _ h) ?_
                      rotate_left
                      · intro W hSW
                        simp only [List.getElem_toArray, List.getElem_cons_zero, List.getElem_cons_succ]
                        (try dsimp only at hSW)
                        go_simp
                        with_reducible rfl
                      (try simp only [List.getElem_toArray, List.getElem_cons_zero, List.getElem_cons_succ, Act.put, List.setIfInBounds_toArray, List.set_cons_zero, List.set_cons_succ])
                      refine wpAnyJ_take 1 (v := ?_) (by first | exact hF | exact wideFn) (HST.out _ Bd.out) rfl (by kernel_rfl) (by kernel_rfl) (by kernel_rfl) (by kernel_rfl) rfl ?_ (by first | exact fun _ _ _ h => h | exact fun _ _ _ h => hQ2 _ _ _ _ _ h) ?_
                      rotate_left
                      · intro W hSW
                        simp only [List.getElem_toArray, List.getElem_cons_zero, List.getElem_cons_succ]
                        (try dsimp only at hSW)
                        go_simp
                        with_reducible rfl
                      (try simp only [List.getElem_toArray, List.getElem_cons_zero, List.getElem_cons_succ, Act.put, List.setIfInBounds_toArray, List.set_cons_zero, List.set_cons_succ])
                      refine wpAnyJ_take 2 (v := ?_) (by first | exact hF | exact wideFn) (HST.out _ Bd.out) rfl (by kernel_rfl) (by kernel_rfl) (by kernel_rfl) (by kernel_rfl) rfl ?_ (by first | exact fun _ _ _ h => h | exact fun _ _ _ h => hQ2 _ _ _ _ _ h) ?_
                      rotate_left
                      · intro W hSW
                        simp only [List.getElem_toArray, List.getElem_cons_zero, List.getElem_cons_succ]
                        (try dsimp only at hSW)
                        go_simp
                        with_reducible rfl
                      (try simp only [List.getElem_toArray, List.getElem_cons_zero, List.getElem_cons_succ, Act.put, List.setIfInBounds_toArray, List.set_cons_zero, List.set_cons_succ])
                      refine wpAnyJ_take 3 (v := ?_) (by first | exact hF | exact wideFn) (HST.out _ Bd.out) rfl (by kernel_rfl) (by kernel_rfl) (by kernel_rfl) (by kernel_rfl) rfl ?_ (by first | exact fun _ _ _ h => h | exact fun _ _ _ h => hQ2 _ _ _ _ _ h) ?_
                      rotate_left
                      · intro W hSW
                        simp only [List.getElem_toArray, List.getElem_cons_zero, List.getElem_cons_succ]
                        (try dsimp only at hSW)
                        go_simp
                        with_reducible rfl
                      (try simp only [List.getElem_toArray, List.getElem_cons_zero, List.getElem_cons_succ, Act.put, List.setIfInBounds_toArray, List.set_cons_zero, List.set_cons_succ])
                      refine wpAnyJ_take 4 (v := ?_) (by first | exact hF | exact wideFn) (HST.out _ Bd.out) rfl (by kernel_rfl) (by kernel_rfl) (by kernel_rfl) (by kernel_rfl) rfl ?_ (by first | exact fun _ _ _ h => h | exact fun _ _ _ h => hQ2 _ _ _ _ _ h) ?_
                      rotate_left
                      · intro W hSW
                        simp only [List.getElem_toArray, List.getElem_cons_zero, List.getElem_cons_succ]
                        (try dsimp only at hSW)
                        go_simp
                        with_reducible rfl
                      (try simp only [List.getElem_toArray, List.getElem_cons_zero, List.getElem_cons_succ, Act.put, List.setIfInBounds_toArray, List.set_cons_zero, List.set_cons_succ])
                      refine wpAnyJ_take 5 (v := ?_) (by first | exact hF | exact wideFn) (HST.out _ Bd.out) rfl (by kernel_rfl) (by kernel_rfl) (by kernel_rfl) (by kernel_rfl) rfl ?_ (by first | exact fun _ _ _ h => h | exact fun _ _ _ h => hQ2 _ _ _ _ _ h) ?_
                      rotate_left
                      · intro W hSW
                        simp only [List.getElem_toArray, List.getElem_cons_zero, List.getElem_cons_succ]
                        (try dsimp only at hSW)
                        go_simp
                        with_reducible rfl
                      (try simp only [List.getElem_toArray, List.getElem_cons_zero, List.getElem_cons_succ, Act.put, List.setIfInBounds_toArray, List.set_cons_zero, List.set_cons_succ])
                      refine wpAnyJ_take 6 (v := ?_) (by first | exact hF | exact wideFn) (HST.out _ Bd.out) rfl (by kernel_rfl) (by kernel_rfl) (by kernel_rfl) (by kernel_rfl) rfl ?_ (by first | exact fun _ _ _ h => h | exact fun _ _ _ h => hQ2 _ _ _ _ _ h) ?_
                      rotate_left
                      · intro W hSW
                        simp only [List.getElem_toArray, List.getElem_cons_zero, List.getElem_cons_succ]
                        (try dsimp only at hSW)
                        go_simp
                        with_reducible rfl
                      (try simp only [List.getElem_toArray, List.getElem_cons_zero, List.getElem_cons_succ, Act.put, List.setIfInBounds_toArray, List.set_cons_zero, List.set_cons_succ])
                      refine wpAnyJ_take 7 (v := ?_) (by first | exact hF | exact wideFn) (HST.out _ Bd.out) rfl (by kernel_rfl) (by kernel_rfl) (by kernel_rfl) (by kernel_rfl) rfl ?_ (by first | exact fun _ _ _ h => h | exact fun _ _ _ h => hQ2 _ _ _ _ _ h) ?_
                      rotate_left
                      · intro W hSW
                        simp only [List.getElem_toArray, List.getElem_cons_zero, List.getElem_cons_succ]
                        (try dsimp only at hSW)
                        go_simp
                        with_reducible rfl
                      (try simp only [List.getElem_toArray, List.getElem_cons_zero, List.getElem_cons_succ, Act.put, List.setIfInBounds_toArray, List.set_cons_zero, List.set_cons_succ])
                      refine wpAnyJ_take 8 (v := ?_) (by first | exact hF | exact wideFn) (HST.out _ Bd.out) rfl (by kernel_rfl) (by kernel_rfl) (by kernel_rfl) (by kernel_rfl) rfl ?_ (by first | exact fun _ _ _ h => h | exact fun _ _ _ h => hQ2 _ _ _ _ _ h) ?_
                      rotate_left
                      · intro W hSW
                        simp only [List.getElem_toArray, List.getElem_cons_zero, List.getElem_cons_succ]
                        (try dsimp only at hSW)
                        go_simp
                        with_reducible rfl
                      (try simp only [List.getElem_toArray, List.getElem_cons_zero, List.getElem_cons_succ, Act.put, List.setIfInBounds_toArray, List.set_cons_zero, List.set_cons_succ])
                      refine wpAnyJ_take 9 (v := ?_) (by first | exact hF | exact wideFn) (HST.out _ Bd.out) rfl (by kernel_rfl) (by kernel_rfl) (by kernel_rfl) (by kernel_rfl) rfl ?_ (by first | exact fun _ _ _ h => h | exact fun _ _ _ h => hQ2 _ _ _ _ _ h) ?_
                      rotate_left
                      · intro W hSW
                        simp only [List.getElem_toArray, List.getElem_cons_zero, List.getElem_cons_succ]
                        (try dsimp only at hSW)
                        go_simp
                        with_reducible rfl
                      (try simp only [List.getElem_toArray, List.getElem_cons_zero, List.getElem_cons_succ, Act.put, List.setIfInBounds_toArray, List.set_cons_zero, List.set_cons_succ])
                      refine wpAnyJ_take 10 (v := ?_) (by first | exact hF | exact wideFn) (HST.out _ Bd.out) rfl (by kernel_rfl) (by kernel_rfl) (by kernel_rfl) (by kernel_rfl) rfl ?_ (by first | exact fun _ _ _ h => h | exact fun _ _ _ h => hQ2 _ _ _ _ _ h) ?_
                      rotate_left
                      · intro W hSW
                        simp only [List.getElem_toArray, List.getElem_cons_zero, List.getElem_cons_succ]
                        (try dsimp only at hSW)
                        go_simp
                        with_reducible rfl
                      (try simp only [List.getElem_toArray, List.getElem_cons_zero, List.getElem_cons_succ, Act.put, List.setIfInBounds_toArray, List.set_cons_zero, List.set_cons_succ])
                      refine wpAnyJ_take 11 (v := ?_) (by first | exact hF | exact wideFn) (HST.out _ Bd.out) rfl (by kernel_rfl) (by kernel_rfl) (by kernel_rfl) (by kernel_rfl) rfl ?_ (by first | exact fun _ _ _ h => h | exact fun _ _ _ h => hQ2 _ _ _ _ _ h) ?_
                      rotate_left
                      · intro W hSW
                        simp only [List.getElem_toArray, List.getElem_cons_zero, List.getElem_cons_succ]
                        (try dsimp only at hSW)
                        go_simp
                        with_reducible rfl
                      (try simp only [List.getElem_toArray, List.getElem_cons_zero, List.getElem_cons_succ, Act.put, List.setIfInBounds_toArray, List.set_cons_zero, List.set_cons_succ])
                      refine wpAnyJ_take 12 (v := ?_) (by first | exact hF | exact wideFn) (HST.out _ Bd.out) rfl (by kernel_rfl) (by kernel_rfl) (by kernel_rfl) (by kernel_rfl) rfl ?_ (by first | exact fun _ _ _ h => h | exact fun _ _ _ h => hQ2 _ _ _ _ _ h) ?_
                      rotate_left
                      · intro W hSW
                        simp only [List.getElem_toArray, List.getElem_cons_zero, List.getElem_cons_succ]
                        (try dsimp only at hSW)
                        go_simp
                        with_reducible rfl
                      (try simp only [List.getElem_toArray, List.getElem_cons_zero, List.getElem_cons_succ, Act.put, List.setIfInBounds_toArray, List.set_cons_zero, List.set_cons_succ])
                      refine wpAnyJ_take 13 (v := ?_) (by first | exact hF | exact wideFn) (HST.out _ Bd.out) rfl (by kernel_rfl) (by kernel_rfl) (by kernel_rfl) (by kernel_rfl) rfl ?_ (by first | exact fun _ _ _ h => h | exact fun _ _ _ h => hQ2 _ _ _ _ _ h) ?_
                      rotate_left
                      · intro W hSW
                        simp only [List.getElem_toArray, List.getElem_cons_zero, List.getElem_cons_succ]
                        (try dsimp only at hSW)
                        go_simp
                        with_reducible rfl
                      (try simp only [List.getElem_toArray, List.getElem_cons_zero, List.getElem_cons_succ, Act.put, List.setIfInBounds_toArray, List.set_cons_zero, List.set_cons_succ])
                      refine wpAnyJ_take 14 (v := ?_) (by first | exact hF | exact wideFn) (HST.out _ Bd.out) rfl (by kernel_rfl) (by kernel_rfl) (by kernel_rfl) (by kernel_rfl) rfl ?_ (by first | exact fun _ _ _ h => h | exact fun _ _ _ h => hQ2 _ _ _ _ _ h) ?_
                      rotate_left
                      · intro W hSW
                        simp only [List.getElem_toArray, List.getElem_cons_zero, List.getElem_cons_succ]
                        (try dsimp only at hSW)
                        go_simp
                        with_reducible rfl
                      (try simp only [List.getElem_toArray, List.getElem_cons_zero, List.getElem_cons_succ, Act.put, List.setIfInBounds_toArray, List.set_cons_zero, List.set_cons_succ])
                      refine wpAnyJ_take 15 (v := ?_) (by first | exact hF | exact wideFn) (HST.out _ Bd.out) rfl (by kernel_rfl) (by kernel_rfl) (by kernel_rfl) (by kernel_rfl) rfl ?_ (by first | exact fun _ _ _ h => h | exact fun _ _ _ h => hQ2 _ _ _ _ _ h) ?_
                      rotate_left
                      · intro W hSW
                        simp only [List.getElem_toArray, List.getElem_cons_zero, List.getElem_cons_succ]
                        (try dsimp only at hSW)
                        go_simp
                        with_reducible rfl
                      (try simp only [List.getElem_toArray, List.getElem_cons_zero, List.getElem_cons_succ, Act.put, List.setIfInBounds_toArray, List.set_cons_zero, List.set_cons_succ])
                      refine wpAnyJ_take 16 (v := ?_) (by first | exact hF | exact wideFn) (HST.out _ Bd.out) rfl (by kernel_rfl) (by kernel_rfl) (by kernel_rfl) (by kernel_rfl) rfl ?_ (by first | exact fun _ _ _ h => h | exact fun _ _ _ h => hQ2 _ _ _ _ _ h) ?_
                      rotate_left
                      · intro W hSW
                        simp only [List.getElem_toArray, List.getElem_cons_zero, List.getElem_cons_succ]
                        (try dsimp only at hSW)
                        go_simp
                        with_reducible rfl
                      (try simp only [List.getElem_toArray, List.getElem_cons_zero, List.getElem_cons_succ, Act.put, List.setIfInBounds_toArray, List.set_cons_zero, List.set_cons_succ])
                      refine wpAnyJ_take 17 (v := ?_) (by first | exact hF | exact wideFn) (HST.out _ Bd.out) rfl (by kernel_rfl) (by kernel_rfl) (by kernel_rfl) (by kernel_rfl) rfl ?_ (by first | exact fun _ _ _ h => h | exact fun _ _ _ h => hQ2 _ _ _ _ _ h) ?_
                      rotate_left
                      · intro W hSW
                        simp only [List.getElem_toArray, List.getElem_cons_zero, List.getElem_cons_succ]
                        (try dsimp only at hSW)
                        go_simp
                        with_reducible rfl
                      (try simp only [List.getElem_toArray, List.getElem_cons_zero, List.getElem_cons_succ, Act.put, List.setIfInBounds_toArray, List.set_cons_zero, List.set_cons_succ])
                      refine wpAnyJ_take 18 (v := ?_) (by first | exact hF | exact wideFn) (HST.out _ Bd.out) rfl (by kernel_rfl) (by kernel_rfl) (by kernel_rfl) (by kernel_rfl) rfl ?_ (by first | exact fun _ _ _ h => h | exact fun _ _ _ h => hQ2 _ _ _ _ _ h) ?_
                      rotate_left
                      · intro W hSW
                        simp only [List.getElem_toArray, List.getElem_cons_zero, List.getElem_cons_succ]
                        (try dsimp only at hSW)
                        go_simp
                        with_reducible rfl
                      (try simp only [List.getElem_toArray, List.getElem_cons_zero, List.getElem_cons_succ, Act.put, List.setIfInBounds_toArray, List.set_cons_zero, List.set_cons_succ])
                      refine wpAnyJ_take 19 (v := ?_) (by first | exact hF | exact wideFn) (HST.out _ Bd.out) rfl (by kernel_rfl) (by kernel_rfl) (by kernel_rfl) (by kernel_rfl) rfl ?_ (by first | exact fun _ _ _ h => h | exact fun _ _ _ h => hQ2 _ _ _ _ _ h) ?_
                      rotate_left
                      · intro W hSW
                        simp only [List.getElem_toArray, List.getElem_cons_zero, List.getElem_cons_succ]
                        (try dsimp only at hSW)
                        go_simp
                        with_reducible rfl
                      (try simp only [List.getElem_toArray, List.getElem_cons_zero, List.getElem_cons_succ, Act.put, List.setIfInBounds_toArray, List.set_cons_zero, List.set_cons_succ])
                      refine wpAnyJ_take 20 (v := ?_) (by first | exact hF | exact wideFn) (HST.out _ Bd.out) rfl (by kernel_rfl) (by kernel_rfl) (by kernel_rfl) (by kernel_rfl) rfl ?_ (by first | exact fun _ _ _ h => h | exact fun _ _ _ h => hQ2 _ _ _ _ _ h) ?_
                      rotate_left
                      · intro W hSW
                        simp only [List.getElem_toArray, List.getElem_cons_zero, List.getElem_cons_succ]
                        (try dsimp only at hSW)
                        go_simp
                        with_reducible rfl
                      (try simp only [List.getElem_toArray, List.getElem_cons_zero, List.getElem_cons_succ, Act.put, List.setIfInBounds_toArray, List.set_cons_zero, List.set_cons_succ])
                      refine wpAnyJ_take 21 (v := ?_) (by first | exact hF | exact wideFn) (HST.out _ Bd.out) rfl (by kernel_rfl) (by kernel_rfl) (by kernel_rfl) (by kernel_rfl) rfl ?_ (by first | exact fun _ _ _ h => h | exact fun _ _ _ h => hQ2 _ _ _ _ _ h) ?_
                      rotate_left
                      · intro W hSW
                        simp only [List.getElem_toArray, List.getElem_cons_zero, List.getElem_cons_succ]
                        (try dsimp only at hSW)
                        go_simp
                        with_reducible rfl
                      (try simp only [List.getElem_toArray, List.getElem_cons_zero, List.getElem_cons_succ, Act.put, List.setIfInBounds_toArray, List.set_cons_zero, List.set_cons_succ])
                      refine wpAnyJ_take 22 (v := ?_) (by first | exact hF | exact wideFn) (HST.out _ Bd.out) rfl (by kernel_rfl) (by kernel_rfl) (by kernel_rfl) (by kernel_rfl) rfl ?_ (by first | exact fun _ _ _ h => h | exact fun _ _ _ h => hQ2 _ _ _ _ _ h) ?_
                      rotate_left
                      · intro W hSW
                        simp only [List.getElem_toArray, List.getElem_cons_zero, List.getElem_cons_succ]
                        (try dsimp only at hSW)
                        go_simp
                        with_reducible rfl
                      (try simp only [List.getElem_toArray, List.getElem_cons_zero, List.getElem_cons_succ, Act.put, List.setIfInBounds_toArray, List.set_cons_zero, List.set_cons_succ])
                      refine wpAnyJ_take 23 (v := ?_) (by first | exact hF | exact wideFn) (HST.out _ Bd.out) rfl (by kernel_rfl) (by kernel_rfl) (by kernel_rfl) (by kernel_rfl) rfl ?_ (by first | exact fun _ _ _ h => h | exact fun _ _ _ h => hQ2 _ _ _ _ _ h) ?_
                      rotate_left
                      · intro W hSW
                        simp only [List.getElem_toArray, List.getElem_cons_zero, List.getElem_cons_succ]
                        (try dsimp only at hSW)
                        go_simp
                        with_reducible rfl
                      (try simp only [List.getElem_toArray, List.getElem_cons_zero, List.getElem_cons_succ, Act.put, List.setIfInBounds_toArray, List.set_cons_zero, List.set_cons_succ])
                      refine wpAnyJ_take 24 (v := ?_) (by first | exact hF | exact wideFn) (HST.out _ Bd.out) rfl (by kernel_rfl) (by kernel_rfl) (by kernel_rfl) (by kernel_rfl) rfl ?_ (by first | exact fun _ _ _ h => h | exact fun _ _ _ h => hQ2 _ _ _ _ _ h) ?_
                      rotate_left
                      · intro W hSW
                        simp only [List.getElem_toArray, List.getElem_cons_zero, List.getElem_cons_succ]
                        (try dsimp only at hSW)
                        go_simp
                        with_reducible rfl
                      (try simp only [List.getElem_toArray, List.getElem_cons_zero, List.getElem_cons_succ, Act.put, List.setIfInBounds_toArray, List.set_cons_zero, List.set_cons_succ])
                      refine wpAnyJ_take 25 (v := ?_) (by first | exact hF | exact wideFn) (HST.out _ Bd.out) rfl (by kernel_rfl) (by kernel_rfl) (by kernel_rfl) (by kernel_rfl) rfl ?_ (by first | exact fun _ _ _ h => h | exact fun _ _ _ h => hQ2 _ _ _ _ _ h) ?_
                      rotate_left
                      · intro W hSW
                        simp only [List.getElem_toArray, List.getElem_cons_zero, List.getElem_cons_succ]
                        (try dsimp only at hSW)
                        go_simp
                        with_reducible rfl
                      (try simp only [List.getElem_toArray, List.getElem_cons_zero, List.getElem_cons_succ, Act.put, List.setIfInBounds_toArray, List.set_cons_zero, List.set_cons_succ])
                      refine wpAnyJ_take 26 (v := ?_) (by first | exact hF | exact wideFn) (HST.out _ Bd.out) rfl (by kernel_rfl) (by kernel_rfl) (by kernel_rfl) (by kernel_rfl) rfl ?_ (by first | exact fun _ _ _ h => h | exact fun _ _ _ h => hQ2 _ _ _ _ _ h) ?_
                      rotate_left
                      · intro W hSW
                        simp only [List.getElem_toArray, List.getElem_cons_zero, List.getElem_cons_succ]
                        (try dsimp only at hSW)
                        go_simp
                        with_reducible rfl
                      (try simp only [List.getElem_toArray, List.getElem_cons_zero, List.getElem_cons_succ, Act.put, List.setIfInBounds_toArray, List.set_cons_zero, List.set_cons_succ])
                      refine wpAnyJ_take 27 (v := ?_) (by first | exact hF | exact wideFn) (HST.out _ Bd.out) rfl (by kernel_rfl) (by kernel_rfl) (by kernel_rfl) (by kernel_rfl) rfl ?_ (by first | exact fun _ _ _ h => h | exact fun _ _ _ h => hQ2 _ _ _ _ _ h) ?_
                      rotate_left
                      · intro W hSW
                        simp only [List.getElem_toArray, List.getElem_cons_zero, List.getElem_cons_succ]
                        (try dsimp only at hSW)
                        go_simp
                        with_reducible rfl
                      (try simp only [List.getElem_toArray, List.getElem_cons_zero, List.getElem_cons_succ, Act.put, List.setIfInBounds_toArray, List.set_cons_zero, List.set_cons_succ])
                      refine wpAnyJ_take 28 (v := ?_) (by first | exact hF | exact wideFn) (HST.out _ Bd.out) rfl (by kernel_rfl) (by kernel_rfl) (by kernel_rfl) (by kernel_rfl) rfl ?_ (by first | exact fun _ _ _ h => h | exact fun _ _ _ h => hQ2 _ _ _ _ _ h) ?_
                      rotate_left
                      · intro W hSW
                        simp only [List.getElem_toArray, List.getElem_cons_zero, List.getElem_cons_succ]
                        (try dsimp only at hSW)
                        go_simp
                        with_reducible rfl
                      (try simp only [List.getElem_toArray, List.getElem_cons_zero, List.getElem_cons_succ, Act.put, List.setIfInBounds_toArray, List.set_cons_zero, List.set_cons_succ])
                      refine wpAnyJ_take 29 (v := ?_) (by first | exact hF | exact wideFn) (HST.out _ Bd.out) rfl (by kernel_rfl) (by kernel_rfl) (by kernel_rfl) (by kernel_rfl) rfl ?_ (by first | exact fun _ _ _ h => h | exact fun _ _ _ h => hQ2 _ _ _ _ _ h) ?_
                      rotate_left
                      · intro W hSW
                        simp only [List.getElem_toArray, List.getElem_cons_zero, List.getElem_cons_succ]
                        (try dsimp only at hSW)
                        go_simp
                        with_reducible rfl
                      (try simp only [List.getElem_toArray, List.getElem_cons_zero, List.getElem_cons_succ, Act.put, List.setIfInBounds_toArray, List.set_cons_zero, List.set_cons_succ])
                      refine wpAnyJ_take 30 (v := ?_) (by first | exact hF | exact wideFn) (HST.out _ Bd.out) rfl (by kernel_rfl) (by kernel_rfl) (by kernel_rfl) (by kernel_rfl) rfl ?_ (by first | exact fun _ _ _ h => h | exact fun _ _ _ h => hQ2 _ _ _ _ _ h) ?_
                      rotate_left
                      · intro W hSW
                        simp only [List.getElem_toArray, List.getElem_cons_zero, List.getElem_cons_succ]
                        (try dsimp only at hSW)
                        go_simp
                        with_reducible rfl
                      (try simp only [List.getElem_toArray, List.getElem_cons_zero, List.getElem_cons_succ, Act.put, List.setIfInBounds_toArray, List.set_cons_zero, List.set_cons_succ])
                      refine wpAnyJ_take 31 (v := ?_) (by first | exact hF | exact wideFn) (HST.out _ Bd.out) rfl (by kernel_rfl) (by kernel_rfl) (by kernel_rfl) (by kernel_rfl) rfl ?_ (by first | exact fun _ _ _ h => h | exact fun _ _ _ h => hQ2 _ _ _ _ _ h) ?_
                      rotate_left
                      · intro W hSW
                        simp only [List.getElem_toArray, List.getElem_cons_zero, List.getElem_cons_succ]
                        (try dsimp only at hSW)
                        go_simp
                        with_reducible rfl
                      (try simp only [List.getElem_toArray, List.getElem_cons_zero, List.getElem_cons_succ, Act.put, List.setIfInBounds_toArray, List.set_cons_zero, List.set_cons_succ])
                      refine wpAnyJ_take 32 (v := ?_) (by first | exact hF | exact wideFn) (HST.out _ Bd.out) rfl (by kernel_rfl) (by kernel_rfl) (by kernel_rfl) (by kernel_rfl) rfl ?_ (by first | exact fun _ _ _ h => h | exact fun _ _ _ h => hQ2 _ _ _ _ _ h) ?_
                      rotate_left
                      · intro W hSW
                        simp only [List.getElem_toArray, List.getElem_cons_zero, List.getElem_cons_succ]
                        (try dsimp only at hSW)
                        go_simp
                        with_reducible rfl
                      (try simp only [List.getElem_toArray, List.getElem_cons_zero, List.getElem_cons_succ, Act.put, List.setIfInBounds_toArray, List.set_cons_zero, List.set_cons_succ])
                      refine wpAnyJ_take 33 (v := ?_) (by first | exact hF | exact wideFn) (HST.out _ Bd.out) rfl (by kernel_rfl) (by kernel_rfl) (by kernel_rfl) (by kernel_rfl) rfl ?_ (by first | exact fun _ _ _ h => h | exact fun _ _ _ h => hQ2 _ _ _ _ _ h) ?_
                      rotate_left
                      · intro W hSW
                        simp only [List.getElem_toArray, List.getElem_cons_zero, List.getElem_cons_succ]
                        (try dsimp only at hSW)
                        go_simp
                        with_reducible rfl
                      (try simp only [List.getElem_toArray, List.getElem_cons_zero, List.getElem_cons_succ, Act.put, List.setIfInBounds_toArray, List.set_cons_zero, List.set_cons_succ])
                      refine wpAnyJ_take 34 (v := ?_) (by first | exact hF | exact wideFn) (HST.out _ Bd.out) rfl (by kernel_rfl) (by kernel_rfl) (by kernel_rfl) (by kernel_rfl) rfl ?_ (by first | exact fun _ _ _ h => h | exact fun _ _ _ h => hQ2 _ _ _ _ _ h) ?_
                      rotate_left
                      · intro W hSW
                        simp only [List.getElem_toArray, List.getElem_cons_zero, List.getElem_cons_succ]
                        (try dsimp only at hSW)
                        go_simp
                        with_reducible rfl
                      (try simp only [List.getElem_toArray, List.getElem_cons_zero, List.getElem_cons_succ, Act.put, List.setIfInBounds_toArray, List.set_cons_zero, List.set_cons_succ])
                      refine wpAnyJ_take 35 (v := ?_) (by first | exact hF | exact wideFn) (HST.out _ Bd.out) rfl (by kernel_rfl) (by kernel_rfl) (by kernel_rfl) (by kernel_rfl) rfl ?_ (by first | exact fun _ _ _ h => h | exact fun _ _ _ h => hQ2 _ _ _ _ _ h) ?_
                      rotate_left
                      · intro W hSW
                        simp only [List.getElem_toArray, List.getElem_cons_zero, List.getElem_cons_succ]
                        (try dsimp only at hSW)
                        go_simp
                        with_reducible rfl
                      (try simp only [List.getElem_toArray, List.getElem_cons_zero, List.getElem_cons_succ, Act.put, List.setIfInBounds_toArray, List.set_cons_zero, List.set_cons_succ])
                      refine wpAnyJ_take 36 (v := ?_) (by first | exact hF | exact wideFn) (HST.out _ Bd.out) rfl (by kernel_rfl) (by kernel_rfl) (by kernel_rfl) (by kernel_rfl) rfl ?_ (by first | exact fun _ _ _ h => h | exact fun _ _ _ h => hQ2 _ _ _ _ _ h) ?_
                      rotate_left
                      · intro W hSW
                        simp only [List.getElem_toArray, List.getElem_cons_zero, List.getElem_cons_succ]
                        (try dsimp only at hSW)
                        go_simp
                        with_reducible rfl
                      (try simp only [List.getElem_toArray, List.getElem_cons_zero, List.getElem_cons_succ, Act.put, List.setIfInBounds_toArray, List.set_cons_zero, List.set_cons_succ])
                      refine wpAnyJ_take 37 (v := ?_) (by first | exact hF | exact wideFn) (HST.out _ Bd.out) rfl (by kernel_rfl) (by kernel_rfl) (by kernel_rfl) (by kernel_rfl) rfl ?_ (by first | exact fun _ _ _ h => h | exact fun _ _ _ h => hQ2 _ _ _ _ _ h) ?_
                      rotate_left
                      · intro W hSW
                        simp only [List.getElem_toArray, List.getElem_cons_zero, List.getElem_cons_succ]
                        (try dsimp only at hSW)
                        go_simp
                        with_reducible rfl
                      (try simp only [List.getElem_toArray, List.getElem_cons_zero, List.getElem_cons_succ, Act.put, List.setIfInBounds_toArray, List.set_cons_zero, List.set_cons_succ])
                      refine wpAnyJ_take 38 (v := ?_) (by first | exact hF | exact wideFn) (HST.out _ Bd.out) rfl (by kernel_rfl) (by kernel_rfl) (by kernel_rfl) (by kernel_rfl) rfl ?_ (by first | exact fun _ _ _ h => h | exact fun _ _ _ h => hQ2 _ _ _ _ _ h) ?_
                      rotate_left
                      · intro W hSW
                        simp only [List.getElem_toArray, List.getElem_cons_zero, List.getElem_cons_succ]
                        (try dsimp only at hSW)
                        go_simp
                        with_reducible rfl
                      (try simp only [List.getElem_toArray, List.getElem_cons_zero, List.getElem_cons_succ, Act.put, List.setIfInBounds_toArray, List.set_cons_zero, List.set_cons_succ])
                      refine wpAnyJ_take 39 (v := ?_) (by first | exact hF | exact wideFn) (HST.out _ Bd.out) rfl (by kernel_rfl) (by kernel_rfl) (by kernel_rfl) (by kernel_rfl) rfl ?_ (by first | exact fun _ _ _ h => h | exact fun _ _ _ h => hQ2 _ _ _ _ _ h) ?_
                      rotate_left
                      · intro W hSW
                        simp only [List.getElem_toArray, List.getElem_cons_zero, List.getElem_cons_succ]
                        (try dsimp only at hSW)
                        go_simp
                        with_reducible rfl
                      (try simp only [List.getElem_toArray, List.getElem_cons_zero, List.getElem_cons_succ, Act.put, List.setIfInBounds_toArray, List.set_cons_zero, List.set_cons_succ])
                      refine wpAnyJ_take 40 (v := ?_) (by first | exact hF | exact wideFn) (HST.out _ Bd.out) rfl (by kernel_rfl) (by kernel_rfl) (by kernel_rfl) (by kernel_rfl) rfl ?_ (by first | exact fun _ _ _ h => h | exact fun _ _ _ h => hQ2 _ _ _ _ _ h) ?_
                      rotate_left
                      · intro W hSW
                        simp only [List.getElem_toArray, List.getElem_cons_zero, List.getElem_cons_succ]
                        (try dsimp only at hSW)
                        go_simp
                        with_reducible rfl
                      (try simp only [List.getElem_toArray, List.getElem_cons_zero, List.getElem_cons_succ, Act.put, List.setIfInBounds_toArray, List.set_cons_zero, List.set_cons_succ])
                      refine wpAnyJ_take 41 (v := ?_) (by first | exact hF | exact wideFn) (HST.out _ Bd.out) rfl (by kernel_rfl) (by kernel_rfl) (by kernel_rfl) (by kernel_rfl) rfl ?_ (by first | exact fun _ _ _ h => h | exact fun _ _ _ h => hQ2 _ _ _ _ _ h) ?_
                      rotate_left
                      · intro W hSW
                        simp only [List.getElem_toArray, List.getElem_cons_zero, List.getElem_cons_succ]
                        (try dsimp only at hSW)
                        go_simp
                        with_reducible rfl
                      (try simp only [List.getElem_toArray, List.getElem_cons_zero, List.getElem_cons_succ, Act.put, List.setIfInBounds_toArray, List.set_cons_zero, List.set_cons_succ])
                      refine wpAnyJ_skip 42 (by first | exact hF | exact wideFn) (HST.out _ Bd.out) rfl (by kernel_rfl) (by kernel_rfl) (by kernel_rfl) (by kernel_rfl) rfl (by first | exact fun _ _ _ h => h | exact fun _ _ _ h => hQ2 _ _ _ _ _ h) ?_
                      (try simp only [List.getElem_toArray, List.getElem_cons_zero, List.getElem_cons_succ, Act.put, List.setIfInBounds_toArray, List.set_cons_zero, List.set_cons_succ])
                      refine wpAnyJ_skip 43 (by first | exact hF | exact wideFn) (HST.out _ Bd.out) rfl (by kernel_rfl) (by kernel_rfl) (by kernel_rfl) (by kernel_rfl) rfl (by first | exact fun _ _ _ h => h | exact fun _ _ _ h => hQ2 _ _ _ _ _ h) ?_
                      (try simp only [List.getElem_toArray, List.getElem_cons_zero, List.getElem_cons_succ, Act.put, List.setIfInBounds_toArray, List.set_cons_zero, List.set_cons_succ])
                      refine wpAnyJ_skip 44 (by first | exact hF | exact wideFn) (HST.out _ Bd.out) rfl (by kernel_rfl) (by kernel_rfl) (by kernel_rfl) (by kernel_rfl) rfl (by first | exact fun _ _ _ h => h | exact fun _ _ _ h => hQ2 _ _ _ _ _ h) ?_
                      (try simp only [List.getElem_toArray, List.getElem_cons_zero, List.getElem_cons_succ, Act.put, List.setIfInBounds_toArray, List.set_cons_zero, List.set_cons_succ])
                      refine wpAnyJ_skip 45 (by first | exact hF | exact wideFn) (HST.out _ Bd.out) rfl (by kernel_rfl) (by kernel_rfl) (by kernel_rfl) (by kernel_rfl) rfl (by first | exact fun _ _ _ h => h | exact fun _ _ _ h => hQ2 _ _ _ _ _ h) ?_
                      (try simp only [List.getElem_toArray, List.getElem_cons_zero, List.getElem_cons_succ, Act.put, List.setIfInBounds_toArray, List.set_cons_zero, List.set_cons_succ])
                      refine wpAnyJ_skip 46 (by first | exact hF | exact wideFn) (HST.out _ Bd.out) rfl (by kernel_rfl) (by kernel_rfl) (by kernel_rfl) (by kernel_rfl) rfl (by first | exact fun _ _ _ h => h | exact fun _ _ _ h => hQ2 _ _ _ _ _ h) ?_
                      (try simp only [List.getElem_toArray, List.getElem_cons_zero, List.getElem_cons_succ, Act.put, List.setIfInBounds_toArray, List.set_cons_zero, List.set_cons_succ])
                      refine wpAnyJ_skip 47 (by first | exact hF | exact wideFn) (HST.out _ Bd.out) rfl (by kernel_rfl) (by kernel_rfl) (by kernel_rfl) (by kernel_rfl) rfl (by first | exact fun _ _ _ h => h | exact fun _ _ _ h => hQ2 _ _ _ _ _ h) ?_
                      (try simp only [List.getElem_toArray, List.getElem_cons_zero, List.getElem_cons_succ, Act.put, List.setIfInBounds_toArray, List.set_cons_zero, List.set_cons_succ])
                      refine wpAnyJ_skip 48 (by first | exact hF | exact wideFn) (HST.out _ Bd.out) rfl (by kernel_rfl) (by kernel_rfl) (by kernel_rfl) (by kernel_rfl) rfl (by first | exact fun _ _ _ h => h | exact fun _ _ _ h => hQ2 _ _ _ _ _ h) ?_
                      (try simp only [List.getElem_toArray, List.getElem_cons_zero, List.getElem_cons_succ, Act.put, List.setIfInBounds_toArray, List.set_cons_zero, List.set_cons_succ])
                      refine wpAnyJ_skip 49 (by first | exact hF | exact wideFn) (HST.out _ Bd.out) rfl (by kernel_rfl) (by kernel_rfl) (by kernel_rfl) (by kernel_rfl) rfl (by first | exact fun _ _ _ h => h | exact fun _ _ _ h => hQ2 _ _ _ _ _ h) ?_
                      (try simp only [List.getElem_toArray, List.getElem_cons_zero, List.getElem_cons_succ, Act.put, List.setIfInBounds_toArray, List.set_cons_zero, List.set_cons_succ])
                      refine wpAnyJ_skip 50 (by first | exact hF | exact wideFn) (HST.out _ Bd.out) rfl (by kernel_rfl) (by kernel_rfl) (by kernel_rfl) (by kernel_rfl) rfl (by first | exact fun _ _ _ h => h | exact fun _ _ _ h => hQ2 _ _ _ _ _ h) ?_
                      (try simp only [List.getElem_toArray, List.getElem_cons_zero, List.getElem_cons_succ, Act.put, List.setIfInBounds_toArray, List.set_cons_zero, List.set_cons_succ])
                      refine wpAnyJ_skip 51 (by first | exact hF | exact wideFn) (HST.out _ Bd.out) rfl (by kernel_rfl) (by kernel_rfl) (by kernel_rfl) (by kernel_rfl) rfl (by first | exact fun _ _ _ h => h | exact fun _ _ _ h => hQ2 _ _ _ _ _ h) ?_
                      (try simp only [List.getElem_toArray, List.getElem_cons_zero, List.getElem_cons_succ, Act.put, List.setIfInBounds_toArray, List.set_cons_zero, List.set_cons_succ])
                      refine wpAnyJ_skip 52 (by first | exact hF | exact wideFn) (HST.out _ Bd.out) rfl (by kernel_rfl) (by kernel_rfl) (by kernel_rfl) (by kernel_rfl) rfl (by first | exact fun _ _ _ h => h | exact fun _ _ _ h => hQ2 _ _ _ _ _ h) ?_
                      (try simp only [List.getElem_toArray, List.getElem_cons_zero, List.getElem_cons_succ, Act.put, List.setIfInBounds_toArray, List.set_cons_zero, List.set_cons_succ])
                      refine wpAnyJ_skip 53 (by first | exact hF | exact wideFn) (HST.out _ Bd.out) rfl (by kernel_rfl) (by kernel_rfl) (by kernel_rfl) (by kernel_rfl) rfl (by first | exact fun _ _ _ h => h | exact fun _ _ _ h => hQ2 _ _ _ _ _ h) ?_
                      (try simp only [List.getElem_toArray, List.getElem_cons_zero, List.getElem_cons_succ, Act.put, List.setIfInBounds_toArray, List.set_cons_zero, List.set_cons_succ])
                      refine wpAnyJ_skip 54 (by first | exact hF | exact wideFn) (HST.out _ Bd.out) rfl (by kernel_rfl) (by kernel_rfl) (by kernel_rfl) (by kernel_rfl) rfl (by first | exact fun _ _ _ h => h | exact fun _ _ _ h => hQ2 _ _ _ _ _ h) ?_
                      (try simp only [List.getElem_toArray, List.getElem_cons_zero, List.getElem_cons_succ, Act.put, List.setIfInBounds_toArray, List.set_cons_zero, List.set_cons_succ])
                      refine wpAnyJ_skip 55 (by first | exact hF | exact wideFn) (HST.out _ Bd.out) rfl (by kernel_rfl) (by kernel_rfl) (by kernel_rfl) (by kernel_rfl) rfl (by first | exact fun _ _ _ h => h | exact fun _ _ _ h => hQ2 _ _ _ _ _ h) ?_
                      (try simp only [List.getElem_toArray, List.getElem_cons_zero, List.getElem_cons_succ, Act.put, List.setIfInBounds_toArray, List.set_cons_zero, List.set_cons_succ])
                      refine wpAnyJ_skip 56 (by first | exact hF | exact wideFn) (HST.out _ Bd.out) rfl (by kernel_rfl) (by kernel_rfl) (by kernel_rfl) (by kernel_rfl) rfl (by first | exact fun _ _ _ h => h | exact fun _ _ _ h => hQ2 _ _ _ _ _ h) ?_
                      (try simp only [List.getElem_toArray, List.getElem_cons_zero, List.getElem_cons_succ, Act.put, List.setIfInBounds_toArray, List.set_cons_zero, List.set_cons_succ])
                      refine wpAnyJ_skip 57 (by first | exact hF | exact wideFn) (HST.out _ Bd.out) rfl (by kernel_rfl) (by kernel_rfl) (by kernel_rfl) (by kernel_rfl) rfl (by first | exact fun _ _ _ h => h | exact fun _ _ _ h => hQ2 _ _ _ _ _ h) ?_
                      (try simp only [List.getElem_toArray, List.getElem_cons_zero, List.getElem_cons_succ, Act.put, List.setIfInBounds_toArray, List.set_cons_zero, List.set_cons_succ])
                      refine wpAnyJ_skip 58 (by first | exact hF | exact wideFn) (HST.out _ Bd.out) rfl (by kernel_rfl) (by kernel_rfl) (by kernel_rfl) (by kernel_rfl) rfl (by first | exact fun _ _ _ h => h | exact fun _ _ _ h => hQ2 _ _ _ _ _ h) ?_
                      (try simp only [List.getElem_toArray, List.getElem_cons_zero, List.getElem_cons_succ, Act.put, List.setIfInBounds_toArray, List.set_cons_zero, List.set_cons_succ])
                      refine wpAnyJ_skip 59 (by first | exact hF | exact wideFn) (HST.out _ Bd.out) rfl (by kernel_rfl) (by kernel_rfl) (by kernel_rfl) (by kernel_rfl) rfl (by first | exact fun _ _ _ h => h | exact fun _ _ _ h => hQ2 _ _ _ _ _ h) ?_
                      (try simp only [List.getElem_toArray, List.getElem_cons_zero, List.getElem_cons_succ, Act.put, List.setIfInBounds_toArray, List.set_cons_zero, List.set_cons_succ])
                      refine wpAnyJ_skip 60 (by first | exact hF | exact wideFn) (HST.out _ Bd.out) rfl (by kernel_rfl) (by kernel_rfl) (by kernel_rfl) (by kernel_rfl) rfl (by first | exact fun _ _ _ h => h | exact fun _ _ _ h => hQ2 _ _ _ _ _ h) ?_
                      (try simp only [List.getElem_toArray, List.getElem_cons_zero, List.getElem_cons_succ, Act.put, List.setIfInBounds_toArray, List.set_cons_zero, List.set_cons_succ])
                      refine wpAnyJ_skip 61 (by first | exact hF | exact wideFn) (HST.out _ Bd.out) rfl (by kernel_rfl) (by kernel_rfl) (by kernel_rfl) (by kernel_rfl) rfl (by first | exact fun _ _ _ h => h | exact fun _ _ _ h => hQ2 _ _ _ _ _ h) ?_
                      (try simp only [List.getElem_toArray, List.getElem_cons_zero, List.getElem_cons_succ, Act.put, List.setIfInBounds_toArray, List.set_cons_zero, List.set_cons_succ])
                      refine wpAnyJ_skip 62 (by first | exact hF | exact wideFn) (HST.out _ Bd.out) rfl (by kernel_rfl) (by kernel_rfl) (by kernel_rfl) (by kernel_rfl) rfl (by first | exact fun _ _ _ h => h | exact fun _ _ _ h => hQ2 _ _ _ _ _ h) ?_
                      (try simp only [List.getElem_toArray, List.getElem_cons_zero, List.getElem_cons_succ, Act.put, List.setIfInBounds_toArray, List.set_cons_zero, List.set_cons_succ])
                      refine wpAnyJ_skip 63 (by first | exact hF | exact wideFn) (HST.out _ Bd.out) rfl (by kernel_rfl) (by kernel_rfl) (by kernel_rfl) (by kernel_rfl) rfl (by first | exact fun _ _ _ h => h | exact fun _ _ _ h => hQ2 _ _ _ _ _ h) ?_
                      (try simp only [List.getElem_toArray, List.getElem_cons_zero, List.getElem_cons_succ, Act.put, List.setIfInBounds_toArray, List.set_cons_zero, List.set_cons_succ])
                      refine wpAnyJ_skip 64 (by first | exact hF | exact wideFn) (HST.out _ Bd.out) rfl (by kernel_rfl) (by kernel_rfl) (by kernel_rfl) (by kernel_rfl) rfl (by first | exact fun _ _ _ h => h | exact fun _ _ _ h => hQ2 _ _ _ _ _ h) ?_
                      (try simp only [List.getElem_toArray, List.getElem_cons_zero, List.getElem_cons_succ, Act.put, List.setIfInBounds_toArray, List.set_cons_zero, List.set_cons_succ])
                      refine wpAnyJ_skip 65 (by first | exact hF | exact wideFn) (HST.out _ Bd.out) rfl (by kernel_rfl) (by kernel_rfl) (by kernel_rfl) (by kernel_rfl) rfl (by first | exact fun _ _ _ h => h | exact fun _ _ _ h => hQ2 _ _ _ _ _ h) ?_
                      (try simp only [List.getElem_toArray, List.getElem_cons_zero, List.getElem_cons_succ, Act.put, List.setIfInBounds_toArray, List.set_cons_zero, List.set_cons_succ])
                      refine wpAnyJ_skip 66 (by first | exact hF | exact wideFn) (HST.out _ Bd.out) rfl (by kernel_rfl) (by kernel_rfl) (by kernel_rfl) (by kernel_rfl) rfl (by first | exact fun _ _ _ h => h | exact fun _ _ _ h => hQ2 _ _ _ _ _ h) ?_
                      (try simp only [List.getElem_toArray, List.getElem_cons_zero, List.getElem_cons_succ, Act.put, List.setIfInBounds_toArray, List.set_cons_zero, List.set_cons_succ])
                      refine wpAnyJ_skip 67 (by first | exact hF | exact wideFn) (HST.out _ Bd.out) rfl (by kernel_rfl) (by kernel_rfl) (by kernel_rfl) (by kernel_rfl) rfl (by first | exact fun _ _ _ h => h | exact fun _ _ _ h => hQ2 _ _ _ _ _ h) ?_
                      (try simp only [List.getElem_toArray, List.getElem_cons_zero, List.getElem_cons_succ, Act.put, List.setIfInBounds_toArray, List.set_cons_zero, List.set_cons_succ])
                      refine wpAnyJ_skip 68 (by first | exact hF | exact wideFn) (HST.out _ Bd.out) rfl (by kernel_rfl) (by kernel_rfl) (by kernel_rfl) (by kernel_rfl) rfl (by first | exact fun _ _ _ h => h | exact fun _ _ _ h => hQ2 _ _ _ _ _ h) ?_
                      (try simp only [List.getElem_toArray, List.getElem_cons_zero, List.getElem_cons_succ, Act.put, List.setIfInBounds_toArray, List.set_cons_zero, List.set_cons_succ])
                      refine wpAnyJ_skip 69 (by first | exact hF | exact wideFn) (HST.out _ Bd.out) rfl (by kernel_rfl) (by kernel_rfl) (by kernel_rfl) (by kernel_rfl) rfl (by first | exact fun _ _ _ h => h | exact fun _ _ _ h => hQ2 _ _ _ _ _ h) ?_
                      (try simp only [List.getElem_toArray, List.getElem_cons_zero, List.getElem_cons_succ, Act.put, List.setIfInBounds_toArray, List.set_cons_zero, List.set_cons_succ])
                      refine wpAnyJ_skip 70 (by first | exact hF | exact wideFn) (HST.out _ Bd.out) rfl (by kernel_rfl) (by kernel_rfl) (by kernel_rfl) (by kernel_rfl) rfl (by first | exact fun _ _ _ h => h | exact fun _ _ _ h => hQ2 _ _ _ _ _ h) ?_
                      (try simp only [List.getElem_toArray, List.getElem_cons_zero, List.getElem_cons_succ, Act.put, List.setIfInBounds_toArray, List.set_cons_zero, List.set_cons_succ])
                      refine wpAnyJ_skip 71 (by first | exact hF | exact wideFn) (HST.out _ Bd.out) rfl (by kernel_rfl) (by kernel_rfl) (by kernel_rfl) (by kernel_rfl) rfl (by first | exact fun _ _ _ h => h | exact fun _ _ _ h => hQ2 _ _ _ _ _ h) ?_
                      (try simp only [List.getElem_toArray, List.getElem_cons_zero, List.getElem_cons_succ, Act.put, List.setIfInBounds_toArray, List.set_cons_zero, List.set_cons_succ])
                      refine wpAnyJ_skip 72 (by first | exact hF | exact wideFn) (HST.out _ Bd.out) rfl (by kernel_rfl) (by kernel_rfl) (by kernel_rfl) (by kernel_rfl) rfl (by first | exact fun _ _ _ h => h | exact fun _ _ _ h => hQ2 _ _ _ _ _ h) ?_
                      (try simp only [List.getElem_toArray, List.getElem_cons_zero, List.getElem_cons_succ, Act.put, List.setIfInBounds_toArray, List.set_cons_zero, List.set_cons_succ])
                      refine wpAnyJ_take 73 (v := ?_) (by first | exact hF | exact wideFn) (HST.out _ Bd.out) rfl (by kernel_rfl) (by kernel_rfl) (by kernel_rfl) (by kernel_rfl) rfl ?_ (by first | exact fun _ _ _ h => h | exact fun _ _ _ h => hQ2 _ _ _ _ _ h) ?_
                      rotate_left
                      · intro W hSW
                        simp only [List.getElem_toArray, List.getElem_cons_zero, List.getElem_cons_succ]
                        (try dsimp only at hSW)
                        go_simp
                        with_reducible rfl
                      (try simp only [List.getElem_toArray, List.getElem_cons_zero, List.getElem_cons_succ, Act.put, List.setIfInBounds_toArray, List.set_cons_zero, List.set_cons_succ])
                      refine wpAnyJ_take 74 (v := ?_) (by first | exact hF | exact wideFn) (HST.out _ Bd.out) rfl (by kernel_rfl) (by kernel_rfl) (by kernel_rfl) (by kernel_rfl) rfl ?_ (by first | exact fun _ _ _ h => h | exact fun _ _ _ h => hQ2 _ _ _ _ _ h) ?_
                      rotate_left
                      · intro W hSW
                        simp only [List.getElem_toArray, List.getElem_cons_zero, List.getElem_cons_succ]
                        (try dsimp only at hSW)
                        go_simp
                        with_reducible rfl
                      (try simp only [List.getElem_toArray, List.getElem_cons_zero, List.getElem_cons_succ, Act.put, List.setIfInBounds_toArray, List.set_cons_zero, List.set_cons_succ])
                      refine wpAnyJ_done (by kernel_rfl) ?_
                      clear l0
                      have HVD := hide (HVA.out.trans (Bd.out.mono HVA.out.size))
                      obtain ⟨-, y1, y2, -, -⟩ := blk2 (KB8.out.ext Bd.out)
                      by_cases htH : t = H
                      · have hkH : k < s.wn H := HPT.out.1 htH
                        have hm2 : m + 1 = min (k + 1) (s.wn H) := by have := HM.out; omega
                        have HM2 := hide hm2
                        have e1 : ((t : Int) == (H : Int)) = true := by simp; omega
                        have e2 : (t == H) = true := by simp; omega
                        clear hm2 hkH
                        go_wp2_with fail
                        go_roundw
                        case rel => exact ⟨k + 1, m + 1, by go_num, by omega, by go_num, by omega, HM2, HVD⟩
                        case measure => simp [intOf]; omega
                      · have hkH : ¬ k < s.wn H := fun e => htH (HPT.out.2 e)
                        have hm2 : m = min (k + 1) (s.wn H) := by have := HM.out; omega
                        have HM2 := hide hm2
                        have e1 : ((t : Int) == (H : Int)) = false := by simp; omega
                        have e2 : (t == H) = false := by simp; omega
                        clear hm2 hkH
                        go_wp2_with fail
                        go_roundw
                        case rel => exact ⟨k + 1, m, by go_num, by omega, rfl, by omega, HM2, HVD⟩
                        case measure => simp [intOf]; omega
                      -- END7
                    -- END4
                  · as_aux_lemma =>
                    -- BEGIN8
                    obtain rfl : bn = k := by omega
                    have hm2 : m = s.wn H := by have := HM.out; have := HTP.out.1; omega
                    subst hm2
                    have QW := hide (Q7.out.ext HV.out)
                    have LW := hide (LS7.out.ext HV.out)
                    obtain ⟨a0, a1, a2, a3, -, -, -⟩ := blk3 QW.out.2
                    obtain ⟨tb, toff, hA, htb, -, hv⟩ := P2.at_ HSS.out.2.1 hHn
                    unfold Stk.v at hv
                    have cv := (QW.out.1.cell (p := ⟨tb, toff + H * 2 + 1, none⟩) htb).trans hv
                    rw [hA] at a3
                    have i1 : (0 : Int) ≤ (H : Int) := by omega
                    have i2 : (H : Int) < (s.nt : Int) := by omega
                    have hnn : ((s.wn H : Int) != (s.wn H : Int)) = false := by simp
                    have hw36 := (HCC.out H hHn).2
                    clear hv hlt hk HM HFX HFA HTP
                    go_upto_region 52 with fail
                    clear hnn cv
                    rw [← hA] at a3
                    clear hA
                    go_wp2_with fail
                    refine (HOW.out _ QW.out).mono ?_
                    rintro e w12 ⟨A, c, ca, wa, cc, wc, rfl, hs2, hb2, hcap⟩
                    have Q12 := hide (QW.out.ext hb2)
                    have L12 := hide (LW.out.ext hb2)
                    obtain ⟨ib, ioff, hIA, -, -, -⟩ := P2.at_ hs2.2.1 (show 0 < s.nt by omega)
                    replace hIA : A = some ⟨ib, ioff, none⟩ := hIA
                    subst hIA
                    have bz : Below w12.heap.size w12 (w12.alloc (.cells #[.int .i64 s.wd, .int .i64 s.hg, .slice (some ⟨ib, ioff, none⟩) H c] 55)) := (Below.refl _ _).alloc (Nat.le_refl _) _
                    have S14 := hide ((hs2.below bz (Nat.le_refl _)).more bz.size)
                    have Q14 := hide (Q12.out.ext bz)
                    have L14 := hide (L12.out.ext bz)
                    have K14 := hide (Blk.new w12 55 #[.int .i64 s.wd, .int .i64 s.hg, .slice (some ⟨ib, ioff, none⟩) H c])
                    have h2cap : (H : Int) ≤ (c : Int) := by omega
                    have h3cap : (s.nt : Int) ≤ (c : Int) := by omega
                    clear hb2 hs2 bz a0 a1 a2 a3 Q12 L12 QW LW
                    go_upto_region 54 with fail
                    clear h2cap h3cap
                    generalize (w12.alloc (.cells #[.int .i64 s.wd, .int .i64 s.hg, .slice (some ⟨ib, ioff, none⟩) H c] 55)) = W14 at S14 Q14 L14 K14 ⊢
                    generalize w12.heap.size = g23 at K14 ⊢
                    obtain ⟨g0, g1, g2, g3, g4, g5, g6⟩ := blk3 K14.out
                    have hlow : s.nt - 1 = H := by have := HHH.out; omega
                    have hHL := low_hang H2.out
                    have HL2 : Hid (Calls Try.prog 32 #[.agg #[.int .i64 s.wd, .int .i64 s.hg, .slice (some ⟨ib, ioff, none⟩) H c]] W14 fun e w' => ∃ (AA : Option Addr) (an ac : Nat) (FA : Option Addr) (fn fc : Nat), e = .returned (.tuple #[.slice AA an ac, .slice FA fn fc, .int .i64 (ldE s.low)]) ∧ Below W14.heap.size W14 w' ∧ Hid (ldE s.low = 0 → ∃ z, AA = some ⟨z, 0, none⟩ ∧ an = H ∧ LsR w' z H (LoadsL s.low))) := hide (by
                      refine (show Calls Try.prog 32 #[.agg #[.int .i64 s.wd, .int .i64 s.hg, .slice (some ⟨ib, ioff, none⟩) H c]] W14 (LdPost ((s.at (some ⟨ib, ioff, none⟩) c ca wa cc wc).low) W14) from by
                        have h := Loads_any ((s.at (some ⟨ib, ioff, none⟩) c ca wa cc wc).low) W14 S14.out.low
                        rw [show ((s.at (some ⟨ib, ioff, none⟩) c ca wa cc wc).low).nt = H from hlow] at h
                        exact h).mono ?_
                      rintro e w' ⟨AA, an, ac, FA, fn, fc, h1, h2, -, h4⟩
                      refine ⟨AA, an, ac, FA, fn, fc, h1, h2, hide (fun h0 => ?_)⟩
                      obtain ⟨z, e1, e2, e3, -⟩ := h4 h0
                      rw [show ((s.at (some ⟨ib, ioff, none⟩) c ca wa cc wc).low).nt = H from hlow] at e2 e3
                      exact ⟨z, e1, e2, e3⟩)
                    have hE3 := ldE_low H1.out H2.out
                    rcases hlb : LoadsB s.low with _ | _
                    · rw [hlb, if_pos rfl] at hE3
                      rw [hE3] at HL2
                      clear hE3 hlb
                      go_wp2_with fail
                      refine HL2.out.mono ?_
                      rintro e w15 ⟨AA2, an2, ac2, FA2, fn2, fc2, rfl, hb15, -⟩
                      have Q15 := hide (Q14.out.ext hb15)
                      clear hb15
                      go_wp2_with fail
                      refine (HK.out _).mono ?_
                      rintro e w99 ⟨rfl, hb99⟩
                      go_wp2_with fail
                      go_ret
                      exact ⟨rfl, (Q15.out.1).trans (hb99.mono (Q15.out.1).size)⟩
                    · rw [hlb, if_neg (by simp)] at hE3
                      rw [hE3] at HL2
                      have HLB := hide hlb
                      clear hE3 hlb
                      go_wp2_with fail
                      refine HL2.out.mono ?_
                      rintro e w15 ⟨AA2, an2, ac2, FA2, fn2, fc2, rfl, hb15, HLD2⟩
                      obtain ⟨z2, rfl, han, hl2⟩ := HLD2.out trivial
                      obtain rfl := han.symm
                      have Q15 := hide (Q14.out.ext hb15)
                      have L15 := hide (L14.out.ext hb15)
                      have M15 := hide hl2
                      have hnn : ((H : Int) != (H : Int)) = false := by simp
                      clear hb15 hl2 HLD2 HL2 g0 g1 g2 g3 g4 g5 g6 Q14 L14 S14 K14
                      have HLL2 := hide (fun k (hk : k < H) => (show (LoadsL s.low k).length = s.wn k from LoadsL_len (s := s.low) (by show k < s.nt - 1; omega)))
                      have HOK2 := hide (fun k (hk : k < H) i => And.intro (getD_ok (LoadsL_ok hHL (k := k) (by show k ≤ s.nt - 1; omega)) i) (getD_c (LoadsL_c hHL (k := k) (by show k ≤ s.nt - 1; omega)) i))
                      have HLO := hide (fun t i (ht : t < H) (hi : i < s.wn t) => low_loads H1.out H2.out H3.out HLB.out (t := t) (i := i) (by omega) hi)
                      clear hHL hlow
                      go_wp2_with fail
                      clear hnn
                      go_loopw [26] (fun i wr => ∃ (k : Nat), i = .int .i64 k ∧ k ≤ H ∧ Hid (Below w15.heap.size w15 wr)) (fun i _ => H - (intOf i).toNat)
                      case atStart => exact ⟨0, rfl, by omega, hide (Below.refl _ _)⟩
                      case round =>
                        obtain ⟨k, rfl, hk, HV⟩ := hrel
                        by_cases hlt : k < H
                        · as_aux_lemma =>
                          -- BEGIN9
                          have i1 : (0 : Int) ≤ (k : Int) := by omega
                          have i2 : (k : Int) < (H : Int) := by omega
                          have i3 : (k : Int) < (s.nt : Int) := by omega
                          have hks : k < s.nt := by omega
                          obtain ⟨A1, c1, hz1, q1, P1⟩ := (L15.out.ext HV.out).at_ hks
                          obtain ⟨A2, c2, hz2, q2, P2'⟩ := (M15.out.ext HV.out).at_ hlt
                          rw [HLL.out k hks] at q1 P1
                          rw [HLL2.out k hlt] at q2 P2'
                          have HP1 := hide P1
                          have HP2 := hide P2'
                          have hw36 := (HCC.out k hks).2
                          have HST : Hid (∀ W, Below wr.heap.size wr W → W.cell? ⟨z2, k, none⟩ = some (.slice A2 (s.wn k) c2) ∧ W.cell? ⟨z, k, none⟩ = some (.slice A1 (s.wn k) c1)) := hide (fun W h => ⟨(h.cell (p := ⟨z2, k, none⟩) hz2).trans q2, (h.cell (p := ⟨z, k, none⟩) hz1).trans q1⟩)
                          clear q1 q2 P1 P2'
                          go_upto_region 60 with fail
                          have Bd := hide (Below.refl wr.heap.size wr).drew
                          refine wp_region_J (fun W : World => W.cell? ⟨z2, k, none⟩ = some (.slice A2 (s.wn k) c2) ∧ W.cell? ⟨z, k, none⟩ = some (.slice A1 (s.wn k) c1)) (by kernel_rfl) ?_
                          generalize hwd : wr.drew = wd at Bd ⊢
                          clear hwd
                          refine wpAnyJ_take 0 (v := ?_) (by first | exact hF | exact wideFn) (HST.out _ Bd.out) rfl (by kernel_rfl) (by kernel_rfl) (by kernel_rfl) (by kernel_rfl) rfl ?_ (by first | exact fun _ _ _ h => h | exact fun _ _ _ h => hQ2 _ _ _ _ _ h) ?_
                          rotate_left
                          · intro W hSW
                            simp only [List.getElem_toArray, List.getElem_cons_zero, List.getElem_cons_succ]
                            (try dsimp only at hSW)
                            go_simp
                            with_reducible rfl
                          (try simp only [List.getElem_toArray, List.getElem_cons_zero, List.getElem_cons_succ, Act.put, List.setIfInBounds_toArray, List.set_cons_zero, List.set_cons_succ])
                          refine wpAnyJ_take 1 (v := ?_) (by first | exact hF | exact wideFn) (HST.out _ Bd.out) rfl (by kernel_rfl) (by kernel_rfl) (by kernel_rfl) (by kernel_rfl) rfl ?_ (by first | exact fun _ _ _ h => h | exact fun _ _ _ h => hQ2 _ _ _ _ _ h) ?_
                          rotate_left
                          · intro W hSW
                            simp only [List.getElem_toArray, List.getElem_cons_zero, List.getElem_cons_succ]
                            (try dsimp only at hSW)
                            go_simp
                            with_reducible rfl
                          (try simp only [List.getElem_toArray, List.getElem_cons_zero, List.getElem_cons_succ, Act.put, List.setIfInBounds_toArray, List.set_cons_zero, List.set_cons_succ])
                          refine wpAnyJ_take 2 (v := ?_) (by first | exact hF | exact wideFn) (HST.out _ Bd.out) rfl (by kernel_rfl) (by kernel_rfl) (by kernel_rfl) (by kernel_rfl) rfl ?_ (by first | exact fun _ _ _ h => h | exact fun _ _ _ h => hQ2 _ _ _ _ _ h) ?_
                          rotate_left
                          · intro W hSW
                            simp only [List.getElem_toArray, List.getElem_cons_zero, List.getElem_cons_succ]
                            (try dsimp only at hSW)
                            go_simp
                            with_reducible rfl
                          (try simp only [List.getElem_toArray, List.getElem_cons_zero, List.getElem_cons_succ, Act.put, List.setIfInBounds_toArray, List.set_cons_zero, List.set_cons_succ])
                          refine wpAnyJ_take 3 (v := ?_) (by first | exact hF | exact wideFn) (HST.out _ Bd.out) rfl (by kernel_rfl) (by kernel_rfl) (by kernel_rfl) (by kernel_rfl) rfl ?_ (by first | exact fun _ _ _ h => h | exact fun _ _ _ h => hQ2 _ _ _ _ _ h) ?_
                          rotate_left
                          · intro W hSW
                            simp only [List.getElem_toArray, List.getElem_cons_zero, List.getElem_cons_succ]
                            (try dsimp only at hSW)
                            go_simp
                            with_reducible rfl
                          (try simp only [List.getElem_toArray, List.getElem_cons_zero, List.getElem_cons_succ, Act.put, List.setIfInBounds_toArray, List.set_cons_zero, List.set_cons_succ])
                          refine wpAnyJ_take 4 (v := ?_) (by first | exact hF | exact wideFn) (HST.out _ Bd.out) rfl (by kernel_rfl) (by kernel_rfl) (by kernel_rfl) (by kernel_rfl) rfl ?_ (by first | exact fun _ _ _ h => h | exact fun _ _ _ h => hQ2 _ _ _ _ _ h) ?_
                          rotate_left
                          · intro W hSW
                            simp only [List.getElem_toArray, List.getElem_cons_zero, List.getElem_cons_succ]
                            (try dsimp only at hSW)
                            go_simp
                            with_reducible rfl
                          (try simp only [List.getElem_toArray, List.getElem_cons_zero, List.getElem_cons_succ, Act.put, List.setIfInBounds_toArray, List.set_cons_zero, List.set_cons_succ])
                          refine wpAnyJ_take 5 (v := ?_) (by first | exact hF | exact wideFn) (HST.out _ Bd.out) rfl (by kernel_rfl) (by kernel_rfl) (by kernel_rfl) (by kernel_rfl) rfl ?_ (by first | exact fun _ _ _ h => h | exact fun _ _ _ h => hQ2 _ _ _ _ _ h) ?_
                          rotate_left
                          · intro W hSW
                            simp only [List.getElem_toArray, List.getElem_cons_zero, List.getElem_cons_succ]
                            (try dsimp only at hSW)
                            go_simp
                            with_reducible rfl
                          (try simp only [List.getElem_toArray, List.getElem_cons_zero, List.getElem_cons_succ, Act.put, List.setIfInBounds_toArray, List.set_cons_zero, List.set_cons_succ])
                          refine wpAnyJ_take 6 (v := ?_) (by first | exact hF | exact wideFn) (HST.out _ Bd.out) rfl (by kernel_rfl) (by kernel_rfl) (by kernel_rfl) (by kernel_rfl) rfl ?_ (by first | exact fun _ _ _ h => h | exact fun _ _ _ h => hQ2 _ _ _ _ _ h) ?_
                          rotate_left
                          · intro W hSW
                            simp only [List.getElem_toArray, List.getElem_cons_zero, List.getElem_cons_succ]
                            (try dsimp only at hSW)
                            go_simp
                            with_reducible rfl
                          (try simp only [List.getElem_toArray, List.getElem_cons_zero, List.getElem_cons_succ, Act.put, List.setIfInBounds_toArray, List.set_cons_zero, List.set_cons_succ])
                          refine wpAnyJ_take 7 (v := ?_) (by first | exact hF | exact wideFn) (HST.out _ Bd.out) rfl (by kernel_rfl) (by kernel_rfl) (by kernel_rfl) (by kernel_rfl) rfl ?_ (by first | exact fun _ _ _ h => h | exact fun _ _ _ h => hQ2 _ _ _ _ _ h) ?_
                          rotate_left
                          · intro W hSW
                            simp only [List.getElem_toArray, List.getElem_cons_zero, List.getElem_cons_succ]
                            (try dsimp only at hSW)
                            go_simp
                            with_reducible rfl
                          (try simp only [List.getElem_toArray, List.getElem_cons_zero, List.getElem_cons_succ, Act.put, List.setIfInBounds_toArray, List.set_cons_zero, List.set_cons_succ])
                          refine wpAnyJ_take 8 (v := ?_) (by first | exact hF | exact wideFn) (HST.out _ Bd.out) rfl (by kernel_rfl) (by kernel_rfl) (by kernel_rfl) (by kernel_rfl) rfl ?_ (by first | exact fun _ _ _ h => h | exact fun _ _ _ h => hQ2 _ _ _ _ _ h) ?_
                          rotate_left
                          · intro W hSW
                            simp only [List.getElem_toArray, List.getElem_cons_zero, List.getElem_cons_succ]
                            (try dsimp only at hSW)
                            go_simp
                            with_reducible rfl
                          (try simp only [List.getElem_toArray, List.getElem_cons_zero, List.getElem_cons_succ, Act.put, List.setIfInBounds_toArray, List.set_cons_zero, List.set_cons_succ])
                          refine wpAnyJ_take 9 (v := ?_) (by first | exact hF | exact wideFn) (HST.out _ Bd.out) rfl (by kernel_rfl) (by kernel_rfl) (by kernel_rfl) (by kernel_rfl) rfl ?_ (by first | exact fun _ _ _ h => h | exact fun _ _ _ h => hQ2 _ _ _ _ _ h) ?_
                          rotate_left
                          · intro W hSW
                            simp only [List.getElem_toArray, List.getElem_cons_zero, List.getElem_cons_succ]
                            (try dsimp only at hSW)
                            go_simp
                            with_reducible rfl
                          (try simp only [List.getElem_toArray, List.getElem_cons_zero, List.getElem_cons_succ, Act.put, List.setIfInBounds_toArray, List.set_cons_zero, List.set_cons_succ])
                          refine wpAnyJ_take 10 (v := ?_) (by first | exact hF | exact wideFn) (HST.out _ Bd.out) rfl (by kernel_rfl) (by kernel_rfl) (by kernel_rfl) (by kernel_rfl) rfl ?_ (by first | exact fun _ _ _ h => h | exact fun _ _ _ h => hQ2 _ _ _ _ _ h) ?_
                          rotate_left
                          · intro W hSW
                            simp only [List.getElem_toArray, List.getElem_cons_zero, List.getElem_cons_succ]
                            (try dsimp only at hSW)
                            go_simp
                            with_reducible rfl
                          (try simp only [List.getElem_toArray, List.getElem_cons_zero, List.getElem_cons_succ, Act.put, List.setIfInBounds_toArray, List.set_cons_zero, List.set_cons_succ])
                          refine wpAnyJ_done (by kernel_rfl) ?_
                          obtain ⟨w1, hw1⟩ : ∃ w1, w1 = wr := ⟨_, rfl⟩
                          subst hw1
                          go_wp2_with fail
                          go_loopw [27] (fun i wq => ∃ (j : Nat), i = .int .i64 j ∧ j ≤ s.wn k ∧ Hid (Below w1.heap.size w1 wq)) (fun i _ => s.wn k - (intOf i).toNat)
                          case atStart => exact ⟨0, rfl, by omega, Bd⟩
                          case round =>
                            obtain ⟨j, rfl, hj, HX⟩ := hrel
                            obtain ⟨q2, q1⟩ := HST.out _ HX.out
                            by_cases hlj : j < s.wn k
                            · as_aux_lemma =>
                              -- BEGIN10
                              have j1 : (0 : Int) ≤ (j : Int) := by omega
                              have j2 : (j : Int) < (s.wn k : Int) := by omega
                              obtain ⟨ga, oa, hA1, hga, d1, d2⟩ := HP1.out.at_ hlj
                              obtain ⟨gf, of_, hA2, hgf, e1, e2⟩ := HP2.out.at_ hlj
                              subst hA1 hA2
                              obtain ⟨x, hx⟩ : ∃ x, (LoadsL s.low k).getD j (0, 1) = x := ⟨_, rfl⟩
                              obtain ⟨y, hy⟩ : ∃ y, (LoadsL s k).getD j (0, 1) = y := ⟨_, rfl⟩
                              have ok1 := HOK2.out k hlt j
                              have ok2 := (HOKL.out k (by omega) j).1
                              have hle := HLO.out k j hlt hlj
                              rw [hx] at e1 e2 ok1 hle
                              rw [hy] at d1 d2 ok2 hle
                              have HLW := hide (fun W => lowestL_any x W ok1.1 ok1.2)
                              obtain ⟨⟨x1, x2, x3⟩, -⟩ := ok1
                              obtain ⟨y1, y2, y3⟩ := ok2
                              obtain ⟨xn, xd⟩ := x
                              obtain ⟨yn, yd⟩ := y
                              dsimp only at x1 x2 x3 y1 y2 y3 d1 d2 e1 e2 hle HLW
                              have m1 : xn * yd ≤ 1000000000 * 1000000000 := mulN_bd x1 y3
                              have m2 : yn * xd ≤ 1000000000 * 1000000000 := mulN_bd y1 x3
                              obtain ⟨u, hu⟩ : ∃ u, xn * yd = u := ⟨_, rfl⟩
                              obtain ⟨v, hv⟩ : ∃ v, yn * xd = v := ⟨_, rfl⟩
                              have W1 : IntKind.i64.wrap ((xn : Int) * (yd : Int)) = (u : Int) := by
                                rw [show (xn : Int) * (yd : Int) = (u : Int) from by rw [← hu]; simp]
                                exact IntWalk.i64_in _ (by omega)
                              have W2 : IntKind.i64.wrap ((yn : Int) * (xd : Int)) = (v : Int) := by
                                rw [show (yn : Int) * (xd : Int) = (v : Int) from by rw [← hv]; simp]
                                exact IntWalk.i64_in _ (by omega)
                              rw [hu, hv] at hle
                              have n1 : ¬ (v : Int) < (u : Int) := by omega
                              have n2 : decide (v < u) = false := by simp; omega
                              have hst : Hid (∀ W, Below wr.heap.size wr W → (W.cell? ⟨z2, k, none⟩ = some (.slice (some ⟨gf, of_, none⟩) (s.wn k) c2) ∧ W.cell? ⟨z, k, none⟩ = some (.slice (some ⟨ga, oa, none⟩) (s.wn k) c1)) ∧ (W.cell? ⟨gf, of_ + j * 2, none⟩ = some (.int .i64 xn) ∧ W.cell? ⟨gf, of_ + j * 2 + 1, none⟩ = some (.int .i64 xd)) ∧ W.cell? ⟨ga, oa + j * 2, none⟩ = some (.int .i64 yn) ∧ W.cell? ⟨ga, oa + j * 2 + 1, none⟩ = some (.int .i64 yd)) := hide (fun W h => by
                                have hb := HX.out.trans (h.mono HX.out.size)
                                obtain ⟨r2, r1⟩ := HST.out W hb
                                exact ⟨⟨r2, r1⟩, ⟨(hb.cell (p := ⟨gf, of_ + j * 2, none⟩) hgf).trans e1, (hb.cell (p := ⟨gf, of_ + j * 2 + 1, none⟩) hgf).trans e2⟩, (hb.cell (p := ⟨ga, oa + j * 2, none⟩) hga).trans d1, (hb.cell (p := ⟨ga, oa + j * 2 + 1, none⟩) hga).trans d2⟩)
                              clear hx hy hu hv m1 m2 d1 d2 e1 e2
                              go_upto_region 65 with fail
                              have Bd := hide (Below.refl wr.heap.size wr).drew
                              refine wp_region_J (fun W : World => (W.cell? ⟨z2, k, none⟩ = some (.slice (some ⟨gf, of_, none⟩) (s.wn k) c2) ∧ W.cell? ⟨z, k, none⟩ = some (.slice (some ⟨ga, oa, none⟩) (s.wn k) c1)) ∧ (W.cell? ⟨gf, of_ + j * 2, none⟩ = some (.int .i64 xn) ∧ W.cell? ⟨gf, of_ + j * 2 + 1, none⟩ = some (.int .i64 xd)) ∧ W.cell? ⟨ga, oa + j * 2, none⟩ = some (.int .i64 yn) ∧ W.cell? ⟨ga, oa + j * 2 + 1, none⟩ = some (.int .i64 yd)) (by kernel_rfl) ?_
                              generalize wr.drew = wd at Bd ⊢
                              refine wpAnyJ_take 0 (v := ?_) (by first | exact hF | exact wideFn) (hst.out _ Bd.out) rfl (by kernel_rfl) (by kernel_rfl) (by kernel_rfl) (by kernel_rfl) rfl ?_ (by first | exact fun _ _ _ h => h | exact fun _ _ _ h => hQ2 _ _ _ _ _ h) ?_
                              rotate_left
                              · intro W hSW
                                simp only [List.getElem_toArray, List.getElem_cons_zero, List.getElem_cons_succ]
                                (try dsimp only at hSW)
                                go_simp
                                with_reducible rfl
                              (try simp only [List.getElem_toArray, List.getElem_cons_zero, List.getElem_cons_succ, Act.put, List.setIfInBounds_toArray, List.set_cons_zero, List.set_cons_succ])
                              refine wpAnyJ_take 1 (v := ?_) (by first | exact hF | exact wideFn) (hst.out _ Bd.out) rfl (by kernel_rfl) (by kernel_rfl) (by kernel_rfl) (by kernel_rfl) rfl ?_ (by first | exact fun _ _ _ h => h | exact fun _ _ _ h => hQ2 _ _ _ _ _ h) ?_
                              rotate_left
                              · intro W hSW
                                simp only [List.getElem_toArray, List.getElem_cons_zero, List.getElem_cons_succ]
                                (try dsimp only at hSW)
                                go_simp
                                with_reducible rfl
                              (try simp only [List.getElem_toArray, List.getElem_cons_zero, List.getElem_cons_succ, Act.put, List.setIfInBounds_toArray, List.set_cons_zero, List.set_cons_succ])
                              refine wpAnyJ_take 2 (v := ?_) (by first | exact hF | exact wideFn) (hst.out _ Bd.out) rfl (by kernel_rfl) (by kernel_rfl) (by kernel_rfl) (by kernel_rfl) rfl ?_ (by first | exact fun _ _ _ h => h | exact fun _ _ _ h => hQ2 _ _ _ _ _ h) ?_
                              rotate_left
                              · intro W hSW
                                simp only [List.getElem_toArray, List.getElem_cons_zero, List.getElem_cons_succ]
                                (try dsimp only at hSW)
                                go_simp
                                with_reducible rfl
                              (try simp only [List.getElem_toArray, List.getElem_cons_zero, List.getElem_cons_succ, Act.put, List.setIfInBounds_toArray, List.set_cons_zero, List.set_cons_succ])
                              refine wpAnyJ_take 3 (v := ?_) (by first | exact hF | exact wideFn) (hst.out _ Bd.out) rfl (by kernel_rfl) (by kernel_rfl) (by kernel_rfl) (by kernel_rfl) rfl ?_ (by first | exact fun _ _ _ h => h | exact fun _ _ _ h => hQ2 _ _ _ _ _ h) ?_
                              rotate_left
                              · intro W hSW
                                simp only [List.getElem_toArray, List.getElem_cons_zero, List.getElem_cons_succ]
                                (try dsimp only at hSW)
                                go_simp
                                with_reducible rfl
                              (try simp only [List.getElem_toArray, List.getElem_cons_zero, List.getElem_cons_succ, Act.put, List.setIfInBounds_toArray, List.set_cons_zero, List.set_cons_succ])
                              refine wpAnyJ_take 4 (v := ?_) (by first | exact hF | exact wideFn) (hst.out _ Bd.out) rfl (by kernel_rfl) (by kernel_rfl) (by kernel_rfl) (by kernel_rfl) rfl ?_ (by first | exact fun _ _ _ h => h | exact fun _ _ _ h => hQ2 _ _ _ _ _ h) ?_
                              rotate_left
                              · intro W hSW
                                simp only [List.getElem_toArray, List.getElem_cons_zero, List.getElem_cons_succ]
                                (try dsimp only at hSW)
                                go_simp
                                with_reducible rfl
                              (try simp only [List.getElem_toArray, List.getElem_cons_zero, List.getElem_cons_succ, Act.put, List.setIfInBounds_toArray, List.set_cons_zero, List.set_cons_succ])
                              refine wpAnyJ_take 5 (v := ?_) (by first | exact hF | exact wideFn) (hst.out _ Bd.out) rfl (by kernel_rfl) (by kernel_rfl) (by kernel_rfl) (by kernel_rfl) rfl ?_ (by first | exact fun _ _ _ h => h | exact fun _ _ _ h => hQ2 _ _ _ _ _ h) ?_
                              rotate_left
                              · intro W hSW
                                simp only [List.getElem_toArray, List.getElem_cons_zero, List.getElem_cons_succ]
                                (try dsimp only at hSW)
                                go_simp
                                with_reducible rfl
                              (try simp only [List.getElem_toArray, List.getElem_cons_zero, List.getElem_cons_succ, Act.put, List.setIfInBounds_toArray, List.set_cons_zero, List.set_cons_succ])
                              refine wpAnyJ_take 6 (v := ?_) (by first | exact hF | exact wideFn) (hst.out _ Bd.out) rfl (by kernel_rfl) (by kernel_rfl) (by kernel_rfl) (by kernel_rfl) rfl ?_ (by first | exact fun _ _ _ h => h | exact fun _ _ _ h => hQ2 _ _ _ _ _ h) ?_
                              rotate_left
                              · intro W hSW
                                simp only [List.getElem_toArray, List.getElem_cons_zero, List.getElem_cons_succ]
                                (try dsimp only at hSW)
                                go_simp
                                with_reducible rfl
                              (try simp only [List.getElem_toArray, List.getElem_cons_zero, List.getElem_cons_succ, Act.put, List.setIfInBounds_toArray, List.set_cons_zero, List.set_cons_succ])
                              refine wpAnyJ_one 7 rfl (by kernel_rfl) (fun K hK => ?_)
                              simp only [List.getElem_toArray, List.getElem_cons_zero, List.getElem_cons_succ]
                              go_simp
                              refine ⟨trivial, rfl, ?_⟩
                              refine (callsIn_wide.2 (HLW.out _)).mono ?_
                              rintro e w16 ⟨rfl, hb16⟩
                              have HG := hide (Bd.out.trans (hb16.mono Bd.out.size))
                              dsimp only
                              refine hK.out _ _ (fun _ => hst.out _ HG.out) ?_
                              clear hK K
                              (try simp only [List.getElem_toArray, List.getElem_cons_zero, List.getElem_cons_succ, Act.put, List.setIfInBounds_toArray, List.set_cons_zero, List.set_cons_succ])
                              refine wpAnyJ_take 8 (v := ?_) (by first | exact hF | exact wideFn) (hst.out _ HG.out) rfl (by kernel_rfl) (by kernel_rfl) (by kernel_rfl) (by kernel_rfl) rfl ?_ (by first | exact fun _ _ _ h => h | exact fun _ _ _ h => hQ2 _ _ _ _ _ h) ?_
                              rotate_left
                              · intro W hSW
                                simp only [List.getElem_toArray, List.getElem_cons_zero, List.getElem_cons_succ]
                                (try dsimp only at hSW)
                                go_simp
                                with_reducible rfl
                              (try simp only [List.getElem_toArray, List.getElem_cons_zero, List.getElem_cons_succ, Act.put, List.setIfInBounds_toArray, List.set_cons_zero, List.set_cons_succ])
                              refine wpAnyJ_take 9 (v := ?_) (by first | exact hF | exact wideFn) (hst.out _ HG.out) rfl (by kernel_rfl) (by kernel_rfl) (by kernel_rfl) (by kernel_rfl) rfl ?_ (by first | exact fun _ _ _ h => h | exact fun _ _ _ h => hQ2 _ _ _ _ _ h) ?_
                              rotate_left
                              · intro W hSW
                                simp only [List.getElem_toArray, List.getElem_cons_zero, List.getElem_cons_succ]
                                (try dsimp only at hSW)
                                go_simp
                                with_reducible rfl
                              (try simp only [List.getElem_toArray, List.getElem_cons_zero, List.getElem_cons_succ, Act.put, List.setIfInBounds_toArray, List.set_cons_zero, List.set_cons_succ])
                              refine wpAnyJ_take 10 (v := ?_) (by first | exact hF | exact wideFn) (hst.out _ HG.out) rfl (by kernel_rfl) (by kernel_rfl) (by kernel_rfl) (by kernel_rfl) rfl ?_ (by first | exact fun _ _ _ h => h | exact fun _ _ _ h => hQ2 _ _ _ _ _ h) ?_
                              rotate_left
                              · intro W hSW
                                simp only [List.getElem_toArray, List.getElem_cons_zero, List.getElem_cons_succ]
                                (try dsimp only at hSW)
                                go_simp
                                with_reducible rfl
                              (try simp only [List.getElem_toArray, List.getElem_cons_zero, List.getElem_cons_succ, Act.put, List.setIfInBounds_toArray, List.set_cons_zero, List.set_cons_succ])
                              refine wpAnyJ_take 11 (v := ?_) (by first | exact hF | exact wideFn) (hst.out _ HG.out) rfl (by kernel_rfl) (by kernel_rfl) (by kernel_rfl) (by kernel_rfl) rfl ?_ (by first | exact fun _ _ _ h => h | exact fun _ _ _ h => hQ2 _ _ _ _ _ h) ?_
                              rotate_left
                              · intro W hSW
                                simp only [List.getElem_toArray, List.getElem_cons_zero, List.getElem_cons_succ]
                                (try dsimp only at hSW)
                                go_simp
                                with_reducible rfl
                              (try simp only [List.getElem_toArray, List.getElem_cons_zero, List.getElem_cons_succ, Act.put, List.setIfInBounds_toArray, List.set_cons_zero, List.set_cons_succ])
                              refine wpAnyJ_take 12 (v := ?_) (by first | exact hF | exact wideFn) (hst.out _ HG.out) rfl (by kernel_rfl) (by kernel_rfl) (by kernel_rfl) (by kernel_rfl) rfl ?_ (by first | exact fun _ _ _ h => h | exact fun _ _ _ h => hQ2 _ _ _ _ _ h) ?_
                              rotate_left
                              · intro W hSW
                                simp only [List.getElem_toArray, List.getElem_cons_zero, List.getElem_cons_succ]
                                (try dsimp only at hSW)
                                go_simp
                                with_reducible rfl
                              (try simp only [List.getElem_toArray, List.getElem_cons_zero, List.getElem_cons_succ, Act.put, List.setIfInBounds_toArray, List.set_cons_zero, List.set_cons_succ])
                              refine wpAnyJ_take 13 (v := ?_) (by first | exact hF | exact wideFn) (hst.out _ HG.out) rfl (by kernel_rfl) (by kernel_rfl) (by kernel_rfl) (by kernel_rfl) rfl ?_ (by first | exact fun _ _ _ h => h | exact fun _ _ _ h => hQ2 _ _ _ _ _ h) ?_
                              rotate_left
                              · intro W hSW
                                simp only [List.getElem_toArray, List.getElem_cons_zero, List.getElem_cons_succ]
                                (try dsimp only at hSW)
                                go_simp
                                with_reducible rfl
                              (try simp only [List.getElem_toArray, List.getElem_cons_zero, List.getElem_cons_succ, Act.put, List.setIfInBounds_toArray, List.set_cons_zero, List.set_cons_succ])
                              refine wpAnyJ_take 14 (v := ?_) (by first | exact hF | exact wideFn) (hst.out _ HG.out) rfl (by kernel_rfl) (by kernel_rfl) (by kernel_rfl) (by kernel_rfl) rfl ?_ (by first | exact fun _ _ _ h => h | exact fun _ _ _ h => hQ2 _ _ _ _ _ h) ?_
                              rotate_left
                              · intro W hSW
                                simp only [List.getElem_toArray, List.getElem_cons_zero, List.getElem_cons_succ]
                                (try dsimp only at hSW)
                                go_simp
                                with_reducible rfl
                              (try simp only [List.getElem_toArray, List.getElem_cons_zero, List.getElem_cons_succ, Act.put, List.setIfInBounds_toArray, List.set_cons_zero, List.set_cons_succ])
                              refine wpAnyJ_take 15 (v := ?_) (by first | exact hF | exact wideFn) (hst.out _ HG.out) rfl (by kernel_rfl) (by kernel_rfl) (by kernel_rfl) (by kernel_rfl) rfl ?_ (by first | exact fun _ _ _ h => h | exact fun _ _ _ h => hQ2 _ _ _ _ _ h) ?_
                              rotate_left
                              · intro W hSW
                                simp only [List.getElem_toArray, List.getElem_cons_zero, List.getElem_cons_succ]
                                (try dsimp only at hSW)
                                go_simp
                                with_reducible rfl
                              (try simp only [List.getElem_toArray, List.getElem_cons_zero, List.getElem_cons_succ, Act.put, List.setIfInBounds_toArray, List.set_cons_zero, List.set_cons_succ])
                              refine wpAnyJ_take 16 (v := ?_) (by first | exact hF | exact wideFn) (hst.out _ HG.out) rfl (by kernel_rfl) (by kernel_rfl) (by kernel_rfl) (by kernel_rfl) rfl ?_ (by first | exact fun _ _ _ h => h | exact fun _ _ _ h => hQ2 _ _ _ _ _ h) ?_
                              rotate_left
                              · intro W hSW
                                simp only [List.getElem_toArray, List.getElem_cons_zero, List.getElem_cons_succ]
                                (try dsimp only at hSW)
                                go_simp
                                with_reducible rfl
                              (try simp only [List.getElem_toArray, List.getElem_cons_zero, List.getElem_cons_succ, Act.put, List.setIfInBounds_toArray, List.set_cons_zero, List.set_cons_succ])
                              refine wpAnyJ_take 17 (v := ?_) (by first | exact hF | exact wideFn) (hst.out _ HG.out) rfl (by kernel_rfl) (by kernel_rfl) (by kernel_rfl) (by kernel_rfl) rfl ?_ (by first | exact fun _ _ _ h => h | exact fun _ _ _ h => hQ2 _ _ _ _ _ h) ?_
                              rotate_left
                              · intro W hSW
                                simp only [List.getElem_toArray, List.getElem_cons_zero, List.getElem_cons_succ]
                                (try dsimp only at hSW)
                                go_simp
                                with_reducible rfl
                              (try simp only [List.getElem_toArray, List.getElem_cons_zero, List.getElem_cons_succ, Act.put, List.setIfInBounds_toArray, List.set_cons_zero, List.set_cons_succ])
                              refine wpAnyJ_take 18 (v := ?_) (by first | exact hF | exact wideFn) (hst.out _ HG.out) rfl (by kernel_rfl) (by kernel_rfl) (by kernel_rfl) (by kernel_rfl) rfl ?_ (by first | exact fun _ _ _ h => h | exact fun _ _ _ h => hQ2 _ _ _ _ _ h) ?_
                              rotate_left
                              · intro W hSW
                                simp only [List.getElem_toArray, List.getElem_cons_zero, List.getElem_cons_succ]
                                (try dsimp only at hSW)
                                go_simp
                                with_reducible rfl
                              (try simp only [List.getElem_toArray, List.getElem_cons_zero, List.getElem_cons_succ, Act.put, List.setIfInBounds_toArray, List.set_cons_zero, List.set_cons_succ])
                              refine wpAnyJ_take 19 (v := ?_) (by first | exact hF | exact wideFn) (hst.out _ HG.out) rfl (by kernel_rfl) (by kernel_rfl) (by kernel_rfl) (by kernel_rfl) rfl ?_ (by first | exact fun _ _ _ h => h | exact fun _ _ _ h => hQ2 _ _ _ _ _ h) ?_
                              rotate_left
                              · intro W hSW
                                simp only [List.getElem_toArray, List.getElem_cons_zero, List.getElem_cons_succ]
                                (try dsimp only at hSW)
                                go_simp
                                with_reducible rfl
                              (try simp only [List.getElem_toArray, List.getElem_cons_zero, List.getElem_cons_succ, Act.put, List.setIfInBounds_toArray, List.set_cons_zero, List.set_cons_succ])
                              refine wpAnyJ_take 20 (v := ?_) (by first | exact hF | exact wideFn) (hst.out _ HG.out) rfl (by kernel_rfl) (by kernel_rfl) (by kernel_rfl) (by kernel_rfl) rfl ?_ (by first | exact fun _ _ _ h => h | exact fun _ _ _ h => hQ2 _ _ _ _ _ h) ?_
                              rotate_left
                              · intro W hSW
                                simp only [List.getElem_toArray, List.getElem_cons_zero, List.getElem_cons_succ]
                                (try dsimp only at hSW)
                                go_simp
                                with_reducible rfl
                              (try simp only [List.getElem_toArray, List.getElem_cons_zero, List.getElem_cons_succ, Act.put, List.setIfInBounds_toArray, List.set_cons_zero, List.set_cons_succ])
                              refine wpAnyJ_take 21 (v := ?_) (by first | exact hF | exact wideFn) (hst.out _ HG.out) rfl (by kernel_rfl) (by kernel_rfl) (by kernel_rfl) (by kernel_rfl) rfl ?_ (by first | exact fun _ _ _ h => h | exact fun _ _ _ h => hQ2 _ _ _ _ _ h) ?_
                              rotate_left
                              · intro W hSW
                                simp only [List.getElem_toArray, List.getElem_cons_zero, List.getElem_cons_succ]
                                (try dsimp only at hSW)
                                go_simp
                                with_reducible rfl
                              (try simp only [List.getElem_toArray, List.getElem_cons_zero, List.getElem_cons_succ, Act.put, List.setIfInBounds_toArray, List.set_cons_zero, List.set_cons_succ])
                              refine wpAnyJ_take 22 (v := ?_) (by first | exact hF | exact wideFn) (hst.out _ HG.out) rfl (by kernel_rfl) (by kernel_rfl) (by kernel_rfl) (by kernel_rfl) rfl ?_ (by first | exact fun _ _ _ h => h | exact fun _ _ _ h => hQ2 _ _ _ _ _ h) ?_
                              rotate_left
                              · intro W hSW
                                simp only [List.getElem_toArray, List.getElem_cons_zero, List.getElem_cons_succ]
                                (try dsimp only at hSW)
                                go_simp
                                with_reducible rfl
                              (try simp only [List.getElem_toArray, List.getElem_cons_zero, List.getElem_cons_succ, Act.put, List.setIfInBounds_toArray, List.set_cons_zero, List.set_cons_succ])
                              refine wpAnyJ_take 23 (v := ?_) (by first | exact hF | exact wideFn) (hst.out _ HG.out) rfl (by kernel_rfl) (by kernel_rfl) (by kernel_rfl) (by kernel_rfl) rfl ?_ (by first | exact fun _ _ _ h => h | exact fun _ _ _ h => hQ2 _ _ _ _ _ h) ?_
                              rotate_left
                              · intro W hSW
                                simp only [List.getElem_toArray, List.getElem_cons_zero, List.getElem_cons_succ]
                                (try dsimp only at hSW)
                                go_simp
                                with_reducible rfl
                              (try simp only [List.getElem_toArray, List.getElem_cons_zero, List.getElem_cons_succ, Act.put, List.setIfInBounds_toArray, List.set_cons_zero, List.set_cons_succ])
                              refine wpAnyJ_take 24 (v := ?_) (by first | exact hF | exact wideFn) (hst.out _ HG.out) rfl (by kernel_rfl) (by kernel_rfl) (by kernel_rfl) (by kernel_rfl) rfl ?_ (by first | exact fun _ _ _ h => h | exact fun _ _ _ h => hQ2 _ _ _ _ _ h) ?_
                              rotate_left
                              · intro W hSW
                                simp only [List.getElem_toArray, List.getElem_cons_zero, List.getElem_cons_succ]
                                (try dsimp only at hSW)
                                go_simp
                                with_reducible rfl
                              (try simp only [List.getElem_toArray, List.getElem_cons_zero, List.getElem_cons_succ, Act.put, List.setIfInBounds_toArray, List.set_cons_zero, List.set_cons_succ])
                              refine wpAnyJ_take 25 (v := ?_) (by first | exact hF | exact wideFn) (hst.out _ HG.out) rfl (by kernel_rfl) (by kernel_rfl) (by kernel_rfl) (by kernel_rfl) rfl ?_ (by first | exact fun _ _ _ h => h | exact fun _ _ _ h => hQ2 _ _ _ _ _ h) ?_
                              rotate_left
                              · intro W hSW
                                simp only [List.getElem_toArray, List.getElem_cons_zero, List.getElem_cons_succ]
                                (try dsimp only at hSW)
                                go_simp
                                with_reducible rfl
                              (try simp only [List.getElem_toArray, List.getElem_cons_zero, List.getElem_cons_succ, Act.put, List.setIfInBounds_toArray, List.set_cons_zero, List.set_cons_succ])
                              refine wpAnyJ_take 26 (v := ?_) (by first | exact hF | exact wideFn) (hst.out _ HG.out) rfl (by kernel_rfl) (by kernel_rfl) (by kernel_rfl) (by kernel_rfl) rfl ?_ (by first | exact fun _ _ _ h => h | exact fun _ _ _ h => hQ2 _ _ _ _ _ h) ?_
                              rotate_left
                              · intro W hSW
                                simp only [List.getElem_toArray, List.getElem_cons_zero, List.getElem_cons_succ]
                                (try dsimp only at hSW)
                                go_simp
                                with_reducible rfl
                              (try simp only [List.getElem_toArray, List.getElem_cons_zero, List.getElem_cons_succ, Act.put, List.setIfInBounds_toArray, List.set_cons_zero, List.set_cons_succ])
                              refine wpAnyJ_take 27 (v := ?_) (by first | exact hF | exact wideFn) (hst.out _ HG.out) rfl (by kernel_rfl) (by kernel_rfl) (by kernel_rfl) (by kernel_rfl) rfl ?_ (by first | exact fun _ _ _ h => h | exact fun _ _ _ h => hQ2 _ _ _ _ _ h) ?_
                              rotate_left
                              · intro W hSW
                                simp only [List.getElem_toArray, List.getElem_cons_zero, List.getElem_cons_succ]
                                (try dsimp only at hSW)
                                go_simp
                                with_reducible rfl
                              (try simp only [List.getElem_toArray, List.getElem_cons_zero, List.getElem_cons_succ, Act.put, List.setIfInBounds_toArray, List.set_cons_zero, List.set_cons_succ])
                              refine wpAnyJ_take 28 (v := ?_) (by first | exact hF | exact wideFn) (hst.out _ HG.out) rfl (by kernel_rfl) (by kernel_rfl) (by kernel_rfl) (by kernel_rfl) rfl ?_ (by first | exact fun _ _ _ h => h | exact fun _ _ _ h => hQ2 _ _ _ _ _ h) ?_
                              rotate_left
                              · intro W hSW
                                simp only [List.getElem_toArray, List.getElem_cons_zero, List.getElem_cons_succ]
                                (try dsimp only at hSW)
                                go_simp
                                with_reducible rfl
                              (try simp only [List.getElem_toArray, List.getElem_cons_zero, List.getElem_cons_succ, Act.put, List.setIfInBounds_toArray, List.set_cons_zero, List.set_cons_succ])
                              refine wpAnyJ_take 29 (v := ?_) (by first | exact hF | exact wideFn) (hst.out _ HG.out) rfl (by kernel_rfl) (by kernel_rfl) (by kernel_rfl) (by kernel_rfl) rfl ?_ (by first | exact fun _ _ _ h => h | exact fun _ _ _ h => hQ2 _ _ _ _ _ h) ?_
                              rotate_left
                              · intro W hSW
                                simp only [List.getElem_toArray, List.getElem_cons_zero, List.getElem_cons_succ]
                                (try dsimp only at hSW)
                                go_simp
                                with_reducible rfl
                              (try simp only [List.getElem_toArray, List.getElem_cons_zero, List.getElem_cons_succ, Act.put, List.setIfInBounds_toArray, List.set_cons_zero, List.set_cons_succ])
                              refine wpAnyJ_take 30 (v := ?_) (by first | exact hF | exact wideFn) (hst.out _ HG.out) rfl (by kernel_rfl) (by kernel_rfl) (by kernel_rfl) (by kernel_rfl) rfl ?_ (by first | exact fun _ _ _ h => h | exact fun _ _ _ h => hQ2 _ _ _ _ _ h) ?_
                              rotate_left
                              · intro W hSW
                                simp only [List.getElem_toArray, List.getElem_cons_zero, List.getElem_cons_succ]
                                (try dsimp only at hSW)
                                go_simp
                                with_reducible rfl
                              (try simp only [List.getElem_toArray, List.getElem_cons_zero, List.getElem_cons_succ, Act.put, List.setIfInBounds_toArray, List.set_cons_zero, List.set_cons_succ])
                              refine wpAnyJ_take 31 (v := ?_) (by first | exact hF | exact wideFn) (hst.out _ HG.out) rfl (by kernel_rfl) (by kernel_rfl) (by kernel_rfl) (by kernel_rfl) rfl ?_ (by first | exact fun _ _ _ h => h | exact fun _ _ _ h => hQ2 _ _ _ _ _ h) ?_
                              rotate_left
                              · intro W hSW
                                simp only [List.getElem_toArray, List.getElem_cons_zero, List.getElem_cons_succ]
                                (try dsimp only at hSW)
                                go_simp
                                with_reducible rfl
                              (try simp only [List.getElem_toArray, List.getElem_cons_zero, List.getElem_cons_succ, Act.put, List.setIfInBounds_toArray, List.set_cons_zero, List.set_cons_succ])
                              refine wpAnyJ_take 32 (v := ?_) (by first | exact hF | exact wideFn) (hst.out _ HG.out) rfl (by kernel_rfl) (by kernel_rfl) (by kernel_rfl) (by kernel_rfl) rfl ?_ (by first | exact fun _ _ _ h => h | exact fun _ _ _ h => hQ2 _ _ _ _ _ h) ?_
                              rotate_left
                              · intro W hSW
                                simp only [List.getElem_toArray, List.getElem_cons_zero, List.getElem_cons_succ]
                                (try dsimp only at hSW)
                                go_simp
                                with_reducible rfl
                              (try simp only [List.getElem_toArray, List.getElem_cons_zero, List.getElem_cons_succ, Act.put, List.setIfInBounds_toArray, List.set_cons_zero, List.set_cons_succ])
                              refine wpAnyJ_take 33 (v := ?_) (by first | exact hF | exact wideFn) (hst.out _ HG.out) rfl (by kernel_rfl) (by kernel_rfl) (by kernel_rfl) (by kernel_rfl) rfl ?_ (by first | exact fun _ _ _ h => h | exact fun _ _ _ h => hQ2 _ _ _ _ _ h) ?_
                              rotate_left
                              · intro W hSW
                                simp only [List.getElem_toArray, List.getElem_cons_zero, List.getElem_cons_succ]
                                (try dsimp only at hSW)
                                go_simp
                                with_reducible rfl
                              (try simp only [List.getElem_toArray, List.getElem_cons_zero, List.getElem_cons_succ, Act.put, List.setIfInBounds_toArray, List.set_cons_zero, List.set_cons_succ])
                              refine wpAnyJ_take 34 (v := ?_) (by first | exact hF | exact wideFn) (hst.out _ HG.out) rfl (by kernel_rfl) (by kernel_rfl) (by kernel_rfl) (by kernel_rfl) rfl ?_ (by first | exact fun _ _ _ h => h | exact fun _ _ _ h => hQ2 _ _ _ _ _ h) ?_
                              rotate_left
                              · intro W hSW
                                simp only [List.getElem_toArray, List.getElem_cons_zero, List.getElem_cons_succ]
                                (try dsimp only at hSW)
                                go_simp
                                with_reducible rfl
                              (try simp only [List.getElem_toArray, List.getElem_cons_zero, List.getElem_cons_succ, Act.put, List.setIfInBounds_toArray, List.set_cons_zero, List.set_cons_succ])
                              refine wpAnyJ_take 35 (v := ?_) (by first | exact hF | exact wideFn) (hst.out _ HG.out) rfl (by kernel_rfl) (by kernel_rfl) (by kernel_rfl) (by kernel_rfl) rfl ?_ (by first | exact fun _ _ _ h => h | exact fun _ _ _ h => hQ2 _ _ _ _ _ h) ?_
                              rotate_left
                              · intro W hSW
                                simp only [List.getElem_toArray, List.getElem_cons_zero, List.getElem_cons_succ]
                                (try dsimp only at hSW)
                                go_simp
                                with_reducible rfl
                              (try simp only [List.getElem_toArray, List.getElem_cons_zero, List.getElem_cons_succ, Act.put, List.setIfInBounds_toArray, List.set_cons_zero, List.set_cons_succ])
                              refine wpAnyJ_take 36 (v := ?_) (by first | exact hF | exact wideFn) (hst.out _ HG.out) rfl (by kernel_rfl) (by kernel_rfl) (by kernel_rfl) (by kernel_rfl) rfl ?_ (by first | exact fun _ _ _ h => h | exact fun _ _ _ h => hQ2 _ _ _ _ _ h) ?_
                              rotate_left
                              · intro W hSW
                                simp only [List.getElem_toArray, List.getElem_cons_zero, List.getElem_cons_succ]
                                (try dsimp only at hSW)
                                go_simp
                                with_reducible rfl
                              (try simp only [List.getElem_toArray, List.getElem_cons_zero, List.getElem_cons_succ, Act.put, List.setIfInBounds_toArray, List.set_cons_zero, List.set_cons_succ])
                              refine wpAnyJ_take 37 (v := ?_) (by first | exact hF | exact wideFn) (hst.out _ HG.out) rfl (by kernel_rfl) (by kernel_rfl) (by kernel_rfl) (by kernel_rfl) rfl ?_ (by first | exact fun _ _ _ h => h | exact fun _ _ _ h => hQ2 _ _ _ _ _ h) ?_
                              rotate_left
                              · intro W hSW
                                simp only [List.getElem_toArray, List.getElem_cons_zero, List.getElem_cons_succ]
                                (try dsimp only at hSW)
                                go_simp
                                with_reducible rfl
                              (try simp only [List.getElem_toArray, List.getElem_cons_zero, List.getElem_cons_succ, Act.put, List.setIfInBounds_toArray, List.set_cons_zero, List.set_cons_succ])
                              refine wpAnyJ_take 38 (v := ?_) (by first | exact hF | exact wideFn) (hst.out _ HG.out) rfl (by kernel_rfl) (by kernel_rfl) (by kernel_rfl) (by kernel_rfl) rfl ?_ (by first | exact fun _ _ _ h => h | exact fun _ _ _ h => hQ2 _ _ _ _ _ h) ?_
                              rotate_left
                              · intro W hSW
                                simp only [List.getElem_toArray, List.getElem_cons_zero, List.getElem_cons_succ]
                                (try dsimp only at hSW)
                                go_simp
                                with_reducible rfl
                              (try simp only [List.getElem_toArray, List.getElem_cons_zero, List.getElem_cons_succ, Act.put, List.setIfInBounds_toArray, List.set_cons_zero, List.set_cons_succ])
                              refine wpAnyJ_take 39 (v := ?_) (by first | exact hF | exact wideFn) (hst.out _ HG.out) rfl (by kernel_rfl) (by kernel_rfl) (by kernel_rfl) (by kernel_rfl) rfl ?_ (by first | exact fun _ _ _ h => h | exact fun _ _ _ h => hQ2 _ _ _ _ _ h) ?_
                              rotate_left
                              · intro W hSW
                                simp only [List.getElem_toArray, List.getElem_cons_zero, List.getElem_cons_succ]
                                (try dsimp only at hSW)
                                go_simp
                                with_reducible rfl
                              (try simp only [List.getElem_toArray, List.getElem_cons_zero, List.getElem_cons_succ, Act.put, List.setIfInBounds_toArray, List.set_cons_zero, List.set_cons_succ])
                              refine wpAnyJ_take 40 (v := ?_) (by first | exact hF | exact wideFn) (hst.out _ HG.out) rfl (by kernel_rfl) (by kernel_rfl) (by kernel_rfl) (by kernel_rfl) rfl ?_ (by first | exact fun _ _ _ h => h | exact fun _ _ _ h => hQ2 _ _ _ _ _ h) ?_
                              rotate_left
                              · intro W hSW
                                simp only [List.getElem_toArray, List.getElem_cons_zero, List.getElem_cons_succ]
                                (try dsimp only at hSW)
                                go_simp
                                with_reducible rfl
                              (try simp only [List.getElem_toArray, List.getElem_cons_zero, List.getElem_cons_succ, Act.put, List.setIfInBounds_toArray, List.set_cons_zero, List.set_cons_succ])
                              refine wpAnyJ_take 41 (v := ?_) (by first | exact hF | exact wideFn) (hst.out _ HG.out) rfl (by kernel_rfl) (by kernel_rfl) (by kernel_rfl) (by kernel_rfl) rfl ?_ (by first | exact fun _ _ _ h => h | exact fun _ _ _ h => hQ2 _ _ _ _ _ h) ?_
                              rotate_left
                              · intro W hSW
                                simp only [List.getElem_toArray, List.getElem_cons_zero, List.getElem_cons_succ]
                                (try dsimp only at hSW)
                                go_simp
                                with_reducible rfl
                              (try simp only [List.getElem_toArray, List.getElem_cons_zero, List.getElem_cons_succ, Act.put, List.setIfInBounds_toArray, List.set_cons_zero, List.set_cons_succ])
                              refine wpAnyJ_take 42 (v := ?_) (by first | exact hF | exact wideFn) (hst.out _ HG.out) rfl (by kernel_rfl) (by kernel_rfl) (by kernel_rfl) (by kernel_rfl) rfl ?_ (by first | exact fun _ _ _ h => h | exact fun _ _ _ h => hQ2 _ _ _ _ _ h) ?_
                              rotate_left
                              · intro W hSW
                                simp only [List.getElem_toArray, List.getElem_cons_zero, List.getElem_cons_succ]
                                (try dsimp only at hSW)
                                go_simp
                                with_reducible rfl
                              (try simp only [List.getElem_toArray, List.getElem_cons_zero, List.getElem_cons_succ, Act.put, List.setIfInBounds_toArray, List.set_cons_zero, List.set_cons_succ])
                              refine wpAnyJ_take 43 (v := ?_) (by first | exact hF | exact wideFn) (hst.out _ HG.out) rfl (by kernel_rfl) (by kernel_rfl) (by kernel_rfl) (by kernel_rfl) rfl ?_ (by first | exact fun _ _ _ h => h | exact fun _ _ _ h => hQ2 _ _ _ _ _ h) ?_
                              rotate_left
                              · intro W hSW
                                simp only [List.getElem_toArray, List.getElem_cons_zero, List.getElem_cons_succ]
                                (try dsimp only at hSW)
                                go_simp
                                with_reducible rfl
                              (try simp only [List.getElem_toArray, List.getElem_cons_zero, List.getElem_cons_succ, Act.put, List.setIfInBounds_toArray, List.set_cons_zero, List.set_cons_succ])
                              refine wpAnyJ_take 44 (v := ?_) (by first | exact hF | exact wideFn) (hst.out _ HG.out) rfl (by kernel_rfl) (by kernel_rfl) (by kernel_rfl) (by kernel_rfl) rfl ?_ (by first | exact fun _ _ _ h => h | exact fun _ _ _ h => hQ2 _ _ _ _ _ h) ?_
                              rotate_left
                              · intro W hSW
                                simp only [List.getElem_toArray, List.getElem_cons_zero, List.getElem_cons_succ]
                                (try dsimp only at hSW)
                                go_simp
                                with_reducible rfl
                              (try simp only [List.getElem_toArray, List.getElem_cons_zero, List.getElem_cons_succ, Act.put, List.setIfInBounds_toArray, List.set_cons_zero, List.set_cons_succ])
                              refine wpAnyJ_take 45 (v := ?_) (by first | exact hF | exact wideFn) (hst.out _ HG.out) rfl (by kernel_rfl) (by kernel_rfl) (by kernel_rfl) (by kernel_rfl) rfl ?_ (by first | exact fun _ _ _ h => h | exact fun _ _ _ h => hQ2 _ _ _ _ _ h) ?_
                              rotate_left
                              · intro W hSW
                                simp only [List.getElem_toArray, List.getElem_cons_zero, List.getElem_cons_succ]
                                (try dsimp only at hSW)
                                go_simp
                                with_reducible rfl
                              (try simp only [List.getElem_toArray, List.getElem_cons_zero, List.getElem_cons_succ, Act.put, List.setIfInBounds_toArray, List.set_cons_zero, List.set_cons_succ])
                              refine wpAnyJ_done (by kernel_rfl) ?_
                              clear n1 n2 W1 W2
                              go_wp2_with fail
                              go_roundw
                              case rel => exact ⟨j + 1, by go_num, by omega, hide (HX.out.trans (HG.out.mono HX.out.size))⟩
                              case measure => simp [intOf]; omega
                              -- END10
                            · obtain ⟨WN, hWN⟩ : ∃ WN, WN = s.wn k := ⟨_, rfl⟩
                              have hjn : j = WN := by omega
                              subst hjn
                              have j2 : ¬ (j : Int) < (s.wn k : Int) := by omega
                              clear hWN hj hlj
                              go_wp2_with fail
                              go_roundw
                              case rel => exact ⟨k + 1, by go_num, by omega, hide (HV.out.trans (HX.out.mono HV.out.size))⟩
                              case measure => simp [intOf]; omega
                          -- END9
                        · obtain rfl : H = k := by omega
                          have QW := hide (Q15.out.ext HV.out)
                          go_wp2_with fail
                          refine (HK.out _).mono ?_
                          rintro e w99 ⟨rfl, hb99⟩
                          go_wp2_with fail
                          go_ret
                          exact ⟨rfl, (QW.out.1).trans (hb99.mono (QW.out.1).size)⟩
                    -- END8
      · have h1 := HLD.out.1 hE
        obtain ⟨rfl, rfl⟩ := h1
        have hne : (E2 != 0) = true := by simpa using hE
        clear hE
        go_wp2_with fail
        refine (HK.out _).mono ?_
        rintro e w99 ⟨rfl, hb99⟩
        go_wp2_with fail
        go_ret
        exact ⟨rfl, (Q3.out.1).trans (hb99.mono (Q3.out.1).size)⟩
end Go.Proofs.Ytlhekifmkkgjlaa
