/- Chapter 8, the reference: draw. -/
import Derived.Test.YtlhekifmkkgjlaaBooksG
set_option linter.unusedSimpArgs false
set_option linter.unusedVariables false
set_option linter.unnecessarySimpa false
namespace Go.Proofs.Ytlhekifmkkgjlaa
open Go Go.RowKit Go.Shelf
set_option maxHeartbeats 2000000
set_option maxRecDepth 100000
/-- the answer to Draw -/
def drawEE (m lm : Nat) (ws : Nat → Wa) (od z : Nat → Int) : Int := if m = 0 then 9 else if lm ≠ m then 4 else if anyTo (lostB ws od z) m = true then 2 else 0
def RDrawPost (SA : Option Addr) (n sc : Nat) (room : Int) (g wc : Nat) (BA : Option Addr) (m bc lm : Nat) (ws : Nat → Wa) (od z : Nat → Int) (w : World) (e : Ending) (w' : World) : Prop :=
  (drawEE m lm ws od z ≠ 0 ∧ e = .returned (.tuple #[bkV SA n sc room (some ⟨g, 0, none⟩) wc BA m bc, .int .i64 (drawEE m lm ws od z)]) ∧ Below w.heap.size w w') ∨
  (drawEE m lm ws od z = 0 ∧ ∃ g' c', e = .returned (.tuple #[bkV SA n sc room (some ⟨g', 0, none⟩) c' none 0 0, .int .i64 0]) ∧ WL w' g' n (drawW ws od z m) ∧ w.heap.size ≤ g' ∧ Below w.heap.size w w')
theorem anyTo_at {p : Nat → Bool} {n k : Nat} (hk : k < n) (h : p k = true) : anyTo p n = true := (anyTo_iff _ _).2 ⟨k, hk, h⟩
theorem refDraw_any (SA : Option Addr) (n sc : Nat) (room : Int) (g wc : Nat) (BA : Option Addr) (m bc : Nat) (lA : Option Addr) (lm lc : Nat) (ws : Nat → Wa) (od am z : Nat → Int) (w : World) (hW : WL w g n ws) (hn1 : 1 ≤ n) (hn : n ≤ 20) (hm20 : m ≤ 20)
    (hb : PI w w.heap.size BA m od am) (hl : IR w w.heap.size lA lm z) (hlm : lm ≤ 65536) (hok : ∀ k, k < n → OkW (ws k)) (hod : ∀ i, i < m → 0 ≤ od i ∧ od i ≤ (n : Int) - 1) (hdis : ∀ i j, i < j → j < m → od i ≠ od j) (ham : ∀ i, i < m → (ws (od i).toNat).burning = am i) :
    Calls Try.prog 77 #[bkV SA n sc room (some ⟨g, 0, none⟩) wc BA m bc, .slice lA lm lc] w (RDrawPost SA n sc room g wc BA m bc lm ws od z w) := by
  have HF : Hid (FB w SA n sc room g wc BA m bc ws ((w.alloc (.cells #[.bool false, .slice SA n sc, .int .i64 room, .slice (some ⟨g, 0, none⟩) n wc, .slice BA m bc] 87)).alloc (.cells #[.bool false, .slice none 0 0, .int .i64 0, .slice none 0 0, .slice none 0 0] 87))) := hide ⟨((Below.refl _ _).alloc (Nat.le_refl _) _).alloc (by simp) _, (Blk.new w _ _).alloc _, by simpa using Blk.new (w.alloc (.cells #[.bool false, .slice SA n sc, .int .i64 room, .slice (some ⟨g, 0, none⟩) n wc, .slice BA m bc] 87)) 87 #[.bool false, .slice none 0 0, .int .i64 0, .slice none 0 0, .slice none 0 0], hW.ext (((Below.refl _ _).alloc (Nat.le_refl _) _).alloc (by simp) _), hW.lt⟩
  have HL := hide hl
  have HBR := hide hb
  have HOK := hide hok
  have HOD := hide hod
  have HDIS := hide hdis
  have HAM := hide ham
  clear hl hb hok hW hod hdis ham
  unfold bkV
  go_enter Try.func77, Try.ntmps77
  go_upto_region 1 with fail
  generalize ((w.alloc (.cells #[.bool false, .slice SA n sc, .int .i64 room, .slice (some ⟨g, 0, none⟩) n wc, .slice BA m bc] 87)).alloc (.cells #[.bool false, .slice none 0 0, .int .i64 0, .slice none 0 0, .slice none 0 0] 87)) = W0 at HF ⊢
  by_cases h0 : m = 0
  · have HEE := hide (show drawEE m lm ws od z = 9 by unfold drawEE; rw [if_pos h0])
    have h0b : ((m : Int) == 0) = true := by simp [h0]
    clear h0
    obtain ⟨a0, a1, a2, a3, a4, a5, f1, f2, f3, f4, f5⟩ := bx5' HF.out.b2
    obtain ⟨c0, c1, c2, c3, c4, c5, h1, h2, h3, h4, h5⟩ := bx5' HF.out.b4
    go_wp2_with fail
    refine bodyPost_ret (v := .tuple #[bkV SA n sc room (some ⟨g, 0, none⟩) wc BA m bc, .int .i64 9]) (by simp [results, Try.results77, go_sem, bkV, *]) rfl (.inl ⟨by rw [HEE.out]; decide, by rw [HEE.out], set5_B HF.out.below (by omega) _ _ _ _ _⟩)
  · have h0b : ((m : Int) == 0) = false := by simpa using h0
    by_cases hlm2 : lm = m
    · subst hlm2
      have hm1 : 0 < lm := by omega
      have hnn : ((lm : Int) != (lm : Int)) = false := by simp
      clear h0 hlm
      obtain ⟨a0, a1, a2, a3, a4, a5, f1, f2, f3, f4, f5⟩ := bx5' HF.out.b2
      go_upto_region 6 with fail
      have HC0 : Hid (FC w SA n sc room g wc BA lm bc ws W0.heap.size g wc ws (W0.alloc (.cells #[.bool false, .slice SA n sc, .int .i64 room, .slice (some ⟨g, 0, none⟩) n wc, .slice BA lm bc] 87))) := hide (by
        have h9 := HF.out.ext ((Below.refl W0.heap.size W0).alloc (Nat.le_refl _) (.cells #[.bool false, .slice SA n sc, .int .i64 room, .slice (some ⟨g, 0, none⟩) n wc, .slice BA lm bc] 87))
        exact ⟨h9, Blk.new W0 _ _, h9.wl, HF.out.b4.lt, .inl rfl⟩)
      clear a0 a1 a2 a3 a4 a5 f1 f2 f3 f4 f5 HF
      generalize (W0.alloc (.cells #[.bool false, .slice SA n sc, .int .i64 room, .slice (some ⟨g, 0, none⟩) n wc, .slice BA lm bc] 87)) = W1 at HC0 ⊢
      generalize W0.heap.size = g7 at HC0 ⊢
      clear h0b hnn
      go_wp2_with fail
      go_loopw [7] (fun i wr => ∃ (k gw cw : Nat), i = .int .i64 k ∧ k ≤ lm ∧ Hid (anyTo (lostB ws od z) k = false) ∧ Hid (FC w SA n sc room g wc BA lm bc ws g7 gw cw (drawW ws od z k) wr) ∧ Hid (0 < k → w.heap.size ≤ gw)) (fun i _ => lm - (intOf i).toNat)
      case atStart => exact ⟨0, g, wc, rfl, by omega, hide rfl, HC0, hide (fun h => absurd h (by omega))⟩
      case round =>
        obtain ⟨k, gw, cw, rfl, hk, HNO, HC, HG⟩ := hrel
        clear HC0
        by_cases hlt : k < lm
        · obtain ⟨bb, boff, hBA, hbb, hx0, hy0⟩ := PI.at_ HBR.out hlt
          subst hBA
          obtain ⟨lb, loff, hlA, hlb, hz0⟩ := HL.out.at_ hlt
          subst hlA
          obtain ⟨od0, od1⟩ := HOD.out k hlt
          obtain ⟨KK, hKK⟩ : ∃ KK : Nat, od k = KK := Int.eq_ofNat_of_zero_le od0
          have hKn : KK < n := by omega
          have hamk := HAM.out k hlt
          rw [hKK, show ((KK : Nat) : Int).toNat = KK from rfl] at hamk
          have HKE := hide hKK
          have HAK := hide hamk
          have HZ0 := hide hz0
          have u1 := (HC.out.below.cell (p := ⟨bb, boff + k * 2, none⟩) hbb).trans hx0
          have u2 := (HC.out.below.cell (p := ⟨bb, boff + k * 2 + 1, none⟩) hbb).trans hy0
          obtain ⟨a0, a1, a2, a3, a4, a5, f1, f2, f3, f4, f5⟩ := bx5' HC.out.b2
          rw [hKK] at u1
          have i1 : (0 : Int) ≤ (k : Int) := by omega
          have i2 : (k : Int) < (lm : Int) := by omega
          have k1 : (0 : Int) ≤ (KK : Int) := by omega
          have k2 : (KK : Int) < (n : Int) := by omega
          clear hx0 hy0 hz0 hKK hamk od0 od1
          go_upto_region 10 with fail
          have K8 := hide (Blk.new wr 107 #[.int .i64 KK, .int .i64 (am k)])
          have HD := hide (HC.out.ext ((Below.refl wr.heap.size wr).alloc (Nat.le_refl _) (.cells #[.int .i64 KK, .int .i64 (am k)] 107)))
          have hg8 : w.heap.size + 1 < wr.heap.size := HC.out.b4.lt
          have hg87 : wr.heap.size ≠ g7 := by have := HC.out.b7.lt; omega
          have hg8w : wr.heap.size ≠ gw := by have := HC.out.wl7.lt; omega
          clear u1 u2 a0 a1 a2 a3 a4 a5 f1 f2 f3 f4 f5 HC
          generalize (wr.alloc (.cells #[.int .i64 KK, .int .i64 (am k)] 107)) = wa at K8 HD ⊢
          generalize wr.heap.size = g8 at K8 hg8 hg87 hg8w ⊢
          have K8d := hide K8.out.drew
          have HDd := hide (HD.out.ext (Below.refl _ _).drew)
          have hS : wa.drew.cell? ⟨lb, loff + k, none⟩ = some (.int .i64 (z k)) ∧ wa.drew.cell? ⟨g8, 1, none⟩ = some (.int .i64 (am k)) := ⟨(HDd.out.below.cell (p := ⟨lb, loff + k, none⟩) hlb).trans HZ0.out, (bx2 K8d.out).2.2⟩
          have HSS := hide hS
          clear hS HD K8
          refine wp_region_J (fun W : World => W.cell? ⟨lb, loff + k, none⟩ = some (.int .i64 (z k)) ∧ W.cell? ⟨g8, 1, none⟩ = some (.int .i64 (am k))) (by kernel_rfl) ?_
          generalize wa.drew = wd at K8d HDd HSS ⊢
          refine wpAnyJ_take 0 (v := ?_) (by first | exact hF | exact wideFn) HSS.out rfl (by kernel_rfl) (by kernel_rfl) (by kernel_rfl) (by kernel_rfl) rfl ?_ (by first | exact fun _ _ _ h => h | exact fun _ _ _ h => hQ2 _ _ _ _ _ h) ?_
          rotate_left
          · intro W hSW
            simp only [List.getElem_toArray, List.getElem_cons_zero, List.getElem_cons_succ]
            (try dsimp only at hSW)
            go_simp
            with_reducible rfl
          (try simp only [List.getElem_toArray, List.getElem_cons_zero, List.getElem_cons_succ, Act.put, List.setIfInBounds_toArray, List.set_cons_zero, List.set_cons_succ])
          refine wpAnyJ_take 1 (v := ?_) (by first | exact hF | exact wideFn) HSS.out rfl (by kernel_rfl) (by kernel_rfl) (by kernel_rfl) (by kernel_rfl) rfl ?_ (by first | exact fun _ _ _ h => h | exact fun _ _ _ h => hQ2 _ _ _ _ _ h) ?_
          rotate_left
          · intro W hSW
            simp only [List.getElem_toArray, List.getElem_cons_zero, List.getElem_cons_succ]
            (try dsimp only at hSW)
            go_simp
            with_reducible rfl
          (try simp only [List.getElem_toArray, List.getElem_cons_zero, List.getElem_cons_succ, Act.put, List.setIfInBounds_toArray, List.set_cons_zero, List.set_cons_succ])
          refine wpAnyJ_take 2 (v := ?_) (by first | exact hF | exact wideFn) HSS.out rfl (by kernel_rfl) (by kernel_rfl) (by kernel_rfl) (by kernel_rfl) rfl ?_ (by first | exact fun _ _ _ h => h | exact fun _ _ _ h => hQ2 _ _ _ _ _ h) ?_
          rotate_left
          · intro W hSW
            simp only [List.getElem_toArray, List.getElem_cons_zero, List.getElem_cons_succ]
            (try dsimp only at hSW)
            go_simp
            with_reducible rfl
          (try simp only [List.getElem_toArray, List.getElem_cons_zero, List.getElem_cons_succ, Act.put, List.setIfInBounds_toArray, List.set_cons_zero, List.set_cons_succ])
          refine wpAnyJ_take 3 (v := ?_) (by first | exact hF | exact wideFn) HSS.out rfl (by kernel_rfl) (by kernel_rfl) (by kernel_rfl) (by kernel_rfl) rfl ?_ (by first | exact fun _ _ _ h => h | exact fun _ _ _ h => hQ2 _ _ _ _ _ h) ?_
          rotate_left
          · intro W hSW
            simp only [List.getElem_toArray, List.getElem_cons_zero, List.getElem_cons_succ]
            (try dsimp only at hSW)
            go_simp
            with_reducible rfl
          (try simp only [List.getElem_toArray, List.getElem_cons_zero, List.getElem_cons_succ, Act.put, List.setIfInBounds_toArray, List.set_cons_zero, List.set_cons_succ])
          refine wpAnyJ_take 4 (v := ?_) (by first | exact hF | exact wideFn) HSS.out rfl (by kernel_rfl) (by kernel_rfl) (by kernel_rfl) (by kernel_rfl) rfl ?_ (by first | exact fun _ _ _ h => h | exact fun _ _ _ h => hQ2 _ _ _ _ _ h) ?_
          rotate_left
          · intro W hSW
            simp only [List.getElem_toArray, List.getElem_cons_zero, List.getElem_cons_succ]
            (try dsimp only at hSW)
            go_simp
            with_reducible rfl
          (try simp only [List.getElem_toArray, List.getElem_cons_zero, List.getElem_cons_succ, Act.put, List.setIfInBounds_toArray, List.set_cons_zero, List.set_cons_succ])
          refine wpAnyJ_take 5 (v := ?_) (by first | exact hF | exact wideFn) HSS.out rfl (by kernel_rfl) (by kernel_rfl) (by kernel_rfl) (by kernel_rfl) rfl ?_ (by first | exact fun _ _ _ h => h | exact fun _ _ _ h => hQ2 _ _ _ _ _ h) ?_
          rotate_left
          · intro W hSW
            simp only [List.getElem_toArray, List.getElem_cons_zero, List.getElem_cons_succ]
            (try dsimp only at hSW)
            go_simp
            with_reducible rfl
          (try simp only [List.getElem_toArray, List.getElem_cons_zero, List.getElem_cons_succ, Act.put, List.setIfInBounds_toArray, List.set_cons_zero, List.set_cons_succ])
          have HIN := refIn_any (z k) 0 (am k) wd
          rcases hin : inB (z k) 0 (am k) with _ | _
          · have HEE := hide (show drawEE lm lm ws od z = 2 by
              unfold drawEE
              rw [if_neg (by omega), if_neg (by simp), if_pos (anyTo_at hlt (by
                unfold lostB
                rw [HKE.out, show ((KK : Nat) : Int).toNat = KK from rfl, HAK.out, decide_eq_false (inB_no hin)]; rfl))])
            rw [hin] at HIN
            clear hin
            refine wpAnyJ_one 6 rfl (by kernel_rfl) (fun K hK => ?_)
            simp only [List.getElem_toArray, List.getElem_cons_zero, List.getElem_cons_succ]
            go_simp
            refine ⟨trivial, rfl, ?_⟩
            (with_reducible refine (callsIn_wide.2 HIN).mono ?_)
            rintro e w1 ⟨rfl, rfl⟩
            have HD := hide HDd.out.toFB
            dsimp only
            refine hK.out _ _ (fun _ => HSS.out) ?_
            clear hK K
            (try simp only [List.getElem_toArray, List.getElem_cons_zero, List.getElem_cons_succ, Act.put, List.setIfInBounds_toArray, List.set_cons_zero, List.set_cons_succ])
            refine wpAnyJ_take 7 (v := ?_) (by first | exact hF | exact wideFn) HSS.out rfl (by kernel_rfl) (by kernel_rfl) (by kernel_rfl) (by kernel_rfl) rfl ?_ (by first | exact fun _ _ _ h => h | exact fun _ _ _ h => hQ2 _ _ _ _ _ h) ?_
            rotate_left
            · intro W hSW
              simp only [List.getElem_toArray, List.getElem_cons_zero, List.getElem_cons_succ]
              (try dsimp only at hSW)
              go_simp
              with_reducible rfl
            (try simp only [List.getElem_toArray, List.getElem_cons_zero, List.getElem_cons_succ, Act.put, List.setIfInBounds_toArray, List.set_cons_zero, List.set_cons_succ])
            refine wpAnyJ_done (by kernel_rfl) ?_
            clear i1 i2 k1 k2
            obtain ⟨a0, a1, a2, a3, a4, a5, f1, f2, f3, f4, f5⟩ := bx5' HD.out.b2
            obtain ⟨c0, c1, c2, c3, c4, c5, h1, h2, h3, h4, h5⟩ := bx5' HD.out.b4
            go_wp2_with fail
            refine bodyPost_ret (v := .tuple #[bkV SA n sc room (some ⟨g, 0, none⟩) wc (some ⟨bb, boff, none⟩) lm bc, .int .i64 2]) (by simp [results, Try.results77, go_sem, bkV, *]) rfl (.inl ⟨by rw [HEE.out]; decide, by rw [HEE.out], set5_B HD.out.below (by omega) _ _ _ _ _⟩)
          · have h07 := (inB_iff _ _ _).1 hin
            have HNO2 : Hid (anyTo (lostB ws od z) (k + 1) = false) := hide (by
              show (anyTo _ k || lostB ws od z k) = false
              rw [HNO.out]
              unfold lostB
              rw [HKE.out, show ((KK : Nat) : Int).toNat = KK from rfl, HAK.out, decide_eq_true h07]; rfl)
            rw [hin] at HIN
            clear hin
            refine wpAnyJ_one 6 rfl (by kernel_rfl) (fun K hK => ?_)
            simp only [List.getElem_toArray, List.getElem_cons_zero, List.getElem_cons_succ]
            go_simp
            refine ⟨trivial, rfl, ?_⟩
            (with_reducible refine (callsIn_wide.2 HIN).mono ?_)
            rintro e w1 ⟨rfl, rfl⟩
            skip
            dsimp only
            refine hK.out _ _ (fun _ => HSS.out) ?_
            clear hK K
            (try simp only [List.getElem_toArray, List.getElem_cons_zero, List.getElem_cons_succ, Act.put, List.setIfInBounds_toArray, List.set_cons_zero, List.set_cons_succ])
            refine wpAnyJ_take 7 (v := ?_) (by first | exact hF | exact wideFn) HSS.out rfl (by kernel_rfl) (by kernel_rfl) (by kernel_rfl) (by kernel_rfl) rfl ?_ (by first | exact fun _ _ _ h => h | exact fun _ _ _ h => hQ2 _ _ _ _ _ h) ?_
            rotate_left
            · intro W hSW
              simp only [List.getElem_toArray, List.getElem_cons_zero, List.getElem_cons_succ]
              (try dsimp only at hSW)
              go_simp
              with_reducible rfl
            (try simp only [List.getElem_toArray, List.getElem_cons_zero, List.getElem_cons_succ, Act.put, List.setIfInBounds_toArray, List.set_cons_zero, List.set_cons_succ])
            refine wpAnyJ_done (by kernel_rfl) ?_
            clear HSS
            have hf : drawW ws od z k KK = ws KK := drawW_far (fun j hj e => HDIS.out j k hj hlt (by
              obtain ⟨q0, q1⟩ := HOD.out j (by omega)
              rw [HKE.out]; omega))
            have HFW := hide hf
            clear hf
            obtain ⟨a0, a1, a2, a3, a4, a5, f1, f2, f3, f4, f5⟩ := bx5' HDd.out.b7
            obtain ⟨l8, b1, b2⟩ := bx2 K8d.out
            obtain ⟨e0, -, e1, e2, e3, e4, e5, e6, e7⟩ := HDd.out.wl7.2 KK hKn
            rw [HFW.out] at e1 e2 e3 e4 e5 e6 e7
            go_upto_region 13 with fail
            have HT := hide (Blk.new wd 94 #[.int .i64 (ws KK).wet, .int .i64 (ws KK).dry, .int .i64 (ws KK).burning, .int .i64 (ws KK).fired, .int .i64 (ws KK).laid, .int .i64 (ws KK).broken, .int .i64 (ws KK).missing])
            have hbz : Below wd.heap.size wd (wd.alloc (.cells #[.int .i64 (ws KK).wet, .int .i64 (ws KK).dry, .int .i64 (ws KK).burning, .int .i64 (ws KK).fired, .int .i64 (ws KK).laid, .int .i64 (ws KK).broken, .int .i64 (ws KK).missing] 94)) := (Below.refl wd.heap.size wd).alloc (Nat.le_refl _) _
            have HD2 := hide (HDd.out.ext hbz)
            have K82 := hide (K8d.out.ext hbz)
            have hgt1 : w.heap.size + 1 < wd.heap.size := HDd.out.b4.lt
            have hgt7 : wd.heap.size ≠ g7 := by have := HDd.out.b7.lt; omega
            have hgtw : wd.heap.size ≠ gw := by have := HDd.out.wl7.lt; omega
            have hgt8 : wd.heap.size ≠ g8 := by omega
            clear a0 a1 a2 a3 a4 a5 f1 f2 f3 f4 f5 l8 b1 b2 e0 e1 e2 e3 e4 e5 e6 e7 hbz HDd K8d
            generalize (wd.alloc (.cells #[.int .i64 (ws KK).wet, .int .i64 (ws KK).dry, .int .i64 (ws KK).burning, .int .i64 (ws KK).fired, .int .i64 (ws KK).laid, .int .i64 (ws KK).broken, .int .i64 (ws KK).missing] 94)) = we at HT HD2 K82 ⊢
            generalize wd.heap.size = gt at HT hgt1 hgt7 hgtw hgt8 ⊢
            obtain ⟨o1, o2, o3, o4, o5, o6, o7, o8, o9⟩ := HOK.out KK hKn
            have hak := HAK.out
            have hw1 : IntKind.i64.wrap ((ws KK).burning - am k) = (ws KK).burning - am k := IntWalk.i64_in _ (by omega)
            have hw2 : IntKind.i64.wrap ((ws KK).fired + am k) = (ws KK).fired + am k := IntWalk.i64_in _ (by omega)
            have hw3 : IntKind.i64.wrap ((ws KK).fired + am k - z k) = (ws KK).fired + am k - z k := IntWalk.i64_in _ (by omega)
            have hw4 : IntKind.i64.wrap ((ws KK).broken + z k) = (ws KK).broken + z k := IntWalk.i64_in _ (by omega)
            clear hak o1 o2 o3 o4 o5 o6 o7 o8 o9
            have HTd := hide HT.out.drew
            have HD3 := hide (HD2.out.ext (Below.refl _ _).drew)
            have K83 := hide K82.out.drew
            clear HT HD2 K82
            refine wp_region_K (pickS [1, 6, 16] (fun W => W.cell? ⟨gt, 2, none⟩ = some (.int .i64 (ws KK).burning) ∧ W.cell? ⟨gt, 3, none⟩ = some (.int .i64 (ws KK).fired) ∧ W.cell? ⟨gt, 5, none⟩ = some (.int .i64 (ws KK).broken)) (fun W => W.cell? ⟨g8, 1, none⟩ = some (.int .i64 (am k)) ∧ W.cell? ⟨lb, loff + k, none⟩ = some (.int .i64 (z k)))) (by kernel_rfl) ?_
            generalize we.drew = wf at HTd HD3 K83 ⊢
            have HA : Hid (wf.cell? ⟨gt, 2, none⟩ = some (.int .i64 (ws KK).burning) ∧ wf.cell? ⟨gt, 3, none⟩ = some (.int .i64 (ws KK).fired) ∧ wf.cell? ⟨gt, 5, none⟩ = some (.int .i64 (ws KK).broken)) := hide (by
              obtain ⟨-, c1, c2, c3, c4, c5, c6, c7⟩ := bx7 HTd.out
              exact ⟨c3, c4, c6⟩)
            have HSBW : Hid (∀ W, Below w.heap.size w W → Blk W g8 107 #[.int .i64 KK, .int .i64 (am k)] → W.cell? ⟨g8, 1, none⟩ = some (.int .i64 (am k)) ∧ W.cell? ⟨lb, loff + k, none⟩ = some (.int .i64 (z k))) := hide (fun W h1 h2 => ⟨(bx2 h2).2.2, (h1.cell (p := ⟨lb, loff + k, none⟩) hlb).trans HZ0.out⟩)
            have HSB := hide (HSBW.out _ HD3.out.below K83.out)
            obtain ⟨c0, c1, c2, c3, c4, c5, c6, c7⟩ := bx7 HTd.out
            have f2 := HTd.out.frozen 2
            have f3 := HTd.out.frozen 3
            have f5 := HTd.out.frozen 5
            refine wpAnyK_take 0 (v := ?_) (by first | exact hF | exact wideFn) HSB.out rfl (by kernel_rfl) (by kernel_rfl) (by kernel_rfl) (by kernel_rfl) rfl ?_ (by first | exact fun _ _ _ h => h | exact fun _ _ _ h => hQ2 _ _ _ _ _ h) ?_
            rotate_left
            · intro W hSW
              replace hSW : (W.cell? ⟨g8, 1, none⟩ = some (.int .i64 (am k)) ∧ W.cell? ⟨lb, loff + k, none⟩ = some (.int .i64 (z k))) := hSW
              simp only [List.getElem_toArray, List.getElem_cons_zero, List.getElem_cons_succ]
              (try dsimp only at hSW)
              go_simp
              with_reducible rfl
            (try simp only [List.getElem_toArray, List.getElem_cons_zero, List.getElem_cons_succ, Act.put, List.setIfInBounds_toArray, List.set_cons_zero, List.set_cons_succ])
            refine wpAnyK_take 1 (v := ?_) (by first | exact hF | exact wideFn) (And.intro HA.out HSB.out) rfl (by kernel_rfl) (by kernel_rfl) (by kernel_rfl) (by kernel_rfl) rfl ?_ (by first | exact fun _ _ _ h => h | exact fun _ _ _ h => hQ2 _ _ _ _ _ h) ?_
            rotate_left
            · intro W hSW
              replace hSW : ((W.cell? ⟨gt, 2, none⟩ = some (.int .i64 (ws KK).burning) ∧ W.cell? ⟨gt, 3, none⟩ = some (.int .i64 (ws KK).fired) ∧ W.cell? ⟨gt, 5, none⟩ = some (.int .i64 (ws KK).broken)) ∧ W.cell? ⟨g8, 1, none⟩ = some (.int .i64 (am k)) ∧ W.cell? ⟨lb, loff + k, none⟩ = some (.int .i64 (z k))) := hSW
              simp only [List.getElem_toArray, List.getElem_cons_zero, List.getElem_cons_succ]
              (try dsimp only at hSW)
              go_simp
              with_reducible rfl
            (try simp only [List.getElem_toArray, List.getElem_cons_zero, List.getElem_cons_succ, Act.put, List.setIfInBounds_toArray, List.set_cons_zero, List.set_cons_succ])
            refine wpAnyK_take 2 (v := ?_) (by first | exact hF | exact wideFn) HSB.out rfl (by kernel_rfl) (by kernel_rfl) (by kernel_rfl) (by kernel_rfl) rfl ?_ (by first | exact fun _ _ _ h => h | exact fun _ _ _ h => hQ2 _ _ _ _ _ h) ?_
            rotate_left
            · intro W hSW
              replace hSW : (W.cell? ⟨g8, 1, none⟩ = some (.int .i64 (am k)) ∧ W.cell? ⟨lb, loff + k, none⟩ = some (.int .i64 (z k))) := hSW
              simp only [List.getElem_toArray, List.getElem_cons_zero, List.getElem_cons_succ]
              (try dsimp only at hSW)
              go_simp
              with_reducible rfl
            (try simp only [List.getElem_toArray, List.getElem_cons_zero, List.getElem_cons_succ, Act.put, List.setIfInBounds_toArray, List.set_cons_zero, List.set_cons_succ])
            refine wpAnyK_take 3 (v := ?_) (by first | exact hF | exact wideFn) HSB.out rfl (by kernel_rfl) (by kernel_rfl) (by kernel_rfl) (by kernel_rfl) rfl ?_ (by first | exact fun _ _ _ h => h | exact fun _ _ _ h => hQ2 _ _ _ _ _ h) ?_
            rotate_left
            · intro W hSW
              replace hSW : (W.cell? ⟨g8, 1, none⟩ = some (.int .i64 (am k)) ∧ W.cell? ⟨lb, loff + k, none⟩ = some (.int .i64 (z k))) := hSW
              simp only [List.getElem_toArray, List.getElem_cons_zero, List.getElem_cons_succ]
              (try dsimp only at hSW)
              go_simp
              with_reducible rfl
            (try simp only [List.getElem_toArray, List.getElem_cons_zero, List.getElem_cons_succ, Act.put, List.setIfInBounds_toArray, List.set_cons_zero, List.set_cons_succ])
            refine wpAnyK_take 4 (v := ?_) (by first | exact hF | exact wideFn) HSB.out rfl (by kernel_rfl) (by kernel_rfl) (by kernel_rfl) (by kernel_rfl) rfl ?_ (by first | exact fun _ _ _ h => h | exact fun _ _ _ h => hQ2 _ _ _ _ _ h) ?_
            rotate_left
            · intro W hSW
              replace hSW : (W.cell? ⟨g8, 1, none⟩ = some (.int .i64 (am k)) ∧ W.cell? ⟨lb, loff + k, none⟩ = some (.int .i64 (z k))) := hSW
              simp only [List.getElem_toArray, List.getElem_cons_zero, List.getElem_cons_succ]
              (try dsimp only at hSW)
              go_simp
              with_reducible rfl
            (try simp only [List.getElem_toArray, List.getElem_cons_zero, List.getElem_cons_succ, Act.put, List.setIfInBounds_toArray, List.set_cons_zero, List.set_cons_succ])
            refine wpAnyK_take 5 (v := ?_) (by first | exact hF | exact wideFn) HSB.out rfl (by kernel_rfl) (by kernel_rfl) (by kernel_rfl) (by kernel_rfl) rfl ?_ (by first | exact fun _ _ _ h => h | exact fun _ _ _ h => hQ2 _ _ _ _ _ h) ?_
            rotate_left
            · intro W hSW
              replace hSW : (W.cell? ⟨g8, 1, none⟩ = some (.int .i64 (am k)) ∧ W.cell? ⟨lb, loff + k, none⟩ = some (.int .i64 (z k))) := hSW
              simp only [List.getElem_toArray, List.getElem_cons_zero, List.getElem_cons_succ]
              (try dsimp only at hSW)
              go_simp
              with_reducible rfl
            (try simp only [List.getElem_toArray, List.getElem_cons_zero, List.getElem_cons_succ, Act.put, List.setIfInBounds_toArray, List.set_cons_zero, List.set_cons_succ])
            refine wpAnyK_take 6 (v := ?_) (by first | exact hF | exact wideFn) (And.intro HA.out HSB.out) rfl (by kernel_rfl) (by kernel_rfl) (by kernel_rfl) (by kernel_rfl) rfl ?_ (by first | exact fun _ _ _ h => h | exact fun _ _ _ h => hQ2 _ _ _ _ _ h) ?_
            rotate_left
            · intro W hSW
              replace hSW : ((W.cell? ⟨gt, 2, none⟩ = some (.int .i64 (ws KK).burning) ∧ W.cell? ⟨gt, 3, none⟩ = some (.int .i64 (ws KK).fired) ∧ W.cell? ⟨gt, 5, none⟩ = some (.int .i64 (ws KK).broken)) ∧ W.cell? ⟨g8, 1, none⟩ = some (.int .i64 (am k)) ∧ W.cell? ⟨lb, loff + k, none⟩ = some (.int .i64 (z k))) := hSW
              simp only [List.getElem_toArray, List.getElem_cons_zero, List.getElem_cons_succ]
              (try dsimp only at hSW)
              go_simp
              with_reducible rfl
            (try simp only [List.getElem_toArray, List.getElem_cons_zero, List.getElem_cons_succ, Act.put, List.setIfInBounds_toArray, List.set_cons_zero, List.set_cons_succ])
            refine wpAnyK_take 7 (v := ?_) (by first | exact hF | exact wideFn) HSB.out rfl (by kernel_rfl) (by kernel_rfl) (by kernel_rfl) (by kernel_rfl) rfl ?_ (by first | exact fun _ _ _ h => h | exact fun _ _ _ h => hQ2 _ _ _ _ _ h) ?_
            rotate_left
            · intro W hSW
              replace hSW : (W.cell? ⟨g8, 1, none⟩ = some (.int .i64 (am k)) ∧ W.cell? ⟨lb, loff + k, none⟩ = some (.int .i64 (z k))) := hSW
              simp only [List.getElem_toArray, List.getElem_cons_zero, List.getElem_cons_succ]
              (try dsimp only at hSW)
              go_simp
              with_reducible rfl
            (try simp only [List.getElem_toArray, List.getElem_cons_zero, List.getElem_cons_succ, Act.put, List.setIfInBounds_toArray, List.set_cons_zero, List.set_cons_succ])
            refine wpAnyK_take 8 (v := ?_) (by first | exact hF | exact wideFn) HSB.out rfl (by kernel_rfl) (by kernel_rfl) (by kernel_rfl) (by kernel_rfl) rfl ?_ (by first | exact fun _ _ _ h => h | exact fun _ _ _ h => hQ2 _ _ _ _ _ h) ?_
            rotate_left
            · intro W hSW
              replace hSW : (W.cell? ⟨g8, 1, none⟩ = some (.int .i64 (am k)) ∧ W.cell? ⟨lb, loff + k, none⟩ = some (.int .i64 (z k))) := hSW
              simp only [List.getElem_toArray, List.getElem_cons_zero, List.getElem_cons_succ]
              (try dsimp only at hSW)
              go_simp
              with_reducible rfl
            (try simp only [List.getElem_toArray, List.getElem_cons_zero, List.getElem_cons_succ, Act.put, List.setIfInBounds_toArray, List.set_cons_zero, List.set_cons_succ])
            refine wpAnyK_take 9 (v := ?_) (by first | exact hF | exact wideFn) HSB.out rfl (by kernel_rfl) (by kernel_rfl) (by kernel_rfl) (by kernel_rfl) rfl ?_ (by first | exact fun _ _ _ h => h | exact fun _ _ _ h => hQ2 _ _ _ _ _ h) ?_
            rotate_left
            · intro W hSW
              replace hSW : (W.cell? ⟨g8, 1, none⟩ = some (.int .i64 (am k)) ∧ W.cell? ⟨lb, loff + k, none⟩ = some (.int .i64 (z k))) := hSW
              simp only [List.getElem_toArray, List.getElem_cons_zero, List.getElem_cons_succ]
              (try dsimp only at hSW)
              go_simp
              with_reducible rfl
            (try simp only [List.getElem_toArray, List.getElem_cons_zero, List.getElem_cons_succ, Act.put, List.setIfInBounds_toArray, List.set_cons_zero, List.set_cons_succ])
            refine wpAnyK_take 10 (v := ?_) (by first | exact hF | exact wideFn) HSB.out rfl (by kernel_rfl) (by kernel_rfl) (by kernel_rfl) (by kernel_rfl) rfl ?_ (by first | exact fun _ _ _ h => h | exact fun _ _ _ h => hQ2 _ _ _ _ _ h) ?_
            rotate_left
            · intro W hSW
              replace hSW : (W.cell? ⟨g8, 1, none⟩ = some (.int .i64 (am k)) ∧ W.cell? ⟨lb, loff + k, none⟩ = some (.int .i64 (z k))) := hSW
              simp only [List.getElem_toArray, List.getElem_cons_zero, List.getElem_cons_succ]
              (try dsimp only at hSW)
              go_simp
              with_reducible rfl
            (try simp only [List.getElem_toArray, List.getElem_cons_zero, List.getElem_cons_succ, Act.put, List.setIfInBounds_toArray, List.set_cons_zero, List.set_cons_succ])
            refine wpAnyK_take 11 (v := ?_) (by first | exact hF | exact wideFn) HSB.out rfl (by kernel_rfl) (by kernel_rfl) (by kernel_rfl) (by kernel_rfl) rfl ?_ (by first | exact fun _ _ _ h => h | exact fun _ _ _ h => hQ2 _ _ _ _ _ h) ?_
            rotate_left
            · intro W hSW
              replace hSW : (W.cell? ⟨g8, 1, none⟩ = some (.int .i64 (am k)) ∧ W.cell? ⟨lb, loff + k, none⟩ = some (.int .i64 (z k))) := hSW
              simp only [List.getElem_toArray, List.getElem_cons_zero, List.getElem_cons_succ]
              (try dsimp only at hSW)
              go_simp
              with_reducible rfl
            (try simp only [List.getElem_toArray, List.getElem_cons_zero, List.getElem_cons_succ, Act.put, List.setIfInBounds_toArray, List.set_cons_zero, List.set_cons_succ])
            refine wpAnyK_take 12 (v := ?_) (by first | exact hF | exact wideFn) HSB.out rfl (by kernel_rfl) (by kernel_rfl) (by kernel_rfl) (by kernel_rfl) rfl ?_ (by first | exact fun _ _ _ h => h | exact fun _ _ _ h => hQ2 _ _ _ _ _ h) ?_
            rotate_left
            · intro W hSW
              replace hSW : (W.cell? ⟨g8, 1, none⟩ = some (.int .i64 (am k)) ∧ W.cell? ⟨lb, loff + k, none⟩ = some (.int .i64 (z k))) := hSW
              simp only [List.getElem_toArray, List.getElem_cons_zero, List.getElem_cons_succ]
              (try dsimp only at hSW)
              go_simp
              with_reducible rfl
            (try simp only [List.getElem_toArray, List.getElem_cons_zero, List.getElem_cons_succ, Act.put, List.setIfInBounds_toArray, List.set_cons_zero, List.set_cons_succ])
            refine wpAnyK_take 13 (v := ?_) (by first | exact hF | exact wideFn) HSB.out rfl (by kernel_rfl) (by kernel_rfl) (by kernel_rfl) (by kernel_rfl) rfl ?_ (by first | exact fun _ _ _ h => h | exact fun _ _ _ h => hQ2 _ _ _ _ _ h) ?_
            rotate_left
            · intro W hSW
              replace hSW : (W.cell? ⟨g8, 1, none⟩ = some (.int .i64 (am k)) ∧ W.cell? ⟨lb, loff + k, none⟩ = some (.int .i64 (z k))) := hSW
              simp only [List.getElem_toArray, List.getElem_cons_zero, List.getElem_cons_succ]
              (try dsimp only at hSW)
              go_simp
              with_reducible rfl
            (try simp only [List.getElem_toArray, List.getElem_cons_zero, List.getElem_cons_succ, Act.put, List.setIfInBounds_toArray, List.set_cons_zero, List.set_cons_succ])
            refine wpAnyK_take 14 (v := ?_) (by first | exact hF | exact wideFn) HSB.out rfl (by kernel_rfl) (by kernel_rfl) (by kernel_rfl) (by kernel_rfl) rfl ?_ (by first | exact fun _ _ _ h => h | exact fun _ _ _ h => hQ2 _ _ _ _ _ h) ?_
            rotate_left
            · intro W hSW
              replace hSW : (W.cell? ⟨g8, 1, none⟩ = some (.int .i64 (am k)) ∧ W.cell? ⟨lb, loff + k, none⟩ = some (.int .i64 (z k))) := hSW
              simp only [List.getElem_toArray, List.getElem_cons_zero, List.getElem_cons_succ]
              (try dsimp only at hSW)
              go_simp
              with_reducible rfl
            (try simp only [List.getElem_toArray, List.getElem_cons_zero, List.getElem_cons_succ, Act.put, List.setIfInBounds_toArray, List.set_cons_zero, List.set_cons_succ])
            refine wpAnyK_take 15 (v := ?_) (by first | exact hF | exact wideFn) HSB.out rfl (by kernel_rfl) (by kernel_rfl) (by kernel_rfl) (by kernel_rfl) rfl ?_ (by first | exact fun _ _ _ h => h | exact fun _ _ _ h => hQ2 _ _ _ _ _ h) ?_
            rotate_left
            · intro W hSW
              replace hSW : (W.cell? ⟨g8, 1, none⟩ = some (.int .i64 (am k)) ∧ W.cell? ⟨lb, loff + k, none⟩ = some (.int .i64 (z k))) := hSW
              simp only [List.getElem_toArray, List.getElem_cons_zero, List.getElem_cons_succ]
              (try dsimp only at hSW)
              go_simp
              with_reducible rfl
            (try simp only [List.getElem_toArray, List.getElem_cons_zero, List.getElem_cons_succ, Act.put, List.setIfInBounds_toArray, List.set_cons_zero, List.set_cons_succ])
            refine wpAnyK_take 16 (v := ?_) (by first | exact hF | exact wideFn) (And.intro HA.out HSB.out) rfl (by kernel_rfl) (by kernel_rfl) (by kernel_rfl) (by kernel_rfl) rfl ?_ (by first | exact fun _ _ _ h => h | exact fun _ _ _ h => hQ2 _ _ _ _ _ h) ?_
            rotate_left
            · intro W hSW
              replace hSW : ((W.cell? ⟨gt, 2, none⟩ = some (.int .i64 (ws KK).burning) ∧ W.cell? ⟨gt, 3, none⟩ = some (.int .i64 (ws KK).fired) ∧ W.cell? ⟨gt, 5, none⟩ = some (.int .i64 (ws KK).broken)) ∧ W.cell? ⟨g8, 1, none⟩ = some (.int .i64 (am k)) ∧ W.cell? ⟨lb, loff + k, none⟩ = some (.int .i64 (z k))) := hSW
              simp only [List.getElem_toArray, List.getElem_cons_zero, List.getElem_cons_succ]
              (try dsimp only at hSW)
              go_simp
              with_reducible rfl
            (try simp only [List.getElem_toArray, List.getElem_cons_zero, List.getElem_cons_succ, Act.put, List.setIfInBounds_toArray, List.set_cons_zero, List.set_cons_succ])
            refine wpAnyK_take 17 (v := ?_) (by first | exact hF | exact wideFn) HSB.out rfl (by kernel_rfl) (by kernel_rfl) (by kernel_rfl) (by kernel_rfl) rfl ?_ (by first | exact fun _ _ _ h => h | exact fun _ _ _ h => hQ2 _ _ _ _ _ h) ?_
            rotate_left
            · intro W hSW
              replace hSW : (W.cell? ⟨g8, 1, none⟩ = some (.int .i64 (am k)) ∧ W.cell? ⟨lb, loff + k, none⟩ = some (.int .i64 (z k))) := hSW
              simp only [List.getElem_toArray, List.getElem_cons_zero, List.getElem_cons_succ]
              (try dsimp only at hSW)
              go_simp
              with_reducible rfl
            (try simp only [List.getElem_toArray, List.getElem_cons_zero, List.getElem_cons_succ, Act.put, List.setIfInBounds_toArray, List.set_cons_zero, List.set_cons_succ])
            refine wpAnyK_take 18 (v := ?_) (by first | exact hF | exact wideFn) HSB.out rfl (by kernel_rfl) (by kernel_rfl) (by kernel_rfl) (by kernel_rfl) rfl ?_ (by first | exact fun _ _ _ h => h | exact fun _ _ _ h => hQ2 _ _ _ _ _ h) ?_
            rotate_left
            · intro W hSW
              replace hSW : (W.cell? ⟨g8, 1, none⟩ = some (.int .i64 (am k)) ∧ W.cell? ⟨lb, loff + k, none⟩ = some (.int .i64 (z k))) := hSW
              simp only [List.getElem_toArray, List.getElem_cons_zero, List.getElem_cons_succ]
              (try dsimp only at hSW)
              go_simp
              with_reducible rfl
            (try simp only [List.getElem_toArray, List.getElem_cons_zero, List.getElem_cons_succ, Act.put, List.setIfInBounds_toArray, List.set_cons_zero, List.set_cons_succ])
            refine wpAnyK_take 19 (v := ?_) (by first | exact hF | exact wideFn) HSB.out rfl (by kernel_rfl) (by kernel_rfl) (by kernel_rfl) (by kernel_rfl) rfl ?_ (by first | exact fun _ _ _ h => h | exact fun _ _ _ h => hQ2 _ _ _ _ _ h) ?_
            rotate_left
            · intro W hSW
              replace hSW : (W.cell? ⟨g8, 1, none⟩ = some (.int .i64 (am k)) ∧ W.cell? ⟨lb, loff + k, none⟩ = some (.int .i64 (z k))) := hSW
              simp only [List.getElem_toArray, List.getElem_cons_zero, List.getElem_cons_succ]
              (try dsimp only at hSW)
              go_simp
              with_reducible rfl
            (try simp only [List.getElem_toArray, List.getElem_cons_zero, List.getElem_cons_succ, Act.put, List.setIfInBounds_toArray, List.set_cons_zero, List.set_cons_succ])
            refine wpAnyK_take 20 (v := ?_) (by first | exact hF | exact wideFn) HSB.out rfl (by kernel_rfl) (by kernel_rfl) (by kernel_rfl) (by kernel_rfl) rfl ?_ (by first | exact fun _ _ _ h => h | exact fun _ _ _ h => hQ2 _ _ _ _ _ h) ?_
            rotate_left
            · intro W hSW
              replace hSW : (W.cell? ⟨g8, 1, none⟩ = some (.int .i64 (am k)) ∧ W.cell? ⟨lb, loff + k, none⟩ = some (.int .i64 (z k))) := hSW
              simp only [List.getElem_toArray, List.getElem_cons_zero, List.getElem_cons_succ]
              (try dsimp only at hSW)
              go_simp
              with_reducible rfl
            (try simp only [List.getElem_toArray, List.getElem_cons_zero, List.getElem_cons_succ, Act.put, List.setIfInBounds_toArray, List.set_cons_zero, List.set_cons_succ])
            refine wpAnyK_take 21 (v := ?_) (by first | exact hF | exact wideFn) HSB.out rfl (by kernel_rfl) (by kernel_rfl) (by kernel_rfl) (by kernel_rfl) rfl ?_ (by first | exact fun _ _ _ h => h | exact fun _ _ _ h => hQ2 _ _ _ _ _ h) ?_
            rotate_left
            · intro W hSW
              replace hSW : (W.cell? ⟨g8, 1, none⟩ = some (.int .i64 (am k)) ∧ W.cell? ⟨lb, loff + k, none⟩ = some (.int .i64 (z k))) := hSW
              simp only [List.getElem_toArray, List.getElem_cons_zero, List.getElem_cons_succ]
              (try dsimp only at hSW)
              go_simp
              with_reducible rfl
            (try simp only [List.getElem_toArray, List.getElem_cons_zero, List.getElem_cons_succ, Act.put, List.setIfInBounds_toArray, List.set_cons_zero, List.set_cons_succ])
            refine wpAnyK_take 22 (v := ?_) (by first | exact hF | exact wideFn) HSB.out rfl (by kernel_rfl) (by kernel_rfl) (by kernel_rfl) (by kernel_rfl) rfl ?_ (by first | exact fun _ _ _ h => h | exact fun _ _ _ h => hQ2 _ _ _ _ _ h) ?_
            rotate_left
            · intro W hSW
              replace hSW : (W.cell? ⟨g8, 1, none⟩ = some (.int .i64 (am k)) ∧ W.cell? ⟨lb, loff + k, none⟩ = some (.int .i64 (z k))) := hSW
              simp only [List.getElem_toArray, List.getElem_cons_zero, List.getElem_cons_succ]
              (try dsimp only at hSW)
              go_simp
              with_reducible rfl
            (try simp only [List.getElem_toArray, List.getElem_cons_zero, List.getElem_cons_succ, Act.put, List.setIfInBounds_toArray, List.set_cons_zero, List.set_cons_succ])
            clear hw1 hw2 hw3 hw4
            have B1 := hide (HD3.out.below.setCell (p := ⟨gt, 2, none⟩) (by show w.heap.size ≤ gt; omega) (.int .i64 ((ws KK).burning - am k)))
            have B2 := hide (B1.out.setCell (p := ⟨gt, 3, none⟩) (by show w.heap.size ≤ gt; omega) (.int .i64 ((ws KK).fired + am k - z k)))
            have Q1 := hide (K83.out.far (p := ⟨gt, 2, none⟩) (Ne.symm hgt8) (.int .i64 ((ws KK).burning - am k)))
            have Q2 := hide (Q1.out.far (p := ⟨gt, 3, none⟩) (Ne.symm hgt8) (.int .i64 ((ws KK).fired + am k - z k)))
            refine wpAnyK_one 23 rfl (by kernel_rfl) (fun K hK => ?_)
            simp only [List.getElem_toArray, List.getElem_cons_zero, List.getElem_cons_succ]
            go_simp
            refine hK.out _ _ (.inr (pickS_need (by kernel_rfl) (HSBW.out _ B1.out Q1.out))) ?_
            clear hK K
            (try simp only [List.getElem_toArray, List.getElem_cons_zero, List.getElem_cons_succ, Act.put, List.setIfInBounds_toArray, List.set_cons_zero, List.set_cons_succ])
            refine wpAnyK_take 24 (v := ?_) (by first | exact hF | exact wideFn) (HSBW.out _ B1.out Q1.out) rfl (by kernel_rfl) (by kernel_rfl) (by kernel_rfl) (by kernel_rfl) rfl ?_ (by first | exact fun _ _ _ h => h | exact fun _ _ _ h => hQ2 _ _ _ _ _ h) ?_
            rotate_left
            · intro W hSW
              replace hSW : (W.cell? ⟨g8, 1, none⟩ = some (.int .i64 (am k)) ∧ W.cell? ⟨lb, loff + k, none⟩ = some (.int .i64 (z k))) := hSW
              simp only [List.getElem_toArray, List.getElem_cons_zero, List.getElem_cons_succ]
              (try dsimp only at hSW)
              go_simp
              with_reducible rfl
            (try simp only [List.getElem_toArray, List.getElem_cons_zero, List.getElem_cons_succ, Act.put, List.setIfInBounds_toArray, List.set_cons_zero, List.set_cons_succ])
            refine wpAnyK_one 25 rfl (by kernel_rfl) (fun K hK => ?_)
            simp only [List.getElem_toArray, List.getElem_cons_zero, List.getElem_cons_succ]
            go_simp
            refine hK.out _ _ (.inr (pickS_need (by kernel_rfl) (HSBW.out _ B2.out Q2.out))) ?_
            clear hK K
            (try simp only [List.getElem_toArray, List.getElem_cons_zero, List.getElem_cons_succ, Act.put, List.setIfInBounds_toArray, List.set_cons_zero, List.set_cons_succ])
            refine wpAnyK_take 26 (v := ?_) (by first | exact hF | exact wideFn) (HSBW.out _ B2.out Q2.out) rfl (by kernel_rfl) (by kernel_rfl) (by kernel_rfl) (by kernel_rfl) rfl ?_ (by first | exact fun _ _ _ h => h | exact fun _ _ _ h => hQ2 _ _ _ _ _ h) ?_
            rotate_left
            · intro W hSW
              replace hSW : (W.cell? ⟨g8, 1, none⟩ = some (.int .i64 (am k)) ∧ W.cell? ⟨lb, loff + k, none⟩ = some (.int .i64 (z k))) := hSW
              simp only [List.getElem_toArray, List.getElem_cons_zero, List.getElem_cons_succ]
              (try dsimp only at hSW)
              go_simp
              with_reducible rfl
            (try simp only [List.getElem_toArray, List.getElem_cons_zero, List.getElem_cons_succ, Act.put, List.setIfInBounds_toArray, List.set_cons_zero, List.set_cons_succ])
            refine wpAnyK_one 27 rfl (by kernel_rfl) (fun K hK => ?_)
            simp only [List.getElem_toArray, List.getElem_cons_zero, List.getElem_cons_succ]
            go_simp
            refine hK.out _ _ (.inr (pickS_no (by kernel_rfl))) ?_
            clear hK K
            (try simp only [List.getElem_toArray, List.getElem_cons_zero, List.getElem_cons_succ, Act.put, List.setIfInBounds_toArray, List.set_cons_zero, List.set_cons_succ])
            refine wpAnyK_done (by kernel_rfl) ?_
            have HT2 : Hid (Blk (((wf.setCell ⟨gt, 2, none⟩ (.int .i64 ((ws KK).burning - am k))).setCell ⟨gt, 3, none⟩ (.int .i64 ((ws KK).fired + am k - z k))).setCell ⟨gt, 5, none⟩ (.int .i64 ((ws KK).broken + z k))) gt 94 #[.int .i64 (ws KK).wet, .int .i64 (ws KK).dry, .int .i64 ((ws KK).burning - am k), .int .i64 ((ws KK).fired + am k - z k), .int .i64 (ws KK).laid, .int .i64 ((ws KK).broken + z k), .int .i64 (ws KK).missing]) := hide (by simpa using ((HTd.out.set_ 2 (.int .i64 ((ws KK).burning - am k))).set_ 3 (.int .i64 ((ws KK).fired + am k - z k))).set_ 5 (.int .i64 ((ws KK).broken + z k)))
            have hg3 := grownBy_setS (grownBy_setS (grownBy_setS (World.grownBy.refl wf (some gt)) 2 (.int .i64 ((ws KK).burning - am k))) 3 (.int .i64 ((ws KK).fired + am k - z k))) 5 (.int .i64 ((ws KK).broken + z k))
            have HD4 := hide (HD3.out.set hg3 hgt1 hgt7 hgtw)
            have K84 := hide (K83.out.grown hg3 (fun e => hgt8 (by injection e with e; exact e.symm)))
            clear c0 c1 c2 c3 c4 c5 c6 c7 f2 f3 f5 hg3 HTd HD3 K83 HA HSBW HSB B1 B2 Q1 Q2
            generalize (((wf.setCell ⟨gt, 2, none⟩ (.int .i64 ((ws KK).burning - am k))).setCell ⟨gt, 3, none⟩ (.int .i64 ((ws KK).fired + am k - z k))).setCell ⟨gt, 5, none⟩ (.int .i64 ((ws KK).broken + z k))) = wg at HT2 HD4 K84 ⊢
            have HWI : Hid (∀ W, WL W gw n (drawW ws od z k) → Calls Try.prog 79 #[.agg #[.bool false, .slice SA n sc, .int .i64 room, .slice (some ⟨gw, 0, none⟩) n cw, .slice (some ⟨bb, boff, none⟩) lm bc], .int .i64 KK, .agg #[.int .i64 (ws KK).wet, .int .i64 (ws KK).dry, .int .i64 ((ws KK).burning - am k), .int .i64 ((ws KK).fired + am k - z k), .int .i64 (ws KK).laid, .int .i64 ((ws KK).broken + z k), .int .i64 (ws KK).missing]] W (WithPost SA n sc room (some ⟨bb, boff, none⟩) lm bc (drawW ws od z (k + 1)) W)) := hide (fun W h => by
              have hx : drawn (ws KK) (z k) = ⟨(ws KK).wet, (ws KK).dry, (ws KK).burning - am k, (ws KK).fired + am k - z k, (ws KK).laid, (ws KK).broken + z k, (ws KK).missing⟩ := by
                have e1 := HAK.out
                show Wa.mk (ws KK).wet (ws KK).dry ((ws KK).burning - z k - ((ws KK).burning - z k)) ((ws KK).fired + ((ws KK).burning - z k)) (ws KK).laid ((ws KK).broken + z k) (ws KK).missing = _
                congr 1 <;> omega
              have hs : drawW ws od z (k + 1) = upd (drawW ws od z k) KK ⟨(ws KK).wet, (ws KK).dry, (ws KK).burning - am k, (ws KK).fired + am k - z k, (ws KK).laid, (ws KK).broken + z k, (ws KK).missing⟩ := by
                show upd (drawW ws od z k) (od k).toNat (drawn (drawW ws od z k (od k).toNat) (z k)) = _
                rw [HKE.out, show ((KK : Nat) : Int).toNat = KK from rfl, HFW.out, hx]
              rw [hs]
              exact refWith_any SA n sc room gw cw (some ⟨bb, boff, none⟩) lm bc KK ⟨(ws KK).wet, (ws KK).dry, (ws KK).burning - am k, (ws KK).fired + am k - z k, (ws KK).laid, (ws KK).broken + z k, (ws KK).missing⟩ (drawW ws od z k) W h hn hKn)
            obtain ⟨a0, a1, a2, a3, a4, a5, f1, f2, f3, f4, f5⟩ := bx5' HD4.out.b7
            obtain ⟨l8, b1, b2⟩ := bx2 K84.out
            obtain ⟨c0, c1, c2, c3, c4, c5, c6, c7⟩ := bx7 HT2.out
            go_wp2_with (go_at_call 79; refine (HWI.out _ HD4.out.wl7).mono ?_; rintro e w5 ⟨g5, c5n, rfl, hw5, hg5, hb5⟩; have HD5 := hide (HD4.out.ext hb5); have HW5 := hide hw5; have hg5w : w.heap.size ≤ g5 := (by have := HD4.out.below.size; omega); clear hw5 hg5 hb5 a0 a1 a2 a3 a4 a5 f1 f2 f3 f4 f5 l8 b1 b2 c0 c1 c2 c3 c4 c5 c6 c7; unfold bkV; obtain ⟨a0, a1, a2, a3, a4, a5, f1, f2, f3, f4, f5⟩ := bx5' HD5.out.b7)
            have HD6 := hide (HD5.out.turn (cw2 := c5n) HW5.out hg5w)
            unfold set5 at HD6
            clear i1 i2
            go_roundw
            case rel => exact ⟨k + 1, g5, c5n, by go_num, by omega, HNO2, HD6, hide (fun _ => hg5w)⟩
            case measure => simp [intOf]; omega
        · obtain rfl : lm = k := by omega
          have hgw := HG.out hm1
          have i2 : ¬ (lm : Int) < (lm : Int) := by omega
          have HEE := hide (show drawEE lm lm ws od z = 0 by
            unfold drawEE
            rw [if_neg (by omega), if_neg (by simp), if_neg (by rw [HNO.out]; simp)])
          obtain ⟨a0, a1, a2, a3, a4, a5, f1, f2, f3, f4, f5⟩ := bx5' HC.out.b7
          go_upto_region 16 with fail
          have K7 := hide (HC.out.b7.set_ 4 (.slice none 0 0))
          have hg4 := grownBy_setS (World.grownBy.refl wr (some g7)) 4 (.slice none 0 0)
          have HE := hide (HC.out.toFB.set hg4 HC.out.lo7)
          have hne7 : gw ≠ g7 := by
            obtain ⟨cs, hcs⟩ := HC.out.wl7.1
            exact hcs.ne_ HC.out.b7 (by decide)
          have HWE := hide (HC.out.wl7.grown hg4 (fun e => hne7 (by injection e)))
          have lo7 := HC.out.lo7
          clear a0 a1 a2 a3 a4 a5 f1 f2 f3 f4 f5 hg4 HC
          generalize wr.setCell ⟨g7, 4, none⟩ (.slice none 0 0) = w6 at K7 HE HWE ⊢
          replace K7 : Hid (Blk w6 g7 87 #[.bool false, .slice SA n sc, .int .i64 room, .slice (some ⟨gw, 0, none⟩) n cw, .slice none 0 0]) := K7
          obtain ⟨a0, a1, a2, a3, a4, a5, f1, f2, f3, f4, f5⟩ := bx5' K7.out
          obtain ⟨c0, c1, c2, c3, c4, c5', q1, q2, q3, q4, q5⟩ := bx5' HE.out.b4
          have hg8 := grown_set5 w6 (w.heap.size + 1) (.bool false) (.slice SA n sc) (.int .i64 room) (.slice (some ⟨gw, 0, none⟩) n cw) (.slice none 0 0)
          have hn4 : gw ≠ w.heap.size + 1 := by
            obtain ⟨cs, hcs⟩ := HWE.out.1
            exact hcs.ne_ HE.out.b4 (by decide)
          have HW9 := hide (HWE.out.grown hg8 (fun e => hn4 (by injection e)))
          clear hg8
          go_wp2_with fail
          exact bodyPost_ret (v := .tuple #[bkV SA n sc room (some ⟨gw, 0, none⟩) cw none 0 0, .int .i64 0]) (by simp [results, Try.results77, go_sem, bkV, *]) rfl (.inr ⟨HEE.out, gw, cw, rfl, HW9.out, hgw, set5_B HE.out.below (by omega) _ _ _ _ _⟩)
    · have HEE := hide (show drawEE m lm ws od z = 4 by unfold drawEE; rw [if_neg h0, if_pos hlm2])
      have hnn : ((lm : Int) != (m : Int)) = true := by simp; omega
      clear h0 hlm2
      obtain ⟨a0, a1, a2, a3, a4, a5, f1, f2, f3, f4, f5⟩ := bx5' HF.out.b2
      obtain ⟨c0, c1, c2, c3, c4, c5, h1, h2, h3, h4, h5⟩ := bx5' HF.out.b4
      go_wp2_with fail
      refine bodyPost_ret (v := .tuple #[bkV SA n sc room (some ⟨g, 0, none⟩) wc BA m bc, .int .i64 4]) (by simp [results, Try.results77, go_sem, bkV, *]) rfl (.inl ⟨by rw [HEE.out]; decide, by rw [HEE.out], set5_B HF.out.below (by omega) _ _ _ _ _⟩)
end Go.Proofs.Ytlhekifmkkgjlaa
