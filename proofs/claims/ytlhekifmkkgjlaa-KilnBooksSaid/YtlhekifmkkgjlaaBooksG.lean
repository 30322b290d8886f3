/- Chapter 8, the reference: fire, walked. -/
import Derived.Test.YtlhekifmkkgjlaaBooksF
set_option linter.unusedSimpArgs false
set_option linter.unusedVariables false
set_option linter.unnecessarySimpa false
namespace Go.Proofs.Ytlhekifmkkgjlaa
open Go Go.RowKit Go.Shelf
set_option maxHeartbeats 1000000
set_option maxRecDepth 100000
theorem fireEE_bats {n lm : Nat} {room : Int} {sp : Nat → Int} {ws : Nat → Wa} {x y : Nat → Int} {c : Int} (h1 : 0 < lm) (h2 : lm ≤ 20) (h : batsE n ws x y lm = c) (hc : c ≠ 0) : fireEE n 0 lm room sp ws x y = c := by
  unfold fireEE
  rw [if_neg (by omega), if_neg (by omega), if_neg (by omega), if_pos (by omega), h]
theorem batsE_firstI {n : Nat} {ws : Nat → Wa} {x y : Nat → Int} {k : Nat} {c : Int} (h : batsE n ws x y k = 0) (h' : batE n ws x y k = c) (hc : c ≠ 0) : ∀ m, k < m → batsE n ws x y m = c
  | 0, hm => absurd hm (by omega)
  | m + 1, hm => by
    show (if batsE n ws x y m ≠ 0 then batsE n ws x y m else batE n ws x y m) = c
    by_cases e : k = m
    · subst e
      rw [if_neg (by omega)]; exact h'
    · have := batsE_firstI h h' hc m (by omega)
      rw [if_pos (by omega)]; exact this
theorem grown_set7 {w W : World} {q : Nat} (h : w.grownBy W (some q)) (x : Wa) : w.grownBy (set7W q x W) (some q) :=
  grownBy_setS (grownBy_setS (grownBy_setS (grownBy_setS (grownBy_setS (grownBy_setS (grownBy_setS h _ _) _ _) _ _) _ _) _ _) _ _) _ _
theorem spaceTo_bd {n : Nat} {sp : Nat → Int} {ws : Nat → Wa} {x y : Nat → Int} (hsp : ∀ k, k < n → 1 ≤ sp k ∧ sp k ≤ 1000) : ∀ k : Nat, batsE n ws x y k = 0 → 0 ≤ spaceTo sp x y k ∧ spaceTo sp x y k ≤ (k : Int) * 1000000000000
  | 0, _ => by simp [spaceTo]
  | k + 1, h => by
    have h0 := batsE_all h k (by omega)
    have h1 : batsE n ws x y k = 0 := by
      apply Classical.byContradiction
      intro hne
      have h2 : (if batsE n ws x y k ≠ 0 then batsE n ws x y k else batE n ws x y k) = 0 := h
      rw [if_pos hne] at h2
      exact hne h2
    obtain ⟨K, e1, e2, -, e4, e5, -⟩ := batE_ok h0
    obtain ⟨a, b⟩ := spaceTo_bd hsp k h1
    obtain ⟨c, d⟩ := hsp K e2
    have m := mul_bd (a := y k) (b := sp K) (M := 1000000000) (N := 1000) (by omega) (by omega) (by omega) (by omega)
    show 0 ≤ spaceTo sp x y k + y k * sp (x k).toNat ∧ spaceTo sp x y k + y k * sp (x k).toNat ≤ _
    rw [e1, show ((K : Nat) : Int).toNat = K from rfl]
    omega
theorem own_blk_ne' {w : World} {base : Nat} {e : TypeId} {size n : Nat} {v : Value} {xs : List Value} {g : Nat} {t : TypeId} {cs : Array Value} (h : w.ownsRow base e size v n xs) (hg : Blk w g t cs) (hne : e ≠ t) : v.ownBlock = none ∨ v.ownBlock ≠ some g := .inr (own_blk_ne h hg hne)
theorem refFire_any (SA : Option Addr) (n sc : Nat) (room : Int) (g wc : Nat) (BA : Option Addr) (m bc : Nat) (lA : Option Addr) (lm lc : Nat) (sp : Nat → Int) (ws : Nat → Wa) (x y : Nat → Int) (w : World) (hW : WL w g n ws) (hn1 : 1 ≤ n) (hn : n ≤ 20) (hm20 : m ≤ 20)
    (hl : PI w w.heap.size lA lm x y) (hlm : lm ≤ 65536) (hsp : IR w w.heap.size SA n sp) (hspb : ∀ k, k < n → 1 ≤ sp k ∧ sp k ≤ 1000) (hok : ∀ k, k < n → OkW (ws k)) (hr0 : 0 ≤ room) (hr1 : room ≤ 1000000000) :
    Calls Try.prog 76 #[bkV SA n sc room (some ⟨g, 0, none⟩) wc BA m bc, .slice lA lm lc] w (RFirePost SA n sc room g wc BA m bc lm sp ws x y w) := by
  have HF : Hid (FB w SA n sc room g wc BA m bc ws ((w.alloc (.cells #[.bool false, .slice SA n sc, .int .i64 room, .slice (some ⟨g, 0, none⟩) n wc, .slice BA m bc] 87)).alloc (.cells #[.bool false, .slice none 0 0, .int .i64 0, .slice none 0 0, .slice none 0 0] 87))) := hide ⟨((Below.refl _ _).alloc (Nat.le_refl _) _).alloc (by simp) _, (Blk.new w _ _).alloc _, by simpa using Blk.new (w.alloc (.cells #[.bool false, .slice SA n sc, .int .i64 room, .slice (some ⟨g, 0, none⟩) n wc, .slice BA m bc] 87)) 87 #[.bool false, .slice none 0 0, .int .i64 0, .slice none 0 0, .slice none 0 0], hW.ext (((Below.refl _ _).alloc (Nat.le_refl _) _).alloc (by simp) _), hW.lt⟩
  have HL := hide hl
  have HSP := hide hsp
  have HSB := hide hspb
  have HOK := hide hok
  clear hl hsp hspb hok hW
  unfold bkV
  go_enter Try.func76, Try.ntmps76
  go_upto_region 1 with fail
  have HS7 : Hid (∀ W, FB w SA n sc room g wc BA 0 bc ws W → W.cell? ⟨w.heap.size, 0, none⟩ = some (.bool false) ∧ W.cell? ⟨w.heap.size, 1, none⟩ = some (.slice SA n sc) ∧ W.cell? ⟨w.heap.size, 2, none⟩ = some (.int .i64 room) ∧ W.cell? ⟨w.heap.size, 3, none⟩ = some (.slice (some ⟨g, 0, none⟩) n wc) ∧ W.cell? ⟨w.heap.size, 4, none⟩ = some (.slice BA 0 bc)) := hide (fun W h => by
    obtain ⟨-, a1, a2, a3, a4, a5, -⟩ := bx5' h.b2
    exact ⟨a1, a2, a3, a4, a5⟩)
  generalize ((w.alloc (.cells #[.bool false, .slice SA n sc, .int .i64 room, .slice (some ⟨g, 0, none⟩) n wc, .slice BA m bc] 87)).alloc (.cells #[.bool false, .slice none 0 0, .int .i64 0, .slice none 0 0, .slice none 0 0] 87)) = W0 at HF ⊢
  by_cases hm : 0 < m
  · have HEE := hide (show fireEE n m lm room sp ws x y = 9 by unfold fireEE; rw [if_pos hm])
    have hm' : (0 : Int) < (m : Int) := by omega
    obtain ⟨a0, a1, a2, a3, a4, a5, f1, f2, f3, f4, f5⟩ := bx5' HF.out.b2
    obtain ⟨c0, c1, c2, c3, c4, c5, h1, h2, h3, h4, h5⟩ := bx5' HF.out.b4
    go_wp2_with fail
    refine bodyPost_ret (v := .tuple #[bkV SA n sc room (some ⟨g, 0, none⟩) wc BA m bc, .int .i64 9]) (by simp [results, Try.results76, go_sem, bkV, *]) rfl (.inl ⟨by rw [HEE.out]; decide, by rw [HEE.out], set5_B HF.out.below (by omega) _ _ _ _ _⟩)
  · obtain rfl : 0 = m := by omega
    clear hm hm20
    by_cases h0 : lm = 0
    · have HEE := hide (show fireEE n 0 lm room sp ws x y = 2 by unfold fireEE; rw [if_neg (by omega), if_pos h0])
      subst h0
      obtain ⟨a0, a1, a2, a3, a4, a5, f1, f2, f3, f4, f5⟩ := bx5' HF.out.b2
      obtain ⟨c0, c1, c2, c3, c4, c5, h1, h2, h3, h4, h5⟩ := bx5' HF.out.b4
      go_wp2_with fail
      refine bodyPost_ret (v := .tuple #[bkV SA n sc room (some ⟨g, 0, none⟩) wc BA 0 bc, .int .i64 2]) (by simp [results, Try.results76, go_sem, bkV, *]) rfl (.inl ⟨by rw [HEE.out]; decide, by rw [HEE.out], set5_B HF.out.below (by omega) _ _ _ _ _⟩)
    · by_cases h20 : 20 < lm
      · have HEE := hide (show fireEE n 0 lm room sp ws x y = 5 by unfold fireEE; rw [if_neg (by omega), if_neg h0, if_pos h20])
        have e1 : ((lm : Int) == 0) = false := by simp; omega
        have e2 : (20 : Int) < (lm : Int) := by omega
        clear h0 h20
        obtain ⟨a0, a1, a2, a3, a4, a5, f1, f2, f3, f4, f5⟩ := bx5' HF.out.b2
        obtain ⟨c0, c1, c2, c3, c4, c5, h1, h2, h3, h4, h5⟩ := bx5' HF.out.b4
        go_wp2_with fail
        refine bodyPost_ret (v := .tuple #[bkV SA n sc room (some ⟨g, 0, none⟩) wc BA 0 bc, .int .i64 5]) (by simp [results, Try.results76, go_sem, bkV, *]) rfl (.inl ⟨by rw [HEE.out]; decide, by rw [HEE.out], set5_B HF.out.below (by omega) _ _ _ _ _⟩)
      · have e1 : ((lm : Int) == 0) = false := by simp; omega
        have e2 : ¬ (20 : Int) < (lm : Int) := by omega
        have hl1 : 0 < lm := by omega
        have hl20 : lm ≤ 20 := by omega
        clear h0 h20
        obtain ⟨a0, a1, a2, a3, a4, a5, f1, f2, f3, f4, f5⟩ := bx5' HF.out.b2
        go_upto_region 7 with fail
        clear e1 e2
        have HFd := hide (HF.out.ext (Below.refl _ _).drew)
        clear a0 a1 a2 a3 a4 a5 f1 f2 f3 f4 f5
        refine wp_region_J (fun W : World => W.cell? ⟨w.heap.size, 0, none⟩ = some (.bool false) ∧ W.cell? ⟨w.heap.size, 1, none⟩ = some (.slice SA n sc) ∧ W.cell? ⟨w.heap.size, 2, none⟩ = some (.int .i64 room) ∧ W.cell? ⟨w.heap.size, 3, none⟩ = some (.slice (some ⟨g, 0, none⟩) n wc) ∧ W.cell? ⟨w.heap.size, 4, none⟩ = some (.slice BA 0 bc)) (by kernel_rfl) ?_
        generalize W0.drew = wd at HFd ⊢
        refine wpAnyJ_take 0 (v := ?_) (by first | exact hF | exact wideFn) (HS7.out _ HFd.out) rfl (by kernel_rfl) (by kernel_rfl) (by kernel_rfl) (by kernel_rfl) rfl ?_ (by first | exact fun _ _ _ h => h | exact fun _ _ _ h => hQ2 _ _ _ _ _ h) ?_
        rotate_left
        · intro W hSW
          simp only [List.getElem_toArray, List.getElem_cons_zero, List.getElem_cons_succ]
          (try dsimp only at hSW)
          go_simp
          with_reducible rfl
        (try simp only [List.getElem_toArray, List.getElem_cons_zero, List.getElem_cons_succ, Act.put, List.setIfInBounds_toArray, List.set_cons_zero, List.set_cons_succ])
        refine wpAnyJ_take 1 (v := ?_) (by first | exact hF | exact wideFn) (HS7.out _ HFd.out) rfl (by kernel_rfl) (by kernel_rfl) (by kernel_rfl) (by kernel_rfl) rfl ?_ (by first | exact fun _ _ _ h => h | exact fun _ _ _ h => hQ2 _ _ _ _ _ h) ?_
        rotate_left
        · intro W hSW
          simp only [List.getElem_toArray, List.getElem_cons_zero, List.getElem_cons_succ]
          (try dsimp only at hSW)
          go_simp
          with_reducible rfl
        (try simp only [List.getElem_toArray, List.getElem_cons_zero, List.getElem_cons_succ, Act.put, List.setIfInBounds_toArray, List.set_cons_zero, List.set_cons_succ])
        refine wpAnyJ_take 2 (v := ?_) (by first | exact hF | exact wideFn) (HS7.out _ HFd.out) rfl (by kernel_rfl) (by kernel_rfl) (by kernel_rfl) (by kernel_rfl) rfl ?_ (by first | exact fun _ _ _ h => h | exact fun _ _ _ h => hQ2 _ _ _ _ _ h) ?_
        rotate_left
        · intro W hSW
          simp only [List.getElem_toArray, List.getElem_cons_zero, List.getElem_cons_succ]
          (try dsimp only at hSW)
          go_simp
          with_reducible rfl
        (try simp only [List.getElem_toArray, List.getElem_cons_zero, List.getElem_cons_succ, Act.put, List.setIfInBounds_toArray, List.set_cons_zero, List.set_cons_succ])
        have HFe := hide (HFd.out.ext ((Below.refl wd.heap.size wd).alloc (Nat.le_refl _) (.cells #[.bool false, .slice none 0 0, .int .i64 0, .slice none 0 0, .slice none 0 0] 87)))
        have KZ := hide (Blk.new wd 87 #[.bool false, .slice none 0 0, .int .i64 0, .slice none 0 0, .slice none 0 0])
        have hz7 : w.heap.size + 1 < wd.heap.size := HFd.out.b4.lt
        refine wpAnyJ_one 3 rfl (by kernel_rfl) (fun K hK => ?_)
        simp only [List.getElem_toArray, List.getElem_cons_zero, List.getElem_cons_succ]
        go_simp
        refine hK.out _ _ (fun _ => HS7.out _ HFe.out) ?_
        clear hK K
        (try simp only [List.getElem_toArray, List.getElem_cons_zero, List.getElem_cons_succ, Act.put, List.setIfInBounds_toArray, List.set_cons_zero, List.set_cons_succ])
        generalize (wd.alloc (.cells #[.bool false, .slice none 0 0, .int .i64 0, .slice none 0 0, .slice none 0 0] 87)) = we at HFe KZ ⊢
        generalize wd.heap.size = g7 at KZ hz7 ⊢
        obtain ⟨c0, c1, c2, c3, c4, c5, h1, h2, h3, h4, h5⟩ := bx5' KZ.out
        refine wpAnyJ_take 4 (v := ?_) (by first | exact hF | exact wideFn) (HS7.out _ HFe.out) rfl (by kernel_rfl) (by kernel_rfl) (by kernel_rfl) (by kernel_rfl) rfl ?_ (by first | exact fun _ _ _ h => h | exact fun _ _ _ h => hQ2 _ _ _ _ _ h) ?_
        rotate_left
        · intro W hSW
          simp only [List.getElem_toArray, List.getElem_cons_zero, List.getElem_cons_succ]
          (try dsimp only at hSW)
          go_simp
          with_reducible rfl
        (try simp only [List.getElem_toArray, List.getElem_cons_zero, List.getElem_cons_succ, Act.put, List.setIfInBounds_toArray, List.set_cons_zero, List.set_cons_succ])
        refine wpAnyJ_one 5 rfl (by kernel_rfl) (fun K hK => ?_)
        simp only [List.getElem_toArray, List.getElem_cons_zero, List.getElem_cons_succ]
        go_simp
        refine hK.out _ _ (fun h => absurd h (by rw [show lastOp _ _ _ = true from by kernel_rfl]; simp)) ?_
        clear hK K
        (try simp only [List.getElem_toArray, List.getElem_cons_zero, List.getElem_cons_succ, Act.put, List.setIfInBounds_toArray, List.set_cons_zero, List.set_cons_succ])
        refine wpAnyJ_done (by kernel_rfl) ?_
        have HC0 : Hid (FC w SA n sc room g wc BA 0 bc ws g7 g wc ws (set5 we g7 (.bool false) (.slice SA n sc) (.int .i64 room) (.slice (some ⟨g, 0, none⟩) n wc) (.slice BA 0 bc))) := hide (by
          have hg := grown_set5 we g7 (.bool false) (.slice SA n sc) (.int .i64 room) (.slice (some ⟨g, 0, none⟩) n wc) (.slice BA 0 bc)
          have h9 := HFe.out.set hg hz7
          exact ⟨h9, set5_blk KZ.out, h9.wl, hz7, .inl rfl⟩)
        unfold set5 at HC0
        clear c0 c1 c2 c3 c4 c5 h1 h2 h3 h4 h5
        generalize (((((we.setCell ⟨g7, 0, none⟩ (.bool false)).setCell ⟨g7, 1, none⟩ (.slice SA n sc)).setCell ⟨g7, 2, none⟩ (.int .i64 room)).setCell ⟨g7, 3, none⟩ (.slice (some ⟨g, 0, none⟩) n wc)).setCell ⟨g7, 4, none⟩ (.slice BA 0 bc)) = W1 at HC0 ⊢
        clear HF HFd HFe KZ
        go_wp2_with fail
        go_loopw [6, 8] (fun q i wr => ∃ (k gw cw : Nat), i = .int .i64 k ∧ k ≤ lm ∧ q = .int .i64 (room - spaceTo sp x y k) ∧ Hid (batsE n ws x y k = 0) ∧ Hid (FC w SA n sc room g wc BA 0 bc ws g7 gw cw (fireW ws x y k) wr) ∧ Hid (0 < k → w.heap.size ≤ gw)) (fun _ i _ => lm - (intOf i).toNat)
        case atStart => exact ⟨0, g, wc, rfl, by omega, by simp [spaceTo], hide rfl, HC0, hide (fun h => absurd h (by omega))⟩
        case round =>
          obtain ⟨k, gw, cw, rfl, hk, rfl, HBT, HC, HG⟩ := hrel
          by_cases hlt : k < lm
          · obtain ⟨lb, loff, hlA, hlb, hx0, hy0⟩ := PI.at_ HL.out hlt
            subst hlA
            have HX0 := hide hx0
            have HY0 := hide hy0
            have i1 : (0 : Int) ≤ (k : Int) := by omega
            have i2 : (k : Int) < (lm : Int) := by omega
            have HS11 : Hid (∀ W, FC w SA n sc room g wc BA 0 bc ws g7 gw cw (fireW ws x y k) W → W.cell? ⟨w.heap.size, 3, none⟩ = some (.slice (some ⟨g, 0, none⟩) n wc) ∧ W.cell? ⟨lb, loff + k * 2, none⟩ = some (.int .i64 (x k))) := hide (fun W h => by
              obtain ⟨-, -, -, -, a4, -⟩ := bx5' h.b2
              exact ⟨a4, (h.below.cell (p := ⟨lb, loff + k * 2, none⟩) hlb).trans HX0.out⟩)
            have HBE := hide (fun (c : Int) (h : batE n ws x y k = c) (hc : c ≠ 0) => fireEE_bats (sp := sp) (room := room) hl1 hl20 (batsE_firstI HBT.out h hc lm hlt) hc)
            clear hx0 hy0 HC0
            go_upto_region 11 with fail
            have HCd := hide (HC.out.ext (Below.refl _ _).drew)
            refine wp_region_J (fun W : World => W.cell? ⟨w.heap.size, 3, none⟩ = some (.slice (some ⟨g, 0, none⟩) n wc) ∧ W.cell? ⟨lb, loff + k * 2, none⟩ = some (.int .i64 (x k))) (by kernel_rfl) ?_
            generalize wr.drew = wd at HCd ⊢
            have HIN := refIn_any (x k) 0 ((n : Int) - 1) wd
            have hwn : IntKind.i64.wrap ((n : Int) - 1) = (n : Int) - 1 := IntWalk.i64_in _ (by omega)
            refine wpAnyJ_take 0 (v := ?_) (by first | exact hF | exact wideFn) (HS11.out _ HCd.out) rfl (by kernel_rfl) (by kernel_rfl) (by kernel_rfl) (by kernel_rfl) rfl ?_ (by first | exact fun _ _ _ h => h | exact fun _ _ _ h => hQ2 _ _ _ _ _ h) ?_
            rotate_left
            · intro W hSW
              simp only [List.getElem_toArray, List.getElem_cons_zero, List.getElem_cons_succ]
              (try dsimp only at hSW)
              go_simp
              with_reducible rfl
            (try simp only [List.getElem_toArray, List.getElem_cons_zero, List.getElem_cons_succ, Act.put, List.setIfInBounds_toArray, List.set_cons_zero, List.set_cons_succ])
            refine wpAnyJ_take 1 (v := ?_) (by first | exact hF | exact wideFn) (HS11.out _ HCd.out) rfl (by kernel_rfl) (by kernel_rfl) (by kernel_rfl) (by kernel_rfl) rfl ?_ (by first | exact fun _ _ _ h => h | exact fun _ _ _ h => hQ2 _ _ _ _ _ h) ?_
            rotate_left
            · intro W hSW
              simp only [List.getElem_toArray, List.getElem_cons_zero, List.getElem_cons_succ]
              (try dsimp only at hSW)
              go_simp
              with_reducible rfl
            (try simp only [List.getElem_toArray, List.getElem_cons_zero, List.getElem_cons_succ, Act.put, List.setIfInBounds_toArray, List.set_cons_zero, List.set_cons_succ])
            refine wpAnyJ_take 2 (v := ?_) (by first | exact hF | exact wideFn) (HS11.out _ HCd.out) rfl (by kernel_rfl) (by kernel_rfl) (by kernel_rfl) (by kernel_rfl) rfl ?_ (by first | exact fun _ _ _ h => h | exact fun _ _ _ h => hQ2 _ _ _ _ _ h) ?_
            rotate_left
            · intro W hSW
              simp only [List.getElem_toArray, List.getElem_cons_zero, List.getElem_cons_succ]
              (try dsimp only at hSW)
              go_simp
              with_reducible rfl
            (try simp only [List.getElem_toArray, List.getElem_cons_zero, List.getElem_cons_succ, Act.put, List.setIfInBounds_toArray, List.set_cons_zero, List.set_cons_succ])
            refine wpAnyJ_take 3 (v := ?_) (by first | exact hF | exact wideFn) (HS11.out _ HCd.out) rfl (by kernel_rfl) (by kernel_rfl) (by kernel_rfl) (by kernel_rfl) rfl ?_ (by first | exact fun _ _ _ h => h | exact fun _ _ _ h => hQ2 _ _ _ _ _ h) ?_
            rotate_left
            · intro W hSW
              simp only [List.getElem_toArray, List.getElem_cons_zero, List.getElem_cons_succ]
              (try dsimp only at hSW)
              go_simp
              with_reducible rfl
            (try simp only [List.getElem_toArray, List.getElem_cons_zero, List.getElem_cons_succ, Act.put, List.setIfInBounds_toArray, List.set_cons_zero, List.set_cons_succ])
            refine wpAnyJ_take 4 (v := ?_) (by first | exact hF | exact wideFn) (HS11.out _ HCd.out) rfl (by kernel_rfl) (by kernel_rfl) (by kernel_rfl) (by kernel_rfl) rfl ?_ (by first | exact fun _ _ _ h => h | exact fun _ _ _ h => hQ2 _ _ _ _ _ h) ?_
            rotate_left
            · intro W hSW
              simp only [List.getElem_toArray, List.getElem_cons_zero, List.getElem_cons_succ]
              (try dsimp only at hSW)
              go_simp
              with_reducible rfl
            (try simp only [List.getElem_toArray, List.getElem_cons_zero, List.getElem_cons_succ, Act.put, List.setIfInBounds_toArray, List.set_cons_zero, List.set_cons_succ])
            refine wpAnyJ_take 5 (v := ?_) (by first | exact hF | exact wideFn) (HS11.out _ HCd.out) rfl (by kernel_rfl) (by kernel_rfl) (by kernel_rfl) (by kernel_rfl) rfl ?_ (by first | exact fun _ _ _ h => h | exact fun _ _ _ h => hQ2 _ _ _ _ _ h) ?_
            rotate_left
            · intro W hSW
              simp only [List.getElem_toArray, List.getElem_cons_zero, List.getElem_cons_succ]
              (try dsimp only at hSW)
              go_simp
              with_reducible rfl
            (try simp only [List.getElem_toArray, List.getElem_cons_zero, List.getElem_cons_succ, Act.put, List.setIfInBounds_toArray, List.set_cons_zero, List.set_cons_succ])
            refine wpAnyJ_take 6 (v := ?_) (by first | exact hF | exact wideFn) (HS11.out _ HCd.out) rfl (by kernel_rfl) (by kernel_rfl) (by kernel_rfl) (by kernel_rfl) rfl ?_ (by first | exact fun _ _ _ h => h | exact fun _ _ _ h => hQ2 _ _ _ _ _ h) ?_
            rotate_left
            · intro W hSW
              simp only [List.getElem_toArray, List.getElem_cons_zero, List.getElem_cons_succ]
              (try dsimp only at hSW)
              go_simp
              with_reducible rfl
            (try simp only [List.getElem_toArray, List.getElem_cons_zero, List.getElem_cons_succ, Act.put, List.setIfInBounds_toArray, List.set_cons_zero, List.set_cons_succ])
            refine wpAnyJ_take 7 (v := ?_) (by first | exact hF | exact wideFn) (HS11.out _ HCd.out) rfl (by kernel_rfl) (by kernel_rfl) (by kernel_rfl) (by kernel_rfl) rfl ?_ (by first | exact fun _ _ _ h => h | exact fun _ _ _ h => hQ2 _ _ _ _ _ h) ?_
            rotate_left
            · intro W hSW
              simp only [List.getElem_toArray, List.getElem_cons_zero, List.getElem_cons_succ]
              (try dsimp only at hSW)
              go_simp
              with_reducible rfl
            (try simp only [List.getElem_toArray, List.getElem_cons_zero, List.getElem_cons_succ, Act.put, List.setIfInBounds_toArray, List.set_cons_zero, List.set_cons_succ])
            refine wpAnyJ_take 8 (v := ?_) (by first | exact hF | exact wideFn) (HS11.out _ HCd.out) rfl (by kernel_rfl) (by kernel_rfl) (by kernel_rfl) (by kernel_rfl) rfl ?_ (by first | exact fun _ _ _ h => h | exact fun _ _ _ h => hQ2 _ _ _ _ _ h) ?_
            rotate_left
            · intro W hSW
              simp only [List.getElem_toArray, List.getElem_cons_zero, List.getElem_cons_succ]
              (try dsimp only at hSW)
              go_simp
              with_reducible rfl
            (try simp only [List.getElem_toArray, List.getElem_cons_zero, List.getElem_cons_succ, Act.put, List.setIfInBounds_toArray, List.set_cons_zero, List.set_cons_succ])
            clear hwn
            rcases hk7 : inB (x k) 0 ((n : Int) - 1) with _ | _
            · have HEE := hide (HBE.out 7 (by unfold batE; rw [if_pos (inB_no hk7)]) (by decide))
              rw [hk7] at HIN
              clear hk7
              refine wpAnyJ_one 9 rfl (by kernel_rfl) (fun K hK => ?_)
              simp only [List.getElem_toArray, List.getElem_cons_zero, List.getElem_cons_succ]
              go_simp
              refine ⟨trivial, rfl, ?_⟩
              (with_reducible refine (callsIn_wide.2 HIN).mono ?_)
              rintro e w1 ⟨rfl, rfl⟩
              have HD := hide HCd.out.toFB
              dsimp only
              refine hK.out _ _ (fun _ => (HS11.out _ HCd.out)) ?_
              clear hK K
              (try simp only [List.getElem_toArray, List.getElem_cons_zero, List.getElem_cons_succ, Act.put, List.setIfInBounds_toArray, List.set_cons_zero, List.set_cons_succ])
              refine wpAnyJ_take 10 (v := ?_) (by first | exact hF | exact wideFn) (HS11.out _ HCd.out) rfl (by kernel_rfl) (by kernel_rfl) (by kernel_rfl) (by kernel_rfl) rfl ?_ (by first | exact fun _ _ _ h => h | exact fun _ _ _ h => hQ2 _ _ _ _ _ h) ?_
              rotate_left
              · intro W hSW
                simp only [List.getElem_toArray, List.getElem_cons_zero, List.getElem_cons_succ]
                (try dsimp only at hSW)
                go_simp
                with_reducible rfl
              (try simp only [List.getElem_toArray, List.getElem_cons_zero, List.getElem_cons_succ, Act.put, List.setIfInBounds_toArray, List.set_cons_zero, List.set_cons_succ])
              refine wpAnyJ_done (by kernel_rfl) ?_
              clear i1 i2
              obtain ⟨a0, a1, a2, a3, a4, a5, f1, f2, f3, f4, f5⟩ := bx5' HD.out.b2
              obtain ⟨c0, c1, c2, c3, c4, c5, h1, h2, h3, h4, h5⟩ := bx5' HD.out.b4
              go_wp2_with fail
              refine bodyPost_ret (v := .tuple #[bkV SA n sc room (some ⟨g, 0, none⟩) wc BA 0 bc, .int .i64 7]) (by simp [results, Try.results76, go_sem, bkV, *]) rfl (.inl ⟨by rw [HEE.out]; decide, by rw [HEE.out], set5_B HD.out.below (by omega) _ _ _ _ _⟩)
            · rw [hk7] at HIN
              obtain ⟨KK, hKK⟩ : ∃ KK : Nat, x k = KK := Int.eq_ofNat_of_zero_le ((inB_iff _ _ _).1 hk7).1
              have hKn : KK < n := by have := ((inB_iff _ _ _).1 hk7).2; omega
              have HKE := hide hKK
              have h07 := ((inB_iff _ _ _).1 hk7)
              clear hk7 hKK
              refine wpAnyJ_one 9 rfl (by kernel_rfl) (fun K hK => ?_)
              simp only [List.getElem_toArray, List.getElem_cons_zero, List.getElem_cons_succ]
              go_simp
              refine ⟨trivial, rfl, ?_⟩
              (with_reducible refine (callsIn_wide.2 HIN).mono ?_)
              rintro e w1 ⟨rfl, rfl⟩
              skip
              dsimp only
              refine hK.out _ _ (fun _ => (HS11.out _ HCd.out)) ?_
              clear hK K
              (try simp only [List.getElem_toArray, List.getElem_cons_zero, List.getElem_cons_succ, Act.put, List.setIfInBounds_toArray, List.set_cons_zero, List.set_cons_succ])
              refine wpAnyJ_take 10 (v := ?_) (by first | exact hF | exact wideFn) (HS11.out _ HCd.out) rfl (by kernel_rfl) (by kernel_rfl) (by kernel_rfl) (by kernel_rfl) rfl ?_ (by first | exact fun _ _ _ h => h | exact fun _ _ _ h => hQ2 _ _ _ _ _ h) ?_
              rotate_left
              · intro W hSW
                simp only [List.getElem_toArray, List.getElem_cons_zero, List.getElem_cons_succ]
                (try dsimp only at hSW)
                go_simp
                with_reducible rfl
              (try simp only [List.getElem_toArray, List.getElem_cons_zero, List.getElem_cons_succ, Act.put, List.setIfInBounds_toArray, List.set_cons_zero, List.set_cons_succ])
              refine wpAnyJ_done (by kernel_rfl) ?_
              clear HC
              go_wp2_with fail
              go_loopw [9] (fun i wr => ∃ j : Nat, i = .int .i64 j ∧ j ≤ k ∧ Hid (anyTo (fun j => decide (x j = x k)) j = false) ∧ Hid (FC w SA n sc room g wc BA 0 bc ws g7 gw cw (fireW ws x y k) wr)) (fun i _ => k - (intOf i).toNat)
              case atStart => exact ⟨0, rfl, by omega, hide rfl, HCd⟩
              case round =>
                obtain ⟨j, rfl, hj, HNO, HC⟩ := hrel
                clear HCd
                by_cases hlt2 : j < k
                · obtain ⟨lb2, loff2, hlA2, hlb2, hx2, -⟩ := PI.at_ HL.out (show j < lm by omega)
                  injection hlA2 with hlA2
                  injection hlA2 with e1 e2
                  subst e1 e2
                  have j1 : (0 : Int) ≤ (j : Int) := by omega
                  have j2 : (j : Int) < (lm : Int) := by omega
                  have HX2 := hide hx2
                  have HCd := hide (HC.out.ext (Below.refl _ _).drew)
                  have hS : wr.drew.cell? ⟨lb, loff + j * 2, none⟩ = some (.int .i64 (x j)) ∧ wr.drew.cell? ⟨lb, loff + k * 2, none⟩ = some (.int .i64 (x k)) := ⟨(HCd.out.below.cell (p := ⟨lb, loff + j * 2, none⟩) hlb).trans HX2.out, (HCd.out.below.cell (p := ⟨lb, loff + k * 2, none⟩) hlb).trans HX0.out⟩
                  have HSS := hide hS
                  clear hx2 hS HC
                  go_upto_region 16 with fail
                  refine wp_region_J (fun W : World => W.cell? ⟨lb, loff + j * 2, none⟩ = some (.int .i64 (x j)) ∧ W.cell? ⟨lb, loff + k * 2, none⟩ = some (.int .i64 (x k))) (by kernel_rfl) ?_
                  generalize wr.drew = wd at HCd HSS ⊢
                  by_cases hxx : x j = x k
                  · have hxb : (x j == x k) = true := by simpa using hxx
                    have HEE := hide (HBE.out 6 (by
                      unfold batE
                      rw [if_neg (fun h => h h07), if_pos ((anyTo_iff _ _).2 ⟨j, hlt2, by simp [hxx]⟩)]) (by decide))
                    clear hxx
                    refine wpAnyJ_take 0 (v := ?_) (by first | exact hF | exact wideFn) HSS.out rfl (by kernel_rfl) (by kernel_rfl) (by kernel_rfl) (by kernel_rfl) rfl ?_ (by first | exact fun _ _ _ h => h | exact fun _ _ _ h => hQ2 _ _ _ _ _ h) ?_
                    rotate_left
                    · intro W hSW
                      simp only [List.getElem_toArray, List.getElem_cons_zero, List.getElem_cons_succ]
                      (try dsimp only at hSW)
                      go_simp
                      with_reducible rfl
                    (try simp only [List.getElem_toArray, List.getElem_cons_zero, List.getElem_cons_succ, Act.put, List.setIfInBounds_toArray, List.set_cons_zero, List.set_cons_succ])
                    refine wpAnyJ_take 1 (v := ?_) (by first | exact hF | exact wideFn) HSS.out rfl (by kernel_rfl) (by kernel_rfl) (by kernel_rfl) (by kernel_rfl) rfl ?_ (by first | exact fun _ _ _ h => h | exact fun _ _ _ h => hQ2 _ _ _ _ _ h) ?_
                    rotate_left
                    · intro W hSW
                      simp only [List.getElem_toArray, List.getElem_cons_zero, List.getElem_cons_succ]
                      (try dsimp only at hSW)
                      go_simp
                      with_reducible rfl
                    (try simp only [List.getElem_toArray, List.getElem_cons_zero, List.getElem_cons_succ, Act.put, List.setIfInBounds_toArray, List.set_cons_zero, List.set_cons_succ])
                    refine wpAnyJ_take 2 (v := ?_) (by first | exact hF | exact wideFn) HSS.out rfl (by kernel_rfl) (by kernel_rfl) (by kernel_rfl) (by kernel_rfl) rfl ?_ (by first | exact fun _ _ _ h => h | exact fun _ _ _ h => hQ2 _ _ _ _ _ h) ?_
                    rotate_left
                    · intro W hSW
                      simp only [List.getElem_toArray, List.getElem_cons_zero, List.getElem_cons_succ]
                      (try dsimp only at hSW)
                      go_simp
                      with_reducible rfl
                    (try simp only [List.getElem_toArray, List.getElem_cons_zero, List.getElem_cons_succ, Act.put, List.setIfInBounds_toArray, List.set_cons_zero, List.set_cons_succ])
                    refine wpAnyJ_take 3 (v := ?_) (by first | exact hF | exact wideFn) HSS.out rfl (by kernel_rfl) (by kernel_rfl) (by kernel_rfl) (by kernel_rfl) rfl ?_ (by first | exact fun _ _ _ h => h | exact fun _ _ _ h => hQ2 _ _ _ _ _ h) ?_
                    rotate_left
                    · intro W hSW
                      simp only [List.getElem_toArray, List.getElem_cons_zero, List.getElem_cons_succ]
                      (try dsimp only at hSW)
                      go_simp
                      with_reducible rfl
                    (try simp only [List.getElem_toArray, List.getElem_cons_zero, List.getElem_cons_succ, Act.put, List.setIfInBounds_toArray, List.set_cons_zero, List.set_cons_succ])
                    refine wpAnyJ_take 4 (v := ?_) (by first | exact hF | exact wideFn) HSS.out rfl (by kernel_rfl) (by kernel_rfl) (by kernel_rfl) (by kernel_rfl) rfl ?_ (by first | exact fun _ _ _ h => h | exact fun _ _ _ h => hQ2 _ _ _ _ _ h) ?_
                    rotate_left
                    · intro W hSW
                      simp only [List.getElem_toArray, List.getElem_cons_zero, List.getElem_cons_succ]
                      (try dsimp only at hSW)
                      go_simp
                      with_reducible rfl
                    (try simp only [List.getElem_toArray, List.getElem_cons_zero, List.getElem_cons_succ, Act.put, List.setIfInBounds_toArray, List.set_cons_zero, List.set_cons_succ])
                    refine wpAnyJ_take 5 (v := ?_) (by first | exact hF | exact wideFn) HSS.out rfl (by kernel_rfl) (by kernel_rfl) (by kernel_rfl) (by kernel_rfl) rfl ?_ (by first | exact fun _ _ _ h => h | exact fun _ _ _ h => hQ2 _ _ _ _ _ h) ?_
                    rotate_left
                    · intro W hSW
                      simp only [List.getElem_toArray, List.getElem_cons_zero, List.getElem_cons_succ]
                      (try dsimp only at hSW)
                      go_simp
                      with_reducible rfl
                    (try simp only [List.getElem_toArray, List.getElem_cons_zero, List.getElem_cons_succ, Act.put, List.setIfInBounds_toArray, List.set_cons_zero, List.set_cons_succ])
                    refine wpAnyJ_take 6 (v := ?_) (by first | exact hF | exact wideFn) HSS.out rfl (by kernel_rfl) (by kernel_rfl) (by kernel_rfl) (by kernel_rfl) rfl ?_ (by first | exact fun _ _ _ h => h | exact fun _ _ _ h => hQ2 _ _ _ _ _ h) ?_
                    rotate_left
                    · intro W hSW
                      simp only [List.getElem_toArray, List.getElem_cons_zero, List.getElem_cons_succ]
                      (try dsimp only at hSW)
                      go_simp
                      with_reducible rfl
                    (try simp only [List.getElem_toArray, List.getElem_cons_zero, List.getElem_cons_succ, Act.put, List.setIfInBounds_toArray, List.set_cons_zero, List.set_cons_succ])
                    refine wpAnyJ_take 7 (v := ?_) (by first | exact hF | exact wideFn) HSS.out rfl (by kernel_rfl) (by kernel_rfl) (by kernel_rfl) (by kernel_rfl) rfl ?_ (by first | exact fun _ _ _ h => h | exact fun _ _ _ h => hQ2 _ _ _ _ _ h) ?_
                    rotate_left
                    · intro W hSW
                      simp only [List.getElem_toArray, List.getElem_cons_zero, List.getElem_cons_succ]
                      (try dsimp only at hSW)
                      go_simp
                      with_reducible rfl
                    (try simp only [List.getElem_toArray, List.getElem_cons_zero, List.getElem_cons_succ, Act.put, List.setIfInBounds_toArray, List.set_cons_zero, List.set_cons_succ])
                    refine wpAnyJ_take 8 (v := ?_) (by first | exact hF | exact wideFn) HSS.out rfl (by kernel_rfl) (by kernel_rfl) (by kernel_rfl) (by kernel_rfl) rfl ?_ (by first | exact fun _ _ _ h => h | exact fun _ _ _ h => hQ2 _ _ _ _ _ h) ?_
                    rotate_left
                    · intro W hSW
                      simp only [List.getElem_toArray, List.getElem_cons_zero, List.getElem_cons_succ]
                      (try dsimp only at hSW)
                      go_simp
                      with_reducible rfl
                    (try simp only [List.getElem_toArray, List.getElem_cons_zero, List.getElem_cons_succ, Act.put, List.setIfInBounds_toArray, List.set_cons_zero, List.set_cons_succ])
                    refine wpAnyJ_take 9 (v := ?_) (by first | exact hF | exact wideFn) HSS.out rfl (by kernel_rfl) (by kernel_rfl) (by kernel_rfl) (by kernel_rfl) rfl ?_ (by first | exact fun _ _ _ h => h | exact fun _ _ _ h => hQ2 _ _ _ _ _ h) ?_
                    rotate_left
                    · intro W hSW
                      simp only [List.getElem_toArray, List.getElem_cons_zero, List.getElem_cons_succ]
                      (try dsimp only at hSW)
                      go_simp
                      with_reducible rfl
                    (try simp only [List.getElem_toArray, List.getElem_cons_zero, List.getElem_cons_succ, Act.put, List.setIfInBounds_toArray, List.set_cons_zero, List.set_cons_succ])
                    refine wpAnyJ_take 10 (v := ?_) (by first | exact hF | exact wideFn) HSS.out rfl (by kernel_rfl) (by kernel_rfl) (by kernel_rfl) (by kernel_rfl) rfl ?_ (by first | exact fun _ _ _ h => h | exact fun _ _ _ h => hQ2 _ _ _ _ _ h) ?_
                    rotate_left
                    · intro W hSW
                      simp only [List.getElem_toArray, List.getElem_cons_zero, List.getElem_cons_succ]
                      (try dsimp only at hSW)
                      go_simp
                      with_reducible rfl
                    (try simp only [List.getElem_toArray, List.getElem_cons_zero, List.getElem_cons_succ, Act.put, List.setIfInBounds_toArray, List.set_cons_zero, List.set_cons_succ])
                    refine wpAnyJ_done (by kernel_rfl) ?_
                    have HD := hide HCd.out.toFB
                    clear i1 i2 h07
                    obtain ⟨a0, a1, a2, a3, a4, a5, f1, f2, f3, f4, f5⟩ := bx5' HD.out.b2
                    obtain ⟨c0, c1, c2, c3, c4, c5, h1, h2, h3, h4, h5⟩ := bx5' HD.out.b4
                    go_wp2_with fail
                    refine bodyPost_ret (v := .tuple #[bkV SA n sc room (some ⟨g, 0, none⟩) wc BA 0 bc, .int .i64 6]) (by simp [results, Try.results76, go_sem, bkV, *]) rfl (.inl ⟨by rw [HEE.out]; decide, by rw [HEE.out], set5_B HD.out.below (by omega) _ _ _ _ _⟩)
                  · have hxb : (x j == x k) = false := by simpa using hxx
                    have HNO2 : Hid (anyTo (fun j => decide (x j = x k)) (j + 1) = false) := hide (by show (anyTo _ j || decide (x j = x k)) = false; rw [HNO.out, decide_eq_false hxx]; rfl)
                    clear hxx
                    refine wpAnyJ_take 0 (v := ?_) (by first | exact hF | exact wideFn) HSS.out rfl (by kernel_rfl) (by kernel_rfl) (by kernel_rfl) (by kernel_rfl) rfl ?_ (by first | exact fun _ _ _ h => h | exact fun _ _ _ h => hQ2 _ _ _ _ _ h) ?_
                    rotate_left
                    · intro W hSW
                      simp only [List.getElem_toArray, List.getElem_cons_zero, List.getElem_cons_succ]
                      (try dsimp only at hSW)
                      go_simp
                      with_reducible rfl
                    (try simp only [List.getElem_toArray, List.getElem_cons_zero, List.getElem_cons_succ, Act.put, List.setIfInBounds_toArray, List.set_cons_zero, List.set_cons_succ])
                    refine wpAnyJ_take 1 (v := ?_) (by first | exact hF | exact wideFn) HSS.out rfl (by kernel_rfl) (by kernel_rfl) (by kernel_rfl) (by kernel_rfl) rfl ?_ (by first | exact fun _ _ _ h => h | exact fun _ _ _ h => hQ2 _ _ _ _ _ h) ?_
                    rotate_left
                    · intro W hSW
                      simp only [List.getElem_toArray, List.getElem_cons_zero, List.getElem_cons_succ]
                      (try dsimp only at hSW)
                      go_simp
                      with_reducible rfl
                    (try simp only [List.getElem_toArray, List.getElem_cons_zero, List.getElem_cons_succ, Act.put, List.setIfInBounds_toArray, List.set_cons_zero, List.set_cons_succ])
                    refine wpAnyJ_take 2 (v := ?_) (by first | exact hF | exact wideFn) HSS.out rfl (by kernel_rfl) (by kernel_rfl) (by kernel_rfl) (by kernel_rfl) rfl ?_ (by first | exact fun _ _ _ h => h | exact fun _ _ _ h => hQ2 _ _ _ _ _ h) ?_
                    rotate_left
                    · intro W hSW
                      simp only [List.getElem_toArray, List.getElem_cons_zero, List.getElem_cons_succ]
                      (try dsimp only at hSW)
                      go_simp
                      with_reducible rfl
                    (try simp only [List.getElem_toArray, List.getElem_cons_zero, List.getElem_cons_succ, Act.put, List.setIfInBounds_toArray, List.set_cons_zero, List.set_cons_succ])
                    refine wpAnyJ_take 3 (v := ?_) (by first | exact hF | exact wideFn) HSS.out rfl (by kernel_rfl) (by kernel_rfl) (by kernel_rfl) (by kernel_rfl) rfl ?_ (by first | exact fun _ _ _ h => h | exact fun _ _ _ h => hQ2 _ _ _ _ _ h) ?_
                    rotate_left
                    · intro W hSW
                      simp only [List.getElem_toArray, List.getElem_cons_zero, List.getElem_cons_succ]
                      (try dsimp only at hSW)
                      go_simp
                      with_reducible rfl
                    (try simp only [List.getElem_toArray, List.getElem_cons_zero, List.getElem_cons_succ, Act.put, List.setIfInBounds_toArray, List.set_cons_zero, List.set_cons_succ])
                    refine wpAnyJ_take 4 (v := ?_) (by first | exact hF | exact wideFn) HSS.out rfl (by kernel_rfl) (by kernel_rfl) (by kernel_rfl) (by kernel_rfl) rfl ?_ (by first | exact fun _ _ _ h => h | exact fun _ _ _ h => hQ2 _ _ _ _ _ h) ?_
                    rotate_left
                    · intro W hSW
                      simp only [List.getElem_toArray, List.getElem_cons_zero, List.getElem_cons_succ]
                      (try dsimp only at hSW)
                      go_simp
                      with_reducible rfl
                    (try simp only [List.getElem_toArray, List.getElem_cons_zero, List.getElem_cons_succ, Act.put, List.setIfInBounds_toArray, List.set_cons_zero, List.set_cons_succ])
                    refine wpAnyJ_take 5 (v := ?_) (by first | exact hF | exact wideFn) HSS.out rfl (by kernel_rfl) (by kernel_rfl) (by kernel_rfl) (by kernel_rfl) rfl ?_ (by first | exact fun _ _ _ h => h | exact fun _ _ _ h => hQ2 _ _ _ _ _ h) ?_
                    rotate_left
                    · intro W hSW
                      simp only [List.getElem_toArray, List.getElem_cons_zero, List.getElem_cons_succ]
                      (try dsimp only at hSW)
                      go_simp
                      with_reducible rfl
                    (try simp only [List.getElem_toArray, List.getElem_cons_zero, List.getElem_cons_succ, Act.put, List.setIfInBounds_toArray, List.set_cons_zero, List.set_cons_succ])
                    refine wpAnyJ_take 6 (v := ?_) (by first | exact hF | exact wideFn) HSS.out rfl (by kernel_rfl) (by kernel_rfl) (by kernel_rfl) (by kernel_rfl) rfl ?_ (by first | exact fun _ _ _ h => h | exact fun _ _ _ h => hQ2 _ _ _ _ _ h) ?_
                    rotate_left
                    · intro W hSW
                      simp only [List.getElem_toArray, List.getElem_cons_zero, List.getElem_cons_succ]
                      (try dsimp only at hSW)
                      go_simp
                      with_reducible rfl
                    (try simp only [List.getElem_toArray, List.getElem_cons_zero, List.getElem_cons_succ, Act.put, List.setIfInBounds_toArray, List.set_cons_zero, List.set_cons_succ])
                    refine wpAnyJ_take 7 (v := ?_) (by first | exact hF | exact wideFn) HSS.out rfl (by kernel_rfl) (by kernel_rfl) (by kernel_rfl) (by kernel_rfl) rfl ?_ (by first | exact fun _ _ _ h => h | exact fun _ _ _ h => hQ2 _ _ _ _ _ h) ?_
                    rotate_left
                    · intro W hSW
                      simp only [List.getElem_toArray, List.getElem_cons_zero, List.getElem_cons_succ]
                      (try dsimp only at hSW)
                      go_simp
                      with_reducible rfl
                    (try simp only [List.getElem_toArray, List.getElem_cons_zero, List.getElem_cons_succ, Act.put, List.setIfInBounds_toArray, List.set_cons_zero, List.set_cons_succ])
                    refine wpAnyJ_take 8 (v := ?_) (by first | exact hF | exact wideFn) HSS.out rfl (by kernel_rfl) (by kernel_rfl) (by kernel_rfl) (by kernel_rfl) rfl ?_ (by first | exact fun _ _ _ h => h | exact fun _ _ _ h => hQ2 _ _ _ _ _ h) ?_
                    rotate_left
                    · intro W hSW
                      simp only [List.getElem_toArray, List.getElem_cons_zero, List.getElem_cons_succ]
                      (try dsimp only at hSW)
                      go_simp
                      with_reducible rfl
                    (try simp only [List.getElem_toArray, List.getElem_cons_zero, List.getElem_cons_succ, Act.put, List.setIfInBounds_toArray, List.set_cons_zero, List.set_cons_succ])
                    refine wpAnyJ_take 9 (v := ?_) (by first | exact hF | exact wideFn) HSS.out rfl (by kernel_rfl) (by kernel_rfl) (by kernel_rfl) (by kernel_rfl) rfl ?_ (by first | exact fun _ _ _ h => h | exact fun _ _ _ h => hQ2 _ _ _ _ _ h) ?_
                    rotate_left
                    · intro W hSW
                      simp only [List.getElem_toArray, List.getElem_cons_zero, List.getElem_cons_succ]
                      (try dsimp only at hSW)
                      go_simp
                      with_reducible rfl
                    (try simp only [List.getElem_toArray, List.getElem_cons_zero, List.getElem_cons_succ, Act.put, List.setIfInBounds_toArray, List.set_cons_zero, List.set_cons_succ])
                    refine wpAnyJ_take 10 (v := ?_) (by first | exact hF | exact wideFn) HSS.out rfl (by kernel_rfl) (by kernel_rfl) (by kernel_rfl) (by kernel_rfl) rfl ?_ (by first | exact fun _ _ _ h => h | exact fun _ _ _ h => hQ2 _ _ _ _ _ h) ?_
                    rotate_left
                    · intro W hSW
                      simp only [List.getElem_toArray, List.getElem_cons_zero, List.getElem_cons_succ]
                      (try dsimp only at hSW)
                      go_simp
                      with_reducible rfl
                    (try simp only [List.getElem_toArray, List.getElem_cons_zero, List.getElem_cons_succ, Act.put, List.setIfInBounds_toArray, List.set_cons_zero, List.set_cons_succ])
                    refine wpAnyJ_done (by kernel_rfl) ?_
                    go_wp2_with fail
                    go_roundw
                    case rel => exact ⟨j + 1, by go_num, by omega, HNO2, HCd⟩
                    case measure => simp [intOf]; omega
                · obtain rfl : k = j := by omega
                  have hy3 := (HC.out.below.cell (p := ⟨lb, loff + k * 2 + 1, none⟩) hlb).trans HY0.out
                  have HIN := refIn_any (y k) 1 1000000000 wr
                  rcases hy7 : inB (y k) 1 1000000000 with _ | _
                  · have HEE := hide (HBE.out 2 (by
                      unfold batE
                      rw [if_neg (fun h => h h07), if_neg (by rw [HNO.out]; simp), if_pos (inB_no hy7)]) (by decide))
                    rw [hy7] at HIN
                    have HIH := hide HIN
                    have HD := hide HC.out.toFB
                    clear hy7 HIN h07
                    go_upto_region 19 with (go_at_call 70; refine HIH.out.mono ?_; rintro e w1 ⟨rfl, rfl⟩)
                    clear hy3
                    obtain ⟨a0, a1, a2, a3, a4, a5, f1, f2, f3, f4, f5⟩ := bx5' HD.out.b2
                    obtain ⟨c0, c1, c2, c3, c4, c5, h1, h2, h3, h4, h5⟩ := bx5' HD.out.b4
                    go_wp2_with fail
                    refine bodyPost_ret (v := .tuple #[bkV SA n sc room (some ⟨g, 0, none⟩) wc BA 0 bc, .int .i64 2]) (by simp [results, Try.results76, go_sem, bkV, *]) rfl (.inl ⟨by rw [HEE.out]; decide, by rw [HEE.out], set5_B HD.out.below (by omega) _ _ _ _ _⟩)
                  · have hy01 := (inB_iff _ _ _).1 hy7
                    rw [hy7] at HIN
                    have HIH := hide HIN
                    clear hy7 HIN
                    go_upto_region 20 with (go_at_call 70; refine HIH.out.mono ?_; rintro e w1 ⟨rfl, rfl⟩)
                    clear hy3 i1 i2
                    have k1 : (0 : Int) ≤ (KK : Int) := by omega
                    have k2 : (KK : Int) < (n : Int) := by omega
                    obtain ⟨e0, -, e1, e2, e3, e4, e5, e6, e7⟩ := HC.out.wl.2 KK hKn
                    have HS20 : Hid (∀ W, Below wr.heap.size wr W → W.cell? ⟨w.heap.size, 3, none⟩ = some (.slice (some ⟨g, 0, none⟩) n wc) ∧ W.cell? ⟨lb, loff + k * 2, none⟩ = some (.int .i64 (KK : Int)) ∧ W.cell? ⟨g, KK * 7, none⟩ = some (.int .i64 (ws KK).wet) ∧ W.cell? ⟨g, KK * 7 + 1, none⟩ = some (.int .i64 (ws KK).dry) ∧ W.cell? ⟨g, KK * 7 + 2, none⟩ = some (.int .i64 (ws KK).burning) ∧ W.cell? ⟨g, KK * 7 + 3, none⟩ = some (.int .i64 (ws KK).fired) ∧ W.cell? ⟨g, KK * 7 + 4, none⟩ = some (.int .i64 (ws KK).laid) ∧ W.cell? ⟨g, KK * 7 + 5, none⟩ = some (.int .i64 (ws KK).broken) ∧ W.cell? ⟨g, KK * 7 + 6, none⟩ = some (.int .i64 (ws KK).missing)) := hide (fun W hb => by
                      have h := HC.out.ext hb
                      obtain ⟨-, -, -, -, a4, -⟩ := bx5' h.b2
                      obtain ⟨-, -, e1, e2, e3, e4, e5, e6, e7⟩ := h.wl.2 KK hKn
                      exact ⟨a4, by rw [← HKE.out]; exact (h.below.cell (p := ⟨lb, loff + k * 2, none⟩) hlb).trans HX0.out, e1, e2, e3, e4, e5, e6, e7⟩)
                    have j1 : (0 : Int) ≤ (k : Int) := by omega
                    have j2 : (k : Int) < (lm : Int) := by omega
                    clear e0 e1 e2 e3 e4 e5 e6 e7
                    have Bd := hide (Below.refl wr.heap.size wr).drew
                    refine wp_region_J (fun W : World => W.cell? ⟨w.heap.size, 3, none⟩ = some (.slice (some ⟨g, 0, none⟩) n wc) ∧ W.cell? ⟨lb, loff + k * 2, none⟩ = some (.int .i64 (KK : Int)) ∧ W.cell? ⟨g, KK * 7, none⟩ = some (.int .i64 (ws KK).wet) ∧ W.cell? ⟨g, KK * 7 + 1, none⟩ = some (.int .i64 (ws KK).dry) ∧ W.cell? ⟨g, KK * 7 + 2, none⟩ = some (.int .i64 (ws KK).burning) ∧ W.cell? ⟨g, KK * 7 + 3, none⟩ = some (.int .i64 (ws KK).fired) ∧ W.cell? ⟨g, KK * 7 + 4, none⟩ = some (.int .i64 (ws KK).laid) ∧ W.cell? ⟨g, KK * 7 + 5, none⟩ = some (.int .i64 (ws KK).broken) ∧ W.cell? ⟨g, KK * 7 + 6, none⟩ = some (.int .i64 (ws KK).missing)) (by kernel_rfl) ?_
                    generalize wr.drew = wd at Bd ⊢
                    refine wpAnyJ_take 0 (v := ?_) (by first | exact hF | exact wideFn) (HS20.out _ Bd.out) rfl (by kernel_rfl) (by kernel_rfl) (by kernel_rfl) (by kernel_rfl) rfl ?_ (by first | exact fun _ _ _ h => h | exact fun _ _ _ h => hQ2 _ _ _ _ _ h) ?_
                    rotate_left
                    · intro W hSW
                      simp only [List.getElem_toArray, List.getElem_cons_zero, List.getElem_cons_succ]
                      (try dsimp only at hSW)
                      go_simp
                      with_reducible rfl
                    (try simp only [List.getElem_toArray, List.getElem_cons_zero, List.getElem_cons_succ, Act.put, List.setIfInBounds_toArray, List.set_cons_zero, List.set_cons_succ])
                    refine wpAnyJ_take 1 (v := ?_) (by first | exact hF | exact wideFn) (HS20.out _ Bd.out) rfl (by kernel_rfl) (by kernel_rfl) (by kernel_rfl) (by kernel_rfl) rfl ?_ (by first | exact fun _ _ _ h => h | exact fun _ _ _ h => hQ2 _ _ _ _ _ h) ?_
                    rotate_left
                    · intro W hSW
                      simp only [List.getElem_toArray, List.getElem_cons_zero, List.getElem_cons_succ]
                      (try dsimp only at hSW)
                      go_simp
                      with_reducible rfl
                    (try simp only [List.getElem_toArray, List.getElem_cons_zero, List.getElem_cons_succ, Act.put, List.setIfInBounds_toArray, List.set_cons_zero, List.set_cons_succ])
                    refine wpAnyJ_take 2 (v := ?_) (by first | exact hF | exact wideFn) (HS20.out _ Bd.out) rfl (by kernel_rfl) (by kernel_rfl) (by kernel_rfl) (by kernel_rfl) rfl ?_ (by first | exact fun _ _ _ h => h | exact fun _ _ _ h => hQ2 _ _ _ _ _ h) ?_
                    rotate_left
                    · intro W hSW
                      simp only [List.getElem_toArray, List.getElem_cons_zero, List.getElem_cons_succ]
                      (try dsimp only at hSW)
                      go_simp
                      with_reducible rfl
                    (try simp only [List.getElem_toArray, List.getElem_cons_zero, List.getElem_cons_succ, Act.put, List.setIfInBounds_toArray, List.set_cons_zero, List.set_cons_succ])
                    refine wpAnyJ_take 3 (v := ?_) (by first | exact hF | exact wideFn) (HS20.out _ Bd.out) rfl (by kernel_rfl) (by kernel_rfl) (by kernel_rfl) (by kernel_rfl) rfl ?_ (by first | exact fun _ _ _ h => h | exact fun _ _ _ h => hQ2 _ _ _ _ _ h) ?_
                    rotate_left
                    · intro W hSW
                      simp only [List.getElem_toArray, List.getElem_cons_zero, List.getElem_cons_succ]
                      (try dsimp only at hSW)
                      go_simp
                      with_reducible rfl
                    (try simp only [List.getElem_toArray, List.getElem_cons_zero, List.getElem_cons_succ, Act.put, List.setIfInBounds_toArray, List.set_cons_zero, List.set_cons_succ])
                    refine wpAnyJ_take 4 (v := ?_) (by first | exact hF | exact wideFn) (HS20.out _ Bd.out) rfl (by kernel_rfl) (by kernel_rfl) (by kernel_rfl) (by kernel_rfl) rfl ?_ (by first | exact fun _ _ _ h => h | exact fun _ _ _ h => hQ2 _ _ _ _ _ h) ?_
                    rotate_left
                    · intro W hSW
                      simp only [List.getElem_toArray, List.getElem_cons_zero, List.getElem_cons_succ]
                      (try dsimp only at hSW)
                      go_simp
                      with_reducible rfl
                    (try simp only [List.getElem_toArray, List.getElem_cons_zero, List.getElem_cons_succ, Act.put, List.setIfInBounds_toArray, List.set_cons_zero, List.set_cons_succ])
                    refine wpAnyJ_take 5 (v := ?_) (by first | exact hF | exact wideFn) (HS20.out _ Bd.out) rfl (by kernel_rfl) (by kernel_rfl) (by kernel_rfl) (by kernel_rfl) rfl ?_ (by first | exact fun _ _ _ h => h | exact fun _ _ _ h => hQ2 _ _ _ _ _ h) ?_
                    rotate_left
                    · intro W hSW
                      simp only [List.getElem_toArray, List.getElem_cons_zero, List.getElem_cons_succ]
                      (try dsimp only at hSW)
                      go_simp
                      with_reducible rfl
                    (try simp only [List.getElem_toArray, List.getElem_cons_zero, List.getElem_cons_succ, Act.put, List.setIfInBounds_toArray, List.set_cons_zero, List.set_cons_succ])
                    refine wpAnyJ_take 6 (v := ?_) (by first | exact hF | exact wideFn) (HS20.out _ Bd.out) rfl (by kernel_rfl) (by kernel_rfl) (by kernel_rfl) (by kernel_rfl) rfl ?_ (by first | exact fun _ _ _ h => h | exact fun _ _ _ h => hQ2 _ _ _ _ _ h) ?_
                    rotate_left
                    · intro W hSW
                      simp only [List.getElem_toArray, List.getElem_cons_zero, List.getElem_cons_succ]
                      (try dsimp only at hSW)
                      go_simp
                      with_reducible rfl
                    (try simp only [List.getElem_toArray, List.getElem_cons_zero, List.getElem_cons_succ, Act.put, List.setIfInBounds_toArray, List.set_cons_zero, List.set_cons_succ])
                    refine wpAnyJ_take 7 (v := ?_) (by first | exact hF | exact wideFn) (HS20.out _ Bd.out) rfl (by kernel_rfl) (by kernel_rfl) (by kernel_rfl) (by kernel_rfl) rfl ?_ (by first | exact fun _ _ _ h => h | exact fun _ _ _ h => hQ2 _ _ _ _ _ h) ?_
                    rotate_left
                    · intro W hSW
                      simp only [List.getElem_toArray, List.getElem_cons_zero, List.getElem_cons_succ]
                      (try dsimp only at hSW)
                      go_simp
                      with_reducible rfl
                    (try simp only [List.getElem_toArray, List.getElem_cons_zero, List.getElem_cons_succ, Act.put, List.setIfInBounds_toArray, List.set_cons_zero, List.set_cons_succ])
                    refine wpAnyJ_take 8 (v := ?_) (by first | exact hF | exact wideFn) (HS20.out _ Bd.out) rfl (by kernel_rfl) (by kernel_rfl) (by kernel_rfl) (by kernel_rfl) rfl ?_ (by first | exact fun _ _ _ h => h | exact fun _ _ _ h => hQ2 _ _ _ _ _ h) ?_
                    rotate_left
                    · intro W hSW
                      simp only [List.getElem_toArray, List.getElem_cons_zero, List.getElem_cons_succ]
                      (try dsimp only at hSW)
                      go_simp
                      with_reducible rfl
                    (try simp only [List.getElem_toArray, List.getElem_cons_zero, List.getElem_cons_succ, Act.put, List.setIfInBounds_toArray, List.set_cons_zero, List.set_cons_succ])
                    refine wpAnyJ_one 9 rfl (by kernel_rfl) (fun K hK => ?_)
                    have KZ := hide (Blk.new wd 94 #[.int .i64 0, .int .i64 0, .int .i64 0, .int .i64 0, .int .i64 0, .int .i64 0, .int .i64 0])
                    have Be := hide (Bd.out.alloc Bd.out.size (.cells #[.int .i64 0, .int .i64 0, .int .i64 0, .int .i64 0, .int .i64 0, .int .i64 0, .int .i64 0] 94))
                    simp only [List.getElem_toArray, List.getElem_cons_zero, List.getElem_cons_succ]
                    go_simp
                    refine hK.out _ _ (fun _ => HS20.out _ Be.out) ?_
                    clear hK K
                    (try simp only [List.getElem_toArray, List.getElem_cons_zero, List.getElem_cons_succ, Act.put, List.setIfInBounds_toArray, List.set_cons_zero, List.set_cons_succ])
                    have hz9 : wr.heap.size ≤ wd.heap.size := Bd.out.size
                    generalize (wd.alloc (.cells #[.int .i64 0, .int .i64 0, .int .i64 0, .int .i64 0, .int .i64 0, .int .i64 0, .int .i64 0] 94)) = we at KZ Be ⊢
                    generalize wd.heap.size = gt at KZ hz9 ⊢
                    obtain ⟨c0, c1, c2, c3, c4, c5, c6, c7⟩ := bx7 KZ.out
                    have f0 := KZ.out.frozen 0
                    have f1 := KZ.out.frozen 1
                    have f2 := KZ.out.frozen 2
                    have f3 := KZ.out.frozen 3
                    have f4 := KZ.out.frozen 4
                    have f5 := KZ.out.frozen 5
                    have f6 := KZ.out.frozen 6
                    refine wpAnyJ_one 10 rfl (by kernel_rfl) (fun K hK => ?_)
                    simp only [List.getElem_toArray, List.getElem_cons_zero, List.getElem_cons_succ]
                    go_simp
                    refine hK.out _ _ (fun h => absurd h (by rw [show lastOp _ _ _ = true from by kernel_rfl]; simp)) ?_
                    clear hK K
                    (try simp only [List.getElem_toArray, List.getElem_cons_zero, List.getElem_cons_succ, Act.put, List.setIfInBounds_toArray, List.set_cons_zero, List.set_cons_succ])
                    refine wpAnyJ_done (by kernel_rfl) ?_
                    have hgt1 : w.heap.size + 1 < gt := by have := HC.out.b4.lt; omega
                    have hgt7 : gt ≠ g7 := by have := HC.out.b7.lt; omega
                    have hgtw : gt ≠ gw := by have := HC.out.wl7.lt; omega
                    have HT := hide (set7_blk KZ.out (ws KK))
                    have HD := hide ((HC.out.ext Be.out).set (grown_set7 (World.grownBy.refl we _) (ws KK)) hgt1 hgt7 hgtw)
                    unfold set7W set7 at HT HD
                    clear c0 c1 c2 c3 c4 c5 c6 c7 f0 f1 f2 f3 f4 f5 f6 KZ Be Bd HS20 HC
                    generalize (((((((we.setCell ⟨gt, 0, none⟩ (.int .i64 (ws KK).wet)).setCell ⟨gt, 1, none⟩ (.int .i64 (ws KK).dry)).setCell ⟨gt, 2, none⟩ (.int .i64 (ws KK).burning)).setCell ⟨gt, 3, none⟩ (.int .i64 (ws KK).fired)).setCell ⟨gt, 4, none⟩ (.int .i64 (ws KK).laid)).setCell ⟨gt, 5, none⟩ (.int .i64 (ws KK).broken)).setCell ⟨gt, 6, none⟩ (.int .i64 (ws KK).missing)) = wf at HT HD ⊢
                    go_upto_region 21 with fail
                    have HDd := hide (HD.out.ext (Below.refl _ _).drew)
                    have HTd := hide (HT.out.drew)
                    have hS : wf.drew.cell? ⟨gt, 1, none⟩ = some (.int .i64 (ws KK).dry) ∧ wf.drew.cell? ⟨lb, loff + k * 2 + 1, none⟩ = some (.int .i64 (y k)) := ⟨(bx7 HTd.out).2.2.1, (HDd.out.below.cell (p := ⟨lb, loff + k * 2 + 1, none⟩) hlb).trans HY0.out⟩
                    have HSS := hide hS
                    clear hS HD HT
                    refine wp_region_J (fun W : World => W.cell? ⟨gt, 1, none⟩ = some (.int .i64 (ws KK).dry) ∧ W.cell? ⟨lb, loff + k * 2 + 1, none⟩ = some (.int .i64 (y k))) (by kernel_rfl) ?_
                    generalize wf.drew = wg at HDd HTd HSS ⊢
                    by_cases hdy : (ws KK).dry < y k
                    · have HEE := hide (HBE.out 9 (by
                        unfold batE
                        rw [if_neg (fun h => h h07), if_neg (by rw [HNO.out]; simp), if_neg (fun h => h hy01), show (x k).toNat = KK by rw [HKE.out]; rfl, if_pos hdy]) (by decide))
                      refine wpAnyJ_take 0 (v := ?_) (by first | exact hF | exact wideFn) HSS.out rfl (by kernel_rfl) (by kernel_rfl) (by kernel_rfl) (by kernel_rfl) rfl ?_ (by first | exact fun _ _ _ h => h | exact fun _ _ _ h => hQ2 _ _ _ _ _ h) ?_
                      rotate_left
                      · intro W hSW
                        simp only [List.getElem_toArray, List.getElem_cons_zero, List.getElem_cons_succ]
                        (try dsimp only at hSW)
                        go_simp
                        with_reducible rfl
                      (try simp only [List.getElem_toArray, List.getElem_cons_zero, List.getElem_cons_succ, Act.put, List.setIfInBounds_toArray, List.set_cons_zero, List.set_cons_succ])
                      refine wpAnyJ_take 1 (v := ?_) (by first | exact hF | exact wideFn) HSS.out rfl (by kernel_rfl) (by kernel_rfl) (by kernel_rfl) (by kernel_rfl) rfl ?_ (by first | exact fun _ _ _ h => h | exact fun _ _ _ h => hQ2 _ _ _ _ _ h) ?_
                      rotate_left
                      · intro W hSW
                        simp only [List.getElem_toArray, List.getElem_cons_zero, List.getElem_cons_succ]
                        (try dsimp only at hSW)
                        go_simp
                        with_reducible rfl
                      (try simp only [List.getElem_toArray, List.getElem_cons_zero, List.getElem_cons_succ, Act.put, List.setIfInBounds_toArray, List.set_cons_zero, List.set_cons_succ])
                      refine wpAnyJ_take 2 (v := ?_) (by first | exact hF | exact wideFn) HSS.out rfl (by kernel_rfl) (by kernel_rfl) (by kernel_rfl) (by kernel_rfl) rfl ?_ (by first | exact fun _ _ _ h => h | exact fun _ _ _ h => hQ2 _ _ _ _ _ h) ?_
                      rotate_left
                      · intro W hSW
                        simp only [List.getElem_toArray, List.getElem_cons_zero, List.getElem_cons_succ]
                        (try dsimp only at hSW)
                        go_simp
                        with_reducible rfl
                      (try simp only [List.getElem_toArray, List.getElem_cons_zero, List.getElem_cons_succ, Act.put, List.setIfInBounds_toArray, List.set_cons_zero, List.set_cons_succ])
                      refine wpAnyJ_take 3 (v := ?_) (by first | exact hF | exact wideFn) HSS.out rfl (by kernel_rfl) (by kernel_rfl) (by kernel_rfl) (by kernel_rfl) rfl ?_ (by first | exact fun _ _ _ h => h | exact fun _ _ _ h => hQ2 _ _ _ _ _ h) ?_
                      rotate_left
                      · intro W hSW
                        simp only [List.getElem_toArray, List.getElem_cons_zero, List.getElem_cons_succ]
                        (try dsimp only at hSW)
                        go_simp
                        with_reducible rfl
                      (try simp only [List.getElem_toArray, List.getElem_cons_zero, List.getElem_cons_succ, Act.put, List.setIfInBounds_toArray, List.set_cons_zero, List.set_cons_succ])
                      refine wpAnyJ_take 4 (v := ?_) (by first | exact hF | exact wideFn) HSS.out rfl (by kernel_rfl) (by kernel_rfl) (by kernel_rfl) (by kernel_rfl) rfl ?_ (by first | exact fun _ _ _ h => h | exact fun _ _ _ h => hQ2 _ _ _ _ _ h) ?_
                      rotate_left
                      · intro W hSW
                        simp only [List.getElem_toArray, List.getElem_cons_zero, List.getElem_cons_succ]
                        (try dsimp only at hSW)
                        go_simp
                        with_reducible rfl
                      (try simp only [List.getElem_toArray, List.getElem_cons_zero, List.getElem_cons_succ, Act.put, List.setIfInBounds_toArray, List.set_cons_zero, List.set_cons_succ])
                      refine wpAnyJ_take 5 (v := ?_) (by first | exact hF | exact wideFn) HSS.out rfl (by kernel_rfl) (by kernel_rfl) (by kernel_rfl) (by kernel_rfl) rfl ?_ (by first | exact fun _ _ _ h => h | exact fun _ _ _ h => hQ2 _ _ _ _ _ h) ?_
                      rotate_left
                      · intro W hSW
                        simp only [List.getElem_toArray, List.getElem_cons_zero, List.getElem_cons_succ]
                        (try dsimp only at hSW)
                        go_simp
                        with_reducible rfl
                      (try simp only [List.getElem_toArray, List.getElem_cons_zero, List.getElem_cons_succ, Act.put, List.setIfInBounds_toArray, List.set_cons_zero, List.set_cons_succ])
                      refine wpAnyJ_take 6 (v := ?_) (by first | exact hF | exact wideFn) HSS.out rfl (by kernel_rfl) (by kernel_rfl) (by kernel_rfl) (by kernel_rfl) rfl ?_ (by first | exact fun _ _ _ h => h | exact fun _ _ _ h => hQ2 _ _ _ _ _ h) ?_
                      rotate_left
                      · intro W hSW
                        simp only [List.getElem_toArray, List.getElem_cons_zero, List.getElem_cons_succ]
                        (try dsimp only at hSW)
                        go_simp
                        with_reducible rfl
                      (try simp only [List.getElem_toArray, List.getElem_cons_zero, List.getElem_cons_succ, Act.put, List.setIfInBounds_toArray, List.set_cons_zero, List.set_cons_succ])
                      refine wpAnyJ_take 7 (v := ?_) (by first | exact hF | exact wideFn) HSS.out rfl (by kernel_rfl) (by kernel_rfl) (by kernel_rfl) (by kernel_rfl) rfl ?_ (by first | exact fun _ _ _ h => h | exact fun _ _ _ h => hQ2 _ _ _ _ _ h) ?_
                      rotate_left
                      · intro W hSW
                        simp only [List.getElem_toArray, List.getElem_cons_zero, List.getElem_cons_succ]
                        (try dsimp only at hSW)
                        go_simp
                        with_reducible rfl
                      (try simp only [List.getElem_toArray, List.getElem_cons_zero, List.getElem_cons_succ, Act.put, List.setIfInBounds_toArray, List.set_cons_zero, List.set_cons_succ])
                      refine wpAnyJ_done (by kernel_rfl) ?_
                      have HD := hide HDd.out.toFB
                      clear h07 hdy j1 j2 k1 k2
                      obtain ⟨a0, a1, a2, a3, a4, a5, f1, f2, f3, f4, f5⟩ := bx5' HD.out.b2
                      obtain ⟨c0, c1, c2, c3, c4, c5, h1, h2, h3, h4, h5⟩ := bx5' HD.out.b4
                      go_wp2_with fail
                      refine bodyPost_ret (v := .tuple #[bkV SA n sc room (some ⟨g, 0, none⟩) wc BA 0 bc, .int .i64 9]) (by simp [results, Try.results76, go_sem, bkV, *]) rfl (.inl ⟨by rw [HEE.out]; decide, by rw [HEE.out], set5_B HD.out.below (by omega) _ _ _ _ _⟩)
                    · have HB0 : Hid (batE n ws x y k = 0) := hide (by
                        unfold batE
                        rw [if_neg (fun h => h h07), if_neg (by rw [HNO.out]; simp), if_neg (fun h => h hy01), show (x k).toNat = KK by rw [HKE.out]; rfl, if_neg hdy])
                      refine wpAnyJ_take 0 (v := ?_) (by first | exact hF | exact wideFn) HSS.out rfl (by kernel_rfl) (by kernel_rfl) (by kernel_rfl) (by kernel_rfl) rfl ?_ (by first | exact fun _ _ _ h => h | exact fun _ _ _ h => hQ2 _ _ _ _ _ h) ?_
                      rotate_left
                      · intro W hSW
                        simp only [List.getElem_toArray, List.getElem_cons_zero, List.getElem_cons_succ]
                        (try dsimp only at hSW)
                        go_simp
                        with_reducible rfl
                      (try simp only [List.getElem_toArray, List.getElem_cons_zero, List.getElem_cons_succ, Act.put, List.setIfInBounds_toArray, List.set_cons_zero, List.set_cons_succ])
                      refine wpAnyJ_take 1 (v := ?_) (by first | exact hF | exact wideFn) HSS.out rfl (by kernel_rfl) (by kernel_rfl) (by kernel_rfl) (by kernel_rfl) rfl ?_ (by first | exact fun _ _ _ h => h | exact fun _ _ _ h => hQ2 _ _ _ _ _ h) ?_
                      rotate_left
                      · intro W hSW
                        simp only [List.getElem_toArray, List.getElem_cons_zero, List.getElem_cons_succ]
                        (try dsimp only at hSW)
                        go_simp
                        with_reducible rfl
                      (try simp only [List.getElem_toArray, List.getElem_cons_zero, List.getElem_cons_succ, Act.put, List.setIfInBounds_toArray, List.set_cons_zero, List.set_cons_succ])
                      refine wpAnyJ_take 2 (v := ?_) (by first | exact hF | exact wideFn) HSS.out rfl (by kernel_rfl) (by kernel_rfl) (by kernel_rfl) (by kernel_rfl) rfl ?_ (by first | exact fun _ _ _ h => h | exact fun _ _ _ h => hQ2 _ _ _ _ _ h) ?_
                      rotate_left
                      · intro W hSW
                        simp only [List.getElem_toArray, List.getElem_cons_zero, List.getElem_cons_succ]
                        (try dsimp only at hSW)
                        go_simp
                        with_reducible rfl
                      (try simp only [List.getElem_toArray, List.getElem_cons_zero, List.getElem_cons_succ, Act.put, List.setIfInBounds_toArray, List.set_cons_zero, List.set_cons_succ])
                      refine wpAnyJ_take 3 (v := ?_) (by first | exact hF | exact wideFn) HSS.out rfl (by kernel_rfl) (by kernel_rfl) (by kernel_rfl) (by kernel_rfl) rfl ?_ (by first | exact fun _ _ _ h => h | exact fun _ _ _ h => hQ2 _ _ _ _ _ h) ?_
                      rotate_left
                      · intro W hSW
                        simp only [List.getElem_toArray, List.getElem_cons_zero, List.getElem_cons_succ]
                        (try dsimp only at hSW)
                        go_simp
                        with_reducible rfl
                      (try simp only [List.getElem_toArray, List.getElem_cons_zero, List.getElem_cons_succ, Act.put, List.setIfInBounds_toArray, List.set_cons_zero, List.set_cons_succ])
                      refine wpAnyJ_take 4 (v := ?_) (by first | exact hF | exact wideFn) HSS.out rfl (by kernel_rfl) (by kernel_rfl) (by kernel_rfl) (by kernel_rfl) rfl ?_ (by first | exact fun _ _ _ h => h | exact fun _ _ _ h => hQ2 _ _ _ _ _ h) ?_
                      rotate_left
                      · intro W hSW
                        simp only [List.getElem_toArray, List.getElem_cons_zero, List.getElem_cons_succ]
                        (try dsimp only at hSW)
                        go_simp
                        with_reducible rfl
                      (try simp only [List.getElem_toArray, List.getElem_cons_zero, List.getElem_cons_succ, Act.put, List.setIfInBounds_toArray, List.set_cons_zero, List.set_cons_succ])
                      refine wpAnyJ_take 5 (v := ?_) (by first | exact hF | exact wideFn) HSS.out rfl (by kernel_rfl) (by kernel_rfl) (by kernel_rfl) (by kernel_rfl) rfl ?_ (by first | exact fun _ _ _ h => h | exact fun _ _ _ h => hQ2 _ _ _ _ _ h) ?_
                      rotate_left
                      · intro W hSW
                        simp only [List.getElem_toArray, List.getElem_cons_zero, List.getElem_cons_succ]
                        (try dsimp only at hSW)
                        go_simp
                        with_reducible rfl
                      (try simp only [List.getElem_toArray, List.getElem_cons_zero, List.getElem_cons_succ, Act.put, List.setIfInBounds_toArray, List.set_cons_zero, List.set_cons_succ])
                      refine wpAnyJ_take 6 (v := ?_) (by first | exact hF | exact wideFn) HSS.out rfl (by kernel_rfl) (by kernel_rfl) (by kernel_rfl) (by kernel_rfl) rfl ?_ (by first | exact fun _ _ _ h => h | exact fun _ _ _ h => hQ2 _ _ _ _ _ h) ?_
                      rotate_left
                      · intro W hSW
                        simp only [List.getElem_toArray, List.getElem_cons_zero, List.getElem_cons_succ]
                        (try dsimp only at hSW)
                        go_simp
                        with_reducible rfl
                      (try simp only [List.getElem_toArray, List.getElem_cons_zero, List.getElem_cons_succ, Act.put, List.setIfInBounds_toArray, List.set_cons_zero, List.set_cons_succ])
                      refine wpAnyJ_take 7 (v := ?_) (by first | exact hF | exact wideFn) HSS.out rfl (by kernel_rfl) (by kernel_rfl) (by kernel_rfl) (by kernel_rfl) rfl ?_ (by first | exact fun _ _ _ h => h | exact fun _ _ _ h => hQ2 _ _ _ _ _ h) ?_
                      rotate_left
                      · intro W hSW
                        simp only [List.getElem_toArray, List.getElem_cons_zero, List.getElem_cons_succ]
                        (try dsimp only at hSW)
                        go_simp
                        with_reducible rfl
                      (try simp only [List.getElem_toArray, List.getElem_cons_zero, List.getElem_cons_succ, Act.put, List.setIfInBounds_toArray, List.set_cons_zero, List.set_cons_succ])
                      refine wpAnyJ_done (by kernel_rfl) ?_
                      clear HSS
                      go_upto_region 23 with fail
                      obtain ⟨o1, o2, o3, o4, o5, o6, o7, o8, o9⟩ := HOK.out KK hKn
                      have hw1 : IntKind.i64.wrap ((ws KK).dry - y k) = (ws KK).dry - y k := IntWalk.i64_in _ (by omega)
                      have hw2 : IntKind.i64.wrap ((ws KK).burning + y k) = (ws KK).burning + y k := IntWalk.i64_in _ (by omega)
                      have HTe := hide (HTd.out.drew)
                      have HDe := hide (HDd.out.ext (Below.refl _ _).drew)
                      have HSB23 : Hid (∀ W, Below w.heap.size w W → W.cell? ⟨lb, loff + k * 2 + 1, none⟩ = some (.int .i64 (y k))) := hide (fun W h => (h.cell (p := ⟨lb, loff + k * 2 + 1, none⟩) hlb).trans HY0.out)
                      have hA : wg.drew.cell? ⟨gt, 1, none⟩ = some (.int .i64 (ws KK).dry) ∧ wg.drew.cell? ⟨gt, 2, none⟩ = some (.int .i64 (ws KK).burning) := ⟨(bx7 HTe.out).2.2.1, (bx7 HTe.out).2.2.2.1⟩
                      have HA := hide hA
                      clear hA o1 o2 o3 o4 o5 o6 o7 o8 o9 hdy
                      refine wp_region_K (pickS [1, 9] (fun W => W.cell? ⟨gt, 1, none⟩ = some (.int .i64 (ws KK).dry) ∧ W.cell? ⟨gt, 2, none⟩ = some (.int .i64 (ws KK).burning)) (fun W => W.cell? ⟨lb, loff + k * 2 + 1, none⟩ = some (.int .i64 (y k)))) (by kernel_rfl) ?_
                      generalize wg.drew = wh at HTe HDe HA ⊢
                      refine wpAnyK_take 0 (v := ?_) (by first | exact hF | exact wideFn) (HSB23.out _ HDe.out.below) rfl (by kernel_rfl) (by kernel_rfl) (by kernel_rfl) (by kernel_rfl) rfl ?_ (by first | exact fun _ _ _ h => h | exact fun _ _ _ h => hQ2 _ _ _ _ _ h) ?_
                      rotate_left
                      · intro W hSW
                        replace hSW : (W.cell? ⟨lb, loff + k * 2 + 1, none⟩ = some (.int .i64 (y k))) := hSW
                        simp only [List.getElem_toArray, List.getElem_cons_zero, List.getElem_cons_succ]
                        (try dsimp only at hSW)
                        go_simp
                        with_reducible rfl
                      (try simp only [List.getElem_toArray, List.getElem_cons_zero, List.getElem_cons_succ, Act.put, List.setIfInBounds_toArray, List.set_cons_zero, List.set_cons_succ])
                      refine wpAnyK_take 1 (v := ?_) (by first | exact hF | exact wideFn) (And.intro HA.out (HSB23.out _ HDe.out.below)) rfl (by kernel_rfl) (by kernel_rfl) (by kernel_rfl) (by kernel_rfl) rfl ?_ (by first | exact fun _ _ _ h => h | exact fun _ _ _ h => hQ2 _ _ _ _ _ h) ?_
                      rotate_left
                      · intro W hSW
                        replace hSW : ((W.cell? ⟨gt, 1, none⟩ = some (.int .i64 (ws KK).dry) ∧ W.cell? ⟨gt, 2, none⟩ = some (.int .i64 (ws KK).burning)) ∧ W.cell? ⟨lb, loff + k * 2 + 1, none⟩ = some (.int .i64 (y k))) := hSW
                        simp only [List.getElem_toArray, List.getElem_cons_zero, List.getElem_cons_succ]
                        (try dsimp only at hSW)
                        go_simp
                        with_reducible rfl
                      (try simp only [List.getElem_toArray, List.getElem_cons_zero, List.getElem_cons_succ, Act.put, List.setIfInBounds_toArray, List.set_cons_zero, List.set_cons_succ])
                      refine wpAnyK_take 2 (v := ?_) (by first | exact hF | exact wideFn) (HSB23.out _ HDe.out.below) rfl (by kernel_rfl) (by kernel_rfl) (by kernel_rfl) (by kernel_rfl) rfl ?_ (by first | exact fun _ _ _ h => h | exact fun _ _ _ h => hQ2 _ _ _ _ _ h) ?_
                      rotate_left
                      · intro W hSW
                        replace hSW : (W.cell? ⟨lb, loff + k * 2 + 1, none⟩ = some (.int .i64 (y k))) := hSW
                        simp only [List.getElem_toArray, List.getElem_cons_zero, List.getElem_cons_succ]
                        (try dsimp only at hSW)
                        go_simp
                        with_reducible rfl
                      (try simp only [List.getElem_toArray, List.getElem_cons_zero, List.getElem_cons_succ, Act.put, List.setIfInBounds_toArray, List.set_cons_zero, List.set_cons_succ])
                      refine wpAnyK_take 3 (v := ?_) (by first | exact hF | exact wideFn) (HSB23.out _ HDe.out.below) rfl (by kernel_rfl) (by kernel_rfl) (by kernel_rfl) (by kernel_rfl) rfl ?_ (by first | exact fun _ _ _ h => h | exact fun _ _ _ h => hQ2 _ _ _ _ _ h) ?_
                      rotate_left
                      · intro W hSW
                        replace hSW : (W.cell? ⟨lb, loff + k * 2 + 1, none⟩ = some (.int .i64 (y k))) := hSW
                        simp only [List.getElem_toArray, List.getElem_cons_zero, List.getElem_cons_succ]
                        (try dsimp only at hSW)
                        go_simp
                        with_reducible rfl
                      (try simp only [List.getElem_toArray, List.getElem_cons_zero, List.getElem_cons_succ, Act.put, List.setIfInBounds_toArray, List.set_cons_zero, List.set_cons_succ])
                      refine wpAnyK_take 4 (v := ?_) (by first | exact hF | exact wideFn) (HSB23.out _ HDe.out.below) rfl (by kernel_rfl) (by kernel_rfl) (by kernel_rfl) (by kernel_rfl) rfl ?_ (by first | exact fun _ _ _ h => h | exact fun _ _ _ h => hQ2 _ _ _ _ _ h) ?_
                      rotate_left
                      · intro W hSW
                        replace hSW : (W.cell? ⟨lb, loff + k * 2 + 1, none⟩ = some (.int .i64 (y k))) := hSW
                        simp only [List.getElem_toArray, List.getElem_cons_zero, List.getElem_cons_succ]
                        (try dsimp only at hSW)
                        go_simp
                        with_reducible rfl
                      (try simp only [List.getElem_toArray, List.getElem_cons_zero, List.getElem_cons_succ, Act.put, List.setIfInBounds_toArray, List.set_cons_zero, List.set_cons_succ])
                      refine wpAnyK_take 5 (v := ?_) (by first | exact hF | exact wideFn) (HSB23.out _ HDe.out.below) rfl (by kernel_rfl) (by kernel_rfl) (by kernel_rfl) (by kernel_rfl) rfl ?_ (by first | exact fun _ _ _ h => h | exact fun _ _ _ h => hQ2 _ _ _ _ _ h) ?_
                      rotate_left
                      · intro W hSW
                        replace hSW : (W.cell? ⟨lb, loff + k * 2 + 1, none⟩ = some (.int .i64 (y k))) := hSW
                        simp only [List.getElem_toArray, List.getElem_cons_zero, List.getElem_cons_succ]
                        (try dsimp only at hSW)
                        go_simp
                        with_reducible rfl
                      (try simp only [List.getElem_toArray, List.getElem_cons_zero, List.getElem_cons_succ, Act.put, List.setIfInBounds_toArray, List.set_cons_zero, List.set_cons_succ])
                      refine wpAnyK_take 6 (v := ?_) (by first | exact hF | exact wideFn) (HSB23.out _ HDe.out.below) rfl (by kernel_rfl) (by kernel_rfl) (by kernel_rfl) (by kernel_rfl) rfl ?_ (by first | exact fun _ _ _ h => h | exact fun _ _ _ h => hQ2 _ _ _ _ _ h) ?_
                      rotate_left
                      · intro W hSW
                        replace hSW : (W.cell? ⟨lb, loff + k * 2 + 1, none⟩ = some (.int .i64 (y k))) := hSW
                        simp only [List.getElem_toArray, List.getElem_cons_zero, List.getElem_cons_succ]
                        (try dsimp only at hSW)
                        go_simp
                        with_reducible rfl
                      (try simp only [List.getElem_toArray, List.getElem_cons_zero, List.getElem_cons_succ, Act.put, List.setIfInBounds_toArray, List.set_cons_zero, List.set_cons_succ])
                      refine wpAnyK_take 7 (v := ?_) (by first | exact hF | exact wideFn) (HSB23.out _ HDe.out.below) rfl (by kernel_rfl) (by kernel_rfl) (by kernel_rfl) (by kernel_rfl) rfl ?_ (by first | exact fun _ _ _ h => h | exact fun _ _ _ h => hQ2 _ _ _ _ _ h) ?_
                      rotate_left
                      · intro W hSW
                        replace hSW : (W.cell? ⟨lb, loff + k * 2 + 1, none⟩ = some (.int .i64 (y k))) := hSW
                        simp only [List.getElem_toArray, List.getElem_cons_zero, List.getElem_cons_succ]
                        (try dsimp only at hSW)
                        go_simp
                        with_reducible rfl
                      (try simp only [List.getElem_toArray, List.getElem_cons_zero, List.getElem_cons_succ, Act.put, List.setIfInBounds_toArray, List.set_cons_zero, List.set_cons_succ])
                      refine wpAnyK_take 8 (v := ?_) (by first | exact hF | exact wideFn) (HSB23.out _ HDe.out.below) rfl (by kernel_rfl) (by kernel_rfl) (by kernel_rfl) (by kernel_rfl) rfl ?_ (by first | exact fun _ _ _ h => h | exact fun _ _ _ h => hQ2 _ _ _ _ _ h) ?_
                      rotate_left
                      · intro W hSW
                        replace hSW : (W.cell? ⟨lb, loff + k * 2 + 1, none⟩ = some (.int .i64 (y k))) := hSW
                        simp only [List.getElem_toArray, List.getElem_cons_zero, List.getElem_cons_succ]
                        (try dsimp only at hSW)
                        go_simp
                        with_reducible rfl
                      (try simp only [List.getElem_toArray, List.getElem_cons_zero, List.getElem_cons_succ, Act.put, List.setIfInBounds_toArray, List.set_cons_zero, List.set_cons_succ])
                      refine wpAnyK_take 9 (v := ?_) (by first | exact hF | exact wideFn) (And.intro HA.out (HSB23.out _ HDe.out.below)) rfl (by kernel_rfl) (by kernel_rfl) (by kernel_rfl) (by kernel_rfl) rfl ?_ (by first | exact fun _ _ _ h => h | exact fun _ _ _ h => hQ2 _ _ _ _ _ h) ?_
                      rotate_left
                      · intro W hSW
                        replace hSW : ((W.cell? ⟨gt, 1, none⟩ = some (.int .i64 (ws KK).dry) ∧ W.cell? ⟨gt, 2, none⟩ = some (.int .i64 (ws KK).burning)) ∧ W.cell? ⟨lb, loff + k * 2 + 1, none⟩ = some (.int .i64 (y k))) := hSW
                        simp only [List.getElem_toArray, List.getElem_cons_zero, List.getElem_cons_succ]
                        (try dsimp only at hSW)
                        go_simp
                        with_reducible rfl
                      (try simp only [List.getElem_toArray, List.getElem_cons_zero, List.getElem_cons_succ, Act.put, List.setIfInBounds_toArray, List.set_cons_zero, List.set_cons_succ])
                      refine wpAnyK_take 10 (v := ?_) (by first | exact hF | exact wideFn) (HSB23.out _ HDe.out.below) rfl (by kernel_rfl) (by kernel_rfl) (by kernel_rfl) (by kernel_rfl) rfl ?_ (by first | exact fun _ _ _ h => h | exact fun _ _ _ h => hQ2 _ _ _ _ _ h) ?_
                      rotate_left
                      · intro W hSW
                        replace hSW : (W.cell? ⟨lb, loff + k * 2 + 1, none⟩ = some (.int .i64 (y k))) := hSW
                        simp only [List.getElem_toArray, List.getElem_cons_zero, List.getElem_cons_succ]
                        (try dsimp only at hSW)
                        go_simp
                        with_reducible rfl
                      (try simp only [List.getElem_toArray, List.getElem_cons_zero, List.getElem_cons_succ, Act.put, List.setIfInBounds_toArray, List.set_cons_zero, List.set_cons_succ])
                      refine wpAnyK_take 11 (v := ?_) (by first | exact hF | exact wideFn) (HSB23.out _ HDe.out.below) rfl (by kernel_rfl) (by kernel_rfl) (by kernel_rfl) (by kernel_rfl) rfl ?_ (by first | exact fun _ _ _ h => h | exact fun _ _ _ h => hQ2 _ _ _ _ _ h) ?_
                      rotate_left
                      · intro W hSW
                        replace hSW : (W.cell? ⟨lb, loff + k * 2 + 1, none⟩ = some (.int .i64 (y k))) := hSW
                        simp only [List.getElem_toArray, List.getElem_cons_zero, List.getElem_cons_succ]
                        (try dsimp only at hSW)
                        go_simp
                        with_reducible rfl
                      (try simp only [List.getElem_toArray, List.getElem_cons_zero, List.getElem_cons_succ, Act.put, List.setIfInBounds_toArray, List.set_cons_zero, List.set_cons_succ])
                      refine wpAnyK_take 12 (v := ?_) (by first | exact hF | exact wideFn) (HSB23.out _ HDe.out.below) rfl (by kernel_rfl) (by kernel_rfl) (by kernel_rfl) (by kernel_rfl) rfl ?_ (by first | exact fun _ _ _ h => h | exact fun _ _ _ h => hQ2 _ _ _ _ _ h) ?_
                      rotate_left
                      · intro W hSW
                        replace hSW : (W.cell? ⟨lb, loff + k * 2 + 1, none⟩ = some (.int .i64 (y k))) := hSW
                        simp only [List.getElem_toArray, List.getElem_cons_zero, List.getElem_cons_succ]
                        (try dsimp only at hSW)
                        go_simp
                        with_reducible rfl
                      (try simp only [List.getElem_toArray, List.getElem_cons_zero, List.getElem_cons_succ, Act.put, List.setIfInBounds_toArray, List.set_cons_zero, List.set_cons_succ])
                      refine wpAnyK_take 13 (v := ?_) (by first | exact hF | exact wideFn) (HSB23.out _ HDe.out.below) rfl (by kernel_rfl) (by kernel_rfl) (by kernel_rfl) (by kernel_rfl) rfl ?_ (by first | exact fun _ _ _ h => h | exact fun _ _ _ h => hQ2 _ _ _ _ _ h) ?_
                      rotate_left
                      · intro W hSW
                        replace hSW : (W.cell? ⟨lb, loff + k * 2 + 1, none⟩ = some (.int .i64 (y k))) := hSW
                        simp only [List.getElem_toArray, List.getElem_cons_zero, List.getElem_cons_succ]
                        (try dsimp only at hSW)
                        go_simp
                        with_reducible rfl
                      (try simp only [List.getElem_toArray, List.getElem_cons_zero, List.getElem_cons_succ, Act.put, List.setIfInBounds_toArray, List.set_cons_zero, List.set_cons_succ])
                      refine wpAnyK_take 14 (v := ?_) (by first | exact hF | exact wideFn) (HSB23.out _ HDe.out.below) rfl (by kernel_rfl) (by kernel_rfl) (by kernel_rfl) (by kernel_rfl) rfl ?_ (by first | exact fun _ _ _ h => h | exact fun _ _ _ h => hQ2 _ _ _ _ _ h) ?_
                      rotate_left
                      · intro W hSW
                        replace hSW : (W.cell? ⟨lb, loff + k * 2 + 1, none⟩ = some (.int .i64 (y k))) := hSW
                        simp only [List.getElem_toArray, List.getElem_cons_zero, List.getElem_cons_succ]
                        (try dsimp only at hSW)
                        go_simp
                        with_reducible rfl
                      (try simp only [List.getElem_toArray, List.getElem_cons_zero, List.getElem_cons_succ, Act.put, List.setIfInBounds_toArray, List.set_cons_zero, List.set_cons_succ])
                      refine wpAnyK_take 15 (v := ?_) (by first | exact hF | exact wideFn) (HSB23.out _ HDe.out.below) rfl (by kernel_rfl) (by kernel_rfl) (by kernel_rfl) (by kernel_rfl) rfl ?_ (by first | exact fun _ _ _ h => h | exact fun _ _ _ h => hQ2 _ _ _ _ _ h) ?_
                      rotate_left
                      · intro W hSW
                        replace hSW : (W.cell? ⟨lb, loff + k * 2 + 1, none⟩ = some (.int .i64 (y k))) := hSW
                        simp only [List.getElem_toArray, List.getElem_cons_zero, List.getElem_cons_succ]
                        (try dsimp only at hSW)
                        go_simp
                        with_reducible rfl
                      (try simp only [List.getElem_toArray, List.getElem_cons_zero, List.getElem_cons_succ, Act.put, List.setIfInBounds_toArray, List.set_cons_zero, List.set_cons_succ])
                      refine wpAnyK_take 16 (v := ?_) (by first | exact hF | exact wideFn) (HSB23.out _ HDe.out.below) rfl (by kernel_rfl) (by kernel_rfl) (by kernel_rfl) (by kernel_rfl) rfl ?_ (by first | exact fun _ _ _ h => h | exact fun _ _ _ h => hQ2 _ _ _ _ _ h) ?_
                      rotate_left
                      · intro W hSW
                        replace hSW : (W.cell? ⟨lb, loff + k * 2 + 1, none⟩ = some (.int .i64 (y k))) := hSW
                        simp only [List.getElem_toArray, List.getElem_cons_zero, List.getElem_cons_succ]
                        (try dsimp only at hSW)
                        go_simp
                        with_reducible rfl
                      (try simp only [List.getElem_toArray, List.getElem_cons_zero, List.getElem_cons_succ, Act.put, List.setIfInBounds_toArray, List.set_cons_zero, List.set_cons_succ])
                      clear hw1 hw2
                      have HT2 : Hid (Blk ((wh.setCell ⟨gt, 1, none⟩ (.int .i64 ((ws KK).dry - y k))).setCell ⟨gt, 2, none⟩ (.int .i64 ((ws KK).burning + y k))) gt 94 #[.int .i64 (ws KK).wet, .int .i64 ((ws KK).dry - y k), .int .i64 ((ws KK).burning + y k), .int .i64 (ws KK).fired, .int .i64 (ws KK).laid, .int .i64 (ws KK).broken, .int .i64 (ws KK).missing]) := hide (by simpa using (HTe.out.set_ 1 (.int .i64 ((ws KK).dry - y k))).set_ 2 (.int .i64 ((ws KK).burning + y k)))
                      have HD2 := hide (HDe.out.set (grownBy_setS (grownBy_setS (World.grownBy.refl wh (some gt)) 1 (.int .i64 ((ws KK).dry - y k))) 2 (.int .i64 ((ws KK).burning + y k))) hgt1 hgt7 hgtw)
                      have HB1 := hide (HSB23.out _ (HDe.out.below.setCell (p := ⟨gt, 1, none⟩) (by show w.heap.size ≤ gt; omega) (.int .i64 ((ws KK).dry - y k))))
                      obtain ⟨c0, c1, c2, c3, c4, c5, c6, c7⟩ := bx7 HTe.out
                      have f1 := HTe.out.frozen 1
                      have f2 := HTe.out.frozen 2
                      refine wpAnyK_one 17 rfl (by kernel_rfl) (fun K hK => ?_)
                      simp only [List.getElem_toArray, List.getElem_cons_zero, List.getElem_cons_succ]
                      go_simp
                      refine hK.out _ _ (.inr (pickS_need (by kernel_rfl) HB1.out)) ?_
                      clear hK K
                      (try simp only [List.getElem_toArray, List.getElem_cons_zero, List.getElem_cons_succ, Act.put, List.setIfInBounds_toArray, List.set_cons_zero, List.set_cons_succ])
                      refine wpAnyK_take 18 (v := ?_) (by first | exact hF | exact wideFn) HB1.out rfl (by kernel_rfl) (by kernel_rfl) (by kernel_rfl) (by kernel_rfl) rfl ?_ (by first | exact fun _ _ _ h => h | exact fun _ _ _ h => hQ2 _ _ _ _ _ h) ?_
                      rotate_left
                      · intro W hSW
                        replace hSW : (W.cell? ⟨lb, loff + k * 2 + 1, none⟩ = some (.int .i64 (y k))) := hSW
                        simp only [List.getElem_toArray, List.getElem_cons_zero, List.getElem_cons_succ]
                        (try dsimp only at hSW)
                        go_simp
                        with_reducible rfl
                      (try simp only [List.getElem_toArray, List.getElem_cons_zero, List.getElem_cons_succ, Act.put, List.setIfInBounds_toArray, List.set_cons_zero, List.set_cons_succ])
                      refine wpAnyK_one 19 rfl (by kernel_rfl) (fun K hK => ?_)
                      simp only [List.getElem_toArray, List.getElem_cons_zero, List.getElem_cons_succ]
                      go_simp
                      refine hK.out _ _ (.inr (pickS_no (by kernel_rfl))) ?_
                      clear hK K
                      (try simp only [List.getElem_toArray, List.getElem_cons_zero, List.getElem_cons_succ, Act.put, List.setIfInBounds_toArray, List.set_cons_zero, List.set_cons_succ])
                      refine wpAnyK_done (by kernel_rfl) ?_
                      clear c0 c1 c2 c3 c4 c5 c6 c7 f1 f2 HTe HDe HA HB1 HSB23 HTd HDd
                      generalize ((wh.setCell ⟨gt, 1, none⟩ (.int .i64 ((ws KK).dry - y k))).setCell ⟨gt, 2, none⟩ (.int .i64 ((ws KK).burning + y k))) = wi at HT2 HD2 ⊢
                      go_upto_region 24 with fail
                      obtain ⟨sb, soff, hSA, hsb, hsc⟩ := HSP.out.at_ hKn
                      subst hSA
                      obtain ⟨s1, s2⟩ := HSB.out KK hKn
                      obtain ⟨s3, s4⟩ := spaceTo_bd HSB.out k HBT.out
                      have m1 := mul_bd (a := y k) (b := sp KK) (M := 1000000000) (N := 1000) (by omega) (by omega) (by omega) (by omega)
                      have hk20 : (k : Int) ≤ 20 := by omega
                      have hw1 : IntKind.i64.wrap (y k * sp KK) = y k * sp KK := IntWalk.i64_in _ (by omega)
                      have hw2 : IntKind.i64.wrap (room - spaceTo sp x y k - y k * sp KK) = room - spaceTo sp x y k - y k * sp KK := IntWalk.i64_in _ (by omega)
                      have HSC := hide hsc
                      have HSB24 : Hid (∀ W, FB w (some ⟨sb, soff, none⟩) n sc room g wc BA 0 bc ws W → W.cell? ⟨lb, loff + k * 2, none⟩ = some (.int .i64 (KK : Int)) ∧ W.cell? ⟨lb, loff + k * 2 + 1, none⟩ = some (.int .i64 (y k)) ∧ W.cell? ⟨w.heap.size, 1, none⟩ = some (.slice (some ⟨sb, soff, none⟩) n sc) ∧ W.cell? ⟨sb, soff + KK, none⟩ = some (.int .i64 (sp KK))) := hide (fun W h => by
                        obtain ⟨-, -, a2, -⟩ := bx5' h.b2
                        exact ⟨by rw [← HKE.out]; exact (h.below.cell (p := ⟨lb, loff + k * 2, none⟩) hlb).trans HX0.out, (h.below.cell (p := ⟨lb, loff + k * 2 + 1, none⟩) hlb).trans HY0.out, a2, (h.below.cell (p := ⟨sb, soff + KK, none⟩) hsb).trans HSC.out⟩)
                      have HT3 := hide HT2.out.drew
                      have HD3 := hide (HD2.out.ext (Below.refl _ _).drew)
                      clear HT2 HD2 hsc m1 s1 s2 s3 s4
                      refine wp_region_K (pickS [0, 6] (fun W => (W.cell? ⟨g7, 0, none⟩ = some (.bool false) ∧ W.cell? ⟨g7, 1, none⟩ = some (.slice (some ⟨sb, soff, none⟩) n sc) ∧ W.cell? ⟨g7, 2, none⟩ = some (.int .i64 room) ∧ W.cell? ⟨g7, 3, none⟩ = some (.slice (some ⟨gw, 0, none⟩) n cw) ∧ W.cell? ⟨g7, 4, none⟩ = some (.slice BA 0 bc)) ∧ W.cell? ⟨gt, 0, none⟩ = some (.int .i64 (ws KK).wet) ∧ W.cell? ⟨gt, 1, none⟩ = some (.int .i64 ((ws KK).dry - y k)) ∧ W.cell? ⟨gt, 2, none⟩ = some (.int .i64 ((ws KK).burning + y k)) ∧ W.cell? ⟨gt, 3, none⟩ = some (.int .i64 (ws KK).fired) ∧ W.cell? ⟨gt, 4, none⟩ = some (.int .i64 (ws KK).laid) ∧ W.cell? ⟨gt, 5, none⟩ = some (.int .i64 (ws KK).broken) ∧ W.cell? ⟨gt, 6, none⟩ = some (.int .i64 (ws KK).missing)) (fun W => W.cell? ⟨lb, loff + k * 2, none⟩ = some (.int .i64 (KK : Int)) ∧ W.cell? ⟨lb, loff + k * 2 + 1, none⟩ = some (.int .i64 (y k)) ∧ W.cell? ⟨w.heap.size, 1, none⟩ = some (.slice (some ⟨sb, soff, none⟩) n sc) ∧ W.cell? ⟨sb, soff + KK, none⟩ = some (.int .i64 (sp KK)))) (by kernel_rfl) ?_
                      generalize wi.drew = wj at HT3 HD3 ⊢
                      have HA24 : Hid ((wj.cell? ⟨g7, 0, none⟩ = some (.bool false) ∧ wj.cell? ⟨g7, 1, none⟩ = some (.slice (some ⟨sb, soff, none⟩) n sc) ∧ wj.cell? ⟨g7, 2, none⟩ = some (.int .i64 room) ∧ wj.cell? ⟨g7, 3, none⟩ = some (.slice (some ⟨gw, 0, none⟩) n cw) ∧ wj.cell? ⟨g7, 4, none⟩ = some (.slice BA 0 bc)) ∧ wj.cell? ⟨gt, 0, none⟩ = some (.int .i64 (ws KK).wet) ∧ wj.cell? ⟨gt, 1, none⟩ = some (.int .i64 ((ws KK).dry - y k)) ∧ wj.cell? ⟨gt, 2, none⟩ = some (.int .i64 ((ws KK).burning + y k)) ∧ wj.cell? ⟨gt, 3, none⟩ = some (.int .i64 (ws KK).fired) ∧ wj.cell? ⟨gt, 4, none⟩ = some (.int .i64 (ws KK).laid) ∧ wj.cell? ⟨gt, 5, none⟩ = some (.int .i64 (ws KK).broken) ∧ wj.cell? ⟨gt, 6, none⟩ = some (.int .i64 (ws KK).missing)) := hide (by
                        obtain ⟨-, a1, a2, a3, a4, a5, -⟩ := bx5' HD3.out.b7
                        obtain ⟨-, c1, c2, c3, c4, c5, c6, c7⟩ := bx7 HT3.out
                        exact ⟨⟨a1, a2, a3, a4, a5⟩, c1, c2, c3, c4, c5, c6, c7⟩)
                      refine wpAnyK_take 0 (v := ?_) (by first | exact hF | exact wideFn) (And.intro HA24.out (HSB24.out _ HD3.out.toFB)) rfl (by kernel_rfl) (by kernel_rfl) (by kernel_rfl) (by kernel_rfl) rfl ?_ (by first | exact fun _ _ _ h => h | exact fun _ _ _ h => hQ2 _ _ _ _ _ h) ?_
                      rotate_left
                      · intro W hSW
                        replace hSW : (((W.cell? ⟨g7, 0, none⟩ = some (.bool false) ∧ W.cell? ⟨g7, 1, none⟩ = some (.slice (some ⟨sb, soff, none⟩) n sc) ∧ W.cell? ⟨g7, 2, none⟩ = some (.int .i64 room) ∧ W.cell? ⟨g7, 3, none⟩ = some (.slice (some ⟨gw, 0, none⟩) n cw) ∧ W.cell? ⟨g7, 4, none⟩ = some (.slice BA 0 bc)) ∧ W.cell? ⟨gt, 0, none⟩ = some (.int .i64 (ws KK).wet) ∧ W.cell? ⟨gt, 1, none⟩ = some (.int .i64 ((ws KK).dry - y k)) ∧ W.cell? ⟨gt, 2, none⟩ = some (.int .i64 ((ws KK).burning + y k)) ∧ W.cell? ⟨gt, 3, none⟩ = some (.int .i64 (ws KK).fired) ∧ W.cell? ⟨gt, 4, none⟩ = some (.int .i64 (ws KK).laid) ∧ W.cell? ⟨gt, 5, none⟩ = some (.int .i64 (ws KK).broken) ∧ W.cell? ⟨gt, 6, none⟩ = some (.int .i64 (ws KK).missing)) ∧ W.cell? ⟨lb, loff + k * 2, none⟩ = some (.int .i64 (KK : Int)) ∧ W.cell? ⟨lb, loff + k * 2 + 1, none⟩ = some (.int .i64 (y k)) ∧ W.cell? ⟨w.heap.size, 1, none⟩ = some (.slice (some ⟨sb, soff, none⟩) n sc) ∧ W.cell? ⟨sb, soff + KK, none⟩ = some (.int .i64 (sp KK))) := hSW
                        simp only [List.getElem_toArray, List.getElem_cons_zero, List.getElem_cons_succ]
                        (try dsimp only at hSW)
                        go_simp
                        with_reducible rfl
                      (try simp only [List.getElem_toArray, List.getElem_cons_zero, List.getElem_cons_succ, Act.put, List.setIfInBounds_toArray, List.set_cons_zero, List.set_cons_succ])
                      refine wpAnyK_take 1 (v := ?_) (by first | exact hF | exact wideFn) (HSB24.out _ HD3.out.toFB) rfl (by kernel_rfl) (by kernel_rfl) (by kernel_rfl) (by kernel_rfl) rfl ?_ (by first | exact fun _ _ _ h => h | exact fun _ _ _ h => hQ2 _ _ _ _ _ h) ?_
                      rotate_left
                      · intro W hSW
                        replace hSW : (W.cell? ⟨lb, loff + k * 2, none⟩ = some (.int .i64 (KK : Int)) ∧ W.cell? ⟨lb, loff + k * 2 + 1, none⟩ = some (.int .i64 (y k)) ∧ W.cell? ⟨w.heap.size, 1, none⟩ = some (.slice (some ⟨sb, soff, none⟩) n sc) ∧ W.cell? ⟨sb, soff + KK, none⟩ = some (.int .i64 (sp KK))) := hSW
                        simp only [List.getElem_toArray, List.getElem_cons_zero, List.getElem_cons_succ]
                        (try dsimp only at hSW)
                        go_simp
                        with_reducible rfl
                      (try simp only [List.getElem_toArray, List.getElem_cons_zero, List.getElem_cons_succ, Act.put, List.setIfInBounds_toArray, List.set_cons_zero, List.set_cons_succ])
                      refine wpAnyK_take 2 (v := ?_) (by first | exact hF | exact wideFn) (HSB24.out _ HD3.out.toFB) rfl (by kernel_rfl) (by kernel_rfl) (by kernel_rfl) (by kernel_rfl) rfl ?_ (by first | exact fun _ _ _ h => h | exact fun _ _ _ h => hQ2 _ _ _ _ _ h) ?_
                      rotate_left
                      · intro W hSW
                        replace hSW : (W.cell? ⟨lb, loff + k * 2, none⟩ = some (.int .i64 (KK : Int)) ∧ W.cell? ⟨lb, loff + k * 2 + 1, none⟩ = some (.int .i64 (y k)) ∧ W.cell? ⟨w.heap.size, 1, none⟩ = some (.slice (some ⟨sb, soff, none⟩) n sc) ∧ W.cell? ⟨sb, soff + KK, none⟩ = some (.int .i64 (sp KK))) := hSW
                        simp only [List.getElem_toArray, List.getElem_cons_zero, List.getElem_cons_succ]
                        (try dsimp only at hSW)
                        go_simp
                        with_reducible rfl
                      (try simp only [List.getElem_toArray, List.getElem_cons_zero, List.getElem_cons_succ, Act.put, List.setIfInBounds_toArray, List.set_cons_zero, List.set_cons_succ])
                      refine wpAnyK_take 3 (v := ?_) (by first | exact hF | exact wideFn) (HSB24.out _ HD3.out.toFB) rfl (by kernel_rfl) (by kernel_rfl) (by kernel_rfl) (by kernel_rfl) rfl ?_ (by first | exact fun _ _ _ h => h | exact fun _ _ _ h => hQ2 _ _ _ _ _ h) ?_
                      rotate_left
                      · intro W hSW
                        replace hSW : (W.cell? ⟨lb, loff + k * 2, none⟩ = some (.int .i64 (KK : Int)) ∧ W.cell? ⟨lb, loff + k * 2 + 1, none⟩ = some (.int .i64 (y k)) ∧ W.cell? ⟨w.heap.size, 1, none⟩ = some (.slice (some ⟨sb, soff, none⟩) n sc) ∧ W.cell? ⟨sb, soff + KK, none⟩ = some (.int .i64 (sp KK))) := hSW
                        simp only [List.getElem_toArray, List.getElem_cons_zero, List.getElem_cons_succ]
                        (try dsimp only at hSW)
                        go_simp
                        with_reducible rfl
                      (try simp only [List.getElem_toArray, List.getElem_cons_zero, List.getElem_cons_succ, Act.put, List.setIfInBounds_toArray, List.set_cons_zero, List.set_cons_succ])
                      refine wpAnyK_take 4 (v := ?_) (by first | exact hF | exact wideFn) (HSB24.out _ HD3.out.toFB) rfl (by kernel_rfl) (by kernel_rfl) (by kernel_rfl) (by kernel_rfl) rfl ?_ (by first | exact fun _ _ _ h => h | exact fun _ _ _ h => hQ2 _ _ _ _ _ h) ?_
                      rotate_left
                      · intro W hSW
                        replace hSW : (W.cell? ⟨lb, loff + k * 2, none⟩ = some (.int .i64 (KK : Int)) ∧ W.cell? ⟨lb, loff + k * 2 + 1, none⟩ = some (.int .i64 (y k)) ∧ W.cell? ⟨w.heap.size, 1, none⟩ = some (.slice (some ⟨sb, soff, none⟩) n sc) ∧ W.cell? ⟨sb, soff + KK, none⟩ = some (.int .i64 (sp KK))) := hSW
                        simp only [List.getElem_toArray, List.getElem_cons_zero, List.getElem_cons_succ]
                        (try dsimp only at hSW)
                        go_simp
                        with_reducible rfl
                      (try simp only [List.getElem_toArray, List.getElem_cons_zero, List.getElem_cons_succ, Act.put, List.setIfInBounds_toArray, List.set_cons_zero, List.set_cons_succ])
                      refine wpAnyK_take 5 (v := ?_) (by first | exact hF | exact wideFn) (HSB24.out _ HD3.out.toFB) rfl (by kernel_rfl) (by kernel_rfl) (by kernel_rfl) (by kernel_rfl) rfl ?_ (by first | exact fun _ _ _ h => h | exact fun _ _ _ h => hQ2 _ _ _ _ _ h) ?_
                      rotate_left
                      · intro W hSW
                        replace hSW : (W.cell? ⟨lb, loff + k * 2, none⟩ = some (.int .i64 (KK : Int)) ∧ W.cell? ⟨lb, loff + k * 2 + 1, none⟩ = some (.int .i64 (y k)) ∧ W.cell? ⟨w.heap.size, 1, none⟩ = some (.slice (some ⟨sb, soff, none⟩) n sc) ∧ W.cell? ⟨sb, soff + KK, none⟩ = some (.int .i64 (sp KK))) := hSW
                        simp only [List.getElem_toArray, List.getElem_cons_zero, List.getElem_cons_succ]
                        (try dsimp only at hSW)
                        go_simp
                        with_reducible rfl
                      (try simp only [List.getElem_toArray, List.getElem_cons_zero, List.getElem_cons_succ, Act.put, List.setIfInBounds_toArray, List.set_cons_zero, List.set_cons_succ])
                      refine wpAnyK_take 6 (v := ?_) (by first | exact hF | exact wideFn) (And.intro HA24.out (HSB24.out _ HD3.out.toFB)) rfl (by kernel_rfl) (by kernel_rfl) (by kernel_rfl) (by kernel_rfl) rfl ?_ (by first | exact fun _ _ _ h => h | exact fun _ _ _ h => hQ2 _ _ _ _ _ h) ?_
                      rotate_left
                      · intro W hSW
                        replace hSW : (((W.cell? ⟨g7, 0, none⟩ = some (.bool false) ∧ W.cell? ⟨g7, 1, none⟩ = some (.slice (some ⟨sb, soff, none⟩) n sc) ∧ W.cell? ⟨g7, 2, none⟩ = some (.int .i64 room) ∧ W.cell? ⟨g7, 3, none⟩ = some (.slice (some ⟨gw, 0, none⟩) n cw) ∧ W.cell? ⟨g7, 4, none⟩ = some (.slice BA 0 bc)) ∧ W.cell? ⟨gt, 0, none⟩ = some (.int .i64 (ws KK).wet) ∧ W.cell? ⟨gt, 1, none⟩ = some (.int .i64 ((ws KK).dry - y k)) ∧ W.cell? ⟨gt, 2, none⟩ = some (.int .i64 ((ws KK).burning + y k)) ∧ W.cell? ⟨gt, 3, none⟩ = some (.int .i64 (ws KK).fired) ∧ W.cell? ⟨gt, 4, none⟩ = some (.int .i64 (ws KK).laid) ∧ W.cell? ⟨gt, 5, none⟩ = some (.int .i64 (ws KK).broken) ∧ W.cell? ⟨gt, 6, none⟩ = some (.int .i64 (ws KK).missing)) ∧ W.cell? ⟨lb, loff + k * 2, none⟩ = some (.int .i64 (KK : Int)) ∧ W.cell? ⟨lb, loff + k * 2 + 1, none⟩ = some (.int .i64 (y k)) ∧ W.cell? ⟨w.heap.size, 1, none⟩ = some (.slice (some ⟨sb, soff, none⟩) n sc) ∧ W.cell? ⟨sb, soff + KK, none⟩ = some (.int .i64 (sp KK))) := hSW
                        simp only [List.getElem_toArray, List.getElem_cons_zero, List.getElem_cons_succ]
                        (try dsimp only at hSW)
                        go_simp
                        with_reducible rfl
                      (try simp only [List.getElem_toArray, List.getElem_cons_zero, List.getElem_cons_succ, Act.put, List.setIfInBounds_toArray, List.set_cons_zero, List.set_cons_succ])
                      refine wpAnyK_take 8 (v := ?_) (by first | exact hF | exact wideFn) (HSB24.out _ HD3.out.toFB) rfl (by kernel_rfl) (by kernel_rfl) (by kernel_rfl) (by kernel_rfl) rfl ?_ (by first | exact fun _ _ _ h => h | exact fun _ _ _ h => hQ2 _ _ _ _ _ h) ?_
                      rotate_left
                      · intro W hSW
                        replace hSW : (W.cell? ⟨lb, loff + k * 2, none⟩ = some (.int .i64 (KK : Int)) ∧ W.cell? ⟨lb, loff + k * 2 + 1, none⟩ = some (.int .i64 (y k)) ∧ W.cell? ⟨w.heap.size, 1, none⟩ = some (.slice (some ⟨sb, soff, none⟩) n sc) ∧ W.cell? ⟨sb, soff + KK, none⟩ = some (.int .i64 (sp KK))) := hSW
                        simp only [List.getElem_toArray, List.getElem_cons_zero, List.getElem_cons_succ]
                        (try dsimp only at hSW)
                        go_simp
                        with_reducible rfl
                      (try simp only [List.getElem_toArray, List.getElem_cons_zero, List.getElem_cons_succ, Act.put, List.setIfInBounds_toArray, List.set_cons_zero, List.set_cons_succ])
                      refine wpAnyK_take 9 (v := ?_) (by first | exact hF | exact wideFn) (HSB24.out _ HD3.out.toFB) rfl (by kernel_rfl) (by kernel_rfl) (by kernel_rfl) (by kernel_rfl) rfl ?_ (by first | exact fun _ _ _ h => h | exact fun _ _ _ h => hQ2 _ _ _ _ _ h) ?_
                      rotate_left
                      · intro W hSW
                        replace hSW : (W.cell? ⟨lb, loff + k * 2, none⟩ = some (.int .i64 (KK : Int)) ∧ W.cell? ⟨lb, loff + k * 2 + 1, none⟩ = some (.int .i64 (y k)) ∧ W.cell? ⟨w.heap.size, 1, none⟩ = some (.slice (some ⟨sb, soff, none⟩) n sc) ∧ W.cell? ⟨sb, soff + KK, none⟩ = some (.int .i64 (sp KK))) := hSW
                        simp only [List.getElem_toArray, List.getElem_cons_zero, List.getElem_cons_succ]
                        (try dsimp only at hSW)
                        go_simp
                        with_reducible rfl
                      (try simp only [List.getElem_toArray, List.getElem_cons_zero, List.getElem_cons_succ, Act.put, List.setIfInBounds_toArray, List.set_cons_zero, List.set_cons_succ])
                      refine wpAnyK_take 10 (v := ?_) (by first | exact hF | exact wideFn) (HSB24.out _ HD3.out.toFB) rfl (by kernel_rfl) (by kernel_rfl) (by kernel_rfl) (by kernel_rfl) rfl ?_ (by first | exact fun _ _ _ h => h | exact fun _ _ _ h => hQ2 _ _ _ _ _ h) ?_
                      rotate_left
                      · intro W hSW
                        replace hSW : (W.cell? ⟨lb, loff + k * 2, none⟩ = some (.int .i64 (KK : Int)) ∧ W.cell? ⟨lb, loff + k * 2 + 1, none⟩ = some (.int .i64 (y k)) ∧ W.cell? ⟨w.heap.size, 1, none⟩ = some (.slice (some ⟨sb, soff, none⟩) n sc) ∧ W.cell? ⟨sb, soff + KK, none⟩ = some (.int .i64 (sp KK))) := hSW
                        simp only [List.getElem_toArray, List.getElem_cons_zero, List.getElem_cons_succ]
                        (try dsimp only at hSW)
                        go_simp
                        with_reducible rfl
                      (try simp only [List.getElem_toArray, List.getElem_cons_zero, List.getElem_cons_succ, Act.put, List.setIfInBounds_toArray, List.set_cons_zero, List.set_cons_succ])
                      refine wpAnyK_take 11 (v := ?_) (by first | exact hF | exact wideFn) (HSB24.out _ HD3.out.toFB) rfl (by kernel_rfl) (by kernel_rfl) (by kernel_rfl) (by kernel_rfl) rfl ?_ (by first | exact fun _ _ _ h => h | exact fun _ _ _ h => hQ2 _ _ _ _ _ h) ?_
                      rotate_left
                      · intro W hSW
                        replace hSW : (W.cell? ⟨lb, loff + k * 2, none⟩ = some (.int .i64 (KK : Int)) ∧ W.cell? ⟨lb, loff + k * 2 + 1, none⟩ = some (.int .i64 (y k)) ∧ W.cell? ⟨w.heap.size, 1, none⟩ = some (.slice (some ⟨sb, soff, none⟩) n sc) ∧ W.cell? ⟨sb, soff + KK, none⟩ = some (.int .i64 (sp KK))) := hSW
                        simp only [List.getElem_toArray, List.getElem_cons_zero, List.getElem_cons_succ]
                        (try dsimp only at hSW)
                        go_simp
                        with_reducible rfl
                      (try simp only [List.getElem_toArray, List.getElem_cons_zero, List.getElem_cons_succ, Act.put, List.setIfInBounds_toArray, List.set_cons_zero, List.set_cons_succ])
                      refine wpAnyK_take 12 (v := ?_) (by first | exact hF | exact wideFn) (HSB24.out _ HD3.out.toFB) rfl (by kernel_rfl) (by kernel_rfl) (by kernel_rfl) (by kernel_rfl) rfl ?_ (by first | exact fun _ _ _ h => h | exact fun _ _ _ h => hQ2 _ _ _ _ _ h) ?_
                      rotate_left
                      · intro W hSW
                        replace hSW : (W.cell? ⟨lb, loff + k * 2, none⟩ = some (.int .i64 (KK : Int)) ∧ W.cell? ⟨lb, loff + k * 2 + 1, none⟩ = some (.int .i64 (y k)) ∧ W.cell? ⟨w.heap.size, 1, none⟩ = some (.slice (some ⟨sb, soff, none⟩) n sc) ∧ W.cell? ⟨sb, soff + KK, none⟩ = some (.int .i64 (sp KK))) := hSW
                        simp only [List.getElem_toArray, List.getElem_cons_zero, List.getElem_cons_succ]
                        (try dsimp only at hSW)
                        go_simp
                        with_reducible rfl
                      (try simp only [List.getElem_toArray, List.getElem_cons_zero, List.getElem_cons_succ, Act.put, List.setIfInBounds_toArray, List.set_cons_zero, List.set_cons_succ])
                      refine wpAnyK_take 13 (v := ?_) (by first | exact hF | exact wideFn) (HSB24.out _ HD3.out.toFB) rfl (by kernel_rfl) (by kernel_rfl) (by kernel_rfl) (by kernel_rfl) rfl ?_ (by first | exact fun _ _ _ h => h | exact fun _ _ _ h => hQ2 _ _ _ _ _ h) ?_
                      rotate_left
                      · intro W hSW
                        replace hSW : (W.cell? ⟨lb, loff + k * 2, none⟩ = some (.int .i64 (KK : Int)) ∧ W.cell? ⟨lb, loff + k * 2 + 1, none⟩ = some (.int .i64 (y k)) ∧ W.cell? ⟨w.heap.size, 1, none⟩ = some (.slice (some ⟨sb, soff, none⟩) n sc) ∧ W.cell? ⟨sb, soff + KK, none⟩ = some (.int .i64 (sp KK))) := hSW
                        simp only [List.getElem_toArray, List.getElem_cons_zero, List.getElem_cons_succ]
                        (try dsimp only at hSW)
                        go_simp
                        with_reducible rfl
                      (try simp only [List.getElem_toArray, List.getElem_cons_zero, List.getElem_cons_succ, Act.put, List.setIfInBounds_toArray, List.set_cons_zero, List.set_cons_succ])
                      refine wpAnyK_take 14 (v := ?_) (by first | exact hF | exact wideFn) (HSB24.out _ HD3.out.toFB) rfl (by kernel_rfl) (by kernel_rfl) (by kernel_rfl) (by kernel_rfl) rfl ?_ (by first | exact fun _ _ _ h => h | exact fun _ _ _ h => hQ2 _ _ _ _ _ h) ?_
                      rotate_left
                      · intro W hSW
                        replace hSW : (W.cell? ⟨lb, loff + k * 2, none⟩ = some (.int .i64 (KK : Int)) ∧ W.cell? ⟨lb, loff + k * 2 + 1, none⟩ = some (.int .i64 (y k)) ∧ W.cell? ⟨w.heap.size, 1, none⟩ = some (.slice (some ⟨sb, soff, none⟩) n sc) ∧ W.cell? ⟨sb, soff + KK, none⟩ = some (.int .i64 (sp KK))) := hSW
                        simp only [List.getElem_toArray, List.getElem_cons_zero, List.getElem_cons_succ]
                        (try dsimp only at hSW)
                        go_simp
                        with_reducible rfl
                      (try simp only [List.getElem_toArray, List.getElem_cons_zero, List.getElem_cons_succ, Act.put, List.setIfInBounds_toArray, List.set_cons_zero, List.set_cons_succ])
                      refine wpAnyK_take 15 (v := ?_) (by first | exact hF | exact wideFn) (HSB24.out _ HD3.out.toFB) rfl (by kernel_rfl) (by kernel_rfl) (by kernel_rfl) (by kernel_rfl) rfl ?_ (by first | exact fun _ _ _ h => h | exact fun _ _ _ h => hQ2 _ _ _ _ _ h) ?_
                      rotate_left
                      · intro W hSW
                        replace hSW : (W.cell? ⟨lb, loff + k * 2, none⟩ = some (.int .i64 (KK : Int)) ∧ W.cell? ⟨lb, loff + k * 2 + 1, none⟩ = some (.int .i64 (y k)) ∧ W.cell? ⟨w.heap.size, 1, none⟩ = some (.slice (some ⟨sb, soff, none⟩) n sc) ∧ W.cell? ⟨sb, soff + KK, none⟩ = some (.int .i64 (sp KK))) := hSW
                        simp only [List.getElem_toArray, List.getElem_cons_zero, List.getElem_cons_succ]
                        (try dsimp only at hSW)
                        go_simp
                        with_reducible rfl
                      (try simp only [List.getElem_toArray, List.getElem_cons_zero, List.getElem_cons_succ, Act.put, List.setIfInBounds_toArray, List.set_cons_zero, List.set_cons_succ])
                      refine wpAnyK_take 16 (v := ?_) (by first | exact hF | exact wideFn) (HSB24.out _ HD3.out.toFB) rfl (by kernel_rfl) (by kernel_rfl) (by kernel_rfl) (by kernel_rfl) rfl ?_ (by first | exact fun _ _ _ h => h | exact fun _ _ _ h => hQ2 _ _ _ _ _ h) ?_
                      rotate_left
                      · intro W hSW
                        replace hSW : (W.cell? ⟨lb, loff + k * 2, none⟩ = some (.int .i64 (KK : Int)) ∧ W.cell? ⟨lb, loff + k * 2 + 1, none⟩ = some (.int .i64 (y k)) ∧ W.cell? ⟨w.heap.size, 1, none⟩ = some (.slice (some ⟨sb, soff, none⟩) n sc) ∧ W.cell? ⟨sb, soff + KK, none⟩ = some (.int .i64 (sp KK))) := hSW
                        simp only [List.getElem_toArray, List.getElem_cons_zero, List.getElem_cons_succ]
                        (try dsimp only at hSW)
                        go_simp
                        with_reducible rfl
                      (try simp only [List.getElem_toArray, List.getElem_cons_zero, List.getElem_cons_succ, Act.put, List.setIfInBounds_toArray, List.set_cons_zero, List.set_cons_succ])
                      refine wpAnyK_take 17 (v := ?_) (by first | exact hF | exact wideFn) (HSB24.out _ HD3.out.toFB) rfl (by kernel_rfl) (by kernel_rfl) (by kernel_rfl) (by kernel_rfl) rfl ?_ (by first | exact fun _ _ _ h => h | exact fun _ _ _ h => hQ2 _ _ _ _ _ h) ?_
                      rotate_left
                      · intro W hSW
                        replace hSW : (W.cell? ⟨lb, loff + k * 2, none⟩ = some (.int .i64 (KK : Int)) ∧ W.cell? ⟨lb, loff + k * 2 + 1, none⟩ = some (.int .i64 (y k)) ∧ W.cell? ⟨w.heap.size, 1, none⟩ = some (.slice (some ⟨sb, soff, none⟩) n sc) ∧ W.cell? ⟨sb, soff + KK, none⟩ = some (.int .i64 (sp KK))) := hSW
                        simp only [List.getElem_toArray, List.getElem_cons_zero, List.getElem_cons_succ]
                        (try dsimp only at hSW)
                        go_simp
                        with_reducible rfl
                      (try simp only [List.getElem_toArray, List.getElem_cons_zero, List.getElem_cons_succ, Act.put, List.setIfInBounds_toArray, List.set_cons_zero, List.set_cons_succ])
                      refine wpAnyK_take 18 (v := ?_) (by first | exact hF | exact wideFn) (HSB24.out _ HD3.out.toFB) rfl (by kernel_rfl) (by kernel_rfl) (by kernel_rfl) (by kernel_rfl) rfl ?_ (by first | exact fun _ _ _ h => h | exact fun _ _ _ h => hQ2 _ _ _ _ _ h) ?_
                      rotate_left
                      · intro W hSW
                        replace hSW : (W.cell? ⟨lb, loff + k * 2, none⟩ = some (.int .i64 (KK : Int)) ∧ W.cell? ⟨lb, loff + k * 2 + 1, none⟩ = some (.int .i64 (y k)) ∧ W.cell? ⟨w.heap.size, 1, none⟩ = some (.slice (some ⟨sb, soff, none⟩) n sc) ∧ W.cell? ⟨sb, soff + KK, none⟩ = some (.int .i64 (sp KK))) := hSW
                        simp only [List.getElem_toArray, List.getElem_cons_zero, List.getElem_cons_succ]
                        (try dsimp only at hSW)
                        go_simp
                        with_reducible rfl
                      (try simp only [List.getElem_toArray, List.getElem_cons_zero, List.getElem_cons_succ, Act.put, List.setIfInBounds_toArray, List.set_cons_zero, List.set_cons_succ])
                      refine wpAnyK_take 19 (v := ?_) (by first | exact hF | exact wideFn) (HSB24.out _ HD3.out.toFB) rfl (by kernel_rfl) (by kernel_rfl) (by kernel_rfl) (by kernel_rfl) rfl ?_ (by first | exact fun _ _ _ h => h | exact fun _ _ _ h => hQ2 _ _ _ _ _ h) ?_
                      rotate_left
                      · intro W hSW
                        replace hSW : (W.cell? ⟨lb, loff + k * 2, none⟩ = some (.int .i64 (KK : Int)) ∧ W.cell? ⟨lb, loff + k * 2 + 1, none⟩ = some (.int .i64 (y k)) ∧ W.cell? ⟨w.heap.size, 1, none⟩ = some (.slice (some ⟨sb, soff, none⟩) n sc) ∧ W.cell? ⟨sb, soff + KK, none⟩ = some (.int .i64 (sp KK))) := hSW
                        simp only [List.getElem_toArray, List.getElem_cons_zero, List.getElem_cons_succ]
                        (try dsimp only at hSW)
                        go_simp
                        with_reducible rfl
                      (try simp only [List.getElem_toArray, List.getElem_cons_zero, List.getElem_cons_succ, Act.put, List.setIfInBounds_toArray, List.set_cons_zero, List.set_cons_succ])
                      refine wpAnyK_take 20 (v := ?_) (by first | exact hF | exact wideFn) (HSB24.out _ HD3.out.toFB) rfl (by kernel_rfl) (by kernel_rfl) (by kernel_rfl) (by kernel_rfl) rfl ?_ (by first | exact fun _ _ _ h => h | exact fun _ _ _ h => hQ2 _ _ _ _ _ h) ?_
                      rotate_left
                      · intro W hSW
                        replace hSW : (W.cell? ⟨lb, loff + k * 2, none⟩ = some (.int .i64 (KK : Int)) ∧ W.cell? ⟨lb, loff + k * 2 + 1, none⟩ = some (.int .i64 (y k)) ∧ W.cell? ⟨w.heap.size, 1, none⟩ = some (.slice (some ⟨sb, soff, none⟩) n sc) ∧ W.cell? ⟨sb, soff + KK, none⟩ = some (.int .i64 (sp KK))) := hSW
                        simp only [List.getElem_toArray, List.getElem_cons_zero, List.getElem_cons_succ]
                        (try dsimp only at hSW)
                        go_simp
                        with_reducible rfl
                      (try simp only [List.getElem_toArray, List.getElem_cons_zero, List.getElem_cons_succ, Act.put, List.setIfInBounds_toArray, List.set_cons_zero, List.set_cons_succ])
                      refine wpAnyK_take 21 (v := ?_) (by first | exact hF | exact wideFn) (HSB24.out _ HD3.out.toFB) rfl (by kernel_rfl) (by kernel_rfl) (by kernel_rfl) (by kernel_rfl) rfl ?_ (by first | exact fun _ _ _ h => h | exact fun _ _ _ h => hQ2 _ _ _ _ _ h) ?_
                      rotate_left
                      · intro W hSW
                        replace hSW : (W.cell? ⟨lb, loff + k * 2, none⟩ = some (.int .i64 (KK : Int)) ∧ W.cell? ⟨lb, loff + k * 2 + 1, none⟩ = some (.int .i64 (y k)) ∧ W.cell? ⟨w.heap.size, 1, none⟩ = some (.slice (some ⟨sb, soff, none⟩) n sc) ∧ W.cell? ⟨sb, soff + KK, none⟩ = some (.int .i64 (sp KK))) := hSW
                        simp only [List.getElem_toArray, List.getElem_cons_zero, List.getElem_cons_succ]
                        (try dsimp only at hSW)
                        go_simp
                        with_reducible rfl
                      (try simp only [List.getElem_toArray, List.getElem_cons_zero, List.getElem_cons_succ, Act.put, List.setIfInBounds_toArray, List.set_cons_zero, List.set_cons_succ])
                      refine wpAnyK_take 22 (v := ?_) (by first | exact hF | exact wideFn) (HSB24.out _ HD3.out.toFB) rfl (by kernel_rfl) (by kernel_rfl) (by kernel_rfl) (by kernel_rfl) rfl ?_ (by first | exact fun _ _ _ h => h | exact fun _ _ _ h => hQ2 _ _ _ _ _ h) ?_
                      rotate_left
                      · intro W hSW
                        replace hSW : (W.cell? ⟨lb, loff + k * 2, none⟩ = some (.int .i64 (KK : Int)) ∧ W.cell? ⟨lb, loff + k * 2 + 1, none⟩ = some (.int .i64 (y k)) ∧ W.cell? ⟨w.heap.size, 1, none⟩ = some (.slice (some ⟨sb, soff, none⟩) n sc) ∧ W.cell? ⟨sb, soff + KK, none⟩ = some (.int .i64 (sp KK))) := hSW
                        simp only [List.getElem_toArray, List.getElem_cons_zero, List.getElem_cons_succ]
                        (try dsimp only at hSW)
                        go_simp
                        with_reducible rfl
                      (try simp only [List.getElem_toArray, List.getElem_cons_zero, List.getElem_cons_succ, Act.put, List.setIfInBounds_toArray, List.set_cons_zero, List.set_cons_succ])
                      refine wpAnyK_take 23 (v := ?_) (by first | exact hF | exact wideFn) (HSB24.out _ HD3.out.toFB) rfl (by kernel_rfl) (by kernel_rfl) (by kernel_rfl) (by kernel_rfl) rfl ?_ (by first | exact fun _ _ _ h => h | exact fun _ _ _ h => hQ2 _ _ _ _ _ h) ?_
                      rotate_left
                      · intro W hSW
                        replace hSW : (W.cell? ⟨lb, loff + k * 2, none⟩ = some (.int .i64 (KK : Int)) ∧ W.cell? ⟨lb, loff + k * 2 + 1, none⟩ = some (.int .i64 (y k)) ∧ W.cell? ⟨w.heap.size, 1, none⟩ = some (.slice (some ⟨sb, soff, none⟩) n sc) ∧ W.cell? ⟨sb, soff + KK, none⟩ = some (.int .i64 (sp KK))) := hSW
                        simp only [List.getElem_toArray, List.getElem_cons_zero, List.getElem_cons_succ]
                        (try dsimp only at hSW)
                        go_simp
                        with_reducible rfl
                      (try simp only [List.getElem_toArray, List.getElem_cons_zero, List.getElem_cons_succ, Act.put, List.setIfInBounds_toArray, List.set_cons_zero, List.set_cons_succ])
                      refine wpAnyK_take 24 (v := ?_) (by first | exact hF | exact wideFn) (HSB24.out _ HD3.out.toFB) rfl (by kernel_rfl) (by kernel_rfl) (by kernel_rfl) (by kernel_rfl) rfl ?_ (by first | exact fun _ _ _ h => h | exact fun _ _ _ h => hQ2 _ _ _ _ _ h) ?_
                      rotate_left
                      · intro W hSW
                        replace hSW : (W.cell? ⟨lb, loff + k * 2, none⟩ = some (.int .i64 (KK : Int)) ∧ W.cell? ⟨lb, loff + k * 2 + 1, none⟩ = some (.int .i64 (y k)) ∧ W.cell? ⟨w.heap.size, 1, none⟩ = some (.slice (some ⟨sb, soff, none⟩) n sc) ∧ W.cell? ⟨sb, soff + KK, none⟩ = some (.int .i64 (sp KK))) := hSW
                        simp only [List.getElem_toArray, List.getElem_cons_zero, List.getElem_cons_succ]
                        (try dsimp only at hSW)
                        go_simp
                        with_reducible rfl
                      (try simp only [List.getElem_toArray, List.getElem_cons_zero, List.getElem_cons_succ, Act.put, List.setIfInBounds_toArray, List.set_cons_zero, List.set_cons_succ])
                      clear hw1 hw2 HA24
                      have HWI : Hid (∀ W, WL W gw n (fireW ws x y k) → Calls Try.prog 79 #[.agg #[.bool false, .slice (some ⟨sb, soff, none⟩) n sc, .int .i64 room, .slice (some ⟨gw, 0, none⟩) n cw, .slice BA 0 bc], .int .i64 KK, .agg #[.int .i64 (ws KK).wet, .int .i64 ((ws KK).dry - y k), .int .i64 ((ws KK).burning + y k), .int .i64 (ws KK).fired, .int .i64 (ws KK).laid, .int .i64 (ws KK).broken, .int .i64 (ws KK).missing]] W (WithPost (some ⟨sb, soff, none⟩) n sc room BA 0 bc (upd (fireW ws x y k) KK (((ws KK).put 1 ((ws KK).dry - y k)).put 2 ((ws KK).burning + y k))) W)) := hide (fun W h => refWith_any (some ⟨sb, soff, none⟩) n sc room gw cw BA 0 bc KK (((ws KK).put 1 ((ws KK).dry - y k)).put 2 ((ws KK).burning + y k)) (fireW ws x y k) W h hn hKn)
                      refine wpAnyK_one 7 rfl (by kernel_rfl) (fun K hK => ?_)
                      simp only [List.getElem_toArray, List.getElem_cons_zero, List.getElem_cons_succ]
                      go_simp
                      refine ⟨trivial, rfl, ?_⟩
                      (with_reducible refine (callsIn_wide.2 (HWI.out _ HD3.out.wl7)).mono ?_)
                      rintro e w5 ⟨g5, c5, rfl, hw5, hg5, hb5⟩
                      have HD4 := hide (HD3.out.ext hb5); have HW4 := hide hw5; have hg5w : w.heap.size ≤ g5 := (by have := HD3.out.below.size; omega); clear hw5 hg5 hb5; unfold bkV
                      dsimp only
                      refine hK.out _ _ (.inr (pickS_need (by kernel_rfl) (HSB24.out _ HD4.out.toFB))) ?_
                      clear hK K
                      (try simp only [List.getElem_toArray, List.getElem_cons_zero, List.getElem_cons_succ, Act.put, List.setIfInBounds_toArray, List.set_cons_zero, List.set_cons_succ])
                      have HD5 := hide (HD4.out.turn (cw2 := c5) HW4.out hg5w)
                      obtain ⟨c0, c1, c2, c3, c4, c5', f1, f2, f3, f4, f5⟩ := bx5' HD4.out.b7
                      unfold set5 at HD5
                      refine wpAnyK_one 25 rfl (by kernel_rfl) (fun K hK => ?_)
                      simp only [List.getElem_toArray, List.getElem_cons_zero, List.getElem_cons_succ]
                      go_simp
                      refine hK.out _ _ (.inr (pickS_need (by kernel_rfl) (HSB24.out _ HD5.out.toFB))) ?_
                      clear hK K
                      (try simp only [List.getElem_toArray, List.getElem_cons_zero, List.getElem_cons_succ, Act.put, List.setIfInBounds_toArray, List.set_cons_zero, List.set_cons_succ])
                      refine wpAnyK_take 26 (v := ?_) (by first | exact hF | exact wideFn) (HSB24.out _ HD5.out.toFB) rfl (by kernel_rfl) (by kernel_rfl) (by kernel_rfl) (by kernel_rfl) rfl ?_ (by first | exact fun _ _ _ h => h | exact fun _ _ _ h => hQ2 _ _ _ _ _ h) ?_
                      rotate_left
                      · intro W hSW
                        replace hSW : (W.cell? ⟨lb, loff + k * 2, none⟩ = some (.int .i64 (KK : Int)) ∧ W.cell? ⟨lb, loff + k * 2 + 1, none⟩ = some (.int .i64 (y k)) ∧ W.cell? ⟨w.heap.size, 1, none⟩ = some (.slice (some ⟨sb, soff, none⟩) n sc) ∧ W.cell? ⟨sb, soff + KK, none⟩ = some (.int .i64 (sp KK))) := hSW
                        simp only [List.getElem_toArray, List.getElem_cons_zero, List.getElem_cons_succ]
                        (try dsimp only at hSW)
                        go_simp
                        with_reducible rfl
                      (try simp only [List.getElem_toArray, List.getElem_cons_zero, List.getElem_cons_succ, Act.put, List.setIfInBounds_toArray, List.set_cons_zero, List.set_cons_succ])
                      refine wpAnyK_done (by kernel_rfl) ?_
                      clear c0 c1 c2 c3 c4 c5' f1 f2 f3 f4 f5 HD4 HD3 HW4 HWI HT3
                      generalize (((((w5.setCell ⟨g7, 0, none⟩ (.bool false)).setCell ⟨g7, 1, none⟩ (.slice (some ⟨sb, soff, none⟩) n sc)).setCell ⟨g7, 2, none⟩ (.int .i64 room)).setCell ⟨g7, 3, none⟩ (.slice (some ⟨g5, 0, none⟩) n c5)).setCell ⟨g7, 4, none⟩ (.slice BA 0 bc)) = wk at HD5 ⊢
                      have HFW : Hid (upd (fireW ws x y k) KK (((ws KK).put 1 ((ws KK).dry - y k)).put 2 ((ws KK).burning + y k)) = fireW ws x y (k + 1)) := hide (by
                        have hf : fireW ws x y k KK = ws KK := fireW_far (fun j hj e => by
                          have h1 : anyTo (fun j => decide (x j = x k)) k = true := (anyTo_iff _ _).2 ⟨j, hj, by
                            obtain ⟨K', e1, -⟩ := batE_ok (batsE_all HBT.out j hj)
                            rw [e1] at e
                            have e2 : K' = KK := e
                            simp [e1, e2, HKE.out]⟩
                          rw [HNO.out] at h1; cases h1)
                        show _ = upd (fireW ws x y k) (x k).toNat _
                        rw [show (x k).toNat = KK by rw [HKE.out]; rfl, hf])
                      have HRT : Hid (room - spaceTo sp x y k - y k * sp KK = room - spaceTo sp x y (k + 1)) := hide (by
                        show _ = room - (spaceTo sp x y k + y k * sp (x k).toNat)
                        rw [show (x k).toNat = KK by rw [HKE.out]; rfl]; omega)
                      rw [HFW.out] at HD5
                      clear j1 j2
                      go_wp2_with fail
                      go_roundw
                      case rel => exact ⟨k + 1, g5, c5, by go_num, by omega, by rw [HRT.out], hide (batsE_zero HBT.out HB0.out), HD5, hide (fun _ => hg5w)⟩
                      case measure => simp [intOf]; omega
          · obtain rfl : lm = k := by omega
            have hgw := HG.out hl1
            have i2 : ¬ (lm : Int) < (lm : Int) := by omega
            by_cases hroom : room - spaceTo sp x y lm < 0
            · have HEE := hide (show fireEE n 0 lm room sp ws x y = 8 by
                unfold fireEE
                rw [if_neg (by omega), if_neg (by omega), if_neg (by omega), if_neg (by have := HBT.out; omega), if_pos (by omega)])
              have HD := hide HC.out.toFB
              clear HC HC0
              obtain ⟨a0, a1, a2, a3, a4, a5, f1, f2, f3, f4, f5⟩ := bx5' HD.out.b2
              obtain ⟨c0, c1, c2, c3, c4, c5, h1, h2, h3, h4, h5⟩ := bx5' HD.out.b4
              go_wp2_with fail
              refine bodyPost_ret (v := .tuple #[bkV SA n sc room (some ⟨g, 0, none⟩) wc BA 0 bc, .int .i64 8]) (by simp [results, Try.results76, go_sem, bkV, *]) rfl (.inl ⟨by rw [HEE.out]; decide, by rw [HEE.out], set5_B HD.out.below (by omega) _ _ _ _ _⟩)
            · have HEE := hide (show fireEE n 0 lm room sp ws x y = 0 by
                unfold fireEE
                rw [if_neg (by omega), if_neg (by omega), if_neg (by omega), if_neg (by have := HBT.out; omega), if_neg (by omega)])
              clear HC0
              go_upto_region 27 with fail
              obtain ⟨a0, a1, a2, a3, a4, a5, f1, f2, f3, f4, f5⟩ := bx5' HC.out.b7
              obtain ⟨i0, hi, hz0, hz1, hz2⟩ := info_parts info_batch
              have HI := hide (show _ ∧ _ ∧ _ ∧ _ from ⟨hi, hz0, hz1, hz2⟩)
              clear hi hz0 hz1 hz2
              go_upto_region 28 with (at_builtin; refine wpList_append_any _ rfl (.tmp 134) (.tmp 135) 79 rfl wr.heap.size 107 i0 _ 2 16 Try.underlying79 HI.out.1 HI.out.2.1 HI.out.2.2.1 HI.out.2.2.2 rfl (by omega) (.slice (some ⟨wr.heap.size, 0, none⟩) 0 0) 0 [] rfl (own_empty wr 107 2) _ lA lm lc (cellsOf 2 lm fun k i => if i = 0 then .int .i64 (x k) else .int .i64 (y k)) rfl (ER.reads (HL.out.below (HC.out.below.alloc HC.out.below.size _) (Nat.le_refl _)) (by omega)) (pairs_one _ _ _) (by unfold maxLen; omega) (by omega) (by simp) ?_; intro v5 w5 hx5 hg5 ho5; rw [Nat.zero_add, List.nil_append] at hx5; obtain ⟨A5, c5, rfl⟩ := own_shape hx5; obtain ⟨h5, rfl, hh5, -, -⟩ := pi_own hx5 hl1; have hb5 : Below wr.heap.size wr w5 := ((Below.refl _ _).alloc (Nat.le_refl _) _).grown hg5 (by simp) (fun j hj => Nat.le_of_eq (by simpa [Value.ownBlock] using hj)); have HD := hide (HC.out.ext hb5); have HO5 := hide hx5; clear hx5 hg5 ho5 hb5 a0 a1 a2 a3 a4 a5 f1 f2 f3 f4 f5; obtain ⟨a0, a1, a2, a3, a4, a5, f1, f2, f3, f4, f5⟩ := bx5' HD.out.b7)
              have K7 := hide (HD.out.b7.set_ 4 (.slice (some ⟨h5, 0, none⟩) lm c5))
              have hg4 := grownBy_setS (World.grownBy.refl w5 (some g7)) 4 (.slice (some ⟨h5, 0, none⟩) lm c5)
              have HE := hide (HD.out.toFB.set hg4 HD.out.lo7)
              have hb7w : HD.out.b7.lt = HD.out.b7.lt := rfl
              have hne7 : gw ≠ g7 := by
                obtain ⟨cs, hcs⟩ := HD.out.wl7.1
                exact hcs.ne_ HD.out.b7 (by decide)
              have HWE := hide (HD.out.wl7.grown hg4 (fun e => hne7 (by injection e)))
              have HOE := hide (World.ownsRow.kept HO5.out hg4 (own_blk_ne' HO5.out HD.out.b7 (by decide)))
              have hh6 : w.heap.size ≤ h5 := by have := HC.out.below.size; omega
              have lo7 := HD.out.lo7
              clear a0 a1 a2 a3 a4 a5 f1 f2 f3 f4 f5 hb7w hg4 HC HD HO5
              generalize w5.setCell ⟨g7, 4, none⟩ (.slice (some ⟨h5, 0, none⟩) lm c5) = w6 at K7 HE HWE HOE ⊢
              replace K7 : Hid (Blk w6 g7 87 #[.bool false, .slice SA n sc, .int .i64 room, .slice (some ⟨gw, 0, none⟩) n cw, .slice (some ⟨h5, 0, none⟩) lm c5]) := K7
              obtain ⟨a0, a1, a2, a3, a4, a5, f1, f2, f3, f4, f5⟩ := bx5' K7.out
              obtain ⟨c0, c1, c2, c3, c4, c5', q1, q2, q3, q4, q5⟩ := bx5' HE.out.b4
              have hg8 := grown_set5 w6 (w.heap.size + 1) (.bool false) (.slice SA n sc) (.int .i64 room) (.slice (some ⟨gw, 0, none⟩) n cw) (.slice (some ⟨h5, 0, none⟩) lm c5)
              have hn4 : gw ≠ w.heap.size + 1 := by
                obtain ⟨cs, hcs⟩ := HWE.out.1
                exact hcs.ne_ HE.out.b4 (by decide)
              have HW9 := hide (HWE.out.grown hg8 (fun e => hn4 (by injection e)))
              have HO9 := hide (World.ownsRow.kept HOE.out hg8 (own_blk_ne' HOE.out HE.out.b4 (by decide)))
              clear hg8
              go_wp2_with fail
              refine bodyPost_ret (v := .tuple #[bkV SA n sc room (some ⟨gw, 0, none⟩) cw (some ⟨h5, 0, none⟩) lm c5, .int .i64 0]) (by simp [results, Try.results76, go_sem, bkV, *]) rfl (.inr ⟨HEE.out, gw, cw, h5, c5, rfl, HW9.out, ?_, hgw, hh6, set5_B HE.out.below (by omega) _ _ _ _ _⟩)
              obtain ⟨h5', e5, -, -, hpi⟩ := pi_own HO9.out hl1
              injection e5 with e5
              injection e5 with e5
              subst e5
              exact hpi
end Go.Proofs.Ytlhekifmkkgjlaa
