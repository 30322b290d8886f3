/- Contracts of chapter 8 on the book: Draw. -/
import Derived.Test.YtlhekifmkkgjlaaMd
set_option linter.unusedSimpArgs false
set_option linter.unusedVariables false
set_option linter.unnecessarySimpa false
namespace Go.Proofs.Ytlhekifmkkgjlaa
open Go Go.RowKit Go.Shelf
set_option maxHeartbeats 2000000
set_option maxRecDepth 100000
/-- a number of lost bricks that cannot be -/
def lostB (ws : Nat → Wa) (od z : Nat → Int) (i : Nat) : Bool := ! decide (0 ≤ z i ∧ z i ≤ (ws (od i).toNat).burning)
def drawn (x : Wa) (l : Int) : Wa := (((x.put 2 (x.burning - l)).put 5 (x.broken + l)).put 2 (x.burning - l - (x.burning - l))).put 3 (x.fired + (x.burning - l))
/-- the stores behind k kinds that are drawn -/
def drawW (ws : Nat → Wa) (od z : Nat → Int) : Nat → Nat → Wa
  | 0 => ws
  | k + 1 => upd (drawW ws od z k) (od k).toNat (drawn (drawW ws od z k (od k).toNat) (z k))
theorem drawW_far {ws : Nat → Wa} {od z : Nat → Int} {K : Nat} : ∀ {k : Nat}, (∀ j, j < k → (od j).toNat ≠ K) → drawW ws od z k K = ws K
  | 0, _ => rfl
  | k + 1, h => by
    show upd (drawW ws od z k) (od k).toNat _ K = ws K
    rw [upd_ne _ _ (fun e => h k (by omega) e.symm)]
    exact drawW_far fun j hj => h j (by omega)
theorem draw_cold (b S n m c : Nat) (A : Option Addr) (room : Int) (spv : Value) (w : World) (hbk : Blk w b 148 #[spv, .int .i64 room, .slice (some ⟨S, 0, none⟩) n n, .slice none 0 0]) :
    Calls Try.prog 41 #[.pointer (some ⟨b, 0, none⟩), .slice A m c] w fun e w' => e = .returned (.int .i64 9) ∧ Below w.heap.size w w' := by
  obtain ⟨g1, c0, c1, c2, c3⟩ := bx4 hbk
  clear hbk
  go_enter Try.func41, Try.ntmps41
  go_wp2_with fail
  go_ret
  exact ⟨rfl, Below.refl _ _⟩
theorem draw_form (b S n m c q oc : Nat) (A G : Option Addr) (room : Int) (spv : Value) (w : World) (hbk : Blk w b 148 #[spv, .int .i64 room, .slice (some ⟨S, 0, none⟩) n n, .slice G q oc]) (hq : 1 ≤ q) (hq2 : q ≤ 20) (hm : m ≤ maxLen) (hne : m ≠ q) :
    Calls Try.prog 41 #[.pointer (some ⟨b, 0, none⟩), .slice A m c] w fun e w' => e = .returned (.int .i64 4) ∧ Below w.heap.size w w' := by
  unfold maxLen at hm
  have h1 : ¬ (m : Int) = (q : Int) := by omega
  have h2 : ¬ (q : Int) = 0 := by omega
  obtain ⟨g1, c0, c1, c2, c3⟩ := bx4 hbk
  clear hbk
  go_enter Try.func41, Try.ntmps41
  go_wp2_with fail
  go_ret
  exact ⟨rfl, Below.refl _ _⟩
def DrawPost (n q : Nat) (room : Int) (ws : Nat → Wa) (od z : Nat → Int) (b S : Nat) (spv : Value) (w : World) (e : Ending) (w' : World) : Prop :=
  (anyTo (lostB ws od z) q = true ∧ e = .returned (.int .i64 2) ∧ Below w.heap.size w w') ∨ (anyTo (lostB ws od z) q = false ∧ e = .returned (.int .i64 0) ∧ Blk w' b 148 #[spv, .int .i64 room, .slice (some ⟨S, 0, none⟩) n n, .slice none 0 0] ∧ Stores w' S n (drawW ws od z q) ∧ Apart w w' S b)
theorem draw_any (b S n q oc c ab aoff gb goff : Nat) (room : Int) (spv : Value) (ws : Nat → Wa) (od z : Nat → Int) (w : World) (hbk : Blk w b 148 #[spv, .int .i64 room, .slice (some ⟨S, 0, none⟩) n n, .slice (some ⟨gb, goff, none⟩) q oc]) (hn1 : 1 ≤ n) (hn : n ≤ 20) (hS : Stores w S n ws) (ho : ∀ k, k < n → OkW (ws k)) (hq1 : 1 ≤ q) (hq : q ≤ 20) (hG : IR w w.heap.size (some ⟨gb, goff, none⟩) q od) (hA : IR w w.heap.size (some ⟨ab, aoff, none⟩) q z)
    (hod : ∀ i, i < q → 0 ≤ od i ∧ od i ≤ (n : Int) - 1) (hdis : ∀ i j, i < j → j < q → od i ≠ od j) (habS : ab ≠ S) (habb : ab ≠ b) (hgbS : gb ≠ S) (hgbb : gb ≠ b) :
    Calls Try.prog 41 #[.pointer (some ⟨b, 0, none⟩), .slice (some ⟨ab, aoff, none⟩) q c] w (DrawPost n q room ws od z b S spv w) := by
  have HBK := hide hbk
  have HST := hide hS
  have HOK := hide ho
  have HG := hide hG
  have HA := hide hA
  have HOD := hide hod
  have HDIS := hide hdis
  clear hbk hS ho hG hA hod hdis
  have m2 : ¬ (q : Int) = 0 := by omega
  have m2b : ((q : Int) == 0) = false := by simp; omega
  go_enter Try.func41, Try.ntmps41
  obtain ⟨g1, c0, c1, c2, c3⟩ := bx4 HBK.out
  go_wp2_with fail
  clear g1 c0 c1 c2 c3
  (try rw [m2b])
  go_loopw [34] (fun i wr => ∃ k : Nat, i = .int .i64 k ∧ k ≤ q ∧ Hid (anyTo (lostB ws od z) k = false) ∧ Hid (Below w.heap.size w wr)) (fun i _ => q - (intOf i).toNat)
  case atStart => exact ⟨0, rfl, by omega, hide rfl, hide (Below.refl _ w)⟩
  case round =>
    obtain ⟨k, rfl, hk, HE0, HB⟩ := hrel
    by_cases hlt : k < q
    · obtain ⟨gb', goff', he, hgb', hc1⟩ := IR.at_ (HG.out.below HB.out (Nat.le_refl _)) hlt
      injection he with he
      injection he with h1 h2
      subst h1 h2
      obtain ⟨ab', aoff', he, hab', hc2⟩ := IR.at_ (HA.out.below HB.out (Nat.le_refl _)) hlt
      injection he with he
      injection he with h1 h2
      subst h1 h2
      obtain ⟨o1, o2⟩ := HOD.out k hlt
      obtain ⟨KK, hKK⟩ : ∃ KK : Nat, od k = KK := ⟨(od k).toNat, by omega⟩
      have hKn : KK < n := by omega
      rw [hKK] at hc1
      have zw := HB.out.size
      have hz : gb < wr.heap.size := by omega
      have i1 : (0 : Int) ≤ (k : Int) := by omega
      have i2 : (k : Int) < (q : Int) := by omega
      have i3 : (0 : Int) ≤ (KK : Int) := by omega
      have i4 : (KK : Int) < (n : Int) := by omega
      go_wp2_with fail
      have H10 : Hid (∀ W, Below w.heap.size w W → (W.cell? ⟨b, 2, none⟩ = some (.slice (some ⟨S, 0, none⟩) n n) ∧ W.cell? ⟨S, KK * 7 + 2, none⟩ = some (.int .i64 (ws KK).burning)) ∧ W.cell? ⟨ab, aoff + k, none⟩ = some (.int .i64 (z k))) := hide (fun W h => by
        obtain ⟨-, -, -, x2, -⟩ := bx4 (HBK.out.ext h)
        obtain ⟨ab', aoff', he, hab', hc2⟩ := IR.at_ (HA.out.below h (Nat.le_refl _)) hlt
        injection he with he
        injection he with h1 h2
        subst h1 h2
        exact ⟨⟨x2, (h.cell (p := ⟨S, KK * 7 + 2, none⟩) HST.out.lt).trans (HST.out.2 KK hKn).2.2.2.2.1⟩, hc2⟩)
      have HWI := hide (within_any 0 (ws KK).burning (some ⟨wr.drew.heap.size, 0, none⟩) 1 1 (fun _ => z k) (wr.drew.alloc (.cells #[.int .i64 (z k)] 3)) (by decide) (by simpa using IR.one wr.drew (z k) 3))
      rw [wiB_one] at HWI
      clear hc1 hc2 hab' hgb' hz
      have Bd := hide HB.out.drew
      have Be := hide (Bd.out.alloc Bd.out.size (.cells #[.int .i64 (z k)] 3))
      refine wp_region_J (fun W : World => (W.cell? ⟨b, 2, none⟩ = some (.slice (some ⟨S, 0, none⟩) n n) ∧ W.cell? ⟨S, KK * 7 + 2, none⟩ = some (.int .i64 (ws KK).burning)) ∧ W.cell? ⟨ab, aoff + k, none⟩ = some (.int .i64 (z k))) (by kernel_rfl) ?_
      refine wpAnyJ_take 0 (v := ?_) (by first | exact hF | exact wideFn) (H10.out _ Bd.out) rfl (by kernel_rfl) (by kernel_rfl) (by kernel_rfl) (by kernel_rfl) rfl ?_ (fun _ _ _ h => h) ?_
      rotate_left
      · intro W hSW
        simp only [List.getElem_toArray, List.getElem_cons_zero, List.getElem_cons_succ]
        (try dsimp only at hSW)
        go_simp
        with_reducible rfl
      (try simp only [List.getElem_toArray, List.getElem_cons_zero, List.getElem_cons_succ, Act.put, List.setIfInBounds_toArray, List.set_cons_zero, List.set_cons_succ])
      refine wpAnyJ_take 1 (v := ?_) (by first | exact hF | exact wideFn) (H10.out _ Bd.out) rfl (by kernel_rfl) (by kernel_rfl) (by kernel_rfl) (by kernel_rfl) rfl ?_ (fun _ _ _ h => h) ?_
      rotate_left
      · intro W hSW
        simp only [List.getElem_toArray, List.getElem_cons_zero, List.getElem_cons_succ]
        (try dsimp only at hSW)
        go_simp
        with_reducible rfl
      (try simp only [List.getElem_toArray, List.getElem_cons_zero, List.getElem_cons_succ, Act.put, List.setIfInBounds_toArray, List.set_cons_zero, List.set_cons_succ])
      refine wpAnyJ_take 2 (v := ?_) (by first | exact hF | exact wideFn) (H10.out _ Bd.out) rfl (by kernel_rfl) (by kernel_rfl) (by kernel_rfl) (by kernel_rfl) rfl ?_ (fun _ _ _ h => h) ?_
      rotate_left
      · intro W hSW
        simp only [List.getElem_toArray, List.getElem_cons_zero, List.getElem_cons_succ]
        (try dsimp only at hSW)
        go_simp
        with_reducible rfl
      (try simp only [List.getElem_toArray, List.getElem_cons_zero, List.getElem_cons_succ, Act.put, List.setIfInBounds_toArray, List.set_cons_zero, List.set_cons_succ])
      refine wpAnyJ_take 3 (v := ?_) (by first | exact hF | exact wideFn) (H10.out _ Bd.out) rfl (by kernel_rfl) (by kernel_rfl) (by kernel_rfl) (by kernel_rfl) rfl ?_ (fun _ _ _ h => h) ?_
      rotate_left
      · intro W hSW
        simp only [List.getElem_toArray, List.getElem_cons_zero, List.getElem_cons_succ]
        (try dsimp only at hSW)
        go_simp
        with_reducible rfl
      (try simp only [List.getElem_toArray, List.getElem_cons_zero, List.getElem_cons_succ, Act.put, List.setIfInBounds_toArray, List.set_cons_zero, List.set_cons_succ])
      refine wpAnyJ_take 4 (v := ?_) (by first | exact hF | exact wideFn) (H10.out _ Bd.out) rfl (by kernel_rfl) (by kernel_rfl) (by kernel_rfl) (by kernel_rfl) rfl ?_ (fun _ _ _ h => h) ?_
      rotate_left
      · intro W hSW
        simp only [List.getElem_toArray, List.getElem_cons_zero, List.getElem_cons_succ]
        (try dsimp only at hSW)
        go_simp
        with_reducible rfl
      (try simp only [List.getElem_toArray, List.getElem_cons_zero, List.getElem_cons_succ, Act.put, List.setIfInBounds_toArray, List.set_cons_zero, List.set_cons_succ])
      refine wpAnyJ_take 5 (v := ?_) (by first | exact hF | exact wideFn) (H10.out _ Bd.out) rfl (by kernel_rfl) (by kernel_rfl) (by kernel_rfl) (by kernel_rfl) rfl ?_ (fun _ _ _ h => h) ?_
      rotate_left
      · intro W hSW
        simp only [List.getElem_toArray, List.getElem_cons_zero, List.getElem_cons_succ]
        (try dsimp only at hSW)
        go_simp
        with_reducible rfl
      (try simp only [List.getElem_toArray, List.getElem_cons_zero, List.getElem_cons_succ, Act.put, List.setIfInBounds_toArray, List.set_cons_zero, List.set_cons_succ])
      refine wpAnyJ_take 6 (v := ?_) (by first | exact hF | exact wideFn) (H10.out _ Bd.out) rfl (by kernel_rfl) (by kernel_rfl) (by kernel_rfl) (by kernel_rfl) rfl ?_ (fun _ _ _ h => h) ?_
      rotate_left
      · intro W hSW
        simp only [List.getElem_toArray, List.getElem_cons_zero, List.getElem_cons_succ]
        (try dsimp only at hSW)
        go_simp
        with_reducible rfl
      (try simp only [List.getElem_toArray, List.getElem_cons_zero, List.getElem_cons_succ, Act.put, List.setIfInBounds_toArray, List.set_cons_zero, List.set_cons_succ])
      refine wpAnyJ_take 7 (v := ?_) (by first | exact hF | exact wideFn) (H10.out _ Bd.out) rfl (by kernel_rfl) (by kernel_rfl) (by kernel_rfl) (by kernel_rfl) rfl ?_ (fun _ _ _ h => h) ?_
      rotate_left
      · intro W hSW
        simp only [List.getElem_toArray, List.getElem_cons_zero, List.getElem_cons_succ]
        (try dsimp only at hSW)
        go_simp
        with_reducible rfl
      (try simp only [List.getElem_toArray, List.getElem_cons_zero, List.getElem_cons_succ, Act.put, List.setIfInBounds_toArray, List.set_cons_zero, List.set_cons_succ])
      refine wpAnyJ_take 8 (v := ?_) (by first | exact hF | exact wideFn) (H10.out _ Bd.out) rfl (by kernel_rfl) (by kernel_rfl) (by kernel_rfl) (by kernel_rfl) rfl ?_ (fun _ _ _ h => h) ?_
      rotate_left
      · intro W hSW
        simp only [List.getElem_toArray, List.getElem_cons_zero, List.getElem_cons_succ]
        (try dsimp only at hSW)
        go_simp
        with_reducible rfl
      (try simp only [List.getElem_toArray, List.getElem_cons_zero, List.getElem_cons_succ, Act.put, List.setIfInBounds_toArray, List.set_cons_zero, List.set_cons_succ])
      refine wpAnyJ_take 9 (v := ?_) (by first | exact hF | exact wideFn) (H10.out _ Bd.out) rfl (by kernel_rfl) (by kernel_rfl) (by kernel_rfl) (by kernel_rfl) rfl ?_ (fun _ _ _ h => h) ?_
      rotate_left
      · intro W hSW
        simp only [List.getElem_toArray, List.getElem_cons_zero, List.getElem_cons_succ]
        (try dsimp only at hSW)
        go_simp
        with_reducible rfl
      (try simp only [List.getElem_toArray, List.getElem_cons_zero, List.getElem_cons_succ, Act.put, List.setIfInBounds_toArray, List.set_cons_zero, List.set_cons_succ])
      refine wpAnyJ_take 10 (v := ?_) (by first | exact hF | exact wideFn) (H10.out _ Bd.out) rfl (by kernel_rfl) (by kernel_rfl) (by kernel_rfl) (by kernel_rfl) rfl ?_ (fun _ _ _ h => h) ?_
      rotate_left
      · intro W hSW
        simp only [List.getElem_toArray, List.getElem_cons_zero, List.getElem_cons_succ]
        (try dsimp only at hSW)
        go_simp
        with_reducible rfl
      (try simp only [List.getElem_toArray, List.getElem_cons_zero, List.getElem_cons_succ, Act.put, List.setIfInBounds_toArray, List.set_cons_zero, List.set_cons_succ])
      refine wpAnyJ_take 11 (v := ?_) (by first | exact hF | exact wideFn) (H10.out _ Bd.out) rfl (by kernel_rfl) (by kernel_rfl) (by kernel_rfl) (by kernel_rfl) rfl ?_ (fun _ _ _ h => h) ?_
      rotate_left
      · intro W hSW
        simp only [List.getElem_toArray, List.getElem_cons_zero, List.getElem_cons_succ]
        (try dsimp only at hSW)
        go_simp
        with_reducible rfl
      (try simp only [List.getElem_toArray, List.getElem_cons_zero, List.getElem_cons_succ, Act.put, List.setIfInBounds_toArray, List.set_cons_zero, List.set_cons_succ])
      refine wpAnyJ_take 12 (v := ?_) (by first | exact hF | exact wideFn) (H10.out _ Bd.out) rfl (by kernel_rfl) (by kernel_rfl) (by kernel_rfl) (by kernel_rfl) rfl ?_ (fun _ _ _ h => h) ?_
      rotate_left
      · intro W hSW
        simp only [List.getElem_toArray, List.getElem_cons_zero, List.getElem_cons_succ]
        (try dsimp only at hSW)
        go_simp
        with_reducible rfl
      (try simp only [List.getElem_toArray, List.getElem_cons_zero, List.getElem_cons_succ, Act.put, List.setIfInBounds_toArray, List.set_cons_zero, List.set_cons_succ])
      refine wpAnyJ_one 13 rfl (by kernel_rfl) (fun K hK => ?_)
      simp only [List.getElem_toArray, List.getElem_cons_zero, List.getElem_cons_succ]
      go_simp
      refine hK.out _ _ (fun _ => H10.out _ Be.out) ?_
      clear hK K
      (try simp only [List.getElem_toArray, List.getElem_cons_zero, List.getElem_cons_succ, Act.put, List.setIfInBounds_toArray, List.set_cons_zero, List.set_cons_succ])
      refine wpAnyJ_one 14 rfl (by kernel_rfl) (fun K hK => ?_)
      simp only [List.getElem_toArray, List.getElem_cons_zero, List.getElem_cons_succ]
      go_simp
      refine ⟨trivial, rfl, ?_⟩
      refine (callsIn_wide.2 HWI.out).mono ?_
      rintro e w2 ⟨rfl, hb2⟩
      have Bf := hide (Be.out.trans (hb2.mono Be.out.size))
      dsimp only
      refine hK.out _ _ (fun _ => H10.out _ Bf.out) ?_
      clear hK K
      (try simp only [List.getElem_toArray, List.getElem_cons_zero, List.getElem_cons_succ, Act.put, List.setIfInBounds_toArray, List.set_cons_zero, List.set_cons_succ])
      by_cases hz2 : 0 ≤ z k ∧ z k ≤ (ws KK).burning
      · rw [decide_eq_true hz2]
        refine wpAnyJ_take 15 (v := ?_) (by first | exact hF | exact wideFn) (H10.out _ Bf.out) rfl (by kernel_rfl) (by kernel_rfl) (by kernel_rfl) (by kernel_rfl) rfl ?_ (fun _ _ _ h => h) ?_
        rotate_left
        · intro W hSW
          simp only [List.getElem_toArray, List.getElem_cons_zero, List.getElem_cons_succ]
          (try dsimp only at hSW)
          go_simp
          with_reducible rfl
        (try simp only [List.getElem_toArray, List.getElem_cons_zero, List.getElem_cons_succ, Act.put, List.setIfInBounds_toArray, List.set_cons_zero, List.set_cons_succ])
        refine wpAnyJ_done (by kernel_rfl) ?_
        go_wp2_with fail
        go_roundw
        case rel =>
          refine ⟨k + 1, by go_num, by omega, hide ?_, Bf⟩
          show (anyTo (lostB ws od z) k || lostB ws od z k) = false
          rw [HE0.out]
          unfold lostB
          rw [hKK, Int.toNat_natCast, decide_eq_true hz2]
          rfl
        case measure => simp [intOf]; omega
      · rw [decide_eq_false hz2]
        refine wpAnyJ_take 15 (v := ?_) (by first | exact hF | exact wideFn) (H10.out _ Bf.out) rfl (by kernel_rfl) (by kernel_rfl) (by kernel_rfl) (by kernel_rfl) rfl ?_ (fun _ _ _ h => h) ?_
        rotate_left
        · intro W hSW
          simp only [List.getElem_toArray, List.getElem_cons_zero, List.getElem_cons_succ]
          (try dsimp only at hSW)
          go_simp
          with_reducible rfl
        (try simp only [List.getElem_toArray, List.getElem_cons_zero, List.getElem_cons_succ, Act.put, List.setIfInBounds_toArray, List.set_cons_zero, List.set_cons_succ])
        refine wpAnyJ_done (by kernel_rfl) ?_
        go_wp2_with fail
        go_ret
        refine .inl ⟨(anyTo_iff _ _).2 ⟨k, hlt, ?_⟩, rfl, Bf.out⟩
        unfold lostB
        rw [hKK, Int.toNat_natCast, decide_eq_false hz2]
        rfl
    · obtain rfl : k = q := by omega
      obtain ⟨g1, c0, c1, c2, c3⟩ := bx4 (HBK.out.ext HB.out)
      go_wp2_with fail
      clear g1 c0 c1 c2 c3
      obtain ⟨wo, rfl⟩ : ∃ wo : World, wo = wr := ⟨_, rfl⟩
      have AP := hide (Apart.of_below (S := S) (b := b) HB.out)
      have BK0 := hide (HBK.out.ext HB.out)
      have ST0 := hide (HST.out.below HB.out HST.out.lt)
      have HALL : Hid (∀ i, i < k → ∃ KK : Nat, od i = KK ∧ KK < n ∧ 0 ≤ z i ∧ z i ≤ (ws KK).burning) := hide (fun i hi => by
        obtain ⟨o1, o2⟩ := HOD.out i hi
        have h : lostB ws od z i = false := by
          cases hl : lostB ws od z i
          · rfl
          · have := (anyTo_iff (lostB ws od z) k).2 ⟨i, hi, hl⟩
            rw [HE0.out] at this; cases this
        unfold lostB at h
        have h2 := of_decide_eq_true (by simpa using h : decide (0 ≤ z i ∧ z i ≤ (ws (od i).toNat).burning) = true)
        exact ⟨(od i).toNat, by omega, by omega, h2⟩)
      go_loopw [61] (fun i wr => ∃ j : Nat, i = .int .i64 j ∧ j ≤ k ∧ Hid (Blk wr b 148 #[spv, .int .i64 room, .slice (some ⟨S, 0, none⟩) n n, .slice (some ⟨gb, goff, none⟩) k oc]) ∧ Hid (Stores wr S n (drawW ws od z j)) ∧ Hid (Apart w wr S b)) (fun i _ => k - (intOf i).toNat)
      case atStart => exact ⟨0, rfl, by omega, BK0, ST0, AP⟩
      case round =>
        obtain ⟨j, rfl, hjk, BK, ST, AQ⟩ := hrel
        clear BK0 ST0 AP
        by_cases hlt : j < k
        · obtain ⟨KK, hKK, hKn, y1, y2⟩ := HALL.out j hlt
          have zw : w.heap.size ≤ wr.heap.size := AQ.out.2.2.2.1
          have hSl : S < w.heap.size := HST.out.lt
          have hbl : b < w.heap.size := HBK.out.lt
          have hbS : b ≠ S := fun e => by
            obtain ⟨cs, hcs⟩ := HST.out.1
            exact HBK.out.ne_ hcs (by decide) e
          obtain ⟨gb', goff', he, hgb', hc1⟩ := IR.at_ HG.out hlt
          injection he with he
          injection he with h1 h2
          subst h1 h2
          obtain ⟨ab', aoff', he, hab', hc2⟩ := IR.at_ HA.out hlt
          injection he with he
          injection he with h1 h2
          subst h1 h2
          have d1 : wr.cell? ⟨gb, goff + j, none⟩ = some (.int .i64 (od j)) := (AQ.out.cell (p := ⟨gb, goff + j, none⟩) hgb' hgbS hgbb).trans hc1
          have d2 : wr.cell? ⟨ab, aoff + j, none⟩ = some (.int .i64 (z j)) := (AQ.out.cell (p := ⟨ab, aoff + j, none⟩) hab' habS habb).trans hc2
          rw [hKK] at d1
          have hzg : gb < wr.heap.size := by omega
          have hza : ab < wr.heap.size := by omega
          have i1 : (0 : Int) ≤ (j : Int) := by omega
          have i2 : (j : Int) < (k : Int) := by omega
          have i3 : (0 : Int) ≤ (KK : Int) := by omega
          have i4 : (KK : Int) < (n : Int) := by omega
          have hfw : drawW ws od z j KK = ws KK := drawW_far fun i hi => by
            obtain ⟨Ki, hKi, -⟩ := HALL.out i (by omega)
            have := HDIS.out i j hi hlt
            rw [hKi, hKK] at this
            rw [hKi]
            omega
          have HKW : KindW wr S (KK * 7) (ws KK) := by have := ST.out.2 KK hKn; rw [hfw] at this; exact this
          have HOW := HOK.out KK hKn
          obtain ⟨o1, o2, o3, o4, o5, o6, o7, o8, o9⟩ := HOW
          obtain ⟨g1, c0, c1, c2, c3⟩ := bx4 BK.out
          clear hc1 hc2
          go_wp2_with fail
          clear g1 c0 c1 c2 c3 d1 hzg
          -- the lost ones
          have HM := hide (move_ok (z j) (ws KK).burning (ws KK).broken S (KK * 7 + 2) (KK * 7 + 5) wr.drew HKW.2.2.2.2.1 HKW.2.2.2.2.2.2.2.1 HKW.2.1 (by omega) y2 (by omega) (by omega) o6 (by omega))
          refine wp_region_J (fun _ : World => True) (by kernel_rfl) ?_
          refine wpAnyJ_take 0 (v := ?_) (by first | exact hF | exact wideFn) trivial rfl (by kernel_rfl) (by kernel_rfl) (by kernel_rfl) (by kernel_rfl) rfl ?_ (fun _ _ _ h => h) ?_
          rotate_left
          · intro W hSW
            simp only [List.getElem_toArray, List.getElem_cons_zero, List.getElem_cons_succ]
            (try dsimp only at hSW)
            go_simp
            with_reducible rfl
          (try simp only [List.getElem_toArray, List.getElem_cons_zero, List.getElem_cons_succ, Act.put, List.setIfInBounds_toArray, List.set_cons_zero, List.set_cons_succ])
          refine wpAnyJ_take 1 (v := ?_) (by first | exact hF | exact wideFn) trivial rfl (by kernel_rfl) (by kernel_rfl) (by kernel_rfl) (by kernel_rfl) rfl ?_ (fun _ _ _ h => h) ?_
          rotate_left
          · intro W hSW
            simp only [List.getElem_toArray, List.getElem_cons_zero, List.getElem_cons_succ]
            (try dsimp only at hSW)
            go_simp
            with_reducible rfl
          (try simp only [List.getElem_toArray, List.getElem_cons_zero, List.getElem_cons_succ, Act.put, List.setIfInBounds_toArray, List.set_cons_zero, List.set_cons_succ])
          refine wpAnyJ_take 2 (v := ?_) (by first | exact hF | exact wideFn) trivial rfl (by kernel_rfl) (by kernel_rfl) (by kernel_rfl) (by kernel_rfl) rfl ?_ (fun _ _ _ h => h) ?_
          rotate_left
          · intro W hSW
            simp only [List.getElem_toArray, List.getElem_cons_zero, List.getElem_cons_succ]
            (try dsimp only at hSW)
            go_simp
            with_reducible rfl
          (try simp only [List.getElem_toArray, List.getElem_cons_zero, List.getElem_cons_succ, Act.put, List.setIfInBounds_toArray, List.set_cons_zero, List.set_cons_succ])
          refine wpAnyJ_take 4 (v := ?_) (by first | exact hF | exact wideFn) trivial rfl (by kernel_rfl) (by kernel_rfl) (by kernel_rfl) (by kernel_rfl) rfl ?_ (fun _ _ _ h => h) ?_
          rotate_left
          · intro W hSW
            simp only [List.getElem_toArray, List.getElem_cons_zero, List.getElem_cons_succ]
            (try dsimp only at hSW)
            go_simp
            with_reducible rfl
          (try simp only [List.getElem_toArray, List.getElem_cons_zero, List.getElem_cons_succ, Act.put, List.setIfInBounds_toArray, List.set_cons_zero, List.set_cons_succ])
          refine wpAnyJ_take 5 (v := ?_) (by first | exact hF | exact wideFn) trivial rfl (by kernel_rfl) (by kernel_rfl) (by kernel_rfl) (by kernel_rfl) rfl ?_ (fun _ _ _ h => h) ?_
          rotate_left
          · intro W hSW
            simp only [List.getElem_toArray, List.getElem_cons_zero, List.getElem_cons_succ]
            (try dsimp only at hSW)
            go_simp
            with_reducible rfl
          (try simp only [List.getElem_toArray, List.getElem_cons_zero, List.getElem_cons_succ, Act.put, List.setIfInBounds_toArray, List.set_cons_zero, List.set_cons_succ])
          refine wpAnyJ_take 6 (v := ?_) (by first | exact hF | exact wideFn) trivial rfl (by kernel_rfl) (by kernel_rfl) (by kernel_rfl) (by kernel_rfl) rfl ?_ (fun _ _ _ h => h) ?_
          rotate_left
          · intro W hSW
            simp only [List.getElem_toArray, List.getElem_cons_zero, List.getElem_cons_succ]
            (try dsimp only at hSW)
            go_simp
            with_reducible rfl
          (try simp only [List.getElem_toArray, List.getElem_cons_zero, List.getElem_cons_succ, Act.put, List.setIfInBounds_toArray, List.set_cons_zero, List.set_cons_succ])
          refine wpAnyJ_take 7 (v := ?_) (by first | exact hF | exact wideFn) trivial rfl (by kernel_rfl) (by kernel_rfl) (by kernel_rfl) (by kernel_rfl) rfl ?_ (fun _ _ _ h => h) ?_
          rotate_left
          · intro W hSW
            simp only [List.getElem_toArray, List.getElem_cons_zero, List.getElem_cons_succ]
            (try dsimp only at hSW)
            go_simp
            with_reducible rfl
          (try simp only [List.getElem_toArray, List.getElem_cons_zero, List.getElem_cons_succ, Act.put, List.setIfInBounds_toArray, List.set_cons_zero, List.set_cons_succ])
          refine wpAnyJ_take 8 (v := ?_) (by first | exact hF | exact wideFn) trivial rfl (by kernel_rfl) (by kernel_rfl) (by kernel_rfl) (by kernel_rfl) rfl ?_ (fun _ _ _ h => h) ?_
          rotate_left
          · intro W hSW
            simp only [List.getElem_toArray, List.getElem_cons_zero, List.getElem_cons_succ]
            (try dsimp only at hSW)
            go_simp
            with_reducible rfl
          (try simp only [List.getElem_toArray, List.getElem_cons_zero, List.getElem_cons_succ, Act.put, List.setIfInBounds_toArray, List.set_cons_zero, List.set_cons_succ])
          refine wpAnyJ_take 9 (v := ?_) (by first | exact hF | exact wideFn) trivial rfl (by kernel_rfl) (by kernel_rfl) (by kernel_rfl) (by kernel_rfl) rfl ?_ (fun _ _ _ h => h) ?_
          rotate_left
          · intro W hSW
            simp only [List.getElem_toArray, List.getElem_cons_zero, List.getElem_cons_succ]
            (try dsimp only at hSW)
            go_simp
            with_reducible rfl
          (try simp only [List.getElem_toArray, List.getElem_cons_zero, List.getElem_cons_succ, Act.put, List.setIfInBounds_toArray, List.set_cons_zero, List.set_cons_succ])
          refine wpAnyJ_take 10 (v := ?_) (by first | exact hF | exact wideFn) trivial rfl (by kernel_rfl) (by kernel_rfl) (by kernel_rfl) (by kernel_rfl) rfl ?_ (fun _ _ _ h => h) ?_
          rotate_left
          · intro W hSW
            simp only [List.getElem_toArray, List.getElem_cons_zero, List.getElem_cons_succ]
            (try dsimp only at hSW)
            go_simp
            with_reducible rfl
          (try simp only [List.getElem_toArray, List.getElem_cons_zero, List.getElem_cons_succ, Act.put, List.setIfInBounds_toArray, List.set_cons_zero, List.set_cons_succ])
          refine wpAnyJ_take 11 (v := ?_) (by first | exact hF | exact wideFn) trivial rfl (by kernel_rfl) (by kernel_rfl) (by kernel_rfl) (by kernel_rfl) rfl ?_ (fun _ _ _ h => h) ?_
          rotate_left
          · intro W hSW
            simp only [List.getElem_toArray, List.getElem_cons_zero, List.getElem_cons_succ]
            (try dsimp only at hSW)
            go_simp
            with_reducible rfl
          (try simp only [List.getElem_toArray, List.getElem_cons_zero, List.getElem_cons_succ, Act.put, List.setIfInBounds_toArray, List.set_cons_zero, List.set_cons_succ])
          refine wpAnyJ_one 3 rfl (by kernel_rfl) (fun K hK => ?_)
          simp only [List.getElem_toArray, List.getElem_cons_zero, List.getElem_cons_succ]
          go_simp
          refine hK.out _ _ (fun _ => trivial) ?_
          clear hK K
          (try simp only [List.getElem_toArray, List.getElem_cons_zero, List.getElem_cons_succ, Act.put, List.setIfInBounds_toArray, List.set_cons_zero, List.set_cons_succ])
          refine wpAnyJ_one 12 rfl (by kernel_rfl) (fun K hK => ?_)
          simp only [List.getElem_toArray, List.getElem_cons_zero, List.getElem_cons_succ]
          go_simp
          refine ⟨trivial, rfl, ?_⟩
          refine (callsIn_wide.2 HM.out).mono ?_
          rintro e w2 ⟨rfl, hb2⟩
          have hb2' : Below wr.heap.size (mv wr S (KK * 7 + 2) (KK * 7 + 5) ((ws KK).burning - z j) ((ws KK).broken + z j)) w2 := ⟨hb2.os, hb2.tape, hb2.output, hb2.size, hb2.block⟩
          dsimp only
          refine hK.out _ _ (fun _ => trivial) ?_
          clear hK K
          (try simp only [List.getElem_toArray, List.getElem_cons_zero, List.getElem_cons_succ, Act.put, List.setIfInBounds_toArray, List.set_cons_zero, List.set_cons_succ])
          refine wpAnyJ_done (by kernel_rfl) ?_
          clear hb2 HM d2 hza HKW
          obtain ⟨X1, hX1⟩ : ∃ X1 : Wa, X1 = ((ws KK).put 2 ((ws KK).burning - z j)).put 5 ((ws KK).broken + z j) := ⟨_, rfl⟩
          have hst2 : Stores (mv wr S (KK * 7 + 2) (KK * 7 + 5) ((ws KK).burning - z j) ((ws KK).broken + z j)) S n (upd (drawW ws od z j) KK X1) := by
            have := (ST.out.set (k := KK) (i := 2) hKn (by omega) ((ws KK).burning - z j)).set (k := KK) (i := 5) hKn (by omega) ((ws KK).broken + z j)
            rw [upd_upd, upd_same, hfw, ← hX1] at this
            exact this
          obtain ⟨hst3, g12⟩ := turn_of (w := wr) hst2 (grownBy_setS (grownBy_setS (World.grownBy.refl wr _) _ _) _ _) (size_mv _ _ _ _ _ _) hb2'
          have ST2 := hide hst3
          have HK2 := ST2.out.2 KK hKn
          rw [upd_same] at HK2
          have e2 : w2.cell? ⟨S, KK * 7 + 2, none⟩ = some (.int .i64 ((ws KK).burning - z j)) := by have := HK2.2.2.2.2.1; rw [hX1] at this; exact this
          have e3 : w2.cell? ⟨S, KK * 7 + 3, none⟩ = some (.int .i64 (ws KK).fired) := by have := HK2.2.2.2.2.2.1; rw [hX1] at this; exact this
          have HM := hide (move_ok ((ws KK).burning - z j) ((ws KK).burning - z j) (ws KK).fired S (KK * 7 + 2) (KK * 7 + 3) w2.drew e2 e3 HK2.2.1 (by omega) (Int.le_refl _) (by omega) (by omega) o4 (by omega))
          have BK2 := hide (BK.out.grown g12 (fun e => hbS (by injection e)))
          have AQ2 := hide (AQ.out.then g12 (fun i h => by injection h with h; exact .inl h.symm))
          have z2 : S < w2.heap.size := ST2.out.lt
          clear hb2' hst2 hst3 g12 HK2 e3 BK ST AQ
          go_wp2_with fail
          refine wp_region_J (fun _ : World => True) (by kernel_rfl) ?_
          refine wpAnyJ_take 0 (v := ?_) (by first | exact hF | exact wideFn) trivial rfl (by kernel_rfl) (by kernel_rfl) (by kernel_rfl) (by kernel_rfl) rfl ?_ (fun _ _ _ h => h) ?_
          rotate_left
          · intro W hSW
            simp only [List.getElem_toArray, List.getElem_cons_zero, List.getElem_cons_succ]
            (try dsimp only at hSW)
            go_simp
            with_reducible rfl
          (try simp only [List.getElem_toArray, List.getElem_cons_zero, List.getElem_cons_succ, Act.put, List.setIfInBounds_toArray, List.set_cons_zero, List.set_cons_succ])
          refine wpAnyJ_take 1 (v := ?_) (by first | exact hF | exact wideFn) trivial rfl (by kernel_rfl) (by kernel_rfl) (by kernel_rfl) (by kernel_rfl) rfl ?_ (fun _ _ _ h => h) ?_
          rotate_left
          · intro W hSW
            simp only [List.getElem_toArray, List.getElem_cons_zero, List.getElem_cons_succ]
            (try dsimp only at hSW)
            go_simp
            with_reducible rfl
          (try simp only [List.getElem_toArray, List.getElem_cons_zero, List.getElem_cons_succ, Act.put, List.setIfInBounds_toArray, List.set_cons_zero, List.set_cons_succ])
          refine wpAnyJ_take 2 (v := ?_) (by first | exact hF | exact wideFn) trivial rfl (by kernel_rfl) (by kernel_rfl) (by kernel_rfl) (by kernel_rfl) rfl ?_ (fun _ _ _ h => h) ?_
          rotate_left
          · intro W hSW
            simp only [List.getElem_toArray, List.getElem_cons_zero, List.getElem_cons_succ]
            (try dsimp only at hSW)
            go_simp
            with_reducible rfl
          (try simp only [List.getElem_toArray, List.getElem_cons_zero, List.getElem_cons_succ, Act.put, List.setIfInBounds_toArray, List.set_cons_zero, List.set_cons_succ])
          refine wpAnyJ_take 3 (v := ?_) (by first | exact hF | exact wideFn) trivial rfl (by kernel_rfl) (by kernel_rfl) (by kernel_rfl) (by kernel_rfl) rfl ?_ (fun _ _ _ h => h) ?_
          rotate_left
          · intro W hSW
            simp only [List.getElem_toArray, List.getElem_cons_zero, List.getElem_cons_succ]
            (try dsimp only at hSW)
            go_simp
            with_reducible rfl
          (try simp only [List.getElem_toArray, List.getElem_cons_zero, List.getElem_cons_succ, Act.put, List.setIfInBounds_toArray, List.set_cons_zero, List.set_cons_succ])
          refine wpAnyJ_take 5 (v := ?_) (by first | exact hF | exact wideFn) trivial rfl (by kernel_rfl) (by kernel_rfl) (by kernel_rfl) (by kernel_rfl) rfl ?_ (fun _ _ _ h => h) ?_
          rotate_left
          · intro W hSW
            simp only [List.getElem_toArray, List.getElem_cons_zero, List.getElem_cons_succ]
            (try dsimp only at hSW)
            go_simp
            with_reducible rfl
          (try simp only [List.getElem_toArray, List.getElem_cons_zero, List.getElem_cons_succ, Act.put, List.setIfInBounds_toArray, List.set_cons_zero, List.set_cons_succ])
          refine wpAnyJ_take 6 (v := ?_) (by first | exact hF | exact wideFn) trivial rfl (by kernel_rfl) (by kernel_rfl) (by kernel_rfl) (by kernel_rfl) rfl ?_ (fun _ _ _ h => h) ?_
          rotate_left
          · intro W hSW
            simp only [List.getElem_toArray, List.getElem_cons_zero, List.getElem_cons_succ]
            (try dsimp only at hSW)
            go_simp
            with_reducible rfl
          (try simp only [List.getElem_toArray, List.getElem_cons_zero, List.getElem_cons_succ, Act.put, List.setIfInBounds_toArray, List.set_cons_zero, List.set_cons_succ])
          refine wpAnyJ_take 7 (v := ?_) (by first | exact hF | exact wideFn) trivial rfl (by kernel_rfl) (by kernel_rfl) (by kernel_rfl) (by kernel_rfl) rfl ?_ (fun _ _ _ h => h) ?_
          rotate_left
          · intro W hSW
            simp only [List.getElem_toArray, List.getElem_cons_zero, List.getElem_cons_succ]
            (try dsimp only at hSW)
            go_simp
            with_reducible rfl
          (try simp only [List.getElem_toArray, List.getElem_cons_zero, List.getElem_cons_succ, Act.put, List.setIfInBounds_toArray, List.set_cons_zero, List.set_cons_succ])
          refine wpAnyJ_take 8 (v := ?_) (by first | exact hF | exact wideFn) trivial rfl (by kernel_rfl) (by kernel_rfl) (by kernel_rfl) (by kernel_rfl) rfl ?_ (fun _ _ _ h => h) ?_
          rotate_left
          · intro W hSW
            simp only [List.getElem_toArray, List.getElem_cons_zero, List.getElem_cons_succ]
            (try dsimp only at hSW)
            go_simp
            with_reducible rfl
          (try simp only [List.getElem_toArray, List.getElem_cons_zero, List.getElem_cons_succ, Act.put, List.setIfInBounds_toArray, List.set_cons_zero, List.set_cons_succ])
          refine wpAnyJ_take 9 (v := ?_) (by first | exact hF | exact wideFn) trivial rfl (by kernel_rfl) (by kernel_rfl) (by kernel_rfl) (by kernel_rfl) rfl ?_ (fun _ _ _ h => h) ?_
          rotate_left
          · intro W hSW
            simp only [List.getElem_toArray, List.getElem_cons_zero, List.getElem_cons_succ]
            (try dsimp only at hSW)
            go_simp
            with_reducible rfl
          (try simp only [List.getElem_toArray, List.getElem_cons_zero, List.getElem_cons_succ, Act.put, List.setIfInBounds_toArray, List.set_cons_zero, List.set_cons_succ])
          refine wpAnyJ_take 10 (v := ?_) (by first | exact hF | exact wideFn) trivial rfl (by kernel_rfl) (by kernel_rfl) (by kernel_rfl) (by kernel_rfl) rfl ?_ (fun _ _ _ h => h) ?_
          rotate_left
          · intro W hSW
            simp only [List.getElem_toArray, List.getElem_cons_zero, List.getElem_cons_succ]
            (try dsimp only at hSW)
            go_simp
            with_reducible rfl
          (try simp only [List.getElem_toArray, List.getElem_cons_zero, List.getElem_cons_succ, Act.put, List.setIfInBounds_toArray, List.set_cons_zero, List.set_cons_succ])
          refine wpAnyJ_take 11 (v := ?_) (by first | exact hF | exact wideFn) trivial rfl (by kernel_rfl) (by kernel_rfl) (by kernel_rfl) (by kernel_rfl) rfl ?_ (fun _ _ _ h => h) ?_
          rotate_left
          · intro W hSW
            simp only [List.getElem_toArray, List.getElem_cons_zero, List.getElem_cons_succ]
            (try dsimp only at hSW)
            go_simp
            with_reducible rfl
          (try simp only [List.getElem_toArray, List.getElem_cons_zero, List.getElem_cons_succ, Act.put, List.setIfInBounds_toArray, List.set_cons_zero, List.set_cons_succ])
          refine wpAnyJ_take 12 (v := ?_) (by first | exact hF | exact wideFn) trivial rfl (by kernel_rfl) (by kernel_rfl) (by kernel_rfl) (by kernel_rfl) rfl ?_ (fun _ _ _ h => h) ?_
          rotate_left
          · intro W hSW
            simp only [List.getElem_toArray, List.getElem_cons_zero, List.getElem_cons_succ]
            (try dsimp only at hSW)
            go_simp
            with_reducible rfl
          (try simp only [List.getElem_toArray, List.getElem_cons_zero, List.getElem_cons_succ, Act.put, List.setIfInBounds_toArray, List.set_cons_zero, List.set_cons_succ])
          refine wpAnyJ_one 4 rfl (by kernel_rfl) (fun K hK => ?_)
          simp only [List.getElem_toArray, List.getElem_cons_zero, List.getElem_cons_succ]
          go_simp
          refine hK.out _ _ (fun _ => trivial) ?_
          clear hK K
          (try simp only [List.getElem_toArray, List.getElem_cons_zero, List.getElem_cons_succ, Act.put, List.setIfInBounds_toArray, List.set_cons_zero, List.set_cons_succ])
          refine wpAnyJ_one 13 rfl (by kernel_rfl) (fun K hK => ?_)
          simp only [List.getElem_toArray, List.getElem_cons_zero, List.getElem_cons_succ]
          go_simp
          refine ⟨trivial, rfl, ?_⟩
          refine (callsIn_wide.2 HM.out).mono ?_
          rintro e w3 ⟨rfl, hb3⟩
          have hb3' : Below w2.heap.size (mv w2 S (KK * 7 + 2) (KK * 7 + 3) ((ws KK).burning - z j - ((ws KK).burning - z j)) ((ws KK).fired + ((ws KK).burning - z j))) w3 := ⟨hb3.os, hb3.tape, hb3.output, hb3.size, hb3.block⟩
          dsimp only
          refine hK.out _ _ (fun _ => trivial) ?_
          clear hK K
          (try simp only [List.getElem_toArray, List.getElem_cons_zero, List.getElem_cons_succ, Act.put, List.setIfInBounds_toArray, List.set_cons_zero, List.set_cons_succ])
          refine wpAnyJ_done (by kernel_rfl) ?_
          clear hb3 HM e2
          have hst4 : Stores (mv w2 S (KK * 7 + 2) (KK * 7 + 3) ((ws KK).burning - z j - ((ws KK).burning - z j)) ((ws KK).fired + ((ws KK).burning - z j))) S n (drawW ws od z (j + 1)) := by
            have := (ST2.out.set (k := KK) (i := 2) hKn (by omega) ((ws KK).burning - z j - ((ws KK).burning - z j))).set (k := KK) (i := 3) hKn (by omega) ((ws KK).fired + ((ws KK).burning - z j))
            rw [upd_upd, upd_same, upd_upd, upd_same, hX1] at this
            have e : drawW ws od z (j + 1) = upd (drawW ws od z j) KK (drawn (ws KK) (z j)) := by
              show upd (drawW ws od z j) (od j).toNat (drawn (drawW ws od z j (od j).toNat) (z j)) = _
              rw [hKK, Int.toNat_natCast, hfw]
            rw [e]
            exact this
          obtain ⟨hst5, g23⟩ := turn_of (w := w2) hst4 (grownBy_setS (grownBy_setS (World.grownBy.refl w2 _) _ _) _ _) (size_mv _ _ _ _ _ _) hb3'
          have ST3 := hide hst5
          have BK3 := hide (BK2.out.grown g23 (fun e => hbS (by injection e)))
          have AQ3 := hide (AQ2.out.then g23 (fun i h => by injection h with h; exact .inl h.symm))
          clear hb3' hst4 hst5 g23 ST2 BK2 AQ2
          go_wp2_with fail
          go_roundw
          case rel => exact ⟨j + 1, by go_num, by omega, BK3, ST3, AQ3⟩
          case measure => simp [intOf]; omega
        · obtain rfl : j = k := by omega
          obtain ⟨g1, c0, c1, c2, c3⟩ := bx4 BK.out
          have f3 := BK.out.frozen 3
          go_wp2_with fail
          go_ret
          have hbS : b ≠ S := fun e => by
            obtain ⟨cs, hcs⟩ := HST.out.1
            exact HBK.out.ne_ hcs (by decide) e
          have gst : wr.grownBy (wr.setCell ⟨b, 3, none⟩ (.slice none 0 0)) (some b) := grownBy_setS (World.grownBy.refl wr _) _ _
          exact .inr ⟨HE0.out, rfl, BK.out.set_ 3 (.slice none 0 0), Stores.grown ST.out gst (fun e => hbS (by injection e with e; exact e.symm)), AQ.out.then gst (fun i h => by injection h with h; exact .inr (.inl h.symm))⟩
end Go.Proofs.Ytlhekifmkkgjlaa
