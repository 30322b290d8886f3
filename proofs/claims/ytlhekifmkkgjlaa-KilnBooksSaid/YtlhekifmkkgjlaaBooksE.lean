/- Contracts of chapter 8 on the book: Draw. -/
import Derived.Test.YtlhekifmkkgjlaaBooksD
import Derived.Lib.MinMax
import Derived.Test.YtlhekifmkkgjlaaRows
import Derived.ProofKit
import Derived.OpenShut
import Derived.Carry
import Derived.ChangeSame
import Derived.Deep.SlicePairs
import Derived.ChangeSlices
import Derived.Deep.CutBlock
import Derived.Deep.DeepCutAuto
set_option linter.unusedSimpArgs false
set_option linter.unusedVariables false
set_option linter.unnecessarySimpa false
namespace Go.Proofs.Ytlhekifmkkgjlaa
open Go Go.RowKit Go.Shelf
set_option maxHeartbeats 2000000
set_option maxRecDepth 100000
/-- a number of lost bricks that cannot be -/
def lostB (ws : Nat → Wa) (od z : Nat → Int) (i : Nat) : Bool := ! decide (0 ≤ z i ∧ z i ≤ (ws (od i).toNat).burning)
def drawn (x : Wa) (l : Int) : Wa := (((x.put 2 (x.burning - l)).put 5 (x.broken + l)).put 2 (x.burning - l - (x.burning - l))).put 3 (x.fired + (x.burning - l))
/-- the stores behind k kinds that are drawn -/
def drawW (ws : Nat → Wa) (od z : Nat → Int) : Nat → Nat → Wa
  | 0 => ws
  | k + 1 => upd (drawW ws od z k) (od k).toNat (drawn (drawW ws od z k (od k).toNat) (z k))
theorem drawW_far {ws : Nat → Wa} {od z : Nat → Int} {K : Nat} : ∀ {k : Nat}, (∀ j, j < k → (od j).toNat ≠ K) → drawW ws od z k K = ws K
  | 0, _ => rfl
  | k + 1, h => by
    show upd (drawW ws od z k) (od k).toNat _ K = ws K
    rw [upd_ne _ _ (fun e => h k (by omega) e.symm)]
    exact drawW_far fun j hj => h j (by omega)
theorem draw_cold (b S n m c : Nat) (A : Option Addr) (room : Int) (spv : Value) (w : World) (hbk : Blk w b 148 #[spv, .int .i64 room, .slice (some ⟨S, 0, none⟩) n n, .slice none 0 0]) :
    Calls Try.prog 41 #[.pointer (some ⟨b, 0, none⟩), .slice A m c] w fun e w' => e = .returned (.int .i64 9) ∧ Below w.heap.size w w' := by
  obtain ⟨g1, c0, c1, c2, c3⟩ := bx4 hbk
  clear hbk
  go_enter Try.func41, Try.ntmps41
  go_wp2_with fail
  go_ret
  exact ⟨rfl, Below.refl _ _⟩
theorem draw_form (b S n m c q oc : Nat) (A G : Option Addr) (room : Int) (spv : Value) (w : World) (hbk : Blk w b 148 #[spv, .int .i64 room, .slice (some ⟨S, 0, none⟩) n n, .slice G q oc]) (hq : 1 ≤ q) (hq2 : q ≤ 20) (hm : m ≤ maxLen) (hne : m ≠ q) :
    Calls Try.prog 41 #[.pointer (some ⟨b, 0, none⟩), .slice A m c] w fun e w' => e = .returned (.int .i64 4) ∧ Below w.heap.size w w' := by
  unfold maxLen at hm
  have h1 : ¬ (m : Int) = (q : Int) := by omega
  have h2 : ¬ (q : Int) = 0 := by omega
  obtain ⟨g1, c0, c1, c2, c3⟩ := bx4 hbk
  clear hbk
  go_enter Try.func41, Try.ntmps41
  go_wp2_with fail
  go_ret
  exact ⟨rfl, Below.refl _ _⟩
def DrawPost (n q : Nat) (room : Int) (ws : Nat → Wa) (od z : Nat → Int) (b S : Nat) (spv : Value) (w : World) (e : Ending) (w' : World) : Prop :=
  (anyTo (lostB ws od z) q = true ∧ e = .returned (.int .i64 2) ∧ Below w.heap.size w w') ∨ (anyTo (lostB ws od z) q = false ∧ e = .returned (.int .i64 0) ∧ Blk w' b 148 #[spv, .int .i64 room, .slice (some ⟨S, 0, none⟩) n n, .slice none 0 0] ∧ Stores w' S n (drawW ws od z q) ∧ Apart w w' S b)
theorem draw_any (b S n q oc c ab aoff gb goff : Nat) (room : Int) (spv : Value) (ws : Nat → Wa) (od z : Nat → Int) (w : World) (hbk : Blk w b 148 #[spv, .int .i64 room, .slice (some ⟨S, 0, none⟩) n n, .slice (some ⟨gb, goff, none⟩) q oc]) (hn1 : 1 ≤ n) (hn : n ≤ 20) (hS : Stores w S n ws) (ho : ∀ k, k < n → OkW (ws k)) (hq1 : 1 ≤ q) (hq : q ≤ 20) (hG : IR w w.heap.size (some ⟨gb, goff, none⟩) q od) (hA : IR w w.heap.size (some ⟨ab, aoff, none⟩) q z)
    (hod : ∀ i, i < q → 0 ≤ od i ∧ od i ≤ (n : Int) - 1) (hdis : ∀ i j, i < j → j < q → od i ≠ od j) (habS : ab ≠ S) (habb : ab ≠ b) (hgbS : gb ≠ S) (hgbb : gb ≠ b) :
    Calls Try.prog 41 #[.pointer (some ⟨b, 0, none⟩), .slice (some ⟨ab, aoff, none⟩) q c] w (DrawPost n q room ws od z b S spv w) := by
  have HBK := hide hbk
  have HST := hide hS
  have HOK := hide ho
  have HG := hide hG
  have HA := hide hA
  have HOD := hide hod
  have HDIS := hide hdis
  clear hbk hS ho hG hA hod hdis
  have m2 : ¬ (q : Int) = 0 := by omega
  have m2b : ((q : Int) == 0) = false := by simp; omega
  go_enter Try.func41, Try.ntmps41
  obtain ⟨g1, c0, c1, c2, c3⟩ := bx4 HBK.out
  go_wp2_with fail
  clear g1 c0 c1 c2 c3
  (try rw [m2b])
  go_loopw [34] (fun i wr => ∃ k : Nat, i = .int .i64 k ∧ k ≤ q ∧ Hid (anyTo (lostB ws od z) k = false) ∧ Hid (Below w.heap.size w wr)) (fun i _ => q - (intOf i).toNat)
  case atStart => exact ⟨0, rfl, by omega, hide rfl, hide (Below.refl _ w)⟩
  case round =>
    obtain ⟨k, rfl, hk, HE0, HB⟩ := hrel
    by_cases hlt : k < q
    · obtain ⟨gb', goff', he, hgb', hc1⟩ := IR.at_ (HG.out.below HB.out (Nat.le_refl _)) hlt
      injection he with he
      injection he with h1 h2
      subst h1 h2
      obtain ⟨ab', aoff', he, hab', hc2⟩ := IR.at_ (HA.out.below HB.out (Nat.le_refl _)) hlt
      injection he with he
      injection he with h1 h2
      subst h1 h2
      obtain ⟨o1, o2⟩ := HOD.out k hlt
      obtain ⟨KK, hKK⟩ : ∃ KK : Nat, od k = KK := ⟨(od k).toNat, by omega⟩
      have hKn : KK < n := by omega
      rw [hKK] at hc1
      have zw := HB.out.size
      have hz : gb < wr.heap.size := by omega
      have i1 : (0 : Int) ≤ (k : Int) := by omega
      have i2 : (k : Int) < (q : Int) := by omega
      have i3 : (0 : Int) ≤ (KK : Int) := by omega
      have i4 : (KK : Int) < (n : Int) := by omega
      go_wp2_with fail
      have H10 : Hid (∀ W, Below w.heap.size w W → (W.cell? ⟨b, 2, none⟩ = some (.slice (some ⟨S, 0, none⟩) n n) ∧ W.cell? ⟨S, KK * 7 + 2, none⟩ = some (.int .i64 (ws KK).burning)) ∧ W.cell? ⟨ab, aoff + k, none⟩ = some (.int .i64 (z k))) := hide (fun W h => by
        obtain ⟨-, -, -, x2, -⟩ := bx4 (HBK.out.ext h)
        obtain ⟨ab', aoff', he, hab', hc2⟩ := IR.at_ (HA.out.below h (Nat.le_refl _)) hlt
        injection he with he
        injection he with h1 h2
        subst h1 h2
        exact ⟨⟨x2, (h.cell (p := ⟨S, KK * 7 + 2, none⟩) HST.out.lt).trans (HST.out.2 KK hKn).2.2.2.2.1⟩, hc2⟩)
      have HWI := hide (within_any 0 (ws KK).burning (some ⟨wr.drew.heap.size, 0, none⟩) 1 1 (fun _ => z k) (wr.drew.alloc (.cells #[.int .i64 (z k)] 3)) (by decide) (by simpa using IR.one wr.drew (z k) 3))
      rw [wiB_one] at HWI
      clear hc1 hc2 hab' hgb' hz
      have Bd := hide HB.out.drew
      have Be := hide (Bd.out.alloc Bd.out.size (.cells #[.int .i64 (z k)] 3))
      refine wp_region_J (fun W : World => (W.cell? ⟨b, 2, none⟩ = some (.slice (some ⟨S, 0, none⟩) n n) ∧ W.cell? ⟨S, KK * 7 + 2, none⟩ = some (.int .i64 (ws KK).burning)) ∧ W.cell? ⟨ab, aoff + k, none⟩ = some (.int .i64 (z k))) (by kernel_rfl) ?_
      refine wpAnyJ_take 0 (v := ?_) (by first | exact hF | exact wideFn) (H10.out _ Bd.out) rfl (by kernel_rfl) (by kernel_rfl) (by kernel_rfl) (by kernel_rfl) rfl ?_ (by first | exact fun _ _ _ h => h | exact fun _ _ _ h => hQ2 _ _ _ _ _ h) ?_
      rotate_left
      · intro W hSW
        simp only [List.getElem_toArray, List.getElem_cons_zero, List.getElem_cons_succ]
        (try dsimp only at hSW)
        go_simp
        with_reducible rfl
      (try simp only [List.getElem_toArray, List.getElem_cons_zero, List.getElem_cons_succ, Act.put, List.setIfInBounds_toArray, List.set_cons_zero, List.set_cons_succ])
      refine wpAnyJ_take 1 (v := ?_) (by first | exact hF | exact wideFn) (H10.out _ Bd.out) rfl (by kernel_rfl) (by kernel_rfl) (by kernel_rfl) (by kernel_rfl) rfl ?_ (by first | exact fun _ _ _ h => h | exact fun _ _ _ h => hQ2 _ _ _ _ _ h) ?_
      rotate_left
      · intro W hSW
        simp only [List.getElem_toArray, List.getElem_cons_zero, List.getElem_cons_succ]
        (try dsimp only at hSW)
        go_simp
        with_reducible rfl
      (try simp only [List.getElem_toArray, List.getElem_cons_zero, List.getElem_cons_succ, Act.put, List.setIfInBounds_toArray, List.set_cons_zero, List.set_cons_succ])
      refine wpAnyJ_take 2 (v := ?_) (by first | exact hF | exact wideFn) (H10.out _ Bd.out) rfl (by kernel_rfl) (by kernel_rfl) (by kernel_rfl) (by kernel_rfl) rfl ?_ (by first | exact fun _ _ _ h => h | exact fun _ _ _ h => hQ2 _ _ _ _ _ h) ?_
      rotate_left
      · intro W hSW
        simp only [List.getElem_toArray, List.getElem_cons_zero, List.getElem_cons_succ]
        (try dsimp only at hSW)
        go_simp
        with_reducible rfl
      (try simp only [List.getElem_toArray, List.getElem_cons_zero, List.getElem_cons_succ, Act.put, List.setIfInBounds_toArray, List.set_cons_zero, List.set_cons_succ])
      refine wpAnyJ_take 3 (v := ?_) (by first | exact hF | exact wideFn) (H10.out _ Bd.out) rfl (by kernel_rfl) (by kernel_rfl) (by kernel_rfl) (by kernel_rfl) rfl ?_ (by first | exact fun _ _ _ h => h | exact fun _ _ _ h => hQ2 _ _ _ _ _ h) ?_
      rotate_left
      · intro W hSW
        simp only [List.getElem_toArray, List.getElem_cons_zero, List.getElem_cons_succ]
        (try dsimp only at hSW)
        go_simp
        with_reducible rfl
      (try simp only [List.getElem_toArray, List.getElem_cons_zero, List.getElem_cons_succ, Act.put, List.setIfInBounds_toArray, List.set_cons_zero, List.set_cons_succ])
      refine wpAnyJ_take 4 (v := ?_) (by first | exact hF | exact wideFn) (H10.out _ Bd.out) rfl (by kernel_rfl) (by kernel_rfl) (by kernel_rfl) (by kernel_rfl) rfl ?_ (by first | exact fun _ _ _ h => h | exact fun _ _ _ h => hQ2 _ _ _ _ _ h) ?_
      rotate_left
      · intro W hSW
        simp only [List.getElem_toArray, List.getElem_cons_zero, List.getElem_cons_succ]
        (try dsimp only at hSW)
        go_simp
        with_reducible rfl
      (try simp only [List.getElem_toArray, List.getElem_cons_zero, List.getElem_cons_succ, Act.put, List.setIfInBounds_toArray, List.set_cons_zero, List.set_cons_succ])
      refine wpAnyJ_take 5 (v := ?_) (by first | exact hF | exact wideFn) (H10.out _ Bd.out) rfl (by kernel_rfl) (by kernel_rfl) (by kernel_rfl) (by kernel_rfl) rfl ?_ (by first | exact fun _ _ _ h => h | exact fun _ _ _ h => hQ2 _ _ _ _ _ h) ?_
      rotate_left
      · intro W hSW
        simp only [List.getElem_toArray, List.getElem_cons_zero, List.getElem_cons_succ]
        (try dsimp only at hSW)
        go_simp
        with_reducible rfl
      (try simp only [List.getElem_toArray, List.getElem_cons_zero, List.getElem_cons_succ, Act.put, List.setIfInBounds_toArray, List.set_cons_zero, List.set_cons_succ])
      refine wpAnyJ_take 6 (v := ?_) (by first | exact hF | exact wideFn) (H10.out _ Bd.out) rfl (by kernel_rfl) (by kernel_rfl) (by kernel_rfl) (by kernel_rfl) rfl ?_ (by first | exact fun _ _ _ h => h | exact fun _ _ _ h => hQ2 _ _ _ _ _ h) ?_
      rotate_left
      · intro W hSW
        simp only [List.getElem_toArray, List.getElem_cons_zero, List.getElem_cons_succ]
        (try dsimp only at hSW)
        go_simp
        with_reducible rfl
      (try simp only [List.getElem_toArray, List.getElem_cons_zero, List.getElem_cons_succ, Act.put, List.setIfInBounds_toArray, List.set_cons_zero, List.set_cons_succ])
      refine wpAnyJ_take 7 (v := ?_) (by first | exact hF | exact wideFn) (H10.out _ Bd.out) rfl (by kernel_rfl) (by kernel_rfl) (by kernel_rfl) (by kernel_rfl) rfl ?_ (by first | exact fun _ _ _ h => h | exact fun _ _ _ h => hQ2 _ _ _ _ _ h) ?_
      rotate_left
      · intro W hSW
        simp only [List.getElem_toArray, List.getElem_cons_zero, List.getElem_cons_succ]
        (try dsimp only at hSW)
        go_simp
        with_reducible rfl
      (try simp only [List.getElem_toArray, List.getElem_cons_zero, List.getElem_cons_succ, Act.put, List.setIfInBounds_toArray, List.set_cons_zero, List.set_cons_succ])
      refine wpAnyJ_take 8 (v := ?_) (by first | exact hF | exact wideFn) (H10.out _ Bd.out) rfl (by kernel_rfl) (by kernel_rfl) (by kernel_rfl) (by kernel_rfl) rfl ?_ (by first | exact fun _ _ _ h => h | exact fun _ _ _ h => hQ2 _ _ _ _ _ h) ?_
      rotate_left
      · intro W hSW
        simp only [List.getElem_toArray, List.getElem_cons_zero, List.getElem_cons_succ]
        (try dsimp only at hSW)
        go_simp
        with_reducible rfl
      (try simp only [List.getElem_toArray, List.getElem_cons_zero, List.getElem_cons_succ, Act.put, List.setIfInBounds_toArray, List.set_cons_zero, List.set_cons_succ])
      refine wpAnyJ_take 9 (v := ?_) (by first | exact hF | exact wideFn) (H10.out _ Bd.out) rfl (by kernel_rfl) (by kernel_rfl) (by kernel_rfl) (by kernel_rfl) rfl ?_ (by first | exact fun _ _ _ h => h | exact fun _ _ _ h => hQ2 _ _ _ _ _ h) ?_
      rotate_left
      · intro W hSW
        simp only [List.getElem_toArray, List.getElem_cons_zero, List.getElem_cons_succ]
        (try dsimp only at hSW)
        go_simp
        with_reducible rfl
      (try simp only [List.getElem_toArray, List.getElem_cons_zero, List.getElem_cons_succ, Act.put, List.setIfInBounds_toArray, List.set_cons_zero, List.set_cons_succ])
      refine wpAnyJ_take 10 (v := ?_) (by first | exact hF | exact wideFn) (H10.out _ Bd.out) rfl (by kernel_rfl) (by kernel_rfl) (by kernel_rfl) (by kernel_rfl) rfl ?_ (by first | exact fun _ _ _ h => h | exact fun _ _ _ h => hQ2 _ _ _ _ _ h) ?_
      rotate_left
      · intro W hSW
        simp only [List.getElem_toArray, List.getElem_cons_zero, List.getElem_cons_succ]
        (try dsimp only at hSW)
        go_simp
        with_reducible rfl
      (try simp only [List.getElem_toArray, List.getElem_cons_zero, List.getElem_cons_succ, Act.put, List.setIfInBounds_toArray, List.set_cons_zero, List.set_cons_succ])
      refine wpAnyJ_take 11 (v := ?_) (by first | exact hF | exact wideFn) (H10.out _ Bd.out) rfl (by kernel_rfl) (by kernel_rfl) (by kernel_rfl) (by kernel_rfl) rfl ?_ (by first | exact fun _ _ _ h => h | exact fun _ _ _ h => hQ2 _ _ _ _ _ h) ?_
      rotate_left
      · intro W hSW
        simp only [List.getElem_toArray, List.getElem_cons_zero, List.getElem_cons_succ]
        (try dsimp only at hSW)
        go_simp
        with_reducible rfl
      (try simp only [List.getElem_toArray, List.getElem_cons_zero, List.getElem_cons_succ, Act.put, List.setIfInBounds_toArray, List.set_cons_zero, List.set_cons_succ])
      refine wpAnyJ_take 12 (v := ?_) (by first | exact hF | exact wideFn) (H10.out _ Bd.out) rfl (by kernel_rfl) (by kernel_rfl) (by kernel_rfl) (by kernel_rfl) rfl ?_ (by first | exact fun _ _ _ h => h | exact fun _ _ _ h => hQ2 _ _ _ _ _ h) ?_
      rotate_left
      · intro W hSW
        simp only [List.getElem_toArray, List.getElem_cons_zero, List.getElem_cons_succ]
        (try dsimp only at hSW)
        go_simp
        with_reducible rfl
      (try simp only [List.getElem_toArray, List.getElem_cons_zero, List.getElem_cons_succ, Act.put, List.setIfInBounds_toArray, List.set_cons_zero, List.set_cons_succ])
      refine wpAnyJ_one 13 rfl (by kernel_rfl) (fun K hK => ?_)
      simp only [List.getElem_toArray, List.getElem_cons_zero, List.getElem_cons_succ]
      go_simp
      refine hK.out _ _ (fun _ => H10.out _ Be.out) ?_
      clear hK K
      (try simp only [List.getElem_toArray, List.getElem_cons_zero, List.getElem_cons_succ, Act.put, List.setIfInBounds_toArray, List.set_cons_zero, List.set_cons_succ])
      refine wpAnyJ_one 14 rfl (by kernel_rfl) (fun K hK => ?_)
      simp only [List.getElem_toArray, List.getElem_cons_zero, List.getElem_cons_succ]
      go_simp
      refine ⟨trivial, rfl, ?_⟩
      refine (callsIn_wide.2 HWI.out).mono ?_
      rintro e w2 ⟨rfl, hb2⟩
      have Bf := hide (Be.out.trans (hb2.mono Be.out.size))
      dsimp only
      refine hK.out _ _ (fun _ => H10.out _ Bf.out) ?_
      clear hK K
      (try simp only [List.getElem_toArray, List.getElem_cons_zero, List.getElem_cons_succ, Act.put, List.setIfInBounds_toArray, List.set_cons_zero, List.set_cons_succ])
      by_cases hz2 : 0 ≤ z k ∧ z k ≤ (ws KK).burning
      · rw [decide_eq_true hz2]
        refine wpAnyJ_take 15 (v := ?_) (by first | exact hF | exact wideFn) (H10.out _ Bf.out) rfl (by kernel_rfl) (by kernel_rfl) (by kernel_rfl) (by kernel_rfl) rfl ?_ (by first | exact fun _ _ _ h => h | exact fun _ _ _ h => hQ2 _ _ _ _ _ h) ?_
        rotate_left
        · intro W hSW
          simp only [List.getElem_toArray, List.getElem_cons_zero, List.getElem_cons_succ]
          (try dsimp only at hSW)
          go_simp
          with_reducible rfl
        (try simp only [List.getElem_toArray, List.getElem_cons_zero, List.getElem_cons_succ, Act.put, List.setIfInBounds_toArray, List.set_cons_zero, List.set_cons_succ])
        refine wpAnyJ_done (by kernel_rfl) ?_
        go_wp2_with fail
        go_roundw
        case rel =>
          refine ⟨k + 1, by go_num, by omega, hide ?_, Bf⟩
          show (anyTo (lostB ws od z) k || lostB ws od z k) = false
          rw [HE0.out]
          unfold lostB
          rw [hKK, Int.toNat_natCast, decide_eq_true hz2]
          rfl
        case measure => simp [intOf]; omega
      · rw [decide_eq_false hz2]
        refine wpAnyJ_take 15 (v := ?_) (by first | exact hF | exact wideFn) (H10.out _ Bf.out) rfl (by kernel_rfl) (by kernel_rfl) (by kernel_rfl) (by kernel_rfl) rfl ?_ (by first | exact fun _ _ _ h => h | exact fun _ _ _ h => hQ2 _ _ _ _ _ h) ?_
        rotate_left
        · intro W hSW
          simp only [List.getElem_toArray, List.getElem_cons_zero, List.getElem_cons_succ]
          (try dsimp only at hSW)
          go_simp
          with_reducible rfl
        (try simp only [List.getElem_toArray, List.getElem_cons_zero, List.getElem_cons_succ, Act.put, List.setIfInBounds_toArray, List.set_cons_zero, List.set_cons_succ])
        refine wpAnyJ_done (by kernel_rfl) ?_
        go_wp2_with fail
        go_ret
        refine .inl ⟨(anyTo_iff _ _).2 ⟨k, hlt, ?_⟩, rfl, Bf.out⟩
        unfold lostB
        rw [hKK, Int.toNat_natCast, decide_eq_false hz2]
        rfl
    · obtain rfl : k = q := by omega
      obtain ⟨g1, c0, c1, c2, c3⟩ := bx4 (HBK.out.ext HB.out)
      go_wp2_with fail
      clear g1 c0 c1 c2 c3
      obtain ⟨wo, rfl⟩ : ∃ wo : World, wo = wr := ⟨_, rfl⟩
      have AP := hide (Apart.of_below (S := S) (b := b) HB.out)
      have BK0 := hide (HBK.out.ext HB.out)
      have ST0 := hide (HST.out.below HB.out HST.out.lt)
      have HALL : Hid (∀ i, i < k → ∃ KK : Nat, od i = KK ∧ KK < n ∧ 0 ≤ z i ∧ z i ≤ (ws KK).burning) := hide (fun i hi => by
        obtain ⟨o1, o2⟩ := HOD.out i hi
        have h : lostB ws od z i = false := by
          cases hl : lostB ws od z i
          · rfl
          · have := (anyTo_iff (lostB ws od z) k).2 ⟨i, hi, hl⟩
            rw [HE0.out] at this; cases this
        unfold lostB at h
        have h2 := of_decide_eq_true (by simpa using h : decide (0 ≤ z i ∧ z i ≤ (ws (od i).toNat).burning) = true)
        exact ⟨(od i).toNat, by omega, by omega, h2⟩)
      go_loopw [61] (fun i wr => ∃ j : Nat, i = .int .i64 j ∧ j ≤ k ∧ Hid (Blk wr b 148 #[spv, .int .i64 room, .slice (some ⟨S, 0, none⟩) n n, .slice (some ⟨gb, goff, none⟩) k oc]) ∧ Hid (Stores wr S n (drawW ws od z j)) ∧ Hid (Apart w wr S b)) (fun i _ => k - (intOf i).toNat)
      case atStart => exact ⟨0, rfl, by omega, BK0, ST0, AP⟩
      case round =>
        obtain ⟨j, rfl, hjk, BK, ST, AQ⟩ := hrel
        clear BK0 ST0 AP
        by_cases hlt : j < k
        · obtain ⟨KK, hKK, hKn, y1, y2⟩ := HALL.out j hlt
          have zw : w.heap.size ≤ wr.heap.size := AQ.out.2.2.2.1
          have hSl : S < w.heap.size := HST.out.lt
          have hbl : b < w.heap.size := HBK.out.lt
          have hbS : b ≠ S := fun e => by
            obtain ⟨cs, hcs⟩ := HST.out.1
            exact HBK.out.ne_ hcs (by decide) e
          obtain ⟨gb', goff', he, hgb', hc1⟩ := IR.at_ HG.out hlt
          injection he with he
          injection he with h1 h2
          subst h1 h2
          obtain ⟨ab', aoff', he, hab', hc2⟩ := IR.at_ HA.out hlt
          injection he with he
          injection he with h1 h2
          subst h1 h2
          have d1 : wr.cell? ⟨gb, goff + j, none⟩ = some (.int .i64 (od j)) := (AQ.out.cell (p := ⟨gb, goff + j, none⟩) hgb' hgbS hgbb).trans hc1
          have d2 : wr.cell? ⟨ab, aoff + j, none⟩ = some (.int .i64 (z j)) := (AQ.out.cell (p := ⟨ab, aoff + j, none⟩) hab' habS habb).trans hc2
          rw [hKK] at d1
          have hzg : gb < wr.heap.size := by omega
          have hza : ab < wr.heap.size := by omega
          have i1 : (0 : Int) ≤ (j : Int) := by omega
          have i2 : (j : Int) < (k : Int) := by omega
          have i3 : (0 : Int) ≤ (KK : Int) := by omega
          have i4 : (KK : Int) < (n : Int) := by omega
          have hfw : drawW ws od z j KK = ws KK := drawW_far fun i hi => by
            obtain ⟨Ki, hKi, -⟩ := HALL.out i (by omega)
            have := HDIS.out i j hi hlt
            rw [hKi, hKK] at this
            rw [hKi]
            omega
          have HKW : KindW wr S (KK * 7) (ws KK) := by have := ST.out.2 KK hKn; rw [hfw] at this; exact this
          have HOW := HOK.out KK hKn
          obtain ⟨o1, o2, o3, o4, o5, o6, o7, o8, o9⟩ := HOW
          obtain ⟨g1, c0, c1, c2, c3⟩ := bx4 BK.out
          clear hc1 hc2
          go_wp2_with fail
          clear g1 c0 c1 c2 c3 d1 hzg
          -- the lost ones
          have HM := hide (move_ok (z j) (ws KK).burning (ws KK).broken S (KK * 7 + 2) (KK * 7 + 5) wr.drew HKW.2.2.2.2.1 HKW.2.2.2.2.2.2.2.1 HKW.2.1 (by omega) y2 (by omega) (by omega) o6 (by omega))
          refine wp_region_J (fun _ : World => True) (by kernel_rfl) ?_
          refine wpAnyJ_take 0 (v := ?_) (by first | exact hF | exact wideFn) trivial rfl (by kernel_rfl) (by kernel_rfl) (by kernel_rfl) (by kernel_rfl) rfl ?_ (by first | exact fun _ _ _ h => h | exact fun _ _ _ h => hQ2 _ _ _ _ _ h) ?_
          rotate_left
          · intro W hSW
            simp only [List.getElem_toArray, List.getElem_cons_zero, List.getElem_cons_succ]
            (try dsimp only at hSW)
            go_simp
            with_reducible rfl
          (try simp only [List.getElem_toArray, List.getElem_cons_zero, List.getElem_cons_succ, Act.put, List.setIfInBounds_toArray, List.set_cons_zero, List.set_cons_succ])
          refine wpAnyJ_take 1 (v := ?_) (by first | exact hF | exact wideFn) trivial rfl (by kernel_rfl) (by kernel_rfl) (by kernel_rfl) (by kernel_rfl) rfl ?_ (by first | exact fun _ _ _ h => h | exact fun _ _ _ h => hQ2 _ _ _ _ _ h) ?_
          rotate_left
          · intro W hSW
            simp only [List.getElem_toArray, List.getElem_cons_zero, List.getElem_cons_succ]
            (try dsimp only at hSW)
            go_simp
            with_reducible rfl
          (try simp only [List.getElem_toArray, List.getElem_cons_zero, List.getElem_cons_succ, Act.put, List.setIfInBounds_toArray, List.set_cons_zero, List.set_cons_succ])
          refine wpAnyJ_take 2 (v := ?_) (by first | exact hF | exact wideFn) trivial rfl (by kernel_rfl) (by kernel_rfl) (by kernel_rfl) (by kernel_rfl) rfl ?_ (by first | exact fun _ _ _ h => h | exact fun _ _ _ h => hQ2 _ _ _ _ _ h) ?_
          rotate_left
          · intro W hSW
            simp only [List.getElem_toArray, List.getElem_cons_zero, List.getElem_cons_succ]
            (try dsimp only at hSW)
            go_simp
            with_reducible rfl
          (try simp only [List.getElem_toArray, List.getElem_cons_zero, List.getElem_cons_succ, Act.put, List.setIfInBounds_toArray, List.set_cons_zero, List.set_cons_succ])
          refine wpAnyJ_take 4 (v := ?_) (by first | exact hF | exact wideFn) trivial rfl (by kernel_rfl) (by kernel_rfl) (by kernel_rfl) (by kernel_rfl) rfl ?_ (by first | exact fun _ _ _ h => h | exact fun _ _ _ h => hQ2 _ _ _ _ _ h) ?_
          rotate_left
          · intro W hSW
            simp only [List.getElem_toArray, List.getElem_cons_zero, List.getElem_cons_succ]
            (try dsimp only at hSW)
            go_simp
            with_reducible rfl
          (try simp only [List.getElem_toArray, List.getElem_cons_zero, List.getElem_cons_succ, Act.put, List.setIfInBounds_toArray, List.set_cons_zero, List.set_cons_succ])
          refine wpAnyJ_take 5 (v := ?_) (by first | exact hF | exact wideFn) trivial rfl (by kernel_rfl) (by kernel_rfl) (by kernel_rfl) (by kernel_rfl) rfl ?_ (by first | exact fun _ _ _ h => h | exact fun _ _ _ h => hQ2 _ _ _ _ _ h) ?_
          rotate_left
          · intro W hSW
            simp only [List.getElem_toArray, List.getElem_cons_zero, List.getElem_cons_succ]
            (try dsimp only at hSW)
            go_simp
            with_reducible rfl
          (try simp only [List.getElem_toArray, List.getElem_cons_zero, List.getElem_cons_succ, Act.put, List.setIfInBounds_toArray, List.set_cons_zero, List.set_cons_succ])
          refine wpAnyJ_take 6 (v := ?_) (by first | exact hF | exact wideFn) trivial rfl (by kernel_rfl) (by kernel_rfl) (by kernel_rfl) (by kernel_rfl) rfl ?_ (by first | exact fun _ _ _ h => h | exact fun _ _ _ h => hQ2 _ _ _ _ _ h) ?_
          rotate_left
          · intro W hSW
            simp only [List.getElem_toArray, List.getElem_cons_zero, List.getElem_cons_succ]
            (try dsimp only at hSW)
            go_simp
            with_reducible rfl
          (try simp only [List.getElem_toArray, List.getElem_cons_zero, List.getElem_cons_succ, Act.put, List.setIfInBounds_toArray, List.set_cons_zero, List.set_cons_succ])
          refine wpAnyJ_take 7 (v := ?_) (by first | exact hF | exact wideFn) trivial rfl (by kernel_rfl) (by kernel_rfl) (by kernel_rfl) (by kernel_rfl) rfl ?_ (by first | exact fun _ _ _ h => h | exact fun _ _ _ h => hQ2 _ _ _ _ _ h) ?_
          rotate_left
          · intro W hSW
            simp only [List.getElem_toArray, List.getElem_cons_zero, List.getElem_cons_succ]
            (try dsimp only at hSW)
            go_simp
            with_reducible rfl
          (try simp only [List.getElem_toArray, List.getElem_cons_zero, List.getElem_cons_succ, Act.put, List.setIfInBounds_toArray, List.set_cons_zero, List.set_cons_succ])
          refine wpAnyJ_take 8 (v := ?_) (by first | exact hF | exact wideFn) trivial rfl (by kernel_rfl) (by kernel_rfl) (by kernel_rfl) (by kernel_rfl) rfl ?_ (by first | exact fun _ _ _ h => h | exact fun _ _ _ h => hQ2 _ _ _ _ _ h) ?_
          rotate_left
          · intro W hSW
            simp only [List.getElem_toArray, List.getElem_cons_zero, List.getElem_cons_succ]
            (try dsimp only at hSW)
            go_simp
            with_reducible rfl
          (try simp only [List.getElem_toArray, List.getElem_cons_zero, List.getElem_cons_succ, Act.put, List.setIfInBounds_toArray, List.set_cons_zero, List.set_cons_succ])
          refine wpAnyJ_take 9 (v := ?_) (by first | exact hF | exact wideFn) trivial rfl (by kernel_rfl) (by kernel_rfl) (by kernel_rfl) (by kernel_rfl) rfl ?_ (by first | exact fun _ _ _ h => h | exact fun _ _ _ h => hQ2 _ _ _ _ _ h) ?_
          rotate_left
          · intro W hSW
            simp only [List.getElem_toArray, List.getElem_cons_zero, List.getElem_cons_succ]
            (try dsimp only at hSW)
            go_simp
            with_reducible rfl
          (try simp only [List.getElem_toArray, List.getElem_cons_zero, List.getElem_cons_succ, Act.put, List.setIfInBounds_toArray, List.set_cons_zero, List.set_cons_succ])
          refine wpAnyJ_take 10 (v := ?_) (by first | exact hF | exact wideFn) trivial rfl (by kernel_rfl) (by kernel_rfl) (by kernel_rfl) (by kernel_rfl) rfl ?_ (by first | exact fun _ _ _ h => h | exact fun _ _ _ h => hQ2 _ _ _ _ _ h) ?_
          rotate_left
          · intro W hSW
            simp only [List.getElem_toArray, List.getElem_cons_zero, List.getElem_cons_succ]
            (try dsimp only at hSW)
            go_simp
            with_reducible rfl
          (try simp only [List.getElem_toArray, List.getElem_cons_zero, List.getElem_cons_succ, Act.put, List.setIfInBounds_toArray, List.set_cons_zero, List.set_cons_succ])
          refine wpAnyJ_take 11 (v := ?_) (by first | exact hF | exact wideFn) trivial rfl (by kernel_rfl) (by kernel_rfl) (by kernel_rfl) (by kernel_rfl) rfl ?_ (by first | exact fun _ _ _ h => h | exact fun _ _ _ h => hQ2 _ _ _ _ _ h) ?_
          rotate_left
          · intro W hSW
            simp only [List.getElem_toArray, List.getElem_cons_zero, List.getElem_cons_succ]
            (try dsimp only at hSW)
            go_simp
            with_reducible rfl
          (try simp only [List.getElem_toArray, List.getElem_cons_zero, List.getElem_cons_succ, Act.put, List.setIfInBounds_toArray, List.set_cons_zero, List.set_cons_succ])
          refine wpAnyJ_one 3 rfl (by kernel_rfl) (fun K hK => ?_)
          simp only [List.getElem_toArray, List.getElem_cons_zero, List.getElem_cons_succ]
          go_simp
          refine hK.out _ _ (fun _ => trivial) ?_
          clear hK K
          (try simp only [List.getElem_toArray, List.getElem_cons_zero, List.getElem_cons_succ, Act.put, List.setIfInBounds_toArray, List.set_cons_zero, List.set_cons_succ])
          refine wpAnyJ_one 12 rfl (by kernel_rfl) (fun K hK => ?_)
          simp only [List.getElem_toArray, List.getElem_cons_zero, List.getElem_cons_succ]
          go_simp
          refine ⟨trivial, rfl, ?_⟩
          refine (callsIn_wide.2 HM.out).mono ?_
          rintro e w2 ⟨rfl, hb2⟩
          have hb2' : Below wr.heap.size (mv wr S (KK * 7 + 2) (KK * 7 + 5) ((ws KK).burning - z j) ((ws KK).broken + z j)) w2 := ⟨hb2.os, hb2.tape, hb2.output, hb2.size, hb2.block⟩
          dsimp only
          refine hK.out _ _ (fun _ => trivial) ?_
          clear hK K
          (try simp only [List.getElem_toArray, List.getElem_cons_zero, List.getElem_cons_succ, Act.put, List.setIfInBounds_toArray, List.set_cons_zero, List.set_cons_succ])
          refine wpAnyJ_done (by kernel_rfl) ?_
          clear hb2 HM d2 hza HKW
          obtain ⟨X1, hX1⟩ : ∃ X1 : Wa, X1 = ((ws KK).put 2 ((ws KK).burning - z j)).put 5 ((ws KK).broken + z j) := ⟨_, rfl⟩
          have hst2 : Stores (mv wr S (KK * 7 + 2) (KK * 7 + 5) ((ws KK).burning - z j) ((ws KK).broken + z j)) S n (upd (drawW ws od z j) KK X1) := by
            have := (ST.out.set (k := KK) (i := 2) hKn (by omega) ((ws KK).burning - z j)).set (k := KK) (i := 5) hKn (by omega) ((ws KK).broken + z j)
            rw [upd_upd, upd_same, hfw, ← hX1] at this
            exact this
          obtain ⟨hst3, g12⟩ := turn_of (w := wr) hst2 (grownBy_setS (grownBy_setS (World.grownBy.refl wr _) _ _) _ _) (size_mv _ _ _ _ _ _) hb2'
          have ST2 := hide hst3
          have HK2 := ST2.out.2 KK hKn
          rw [upd_same] at HK2
          have e2 : w2.cell? ⟨S, KK * 7 + 2, none⟩ = some (.int .i64 ((ws KK).burning - z j)) := by have := HK2.2.2.2.2.1; rw [hX1] at this; exact this
          have e3 : w2.cell? ⟨S, KK * 7 + 3, none⟩ = some (.int .i64 (ws KK).fired) := by have := HK2.2.2.2.2.2.1; rw [hX1] at this; exact this
          have HM := hide (move_ok ((ws KK).burning - z j) ((ws KK).burning - z j) (ws KK).fired S (KK * 7 + 2) (KK * 7 + 3) w2.drew e2 e3 HK2.2.1 (by omega) (Int.le_refl _) (by omega) (by omega) o4 (by omega))
          have BK2 := hide (BK.out.grown g12 (fun e => hbS (by injection e)))
          have AQ2 := hide (AQ.out.then g12 (fun i h => by injection h with h; exact .inl h.symm))
          have z2 : S < w2.heap.size := ST2.out.lt
          clear hb2' hst2 hst3 g12 HK2 e3 BK ST AQ
          go_wp2_with fail
          refine wp_region_J (fun _ : World => True) (by kernel_rfl) ?_
          refine wpAnyJ_take 0 (v := ?_) (by first | exact hF | exact wideFn) trivial rfl (by kernel_rfl) (by kernel_rfl) (by kernel_rfl) (by kernel_rfl) rfl ?_ (by first | exact fun _ _ _ h => h | exact fun _ _ _ h => hQ2 _ _ _ _ _ h) ?_
          rotate_left
          · intro W hSW
            simp only [List.getElem_toArray, List.getElem_cons_zero, List.getElem_cons_succ]
            (try dsimp only at hSW)
            go_simp
            with_reducible rfl
          (try simp only [List.getElem_toArray, List.getElem_cons_zero, List.getElem_cons_succ, Act.put, List.setIfInBounds_toArray, List.set_cons_zero, List.set_cons_succ])
          refine wpAnyJ_take 1 (v := ?_) (by first | exact hF | exact wideFn) trivial rfl (by kernel_rfl) (by kernel_rfl) (by kernel_rfl) (by kernel_rfl) rfl ?_ (by first | exact fun _ _ _ h => h | exact fun _ _ _ h => hQ2 _ _ _ _ _ h) ?_
          rotate_left
          · intro W hSW
            simp only [List.getElem_toArray, List.getElem_cons_zero, List.getElem_cons_succ]
            (try dsimp only at hSW)
            go_simp
            with_reducible rfl
          (try simp only [List.getElem_toArray, List.getElem_cons_zero, List.getElem_cons_succ, Act.put, List.setIfInBounds_toArray, List.set_cons_zero, List.set_cons_succ])
          refine wpAnyJ_take 2 (v := ?_) (by first | exact hF | exact wideFn) trivial rfl (by kernel_rfl) (by kernel_rfl) (by kernel_rfl) (by kernel_rfl) rfl ?_ (by first | exact fun _ _ _ h => h | exact fun _ _ _ h => hQ2 _ _ _ _ _ h) ?_
          rotate_left
          · intro W hSW
            simp only [List.getElem_toArray, List.getElem_cons_zero, List.getElem_cons_succ]
            (try dsimp only at hSW)
            go_simp
            with_reducible rfl
          (try simp only [List.getElem_toArray, List.getElem_cons_zero, List.getElem_cons_succ, Act.put, List.setIfInBounds_toArray, List.set_cons_zero, List.set_cons_succ])
          refine wpAnyJ_take 3 (v := ?_) (by first | exact hF | exact wideFn) trivial rfl (by kernel_rfl) (by kernel_rfl) (by kernel_rfl) (by kernel_rfl) rfl ?_ (by first | exact fun _ _ _ h => h | exact fun _ _ _ h => hQ2 _ _ _ _ _ h) ?_
          rotate_left
          · intro W hSW
            simp only [List.getElem_toArray, List.getElem_cons_zero, List.getElem_cons_succ]
            (try dsimp only at hSW)
            go_simp
            with_reducible rfl
          (try simp only [List.getElem_toArray, List.getElem_cons_zero, List.getElem_cons_succ, Act.put, List.setIfInBounds_toArray, List.set_cons_zero, List.set_cons_succ])
          refine wpAnyJ_take 5 (v := ?_) (by first | exact hF | exact wideFn) trivial rfl (by kernel_rfl) (by kernel_rfl) (by kernel_rfl) (by kernel_rfl) rfl ?_ (by first | exact fun _ _ _ h => h | exact fun _ _ _ h => hQ2 _ _ _ _ _ h) ?_
          rotate_left
          · intro W hSW
            simp only [List.getElem_toArray, List.getElem_cons_zero, List.getElem_cons_succ]
            (try dsimp only at hSW)
            go_simp
            with_reducible rfl
          (try simp only [List.getElem_toArray, List.getElem_cons_zero, List.getElem_cons_succ, Act.put, List.setIfInBounds_toArray, List.set_cons_zero, List.set_cons_succ])
          refine wpAnyJ_take 6 (v := ?_) (by first | exact hF | exact wideFn) trivial rfl (by kernel_rfl) (by kernel_rfl) (by kernel_rfl) (by kernel_rfl) rfl ?_ (by first | exact fun _ _ _ h => h | exact fun _ _ _ h => hQ2 _ _ _ _ _ h) ?_
          rotate_left
          · intro W hSW
            simp only [List.getElem_toArray, List.getElem_cons_zero, List.getElem_cons_succ]
            (try dsimp only at hSW)
            go_simp
            with_reducible rfl
          (try simp only [List.getElem_toArray, List.getElem_cons_zero, List.getElem_cons_succ, Act.put, List.setIfInBounds_toArray, List.set_cons_zero, List.set_cons_succ])
          refine wpAnyJ_take 7 (v := ?_) (by first | exact hF | exact wideFn) trivial rfl (by kernel_rfl) (by kernel_rfl) (by kernel_rfl) (by kernel_rfl) rfl ?_ (by first | exact fun _ _ _ h => h | exact fun _ _ _ h => hQ2 _ _ _ _ _ h) ?_
          rotate_left
          · intro W hSW
            simp only [List.getElem_toArray, List.getElem_cons_zero, List.getElem_cons_succ]
            (try dsimp only at hSW)
            go_simp
            with_reducible rfl
          (try simp only [List.getElem_toArray, List.getElem_cons_zero, List.getElem_cons_succ, Act.put, List.setIfInBounds_toArray, List.set_cons_zero, List.set_cons_succ])
          refine wpAnyJ_take 8 (v := ?_) (by first | exact hF | exact wideFn) trivial rfl (by kernel_rfl) (by kernel_rfl) (by kernel_rfl) (by kernel_rfl) rfl ?_ (by first | exact fun _ _ _ h => h | exact fun _ _ _ h => hQ2 _ _ _ _ _ h) ?_
          rotate_left
          · intro W hSW
            simp only [List.getElem_toArray, List.getElem_cons_zero, List.getElem_cons_succ]
            (try dsimp only at hSW)
            go_simp
            with_reducible rfl
          (try simp only [List.getElem_toArray, List.getElem_cons_zero, List.getElem_cons_succ, Act.put, List.setIfInBounds_toArray, List.set_cons_zero, List.set_cons_succ])
          refine wpAnyJ_take 9 (v := ?_) (by first | exact hF | exact wideFn) trivial rfl (by kernel_rfl) (by kernel_rfl) (by kernel_rfl) (by kernel_rfl) rfl ?_ (by first | exact fun _ _ _ h => h | exact fun _ _ _ h => hQ2 _ _ _ _ _ h) ?_
          rotate_left
          · intro W hSW
            simp only [List.getElem_toArray, List.getElem_cons_zero, List.getElem_cons_succ]
            (try dsimp only at hSW)
            go_simp
            with_reducible rfl
          (try simp only [List.getElem_toArray, List.getElem_cons_zero, List.getElem_cons_succ, Act.put, List.setIfInBounds_toArray, List.set_cons_zero, List.set_cons_succ])
          refine wpAnyJ_take 10 (v := ?_) (by first | exact hF | exact wideFn) trivial rfl (by kernel_rfl) (by kernel_rfl) (by kernel_rfl) (by kernel_rfl) rfl ?_ (by first | exact fun _ _ _ h => h | exact fun _ _ _ h => hQ2 _ _ _ _ _ h) ?_
          rotate_left
          · intro W hSW
            simp only [List.getElem_toArray, List.getElem_cons_zero, List.getElem_cons_succ]
            (try dsimp only at hSW)
            go_simp
            with_reducible rfl
          (try simp only [List.getElem_toArray, List.getElem_cons_zero, List.getElem_cons_succ, Act.put, List.setIfInBounds_toArray, List.set_cons_zero, List.set_cons_succ])
          refine wpAnyJ_take 11 (v := ?_) (by first | exact hF | exact wideFn) trivial rfl (by kernel_rfl) (by kernel_rfl) (by kernel_rfl) (by kernel_rfl) rfl ?_ (by first | exact fun _ _ _ h => h | exact fun _ _ _ h => hQ2 _ _ _ _ _ h) ?_
          rotate_left
          · intro W hSW
            simp only [List.getElem_toArray, List.getElem_cons_zero, List.getElem_cons_succ]
            (try dsimp only at hSW)
            go_simp
            with_reducible rfl
          (try simp only [List.getElem_toArray, List.getElem_cons_zero, List.getElem_cons_succ, Act.put, List.setIfInBounds_toArray, List.set_cons_zero, List.set_cons_succ])
          refine wpAnyJ_take 12 (v := ?_) (by first | exact hF | exact wideFn) trivial rfl (by kernel_rfl) (by kernel_rfl) (by kernel_rfl) (by kernel_rfl) rfl ?_ (by first | exact fun _ _ _ h => h | exact fun _ _ _ h => hQ2 _ _ _ _ _ h) ?_
          rotate_left
          · intro W hSW
            simp only [List.getElem_toArray, List.getElem_cons_zero, List.getElem_cons_succ]
            (try dsimp only at hSW)
            go_simp
            with_reducible rfl
          (try simp only [List.getElem_toArray, List.getElem_cons_zero, List.getElem_cons_succ, Act.put, List.setIfInBounds_toArray, List.set_cons_zero, List.set_cons_succ])
          refine wpAnyJ_one 4 rfl (by kernel_rfl) (fun K hK => ?_)
          simp only [List.getElem_toArray, List.getElem_cons_zero, List.getElem_cons_succ]
          go_simp
          refine hK.out _ _ (fun _ => trivial) ?_
          clear hK K
          (try simp only [List.getElem_toArray, List.getElem_cons_zero, List.getElem_cons_succ, Act.put, List.setIfInBounds_toArray, List.set_cons_zero, List.set_cons_succ])
          refine wpAnyJ_one 13 rfl (by kernel_rfl) (fun K hK => ?_)
          simp only [List.getElem_toArray, List.getElem_cons_zero, List.getElem_cons_succ]
          go_simp
          refine ⟨trivial, rfl, ?_⟩
          refine (callsIn_wide.2 HM.out).mono ?_
          rintro e w3 ⟨rfl, hb3⟩
          have hb3' : Below w2.heap.size (mv w2 S (KK * 7 + 2) (KK * 7 + 3) ((ws KK).burning - z j - ((ws KK).burning - z j)) ((ws KK).fired + ((ws KK).burning - z j))) w3 := ⟨hb3.os, hb3.tape, hb3.output, hb3.size, hb3.block⟩
          dsimp only
          refine hK.out _ _ (fun _ => trivial) ?_
          clear hK K
          (try simp only [List.getElem_toArray, List.getElem_cons_zero, List.getElem_cons_succ, Act.put, List.setIfInBounds_toArray, List.set_cons_zero, List.set_cons_succ])
          refine wpAnyJ_done (by kernel_rfl) ?_
          clear hb3 HM e2
          have hst4 : Stores (mv w2 S (KK * 7 + 2) (KK * 7 + 3) ((ws KK).burning - z j - ((ws KK).burning - z j)) ((ws KK).fired + ((ws KK).burning - z j))) S n (drawW ws od z (j + 1)) := by
            have := (ST2.out.set (k := KK) (i := 2) hKn (by omega) ((ws KK).burning - z j - ((ws KK).burning - z j))).set (k := KK) (i := 3) hKn (by omega) ((ws KK).fired + ((ws KK).burning - z j))
            rw [upd_upd, upd_same, upd_upd, upd_same, hX1] at this
            have e : drawW ws od z (j + 1) = upd (drawW ws od z j) KK (drawn (ws KK) (z j)) := by
              show upd (drawW ws od z j) (od j).toNat (drawn (drawW ws od z j (od j).toNat) (z j)) = _
              rw [hKK, Int.toNat_natCast, hfw]
            rw [e]
            exact this
          obtain ⟨hst5, g23⟩ := turn_of (w := w2) hst4 (grownBy_setS (grownBy_setS (World.grownBy.refl w2 _) _ _) _ _) (size_mv _ _ _ _ _ _) hb3'
          have ST3 := hide hst5
          have BK3 := hide (BK2.out.grown g23 (fun e => hbS (by injection e)))
          have AQ3 := hide (AQ2.out.then g23 (fun i h => by injection h with h; exact .inl h.symm))
          clear hb3' hst4 hst5 g23 ST2 BK2 AQ2
          go_wp2_with fail
          go_roundw
          case rel => exact ⟨j + 1, by go_num, by omega, BK3, ST3, AQ3⟩
          case measure => simp [intOf]; omega
        · obtain rfl : j = k := by omega
          obtain ⟨g1, c0, c1, c2, c3⟩ := bx4 BK.out
          have f3 := BK.out.frozen 3
          go_wp2_with fail
          go_ret
          have hbS : b ≠ S := fun e => by
            obtain ⟨cs, hcs⟩ := HST.out.1
            exact HBK.out.ne_ hcs (by decide) e
          have gst : wr.grownBy (wr.setCell ⟨b, 3, none⟩ (.slice none 0 0)) (some b) := grownBy_setS (World.grownBy.refl wr _) _ _
          exact .inr ⟨HE0.out, rfl, BK.out.set_ 3 (.slice none 0 0), Stores.grown ST.out gst (fun e => hbS (by injection e with e; exact e.symm)), AQ.out.then gst (fun i h => by injection h with h; exact .inr (.inl h.symm))⟩
end Go.Proofs.Ytlhekifmkkgjlaa
/- Chapter 8: what each call does with one kind of a book, said in one way. -/
namespace Go.Proofs.Ytlhekifmkkgjlaa
open Go Go.RowKit Go.Shelf
set_option maxHeartbeats 2000000
/-- the answer E, and kind k of the stores is now X -/
def StepPost (b S n : Nat) (spv ov : Value) (room : Int) (ws : Nat → Wa) (k : Nat) (E : Int) (X : Wa) (w : World) (e : Ending) (w' : World) : Prop :=
  e = .returned (.int .i64 E) ∧ Blk w' b 148 #[spv, .int .i64 room, .slice (some ⟨S, 0, none⟩) n n, ov] ∧ Stores w' S n (upd ws k X) ∧ w.grownBy w' (some S)
theorem book_ne {b S n : Nat} {spv ov : Value} {room : Int} {ws : Nat → Wa} {w : World} (hb : Blk w b 148 #[spv, .int .i64 room, .slice (some ⟨S, 0, none⟩) n n, ov]) (hS : Stores w S n ws) : b ≠ S := fun e => by
  obtain ⟨cs, hcs⟩ := hS.1
  exact hb.ne_ hcs (by decide) e
theorem step_same {b S n k : Nat} {spv ov : Value} {room E : Int} {ws : Nat → Wa} {w w' : World} (hb : Blk w b 148 #[spv, .int .i64 room, .slice (some ⟨S, 0, none⟩) n n, ov]) (hS : Stores w S n ws) (hB : Below w.heap.size w w') : StepPost b S n spv ov room ws k E (ws k) w (.returned (.int .i64 E)) w' := by
  obtain ⟨h1, h2⟩ := turn_of hS (World.grownBy.refl w _) rfl hB
  refine ⟨rfl, hb.ext hB, ?_, h2⟩
  rw [upd_self]; exact h1
theorem step_new {b S n k : Nat} {spv ov : Value} {room E : Int} {ws : Nat → Wa} {X : Wa} {w w1 w' : World} (hb : Blk w b 148 #[spv, .int .i64 room, .slice (some ⟨S, 0, none⟩) n n, ov]) (hS : Stores w S n ws) (hX : Stores w1 S n (upd ws k X)) (hg : w.grownBy w1 (some S)) (hz : w1.heap.size = w.heap.size) (hB : Below w.heap.size w1 w') : StepPost b S n spv ov room ws k E X w (.returned (.int .i64 E)) w' := by
  obtain ⟨h1, h2⟩ := turn_of hX hg hz hB
  exact ⟨rfl, hb.grown h2 (fun e => book_ne hb hS (by injection e)), h1, h2⟩
def mouldE (x : Wa) (m : Int) : Int := if 1000000000 < x.wet + x.dry + x.burning + x.fired + x.laid + x.broken + m then 8 else 0
def mouldX (x : Wa) (m : Int) : Wa := if 1000000000 < x.wet + x.dry + x.burning + x.fired + x.laid + x.broken + m then x else x.put 0 (x.wet + m)
theorem mould_step (b S n k : Nat) (spv ov : Value) (room m : Int) (ws : Nat → Wa) (w : World) (hb : Blk w b 148 #[spv, .int .i64 room, .slice (some ⟨S, 0, none⟩) n n, ov]) (hn : n ≤ 20) (hk : k < n) (hS : Stores w S n ws) (ho : OkW (ws k)) (h0 : 0 ≤ m) (h1 : m ≤ 1000000000) : Calls Try.prog 38 #[.pointer (some ⟨b, 0, none⟩), .int .i64 k, .int .i64 m] w (StepPost b S n spv ov room ws k (mouldE (ws k) m) (mouldX (ws k) m) w) := by
  by_cases hf : 1000000000 < (ws k).wet + (ws k).dry + (ws k).burning + (ws k).fired + (ws k).laid + (ws k).broken + m
  · refine (mould_full b S n k spv ov room m (ws k) w hb hn hk (hS.2 k hk) ho h0 h1 hf).mono ?_
    rintro e w' ⟨rfl, hB⟩
    unfold mouldE mouldX
    rw [if_pos hf, if_pos hf]
    exact step_same hb hS hB
  · refine (mould_ok b S n k spv ov room m (ws k) w hb hn hk (hS.2 k hk) ho h0 h1 (by omega)).mono ?_
    rintro e w' ⟨rfl, hB⟩
    unfold mouldE mouldX
    rw [if_neg hf, if_neg hf]
    exact step_new hb hS (hS.set (k := k) (i := 0) hk (by omega) _) (grownBy_setS (World.grownBy.refl w _) _ _) (size_set _ _ _) hB
def dryE (x : Wa) (m br : Int) : Int := if ¬ (0 ≤ br ∧ br ≤ m) then 2 else if x.wet < m then 9 else 0
def dryX (x : Wa) (m br : Int) : Wa := if ¬ (0 ≤ br ∧ br ≤ m) then x else if x.wet < m then x else (((x.put 0 (x.wet - m)).put 1 (x.dry + m)).put 1 (x.dry + m - br)).put 5 (x.broken + br)
theorem dry_step (b S n k : Nat) (spv ov : Value) (room m : Int) (ws : Nat → Wa) (w : World) (hb : Blk w b 148 #[spv, .int .i64 room, .slice (some ⟨S, 0, none⟩) n n, ov]) (hn : n ≤ 20) (hk : k < n) (hS : Stores w S n ws) (ho : OkW (ws k)) (h0 : 0 ≤ m) (h1 : m ≤ 1000000000) (br : Int) : Calls Try.prog 39 #[.pointer (some ⟨b, 0, none⟩), .int .i64 k, .int .i64 m, .int .i64 br] w (StepPost b S n spv ov room ws k (dryE (ws k) m br) (dryX (ws k) m br) w) := by
  unfold dryE dryX
  by_cases hbr : 0 ≤ br ∧ br ≤ m
  · rw [if_neg (show ¬ ¬ (0 ≤ br ∧ br ≤ m) from fun h => h hbr), if_neg (show ¬ ¬ (0 ≤ br ∧ br ≤ m) from fun h => h hbr)]
    by_cases hlt : (ws k).wet < m
    · refine (dry_state b S n k spv ov room m (ws k) w hb hn hk (hS.2 k hk) ho br h0 h1 hbr hlt).mono ?_
      rintro e w' ⟨rfl, hB⟩
      rw [if_pos hlt, if_pos hlt]
      exact step_same hb hS hB
    · refine (dry_ok b S n k spv ov room m (ws k) w hb hn hk (hS.2 k hk) ho br h0 h1 hbr (by omega)).mono ?_
      rintro e w' ⟨rfl, hB⟩
      rw [if_neg hlt, if_neg hlt]
      have h := (((hS.set (k := k) (i := 0) hk (by omega) ((ws k).wet - m)).set (k := k) (i := 1) hk (by omega) ((ws k).dry + m)).set (k := k) (i := 1) hk (by omega) ((ws k).dry + m - br)).set (k := k) (i := 5) hk (by omega) ((ws k).broken + br)
      simp only [upd_upd, upd_same] at h
      exact step_new hb hS h (grownBy_setS (grownBy_setS (grownBy_setS (grownBy_setS (World.grownBy.refl w _) _ _) _ _) _ _) _ _) (by simp only [size_set]) hB
  · refine (dry_arg b S n k spv ov room m (ws k) w hb hn hk (hS.2 k hk) ho br h0 h1 hbr).mono ?_
    rintro e w' ⟨rfl, hB⟩
    rw [if_pos hbr, if_pos hbr]
    exact step_same hb hS hB
def layE (x : Wa) (m : Int) : Int := if x.fired < m then 9 else 0
def layX (x : Wa) (m : Int) : Wa := if x.fired < m then x else (x.put 3 (x.fired - m)).put 4 (x.laid + m)
theorem lay_step (b S n k : Nat) (spv ov : Value) (room m : Int) (ws : Nat → Wa) (w : World) (hb : Blk w b 148 #[spv, .int .i64 room, .slice (some ⟨S, 0, none⟩) n n, ov]) (hn : n ≤ 20) (hk : k < n) (hS : Stores w S n ws) (ho : OkW (ws k)) (h0 : 0 ≤ m) (h1 : m ≤ 1000000000) : Calls Try.prog 42 #[.pointer (some ⟨b, 0, none⟩), .int .i64 k, .int .i64 m] w (StepPost b S n spv ov room ws k (layE (ws k) m) (layX (ws k) m) w) := by
  unfold layE layX
  by_cases hlt : (ws k).fired < m
  · refine (lay_state b S n k spv ov room m (ws k) w hb hn hk (hS.2 k hk) ho h0 h1 hlt).mono ?_
    rintro e w' ⟨rfl, hB⟩
    rw [if_pos hlt, if_pos hlt]
    exact step_same hb hS hB
  · refine (lay_ok b S n k spv ov room m (ws k) w hb hn hk (hS.2 k hk) ho h0 h1 (by omega)).mono ?_
    rintro e w' ⟨rfl, hB⟩
    rw [if_neg hlt, if_neg hlt]
    have h := (hS.set (k := k) (i := 3) hk (by omega) ((ws k).fired - m)).set (k := k) (i := 4) hk (by omega) ((ws k).laid + m)
    simp only [upd_upd, upd_same] at h
    exact step_new hb hS h (grownBy_setS (grownBy_setS (World.grownBy.refl w _) _ _) _ _) (size_mv _ _ _ _ _ _) hB
def breakE (x : Wa) (m : Int) : Int := if x.laid < m then 9 else 0
def breakX (x : Wa) (m : Int) : Wa := if x.laid < m then x else ((x.put 4 (x.laid - m)).put 5 (x.broken + m)).put 6 (x.missing + m)
theorem break_step (b S n k : Nat) (spv ov : Value) (room m : Int) (ws : Nat → Wa) (w : World) (hb : Blk w b 148 #[spv, .int .i64 room, .slice (some ⟨S, 0, none⟩) n n, ov]) (hn : n ≤ 20) (hk : k < n) (hS : Stores w S n ws) (ho : OkW (ws k)) (h0 : 0 ≤ m) (h1 : m ≤ 1000000000) : Calls Try.prog 43 #[.pointer (some ⟨b, 0, none⟩), .int .i64 k, .int .i64 m] w (StepPost b S n spv ov room ws k (breakE (ws k) m) (breakX (ws k) m) w) := by
  unfold breakE breakX
  by_cases hlt : (ws k).laid < m
  · refine (break_state b S n k spv ov room m (ws k) w hb hn hk (hS.2 k hk) ho h0 h1 hlt).mono ?_
    rintro e w' ⟨rfl, hB⟩
    rw [if_pos hlt, if_pos hlt]
    exact step_same hb hS hB
  · refine (break_ok b S n k spv ov room m (ws k) w hb hn hk (hS.2 k hk) ho h0 h1 (by omega)).mono ?_
    rintro e w' ⟨rfl, hB⟩
    rw [if_neg hlt, if_neg hlt]
    have h := ((hS.set (k := k) (i := 4) hk (by omega) ((ws k).laid - m)).set (k := k) (i := 5) hk (by omega) ((ws k).broken + m)).set (k := k) (i := 6) hk (by omega) ((ws k).missing + m)
    simp only [upd_upd, upd_same] at h
    exact step_new hb hS h (grownBy_setS (grownBy_setS (grownBy_setS (World.grownBy.refl w _) _ _) _ _) _ _) (by simp only [size_set]) hB
def replE (x : Wa) (m : Int) : Int := if x.missing < m ∨ x.fired < m then 9 else 0
def replX (x : Wa) (m : Int) : Wa := if x.missing < m ∨ x.fired < m then x else ((x.put 3 (x.fired - m)).put 4 (x.laid + m)).put 6 (x.missing - m)
theorem replace_step (b S n k : Nat) (spv ov : Value) (room m : Int) (ws : Nat → Wa) (w : World) (hb : Blk w b 148 #[spv, .int .i64 room, .slice (some ⟨S, 0, none⟩) n n, ov]) (hn : n ≤ 20) (hk : k < n) (hS : Stores w S n ws) (ho : OkW (ws k)) (h0 : 0 ≤ m) (h1 : m ≤ 1000000000) : Calls Try.prog 44 #[.pointer (some ⟨b, 0, none⟩), .int .i64 k, .int .i64 m] w (StepPost b S n spv ov room ws k (replE (ws k) m) (replX (ws k) m) w) := by
  unfold replE replX
  by_cases hg : (ws k).missing < m
  · refine (replace_miss b S n k spv ov room m (ws k) w hb hn hk (hS.2 k hk) ho h0 h1 hg).mono ?_
    rintro e w' ⟨rfl, hB⟩
    rw [if_pos (.inl hg), if_pos (.inl hg)]
    exact step_same hb hS hB
  by_cases hlt : (ws k).fired < m
  · refine (replace_state b S n k spv ov room m (ws k) w hb hn hk (hS.2 k hk) ho h0 h1 (by omega) hlt).mono ?_
    rintro e w' ⟨rfl, hB⟩
    rw [if_pos (.inr hlt), if_pos (.inr hlt)]
    exact step_same hb hS hB
  · refine (replace_ok b S n k spv ov room m (ws k) w hb hn hk (hS.2 k hk) ho h0 h1 (by omega) (by omega)).mono ?_
    rintro e w' ⟨rfl, hB⟩
    rw [if_neg (by omega), if_neg (by omega)]
    have h := ((hS.set (k := k) (i := 3) hk (by omega) ((ws k).fired - m)).set (k := k) (i := 4) hk (by omega) ((ws k).laid + m)).set (k := k) (i := 6) hk (by omega) ((ws k).missing - m)
    simp only [upd_upd, upd_same] at h
    exact step_new hb hS h (grownBy_setS (grownBy_setS (grownBy_setS (World.grownBy.refl w _) _ _) _ _) _ _) (by simp only [size_set]) hB
end Go.Proofs.Ytlhekifmkkgjlaa
/- Chapter 8: calls on a book that are refused at once. -/
namespace Go.Proofs.Ytlhekifmkkgjlaa
open Go Go.RowKit Go.Shelf
set_option maxHeartbeats 2000000
set_option maxRecDepth 100000
theorem fire_hot (b S n m c q oc : Nat) (A G : Option Addr) (room : Int) (spv : Value) (w : World) (hbk : Blk w b 148 #[spv, .int .i64 room, .slice (some ⟨S, 0, none⟩) n n, .slice G q oc]) (hq : 1 ≤ q) :
    Calls Try.prog 40 #[.pointer (some ⟨b, 0, none⟩), .slice A m c] w fun e w' => e = .returned (.int .i64 9) ∧ Below w.heap.size w w' := by
  have h2 : 0 < (q : Int) := by omega
  obtain ⟨g1, c0, c1, c2, c3⟩ := bx4 hbk
  clear hbk
  go_enter Try.func40, Try.ntmps40
  go_wp2_with fail
  go_ret
  exact ⟨rfl, Below.refl _ _⟩
theorem fire_empty (b S n c : Nat) (A : Option Addr) (room : Int) (spv : Value) (w : World) (hbk : Blk w b 148 #[spv, .int .i64 room, .slice (some ⟨S, 0, none⟩) n n, .slice none 0 0]) :
    Calls Try.prog 40 #[.pointer (some ⟨b, 0, none⟩), .slice A 0 c] w fun e w' => e = .returned (.int .i64 2) ∧ Below w.heap.size w w' := by
  obtain ⟨g1, c0, c1, c2, c3⟩ := bx4 hbk
  clear hbk
  go_enter Try.func40, Try.ntmps40
  go_wp2_with fail
  go_ret
  exact ⟨rfl, Below.refl _ _⟩
theorem fire_long (b S n m c : Nat) (A : Option Addr) (room : Int) (spv : Value) (w : World) (hbk : Blk w b 148 #[spv, .int .i64 room, .slice (some ⟨S, 0, none⟩) n n, .slice none 0 0]) (hm : 20 < m) (hm2 : m ≤ maxLen) :
    Calls Try.prog 40 #[.pointer (some ⟨b, 0, none⟩), .slice A m c] w fun e w' => e = .returned (.int .i64 5) ∧ Below w.heap.size w w' := by
  unfold maxLen at hm2
  have h1 : 20 < (m : Int) := by omega
  have h2 : ¬ (m : Int) = 0 := by omega
  obtain ⟨g1, c0, c1, c2, c3⟩ := bx4 hbk
  clear hbk
  go_enter Try.func40, Try.ntmps40
  go_wp2_with fail
  go_ret
  exact ⟨rfl, Below.refl _ _⟩
theorem fire_nil (m c : Nat) (A : Option Addr) (w : World) : Calls Try.prog 40 #[.pointer none, .slice A m c] w fun e w' => e = .returned (.int .i64 1) ∧ Below w.heap.size w w' := by
  go_enter Try.func40, Try.ntmps40
  go_wp2_with fail
  go_ret
  exact ⟨rfl, Below.refl _ _⟩
theorem draw_nil (m c : Nat) (A : Option Addr) (w : World) : Calls Try.prog 41 #[.pointer none, .slice A m c] w fun e w' => e = .returned (.int .i64 1) ∧ Below w.heap.size w w' := by
  go_enter Try.func41, Try.ntmps41
  go_wp2_with fail
  go_ret
  exact ⟨rfl, Below.refl _ _⟩

theorem mould_err (b S n : Nat) (spv ov : Value) (room kind m : Int) (w : World) (hb : Blk w b 148 #[spv, .int .i64 room, .slice (some ⟨S, 0, none⟩) n n, ov]) (hn : n ≤ 20) (hn1 : 1 ≤ n) (hk : ¬ ((0 ≤ kind ∧ kind ≤ (n : Int) - 1) ∧ 0 ≤ m ∧ m ≤ 1000000000)) :
    Calls Try.prog 38 #[.pointer (some ⟨b, 0, none⟩), .int .i64 kind, .int .i64 m] w fun e w' => e = .returned (.int .i64 (if 0 ≤ kind ∧ kind ≤ (n : Int) - 1 then 3 else 7)) ∧ Below w.heap.size w w' := by
  have b0 : Below w.heap.size w (w.alloc (.cells #[.int .i64 m] 3)) := (Below.refl _ _).alloc (Nat.le_refl _) _
  by_cases hk1 : 0 ≤ kind ∧ kind ≤ (n : Int) - 1
  · rw [if_pos hk1]
    have HC := hide (fun fv => change_range b S n spv ov room kind m fv _ (hb.ext b0) hn hn1 hk1 (fun h => hk ⟨hk1, h⟩))
    have B0 := hide b0
    clear b0 hb hk hk1
    go_enter Try.func38, Try.ntmps38
    go_wp2_with fail
    refine (HC.out _).mono ?_
    rintro e w1 ⟨rfl, hb1⟩
    go_wp2_with fail
    go_ret
    exact ⟨rfl, B0.out.trans (hb1.mono (by simp only [World.size_alloc]; omega))⟩
  · rw [if_neg hk1]
    have HC := hide (fun fv => change_none b S n spv ov room kind m fv _ (hb.ext b0) hn hn1 hk1)
    have B0 := hide b0
    clear b0 hb hk hk1
    go_enter Try.func38, Try.ntmps38
    go_wp2_with fail
    refine (HC.out _).mono ?_
    rintro e w1 ⟨rfl, hb1⟩
    go_wp2_with fail
    go_ret
    exact ⟨rfl, B0.out.trans (hb1.mono (by simp only [World.size_alloc]; omega))⟩
theorem mould_nil (kind m : Int) (w : World) : Calls Try.prog 38 #[.pointer none, .int .i64 kind, .int .i64 m] w fun e w' => e = .returned (.int .i64 1) ∧ Below w.heap.size w w' := by
  have b0 : Below w.heap.size w (w.alloc (.cells #[.int .i64 m] 3)) := (Below.refl _ _).alloc (Nat.le_refl _) _
  have HC := hide (fun fv => change_nil kind m fv (w.alloc (.cells #[.int .i64 m] 3)))
  have B0 := hide b0
  clear b0
  go_enter Try.func38, Try.ntmps38
  go_wp2_with fail
  refine (HC.out _).mono ?_
  rintro e w1 ⟨rfl, hb1⟩
  go_wp2_with fail
  go_ret
  exact ⟨rfl, B0.out.trans (hb1.mono (by simp only [World.size_alloc]; omega))⟩
theorem lay_err (b S n : Nat) (spv ov : Value) (room kind m : Int) (w : World) (hb : Blk w b 148 #[spv, .int .i64 room, .slice (some ⟨S, 0, none⟩) n n, ov]) (hn : n ≤ 20) (hn1 : 1 ≤ n) (hk : ¬ ((0 ≤ kind ∧ kind ≤ (n : Int) - 1) ∧ 0 ≤ m ∧ m ≤ 1000000000)) :
    Calls Try.prog 42 #[.pointer (some ⟨b, 0, none⟩), .int .i64 kind, .int .i64 m] w fun e w' => e = .returned (.int .i64 (if 0 ≤ kind ∧ kind ≤ (n : Int) - 1 then 3 else 7)) ∧ Below w.heap.size w w' := by
  have b0 : Below w.heap.size w (w.alloc (.cells #[.int .i64 m] 3)) := (Below.refl _ _).alloc (Nat.le_refl _) _
  by_cases hk1 : 0 ≤ kind ∧ kind ≤ (n : Int) - 1
  · rw [if_pos hk1]
    have HC := hide (fun fv => change_range b S n spv ov room kind m fv _ (hb.ext b0) hn hn1 hk1 (fun h => hk ⟨hk1, h⟩))
    have B0 := hide b0
    clear b0 hb hk hk1
    go_enter Try.func42, Try.ntmps42
    go_wp2_with fail
    refine (HC.out _).mono ?_
    rintro e w1 ⟨rfl, hb1⟩
    go_wp2_with fail
    go_ret
    exact ⟨rfl, B0.out.trans (hb1.mono (by simp only [World.size_alloc]; omega))⟩
  · rw [if_neg hk1]
    have HC := hide (fun fv => change_none b S n spv ov room kind m fv _ (hb.ext b0) hn hn1 hk1)
    have B0 := hide b0
    clear b0 hb hk hk1
    go_enter Try.func42, Try.ntmps42
    go_wp2_with fail
    refine (HC.out _).mono ?_
    rintro e w1 ⟨rfl, hb1⟩
    go_wp2_with fail
    go_ret
    exact ⟨rfl, B0.out.trans (hb1.mono (by simp only [World.size_alloc]; omega))⟩
theorem lay_nil (kind m : Int) (w : World) : Calls Try.prog 42 #[.pointer none, .int .i64 kind, .int .i64 m] w fun e w' => e = .returned (.int .i64 1) ∧ Below w.heap.size w w' := by
  have b0 : Below w.heap.size w (w.alloc (.cells #[.int .i64 m] 3)) := (Below.refl _ _).alloc (Nat.le_refl _) _
  have HC := hide (fun fv => change_nil kind m fv (w.alloc (.cells #[.int .i64 m] 3)))
  have B0 := hide b0
  clear b0
  go_enter Try.func42, Try.ntmps42
  go_wp2_with fail
  refine (HC.out _).mono ?_
  rintro e w1 ⟨rfl, hb1⟩
  go_wp2_with fail
  go_ret
  exact ⟨rfl, B0.out.trans (hb1.mono (by simp only [World.size_alloc]; omega))⟩
theorem break_err (b S n : Nat) (spv ov : Value) (room kind m : Int) (w : World) (hb : Blk w b 148 #[spv, .int .i64 room, .slice (some ⟨S, 0, none⟩) n n, ov]) (hn : n ≤ 20) (hn1 : 1 ≤ n) (hk : ¬ ((0 ≤ kind ∧ kind ≤ (n : Int) - 1) ∧ 0 ≤ m ∧ m ≤ 1000000000)) :
    Calls Try.prog 43 #[.pointer (some ⟨b, 0, none⟩), .int .i64 kind, .int .i64 m] w fun e w' => e = .returned (.int .i64 (if 0 ≤ kind ∧ kind ≤ (n : Int) - 1 then 3 else 7)) ∧ Below w.heap.size w w' := by
  have b0 : Below w.heap.size w (w.alloc (.cells #[.int .i64 m] 3)) := (Below.refl _ _).alloc (Nat.le_refl _) _
  by_cases hk1 : 0 ≤ kind ∧ kind ≤ (n : Int) - 1
  · rw [if_pos hk1]
    have HC := hide (fun fv => change_range b S n spv ov room kind m fv _ (hb.ext b0) hn hn1 hk1 (fun h => hk ⟨hk1, h⟩))
    have B0 := hide b0
    clear b0 hb hk hk1
    go_enter Try.func43, Try.ntmps43
    go_wp2_with fail
    refine (HC.out _).mono ?_
    rintro e w1 ⟨rfl, hb1⟩
    go_wp2_with fail
    go_ret
    exact ⟨rfl, B0.out.trans (hb1.mono (by simp only [World.size_alloc]; omega))⟩
  · rw [if_neg hk1]
    have HC := hide (fun fv => change_none b S n spv ov room kind m fv _ (hb.ext b0) hn hn1 hk1)
    have B0 := hide b0
    clear b0 hb hk hk1
    go_enter Try.func43, Try.ntmps43
    go_wp2_with fail
    refine (HC.out _).mono ?_
    rintro e w1 ⟨rfl, hb1⟩
    go_wp2_with fail
    go_ret
    exact ⟨rfl, B0.out.trans (hb1.mono (by simp only [World.size_alloc]; omega))⟩
theorem break_nil (kind m : Int) (w : World) : Calls Try.prog 43 #[.pointer none, .int .i64 kind, .int .i64 m] w fun e w' => e = .returned (.int .i64 1) ∧ Below w.heap.size w w' := by
  have b0 : Below w.heap.size w (w.alloc (.cells #[.int .i64 m] 3)) := (Below.refl _ _).alloc (Nat.le_refl _) _
  have HC := hide (fun fv => change_nil kind m fv (w.alloc (.cells #[.int .i64 m] 3)))
  have B0 := hide b0
  clear b0
  go_enter Try.func43, Try.ntmps43
  go_wp2_with fail
  refine (HC.out _).mono ?_
  rintro e w1 ⟨rfl, hb1⟩
  go_wp2_with fail
  go_ret
  exact ⟨rfl, B0.out.trans (hb1.mono (by simp only [World.size_alloc]; omega))⟩
theorem replace_err (b S n : Nat) (spv ov : Value) (room kind m : Int) (w : World) (hb : Blk w b 148 #[spv, .int .i64 room, .slice (some ⟨S, 0, none⟩) n n, ov]) (hn : n ≤ 20) (hn1 : 1 ≤ n) (hk : ¬ ((0 ≤ kind ∧ kind ≤ (n : Int) - 1) ∧ 0 ≤ m ∧ m ≤ 1000000000)) :
    Calls Try.prog 44 #[.pointer (some ⟨b, 0, none⟩), .int .i64 kind, .int .i64 m] w fun e w' => e = .returned (.int .i64 (if 0 ≤ kind ∧ kind ≤ (n : Int) - 1 then 3 else 7)) ∧ Below w.heap.size w w' := by
  have b0 : Below w.heap.size w (w.alloc (.cells #[.int .i64 m] 3)) := (Below.refl _ _).alloc (Nat.le_refl _) _
  by_cases hk1 : 0 ≤ kind ∧ kind ≤ (n : Int) - 1
  · rw [if_pos hk1]
    have HC := hide (fun fv => change_range b S n spv ov room kind m fv _ (hb.ext b0) hn hn1 hk1 (fun h => hk ⟨hk1, h⟩))
    have B0 := hide b0
    clear b0 hb hk hk1
    go_enter Try.func44, Try.ntmps44
    go_wp2_with fail
    refine (HC.out _).mono ?_
    rintro e w1 ⟨rfl, hb1⟩
    go_wp2_with fail
    go_ret
    exact ⟨rfl, B0.out.trans (hb1.mono (by simp only [World.size_alloc]; omega))⟩
  · rw [if_neg hk1]
    have HC := hide (fun fv => change_none b S n spv ov room kind m fv _ (hb.ext b0) hn hn1 hk1)
    have B0 := hide b0
    clear b0 hb hk hk1
    go_enter Try.func44, Try.ntmps44
    go_wp2_with fail
    refine (HC.out _).mono ?_
    rintro e w1 ⟨rfl, hb1⟩
    go_wp2_with fail
    go_ret
    exact ⟨rfl, B0.out.trans (hb1.mono (by simp only [World.size_alloc]; omega))⟩
theorem replace_nil (kind m : Int) (w : World) : Calls Try.prog 44 #[.pointer none, .int .i64 kind, .int .i64 m] w fun e w' => e = .returned (.int .i64 1) ∧ Below w.heap.size w w' := by
  have b0 : Below w.heap.size w (w.alloc (.cells #[.int .i64 m] 3)) := (Below.refl _ _).alloc (Nat.le_refl _) _
  have HC := hide (fun fv => change_nil kind m fv (w.alloc (.cells #[.int .i64 m] 3)))
  have B0 := hide b0
  clear b0
  go_enter Try.func44, Try.ntmps44
  go_wp2_with fail
  refine (HC.out _).mono ?_
  rintro e w1 ⟨rfl, hb1⟩
  go_wp2_with fail
  go_ret
  exact ⟨rfl, B0.out.trans (hb1.mono (by simp only [World.size_alloc]; omega))⟩
end Go.Proofs.Ytlhekifmkkgjlaa
/- Chapter 8: the least and the greatest of seven numbers; what stays true of a kind. -/
namespace Go.Proofs.Ytlhekifmkkgjlaa
open Go Go.RowKit Go.Shelf
set_option maxRecDepth 100000
def lessOf (x y : Int) : Int := if y < x then y else x
def moreOf (x y : Int) : Int := if y > x then y else x
def min7 (a b c d e f g : Int) : Int := lessOf (lessOf (lessOf (lessOf (lessOf (lessOf a b) c) d) e) f) g
def max7 (a b c d e f g : Int) : Int := moreOf (moreOf (moreOf (moreOf (moreOf (moreOf a b) c) d) e) f) g
theorem run_min7 {P : Program} (w : World) (ts : Array TypeId) (t : TypeId) (a b c d e f g : Int) :
    (Builtin.min_ ts t #[.int .i64 a, .int .i64 b, .int .i64 c, .int .i64 d, .int .i64 e, .int .i64 f, .int .i64 g]).run P w = .ok (.int .i64 (min7 a b c d e f g)) w := by
  simp [Builtin.min_, Builtin.min2]
  rfl
theorem run_max7 {P : Program} (w : World) (ts : Array TypeId) (t : TypeId) (a b c d e f g : Int) :
    (Builtin.max_ ts t #[.int .i64 a, .int .i64 b, .int .i64 c, .int .i64 d, .int .i64 e, .int .i64 f, .int .i64 g]).run P w = .ok (.int .i64 (max7 a b c d e f g)) w := by
  simp [Builtin.max_, Builtin.max2]
  rfl
theorem lessOf_ge {x y z : Int} (h1 : z ≤ x) (h2 : z ≤ y) : z ≤ lessOf x y := by unfold lessOf; split <;> omega
theorem moreOf_le {x y z : Int} (h1 : x ≤ z) (h2 : y ≤ z) : moreOf x y ≤ z := by unfold moreOf; split <;> omega
/-- how many bricks of a kind were moulded -/
def Wa.sum (x : Wa) : Int := x.wet + x.dry + x.burning + x.fired + x.laid + x.broken
theorem okW_min {x : Wa} (h : OkW x) : 0 ≤ min7 x.wet x.dry x.burning x.fired x.laid x.broken x.missing := by
  obtain ⟨h1, h2, h3, h4, h5, h6, h7, -, -⟩ := h
  exact lessOf_ge (lessOf_ge (lessOf_ge (lessOf_ge (lessOf_ge (lessOf_ge h1 h2) h3) h4) h5) h6) h7
theorem okW_max {x : Wa} (h : OkW x) : max7 x.wet x.dry x.burning x.fired x.laid x.broken x.missing ≤ 1000000000 := by
  obtain ⟨h1, h2, h3, h4, h5, h6, h7, h8, h9⟩ := h
  exact moreOf_le (moreOf_le (moreOf_le (moreOf_le (moreOf_le (moreOf_le (by omega) (by omega)) (by omega)) (by omega)) (by omega)) (by omega)) (by omega)
theorem mouldX_ok {x : Wa} (h : OkW x) {m : Int} (h0 : 0 ≤ m) : OkW (mouldX x m) ∧ (mouldX x m).laid = x.laid ∧ (mouldX x m).broken = x.broken ∧ (mouldX x m).burning = x.burning ∧ (mouldX x m).sum = (if mouldE x m = 0 then x.sum + m else x.sum) ∧ (mouldE x m ≠ 0 → mouldX x m = x) := by
  obtain ⟨h1, h2, h3, h4, h5, h6, h7, h8, h9⟩ := h
  unfold mouldX mouldE
  by_cases hf : 1000000000 < x.wet + x.dry + x.burning + x.fired + x.laid + x.broken + m
  · rw [if_pos hf, if_pos hf]
    exact ⟨⟨h1, h2, h3, h4, h5, h6, h7, h8, h9⟩, rfl, rfl, rfl, rfl, fun _ => rfl⟩
  · rw [if_neg hf, if_neg hf]
    refine ⟨⟨by show 0 ≤ x.wet + m; omega, h2, h3, h4, h5, h6, h7, by show x.wet + m + x.dry + x.burning + x.fired + x.laid + x.broken ≤ _; omega, h9⟩, rfl, rfl, rfl, ?_, fun h => absurd rfl h⟩
    rw [if_pos rfl]
    show x.wet + m + x.dry + x.burning + x.fired + x.laid + x.broken = x.wet + x.dry + x.burning + x.fired + x.laid + x.broken + m
    omega
theorem dryX_ok {x : Wa} (h : OkW x) {m br : Int} (h0 : 0 ≤ m) : OkW (dryX x m br) ∧ (dryX x m br).laid = x.laid ∧ x.broken ≤ (dryX x m br).broken ∧ (dryX x m br).burning = x.burning ∧ (dryX x m br).sum = x.sum ∧ (dryE x m br ≠ 0 → dryX x m br = x) := by
  obtain ⟨h1, h2, h3, h4, h5, h6, h7, h8, h9⟩ := h
  unfold dryX dryE
  by_cases hb : 0 ≤ br ∧ br ≤ m
  · rw [if_neg (show ¬ ¬ (0 ≤ br ∧ br ≤ m) from fun h => h hb), if_neg (show ¬ ¬ (0 ≤ br ∧ br ≤ m) from fun h => h hb)]
    by_cases hf : x.wet < m
    · rw [if_pos hf, if_pos hf]
      exact ⟨⟨h1, h2, h3, h4, h5, h6, h7, h8, h9⟩, rfl, Int.le_refl _, rfl, rfl, fun _ => rfl⟩
    · rw [if_neg hf, if_neg hf]
      refine ⟨⟨by show 0 ≤ x.wet - m; omega, by show 0 ≤ x.dry + m - br; omega, h3, h4, h5, by show 0 ≤ x.broken + br; omega, h7, by show x.wet - m + (x.dry + m - br) + x.burning + x.fired + x.laid + (x.broken + br) ≤ _; omega, by show x.missing ≤ x.broken + br; omega⟩, rfl, by show x.broken ≤ x.broken + br; omega, rfl, ?_, fun h => absurd rfl h⟩
      show x.wet - m + (x.dry + m - br) + x.burning + x.fired + x.laid + (x.broken + br) = x.wet + x.dry + x.burning + x.fired + x.laid + x.broken
      omega
  · rw [if_pos hb, if_pos hb]
    exact ⟨⟨h1, h2, h3, h4, h5, h6, h7, h8, h9⟩, rfl, Int.le_refl _, rfl, rfl, fun _ => rfl⟩
theorem layX_ok {x : Wa} (h : OkW x) {m : Int} (h0 : 0 ≤ m) : OkW (layX x m) ∧ (layX x m).laid = (if layE x m = 0 then x.laid + m else x.laid) ∧ x.broken ≤ (layX x m).broken ∧ (layX x m).burning = x.burning ∧ (layX x m).sum = x.sum ∧ (layE x m ≠ 0 → layX x m = x) := by
  obtain ⟨h1, h2, h3, h4, h5, h6, h7, h8, h9⟩ := h
  unfold layX layE
  by_cases hf : x.fired < m
  · rw [if_pos hf, if_pos hf]
    exact ⟨⟨h1, h2, h3, h4, h5, h6, h7, h8, h9⟩, rfl, Int.le_refl _, rfl, rfl, fun _ => rfl⟩
  · rw [if_neg hf, if_neg hf, if_pos rfl]
    refine ⟨⟨h1, h2, h3, by show 0 ≤ x.fired - m; omega, by show 0 ≤ x.laid + m; omega, h6, h7, by show x.wet + x.dry + x.burning + (x.fired - m) + (x.laid + m) + x.broken ≤ _; omega, h9⟩, rfl, Int.le_refl _, rfl, ?_, fun h => absurd rfl h⟩
    show x.wet + x.dry + x.burning + (x.fired - m) + (x.laid + m) + x.broken = x.wet + x.dry + x.burning + x.fired + x.laid + x.broken
    omega
theorem breakX_ok {x : Wa} (h : OkW x) {m : Int} (h0 : 0 ≤ m) : OkW (breakX x m) ∧ (breakX x m).laid = (if breakE x m = 0 then x.laid - m else x.laid) ∧ x.broken ≤ (breakX x m).broken ∧ (breakX x m).burning = x.burning ∧ (breakX x m).sum = x.sum ∧ (breakE x m ≠ 0 → breakX x m = x) := by
  obtain ⟨h1, h2, h3, h4, h5, h6, h7, h8, h9⟩ := h
  unfold breakX breakE
  by_cases hf : x.laid < m
  · rw [if_pos hf, if_pos hf]
    exact ⟨⟨h1, h2, h3, h4, h5, h6, h7, h8, h9⟩, rfl, Int.le_refl _, rfl, rfl, fun _ => rfl⟩
  · rw [if_neg hf, if_neg hf, if_pos rfl]
    refine ⟨⟨h1, h2, h3, h4, by show 0 ≤ x.laid - m; omega, by show 0 ≤ x.broken + m; omega, by show 0 ≤ x.missing + m; omega, by show x.wet + x.dry + x.burning + x.fired + (x.laid - m) + (x.broken + m) ≤ _; omega, by show x.missing + m ≤ x.broken + m; omega⟩, rfl, by show x.broken ≤ x.broken + m; omega, rfl, ?_, fun h => absurd rfl h⟩
    show x.wet + x.dry + x.burning + x.fired + (x.laid - m) + (x.broken + m) = x.wet + x.dry + x.burning + x.fired + x.laid + x.broken
    omega
theorem replX_ok {x : Wa} (h : OkW x) {m : Int} (h0 : 0 ≤ m) : OkW (replX x m) ∧ (replX x m).laid = (if replE x m = 0 then x.laid + m else x.laid) ∧ x.broken ≤ (replX x m).broken ∧ (replX x m).burning = x.burning ∧ (replX x m).sum = x.sum ∧ (replE x m ≠ 0 → replX x m = x) := by
  obtain ⟨h1, h2, h3, h4, h5, h6, h7, h8, h9⟩ := h
  unfold replX replE
  by_cases hf : x.missing < m ∨ x.fired < m
  · rw [if_pos hf, if_pos hf]
    exact ⟨⟨h1, h2, h3, h4, h5, h6, h7, h8, h9⟩, rfl, Int.le_refl _, rfl, rfl, fun _ => rfl⟩
  · rw [if_neg hf, if_neg hf, if_pos rfl]
    refine ⟨⟨h1, h2, h3, by show 0 ≤ x.fired - m; omega, by show 0 ≤ x.laid + m; omega, h6, by show 0 ≤ x.missing - m; omega, by show x.wet + x.dry + x.burning + (x.fired - m) + (x.laid + m) + x.broken ≤ _; omega, by show x.missing - m ≤ x.broken; omega⟩, rfl, Int.le_refl _, rfl, ?_, fun h => absurd rfl h⟩
    show x.wet + x.dry + x.burning + (x.fired - m) + (x.laid + m) + x.broken = x.wet + x.dry + x.burning + x.fired + x.laid + x.broken
    omega
end Go.Proofs.Ytlhekifmkkgjlaa
/- Chapter 8: is a stack large; a copy of a stack. -/
namespace Go.Proofs.Ytlhekifmkkgjlaa
open Go Go.RowKit Go.Shelf
set_option maxHeartbeats 4000000
set_option maxRecDepth 100000
/-- the tiers of a stack, whatever their lengths -/
def StkV (w : World) (s : Stk) : Prop := s.nt ≤ maxLen ∧ P2 w w.heap.size s.A s.nt s.u s.v ∧ ∀ k, k < s.nt → s.cn k ≤ maxLen ∧ s.wn k ≤ maxLen
def bigB (s : Stk) (M : Nat) (k : Nat) : Bool := decide (M < s.cn k) || decide (M < s.wn k)
def largeB (s : Stk) : Bool := anyTo (bigB s 150) s.nt || decide (12 < s.nt)
theorem large_any (s : Stk) (w : World) (hs : StkV w s) : Calls Try.prog 25 #[.agg #[.int .i64 s.wd, .int .i64 s.hg, .slice s.A s.nt s.cap]] w fun e w' => e = .returned (.bool (largeB s)) ∧ Below w.heap.size w w' := by
  have HS := hide hs
  have hn := hs.1
  unfold maxLen at hn
  have HB := hide ((Below.refl w.heap.size w).alloc (Nat.le_refl _) (.cells #[.int .i64 s.wd, .int .i64 s.hg, .slice s.A s.nt s.cap] 55))
  have KS := hide (Blk.new w 55 #[.int .i64 s.wd, .int .i64 s.hg, .slice s.A s.nt s.cap])
  clear hs
  go_enter Try.func25, Try.ntmps25
  go_wp2_with fail
  generalize (w.alloc (.cells #[.int .i64 s.wd, .int .i64 s.hg, .slice s.A s.nt s.cap] 55)) = W1 at HB KS ⊢
  obtain ⟨a0, a1, a2, a3, a4, a5, a6⟩ := blk3 KS.out
  go_loop [3] (fun i => ∃ k : Nat, i = .int .i64 k ∧ k ≤ s.nt ∧ Hid (anyTo (bigB s 150) k = false)) (fun i => s.nt - (intOf i).toNat)
  case atStart => exact ⟨0, rfl, by omega, hide rfl⟩
  case round =>
    obtain ⟨k, rfl, hk, HN⟩ := hrel
    by_cases hlt : k < s.nt
    · obtain ⟨tb, toff, hA, htb, hu, hv⟩ := P2.at_ (HS.out.2.1.below HB.out (Nat.le_refl _)) hlt
      obtain ⟨l1, l2⟩ := HS.out.2.2 k hlt
      unfold maxLen at l1 l2
      rw [hA] at a3
      have i1 : (0 : Int) ≤ (k : Int) := by omega
      have i2 : (k : Int) < (s.nt : Int) := by omega
      unfold Stk.u at hu
      unfold Stk.v at hv
      have hbig : bigB s 150 k = true → largeB s = true := fun h => by
        unfold largeB
        rw [(anyTo_iff _ _).2 ⟨k, hlt, h⟩, Bool.true_or]
      have HBG := hide hbig
      clear hbig
      by_cases c1 : 150 < s.cn k
      · have c1' : (150 : Int) < (s.cn k : Int) := by omega
        have HX := hide c1
        clear c1
        go_wp2_with fail
        go_ret
        exact ⟨by rw [HBG.out (by unfold bigB; rw [decide_eq_true HX.out, Bool.true_or])]; rfl, HB.out⟩
      · have c1' : ¬ (150 : Int) < (s.cn k : Int) := by omega
        by_cases c2 : 150 < s.wn k
        · have c2' : (150 : Int) < (s.wn k : Int) := by omega
          have HX := hide c2
          clear c1 c2
          go_wp2_with fail
          go_ret
          exact ⟨by rw [HBG.out (by unfold bigB; rw [decide_eq_true HX.out, Bool.or_true])]; rfl, HB.out⟩
        · have c2' : ¬ (150 : Int) < (s.wn k : Int) := by omega
          have HX : Hid (bigB s 150 k = false) := hide (by unfold bigB; rw [decide_eq_false c1, decide_eq_false c2]; rfl)
          clear c1 c2
          go_wp2_with fail
          go_round
          case rel => exact ⟨k + 1, by go_num, by omega, hide (by show (anyTo (bigB s 150) k || bigB s 150 k) = false; rw [HN.out, HX.out]; rfl)⟩
          case measure => simp [intOf]; omega
    · obtain rfl : k = s.nt := by omega
      have HL : Hid (largeB s = decide ((12 : Int) < (s.nt : Int))) := hide (by unfold largeB; rw [HN.out, Bool.false_or, Bool.eq_iff_iff]; simp; omega)
      go_wp2_with fail
      go_ret
      exact ⟨by rw [HL.out]; rfl, HB.out⟩
end Go.Proofs.Ytlhekifmkkgjlaa
/- How a law's statement follows from its walk; arguments opened as readings. -/
namespace Go.Proofs.Ytlhekifmkkgjlaa
open Go Go.RowKit Go.ChangeShapes Go.WideShapes Go.ChangeAt
set_option maxRecDepth 100000
theorem own_knob : ownKnob Try.prog.godebug = none := by kernel_rfl
theorem laidOut : laidOutB Try.prog = true := by kernel_rfl
section
variable {H : Type} {enc : TypeId × Value → H}
/-- arguments read behind the call as before, if below the heap's old size nothing has turned -/
theorem stay_all {W W' : World} (hb : Below W.heap.size W W') {sp : Nat → Bool} : ∀ {ts : List TypeId} {vs : List Value} {ds : List (DataW H)} {ps : List MemPlace},
    (∀ t ∈ ts, Try.prog.readableRec t = true ∧ t < Try.prog.types.size) → DataW.TrodAll enc Try.prog W 0 (fun _ => true) true ts vs ds ps → (∀ x ∈ ps, x.block < W.heap.size) → (∀ x ∈ ps, sp x.block = true) →
    DataW.TrodAll enc Try.prog W' 0 sp true ts vs ds ps
  | [], _, _, _, _, h, _, _ => by
    obtain ⟨rfl, rfl, rfl⟩ := trodAll_nil h
    exact trodAll_mk0
  | t :: ts, _, _, _, hr, h, hlt, hsp => by
    obtain ⟨v, vs, d, ds, p, q, rfl, rfl, rfl, h0, r0⟩ := trodAll_cons h
    have k := hr t (by simp)
    exact trodAll_cons_mk (WideElems.Trod_stays laidOut k.1 k.2 h0 (fun x hx => hb.same (hlt x (by simp [hx]))) (fun x hx => hsp x (by simp [hx])))
      (stay_all hb (fun t ht => hr t (by simp [ht])) r0 (fun x hx => hlt x (by simp [hx])) (fun x hx => hsp x (by simp [hx])))
/-- a law that returned true and turned nothing old -/
theorem law_post {f : Func} {s : ChangeSpec} {apart fresh handsOn again : Bool} {W W' : World} {args : Array Value} {ds gs : List (DataW H)} {before : List MemPlace}
    (hW : DataW.Whole enc Try.prog f.params.toList s.vars apart W args.toList ds gs before) (hb : Below W.heap.size W W')
    (hvs : s.vars = []) (hr1 : f.resultTypes = #[4])
    (hpar : f.params.toList.all (fun t => Try.prog.readableRec t && decide (t < Try.prog.types.size)) = true)
    (hfn : (s.fn H ds).results = [.lit (.bool true)] ∧ (s.fn H ds).args = ds ∧ (s.fn H ds).vars = []) :
    s.post enc Try.prog f apart fresh handsOn again W args (.bool true) W' := by
  have hW0 := hW
  have hlt : ∀ p ∈ before, p.block < W.heap.size := fun p hp => hW.lt p hp
  have hold : ∀ p ∈ before, (fun b => decide (b < W.heap.size)) p.block = true := fun p hp => by simpa using hlt p hp
  obtain ⟨p, q, hA, hV, rfl, hz, hn⟩ := hW
  rw [hvs] at hV
  obtain ⟨rfl, rfl⟩ := trodVars_none hV
  simp only [List.append_nil] at *
  have hk : ∀ t ∈ f.params.toList, Try.prog.readableRec t = true ∧ t < Try.prog.types.size := by
    intro t ht
    have := List.all_eq_true.1 hpar t ht
    simpa using this
  have hargs : ∀ sp : Nat → Bool, (∀ x ∈ p, sp x.block = true) → DataW.TrodAll enc Try.prog W' 0 sp true f.params.toList args.toList (s.fn H (ds ++ [])).args p := fun sp hsp => by
    rw [List.append_nil, hfn.2.1]; exact stay_all hb hk hA hlt hsp
  have hvars : ∀ sp : Nat → Bool, DataW.TrodVars enc Try.prog W' sp s.vars (s.fn H (ds ++ [])).vars [] := fun sp => by
    rw [hvs, List.append_nil, hfn.2.2]; exact rfl
  have hres : ∀ (b : Nat) (sp : Nat → Bool) (hd : Bool), DataW.TrodAll enc Try.prog W' b sp hd f.resultTypes.toList ((Value.bool true).resultList f.resultTypes.size) (s.fn H (ds ++ [])).results [] := fun b sp hd => by
    rw [List.append_nil, hfn.1, hr1]
    exact trodAll_cons_mk (shut_bool Try.underlying4 _) trodAll_mk0
  refine ⟨ds, [], p, [], p, [], hW0, hres _ _ _, hargs _ hold, hvars _, World.keptBut_mono (fun x hx => ⟨hx, Or.inr (by simpa using hx)⟩) (hb.frame (· ∈ p)), fun _ => ?_⟩
  refine ⟨ok_one hr1 rfl (okWide_bool_mk Try.underlying4 _), _, _, ([] ++ p) ++ [], ⟨[] ++ p, [], trodAll_append (hargs _ (fun _ _ => rfl)) (hres _ _ _), hvars (fun _ => true), rfl, ?_, ?_⟩, ?_⟩
  · intro b off hp
    have hin : MemPlace.cell b off ∈ p := by simpa using hp
    rw [hb.frozen (hlt _ hin)]
    exact hz b off hin
  · intro ha
    simpa using hn ha
  · intro x hx _
    simpa using hx
/-- a slice of structs of two cells: the readings of its elements -/
theorem open_pairs_c {W : World} {t e : TypeId} {f0 f1 : Field} {v : Value} {x : DataW H × List MemPlace} {fuel : Nat} (ht : Try.prog.underlying t = some (.slice e)) (he : Try.prog.underlying e = some (.struct #[f0, f1]))
    (ce : Try.prog.cellsOf e = 2) (o0 : f0.offset = 0) (o1 : f1.offset = 1) (c0 : Try.prog.cellsOf f0.type = 1) (c1 : Try.prog.cellsOf f1.type = 1)
    (h : DataW.trod enc Try.prog W 0 (fun _ => true) true fuel t [v] = some x) (hlt : ∀ y ∈ x.2, y.block < W.heap.size) :
    ∃ A n c V0 V1, v = .slice A n c ∧ n ≤ maxLen ∧ n ≤ c ∧ P2 W W.heap.size A n V0 V1 ∧ ∀ i, i < n → ∃ m x0 x1, DataW.trod enc Try.prog W 0 (fun _ => true) true m f0.type [V0 i] = some x0 ∧ DataW.trod enc Try.prog W 0 (fun _ => true) true m f1.type [V1 i] = some x1 ∧
      (∀ y ∈ x0.2, y.block < W.heap.size) ∧ (∀ y ∈ x1.2, y.block < W.heap.size) := by
  rcases Deep.open_slice_pairs ht he ce o0 o1 c0 c1 h with ⟨h1, -⟩ | ⟨a, len, cap, m, n, V0, V1, D0, D1, P0, P1, h1, hb, hl, hm, hmm, hx, hc⟩
  · injection h1 with h1
    subst h1
    exact ⟨none, 0, 0, fun _ => .nilIface, fun _ => .nilIface, rfl, by simp [maxLen], Nat.le_refl _, ER.nil _ _ _ _ _, fun i hi => absurd hi (by omega)⟩
  · injection h1 with h1
    subst h1
    simp only [if_true] at hmm
    subst hmm
    refine ⟨some a, len, m, V0, V1, rfl, by omega, hl, fun hn => ?_, fun i hi => ?_⟩
    · have h0 := (hc 0 (by omega)).1
      obtain ⟨b, off, spot⟩ := a
      have hsp : spot = none := by simpa [Addr.add] using World.cell?_spot h0
      subst hsp
      refine ⟨b, off, rfl, ?_, fun k i hk hi => ?_⟩
      · have hb1 := hlt (.cell b (off + 0)) (by
          rw [hx]
          exact List.mem_append_left _ (MemPlace.mem_row.2 ⟨0, by omega, rfl⟩))
        exact hb1
      · have hk2 := hc k (by omega)
        have q0 := hk2.1
        have q1 := hk2.2.1
        rw [add_lit'] at q0 q1
        rcases (by omega : i = 0 ∨ i = 1) with rfl | rfl
        · simpa using q0
        · simpa [Nat.add_assoc] using q1
    · have hi2 := hc i (by omega)
      refine ⟨n, _, _, hi2.2.2.1, hi2.2.2.2, fun y hy => hlt y ?_, fun y hy => hlt y ?_⟩
      · rw [hx]; exact List.mem_append_right _ (List.mem_flatMap.2 ⟨i, by simp; omega, List.mem_append_left _ hy⟩)
      · rw [hx]; exact List.mem_append_right _ (List.mem_flatMap.2 ⟨i, by simp; omega, List.mem_append_right _ hy⟩)
/-- a slice of ints -/
theorem open_ints_c {W : World} {t : TypeId} {v : Value} {x : DataW H × List MemPlace} {fuel : Nat} (ht : Try.prog.underlying t = some (.slice 3))
    (h : DataW.trod enc Try.prog W 0 (fun _ => true) true fuel t [v] = some x) (hlt : ∀ y ∈ x.2, y.block < W.heap.size) :
    ∃ A n c z, v = .slice A n c ∧ n ≤ maxLen ∧ n ≤ c ∧ IR W W.heap.size A n z ∧ ∀ i, i < n → -9223372036854775808 ≤ z i ∧ z i ≤ 9223372036854775807 := by
  rcases open_ints ht Try.underlying3 (by kernel_rfl) h with ⟨h1, -⟩ | ⟨a, len, cap, zs, h1, hb, hl, hm, hz, hx, hc, hwf⟩
  · injection h1 with h1
    subst h1
    exact ⟨none, 0, 0, fun _ => 0, rfl, by simp [maxLen], Nat.le_refl _, ER.nil _ _ _ _ _, fun i hi => absurd hi (by omega)⟩
  · injection h1 with h1
    subst h1
    simp only [if_true] at hz
    refine ⟨some a, len, cap, fun i => zs.getD i 0, rfl, by omega, hl, fun hn => ?_, fun i hi => ?_⟩
    · have h0 := hc 0 (by omega)
      obtain ⟨b, off, spot⟩ := a
      have hsp : spot = none := by simpa [Addr.add] using World.cell?_spot h0
      subst hsp
      refine ⟨b, off, rfl, ?_, fun k i hk hi => ?_⟩
      · have hb1 := hlt (.cell b (off + 0)) (by
          rw [hx]
          exact MemPlace.mem_row.2 ⟨0, by omega, rfl⟩)
        exact hb1
      · obtain rfl : i = 0 := by omega
        have := hc k (by omega)
        rw [add_lit'] at this
        simpa using this
    · have h1 : zs.getD i 0 ∈ zs := by
        rw [List.getD_eq_getElem?_getD, List.getElem?_eq_getElem (by omega)]
        exact List.getElem_mem _
      have := hwf _ h1
      simp only [Lit.wf, Bool.and_eq_true, decide_eq_true_eq] at this
      simpa [IntKind.min, IntKind.max, IntKind.signed, IntKind.bits] using this
theorem int_of_trod {W : World} {t : TypeId} {v : Value} {x : DataW H × List MemPlace} {fuel : Nat} (ht : Try.prog.underlying t = some (.int .i64)) (h : DataW.trod enc Try.prog W 0 (fun _ => true) true fuel t [v] = some x) :
    v = .int .i64 (intOf v) ∧ -9223372036854775808 ≤ intOf v ∧ intOf v ≤ 9223372036854775807 := by
  obtain ⟨z, hz, -, hw⟩ := DataW.trod_int ht h
  injection hz with hz
  subst hz
  simp only [Lit.wf, Bool.and_eq_true, decide_eq_true_eq] at hw
  exact ⟨rfl, by simpa [intOf, IntKind.min, IntKind.max, IntKind.signed, IntKind.bits] using hw⟩
theorem cells_slice {A : Option Addr} {n c : Nat} : (Value.slice A n c).cells.toList = [.slice A n c] := rfl
/-- a slice of structs of two ints -/
theorem open_pairs {r : Reach} {b0 : Nat} {W : World} {t e : TypeId} {f0 f1 : Field} {v : Value} {d : DataW H} {p : List MemPlace} (ht : Try.prog.underlying t = some (.slice e)) (he : Try.prog.underlying e = some (.struct #[f0, f1]))
    (ce : Try.prog.cellsOf e = 2) (o0 : f0.offset = 0) (o1 : f1.offset = 1) (c0 : Try.prog.cellsOf f0.type = 1) (c1 : Try.prog.cellsOf f1.type = 1)
    (k0 : Try.prog.underlying f0.type = some (.int .i64)) (k1 : Try.prog.underlying f1.type = some (.int .i64)) (hval : Value.okWide Try.prog W r b0 t v)
    (h : DataW.Trod enc Try.prog W 0 (fun _ => true) true t v d p) (hlt : ∀ x ∈ p, x.block < W.heap.size) :
    ∃ A n c x y, v = .slice A n c ∧ n ≤ maxLen ∧ n ≤ c ∧ PI W W.heap.size A n x y := by
  obtain ⟨fuel, h⟩ := h
  obtain ⟨A, n, c, rfl⟩ := okWide_slice ht hval
  rw [cells_slice] at h
  obtain ⟨A', n', c', V0, V1, h1, hn, hnc, hP, hV⟩ := open_pairs_c ht he ce o0 o1 c0 c1 h hlt
  injection h1 with h1 h2 h3
  subst h1 h2 h3
  refine ⟨A, n, c, fun i => intOf (V0 i), fun i => intOf (V1 i), rfl, hn, hnc, fun hn0 => ?_⟩
  obtain ⟨b, off, hA, hb, hc⟩ := hP hn0
  refine ⟨b, off, hA, hb, fun k i hk hi => ?_⟩
  obtain ⟨m, x0, x1, g0, g1, -, -⟩ := hV k hk
  rw [hc k i hk hi]
  rcases (by omega : i = 0 ∨ i = 1) with rfl | rfl
  · simpa using (int_of_trod k0 g0).1
  · simpa using (int_of_trod k1 g1).1
end
end Go.Proofs.Ytlhekifmkkgjlaa
/- Chapter 8: a copy of a stack. -/
namespace Go.Proofs.Ytlhekifmkkgjlaa
open Go Go.RowKit Go.Shelf
set_option maxHeartbeats 4000000
set_option maxRecDepth 100000
theorem info_tier : (Try.prog.info? 72).map (fun i => (i.zero, i.size, i.bytes)) = some (some (.agg #[.slice none 0 0, .slice none 0 0]), 2, 48) := by kernel_rfl
theorem rows_ne {w : World} {base base' : Nat} {e e' : TypeId} {sz sz' n n' : Nat} {v v' : Value} {xs xs' : List Value} (h : w.ownsRow base e sz v n xs) (h' : w.ownsRow base' e' sz' v' n' xs') (hne : e ≠ e') : v.ownBlock = none ∨ v.ownBlock ≠ v'.ownBlock := by
  rcases h'.2 with ⟨rfl, -⟩ | ⟨g, cap, cur, rfl, -, hg, -⟩
  · rcases h.2 with ⟨rfl, -⟩ | ⟨g', cap', cur', rfl, -⟩
    · exact .inl rfl
    · exact .inr (by simp [Value.ownBlock])
  · exact .inr (own_blk_ne h (show Blk w g e' cur from hg) hne)
def tierV (s : Stk) (ca wa : Nat → Option Addr) (cc wc : Nat → Nat) (j i : Nat) : Value := if i = 0 then .slice (ca j) (s.cn j) (cc j) else .slice (wa j) (s.wn j) (wc j)
def rowI (w : World) (base : Nat) (A : Option Addr) (n c : Nat) (x : Nat → Int) : Prop := w.ownsRow base 3 1 (.slice A n c) n (cellsOf 1 n fun i _ => .int .i64 (x i))
theorem rowI.kept {w w' : World} {base n c : Nat} {A : Option Addr} {x : Nat → Int} {row : Option Nat} (h : rowI w base A n c x) (hg : w.grownBy w' row) (hne : (Value.slice A n c).ownBlock = none ∨ (Value.slice A n c).ownBlock ≠ row) : rowI w' base A n c x := World.ownsRow.kept h hg hne
theorem rowI.ext {w w' : World} {base n c : Nat} {A : Option Addr} {x : Nat → Int} (h : rowI w base A n c x) (hb : Below w.heap.size w w') : rowI w' base A n c x := ownBelow h hb
theorem rowI.ir {w : World} {base n c : Nat} {A : Option Addr} {x : Nat → Int} (h : rowI w base A n c x) : IR w w.heap.size A n x := by
  obtain ⟨A', c', hv, hE, -⟩ := ER.of_own h (by omega)
  injection hv with h1 h2 h3
  subst h1
  exact hE
/-- k tiers copied into v -/
structure OwnRel (w : World) (s : Stk) (k : Nat) (v : Value) (ca wa : Nat → Option Addr) (cc wc : Nat → Nat) (wr : World) : Prop where
  below : Below w.heap.size w wr
  bx : Blk wr w.heap.size 55 #[.int .i64 s.wd, .int .i64 s.hg, .slice s.A s.nt s.cap]
  rb : Blk wr (w.heap.size + 1) 55 #[.int .i64 0, .int .i64 0, .slice none 0 0]
  own : wr.ownsRow w.heap.size 72 2 v k (cellsOf 2 k (tierV s ca wa cc wc))
  rows : ∀ j, j < k → rowI wr w.heap.size (ca j) (s.cn j) (cc j) (s.cf j) ∧ rowI wr w.heap.size (wa j) (s.wn j) (wc j) (s.wf j)
theorem OwnRel.ext {w wr w' : World} {s : Stk} {k : Nat} {v : Value} {ca wa : Nat → Option Addr} {cc wc : Nat → Nat} (h : OwnRel w s k v ca wa cc wc wr) (hb : Below wr.heap.size wr w') : OwnRel w s k v ca wa cc wc w' :=
  ⟨h.below.trans (hb.mono h.below.size), h.bx.ext hb, h.rb.ext hb, ownBelow h.own hb, fun j hj => ⟨(h.rows j hj).1.ext hb, (h.rows j hj).2.ext hb⟩⟩
theorem cellsOf_two (n : Nat) (g : Nat → Nat → Value) : cellsOf 2 (n + 1) g = cellsOf 2 n g ++ [g n 0, g n 1] := by
  unfold cellsOf
  rw [show (n + 1) * 2 = n * 2 + 1 + 1 by omega, List.range_succ, List.range_succ, List.map_append, List.map_append, List.append_assoc]
  congr 1
  simp only [List.map_cons, List.map_nil, List.cons_append, List.nil_append]
  rw [show n * 2 / 2 = n by omega, show n * 2 % 2 = 0 by omega, show (n * 2 + 1) / 2 = n by omega, show (n * 2 + 1) % 2 = 1 by omega]
theorem cellsOf_same {sz n : Nat} {g g' : Nat → Nat → Value} (h : ∀ j i, j < n → i < sz → g j i = g' j i) (hs : 0 < sz) : cellsOf sz n g = cellsOf sz n g' := by
  unfold cellsOf
  refine List.map_congr_left fun j hj => h _ _ ?_ (Nat.mod_lt _ hs)
  have := List.mem_range.1 hj
  exact (Nat.div_lt_iff_lt_mul hs).2 this
theorem OwnRel.step {w wr w2 w3 : World} {s : Stk} {k : Nat} {v v' : Value} {ca wa : Nat → Option Addr} {cc wc : Nat → Nat} {A B : Option Addr} {c d : Nat} (h : OwnRel w s k v ca wa cc wc wr) (hb : Below wr.heap.size wr w2)
    (hA : rowI w2 w.heap.size A (s.cn k) c (s.cf k)) (hB : rowI w2 w.heap.size B (s.wn k) d (s.wf k)) (hg : w2.grownBy w3 v.ownBlock)
    (ho : w3.ownsRow w.heap.size 72 2 v' (k + 1) (cellsOf 2 k (tierV s ca wa cc wc) ++ [.slice A (s.cn k) c, .slice B (s.wn k) d])) :
    OwnRel w s (k + 1) v' (upd ca k A) (upd wa k B) (upd cc k c) (upd wc k d) w3 := by
  have h2 := h.ext hb
  have hlt : ∀ j, v.ownBlock = some j → w.heap.size ≤ j := fun j hj => (h2.own.lt j hj).1
  refine ⟨h2.below.grown hg h2.below.size hlt, h2.bx.grown hg (fun e => own_blk_ne h2.own h2.bx (by decide) e.symm), h2.rb.grown hg (fun e => own_blk_ne h2.own h2.rb (by decide) e.symm), ?_, fun j hj => ?_⟩
  · rw [cellsOf_two, cellsOf_same (g := tierV s (upd ca k A) (upd wa k B) (upd cc k c) (upd wc k d)) (g' := tierV s ca wa cc wc) (fun j i hj hi => by unfold tierV; rw [upd_ne _ _ (by omega), upd_ne _ _ (by omega), upd_ne _ _ (by omega), upd_ne _ _ (by omega)]) (by omega)]
    have e0 : tierV s (upd ca k A) (upd wa k B) (upd cc k c) (upd wc k d) k 0 = .slice A (s.cn k) c := by unfold tierV; rw [if_pos rfl, upd_same, upd_same]
    have e1 : tierV s (upd ca k A) (upd wa k B) (upd cc k c) (upd wc k d) k 1 = .slice B (s.wn k) d := by unfold tierV; rw [if_neg (by omega), upd_same, upd_same]
    rw [e0, e1]
    exact ho
  · by_cases e : j = k
    · subst e
      simp only [upd_same]
      exact ⟨hA.kept hg (rows_ne hA h2.own (by decide)), hB.kept hg (rows_ne hB h2.own (by decide))⟩
    · rw [upd_ne _ _ e, upd_ne _ _ e, upd_ne _ _ e, upd_ne _ _ e]
      obtain ⟨r1, r2⟩ := h2.rows j (by omega)
      exact ⟨r1.kept hg (rows_ne r1 h2.own (by decide)), r2.kept hg (rows_ne r2 h2.own (by decide))⟩
def Stk.at (s : Stk) (A : Option Addr) (c : Nat) (ca wa : Nat → Option Addr) (cc wc : Nat → Nat) : Stk := { s with A := A, cap := c, ca := ca, wa := wa, cc := cc, wc := wc }
def OwnPost (s : Stk) (w : World) (e : Ending) (w' : World) : Prop :=
  ∃ A c ca wa cc wc, e = .returned (.agg #[.int .i64 s.wd, .int .i64 s.hg, .slice A s.nt c]) ∧ StkR w' w'.heap.size (s.at A c ca wa cc wc) ∧ Below w.heap.size w w'
theorem OwnRel.stk {w wr : World} {s : Stk} {A : Option Addr} {c : Nat} {ca wa : Nat → Option Addr} {cc wc : Nat → Nat} (h : OwnRel w s s.nt (.slice A s.nt c) ca wa cc wc wr) (hs : StkR w w.heap.size s) : StkR wr wr.heap.size (s.at A c ca wa cc wc) := by
  obtain ⟨A', c', hv, hE, -⟩ := ER.of_own h.own (by omega)
  injection hv with h1 h2 h3
  subst h1 h3
  exact ⟨hs.1, hE, fun k hk => ⟨(hs.2.2 k hk).1, (hs.2.2 k hk).2.1, (h.rows k hk).1.ir, (h.rows k hk).2.ir⟩⟩
/-- the two boxes are written at the end -/
theorem OwnRel.shut {w wr : World} {s : Stk} {A : Option Addr} {c : Nat} {ca wa : Nat → Option Addr} {cc wc : Nat → Nat} (h : OwnRel w s s.nt (.slice A s.nt c) ca wa cc wc wr) (a b d e : Value) :
    Below w.heap.size w ((((wr.setCell ⟨w.heap.size, 2, none⟩ a).setCell ⟨w.heap.size + 1, 0, none⟩ b).setCell ⟨w.heap.size + 1, 1, none⟩ d).setCell ⟨w.heap.size + 1, 2, none⟩ e) ∧ (StkR w w.heap.size s →
    StkR ((((wr.setCell ⟨w.heap.size, 2, none⟩ a).setCell ⟨w.heap.size + 1, 0, none⟩ b).setCell ⟨w.heap.size + 1, 1, none⟩ d).setCell ⟨w.heap.size + 1, 2, none⟩ e) ((((wr.setCell ⟨w.heap.size, 2, none⟩ a).setCell ⟨w.heap.size + 1, 0, none⟩ b).setCell ⟨w.heap.size + 1, 1, none⟩ d).setCell ⟨w.heap.size + 1, 2, none⟩ e).heap.size (s.at A c ca wa cc wc)) := by
  have hb : Below w.heap.size w ((((wr.setCell ⟨w.heap.size, 2, none⟩ a).setCell ⟨w.heap.size + 1, 0, none⟩ b).setCell ⟨w.heap.size + 1, 1, none⟩ d).setCell ⟨w.heap.size + 1, 2, none⟩ e) :=
    (((h.below.setCell (p := ⟨w.heap.size, 2, none⟩) (Nat.le_refl _) _).setCell (p := ⟨w.heap.size + 1, 0, none⟩) (by show w.heap.size ≤ w.heap.size + 1; omega) _).setCell (p := ⟨w.heap.size + 1, 1, none⟩) (by show w.heap.size ≤ w.heap.size + 1; omega) _).setCell (p := ⟨w.heap.size + 1, 2, none⟩) (by show w.heap.size ≤ w.heap.size + 1; omega) _
  refine ⟨hb, fun hs => ?_⟩
  have g1 := grownBy_setC wr w.heap.size 2 a
  have hr : ∀ j, j < s.nt → rowI (wr.setCell ⟨w.heap.size, 2, none⟩ a) w.heap.size (ca j) (s.cn j) (cc j) (s.cf j) ∧ rowI (wr.setCell ⟨w.heap.size, 2, none⟩ a) w.heap.size (wa j) (s.wn j) (wc j) (s.wf j) := fun j hj => ⟨(h.rows j hj).1.kept g1 (.inr (own_blk_ne (h.rows j hj).1 h.bx (by decide))), (h.rows j hj).2.kept g1 (.inr (own_blk_ne (h.rows j hj).2 h.bx (by decide)))⟩
  have ho := World.ownsRow.kept h.own g1 (.inr (own_blk_ne h.own h.bx (by decide)))
  have hrb : Blk (wr.setCell ⟨w.heap.size, 2, none⟩ a) (w.heap.size + 1) 55 #[.int .i64 0, .int .i64 0, .slice none 0 0] := h.rb.far (by show w.heap.size + 1 ≠ w.heap.size; omega) _
  generalize wr.setCell ⟨w.heap.size, 2, none⟩ a = w1 at hb hr ho hrb ⊢
  have g2 := grownBy_setS (grownBy_setS (grownBy_setS (World.grownBy.refl w1 (some (w.heap.size + 1))) 0 b) 1 d) 2 e
  generalize ((w1.setCell ⟨w.heap.size + 1, 0, none⟩ b).setCell ⟨w.heap.size + 1, 1, none⟩ d).setCell ⟨w.heap.size + 1, 2, none⟩ e = w2 at hb g2 ⊢
  have ho2 := ho.kept g2 (.inr (own_blk_ne ho hrb (by decide)))
  obtain ⟨A', c', hv, hE, -⟩ := ER.of_own ho2 (by omega)
  injection hv with h1 h2 h3
  subst h1 h3
  exact ⟨hs.1, hE, fun k hk => ⟨(hs.2.2 k hk).1, (hs.2.2 k hk).2.1, rowI.ir ((hr k hk).1.kept g2 (.inr (own_blk_ne (hr k hk).1 hrb (by decide)))), rowI.ir ((hr k hk).2.kept g2 (.inr (own_blk_ne (hr k hk).2 hrb (by decide))))⟩⟩
end Go.Proofs.Ytlhekifmkkgjlaa
/- Chapter 8: a copy of a stack, walked. -/
namespace Go.Proofs.Ytlhekifmkkgjlaa
open Go Go.RowKit Go.Shelf
set_option maxHeartbeats 4000000
set_option maxRecDepth 100000
theorem ints_one (n : Nat) (x : Nat → Int) : ∀ u ∈ cellsOf 1 n (fun i _ => Value.int .i64 (x i)), u.oneCell' = true := by
  intro u hu
  unfold cellsOf at hu
  obtain ⟨j, -, rfl⟩ := List.mem_map.1 hu
  rfl
theorem tier_read (w : World) (a b : Value) (e : TypeId) : Reads (w.alloc (.cells #[a, b] e)) (w.heap.size + 1) 2 (some ⟨w.heap.size, 0, none⟩) 1 [a, b] := by
  have h : ER (w.alloc (.cells #[a, b] e)) (w.heap.size + 1) 2 (some ⟨w.heap.size, 0, none⟩) 1 (fun _ i => if i = 0 then a else b) := fun _ => ⟨w.heap.size, 0, rfl, by omega, fun k i hk hi => by
    obtain rfl : k = 0 := by omega
    obtain ⟨-, z1, z2⟩ := bx2 (Blk.new w e #[a, b])
    rcases (by omega : i = 0 ∨ i = 1) with rfl | rfl
    · simpa using z1
    · simpa using z2⟩
  have h2 := h.reads (by omega)
  have e2 : cellsOf 2 1 (fun _ i => if i = 0 then a else b) = [a, b] := by
    simp [cellsOf, List.range_succ]
  rw [e2] at h2
  exact h2
theorem own_any (s : Stk) (w : World) (hs : StkR w w.heap.size s) (hn : s.nt ≤ 65536) (hm : ∀ k, k < s.nt → s.cn k ≤ 65536 ∧ s.wn k ≤ 65536) : Calls Try.prog 27 #[.agg #[.int .i64 s.wd, .int .i64 s.hg, .slice s.A s.nt s.cap]] w (OwnPost s w) := by
  have HSS := hide hs
  have HM := hide hm
  obtain ⟨i0, hi, hz0, hz1, hz2⟩ := info_parts info_int
  obtain ⟨t0, hti, htz0, htz1, htz2⟩ := info_parts info_tier
  have HI := hide (show _ ∧ _ ∧ _ ∧ _ from ⟨hi, hz0, hz1, hz2⟩)
  have HT := hide (show _ ∧ _ ∧ _ ∧ _ from ⟨hti, htz0, htz1, htz2⟩)
  clear hs hm hi hz0 hz1 hz2 hti htz0 htz1 htz2
  go_enter Try.func27, Try.ntmps27
  go_wp2_with fail
  have HR0 : Hid (OwnRel w s 0 (.slice (some ⟨w.heap.size + 1 + 1, 0, none⟩) 0 0) (fun _ => none) (fun _ => none) (fun _ => 0) (fun _ => 0) (((w.alloc (.cells #[.int .i64 s.wd, .int .i64 s.hg, .slice s.A s.nt s.cap] 55)).alloc (.cells #[.int .i64 0, .int .i64 0, .slice none 0 0] 55)).alloc (.cells #[] 72))) := hide ⟨(((Below.refl _ _).alloc (Nat.le_refl _) _).alloc (by simp) _).alloc (by simp only [World.size_alloc]; omega) _, ((Blk.new w _ _).alloc _).alloc _, by simpa using (Blk.new (w.alloc (.cells #[.int .i64 s.wd, .int .i64 s.hg, .slice s.A s.nt s.cap] 55)) 55 #[.int .i64 0, .int .i64 0, .slice none 0 0]).alloc (.cells #[] 72),
    by
      have h := own_empty ((w.alloc (.cells #[.int .i64 s.wd, .int .i64 s.hg, .slice s.A s.nt s.cap] 55)).alloc (.cells #[.int .i64 0, .int .i64 0, .slice none 0 0] 55)) 72 2
      simp only [World.size_alloc] at h
      exact ownMono h (by omega), fun j hj => absurd hj (by omega)⟩
  generalize (((w.alloc (.cells #[.int .i64 s.wd, .int .i64 s.hg, .slice s.A s.nt s.cap] 55)).alloc (.cells #[.int .i64 0, .int .i64 0, .slice none 0 0] 55)).alloc (.cells #[] 72)) = W0 at HR0 ⊢
  go_loopw [3, 4] (fun v i wr => ∃ k : Nat, i = .int .i64 k ∧ k ≤ s.nt ∧ ∃ ca wa cc wc, Hid (OwnRel w s k v ca wa cc wc wr)) (fun _ i _ => s.nt - (intOf i).toNat)
  case atStart => exact ⟨0, rfl, by omega, _, _, _, _, HR0⟩
  case round =>
    obtain ⟨k, rfl, hk, ca, wa, cc, wc, HR⟩ := hrel
    obtain ⟨a0, a1, a2, a3, -, -, -⟩ := blk3 HR.out.bx
    by_cases hlt : k < s.nt
    · obtain ⟨tb, toff, hA, htb, hu, hv⟩ := P2.at_ (HSS.out.2.1) hlt
      obtain ⟨l1, l2⟩ := HM.out k hlt
      obtain ⟨-, -, hIc, hIw⟩ := HSS.out.2.2 k hlt
      have HIC := hide (fun W (h : Below w.heap.size w W) => (hIc.below h (Nat.le_refl _)).more h.size)
      have HIW := hide (fun W (h : Below w.heap.size w W) => (hIw.below h (Nat.le_refl _)).more h.size)
      unfold Stk.u at hu
      unfold Stk.v at hv
      rw [hA] at a3
      have HS : Hid (∀ W, Below w.heap.size w W → Blk W w.heap.size 55 #[.int .i64 s.wd, .int .i64 s.hg, .slice s.A s.nt s.cap] → W.cell? ⟨w.heap.size, 2, none⟩ = some (.slice (some ⟨tb, toff, none⟩) s.nt s.cap) ∧ W.cell? ⟨tb, toff + k * 2, none⟩ = some (.slice (s.ca k) (s.cn k) (s.cc k)) ∧ W.cell? ⟨tb, toff + k * 2 + 1, none⟩ = some (.slice (s.wa k) (s.wn k) (s.wc k))) := hide (fun W hb hB => by
        obtain ⟨-, -, -, h3, -, -, -⟩ := blk3 hB
        rw [hA] at h3
        exact ⟨h3, (hb.cell (p := ⟨tb, toff + k * 2, none⟩) htb).trans hu, (hb.cell (p := ⟨tb, toff + k * 2 + 1, none⟩) htb).trans hv⟩)
      have i1 : (0 : Int) ≤ (k : Int) := by omega
      have i2 : (k : Int) < (s.nt : Int) := by omega
      obtain ⟨vA, vc, rfl⟩ := own_shape HR.out.own
      clear hu hv hA hIc hIw
      go_upto_block 1 with fail
      go_cut [3] (fun v' wq => ∃ ca' wa' cc' wc', Hid (OwnRel w s (k + 1) v' ca' wa' cc' wc' wq))
      case first =>
        have HRd := hide (HR.out.ext (Below.refl _ _).drew)
        have HSB : Hid (∀ W, Below wr.heap.size wr W → W.cell? ⟨w.heap.size, 2, none⟩ = some (.slice (some ⟨tb, toff, none⟩) s.nt s.cap) ∧ W.cell? ⟨tb, toff + k * 2, none⟩ = some (.slice (s.ca k) (s.cn k) (s.cc k)) ∧ W.cell? ⟨tb, toff + k * 2 + 1, none⟩ = some (.slice (s.wa k) (s.wn k) (s.wc k))) := hide (fun W h => HS.out W (HR.out.below.trans (h.mono HR.out.below.size)) (HR.out.bx.ext h))
        have Bd := hide (Below.refl wr.heap.size wr).drew
        clear a0 a1 a2 a3
        go_wp2_with fail
        refine wp_region_J (fun W : World => W.cell? ⟨w.heap.size, 2, none⟩ = some (.slice (some ⟨tb, toff, none⟩) s.nt s.cap) ∧ W.cell? ⟨tb, toff + k * 2, none⟩ = some (.slice (s.ca k) (s.cn k) (s.cc k)) ∧ W.cell? ⟨tb, toff + k * 2 + 1, none⟩ = some (.slice (s.wa k) (s.wn k) (s.wc k))) (by kernel_rfl) ?_
        refine wpAnyJ_take 0 (v := ?_) (by first | exact hF | exact wideFn) (HSB.out _ Bd.out) rfl (by kernel_rfl) (by kernel_rfl) (by kernel_rfl) (by kernel_rfl) rfl ?_ (by first | exact fun _ _ _ h => h | exact fun _ _ _ h => hQ2 _ _ _ _ _ h) ?_
        rotate_left
        · intro W hSW
          simp only [List.getElem_toArray, List.getElem_cons_zero, List.getElem_cons_succ]
          (try dsimp only at hSW)
          go_simp
          with_reducible rfl
        (try simp only [List.getElem_toArray, List.getElem_cons_zero, List.getElem_cons_succ, Act.put, List.setIfInBounds_toArray, List.set_cons_zero, List.set_cons_succ])
        refine wpAnyJ_take 2 (v := ?_) (by first | exact hF | exact wideFn) (HSB.out _ Bd.out) rfl (by kernel_rfl) (by kernel_rfl) (by kernel_rfl) (by kernel_rfl) rfl ?_ (by first | exact fun _ _ _ h => h | exact fun _ _ _ h => hQ2 _ _ _ _ _ h) ?_
        rotate_left
        · intro W hSW
          simp only [List.getElem_toArray, List.getElem_cons_zero, List.getElem_cons_succ]
          (try dsimp only at hSW)
          go_simp
          with_reducible rfl
        (try simp only [List.getElem_toArray, List.getElem_cons_zero, List.getElem_cons_succ, Act.put, List.setIfInBounds_toArray, List.set_cons_zero, List.set_cons_succ])
        refine wpAnyJ_take 3 (v := ?_) (by first | exact hF | exact wideFn) (HSB.out _ Bd.out) rfl (by kernel_rfl) (by kernel_rfl) (by kernel_rfl) (by kernel_rfl) rfl ?_ (by first | exact fun _ _ _ h => h | exact fun _ _ _ h => hQ2 _ _ _ _ _ h) ?_
        rotate_left
        · intro W hSW
          simp only [List.getElem_toArray, List.getElem_cons_zero, List.getElem_cons_succ]
          (try dsimp only at hSW)
          go_simp
          with_reducible rfl
        (try simp only [List.getElem_toArray, List.getElem_cons_zero, List.getElem_cons_succ, Act.put, List.setIfInBounds_toArray, List.set_cons_zero, List.set_cons_succ])
        refine wpAnyJ_take 4 (v := ?_) (by first | exact hF | exact wideFn) (HSB.out _ Bd.out) rfl (by kernel_rfl) (by kernel_rfl) (by kernel_rfl) (by kernel_rfl) rfl ?_ (by first | exact fun _ _ _ h => h | exact fun _ _ _ h => hQ2 _ _ _ _ _ h) ?_
        rotate_left
        · intro W hSW
          simp only [List.getElem_toArray, List.getElem_cons_zero, List.getElem_cons_succ]
          (try dsimp only at hSW)
          go_simp
          with_reducible rfl
        (try simp only [List.getElem_toArray, List.getElem_cons_zero, List.getElem_cons_succ, Act.put, List.setIfInBounds_toArray, List.set_cons_zero, List.set_cons_succ])
        refine wpAnyJ_take 5 (v := ?_) (by first | exact hF | exact wideFn) (HSB.out _ Bd.out) rfl (by kernel_rfl) (by kernel_rfl) (by kernel_rfl) (by kernel_rfl) rfl ?_ (by first | exact fun _ _ _ h => h | exact fun _ _ _ h => hQ2 _ _ _ _ _ h) ?_
        rotate_left
        · intro W hSW
          simp only [List.getElem_toArray, List.getElem_cons_zero, List.getElem_cons_succ]
          (try dsimp only at hSW)
          go_simp
          with_reducible rfl
        (try simp only [List.getElem_toArray, List.getElem_cons_zero, List.getElem_cons_succ, Act.put, List.setIfInBounds_toArray, List.set_cons_zero, List.set_cons_succ])
        refine wpAnyJ_take 6 (v := ?_) (by first | exact hF | exact wideFn) (HSB.out _ Bd.out) rfl (by kernel_rfl) (by kernel_rfl) (by kernel_rfl) (by kernel_rfl) rfl ?_ (by first | exact fun _ _ _ h => h | exact fun _ _ _ h => hQ2 _ _ _ _ _ h) ?_
        rotate_left
        · intro W hSW
          simp only [List.getElem_toArray, List.getElem_cons_zero, List.getElem_cons_succ]
          (try dsimp only at hSW)
          go_simp
          with_reducible rfl
        (try simp only [List.getElem_toArray, List.getElem_cons_zero, List.getElem_cons_succ, Act.put, List.setIfInBounds_toArray, List.set_cons_zero, List.set_cons_succ])
        refine wpAnyJ_take 7 (v := ?_) (by first | exact hF | exact wideFn) (HSB.out _ Bd.out) rfl (by kernel_rfl) (by kernel_rfl) (by kernel_rfl) (by kernel_rfl) rfl ?_ (by first | exact fun _ _ _ h => h | exact fun _ _ _ h => hQ2 _ _ _ _ _ h) ?_
        rotate_left
        · intro W hSW
          simp only [List.getElem_toArray, List.getElem_cons_zero, List.getElem_cons_succ]
          (try dsimp only at hSW)
          go_simp
          with_reducible rfl
        (try simp only [List.getElem_toArray, List.getElem_cons_zero, List.getElem_cons_succ, Act.put, List.setIfInBounds_toArray, List.set_cons_zero, List.set_cons_succ])
        refine wpAnyJ_take 10 (v := ?_) (by first | exact hF | exact wideFn) (HSB.out _ Bd.out) rfl (by kernel_rfl) (by kernel_rfl) (by kernel_rfl) (by kernel_rfl) rfl ?_ (by first | exact fun _ _ _ h => h | exact fun _ _ _ h => hQ2 _ _ _ _ _ h) ?_
        rotate_left
        · intro W hSW
          simp only [List.getElem_toArray, List.getElem_cons_zero, List.getElem_cons_succ]
          (try dsimp only at hSW)
          go_simp
          with_reducible rfl
        (try simp only [List.getElem_toArray, List.getElem_cons_zero, List.getElem_cons_succ, Act.put, List.setIfInBounds_toArray, List.set_cons_zero, List.set_cons_succ])
        refine wpAnyJ_take 11 (v := ?_) (by first | exact hF | exact wideFn) (HSB.out _ Bd.out) rfl (by kernel_rfl) (by kernel_rfl) (by kernel_rfl) (by kernel_rfl) rfl ?_ (by first | exact fun _ _ _ h => h | exact fun _ _ _ h => hQ2 _ _ _ _ _ h) ?_
        rotate_left
        · intro W hSW
          simp only [List.getElem_toArray, List.getElem_cons_zero, List.getElem_cons_succ]
          (try dsimp only at hSW)
          go_simp
          with_reducible rfl
        (try simp only [List.getElem_toArray, List.getElem_cons_zero, List.getElem_cons_succ, Act.put, List.setIfInBounds_toArray, List.set_cons_zero, List.set_cons_succ])
        refine wpAnyJ_take 12 (v := ?_) (by first | exact hF | exact wideFn) (HSB.out _ Bd.out) rfl (by kernel_rfl) (by kernel_rfl) (by kernel_rfl) (by kernel_rfl) rfl ?_ (by first | exact fun _ _ _ h => h | exact fun _ _ _ h => hQ2 _ _ _ _ _ h) ?_
        rotate_left
        · intro W hSW
          simp only [List.getElem_toArray, List.getElem_cons_zero, List.getElem_cons_succ]
          (try dsimp only at hSW)
          go_simp
          with_reducible rfl
        (try simp only [List.getElem_toArray, List.getElem_cons_zero, List.getElem_cons_succ, Act.put, List.setIfInBounds_toArray, List.set_cons_zero, List.set_cons_succ])
        refine wpAnyJ_take 13 (v := ?_) (by first | exact hF | exact wideFn) (HSB.out _ Bd.out) rfl (by kernel_rfl) (by kernel_rfl) (by kernel_rfl) (by kernel_rfl) rfl ?_ (by first | exact fun _ _ _ h => h | exact fun _ _ _ h => hQ2 _ _ _ _ _ h) ?_
        rotate_left
        · intro W hSW
          simp only [List.getElem_toArray, List.getElem_cons_zero, List.getElem_cons_succ]
          (try dsimp only at hSW)
          go_simp
          with_reducible rfl
        (try simp only [List.getElem_toArray, List.getElem_cons_zero, List.getElem_cons_succ, Act.put, List.setIfInBounds_toArray, List.set_cons_zero, List.set_cons_succ])
        refine wpAnyJ_take 14 (v := ?_) (by first | exact hF | exact wideFn) (HSB.out _ Bd.out) rfl (by kernel_rfl) (by kernel_rfl) (by kernel_rfl) (by kernel_rfl) rfl ?_ (by first | exact fun _ _ _ h => h | exact fun _ _ _ h => hQ2 _ _ _ _ _ h) ?_
        rotate_left
        · intro W hSW
          simp only [List.getElem_toArray, List.getElem_cons_zero, List.getElem_cons_succ]
          (try dsimp only at hSW)
          go_simp
          with_reducible rfl
        (try simp only [List.getElem_toArray, List.getElem_cons_zero, List.getElem_cons_succ, Act.put, List.setIfInBounds_toArray, List.set_cons_zero, List.set_cons_succ])
        refine wpAnyJ_take 15 (v := ?_) (by first | exact hF | exact wideFn) (HSB.out _ Bd.out) rfl (by kernel_rfl) (by kernel_rfl) (by kernel_rfl) (by kernel_rfl) rfl ?_ (by first | exact fun _ _ _ h => h | exact fun _ _ _ h => hQ2 _ _ _ _ _ h) ?_
        rotate_left
        · intro W hSW
          simp only [List.getElem_toArray, List.getElem_cons_zero, List.getElem_cons_succ]
          (try dsimp only at hSW)
          go_simp
          with_reducible rfl
        (try simp only [List.getElem_toArray, List.getElem_cons_zero, List.getElem_cons_succ, Act.put, List.setIfInBounds_toArray, List.set_cons_zero, List.set_cons_succ])
        generalize wr.drew = wd at HRd Bd ⊢
        have hzd : w.heap.size + 1 + 1 ≤ wd.heap.size := by have := HRd.out.rb.lt; omega
        have hwd : wr.heap.size ≤ wd.heap.size := Bd.out.size
        have HSW := hide (fun W (h : Below wd.heap.size wd W) => HSB.out W (Bd.out.trans (h.mono hwd)))
        clear HSB HR
        refine wpAnyJ_two 1 9 rfl rfl (by kernel_rfl) (fun K hK => ?_) (fun K hK => ?_)
        · have hB1 : Below wd.heap.size wd (wd.alloc (.cells #[] 3)) := (Below.refl _ _).alloc (Nat.le_refl _) _
          simp only [List.getElem_toArray, List.getElem_cons_zero, List.getElem_cons_succ]
          go_simp
          refine hK.out _ _ (fun _ => HSW.out _ hB1) ?_
          clear hK K
          (try simp only [List.getElem_toArray, List.getElem_cons_zero, List.getElem_cons_succ, Act.put, List.setIfInBounds_toArray, List.set_cons_zero, List.set_cons_succ])
          refine wpAnyJ_two 8 9 rfl rfl (by kernel_rfl) (fun K hK => ?_) (fun K hK => ?_)
          · obtain ⟨v8, w8, hrun8, hown8, hg8, -⟩ := run_append_any (P := Try.prog) (wd.alloc (.cells #[] 3)) w.heap.size 56 56 3 i0 _ 1 8 Try.underlying56 HI.out.1 HI.out.2.1 HI.out.2.2.1 HI.out.2.2.2 rfl (by omega) (.slice (some ⟨wd.heap.size, 0, none⟩) 0 0) 0 [] (ownMono (own_empty wd 3 1) (show w.heap.size ≤ wd.heap.size by omega)) _ (s.ca k) (s.cn k) (s.cc k) (cellsOf 1 (s.cn k) fun i _ => .int .i64 (s.cf k i)) (ER.reads (HIC.out _ (HRd.out.below.trans (hB1.mono HRd.out.below.size))) (by omega)) (ints_one _ _) (by unfold maxLen; omega) (by omega) (by simp; omega)
            have hB8 : Below wd.heap.size wd w8 := hB1.grown hg8 (by simp) (by simp [Value.ownBlock])
            rw [Nat.zero_add, List.nil_append] at hown8
            obtain ⟨A8, c8, rfl⟩ := own_shape hown8
            rw [if_pos (by rfl)]
            refine wpIn_append_run (.tmp 14) (.tmp 20) 56 wideFn rfl rfl rfl hrun8 ?_
            refine hK.out _ _ (fun _ => (HSW.out _ hB8)) ?_
            clear hK K
            (try simp only [List.getElem_toArray, List.getElem_cons_zero, List.getElem_cons_succ, Act.put, List.setIfInBounds_toArray, List.set_cons_zero, List.set_cons_succ])
            refine wpAnyJ_one 9 rfl (by kernel_rfl) (fun K hK => ?_)
            have hB3 : Below wd.heap.size wd (w8.alloc (.cells #[] 3)) := hB8.alloc hB8.size _
            simp only [List.getElem_toArray, List.getElem_cons_zero, List.getElem_cons_succ]
            go_simp
            refine hK.out _ _ (fun _ => HSW.out _ hB3) ?_
            clear hK K
            (try simp only [List.getElem_toArray, List.getElem_cons_zero, List.getElem_cons_succ, Act.put, List.setIfInBounds_toArray, List.set_cons_zero, List.set_cons_succ])
            have hr21 : rowI (w8.alloc (.cells #[] 3)) w.heap.size A8 (s.cn k) c8 (s.cf k) := World.ownsRow.alloc hown8 _
            have hr22 := ownMono (own_empty w8 3 1) (show w.heap.size ≤ w8.heap.size by have := hB8.size; omega)
            have hne : (Value.slice A8 (s.cn k) c8).ownBlock ≠ some w8.heap.size := fun e => by have := (hown8.lt _ e).2; omega
            refine wpAnyJ_one 16 rfl (by kernel_rfl) (fun K hK => ?_)
            obtain ⟨v16, w16, hrun16, hown16, hg16, -⟩ := run_append_any (P := Try.prog) (w8.alloc (.cells #[] 3)) w.heap.size 56 56 3 i0 _ 1 8 Try.underlying56 HI.out.1 HI.out.2.1 HI.out.2.2.1 HI.out.2.2.2 rfl (by omega) (.slice (some ⟨w8.heap.size, 0, none⟩) 0 0) 0 [] hr22 _ (s.wa k) (s.wn k) (s.wc k) (cellsOf 1 (s.wn k) fun i _ => .int .i64 (s.wf k i)) (ER.reads (HIW.out _ (HRd.out.below.trans (hB3.mono HRd.out.below.size))) (by omega)) (ints_one _ _) (by unfold maxLen; omega) (by omega) (by have := hB3.size; omega)
            have hB16 : Below wd.heap.size wd w16 := hB3.grown hg16 hB3.size (by have := hB8.size; simp [Value.ownBlock] <;> omega)
            rw [Nat.zero_add, List.nil_append] at hown16
            obtain ⟨A16, c16, rfl⟩ := own_shape hown16
            rw [if_pos (by rfl)]
            refine wpIn_append_run (.tmp 22) (.tmp 28) 56 wideFn rfl rfl rfl hrun16 ?_
            refine hK.out _ _ (fun _ => (HSW.out _ hB16)) ?_
            clear hK K
            (try simp only [List.getElem_toArray, List.getElem_cons_zero, List.getElem_cons_succ, Act.put, List.setIfInBounds_toArray, List.set_cons_zero, List.set_cons_succ])
            have hr21b := hr21.kept hg16 (.inr hne)
            refine wpAnyJ_take 17 (v := ?_) (by first | exact hF | exact wideFn) (HSW.out _ hB16) rfl (by kernel_rfl) (by kernel_rfl) (by kernel_rfl) (by kernel_rfl) rfl ?_ (by first | exact fun _ _ _ h => h | exact fun _ _ _ h => hQ2 _ _ _ _ _ h) ?_
            rotate_left
            · intro W hSW
              simp only [List.getElem_toArray, List.getElem_cons_zero, List.getElem_cons_succ]
              (try dsimp only at hSW)
              go_simp
              with_reducible rfl
            (try simp only [List.getElem_toArray, List.getElem_cons_zero, List.getElem_cons_succ, Act.put, List.setIfInBounds_toArray, List.set_cons_zero, List.set_cons_succ])
            refine wpAnyJ_one 18 rfl (by kernel_rfl) (fun K hK => ?_)
            have hB18 : Below wd.heap.size wd (w16.alloc (.cells #[.slice A8 (s.cn k) c8, .slice A16 (s.wn k) c16] 72)) := hB16.alloc hB16.size _
            simp only [List.getElem_toArray, List.getElem_cons_zero, List.getElem_cons_succ]
            go_simp
            refine hK.out _ _ (fun _ => HSW.out _ hB18) ?_
            clear hK K
            (try simp only [List.getElem_toArray, List.getElem_cons_zero, List.getElem_cons_succ, Act.put, List.setIfInBounds_toArray, List.set_cons_zero, List.set_cons_succ])
            refine wpAnyJ_one 19 rfl (by kernel_rfl) (fun K hK => ?_)
            have ho16 := ownBelow HRd.out.own hB16
            obtain ⟨v19, w19, hrun19, hown19, hg19, -⟩ := run_append_any (P := Try.prog) (w16.alloc (.cells #[.slice A8 (s.cn k) c8, .slice A16 (s.wn k) c16] 72)) w.heap.size 53 53 72 t0 _ 2 48 Try.underlying53 HT.out.1 HT.out.2.1 HT.out.2.2.1 HT.out.2.2.2 rfl (by omega) _ k _ (World.ownsRow.alloc ho16 _) (w16.heap.size + 1) (some ⟨w16.heap.size, 0, none⟩) 1 1 [.slice A8 (s.cn k) c8, .slice A16 (s.wn k) c16] (tier_read w16 _ _ _) (by intro u hu; simp at hu; rcases hu with rfl | rfl <;> rfl) (by unfold maxLen; omega) (by omega) (by have := hB16.size; simp; omega)
            have HN := hide (HRd.out.step hB16 hr21b hown16 ((World.grownBy_alloc w16 (.cells #[.slice A8 (s.cn k) c8, .slice A16 (s.wn k) c16] 72) _).trans hg19) hown19)
            rw [if_pos (by rfl)]
            refine wpIn_append_run (.tmp 13) (.tmp 31) 53 wideFn rfl rfl rfl hrun19 ?_
            refine hK.out _ _ (fun _ => HS.out _ HN.out.below HN.out.bx) ?_
            clear hK K
            (try simp only [List.getElem_toArray, List.getElem_cons_zero, List.getElem_cons_succ, Act.put, List.setIfInBounds_toArray, List.set_cons_zero, List.set_cons_succ])
            refine wpAnyJ_one 20 rfl (by kernel_rfl) (fun K hK => ?_)
            simp only [List.getElem_toArray, List.getElem_cons_zero, List.getElem_cons_succ]
            go_simp
            refine hK.out _ _ (fun h => absurd h (by rw [show lastOp _ _ _ = true from by kernel_rfl]; simp)) ?_
            clear hK K
            (try simp only [List.getElem_toArray, List.getElem_cons_zero, List.getElem_cons_succ, Act.put, List.setIfInBounds_toArray, List.set_cons_zero, List.set_cons_succ])
            refine wpAnyJ_done (by kernel_rfl) ?_
            go_wp2_with fail
            go_meet
            exact ⟨_, _, _, _, HN⟩
          · have hB2 : Below wd.heap.size wd ((wd.alloc (.cells #[] 3)).alloc (.cells #[] 3)) := hB1.alloc (by simp) _
            simp only [List.getElem_toArray, List.getElem_cons_zero, List.getElem_cons_succ]
            go_simp
            refine hK.out _ _ (fun _ => HSW.out _ hB2) ?_
            clear hK K
            (try simp only [List.getElem_toArray, List.getElem_cons_zero, List.getElem_cons_succ, Act.put, List.setIfInBounds_toArray, List.set_cons_zero, List.set_cons_succ])
            refine wpAnyJ_one 8 rfl (by kernel_rfl) (fun K hK => ?_)
            obtain ⟨v8, w8, hrun8, hown8, hg8, hob8⟩ := run_append_any (P := Try.prog) ((wd.alloc (.cells #[] 3)).alloc (.cells #[] 3)) w.heap.size 56 56 3 i0 _ 1 8 Try.underlying56 HI.out.1 HI.out.2.1 HI.out.2.2.1 HI.out.2.2.2 rfl (by omega) (.slice (some ⟨wd.heap.size, 0, none⟩) 0 0) 0 [] ((ownMono (own_empty wd 3 1) (show w.heap.size ≤ wd.heap.size by omega)).alloc _) _ (s.ca k) (s.cn k) (s.cc k) (cellsOf 1 (s.cn k) fun i _ => .int .i64 (s.cf k i)) (ER.reads (HIC.out _ (HRd.out.below.trans (hB2.mono HRd.out.below.size))) (by omega)) (ints_one _ _) (by unfold maxLen; omega) (by omega) (by simp; omega)
            have hB8 : Below wd.heap.size wd w8 := hB2.grown hg8 (by simp <;> omega) (by simp [Value.ownBlock] <;> omega)
            rw [Nat.zero_add, List.nil_append] at hown8
            obtain ⟨A8, c8, rfl⟩ := own_shape hown8
            rw [if_pos (by rfl)]
            refine wpIn_append_run (.tmp 14) (.tmp 20) 56 wideFn rfl rfl rfl hrun8 ?_
            refine hK.out _ _ (fun _ => (HSW.out _ hB8)) ?_
            clear hK K
            (try simp only [List.getElem_toArray, List.getElem_cons_zero, List.getElem_cons_succ, Act.put, List.setIfInBounds_toArray, List.set_cons_zero, List.set_cons_succ])
            have hr22 : w8.ownsRow w.heap.size 3 1 (.slice (some ⟨wd.heap.size + 1, 0, none⟩) 0 0) 0 [] := World.ownsRow.kept (by simpa using ownMono (own_empty (wd.alloc (.cells #[] 3)) 3 1) (show w.heap.size ≤ (wd.alloc (.cells #[] 3)).heap.size by simp; omega)) hg8 (.inr (by simp [Value.ownBlock]))
            have hne : (Value.slice A8 (s.cn k) c8).ownBlock ≠ some (wd.heap.size + 1) := fun e => by
              rcases hob8 with h | h <;> rw [h] at e <;> simp [Value.ownBlock] at e <;> omega
            have hB3 := hB8
            have hr21 : rowI w8 w.heap.size A8 (s.cn k) c8 (s.cf k) := hown8
            refine wpAnyJ_one 16 rfl (by kernel_rfl) (fun K hK => ?_)
            obtain ⟨v16, w16, hrun16, hown16, hg16, -⟩ := run_append_any (P := Try.prog) w8 w.heap.size 56 56 3 i0 _ 1 8 Try.underlying56 HI.out.1 HI.out.2.1 HI.out.2.2.1 HI.out.2.2.2 rfl (by omega) (.slice (some ⟨(wd.heap.size + 1), 0, none⟩) 0 0) 0 [] hr22 _ (s.wa k) (s.wn k) (s.wc k) (cellsOf 1 (s.wn k) fun i _ => .int .i64 (s.wf k i)) (ER.reads (HIW.out _ (HRd.out.below.trans (hB3.mono HRd.out.below.size))) (by omega)) (ints_one _ _) (by unfold maxLen; omega) (by omega) (by have := hB3.size; omega)
            have hB16 : Below wd.heap.size wd w16 := hB3.grown hg16 hB3.size (by have := hB8.size; simp [Value.ownBlock] <;> omega)
            rw [Nat.zero_add, List.nil_append] at hown16
            obtain ⟨A16, c16, rfl⟩ := own_shape hown16
            rw [if_pos (by rfl)]
            refine wpIn_append_run (.tmp 22) (.tmp 28) 56 wideFn rfl rfl rfl hrun16 ?_
            refine hK.out _ _ (fun _ => (HSW.out _ hB16)) ?_
            clear hK K
            (try simp only [List.getElem_toArray, List.getElem_cons_zero, List.getElem_cons_succ, Act.put, List.setIfInBounds_toArray, List.set_cons_zero, List.set_cons_succ])
            have hr21b := hr21.kept hg16 (.inr hne)
            refine wpAnyJ_take 17 (v := ?_) (by first | exact hF | exact wideFn) (HSW.out _ hB16) rfl (by kernel_rfl) (by kernel_rfl) (by kernel_rfl) (by kernel_rfl) rfl ?_ (by first | exact fun _ _ _ h => h | exact fun _ _ _ h => hQ2 _ _ _ _ _ h) ?_
            rotate_left
            · intro W hSW
              simp only [List.getElem_toArray, List.getElem_cons_zero, List.getElem_cons_succ]
              (try dsimp only at hSW)
              go_simp
              with_reducible rfl
            (try simp only [List.getElem_toArray, List.getElem_cons_zero, List.getElem_cons_succ, Act.put, List.setIfInBounds_toArray, List.set_cons_zero, List.set_cons_succ])
            refine wpAnyJ_one 18 rfl (by kernel_rfl) (fun K hK => ?_)
            have hB18 : Below wd.heap.size wd (w16.alloc (.cells #[.slice A8 (s.cn k) c8, .slice A16 (s.wn k) c16] 72)) := hB16.alloc hB16.size _
            simp only [List.getElem_toArray, List.getElem_cons_zero, List.getElem_cons_succ]
            go_simp
            refine hK.out _ _ (fun _ => HSW.out _ hB18) ?_
            clear hK K
            (try simp only [List.getElem_toArray, List.getElem_cons_zero, List.getElem_cons_succ, Act.put, List.setIfInBounds_toArray, List.set_cons_zero, List.set_cons_succ])
            refine wpAnyJ_one 19 rfl (by kernel_rfl) (fun K hK => ?_)
            have ho16 := ownBelow HRd.out.own hB16
            obtain ⟨v19, w19, hrun19, hown19, hg19, -⟩ := run_append_any (P := Try.prog) (w16.alloc (.cells #[.slice A8 (s.cn k) c8, .slice A16 (s.wn k) c16] 72)) w.heap.size 53 53 72 t0 _ 2 48 Try.underlying53 HT.out.1 HT.out.2.1 HT.out.2.2.1 HT.out.2.2.2 rfl (by omega) _ k _ (World.ownsRow.alloc ho16 _) (w16.heap.size + 1) (some ⟨w16.heap.size, 0, none⟩) 1 1 [.slice A8 (s.cn k) c8, .slice A16 (s.wn k) c16] (tier_read w16 _ _ _) (by intro u hu; simp at hu; rcases hu with rfl | rfl <;> rfl) (by unfold maxLen; omega) (by omega) (by have := hB16.size; simp; omega)
            have HN := hide (HRd.out.step hB16 hr21b hown16 ((World.grownBy_alloc w16 (.cells #[.slice A8 (s.cn k) c8, .slice A16 (s.wn k) c16] 72) _).trans hg19) hown19)
            rw [if_pos (by rfl)]
            refine wpIn_append_run (.tmp 13) (.tmp 31) 53 wideFn rfl rfl rfl hrun19 ?_
            refine hK.out _ _ (fun _ => HS.out _ HN.out.below HN.out.bx) ?_
            clear hK K
            (try simp only [List.getElem_toArray, List.getElem_cons_zero, List.getElem_cons_succ, Act.put, List.setIfInBounds_toArray, List.set_cons_zero, List.set_cons_succ])
            refine wpAnyJ_one 20 rfl (by kernel_rfl) (fun K hK => ?_)
            simp only [List.getElem_toArray, List.getElem_cons_zero, List.getElem_cons_succ]
            go_simp
            refine hK.out _ _ (fun h => absurd h (by rw [show lastOp _ _ _ = true from by kernel_rfl]; simp)) ?_
            clear hK K
            (try simp only [List.getElem_toArray, List.getElem_cons_zero, List.getElem_cons_succ, Act.put, List.setIfInBounds_toArray, List.set_cons_zero, List.set_cons_succ])
            refine wpAnyJ_done (by kernel_rfl) ?_
            go_wp2_with fail
            go_meet
            exact ⟨_, _, _, _, HN⟩
        · have hB1 : Below wd.heap.size wd (wd.alloc (.cells #[] 3)) := (Below.refl _ _).alloc (Nat.le_refl _) _
          simp only [List.getElem_toArray, List.getElem_cons_zero, List.getElem_cons_succ]
          go_simp
          refine hK.out _ _ (fun _ => HSW.out _ hB1) ?_
          clear hK K
          (try simp only [List.getElem_toArray, List.getElem_cons_zero, List.getElem_cons_succ, Act.put, List.setIfInBounds_toArray, List.set_cons_zero, List.set_cons_succ])
          refine wpAnyJ_one 1 rfl (by kernel_rfl) (fun K hK => ?_)
          have hB2 : Below wd.heap.size wd ((wd.alloc (.cells #[] 3)).alloc (.cells #[] 3)) := hB1.alloc (by simp) _
          simp only [List.getElem_toArray, List.getElem_cons_zero, List.getElem_cons_succ]
          go_simp
          refine hK.out _ _ (fun _ => HSW.out _ hB2) ?_
          clear hK K
          (try simp only [List.getElem_toArray, List.getElem_cons_zero, List.getElem_cons_succ, Act.put, List.setIfInBounds_toArray, List.set_cons_zero, List.set_cons_succ])
          refine wpAnyJ_one 8 rfl (by kernel_rfl) (fun K hK => ?_)
          obtain ⟨v8, w8, hrun8, hown8, hg8, hob8⟩ := run_append_any (P := Try.prog) ((wd.alloc (.cells #[] 3)).alloc (.cells #[] 3)) w.heap.size 56 56 3 i0 _ 1 8 Try.underlying56 HI.out.1 HI.out.2.1 HI.out.2.2.1 HI.out.2.2.2 rfl (by omega) (.slice (some ⟨(wd.heap.size + 1), 0, none⟩) 0 0) 0 [] (by simpa using ownMono (own_empty (wd.alloc (.cells #[] 3)) 3 1) (show w.heap.size ≤ (wd.alloc (.cells #[] 3)).heap.size by simp; omega)) _ (s.ca k) (s.cn k) (s.cc k) (cellsOf 1 (s.cn k) fun i _ => .int .i64 (s.cf k i)) (ER.reads (HIC.out _ (HRd.out.below.trans (hB2.mono HRd.out.below.size))) (by omega)) (ints_one _ _) (by unfold maxLen; omega) (by omega) (by simp; omega)
          have hB8 : Below wd.heap.size wd w8 := hB2.grown hg8 (by simp <;> omega) (by simp [Value.ownBlock] <;> omega)
          rw [Nat.zero_add, List.nil_append] at hown8
          obtain ⟨A8, c8, rfl⟩ := own_shape hown8
          rw [if_pos (by rfl)]
          refine wpIn_append_run (.tmp 14) (.tmp 20) 56 wideFn rfl rfl rfl hrun8 ?_
          refine hK.out _ _ (fun _ => (HSW.out _ hB8)) ?_
          clear hK K
          (try simp only [List.getElem_toArray, List.getElem_cons_zero, List.getElem_cons_succ, Act.put, List.setIfInBounds_toArray, List.set_cons_zero, List.set_cons_succ])
          have hr22 : w8.ownsRow w.heap.size 3 1 (.slice (some ⟨wd.heap.size, 0, none⟩) 0 0) 0 [] := World.ownsRow.kept ((ownMono (own_empty wd 3 1) (show w.heap.size ≤ wd.heap.size by omega)).alloc _) hg8 (.inr (by simp [Value.ownBlock]))
          have hne : (Value.slice A8 (s.cn k) c8).ownBlock ≠ some wd.heap.size := fun e => by
            rcases hob8 with h | h <;> rw [h] at e <;> simp [Value.ownBlock] at e <;> omega
          have hB3 := hB8
          have hr21 : rowI w8 w.heap.size A8 (s.cn k) c8 (s.cf k) := hown8
          refine wpAnyJ_one 16 rfl (by kernel_rfl) (fun K hK => ?_)
          obtain ⟨v16, w16, hrun16, hown16, hg16, -⟩ := run_append_any (P := Try.prog) w8 w.heap.size 56 56 3 i0 _ 1 8 Try.underlying56 HI.out.1 HI.out.2.1 HI.out.2.2.1 HI.out.2.2.2 rfl (by omega) (.slice (some ⟨wd.heap.size, 0, none⟩) 0 0) 0 [] hr22 _ (s.wa k) (s.wn k) (s.wc k) (cellsOf 1 (s.wn k) fun i _ => .int .i64 (s.wf k i)) (ER.reads (HIW.out _ (HRd.out.below.trans (hB3.mono HRd.out.below.size))) (by omega)) (ints_one _ _) (by unfold maxLen; omega) (by omega) (by have := hB3.size; omega)
          have hB16 : Below wd.heap.size wd w16 := hB3.grown hg16 hB3.size (by have := hB8.size; simp [Value.ownBlock] <;> omega)
          rw [Nat.zero_add, List.nil_append] at hown16
          obtain ⟨A16, c16, rfl⟩ := own_shape hown16
          rw [if_pos (by rfl)]
          refine wpIn_append_run (.tmp 22) (.tmp 28) 56 wideFn rfl rfl rfl hrun16 ?_
          refine hK.out _ _ (fun _ => (HSW.out _ hB16)) ?_
          clear hK K
          (try simp only [List.getElem_toArray, List.getElem_cons_zero, List.getElem_cons_succ, Act.put, List.setIfInBounds_toArray, List.set_cons_zero, List.set_cons_succ])
          have hr21b := hr21.kept hg16 (.inr hne)
          refine wpAnyJ_take 17 (v := ?_) (by first | exact hF | exact wideFn) (HSW.out _ hB16) rfl (by kernel_rfl) (by kernel_rfl) (by kernel_rfl) (by kernel_rfl) rfl ?_ (by first | exact fun _ _ _ h => h | exact fun _ _ _ h => hQ2 _ _ _ _ _ h) ?_
          rotate_left
          · intro W hSW
            simp only [List.getElem_toArray, List.getElem_cons_zero, List.getElem_cons_succ]
            (try dsimp only at hSW)
            go_simp
            with_reducible rfl
          (try simp only [List.getElem_toArray, List.getElem_cons_zero, List.getElem_cons_succ, Act.put, List.setIfInBounds_toArray, List.set_cons_zero, List.set_cons_succ])
          refine wpAnyJ_one 18 rfl (by kernel_rfl) (fun K hK => ?_)
          have hB18 : Below wd.heap.size wd (w16.alloc (.cells #[.slice A8 (s.cn k) c8, .slice A16 (s.wn k) c16] 72)) := hB16.alloc hB16.size _
          simp only [List.getElem_toArray, List.getElem_cons_zero, List.getElem_cons_succ]
          go_simp
          refine hK.out _ _ (fun _ => HSW.out _ hB18) ?_
          clear hK K
          (try simp only [List.getElem_toArray, List.getElem_cons_zero, List.getElem_cons_succ, Act.put, List.setIfInBounds_toArray, List.set_cons_zero, List.set_cons_succ])
          refine wpAnyJ_one 19 rfl (by kernel_rfl) (fun K hK => ?_)
          have ho16 := ownBelow HRd.out.own hB16
          obtain ⟨v19, w19, hrun19, hown19, hg19, -⟩ := run_append_any (P := Try.prog) (w16.alloc (.cells #[.slice A8 (s.cn k) c8, .slice A16 (s.wn k) c16] 72)) w.heap.size 53 53 72 t0 _ 2 48 Try.underlying53 HT.out.1 HT.out.2.1 HT.out.2.2.1 HT.out.2.2.2 rfl (by omega) _ k _ (World.ownsRow.alloc ho16 _) (w16.heap.size + 1) (some ⟨w16.heap.size, 0, none⟩) 1 1 [.slice A8 (s.cn k) c8, .slice A16 (s.wn k) c16] (tier_read w16 _ _ _) (by intro u hu; simp at hu; rcases hu with rfl | rfl <;> rfl) (by unfold maxLen; omega) (by omega) (by have := hB16.size; simp; omega)
          have HN := hide (HRd.out.step hB16 hr21b hown16 ((World.grownBy_alloc w16 (.cells #[.slice A8 (s.cn k) c8, .slice A16 (s.wn k) c16] 72) _).trans hg19) hown19)
          rw [if_pos (by rfl)]
          refine wpIn_append_run (.tmp 13) (.tmp 31) 53 wideFn rfl rfl rfl hrun19 ?_
          refine hK.out _ _ (fun _ => HS.out _ HN.out.below HN.out.bx) ?_
          clear hK K
          (try simp only [List.getElem_toArray, List.getElem_cons_zero, List.getElem_cons_succ, Act.put, List.setIfInBounds_toArray, List.set_cons_zero, List.set_cons_succ])
          refine wpAnyJ_one 20 rfl (by kernel_rfl) (fun K hK => ?_)
          simp only [List.getElem_toArray, List.getElem_cons_zero, List.getElem_cons_succ]
          go_simp
          refine hK.out _ _ (fun h => absurd h (by rw [show lastOp _ _ _ = true from by kernel_rfl]; simp)) ?_
          clear hK K
          (try simp only [List.getElem_toArray, List.getElem_cons_zero, List.getElem_cons_succ, Act.put, List.setIfInBounds_toArray, List.set_cons_zero, List.set_cons_succ])
          refine wpAnyJ_done (by kernel_rfl) ?_
          go_wp2_with fail
          go_meet
          exact ⟨_, _, _, _, HN⟩
      case rest =>
        obtain ⟨ca', wa', cc', wc', HN⟩ := hcut
        go_wp2_with fail
        go_roundw
        case rel => exact ⟨k + 1, by go_num, by omega, ca', wa', cc', wc', HN⟩
        case measure => simp [intOf]; omega
    · obtain rfl : k = s.nt := by omega
      obtain ⟨vA, vc, rfl⟩ := own_shape HR.out.own
      obtain ⟨b0, b1, b2, b3, b4, b5, b6⟩ := blk3 HR.out.rb
      obtain ⟨-, -, -, -, a4, a5, a6⟩ := blk3 HR.out.bx
      go_wp2_with fail
      refine bodyPost_ret (v := .agg #[.int .i64 s.wd, .int .i64 s.hg, .slice vA s.nt vc]) (by simp [results, Try.results27, go_sem, *]) rfl ⟨vA, vc, ca, wa, cc, wc, rfl, ?_, ?_⟩
      · exact (HR.out.shut _ _ _ _).2 HSS.out
      · exact (HR.out.shut _ _ _ _).1
end Go.Proofs.Ytlhekifmkkgjlaa
/- A region that draws its order: loads taken first, each under a condition of its own. What an operation writes has to keep only the conditions of those that may still come behind it. -/
namespace Go.Proofs.Ytlhekifmkkgjlaa
open Go Go.RowKit
/-- may operation i come behind operation j, and does its value hang on the world -/
def needK (md : Region.Mode) (ops : Array Oper) (j i : Nat) : Bool := match ops[j]?, ops[i]? with
  | some oj, some oi => !(i == j) && !(oj.after.any fun e => Region.binds md e && e.on == i) && !pureOp oi && !(oi.after.any fun e => Region.binds md e && e.on == j)
  | _, _ => false
section
variable {F : Fence} {n : Nat} {P : Program} {ops : Array Oper} {Q : Exit → Act → World → Prop} {md : Region.Mode} {S : Nat → World → Prop}
theorem needK_yes {i j : Nat} {oi oj : Oper} (hi : ops[i]? = some oi) (hj : ops[j]? = some oj) (hji : j ≠ i) (hnot : ∀ e ∈ oj.after, Region.binds md e = true → e.on ≠ i) (hp : pureOp oi = false) (hnot' : ∀ e ∈ oi.after, Region.binds md e = true → e.on ≠ j) : needK md ops j i = true := by
  have no : ∀ (o : Oper) (k : Nat), (∀ e ∈ o.after, Region.binds md e = true → e.on ≠ k) → (o.after.any fun e => Region.binds md e && e.on == k) = false := fun o k h => by
    rw [← Bool.not_eq_true]
    intro h1
    obtain ⟨m, hm, he⟩ := Array.any_eq_true.1 h1
    simp only [Bool.and_eq_true, beq_iff_eq] at he
    exact h _ (Array.getElem_mem hm) he.1 he.2
  unfold needK
  simp only [hi, hj]
  rw [no oj i hnot, no oi j hnot', hp]
  simp [Ne.symm hji]
def wpAnyK (F : Fence) (n : Nat) (P : Program) (md : Region.Mode) (ops : Array Oper) (Q : Exit → Act → World → Prop) (S : Nat → World → Prop) : Nat → Array Bool → Act → World → Prop
  | 0, listed, a, w => Region.ready md ops listed = [] ∧ Q .normal a w
  | fuel + 1, listed, a, w =>
    (Region.ready md ops listed = [] → Q .normal a w) ∧
    ∀ i ∈ Region.ready md ops listed, wpOpIn F n P ops Q i (fun a' w' => (w' = w ∨ ∀ k, needK md ops i k = true → S k w') ∧ wpAnyK F n P md ops Q S fuel (listed.setIfInBounds i true) a' w') a w
theorem wpAnyIn_of_K : ∀ (fuel : Nat) (listed : Array Bool) (a : Act) (w : World), wpAnyK F n P md ops Q S fuel listed a w → wpAnyIn F n P md ops Q fuel listed a w
  | 0, _, _, _, h => h
  | fuel + 1, _, _, _, h => ⟨h.1, fun i hi => wpOpIn_mono (fun a' w' h' => wpAnyIn_of_K fuel _ a' w' h'.2) (h.2 i hi)⟩
theorem wpAnyK_first {S' : World → Prop} {i : Nat} {oi : Oper} {v : Value} (hfn : ∀ f, F.fn f) (hnd : noDef ops = true) (hi : ops[i]? = some oi) (hsel : ∀ (j : Nat) (o : Oper) cs b, ops[j]? = some o → o.op ≠ .select cs b)
    (hQ : ∀ c a w, Q (.panic c) (a.put oi.dst v) w → Q (.panic c) a w) (hS' : (pureOp oi = true ∧ ∀ w, S' w) ∨ (pureOp oi = false ∧ ∀ w, S i w → S' w)) :
    ∀ (fuel : Nat) (listed : Array Bool) (a : Act) (w : World),
      (∀ j oj, ops[j]? = some oj → j ≠ i → listed.getD j true = false → (∀ e ∈ oj.after, Region.binds md e = true → e.on ≠ i) → oi.apart ops oj = true) →
      i ∈ Region.ready md ops listed → YieldsIf P ops S' oi v a → S' w →
      wpAnyK F n P md ops Q S fuel (listed.setIfInBounds i true) (a.put oi.dst v) w → wpAnyK F n P md ops Q S (fuel + 1) listed a w := by
  intro fuel
  induction fuel with
  | zero =>
    intro listed a w _ hr hy hS H
    refine ⟨fun h => (by rw [h] at hr; cases hr), fun j hj => ?_⟩
    by_cases hji : j = i
    · subst hji; exact YieldsIf.wpOpIn hfn hnd hi hy hS ⟨.inl rfl, H⟩
    · have := ready_mono hj hji
      rw [H.1] at this
      cases this
  | succ fuel ih =>
    intro listed a w hfree hr hy hS H
    refine ⟨fun h => (by rw [h] at hr; cases hr), fun j hj => ?_⟩
    by_cases hji : j = i
    · subst hji; exact YieldsIf.wpOpIn hfn hnd hi hy hS ⟨.inl rfl, H⟩
    · have h1 := H.2 j (ready_mono hj hji)
      obtain ⟨hjun, oj, hoj, hall⟩ := mem_ready.1 hj
      have hnot : ∀ e ∈ oj.after, Region.binds md e = true → e.on ≠ i := fun e he hb heq => by
        have h1 := hall e he hb
        have h0 := (mem_ready.1 hr).1
        rw [heq] at h1
        rcases Nat.lt_or_ge i listed.size with h' | h'
        · simp [h'] at h0 h1; rw [h0] at h1; cases h1
        · simp [Array.getElem?_eq_none h'] at h1
      have hnot' : ∀ e ∈ oi.after, Region.binds md e = true → e.on ≠ j := fun e he hb heq => by
        obtain ⟨-, oi', hoi', hall'⟩ := mem_ready.1 hr
        obtain rfl : oi = oi' := by rw [hi] at hoi'; injection hoi'
        have h1 := hall' e he hb
        rw [heq] at h1
        rcases Nat.lt_or_ge j listed.size with h' | h'
        · simp [h'] at hjun h1; rw [hjun] at h1; cases h1
        · simp [Array.getElem?_eq_none h'] at h1
      have h2 := wpOpIn_putJ hnd hoj (hfree j oj hoj hji hjun hnot) (fun cs b => hsel i oi cs b hi) (fun cs b => hsel j oj cs b hoj) hQ hfn hy h1
      have hfree' : ∀ k ok, ops[k]? = some ok → k ≠ i → (listed.setIfInBounds j true).getD k true = false →
          (∀ e ∈ ok.after, Region.binds md e = true → e.on ≠ i) → oi.apart ops ok = true := fun k ok hk hki hun hno => by
        refine hfree k ok hk hki ?_ hno
        by_cases hjk : j = k
        · subst hjk; exact hjun
        · rw [getD_set_ne true hjk] at hun; exact hun
      refine wpOpIn_mono (fun a' w' h3 => ⟨h3.2.1, ih (listed.setIfInBounds j true) a' w' hfree' (ready_mono hr (Ne.symm hji)) h3.1 ?_ (by rw [Array.setIfInBounds_comm _ _ hji]; exact h3.2.2)⟩) h2
      rcases hS' with ⟨hp, hS'⟩ | ⟨hp, hS'⟩
      · exact hS' w'
      · rcases h3.2.1 with e | h4
        · rw [e]; exact hS
        · exact hS' w' (h4 i (needK_yes hi hoj hji hnot hp hnot'))
theorem wpAnyK_take (i : Nat) {oi : Oper} {v : Value} {fuel : Nat} {listed : Array Bool} {a : Act} {w : World} (hfn : ∀ f, F.fn f) (hS : S i w) (hi : ops[i]? = some oi) (hnd : noDef ops = true)
    (hs : Region.noSelect ops = true) (hf : Region.free md ops listed i = true) (hr : (Region.ready md ops listed).contains i = true)
    (hw : Region.wanted oi (yielded ops a.tmps) = true) (hy : ∀ w, S i w → (execOp a.eval oi).run P w = .ok (.value v) w) (hQ : ∀ c a w, Q (.panic c) (a.put oi.dst v) w → Q (.panic c) a w)
    (h : wpAnyK F n P md ops Q S fuel (listed.setIfInBounds i true) (a.put oi.dst v) w) : wpAnyK F n P md ops Q S (fuel + 1) listed a w := by
  rcases hp : pureOp oi with _ | _
  · exact wpAnyK_first hfn hnd hi (Region.noSelect_spec hs) hQ (.inr ⟨hp, fun _ h => h⟩) fuel listed a w (Region.free_spec hi hf) (by simpa using hr) (.inl ⟨hw, hy⟩) hS h
  · exact wpAnyK_first (S' := fun _ => True) hfn hnd hi (Region.noSelect_spec hs) hQ (.inl ⟨hp, fun _ => trivial⟩) fuel listed a w (Region.free_spec hi hf) (by simpa using hr) (.inl ⟨hw, fun w' _ => pure_any hp (hy w hS) w'⟩) trivial h
/-- one operation alone may come up: it is carried out -/
theorem wpAnyK_one (i : Nat) {oi : Oper} {fuel : Nat} {listed : Array Bool} {a : Act} {w : World} (hi : ops[i]? = some oi) (hr : Region.ready md ops listed = [i])
    (h : ∀ K : Act → World → Prop, Hid (∀ a' w', (w' = w ∨ ∀ k, needK md ops i k = true → S k w') → wpAnyK F n P md ops Q S fuel (listed.setIfInBounds i true) a' w' → K a' w') → if Region.wanted oi (yielded ops a.tmps) = true then oi.wpIn F n P a w K Q else (∀ f, oi.about P w a.eval = some f → F.fn f) ∧ K (a.put oi.dst undef) w) :
    wpAnyK F n P md ops Q S (fuel + 1) listed a w := by
  refine ⟨fun h0 => (by rw [hr] at h0; cases h0), fun j hj => ?_⟩
  rw [hr] at hj
  obtain rfl := List.mem_singleton.1 hj
  have h1 := h (fun a' w' => (w' = w ∨ ∀ k, needK md ops j k = true → S k w') ∧ wpAnyK F n P md ops Q S fuel (listed.setIfInBounds j true) a' w') (show Hid _ from fun a w h1 h2 => ⟨h1, h2⟩)
  unfold wpOpIn
  rw [hi]
  exact h1
theorem wpAnyK_two (i j : Nat) {oi oj : Oper} {fuel : Nat} {listed : Array Bool} {a : Act} {w : World} (hi : ops[i]? = some oi) (hj : ops[j]? = some oj) (hr : Region.ready md ops listed = [i, j])
    (h : ∀ K : Act → World → Prop, Hid (∀ a' w', (w' = w ∨ ∀ k, needK md ops i k = true → S k w') → wpAnyK F n P md ops Q S fuel (listed.setIfInBounds i true) a' w' → K a' w') → if Region.wanted oi (yielded ops a.tmps) = true then oi.wpIn F n P a w K Q else (∀ f, oi.about P w a.eval = some f → F.fn f) ∧ K (a.put oi.dst undef) w)
    (h' : ∀ K : Act → World → Prop, Hid (∀ a' w', (w' = w ∨ ∀ k, needK md ops j k = true → S k w') → wpAnyK F n P md ops Q S fuel (listed.setIfInBounds j true) a' w' → K a' w') → if Region.wanted oj (yielded ops a.tmps) = true then oj.wpIn F n P a w K Q else (∀ f, oj.about P w a.eval = some f → F.fn f) ∧ K (a.put oj.dst undef) w) :
    wpAnyK F n P md ops Q S (fuel + 1) listed a w := by
  refine ⟨fun h0 => (by rw [hr] at h0; cases h0), fun k hk => ?_⟩
  rw [hr] at hk
  rcases List.mem_cons.1 hk with rfl | hk
  · have h1 := h (fun a' w' => (w' = w ∨ ∀ m, needK md ops k m = true → S m w') ∧ wpAnyK F n P md ops Q S fuel (listed.setIfInBounds k true) a' w') (show Hid _ from fun a w h1 h2 => ⟨h1, h2⟩)
    unfold wpOpIn
    rw [hi]
    exact h1
  · obtain rfl := List.mem_singleton.1 hk
    have h1 := h' (fun a' w' => (w' = w ∨ ∀ m, needK md ops k m = true → S m w') ∧ wpAnyK F n P md ops Q S fuel (listed.setIfInBounds k true) a' w') (show Hid _ from fun a w h1 h2 => ⟨h1, h2⟩)
    unfold wpOpIn
    rw [hj]
    exact h1
theorem wpAnyK_done {fuel : Nat} {listed : Array Bool} {a : Act} {w : World} (hr : Region.ready md ops listed = []) (h : Q .normal a w) : wpAnyK F n P md ops Q S fuel listed a w := by
  cases fuel with
  | zero => exact ⟨hr, h⟩
  | succ k => exact ⟨fun _ => h, by rw [hr]; simp⟩
theorem wpIn_region_K {id : Nat} {a : Act} {w : World} (S : Nat → World → Prop) (hm : P.follows .mixedOrders = true)
    (h : wpAnyK F n P .any ops Q S ops.size (Array.replicate ops.size false) a w.drew) : (Code.region id ops true).wpIn F n P Q a w :=
  wpIn_region_any hm (wpAnyIn_of_K _ _ _ _ h)
theorem wp_region_K {id : Nat} {P : Program} {ops : Array Oper} {Q : Exit → Act → World → Prop} {a : Act} {w : World} (S : Nat → World → Prop) (hm : P.follows .mixedOrders = true)
    (h : wpAnyK Fence.wide 0 P .any ops Q S ops.size (Array.replicate ops.size false) a w.drew) : (Code.region id ops true).wp P Q a w :=
  wpIn_wide.1 (wpIn_region_K S hm h)
end
/-- the operations that an operation of a region may have ahead of others; decided -/
theorem needK_all {md : Region.Mode} {ops : Array Oper} {j : Nat} {S : Nat → World → Prop} {w : World} (l : List Nat) (h1 : ((List.range ops.size).filter fun k => needK md ops j k) = l) (h2 : ∀ k ∈ l, S k w) : ∀ k, needK md ops j k = true → S k w := fun k hk => by
  refine h2 k ?_
  rw [← h1, List.mem_filter]
  refine ⟨?_, hk⟩
  unfold needK at hk
  split at hk
  · rename_i oj oi h3 h4
    exact List.mem_range.2 (Array.getElem?_eq_some_iff.1 h4).1
  · cases hk
/-- two conditions: those of the list want A too -/
def pickS (l : List Nat) (A B : World → Prop) : Nat → World → Prop := fun i W => if l.contains i = true then A W ∧ B W else B W
theorem pickS_need {md : Region.Mode} {ops : Array Oper} {j : Nat} {l : List Nat} {A B : World → Prop} {w : World} (h : (l.all fun k => !needK md ops j k) = true) (hB : B w) : ∀ k, needK md ops j k = true → pickS l A B k w := fun k hk => by
  unfold pickS
  rcases e : l.contains k with _ | _
  · simp only [Bool.false_eq_true, if_false]; exact hB
  · have h1 := List.all_eq_true.1 h k (by simpa using e)
    rw [hk] at h1; cases h1
theorem pickS_all {md : Region.Mode} {ops : Array Oper} {j : Nat} {l : List Nat} {A B : World → Prop} {w : World} (hA : A w) (hB : B w) : ∀ k, needK md ops j k = true → pickS l A B k w := fun k hk => by
  unfold pickS
  split
  · exact ⟨hA, hB⟩
  · exact hB
theorem pickS_no {md : Region.Mode} {ops : Array Oper} {j : Nat} {S : Nat → World → Prop} {w : World} (h : ((List.range ops.size).all fun k => !needK md ops j k) = true) : ∀ k, needK md ops j k = true → S k w := fun k hk => by
  have h0 := hk
  unfold needK at hk
  split at hk
  · rename_i oj oi h3 h4
    have h1 := List.all_eq_true.1 h k (List.mem_range.2 (Array.getElem?_eq_some_iff.1 h4).1)
    rw [h0] at h1; cases h1
  · cases hk
end Go.Proofs.Ytlhekifmkkgjlaa
