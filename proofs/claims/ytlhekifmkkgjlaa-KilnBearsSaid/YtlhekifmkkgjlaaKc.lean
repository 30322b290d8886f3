/- Contracts of chapter 8: the search by halving, Left and Need. -/
import Derived.Test.YtlhekifmkkgjlaaKb
set_option linter.unusedSimpArgs false
set_option linter.unusedVariables false
set_option linter.unnecessarySimpa false
namespace Go.Proofs.Ytlhekifmkkgjlaa
open Go Go.RowKit
set_option maxHeartbeats 400000
/-- r is the least number below n where p holds, or n -/
def Least (p : Nat → Bool) (n r : Nat) : Prop := r ≤ n ∧ (∀ i, i < r → p i = false) ∧ (r < n → p r = true)
theorem Least.uniq {p : Nat → Bool} {n r s : Nat} (h : Least p n r) (k : Least p n s) : r = s := by
  obtain ⟨h1, h2, h3⟩ := h
  obtain ⟨k1, k2, k3⟩ := k
  rcases Nat.lt_trichotomy r s with hl | rfl | hl
  · have := h3 (by omega); rw [k2 r hl] at this; cases this
  · rfl
  · have := k3 (by omega); rw [h2 s hl] at this; cases this
def SearchPost (p : Nat → Bool) (n : Nat) (w : World) (e : Ending) (w' : World) : Prop := ∃ r : Nat, e = .returned (.int .i64 r) ∧ Least p n r ∧ Below w.heap.size w w'
theorem search_any (g : FuncId) (lb : Array Value) (p : Nat → Bool) (n : Nat) (w : World) (hn : n ≤ 2000000000) (mono : ∀ i j, i ≤ j → j < n → p i = true → p j = true)
    (eg : ∀ args w, (callFunc g args).run Try.prog w = .ok (.enter g args) w)
    (hp : ∀ W (k : Nat), k < n → Below w.heap.size w W → Calls Try.prog g (#[.int .i64 k] ++ lb) W fun e W' => e = .returned (.bool (p k)) ∧ Below W.heap.size W W') :
    Calls Try.prog 58 #[.int .i64 n, .func (.func g) #[] lb] w (SearchPost p n w) := by
  have HP := hide hp; clear hp
  have HM := hide mono; clear mono
  go_enter Try.func58, Try.ntmps58
  go_wp2_with fail
  go_loopw [5, 6] (fun i j wr => ∃ a b : Nat, i = .int .i64 a ∧ j = .int .i64 b ∧ a ≤ b ∧ b ≤ n ∧ Hid ((∀ i, i < a → p i = false) ∧ (b < n → p b = true)) ∧ Below w.heap.size w wr) (fun i j _ => (intOf j).toNat - (intOf i).toNat)
  case atStart => exact ⟨0, n, rfl, rfl, Nat.zero_le _, Nat.le_refl _, ⟨fun i hi => absurd hi (by omega), fun h => absurd h (by omega)⟩, Below.refl _ _⟩
  case round =>
    obtain ⟨a, b, rfl, rfl, hab, hbn, H, hB⟩ := hrel
    by_cases hlt : a < b
    · go_wp2_with fail
      obtain ⟨h, hh⟩ : ∃ h : Nat, h = (a + b) / 2 := ⟨_, rfl⟩
      have e1 : ((a : Int) + b) / 2 = (h : Int) := by omega
      have l1 : a ≤ h := by omega
      have l2 : h < b := by omega
      clear hh
      simp only [e1]
      clear e1
      cases hph : p h with
      | true =>
        have hph' := hide hph; clear hph
        have HC := hide (HP.out wr h (by omega) hB)
        rw [hph'.out] at HC
        refine HC.out.mono ?_
        rintro e w1 ⟨rfl, hb1⟩
        go_wp2_with fail
        go_roundw
        case rel => exact ⟨a, h, rfl, rfl, by omega, by omega, ⟨H.out.1, fun _ => hph'.out⟩, hB.trans (hb1.mono hB.size)⟩
        case measure => simp [intOf]; omega
      | false =>
        have hph' := hide hph; clear hph
        have HC := hide (HP.out wr h (by omega) hB)
        rw [hph'.out] at HC
        refine HC.out.mono ?_
        rintro e w1 ⟨rfl, hb1⟩
        go_wp2_with fail
        go_roundw
        case rel =>
          refine ⟨h + 1, b, by go_num, rfl, by omega, by omega, ⟨fun i hi => ?_, H.out.2⟩, hB.trans (hb1.mono hB.size)⟩
          rcases hpi : p i with _ | _
          · rfl
          · have := HM.out i h (by omega) (by omega) hpi
            rw [hph'.out] at this; cases this
        case measure => simp [intOf]; omega
    · obtain rfl : a = b := by omega
      go_wp2_with fail
      go_ret
      exact ⟨a, rfl, ⟨hbn, H.out.1, H.out.2⟩, hB⟩
theorem aft_mono (sh : Nat → Int) : ∀ k, (∀ i, i < k → 0 ≤ sh i ∧ sh i ≤ 10000) → ∀ a b : Int, 0 ≤ a → a ≤ b → aft sh k a ≤ aft sh k b
  | 0, _, a, b, _, h => h
  | k + 1, hs, a, b, h0, h => by
    have h1 := aft_mono sh k (fun i hi => hs i (by omega)) a b h0 h
    have h2 := (aft_bd sh a h0 k fun i hi => hs i (by omega)).1
    obtain ⟨s1, s2⟩ := hs k (by omega)
    unfold aft
    generalize aft sh k a = p at *
    generalize aft sh k b = q at *
    have h3 : q * sh k = p * sh k + (q - p) * sh k := by rw [← Int.add_mul]; congr 1; omega
    have h4 : (q - p) * sh k ≤ (q - p) * 10000 := Int.mul_le_mul_of_nonneg_left s2 (by omega)
    omega
theorem need1_any (n : Int) (i : Nat) (A : Option Addr) (m c : Nat) (x y : Nat → Int) (p q : Nat) (w : World) (hm : m ≤ maxLen) (h1 : i ≤ 2000000000)
    (hR : PI w w.heap.size A m x y) (hsh : ∀ i, i < m → 0 ≤ y i ∧ y i ≤ 10000)
    (hc : w.cell? ⟨p, 0, none⟩ = some (.slice A m c)) (hq : w.cell? ⟨q, 0, none⟩ = some (.int .i64 n)) (hpl : p < w.heap.size) (hql : q < w.heap.size) :
    Calls Try.prog 59 #[.int .i64 i, .pointer (some ⟨p, 0, none⟩), .pointer (some ⟨q, 0, none⟩)] w fun e w' => e = .returned (.bool (decide (n ≤ aft y m i))) ∧ Below w.heap.size w w' := by
  have HC := fun W (hB : Below w.heap.size w W) => after_any 56 y (i : Int) A m c x y W hm (by omega) (by omega) ((hR.below hB (Nat.le_refl _)).more hB.size) hsh (enters_of Try.func56 (by kernel_rfl) rfl) (fun W k _ _ => most_any _ _ _)
  have HC' := hide HC
  clear HC hR hsh
  go_enter Try.func59, Try.ntmps59
  go_wp2_with fail
  go_region_held3 (fun W => W.cell? ⟨p, 0, none⟩ = some (.slice A m c) ∧ W.cell? ⟨q, 0, none⟩ = some (.int .i64 n)) (first | go_keep | exact ⟨(hb1.cell (p := ⟨p, 0, none⟩) hpl).trans hc, (hb1.cell (p := ⟨q, 0, none⟩) hql).trans hq⟩) ((go_at_call 55; refine (HC'.out _ ((Below.refl _ _).drew)).mono ?_; rintro e w1 ⟨rfl, hb1⟩))
  go_wp2_with fail
  go_ret
  exact ⟨rfl, (Below.refl _ _).drew.trans hb1⟩
/-- stages that are valid -/
def Stages (m : Nat) (x y : Nat → Int) : Prop := ∀ i, i < m → 0 ≤ x i ∧ x i ≤ y i ∧ y i ≤ 10000
theorem stages_bad (m : Nat) (x y : Nat → Int) : anyTo (fun k => stB (x k) (y k)) m = false ↔ Stages m x y := by
  rw [← Bool.not_eq_true, anyTo_iff]
  constructor
  · intro h i hi
    rw [← stB_false]
    rcases hb : stB (x i) (y i) with _ | _
    · rfl
    · exact absurd ⟨i, hi, hb⟩ h
  · rintro h ⟨k, hk, h2⟩
    have := (stB_false _ _).2 (h k hk)
    rw [this] at h2; cases h2
theorem chkE_zero (n : Int) (m : Nat) (x y : Nat → Int) : chkE n m (anyTo (fun k => stB (x k) (y k)) m) = 0 ↔ m ≤ 10 ∧ Stages m x y ∧ 0 ≤ n ∧ n ≤ 1000000000 := by
  rw [← stages_bad]
  unfold chkE
  generalize anyTo (fun k => stB (x k) (y k)) m = b
  cases b <;> simp <;> (repeat' split) <;> simp_all <;> omega
theorem left_err (n : Int) (A : Option Addr) (m c : Nat) (x y : Nat → Int) (w : World) (hm : m ≤ maxLen) (hR : PI w w.heap.size A m x y)
    (he : chkE n m (anyTo (fun k => stB (x k) (y k)) m) ≠ 0) :
    Calls Try.prog 14 #[.int .i64 n, .slice A m c] w fun e w' =>
      e = .returned (.tuple #[.agg #[.int .i64 0, .int .i64 0], .int .i64 (chkE n m (anyTo (fun k => stB (x k) (y k)) m))]) ∧ Below w.heap.size w w' := by
  have HC := fun W (hB : Below w.heap.size w W) => check_any n A m c x y W hm ((hR.below hB (Nat.le_refl _)).more hB.size)
  have HC' := hide HC
  clear HC hR
  generalize chkE n m (anyTo (fun k => stB (x k) (y k)) m) = E at *
  have he' : (E != 0) = true := by simpa using he
  go_enter Try.func14, Try.ntmps14
  go_wp2_with fail
  refine (HC'.out _ ((Below.refl _ _).alloc (Nat.le_refl _) _)).mono ?_
  rintro e w1 ⟨rfl, hb1⟩
  have hz : w.heap.size + 1 ≤ w1.heap.size := by have := hb1.size; simpa using this
  have hc0 : w1.cell? ⟨w.heap.size, 0, none⟩ = some (.int .i64 0) := (hb1.cell (by simp)).trans (by simp)
  have hc1 : w1.cell? ⟨w.heap.size, 1, none⟩ = some (.int .i64 0) := (hb1.cell (by simp)).trans (by simp)
  have hf0 : w1.frozen? ⟨w.heap.size, 0, none⟩ = false := (hb1.frozen (by simp)).trans (by simp)
  have hf1 : w1.frozen? ⟨w.heap.size, 1, none⟩ = false := (hb1.frozen (by simp)).trans (by simp)
  go_wp2_with fail
  refine bodyPost_ret (v := .tuple #[.agg #[.int .i64 0, .int .i64 0], .int .i64 E]) (by simp [results, Try.results14, go_sem, *]) rfl ⟨rfl, ?_⟩
  exact ((((Below.refl _ _).alloc (Nat.le_refl _) _).trans (hb1.mono (by simp))).setCell (Nat.le_refl _) _).setCell (Nat.le_refl _) _
theorem left_ok (n : Int) (A : Option Addr) (m c : Nat) (x y : Nat → Int) (w : World) (hm : m ≤ 10) (hR : PI w w.heap.size A m x y) (hs : Stages m x y) (h0 : 0 ≤ n) (h1 : n ≤ 1000000000) :
    Calls Try.prog 14 #[.int .i64 n, .slice A m c] w fun e w' =>
      e = .returned (.tuple #[.agg #[.int .i64 (aft y m n), .int .i64 (aft x m n)], .int .i64 0]) ∧ Below w.heap.size w w' := by
  have hm' : m ≤ maxLen := by unfold maxLen; omega
  have hz0 : chkE n m (anyTo (fun k => stB (x k) (y k)) m) = 0 := (chkE_zero n m x y).2 ⟨hm, hs, h0, h1⟩
  have HC := hide (fun W (hB : Below w.heap.size w W) => check_any n A m c x y W hm' ((hR.below hB (Nat.le_refl _)).more hB.size))
  have HY := hide (fun W (hB : Below w.heap.size w W) => after_any 56 y n A m c x y W hm' h0 (by omega) ((hR.below hB (Nat.le_refl _)).more hB.size) (fun i hi => ⟨by have := hs i hi; omega, (hs i hi).2.2⟩) (enters_of Try.func56 (by kernel_rfl) rfl) (fun W k _ _ => most_any _ _ _))
  have HX := hide (fun W (hB : Below w.heap.size w W) => after_any 57 x n A m c x y W hm' h0 (by omega) ((hR.below hB (Nat.le_refl _)).more hB.size) (fun i hi => ⟨(hs i hi).1, by have := hs i hi; omega⟩) (enters_of Try.func57 (by kernel_rfl) rfl) (fun W k _ _ => least_any _ _ _))
  rw [hz0] at HC
  clear hR hs hz0 hm'
  go_enter Try.func14, Try.ntmps14
  go_wp2_with fail
  refine (HC.out _ ((Below.refl _ _).alloc (Nat.le_refl _) _)).mono ?_
  rintro e w1 ⟨rfl, hb1⟩
  have b1 : Below w.heap.size w w1 := ((Below.refl _ _).alloc (Nat.le_refl _) _).trans (hb1.mono (by simp))
  go_wp2_with fail
  refine (HY.out _ b1).mono ?_
  rintro e w2 ⟨rfl, hb2⟩
  have b2 : Below w.heap.size w w2 := b1.trans (hb2.mono b1.size)
  go_wp2_with fail
  refine (HX.out _ b2).mono ?_
  rintro e w3 ⟨rfl, hb3⟩
  have z1 : w.heap.size < w1.heap.size := by have := hb1.size; simp at this; omega
  have z2 : w.heap.size < w2.heap.size := by have := hb2.size; omega
  have z3 : w.heap.size < w3.heap.size := by have := hb3.size; omega
  have hc0 : w3.cell? ⟨w.heap.size, 0, none⟩ = some (.int .i64 0) := (hb3.cell z2).trans ((hb2.cell z1).trans ((hb1.cell (by simp)).trans (by simp)))
  have hc1 : w3.cell? ⟨w.heap.size, 1, none⟩ = some (.int .i64 0) := (hb3.cell z2).trans ((hb2.cell z1).trans ((hb1.cell (by simp)).trans (by simp)))
  have hf0 : w3.frozen? ⟨w.heap.size, 0, none⟩ = false := (hb3.frozen z2).trans ((hb2.frozen z1).trans ((hb1.frozen (by simp)).trans (by simp)))
  have hf1 : w3.frozen? ⟨w.heap.size, 1, none⟩ = false := (hb3.frozen z2).trans ((hb2.frozen z1).trans ((hb1.frozen (by simp)).trans (by simp)))
  go_wp2_with fail
  refine bodyPost_ret (v := .tuple #[.agg #[.int .i64 (aft y m n), .int .i64 (aft x m n)], .int .i64 0]) (by simp [results, Try.results14, go_sem, *]) rfl ⟨rfl, ?_⟩
  exact ((b2.trans (hb3.mono b2.size)).setCell (Nat.le_refl _) _).setCell (Nat.le_refl _) _
theorem need_err (n : Int) (A : Option Addr) (m c : Nat) (x y : Nat → Int) (w : World) (hm : m ≤ maxLen) (hR : PI w w.heap.size A m x y)
    (he : chkE n m (anyTo (fun k => stB (x k) (y k)) m) ≠ 0) :
    Calls Try.prog 16 #[.int .i64 n, .slice A m c] w fun e w' =>
      e = .returned (.tuple #[.int .i64 0, .int .i64 (chkE n m (anyTo (fun k => stB (x k) (y k)) m))]) ∧ Below w.heap.size w w' := by
  have HC := hide (fun W (hB : Below w.heap.size w W) => check_any n A m c x y W hm ((hR.below hB (Nat.le_refl _)).more hB.size))
  clear hR
  generalize chkE n m (anyTo (fun k => stB (x k) (y k)) m) = E at *
  have he' : (E != 0) = true := by simpa using he
  go_enter Try.func16, Try.ntmps16
  go_wp2_with fail
  refine (HC.out _ (((Below.refl _ _).alloc (Nat.le_refl _) _).alloc (by simp) _)).mono ?_
  rintro e w1 ⟨rfl, hb1⟩
  go_wp2_with fail
  go_ret2
  exact ⟨rfl, (((Below.refl _ _).alloc (Nat.le_refl _) _).alloc (by simp) _).trans (hb1.mono (by simp; omega))⟩
def NeedPost (n : Int) (m : Nat) (y : Nat → Int) (w : World) (e : Ending) (w' : World) : Prop :=
  ∃ r : Nat, Least (fun i => decide (n ≤ aft y m i)) 1000000001 r ∧ e = .returned (.tuple #[.int .i64 (if r ≤ 1000000000 then (r : Int) else 0), .int .i64 (if r ≤ 1000000000 then 0 else 7)]) ∧ Below w.heap.size w w'
theorem need_ok (n : Int) (A : Option Addr) (m c : Nat) (x y : Nat → Int) (w : World) (hm : m ≤ 10) (hR : PI w w.heap.size A m x y) (hs : Stages m x y) (h0 : 0 ≤ n) (h1 : n ≤ 1000000000) :
    Calls Try.prog 16 #[.int .i64 n, .slice A m c] w (NeedPost n m y w) := by
  have hm' : m ≤ maxLen := by unfold maxLen; omega
  have hy : ∀ i, i < m → 0 ≤ y i ∧ y i ≤ 10000 := fun i hi => ⟨by have := hs i hi; omega, (hs i hi).2.2⟩
  have hz0 : chkE n m (anyTo (fun k => stB (x k) (y k)) m) = 0 := (chkE_zero n m x y).2 ⟨hm, hs, h0, h1⟩
  have HC := hide (fun W (hB : Below w.heap.size w W) => check_any n A m c x y W hm' ((hR.below hB (Nat.le_refl _)).more hB.size))
  rw [hz0] at HC
  have HR := hide hR
  have HY := hide hy
  clear hR hs hz0 hm' hy
  go_enter Try.func16, Try.ntmps16
  go_wp2_with fail
  have b0 : Below w.heap.size w ((w.alloc (.cells #[.int .i64 n] 3)).alloc (.cells #[.slice A m c] 22)) := (((Below.refl _ _).alloc (Nat.le_refl _) _).alloc (by simp) _)
  refine (HC.out _ b0).mono ?_
  rintro e w1 ⟨rfl, hb1⟩
  have b1 : Below w.heap.size w w1 := b0.trans (hb1.mono (by simp; omega))
  have z1 : w.heap.size + 2 ≤ w1.heap.size := by have := hb1.size; simp at this; omega
  have hc0 : w1.cell? ⟨w.heap.size, 0, none⟩ = some (.int .i64 n) := ((hb1.cell (by simp; omega)).trans (by simp))
  have hc1 : w1.cell? ⟨w.heap.size + 1, 0, none⟩ = some (.slice A m c) := ((hb1.cell (by simp)).trans (by simp))
  clear b0
  go_wp2_with fail
  refine (search_any 59 #[.pointer (some ⟨w.heap.size + 1, 0, none⟩), .pointer (some ⟨w.heap.size, 0, none⟩)] (fun i => decide (n ≤ aft y m i)) 1000000001 _ (by omega) ?_ (enters_of Try.func59 (by kernel_rfl) rfl) ?_).mono ?_
  · intro i j hij _ h
    have := aft_mono y m HY.out i j (by omega) (by omega)
    simp only [decide_eq_true_eq] at *
    omega
  · intro W k hk hB
    exact need1_any n k A m c x y _ _ W (by unfold maxLen; omega) (by omega) ((HR.out.below (b1.trans (hB.mono b1.size)) (Nat.le_refl _)).more (b1.trans (hB.mono b1.size)).size) HY.out ((hB.cell (by simp; omega)).trans hc1) ((hB.cell (by simp; omega)).trans hc0) (by have := hB.size; omega) (by have := hB.size; omega)
  rintro e w2 ⟨r, rfl, hL, hb2⟩
  have HL := hide hL
  clear hL
  by_cases hr : r ≤ 1000000000
  · go_wp2_with fail
    go_ret2
    exact ⟨r, HL.out, by simp [hr], b1.trans (hb2.mono b1.size)⟩
  · go_wp2_with fail
    go_ret2
    exact ⟨r, HL.out, by simp [hr], b1.trans (hb2.mono b1.size)⟩
end Go.Proofs.Ytlhekifmkkgjlaa
