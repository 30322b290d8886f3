/- The law KilnCounts, walked. -/
import Derived.Test.YtlhekifmkkgjlaaMm
import Derived.Test.YtlhekifmkkgjlaaLc
import Derived.Test.YtlhekifmkkgjlaaBoxes
import Derived.Deep.CutBlock
import Derived.Deep.DeepCutAuto
import Derived.IntWalk
import Derived.Deep.QuietTactic
import Derived.BigQuiet
set_option linter.unusedSimpArgs false
set_option linter.unusedVariables false
set_option linter.unnecessarySimpa false
namespace Go.Proofs.Ytlhekifmkkgjlaa
open Go Go.RowKit Go.Shelf
set_option maxHeartbeats 40000000
set_option maxRecDepth 100000
/-- a list of yard deeds: four small numbers each -/
def YR (w : World) (A : Option Addr) (m : Nat) (v : Nat → Nat → Int) : Prop := ER w w.heap.size 4 A m fun k i => .int .u8 (v k i)
theorem small_mod2 {x : Int} (h : 0 ≤ x) : ∃ K : Nat, K < 2 ∧ IntKind.i64.wrap (x.tmod 2) = (K : Int) := by
  have e : x.tmod 2 = x % 2 := Int.tmod_eq_emod_of_nonneg h
  exact ⟨(x % 2).toNat, by omega, by rw [e, IntWalk.i64_in _ (by omega)]; omega⟩
theorem small_mod7 {x : Int} (h : 0 ≤ x) : ∃ q : Nat, q < 7 ∧ x % 7 = (q : Int) := by
  exact ⟨(x % 7).toNat, by omega, by omega⟩
theorem PI.one (w : World) (a b : Int) (e : TypeId) : PI (w.alloc (.cells #[.int .i64 a, .int .i64 b] e)) (w.alloc (.cells #[.int .i64 a, .int .i64 b] e)).heap.size (some ⟨w.heap.size, 0, none⟩) 1 (fun _ => a) (fun _ => b) := fun _ =>
  ⟨w.heap.size, 0, rfl, by simp, fun k i hk hi => by
    obtain ⟨z0, z1, z2⟩ := bx2 (Blk.new w e #[.int .i64 a, .int .i64 b])
    obtain rfl : k = 0 := by omega
    rcases (by omega : i = 0 ∨ i = 1) with rfl | rfl
    · simpa using z1
    · simpa using z2⟩
theorem fireE_zero {x : Wa} {N sp room : Int} (h : fireE x N sp room = 0) : 1 ≤ N ∧ N ≤ x.dry := by
  unfold fireE at h
  by_cases a : N < 1
  · rw [if_pos a] at h; omega
  rw [if_neg a] at h
  by_cases c : x.dry < N
  · rw [if_pos c] at h; omega
  omega
theorem drawE_zero {x : Wa} {l : Int} (h : drawE x l = 0) : 0 ≤ l ∧ l ≤ x.burning := by
  unfold drawE at h
  by_cases a : 0 ≤ l ∧ l ≤ x.burning
  · exact a
  · rw [if_neg a] at h; omega
theorem counts_long (A : Option Addr) (m c : Nat) (w : World) (hm : 80 < m) (hm2 : m ≤ maxLen) : Calls Try.prog 10 #[.slice A m c] w fun e w' => e = .returned (.bool true) ∧ Below w.heap.size w w' := by
  unfold maxLen at hm2
  have HK := hide known_any
  have h1 : 80 < (m : Int) := by omega
  go_enter Try.func10, Try.ntmps10
  go_wp2_with fail
  refine (HK.out _).mono ?_
  rintro e w1 ⟨rfl, hb1⟩
  go_wp2_with fail
  go_ret
  exact ⟨rfl, hb1⟩
theorem counts_go (A : Option Addr) (m c : Nat) (v : Nat → Nat → Int) (w : World) (hm : m ≤ 80) (hR : YR w A m v) (hv : ∀ k i, k < m → i < 4 → 0 ≤ v k i ∧ v k i ≤ 255) : Calls Try.prog 10 #[.slice A m c] w fun e w' => e = .returned (.bool true) ∧ Below w.heap.size w w' := by
  have HK := hide known_any
  have HR := hide hR
  have HV := hide hv
  have h1 : ¬ 80 < (m : Int) := by omega
  clear hR hv
  go_enter Try.func10, Try.ntmps10
  go_wp2_with fail
  have HIR : Hid (IR (w.alloc (.cells #[.int .i64 1, .int .i64 3] 3)) (w.alloc (.cells #[.int .i64 1, .int .i64 3] 3)).heap.size (some ⟨w.heap.size, 0, none⟩) 2 (fun i => if i = 0 then 1 else 3)) := hide (fun _ => ⟨w.heap.size, 0, rfl, by simp, fun k i hk hi => by
    obtain ⟨z0, z1, z2⟩ := bx2 (Blk.new w 3 #[.int .i64 1, .int .i64 3])
    obtain rfl : i = 0 := by omega
    rcases (by omega : k = 0 ∨ k = 1) with rfl | rfl
    · simpa using z1
    · simpa using z2⟩)
  refine (new_ok (some ⟨w.heap.size, 0, none⟩) 2 2 (fun i => if i = 0 then 1 else 3) 400 _ HIR.out (by decide)).mono ?_
  rintro e w1 ⟨b, S, rfl, hbook, hb1⟩
  have B1 := hide (((Below.refl w.heap.size w).alloc (Nat.le_refl _) (.cells #[.int .i64 1, .int .i64 3] 3)).trans (hb1.mono (by simp)))
  have HBOOK := hide hbook
  clear hb1 hbook HIR
  go_wp2_with fail
  have M5 : Hid (Blk ((((w1.alloc (.cells #[.int .i64 0, .int .i64 0] 99)).alloc (.cells #[.int .i64 0, .int .i64 0] 99)).alloc (.cells #[.int .i64 0, .int .i64 0] 99)).alloc (.cells #[.int .i64 0, .int .i64 0, .int .i64 0, .int .i64 0, .int .i64 0, .int .i64 0, .int .i64 0, .int .i64 0, .int .i64 0, .int .i64 0, .int .i64 0, .int .i64 0, .int .i64 0, .int .i64 0] 100)) w1.heap.size 99 #[.int .i64 0, .int .i64 0]) := hide ((((Blk.new w1 _ _).alloc _).alloc _).alloc _)
  have M6 : Hid (Blk ((((w1.alloc (.cells #[.int .i64 0, .int .i64 0] 99)).alloc (.cells #[.int .i64 0, .int .i64 0] 99)).alloc (.cells #[.int .i64 0, .int .i64 0] 99)).alloc (.cells #[.int .i64 0, .int .i64 0, .int .i64 0, .int .i64 0, .int .i64 0, .int .i64 0, .int .i64 0, .int .i64 0, .int .i64 0, .int .i64 0, .int .i64 0, .int .i64 0, .int .i64 0, .int .i64 0] 100)) (w1.heap.size + 1) 99 #[.int .i64 0, .int .i64 0]) := hide (((by simpa using Blk.new (w1.alloc (.cells #[.int .i64 0, .int .i64 0] 99)) 99 #[.int .i64 0, .int .i64 0] : Blk _ (w1.heap.size + 1) _ _).alloc _).alloc _)
  have M7 : Hid (Blk ((((w1.alloc (.cells #[.int .i64 0, .int .i64 0] 99)).alloc (.cells #[.int .i64 0, .int .i64 0] 99)).alloc (.cells #[.int .i64 0, .int .i64 0] 99)).alloc (.cells #[.int .i64 0, .int .i64 0, .int .i64 0, .int .i64 0, .int .i64 0, .int .i64 0, .int .i64 0, .int .i64 0, .int .i64 0, .int .i64 0, .int .i64 0, .int .i64 0, .int .i64 0, .int .i64 0] 100)) (w1.heap.size + 2) 99 #[.int .i64 0, .int .i64 0]) := hide ((by simpa using Blk.new ((w1.alloc (.cells #[.int .i64 0, .int .i64 0] 99)).alloc (.cells #[.int .i64 0, .int .i64 0] 99)) 99 #[.int .i64 0, .int .i64 0] : Blk _ (w1.heap.size + 2) _ _).alloc _)
  have M8 : Hid (Blk ((((w1.alloc (.cells #[.int .i64 0, .int .i64 0] 99)).alloc (.cells #[.int .i64 0, .int .i64 0] 99)).alloc (.cells #[.int .i64 0, .int .i64 0] 99)).alloc (.cells #[.int .i64 0, .int .i64 0, .int .i64 0, .int .i64 0, .int .i64 0, .int .i64 0, .int .i64 0, .int .i64 0, .int .i64 0, .int .i64 0, .int .i64 0, .int .i64 0, .int .i64 0, .int .i64 0] 100)) (w1.heap.size + 3) 100 #[.int .i64 0, .int .i64 0, .int .i64 0, .int .i64 0, .int .i64 0, .int .i64 0, .int .i64 0, .int .i64 0, .int .i64 0, .int .i64 0, .int .i64 0, .int .i64 0, .int .i64 0, .int .i64 0]) := hide (by simpa using Blk.new (((w1.alloc (.cells #[.int .i64 0, .int .i64 0] 99)).alloc (.cells #[.int .i64 0, .int .i64 0] 99)).alloc (.cells #[.int .i64 0, .int .i64 0] 99)) 100 #[.int .i64 0, .int .i64 0, .int .i64 0, .int .i64 0, .int .i64 0, .int .i64 0, .int .i64 0, .int .i64 0, .int .i64 0, .int .i64 0, .int .i64 0, .int .i64 0, .int .i64 0, .int .i64 0])
  generalize hw2 : ((((w1.alloc (.cells #[.int .i64 0, .int .i64 0] 99)).alloc (.cells #[.int .i64 0, .int .i64 0] 99)).alloc (.cells #[.int .i64 0, .int .i64 0] 99)).alloc (.cells #[.int .i64 0, .int .i64 0, .int .i64 0, .int .i64 0, .int .i64 0, .int .i64 0, .int .i64 0, .int .i64 0, .int .i64 0, .int .i64 0, .int .i64 0, .int .i64 0, .int .i64 0, .int .i64 0] 100)) = w2 at M5 M6 M7 M8 ⊢
  have HB2 : Hid (Below w1.heap.size w1 w2) := hide (by
    rw [← hw2]
    exact (((((Below.refl _ w1).alloc (Nat.le_refl _) _).alloc (by simp) _).alloc (by simp; omega) _).alloc (by simp; omega) _))
  obtain ⟨sb, sc, hci⟩ := CI.init HBOOK.out (by simp) B1.out HB2.out M5.out M6.out M7.out M8.out
  have HCI := hide hci
  clear hci hw2 HBOOK M5 M6 M7 M8
  go_loopw [4, 9, 10] (fun e bu i wr => ∃ k : Nat, i = .int .i64 k ∧ k ≤ m ∧ ∃ (bb : Bool) (ov : Value) (ws : Nat → Wa) (pu : Nat → Int), bu = .bool bb ∧ Hid (CI w b S w1.heap.size sb 0 sc ov bb ws (fun j => (ws j).sum) (fun j => (ws j).laid) pu ws wr)) (fun _ _ i _ => m - (intOf i).toNat)
  case atStart => exact ⟨0, rfl, by omega, false, _, _, _, rfl, HCI⟩
  case round =>
    obtain ⟨k, rfl, hk, bb, ov, ws, pu, rfl, HC⟩ := hrel
    by_cases hlt : k < m
    · obtain ⟨ab, aoff, hA, hab, hcl⟩ := HR.out (by omega)
      subst hA
      have HSY : Hid (∀ W, Below w.heap.size w W → W.cell? ⟨ab, aoff + k * 4, none⟩ = some (.int .u8 (v k 0)) ∧ W.cell? ⟨ab, aoff + k * 4 + 1, none⟩ = some (.int .u8 (v k 1)) ∧ W.cell? ⟨ab, aoff + k * 4 + 2, none⟩ = some (.int .u8 (v k 2)) ∧ W.cell? ⟨ab, aoff + k * 4 + 3, none⟩ = some (.int .u8 (v k 3))) := hide (fun W hb => ⟨(hb.cell (p := ⟨ab, aoff + k * 4, none⟩) hab).trans (by simpa using hcl k 0 hlt (by omega)), (hb.cell (p := ⟨ab, aoff + k * 4 + 1, none⟩) hab).trans (by simpa using hcl k 1 hlt (by omega)), (hb.cell (p := ⟨ab, aoff + k * 4 + 2, none⟩) hab).trans (by simpa using hcl k 2 hlt (by omega)), (hb.cell (p := ⟨ab, aoff + k * 4 + 3, none⟩) hab).trans (by simpa using hcl k 3 hlt (by omega))⟩)
      have i1 : (0 : Int) ≤ (k : Int) := by omega
      have i2 : (k : Int) < (m : Int) := by omega
      clear hcl
      obtain ⟨v00, v01⟩ := HV.out k 0 hlt (by omega)
      obtain ⟨v10, v11⟩ := HV.out k 1 hlt (by omega)
      obtain ⟨v20, v21⟩ := HV.out k 2 hlt (by omega)
      obtain ⟨v30, v31⟩ := HV.out k 3 hlt (by omega)
      generalize v k 0 = x0 at HSY v00 v01
      generalize v k 1 = x1 at HSY v10 v11
      generalize v k 2 = x2 at HSY v20 v21
      generalize v k 3 = x3 at HSY v30 v31
      obtain ⟨K, hK, eK⟩ : ∃ K : Nat, K < 2 ∧ IntKind.i64.wrap (x1.tmod 2) = (K : Int) := small_mod2 v10
      obtain ⟨q, hq, eq⟩ : ∃ q : Nat, q < 7 ∧ x0 % 7 = (q : Int) := small_mod7 v00
      have HeK := hide eK
      have Heq := hide eq
      clear eK eq
      go_wp2_with fail
      have Bd := hide HC.out.below.drew
      refine wp_region_J (fun W : World => W.cell? ⟨ab, aoff + k * 4, none⟩ = some (.int .u8 x0) ∧ W.cell? ⟨ab, aoff + k * 4 + 1, none⟩ = some (.int .u8 x1) ∧ W.cell? ⟨ab, aoff + k * 4 + 2, none⟩ = some (.int .u8 x2) ∧ W.cell? ⟨ab, aoff + k * 4 + 3, none⟩ = some (.int .u8 x3)) (by kernel_rfl) ?_
      refine wpAnyJ_take 0 (v := ?_) (by first | exact hF | exact wideFn) (HSY.out _ Bd.out) rfl (by kernel_rfl) (by kernel_rfl) (by kernel_rfl) (by kernel_rfl) rfl ?_ (by first | exact fun _ _ _ h => h | exact fun _ _ _ h => hQ2 _ _ _ _ _ h) ?_
      rotate_left
      · intro W hSW
        simp only [List.getElem_toArray, List.getElem_cons_zero, List.getElem_cons_succ]
        (try dsimp only at hSW)
        go_simp
        with_reducible rfl
      (try simp only [List.getElem_toArray, List.getElem_cons_zero, List.getElem_cons_succ, Act.put, List.setIfInBounds_toArray, List.set_cons_zero, List.set_cons_succ])
      refine wpAnyJ_take 1 (v := ?_) (by first | exact hF | exact wideFn) (HSY.out _ Bd.out) rfl (by kernel_rfl) (by kernel_rfl) (by kernel_rfl) (by kernel_rfl) rfl ?_ (by first | exact fun _ _ _ h => h | exact fun _ _ _ h => hQ2 _ _ _ _ _ h) ?_
      rotate_left
      · intro W hSW
        simp only [List.getElem_toArray, List.getElem_cons_zero, List.getElem_cons_succ]
        (try dsimp only at hSW)
        go_simp
        with_reducible rfl
      (try simp only [List.getElem_toArray, List.getElem_cons_zero, List.getElem_cons_succ, Act.put, List.setIfInBounds_toArray, List.set_cons_zero, List.set_cons_succ])
      refine wpAnyJ_take 2 (v := ?_) (by first | exact hF | exact wideFn) (HSY.out _ Bd.out) rfl (by kernel_rfl) (by kernel_rfl) (by kernel_rfl) (by kernel_rfl) rfl ?_ (by first | exact fun _ _ _ h => h | exact fun _ _ _ h => hQ2 _ _ _ _ _ h) ?_
      rotate_left
      · intro W hSW
        simp only [List.getElem_toArray, List.getElem_cons_zero, List.getElem_cons_succ]
        (try dsimp only at hSW)
        go_simp
        with_reducible rfl
      (try simp only [List.getElem_toArray, List.getElem_cons_zero, List.getElem_cons_succ, Act.put, List.setIfInBounds_toArray, List.set_cons_zero, List.set_cons_succ])
      refine wpAnyJ_take 3 (v := ?_) (by first | exact hF | exact wideFn) (HSY.out _ Bd.out) rfl (by kernel_rfl) (by kernel_rfl) (by kernel_rfl) (by kernel_rfl) rfl ?_ (by first | exact fun _ _ _ h => h | exact fun _ _ _ h => hQ2 _ _ _ _ _ h) ?_
      rotate_left
      · intro W hSW
        simp only [List.getElem_toArray, List.getElem_cons_zero, List.getElem_cons_succ]
        (try dsimp only at hSW)
        go_simp
        with_reducible rfl
      (try simp only [List.getElem_toArray, List.getElem_cons_zero, List.getElem_cons_succ, Act.put, List.setIfInBounds_toArray, List.set_cons_zero, List.set_cons_succ])
      refine wpAnyJ_take 4 (v := ?_) (by first | exact hF | exact wideFn) (HSY.out _ Bd.out) rfl (by kernel_rfl) (by kernel_rfl) (by kernel_rfl) (by kernel_rfl) rfl ?_ (by first | exact fun _ _ _ h => h | exact fun _ _ _ h => hQ2 _ _ _ _ _ h) ?_
      rotate_left
      · intro W hSW
        simp only [List.getElem_toArray, List.getElem_cons_zero, List.getElem_cons_succ]
        (try dsimp only at hSW)
        go_simp
        with_reducible rfl
      (try simp only [List.getElem_toArray, List.getElem_cons_zero, List.getElem_cons_succ, Act.put, List.setIfInBounds_toArray, List.set_cons_zero, List.set_cons_succ])
      refine wpAnyJ_take 5 (v := ?_) (by first | exact hF | exact wideFn) (HSY.out _ Bd.out) rfl (by kernel_rfl) (by kernel_rfl) (by kernel_rfl) (by kernel_rfl) rfl ?_ (by first | exact fun _ _ _ h => h | exact fun _ _ _ h => hQ2 _ _ _ _ _ h) ?_
      rotate_left
      · intro W hSW
        simp only [List.getElem_toArray, List.getElem_cons_zero, List.getElem_cons_succ]
        (try dsimp only at hSW)
        go_simp
        with_reducible rfl
      (try simp only [List.getElem_toArray, List.getElem_cons_zero, List.getElem_cons_succ, Act.put, List.setIfInBounds_toArray, List.set_cons_zero, List.set_cons_succ])
      refine wpAnyJ_take 6 (v := ?_) (by first | exact hF | exact wideFn) (HSY.out _ Bd.out) rfl (by kernel_rfl) (by kernel_rfl) (by kernel_rfl) (by kernel_rfl) rfl ?_ (by first | exact fun _ _ _ h => h | exact fun _ _ _ h => hQ2 _ _ _ _ _ h) ?_
      rotate_left
      · intro W hSW
        simp only [List.getElem_toArray, List.getElem_cons_zero, List.getElem_cons_succ]
        (try dsimp only at hSW)
        go_simp
        with_reducible rfl
      (try simp only [List.getElem_toArray, List.getElem_cons_zero, List.getElem_cons_succ, Act.put, List.setIfInBounds_toArray, List.set_cons_zero, List.set_cons_succ])
      refine wpAnyJ_take 7 (v := ?_) (by first | exact hF | exact wideFn) (HSY.out _ Bd.out) rfl (by kernel_rfl) (by kernel_rfl) (by kernel_rfl) (by kernel_rfl) rfl ?_ (by first | exact fun _ _ _ h => h | exact fun _ _ _ h => hQ2 _ _ _ _ _ h) ?_
      rotate_left
      · intro W hSW
        simp only [List.getElem_toArray, List.getElem_cons_zero, List.getElem_cons_succ]
        (try dsimp only at hSW)
        go_simp
        with_reducible rfl
      (try simp only [List.getElem_toArray, List.getElem_cons_zero, List.getElem_cons_succ, Act.put, List.setIfInBounds_toArray, List.set_cons_zero, List.set_cons_succ])
      refine wpAnyJ_take 8 (v := ?_) (by first | exact hF | exact wideFn) (HSY.out _ Bd.out) rfl (by kernel_rfl) (by kernel_rfl) (by kernel_rfl) (by kernel_rfl) rfl ?_ (by first | exact fun _ _ _ h => h | exact fun _ _ _ h => hQ2 _ _ _ _ _ h) ?_
      rotate_left
      · intro W hSW
        simp only [List.getElem_toArray, List.getElem_cons_zero, List.getElem_cons_succ]
        (try dsimp only at hSW)
        go_simp
        with_reducible rfl
      (try simp only [List.getElem_toArray, List.getElem_cons_zero, List.getElem_cons_succ, Act.put, List.setIfInBounds_toArray, List.set_cons_zero, List.set_cons_succ])
      refine wpAnyJ_take 9 (v := ?_) (by first | exact hF | exact wideFn) (HSY.out _ Bd.out) rfl (by kernel_rfl) (by kernel_rfl) (by kernel_rfl) (by kernel_rfl) rfl ?_ (by first | exact fun _ _ _ h => h | exact fun _ _ _ h => hQ2 _ _ _ _ _ h) ?_
      rotate_left
      · intro W hSW
        simp only [List.getElem_toArray, List.getElem_cons_zero, List.getElem_cons_succ]
        (try dsimp only at hSW)
        go_simp
        with_reducible rfl
      (try simp only [List.getElem_toArray, List.getElem_cons_zero, List.getElem_cons_succ, Act.put, List.setIfInBounds_toArray, List.set_cons_zero, List.set_cons_succ])
      refine wpAnyJ_take 10 (v := ?_) (by first | exact hF | exact wideFn) (HSY.out _ Bd.out) rfl (by kernel_rfl) (by kernel_rfl) (by kernel_rfl) (by kernel_rfl) rfl ?_ (by first | exact fun _ _ _ h => h | exact fun _ _ _ h => hQ2 _ _ _ _ _ h) ?_
      rotate_left
      · intro W hSW
        simp only [List.getElem_toArray, List.getElem_cons_zero, List.getElem_cons_succ]
        (try dsimp only at hSW)
        go_simp
        with_reducible rfl
      (try simp only [List.getElem_toArray, List.getElem_cons_zero, List.getElem_cons_succ, Act.put, List.setIfInBounds_toArray, List.set_cons_zero, List.set_cons_succ])
      refine wpAnyJ_one 11 rfl (by kernel_rfl) (fun K hK => ?_)
      simp only [List.getElem_toArray, List.getElem_cons_zero, List.getElem_cons_succ]
      go_simp
      refine hK.out _ _ (fun _ => HSY.out _ (Bd.out.alloc Bd.out.size _)) ?_
      clear hK K
      (try simp only [List.getElem_toArray, List.getElem_cons_zero, List.getElem_cons_succ, Act.put, List.setIfInBounds_toArray, List.set_cons_zero, List.set_cons_succ])
      refine wpAnyJ_one 12 rfl (by kernel_rfl) (fun K hK => ?_)
      simp only [List.getElem_toArray, List.getElem_cons_zero, List.getElem_cons_succ]
      go_simp
      refine hK.out _ _ (fun _ => HSY.out _ (Bd.out.alloc Bd.out.size _)) ?_
      clear hK K
      (try simp only [List.getElem_toArray, List.getElem_cons_zero, List.getElem_cons_succ, Act.put, List.setIfInBounds_toArray, List.set_cons_zero, List.set_cons_succ])
      refine wpAnyJ_take 13 (v := ?_) (by first | exact hF | exact wideFn) (HSY.out _ (Bd.out.alloc Bd.out.size _)) rfl (by kernel_rfl) (by kernel_rfl) (by kernel_rfl) (by kernel_rfl) rfl ?_ (by first | exact fun _ _ _ h => h | exact fun _ _ _ h => hQ2 _ _ _ _ _ h) ?_
      rotate_left
      · intro W hSW
        simp only [List.getElem_toArray, List.getElem_cons_zero, List.getElem_cons_succ]
        (try dsimp only at hSW)
        go_simp
        with_reducible rfl
      (try simp only [List.getElem_toArray, List.getElem_cons_zero, List.getElem_cons_succ, Act.put, List.setIfInBounds_toArray, List.set_cons_zero, List.set_cons_succ])
      refine wpAnyJ_done (by kernel_rfl) ?_
      rw [HeK.out]
      have hcx : Hid (CI w b S w1.heap.size sb 0 sc ov bb ws (fun j => (ws j).sum) (fun j => (ws j).laid) pu ws (wr.alloc (.cells #[.int .u8 x0, .int .u8 x1, .int .u8 x2, .int .u8 x3] 102)).drew) ∧ Hid (Blk (wr.alloc (.cells #[.int .u8 x0, .int .u8 x1, .int .u8 x2, .int .u8 x3] 102)).drew wr.heap.size 102 #[.int .u8 x0, .int .u8 x1, .int .u8 x2, .int .u8 x3]) := ⟨hide (HC.out.ext (((Below.refl _ _).alloc (Nat.le_refl _) _).drew)), hide (((Blk.new wr _ _).drew))⟩
      obtain ⟨HCx, HYx⟩ := hcx
      have HLx : Hid (w1.heap.size + 3 < wr.heap.size) := hide HC.out.be.lt
      clear HC Bd HeK HSY
      go_wp2_with fail
      generalize (wr.alloc (.cells #[.int .u8 x0, .int .u8 x1, .int .u8 x2, .int .u8 x3] 102)).drew = wx at HCx HYx ⊢
      generalize wr.heap.size = yb at HYx HLx ⊢
      refine wp_region_J (fun W : World => W.cell? ⟨yb, 2, none⟩ = some (.int .u8 x2) ∧ W.cell? ⟨yb, 3, none⟩ = some (.int .u8 x3)) (by kernel_rfl) ?_
      refine wpAnyJ_take 0 (v := ?_) (by first | exact hF | exact wideFn) (by obtain ⟨_, _, _, c2, c3⟩ := bx4 HYx.out.drew; exact ⟨c2, c3⟩) rfl (by kernel_rfl) (by kernel_rfl) (by kernel_rfl) (by kernel_rfl) rfl ?_ (by first | exact fun _ _ _ h => h | exact fun _ _ _ h => hQ2 _ _ _ _ _ h) ?_
      rotate_left
      · intro W hSW
        simp only [List.getElem_toArray, List.getElem_cons_zero, List.getElem_cons_succ]
        (try dsimp only at hSW)
        go_simp
        with_reducible rfl
      (try simp only [List.getElem_toArray, List.getElem_cons_zero, List.getElem_cons_succ, Act.put, List.setIfInBounds_toArray, List.set_cons_zero, List.set_cons_succ])
      refine wpAnyJ_take 1 (v := ?_) (by first | exact hF | exact wideFn) (by obtain ⟨_, _, _, c2, c3⟩ := bx4 HYx.out.drew; exact ⟨c2, c3⟩) rfl (by kernel_rfl) (by kernel_rfl) (by kernel_rfl) (by kernel_rfl) rfl ?_ (by first | exact fun _ _ _ h => h | exact fun _ _ _ h => hQ2 _ _ _ _ _ h) ?_
      rotate_left
      · intro W hSW
        simp only [List.getElem_toArray, List.getElem_cons_zero, List.getElem_cons_succ]
        (try dsimp only at hSW)
        go_simp
        with_reducible rfl
      (try simp only [List.getElem_toArray, List.getElem_cons_zero, List.getElem_cons_succ, Act.put, List.setIfInBounds_toArray, List.set_cons_zero, List.set_cons_succ])
      refine wpAnyJ_take 2 (v := ?_) (by first | exact hF | exact wideFn) (by obtain ⟨_, _, _, c2, c3⟩ := bx4 HYx.out.drew; exact ⟨c2, c3⟩) rfl (by kernel_rfl) (by kernel_rfl) (by kernel_rfl) (by kernel_rfl) rfl ?_ (by first | exact fun _ _ _ h => h | exact fun _ _ _ h => hQ2 _ _ _ _ _ h) ?_
      rotate_left
      · intro W hSW
        simp only [List.getElem_toArray, List.getElem_cons_zero, List.getElem_cons_succ]
        (try dsimp only at hSW)
        go_simp
        with_reducible rfl
      (try simp only [List.getElem_toArray, List.getElem_cons_zero, List.getElem_cons_succ, Act.put, List.setIfInBounds_toArray, List.set_cons_zero, List.set_cons_succ])
      refine wpAnyJ_take 3 (v := ?_) (by first | exact hF | exact wideFn) (by obtain ⟨_, _, _, c2, c3⟩ := bx4 HYx.out.drew; exact ⟨c2, c3⟩) rfl (by kernel_rfl) (by kernel_rfl) (by kernel_rfl) (by kernel_rfl) rfl ?_ (by first | exact fun _ _ _ h => h | exact fun _ _ _ h => hQ2 _ _ _ _ _ h) ?_
      rotate_left
      · intro W hSW
        simp only [List.getElem_toArray, List.getElem_cons_zero, List.getElem_cons_succ]
        (try dsimp only at hSW)
        go_simp
        with_reducible rfl
      (try simp only [List.getElem_toArray, List.getElem_cons_zero, List.getElem_cons_succ, Act.put, List.setIfInBounds_toArray, List.set_cons_zero, List.set_cons_succ])
      refine wpAnyJ_take 4 (v := ?_) (by first | exact hF | exact wideFn) (by obtain ⟨_, _, _, c2, c3⟩ := bx4 HYx.out.drew; exact ⟨c2, c3⟩) rfl (by kernel_rfl) (by kernel_rfl) (by kernel_rfl) (by kernel_rfl) rfl ?_ (by first | exact fun _ _ _ h => h | exact fun _ _ _ h => hQ2 _ _ _ _ _ h) ?_
      rotate_left
      · intro W hSW
        simp only [List.getElem_toArray, List.getElem_cons_zero, List.getElem_cons_succ]
        (try dsimp only at hSW)
        go_simp
        with_reducible rfl
      (try simp only [List.getElem_toArray, List.getElem_cons_zero, List.getElem_cons_succ, Act.put, List.setIfInBounds_toArray, List.set_cons_zero, List.set_cons_succ])
      refine wpAnyJ_take 5 (v := ?_) (by first | exact hF | exact wideFn) (by obtain ⟨_, _, _, c2, c3⟩ := bx4 HYx.out.drew; exact ⟨c2, c3⟩) rfl (by kernel_rfl) (by kernel_rfl) (by kernel_rfl) (by kernel_rfl) rfl ?_ (by first | exact fun _ _ _ h => h | exact fun _ _ _ h => hQ2 _ _ _ _ _ h) ?_
      rotate_left
      · intro W hSW
        simp only [List.getElem_toArray, List.getElem_cons_zero, List.getElem_cons_succ]
        (try dsimp only at hSW)
        go_simp
        with_reducible rfl
      (try simp only [List.getElem_toArray, List.getElem_cons_zero, List.getElem_cons_succ, Act.put, List.setIfInBounds_toArray, List.set_cons_zero, List.set_cons_succ])
      refine wpAnyJ_take 6 (v := ?_) (by first | exact hF | exact wideFn) (by obtain ⟨_, _, _, c2, c3⟩ := bx4 HYx.out.drew; exact ⟨c2, c3⟩) rfl (by kernel_rfl) (by kernel_rfl) (by kernel_rfl) (by kernel_rfl) rfl ?_ (by first | exact fun _ _ _ h => h | exact fun _ _ _ h => hQ2 _ _ _ _ _ h) ?_
      rotate_left
      · intro W hSW
        simp only [List.getElem_toArray, List.getElem_cons_zero, List.getElem_cons_succ]
        (try dsimp only at hSW)
        go_simp
        with_reducible rfl
      (try simp only [List.getElem_toArray, List.getElem_cons_zero, List.getElem_cons_succ, Act.put, List.setIfInBounds_toArray, List.set_cons_zero, List.set_cons_succ])
      refine wpAnyJ_take 7 (v := ?_) (by first | exact hF | exact wideFn) (by obtain ⟨_, _, _, c2, c3⟩ := bx4 HYx.out.drew; exact ⟨c2, c3⟩) rfl (by kernel_rfl) (by kernel_rfl) (by kernel_rfl) (by kernel_rfl) rfl ?_ (by first | exact fun _ _ _ h => h | exact fun _ _ _ h => hQ2 _ _ _ _ _ h) ?_
      rotate_left
      · intro W hSW
        simp only [List.getElem_toArray, List.getElem_cons_zero, List.getElem_cons_succ]
        (try dsimp only at hSW)
        go_simp
        with_reducible rfl
      (try simp only [List.getElem_toArray, List.getElem_cons_zero, List.getElem_cons_succ, Act.put, List.setIfInBounds_toArray, List.set_cons_zero, List.set_cons_succ])
      refine wpAnyJ_done (by kernel_rfl) ?_
      obtain ⟨_, y0, y1, y2, y3⟩ := bx4 HYx.out.drew
      clear y1 y2 y3
      go_upto_block 2 with fail
      clear y0
      rw [Heq.out]
      have hwrap2 : IntKind.i64.wrap x2 = x2 := IntWalk.i64_in _ (by omega)
      have hwrap3 : IntKind.i64.wrap x3 = x3 := IntWalk.i64_in _ (by omega)
      rw [hwrap2, hwrap3]
      have Heq2 := hide Heq.out
      clear hwrap2 hwrap3 Heq
      generalize hp1 : w1.heap.size = p at *
      have HP1 := hide hp1
      clear hp1
      have HCy := hide (HCx.out.ext (Below.refl _ _).drew)
      have HYy := hide HYx.out.drew
      clear HCx HYx
      generalize wx.drew = wy at HCy HYy ⊢
      go_cut [4, 9] (fun e bu wc => SWR w b S p sb sc yb ws K q #[.int .u8 x0, .int .u8 x1, .int .u8 x2, .int .u8 x3] e bu wc)
      case first =>
        have ho := HCy.out.ok K hK
        have HO := hide ho
        clear ho
        obtain ⟨s0, s1⟩ := okW_sum HO.out
        obtain ⟨l0, l1⟩ := okW_laid HO.out
        rcases (by omega : q = 0 ∨ q = 1 ∨ q = 2 ∨ q = 3 ∨ q = 4 ∨ q = 5 ∨ q = 6) with rfl | rfl | rfl | rfl | rfl | rfl | rfl
        · as_aux_lemma =>
            go_wp2_with fail
            refine (mould_step b S 2 K _ _ 400 x2 ws _ HCy.out.book (by omega) hK HCy.out.st HO.out v20 (by omega)).mono ?_
            rintro e w9 hp
            have hp' := hp
            obtain ⟨rfl, -, -, hg⟩ := hp'
            obtain ⟨f1, f2, f3, f4, f5, f6⟩ := mouldX_ok HO.out v20
            have HC9 := hide (HCy.out.step hp f1 f4)
            have HY9 := hide (HYy.out.grown hg (fun e => by injection e; have := HCy.out.low; have := HLx.out; omega))
            clear hp hg f1
            by_cases hE : mouldE (ws K) x2 = 0
            · rw [if_pos hE] at f5
              rw [hE]
              obtain ⟨z, c, fr⟩ := two_cells (f := fun j => (ws j).sum) HC9.out.moB hK
              (try dsimp only at c)
              go_wp2_with fail
              go_meet
              exact SWR.mo HC9.out HY9.out hK HLx.out f2 (by omega) f5
            · have hE2 : (mouldE (ws K) x2 == 0) = false := by simpa using hE
              rw [if_neg hE] at f5
              generalize mouldE (ws K) x2 = E at *
              go_wp2_with fail
              go_meet
              exact SWR.plain HC9.out HY9.out f5 f2 (by omega) f6
        · as_aux_lemma =>
            go_wp2_with fail
            refine (dry_step b S 2 K _ _ 400 x2 ws _ HCy.out.book (by omega) hK HCy.out.st HO.out v20 (by omega) x3).mono ?_
            rintro e w9 hp
            have hp' := hp
            obtain ⟨rfl, -, -, hg⟩ := hp'
            obtain ⟨f1, f2, f3, f4, f5, f6⟩ := dryX_ok HO.out v20
            have HC9 := hide (HCy.out.step hp f1 f4)
            have HY9 := hide (HYy.out.grown hg (fun e => by injection e; have := HCy.out.low; have := HLx.out; omega))
            clear hp hg f1
            go_wp2_with fail
            go_meet
            exact SWR.plain HC9.out HY9.out f5 f2 f3 f6
        · as_aux_lemma =>
            have HBA : Hid (Below wy.heap.size wy (wy.alloc (.cells #[.int .i64 K, .int .i64 x2] 107))) := hide ((Below.refl _ _).alloc (Nat.le_refl _) _)
            have HCz := hide (HCy.out.ext HBA.out)
            have HYz := hide (HYy.out.ext HBA.out)
            rcases HCz.out.burn with ⟨rfl, rfl, -⟩ | ⟨rfl, kb, g, oc, -, rfl, -⟩
            · go_wp2_with fail
              refine (fire_one b S 2 K 1 wy.heap.size 0 sb 0 sc 400 x2 (fun i => if i = 0 then 1 else 3) ws _ HCz.out.book (by omega) (by omega) HCz.out.st HCz.out.ok HCz.out.sp (fun k hk => ⟨by (try dsimp only); split <;> omega, by (try dsimp only); split <;> omega⟩) (by have := HCy.out.st.lt; omega) (by have := HCy.out.book.lt; omega) (PI.one wy K x2 _) hK (by omega)).mono ?_
              rintro e w9 ⟨rfl, h⟩
              rcases h with ⟨hE, hB⟩ | ⟨hE, ov', hbk, how, hst, hap⟩
              · have hE2 : (fireE (ws K) x2 (if K = 0 then 1 else 3) 400 == 0) = false := by simpa using hE
                have HC9 := hide (HCz.out.ext hB)
                have HY9 := hide (HYz.out.ext hB)
                clear hE hB
                generalize fireE (ws K) x2 (if K = 0 then 1 else 3) 400 = E at *
                go_wp2_with fail
                go_meet
                exact SWR.same HC9.out HY9.out
              · obtain ⟨n0, n1⟩ := fireE_zero hE
                rw [hE]
                obtain ⟨hc0, hbn⟩ := CI.fired HCz.out hK n0 n1 hbk how hst hap
                have HC9 := hide hc0
                have HBN := hide hbn
                have HY9 := hide (HYz.out.apart hap (by have := HCy.out.low; have := HLx.out; omega) (by have := HCy.out.low; have := HLx.out; omega))
                have HK9 := hide (((HC9.out.putB.set_ 0 (.int .i64 0)).set_ 1 (.int .i64 0)))
                clear hE hbk how hst hap hc0 hbn
                obtain ⟨z, c0, c1⟩ := bx2 HC9.out.putB
                have fr0 := HC9.out.putB.frozen 0
                have fr1 := HC9.out.putB.frozen 1
                have frK := HK9.out.frozen K
                have cK : (((w9.setCell ⟨p + 1, 0, none⟩ (.int .i64 0)).setCell ⟨p + 1, 1, none⟩ (.int .i64 0))).cell? ⟨p + 1, K, none⟩ = some (.int .i64 0) := by
                  rw [HK9.out.cell]
                  rcases (by omega : K = 0 ∨ K = 1) with rfl | rfl <;> simp
                go_wp2_with fail
                go_meet
                exact SWR.fire HC9.out HBN.out HY9.out hK HLx.out HO.out n0 n1
            · go_wp2_with fail
              refine (fire_hot b S 2 1 1 1 oc (some ⟨wy.heap.size, 0, none⟩) (some ⟨g, 0, none⟩) 400 _ _ HCz.out.book (by omega)).mono ?_
              rintro e w9 ⟨rfl, hB⟩
              have HC9 := hide (HCz.out.ext hB)
              have HY9 := hide (HYz.out.ext hB)
              clear hB
              go_wp2_with fail
              go_meet
              exact SWR.same HC9.out HY9.out
        · as_aux_lemma =>
            have HBA : Hid (Below wy.heap.size wy (wy.alloc (.cells #[.int .i64 x3] 3))) := hide ((Below.refl _ _).alloc (Nat.le_refl _) _)
            have HCz := hide (HCy.out.ext HBA.out)
            have HYz := hide (HYy.out.ext HBA.out)
            have hbb : bb = false ∧ ov = .slice none 0 0 ∨ bb = true := by
              rcases HCz.out.burn with ⟨h1, h2, -⟩ | ⟨h1, -⟩
              · exact .inl ⟨h1, h2⟩
              · exact .inr h1
            rcases hbb with ⟨rfl, rfl⟩ | rfl
            · go_wp2_with fail
              refine (draw_cold b S 2 1 1 (some ⟨wy.heap.size, 0, none⟩) 400 _ _ HCz.out.book).mono ?_
              rintro e w9 ⟨rfl, hB⟩
              have HC9 := hide (HCz.out.ext hB)
              have HY9 := hide (HYz.out.ext hB)
              clear hB
              go_wp2_with fail
              go_meet
              exact SWR.same HC9.out HY9.out
            · obtain ⟨u0, u1, u2, u3, kb, g, oc, hkb, rfl, hIR, hsum, hpg, hcold⟩ := HCz.out.burn.put HCz.out.ok
              have HIRg := hide hIR
              have Hsum := hide hsum
              have Hcold := hide hcold
              clear hIR hsum hcold
              go_wp2_with fail
              refine (draw_one b S 2 kb oc 1 wy.heap.size 0 g 0 400 x3 _ ws _ HCz.out.book (by omega) (by omega) HCz.out.st HCz.out.ok HIRg.out ((IR.one wy x3 _).more (by simp)) hkb (by have := HCy.out.st.lt; omega) (by have := HCy.out.book.lt; omega) (by have := HCy.out.low; omega) (by have := HCy.out.low; omega)).mono ?_
              rintro e w9 ⟨rfl, h⟩
              rcases h with ⟨hE, hB⟩ | ⟨hE, hbk, hst, hap⟩
              · have hE2 : (drawE (ws kb) x3 == 0) = false := by simpa using hE
                have HC9 := hide (HCz.out.ext hB)
                have HY9 := hide (HYz.out.ext hB)
                clear hE hB
                generalize drawE (ws kb) x3 = E at *
                go_wp2_with fail
                go_meet
                exact SWR.same HC9.out HY9.out
              · obtain ⟨n0, n1⟩ := drawE_zero hE
                rw [hE]
                have HC9 := hide (CI.drawn HCz.out hkb Hcold.out n0 n1 hbk hst hap)
                have HY9 := hide (HYz.out.apart hap (by have := HCy.out.low; have := HLx.out; omega) (by have := HCy.out.low; have := HLx.out; omega))
                have n2 : x3 ≤ pu 0 + pu 1 := by have := Hsum.out; omega
                clear hE hbk hst hap
                obtain ⟨z, c0, c1⟩ := bx2 HC9.out.putB
                go_wp2_with fail
                go_meet
                exact SWR.draw HC9.out HY9.out (HCz.out.ok kb hkb) n0 n1
        · as_aux_lemma =>
            go_wp2_with fail
            refine (lay_step b S 2 K _ _ 400 x2 ws _ HCy.out.book (by omega) hK HCy.out.st HO.out v20 (by omega)).mono ?_
            rintro e w9 hp
            have hp' := hp
            obtain ⟨rfl, -, -, hg⟩ := hp'
            obtain ⟨f1, f2, f3, f4, f5, f6⟩ := layX_ok HO.out v20
            have HC9 := hide (HCy.out.step hp f1 f4)
            have HY9 := hide (HYy.out.grown hg (fun e => by injection e; have := HCy.out.low; have := HLx.out; omega))
            clear hp hg f1
            by_cases hE : layE (ws K) x2 = 0
            · rw [if_pos hE] at f2
              rw [hE]
              obtain ⟨z, c, fr⟩ := two_cells (f := fun j => (ws j).laid) HC9.out.laB hK
              (try dsimp only at c)
              go_wp2_with fail
              go_meet
              exact SWR.la HC9.out HY9.out hK HLx.out f5 f3 f2
            · have hE2 : (layE (ws K) x2 == 0) = false := by simpa using hE
              rw [if_neg hE] at f2
              generalize layE (ws K) x2 = E at *
              go_wp2_with fail
              go_meet
              exact SWR.plain HC9.out HY9.out f5 f2 f3 f6
        · as_aux_lemma =>
            go_wp2_with fail
            refine (break_step b S 2 K _ _ 400 x2 ws _ HCy.out.book (by omega) hK HCy.out.st HO.out v20 (by omega)).mono ?_
            rintro e w9 hp
            have hp' := hp
            obtain ⟨rfl, -, -, hg⟩ := hp'
            obtain ⟨f1, f2, f3, f4, f5, f6⟩ := breakX_ok HO.out v20
            have HC9 := hide (HCy.out.step hp f1 f4)
            have HY9 := hide (HYy.out.grown hg (fun e => by injection e; have := HCy.out.low; have := HLx.out; omega))
            clear hp hg f1
            by_cases hE : breakE (ws K) x2 = 0
            · rw [if_pos hE] at f2
              rw [hE]
              obtain ⟨z, c, fr⟩ := two_cells (f := fun j => (ws j).laid) HC9.out.laB hK
              (try dsimp only at c)
              go_wp2_with fail
              go_meet
              exact SWR.la HC9.out HY9.out hK HLx.out f5 f3 f2
            · have hE2 : (breakE (ws K) x2 == 0) = false := by simpa using hE
              rw [if_neg hE] at f2
              generalize breakE (ws K) x2 = E at *
              go_wp2_with fail
              go_meet
              exact SWR.plain HC9.out HY9.out f5 f2 f3 f6
        · as_aux_lemma =>
            go_wp2_with fail
            refine (replace_step b S 2 K _ _ 400 x2 ws _ HCy.out.book (by omega) hK HCy.out.st HO.out v20 (by omega)).mono ?_
            rintro e w9 hp
            have hp' := hp
            obtain ⟨rfl, -, -, hg⟩ := hp'
            obtain ⟨f1, f2, f3, f4, f5, f6⟩ := replX_ok HO.out v20
            have HC9 := hide (HCy.out.step hp f1 f4)
            have HY9 := hide (HYy.out.grown hg (fun e => by injection e; have := HCy.out.low; have := HLx.out; omega))
            clear hp hg f1
            by_cases hE : replE (ws K) x2 = 0
            · rw [if_pos hE] at f2
              rw [hE]
              obtain ⟨z, c, fr⟩ := two_cells (f := fun j => (ws j).laid) HC9.out.laB hK
              (try dsimp only at c)
              go_wp2_with fail
              go_meet
              exact SWR.la HC9.out HY9.out hK HLx.out f5 f3 f2
            · have hE2 : (replE (ws K) x2 == 0) = false := by simpa using hE
              rw [if_neg hE] at f2
              generalize replE (ws K) x2 = E at *
              go_wp2_with fail
              go_meet
              exact SWR.plain HC9.out HY9.out f5 f2 f3 f6
      case rest =>
       as_aux_lemma =>
        obtain ⟨E, bb', ov', ws', pu', rfl, rfl, HC9, HY9, HF9⟩ := hcut
        clear HCy HYy
        go_wp2_with fail
        go_loopw [15] (fun jv wr => ∃ j : Nat, jv = .int .i64 j ∧ j ≤ 2 ∧ Hid (CI w b S p sb 0 sc ov' bb' ws' (fun j => (ws' j).sum) (fun j => (ws' j).laid) pu' (fun i => if i < j then ws' i else ws i) wr) ∧ Hid (Blk wr yb 102 #[.int .u8 x0, .int .u8 x1, .int .u8 x2, .int .u8 x3])) (fun jv _ => 2 - (intOf jv).toNat)
        case atStart => exact ⟨0, rfl, by omega, hide (HC9.out.alike (fun _ _ => rfl) (fun _ _ => rfl) (fun i hi => if_neg (by omega))), HY9⟩
        case round =>
          obtain ⟨j, rfl, hj, HCj, HYj⟩ := hrel
          by_cases hlt2 : j < 2
          · have i3 : (0 : Int) ≤ (j : Int) := by omega
            have i4 : (j : Int) < 2 := by omega
            go_wp2_with fail
            refine (count_ok b S 2 j _ _ 400 (ws' j) _ HCj.out.book (by omega) hlt2 (HCj.out.st.2 j hlt2) (HCj.out.ok j hlt2)).mono ?_
            rintro e w9 ⟨rfl, hB⟩
            have HCk := hide (HCj.out.ext hB)
            have HYk := hide (HYj.out.ext hB)
            clear hB
            unfold agg7
            go_upto_region 48 with fail
            obtain ⟨x, hx⟩ : ∃ x, x = ws' j := ⟨_, rfl⟩
            rw [← hx]
            have HBA9 : Hid (Below w9.heap.size w9 (w9.alloc (.cells #[.int .i64 x.wet, .int .i64 x.dry, .int .i64 x.burning, .int .i64 x.fired, .int .i64 x.laid, .int .i64 x.broken, .int .i64 x.missing] 94))) := hide ((Below.refl _ _).alloc (Nat.le_refl _) _)
            have HCl := hide (HCk.out.ext HBA9.out)
            have HYl := hide (HYk.out.ext HBA9.out)
            have HBX := hide (Blk.new w9 94 #[.int .i64 x.wet, .int .i64 x.dry, .int .i64 x.burning, .int .i64 x.fired, .int .i64 x.laid, .int .i64 x.broken, .int .i64 x.missing])
            have HGL : Hid (p + 3 < w9.heap.size) := hide HCk.out.be.lt
            generalize (w9.alloc (.cells #[.int .i64 x.wet, .int .i64 x.dry, .int .i64 x.burning, .int .i64 x.fired, .int .i64 x.laid, .int .i64 x.broken, .int .i64 x.missing] 94)) = w10 at HCl HYl HBX ⊢
            generalize w9.heap.size = g at HBX HGL ⊢
            have hO := HCl.out.ok j hlt2
            have hF := HF9.out j hlt2
            have hBu := burns_hot HCl.out.burn hlt2
            obtain ⟨z5, d5, -⟩ := two_cells (f := fun j => (ws' j).sum) HCl.out.moB hlt2
            obtain ⟨z7, d7, -⟩ := two_cells (f := fun j => (ws' j).laid) HCl.out.laB hlt2
            obtain ⟨z8, q0, q1, q2, q3, q4, q5, q6⟩ := seven_cells (f := fun i => if i < j then ws' i else ws i) HCl.out.be hlt2
            simp only [Nat.lt_irrefl, if_false] at q0 q1 q2 q3 q4 q5 q6
            (try dsimp only at d5 d7)
            rw [← hx] at hO hF hBu d5 d7
            unfold Wa.sum at d5
            have HQ := hide (show _ ∧ _ ∧ _ ∧ _ ∧ _ ∧ _ ∧ _ from ⟨q0, q1, q2, q3, q4, q5, q6⟩)
            obtain ⟨hF1, hF2, hF3⟩ := hF
            have HF2 := hide hF2
            have HF3 := hide hF3
            have HBu := hide hBu
            have HXj := hide hx
            have hmin := fun w => run_min7 (P := Try.prog) w #[3, 3, 3, 3, 3, 3, 3] 3 x.wet x.dry x.burning x.fired x.laid x.broken x.missing
            have hmax := fun w => run_max7 (P := Try.prog) w #[3, 3, 3, 3, 3, 3, 3] 3 x.wet x.dry x.burning x.fired x.laid x.broken x.missing
            have hmn := okW_min hO
            have hmx := okW_max hO
            generalize min7 x.wet x.dry x.burning x.fired x.laid x.broken x.missing = mn at hmin hmn
            generalize max7 x.wet x.dry x.burning x.fired x.laid x.broken x.missing = mx at hmax hmx
            obtain ⟨o1, o2, o3, o4, o5, o6, o7, o8, o9⟩ := hO
            clear hx hF2 hF3 hBu HCj HYj HCk HYk HBA9 q0 q1 q2 q3 q4 q5 q6
            obtain ⟨z9, c0, c1, c2, c3, c4, c5, c6⟩ := bx7 HBX.out
            go_upto_region 50 with fail
            clear hmin hmax
            go_cut [265] (fun v w' => v = .bool false ∧ w' = w10.drew)
            case first =>
              as_aux_lemma =>
                have hn1 : IntKind.i64.wrap (x.wet + x.dry) = x.wet + x.dry := IntWalk.i64_in _ (by omega)
                have hn2 : IntKind.i64.wrap (x.wet + x.dry + x.burning) = x.wet + x.dry + x.burning := IntWalk.i64_in _ (by omega)
                have hn3 : IntKind.i64.wrap (x.wet + x.dry + x.burning + x.fired) = x.wet + x.dry + x.burning + x.fired := IntWalk.i64_in _ (by omega)
                have hn4 : IntKind.i64.wrap (x.wet + x.dry + x.burning + x.fired + x.laid) = x.wet + x.dry + x.burning + x.fired + x.laid := IntWalk.i64_in _ (by omega)
                have hn5 : IntKind.i64.wrap (x.wet + x.dry + x.burning + x.fired + x.laid + x.broken) = x.wet + x.dry + x.burning + x.fired + x.laid + x.broken := IntWalk.i64_in _ (by omega)
                obtain ⟨-, -, -, -, -, q5, -⟩ := HQ.out
                have hm0 : ¬ mn < 0 := by omega
                have hm1 : ¬ 1000000000 < mx := by omega
                have hm2 : ¬ x.broken < (ws j).broken := by omega
                have hm3 : ¬ x.broken < x.missing := by omega
                have hHeld : w10.drew.cell? ⟨g, 0, none⟩ = some (.int .i64 x.wet) ∧ w10.drew.cell? ⟨g, 1, none⟩ = some (.int .i64 x.dry) ∧ w10.drew.cell? ⟨g, 2, none⟩ = some (.int .i64 x.burning) ∧ w10.drew.cell? ⟨g, 3, none⟩ = some (.int .i64 x.fired) ∧ w10.drew.cell? ⟨g, 4, none⟩ = some (.int .i64 x.laid) ∧ w10.drew.cell? ⟨g, 5, none⟩ = some (.int .i64 x.broken) ∧ w10.drew.cell? ⟨g, 6, none⟩ = some (.int .i64 x.missing) ∧ w10.drew.cell? ⟨p, j, none⟩ = some (.int .i64 (x.wet + x.dry + x.burning + x.fired + x.laid + x.broken)) ∧ w10.drew.cell? ⟨p + 2, j, none⟩ = some (.int .i64 x.laid) ∧ w10.drew.cell? ⟨p + 3, j * 7 + 5, none⟩ = some (.int .i64 (ws j).broken) := ⟨c0, c1, c2, c3, c4, c5, c6, d5, d7, q5⟩
                dsimp only [List.append]
                refine wp_region_J (fun W : World => W.cell? ⟨g, 0, none⟩ = some (.int .i64 x.wet) ∧ W.cell? ⟨g, 1, none⟩ = some (.int .i64 x.dry) ∧ W.cell? ⟨g, 2, none⟩ = some (.int .i64 x.burning) ∧ W.cell? ⟨g, 3, none⟩ = some (.int .i64 x.fired) ∧ W.cell? ⟨g, 4, none⟩ = some (.int .i64 x.laid) ∧ W.cell? ⟨g, 5, none⟩ = some (.int .i64 x.broken) ∧ W.cell? ⟨g, 6, none⟩ = some (.int .i64 x.missing) ∧ W.cell? ⟨p, j, none⟩ = some (.int .i64 (x.wet + x.dry + x.burning + x.fired + x.laid + x.broken)) ∧ W.cell? ⟨p + 2, j, none⟩ = some (.int .i64 x.laid) ∧ W.cell? ⟨p + 3, j * 7 + 5, none⟩ = some (.int .i64 (ws j).broken)) (by kernel_rfl) ?_
                clear c0 c1 c2 c3 c4 c5 c6 d5 d7 q5
                by_cases hbn : 0 < x.burning
                · as_aux_lemma =>
                  obtain rfl := HBu.out hbn
                  clear o1 o2 o3 o4 o5 o6 o7 o8 o9 hF1 hmn hmx HYl HCl HBX HGL HQ
                  refine wpAnyJ_take 0 (v := ?_) (by first | exact hF | exact wideFn) hHeld rfl (by kernel_rfl) (by kernel_rfl) (by kernel_rfl) (by kernel_rfl) rfl ?_ (by first | exact fun _ _ _ h => h | exact fun _ _ _ h => hQ2 _ _ _ _ _ h) ?_
                  rotate_left
                  · intro W hSW
                    simp only [List.getElem_toArray, List.getElem_cons_zero, List.getElem_cons_succ]
                    (try dsimp only at hSW)
                    go_simp
                    with_reducible rfl
                  (try simp only [List.getElem_toArray, List.getElem_cons_zero, List.getElem_cons_succ, Act.put, List.setIfInBounds_toArray, List.set_cons_zero, List.set_cons_succ])
                  refine wpAnyJ_take 1 (v := ?_) (by first | exact hF | exact wideFn) hHeld rfl (by kernel_rfl) (by kernel_rfl) (by kernel_rfl) (by kernel_rfl) rfl ?_ (by first | exact fun _ _ _ h => h | exact fun _ _ _ h => hQ2 _ _ _ _ _ h) ?_
                  rotate_left
                  · intro W hSW
                    simp only [List.getElem_toArray, List.getElem_cons_zero, List.getElem_cons_succ]
                    (try dsimp only at hSW)
                    go_simp
                    with_reducible rfl
                  (try simp only [List.getElem_toArray, List.getElem_cons_zero, List.getElem_cons_succ, Act.put, List.setIfInBounds_toArray, List.set_cons_zero, List.set_cons_succ])
                  refine wpAnyJ_take 2 (v := ?_) (by first | exact hF | exact wideFn) hHeld rfl (by kernel_rfl) (by kernel_rfl) (by kernel_rfl) (by kernel_rfl) rfl ?_ (by first | exact fun _ _ _ h => h | exact fun _ _ _ h => hQ2 _ _ _ _ _ h) ?_
                  rotate_left
                  · intro W hSW
                    simp only [List.getElem_toArray, List.getElem_cons_zero, List.getElem_cons_succ]
                    (try dsimp only at hSW)
                    go_simp
                    with_reducible rfl
                  (try simp only [List.getElem_toArray, List.getElem_cons_zero, List.getElem_cons_succ, Act.put, List.setIfInBounds_toArray, List.set_cons_zero, List.set_cons_succ])
                  refine wpAnyJ_take 3 (v := ?_) (by first | exact hF | exact wideFn) hHeld rfl (by kernel_rfl) (by kernel_rfl) (by kernel_rfl) (by kernel_rfl) rfl ?_ (by first | exact fun _ _ _ h => h | exact fun _ _ _ h => hQ2 _ _ _ _ _ h) ?_
                  rotate_left
                  · intro W hSW
                    simp only [List.getElem_toArray, List.getElem_cons_zero, List.getElem_cons_succ]
                    (try dsimp only at hSW)
                    go_simp
                    with_reducible rfl
                  (try simp only [List.getElem_toArray, List.getElem_cons_zero, List.getElem_cons_succ, Act.put, List.setIfInBounds_toArray, List.set_cons_zero, List.set_cons_succ])
                  refine wpAnyJ_take 4 (v := ?_) (by first | exact hF | exact wideFn) hHeld rfl (by kernel_rfl) (by kernel_rfl) (by kernel_rfl) (by kernel_rfl) rfl ?_ (by first | exact fun _ _ _ h => h | exact fun _ _ _ h => hQ2 _ _ _ _ _ h) ?_
                  rotate_left
                  · intro W hSW
                    simp only [List.getElem_toArray, List.getElem_cons_zero, List.getElem_cons_succ]
                    (try dsimp only at hSW)
                    go_simp
                    with_reducible rfl
                  (try simp only [List.getElem_toArray, List.getElem_cons_zero, List.getElem_cons_succ, Act.put, List.setIfInBounds_toArray, List.set_cons_zero, List.set_cons_succ])
                  refine wpAnyJ_take 5 (v := ?_) (by first | exact hF | exact wideFn) hHeld rfl (by kernel_rfl) (by kernel_rfl) (by kernel_rfl) (by kernel_rfl) rfl ?_ (by first | exact fun _ _ _ h => h | exact fun _ _ _ h => hQ2 _ _ _ _ _ h) ?_
                  rotate_left
                  · intro W hSW
                    simp only [List.getElem_toArray, List.getElem_cons_zero, List.getElem_cons_succ]
                    (try dsimp only at hSW)
                    go_simp
                    with_reducible rfl
                  (try simp only [List.getElem_toArray, List.getElem_cons_zero, List.getElem_cons_succ, Act.put, List.setIfInBounds_toArray, List.set_cons_zero, List.set_cons_succ])
                  refine wpAnyJ_take 6 (v := ?_) (by first | exact hF | exact wideFn) hHeld rfl (by kernel_rfl) (by kernel_rfl) (by kernel_rfl) (by kernel_rfl) rfl ?_ (by first | exact fun _ _ _ h => h | exact fun _ _ _ h => hQ2 _ _ _ _ _ h) ?_
                  rotate_left
                  · intro W hSW
                    simp only [List.getElem_toArray, List.getElem_cons_zero, List.getElem_cons_succ]
                    (try dsimp only at hSW)
                    go_simp
                    with_reducible rfl
                  (try simp only [List.getElem_toArray, List.getElem_cons_zero, List.getElem_cons_succ, Act.put, List.setIfInBounds_toArray, List.set_cons_zero, List.set_cons_succ])
                  refine wpAnyJ_take 7 (v := ?_) (by first | exact hF | exact wideFn) hHeld rfl (by kernel_rfl) (by kernel_rfl) (by kernel_rfl) (by kernel_rfl) rfl ?_ (by first | exact fun _ _ _ h => h | exact fun _ _ _ h => hQ2 _ _ _ _ _ h) ?_
                  rotate_left
                  · intro W hSW
                    simp only [List.getElem_toArray, List.getElem_cons_zero, List.getElem_cons_succ]
                    (try dsimp only at hSW)
                    go_simp
                    with_reducible rfl
                  (try simp only [List.getElem_toArray, List.getElem_cons_zero, List.getElem_cons_succ, Act.put, List.setIfInBounds_toArray, List.set_cons_zero, List.set_cons_succ])
                  refine wpAnyJ_take 8 (v := ?_) (by first | exact hF | exact wideFn) hHeld rfl (by kernel_rfl) (by kernel_rfl) (by kernel_rfl) (by kernel_rfl) rfl ?_ (by first | exact fun _ _ _ h => h | exact fun _ _ _ h => hQ2 _ _ _ _ _ h) ?_
                  rotate_left
                  · intro W hSW
                    simp only [List.getElem_toArray, List.getElem_cons_zero, List.getElem_cons_succ]
                    (try dsimp only at hSW)
                    go_simp
                    with_reducible rfl
                  (try simp only [List.getElem_toArray, List.getElem_cons_zero, List.getElem_cons_succ, Act.put, List.setIfInBounds_toArray, List.set_cons_zero, List.set_cons_succ])
                  refine wpAnyJ_take 9 (v := ?_) (by first | exact hF | exact wideFn) hHeld rfl (by kernel_rfl) (by kernel_rfl) (by kernel_rfl) (by kernel_rfl) rfl ?_ (by first | exact fun _ _ _ h => h | exact fun _ _ _ h => hQ2 _ _ _ _ _ h) ?_
                  rotate_left
                  · intro W hSW
                    simp only [List.getElem_toArray, List.getElem_cons_zero, List.getElem_cons_succ]
                    (try dsimp only at hSW)
                    go_simp
                    with_reducible rfl
                  (try simp only [List.getElem_toArray, List.getElem_cons_zero, List.getElem_cons_succ, Act.put, List.setIfInBounds_toArray, List.set_cons_zero, List.set_cons_succ])
                  refine wpAnyJ_take 10 (v := ?_) (by first | exact hF | exact wideFn) hHeld rfl (by kernel_rfl) (by kernel_rfl) (by kernel_rfl) (by kernel_rfl) rfl ?_ (by first | exact fun _ _ _ h => h | exact fun _ _ _ h => hQ2 _ _ _ _ _ h) ?_
                  rotate_left
                  · intro W hSW
                    simp only [List.getElem_toArray, List.getElem_cons_zero, List.getElem_cons_succ]
                    (try dsimp only at hSW)
                    go_simp
                    with_reducible rfl
                  (try simp only [List.getElem_toArray, List.getElem_cons_zero, List.getElem_cons_succ, Act.put, List.setIfInBounds_toArray, List.set_cons_zero, List.set_cons_succ])
                  refine wpAnyJ_take 11 (v := ?_) (by first | exact hF | exact wideFn) hHeld rfl (by kernel_rfl) (by kernel_rfl) (by kernel_rfl) (by kernel_rfl) rfl ?_ (by first | exact fun _ _ _ h => h | exact fun _ _ _ h => hQ2 _ _ _ _ _ h) ?_
                  rotate_left
                  · intro W hSW
                    simp only [List.getElem_toArray, List.getElem_cons_zero, List.getElem_cons_succ]
                    (try dsimp only at hSW)
                    go_simp
                    with_reducible rfl
                  (try simp only [List.getElem_toArray, List.getElem_cons_zero, List.getElem_cons_succ, Act.put, List.setIfInBounds_toArray, List.set_cons_zero, List.set_cons_succ])
                  refine wpAnyJ_take 12 (v := ?_) (by first | exact hF | exact wideFn) hHeld rfl (by kernel_rfl) (by kernel_rfl) (by kernel_rfl) (by kernel_rfl) rfl ?_ (by first | exact fun _ _ _ h => h | exact fun _ _ _ h => hQ2 _ _ _ _ _ h) ?_
                  rotate_left
                  · intro W hSW
                    simp only [List.getElem_toArray, List.getElem_cons_zero, List.getElem_cons_succ]
                    (try dsimp only at hSW)
                    go_simp
                    with_reducible rfl
                  (try simp only [List.getElem_toArray, List.getElem_cons_zero, List.getElem_cons_succ, Act.put, List.setIfInBounds_toArray, List.set_cons_zero, List.set_cons_succ])
                  refine wpAnyJ_take 13 (v := ?_) (by first | exact hF | exact wideFn) hHeld rfl (by kernel_rfl) (by kernel_rfl) (by kernel_rfl) (by kernel_rfl) rfl ?_ (by first | exact fun _ _ _ h => h | exact fun _ _ _ h => hQ2 _ _ _ _ _ h) ?_
                  rotate_left
                  · intro W hSW
                    simp only [List.getElem_toArray, List.getElem_cons_zero, List.getElem_cons_succ]
                    (try dsimp only at hSW)
                    go_simp
                    with_reducible rfl
                  (try simp only [List.getElem_toArray, List.getElem_cons_zero, List.getElem_cons_succ, Act.put, List.setIfInBounds_toArray, List.set_cons_zero, List.set_cons_succ])
                  refine wpAnyJ_take 14 (v := ?_) (by first | exact hF | exact wideFn) hHeld rfl (by kernel_rfl) (by kernel_rfl) (by kernel_rfl) (by kernel_rfl) rfl ?_ (by first | exact fun _ _ _ h => h | exact fun _ _ _ h => hQ2 _ _ _ _ _ h) ?_
                  rotate_left
                  · intro W hSW
                    simp only [List.getElem_toArray, List.getElem_cons_zero, List.getElem_cons_succ]
                    (try dsimp only at hSW)
                    go_simp
                    with_reducible rfl
                  (try simp only [List.getElem_toArray, List.getElem_cons_zero, List.getElem_cons_succ, Act.put, List.setIfInBounds_toArray, List.set_cons_zero, List.set_cons_succ])
                  refine wpAnyJ_take 15 (v := ?_) (by first | exact hF | exact wideFn) hHeld rfl (by kernel_rfl) (by kernel_rfl) (by kernel_rfl) (by kernel_rfl) rfl ?_ (by first | exact fun _ _ _ h => h | exact fun _ _ _ h => hQ2 _ _ _ _ _ h) ?_
                  rotate_left
                  · intro W hSW
                    simp only [List.getElem_toArray, List.getElem_cons_zero, List.getElem_cons_succ]
                    (try dsimp only at hSW)
                    go_simp
                    with_reducible rfl
                  (try simp only [List.getElem_toArray, List.getElem_cons_zero, List.getElem_cons_succ, Act.put, List.setIfInBounds_toArray, List.set_cons_zero, List.set_cons_succ])
                  refine wpAnyJ_take 16 (v := ?_) (by first | exact hF | exact wideFn) hHeld rfl (by kernel_rfl) (by kernel_rfl) (by kernel_rfl) (by kernel_rfl) rfl ?_ (by first | exact fun _ _ _ h => h | exact fun _ _ _ h => hQ2 _ _ _ _ _ h) ?_
                  rotate_left
                  · intro W hSW
                    simp only [List.getElem_toArray, List.getElem_cons_zero, List.getElem_cons_succ]
                    (try dsimp only at hSW)
                    go_simp
                    with_reducible rfl
                  (try simp only [List.getElem_toArray, List.getElem_cons_zero, List.getElem_cons_succ, Act.put, List.setIfInBounds_toArray, List.set_cons_zero, List.set_cons_succ])
                  refine wpAnyJ_take 17 (v := ?_) (by first | exact hF | exact wideFn) hHeld rfl (by kernel_rfl) (by kernel_rfl) (by kernel_rfl) (by kernel_rfl) rfl ?_ (by first | exact fun _ _ _ h => h | exact fun _ _ _ h => hQ2 _ _ _ _ _ h) ?_
                  rotate_left
                  · intro W hSW
                    simp only [List.getElem_toArray, List.getElem_cons_zero, List.getElem_cons_succ]
                    (try dsimp only at hSW)
                    go_simp
                    with_reducible rfl
                  (try simp only [List.getElem_toArray, List.getElem_cons_zero, List.getElem_cons_succ, Act.put, List.setIfInBounds_toArray, List.set_cons_zero, List.set_cons_succ])
                  refine wpAnyJ_take 18 (v := ?_) (by first | exact hF | exact wideFn) hHeld rfl (by kernel_rfl) (by kernel_rfl) (by kernel_rfl) (by kernel_rfl) rfl ?_ (by first | exact fun _ _ _ h => h | exact fun _ _ _ h => hQ2 _ _ _ _ _ h) ?_
                  rotate_left
                  · intro W hSW
                    simp only [List.getElem_toArray, List.getElem_cons_zero, List.getElem_cons_succ]
                    (try dsimp only at hSW)
                    go_simp
                    with_reducible rfl
                  (try simp only [List.getElem_toArray, List.getElem_cons_zero, List.getElem_cons_succ, Act.put, List.setIfInBounds_toArray, List.set_cons_zero, List.set_cons_succ])
                  refine wpAnyJ_take 19 (v := ?_) (by first | exact hF | exact wideFn) hHeld rfl (by kernel_rfl) (by kernel_rfl) (by kernel_rfl) (by kernel_rfl) rfl ?_ (by first | exact fun _ _ _ h => h | exact fun _ _ _ h => hQ2 _ _ _ _ _ h) ?_
                  rotate_left
                  · intro W hSW
                    simp only [List.getElem_toArray, List.getElem_cons_zero, List.getElem_cons_succ]
                    (try dsimp only at hSW)
                    go_simp
                    with_reducible rfl
                  (try simp only [List.getElem_toArray, List.getElem_cons_zero, List.getElem_cons_succ, Act.put, List.setIfInBounds_toArray, List.set_cons_zero, List.set_cons_succ])
                  refine wpAnyJ_take 20 (v := ?_) (by first | exact hF | exact wideFn) hHeld rfl (by kernel_rfl) (by kernel_rfl) (by kernel_rfl) (by kernel_rfl) rfl ?_ (by first | exact fun _ _ _ h => h | exact fun _ _ _ h => hQ2 _ _ _ _ _ h) ?_
                  rotate_left
                  · intro W hSW
                    simp only [List.getElem_toArray, List.getElem_cons_zero, List.getElem_cons_succ]
                    (try dsimp only at hSW)
                    go_simp
                    with_reducible rfl
                  (try simp only [List.getElem_toArray, List.getElem_cons_zero, List.getElem_cons_succ, Act.put, List.setIfInBounds_toArray, List.set_cons_zero, List.set_cons_succ])
                  refine wpAnyJ_take 21 (v := ?_) (by first | exact hF | exact wideFn) hHeld rfl (by kernel_rfl) (by kernel_rfl) (by kernel_rfl) (by kernel_rfl) rfl ?_ (by first | exact fun _ _ _ h => h | exact fun _ _ _ h => hQ2 _ _ _ _ _ h) ?_
                  rotate_left
                  · intro W hSW
                    simp only [List.getElem_toArray, List.getElem_cons_zero, List.getElem_cons_succ]
                    (try dsimp only at hSW)
                    go_simp
                    with_reducible rfl
                  (try simp only [List.getElem_toArray, List.getElem_cons_zero, List.getElem_cons_succ, Act.put, List.setIfInBounds_toArray, List.set_cons_zero, List.set_cons_succ])
                  refine wpAnyJ_take 22 (v := ?_) (by first | exact hF | exact wideFn) hHeld rfl (by kernel_rfl) (by kernel_rfl) (by kernel_rfl) (by kernel_rfl) rfl ?_ (by first | exact fun _ _ _ h => h | exact fun _ _ _ h => hQ2 _ _ _ _ _ h) ?_
                  rotate_left
                  · intro W hSW
                    simp only [List.getElem_toArray, List.getElem_cons_zero, List.getElem_cons_succ]
                    (try dsimp only at hSW)
                    go_simp
                    with_reducible rfl
                  (try simp only [List.getElem_toArray, List.getElem_cons_zero, List.getElem_cons_succ, Act.put, List.setIfInBounds_toArray, List.set_cons_zero, List.set_cons_succ])
                  refine wpAnyJ_take 23 (v := ?_) (by first | exact hF | exact wideFn) hHeld rfl (by kernel_rfl) (by kernel_rfl) (by kernel_rfl) (by kernel_rfl) rfl ?_ (by first | exact fun _ _ _ h => h | exact fun _ _ _ h => hQ2 _ _ _ _ _ h) ?_
                  rotate_left
                  · intro W hSW
                    simp only [List.getElem_toArray, List.getElem_cons_zero, List.getElem_cons_succ]
                    (try dsimp only at hSW)
                    go_simp
                    with_reducible rfl
                  (try simp only [List.getElem_toArray, List.getElem_cons_zero, List.getElem_cons_succ, Act.put, List.setIfInBounds_toArray, List.set_cons_zero, List.set_cons_succ])
                  refine wpAnyJ_take 24 (v := ?_) (by first | exact hF | exact wideFn) hHeld rfl (by kernel_rfl) (by kernel_rfl) (by kernel_rfl) (by kernel_rfl) rfl ?_ (by first | exact fun _ _ _ h => h | exact fun _ _ _ h => hQ2 _ _ _ _ _ h) ?_
                  rotate_left
                  · intro W hSW
                    simp only [List.getElem_toArray, List.getElem_cons_zero, List.getElem_cons_succ]
                    (try dsimp only at hSW)
                    go_simp
                    with_reducible rfl
                  (try simp only [List.getElem_toArray, List.getElem_cons_zero, List.getElem_cons_succ, Act.put, List.setIfInBounds_toArray, List.set_cons_zero, List.set_cons_succ])
                  refine wpAnyJ_take 25 (v := ?_) (by first | exact hF | exact wideFn) hHeld rfl (by kernel_rfl) (by kernel_rfl) (by kernel_rfl) (by kernel_rfl) rfl ?_ (by first | exact fun _ _ _ h => h | exact fun _ _ _ h => hQ2 _ _ _ _ _ h) ?_
                  rotate_left
                  · intro W hSW
                    simp only [List.getElem_toArray, List.getElem_cons_zero, List.getElem_cons_succ]
                    (try dsimp only at hSW)
                    go_simp
                    with_reducible rfl
                  (try simp only [List.getElem_toArray, List.getElem_cons_zero, List.getElem_cons_succ, Act.put, List.setIfInBounds_toArray, List.set_cons_zero, List.set_cons_succ])
                  refine wpAnyJ_take 26 (v := ?_) (by first | exact hF | exact wideFn) hHeld rfl (by kernel_rfl) (by kernel_rfl) (by kernel_rfl) (by kernel_rfl) rfl ?_ (by first | exact fun _ _ _ h => h | exact fun _ _ _ h => hQ2 _ _ _ _ _ h) ?_
                  rotate_left
                  · intro W hSW
                    simp only [List.getElem_toArray, List.getElem_cons_zero, List.getElem_cons_succ]
                    (try dsimp only at hSW)
                    go_simp
                    with_reducible rfl
                  (try simp only [List.getElem_toArray, List.getElem_cons_zero, List.getElem_cons_succ, Act.put, List.setIfInBounds_toArray, List.set_cons_zero, List.set_cons_succ])
                  refine wpAnyJ_take 27 (v := ?_) (by first | exact hF | exact wideFn) hHeld rfl (by kernel_rfl) (by kernel_rfl) (by kernel_rfl) (by kernel_rfl) rfl ?_ (by first | exact fun _ _ _ h => h | exact fun _ _ _ h => hQ2 _ _ _ _ _ h) ?_
                  rotate_left
                  · intro W hSW
                    simp only [List.getElem_toArray, List.getElem_cons_zero, List.getElem_cons_succ]
                    (try dsimp only at hSW)
                    go_simp
                    with_reducible rfl
                  (try simp only [List.getElem_toArray, List.getElem_cons_zero, List.getElem_cons_succ, Act.put, List.setIfInBounds_toArray, List.set_cons_zero, List.set_cons_succ])
                  refine wpAnyJ_take 28 (v := ?_) (by first | exact hF | exact wideFn) hHeld rfl (by kernel_rfl) (by kernel_rfl) (by kernel_rfl) (by kernel_rfl) rfl ?_ (by first | exact fun _ _ _ h => h | exact fun _ _ _ h => hQ2 _ _ _ _ _ h) ?_
                  rotate_left
                  · intro W hSW
                    simp only [List.getElem_toArray, List.getElem_cons_zero, List.getElem_cons_succ]
                    (try dsimp only at hSW)
                    go_simp
                    with_reducible rfl
                  (try simp only [List.getElem_toArray, List.getElem_cons_zero, List.getElem_cons_succ, Act.put, List.setIfInBounds_toArray, List.set_cons_zero, List.set_cons_succ])
                  refine wpAnyJ_take 29 (v := ?_) (by first | exact hF | exact wideFn) hHeld rfl (by kernel_rfl) (by kernel_rfl) (by kernel_rfl) (by kernel_rfl) rfl ?_ (by first | exact fun _ _ _ h => h | exact fun _ _ _ h => hQ2 _ _ _ _ _ h) ?_
                  rotate_left
                  · intro W hSW
                    simp only [List.getElem_toArray, List.getElem_cons_zero, List.getElem_cons_succ]
                    (try dsimp only at hSW)
                    go_simp
                    with_reducible rfl
                  (try simp only [List.getElem_toArray, List.getElem_cons_zero, List.getElem_cons_succ, Act.put, List.setIfInBounds_toArray, List.set_cons_zero, List.set_cons_succ])
                  refine wpAnyJ_take 30 (v := ?_) (by first | exact hF | exact wideFn) hHeld rfl (by kernel_rfl) (by kernel_rfl) (by kernel_rfl) (by kernel_rfl) rfl ?_ (by first | exact fun _ _ _ h => h | exact fun _ _ _ h => hQ2 _ _ _ _ _ h) ?_
                  rotate_left
                  · intro W hSW
                    simp only [List.getElem_toArray, List.getElem_cons_zero, List.getElem_cons_succ]
                    (try dsimp only at hSW)
                    go_simp
                    with_reducible rfl
                  (try simp only [List.getElem_toArray, List.getElem_cons_zero, List.getElem_cons_succ, Act.put, List.setIfInBounds_toArray, List.set_cons_zero, List.set_cons_succ])
                  refine wpAnyJ_take 31 (v := ?_) (by first | exact hF | exact wideFn) hHeld rfl (by kernel_rfl) (by kernel_rfl) (by kernel_rfl) (by kernel_rfl) rfl ?_ (by first | exact fun _ _ _ h => h | exact fun _ _ _ h => hQ2 _ _ _ _ _ h) ?_
                  rotate_left
                  · intro W hSW
                    simp only [List.getElem_toArray, List.getElem_cons_zero, List.getElem_cons_succ]
                    (try dsimp only at hSW)
                    go_simp
                    with_reducible rfl
                  (try simp only [List.getElem_toArray, List.getElem_cons_zero, List.getElem_cons_succ, Act.put, List.setIfInBounds_toArray, List.set_cons_zero, List.set_cons_succ])
                  refine wpAnyJ_take 32 (v := ?_) (by first | exact hF | exact wideFn) hHeld rfl (by kernel_rfl) (by kernel_rfl) (by kernel_rfl) (by kernel_rfl) rfl ?_ (by first | exact fun _ _ _ h => h | exact fun _ _ _ h => hQ2 _ _ _ _ _ h) ?_
                  rotate_left
                  · intro W hSW
                    simp only [List.getElem_toArray, List.getElem_cons_zero, List.getElem_cons_succ]
                    (try dsimp only at hSW)
                    go_simp
                    with_reducible rfl
                  (try simp only [List.getElem_toArray, List.getElem_cons_zero, List.getElem_cons_succ, Act.put, List.setIfInBounds_toArray, List.set_cons_zero, List.set_cons_succ])
                  refine wpAnyJ_take 33 (v := ?_) (by first | exact hF | exact wideFn) hHeld rfl (by kernel_rfl) (by kernel_rfl) (by kernel_rfl) (by kernel_rfl) rfl ?_ (by first | exact fun _ _ _ h => h | exact fun _ _ _ h => hQ2 _ _ _ _ _ h) ?_
                  rotate_left
                  · intro W hSW
                    simp only [List.getElem_toArray, List.getElem_cons_zero, List.getElem_cons_succ]
                    (try dsimp only at hSW)
                    go_simp
                    with_reducible rfl
                  (try simp only [List.getElem_toArray, List.getElem_cons_zero, List.getElem_cons_succ, Act.put, List.setIfInBounds_toArray, List.set_cons_zero, List.set_cons_succ])
                  refine wpAnyJ_take 34 (v := ?_) (by first | exact hF | exact wideFn) hHeld rfl (by kernel_rfl) (by kernel_rfl) (by kernel_rfl) (by kernel_rfl) rfl ?_ (by first | exact fun _ _ _ h => h | exact fun _ _ _ h => hQ2 _ _ _ _ _ h) ?_
                  rotate_left
                  · intro W hSW
                    simp only [List.getElem_toArray, List.getElem_cons_zero, List.getElem_cons_succ]
                    (try dsimp only at hSW)
                    go_simp
                    with_reducible rfl
                  (try simp only [List.getElem_toArray, List.getElem_cons_zero, List.getElem_cons_succ, Act.put, List.setIfInBounds_toArray, List.set_cons_zero, List.set_cons_succ])
                  refine wpAnyJ_take 35 (v := ?_) (by first | exact hF | exact wideFn) hHeld rfl (by kernel_rfl) (by kernel_rfl) (by kernel_rfl) (by kernel_rfl) rfl ?_ (by first | exact fun _ _ _ h => h | exact fun _ _ _ h => hQ2 _ _ _ _ _ h) ?_
                  rotate_left
                  · intro W hSW
                    simp only [List.getElem_toArray, List.getElem_cons_zero, List.getElem_cons_succ]
                    (try dsimp only at hSW)
                    go_simp
                    with_reducible rfl
                  (try simp only [List.getElem_toArray, List.getElem_cons_zero, List.getElem_cons_succ, Act.put, List.setIfInBounds_toArray, List.set_cons_zero, List.set_cons_succ])
                  refine wpAnyJ_take 36 (v := ?_) (by first | exact hF | exact wideFn) hHeld rfl (by kernel_rfl) (by kernel_rfl) (by kernel_rfl) (by kernel_rfl) rfl ?_ (by first | exact fun _ _ _ h => h | exact fun _ _ _ h => hQ2 _ _ _ _ _ h) ?_
                  rotate_left
                  · intro W hSW
                    simp only [List.getElem_toArray, List.getElem_cons_zero, List.getElem_cons_succ]
                    (try dsimp only at hSW)
                    go_simp
                    with_reducible rfl
                  (try simp only [List.getElem_toArray, List.getElem_cons_zero, List.getElem_cons_succ, Act.put, List.setIfInBounds_toArray, List.set_cons_zero, List.set_cons_succ])
                  refine wpAnyJ_take 37 (v := ?_) (by first | exact hF | exact wideFn) hHeld rfl (by kernel_rfl) (by kernel_rfl) (by kernel_rfl) (by kernel_rfl) rfl ?_ (by first | exact fun _ _ _ h => h | exact fun _ _ _ h => hQ2 _ _ _ _ _ h) ?_
                  rotate_left
                  · intro W hSW
                    simp only [List.getElem_toArray, List.getElem_cons_zero, List.getElem_cons_succ]
                    (try dsimp only at hSW)
                    go_simp
                    with_reducible rfl
                  (try simp only [List.getElem_toArray, List.getElem_cons_zero, List.getElem_cons_succ, Act.put, List.setIfInBounds_toArray, List.set_cons_zero, List.set_cons_succ])
                  refine wpAnyJ_take 38 (v := ?_) (by first | exact hF | exact wideFn) hHeld rfl (by kernel_rfl) (by kernel_rfl) (by kernel_rfl) (by kernel_rfl) rfl ?_ (by first | exact fun _ _ _ h => h | exact fun _ _ _ h => hQ2 _ _ _ _ _ h) ?_
                  rotate_left
                  · intro W hSW
                    simp only [List.getElem_toArray, List.getElem_cons_zero, List.getElem_cons_succ]
                    (try dsimp only at hSW)
                    go_simp
                    with_reducible rfl
                  (try simp only [List.getElem_toArray, List.getElem_cons_zero, List.getElem_cons_succ, Act.put, List.setIfInBounds_toArray, List.set_cons_zero, List.set_cons_succ])
                  refine wpAnyJ_take 39 (v := ?_) (by first | exact hF | exact wideFn) hHeld rfl (by kernel_rfl) (by kernel_rfl) (by kernel_rfl) (by kernel_rfl) rfl ?_ (by first | exact fun _ _ _ h => h | exact fun _ _ _ h => hQ2 _ _ _ _ _ h) ?_
                  rotate_left
                  · intro W hSW
                    simp only [List.getElem_toArray, List.getElem_cons_zero, List.getElem_cons_succ]
                    (try dsimp only at hSW)
                    go_simp
                    with_reducible rfl
                  (try simp only [List.getElem_toArray, List.getElem_cons_zero, List.getElem_cons_succ, Act.put, List.setIfInBounds_toArray, List.set_cons_zero, List.set_cons_succ])
                  refine wpAnyJ_take 40 (v := ?_) (by first | exact hF | exact wideFn) hHeld rfl (by kernel_rfl) (by kernel_rfl) (by kernel_rfl) (by kernel_rfl) rfl ?_ (by first | exact fun _ _ _ h => h | exact fun _ _ _ h => hQ2 _ _ _ _ _ h) ?_
                  rotate_left
                  · intro W hSW
                    simp only [List.getElem_toArray, List.getElem_cons_zero, List.getElem_cons_succ]
                    (try dsimp only at hSW)
                    go_simp
                    with_reducible rfl
                  (try simp only [List.getElem_toArray, List.getElem_cons_zero, List.getElem_cons_succ, Act.put, List.setIfInBounds_toArray, List.set_cons_zero, List.set_cons_succ])
                  refine wpAnyJ_take 41 (v := ?_) (by first | exact hF | exact wideFn) hHeld rfl (by kernel_rfl) (by kernel_rfl) (by kernel_rfl) (by kernel_rfl) rfl ?_ (by first | exact fun _ _ _ h => h | exact fun _ _ _ h => hQ2 _ _ _ _ _ h) ?_
                  rotate_left
                  · intro W hSW
                    simp only [List.getElem_toArray, List.getElem_cons_zero, List.getElem_cons_succ]
                    (try dsimp only at hSW)
                    go_simp
                    with_reducible rfl
                  (try simp only [List.getElem_toArray, List.getElem_cons_zero, List.getElem_cons_succ, Act.put, List.setIfInBounds_toArray, List.set_cons_zero, List.set_cons_succ])
                  refine wpAnyJ_take 42 (v := ?_) (by first | exact hF | exact wideFn) hHeld rfl (by kernel_rfl) (by kernel_rfl) (by kernel_rfl) (by kernel_rfl) rfl ?_ (by first | exact fun _ _ _ h => h | exact fun _ _ _ h => hQ2 _ _ _ _ _ h) ?_
                  rotate_left
                  · intro W hSW
                    simp only [List.getElem_toArray, List.getElem_cons_zero, List.getElem_cons_succ]
                    (try dsimp only at hSW)
                    go_simp
                    with_reducible rfl
                  (try simp only [List.getElem_toArray, List.getElem_cons_zero, List.getElem_cons_succ, Act.put, List.setIfInBounds_toArray, List.set_cons_zero, List.set_cons_succ])
                  refine wpAnyJ_take 43 (v := ?_) (by first | exact hF | exact wideFn) hHeld rfl (by kernel_rfl) (by kernel_rfl) (by kernel_rfl) (by kernel_rfl) rfl ?_ (by first | exact fun _ _ _ h => h | exact fun _ _ _ h => hQ2 _ _ _ _ _ h) ?_
                  rotate_left
                  · intro W hSW
                    simp only [List.getElem_toArray, List.getElem_cons_zero, List.getElem_cons_succ]
                    (try dsimp only at hSW)
                    go_simp
                    with_reducible rfl
                  (try simp only [List.getElem_toArray, List.getElem_cons_zero, List.getElem_cons_succ, Act.put, List.setIfInBounds_toArray, List.set_cons_zero, List.set_cons_succ])
                  refine wpAnyJ_take 44 (v := ?_) (by first | exact hF | exact wideFn) hHeld rfl (by kernel_rfl) (by kernel_rfl) (by kernel_rfl) (by kernel_rfl) rfl ?_ (by first | exact fun _ _ _ h => h | exact fun _ _ _ h => hQ2 _ _ _ _ _ h) ?_
                  rotate_left
                  · intro W hSW
                    simp only [List.getElem_toArray, List.getElem_cons_zero, List.getElem_cons_succ]
                    (try dsimp only at hSW)
                    go_simp
                    with_reducible rfl
                  (try simp only [List.getElem_toArray, List.getElem_cons_zero, List.getElem_cons_succ, Act.put, List.setIfInBounds_toArray, List.set_cons_zero, List.set_cons_succ])
                  refine wpAnyJ_take 45 (v := ?_) (by first | exact hF | exact wideFn) hHeld rfl (by kernel_rfl) (by kernel_rfl) (by kernel_rfl) (by kernel_rfl) rfl ?_ (by first | exact fun _ _ _ h => h | exact fun _ _ _ h => hQ2 _ _ _ _ _ h) ?_
                  rotate_left
                  · intro W hSW
                    simp only [List.getElem_toArray, List.getElem_cons_zero, List.getElem_cons_succ]
                    (try dsimp only at hSW)
                    go_simp
                    with_reducible rfl
                  (try simp only [List.getElem_toArray, List.getElem_cons_zero, List.getElem_cons_succ, Act.put, List.setIfInBounds_toArray, List.set_cons_zero, List.set_cons_succ])
                  refine wpAnyJ_take 46 (v := ?_) (by first | exact hF | exact wideFn) hHeld rfl (by kernel_rfl) (by kernel_rfl) (by kernel_rfl) (by kernel_rfl) rfl ?_ (by first | exact fun _ _ _ h => h | exact fun _ _ _ h => hQ2 _ _ _ _ _ h) ?_
                  rotate_left
                  · intro W hSW
                    simp only [List.getElem_toArray, List.getElem_cons_zero, List.getElem_cons_succ]
                    (try dsimp only at hSW)
                    go_simp
                    with_reducible rfl
                  (try simp only [List.getElem_toArray, List.getElem_cons_zero, List.getElem_cons_succ, Act.put, List.setIfInBounds_toArray, List.set_cons_zero, List.set_cons_succ])
                  refine wpAnyJ_take 47 (v := ?_) (by first | exact hF | exact wideFn) hHeld rfl (by kernel_rfl) (by kernel_rfl) (by kernel_rfl) (by kernel_rfl) rfl ?_ (by first | exact fun _ _ _ h => h | exact fun _ _ _ h => hQ2 _ _ _ _ _ h) ?_
                  rotate_left
                  · intro W hSW
                    simp only [List.getElem_toArray, List.getElem_cons_zero, List.getElem_cons_succ]
                    (try dsimp only at hSW)
                    go_simp
                    with_reducible rfl
                  (try simp only [List.getElem_toArray, List.getElem_cons_zero, List.getElem_cons_succ, Act.put, List.setIfInBounds_toArray, List.set_cons_zero, List.set_cons_succ])
                  refine wpAnyJ_take 48 (v := ?_) (by first | exact hF | exact wideFn) hHeld rfl (by kernel_rfl) (by kernel_rfl) (by kernel_rfl) (by kernel_rfl) rfl ?_ (by first | exact fun _ _ _ h => h | exact fun _ _ _ h => hQ2 _ _ _ _ _ h) ?_
                  rotate_left
                  · intro W hSW
                    simp only [List.getElem_toArray, List.getElem_cons_zero, List.getElem_cons_succ]
                    (try dsimp only at hSW)
                    go_simp
                    with_reducible rfl
                  (try simp only [List.getElem_toArray, List.getElem_cons_zero, List.getElem_cons_succ, Act.put, List.setIfInBounds_toArray, List.set_cons_zero, List.set_cons_succ])
                  refine wpAnyJ_take 49 (v := ?_) (by first | exact hF | exact wideFn) hHeld rfl (by kernel_rfl) (by kernel_rfl) (by kernel_rfl) (by kernel_rfl) rfl ?_ (by first | exact fun _ _ _ h => h | exact fun _ _ _ h => hQ2 _ _ _ _ _ h) ?_
                  rotate_left
                  · intro W hSW
                    simp only [List.getElem_toArray, List.getElem_cons_zero, List.getElem_cons_succ]
                    (try dsimp only at hSW)
                    go_simp
                    with_reducible rfl
                  (try simp only [List.getElem_toArray, List.getElem_cons_zero, List.getElem_cons_succ, Act.put, List.setIfInBounds_toArray, List.set_cons_zero, List.set_cons_succ])
                  refine wpAnyJ_take 50 (v := ?_) (by first | exact hF | exact wideFn) hHeld rfl (by kernel_rfl) (by kernel_rfl) (by kernel_rfl) (by kernel_rfl) rfl ?_ (by first | exact fun _ _ _ h => h | exact fun _ _ _ h => hQ2 _ _ _ _ _ h) ?_
                  rotate_left
                  · intro W hSW
                    simp only [List.getElem_toArray, List.getElem_cons_zero, List.getElem_cons_succ]
                    (try dsimp only at hSW)
                    go_simp
                    with_reducible rfl
                  (try simp only [List.getElem_toArray, List.getElem_cons_zero, List.getElem_cons_succ, Act.put, List.setIfInBounds_toArray, List.set_cons_zero, List.set_cons_succ])
                  refine wpAnyJ_take 51 (v := ?_) (by first | exact hF | exact wideFn) hHeld rfl (by kernel_rfl) (by kernel_rfl) (by kernel_rfl) (by kernel_rfl) rfl ?_ (by first | exact fun _ _ _ h => h | exact fun _ _ _ h => hQ2 _ _ _ _ _ h) ?_
                  rotate_left
                  · intro W hSW
                    simp only [List.getElem_toArray, List.getElem_cons_zero, List.getElem_cons_succ]
                    (try dsimp only at hSW)
                    go_simp
                    with_reducible rfl
                  (try simp only [List.getElem_toArray, List.getElem_cons_zero, List.getElem_cons_succ, Act.put, List.setIfInBounds_toArray, List.set_cons_zero, List.set_cons_succ])
                  refine wpAnyJ_take 52 (v := ?_) (by first | exact hF | exact wideFn) hHeld rfl (by kernel_rfl) (by kernel_rfl) (by kernel_rfl) (by kernel_rfl) rfl ?_ (by first | exact fun _ _ _ h => h | exact fun _ _ _ h => hQ2 _ _ _ _ _ h) ?_
                  rotate_left
                  · intro W hSW
                    simp only [List.getElem_toArray, List.getElem_cons_zero, List.getElem_cons_succ]
                    (try dsimp only at hSW)
                    go_simp
                    with_reducible rfl
                  (try simp only [List.getElem_toArray, List.getElem_cons_zero, List.getElem_cons_succ, Act.put, List.setIfInBounds_toArray, List.set_cons_zero, List.set_cons_succ])
                  refine wpAnyJ_take 53 (v := ?_) (by first | exact hF | exact wideFn) hHeld rfl (by kernel_rfl) (by kernel_rfl) (by kernel_rfl) (by kernel_rfl) rfl ?_ (by first | exact fun _ _ _ h => h | exact fun _ _ _ h => hQ2 _ _ _ _ _ h) ?_
                  rotate_left
                  · intro W hSW
                    simp only [List.getElem_toArray, List.getElem_cons_zero, List.getElem_cons_succ]
                    (try dsimp only at hSW)
                    go_simp
                    with_reducible rfl
                  (try simp only [List.getElem_toArray, List.getElem_cons_zero, List.getElem_cons_succ, Act.put, List.setIfInBounds_toArray, List.set_cons_zero, List.set_cons_succ])
                  refine wpAnyJ_take 54 (v := ?_) (by first | exact hF | exact wideFn) hHeld rfl (by kernel_rfl) (by kernel_rfl) (by kernel_rfl) (by kernel_rfl) rfl ?_ (by first | exact fun _ _ _ h => h | exact fun _ _ _ h => hQ2 _ _ _ _ _ h) ?_
                  rotate_left
                  · intro W hSW
                    simp only [List.getElem_toArray, List.getElem_cons_zero, List.getElem_cons_succ]
                    (try dsimp only at hSW)
                    go_simp
                    with_reducible rfl
                  (try simp only [List.getElem_toArray, List.getElem_cons_zero, List.getElem_cons_succ, Act.put, List.setIfInBounds_toArray, List.set_cons_zero, List.set_cons_succ])
                  refine wpAnyJ_take 55 (v := ?_) (by first | exact hF | exact wideFn) hHeld rfl (by kernel_rfl) (by kernel_rfl) (by kernel_rfl) (by kernel_rfl) rfl ?_ (by first | exact fun _ _ _ h => h | exact fun _ _ _ h => hQ2 _ _ _ _ _ h) ?_
                  rotate_left
                  · intro W hSW
                    simp only [List.getElem_toArray, List.getElem_cons_zero, List.getElem_cons_succ]
                    (try dsimp only at hSW)
                    go_simp
                    with_reducible rfl
                  (try simp only [List.getElem_toArray, List.getElem_cons_zero, List.getElem_cons_succ, Act.put, List.setIfInBounds_toArray, List.set_cons_zero, List.set_cons_succ])
                  refine wpAnyJ_take 56 (v := ?_) (by first | exact hF | exact wideFn) hHeld rfl (by kernel_rfl) (by kernel_rfl) (by kernel_rfl) (by kernel_rfl) rfl ?_ (by first | exact fun _ _ _ h => h | exact fun _ _ _ h => hQ2 _ _ _ _ _ h) ?_
                  rotate_left
                  · intro W hSW
                    simp only [List.getElem_toArray, List.getElem_cons_zero, List.getElem_cons_succ]
                    (try dsimp only at hSW)
                    go_simp
                    with_reducible rfl
                  (try simp only [List.getElem_toArray, List.getElem_cons_zero, List.getElem_cons_succ, Act.put, List.setIfInBounds_toArray, List.set_cons_zero, List.set_cons_succ])
                  refine wpAnyJ_take 57 (v := ?_) (by first | exact hF | exact wideFn) hHeld rfl (by kernel_rfl) (by kernel_rfl) (by kernel_rfl) (by kernel_rfl) rfl ?_ (by first | exact fun _ _ _ h => h | exact fun _ _ _ h => hQ2 _ _ _ _ _ h) ?_
                  rotate_left
                  · intro W hSW
                    simp only [List.getElem_toArray, List.getElem_cons_zero, List.getElem_cons_succ]
                    (try dsimp only at hSW)
                    go_simp
                    with_reducible rfl
                  (try simp only [List.getElem_toArray, List.getElem_cons_zero, List.getElem_cons_succ, Act.put, List.setIfInBounds_toArray, List.set_cons_zero, List.set_cons_succ])
                  refine wpAnyJ_take 58 (v := ?_) (by first | exact hF | exact wideFn) hHeld rfl (by kernel_rfl) (by kernel_rfl) (by kernel_rfl) (by kernel_rfl) rfl ?_ (by first | exact fun _ _ _ h => h | exact fun _ _ _ h => hQ2 _ _ _ _ _ h) ?_
                  rotate_left
                  · intro W hSW
                    simp only [List.getElem_toArray, List.getElem_cons_zero, List.getElem_cons_succ]
                    (try dsimp only at hSW)
                    go_simp
                    with_reducible rfl
                  (try simp only [List.getElem_toArray, List.getElem_cons_zero, List.getElem_cons_succ, Act.put, List.setIfInBounds_toArray, List.set_cons_zero, List.set_cons_succ])
                  refine wpAnyJ_take 59 (v := ?_) (by first | exact hF | exact wideFn) hHeld rfl (by kernel_rfl) (by kernel_rfl) (by kernel_rfl) (by kernel_rfl) rfl ?_ (by first | exact fun _ _ _ h => h | exact fun _ _ _ h => hQ2 _ _ _ _ _ h) ?_
                  rotate_left
                  · intro W hSW
                    simp only [List.getElem_toArray, List.getElem_cons_zero, List.getElem_cons_succ]
                    (try dsimp only at hSW)
                    go_simp
                    with_reducible rfl
                  (try simp only [List.getElem_toArray, List.getElem_cons_zero, List.getElem_cons_succ, Act.put, List.setIfInBounds_toArray, List.set_cons_zero, List.set_cons_succ])
                  refine wpAnyJ_take 60 (v := ?_) (by first | exact hF | exact wideFn) hHeld rfl (by kernel_rfl) (by kernel_rfl) (by kernel_rfl) (by kernel_rfl) rfl ?_ (by first | exact fun _ _ _ h => h | exact fun _ _ _ h => hQ2 _ _ _ _ _ h) ?_
                  rotate_left
                  · intro W hSW
                    simp only [List.getElem_toArray, List.getElem_cons_zero, List.getElem_cons_succ]
                    (try dsimp only at hSW)
                    go_simp
                    with_reducible rfl
                  (try simp only [List.getElem_toArray, List.getElem_cons_zero, List.getElem_cons_succ, Act.put, List.setIfInBounds_toArray, List.set_cons_zero, List.set_cons_succ])
                  refine wpAnyJ_take 61 (v := ?_) (by first | exact hF | exact wideFn) hHeld rfl (by kernel_rfl) (by kernel_rfl) (by kernel_rfl) (by kernel_rfl) rfl ?_ (by first | exact fun _ _ _ h => h | exact fun _ _ _ h => hQ2 _ _ _ _ _ h) ?_
                  rotate_left
                  · intro W hSW
                    simp only [List.getElem_toArray, List.getElem_cons_zero, List.getElem_cons_succ]
                    (try dsimp only at hSW)
                    go_simp
                    with_reducible rfl
                  (try simp only [List.getElem_toArray, List.getElem_cons_zero, List.getElem_cons_succ, Act.put, List.setIfInBounds_toArray, List.set_cons_zero, List.set_cons_succ])
                  refine wpAnyJ_take 62 (v := ?_) (by first | exact hF | exact wideFn) hHeld rfl (by kernel_rfl) (by kernel_rfl) (by kernel_rfl) (by kernel_rfl) rfl ?_ (by first | exact fun _ _ _ h => h | exact fun _ _ _ h => hQ2 _ _ _ _ _ h) ?_
                  rotate_left
                  · intro W hSW
                    simp only [List.getElem_toArray, List.getElem_cons_zero, List.getElem_cons_succ]
                    (try dsimp only at hSW)
                    go_simp
                    with_reducible rfl
                  (try simp only [List.getElem_toArray, List.getElem_cons_zero, List.getElem_cons_succ, Act.put, List.setIfInBounds_toArray, List.set_cons_zero, List.set_cons_succ])
                  refine wpAnyJ_take 63 (v := ?_) (by first | exact hF | exact wideFn) hHeld rfl (by kernel_rfl) (by kernel_rfl) (by kernel_rfl) (by kernel_rfl) rfl ?_ (by first | exact fun _ _ _ h => h | exact fun _ _ _ h => hQ2 _ _ _ _ _ h) ?_
                  rotate_left
                  · intro W hSW
                    simp only [List.getElem_toArray, List.getElem_cons_zero, List.getElem_cons_succ]
                    (try dsimp only at hSW)
                    go_simp
                    with_reducible rfl
                  (try simp only [List.getElem_toArray, List.getElem_cons_zero, List.getElem_cons_succ, Act.put, List.setIfInBounds_toArray, List.set_cons_zero, List.set_cons_succ])
                  refine wpAnyJ_take 64 (v := ?_) (by first | exact hF | exact wideFn) hHeld rfl (by kernel_rfl) (by kernel_rfl) (by kernel_rfl) (by kernel_rfl) rfl ?_ (by first | exact fun _ _ _ h => h | exact fun _ _ _ h => hQ2 _ _ _ _ _ h) ?_
                  rotate_left
                  · intro W hSW
                    simp only [List.getElem_toArray, List.getElem_cons_zero, List.getElem_cons_succ]
                    (try dsimp only at hSW)
                    go_simp
                    with_reducible rfl
                  (try simp only [List.getElem_toArray, List.getElem_cons_zero, List.getElem_cons_succ, Act.put, List.setIfInBounds_toArray, List.set_cons_zero, List.set_cons_succ])
                  refine wpAnyJ_take 65 (v := ?_) (by first | exact hF | exact wideFn) hHeld rfl (by kernel_rfl) (by kernel_rfl) (by kernel_rfl) (by kernel_rfl) rfl ?_ (by first | exact fun _ _ _ h => h | exact fun _ _ _ h => hQ2 _ _ _ _ _ h) ?_
                  rotate_left
                  · intro W hSW
                    simp only [List.getElem_toArray, List.getElem_cons_zero, List.getElem_cons_succ]
                    (try dsimp only at hSW)
                    go_simp
                    with_reducible rfl
                  (try simp only [List.getElem_toArray, List.getElem_cons_zero, List.getElem_cons_succ, Act.put, List.setIfInBounds_toArray, List.set_cons_zero, List.set_cons_succ])
                  refine wpAnyJ_done (by kernel_rfl) ?_
                  go_wp2_with fail
                  go_meet
                  exact ⟨rfl, rfl⟩
                · as_aux_lemma =>
                  clear o1 o2 o3 o4 o5 o6 o7 o8 o9 hF1 hmn hmx HYl HCl HBX HGL HQ
                  refine wpAnyJ_take 0 (v := ?_) (by first | exact hF | exact wideFn) hHeld rfl (by kernel_rfl) (by kernel_rfl) (by kernel_rfl) (by kernel_rfl) rfl ?_ (by first | exact fun _ _ _ h => h | exact fun _ _ _ h => hQ2 _ _ _ _ _ h) ?_
                  rotate_left
                  · intro W hSW
                    simp only [List.getElem_toArray, List.getElem_cons_zero, List.getElem_cons_succ]
                    (try dsimp only at hSW)
                    go_simp
                    with_reducible rfl
                  (try simp only [List.getElem_toArray, List.getElem_cons_zero, List.getElem_cons_succ, Act.put, List.setIfInBounds_toArray, List.set_cons_zero, List.set_cons_succ])
                  refine wpAnyJ_take 1 (v := ?_) (by first | exact hF | exact wideFn) hHeld rfl (by kernel_rfl) (by kernel_rfl) (by kernel_rfl) (by kernel_rfl) rfl ?_ (by first | exact fun _ _ _ h => h | exact fun _ _ _ h => hQ2 _ _ _ _ _ h) ?_
                  rotate_left
                  · intro W hSW
                    simp only [List.getElem_toArray, List.getElem_cons_zero, List.getElem_cons_succ]
                    (try dsimp only at hSW)
                    go_simp
                    with_reducible rfl
                  (try simp only [List.getElem_toArray, List.getElem_cons_zero, List.getElem_cons_succ, Act.put, List.setIfInBounds_toArray, List.set_cons_zero, List.set_cons_succ])
                  refine wpAnyJ_take 2 (v := ?_) (by first | exact hF | exact wideFn) hHeld rfl (by kernel_rfl) (by kernel_rfl) (by kernel_rfl) (by kernel_rfl) rfl ?_ (by first | exact fun _ _ _ h => h | exact fun _ _ _ h => hQ2 _ _ _ _ _ h) ?_
                  rotate_left
                  · intro W hSW
                    simp only [List.getElem_toArray, List.getElem_cons_zero, List.getElem_cons_succ]
                    (try dsimp only at hSW)
                    go_simp
                    with_reducible rfl
                  (try simp only [List.getElem_toArray, List.getElem_cons_zero, List.getElem_cons_succ, Act.put, List.setIfInBounds_toArray, List.set_cons_zero, List.set_cons_succ])
                  refine wpAnyJ_take 3 (v := ?_) (by first | exact hF | exact wideFn) hHeld rfl (by kernel_rfl) (by kernel_rfl) (by kernel_rfl) (by kernel_rfl) rfl ?_ (by first | exact fun _ _ _ h => h | exact fun _ _ _ h => hQ2 _ _ _ _ _ h) ?_
                  rotate_left
                  · intro W hSW
                    simp only [List.getElem_toArray, List.getElem_cons_zero, List.getElem_cons_succ]
                    (try dsimp only at hSW)
                    go_simp
                    with_reducible rfl
                  (try simp only [List.getElem_toArray, List.getElem_cons_zero, List.getElem_cons_succ, Act.put, List.setIfInBounds_toArray, List.set_cons_zero, List.set_cons_succ])
                  refine wpAnyJ_take 4 (v := ?_) (by first | exact hF | exact wideFn) hHeld rfl (by kernel_rfl) (by kernel_rfl) (by kernel_rfl) (by kernel_rfl) rfl ?_ (by first | exact fun _ _ _ h => h | exact fun _ _ _ h => hQ2 _ _ _ _ _ h) ?_
                  rotate_left
                  · intro W hSW
                    simp only [List.getElem_toArray, List.getElem_cons_zero, List.getElem_cons_succ]
                    (try dsimp only at hSW)
                    go_simp
                    with_reducible rfl
                  (try simp only [List.getElem_toArray, List.getElem_cons_zero, List.getElem_cons_succ, Act.put, List.setIfInBounds_toArray, List.set_cons_zero, List.set_cons_succ])
                  refine wpAnyJ_take 5 (v := ?_) (by first | exact hF | exact wideFn) hHeld rfl (by kernel_rfl) (by kernel_rfl) (by kernel_rfl) (by kernel_rfl) rfl ?_ (by first | exact fun _ _ _ h => h | exact fun _ _ _ h => hQ2 _ _ _ _ _ h) ?_
                  rotate_left
                  · intro W hSW
                    simp only [List.getElem_toArray, List.getElem_cons_zero, List.getElem_cons_succ]
                    (try dsimp only at hSW)
                    go_simp
                    with_reducible rfl
                  (try simp only [List.getElem_toArray, List.getElem_cons_zero, List.getElem_cons_succ, Act.put, List.setIfInBounds_toArray, List.set_cons_zero, List.set_cons_succ])
                  refine wpAnyJ_take 6 (v := ?_) (by first | exact hF | exact wideFn) hHeld rfl (by kernel_rfl) (by kernel_rfl) (by kernel_rfl) (by kernel_rfl) rfl ?_ (by first | exact fun _ _ _ h => h | exact fun _ _ _ h => hQ2 _ _ _ _ _ h) ?_
                  rotate_left
                  · intro W hSW
                    simp only [List.getElem_toArray, List.getElem_cons_zero, List.getElem_cons_succ]
                    (try dsimp only at hSW)
                    go_simp
                    with_reducible rfl
                  (try simp only [List.getElem_toArray, List.getElem_cons_zero, List.getElem_cons_succ, Act.put, List.setIfInBounds_toArray, List.set_cons_zero, List.set_cons_succ])
                  refine wpAnyJ_take 7 (v := ?_) (by first | exact hF | exact wideFn) hHeld rfl (by kernel_rfl) (by kernel_rfl) (by kernel_rfl) (by kernel_rfl) rfl ?_ (by first | exact fun _ _ _ h => h | exact fun _ _ _ h => hQ2 _ _ _ _ _ h) ?_
                  rotate_left
                  · intro W hSW
                    simp only [List.getElem_toArray, List.getElem_cons_zero, List.getElem_cons_succ]
                    (try dsimp only at hSW)
                    go_simp
                    with_reducible rfl
                  (try simp only [List.getElem_toArray, List.getElem_cons_zero, List.getElem_cons_succ, Act.put, List.setIfInBounds_toArray, List.set_cons_zero, List.set_cons_succ])
                  refine wpAnyJ_take 8 (v := ?_) (by first | exact hF | exact wideFn) hHeld rfl (by kernel_rfl) (by kernel_rfl) (by kernel_rfl) (by kernel_rfl) rfl ?_ (by first | exact fun _ _ _ h => h | exact fun _ _ _ h => hQ2 _ _ _ _ _ h) ?_
                  rotate_left
                  · intro W hSW
                    simp only [List.getElem_toArray, List.getElem_cons_zero, List.getElem_cons_succ]
                    (try dsimp only at hSW)
                    go_simp
                    with_reducible rfl
                  (try simp only [List.getElem_toArray, List.getElem_cons_zero, List.getElem_cons_succ, Act.put, List.setIfInBounds_toArray, List.set_cons_zero, List.set_cons_succ])
                  refine wpAnyJ_take 9 (v := ?_) (by first | exact hF | exact wideFn) hHeld rfl (by kernel_rfl) (by kernel_rfl) (by kernel_rfl) (by kernel_rfl) rfl ?_ (by first | exact fun _ _ _ h => h | exact fun _ _ _ h => hQ2 _ _ _ _ _ h) ?_
                  rotate_left
                  · intro W hSW
                    simp only [List.getElem_toArray, List.getElem_cons_zero, List.getElem_cons_succ]
                    (try dsimp only at hSW)
                    go_simp
                    with_reducible rfl
                  (try simp only [List.getElem_toArray, List.getElem_cons_zero, List.getElem_cons_succ, Act.put, List.setIfInBounds_toArray, List.set_cons_zero, List.set_cons_succ])
                  refine wpAnyJ_take 10 (v := ?_) (by first | exact hF | exact wideFn) hHeld rfl (by kernel_rfl) (by kernel_rfl) (by kernel_rfl) (by kernel_rfl) rfl ?_ (by first | exact fun _ _ _ h => h | exact fun _ _ _ h => hQ2 _ _ _ _ _ h) ?_
                  rotate_left
                  · intro W hSW
                    simp only [List.getElem_toArray, List.getElem_cons_zero, List.getElem_cons_succ]
                    (try dsimp only at hSW)
                    go_simp
                    with_reducible rfl
                  (try simp only [List.getElem_toArray, List.getElem_cons_zero, List.getElem_cons_succ, Act.put, List.setIfInBounds_toArray, List.set_cons_zero, List.set_cons_succ])
                  refine wpAnyJ_take 11 (v := ?_) (by first | exact hF | exact wideFn) hHeld rfl (by kernel_rfl) (by kernel_rfl) (by kernel_rfl) (by kernel_rfl) rfl ?_ (by first | exact fun _ _ _ h => h | exact fun _ _ _ h => hQ2 _ _ _ _ _ h) ?_
                  rotate_left
                  · intro W hSW
                    simp only [List.getElem_toArray, List.getElem_cons_zero, List.getElem_cons_succ]
                    (try dsimp only at hSW)
                    go_simp
                    with_reducible rfl
                  (try simp only [List.getElem_toArray, List.getElem_cons_zero, List.getElem_cons_succ, Act.put, List.setIfInBounds_toArray, List.set_cons_zero, List.set_cons_succ])
                  refine wpAnyJ_take 12 (v := ?_) (by first | exact hF | exact wideFn) hHeld rfl (by kernel_rfl) (by kernel_rfl) (by kernel_rfl) (by kernel_rfl) rfl ?_ (by first | exact fun _ _ _ h => h | exact fun _ _ _ h => hQ2 _ _ _ _ _ h) ?_
                  rotate_left
                  · intro W hSW
                    simp only [List.getElem_toArray, List.getElem_cons_zero, List.getElem_cons_succ]
                    (try dsimp only at hSW)
                    go_simp
                    with_reducible rfl
                  (try simp only [List.getElem_toArray, List.getElem_cons_zero, List.getElem_cons_succ, Act.put, List.setIfInBounds_toArray, List.set_cons_zero, List.set_cons_succ])
                  refine wpAnyJ_take 13 (v := ?_) (by first | exact hF | exact wideFn) hHeld rfl (by kernel_rfl) (by kernel_rfl) (by kernel_rfl) (by kernel_rfl) rfl ?_ (by first | exact fun _ _ _ h => h | exact fun _ _ _ h => hQ2 _ _ _ _ _ h) ?_
                  rotate_left
                  · intro W hSW
                    simp only [List.getElem_toArray, List.getElem_cons_zero, List.getElem_cons_succ]
                    (try dsimp only at hSW)
                    go_simp
                    with_reducible rfl
                  (try simp only [List.getElem_toArray, List.getElem_cons_zero, List.getElem_cons_succ, Act.put, List.setIfInBounds_toArray, List.set_cons_zero, List.set_cons_succ])
                  refine wpAnyJ_take 14 (v := ?_) (by first | exact hF | exact wideFn) hHeld rfl (by kernel_rfl) (by kernel_rfl) (by kernel_rfl) (by kernel_rfl) rfl ?_ (by first | exact fun _ _ _ h => h | exact fun _ _ _ h => hQ2 _ _ _ _ _ h) ?_
                  rotate_left
                  · intro W hSW
                    simp only [List.getElem_toArray, List.getElem_cons_zero, List.getElem_cons_succ]
                    (try dsimp only at hSW)
                    go_simp
                    with_reducible rfl
                  (try simp only [List.getElem_toArray, List.getElem_cons_zero, List.getElem_cons_succ, Act.put, List.setIfInBounds_toArray, List.set_cons_zero, List.set_cons_succ])
                  refine wpAnyJ_take 15 (v := ?_) (by first | exact hF | exact wideFn) hHeld rfl (by kernel_rfl) (by kernel_rfl) (by kernel_rfl) (by kernel_rfl) rfl ?_ (by first | exact fun _ _ _ h => h | exact fun _ _ _ h => hQ2 _ _ _ _ _ h) ?_
                  rotate_left
                  · intro W hSW
                    simp only [List.getElem_toArray, List.getElem_cons_zero, List.getElem_cons_succ]
                    (try dsimp only at hSW)
                    go_simp
                    with_reducible rfl
                  (try simp only [List.getElem_toArray, List.getElem_cons_zero, List.getElem_cons_succ, Act.put, List.setIfInBounds_toArray, List.set_cons_zero, List.set_cons_succ])
                  refine wpAnyJ_take 16 (v := ?_) (by first | exact hF | exact wideFn) hHeld rfl (by kernel_rfl) (by kernel_rfl) (by kernel_rfl) (by kernel_rfl) rfl ?_ (by first | exact fun _ _ _ h => h | exact fun _ _ _ h => hQ2 _ _ _ _ _ h) ?_
                  rotate_left
                  · intro W hSW
                    simp only [List.getElem_toArray, List.getElem_cons_zero, List.getElem_cons_succ]
                    (try dsimp only at hSW)
                    go_simp
                    with_reducible rfl
                  (try simp only [List.getElem_toArray, List.getElem_cons_zero, List.getElem_cons_succ, Act.put, List.setIfInBounds_toArray, List.set_cons_zero, List.set_cons_succ])
                  refine wpAnyJ_take 17 (v := ?_) (by first | exact hF | exact wideFn) hHeld rfl (by kernel_rfl) (by kernel_rfl) (by kernel_rfl) (by kernel_rfl) rfl ?_ (by first | exact fun _ _ _ h => h | exact fun _ _ _ h => hQ2 _ _ _ _ _ h) ?_
                  rotate_left
                  · intro W hSW
                    simp only [List.getElem_toArray, List.getElem_cons_zero, List.getElem_cons_succ]
                    (try dsimp only at hSW)
                    go_simp
                    with_reducible rfl
                  (try simp only [List.getElem_toArray, List.getElem_cons_zero, List.getElem_cons_succ, Act.put, List.setIfInBounds_toArray, List.set_cons_zero, List.set_cons_succ])
                  refine wpAnyJ_take 18 (v := ?_) (by first | exact hF | exact wideFn) hHeld rfl (by kernel_rfl) (by kernel_rfl) (by kernel_rfl) (by kernel_rfl) rfl ?_ (by first | exact fun _ _ _ h => h | exact fun _ _ _ h => hQ2 _ _ _ _ _ h) ?_
                  rotate_left
                  · intro W hSW
                    simp only [List.getElem_toArray, List.getElem_cons_zero, List.getElem_cons_succ]
                    (try dsimp only at hSW)
                    go_simp
                    with_reducible rfl
                  (try simp only [List.getElem_toArray, List.getElem_cons_zero, List.getElem_cons_succ, Act.put, List.setIfInBounds_toArray, List.set_cons_zero, List.set_cons_succ])
                  refine wpAnyJ_take 19 (v := ?_) (by first | exact hF | exact wideFn) hHeld rfl (by kernel_rfl) (by kernel_rfl) (by kernel_rfl) (by kernel_rfl) rfl ?_ (by first | exact fun _ _ _ h => h | exact fun _ _ _ h => hQ2 _ _ _ _ _ h) ?_
                  rotate_left
                  · intro W hSW
                    simp only [List.getElem_toArray, List.getElem_cons_zero, List.getElem_cons_succ]
                    (try dsimp only at hSW)
                    go_simp
                    with_reducible rfl
                  (try simp only [List.getElem_toArray, List.getElem_cons_zero, List.getElem_cons_succ, Act.put, List.setIfInBounds_toArray, List.set_cons_zero, List.set_cons_succ])
                  refine wpAnyJ_take 20 (v := ?_) (by first | exact hF | exact wideFn) hHeld rfl (by kernel_rfl) (by kernel_rfl) (by kernel_rfl) (by kernel_rfl) rfl ?_ (by first | exact fun _ _ _ h => h | exact fun _ _ _ h => hQ2 _ _ _ _ _ h) ?_
                  rotate_left
                  · intro W hSW
                    simp only [List.getElem_toArray, List.getElem_cons_zero, List.getElem_cons_succ]
                    (try dsimp only at hSW)
                    go_simp
                    with_reducible rfl
                  (try simp only [List.getElem_toArray, List.getElem_cons_zero, List.getElem_cons_succ, Act.put, List.setIfInBounds_toArray, List.set_cons_zero, List.set_cons_succ])
                  refine wpAnyJ_take 21 (v := ?_) (by first | exact hF | exact wideFn) hHeld rfl (by kernel_rfl) (by kernel_rfl) (by kernel_rfl) (by kernel_rfl) rfl ?_ (by first | exact fun _ _ _ h => h | exact fun _ _ _ h => hQ2 _ _ _ _ _ h) ?_
                  rotate_left
                  · intro W hSW
                    simp only [List.getElem_toArray, List.getElem_cons_zero, List.getElem_cons_succ]
                    (try dsimp only at hSW)
                    go_simp
                    with_reducible rfl
                  (try simp only [List.getElem_toArray, List.getElem_cons_zero, List.getElem_cons_succ, Act.put, List.setIfInBounds_toArray, List.set_cons_zero, List.set_cons_succ])
                  refine wpAnyJ_take 22 (v := ?_) (by first | exact hF | exact wideFn) hHeld rfl (by kernel_rfl) (by kernel_rfl) (by kernel_rfl) (by kernel_rfl) rfl ?_ (by first | exact fun _ _ _ h => h | exact fun _ _ _ h => hQ2 _ _ _ _ _ h) ?_
                  rotate_left
                  · intro W hSW
                    simp only [List.getElem_toArray, List.getElem_cons_zero, List.getElem_cons_succ]
                    (try dsimp only at hSW)
                    go_simp
                    with_reducible rfl
                  (try simp only [List.getElem_toArray, List.getElem_cons_zero, List.getElem_cons_succ, Act.put, List.setIfInBounds_toArray, List.set_cons_zero, List.set_cons_succ])
                  refine wpAnyJ_take 23 (v := ?_) (by first | exact hF | exact wideFn) hHeld rfl (by kernel_rfl) (by kernel_rfl) (by kernel_rfl) (by kernel_rfl) rfl ?_ (by first | exact fun _ _ _ h => h | exact fun _ _ _ h => hQ2 _ _ _ _ _ h) ?_
                  rotate_left
                  · intro W hSW
                    simp only [List.getElem_toArray, List.getElem_cons_zero, List.getElem_cons_succ]
                    (try dsimp only at hSW)
                    go_simp
                    with_reducible rfl
                  (try simp only [List.getElem_toArray, List.getElem_cons_zero, List.getElem_cons_succ, Act.put, List.setIfInBounds_toArray, List.set_cons_zero, List.set_cons_succ])
                  refine wpAnyJ_take 24 (v := ?_) (by first | exact hF | exact wideFn) hHeld rfl (by kernel_rfl) (by kernel_rfl) (by kernel_rfl) (by kernel_rfl) rfl ?_ (by first | exact fun _ _ _ h => h | exact fun _ _ _ h => hQ2 _ _ _ _ _ h) ?_
                  rotate_left
                  · intro W hSW
                    simp only [List.getElem_toArray, List.getElem_cons_zero, List.getElem_cons_succ]
                    (try dsimp only at hSW)
                    go_simp
                    with_reducible rfl
                  (try simp only [List.getElem_toArray, List.getElem_cons_zero, List.getElem_cons_succ, Act.put, List.setIfInBounds_toArray, List.set_cons_zero, List.set_cons_succ])
                  refine wpAnyJ_take 25 (v := ?_) (by first | exact hF | exact wideFn) hHeld rfl (by kernel_rfl) (by kernel_rfl) (by kernel_rfl) (by kernel_rfl) rfl ?_ (by first | exact fun _ _ _ h => h | exact fun _ _ _ h => hQ2 _ _ _ _ _ h) ?_
                  rotate_left
                  · intro W hSW
                    simp only [List.getElem_toArray, List.getElem_cons_zero, List.getElem_cons_succ]
                    (try dsimp only at hSW)
                    go_simp
                    with_reducible rfl
                  (try simp only [List.getElem_toArray, List.getElem_cons_zero, List.getElem_cons_succ, Act.put, List.setIfInBounds_toArray, List.set_cons_zero, List.set_cons_succ])
                  refine wpAnyJ_take 26 (v := ?_) (by first | exact hF | exact wideFn) hHeld rfl (by kernel_rfl) (by kernel_rfl) (by kernel_rfl) (by kernel_rfl) rfl ?_ (by first | exact fun _ _ _ h => h | exact fun _ _ _ h => hQ2 _ _ _ _ _ h) ?_
                  rotate_left
                  · intro W hSW
                    simp only [List.getElem_toArray, List.getElem_cons_zero, List.getElem_cons_succ]
                    (try dsimp only at hSW)
                    go_simp
                    with_reducible rfl
                  (try simp only [List.getElem_toArray, List.getElem_cons_zero, List.getElem_cons_succ, Act.put, List.setIfInBounds_toArray, List.set_cons_zero, List.set_cons_succ])
                  refine wpAnyJ_take 27 (v := ?_) (by first | exact hF | exact wideFn) hHeld rfl (by kernel_rfl) (by kernel_rfl) (by kernel_rfl) (by kernel_rfl) rfl ?_ (by first | exact fun _ _ _ h => h | exact fun _ _ _ h => hQ2 _ _ _ _ _ h) ?_
                  rotate_left
                  · intro W hSW
                    simp only [List.getElem_toArray, List.getElem_cons_zero, List.getElem_cons_succ]
                    (try dsimp only at hSW)
                    go_simp
                    with_reducible rfl
                  (try simp only [List.getElem_toArray, List.getElem_cons_zero, List.getElem_cons_succ, Act.put, List.setIfInBounds_toArray, List.set_cons_zero, List.set_cons_succ])
                  refine wpAnyJ_take 28 (v := ?_) (by first | exact hF | exact wideFn) hHeld rfl (by kernel_rfl) (by kernel_rfl) (by kernel_rfl) (by kernel_rfl) rfl ?_ (by first | exact fun _ _ _ h => h | exact fun _ _ _ h => hQ2 _ _ _ _ _ h) ?_
                  rotate_left
                  · intro W hSW
                    simp only [List.getElem_toArray, List.getElem_cons_zero, List.getElem_cons_succ]
                    (try dsimp only at hSW)
                    go_simp
                    with_reducible rfl
                  (try simp only [List.getElem_toArray, List.getElem_cons_zero, List.getElem_cons_succ, Act.put, List.setIfInBounds_toArray, List.set_cons_zero, List.set_cons_succ])
                  refine wpAnyJ_take 29 (v := ?_) (by first | exact hF | exact wideFn) hHeld rfl (by kernel_rfl) (by kernel_rfl) (by kernel_rfl) (by kernel_rfl) rfl ?_ (by first | exact fun _ _ _ h => h | exact fun _ _ _ h => hQ2 _ _ _ _ _ h) ?_
                  rotate_left
                  · intro W hSW
                    simp only [List.getElem_toArray, List.getElem_cons_zero, List.getElem_cons_succ]
                    (try dsimp only at hSW)
                    go_simp
                    with_reducible rfl
                  (try simp only [List.getElem_toArray, List.getElem_cons_zero, List.getElem_cons_succ, Act.put, List.setIfInBounds_toArray, List.set_cons_zero, List.set_cons_succ])
                  refine wpAnyJ_take 30 (v := ?_) (by first | exact hF | exact wideFn) hHeld rfl (by kernel_rfl) (by kernel_rfl) (by kernel_rfl) (by kernel_rfl) rfl ?_ (by first | exact fun _ _ _ h => h | exact fun _ _ _ h => hQ2 _ _ _ _ _ h) ?_
                  rotate_left
                  · intro W hSW
                    simp only [List.getElem_toArray, List.getElem_cons_zero, List.getElem_cons_succ]
                    (try dsimp only at hSW)
                    go_simp
                    with_reducible rfl
                  (try simp only [List.getElem_toArray, List.getElem_cons_zero, List.getElem_cons_succ, Act.put, List.setIfInBounds_toArray, List.set_cons_zero, List.set_cons_succ])
                  refine wpAnyJ_take 31 (v := ?_) (by first | exact hF | exact wideFn) hHeld rfl (by kernel_rfl) (by kernel_rfl) (by kernel_rfl) (by kernel_rfl) rfl ?_ (by first | exact fun _ _ _ h => h | exact fun _ _ _ h => hQ2 _ _ _ _ _ h) ?_
                  rotate_left
                  · intro W hSW
                    simp only [List.getElem_toArray, List.getElem_cons_zero, List.getElem_cons_succ]
                    (try dsimp only at hSW)
                    go_simp
                    with_reducible rfl
                  (try simp only [List.getElem_toArray, List.getElem_cons_zero, List.getElem_cons_succ, Act.put, List.setIfInBounds_toArray, List.set_cons_zero, List.set_cons_succ])
                  refine wpAnyJ_take 32 (v := ?_) (by first | exact hF | exact wideFn) hHeld rfl (by kernel_rfl) (by kernel_rfl) (by kernel_rfl) (by kernel_rfl) rfl ?_ (by first | exact fun _ _ _ h => h | exact fun _ _ _ h => hQ2 _ _ _ _ _ h) ?_
                  rotate_left
                  · intro W hSW
                    simp only [List.getElem_toArray, List.getElem_cons_zero, List.getElem_cons_succ]
                    (try dsimp only at hSW)
                    go_simp
                    with_reducible rfl
                  (try simp only [List.getElem_toArray, List.getElem_cons_zero, List.getElem_cons_succ, Act.put, List.setIfInBounds_toArray, List.set_cons_zero, List.set_cons_succ])
                  refine wpAnyJ_take 33 (v := ?_) (by first | exact hF | exact wideFn) hHeld rfl (by kernel_rfl) (by kernel_rfl) (by kernel_rfl) (by kernel_rfl) rfl ?_ (by first | exact fun _ _ _ h => h | exact fun _ _ _ h => hQ2 _ _ _ _ _ h) ?_
                  rotate_left
                  · intro W hSW
                    simp only [List.getElem_toArray, List.getElem_cons_zero, List.getElem_cons_succ]
                    (try dsimp only at hSW)
                    go_simp
                    with_reducible rfl
                  (try simp only [List.getElem_toArray, List.getElem_cons_zero, List.getElem_cons_succ, Act.put, List.setIfInBounds_toArray, List.set_cons_zero, List.set_cons_succ])
                  refine wpAnyJ_take 34 (v := ?_) (by first | exact hF | exact wideFn) hHeld rfl (by kernel_rfl) (by kernel_rfl) (by kernel_rfl) (by kernel_rfl) rfl ?_ (by first | exact fun _ _ _ h => h | exact fun _ _ _ h => hQ2 _ _ _ _ _ h) ?_
                  rotate_left
                  · intro W hSW
                    simp only [List.getElem_toArray, List.getElem_cons_zero, List.getElem_cons_succ]
                    (try dsimp only at hSW)
                    go_simp
                    with_reducible rfl
                  (try simp only [List.getElem_toArray, List.getElem_cons_zero, List.getElem_cons_succ, Act.put, List.setIfInBounds_toArray, List.set_cons_zero, List.set_cons_succ])
                  refine wpAnyJ_take 35 (v := ?_) (by first | exact hF | exact wideFn) hHeld rfl (by kernel_rfl) (by kernel_rfl) (by kernel_rfl) (by kernel_rfl) rfl ?_ (by first | exact fun _ _ _ h => h | exact fun _ _ _ h => hQ2 _ _ _ _ _ h) ?_
                  rotate_left
                  · intro W hSW
                    simp only [List.getElem_toArray, List.getElem_cons_zero, List.getElem_cons_succ]
                    (try dsimp only at hSW)
                    go_simp
                    with_reducible rfl
                  (try simp only [List.getElem_toArray, List.getElem_cons_zero, List.getElem_cons_succ, Act.put, List.setIfInBounds_toArray, List.set_cons_zero, List.set_cons_succ])
                  refine wpAnyJ_take 36 (v := ?_) (by first | exact hF | exact wideFn) hHeld rfl (by kernel_rfl) (by kernel_rfl) (by kernel_rfl) (by kernel_rfl) rfl ?_ (by first | exact fun _ _ _ h => h | exact fun _ _ _ h => hQ2 _ _ _ _ _ h) ?_
                  rotate_left
                  · intro W hSW
                    simp only [List.getElem_toArray, List.getElem_cons_zero, List.getElem_cons_succ]
                    (try dsimp only at hSW)
                    go_simp
                    with_reducible rfl
                  (try simp only [List.getElem_toArray, List.getElem_cons_zero, List.getElem_cons_succ, Act.put, List.setIfInBounds_toArray, List.set_cons_zero, List.set_cons_succ])
                  refine wpAnyJ_take 37 (v := ?_) (by first | exact hF | exact wideFn) hHeld rfl (by kernel_rfl) (by kernel_rfl) (by kernel_rfl) (by kernel_rfl) rfl ?_ (by first | exact fun _ _ _ h => h | exact fun _ _ _ h => hQ2 _ _ _ _ _ h) ?_
                  rotate_left
                  · intro W hSW
                    simp only [List.getElem_toArray, List.getElem_cons_zero, List.getElem_cons_succ]
                    (try dsimp only at hSW)
                    go_simp
                    with_reducible rfl
                  (try simp only [List.getElem_toArray, List.getElem_cons_zero, List.getElem_cons_succ, Act.put, List.setIfInBounds_toArray, List.set_cons_zero, List.set_cons_succ])
                  refine wpAnyJ_take 38 (v := ?_) (by first | exact hF | exact wideFn) hHeld rfl (by kernel_rfl) (by kernel_rfl) (by kernel_rfl) (by kernel_rfl) rfl ?_ (by first | exact fun _ _ _ h => h | exact fun _ _ _ h => hQ2 _ _ _ _ _ h) ?_
                  rotate_left
                  · intro W hSW
                    simp only [List.getElem_toArray, List.getElem_cons_zero, List.getElem_cons_succ]
                    (try dsimp only at hSW)
                    go_simp
                    with_reducible rfl
                  (try simp only [List.getElem_toArray, List.getElem_cons_zero, List.getElem_cons_succ, Act.put, List.setIfInBounds_toArray, List.set_cons_zero, List.set_cons_succ])
                  refine wpAnyJ_take 39 (v := ?_) (by first | exact hF | exact wideFn) hHeld rfl (by kernel_rfl) (by kernel_rfl) (by kernel_rfl) (by kernel_rfl) rfl ?_ (by first | exact fun _ _ _ h => h | exact fun _ _ _ h => hQ2 _ _ _ _ _ h) ?_
                  rotate_left
                  · intro W hSW
                    simp only [List.getElem_toArray, List.getElem_cons_zero, List.getElem_cons_succ]
                    (try dsimp only at hSW)
                    go_simp
                    with_reducible rfl
                  (try simp only [List.getElem_toArray, List.getElem_cons_zero, List.getElem_cons_succ, Act.put, List.setIfInBounds_toArray, List.set_cons_zero, List.set_cons_succ])
                  refine wpAnyJ_take 40 (v := ?_) (by first | exact hF | exact wideFn) hHeld rfl (by kernel_rfl) (by kernel_rfl) (by kernel_rfl) (by kernel_rfl) rfl ?_ (by first | exact fun _ _ _ h => h | exact fun _ _ _ h => hQ2 _ _ _ _ _ h) ?_
                  rotate_left
                  · intro W hSW
                    simp only [List.getElem_toArray, List.getElem_cons_zero, List.getElem_cons_succ]
                    (try dsimp only at hSW)
                    go_simp
                    with_reducible rfl
                  (try simp only [List.getElem_toArray, List.getElem_cons_zero, List.getElem_cons_succ, Act.put, List.setIfInBounds_toArray, List.set_cons_zero, List.set_cons_succ])
                  refine wpAnyJ_take 41 (v := ?_) (by first | exact hF | exact wideFn) hHeld rfl (by kernel_rfl) (by kernel_rfl) (by kernel_rfl) (by kernel_rfl) rfl ?_ (by first | exact fun _ _ _ h => h | exact fun _ _ _ h => hQ2 _ _ _ _ _ h) ?_
                  rotate_left
                  · intro W hSW
                    simp only [List.getElem_toArray, List.getElem_cons_zero, List.getElem_cons_succ]
                    (try dsimp only at hSW)
                    go_simp
                    with_reducible rfl
                  (try simp only [List.getElem_toArray, List.getElem_cons_zero, List.getElem_cons_succ, Act.put, List.setIfInBounds_toArray, List.set_cons_zero, List.set_cons_succ])
                  refine wpAnyJ_take 42 (v := ?_) (by first | exact hF | exact wideFn) hHeld rfl (by kernel_rfl) (by kernel_rfl) (by kernel_rfl) (by kernel_rfl) rfl ?_ (by first | exact fun _ _ _ h => h | exact fun _ _ _ h => hQ2 _ _ _ _ _ h) ?_
                  rotate_left
                  · intro W hSW
                    simp only [List.getElem_toArray, List.getElem_cons_zero, List.getElem_cons_succ]
                    (try dsimp only at hSW)
                    go_simp
                    with_reducible rfl
                  (try simp only [List.getElem_toArray, List.getElem_cons_zero, List.getElem_cons_succ, Act.put, List.setIfInBounds_toArray, List.set_cons_zero, List.set_cons_succ])
                  refine wpAnyJ_take 43 (v := ?_) (by first | exact hF | exact wideFn) hHeld rfl (by kernel_rfl) (by kernel_rfl) (by kernel_rfl) (by kernel_rfl) rfl ?_ (by first | exact fun _ _ _ h => h | exact fun _ _ _ h => hQ2 _ _ _ _ _ h) ?_
                  rotate_left
                  · intro W hSW
                    simp only [List.getElem_toArray, List.getElem_cons_zero, List.getElem_cons_succ]
                    (try dsimp only at hSW)
                    go_simp
                    with_reducible rfl
                  (try simp only [List.getElem_toArray, List.getElem_cons_zero, List.getElem_cons_succ, Act.put, List.setIfInBounds_toArray, List.set_cons_zero, List.set_cons_succ])
                  refine wpAnyJ_take 44 (v := ?_) (by first | exact hF | exact wideFn) hHeld rfl (by kernel_rfl) (by kernel_rfl) (by kernel_rfl) (by kernel_rfl) rfl ?_ (by first | exact fun _ _ _ h => h | exact fun _ _ _ h => hQ2 _ _ _ _ _ h) ?_
                  rotate_left
                  · intro W hSW
                    simp only [List.getElem_toArray, List.getElem_cons_zero, List.getElem_cons_succ]
                    (try dsimp only at hSW)
                    go_simp
                    with_reducible rfl
                  (try simp only [List.getElem_toArray, List.getElem_cons_zero, List.getElem_cons_succ, Act.put, List.setIfInBounds_toArray, List.set_cons_zero, List.set_cons_succ])
                  refine wpAnyJ_take 45 (v := ?_) (by first | exact hF | exact wideFn) hHeld rfl (by kernel_rfl) (by kernel_rfl) (by kernel_rfl) (by kernel_rfl) rfl ?_ (by first | exact fun _ _ _ h => h | exact fun _ _ _ h => hQ2 _ _ _ _ _ h) ?_
                  rotate_left
                  · intro W hSW
                    simp only [List.getElem_toArray, List.getElem_cons_zero, List.getElem_cons_succ]
                    (try dsimp only at hSW)
                    go_simp
                    with_reducible rfl
                  (try simp only [List.getElem_toArray, List.getElem_cons_zero, List.getElem_cons_succ, Act.put, List.setIfInBounds_toArray, List.set_cons_zero, List.set_cons_succ])
                  refine wpAnyJ_take 46 (v := ?_) (by first | exact hF | exact wideFn) hHeld rfl (by kernel_rfl) (by kernel_rfl) (by kernel_rfl) (by kernel_rfl) rfl ?_ (by first | exact fun _ _ _ h => h | exact fun _ _ _ h => hQ2 _ _ _ _ _ h) ?_
                  rotate_left
                  · intro W hSW
                    simp only [List.getElem_toArray, List.getElem_cons_zero, List.getElem_cons_succ]
                    (try dsimp only at hSW)
                    go_simp
                    with_reducible rfl
                  (try simp only [List.getElem_toArray, List.getElem_cons_zero, List.getElem_cons_succ, Act.put, List.setIfInBounds_toArray, List.set_cons_zero, List.set_cons_succ])
                  refine wpAnyJ_take 47 (v := ?_) (by first | exact hF | exact wideFn) hHeld rfl (by kernel_rfl) (by kernel_rfl) (by kernel_rfl) (by kernel_rfl) rfl ?_ (by first | exact fun _ _ _ h => h | exact fun _ _ _ h => hQ2 _ _ _ _ _ h) ?_
                  rotate_left
                  · intro W hSW
                    simp only [List.getElem_toArray, List.getElem_cons_zero, List.getElem_cons_succ]
                    (try dsimp only at hSW)
                    go_simp
                    with_reducible rfl
                  (try simp only [List.getElem_toArray, List.getElem_cons_zero, List.getElem_cons_succ, Act.put, List.setIfInBounds_toArray, List.set_cons_zero, List.set_cons_succ])
                  refine wpAnyJ_take 48 (v := ?_) (by first | exact hF | exact wideFn) hHeld rfl (by kernel_rfl) (by kernel_rfl) (by kernel_rfl) (by kernel_rfl) rfl ?_ (by first | exact fun _ _ _ h => h | exact fun _ _ _ h => hQ2 _ _ _ _ _ h) ?_
                  rotate_left
                  · intro W hSW
                    simp only [List.getElem_toArray, List.getElem_cons_zero, List.getElem_cons_succ]
                    (try dsimp only at hSW)
                    go_simp
                    with_reducible rfl
                  (try simp only [List.getElem_toArray, List.getElem_cons_zero, List.getElem_cons_succ, Act.put, List.setIfInBounds_toArray, List.set_cons_zero, List.set_cons_succ])
                  refine wpAnyJ_take 49 (v := ?_) (by first | exact hF | exact wideFn) hHeld rfl (by kernel_rfl) (by kernel_rfl) (by kernel_rfl) (by kernel_rfl) rfl ?_ (by first | exact fun _ _ _ h => h | exact fun _ _ _ h => hQ2 _ _ _ _ _ h) ?_
                  rotate_left
                  · intro W hSW
                    simp only [List.getElem_toArray, List.getElem_cons_zero, List.getElem_cons_succ]
                    (try dsimp only at hSW)
                    go_simp
                    with_reducible rfl
                  (try simp only [List.getElem_toArray, List.getElem_cons_zero, List.getElem_cons_succ, Act.put, List.setIfInBounds_toArray, List.set_cons_zero, List.set_cons_succ])
                  refine wpAnyJ_take 50 (v := ?_) (by first | exact hF | exact wideFn) hHeld rfl (by kernel_rfl) (by kernel_rfl) (by kernel_rfl) (by kernel_rfl) rfl ?_ (by first | exact fun _ _ _ h => h | exact fun _ _ _ h => hQ2 _ _ _ _ _ h) ?_
                  rotate_left
                  · intro W hSW
                    simp only [List.getElem_toArray, List.getElem_cons_zero, List.getElem_cons_succ]
                    (try dsimp only at hSW)
                    go_simp
                    with_reducible rfl
                  (try simp only [List.getElem_toArray, List.getElem_cons_zero, List.getElem_cons_succ, Act.put, List.setIfInBounds_toArray, List.set_cons_zero, List.set_cons_succ])
                  refine wpAnyJ_take 51 (v := ?_) (by first | exact hF | exact wideFn) hHeld rfl (by kernel_rfl) (by kernel_rfl) (by kernel_rfl) (by kernel_rfl) rfl ?_ (by first | exact fun _ _ _ h => h | exact fun _ _ _ h => hQ2 _ _ _ _ _ h) ?_
                  rotate_left
                  · intro W hSW
                    simp only [List.getElem_toArray, List.getElem_cons_zero, List.getElem_cons_succ]
                    (try dsimp only at hSW)
                    go_simp
                    with_reducible rfl
                  (try simp only [List.getElem_toArray, List.getElem_cons_zero, List.getElem_cons_succ, Act.put, List.setIfInBounds_toArray, List.set_cons_zero, List.set_cons_succ])
                  refine wpAnyJ_take 52 (v := ?_) (by first | exact hF | exact wideFn) hHeld rfl (by kernel_rfl) (by kernel_rfl) (by kernel_rfl) (by kernel_rfl) rfl ?_ (by first | exact fun _ _ _ h => h | exact fun _ _ _ h => hQ2 _ _ _ _ _ h) ?_
                  rotate_left
                  · intro W hSW
                    simp only [List.getElem_toArray, List.getElem_cons_zero, List.getElem_cons_succ]
                    (try dsimp only at hSW)
                    go_simp
                    with_reducible rfl
                  (try simp only [List.getElem_toArray, List.getElem_cons_zero, List.getElem_cons_succ, Act.put, List.setIfInBounds_toArray, List.set_cons_zero, List.set_cons_succ])
                  refine wpAnyJ_take 53 (v := ?_) (by first | exact hF | exact wideFn) hHeld rfl (by kernel_rfl) (by kernel_rfl) (by kernel_rfl) (by kernel_rfl) rfl ?_ (by first | exact fun _ _ _ h => h | exact fun _ _ _ h => hQ2 _ _ _ _ _ h) ?_
                  rotate_left
                  · intro W hSW
                    simp only [List.getElem_toArray, List.getElem_cons_zero, List.getElem_cons_succ]
                    (try dsimp only at hSW)
                    go_simp
                    with_reducible rfl
                  (try simp only [List.getElem_toArray, List.getElem_cons_zero, List.getElem_cons_succ, Act.put, List.setIfInBounds_toArray, List.set_cons_zero, List.set_cons_succ])
                  refine wpAnyJ_take 54 (v := ?_) (by first | exact hF | exact wideFn) hHeld rfl (by kernel_rfl) (by kernel_rfl) (by kernel_rfl) (by kernel_rfl) rfl ?_ (by first | exact fun _ _ _ h => h | exact fun _ _ _ h => hQ2 _ _ _ _ _ h) ?_
                  rotate_left
                  · intro W hSW
                    simp only [List.getElem_toArray, List.getElem_cons_zero, List.getElem_cons_succ]
                    (try dsimp only at hSW)
                    go_simp
                    with_reducible rfl
                  (try simp only [List.getElem_toArray, List.getElem_cons_zero, List.getElem_cons_succ, Act.put, List.setIfInBounds_toArray, List.set_cons_zero, List.set_cons_succ])
                  refine wpAnyJ_take 55 (v := ?_) (by first | exact hF | exact wideFn) hHeld rfl (by kernel_rfl) (by kernel_rfl) (by kernel_rfl) (by kernel_rfl) rfl ?_ (by first | exact fun _ _ _ h => h | exact fun _ _ _ h => hQ2 _ _ _ _ _ h) ?_
                  rotate_left
                  · intro W hSW
                    simp only [List.getElem_toArray, List.getElem_cons_zero, List.getElem_cons_succ]
                    (try dsimp only at hSW)
                    go_simp
                    with_reducible rfl
                  (try simp only [List.getElem_toArray, List.getElem_cons_zero, List.getElem_cons_succ, Act.put, List.setIfInBounds_toArray, List.set_cons_zero, List.set_cons_succ])
                  refine wpAnyJ_take 56 (v := ?_) (by first | exact hF | exact wideFn) hHeld rfl (by kernel_rfl) (by kernel_rfl) (by kernel_rfl) (by kernel_rfl) rfl ?_ (by first | exact fun _ _ _ h => h | exact fun _ _ _ h => hQ2 _ _ _ _ _ h) ?_
                  rotate_left
                  · intro W hSW
                    simp only [List.getElem_toArray, List.getElem_cons_zero, List.getElem_cons_succ]
                    (try dsimp only at hSW)
                    go_simp
                    with_reducible rfl
                  (try simp only [List.getElem_toArray, List.getElem_cons_zero, List.getElem_cons_succ, Act.put, List.setIfInBounds_toArray, List.set_cons_zero, List.set_cons_succ])
                  refine wpAnyJ_take 57 (v := ?_) (by first | exact hF | exact wideFn) hHeld rfl (by kernel_rfl) (by kernel_rfl) (by kernel_rfl) (by kernel_rfl) rfl ?_ (by first | exact fun _ _ _ h => h | exact fun _ _ _ h => hQ2 _ _ _ _ _ h) ?_
                  rotate_left
                  · intro W hSW
                    simp only [List.getElem_toArray, List.getElem_cons_zero, List.getElem_cons_succ]
                    (try dsimp only at hSW)
                    go_simp
                    with_reducible rfl
                  (try simp only [List.getElem_toArray, List.getElem_cons_zero, List.getElem_cons_succ, Act.put, List.setIfInBounds_toArray, List.set_cons_zero, List.set_cons_succ])
                  refine wpAnyJ_take 58 (v := ?_) (by first | exact hF | exact wideFn) hHeld rfl (by kernel_rfl) (by kernel_rfl) (by kernel_rfl) (by kernel_rfl) rfl ?_ (by first | exact fun _ _ _ h => h | exact fun _ _ _ h => hQ2 _ _ _ _ _ h) ?_
                  rotate_left
                  · intro W hSW
                    simp only [List.getElem_toArray, List.getElem_cons_zero, List.getElem_cons_succ]
                    (try dsimp only at hSW)
                    go_simp
                    with_reducible rfl
                  (try simp only [List.getElem_toArray, List.getElem_cons_zero, List.getElem_cons_succ, Act.put, List.setIfInBounds_toArray, List.set_cons_zero, List.set_cons_succ])
                  refine wpAnyJ_take 59 (v := ?_) (by first | exact hF | exact wideFn) hHeld rfl (by kernel_rfl) (by kernel_rfl) (by kernel_rfl) (by kernel_rfl) rfl ?_ (by first | exact fun _ _ _ h => h | exact fun _ _ _ h => hQ2 _ _ _ _ _ h) ?_
                  rotate_left
                  · intro W hSW
                    simp only [List.getElem_toArray, List.getElem_cons_zero, List.getElem_cons_succ]
                    (try dsimp only at hSW)
                    go_simp
                    with_reducible rfl
                  (try simp only [List.getElem_toArray, List.getElem_cons_zero, List.getElem_cons_succ, Act.put, List.setIfInBounds_toArray, List.set_cons_zero, List.set_cons_succ])
                  refine wpAnyJ_take 60 (v := ?_) (by first | exact hF | exact wideFn) hHeld rfl (by kernel_rfl) (by kernel_rfl) (by kernel_rfl) (by kernel_rfl) rfl ?_ (by first | exact fun _ _ _ h => h | exact fun _ _ _ h => hQ2 _ _ _ _ _ h) ?_
                  rotate_left
                  · intro W hSW
                    simp only [List.getElem_toArray, List.getElem_cons_zero, List.getElem_cons_succ]
                    (try dsimp only at hSW)
                    go_simp
                    with_reducible rfl
                  (try simp only [List.getElem_toArray, List.getElem_cons_zero, List.getElem_cons_succ, Act.put, List.setIfInBounds_toArray, List.set_cons_zero, List.set_cons_succ])
                  refine wpAnyJ_take 61 (v := ?_) (by first | exact hF | exact wideFn) hHeld rfl (by kernel_rfl) (by kernel_rfl) (by kernel_rfl) (by kernel_rfl) rfl ?_ (by first | exact fun _ _ _ h => h | exact fun _ _ _ h => hQ2 _ _ _ _ _ h) ?_
                  rotate_left
                  · intro W hSW
                    simp only [List.getElem_toArray, List.getElem_cons_zero, List.getElem_cons_succ]
                    (try dsimp only at hSW)
                    go_simp
                    with_reducible rfl
                  (try simp only [List.getElem_toArray, List.getElem_cons_zero, List.getElem_cons_succ, Act.put, List.setIfInBounds_toArray, List.set_cons_zero, List.set_cons_succ])
                  refine wpAnyJ_skip 62 (by first | exact hF | exact wideFn) hHeld rfl (by kernel_rfl) (by kernel_rfl) (by kernel_rfl) (by kernel_rfl) rfl (by first | exact fun _ _ _ h => h | exact fun _ _ _ h => hQ2 _ _ _ _ _ h) ?_
                  (try simp only [List.getElem_toArray, List.getElem_cons_zero, List.getElem_cons_succ, Act.put, List.setIfInBounds_toArray, List.set_cons_zero, List.set_cons_succ])
                  refine wpAnyJ_skip 63 (by first | exact hF | exact wideFn) hHeld rfl (by kernel_rfl) (by kernel_rfl) (by kernel_rfl) (by kernel_rfl) rfl (by first | exact fun _ _ _ h => h | exact fun _ _ _ h => hQ2 _ _ _ _ _ h) ?_
                  (try simp only [List.getElem_toArray, List.getElem_cons_zero, List.getElem_cons_succ, Act.put, List.setIfInBounds_toArray, List.set_cons_zero, List.set_cons_succ])
                  refine wpAnyJ_take 64 (v := ?_) (by first | exact hF | exact wideFn) hHeld rfl (by kernel_rfl) (by kernel_rfl) (by kernel_rfl) (by kernel_rfl) rfl ?_ (by first | exact fun _ _ _ h => h | exact fun _ _ _ h => hQ2 _ _ _ _ _ h) ?_
                  rotate_left
                  · intro W hSW
                    simp only [List.getElem_toArray, List.getElem_cons_zero, List.getElem_cons_succ]
                    (try dsimp only at hSW)
                    go_simp
                    with_reducible rfl
                  (try simp only [List.getElem_toArray, List.getElem_cons_zero, List.getElem_cons_succ, Act.put, List.setIfInBounds_toArray, List.set_cons_zero, List.set_cons_succ])
                  refine wpAnyJ_take 65 (v := ?_) (by first | exact hF | exact wideFn) hHeld rfl (by kernel_rfl) (by kernel_rfl) (by kernel_rfl) (by kernel_rfl) rfl ?_ (by first | exact fun _ _ _ h => h | exact fun _ _ _ h => hQ2 _ _ _ _ _ h) ?_
                  rotate_left
                  · intro W hSW
                    simp only [List.getElem_toArray, List.getElem_cons_zero, List.getElem_cons_succ]
                    (try dsimp only at hSW)
                    go_simp
                    with_reducible rfl
                  (try simp only [List.getElem_toArray, List.getElem_cons_zero, List.getElem_cons_succ, Act.put, List.setIfInBounds_toArray, List.set_cons_zero, List.set_cons_succ])
                  refine wpAnyJ_done (by kernel_rfl) ?_
                  go_wp2_with fail
                  go_meet
                  exact ⟨rfl, rfl⟩
            case rest =>
             as_aux_lemma =>
              obtain ⟨rfl, rfl⟩ := hcut
              have HCm := hide (HCl.out.ext (Below.refl _ _).drew)
              have HYm := hide HYl.out.drew
              have HBm := hide HBX.out.drew
              have HQm : Hid (w10.drew.cell? ⟨p + 3, j * 7, none⟩ = some (.int .i64 (ws j).wet) ∧ w10.drew.cell? ⟨p + 3, j * 7 + 1, none⟩ = some (.int .i64 (ws j).dry) ∧ w10.drew.cell? ⟨p + 3, j * 7 + 2, none⟩ = some (.int .i64 (ws j).burning) ∧ w10.drew.cell? ⟨p + 3, j * 7 + 3, none⟩ = some (.int .i64 (ws j).fired) ∧ w10.drew.cell? ⟨p + 3, j * 7 + 4, none⟩ = some (.int .i64 (ws j).laid) ∧ w10.drew.cell? ⟨p + 3, j * 7 + 5, none⟩ = some (.int .i64 (ws j).broken) ∧ w10.drew.cell? ⟨p + 3, j * 7 + 6, none⟩ = some (.int .i64 (ws j).missing)) := HQ
              clear c0 c1 c2 c3 c4 c5 c6 d5 d7 HCl HYl HBX HQ z5 z7 z8 z9
              generalize w10.drew = w11 at HCm HYm HBm HQm ⊢
              go_upto_region 52 with fail
              go_cut [292] (fun v w' => v = .bool false ∧ w' = w11.drew)
              case first =>
                as_aux_lemma =>
                  obtain ⟨z9, c0, c1, c2, c3, c4, c5, c6⟩ := bx7 HBm.out
                  obtain ⟨z8, y0, y1, y2, y3⟩ := bx4 HYm.out
                  have z10 := HCm.out.be.lt
                  refine wp_region_J (fun W : World => (W.cell? ⟨g, 0, none⟩ = some (.int .i64 x.wet) ∧ W.cell? ⟨g, 1, none⟩ = some (.int .i64 x.dry) ∧ W.cell? ⟨g, 2, none⟩ = some (.int .i64 x.burning) ∧ W.cell? ⟨g, 3, none⟩ = some (.int .i64 x.fired) ∧ W.cell? ⟨g, 4, none⟩ = some (.int .i64 x.laid) ∧ W.cell? ⟨g, 5, none⟩ = some (.int .i64 x.broken) ∧ W.cell? ⟨g, 6, none⟩ = some (.int .i64 x.missing)) ∧ (W.cell? ⟨p + 3, j * 7, none⟩ = some (.int .i64 (ws j).wet) ∧ W.cell? ⟨p + 3, j * 7 + 1, none⟩ = some (.int .i64 (ws j).dry) ∧ W.cell? ⟨p + 3, j * 7 + 2, none⟩ = some (.int .i64 (ws j).burning) ∧ W.cell? ⟨p + 3, j * 7 + 3, none⟩ = some (.int .i64 (ws j).fired) ∧ W.cell? ⟨p + 3, j * 7 + 4, none⟩ = some (.int .i64 (ws j).laid) ∧ W.cell? ⟨p + 3, j * 7 + 5, none⟩ = some (.int .i64 (ws j).broken) ∧ W.cell? ⟨p + 3, j * 7 + 6, none⟩ = some (.int .i64 (ws j).missing)) ∧ W.cell? ⟨yb, 0, none⟩ = some (.int .u8 x0)) (by kernel_rfl) ?_
                  have hHeld : (w11.drew.cell? ⟨g, 0, none⟩ = some (.int .i64 x.wet) ∧ w11.drew.cell? ⟨g, 1, none⟩ = some (.int .i64 x.dry) ∧ w11.drew.cell? ⟨g, 2, none⟩ = some (.int .i64 x.burning) ∧ w11.drew.cell? ⟨g, 3, none⟩ = some (.int .i64 x.fired) ∧ w11.drew.cell? ⟨g, 4, none⟩ = some (.int .i64 x.laid) ∧ w11.drew.cell? ⟨g, 5, none⟩ = some (.int .i64 x.broken) ∧ w11.drew.cell? ⟨g, 6, none⟩ = some (.int .i64 x.missing)) ∧ (w11.drew.cell? ⟨p + 3, j * 7, none⟩ = some (.int .i64 (ws j).wet) ∧ w11.drew.cell? ⟨p + 3, j * 7 + 1, none⟩ = some (.int .i64 (ws j).dry) ∧ w11.drew.cell? ⟨p + 3, j * 7 + 2, none⟩ = some (.int .i64 (ws j).burning) ∧ w11.drew.cell? ⟨p + 3, j * 7 + 3, none⟩ = some (.int .i64 (ws j).fired) ∧ w11.drew.cell? ⟨p + 3, j * 7 + 4, none⟩ = some (.int .i64 (ws j).laid) ∧ w11.drew.cell? ⟨p + 3, j * 7 + 5, none⟩ = some (.int .i64 (ws j).broken) ∧ w11.drew.cell? ⟨p + 3, j * 7 + 6, none⟩ = some (.int .i64 (ws j).missing)) ∧ w11.drew.cell? ⟨yb, 0, none⟩ = some (.int .u8 x0) := ⟨⟨c0, c1, c2, c3, c4, c5, c6⟩, HQm.out, y0⟩
                  clear c0 c1 c2 c3 c4 c5 c6 y0 y1 y2 y3 HCm HYm HBm HQm
                  by_cases hE : E = 0
                  · subst hE
                    refine wpAnyJ_take 0 (v := ?_) (by first | exact hF | exact wideFn) hHeld rfl (by kernel_rfl) (by kernel_rfl) (by kernel_rfl) (by kernel_rfl) rfl ?_ (by first | exact fun _ _ _ h => h | exact fun _ _ _ h => hQ2 _ _ _ _ _ h) ?_
                    rotate_left
                    · intro W hSW
                      simp only [List.getElem_toArray, List.getElem_cons_zero, List.getElem_cons_succ]
                      (try dsimp only at hSW)
                      go_simp
                      with_reducible rfl
                    (try simp only [List.getElem_toArray, List.getElem_cons_zero, List.getElem_cons_succ, Act.put, List.setIfInBounds_toArray, List.set_cons_zero, List.set_cons_succ])
                    refine wpAnyJ_take 1 (v := ?_) (by first | exact hF | exact wideFn) hHeld rfl (by kernel_rfl) (by kernel_rfl) (by kernel_rfl) (by kernel_rfl) rfl ?_ (by first | exact fun _ _ _ h => h | exact fun _ _ _ h => hQ2 _ _ _ _ _ h) ?_
                    rotate_left
                    · intro W hSW
                      simp only [List.getElem_toArray, List.getElem_cons_zero, List.getElem_cons_succ]
                      (try dsimp only at hSW)
                      go_simp
                      with_reducible rfl
                    (try simp only [List.getElem_toArray, List.getElem_cons_zero, List.getElem_cons_succ, Act.put, List.setIfInBounds_toArray, List.set_cons_zero, List.set_cons_succ])
                    refine wpAnyJ_take 2 (v := ?_) (by first | exact hF | exact wideFn) hHeld rfl (by kernel_rfl) (by kernel_rfl) (by kernel_rfl) (by kernel_rfl) rfl ?_ (by first | exact fun _ _ _ h => h | exact fun _ _ _ h => hQ2 _ _ _ _ _ h) ?_
                    rotate_left
                    · intro W hSW
                      simp only [List.getElem_toArray, List.getElem_cons_zero, List.getElem_cons_succ]
                      (try dsimp only at hSW)
                      go_simp
                      with_reducible rfl
                    (try simp only [List.getElem_toArray, List.getElem_cons_zero, List.getElem_cons_succ, Act.put, List.setIfInBounds_toArray, List.set_cons_zero, List.set_cons_succ])
                    refine wpAnyJ_skip 3 (by first | exact hF | exact wideFn) hHeld rfl (by kernel_rfl) (by kernel_rfl) (by kernel_rfl) (by kernel_rfl) rfl (by first | exact fun _ _ _ h => h | exact fun _ _ _ h => hQ2 _ _ _ _ _ h) ?_
                    (try simp only [List.getElem_toArray, List.getElem_cons_zero, List.getElem_cons_succ, Act.put, List.setIfInBounds_toArray, List.set_cons_zero, List.set_cons_succ])
                    refine wpAnyJ_skip 4 (by first | exact hF | exact wideFn) hHeld rfl (by kernel_rfl) (by kernel_rfl) (by kernel_rfl) (by kernel_rfl) rfl (by first | exact fun _ _ _ h => h | exact fun _ _ _ h => hQ2 _ _ _ _ _ h) ?_
                    (try simp only [List.getElem_toArray, List.getElem_cons_zero, List.getElem_cons_succ, Act.put, List.setIfInBounds_toArray, List.set_cons_zero, List.set_cons_succ])
                    refine wpAnyJ_skip 5 (by first | exact hF | exact wideFn) hHeld rfl (by kernel_rfl) (by kernel_rfl) (by kernel_rfl) (by kernel_rfl) rfl (by first | exact fun _ _ _ h => h | exact fun _ _ _ h => hQ2 _ _ _ _ _ h) ?_
                    (try simp only [List.getElem_toArray, List.getElem_cons_zero, List.getElem_cons_succ, Act.put, List.setIfInBounds_toArray, List.set_cons_zero, List.set_cons_succ])
                    refine wpAnyJ_skip 6 (by first | exact hF | exact wideFn) hHeld rfl (by kernel_rfl) (by kernel_rfl) (by kernel_rfl) (by kernel_rfl) rfl (by first | exact fun _ _ _ h => h | exact fun _ _ _ h => hQ2 _ _ _ _ _ h) ?_
                    (try simp only [List.getElem_toArray, List.getElem_cons_zero, List.getElem_cons_succ, Act.put, List.setIfInBounds_toArray, List.set_cons_zero, List.set_cons_succ])
                    refine wpAnyJ_skip 7 (by first | exact hF | exact wideFn) hHeld rfl (by kernel_rfl) (by kernel_rfl) (by kernel_rfl) (by kernel_rfl) rfl (by first | exact fun _ _ _ h => h | exact fun _ _ _ h => hQ2 _ _ _ _ _ h) ?_
                    (try simp only [List.getElem_toArray, List.getElem_cons_zero, List.getElem_cons_succ, Act.put, List.setIfInBounds_toArray, List.set_cons_zero, List.set_cons_succ])
                    refine wpAnyJ_take 8 (v := ?_) (by first | exact hF | exact wideFn) hHeld rfl (by kernel_rfl) (by kernel_rfl) (by kernel_rfl) (by kernel_rfl) rfl ?_ (by first | exact fun _ _ _ h => h | exact fun _ _ _ h => hQ2 _ _ _ _ _ h) ?_
                    rotate_left
                    · intro W hSW
                      simp only [List.getElem_toArray, List.getElem_cons_zero, List.getElem_cons_succ]
                      (try dsimp only at hSW)
                      go_simp
                      with_reducible rfl
                    (try simp only [List.getElem_toArray, List.getElem_cons_zero, List.getElem_cons_succ, Act.put, List.setIfInBounds_toArray, List.set_cons_zero, List.set_cons_succ])
                    refine wpAnyJ_take 9 (v := ?_) (by first | exact hF | exact wideFn) hHeld rfl (by kernel_rfl) (by kernel_rfl) (by kernel_rfl) (by kernel_rfl) rfl ?_ (by first | exact fun _ _ _ h => h | exact fun _ _ _ h => hQ2 _ _ _ _ _ h) ?_
                    rotate_left
                    · intro W hSW
                      simp only [List.getElem_toArray, List.getElem_cons_zero, List.getElem_cons_succ]
                      (try dsimp only at hSW)
                      go_simp
                      with_reducible rfl
                    (try simp only [List.getElem_toArray, List.getElem_cons_zero, List.getElem_cons_succ, Act.put, List.setIfInBounds_toArray, List.set_cons_zero, List.set_cons_succ])
                    by_cases hjk : j = K
                    · as_aux_lemma =>
                      have hj1 : ((j : Int) != (K : Int)) = false := by simp [hjk]
                      refine wpAnyJ_take 10 (v := ?_) (by first | exact hF | exact wideFn) hHeld rfl (by kernel_rfl) (by kernel_rfl) (by kernel_rfl) (by kernel_rfl) rfl ?_ (by first | exact fun _ _ _ h => h | exact fun _ _ _ h => hQ2 _ _ _ _ _ h) ?_
                      rotate_left
                      · intro W hSW
                        simp only [List.getElem_toArray, List.getElem_cons_zero, List.getElem_cons_succ]
                        (try dsimp only at hSW)
                        go_simp
                        with_reducible rfl
                      (try simp only [List.getElem_toArray, List.getElem_cons_zero, List.getElem_cons_succ, Act.put, List.setIfInBounds_toArray, List.set_cons_zero, List.set_cons_succ])
                      refine wpAnyJ_take 11 (v := ?_) (by first | exact hF | exact wideFn) hHeld rfl (by kernel_rfl) (by kernel_rfl) (by kernel_rfl) (by kernel_rfl) rfl ?_ (by first | exact fun _ _ _ h => h | exact fun _ _ _ h => hQ2 _ _ _ _ _ h) ?_
                      rotate_left
                      · intro W hSW
                        simp only [List.getElem_toArray, List.getElem_cons_zero, List.getElem_cons_succ]
                        (try dsimp only at hSW)
                        go_simp
                        with_reducible rfl
                      (try simp only [List.getElem_toArray, List.getElem_cons_zero, List.getElem_cons_succ, Act.put, List.setIfInBounds_toArray, List.set_cons_zero, List.set_cons_succ])
                      refine wpAnyJ_take 12 (v := ?_) (by first | exact hF | exact wideFn) hHeld rfl (by kernel_rfl) (by kernel_rfl) (by kernel_rfl) (by kernel_rfl) rfl ?_ (by first | exact fun _ _ _ h => h | exact fun _ _ _ h => hQ2 _ _ _ _ _ h) ?_
                      rotate_left
                      · intro W hSW
                        simp only [List.getElem_toArray, List.getElem_cons_zero, List.getElem_cons_succ]
                        (try dsimp only at hSW)
                        go_simp
                        with_reducible rfl
                      (try simp only [List.getElem_toArray, List.getElem_cons_zero, List.getElem_cons_succ, Act.put, List.setIfInBounds_toArray, List.set_cons_zero, List.set_cons_succ])
                      refine wpAnyJ_take 13 (v := ?_) (by first | exact hF | exact wideFn) hHeld rfl (by kernel_rfl) (by kernel_rfl) (by kernel_rfl) (by kernel_rfl) rfl ?_ (by first | exact fun _ _ _ h => h | exact fun _ _ _ h => hQ2 _ _ _ _ _ h) ?_
                      rotate_left
                      · intro W hSW
                        simp only [List.getElem_toArray, List.getElem_cons_zero, List.getElem_cons_succ]
                        (try dsimp only at hSW)
                        go_simp
                        with_reducible rfl
                      (try simp only [List.getElem_toArray, List.getElem_cons_zero, List.getElem_cons_succ, Act.put, List.setIfInBounds_toArray, List.set_cons_zero, List.set_cons_succ])
                      refine wpAnyJ_skip 14 (by first | exact hF | exact wideFn) hHeld rfl (by kernel_rfl) (by kernel_rfl) (by kernel_rfl) (by kernel_rfl) rfl (by first | exact fun _ _ _ h => h | exact fun _ _ _ h => hQ2 _ _ _ _ _ h) ?_
                      (try simp only [List.getElem_toArray, List.getElem_cons_zero, List.getElem_cons_succ, Act.put, List.setIfInBounds_toArray, List.set_cons_zero, List.set_cons_succ])
                      refine wpAnyJ_skip 15 (by first | exact hF | exact wideFn) hHeld rfl (by kernel_rfl) (by kernel_rfl) (by kernel_rfl) (by kernel_rfl) rfl (by first | exact fun _ _ _ h => h | exact fun _ _ _ h => hQ2 _ _ _ _ _ h) ?_
                      (try simp only [List.getElem_toArray, List.getElem_cons_zero, List.getElem_cons_succ, Act.put, List.setIfInBounds_toArray, List.set_cons_zero, List.set_cons_succ])
                      refine wpAnyJ_skip 16 (by first | exact hF | exact wideFn) hHeld rfl (by kernel_rfl) (by kernel_rfl) (by kernel_rfl) (by kernel_rfl) rfl (by first | exact fun _ _ _ h => h | exact fun _ _ _ h => hQ2 _ _ _ _ _ h) ?_
                      (try simp only [List.getElem_toArray, List.getElem_cons_zero, List.getElem_cons_succ, Act.put, List.setIfInBounds_toArray, List.set_cons_zero, List.set_cons_succ])
                      refine wpAnyJ_skip 17 (by first | exact hF | exact wideFn) hHeld rfl (by kernel_rfl) (by kernel_rfl) (by kernel_rfl) (by kernel_rfl) rfl (by first | exact fun _ _ _ h => h | exact fun _ _ _ h => hQ2 _ _ _ _ _ h) ?_
                      (try simp only [List.getElem_toArray, List.getElem_cons_zero, List.getElem_cons_succ, Act.put, List.setIfInBounds_toArray, List.set_cons_zero, List.set_cons_succ])
                      refine wpAnyJ_take 18 (v := ?_) (by first | exact hF | exact wideFn) hHeld rfl (by kernel_rfl) (by kernel_rfl) (by kernel_rfl) (by kernel_rfl) rfl ?_ (by first | exact fun _ _ _ h => h | exact fun _ _ _ h => hQ2 _ _ _ _ _ h) ?_
                      rotate_left
                      · intro W hSW
                        simp only [List.getElem_toArray, List.getElem_cons_zero, List.getElem_cons_succ]
                        (try dsimp only at hSW)
                        go_simp
                        with_reducible rfl
                      (try simp only [List.getElem_toArray, List.getElem_cons_zero, List.getElem_cons_succ, Act.put, List.setIfInBounds_toArray, List.set_cons_zero, List.set_cons_succ])
                      refine wpAnyJ_take 19 (v := ?_) (by first | exact hF | exact wideFn) hHeld rfl (by kernel_rfl) (by kernel_rfl) (by kernel_rfl) (by kernel_rfl) rfl ?_ (by first | exact fun _ _ _ h => h | exact fun _ _ _ h => hQ2 _ _ _ _ _ h) ?_
                      rotate_left
                      · intro W hSW
                        simp only [List.getElem_toArray, List.getElem_cons_zero, List.getElem_cons_succ]
                        (try dsimp only at hSW)
                        go_simp
                        with_reducible rfl
                      (try simp only [List.getElem_toArray, List.getElem_cons_zero, List.getElem_cons_succ, Act.put, List.setIfInBounds_toArray, List.set_cons_zero, List.set_cons_succ])
                      refine wpAnyJ_skip 20 (by first | exact hF | exact wideFn) hHeld rfl (by kernel_rfl) (by kernel_rfl) (by kernel_rfl) (by kernel_rfl) rfl (by first | exact fun _ _ _ h => h | exact fun _ _ _ h => hQ2 _ _ _ _ _ h) ?_
                      (try simp only [List.getElem_toArray, List.getElem_cons_zero, List.getElem_cons_succ, Act.put, List.setIfInBounds_toArray, List.set_cons_zero, List.set_cons_succ])
                      refine wpAnyJ_skip 21 (by first | exact hF | exact wideFn) hHeld rfl (by kernel_rfl) (by kernel_rfl) (by kernel_rfl) (by kernel_rfl) rfl (by first | exact fun _ _ _ h => h | exact fun _ _ _ h => hQ2 _ _ _ _ _ h) ?_
                      (try simp only [List.getElem_toArray, List.getElem_cons_zero, List.getElem_cons_succ, Act.put, List.setIfInBounds_toArray, List.set_cons_zero, List.set_cons_succ])
                      refine wpAnyJ_skip 22 (by first | exact hF | exact wideFn) hHeld rfl (by kernel_rfl) (by kernel_rfl) (by kernel_rfl) (by kernel_rfl) rfl (by first | exact fun _ _ _ h => h | exact fun _ _ _ h => hQ2 _ _ _ _ _ h) ?_
                      (try simp only [List.getElem_toArray, List.getElem_cons_zero, List.getElem_cons_succ, Act.put, List.setIfInBounds_toArray, List.set_cons_zero, List.set_cons_succ])
                      refine wpAnyJ_skip 23 (by first | exact hF | exact wideFn) hHeld rfl (by kernel_rfl) (by kernel_rfl) (by kernel_rfl) (by kernel_rfl) rfl (by first | exact fun _ _ _ h => h | exact fun _ _ _ h => hQ2 _ _ _ _ _ h) ?_
                      (try simp only [List.getElem_toArray, List.getElem_cons_zero, List.getElem_cons_succ, Act.put, List.setIfInBounds_toArray, List.set_cons_zero, List.set_cons_succ])
                      refine wpAnyJ_skip 24 (by first | exact hF | exact wideFn) hHeld rfl (by kernel_rfl) (by kernel_rfl) (by kernel_rfl) (by kernel_rfl) rfl (by first | exact fun _ _ _ h => h | exact fun _ _ _ h => hQ2 _ _ _ _ _ h) ?_
                      (try simp only [List.getElem_toArray, List.getElem_cons_zero, List.getElem_cons_succ, Act.put, List.setIfInBounds_toArray, List.set_cons_zero, List.set_cons_succ])
                      refine wpAnyJ_take 25 (v := ?_) (by first | exact hF | exact wideFn) hHeld rfl (by kernel_rfl) (by kernel_rfl) (by kernel_rfl) (by kernel_rfl) rfl ?_ (by first | exact fun _ _ _ h => h | exact fun _ _ _ h => hQ2 _ _ _ _ _ h) ?_
                      rotate_left
                      · intro W hSW
                        simp only [List.getElem_toArray, List.getElem_cons_zero, List.getElem_cons_succ]
                        (try dsimp only at hSW)
                        go_simp
                        with_reducible rfl
                      (try simp only [List.getElem_toArray, List.getElem_cons_zero, List.getElem_cons_succ, Act.put, List.setIfInBounds_toArray, List.set_cons_zero, List.set_cons_succ])
                      refine wpAnyJ_take 26 (v := ?_) (by first | exact hF | exact wideFn) hHeld rfl (by kernel_rfl) (by kernel_rfl) (by kernel_rfl) (by kernel_rfl) rfl ?_ (by first | exact fun _ _ _ h => h | exact fun _ _ _ h => hQ2 _ _ _ _ _ h) ?_
                      rotate_left
                      · intro W hSW
                        simp only [List.getElem_toArray, List.getElem_cons_zero, List.getElem_cons_succ]
                        (try dsimp only at hSW)
                        go_simp
                        with_reducible rfl
                      (try simp only [List.getElem_toArray, List.getElem_cons_zero, List.getElem_cons_succ, Act.put, List.setIfInBounds_toArray, List.set_cons_zero, List.set_cons_succ])
                      refine wpAnyJ_done (by kernel_rfl) ?_
                      go_wp2_with fail
                      go_meet
                      exact ⟨rfl, rfl⟩
                    · have hj1 : ((j : Int) != (K : Int)) = true := by simp; omega
                      by_cases hq3 : q = 3
                      · as_aux_lemma =>
                        have hq1 : (x0.tmod 7 != 3) = false := by rw [Int.tmod_eq_emod_of_nonneg v00, Heq2.out, hq3]; rfl
                        refine wpAnyJ_take 10 (v := ?_) (by first | exact hF | exact wideFn) hHeld rfl (by kernel_rfl) (by kernel_rfl) (by kernel_rfl) (by kernel_rfl) rfl ?_ (by first | exact fun _ _ _ h => h | exact fun _ _ _ h => hQ2 _ _ _ _ _ h) ?_
                        rotate_left
                        · intro W hSW
                          simp only [List.getElem_toArray, List.getElem_cons_zero, List.getElem_cons_succ]
                          (try dsimp only at hSW)
                          go_simp
                          with_reducible rfl
                        (try simp only [List.getElem_toArray, List.getElem_cons_zero, List.getElem_cons_succ, Act.put, List.setIfInBounds_toArray, List.set_cons_zero, List.set_cons_succ])
                        refine wpAnyJ_take 11 (v := ?_) (by first | exact hF | exact wideFn) hHeld rfl (by kernel_rfl) (by kernel_rfl) (by kernel_rfl) (by kernel_rfl) rfl ?_ (by first | exact fun _ _ _ h => h | exact fun _ _ _ h => hQ2 _ _ _ _ _ h) ?_
                        rotate_left
                        · intro W hSW
                          simp only [List.getElem_toArray, List.getElem_cons_zero, List.getElem_cons_succ]
                          (try dsimp only at hSW)
                          go_simp
                          with_reducible rfl
                        (try simp only [List.getElem_toArray, List.getElem_cons_zero, List.getElem_cons_succ, Act.put, List.setIfInBounds_toArray, List.set_cons_zero, List.set_cons_succ])
                        refine wpAnyJ_take 12 (v := ?_) (by first | exact hF | exact wideFn) hHeld rfl (by kernel_rfl) (by kernel_rfl) (by kernel_rfl) (by kernel_rfl) rfl ?_ (by first | exact fun _ _ _ h => h | exact fun _ _ _ h => hQ2 _ _ _ _ _ h) ?_
                        rotate_left
                        · intro W hSW
                          simp only [List.getElem_toArray, List.getElem_cons_zero, List.getElem_cons_succ]
                          (try dsimp only at hSW)
                          go_simp
                          with_reducible rfl
                        (try simp only [List.getElem_toArray, List.getElem_cons_zero, List.getElem_cons_succ, Act.put, List.setIfInBounds_toArray, List.set_cons_zero, List.set_cons_succ])
                        refine wpAnyJ_take 13 (v := ?_) (by first | exact hF | exact wideFn) hHeld rfl (by kernel_rfl) (by kernel_rfl) (by kernel_rfl) (by kernel_rfl) rfl ?_ (by first | exact fun _ _ _ h => h | exact fun _ _ _ h => hQ2 _ _ _ _ _ h) ?_
                        rotate_left
                        · intro W hSW
                          simp only [List.getElem_toArray, List.getElem_cons_zero, List.getElem_cons_succ]
                          (try dsimp only at hSW)
                          go_simp
                          with_reducible rfl
                        (try simp only [List.getElem_toArray, List.getElem_cons_zero, List.getElem_cons_succ, Act.put, List.setIfInBounds_toArray, List.set_cons_zero, List.set_cons_succ])
                        refine wpAnyJ_take 14 (v := ?_) (by first | exact hF | exact wideFn) hHeld rfl (by kernel_rfl) (by kernel_rfl) (by kernel_rfl) (by kernel_rfl) rfl ?_ (by first | exact fun _ _ _ h => h | exact fun _ _ _ h => hQ2 _ _ _ _ _ h) ?_
                        rotate_left
                        · intro W hSW
                          simp only [List.getElem_toArray, List.getElem_cons_zero, List.getElem_cons_succ]
                          (try dsimp only at hSW)
                          go_simp
                          with_reducible rfl
                        (try simp only [List.getElem_toArray, List.getElem_cons_zero, List.getElem_cons_succ, Act.put, List.setIfInBounds_toArray, List.set_cons_zero, List.set_cons_succ])
                        refine wpAnyJ_take 15 (v := ?_) (by first | exact hF | exact wideFn) hHeld rfl (by kernel_rfl) (by kernel_rfl) (by kernel_rfl) (by kernel_rfl) rfl ?_ (by first | exact fun _ _ _ h => h | exact fun _ _ _ h => hQ2 _ _ _ _ _ h) ?_
                        rotate_left
                        · intro W hSW
                          simp only [List.getElem_toArray, List.getElem_cons_zero, List.getElem_cons_succ]
                          (try dsimp only at hSW)
                          go_simp
                          with_reducible rfl
                        (try simp only [List.getElem_toArray, List.getElem_cons_zero, List.getElem_cons_succ, Act.put, List.setIfInBounds_toArray, List.set_cons_zero, List.set_cons_succ])
                        refine wpAnyJ_take 16 (v := ?_) (by first | exact hF | exact wideFn) hHeld rfl (by kernel_rfl) (by kernel_rfl) (by kernel_rfl) (by kernel_rfl) rfl ?_ (by first | exact fun _ _ _ h => h | exact fun _ _ _ h => hQ2 _ _ _ _ _ h) ?_
                        rotate_left
                        · intro W hSW
                          simp only [List.getElem_toArray, List.getElem_cons_zero, List.getElem_cons_succ]
                          (try dsimp only at hSW)
                          go_simp
                          with_reducible rfl
                        (try simp only [List.getElem_toArray, List.getElem_cons_zero, List.getElem_cons_succ, Act.put, List.setIfInBounds_toArray, List.set_cons_zero, List.set_cons_succ])
                        refine wpAnyJ_take 17 (v := ?_) (by first | exact hF | exact wideFn) hHeld rfl (by kernel_rfl) (by kernel_rfl) (by kernel_rfl) (by kernel_rfl) rfl ?_ (by first | exact fun _ _ _ h => h | exact fun _ _ _ h => hQ2 _ _ _ _ _ h) ?_
                        rotate_left
                        · intro W hSW
                          simp only [List.getElem_toArray, List.getElem_cons_zero, List.getElem_cons_succ]
                          (try dsimp only at hSW)
                          go_simp
                          with_reducible rfl
                        (try simp only [List.getElem_toArray, List.getElem_cons_zero, List.getElem_cons_succ, Act.put, List.setIfInBounds_toArray, List.set_cons_zero, List.set_cons_succ])
                        refine wpAnyJ_take 18 (v := ?_) (by first | exact hF | exact wideFn) hHeld rfl (by kernel_rfl) (by kernel_rfl) (by kernel_rfl) (by kernel_rfl) rfl ?_ (by first | exact fun _ _ _ h => h | exact fun _ _ _ h => hQ2 _ _ _ _ _ h) ?_
                        rotate_left
                        · intro W hSW
                          simp only [List.getElem_toArray, List.getElem_cons_zero, List.getElem_cons_succ]
                          (try dsimp only at hSW)
                          go_simp
                          with_reducible rfl
                        (try simp only [List.getElem_toArray, List.getElem_cons_zero, List.getElem_cons_succ, Act.put, List.setIfInBounds_toArray, List.set_cons_zero, List.set_cons_succ])
                        refine wpAnyJ_take 19 (v := ?_) (by first | exact hF | exact wideFn) hHeld rfl (by kernel_rfl) (by kernel_rfl) (by kernel_rfl) (by kernel_rfl) rfl ?_ (by first | exact fun _ _ _ h => h | exact fun _ _ _ h => hQ2 _ _ _ _ _ h) ?_
                        rotate_left
                        · intro W hSW
                          simp only [List.getElem_toArray, List.getElem_cons_zero, List.getElem_cons_succ]
                          (try dsimp only at hSW)
                          go_simp
                          with_reducible rfl
                        (try simp only [List.getElem_toArray, List.getElem_cons_zero, List.getElem_cons_succ, Act.put, List.setIfInBounds_toArray, List.set_cons_zero, List.set_cons_succ])
                        refine wpAnyJ_skip 20 (by first | exact hF | exact wideFn) hHeld rfl (by kernel_rfl) (by kernel_rfl) (by kernel_rfl) (by kernel_rfl) rfl (by first | exact fun _ _ _ h => h | exact fun _ _ _ h => hQ2 _ _ _ _ _ h) ?_
                        (try simp only [List.getElem_toArray, List.getElem_cons_zero, List.getElem_cons_succ, Act.put, List.setIfInBounds_toArray, List.set_cons_zero, List.set_cons_succ])
                        refine wpAnyJ_skip 21 (by first | exact hF | exact wideFn) hHeld rfl (by kernel_rfl) (by kernel_rfl) (by kernel_rfl) (by kernel_rfl) rfl (by first | exact fun _ _ _ h => h | exact fun _ _ _ h => hQ2 _ _ _ _ _ h) ?_
                        (try simp only [List.getElem_toArray, List.getElem_cons_zero, List.getElem_cons_succ, Act.put, List.setIfInBounds_toArray, List.set_cons_zero, List.set_cons_succ])
                        refine wpAnyJ_skip 22 (by first | exact hF | exact wideFn) hHeld rfl (by kernel_rfl) (by kernel_rfl) (by kernel_rfl) (by kernel_rfl) rfl (by first | exact fun _ _ _ h => h | exact fun _ _ _ h => hQ2 _ _ _ _ _ h) ?_
                        (try simp only [List.getElem_toArray, List.getElem_cons_zero, List.getElem_cons_succ, Act.put, List.setIfInBounds_toArray, List.set_cons_zero, List.set_cons_succ])
                        refine wpAnyJ_skip 23 (by first | exact hF | exact wideFn) hHeld rfl (by kernel_rfl) (by kernel_rfl) (by kernel_rfl) (by kernel_rfl) rfl (by first | exact fun _ _ _ h => h | exact fun _ _ _ h => hQ2 _ _ _ _ _ h) ?_
                        (try simp only [List.getElem_toArray, List.getElem_cons_zero, List.getElem_cons_succ, Act.put, List.setIfInBounds_toArray, List.set_cons_zero, List.set_cons_succ])
                        refine wpAnyJ_skip 24 (by first | exact hF | exact wideFn) hHeld rfl (by kernel_rfl) (by kernel_rfl) (by kernel_rfl) (by kernel_rfl) rfl (by first | exact fun _ _ _ h => h | exact fun _ _ _ h => hQ2 _ _ _ _ _ h) ?_
                        (try simp only [List.getElem_toArray, List.getElem_cons_zero, List.getElem_cons_succ, Act.put, List.setIfInBounds_toArray, List.set_cons_zero, List.set_cons_succ])
                        refine wpAnyJ_take 25 (v := ?_) (by first | exact hF | exact wideFn) hHeld rfl (by kernel_rfl) (by kernel_rfl) (by kernel_rfl) (by kernel_rfl) rfl ?_ (by first | exact fun _ _ _ h => h | exact fun _ _ _ h => hQ2 _ _ _ _ _ h) ?_
                        rotate_left
                        · intro W hSW
                          simp only [List.getElem_toArray, List.getElem_cons_zero, List.getElem_cons_succ]
                          (try dsimp only at hSW)
                          go_simp
                          with_reducible rfl
                        (try simp only [List.getElem_toArray, List.getElem_cons_zero, List.getElem_cons_succ, Act.put, List.setIfInBounds_toArray, List.set_cons_zero, List.set_cons_succ])
                        refine wpAnyJ_take 26 (v := ?_) (by first | exact hF | exact wideFn) hHeld rfl (by kernel_rfl) (by kernel_rfl) (by kernel_rfl) (by kernel_rfl) rfl ?_ (by first | exact fun _ _ _ h => h | exact fun _ _ _ h => hQ2 _ _ _ _ _ h) ?_
                        rotate_left
                        · intro W hSW
                          simp only [List.getElem_toArray, List.getElem_cons_zero, List.getElem_cons_succ]
                          (try dsimp only at hSW)
                          go_simp
                          with_reducible rfl
                        (try simp only [List.getElem_toArray, List.getElem_cons_zero, List.getElem_cons_succ, Act.put, List.setIfInBounds_toArray, List.set_cons_zero, List.set_cons_succ])
                        refine wpAnyJ_done (by kernel_rfl) ?_
                        go_wp2_with fail
                        go_meet
                        exact ⟨rfl, rfl⟩
                      · as_aux_lemma =>
                        have hq1 : (x0.tmod 7 != 3) = true := by rw [Int.tmod_eq_emod_of_nonneg v00, Heq2.out]; simp; omega
                        obtain hxw := HF3.out hq3 hjk
                        clear HF2 HF3 HXj HBu
                        subst hxw
                        refine wpAnyJ_take 10 (v := ?_) (by first | exact hF | exact wideFn) hHeld rfl (by kernel_rfl) (by kernel_rfl) (by kernel_rfl) (by kernel_rfl) rfl ?_ (by first | exact fun _ _ _ h => h | exact fun _ _ _ h => hQ2 _ _ _ _ _ h) ?_
                        rotate_left
                        · intro W hSW
                          simp only [List.getElem_toArray, List.getElem_cons_zero, List.getElem_cons_succ]
                          (try dsimp only at hSW)
                          go_simp
                          with_reducible rfl
                        (try simp only [List.getElem_toArray, List.getElem_cons_zero, List.getElem_cons_succ, Act.put, List.setIfInBounds_toArray, List.set_cons_zero, List.set_cons_succ])
                        refine wpAnyJ_take 11 (v := ?_) (by first | exact hF | exact wideFn) hHeld rfl (by kernel_rfl) (by kernel_rfl) (by kernel_rfl) (by kernel_rfl) rfl ?_ (by first | exact fun _ _ _ h => h | exact fun _ _ _ h => hQ2 _ _ _ _ _ h) ?_
                        rotate_left
                        · intro W hSW
                          simp only [List.getElem_toArray, List.getElem_cons_zero, List.getElem_cons_succ]
                          (try dsimp only at hSW)
                          go_simp
                          with_reducible rfl
                        (try simp only [List.getElem_toArray, List.getElem_cons_zero, List.getElem_cons_succ, Act.put, List.setIfInBounds_toArray, List.set_cons_zero, List.set_cons_succ])
                        refine wpAnyJ_take 12 (v := ?_) (by first | exact hF | exact wideFn) hHeld rfl (by kernel_rfl) (by kernel_rfl) (by kernel_rfl) (by kernel_rfl) rfl ?_ (by first | exact fun _ _ _ h => h | exact fun _ _ _ h => hQ2 _ _ _ _ _ h) ?_
                        rotate_left
                        · intro W hSW
                          simp only [List.getElem_toArray, List.getElem_cons_zero, List.getElem_cons_succ]
                          (try dsimp only at hSW)
                          go_simp
                          with_reducible rfl
                        (try simp only [List.getElem_toArray, List.getElem_cons_zero, List.getElem_cons_succ, Act.put, List.setIfInBounds_toArray, List.set_cons_zero, List.set_cons_succ])
                        refine wpAnyJ_take 13 (v := ?_) (by first | exact hF | exact wideFn) hHeld rfl (by kernel_rfl) (by kernel_rfl) (by kernel_rfl) (by kernel_rfl) rfl ?_ (by first | exact fun _ _ _ h => h | exact fun _ _ _ h => hQ2 _ _ _ _ _ h) ?_
                        rotate_left
                        · intro W hSW
                          simp only [List.getElem_toArray, List.getElem_cons_zero, List.getElem_cons_succ]
                          (try dsimp only at hSW)
                          go_simp
                          with_reducible rfl
                        (try simp only [List.getElem_toArray, List.getElem_cons_zero, List.getElem_cons_succ, Act.put, List.setIfInBounds_toArray, List.set_cons_zero, List.set_cons_succ])
                        refine wpAnyJ_take 14 (v := ?_) (by first | exact hF | exact wideFn) hHeld rfl (by kernel_rfl) (by kernel_rfl) (by kernel_rfl) (by kernel_rfl) rfl ?_ (by first | exact fun _ _ _ h => h | exact fun _ _ _ h => hQ2 _ _ _ _ _ h) ?_
                        rotate_left
                        · intro W hSW
                          simp only [List.getElem_toArray, List.getElem_cons_zero, List.getElem_cons_succ]
                          (try dsimp only at hSW)
                          go_simp
                          with_reducible rfl
                        (try simp only [List.getElem_toArray, List.getElem_cons_zero, List.getElem_cons_succ, Act.put, List.setIfInBounds_toArray, List.set_cons_zero, List.set_cons_succ])
                        refine wpAnyJ_take 15 (v := ?_) (by first | exact hF | exact wideFn) hHeld rfl (by kernel_rfl) (by kernel_rfl) (by kernel_rfl) (by kernel_rfl) rfl ?_ (by first | exact fun _ _ _ h => h | exact fun _ _ _ h => hQ2 _ _ _ _ _ h) ?_
                        rotate_left
                        · intro W hSW
                          simp only [List.getElem_toArray, List.getElem_cons_zero, List.getElem_cons_succ]
                          (try dsimp only at hSW)
                          go_simp
                          with_reducible rfl
                        (try simp only [List.getElem_toArray, List.getElem_cons_zero, List.getElem_cons_succ, Act.put, List.setIfInBounds_toArray, List.set_cons_zero, List.set_cons_succ])
                        refine wpAnyJ_take 16 (v := ?_) (by first | exact hF | exact wideFn) hHeld rfl (by kernel_rfl) (by kernel_rfl) (by kernel_rfl) (by kernel_rfl) rfl ?_ (by first | exact fun _ _ _ h => h | exact fun _ _ _ h => hQ2 _ _ _ _ _ h) ?_
                        rotate_left
                        · intro W hSW
                          simp only [List.getElem_toArray, List.getElem_cons_zero, List.getElem_cons_succ]
                          (try dsimp only at hSW)
                          go_simp
                          with_reducible rfl
                        (try simp only [List.getElem_toArray, List.getElem_cons_zero, List.getElem_cons_succ, Act.put, List.setIfInBounds_toArray, List.set_cons_zero, List.set_cons_succ])
                        refine wpAnyJ_take 17 (v := ?_) (by first | exact hF | exact wideFn) hHeld rfl (by kernel_rfl) (by kernel_rfl) (by kernel_rfl) (by kernel_rfl) rfl ?_ (by first | exact fun _ _ _ h => h | exact fun _ _ _ h => hQ2 _ _ _ _ _ h) ?_
                        rotate_left
                        · intro W hSW
                          simp only [List.getElem_toArray, List.getElem_cons_zero, List.getElem_cons_succ]
                          (try dsimp only at hSW)
                          go_simp
                          with_reducible rfl
                        (try simp only [List.getElem_toArray, List.getElem_cons_zero, List.getElem_cons_succ, Act.put, List.setIfInBounds_toArray, List.set_cons_zero, List.set_cons_succ])
                        refine wpAnyJ_take 18 (v := ?_) (by first | exact hF | exact wideFn) hHeld rfl (by kernel_rfl) (by kernel_rfl) (by kernel_rfl) (by kernel_rfl) rfl ?_ (by first | exact fun _ _ _ h => h | exact fun _ _ _ h => hQ2 _ _ _ _ _ h) ?_
                        rotate_left
                        · intro W hSW
                          simp only [List.getElem_toArray, List.getElem_cons_zero, List.getElem_cons_succ]
                          (try dsimp only at hSW)
                          go_simp
                          with_reducible rfl
                        (try simp only [List.getElem_toArray, List.getElem_cons_zero, List.getElem_cons_succ, Act.put, List.setIfInBounds_toArray, List.set_cons_zero, List.set_cons_succ])
                        refine wpAnyJ_take 19 (v := ?_) (by first | exact hF | exact wideFn) hHeld rfl (by kernel_rfl) (by kernel_rfl) (by kernel_rfl) (by kernel_rfl) rfl ?_ (by first | exact fun _ _ _ h => h | exact fun _ _ _ h => hQ2 _ _ _ _ _ h) ?_
                        rotate_left
                        · intro W hSW
                          simp only [List.getElem_toArray, List.getElem_cons_zero, List.getElem_cons_succ]
                          (try dsimp only at hSW)
                          go_simp
                          with_reducible rfl
                        (try simp only [List.getElem_toArray, List.getElem_cons_zero, List.getElem_cons_succ, Act.put, List.setIfInBounds_toArray, List.set_cons_zero, List.set_cons_succ])
                        refine wpAnyJ_take 20 (v := ?_) (by first | exact hF | exact wideFn) hHeld rfl (by kernel_rfl) (by kernel_rfl) (by kernel_rfl) (by kernel_rfl) rfl ?_ (by first | exact fun _ _ _ h => h | exact fun _ _ _ h => hQ2 _ _ _ _ _ h) ?_
                        rotate_left
                        · intro W hSW
                          simp only [List.getElem_toArray, List.getElem_cons_zero, List.getElem_cons_succ]
                          (try dsimp only at hSW)
                          go_simp
                          with_reducible rfl
                        (try simp only [List.getElem_toArray, List.getElem_cons_zero, List.getElem_cons_succ, Act.put, List.setIfInBounds_toArray, List.set_cons_zero, List.set_cons_succ])
                        refine wpAnyJ_take 21 (v := ?_) (by first | exact hF | exact wideFn) hHeld rfl (by kernel_rfl) (by kernel_rfl) (by kernel_rfl) (by kernel_rfl) rfl ?_ (by first | exact fun _ _ _ h => h | exact fun _ _ _ h => hQ2 _ _ _ _ _ h) ?_
                        rotate_left
                        · intro W hSW
                          simp only [List.getElem_toArray, List.getElem_cons_zero, List.getElem_cons_succ]
                          (try dsimp only at hSW)
                          go_simp
                          with_reducible rfl
                        (try simp only [List.getElem_toArray, List.getElem_cons_zero, List.getElem_cons_succ, Act.put, List.setIfInBounds_toArray, List.set_cons_zero, List.set_cons_succ])
                        refine wpAnyJ_take 22 (v := ?_) (by first | exact hF | exact wideFn) hHeld rfl (by kernel_rfl) (by kernel_rfl) (by kernel_rfl) (by kernel_rfl) rfl ?_ (by first | exact fun _ _ _ h => h | exact fun _ _ _ h => hQ2 _ _ _ _ _ h) ?_
                        rotate_left
                        · intro W hSW
                          simp only [List.getElem_toArray, List.getElem_cons_zero, List.getElem_cons_succ]
                          (try dsimp only at hSW)
                          go_simp
                          with_reducible rfl
                        (try simp only [List.getElem_toArray, List.getElem_cons_zero, List.getElem_cons_succ, Act.put, List.setIfInBounds_toArray, List.set_cons_zero, List.set_cons_succ])
                        refine wpAnyJ_take 23 (v := ?_) (by first | exact hF | exact wideFn) hHeld rfl (by kernel_rfl) (by kernel_rfl) (by kernel_rfl) (by kernel_rfl) rfl ?_ (by first | exact fun _ _ _ h => h | exact fun _ _ _ h => hQ2 _ _ _ _ _ h) ?_
                        rotate_left
                        · intro W hSW
                          simp only [List.getElem_toArray, List.getElem_cons_zero, List.getElem_cons_succ]
                          (try dsimp only at hSW)
                          go_simp
                          with_reducible rfl
                        (try simp only [List.getElem_toArray, List.getElem_cons_zero, List.getElem_cons_succ, Act.put, List.setIfInBounds_toArray, List.set_cons_zero, List.set_cons_succ])
                        refine wpAnyJ_take 24 (v := ?_) (by first | exact hF | exact wideFn) hHeld rfl (by kernel_rfl) (by kernel_rfl) (by kernel_rfl) (by kernel_rfl) rfl ?_ (by first | exact fun _ _ _ h => h | exact fun _ _ _ h => hQ2 _ _ _ _ _ h) ?_
                        rotate_left
                        · intro W hSW
                          simp only [List.getElem_toArray, List.getElem_cons_zero, List.getElem_cons_succ]
                          (try dsimp only at hSW)
                          go_simp
                          with_reducible rfl
                        (try simp only [List.getElem_toArray, List.getElem_cons_zero, List.getElem_cons_succ, Act.put, List.setIfInBounds_toArray, List.set_cons_zero, List.set_cons_succ])
                        refine wpAnyJ_take 25 (v := ?_) (by first | exact hF | exact wideFn) hHeld rfl (by kernel_rfl) (by kernel_rfl) (by kernel_rfl) (by kernel_rfl) rfl ?_ (by first | exact fun _ _ _ h => h | exact fun _ _ _ h => hQ2 _ _ _ _ _ h) ?_
                        rotate_left
                        · intro W hSW
                          simp only [List.getElem_toArray, List.getElem_cons_zero, List.getElem_cons_succ]
                          (try dsimp only at hSW)
                          go_simp
                          with_reducible rfl
                        (try simp only [List.getElem_toArray, List.getElem_cons_zero, List.getElem_cons_succ, Act.put, List.setIfInBounds_toArray, List.set_cons_zero, List.set_cons_succ])
                        refine wpAnyJ_take 26 (v := ?_) (by first | exact hF | exact wideFn) hHeld rfl (by kernel_rfl) (by kernel_rfl) (by kernel_rfl) (by kernel_rfl) rfl ?_ (by first | exact fun _ _ _ h => h | exact fun _ _ _ h => hQ2 _ _ _ _ _ h) ?_
                        rotate_left
                        · intro W hSW
                          simp only [List.getElem_toArray, List.getElem_cons_zero, List.getElem_cons_succ]
                          (try dsimp only at hSW)
                          go_simp
                          with_reducible rfl
                        (try simp only [List.getElem_toArray, List.getElem_cons_zero, List.getElem_cons_succ, Act.put, List.setIfInBounds_toArray, List.set_cons_zero, List.set_cons_succ])
                        refine wpAnyJ_done (by kernel_rfl) ?_
                        go_wp2_with fail
                        go_meet
                        exact ⟨rfl, rfl⟩
                  · have hE2 : (E != 0) = true := by simpa using hE
                    obtain hxw := HF2.out hE
                    clear HF2 HF3 HXj HBu
                    subst hxw
                    refine wpAnyJ_take 0 (v := ?_) (by first | exact hF | exact wideFn) hHeld rfl (by kernel_rfl) (by kernel_rfl) (by kernel_rfl) (by kernel_rfl) rfl ?_ (by first | exact fun _ _ _ h => h | exact fun _ _ _ h => hQ2 _ _ _ _ _ h) ?_
                    rotate_left
                    · intro W hSW
                      simp only [List.getElem_toArray, List.getElem_cons_zero, List.getElem_cons_succ]
                      (try dsimp only at hSW)
                      go_simp
                      with_reducible rfl
                    (try simp only [List.getElem_toArray, List.getElem_cons_zero, List.getElem_cons_succ, Act.put, List.setIfInBounds_toArray, List.set_cons_zero, List.set_cons_succ])
                    refine wpAnyJ_take 1 (v := ?_) (by first | exact hF | exact wideFn) hHeld rfl (by kernel_rfl) (by kernel_rfl) (by kernel_rfl) (by kernel_rfl) rfl ?_ (by first | exact fun _ _ _ h => h | exact fun _ _ _ h => hQ2 _ _ _ _ _ h) ?_
                    rotate_left
                    · intro W hSW
                      simp only [List.getElem_toArray, List.getElem_cons_zero, List.getElem_cons_succ]
                      (try dsimp only at hSW)
                      go_simp
                      with_reducible rfl
                    (try simp only [List.getElem_toArray, List.getElem_cons_zero, List.getElem_cons_succ, Act.put, List.setIfInBounds_toArray, List.set_cons_zero, List.set_cons_succ])
                    refine wpAnyJ_take 2 (v := ?_) (by first | exact hF | exact wideFn) hHeld rfl (by kernel_rfl) (by kernel_rfl) (by kernel_rfl) (by kernel_rfl) rfl ?_ (by first | exact fun _ _ _ h => h | exact fun _ _ _ h => hQ2 _ _ _ _ _ h) ?_
                    rotate_left
                    · intro W hSW
                      simp only [List.getElem_toArray, List.getElem_cons_zero, List.getElem_cons_succ]
                      (try dsimp only at hSW)
                      go_simp
                      with_reducible rfl
                    (try simp only [List.getElem_toArray, List.getElem_cons_zero, List.getElem_cons_succ, Act.put, List.setIfInBounds_toArray, List.set_cons_zero, List.set_cons_succ])
                    refine wpAnyJ_take 3 (v := ?_) (by first | exact hF | exact wideFn) hHeld rfl (by kernel_rfl) (by kernel_rfl) (by kernel_rfl) (by kernel_rfl) rfl ?_ (by first | exact fun _ _ _ h => h | exact fun _ _ _ h => hQ2 _ _ _ _ _ h) ?_
                    rotate_left
                    · intro W hSW
                      simp only [List.getElem_toArray, List.getElem_cons_zero, List.getElem_cons_succ]
                      (try dsimp only at hSW)
                      go_simp
                      with_reducible rfl
                    (try simp only [List.getElem_toArray, List.getElem_cons_zero, List.getElem_cons_succ, Act.put, List.setIfInBounds_toArray, List.set_cons_zero, List.set_cons_succ])
                    refine wpAnyJ_take 4 (v := ?_) (by first | exact hF | exact wideFn) hHeld rfl (by kernel_rfl) (by kernel_rfl) (by kernel_rfl) (by kernel_rfl) rfl ?_ (by first | exact fun _ _ _ h => h | exact fun _ _ _ h => hQ2 _ _ _ _ _ h) ?_
                    rotate_left
                    · intro W hSW
                      simp only [List.getElem_toArray, List.getElem_cons_zero, List.getElem_cons_succ]
                      (try dsimp only at hSW)
                      go_simp
                      with_reducible rfl
                    (try simp only [List.getElem_toArray, List.getElem_cons_zero, List.getElem_cons_succ, Act.put, List.setIfInBounds_toArray, List.set_cons_zero, List.set_cons_succ])
                    refine wpAnyJ_take 5 (v := ?_) (by first | exact hF | exact wideFn) hHeld rfl (by kernel_rfl) (by kernel_rfl) (by kernel_rfl) (by kernel_rfl) rfl ?_ (by first | exact fun _ _ _ h => h | exact fun _ _ _ h => hQ2 _ _ _ _ _ h) ?_
                    rotate_left
                    · intro W hSW
                      simp only [List.getElem_toArray, List.getElem_cons_zero, List.getElem_cons_succ]
                      (try dsimp only at hSW)
                      go_simp
                      with_reducible rfl
                    (try simp only [List.getElem_toArray, List.getElem_cons_zero, List.getElem_cons_succ, Act.put, List.setIfInBounds_toArray, List.set_cons_zero, List.set_cons_succ])
                    refine wpAnyJ_take 6 (v := ?_) (by first | exact hF | exact wideFn) hHeld rfl (by kernel_rfl) (by kernel_rfl) (by kernel_rfl) (by kernel_rfl) rfl ?_ (by first | exact fun _ _ _ h => h | exact fun _ _ _ h => hQ2 _ _ _ _ _ h) ?_
                    rotate_left
                    · intro W hSW
                      simp only [List.getElem_toArray, List.getElem_cons_zero, List.getElem_cons_succ]
                      (try dsimp only at hSW)
                      go_simp
                      with_reducible rfl
                    (try simp only [List.getElem_toArray, List.getElem_cons_zero, List.getElem_cons_succ, Act.put, List.setIfInBounds_toArray, List.set_cons_zero, List.set_cons_succ])
                    refine wpAnyJ_take 7 (v := ?_) (by first | exact hF | exact wideFn) hHeld rfl (by kernel_rfl) (by kernel_rfl) (by kernel_rfl) (by kernel_rfl) rfl ?_ (by first | exact fun _ _ _ h => h | exact fun _ _ _ h => hQ2 _ _ _ _ _ h) ?_
                    rotate_left
                    · intro W hSW
                      simp only [List.getElem_toArray, List.getElem_cons_zero, List.getElem_cons_succ]
                      (try dsimp only at hSW)
                      go_simp
                      with_reducible rfl
                    (try simp only [List.getElem_toArray, List.getElem_cons_zero, List.getElem_cons_succ, Act.put, List.setIfInBounds_toArray, List.set_cons_zero, List.set_cons_succ])
                    refine wpAnyJ_take 8 (v := ?_) (by first | exact hF | exact wideFn) hHeld rfl (by kernel_rfl) (by kernel_rfl) (by kernel_rfl) (by kernel_rfl) rfl ?_ (by first | exact fun _ _ _ h => h | exact fun _ _ _ h => hQ2 _ _ _ _ _ h) ?_
                    rotate_left
                    · intro W hSW
                      simp only [List.getElem_toArray, List.getElem_cons_zero, List.getElem_cons_succ]
                      (try dsimp only at hSW)
                      go_simp
                      with_reducible rfl
                    (try simp only [List.getElem_toArray, List.getElem_cons_zero, List.getElem_cons_succ, Act.put, List.setIfInBounds_toArray, List.set_cons_zero, List.set_cons_succ])
                    refine wpAnyJ_take 9 (v := ?_) (by first | exact hF | exact wideFn) hHeld rfl (by kernel_rfl) (by kernel_rfl) (by kernel_rfl) (by kernel_rfl) rfl ?_ (by first | exact fun _ _ _ h => h | exact fun _ _ _ h => hQ2 _ _ _ _ _ h) ?_
                    rotate_left
                    · intro W hSW
                      simp only [List.getElem_toArray, List.getElem_cons_zero, List.getElem_cons_succ]
                      (try dsimp only at hSW)
                      go_simp
                      with_reducible rfl
                    (try simp only [List.getElem_toArray, List.getElem_cons_zero, List.getElem_cons_succ, Act.put, List.setIfInBounds_toArray, List.set_cons_zero, List.set_cons_succ])
                    by_cases hjk : j = K
                    · as_aux_lemma =>
                      have hj1 : ((j : Int) != (K : Int)) = false := by simp [hjk]
                      refine wpAnyJ_take 10 (v := ?_) (by first | exact hF | exact wideFn) hHeld rfl (by kernel_rfl) (by kernel_rfl) (by kernel_rfl) (by kernel_rfl) rfl ?_ (by first | exact fun _ _ _ h => h | exact fun _ _ _ h => hQ2 _ _ _ _ _ h) ?_
                      rotate_left
                      · intro W hSW
                        simp only [List.getElem_toArray, List.getElem_cons_zero, List.getElem_cons_succ]
                        (try dsimp only at hSW)
                        go_simp
                        with_reducible rfl
                      (try simp only [List.getElem_toArray, List.getElem_cons_zero, List.getElem_cons_succ, Act.put, List.setIfInBounds_toArray, List.set_cons_zero, List.set_cons_succ])
                      refine wpAnyJ_take 11 (v := ?_) (by first | exact hF | exact wideFn) hHeld rfl (by kernel_rfl) (by kernel_rfl) (by kernel_rfl) (by kernel_rfl) rfl ?_ (by first | exact fun _ _ _ h => h | exact fun _ _ _ h => hQ2 _ _ _ _ _ h) ?_
                      rotate_left
                      · intro W hSW
                        simp only [List.getElem_toArray, List.getElem_cons_zero, List.getElem_cons_succ]
                        (try dsimp only at hSW)
                        go_simp
                        with_reducible rfl
                      (try simp only [List.getElem_toArray, List.getElem_cons_zero, List.getElem_cons_succ, Act.put, List.setIfInBounds_toArray, List.set_cons_zero, List.set_cons_succ])
                      refine wpAnyJ_take 12 (v := ?_) (by first | exact hF | exact wideFn) hHeld rfl (by kernel_rfl) (by kernel_rfl) (by kernel_rfl) (by kernel_rfl) rfl ?_ (by first | exact fun _ _ _ h => h | exact fun _ _ _ h => hQ2 _ _ _ _ _ h) ?_
                      rotate_left
                      · intro W hSW
                        simp only [List.getElem_toArray, List.getElem_cons_zero, List.getElem_cons_succ]
                        (try dsimp only at hSW)
                        go_simp
                        with_reducible rfl
                      (try simp only [List.getElem_toArray, List.getElem_cons_zero, List.getElem_cons_succ, Act.put, List.setIfInBounds_toArray, List.set_cons_zero, List.set_cons_succ])
                      refine wpAnyJ_take 13 (v := ?_) (by first | exact hF | exact wideFn) hHeld rfl (by kernel_rfl) (by kernel_rfl) (by kernel_rfl) (by kernel_rfl) rfl ?_ (by first | exact fun _ _ _ h => h | exact fun _ _ _ h => hQ2 _ _ _ _ _ h) ?_
                      rotate_left
                      · intro W hSW
                        simp only [List.getElem_toArray, List.getElem_cons_zero, List.getElem_cons_succ]
                        (try dsimp only at hSW)
                        go_simp
                        with_reducible rfl
                      (try simp only [List.getElem_toArray, List.getElem_cons_zero, List.getElem_cons_succ, Act.put, List.setIfInBounds_toArray, List.set_cons_zero, List.set_cons_succ])
                      refine wpAnyJ_skip 14 (by first | exact hF | exact wideFn) hHeld rfl (by kernel_rfl) (by kernel_rfl) (by kernel_rfl) (by kernel_rfl) rfl (by first | exact fun _ _ _ h => h | exact fun _ _ _ h => hQ2 _ _ _ _ _ h) ?_
                      (try simp only [List.getElem_toArray, List.getElem_cons_zero, List.getElem_cons_succ, Act.put, List.setIfInBounds_toArray, List.set_cons_zero, List.set_cons_succ])
                      refine wpAnyJ_skip 15 (by first | exact hF | exact wideFn) hHeld rfl (by kernel_rfl) (by kernel_rfl) (by kernel_rfl) (by kernel_rfl) rfl (by first | exact fun _ _ _ h => h | exact fun _ _ _ h => hQ2 _ _ _ _ _ h) ?_
                      (try simp only [List.getElem_toArray, List.getElem_cons_zero, List.getElem_cons_succ, Act.put, List.setIfInBounds_toArray, List.set_cons_zero, List.set_cons_succ])
                      refine wpAnyJ_skip 16 (by first | exact hF | exact wideFn) hHeld rfl (by kernel_rfl) (by kernel_rfl) (by kernel_rfl) (by kernel_rfl) rfl (by first | exact fun _ _ _ h => h | exact fun _ _ _ h => hQ2 _ _ _ _ _ h) ?_
                      (try simp only [List.getElem_toArray, List.getElem_cons_zero, List.getElem_cons_succ, Act.put, List.setIfInBounds_toArray, List.set_cons_zero, List.set_cons_succ])
                      refine wpAnyJ_skip 17 (by first | exact hF | exact wideFn) hHeld rfl (by kernel_rfl) (by kernel_rfl) (by kernel_rfl) (by kernel_rfl) rfl (by first | exact fun _ _ _ h => h | exact fun _ _ _ h => hQ2 _ _ _ _ _ h) ?_
                      (try simp only [List.getElem_toArray, List.getElem_cons_zero, List.getElem_cons_succ, Act.put, List.setIfInBounds_toArray, List.set_cons_zero, List.set_cons_succ])
                      refine wpAnyJ_take 18 (v := ?_) (by first | exact hF | exact wideFn) hHeld rfl (by kernel_rfl) (by kernel_rfl) (by kernel_rfl) (by kernel_rfl) rfl ?_ (by first | exact fun _ _ _ h => h | exact fun _ _ _ h => hQ2 _ _ _ _ _ h) ?_
                      rotate_left
                      · intro W hSW
                        simp only [List.getElem_toArray, List.getElem_cons_zero, List.getElem_cons_succ]
                        (try dsimp only at hSW)
                        go_simp
                        with_reducible rfl
                      (try simp only [List.getElem_toArray, List.getElem_cons_zero, List.getElem_cons_succ, Act.put, List.setIfInBounds_toArray, List.set_cons_zero, List.set_cons_succ])
                      refine wpAnyJ_take 19 (v := ?_) (by first | exact hF | exact wideFn) hHeld rfl (by kernel_rfl) (by kernel_rfl) (by kernel_rfl) (by kernel_rfl) rfl ?_ (by first | exact fun _ _ _ h => h | exact fun _ _ _ h => hQ2 _ _ _ _ _ h) ?_
                      rotate_left
                      · intro W hSW
                        simp only [List.getElem_toArray, List.getElem_cons_zero, List.getElem_cons_succ]
                        (try dsimp only at hSW)
                        go_simp
                        with_reducible rfl
                      (try simp only [List.getElem_toArray, List.getElem_cons_zero, List.getElem_cons_succ, Act.put, List.setIfInBounds_toArray, List.set_cons_zero, List.set_cons_succ])
                      refine wpAnyJ_skip 20 (by first | exact hF | exact wideFn) hHeld rfl (by kernel_rfl) (by kernel_rfl) (by kernel_rfl) (by kernel_rfl) rfl (by first | exact fun _ _ _ h => h | exact fun _ _ _ h => hQ2 _ _ _ _ _ h) ?_
                      (try simp only [List.getElem_toArray, List.getElem_cons_zero, List.getElem_cons_succ, Act.put, List.setIfInBounds_toArray, List.set_cons_zero, List.set_cons_succ])
                      refine wpAnyJ_skip 21 (by first | exact hF | exact wideFn) hHeld rfl (by kernel_rfl) (by kernel_rfl) (by kernel_rfl) (by kernel_rfl) rfl (by first | exact fun _ _ _ h => h | exact fun _ _ _ h => hQ2 _ _ _ _ _ h) ?_
                      (try simp only [List.getElem_toArray, List.getElem_cons_zero, List.getElem_cons_succ, Act.put, List.setIfInBounds_toArray, List.set_cons_zero, List.set_cons_succ])
                      refine wpAnyJ_skip 22 (by first | exact hF | exact wideFn) hHeld rfl (by kernel_rfl) (by kernel_rfl) (by kernel_rfl) (by kernel_rfl) rfl (by first | exact fun _ _ _ h => h | exact fun _ _ _ h => hQ2 _ _ _ _ _ h) ?_
                      (try simp only [List.getElem_toArray, List.getElem_cons_zero, List.getElem_cons_succ, Act.put, List.setIfInBounds_toArray, List.set_cons_zero, List.set_cons_succ])
                      refine wpAnyJ_skip 23 (by first | exact hF | exact wideFn) hHeld rfl (by kernel_rfl) (by kernel_rfl) (by kernel_rfl) (by kernel_rfl) rfl (by first | exact fun _ _ _ h => h | exact fun _ _ _ h => hQ2 _ _ _ _ _ h) ?_
                      (try simp only [List.getElem_toArray, List.getElem_cons_zero, List.getElem_cons_succ, Act.put, List.setIfInBounds_toArray, List.set_cons_zero, List.set_cons_succ])
                      refine wpAnyJ_skip 24 (by first | exact hF | exact wideFn) hHeld rfl (by kernel_rfl) (by kernel_rfl) (by kernel_rfl) (by kernel_rfl) rfl (by first | exact fun _ _ _ h => h | exact fun _ _ _ h => hQ2 _ _ _ _ _ h) ?_
                      (try simp only [List.getElem_toArray, List.getElem_cons_zero, List.getElem_cons_succ, Act.put, List.setIfInBounds_toArray, List.set_cons_zero, List.set_cons_succ])
                      refine wpAnyJ_take 25 (v := ?_) (by first | exact hF | exact wideFn) hHeld rfl (by kernel_rfl) (by kernel_rfl) (by kernel_rfl) (by kernel_rfl) rfl ?_ (by first | exact fun _ _ _ h => h | exact fun _ _ _ h => hQ2 _ _ _ _ _ h) ?_
                      rotate_left
                      · intro W hSW
                        simp only [List.getElem_toArray, List.getElem_cons_zero, List.getElem_cons_succ]
                        (try dsimp only at hSW)
                        go_simp
                        with_reducible rfl
                      (try simp only [List.getElem_toArray, List.getElem_cons_zero, List.getElem_cons_succ, Act.put, List.setIfInBounds_toArray, List.set_cons_zero, List.set_cons_succ])
                      refine wpAnyJ_take 26 (v := ?_) (by first | exact hF | exact wideFn) hHeld rfl (by kernel_rfl) (by kernel_rfl) (by kernel_rfl) (by kernel_rfl) rfl ?_ (by first | exact fun _ _ _ h => h | exact fun _ _ _ h => hQ2 _ _ _ _ _ h) ?_
                      rotate_left
                      · intro W hSW
                        simp only [List.getElem_toArray, List.getElem_cons_zero, List.getElem_cons_succ]
                        (try dsimp only at hSW)
                        go_simp
                        with_reducible rfl
                      (try simp only [List.getElem_toArray, List.getElem_cons_zero, List.getElem_cons_succ, Act.put, List.setIfInBounds_toArray, List.set_cons_zero, List.set_cons_succ])
                      refine wpAnyJ_done (by kernel_rfl) ?_
                      go_wp2_with fail
                      go_meet
                      exact ⟨rfl, rfl⟩
                    · have hj1 : ((j : Int) != (K : Int)) = true := by simp; omega
                      by_cases hq3 : q = 3
                      · as_aux_lemma =>
                        have hq1 : (x0.tmod 7 != 3) = false := by rw [Int.tmod_eq_emod_of_nonneg v00, Heq2.out, hq3]; rfl
                        refine wpAnyJ_take 10 (v := ?_) (by first | exact hF | exact wideFn) hHeld rfl (by kernel_rfl) (by kernel_rfl) (by kernel_rfl) (by kernel_rfl) rfl ?_ (by first | exact fun _ _ _ h => h | exact fun _ _ _ h => hQ2 _ _ _ _ _ h) ?_
                        rotate_left
                        · intro W hSW
                          simp only [List.getElem_toArray, List.getElem_cons_zero, List.getElem_cons_succ]
                          (try dsimp only at hSW)
                          go_simp
                          with_reducible rfl
                        (try simp only [List.getElem_toArray, List.getElem_cons_zero, List.getElem_cons_succ, Act.put, List.setIfInBounds_toArray, List.set_cons_zero, List.set_cons_succ])
                        refine wpAnyJ_take 11 (v := ?_) (by first | exact hF | exact wideFn) hHeld rfl (by kernel_rfl) (by kernel_rfl) (by kernel_rfl) (by kernel_rfl) rfl ?_ (by first | exact fun _ _ _ h => h | exact fun _ _ _ h => hQ2 _ _ _ _ _ h) ?_
                        rotate_left
                        · intro W hSW
                          simp only [List.getElem_toArray, List.getElem_cons_zero, List.getElem_cons_succ]
                          (try dsimp only at hSW)
                          go_simp
                          with_reducible rfl
                        (try simp only [List.getElem_toArray, List.getElem_cons_zero, List.getElem_cons_succ, Act.put, List.setIfInBounds_toArray, List.set_cons_zero, List.set_cons_succ])
                        refine wpAnyJ_take 12 (v := ?_) (by first | exact hF | exact wideFn) hHeld rfl (by kernel_rfl) (by kernel_rfl) (by kernel_rfl) (by kernel_rfl) rfl ?_ (by first | exact fun _ _ _ h => h | exact fun _ _ _ h => hQ2 _ _ _ _ _ h) ?_
                        rotate_left
                        · intro W hSW
                          simp only [List.getElem_toArray, List.getElem_cons_zero, List.getElem_cons_succ]
                          (try dsimp only at hSW)
                          go_simp
                          with_reducible rfl
                        (try simp only [List.getElem_toArray, List.getElem_cons_zero, List.getElem_cons_succ, Act.put, List.setIfInBounds_toArray, List.set_cons_zero, List.set_cons_succ])
                        refine wpAnyJ_take 13 (v := ?_) (by first | exact hF | exact wideFn) hHeld rfl (by kernel_rfl) (by kernel_rfl) (by kernel_rfl) (by kernel_rfl) rfl ?_ (by first | exact fun _ _ _ h => h | exact fun _ _ _ h => hQ2 _ _ _ _ _ h) ?_
                        rotate_left
                        · intro W hSW
                          simp only [List.getElem_toArray, List.getElem_cons_zero, List.getElem_cons_succ]
                          (try dsimp only at hSW)
                          go_simp
                          with_reducible rfl
                        (try simp only [List.getElem_toArray, List.getElem_cons_zero, List.getElem_cons_succ, Act.put, List.setIfInBounds_toArray, List.set_cons_zero, List.set_cons_succ])
                        refine wpAnyJ_take 14 (v := ?_) (by first | exact hF | exact wideFn) hHeld rfl (by kernel_rfl) (by kernel_rfl) (by kernel_rfl) (by kernel_rfl) rfl ?_ (by first | exact fun _ _ _ h => h | exact fun _ _ _ h => hQ2 _ _ _ _ _ h) ?_
                        rotate_left
                        · intro W hSW
                          simp only [List.getElem_toArray, List.getElem_cons_zero, List.getElem_cons_succ]
                          (try dsimp only at hSW)
                          go_simp
                          with_reducible rfl
                        (try simp only [List.getElem_toArray, List.getElem_cons_zero, List.getElem_cons_succ, Act.put, List.setIfInBounds_toArray, List.set_cons_zero, List.set_cons_succ])
                        refine wpAnyJ_take 15 (v := ?_) (by first | exact hF | exact wideFn) hHeld rfl (by kernel_rfl) (by kernel_rfl) (by kernel_rfl) (by kernel_rfl) rfl ?_ (by first | exact fun _ _ _ h => h | exact fun _ _ _ h => hQ2 _ _ _ _ _ h) ?_
                        rotate_left
                        · intro W hSW
                          simp only [List.getElem_toArray, List.getElem_cons_zero, List.getElem_cons_succ]
                          (try dsimp only at hSW)
                          go_simp
                          with_reducible rfl
                        (try simp only [List.getElem_toArray, List.getElem_cons_zero, List.getElem_cons_succ, Act.put, List.setIfInBounds_toArray, List.set_cons_zero, List.set_cons_succ])
                        refine wpAnyJ_take 16 (v := ?_) (by first | exact hF | exact wideFn) hHeld rfl (by kernel_rfl) (by kernel_rfl) (by kernel_rfl) (by kernel_rfl) rfl ?_ (by first | exact fun _ _ _ h => h | exact fun _ _ _ h => hQ2 _ _ _ _ _ h) ?_
                        rotate_left
                        · intro W hSW
                          simp only [List.getElem_toArray, List.getElem_cons_zero, List.getElem_cons_succ]
                          (try dsimp only at hSW)
                          go_simp
                          with_reducible rfl
                        (try simp only [List.getElem_toArray, List.getElem_cons_zero, List.getElem_cons_succ, Act.put, List.setIfInBounds_toArray, List.set_cons_zero, List.set_cons_succ])
                        refine wpAnyJ_take 17 (v := ?_) (by first | exact hF | exact wideFn) hHeld rfl (by kernel_rfl) (by kernel_rfl) (by kernel_rfl) (by kernel_rfl) rfl ?_ (by first | exact fun _ _ _ h => h | exact fun _ _ _ h => hQ2 _ _ _ _ _ h) ?_
                        rotate_left
                        · intro W hSW
                          simp only [List.getElem_toArray, List.getElem_cons_zero, List.getElem_cons_succ]
                          (try dsimp only at hSW)
                          go_simp
                          with_reducible rfl
                        (try simp only [List.getElem_toArray, List.getElem_cons_zero, List.getElem_cons_succ, Act.put, List.setIfInBounds_toArray, List.set_cons_zero, List.set_cons_succ])
                        refine wpAnyJ_take 18 (v := ?_) (by first | exact hF | exact wideFn) hHeld rfl (by kernel_rfl) (by kernel_rfl) (by kernel_rfl) (by kernel_rfl) rfl ?_ (by first | exact fun _ _ _ h => h | exact fun _ _ _ h => hQ2 _ _ _ _ _ h) ?_
                        rotate_left
                        · intro W hSW
                          simp only [List.getElem_toArray, List.getElem_cons_zero, List.getElem_cons_succ]
                          (try dsimp only at hSW)
                          go_simp
                          with_reducible rfl
                        (try simp only [List.getElem_toArray, List.getElem_cons_zero, List.getElem_cons_succ, Act.put, List.setIfInBounds_toArray, List.set_cons_zero, List.set_cons_succ])
                        refine wpAnyJ_take 19 (v := ?_) (by first | exact hF | exact wideFn) hHeld rfl (by kernel_rfl) (by kernel_rfl) (by kernel_rfl) (by kernel_rfl) rfl ?_ (by first | exact fun _ _ _ h => h | exact fun _ _ _ h => hQ2 _ _ _ _ _ h) ?_
                        rotate_left
                        · intro W hSW
                          simp only [List.getElem_toArray, List.getElem_cons_zero, List.getElem_cons_succ]
                          (try dsimp only at hSW)
                          go_simp
                          with_reducible rfl
                        (try simp only [List.getElem_toArray, List.getElem_cons_zero, List.getElem_cons_succ, Act.put, List.setIfInBounds_toArray, List.set_cons_zero, List.set_cons_succ])
                        refine wpAnyJ_skip 20 (by first | exact hF | exact wideFn) hHeld rfl (by kernel_rfl) (by kernel_rfl) (by kernel_rfl) (by kernel_rfl) rfl (by first | exact fun _ _ _ h => h | exact fun _ _ _ h => hQ2 _ _ _ _ _ h) ?_
                        (try simp only [List.getElem_toArray, List.getElem_cons_zero, List.getElem_cons_succ, Act.put, List.setIfInBounds_toArray, List.set_cons_zero, List.set_cons_succ])
                        refine wpAnyJ_skip 21 (by first | exact hF | exact wideFn) hHeld rfl (by kernel_rfl) (by kernel_rfl) (by kernel_rfl) (by kernel_rfl) rfl (by first | exact fun _ _ _ h => h | exact fun _ _ _ h => hQ2 _ _ _ _ _ h) ?_
                        (try simp only [List.getElem_toArray, List.getElem_cons_zero, List.getElem_cons_succ, Act.put, List.setIfInBounds_toArray, List.set_cons_zero, List.set_cons_succ])
                        refine wpAnyJ_skip 22 (by first | exact hF | exact wideFn) hHeld rfl (by kernel_rfl) (by kernel_rfl) (by kernel_rfl) (by kernel_rfl) rfl (by first | exact fun _ _ _ h => h | exact fun _ _ _ h => hQ2 _ _ _ _ _ h) ?_
                        (try simp only [List.getElem_toArray, List.getElem_cons_zero, List.getElem_cons_succ, Act.put, List.setIfInBounds_toArray, List.set_cons_zero, List.set_cons_succ])
                        refine wpAnyJ_skip 23 (by first | exact hF | exact wideFn) hHeld rfl (by kernel_rfl) (by kernel_rfl) (by kernel_rfl) (by kernel_rfl) rfl (by first | exact fun _ _ _ h => h | exact fun _ _ _ h => hQ2 _ _ _ _ _ h) ?_
                        (try simp only [List.getElem_toArray, List.getElem_cons_zero, List.getElem_cons_succ, Act.put, List.setIfInBounds_toArray, List.set_cons_zero, List.set_cons_succ])
                        refine wpAnyJ_skip 24 (by first | exact hF | exact wideFn) hHeld rfl (by kernel_rfl) (by kernel_rfl) (by kernel_rfl) (by kernel_rfl) rfl (by first | exact fun _ _ _ h => h | exact fun _ _ _ h => hQ2 _ _ _ _ _ h) ?_
                        (try simp only [List.getElem_toArray, List.getElem_cons_zero, List.getElem_cons_succ, Act.put, List.setIfInBounds_toArray, List.set_cons_zero, List.set_cons_succ])
                        refine wpAnyJ_take 25 (v := ?_) (by first | exact hF | exact wideFn) hHeld rfl (by kernel_rfl) (by kernel_rfl) (by kernel_rfl) (by kernel_rfl) rfl ?_ (by first | exact fun _ _ _ h => h | exact fun _ _ _ h => hQ2 _ _ _ _ _ h) ?_
                        rotate_left
                        · intro W hSW
                          simp only [List.getElem_toArray, List.getElem_cons_zero, List.getElem_cons_succ]
                          (try dsimp only at hSW)
                          go_simp
                          with_reducible rfl
                        (try simp only [List.getElem_toArray, List.getElem_cons_zero, List.getElem_cons_succ, Act.put, List.setIfInBounds_toArray, List.set_cons_zero, List.set_cons_succ])
                        refine wpAnyJ_take 26 (v := ?_) (by first | exact hF | exact wideFn) hHeld rfl (by kernel_rfl) (by kernel_rfl) (by kernel_rfl) (by kernel_rfl) rfl ?_ (by first | exact fun _ _ _ h => h | exact fun _ _ _ h => hQ2 _ _ _ _ _ h) ?_
                        rotate_left
                        · intro W hSW
                          simp only [List.getElem_toArray, List.getElem_cons_zero, List.getElem_cons_succ]
                          (try dsimp only at hSW)
                          go_simp
                          with_reducible rfl
                        (try simp only [List.getElem_toArray, List.getElem_cons_zero, List.getElem_cons_succ, Act.put, List.setIfInBounds_toArray, List.set_cons_zero, List.set_cons_succ])
                        refine wpAnyJ_done (by kernel_rfl) ?_
                        go_wp2_with fail
                        go_meet
                        exact ⟨rfl, rfl⟩
                      · as_aux_lemma =>
                        have hq1 : (x0.tmod 7 != 3) = true := by rw [Int.tmod_eq_emod_of_nonneg v00, Heq2.out]; simp; omega
                        skip
                        refine wpAnyJ_take 10 (v := ?_) (by first | exact hF | exact wideFn) hHeld rfl (by kernel_rfl) (by kernel_rfl) (by kernel_rfl) (by kernel_rfl) rfl ?_ (by first | exact fun _ _ _ h => h | exact fun _ _ _ h => hQ2 _ _ _ _ _ h) ?_
                        rotate_left
                        · intro W hSW
                          simp only [List.getElem_toArray, List.getElem_cons_zero, List.getElem_cons_succ]
                          (try dsimp only at hSW)
                          go_simp
                          with_reducible rfl
                        (try simp only [List.getElem_toArray, List.getElem_cons_zero, List.getElem_cons_succ, Act.put, List.setIfInBounds_toArray, List.set_cons_zero, List.set_cons_succ])
                        refine wpAnyJ_take 11 (v := ?_) (by first | exact hF | exact wideFn) hHeld rfl (by kernel_rfl) (by kernel_rfl) (by kernel_rfl) (by kernel_rfl) rfl ?_ (by first | exact fun _ _ _ h => h | exact fun _ _ _ h => hQ2 _ _ _ _ _ h) ?_
                        rotate_left
                        · intro W hSW
                          simp only [List.getElem_toArray, List.getElem_cons_zero, List.getElem_cons_succ]
                          (try dsimp only at hSW)
                          go_simp
                          with_reducible rfl
                        (try simp only [List.getElem_toArray, List.getElem_cons_zero, List.getElem_cons_succ, Act.put, List.setIfInBounds_toArray, List.set_cons_zero, List.set_cons_succ])
                        refine wpAnyJ_take 12 (v := ?_) (by first | exact hF | exact wideFn) hHeld rfl (by kernel_rfl) (by kernel_rfl) (by kernel_rfl) (by kernel_rfl) rfl ?_ (by first | exact fun _ _ _ h => h | exact fun _ _ _ h => hQ2 _ _ _ _ _ h) ?_
                        rotate_left
                        · intro W hSW
                          simp only [List.getElem_toArray, List.getElem_cons_zero, List.getElem_cons_succ]
                          (try dsimp only at hSW)
                          go_simp
                          with_reducible rfl
                        (try simp only [List.getElem_toArray, List.getElem_cons_zero, List.getElem_cons_succ, Act.put, List.setIfInBounds_toArray, List.set_cons_zero, List.set_cons_succ])
                        refine wpAnyJ_take 13 (v := ?_) (by first | exact hF | exact wideFn) hHeld rfl (by kernel_rfl) (by kernel_rfl) (by kernel_rfl) (by kernel_rfl) rfl ?_ (by first | exact fun _ _ _ h => h | exact fun _ _ _ h => hQ2 _ _ _ _ _ h) ?_
                        rotate_left
                        · intro W hSW
                          simp only [List.getElem_toArray, List.getElem_cons_zero, List.getElem_cons_succ]
                          (try dsimp only at hSW)
                          go_simp
                          with_reducible rfl
                        (try simp only [List.getElem_toArray, List.getElem_cons_zero, List.getElem_cons_succ, Act.put, List.setIfInBounds_toArray, List.set_cons_zero, List.set_cons_succ])
                        refine wpAnyJ_take 14 (v := ?_) (by first | exact hF | exact wideFn) hHeld rfl (by kernel_rfl) (by kernel_rfl) (by kernel_rfl) (by kernel_rfl) rfl ?_ (by first | exact fun _ _ _ h => h | exact fun _ _ _ h => hQ2 _ _ _ _ _ h) ?_
                        rotate_left
                        · intro W hSW
                          simp only [List.getElem_toArray, List.getElem_cons_zero, List.getElem_cons_succ]
                          (try dsimp only at hSW)
                          go_simp
                          with_reducible rfl
                        (try simp only [List.getElem_toArray, List.getElem_cons_zero, List.getElem_cons_succ, Act.put, List.setIfInBounds_toArray, List.set_cons_zero, List.set_cons_succ])
                        refine wpAnyJ_take 15 (v := ?_) (by first | exact hF | exact wideFn) hHeld rfl (by kernel_rfl) (by kernel_rfl) (by kernel_rfl) (by kernel_rfl) rfl ?_ (by first | exact fun _ _ _ h => h | exact fun _ _ _ h => hQ2 _ _ _ _ _ h) ?_
                        rotate_left
                        · intro W hSW
                          simp only [List.getElem_toArray, List.getElem_cons_zero, List.getElem_cons_succ]
                          (try dsimp only at hSW)
                          go_simp
                          with_reducible rfl
                        (try simp only [List.getElem_toArray, List.getElem_cons_zero, List.getElem_cons_succ, Act.put, List.setIfInBounds_toArray, List.set_cons_zero, List.set_cons_succ])
                        refine wpAnyJ_take 16 (v := ?_) (by first | exact hF | exact wideFn) hHeld rfl (by kernel_rfl) (by kernel_rfl) (by kernel_rfl) (by kernel_rfl) rfl ?_ (by first | exact fun _ _ _ h => h | exact fun _ _ _ h => hQ2 _ _ _ _ _ h) ?_
                        rotate_left
                        · intro W hSW
                          simp only [List.getElem_toArray, List.getElem_cons_zero, List.getElem_cons_succ]
                          (try dsimp only at hSW)
                          go_simp
                          with_reducible rfl
                        (try simp only [List.getElem_toArray, List.getElem_cons_zero, List.getElem_cons_succ, Act.put, List.setIfInBounds_toArray, List.set_cons_zero, List.set_cons_succ])
                        refine wpAnyJ_take 17 (v := ?_) (by first | exact hF | exact wideFn) hHeld rfl (by kernel_rfl) (by kernel_rfl) (by kernel_rfl) (by kernel_rfl) rfl ?_ (by first | exact fun _ _ _ h => h | exact fun _ _ _ h => hQ2 _ _ _ _ _ h) ?_
                        rotate_left
                        · intro W hSW
                          simp only [List.getElem_toArray, List.getElem_cons_zero, List.getElem_cons_succ]
                          (try dsimp only at hSW)
                          go_simp
                          with_reducible rfl
                        (try simp only [List.getElem_toArray, List.getElem_cons_zero, List.getElem_cons_succ, Act.put, List.setIfInBounds_toArray, List.set_cons_zero, List.set_cons_succ])
                        refine wpAnyJ_take 18 (v := ?_) (by first | exact hF | exact wideFn) hHeld rfl (by kernel_rfl) (by kernel_rfl) (by kernel_rfl) (by kernel_rfl) rfl ?_ (by first | exact fun _ _ _ h => h | exact fun _ _ _ h => hQ2 _ _ _ _ _ h) ?_
                        rotate_left
                        · intro W hSW
                          simp only [List.getElem_toArray, List.getElem_cons_zero, List.getElem_cons_succ]
                          (try dsimp only at hSW)
                          go_simp
                          with_reducible rfl
                        (try simp only [List.getElem_toArray, List.getElem_cons_zero, List.getElem_cons_succ, Act.put, List.setIfInBounds_toArray, List.set_cons_zero, List.set_cons_succ])
                        refine wpAnyJ_take 19 (v := ?_) (by first | exact hF | exact wideFn) hHeld rfl (by kernel_rfl) (by kernel_rfl) (by kernel_rfl) (by kernel_rfl) rfl ?_ (by first | exact fun _ _ _ h => h | exact fun _ _ _ h => hQ2 _ _ _ _ _ h) ?_
                        rotate_left
                        · intro W hSW
                          simp only [List.getElem_toArray, List.getElem_cons_zero, List.getElem_cons_succ]
                          (try dsimp only at hSW)
                          go_simp
                          with_reducible rfl
                        (try simp only [List.getElem_toArray, List.getElem_cons_zero, List.getElem_cons_succ, Act.put, List.setIfInBounds_toArray, List.set_cons_zero, List.set_cons_succ])
                        refine wpAnyJ_take 20 (v := ?_) (by first | exact hF | exact wideFn) hHeld rfl (by kernel_rfl) (by kernel_rfl) (by kernel_rfl) (by kernel_rfl) rfl ?_ (by first | exact fun _ _ _ h => h | exact fun _ _ _ h => hQ2 _ _ _ _ _ h) ?_
                        rotate_left
                        · intro W hSW
                          simp only [List.getElem_toArray, List.getElem_cons_zero, List.getElem_cons_succ]
                          (try dsimp only at hSW)
                          go_simp
                          with_reducible rfl
                        (try simp only [List.getElem_toArray, List.getElem_cons_zero, List.getElem_cons_succ, Act.put, List.setIfInBounds_toArray, List.set_cons_zero, List.set_cons_succ])
                        refine wpAnyJ_take 21 (v := ?_) (by first | exact hF | exact wideFn) hHeld rfl (by kernel_rfl) (by kernel_rfl) (by kernel_rfl) (by kernel_rfl) rfl ?_ (by first | exact fun _ _ _ h => h | exact fun _ _ _ h => hQ2 _ _ _ _ _ h) ?_
                        rotate_left
                        · intro W hSW
                          simp only [List.getElem_toArray, List.getElem_cons_zero, List.getElem_cons_succ]
                          (try dsimp only at hSW)
                          go_simp
                          with_reducible rfl
                        (try simp only [List.getElem_toArray, List.getElem_cons_zero, List.getElem_cons_succ, Act.put, List.setIfInBounds_toArray, List.set_cons_zero, List.set_cons_succ])
                        refine wpAnyJ_take 22 (v := ?_) (by first | exact hF | exact wideFn) hHeld rfl (by kernel_rfl) (by kernel_rfl) (by kernel_rfl) (by kernel_rfl) rfl ?_ (by first | exact fun _ _ _ h => h | exact fun _ _ _ h => hQ2 _ _ _ _ _ h) ?_
                        rotate_left
                        · intro W hSW
                          simp only [List.getElem_toArray, List.getElem_cons_zero, List.getElem_cons_succ]
                          (try dsimp only at hSW)
                          go_simp
                          with_reducible rfl
                        (try simp only [List.getElem_toArray, List.getElem_cons_zero, List.getElem_cons_succ, Act.put, List.setIfInBounds_toArray, List.set_cons_zero, List.set_cons_succ])
                        refine wpAnyJ_take 23 (v := ?_) (by first | exact hF | exact wideFn) hHeld rfl (by kernel_rfl) (by kernel_rfl) (by kernel_rfl) (by kernel_rfl) rfl ?_ (by first | exact fun _ _ _ h => h | exact fun _ _ _ h => hQ2 _ _ _ _ _ h) ?_
                        rotate_left
                        · intro W hSW
                          simp only [List.getElem_toArray, List.getElem_cons_zero, List.getElem_cons_succ]
                          (try dsimp only at hSW)
                          go_simp
                          with_reducible rfl
                        (try simp only [List.getElem_toArray, List.getElem_cons_zero, List.getElem_cons_succ, Act.put, List.setIfInBounds_toArray, List.set_cons_zero, List.set_cons_succ])
                        refine wpAnyJ_take 24 (v := ?_) (by first | exact hF | exact wideFn) hHeld rfl (by kernel_rfl) (by kernel_rfl) (by kernel_rfl) (by kernel_rfl) rfl ?_ (by first | exact fun _ _ _ h => h | exact fun _ _ _ h => hQ2 _ _ _ _ _ h) ?_
                        rotate_left
                        · intro W hSW
                          simp only [List.getElem_toArray, List.getElem_cons_zero, List.getElem_cons_succ]
                          (try dsimp only at hSW)
                          go_simp
                          with_reducible rfl
                        (try simp only [List.getElem_toArray, List.getElem_cons_zero, List.getElem_cons_succ, Act.put, List.setIfInBounds_toArray, List.set_cons_zero, List.set_cons_succ])
                        refine wpAnyJ_take 25 (v := ?_) (by first | exact hF | exact wideFn) hHeld rfl (by kernel_rfl) (by kernel_rfl) (by kernel_rfl) (by kernel_rfl) rfl ?_ (by first | exact fun _ _ _ h => h | exact fun _ _ _ h => hQ2 _ _ _ _ _ h) ?_
                        rotate_left
                        · intro W hSW
                          simp only [List.getElem_toArray, List.getElem_cons_zero, List.getElem_cons_succ]
                          (try dsimp only at hSW)
                          go_simp
                          with_reducible rfl
                        (try simp only [List.getElem_toArray, List.getElem_cons_zero, List.getElem_cons_succ, Act.put, List.setIfInBounds_toArray, List.set_cons_zero, List.set_cons_succ])
                        refine wpAnyJ_take 26 (v := ?_) (by first | exact hF | exact wideFn) hHeld rfl (by kernel_rfl) (by kernel_rfl) (by kernel_rfl) (by kernel_rfl) rfl ?_ (by first | exact fun _ _ _ h => h | exact fun _ _ _ h => hQ2 _ _ _ _ _ h) ?_
                        rotate_left
                        · intro W hSW
                          simp only [List.getElem_toArray, List.getElem_cons_zero, List.getElem_cons_succ]
                          (try dsimp only at hSW)
                          go_simp
                          with_reducible rfl
                        (try simp only [List.getElem_toArray, List.getElem_cons_zero, List.getElem_cons_succ, Act.put, List.setIfInBounds_toArray, List.set_cons_zero, List.set_cons_succ])
                        refine wpAnyJ_done (by kernel_rfl) ?_
                        go_wp2_with fail
                        go_meet
                        exact ⟨rfl, rfl⟩
              case rest =>
               as_aux_lemma =>
                obtain ⟨rfl, rfl⟩ := hcut
                have HCn := hide (HCm.out.ext (Below.refl _ _).drew)
                have HYn := hide HYm.out.drew
                have HBn := hide HBm.out.drew
                have hqn : w11.drew.cell? ⟨p + 3, j * 7, none⟩ = some (.int .i64 (ws j).wet) ∧ w11.drew.cell? ⟨p + 3, j * 7 + 1, none⟩ = some (.int .i64 (ws j).dry) ∧ w11.drew.cell? ⟨p + 3, j * 7 + 2, none⟩ = some (.int .i64 (ws j).burning) ∧ w11.drew.cell? ⟨p + 3, j * 7 + 3, none⟩ = some (.int .i64 (ws j).fired) ∧ w11.drew.cell? ⟨p + 3, j * 7 + 4, none⟩ = some (.int .i64 (ws j).laid) ∧ w11.drew.cell? ⟨p + 3, j * 7 + 5, none⟩ = some (.int .i64 (ws j).broken) ∧ w11.drew.cell? ⟨p + 3, j * 7 + 6, none⟩ = some (.int .i64 (ws j).missing) := HQm.out
                clear HCm HYm HBm HQm
                generalize w11.drew = w12 at HCn HYn HBn hqn ⊢
                obtain ⟨q0, q1, q2, q3, q4, q5, q6⟩ := hqn
                obtain ⟨z9, c0, c1, c2, c3, c4, c5, c6⟩ := bx7 HBn.out
                have z8 := HCn.out.be.lt
                have fr0 := HCn.out.be.frozen (j * 7)
                have fr1 := HCn.out.be.frozen (j * 7 + 1)
                have fr2 := HCn.out.be.frozen (j * 7 + 2)
                have fr3 := HCn.out.be.frozen (j * 7 + 3)
                have fr4 := HCn.out.be.frozen (j * 7 + 4)
                have fr5 := HCn.out.be.frozen (j * 7 + 5)
                have fr6 := HCn.out.be.frozen (j * 7 + 6)
                go_wp2_with fail
                go_roundw
                case rel =>
                  have HR1 := hide ((HCn.out.setBe hlt2 x).alike (old' := fun i => if i < j + 1 then ws' i else ws i) (fun _ _ => rfl) (fun _ _ => rfl) (fun i hi => old_next HXj.out i))
                  have HR2 := hide (HYn.out.row7 (x := x) (o := j * 7) (show yb ≠ p + 3 by have := HLx.out; omega))
                  exact ⟨j + 1, by go_num, by omega, HR1, HR2⟩
                case measure => simp [intOf]; omega
          · obtain rfl : j = 2 := by omega
            go_wp2_with fail
            go_roundw
            case rel =>
              have hcn := HCj.out.alike (old' := ws') (fun _ _ => rfl) (fun _ _ => rfl) (fun i hi => (if_pos hi).symm)
              have hk1 : ((k : Int) + 1) = ((k + 1 : Nat) : Int) := by omega
              rw [HP1.out]
              rw [hk1]
              (repeat apply Exists.intro); exact ⟨⟨k + 1, by go_num, by omega, bb', ov', ws', pu', rfl, hide hcn⟩, rfl⟩
            case measure => simp [intOf]; omega
    · obtain rfl : k = m := by omega
      go_wp2_with fail
      refine (HK.out _).mono ?_
      rintro e w9 ⟨rfl, hb9⟩
      go_wp2_with fail
      go_ret
      exact ⟨rfl, HC.out.below.trans (hb9.mono HC.out.below.size)⟩
theorem counts_law (A : Option Addr) (m c : Nat) (v : Nat → Nat → Int) (w : World) (hm2 : m ≤ maxLen) (hR : YR w A m v) (hv : ∀ k i, k < m → i < 4 → 0 ≤ v k i ∧ v k i ≤ 255) : Calls Try.prog 10 #[.slice A m c] w fun e w' => e = .returned (.bool true) ∧ Below w.heap.size w w' := by
  by_cases hm : 80 < m
  · exact counts_long A m c w hm hm2
  · exact counts_go A m c v w (by omega) hR hv
end Go.Proofs.Ytlhekifmkkgjlaa
