/- Song: the divisor and the least herd, walked. -/
import Derived.Test.YtlkkkgpcjdemdaaDoorSongE
import Derived.Deep.CutBlock
import Derived.Deep.DeepCutAuto
set_option linter.unusedSimpArgs false
set_option linter.unusedVariables false
set_option linter.unnecessarySimpa false
namespace Go.Proofs.YtlkkkgpcjdemdaaDoor
open Go Go.RowKit Go.Shelf
set_option maxHeartbeats 4000000
set_option maxRecDepth 100000
theorem divisor_q (a b : Nat) (w : World) : Calls Tryd.prog 85 #[.int .i64 (a : Int), .int .i64 (b : Int)] w fun e w' => e = .returned (.int .i64 (Nat.gcd a b : Nat)) ∧ ∃ m, w' = w.drewN m := by
  obtain ⟨G, hG⟩ : ∃ G, Nat.gcd a b = G := ⟨_, rfl⟩
  rw [hG]
  have HG := hide hG
  clear hG
  go_enter Tryd.func85, Tryd.ntmps85
  go_wp2_with fail
  go_loopw [0, 1] (fun x y wr => ∃ a b : Nat, x = .int .i64 (a : Int) ∧ y = .int .i64 (b : Int) ∧ Hid (Nat.gcd a b = G) ∧ Hid (∃ m, wr = w.drewN m)) (fun _ y _ => (intOf y).toNat)
  case atStart => exact ⟨a, b, rfl, rfl, HG, hide ⟨0, rfl⟩⟩
  case round =>
    obtain ⟨x, y, rfl, rfl, HX, HB⟩ := hrel
    clear HG
    by_cases hy : y = 0
    · subst hy
      have HR : Hid (x = G) := hide (by rw [← HX.out]; simp)
      go_wp2_with fail
      go_ret
      exact ⟨ret_int (by rw [HR.out]), HB.out⟩
    · have h1 : ((y : Int) == 0) = false := by rw [beq_eq_false_iff_ne]; omega
      have h2 : ¬ (y : Int) = 0 := by omega
      have h3 : ((x : Int)).tmod (y : Int) = ((x % y : Nat) : Int) := by rw [Int.tmod_eq_emod_of_nonneg (by omega)]; simp
      have h4 : (x : Int) % (y : Int) = ((x % y : Nat) : Int) := by simp
      have hlt : x % y < y := Nat.mod_lt _ (by omega)
      have HX2 : Hid (Nat.gcd y (x % y) = G) := hide (by rw [← HX.out, Nat.gcd_comm y, ← Nat.gcd_rec, Nat.gcd_comm])
      have HLT := hide hlt
      obtain ⟨m, hm⟩ : ∃ m, x % y = m := ⟨_, rfl⟩
      rw [hm] at h3 h4 HX2 HLT
      clear hm hlt HX hy
      go_wp2_with fail
      go_quiet (fail)
      rename_i nq
      have HB2 : Hid (∃ m, wr.drewN nq = w.drewN m) := hide (by obtain ⟨m, hm⟩ := HB.out; exact ⟨m + nq, by rw [hm, World.drewN_drewN]⟩)
      go_wp2_with fail
      go_roundw
      case rel => exact ⟨y, m, rfl, by first | rfl | (simp; done), HX2, HB2⟩
      case measure => have := HLT.out; simp [intOf]; omega
theorem divisor_any (a b : Nat) (w : World) : Calls Tryd.prog 85 #[.int .i64 (a : Int), .int .i64 (b : Int)] w fun e w' => e = .returned (.int .i64 (Nat.gcd a b : Nat)) ∧ Below w.heap.size w w' :=
  (divisor_q a b w).mono fun _ _ ⟨h, m, hm⟩ => ⟨h, by rw [hm]; exact Below_dN (Below.refl _ _) m⟩
/-- the denominator in lowest terms -/
def dnF (x : Int × Int) : Nat := x.2.toNat / Nat.gcd x.1.toNat x.2.toNat
/-- the least herd of the first k portions -/
def whN (l : List (Int × Int)) : Nat → Nat
  | 0 => 1
  | k + 1 => Nat.lcm (whN l k) (dnF (l.getD k (0, 0)))
theorem dn_pos {x : Int × Int} (h : poB x = true) : 1 ≤ dnF x ∧ dnF x ≤ 1000000 := by
  obtain ⟨h1, h2, h3⟩ := poB_iff.1 h
  unfold dnF
  have hg := Nat.gcd_le_right x.1.toNat (show 0 < x.2.toNat by omega)
  have hp := Nat.gcd_pos_of_pos_right x.1.toNat (show 0 < x.2.toNat by omega)
  exact ⟨Nat.div_pos hg hp, Nat.le_trans (Nat.div_le_self _ _) (by omega)⟩
theorem lcm_eq (n d : Nat) : n / Nat.gcd n d * d = Nat.lcm n d := by
  unfold Nat.lcm
  rw [Nat.div_mul_right_comm (Nat.gcd_dvd_left n d)]
theorem wh_pos {l : List (Int × Int)} (h : l.all poB = true) : ∀ k, k ≤ l.length → 1 ≤ whN l k
  | 0, _ => Nat.le_refl _
  | k + 1, hk => by
    have h1 := wh_pos h k (by omega)
    have h2 := dn_pos (List.all_eq_true.1 h (l.getD k (0, 0)) (by rw [List.getD_eq_getElem?_getD, List.getElem?_eq_getElem (by omega)]; exact List.getElem_mem (by omega)))
    exact Nat.lcm_pos h1 h2.1
theorem wh_mono {l : List (Int × Int)} (h : l.all poB = true) {j k : Nat} (hjk : j ≤ k) (hk : k ≤ l.length) : whN l j ≤ whN l k := by
  induction k with
  | zero => obtain rfl : j = 0 := by omega
            exact Nat.le_refl _
  | succ k ih =>
    rcases (by omega : j ≤ k ∨ j = k + 1) with h1 | rfl
    · refine Nat.le_trans (ih h1 (by omega)) ?_
      exact Nat.le_of_dvd (wh_pos h (k + 1) hk) (Nat.dvd_lcm_left _ _)
    · exact Nat.le_refl _
theorem whole_any (A : Option Addr) (c : Nat) (l : List (Int × Int)) (most : Nat) (w : World) (hl : l.all poB = true) (hn : l.length ≤ 20) (hm : most ≤ 2000000000) (hm1 : 1 ≤ most) (hR : PoR w w.heap.size A l) :
    Calls Tryd.prog 52 #[.slice A l.length c, .int .i64 (most : Int)] w fun e w' => e = .returned (.tuple #[.int .i64 (if whN l l.length ≤ most then (whN l l.length : Int) else 0), .bool (decide (whN l l.length ≤ most))]) ∧ Below w.heap.size w w' := by
  have HR := hide (fun W (h : Below w.heap.size w W) => hR.below h (Nat.le_refl _))
  have HPO := hide (fun k (hk : k < l.length) => List.all_eq_true.1 hl (l.getD k (0, 0)) (by rw [List.getD_eq_getElem?_getD, List.getElem?_eq_getElem hk]; exact List.getElem_mem hk))
  have HMO := hide (fun k (hk : k ≤ l.length) => wh_mono hl hk (Nat.le_refl _))
  have HWP := hide (fun k (hk : k ≤ l.length) => wh_pos hl k hk)
  obtain ⟨n, hln⟩ : ∃ n, l.length = n := ⟨_, rfl⟩
  obtain ⟨R, hRR⟩ : ∃ R : Ending, Ending.returned (.tuple #[.int .i64 (if whN l l.length ≤ most then (whN l l.length : Int) else 0), .bool (decide (whN l l.length ≤ most))]) = R := ⟨_, rfl⟩
  have HNO : Hid (most < whN l l.length → R = .returned (.tuple #[.int .i64 0, .bool false])) := hide (fun h => by rw [← hRR, if_neg (by omega), decide_eq_false (by omega)])
  have HYE : Hid (whN l l.length ≤ most → R = .returned (.tuple #[.int .i64 (whN l l.length : Nat), .bool true])) := hide (fun h => by rw [← hRR, if_pos h, decide_eq_true h])
  rw [hRR]
  rw [hln] at HPO HMO HWP HNO HYE hn ⊢
  have HLN := hide hln
  clear hln hRR hR hl
  go_enter Tryd.func52, Tryd.ntmps52
  go_wp2_with fail
  go_loopw [6, 12] (fun v i wr => ∃ (k : Nat) (m : Nat), k ≤ n ∧ i = .int .i64 k ∧ v = .int .i64 (m : Int) ∧ m ≤ most ∧ Hid (m = whN l k) ∧ Hid (Below w.heap.size w wr)) (fun _ i _ => n - (intOf i).toNat)
  case atStart => exact ⟨0, 1, Nat.zero_le _, rfl, rfl, hm1, hide rfl, hide (Below.refl _ _)⟩
  case round =>
    obtain ⟨k, m, hk, rfl, rfl, hmm, HMK, HB⟩ := hrel
    by_cases hlt : k < n
    · obtain ⟨b, off, rfl, hb, c1, c2⟩ := PI.at_ (HR.out _ HB.out) (k := k) (by rw [HLN.out]; exact hlt)
      have hpo := HPO.out k hlt
      have hdn := dn_pos hpo
      have hsu : Nat.lcm m (dnF (l.getD k (0, 0))) = whN l (k + 1) := by rw [HMK.out]; rfl
      have hm0 : 1 ≤ m := by rw [HMK.out]; exact HWP.out k (by omega)
      obtain ⟨x, hx⟩ : ∃ x, l.getD k (0, 0) = x := ⟨_, rfl⟩
      rw [hx] at c1 c2 hpo hdn hsu
      obtain ⟨p1, p2, p3⟩ := poB_iff.1 hpo
      obtain ⟨a, ha⟩ := Int.eq_ofNat_of_zero_le (show 0 ≤ x.1 by omega)
      obtain ⟨q, hq⟩ := Int.eq_ofNat_of_zero_le (show 0 ≤ x.2 by omega)
      rw [ha] at c1 p1 p2
      rw [hq] at c2 p2 p3
      have hd : dnF x = q / Nat.gcd a q := by unfold dnF; rw [ha, hq]; rfl
      have hgp : 0 < Nat.gcd a q := Nat.gcd_pos_of_pos_right a (by omega)
      have HD1 := hide (fun W => divisor_q a q W)
      obtain ⟨g, hg⟩ : ∃ g, Nat.gcd a q = g := ⟨_, rfl⟩
      rw [hg] at hd hgp HD1
      obtain ⟨d, hd2⟩ : ∃ d, q / g = d := ⟨_, rfl⟩
      have t1 : ((q : Int)).tdiv (g : Int) = (d : Int) := by rw [Int.tdiv_eq_ediv_of_nonneg (by omega), ← hd2]; simp
      have t1' : (q : Int) / (g : Int) = (d : Int) := by rw [← hd2]; simp
      rw [hd2] at hd
      rw [hd] at hsu hdn
      have HD2 := hide (fun W => divisor_any m d W)
      have hg2 : 0 < Nat.gcd m d := Nat.gcd_pos_of_pos_left d (by omega)
      have hlc := lcm_eq m d
      obtain ⟨g2, hgg⟩ : ∃ g, Nat.gcd m d = g := ⟨_, rfl⟩
      rw [hgg] at HD2 hg2 hlc
      obtain ⟨y, hy⟩ : ∃ y, m / g2 = y := ⟨_, rfl⟩
      have hym : y ≤ m := by rw [← hy]; exact Nat.div_le_self _ _
      have t2 : ((m : Int)).tdiv (g2 : Int) = (y : Int) := by rw [Int.tdiv_eq_ediv_of_nonneg (by omega), ← hy]; simp
      have t2' : (m : Int) / (g2 : Int) = (y : Int) := by rw [← hy]; simp
      rw [hy, hsu] at hlc
      have hmb := mul_bd (show (0 : Int) ≤ (y : Int) by omega) (show (y : Int) ≤ 2000000000 by omega) (show (0 : Int) ≤ (d : Int) by omega) (show (d : Int) ≤ 1000000 by omega)
      obtain ⟨z, hz⟩ : ∃ z, y * d = z := ⟨_, rfl⟩
      have t3 : (y : Int) * (d : Int) = (z : Int) := by rw [← hz]; simp
      rw [t3] at hmb
      have w1 : IntKind.i64.wrap ((y : Int) * (d : Int)) = (z : Int) := by rw [t3]; exact IntWalk.i64_in _ (by omega)
      have w2 : IntKind.i64.wrap (d : Int) = (d : Int) := IntWalk.i64_in _ (by omega)
      have w3 : IntKind.i64.wrap (y : Int) = (y : Int) := IntWalk.i64_in _ (by omega)
      have HZ : Hid (z = whN l (k + 1)) := hide (by rw [← hz, hlc])
      have z1 : ((g : Int) == 0) = false := by rw [beq_eq_false_iff_ne]; omega
      have z2 : ((g2 : Int) == 0) = false := by rw [beq_eq_false_iff_ne]; omega
      have z3 : ¬ (g : Int) = 0 := by omega
      have z4 : ¬ (g2 : Int) = 0 := by omega
      clear hx hpo hd hd2 hg hgg hy hsu hlc hz ha hq
      have HBa := hide (HB.out.trans (((Below.refl wr.heap.size wr).alloc (Nat.le_refl _) (.cells #[.int .i64 (a : Int), .int .i64 (q : Int)] 37)).mono HB.out.size))
      go_upto_region 5 with fail
      go_quiet ((go_at_call 85; exact Calls.quiet_of (HD1.out _)))
      rename_i nq
      have HBb := hide (Below_dN HBa.out nq)
      generalize ((wr.alloc (.cells #[.int .i64 (a : Int), .int .i64 (q : Int)] 37)).drewN nq) = w5 at HBb ⊢
      have HZM : Hid (most < z → most < whN l n) := hide (fun h => by have := HMO.out (k + 1) (by omega); have := HZ.out; omega)
      by_cases hzm : most < z
      · have hzm' : (most : Int) < (z : Int) := by omega
        have hR := HNO.out (HZM.out hzm)
        have HRR := hide hR
        clear hR
        go_wp2_with fail
        refine (HD2.out _).mono ?_
        rintro e w6 ⟨rfl, hb6⟩
        go_wp2_with fail
        go_ret2
        refine ⟨?_, HBb.out.trans (hb6.mono HBb.out.size)⟩
        rw [HRR.out]
        rfl
      · have hzm' : ¬ (most : Int) < (z : Int) := by omega
        go_wp2_with fail
        refine (HD2.out _).mono ?_
        rintro e w6 ⟨rfl, hb6⟩
        have HB6 := hide (HBb.out.trans (hb6.mono HBb.out.size))
        clear hb6
        go_wp2_with fail
        go_roundw
        case rel => exact ⟨k + 1, z, by omega, by go_num, by first | rfl | (rw [t3]), by omega, HZ, HB6⟩
        case measure => simp [intOf]; omega
    · obtain rfl : n = k := by omega
      have hR := HYE.out (by rw [← HMK.out]; exact hmm)
      have HRR := hide hR
      go_wp2_with fail
      go_ret2
      refine ⟨?_, HB.out⟩
      rw [HRR.out, HMK.out]
      rfl
end Go.Proofs.YtlkkkgpcjdemdaaDoor
/- Stable sorting, plain: segments of a row, a range swapped with another one, a rotation. -/
namespace Go.Proofs.YtlkkkgpcjdemdaaDoor
section
variable {α : Type}
/-- what stands from a on, ahead of b -/
def seg (f : Nat → α) (a b : Nat) : List α := (List.range' a (b - a)).map f
theorem seg_append (f : Nat → α) {a m b : Nat} (h1 : a ≤ m) (h2 : m ≤ b) : seg f a m ++ seg f m b = seg f a b := by
  unfold seg
  rw [← List.map_append, show b - a = (m - a) + (b - m) by omega]
  have h : m = a + 1 * (m - a) := by omega
  have := List.range'_append (s := a) (m := m - a) (n := b - m) (step := 1)
  rw [← h] at this
  rw [this]
theorem mem_seg {f : Nat → α} {a b : Nat} {x : α} : x ∈ seg f a b ↔ ∃ i, a ≤ i ∧ i < b ∧ f i = x := by
  unfold seg
  simp only [List.mem_map, List.mem_range'_1]
  constructor
  · rintro ⟨i, ⟨h1, h2⟩, h3⟩; exact ⟨i, h1, by omega, h3⟩
  · rintro ⟨i, h1, h2, h3⟩; exact ⟨i, ⟨h1, by omega⟩, h3⟩
theorem seg_length (f : Nat → α) (a b : Nat) : (seg f a b).length = b - a := by simp [seg]
theorem seg_get (f : Nat → α) (a b i : Nat) (h : i < (seg f a b).length) : (seg f a b)[i] = f (a + i) := by
  simp [seg]
theorem seg_shift {f g : Nat → α} {a b n : Nat} (h : ∀ i, i < n → f (a + i) = g (b + i)) : seg f a (a + n) = seg g b (b + n) := by
  apply List.ext_getElem
  · rw [seg_length, seg_length]; omega
  · intro i h1 h2
    rw [seg_get, seg_get]
    rw [seg_length] at h1
    exact h i (by omega)
theorem seg_congr {f g : Nat → α} {a b : Nat} (h : ∀ i, a ≤ i → i < b → f i = g i) : seg f a b = seg g a b := by
  apply List.ext_getElem
  · rw [seg_length, seg_length]
  · intro i h1 h2
    rw [seg_get, seg_get]
    rw [seg_length] at h1
    exact h _ (by omega) (by omega)
theorem seg_nil (f : Nat → α) {a b : Nat} (h : b ≤ a) : seg f a b = [] := by
  apply List.eq_nil_of_length_eq_zero
  rw [seg_length]; omega
theorem seg_one (f : Nat → α) (a : Nat) : seg f a (a + 1) = [f a] := by simp [seg]
theorem pair_seg {R : α → α → Prop} {f : Nat → α} {a b : Nat} : (seg f a b).Pairwise R ↔ ∀ i j, a ≤ i → i < j → j < b → R (f i) (f j) := by
  rw [List.pairwise_iff_getElem]
  constructor
  · intro h i j h1 h2 h3
    have := h (i - a) (j - a) (by rw [seg_length]; omega) (by rw [seg_length]; omega) (by omega)
    rw [seg_get, seg_get] at this
    rwa [show a + (i - a) = i by omega, show a + (j - a) = j by omega] at this
  · intro h i j hi hj hij
    rw [seg_get, seg_get]
    rw [seg_length] at hi hj
    exact h _ _ (by omega) (by omega) (by omega)
/-- two elements change places -/
def swp (f : Nat → α) (i j : Nat) : Nat → α := fun k => if k = i then f j else if k = j then f i else f k
/-- n elements from a on change places with those from b on -/
def swapR (f : Nat → α) (a b n : Nat) : Nat → α := fun k => if a ≤ k ∧ k < a + n then f (k - a + b) else if b ≤ k ∧ k < b + n then f (k - b + a) else f k
theorem swapR_zero (f : Nat → α) (a b : Nat) : swapR f a b 0 = f := by
  funext k
  unfold swapR
  rw [if_neg (by omega), if_neg (by omega)]
theorem swapR_succ (f : Nat → α) {a b n : Nat} (h : a + n < b) : swapR f a b (n + 1) = swp (swapR f a b n) (a + n) (b + n) := by
  funext k
  unfold swp swapR
  by_cases e1 : k = a + n
  · subst e1
    rw [if_pos (by omega), if_pos rfl, if_neg (by omega), if_neg (by omega)]
    congr 1; omega
  · rw [if_neg e1]
    by_cases e2 : k = b + n
    · subst e2
      rw [if_neg (by omega), if_pos (by omega), if_pos rfl, if_neg (by omega), if_neg (by omega)]
      congr 1; omega
    · rw [if_neg e2]
      by_cases e3 : a ≤ k ∧ k < a + n
      · rw [if_pos (by omega), if_pos e3]
      · rw [if_neg (by omega), if_neg e3]
        by_cases e4 : b ≤ k ∧ k < b + n
        · rw [if_pos (by omega), if_pos e4]
        · rw [if_neg (by omega), if_neg e4]
/-- [a, m) and [m, b) change places -/
def rotF (f : Nat → α) (a m b : Nat) : Nat → α := fun k => if a ≤ k ∧ k < a + (b - m) then f (k + (m - a)) else if a + (b - m) ≤ k ∧ k < b then f (k - (b - m)) else f k
theorem rot_left (f : Nat → α) {m i j : Nat} (hi : i ≤ m) (h : j < i) : rotF (swapR f (m - i) m j) (m - (i - j)) m (m + j) = rotF f (m - i) m (m + j) := by
  funext k
  unfold rotF swapR
  repeat' split
  all_goals first | (exfalso; omega) | rfl | (congr 1; omega)
theorem rot_right (f : Nat → α) {m i j : Nat} (hi : i ≤ m) (h : i < j) : rotF (swapR f (m - i) (m + j - i) i) (m - i) m (m + (j - i)) = rotF f (m - i) m (m + j) := by
  funext k
  unfold rotF swapR
  repeat' split
  all_goals first | (exfalso; omega) | rfl | (congr 1; omega)
theorem rot_even (f : Nat → α) {m i : Nat} (hi : i ≤ m) : swapR f (m - i) m i = rotF f (m - i) m (m + i) := by
  funext k
  unfold rotF swapR
  repeat' split
  all_goals first | (exfalso; omega) | rfl | (congr 1; omega)
theorem rot_seg (f : Nat → α) {a m b : Nat} (h1 : a ≤ m) (h2 : m ≤ b) : seg (rotF f a m b) a (a + (b - m)) = seg f m b ∧ seg (rotF f a m b) (a + (b - m)) b = seg f a m := by
  constructor
  · have h := seg_shift (f := rotF f a m b) (g := f) (a := a) (b := m) (n := b - m) (fun i hi => by
      unfold rotF
      rw [if_pos (by omega)]; congr 1; omega)
    rwa [show m + (b - m) = b by omega] at h
  · have h := seg_shift (f := rotF f a m b) (g := f) (a := a + (b - m)) (b := a) (n := m - a) (fun i hi => by
      unfold rotF
      rw [if_neg (by omega), if_pos (by omega)]; congr 1; omega)
    rwa [show a + (b - m) + (m - a) = b by omega, show a + (m - a) = m by omega] at h
theorem rot_out (f : Nat → α) {a m b k : Nat} (h2 : m ≤ b) (hk : k < a ∨ b ≤ k) (h1 : a ≤ m) : rotF f a m b k = f k := by
  unfold rotF
  rw [if_neg (by omega), if_neg (by omega)]
end
end Go.Proofs.YtlkkkgpcjdemdaaDoor
/- Stable sorting, plain: two sorted segments merged. -/
namespace Go.Proofs.YtlkkkgpcjdemdaaDoor
/-- less: what is asked; lt: the order that is made, in which no two are alike (what less has to do with lt is said of the elements alone: Ahead) -/
structure Ord2 {α : Type} (less : α → α → Bool) (lt : α → α → Prop) : Prop where
  tr : ∀ x y z, lt x y → lt y z → lt x z
section
variable {α : Type} {less : α → α → Bool} {lt : α → α → Prop}
/-- x stood ahead of y -/
def Ahead (less : α → α → Bool) (lt : α → α → Prop) (x y : α) : Prop := (less y x = false → lt x y) ∧ (less y x = true → lt y x)
/-- nothing outside, and what stood inside, stands there still -/
def Keeps (f g : Nat → α) (a b : Nat) : Prop := (∀ k, k < a ∨ b ≤ k → g k = f k) ∧ (seg g a b).Perm (seg f a b)
theorem Keeps.refl (f : Nat → α) (a b : Nat) : Keeps f f a b := ⟨fun _ _ => rfl, .refl _⟩
theorem Keeps.trans {f g h : Nat → α} {a b : Nat} (h1 : Keeps f g a b) (h2 : Keeps g h a b) : Keeps f h a b := ⟨fun k hk => (h2.1 k hk).trans (h1.1 k hk), h2.2.trans h1.2⟩
theorem Keeps.wide {f g : Nat → α} {a b c d : Nat} (h : Keeps f g a b) (h1 : c ≤ a) (hab : a ≤ b) (h2 : b ≤ d) : Keeps f g c d := by
  refine ⟨fun k hk => h.1 k (by omega), ?_⟩
  rw [← seg_append g h1 (by omega), ← seg_append g hab h2, ← seg_append f h1 (by omega), ← seg_append f hab h2]
  rw [seg_congr (f := g) (g := f) (a := c) (b := a) (fun i _ hi => h.1 i (by omega)), seg_congr (f := g) (g := f) (a := b) (b := d) (fun i hi _ => h.1 i (by omega))]
  exact List.Perm.append_left _ (h.2.append_right _)
theorem Keeps.far {f g : Nat → α} {a b c d : Nat} (h : Keeps f g a b) (h1 : d ≤ a ∨ b ≤ c) : seg g c d = seg f c d := seg_congr fun i h2 h3 => h.1 i (by omega)
/-- ahead of a merge -/
structure MP (less : α → α → Bool) (lt : α → α → Prop) (f : Nat → α) (a m b : Nat) : Prop where
  am : a ≤ m
  mb : m ≤ b
  l : (seg f a m).Pairwise lt
  r : (seg f m b).Pairwise lt
  x : ∀ x ∈ seg f a m, ∀ y ∈ seg f m b, Ahead less lt x y
/-- behind a merge -/
def MQ (lt : α → α → Prop) (f g : Nat → α) (a b : Nat) : Prop := Keeps f g a b ∧ (seg g a b).Pairwise lt
theorem MP.done {f : Nat → α} {a m b : Nat} (h : MP less lt f a m b) (hm : m = a ∨ m = b) : MQ lt f f a b := by
  refine ⟨Keeps.refl _ _ _, ?_⟩
  rcases hm with rfl | rfl
  · exact h.r
  · exact h.l
theorem rot_keeps (f : Nat → α) {a s m e b : Nat} (h0 : a ≤ s) (h1 : s ≤ m) (h2 : m ≤ e) (h3 : e ≤ b) : Keeps f (rotF f s m e) a b := by
  refine Keeps.wide (a := s) (b := e) ⟨fun k hk => rot_out f h2 hk h1, ?_⟩ h0 (by omega) h3
  obtain ⟨p1, p2⟩ := rot_seg f h1 h2
  rw [← seg_append (rotF f s m e) (m := s + (e - m)) (by omega) (by omega), p1, p2, ← seg_append f h1 h2]
  exact List.perm_append_comm
/-- the segments behind a rotation -/
theorem rot_segs (f : Nat → α) {a s m e b mid : Nat} (h0 : a ≤ s) (h1 : s ≤ m) (h2 : m ≤ e) (h3 : e ≤ b) (hmid : mid = s + (e - m)) :
    seg (rotF f s m e) a s = seg f a s ∧ seg (rotF f s m e) s mid = seg f m e ∧ seg (rotF f s m e) mid e = seg f s m ∧ seg (rotF f s m e) e b = seg f e b := by
  subst hmid
  obtain ⟨p1, p2⟩ := rot_seg f h1 h2
  exact ⟨seg_congr fun i _ hi => rot_out f h2 (.inl hi) h1, p1, p2, seg_congr fun i hi _ => rot_out f h2 (.inr hi) h1⟩
theorem pair_le {R : α → α → Prop} {f : Nat → α} {a b : Nat} (h : (seg f a b).Pairwise R) {i j : Nat} (h1 : a ≤ i) (h2 : i < j) (h3 : j < b) : R (f i) (f j) := pair_seg.1 h i j h1 h2 h3
/-- behind the search, and the rotation -/
theorem MP.split (O : Ord2 less lt) {f : Nat → α} {a m b s e mid : Nat} (h : MP less lt f a m b) (h0 : a ≤ s) (h1 : s ≤ m) (h2 : m ≤ e) (h3 : e ≤ b) (hmid : mid = s + (e - m))
    (q1 : s < m → m < e → less (f (e - 1)) (f s) = true) (q2 : a < s → e < b → less (f e) (f (s - 1)) = false) :
    MP less lt (rotF f s m e) a s mid ∧ MP less lt (rotF f s m e) mid e b ∧ ∀ x ∈ seg (rotF f s m e) a mid, ∀ y ∈ seg (rotF f s m e) mid b, lt x y := by
  obtain ⟨p1, p2, p3, p4⟩ := rot_segs f h0 h1 h2 h3 hmid
  have hl := h.l
  have hr := h.r
  have sl : ∀ x, x ∈ seg f a s → x ∈ seg f a m := fun x hx => by obtain ⟨i, a1, a2, a3⟩ := mem_seg.1 hx; exact mem_seg.2 ⟨i, a1, by omega, a3⟩
  have sr : ∀ x, x ∈ seg f s m → x ∈ seg f a m := fun x hx => by obtain ⟨i, a1, a2, a3⟩ := mem_seg.1 hx; exact mem_seg.2 ⟨i, by omega, a2, a3⟩
  have el : ∀ x, x ∈ seg f m e → x ∈ seg f m b := fun x hx => by obtain ⟨i, a1, a2, a3⟩ := mem_seg.1 hx; exact mem_seg.2 ⟨i, a1, by omega, a3⟩
  have er : ∀ x, x ∈ seg f e b → x ∈ seg f m b := fun x hx => by obtain ⟨i, a1, a2, a3⟩ := mem_seg.1 hx; exact mem_seg.2 ⟨i, by omega, a2, a3⟩
  refine ⟨⟨h0, by omega, ?_, ?_, ?_⟩, ⟨by omega, h3, ?_, ?_, ?_⟩, ?_⟩
  · rw [p1]; exact pair_seg.2 fun i j a1 a2 a3 => pair_le hl a1 a2 (by omega)
  · rw [p2]; exact pair_seg.2 fun i j a1 a2 a3 => pair_le hr a1 a2 (by omega)
  · rw [p1, p2]; exact fun x hx y hy => h.x x (sl x hx) y (el y hy)
  · rw [p3]; exact pair_seg.2 fun i j a1 a2 a3 => pair_le hl (by omega) a2 a3
  · rw [p4]; exact pair_seg.2 fun i j a1 a2 a3 => pair_le hr (by omega) a2 a3
  · rw [p3, p4]; exact fun x hx y hy => h.x x (sr x hx) y (er y hy)
  · rw [← seg_append _ h0 (show s ≤ mid by omega), ← seg_append _ (show mid ≤ e by omega) h3, p1, p2, p3, p4]
    intro x hx y hy
    rw [List.mem_append] at hx hy
    rcases hx with hx | hx <;> rcases hy with hy | hy <;> obtain ⟨i, a1, a2, rfl⟩ := mem_seg.1 hx <;> obtain ⟨j, b1, b2, rfl⟩ := mem_seg.1 hy
    · exact pair_le hl a1 (by omega) b2
    · have c := (h.x _ (mem_seg.2 ⟨s - 1, by omega, by omega, rfl⟩) _ (mem_seg.2 ⟨e, by omega, by omega, rfl⟩)).1 (q2 (by omega) (by omega))
      have c1 : lt (f i) (f e) := by
        by_cases e1 : i = s - 1
        · rw [e1]; exact c
        · exact O.tr _ _ _ (pair_le hl a1 (show i < s - 1 by omega) (by omega)) c
      by_cases e2 : j = e
      · rw [e2]; exact c1
      · exact O.tr _ _ _ c1 (pair_le hr (show m ≤ e by omega) (by omega) b2)
    · have c := (h.x _ (mem_seg.2 ⟨s, by omega, by omega, rfl⟩) _ (mem_seg.2 ⟨e - 1, by omega, by omega, rfl⟩)).2 (q1 (by omega) (by omega))
      have c1 : lt (f i) (f s) := by
        by_cases e1 : i = e - 1
        · rw [e1]; exact c
        · exact O.tr _ _ _ (pair_le hr a1 (show i < e - 1 by omega) (by omega)) c
      by_cases e2 : j = s
      · rw [e2]; exact c1
      · exact O.tr _ _ _ c1 (pair_le hl (show a ≤ s by omega) (by omega) b2)
    · exact pair_le hr a1 (by omega) b2
/-- both halves are merged -/
theorem MQ.join {f g g1 g2 : Nat → α} {a mid b : Nat} (h1 : a ≤ mid) (h2 : mid ≤ b) (hk : Keeps f g a b) (hx : ∀ x ∈ seg g a mid, ∀ y ∈ seg g mid b, lt x y) (m1 : MQ lt g g1 a mid) (m2 : MQ lt g1 g2 mid b) : MQ lt f g2 a b := by
  have k1 : Keeps f g2 a b := (hk.trans (m1.1.wide (Nat.le_refl _) h1 h2)).trans (m2.1.wide h1 h2 (Nat.le_refl _))
  refine ⟨k1, ?_⟩
  rw [← seg_append _ h1 h2, List.pairwise_append]
  have e1 : seg g2 a mid = seg g1 a mid := m2.1.far (.inl (Nat.le_refl _))
  have e2 : seg g1 mid b = seg g mid b := m1.1.far (.inr (Nat.le_refl _))
  refine ⟨by rw [e1]; exact m1.2, m2.2, fun x h3 y h4 => ?_⟩
  rw [e1] at h3
  have h5 := m2.1.2.mem_iff.1 h4
  rw [e2] at h5
  exact hx x (m1.1.2.mem_iff.1 h3) y h5
/-- the right half, once the left one is merged -/
theorem MP.later {g g1 : Nat → α} {a mid m b : Nat} (h : MP less lt g mid m b) (m1 : MQ lt g g1 a mid) : MP less lt g1 mid m b := by
  have h1 := h.am
  have h2 := h.mb
  have e1 : seg g1 mid m = seg g mid m := m1.1.far (.inr (Nat.le_refl _))
  have e2 : seg g1 m b = seg g m b := m1.1.far (.inr h1)
  exact ⟨h1, h2, by rw [e1]; exact h.l, by rw [e2]; exact h.r, by rw [e1, e2]; exact h.x⟩
theorem four_sorted {A B C D : List α} (h1 : (A ++ B).Pairwise lt) (h2 : (C ++ D).Pairwise lt) (hAC : ∀ x ∈ A, ∀ y ∈ C, lt x y) (hAD : ∀ x ∈ A, ∀ y ∈ D, lt x y) (hCB : ∀ x ∈ C, ∀ y ∈ B, lt x y) (hBD : ∀ x ∈ B, ∀ y ∈ D, lt x y) :
    (A ++ (C ++ (B ++ D))).Pairwise lt := by
  rw [List.pairwise_append] at h1 h2
  rw [List.pairwise_append, List.pairwise_append, List.pairwise_append]
  refine ⟨h1.1, ⟨h2.1, ⟨h1.2.1, h2.2.1, hBD⟩, fun x hx y hy => ?_⟩, fun x hx y hy => ?_⟩
  · rcases List.mem_append.1 hy with h | h
    · exact hCB x hx y h
    · exact h2.2.2 x hx y h
  · rcases List.mem_append.1 hy with h | h
    · exact hAC x hx y h
    · rcases List.mem_append.1 h with h | h
      · exact h1.2.2 x hx y h
      · exact hAD x hx y h
/-- one element put into the right segment -/
theorem MP.left1 (O : Ord2 less lt) {f : Nat → α} {a b i : Nat} (h : MP less lt f a (a + 1) b) (h1 : a + 1 ≤ i) (h2 : i ≤ b) (q1 : a + 1 < i → less (f (i - 1)) (f a) = true) (q2 : i < b → less (f i) (f a) = false) : MQ lt f (rotF f a (a + 1) i) a b := by
  refine ⟨rot_keeps f (Nat.le_refl _) (by omega) h1 h2, ?_⟩
  obtain ⟨p1, p2, p3, p4⟩ := rot_segs f (a := a) (s := a) (m := a + 1) (e := i) (b := b) (mid := a + (i - (a + 1))) (Nat.le_refl _) (by omega) h1 h2 rfl
  have hr := h.r
  rw [← seg_append _ (show a ≤ a + (i - (a + 1)) by omega) (show a + (i - (a + 1)) ≤ b by omega), ← seg_append _ (show a + (i - (a + 1)) ≤ i by omega) h2, p2, p3, p4]
  have := four_sorted (lt := lt) (A := []) (B := seg f a (a + 1)) (C := seg f (a + 1) i) (D := seg f i b) (by simpa using h.l) (by rw [seg_append _ h1 h2]; exact hr) (by simp) (by simp) (fun x hx y hy => by
    obtain ⟨k, a1, a2, rfl⟩ := mem_seg.1 hx
    rw [seg_one] at hy
    obtain rfl := List.mem_singleton.1 hy
    have c := (h.x _ (mem_seg.2 ⟨a, by omega, by omega, rfl⟩) _ (mem_seg.2 ⟨i - 1, by omega, by omega, rfl⟩)).2 (q1 (by omega))
    by_cases e1 : k = i - 1
    · rw [e1]; exact c
    · exact O.tr _ _ _ (pair_le hr a1 (show k < i - 1 by omega) (by omega)) c) (fun x hx y hy => by
    obtain ⟨k, a1, a2, rfl⟩ := mem_seg.1 hy
    rw [seg_one] at hx
    obtain rfl := List.mem_singleton.1 hx
    have c := (h.x _ (mem_seg.2 ⟨a, by omega, by omega, rfl⟩) _ (mem_seg.2 ⟨i, by omega, by omega, rfl⟩)).1 (q2 (by omega))
    by_cases e1 : k = i
    · rw [e1]; exact c
    · exact O.tr _ _ _ c (pair_le hr h1 (by omega) a2))
  simpa using this
/-- one element put into the left segment -/
theorem MP.right1 (O : Ord2 less lt) {f : Nat → α} {a m i : Nat} (h : MP less lt f a m (m + 1)) (h1 : a ≤ i) (h2 : i ≤ m) (q1 : a < i → less (f m) (f (i - 1)) = false) (q2 : i < m → less (f m) (f i) = true) : MQ lt f (rotF f i m (m + 1)) a (m + 1) := by
  refine ⟨rot_keeps f h1 h2 (by omega) (Nat.le_refl _), ?_⟩
  obtain ⟨p1, p2, p3, p4⟩ := rot_segs f (a := a) (s := i) (m := m) (e := m + 1) (b := m + 1) (mid := i + (m + 1 - m)) h1 h2 (by omega) (Nat.le_refl _) rfl
  have hl := h.l
  rw [← seg_append _ h1 (show i ≤ m + 1 by omega), ← seg_append _ (show i ≤ i + (m + 1 - m) by omega) (show i + (m + 1 - m) ≤ m + 1 by omega), p1, p2, p3]
  have := four_sorted (lt := lt) (A := seg f a i) (B := seg f i m) (C := seg f m (m + 1)) (D := []) (by rw [seg_append _ h1 h2]; exact hl) (by simpa using h.r) (fun x hx y hy => by
    obtain ⟨k, a1, a2, rfl⟩ := mem_seg.1 hx
    rw [seg_one] at hy
    obtain rfl := List.mem_singleton.1 hy
    have c := (h.x _ (mem_seg.2 ⟨i - 1, by omega, by omega, rfl⟩) _ (mem_seg.2 ⟨m, by omega, by omega, rfl⟩)).1 (q1 (by omega))
    by_cases e1 : k = i - 1
    · rw [e1]; exact c
    · exact O.tr _ _ _ (pair_le hl a1 (show k < i - 1 by omega) (by omega)) c) (by simp) (fun x hx y hy => by
    obtain ⟨k, a1, a2, rfl⟩ := mem_seg.1 hy
    rw [seg_one] at hx
    obtain rfl := List.mem_singleton.1 hx
    have c := (h.x _ (mem_seg.2 ⟨i, by omega, by omega, rfl⟩) _ (mem_seg.2 ⟨m, by omega, by omega, rfl⟩)).2 (q2 (by omega))
    by_cases e1 : k = i
    · rw [e1]; exact c
    · exact O.tr _ _ _ c (pair_le hl h1 (by omega) a2)) (by simp)
  simpa using this
end
end Go.Proofs.YtlkkkgpcjdemdaaDoor
/- Stable sorting, plain: insertion, blocks, rounds of merges. -/
namespace Go.Proofs.YtlkkkgpcjdemdaaDoor
section
variable {α : Type} {less : α → α → Bool} {lt : α → α → Prop}
theorem rot_same (f : Nat → α) (a b : Nat) : rotF f a a b = f := by
  funext k
  unfold rotF
  repeat' split
  all_goals first | rfl | (congr 1; omega) | (exfalso; omega)
theorem rot_same' (f : Nat → α) (a b : Nat) : rotF f a b b = f := by
  funext k
  unfold rotF
  repeat' split
  all_goals first | rfl | (congr 1; omega) | (exfalso; omega)
/-- the element at i goes one place to the left -/
theorem swp_back (f : Nat → α) {i j : Nat} (h : j < i) : swp (rotF f (j + 1) i (i + 1)) (j + 1) j = rotF f j i (i + 1) := by
  funext k
  unfold swp rotF
  repeat' split
  all_goals first | (exfalso; omega) | rfl | (congr 1; omega)
/-- the element at a goes one place to the right -/
theorem swp_on (f : Nat → α) {a k : Nat} (h : a ≤ k) : swp (rotF f a (a + 1) (k + 1)) k (k + 1) = rotF f a (a + 1) (k + 2) := by
  funext i
  unfold swp rotF
  repeat' split
  all_goals first | (exfalso; omega) | rfl | (congr 1; omega)
theorem rot_at (f : Nat → α) {i j : Nat} (h : j ≤ i) : rotF f j i (i + 1) j = f i := by
  unfold rotF
  rw [if_pos (by omega)]; congr 1; omega
theorem rot_before (f : Nat → α) {i j k : Nat} (h : k < j) : rotF f j i (i + 1) k = f k := by
  unfold rotF
  rw [if_neg (by omega), if_neg (by omega)]
/-- an element is put in -/
theorem ins_step (O : Ord2 less lt) {f0 f : Nat → α} {a b i j : Nat} (h : MQ lt f0 f a i) (hp : ∀ x y, a ≤ x → x < y → y < b → Ahead less lt (f0 x) (f0 y)) (hi : i < b) (h1 : a ≤ j) (h2 : j ≤ i)
    (q1 : a < j → less (f i) (f (j - 1)) = false) (q2 : j < i → less (f i) (f j) = true) : MQ lt f0 (rotF f j i (i + 1)) a (i + 1) := by
  have hai : a ≤ i := by omega
  have e : f i = f0 i := h.1.1 i (.inr (Nat.le_refl _))
  have hm : MP less lt f a i (i + 1) := ⟨hai, by omega, h.2, by rw [seg_one]; exact List.pairwise_singleton _ _, fun x hx y hy => by
    rw [seg_one] at hy
    obtain rfl := List.mem_singleton.1 hy
    obtain ⟨k, k1, k2, rfl⟩ := mem_seg.1 (h.1.2.mem_iff.1 hx)
    rw [e]
    exact hp k i k1 k2 hi⟩
  have hq := hm.right1 O h1 h2 q1 q2
  exact ⟨(h.1.wide (Nat.le_refl _) hai (by omega)).trans hq.1, hq.2⟩
theorem ins_none (f : Nat → α) (a : Nat) : MQ lt f f a a := ⟨Keeps.refl _ _ _, by rw [seg_nil _ (Nat.le_refl _)]; exact List.Pairwise.nil⟩
theorem ins_one (f : Nat → α) (a : Nat) : MQ lt f f a (a + 1) := ⟨Keeps.refl _ _ _, by rw [seg_one]; exact List.pairwise_singleton _ _⟩
/-- what stands ahead of c stood ahead of what stands behind it -/
def Cut (less : α → α → Bool) (lt : α → α → Prop) (n : Nat) (f : Nat → α) (c : Nat) : Prop := ∀ x ∈ seg f 0 c, ∀ y ∈ seg f c n, Ahead less lt x y
theorem Cut.keep {n : Nat} {f g : Nat → α} {a b c : Nat} (h : Cut less lt n f c) (hk : Keeps f g a b) (hab : a ≤ b) (hb : b ≤ n) (hc : c ≤ a ∨ b ≤ c) (hcn : c ≤ n) : Cut less lt n g c := by
  have h1 : (seg g 0 c).Perm (seg f 0 c) := by
    rcases hc with h0 | h0
    · rw [hk.far (.inl h0)]
    · exact (hk.wide (Nat.zero_le _) hab h0).2
  have h2 : (seg g c n).Perm (seg f c n) := by
    rcases hc with h0 | h0
    · exact (hk.wide h0 hab hb).2
    · rw [hk.far (.inr h0)]
  exact fun x hx y hy => h x (h1.mem_iff.1 hx) y (h2.mem_iff.1 hy)
theorem Cut.start {n : Nat} {f : Nat → α} (hp : ∀ x y, x < y → y < n → Ahead less lt (f x) (f y)) (c : Nat) : Cut less lt n f c := fun x hx y hy => by
  obtain ⟨i, i1, i2, rfl⟩ := mem_seg.1 hx
  obtain ⟨j, j1, j2, rfl⟩ := mem_seg.1 hy
  exact hp i j (by omega) j2
theorem Cut.mp {n : Nat} {f : Nat → α} {a m b : Nat} (h : Cut less lt n f m) (h1 : a ≤ m) (h2 : m ≤ b) (h3 : b ≤ n) (hl : (seg f a m).Pairwise lt) (hr : (seg f m b).Pairwise lt) : MP less lt f a m b :=
  ⟨h1, h2, hl, hr, fun x hx y hy => by
    obtain ⟨i, i1, i2, rfl⟩ := mem_seg.1 hx
    obtain ⟨j, j1, j2, rfl⟩ := mem_seg.1 hy
    exact h _ (mem_seg.2 ⟨i, by omega, i2, rfl⟩) _ (mem_seg.2 ⟨j, j1, by omega, rfl⟩)⟩
/-- blocks of the size bs are sorted -/
structure BInv (less : α → α → Bool) (lt : α → α → Prop) (n : Nat) (f0 f : Nat → α) (bs : Nat) : Prop where
  keeps : Keeps f0 f 0 n
  sorted : ∀ s, (seg f (s * bs) (min (s * bs + bs) n)).Pairwise lt
  cut : ∀ s, s * bs ≤ n → Cut less lt n f (s * bs)
/-- blocks of 20 are sorted up to a -/
structure IInv (less : α → α → Bool) (lt : α → α → Prop) (n : Nat) (f0 f : Nat → α) (t : Nat) : Prop where
  keeps : Keeps f0 f 0 n
  sorted : ∀ s, s < t → (seg f (s * 20) (s * 20 + 20)).Pairwise lt
  rest : ∀ i, t * 20 ≤ i → f i = f0 i
  cut : ∀ s, s * 20 ≤ n → Cut less lt n f (s * 20)
theorem IInv.start {n : Nat} {f : Nat → α} (hp : ∀ x y, x < y → y < n → Ahead less lt (f x) (f y)) : IInv less lt n f f 0 :=
  ⟨Keeps.refl _ _ _, fun s hs => absurd hs (by omega), fun _ _ => rfl, fun s _ => Cut.start hp _⟩
theorem IInv.pre {n : Nat} {f0 f : Nat → α} {t : Nat} (h : IInv less lt n f0 f t) (hp : ∀ x y, x < y → y < n → Ahead less lt (f0 x) (f0 y)) : ∀ x y, t * 20 ≤ x → x < y → y < n → Ahead less lt (f x) (f y) := fun x y h1 h2 h3 => by
  rw [h.rest x h1, h.rest y (by omega)]
  exact hp x y h2 h3
theorem IInv.next {n : Nat} {f0 f g : Nat → α} {t : Nat} (h : IInv less lt n f0 f t) (hn : t * 20 + 20 ≤ n) (hq : MQ lt f g (t * 20) (t * 20 + 20)) : IInv less lt n f0 g (t + 1) := by
  refine ⟨h.keeps.trans (hq.1.wide (by omega) (by omega) hn), fun s hs => ?_, fun i hi => ?_, fun s hs => (h.cut s hs).keep hq.1 (by omega) hn (by omega) hs⟩
  · by_cases e : s = t
    · subst e; exact hq.2
    · rw [hq.1.far (.inl (by omega))]; exact h.sorted s (by omega)
  · rw [hq.1.1 i (.inr (by omega))]; exact h.rest i (by omega)
theorem IInv.done {n : Nat} {f0 f g : Nat → α} {t : Nat} (h : IInv less lt n f0 f t) (h1 : t * 20 ≤ n) (h2 : n < t * 20 + 20) (hq : MQ lt f g (t * 20) n) : BInv less lt n f0 g 20 := by
  refine ⟨h.keeps.trans (hq.1.wide (by omega) h1 (Nat.le_refl _)), fun s => ?_, fun s hs => (h.cut s hs).keep hq.1 h1 (Nat.le_refl _) (by omega) hs⟩
  by_cases e : s = t
  · subst e
    rw [show min (s * 20 + 20) n = n by omega]; exact hq.2
  · by_cases e2 : s < t
    · rw [show min (s * 20 + 20) n = s * 20 + 20 by omega, hq.1.far (.inl (by omega))]; exact h.sorted s e2
    · rw [seg_nil _ (by omega)]; exact List.Pairwise.nil
theorem BInv.done {n bs : Nat} {f0 f : Nat → α} (h : BInv less lt n f0 f bs) (hn : n ≤ bs) : MQ lt f0 f 0 n := by
  have := h.sorted 0
  rw [Nat.zero_mul, Nat.zero_add, show min bs n = n by omega] at this
  exact ⟨h.keeps, this⟩
/-- in a round of merges: two by two they are merged up to t -/
structure RInv (less : α → α → Bool) (lt : α → α → Prop) (n : Nat) (f0 f : Nat → α) (bs t : Nat) : Prop where
  keeps : Keeps f0 f 0 n
  big : ∀ s, s < t → (seg f (s * (2 * bs)) (s * (2 * bs) + 2 * bs)).Pairwise lt
  small : ∀ s, 2 * t ≤ s → (seg f (s * bs) (min (s * bs + bs) n)).Pairwise lt
  cut : ∀ s, s * (2 * bs) ≤ n → Cut less lt n f (s * (2 * bs))
  mid : ∀ s, 2 * t ≤ s → s * bs ≤ n → Cut less lt n f (s * bs)
theorem RInv.start {n bs : Nat} {f0 f : Nat → α} (h : BInv less lt n f0 f bs) : RInv less lt n f0 f bs 0 :=
  ⟨h.keeps, fun s hs => absurd hs (by omega), fun s _ => h.sorted s, fun s hs => by
    have e : s * (2 * bs) = (2 * s) * bs := by rw [Nat.mul_left_comm, Nat.mul_assoc]
    rw [e] at hs ⊢
    exact h.cut _ hs, fun s _ hs => h.cut s hs⟩
theorem mul2 (t bs : Nat) : (2 * t) * bs = t * (2 * bs) ∧ (2 * t + 1) * bs = t * (2 * bs) + bs ∧ (2 * t + 2) * bs = t * (2 * bs) + 2 * bs := by
  have e : (2 * t) * bs = t * (2 * bs) := by rw [Nat.mul_left_comm, Nat.mul_assoc]
  refine ⟨e, ?_, ?_⟩
  · rw [Nat.add_mul, e, Nat.one_mul]
  · rw [Nat.add_mul, e]
theorem mul_le' {s t : Nat} (k : Nat) (h : s ≤ t) : s * k ≤ t * k := Nat.mul_le_mul_right k h
theorem RInv.pair {n bs t : Nat} {f0 f : Nat → α} (h : RInv less lt n f0 f bs t) {b : Nat} (h1 : t * (2 * bs) + bs ≤ b) (h2 : b ≤ t * (2 * bs) + 2 * bs) (h3 : b ≤ n) (h4 : b = n ∨ b = t * (2 * bs) + 2 * bs) : MP less lt f (t * (2 * bs)) (t * (2 * bs) + bs) b := by
  obtain ⟨e1, e2, e3⟩ := mul2 t bs
  have c := h.mid (2 * t + 1) (by omega) (by omega)
  have s1 := h.small (2 * t) (Nat.le_refl _)
  have s2 := h.small (2 * t + 1) (by omega)
  rw [e1, show min (t * (2 * bs) + bs) n = t * (2 * bs) + bs by omega] at s1
  rw [e2] at c s2
  rw [show min (t * (2 * bs) + bs + bs) n = b by omega] at s2
  exact c.mp (by omega) h1 h3 s1 s2
theorem RInv.next {n bs t : Nat} {f0 f g : Nat → α} (h : RInv less lt n f0 f bs t) (hn : t * (2 * bs) + 2 * bs ≤ n) (hq : MQ lt f g (t * (2 * bs)) (t * (2 * bs) + 2 * bs)) : RInv less lt n f0 g bs (t + 1) := by
  obtain ⟨e1, e2, e3⟩ := mul2 t bs
  refine ⟨h.keeps.trans (hq.1.wide (by omega) (by omega) hn), fun s hs => ?_, fun s hs => ?_, fun s hs => (h.cut s hs).keep hq.1 (by omega) hn ?_ hs, fun s h1 hs => (h.mid s (by omega) hs).keep hq.1 (by omega) hn ?_ hs⟩
  · by_cases e : s = t
    · subst e; exact hq.2
    · have := mul_le' (2 * bs) (show s + 1 ≤ t by omega)
      rw [Nat.add_mul, Nat.one_mul] at this
      rw [hq.1.far (.inl this)]; exact h.big s (by omega)
  · have := mul_le' bs (show 2 * t + 2 ≤ s by omega)
    rw [hq.1.far (.inr (by omega))]; exact h.small s (by omega)
  · by_cases e : s ≤ t
    · exact .inl (mul_le' _ e)
    · have := mul_le' (2 * bs) (show t + 1 ≤ s by omega)
      rw [Nat.add_mul, Nat.one_mul] at this
      exact .inr this
  · have := mul_le' bs (show 2 * t + 2 ≤ s by omega)
    exact .inr (by omega)
theorem RInv.done {n bs t : Nat} {f0 f g : Nat → α} (h : RInv less lt n f0 f bs t) (h1 : t * (2 * bs) ≤ n) (h2 : n < t * (2 * bs) + 2 * bs) (hq : MQ lt f g (t * (2 * bs)) n) : BInv less lt n f0 g (2 * bs) := by
  refine ⟨h.keeps.trans (hq.1.wide (by omega) h1 (Nat.le_refl _)), fun s => ?_, fun s hs => (h.cut s hs).keep hq.1 h1 (Nat.le_refl _) ?_ hs⟩
  · by_cases e : s = t
    · subst e
      rw [show min (s * (2 * bs) + 2 * bs) n = n by omega]; exact hq.2
    · by_cases e2 : s < t
      · have := mul_le' (2 * bs) (show s + 1 ≤ t by omega)
        rw [Nat.add_mul, Nat.one_mul] at this
        rw [show min (s * (2 * bs) + 2 * bs) n = s * (2 * bs) + 2 * bs by omega, hq.1.far (.inl this)]; exact h.big s e2
      · have := mul_le' (2 * bs) (show t + 1 ≤ s by omega)
        rw [Nat.add_mul, Nat.one_mul] at this
        rw [seg_nil _ (by omega)]; exact List.Pairwise.nil
  · by_cases e : s ≤ t
    · exact .inl (mul_le' _ e)
    · have := mul_le' (2 * bs) (show t + 1 ≤ s by omega)
      rw [Nat.add_mul, Nat.one_mul] at this
      omega
/-- the last block of a round stands alone -/
theorem RInv.alone {n bs t : Nat} {f0 f : Nat → α} (h : RInv less lt n f0 f bs t) (h1 : n ≤ t * (2 * bs) + bs) : MQ lt f f (t * (2 * bs)) n := by
  obtain ⟨e1, e2, e3⟩ := mul2 t bs
  have s1 := h.small (2 * t) (Nat.le_refl _)
  rw [e1, show min (t * (2 * bs) + bs) n = n by omega] at s1
  exact ⟨Keeps.refl _ _ _, s1⟩
end
end Go.Proofs.YtlkkkgpcjdemdaaDoor
/- Stable sorting of ints, walked: at most 20 of them: the insertion sort, by whatever comparison. -/
namespace Go.Proofs.YtlkkkgpcjdemdaaDoor
open List renaming getElem_toArray → glA, getElem_cons_zero → glB, getElem_cons_succ → glC, setIfInBounds_toArray → glD, set_cons_zero → glE, set_cons_succ → glF
open Go Go.RowKit Go.Shelf
set_option maxHeartbeats 4000000
set_option maxRecDepth 100000
theorem below_grown' {w w' : World} (h : Below w.heap.size w w') (r : Option Nat) : w.grownBy w' r := ⟨h.os, h.tape, h.output, h.size, fun k hk _ => h.block k hk⟩
/-- a row of ints in a block of its own, each of them one of V -/
structure IBR (V : Int → Prop) (w : World) (g n : Nat) (f : Nat → Int) : Prop where
  blk : ∃ cs, Blk w g 3 cs
  cells : ∀ k, k < n → w.cell? ⟨g, k, none⟩ = some (.int .i64 (f k))
  val : ∀ k, k < n → V (f k)
section
variable {V : Int → Prop} {w w' : World} {g n : Nat} {f : Nat → Int}
theorem IBR.lt (h : IBR V w g n f) : g < w.heap.size := by obtain ⟨⟨cs, hc⟩, -⟩ := h; exact hc.lt
theorem IBR.ext (h : IBR V w g n f) (hb : Below w.heap.size w w') : IBR V w' g n f := by
  have hl := h.lt
  obtain ⟨⟨cs, hc⟩, hk, hv⟩ := h
  exact ⟨⟨cs, hc.ext hb⟩, fun k hkn => (hb.cell (p := ⟨g, k, none⟩) hl).trans (hk k hkn), hv⟩
theorem IBR.at_ (h : IBR V w g n f) {k : Nat} (hk : k < n) : g < w.heap.size ∧ w.cell? ⟨g, k, none⟩ = some (.int .i64 (f k)) ∧ w.frozen? ⟨g, k, none⟩ = false := by
  obtain ⟨⟨cs, hc⟩, hK, -⟩ := h
  exact ⟨hc.lt, hK k hk, hc.frozen _⟩
theorem IBR.put (h : IBR V w g n f) {k : Nat} (hk : k < n) (v : Int) (hv : V v) : IBR V (w.setCell ⟨g, k, none⟩ (.int .i64 v)) g n (upd f k v) := by
  obtain ⟨⟨cs, hc⟩, hK, hV⟩ := h
  refine ⟨⟨_, hc.set_ _ _⟩, fun i hi => ?_, fun i hi => ?_⟩
  · by_cases e : i = k
    · subst e
      rw [upd_same]
      exact World.cell?_setCell_same' _ _ _ (by rw [hK i hi]; rfl)
    · rw [upd_ne _ _ e, World.cell?_setCell_other _ _ _ _ (fun h => by injection h; omega)]
      exact hK i hi
  · by_cases e : i = k
    · subst e; rw [upd_same]; exact hv
    · rw [upd_ne _ _ e]; exact hV i hi
theorem swpI_upd (f : Nat → Int) (i j : Nat) : upd (upd f i (f j)) j (f i) = swp f i j := by
  funext k
  unfold upd swp
  repeat' split
  all_goals first | rfl | (subst_vars; rfl) | (exfalso; omega)
end
theorem insSortI_any {lt : Int → Int → Prop} {less : Int → Int → Bool} {c : Int → Int → Int} (hc : ∀ x y, decide (c x y < 0) = less x y) (O : Ord2 less lt) (V : Int → Prop) (fn : FuncId) (lb : Array Value) (eg : ∀ args w, (callFunc fn args).run Tryd.prog w = .ok (.enter fn args) w)
    (g n cap a b : Nat) (S : World → Prop) (hS : ∀ W W', S W → W.grownBy W' (some g) → S W') (hcmp : ∀ W x y, S W → V x → V y → Calls Tryd.prog fn (#[.int .i64 x, .int .i64 y] ++ lb) W fun e w' => e = .returned (.int .i64 (c x y)) ∧ Below W.heap.size W w')
    (F0 : Nat → Int) (w : World) (hw : S w) (hr : IBR V w g n F0) (hab : a ≤ b) (hb : b ≤ n) (hn : n ≤ 1000000) (hp : ∀ x y, a ≤ x → x < y → y < b → Ahead less lt (F0 x) (F0 y)) :
    Calls Tryd.prog 111 #[.slice (some ⟨g, 0, none⟩) n cap, .int .i64 a, .int .i64 b, .func (.func fn) #[] lb] w fun e w' => e = .returned (.tuple #[]) ∧ ∃ f', IBR V w' g n f' ∧ MQ lt F0 f' a b ∧ w.grownBy w' (some g) := by
  have HR0 := hide hr
  have HP := hide hp
  have HC := hide hc
  have HCM := hide (fun W x y (h : w.grownBy W (some g)) hx hy => hcmp W x y (hS w W hw h) hx hy)
  clear hr hp hc hcmp hw hS
  have HN : Hid (∃ i : Nat, i = a + 1) := hide ⟨_, rfl⟩
  obtain ⟨i0, hi0⟩ := HN.out
  have w1 : IntKind.i64.wrap ((a : Int) + 1) = (i0 : Int) := by rw [IntWalk.i64_in _ (by omega)]; omega
  have HI0 := hide hi0
  clear hi0 HN
  go_enter Tryd.func111, Tryd.ntmps111
  go_wp2_with fail
  clear w1
  go_loopw [8] (fun x wr => ∃ (i : Nat) (F : Nat → Int), x = .int .i64 i ∧ a + 1 ≤ i ∧ (i ≤ b ∨ b = a) ∧ Hid (IBR V wr g n F) ∧ Hid (MQ lt F0 F a (min i b)) ∧ Hid (w.grownBy wr (some g))) (fun x _ => b - (intOf x).toNat)
  case atStart =>
    have e := HI0.out
    refine ⟨i0, F0, rfl, by omega, by omega, HR0, hide ?_, hide (World.grownBy.refl w _)⟩
    by_cases hz : b = a
    · rw [show min i0 b = a by omega]; exact ins_none F0 a
    · rw [show min i0 b = a + 1 by omega]; exact ins_one F0 a
  case round =>
    obtain ⟨i, F, rfl, hai, hib, HR, HM, HG⟩ := hrel
    by_cases hlt : i < b
    · have HM' : Hid (MQ lt F0 F a i) := hide (by have := HM.out; rwa [show min i b = i by omega] at this)
      clear HM
      have hlt' : (i : Int) < (b : Int) := by omega
      go_wp2_with fail
      obtain ⟨wo, hwo⟩ : ∃ wo, wo = wr := ⟨_, rfl⟩
      subst hwo
      go_loopw [9] (fun x wq => ∃ j : Nat, x = .int .i64 j ∧ a ≤ j ∧ j ≤ i ∧ Hid (j < i → less (F i) (F j) = true) ∧ Hid (IBR V wq g n (rotF F j i (i + 1))) ∧ Hid (w.grownBy wq (some g))) (fun x _ => (intOf x).toNat)
      case atStart => exact ⟨i, rfl, by omega, by omega, hide (fun h => absurd h (by omega)), hide (by rw [rot_same]; exact HR.out), HG⟩
      case round =>
        obtain ⟨j, rfl, haj, hji, Q2, HR1, HG1⟩ := hrel
        by_cases hja : a < j
        · -- BEGIN1
          have hja' : (a : Int) < (j : Int) := by omega
          obtain ⟨A, hA⟩ : ∃ A : Nat, A = j := ⟨_, rfl⟩
          obtain ⟨B, hB⟩ : ∃ B : Nat, j = B + 1 := ⟨j - 1, by omega⟩
          have HST := hide (swp_back F (i := i) (j := B) (by omega))
          have HINS := hide (fun (h : less (F i) (F B) = false) => ins_step O HM'.out HP.out hlt haj hji (fun _ => (by rw [show j - 1 = B by omega]; exact h)) Q2.out)
          have HF1 := hide (rot_at F (i := i) (j := j) (by omega))
          have HF2 := hide (rot_before F (i := i) (j := j) (k := B) (by omega))
          have ha : A < n := by omega
          have hb' : B < n := by omega
          have i1 : (0 : Int) ≤ (A : Int) := by omega
          have i2 : (A : Int) < (n : Int) := by omega
          have i3 : (0 : Int) ≤ (B : Int) := by omega
          have i4 : (B : Int) < (n : Int) := by omega
          have w2 : IntKind.i64.wrap ((A : Int) - 1) = (B : Int) := by rw [IntWalk.i64_in _ (by omega)]; omega
          have HKB := hide (show A = B + 1 by omega)
          rw [← hB, ← hA] at HST
          rw [← hA] at HR1 HF1 HF2 HINS hja' ⊢
          have HA := hide hA
          clear hB hA
          generalize rotF F A i (i + 1) = F' at HR1 HST HF1 HF2 HINS
          go_upto_region 4 with fail
          have Bd := hide (Below.refl wr.heap.size wr).drew
          have HSB : Hid (∀ W, Below wr.heap.size wr W → (W.cell? ⟨g, A, none⟩ = some (.int .i64 (F' A)) ∧ W.cell? ⟨g, B, none⟩ = some (.int .i64 (F' B)))) := hide (fun W hW => ⟨(HR1.out.ext hW).cells A ha, (HR1.out.ext hW).cells B hb'⟩)
          refine wp_region_J (fun W : World => (W.cell? ⟨g, A, none⟩ = some (.int .i64 (F' A)) ∧ W.cell? ⟨g, B, none⟩ = some (.int .i64 (F' B)))) (by kernel_rfl) ?_
          have HGQ := hide (HG1.out.trans (below_grown' Bd.out _))
          generalize wr.drew = wd at Bd HGQ ⊢
          refine tk_start [0, 1, 2, 3, 4, 5, 6, 7, 8, 9, 10, 11, 12, 13] ?_
          iterate 14
            refine tk_one (v := ?_) (by first | exact hF | exact wideFn) (HSB.out _ Bd.out) rfl (by kernel_rfl) (by kernel_rfl) (by kernel_rfl) (by kernel_rfl) rfl ?_ (by first | exact fun _ _ _ h => h | exact fun _ _ _ h => hQ2 _ _ _ _ _ h) ?_
            rotate_left
            · intro W hSW
              simp only [glA, glB, glC]
              (try dsimp only at hSW)
              go_simp
              with_reducible rfl
            (try simp only [glA, glB, glC, Act.put, glD, glE, glF])
          refine tk_end ?_
          refine wpAnyJ_one 14 rfl (by kernel_rfl) (fun K hK => ?_)
          simp only [glA, glB, glC]
          go_simp
          refine ⟨trivial, rfl, ?_⟩
          (with_reducible refine (callsIn_wide.2 (HCM.out _ (F' A) (F' B) HGQ.out (HR1.out.val A ha) (HR1.out.val B hb'))).mono ?_)
          rintro e w5 ⟨rfl, hb5⟩
          have HB5 := hide (Bd.out.trans (hb5.mono Bd.out.size)); clear hb5
          dsimp only
          refine hK.out _ _ (fun _ => HSB.out _ HB5.out) ?_
          clear hK K
          (try simp only [glA, glB, glC, Act.put, glD, glE, glF])
          refine wpAnyJ_take 15 (v := ?_) (by first | exact hF | exact wideFn) (HSB.out _ HB5.out) rfl (by kernel_rfl) (by kernel_rfl) (by kernel_rfl) (by kernel_rfl) rfl ?_ (by first | exact fun _ _ _ h => h | exact fun _ _ _ h => hQ2 _ _ _ _ _ h) ?_
          rotate_left
          · intro W hSW
            simp only [glA, glB, glC]
            (try dsimp only at hSW)
            go_simp
            with_reducible rfl
          (try simp only [glA, glB, glC, Act.put, glD, glE, glF])
          refine wpAnyJ_take 16 (v := ?_) (by first | exact hF | exact wideFn) (HSB.out _ HB5.out) rfl (by kernel_rfl) (by kernel_rfl) (by kernel_rfl) (by kernel_rfl) rfl ?_ (by first | exact fun _ _ _ h => h | exact fun _ _ _ h => hQ2 _ _ _ _ _ h) ?_
          rotate_left
          · intro W hSW
            simp only [glA, glB, glC]
            (try dsimp only at hSW)
            go_simp
            with_reducible rfl
          (try simp only [glA, glB, glC, Act.put, glD, glE, glF])
          refine wpAnyJ_done (by kernel_rfl) ?_
          have HR := hide (HR1.out.ext HB5.out)
          have HG := hide (HG1.out.trans (below_grown' HB5.out _))
          have hcc := HC.out (F' A) (F' B)
          obtain ⟨cv, hcv⟩ : ∃ x, c (F' A) (F' B) = x := ⟨_, rfl⟩
          rw [hcv] at hcc ⊢
          clear hcv
          generalize hq : decide (cv < 0) = q at hcc ⊢
          have hq' : less (F' A) (F' B) = q := hcc.symm
          clear hcc
          clear hq
          rw [HF1.out, HF2.out] at hq'
          have HL := hide hq'
          clear hq' HR1 HG1 HF1 HF2 HSB Bd HB5
          obtain ⟨wr, hwr⟩ : ∃ wr, wr = w5 := ⟨_, rfl⟩
          subst hwr
          rcases q with _ | _
          · go_wp2_with fail
            go_roundw
            case rel =>
              exact ⟨i + 1, F', by go_num, by omega, by omega, HR, hide (by rw [show min (i + 1) b = i + 1 by omega]; exact HINS.out HL.out), HG⟩
            case measure => simp [intOf]; omega
          · go_upto_region 6 with fail
            have Bd := hide (Below.refl wr.heap.size wr).drew
            have HRd := hide (HR.out.ext Bd.out)
            have HGd := hide (HG.out.trans (below_grown' Bd.out _))
            have HS : Hid ((wr.drew.cell? ⟨g, A, none⟩ = some (.int .i64 (F' A)) ∧ wr.drew.cell? ⟨g, B, none⟩ = some (.int .i64 (F' B)))) := hide ⟨(HRd.out.cells A ha), HRd.out.cells B hb'⟩
            refine wp_region_K (pickS [9, 13] (fun W => (W.cell? ⟨g, A, none⟩ = some (.int .i64 (F' A)) ∧ W.cell? ⟨g, B, none⟩ = some (.int .i64 (F' B)))) (fun _ => True)) (by kernel_rfl) ?_
            generalize wr.drew = wd at HRd HGd HS ⊢
            refine wpAnyK_take 0 (v := ?_) (by first | exact hF | exact wideFn) trivial rfl (by kernel_rfl) (by kernel_rfl) (by kernel_rfl) (by kernel_rfl) rfl ?_ (by first | exact fun _ _ _ h => h | exact fun _ _ _ h => hQ2 _ _ _ _ _ h) ?_
            rotate_left
            · intro W hSW
              replace hSW : True := hSW
              simp only [glA, glB, glC]
              (try dsimp only at hSW)
              go_simp
              with_reducible rfl
            (try simp only [glA, glB, glC, Act.put, glD, glE, glF])
            refine wpAnyK_take 1 (v := ?_) (by first | exact hF | exact wideFn) trivial rfl (by kernel_rfl) (by kernel_rfl) (by kernel_rfl) (by kernel_rfl) rfl ?_ (by first | exact fun _ _ _ h => h | exact fun _ _ _ h => hQ2 _ _ _ _ _ h) ?_
            rotate_left
            · intro W hSW
              replace hSW : True := hSW
              simp only [glA, glB, glC]
              (try dsimp only at hSW)
              go_simp
              with_reducible rfl
            (try simp only [glA, glB, glC, Act.put, glD, glE, glF])
            refine wpAnyK_take 2 (v := ?_) (by first | exact hF | exact wideFn) trivial rfl (by kernel_rfl) (by kernel_rfl) (by kernel_rfl) (by kernel_rfl) rfl ?_ (by first | exact fun _ _ _ h => h | exact fun _ _ _ h => hQ2 _ _ _ _ _ h) ?_
            rotate_left
            · intro W hSW
              replace hSW : True := hSW
              simp only [glA, glB, glC]
              (try dsimp only at hSW)
              go_simp
              with_reducible rfl
            (try simp only [glA, glB, glC, Act.put, glD, glE, glF])
            refine wpAnyK_take 3 (v := ?_) (by first | exact hF | exact wideFn) trivial rfl (by kernel_rfl) (by kernel_rfl) (by kernel_rfl) (by kernel_rfl) rfl ?_ (by first | exact fun _ _ _ h => h | exact fun _ _ _ h => hQ2 _ _ _ _ _ h) ?_
            rotate_left
            · intro W hSW
              replace hSW : True := hSW
              simp only [glA, glB, glC]
              (try dsimp only at hSW)
              go_simp
              with_reducible rfl
            (try simp only [glA, glB, glC, Act.put, glD, glE, glF])
            refine wpAnyK_take 4 (v := ?_) (by first | exact hF | exact wideFn) trivial rfl (by kernel_rfl) (by kernel_rfl) (by kernel_rfl) (by kernel_rfl) rfl ?_ (by first | exact fun _ _ _ h => h | exact fun _ _ _ h => hQ2 _ _ _ _ _ h) ?_
            rotate_left
            · intro W hSW
              replace hSW : True := hSW
              simp only [glA, glB, glC]
              (try dsimp only at hSW)
              go_simp
              with_reducible rfl
            (try simp only [glA, glB, glC, Act.put, glD, glE, glF])
            refine wpAnyK_take 5 (v := ?_) (by first | exact hF | exact wideFn) trivial rfl (by kernel_rfl) (by kernel_rfl) (by kernel_rfl) (by kernel_rfl) rfl ?_ (by first | exact fun _ _ _ h => h | exact fun _ _ _ h => hQ2 _ _ _ _ _ h) ?_
            rotate_left
            · intro W hSW
              replace hSW : True := hSW
              simp only [glA, glB, glC]
              (try dsimp only at hSW)
              go_simp
              with_reducible rfl
            (try simp only [glA, glB, glC, Act.put, glD, glE, glF])
            refine wpAnyK_take 6 (v := ?_) (by first | exact hF | exact wideFn) trivial rfl (by kernel_rfl) (by kernel_rfl) (by kernel_rfl) (by kernel_rfl) rfl ?_ (by first | exact fun _ _ _ h => h | exact fun _ _ _ h => hQ2 _ _ _ _ _ h) ?_
            rotate_left
            · intro W hSW
              replace hSW : True := hSW
              simp only [glA, glB, glC]
              (try dsimp only at hSW)
              go_simp
              with_reducible rfl
            (try simp only [glA, glB, glC, Act.put, glD, glE, glF])
            refine wpAnyK_take 7 (v := ?_) (by first | exact hF | exact wideFn) trivial rfl (by kernel_rfl) (by kernel_rfl) (by kernel_rfl) (by kernel_rfl) rfl ?_ (by first | exact fun _ _ _ h => h | exact fun _ _ _ h => hQ2 _ _ _ _ _ h) ?_
            rotate_left
            · intro W hSW
              replace hSW : True := hSW
              simp only [glA, glB, glC]
              (try dsimp only at hSW)
              go_simp
              with_reducible rfl
            (try simp only [glA, glB, glC, Act.put, glD, glE, glF])
            refine wpAnyK_take 8 (v := ?_) (by first | exact hF | exact wideFn) trivial rfl (by kernel_rfl) (by kernel_rfl) (by kernel_rfl) (by kernel_rfl) rfl ?_ (by first | exact fun _ _ _ h => h | exact fun _ _ _ h => hQ2 _ _ _ _ _ h) ?_
            rotate_left
            · intro W hSW
              replace hSW : True := hSW
              simp only [glA, glB, glC]
              (try dsimp only at hSW)
              go_simp
              with_reducible rfl
            (try simp only [glA, glB, glC, Act.put, glD, glE, glF])
            refine wpAnyK_take 9 (v := ?_) (by first | exact hF | exact wideFn) (And.intro HS.out trivial) rfl (by kernel_rfl) (by kernel_rfl) (by kernel_rfl) (by kernel_rfl) rfl ?_ (by first | exact fun _ _ _ h => h | exact fun _ _ _ h => hQ2 _ _ _ _ _ h) ?_
            rotate_left
            · intro W hSW
              replace hSW : (((W.cell? ⟨g, A, none⟩ = some (.int .i64 (F' A)) ∧ W.cell? ⟨g, B, none⟩ = some (.int .i64 (F' B)))) ∧ True) := hSW
              simp only [glA, glB, glC]
              (try dsimp only at hSW)
              go_simp
              with_reducible rfl
            (try simp only [glA, glB, glC, Act.put, glD, glE, glF])
            refine wpAnyK_take 10 (v := ?_) (by first | exact hF | exact wideFn) trivial rfl (by kernel_rfl) (by kernel_rfl) (by kernel_rfl) (by kernel_rfl) rfl ?_ (by first | exact fun _ _ _ h => h | exact fun _ _ _ h => hQ2 _ _ _ _ _ h) ?_
            rotate_left
            · intro W hSW
              replace hSW : True := hSW
              simp only [glA, glB, glC]
              (try dsimp only at hSW)
              go_simp
              with_reducible rfl
            (try simp only [glA, glB, glC, Act.put, glD, glE, glF])
            refine wpAnyK_take 11 (v := ?_) (by first | exact hF | exact wideFn) trivial rfl (by kernel_rfl) (by kernel_rfl) (by kernel_rfl) (by kernel_rfl) rfl ?_ (by first | exact fun _ _ _ h => h | exact fun _ _ _ h => hQ2 _ _ _ _ _ h) ?_
            rotate_left
            · intro W hSW
              replace hSW : True := hSW
              simp only [glA, glB, glC]
              (try dsimp only at hSW)
              go_simp
              with_reducible rfl
            (try simp only [glA, glB, glC, Act.put, glD, glE, glF])
            refine wpAnyK_take 12 (v := ?_) (by first | exact hF | exact wideFn) trivial rfl (by kernel_rfl) (by kernel_rfl) (by kernel_rfl) (by kernel_rfl) rfl ?_ (by first | exact fun _ _ _ h => h | exact fun _ _ _ h => hQ2 _ _ _ _ _ h) ?_
            rotate_left
            · intro W hSW
              replace hSW : True := hSW
              simp only [glA, glB, glC]
              (try dsimp only at hSW)
              go_simp
              with_reducible rfl
            (try simp only [glA, glB, glC, Act.put, glD, glE, glF])
            refine wpAnyK_take 13 (v := ?_) (by first | exact hF | exact wideFn) (And.intro HS.out trivial) rfl (by kernel_rfl) (by kernel_rfl) (by kernel_rfl) (by kernel_rfl) rfl ?_ (by first | exact fun _ _ _ h => h | exact fun _ _ _ h => hQ2 _ _ _ _ _ h) ?_
            rotate_left
            · intro W hSW
              replace hSW : (((W.cell? ⟨g, A, none⟩ = some (.int .i64 (F' A)) ∧ W.cell? ⟨g, B, none⟩ = some (.int .i64 (F' B)))) ∧ True) := hSW
              simp only [glA, glB, glC]
              (try dsimp only at hSW)
              go_simp
              with_reducible rfl
            (try simp only [glA, glB, glC, Act.put, glD, glE, glF])
            refine wpAnyK_take 14 (v := ?_) (by first | exact hF | exact wideFn) trivial rfl (by kernel_rfl) (by kernel_rfl) (by kernel_rfl) (by kernel_rfl) rfl ?_ (by first | exact fun _ _ _ h => h | exact fun _ _ _ h => hQ2 _ _ _ _ _ h) ?_
            rotate_left
            · intro W hSW
              replace hSW : True := hSW
              simp only [glA, glB, glC]
              (try dsimp only at hSW)
              go_simp
              with_reducible rfl
            (try simp only [glA, glB, glC, Act.put, glD, glE, glF])
            obtain ⟨p0, p1, p3⟩ := HRd.out.at_ ha
            have HR1 := hide (HRd.out.put ha (F' B) (HRd.out.val B hb'))
            have HG1 := hide (grownBy_setS HGd.out A (.int .i64 (F' B)))
            refine wpAnyK_one 15 rfl (by kernel_rfl) (fun K hK => ?_)
            simp only [glA, glB, glC]
            go_simp
            refine hK.out _ _ (.inr (pickS_need (by kernel_rfl) trivial)) ?_
            clear hK K
            (try simp only [glA, glB, glC, Act.put, glD, glE, glF])
            clear p0 p1 p3
            generalize (wd.setCell ⟨g, A, none⟩ (.int .i64 (F' B))) = w1 at HR1 HG1 ⊢
            have HR2 := hide (HR1.out.put hb' (F' A) (HRd.out.val A ha))
            have HG2 := hide (grownBy_setS HG1.out B (.int .i64 (F' A)))
            rw [swpI_upd, HST.out] at HR2
            obtain ⟨p0, p1, p3⟩ := HR1.out.at_ hb'
            refine wpAnyK_take 16 (v := ?_) (by first | exact hF | exact wideFn) trivial rfl (by kernel_rfl) (by kernel_rfl) (by kernel_rfl) (by kernel_rfl) rfl ?_ (by first | exact fun _ _ _ h => h | exact fun _ _ _ h => hQ2 _ _ _ _ _ h) ?_
            rotate_left
            · intro W hSW
              replace hSW : True := hSW
              simp only [glA, glB, glC]
              (try dsimp only at hSW)
              go_simp
              with_reducible rfl
            (try simp only [glA, glB, glC, Act.put, glD, glE, glF])
            refine wpAnyK_one 17 rfl (by kernel_rfl) (fun K hK => ?_)
            simp only [glA, glB, glC]
            go_simp
            refine hK.out _ _ (.inr (pickS_no (by kernel_rfl))) ?_
            clear hK K
            (try simp only [glA, glB, glC, Act.put, glD, glE, glF])
            refine wpAnyK_done (by kernel_rfl) ?_
            clear p0 p1 p3
            generalize (w1.setCell ⟨g, B, none⟩ (.int .i64 (F' A))) = w2 at HR2 HG2 ⊢
            go_wp2_with fail
            go_roundw
            case rel => exact ⟨B, rfl, by have := HKB.out; have := HA.out; omega, by have := HKB.out; have := HA.out; omega, hide (fun _ => HL.out), HR2, HG2⟩
            case measure => have := HKB.out; have := HA.out; simp [intOf]; omega
          -- END1
        · -- BEGIN2
          obtain rfl : a = j := by omega
          go_upto_region 4 with fail
          have Bd := hide (Below.refl wr.heap.size wr).drew
          refine wp_region_J (fun W : World => True) (by kernel_rfl) ?_
          generalize wr.drew = wd at Bd ⊢
          refine tk_start [0, 1, 2, 3] ?_
          iterate 4
            refine tk_one (v := ?_) (by first | exact hF | exact wideFn) trivial rfl (by kernel_rfl) (by kernel_rfl) (by kernel_rfl) (by kernel_rfl) rfl ?_ (by first | exact fun _ _ _ h => h | exact fun _ _ _ h => hQ2 _ _ _ _ _ h) ?_
            rotate_left
            · intro W hSW
              simp only [glA, glB, glC]
              (try dsimp only at hSW)
              go_simp
              with_reducible rfl
            (try simp only [glA, glB, glC, Act.put, glD, glE, glF])
          refine tk_end ?_
          refine wpAnyJ_skip 4 (by first | exact hF | exact wideFn) trivial rfl (by kernel_rfl) (by kernel_rfl) (by kernel_rfl) (by kernel_rfl) rfl (by first | exact fun _ _ _ h => h | exact fun _ _ _ h => hQ2 _ _ _ _ _ h) ?_
          (try simp only [glA, glB, glC, Act.put, glD, glE, glF])
          refine wpAnyJ_skip 5 (by first | exact hF | exact wideFn) trivial rfl (by kernel_rfl) (by kernel_rfl) (by kernel_rfl) (by kernel_rfl) rfl (by first | exact fun _ _ _ h => h | exact fun _ _ _ h => hQ2 _ _ _ _ _ h) ?_
          (try simp only [glA, glB, glC, Act.put, glD, glE, glF])
          refine wpAnyJ_skip 6 (by first | exact hF | exact wideFn) trivial rfl (by kernel_rfl) (by kernel_rfl) (by kernel_rfl) (by kernel_rfl) rfl (by first | exact fun _ _ _ h => h | exact fun _ _ _ h => hQ2 _ _ _ _ _ h) ?_
          (try simp only [glA, glB, glC, Act.put, glD, glE, glF])
          refine wpAnyJ_skip 7 (by first | exact hF | exact wideFn) trivial rfl (by kernel_rfl) (by kernel_rfl) (by kernel_rfl) (by kernel_rfl) rfl (by first | exact fun _ _ _ h => h | exact fun _ _ _ h => hQ2 _ _ _ _ _ h) ?_
          (try simp only [glA, glB, glC, Act.put, glD, glE, glF])
          refine wpAnyJ_skip 8 (by first | exact hF | exact wideFn) trivial rfl (by kernel_rfl) (by kernel_rfl) (by kernel_rfl) (by kernel_rfl) rfl (by first | exact fun _ _ _ h => h | exact fun _ _ _ h => hQ2 _ _ _ _ _ h) ?_
          (try simp only [glA, glB, glC, Act.put, glD, glE, glF])
          refine wpAnyJ_skip 9 (by first | exact hF | exact wideFn) trivial rfl (by kernel_rfl) (by kernel_rfl) (by kernel_rfl) (by kernel_rfl) rfl (by first | exact fun _ _ _ h => h | exact fun _ _ _ h => hQ2 _ _ _ _ _ h) ?_
          (try simp only [glA, glB, glC, Act.put, glD, glE, glF])
          refine wpAnyJ_skip 10 (by first | exact hF | exact wideFn) trivial rfl (by kernel_rfl) (by kernel_rfl) (by kernel_rfl) (by kernel_rfl) rfl (by first | exact fun _ _ _ h => h | exact fun _ _ _ h => hQ2 _ _ _ _ _ h) ?_
          (try simp only [glA, glB, glC, Act.put, glD, glE, glF])
          refine wpAnyJ_skip 11 (by first | exact hF | exact wideFn) trivial rfl (by kernel_rfl) (by kernel_rfl) (by kernel_rfl) (by kernel_rfl) rfl (by first | exact fun _ _ _ h => h | exact fun _ _ _ h => hQ2 _ _ _ _ _ h) ?_
          (try simp only [glA, glB, glC, Act.put, glD, glE, glF])
          refine wpAnyJ_skip 12 (by first | exact hF | exact wideFn) trivial rfl (by kernel_rfl) (by kernel_rfl) (by kernel_rfl) (by kernel_rfl) rfl (by first | exact fun _ _ _ h => h | exact fun _ _ _ h => hQ2 _ _ _ _ _ h) ?_
          (try simp only [glA, glB, glC, Act.put, glD, glE, glF])
          refine wpAnyJ_skip 13 (by first | exact hF | exact wideFn) trivial rfl (by kernel_rfl) (by kernel_rfl) (by kernel_rfl) (by kernel_rfl) rfl (by first | exact fun _ _ _ h => h | exact fun _ _ _ h => hQ2 _ _ _ _ _ h) ?_
          (try simp only [glA, glB, glC, Act.put, glD, glE, glF])
          refine wpAnyJ_skip 14 (by first | exact hF | exact wideFn) trivial rfl (by kernel_rfl) (by kernel_rfl) (by kernel_rfl) (by kernel_rfl) rfl (by first | exact fun _ _ _ h => h | exact fun _ _ _ h => hQ2 _ _ _ _ _ h) ?_
          (try simp only [glA, glB, glC, Act.put, glD, glE, glF])
          refine wpAnyJ_skip 15 (by first | exact hF | exact wideFn) trivial rfl (by kernel_rfl) (by kernel_rfl) (by kernel_rfl) (by kernel_rfl) rfl (by first | exact fun _ _ _ h => h | exact fun _ _ _ h => hQ2 _ _ _ _ _ h) ?_
          (try simp only [glA, glB, glC, Act.put, glD, glE, glF])
          refine wpAnyJ_take 16 (v := ?_) (by first | exact hF | exact wideFn) trivial rfl (by kernel_rfl) (by kernel_rfl) (by kernel_rfl) (by kernel_rfl) rfl ?_ (by first | exact fun _ _ _ h => h | exact fun _ _ _ h => hQ2 _ _ _ _ _ h) ?_
          rotate_left
          · intro W hSW
            simp only [glA, glB, glC]
            (try dsimp only at hSW)
            go_simp
            with_reducible rfl
          (try simp only [glA, glB, glC, Act.put, glD, glE, glF])
          refine wpAnyJ_done (by kernel_rfl) ?_
          go_wp2_with fail
          go_roundw
          case rel => exact ⟨i + 1, _, by go_num, by omega, by omega, hide (HR1.out.ext Bd.out), hide (by rw [show min (i + 1) b = i + 1 by omega]; exact ins_step O HM'.out HP.out hlt haj hji (fun h => absurd h (by omega)) Q2.out), hide (HG1.out.trans (below_grown' Bd.out _))⟩
          case measure => simp [intOf]; omega
          -- END2
    · have hlt' : ¬ (i : Int) < (b : Int) := by omega
      go_wp2_with fail
      go_end0
      exact ⟨rfl, F, HR.out, (by have := HM.out; rwa [show min i b = b by omega] at this), HG.out⟩
end Go.Proofs.YtlkkkgpcjdemdaaDoor
/- Stable sorting of at most 20 ints, walked: slices.SortStableFunc. -/
namespace Go.Proofs.YtlkkkgpcjdemdaaDoor
open Go Go.RowKit Go.Shelf
set_option maxHeartbeats 4000000
set_option maxRecDepth 100000
def StP (V : Int → Prop) (lt : Int → Int → Prop) (g n : Nat) (F0 : Nat → Int) (w w' : World) : Prop := ∃ f', IBR V w' g n f' ∧ MQ lt F0 f' 0 n ∧ w.grownBy w' (some g)
theorem stable20_any {lt : Int → Int → Prop} {less : Int → Int → Bool} {c : Int → Int → Int} (hc : ∀ x y, decide (c x y < 0) = less x y) (O : Ord2 less lt) (V : Int → Prop) (fn : FuncId) (lb : Array Value) (eg : ∀ args w, (callFunc fn args).run Tryd.prog w = .ok (.enter fn args) w) (g n cap : Nat) (S : World → Prop) (hS : ∀ W W', S W → W.grownBy W' (some g) → S W') (hcmp : ∀ W x y, S W → V x → V y → Calls Tryd.prog fn (#[.int .i64 x, .int .i64 y] ++ lb) W fun e w' => e = .returned (.int .i64 (c x y)) ∧ Below W.heap.size W w') (F0 : Nat → Int) (w : World) (hw : S w) (hr : IBR V w g n F0) (hn : n ≤ 20) (hp : ∀ x y, x < y → y < n → Ahead less lt (F0 x) (F0 y)) :
    Calls Tryd.prog 82 #[.slice (some ⟨g, 0, none⟩) n cap, .int .i64 n, .func (.func fn) #[] lb] w fun e w' => e = .returned (.tuple #[]) ∧ StP V lt g n F0 w w' := by
  rcases (by omega : n = 20 ∨ n < 20) with rfl | hlt
  · have HI := hide (insSortI_any hc O V fn lb eg g 20 cap 0 20 S hS hcmp F0 w hw hr (by omega) (by omega) (by omega) (fun x y _ h1 h2 => hp x y h1 h2))
    have HJ := hide (fun F W (hg : w.grownBy W (some g)) (hF : IBR V W g 20 F) => insSortI_any hc O V fn lb eg g 20 cap 20 20 S hS hcmp F W (hS _ _ hw hg) hF (by omega) (by omega) (by omega) (fun x y h0 h1 h2 => by omega))
    clear hc hcmp hw hr hp hS
    go_enter Tryd.func82, Tryd.ntmps82
    go_wp2_with fail
    refine wp_loop_rounds 2 ?_
    rw [rounds_succ]
    go_wp2_with fail
    refine HI.out.mono ?_
    rintro e w2 ⟨rfl, F1, h1, h2, h3⟩
    have HF1 := hide h1
    have HM := hide h2
    have HG := hide h3
    clear h1 h2 h3
    go_wp2_with fail
    rw [rounds_succ]
    go_wp2_with fail
    refine (HJ.out F1 w2 HG.out HF1.out).mono ?_
    rintro e w3 ⟨rfl, F2, h1, h2, h3⟩
    have HF2 := hide h1
    have HM2 := hide h2
    have HG2 := hide (HG.out.trans h3)
    clear h1 h2 h3
    go_wp2_with fail
    refine wp_loop_rounds 1 ?_
    rw [rounds_succ]
    go_wp2_with fail
    go_end0
    refine ⟨rfl, F2, HF2.out, ?_, HG2.out⟩
    obtain ⟨k1, k2⟩ := HM2.out
    have e : F2 = F1 := funext fun i => k1.1 i (by omega)
    rw [e]
    exact HM.out
  · have HI := hide (insSortI_any hc O V fn lb eg g n cap 0 n S hS hcmp F0 w hw hr (by omega) (by omega) (by omega) (fun x y _ h1 h2 => hp x y h1 h2))
    clear hc hcmp hw hr hp hS
    have l1 : ¬ (20 : Int) ≤ (n : Int) := by omega
    have l2 : ¬ (20 : Int) < (n : Int) := by omega
    go_enter Tryd.func82, Tryd.ntmps82
    go_wp2_with fail
    refine wp_loop_rounds 1 ?_
    rw [rounds_succ]
    go_wp2_with fail
    refine HI.out.mono ?_
    rintro e w2 ⟨rfl, F1, h1, h2, h3⟩
    have HF1 := hide h1
    have HM := hide h2
    have HG := hide h3
    clear h1 h2 h3
    go_wp2_with fail
    refine wp_loop_rounds 1 ?_
    rw [rounds_succ]
    go_wp2_with fail
    go_end0
    exact ⟨rfl, F1, HF1.out, HM.out, HG.out⟩
theorem sortStable20_any {lt : Int → Int → Prop} {less : Int → Int → Bool} {c : Int → Int → Int} (hc : ∀ x y, decide (c x y < 0) = less x y) (O : Ord2 less lt) (V : Int → Prop) (fn : FuncId) (lb : Array Value) (eg : ∀ args w, (callFunc fn args).run Tryd.prog w = .ok (.enter fn args) w) (g n cap : Nat) (S : World → Prop) (hS : ∀ W W', S W → W.grownBy W' (some g) → S W') (hcmp : ∀ W x y, S W → V x → V y → Calls Tryd.prog fn (#[.int .i64 x, .int .i64 y] ++ lb) W fun e w' => e = .returned (.int .i64 (c x y)) ∧ Below W.heap.size W w') (F0 : Nat → Int) (w : World) (hw : S w) (hr : IBR V w g n F0) (hn : n ≤ 20) (hp : ∀ x y, x < y → y < n → Ahead less lt (F0 x) (F0 y)) :
    Calls Tryd.prog 49 #[.slice (some ⟨g, 0, none⟩) n cap, .func (.func fn) #[] lb] w fun e w' => e = .returned (.tuple #[]) ∧ StP V lt g n F0 w w' := by
  have HI := hide (stable20_any hc O V fn lb eg g n cap S hS hcmp F0 w hw hr hn hp)
  clear hc hcmp hw hr hp hS
  go_enter Tryd.func49, Tryd.ntmps49
  go_wp2_with fail
  refine HI.out.mono ?_
  rintro e w2 ⟨rfl, h1⟩
  have H1 := hide h1
  clear h1
  go_wp2_with fail
  go_end0
  exact ⟨rfl, H1.out⟩
end Go.Proofs.YtlkkkgpcjdemdaaDoor
/- Song: what Gifts sorts by, walked. -/
namespace Go.Proofs.YtlkkkgpcjdemdaaDoor
open Go Go.RowKit Go.Shelf
set_option maxHeartbeats 1000000
set_option maxRecDepth 100000
/-- what the i-th one's part loses, rounded down -/
def loF (n al : Int) (l : List Int) (i : Int) : Int := n * l.getD i.toNat 0 % al
def flrF (n al : Int) (l : List Int) (i : Nat) : Int := n * l.getD i 0 / al
/-- what the closures of Gifts read: the cows, the weights, their sum, the closure -/
structure GfC (W : World) (p q r s : Nat) (A : Option Addr) (cp : Nat) (n al : Int) (l : List Int) : Prop where
  cp1 : W.cell? ⟨p, 0, none⟩ = some (.int .i64 n)
  cq : W.cell? ⟨q, 0, none⟩ = some (.slice A l.length cp)
  cr : W.cell? ⟨r, 0, none⟩ = some (.int .i64 al)
  cs : W.cell? ⟨s, 0, none⟩ = some (.func (.func 48) #[] #[.pointer (some ⟨p, 0, none⟩), .pointer (some ⟨q, 0, none⟩), .pointer (some ⟨r, 0, none⟩)])
  cl : LI W W.heap.size A l
def GfV (k : Nat) (i : Int) : Prop := 0 ≤ i ∧ i < k
theorem GfC.ext {W W' : World} {p q r s : Nat} {A : Option Addr} {cp : Nat} {n al : Int} {l : List Int} (h : GfC W p q r s A cp n al l) (hb : Below W.heap.size W W') : GfC W' p q r s A cp n al l :=
  ⟨(hb.cell (cell_lt h.cp1)).trans h.cp1, (hb.cell (cell_lt h.cq)).trans h.cq, (hb.cell (cell_lt h.cr)).trans h.cr, (hb.cell (cell_lt h.cs)).trans h.cs, ER.more (ER.below h.cl hb (Nat.le_refl _)) hb.size⟩
theorem lost_any {W : World} {p q r s : Nat} {A : Option Addr} {cp : Nat} {n al : Int} {l : List Int} (h : GfC W p q r s A cp n al l) (hn : 0 ≤ n ∧ n ≤ 1000000000) (ha : 1 ≤ al ∧ al ≤ 20000000) (hl : ∀ x ∈ l, 0 ≤ x ∧ x ≤ 1000000) (hlen : l.length ≤ 20)
    (i : Int) (hi : GfV l.length i) : Calls Tryd.prog 48 #[.int .i64 i, .pointer (some ⟨p, 0, none⟩), .pointer (some ⟨q, 0, none⟩), .pointer (some ⟨r, 0, none⟩)] W fun e w' => e = .returned (.int .i64 (loF n al l i)) ∧ ∃ m, w' = W.drewN m := by
  obtain ⟨h0, h1⟩ := hi
  obtain ⟨k, rfl⟩ := Int.eq_ofNat_of_zero_le h0
  have hk : k < l.length := by omega
  obtain ⟨b, off, rfl, -, hc⟩ := VR1.at_ (u := fun k => .int .i64 (l.getD k 0)) h.cl hk
  have hx := hl (l.getD k 0) (by rw [List.getD_eq_getElem?_getD, List.getElem?_eq_getElem hk]; exact List.getElem_mem hk)
  unfold loF
  rw [Int.toNat_natCast]
  obtain ⟨x, hx'⟩ : ∃ x, l.getD k 0 = x := ⟨_, rfl⟩
  rw [hx'] at hx hc ⊢
  have hm := mul_bd hn.1 hn.2 hx.1 hx.2
  obtain ⟨y, hy⟩ : ∃ y, n * x = y := ⟨_, rfl⟩
  rw [hy] at hm ⊢
  have c1 := h.cp1
  have c2 := h.cq
  have c3 := h.cr
  have w1 : IntKind.i64.wrap (n * x) = y := by rw [hy]; exact IntWalk.i64_in _ (by omega)
  have w2 : y.tmod al = y % al := Int.tmod_eq_emod_of_nonneg (by omega)
  have i1 : ((k : Nat) : Int) < (l.length : Int) := by omega
  have z0 : (al == 0) = false := by rw [beq_eq_false_iff_ne]; omega
  have z1 : ¬ al = 0 := by omega
  have w3 : IntKind.i64.wrap (y % al) = y % al := IntWalk.i64_in _ (by have := Int.emod_nonneg y z1; have := Int.emod_lt_of_pos y (show 0 < al by omega); omega)
  clear hx' hl h hy
  go_enter Tryd.func48, Tryd.ntmps48
  go_wp2_with fail
  go_quiet (fail)
  rename_i nq
  go_wp2_with fail
  go_ret
  exact ⟨rfl, _, rfl⟩
theorem lo_bd (n al : Int) (l : List Int) (ha : 1 ≤ al) (i : Int) : 0 ≤ loF n al l i ∧ loF n al l i < al :=
  ⟨Int.emod_nonneg _ (by omega), Int.emod_lt_of_pos _ (by omega)⟩
/-- what the sort's closure answers -/
def gcF (n al : Int) (l : List Int) (x y : Int) : Int := loF n al l y - loF n al l x
def glB (n al : Int) (l : List Int) (x y : Int) : Bool := decide (gcF n al l x y < 0)
theorem gcmp_any {W : World} {p q r s : Nat} {A : Option Addr} {cp : Nat} {n al : Int} {l : List Int} (h : GfC W p q r s A cp n al l) (hn : 0 ≤ n ∧ n ≤ 1000000000) (ha : 1 ≤ al ∧ al ≤ 20000000) (hl : ∀ x ∈ l, 0 ≤ x ∧ x ≤ 1000000) (hlen : l.length ≤ 20)
    (x y : Int) (hx : GfV l.length x) (hy : GfV l.length y) : Calls Tryd.prog 50 #[.int .i64 x, .int .i64 y, .pointer (some ⟨s, 0, none⟩)] W fun e w' => e = .returned (.int .i64 (gcF n al l x y)) ∧ Below W.heap.size W w' := by
  have HL := hide (fun m i hi => lost_any (h.ext (Below_dN (Below.refl W.heap.size W) m)) hn ha hl hlen i hi)
  have b1 := lo_bd n al l ha.1 x
  have b2 := lo_bd n al l ha.1 y
  unfold gcF
  have c4 := h.cs
  have w1 : IntKind.i64.wrap (loF n al l y - loF n al l x) = loF n al l y - loF n al l x := IntWalk.i64_in _ (by omega)
  have HXX := hide hx
  have HYY := hide hy
  clear h hl hx hy b1 b2 hn ha
  go_enter Tryd.func50, Tryd.ntmps50
  go_wp2_with fail
  go_quiet ((go_at_call 48; exact Calls.quiet_of (HL.out _ _ (by first | exact HYY.out | exact HXX.out))))
  rename_i nq
  go_wp2_with fail
  go_ret
  exact ⟨rfl, Below_dN (Below.refl _ _) _⟩
end Go.Proofs.YtlkkkgpcjdemdaaDoor
