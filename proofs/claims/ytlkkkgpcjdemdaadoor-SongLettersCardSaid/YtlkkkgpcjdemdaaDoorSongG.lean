/- Song, plain: gifts: who gets one more. -/
import Derived.Test.YtlkkkgpcjdemdaaDoorSongF
import Derived.Laws.EntriesVeiled
set_option linter.unusedSimpArgs false
set_option linter.unusedVariables false
set_option linter.unnecessarySimpa false
namespace Go.Proofs.YtlkkkgpcjdemdaaDoor
open Go Go.RowKit Go.Shelf
set_option maxHeartbeats 1000000
set_option maxRecDepth 100000
def smF (f : Nat → Int) : Nat → Int
  | 0 => 0
  | k + 1 => smF f k + f k
theorem smF_congr {f g : Nat → Int} : ∀ {k : Nat}, (∀ i, i < k → f i = g i) → smF f k = smF g k
  | 0, _ => rfl
  | k + 1, h => by unfold smF; rw [smF_congr (fun i hi => h i (by omega)), h k (by omega)]
theorem smF_add (f g : Nat → Int) : ∀ k, smF (fun i => f i + g i) k = smF f k + smF g k
  | 0 => rfl
  | k + 1 => by unfold smF; rw [smF_add f g k]; omega
theorem smF_mul (c : Int) (f : Nat → Int) : ∀ k, smF (fun i => c * f i) k = c * smF f k
  | 0 => by simp [smF]
  | k + 1 => by unfold smF; rw [smF_mul c f k, Int.mul_add]
theorem smF_le {f g : Nat → Int} : ∀ {k : Nat}, (∀ i, i < k → f i ≤ g i) → smF f k ≤ smF g k
  | 0, _ => Int.le_refl _
  | k + 1, h => by
    have h1 := smF_le (k := k) (fun i hi => h i (by omega))
    have h2 := h k (by omega)
    unfold smF; omega
theorem smF_const (c : Int) : ∀ k : Nat, smF (fun _ => c) k = (k : Int) * c
  | 0 => by simp [smF]
  | k + 1 => by unfold smF; rw [smF_const c k]; simp [Int.add_mul]
theorem smF_nonneg {f : Nat → Int} {k : Nat} (h : ∀ i, i < k → 0 ≤ f i) : 0 ≤ smF f k := by
  have := smF_le (f := fun _ => 0) (g := f) (k := k) h
  rw [smF_const] at this
  omega
/-- the i-th weight -/
def wtF (l : List Int) (i : Nat) : Int := l.getD i 0
def allF (l : List Int) : Int := smF (wtF l) l.length
/-- how many are left behind the parts, rounded down -/
def lefF (n al : Int) (l : List Int) : Int := n - smF (flrF n al l) l.length
theorem lef_sum (n : Int) (l : List Int) : allF l * lefF n (allF l) l = smF (fun i => loF n (allF l) l (i : Int)) l.length := by
  have h1 : smF (fun i => allF l * flrF n (allF l) l i + loF n (allF l) l (i : Int)) l.length = smF (fun i => n * wtF l i) l.length := smF_congr (fun i _ => by
    unfold flrF loF wtF
    rw [Int.toNat_natCast]
    exact Int.mul_ediv_add_emod _ _)
  rw [smF_add, smF_mul, smF_mul] at h1
  unfold lefF
  rw [Int.mul_sub]
  have h2 : n * smF (wtF l) l.length = allF l * n := by rw [Int.mul_comm]; rfl
  rw [h2] at h1
  omega
theorem lef_bd (n : Int) (l : List Int) (ha : 1 ≤ allF l) : 0 ≤ lefF n (allF l) l ∧ lefF n (allF l) l < l.length := by
  have h := lef_sum n l
  have h1 : 0 ≤ smF (fun i => loF n (allF l) l (i : Int)) l.length := smF_nonneg (fun i _ => (lo_bd n (allF l) l ha i).1)
  have h2 : smF (fun i => loF n (allF l) l (i : Int)) l.length ≤ (l.length : Int) * (allF l - 1) := by
    rw [← smF_const]
    exact smF_le (fun i _ => by have := (lo_bd n (allF l) l ha i).2; omega)
  rw [← h] at h1 h2
  have hl : 1 ≤ (l.length : Int) := by
    rcases hz : l.length with _ | k
    · exfalso
      unfold allF at ha
      rw [hz] at ha
      simp [smF] at ha
    · omega
  generalize allF l = a at *
  generalize lefF n a l = f at *
  generalize (l.length : Int) = k at *
  constructor
  · rcases (by omega : f < 0 ∨ 0 ≤ f) with hf | hf
    · exfalso
      have := Int.mul_lt_mul_of_pos_left hf (show 0 < a by omega)
      omega
    · exact hf
  · rcases (by omega : f < k ∨ k ≤ f) with hf | hf
    · exact hf
    · exfalso
      have h3 := Int.mul_le_mul_of_nonneg_left hf (show 0 ≤ a by omega)
      have h4 : k * (a - 1) = a * k - k := by rw [Int.mul_sub, Int.mul_one, Int.mul_comm]
      omega
/-- x comes ahead of y: it lost more, or as much and stands ahead -/
def gLt (n al : Int) (l : List Int) (x y : Int) : Prop := loF n al l y < loF n al l x ∨ (loF n al l x = loF n al l y ∧ x < y)
instance (n al : Int) (l : List Int) (x y : Int) : Decidable (gLt n al l x y) := by unfold gLt; infer_instance
theorem gLt_irr {n al : Int} {l : List Int} {x : Int} : ¬ gLt n al l x x := by unfold gLt; omega
theorem gLt_tr {n al : Int} {l : List Int} {x y z : Int} (h1 : gLt n al l x y) (h2 : gLt n al l y z) : gLt n al l x z := by unfold gLt at *; omega
theorem gOrd (n al : Int) (l : List Int) : Ord2 (glB n al l) (gLt n al l) := ⟨fun _ _ _ => gLt_tr⟩
theorem gAhead (n al : Int) (l : List Int) {x y : Int} (h : x < y) : Ahead (glB n al l) (gLt n al l) x y := by
  unfold Ahead glB gcF gLt
  constructor
  · intro h1
    have := of_decide_eq_false h1
    omega
  · intro h1
    have := of_decide_eq_true h1
    omega
/-- how many come ahead of i -/
def rkF (n al : Int) (l : List Int) (i : Int) : Nat := (List.range l.length).countP fun j : Nat => decide (gLt n al l (j : Int) i)
theorem count_lt (t : Nat) : ∀ k, t ≤ k → (List.range k).countP (fun s => decide (s < t)) = t
  | 0, h => by
    obtain rfl : t = 0 := by omega
    rfl
  | k + 1, h => by
    rw [List.range_succ, List.countP_append]
    rcases (by omega : t ≤ k ∨ t = k + 1) with h1 | rfl
    · rw [count_lt t k h1]
      simp; omega
    · have : (List.range k).countP (fun s => decide (s < k + 1)) = k := by
        have e : (List.range k).countP (fun s => decide (s < k + 1)) = (List.range k).countP (fun s => decide (s < k)) := List.countP_congr (fun s hs => by have := List.mem_range.1 hs; simp; omega)
        rw [e, count_lt k k (Nat.le_refl _)]
      rw [this]
      simp
theorem rk_at {n al : Int} {l : List Int} {f : Nat → Int} (h : MQ (gLt n al l) (fun i => (i : Int)) f 0 l.length) {t : Nat} (ht : t < l.length) : rkF n al l (f t) = t := by
  obtain ⟨⟨-, hp⟩, hs⟩ := h
  have e1 : rkF n al l (f t) = (seg (fun i : Nat => (i : Int)) 0 l.length).countP (fun x => decide (gLt n al l x (f t))) := by
    unfold rkF seg
    rw [List.countP_map, List.range_eq_range', Nat.sub_zero]
    rfl
  rw [e1, ← hp.countP_eq]
  have e2 : (seg f 0 l.length).countP (fun x => decide (gLt n al l x (f t))) = (List.range l.length).countP (fun s => decide (s < t)) := by
    unfold seg
    rw [List.countP_map, List.range_eq_range', Nat.sub_zero]
    refine List.countP_congr (fun s hs2 => ?_)
    have hsl : s < l.length := by
      have := List.mem_range'_1.1 hs2
      omega
    simp only [Function.comp, decide_eq_true_eq]
    rw [pair_seg] at hs
    constructor
    · intro h1
      rcases (by omega : s < t ∨ s = t ∨ t < s) with h2 | h2 | h2
      · exact h2
      · subst h2; exact absurd h1 gLt_irr
      · exact absurd (gLt_tr h1 (hs t s (by omega) h2 hsl)) gLt_irr
    · intro h1
      exact hs s t (by omega) h1 ht
  rw [e2, count_lt t _ (by omega)]
theorem rk_mem {n al : Int} {l : List Int} {f : Nat → Int} (h : MQ (gLt n al l) (fun i => (i : Int)) f 0 l.length) (e : Nat) (he : e ≤ l.length) {i : Nat} (hi : i < l.length) : (∃ s, s < e ∧ f s = (i : Int)) ↔ rkF n al l (i : Int) < e := by
  constructor
  · rintro ⟨s, h1, h2⟩
    rw [← h2, rk_at h (by omega)]
    exact h1
  · intro h1
    have hm : ((i : Nat) : Int) ∈ seg f 0 l.length := by
      rw [h.1.2.mem_iff, mem_seg]
      exact ⟨i, by omega, hi, rfl⟩
    obtain ⟨s, -, h3, h4⟩ := mem_seg.1 hm
    refine ⟨s, ?_, h4⟩
    rw [← h4, rk_at h h3] at h1
    exact h1
/-- what the i-th one gets -/
def gvF (n : Int) (l : List Int) (i : Nat) : Int := flrF n (allF l) l i + if (rkF n (allF l) l (i : Int) : Int) < lefF n (allF l) l then 1 else 0
def gvL (n : Int) (l : List Int) : List Int := (List.range l.length).map (gvF n l)
def wOk (x : Int) : Bool := decide (0 ≤ x) && decide (x ≤ 1000000)
/-- the error of gifts -/
def giE (n : Int) (l : List Int) : Int := if 20 < l.length then 5 else if n < 0 ∨ 1000000000 < n then 3 else if l.all wOk = false then 2 else if allF l = 0 then 2 else 0
end Go.Proofs.YtlkkkgpcjdemdaaDoor
/- Song: Whole and Borrow, walked. -/
namespace Go.Proofs.YtlkkkgpcjdemdaaDoor
open Go Go.RowKit Go.Shelf
set_option maxHeartbeats 4000000
set_option maxRecDepth 100000
theorem poE_ok {l : List (Int × Int)} (h : poE l = 0) : l.length ≤ 20 ∧ l.all poB = true := by
  unfold poE at h
  split at h
  · omega
  · split at h
    · rename_i h1 h2
      exact ⟨by omega, h2⟩
    · omega
/-- what Whole returns -/
def whR (l : List (Int × Int)) : Int × Int := if poE l = 0 then if whN l l.length ≤ 1000000000 then ((whN l l.length : Int), 0) else (0, 10) else (0, poE l)
theorem Whole_any (A : Option Addr) (c : Nat) (l : List (Int × Int)) (w : World) (hn : l.length ≤ maxLen) (hR : PoR w w.heap.size A l) :
    Calls Tryd.prog 19 #[.slice A l.length c] w fun e w' => e = .returned (.tuple #[.int .i64 (whR l).1, .int .i64 (whR l).2]) ∧ Below w.heap.size w w' := by
  have HC := hide (checkPo_any A c l w hn hR)
  unfold whR
  by_cases h0 : poE l = 0
  · rw [if_pos h0]
    rw [h0] at HC
    obtain ⟨h20, hall⟩ := poE_ok h0
    have HW := hide (fun W (h : Below w.heap.size w W) => whole_any A c l 1000000000 W hall h20 (by omega) (by omega) ((hR.below h (Nat.le_refl _)).more h.size))
    generalize whN l l.length = m at HW ⊢
    generalize l.length = n at HC HW ⊢
    clear h0 h20 hall hR hn
    by_cases hm : m ≤ 1000000000
    · rw [if_pos hm, decide_eq_true hm] at HW
      rw [if_pos hm]
      dsimp only
      clear hm
      go_enter Tryd.func19, Tryd.ntmps19
      go_wp2_with fail
      refine HC.out.mono ?_
      rintro e w1 ⟨rfl, hb1⟩
      go_wp2_with fail
      refine (HW.out w1 hb1).mono ?_
      rintro e w2 ⟨rfl, hb2⟩
      go_wp2_with fail
      go_ret2
      exact ⟨rfl, hb1.trans (hb2.mono hb1.size)⟩
    · rw [if_neg hm, decide_eq_false hm] at HW
      rw [if_neg hm]
      dsimp only
      clear hm
      go_enter Tryd.func19, Tryd.ntmps19
      go_wp2_with fail
      refine HC.out.mono ?_
      rintro e w1 ⟨rfl, hb1⟩
      go_wp2_with fail
      refine (HW.out w1 hb1).mono ?_
      rintro e w2 ⟨rfl, hb2⟩
      go_wp2_with fail
      go_ret2
      exact ⟨rfl, hb1.trans (hb2.mono hb1.size)⟩
  · rw [if_neg h0]
    dsimp only
    generalize poE l = E at HC h0 ⊢
    generalize l.length = n at HC ⊢
    clear hR hn
    go_enter Tryd.func19, Tryd.ntmps19
    go_wp2_with fail
    refine HC.out.mono ?_
    rintro e w1 ⟨rfl, hb1⟩
    go_wp2_with fail
    go_ret2
    exact ⟨rfl, hb1⟩
/-- the i-th one's part of a herd -/
def ptF (h : Int) (l : List (Int × Int)) (i : Nat) : Int := h * (l.getD i (0, 0)).1 / (l.getD i (0, 0)).2
def givF (h : Int) (l : List (Int × Int)) : Int := smF (ptF h l) l.length
/-- what Borrow returns: how many, what each one gets, the error -/
def boR (n : Int) (l : List (Int × Int)) : Int × List Int × Int :=
  if poE l ≠ 0 then (0, [], poE l)
  else if n < 0 ∨ 1000000000 < n then (0, [], 3)
  else if n = 0 then (0, List.replicate l.length 0, 0)
  else if 2000000000 < whN l l.length ∨ l.length = 0 then (0, [], 7)
  else if n % givF (whN l l.length) l ≠ 0 ∨ n / givF (whN l l.length) l * (whN l l.length : Int) < n ∨ 1000000000 < n / givF (whN l l.length) l * (whN l l.length : Int) - n then (0, [], 7)
  else (n / givF (whN l l.length) l * (whN l l.length : Int) - n, (List.range l.length).map fun i => n / givF (whN l l.length) l * ptF (whN l l.length) l i, 0)
theorem dn_dvd (l : List (Int × Int)) : ∀ k i, i < k → dnF (l.getD i (0, 0)) ∣ whN l k
  | 0, i, h => by omega
  | k + 1, i, h => by
    rcases (by omega : i < k ∨ i = k) with h1 | rfl
    · exact Nat.dvd_trans (dn_dvd l k i h1) (Nat.dvd_lcm_left _ _)
    · exact Nat.dvd_lcm_right _ _
/-- a part of the least herd: whole, and not 0 -/
theorem pt_pos {l : List (Int × Int)} (hl : l.all poB = true) {i : Nat} (hi : i < l.length) : 1 ≤ ptF (whN l l.length) l i := by
  have hpo := List.all_eq_true.1 hl (l.getD i (0, 0)) (by rw [List.getD_eq_getElem?_getD, List.getElem?_eq_getElem hi]; exact List.getElem_mem hi)
  have hw := wh_pos hl l.length (Nat.le_refl _)
  have hd := dn_dvd l l.length i hi
  unfold ptF
  obtain ⟨x, hx⟩ : ∃ x, l.getD i (0, 0) = x := ⟨_, rfl⟩
  rw [hx] at hpo hd ⊢
  obtain ⟨p1, p2, p3⟩ := poB_iff.1 hpo
  obtain ⟨a, ha⟩ := Int.eq_ofNat_of_zero_le (show 0 ≤ x.1 by omega)
  obtain ⟨q, hq⟩ := Int.eq_ofNat_of_zero_le (show 0 ≤ x.2 by omega)
  unfold dnF at hd
  rw [ha, hq] at hd
  rw [ha] at p1 p2
  rw [hq] at p2 p3
  rw [ha, hq]
  have e1 : ((a : Nat) : Int).toNat = a := by simp
  have e2 : ((q : Nat) : Int).toNat = q := by simp
  rw [e1, e2] at hd
  generalize whN l l.length = h at *
  have hle := Nat.le_of_dvd (by omega) hd
  have hg : Nat.gcd a q ∣ q := Nat.gcd_dvd_right a q
  have hga : Nat.gcd a q ≤ a := Nat.gcd_le_left q (by omega)
  have h1 : q = q / Nat.gcd a q * Nat.gcd a q := (Nat.div_mul_cancel hg).symm
  have h2 : q ≤ h * a := by
    rw [h1]
    exact Nat.mul_le_mul hle hga
  have h3 : (1 : Int) * (q : Int) ≤ (h : Int) * (a : Int) := by rw [Int.one_mul]; exact_mod_cast h2
  exact (Int.le_ediv_iff_mul_le (by omega)).2 h3
end Go.Proofs.YtlkkkgpcjdemdaaDoor
/- Song: Gifts, walked. -/
namespace Go.Proofs.YtlkkkgpcjdemdaaDoor
open List renaming getElem_toArray → glA, getElem_cons_zero → glB, getElem_cons_succ → glC, setIfInBounds_toArray → glD, set_cons_zero → glE, set_cons_succ → glF
open Go Go.RowKit Go.Shelf
set_option maxHeartbeats 4000000
set_option maxRecDepth 100000
def GiPost (n : Int) (l : List Int) (w : World) (e : Ending) (w' : World) : Prop :=
  ∃ v, e = .returned (.tuple #[v, .int .i64 (giE n l)]) ∧ OwnJ w' w.heap.size v (if giE n l = 0 then gvL n l else []) ∧ Below w.heap.size w w'
theorem gi_no {n : Int} {l : List Int} {w w' : World} {E : Int} (h : giE n l = E) (h0 : E ≠ 0) (hb : Below w.heap.size w w') : GiPost n l w (.returned (.tuple #[.slice none 0 0, .int .i64 E])) w' := by
  refine ⟨_, by rw [h], ?_, hb⟩
  rw [if_neg (by rw [h]; exact h0)]
  exact OwnJ.nil _ _
theorem wOk_iff {x : Int} : wOk x = true ↔ 0 ≤ x ∧ x ≤ 1000000 := by unfold wOk; rw [Bool.and_eq_true, decide_eq_true_iff, decide_eq_true_iff]
theorem wt_mem {l : List Int} {k : Nat} (h : k < l.length) : wtF l k ∈ l := by
  unfold wtF
  rw [List.getD_eq_getElem?_getD, List.getElem?_eq_getElem h]; exact List.getElem_mem h
theorem rowV_int0 (n : Nat) : madeCells (Value.int .i64 0).cells (n * 1) = rowV n (fun _ => .int .i64 0) := by
  apply Array.ext_getElem?
  intro j
  simp only [rowV, madeCells, Array.getElem?_map, Array.getElem?_range, List.getElem?_toArray, List.getElem?_map, Nat.mul_one]
  by_cases hj : j < n
  · simp [hj, Value.cells, Nat.mod_one]
  · simp [hj]
theorem make_ints (k : Nat) (hk : k ≤ 1000000) (W : World) : (Instr.makeSlice 26 (.int .i64 (k : Int)) (.int .i64 (k : Int))).run Tryd.prog W = .ok (.slice (some ⟨W.heap.size, 0, none⟩) k k) (W.alloc (.cells (rowV k fun _ => .int .i64 0) 3)) := by
  obtain ⟨i0, hi, hz0, hz1, hz2⟩ := info_parts info_int'
  have h := run_make_rowN (P := Tryd.prog) 26 3 i0 _ Tryd.underlying26 hi hz0 .i64 .i64 k k (Nat.le_refl _) (by rw [hz2]; omega) (by omega) W
  rw [hz1, rowV_int0] at h
  exact h
theorem GfC.grown {W W' : World} {p q r s o B : Nat} {A : Option Addr} {cp : Nat} {n al : Int} {l : List Int} (h : GfC W p q r s A cp n al l ∧ LI W B A l) (hg : W.grownBy W' (some o)) (h1 : p ≠ o) (h2 : q ≠ o) (h3 : r ≠ o) (h4 : s ≠ o) (hB : B ≤ o) (hBW : B ≤ W.heap.size) :
    GfC W' p q r s A cp n al l ∧ LI W' B A l := by
  obtain ⟨h, hl⟩ := h
  have kc : ∀ {b i : Nat} {v : Value}, b ≠ o → W.cell? ⟨b, i, none⟩ = some v → W'.cell? ⟨b, i, none⟩ = some v := fun {b i v} hb hc =>
    (World.cell?_of_block (hg.block b (by have := cell_lt hc; exact this) (fun e => hb (by injection e)))).trans hc
  have hl2 : LI W' B A l := fun hn => by
    obtain ⟨b, off, e1, e2, e3⟩ := hl hn
    exact ⟨b, off, e1, e2, fun i j hi hj => kc (by omega) (e3 i j hi hj)⟩
  exact ⟨⟨kc h1 h.cp1, kc h2 h.cq, kc h3 h.cr, kc h4 h.cs, ER.more hl2 (Nat.le_trans hBW hg.size)⟩, hl2⟩
def inB (f : Nat → Int) (j i : Nat) : Bool := anyTo (fun s => decide (f s = (i : Int))) j
theorem own_row {W : World} {g k base : Nat} {f : Nat → Int} (h : Blk W g 3 (rowV k fun i => .int .i64 (f i))) (hb : base ≤ g) (hk : k ≤ 1000000) : OwnJ W base (.slice (some ⟨g, 0, none⟩) k k) ((List.range k).map f) := by
  refine ⟨?_, ?_⟩
  · rw [intJ_len]; simp
  · have e : (rowV k fun i => Value.int .i64 (f i)).toList = intJ ((List.range k).map f) := by unfold rowV intJ; simp
    refine .inr ⟨g, k, _, by simp, hb, h, by simp, by unfold maxLen; omega, by unfold rowV; simp, ?_⟩
    rw [e]
    refine List.take_of_length_le ?_
    rw [intJ_len]; simp
theorem gift_sort (p s o g k : Nat) (A : Option Addr) (cp : Nat) (n al : Int) (l : List Int) (w : World) (hk : l.length = k) (hk20 : k ≤ 20) (hn : 0 ≤ n ∧ n ≤ 1000000000) (ha : 1 ≤ al ∧ al ≤ 20000000) (hl : ∀ x ∈ l, 0 ≤ x ∧ x ≤ 1000000)
    (h : GfC w p (p + 1) (p + 1 + 1) s A cp n al l) (hL : LI w p A l) (hpw : p ≤ w.heap.size) (hpo : p + 1 + 1 < o) (hs : s ≠ o) (ho : Blk w o 3 (rowV k fun i => .int .i64 (i : Int))) :
    Calls Tryd.prog 49 #[.slice (some ⟨o, 0, none⟩) k k, .func (.func 50) #[] #[.pointer (some ⟨s, 0, none⟩)]] w fun e w' => e = .returned (.tuple #[]) ∧ StP (GfV k) (gLt n al l) o k (fun i => (i : Int)) w w' := by
  subst hk
  exact sortStable20_any (c := gcF n al l) (less := glB n al l) (fun _ _ => rfl) (gOrd n al l) (GfV l.length) 50 #[.pointer (some ⟨s, 0, none⟩)] (enters_of Tryd.func50 (by kernel_rfl) rfl) o l.length l.length
    (fun W => (GfC W p (p + 1) (p + 1 + 1) s A cp n al l ∧ LI W p A l) ∧ p ≤ W.heap.size)
    (fun W W' h hg => ⟨GfC.grown h.1 hg (by omega) (by omega) (by omega) hs (by omega) h.2, Nat.le_trans h.2 hg.size⟩)
    (fun W x y h hx hy => gcmp_any h.1.1 hn ha hl hk20 x y hx hy) (fun i => (i : Int)) w ⟨⟨h, hL⟩, hpw⟩
    ⟨⟨_, ho⟩, fun i hi => by rw [ho.cell, rowV_get _ _ hi], fun i hi => ⟨by omega, by omega⟩⟩ hk20 (fun x y h1 _ => gAhead n al l (by omega))
theorem inB_succ (f : Nat → Int) (j i : Nat) : inB f (j + 1) i = (inB f j i || decide (f j = (i : Int))) := rfl
def gnF (n al : Int) (l : List Int) (f : Nat → Int) (j i : Nat) : Int := flrF n al l i + if inB f j i then 1 else 0
theorem gifts_any (n : Int) (A : Option Addr) (cp : Nat) (l : List Int) (w : World) (hA : LI w w.heap.size A l) (hlm : l.length ≤ maxLen) : Calls Tryd.prog 14 #[.int .i64 n, .slice A l.length cp] w (GiPost n l w) := by
  unfold maxLen at hlm
  obtain ⟨k, hk⟩ : ∃ k, l.length = k := ⟨_, rfl⟩
  have HK := hide hk
  have HNO := hide (fun w' E (h : giE n l = E) (h0 : E ≠ 0) (hb : Below w.heap.size w w') => gi_no h h0 hb)
  have HAL := hide (fun W (h : Below w.heap.size w W) => (ER.below hA h (Nat.le_refl _) : LI W w.heap.size A l))
  have HDE : Hid (giE n l = giE n l) := hide rfl
  obtain ⟨Q, hQ⟩ : ∃ Q, GiPost n l w = Q := ⟨_, rfl⟩
  rw [hQ] at HNO
  rw [hQ, hk]
  rw [hk] at hlm
  have HQ := hide hQ
  clear hQ hA
  by_cases h20 : 20 < k
  · have h20' : (20 : Int) < (k : Int) := by omega
    have HE : Hid (giE n l = 5) := hide (by unfold giE; rw [if_pos (by omega)])
    clear hk
    go_enter Tryd.func14, Tryd.ntmps14
    go_wp2_with fail
    exact HNO.out _ _ HE.out (by decide) (((Below.refl _ _).alloc (Nat.le_refl _) _).alloc (by simp) _)
  have h20' : ¬ (20 : Int) < (k : Int) := by omega
  by_cases hn0 : n < 0
  · have HE : Hid (giE n l = 3) := hide (by unfold giE; rw [if_neg (by omega), if_pos (.inl hn0)])
    clear hk
    go_enter Tryd.func14, Tryd.ntmps14
    go_wp2_with fail
    exact HNO.out _ _ HE.out (by decide) (((Below.refl _ _).alloc (Nat.le_refl _) _).alloc (by simp) _)
  by_cases hn1 : 1000000000 < n
  · have HE : Hid (giE n l = 3) := hide (by unfold giE; rw [if_neg (by omega), if_pos (.inr hn1)])
    clear hk
    go_enter Tryd.func14, Tryd.ntmps14
    go_wp2_with fail
    exact HNO.out _ _ HE.out (by decide) (((Below.refl _ _).alloc (Nat.le_refl _) _).alloc (by simp) _)
  have HE1 : Hid (giE n l = if l.all wOk = false then 2 else if allF l = 0 then 2 else 0) := hide (by unfold giE; rw [if_neg (by omega), if_neg (by omega)])
  have hb3 : Below w.heap.size w (((w.alloc (.cells #[.int .i64 n] 3)).alloc (.cells #[.slice A k cp] 26)).alloc (.cells #[.int .i64 0] 3)) := (((Below.refl _ _).alloc (Nat.le_refl _) _).alloc (by simp) _).alloc (by simp only [World.size_alloc]; omega) _
  have kp : Blk (((w.alloc (.cells #[.int .i64 n] 3)).alloc (.cells #[.slice A k cp] 26)).alloc (.cells #[.int .i64 0] 3)) w.heap.size 3 #[.int .i64 n] := ((Blk.new w _ _).alloc _).alloc _
  have kq : Blk (((w.alloc (.cells #[.int .i64 n] 3)).alloc (.cells #[.slice A k cp] 26)).alloc (.cells #[.int .i64 0] 3)) (w.heap.size + 1) 26 #[.slice A k cp] := by simpa using (Blk.new (w.alloc (.cells #[.int .i64 n] 3)) 26 #[.slice A k cp]).alloc (.cells #[.int .i64 0] 3)
  have kr : Blk (((w.alloc (.cells #[.int .i64 n] 3)).alloc (.cells #[.slice A k cp] 26)).alloc (.cells #[.int .i64 0] 3)) (w.heap.size + 1 + 1) 3 #[.int .i64 0] := by simpa using Blk.new ((w.alloc (.cells #[.int .i64 n] 3)).alloc (.cells #[.slice A k cp] 26)) 3 #[.int .i64 0]
  have HB3 := hide hb3
  have KP := hide kp
  have KQ := hide kq
  have KR := hide kr
  clear hk hb3 kp kq kr
  go_enter Tryd.func14, Tryd.ntmps14
  go_wp2_with fail
  obtain ⟨p, hp⟩ : ∃ p, w.heap.size = p := ⟨_, rfl⟩
  have HPP := hide hp
  rw [hp] at KP KQ KR HAL HB3 HNO ⊢
  clear hp
  generalize (((w.alloc (.cells #[.int .i64 n] 3)).alloc (.cells #[.slice A k cp] 26)).alloc (.cells #[.int .i64 0] 3)) = w3 at KP KQ KR HB3 ⊢
  go_loopw [28] (fun i wr => ∃ j : Nat, j ≤ k ∧ i = .int .i64 j ∧ Hid (∀ i, i < j → 0 ≤ wtF l i ∧ wtF l i ≤ 1000000) ∧ Hid (Blk wr p 3 #[.int .i64 n]) ∧ Hid (Blk wr (p + 1) 26 #[.slice A k cp]) ∧ Hid (Blk wr (p + 1 + 1) 3 #[.int .i64 (smF (wtF l) j)]) ∧ Hid (Below p w wr)) (fun i _ => k - (intOf i).toNat)
  case atStart => exact ⟨0, Nat.zero_le _, rfl, hide (fun i hi => by omega), KP, KQ, KR, HB3⟩
  case round =>
    obtain ⟨j, hj, rfl, HW, KPj, KQj, KRj, HBj⟩ := hrel
    clear KP KQ KR HB3
    by_cases hlt : j < k
    · obtain ⟨wb, wo, rfl, -, hc⟩ := VR1.at_ (u := fun k => .int .i64 (l.getD k 0)) (HAL.out _ HBj.out) (k := j) (by rw [HK.out]; exact hlt)
      obtain ⟨x, hx⟩ : ∃ x, l.getD j 0 = x := ⟨_, rfl⟩
      rw [hx] at hc
      have HX := hide (show wtF l j = x from hx)
      have hmem : x ∈ l := by rw [← hx]; exact wt_mem (by rw [HK.out]; exact hlt)
      have HMEM := hide hmem
      clear hx hmem
      by_cases hx0 : x < 0
      · have HE : Hid (giE n l = 2) := hide (by
          rw [HE1.out, if_pos]
          rw [← Bool.not_eq_true, List.all_eq_true]
          intro h
          have := wOk_iff.1 (h x HMEM.out)
          omega)
        go_wp2_with fail
        exact HNO.out _ _ HE.out (by decide) HBj.out
      by_cases hx1 : 1000000 < x
      · have HE : Hid (giE n l = 2) := hide (by
          rw [HE1.out, if_pos]
          rw [← Bool.not_eq_true, List.all_eq_true]
          intro h
          have := wOk_iff.1 (h x HMEM.out)
          omega)
        go_wp2_with fail
        exact HNO.out _ _ HE.out (by decide) HBj.out
      have hs1 : smF (wtF l) j ≤ (j : Int) * 1000000 := by rw [← smF_const]; exact smF_le (fun i hi => (HW.out i hi).2)
      have hs0 : 0 ≤ smF (wtF l) j := smF_nonneg (fun i hi => (HW.out i hi).1)
      obtain ⟨kr1, kr2, kr3⟩ := blk1 KRj.out
      obtain ⟨y, hy⟩ : ∃ y, smF (wtF l) j = y := ⟨_, rfl⟩
      rw [hy] at hs1 hs0 kr2
      have HY := hide hy
      have w1 : IntKind.i64.wrap (y + x) = y + x := IntWalk.i64_in _ (by omega)
      have KR2 := hide (KRj.out.set_ 0 (.int .i64 (y + x)))
      have KP2 := hide (KPj.out.far (p := ⟨p + 1 + 1, 0, none⟩) (by dsimp only; omega) (.int .i64 (y + x)))
      have KQ2 := hide (KQj.out.far (p := ⟨p + 1 + 1, 0, none⟩) (by dsimp only; omega) (.int .i64 (y + x)))
      have HB2 := hide (HBj.out.setCell (p := ⟨p + 1 + 1, 0, none⟩) (by dsimp only; omega) (.int .i64 (y + x)))
      clear hy
      go_wp2_with fail
      go_roundw
      case rel => exact ⟨j + 1, by omega, by go_num, hide (fun i hi => by
        rcases (by omega : i < j ∨ i = j) with h | rfl
        · exact HW.out i h
        · rw [HX.out]; omega), KP2, KQ2, hide (by
          have := KR2.out
          unfold smF
          rw [HY.out, HX.out]
          simpa using this), HB2⟩
      case measure => simp [intOf]; omega
    · obtain rfl : k = j := by omega
      have hall : l.all wOk = true := by
        rw [List.all_eq_true]
        intro x hx
        obtain ⟨i, hi, rfl⟩ := List.getElem_of_mem hx
        have h := HW.out i (by have := HK.out; omega)
        unfold wtF at h
        rw [List.getD_eq_getElem?_getD, List.getElem?_eq_getElem hi] at h
        exact wOk_iff.2 h
      have hal : smF (wtF l) k = allF l := by unfold allF; rw [HK.out]
      have hs1 : smF (wtF l) k ≤ (k : Int) * 1000000 := by rw [← smF_const]; exact smF_le (fun i hi => (HW.out i hi).2)
      have hs0 : 0 ≤ smF (wtF l) k := smF_nonneg (fun i hi => (HW.out i hi).1)
      rw [hal] at KRj hs1 hs0
      have HE2 : Hid (giE n l = if allF l = 0 then 2 else 0) := hide (by rw [HE1.out, if_neg (by rw [hall]; exact Bool.noConfusion)])
      clear hal hlt
      have HWL : Hid (∀ x ∈ l, 0 ≤ x ∧ x ≤ 1000000) := hide (fun x hx => wOk_iff.1 (List.all_eq_true.1 hall x hx))
      clear hall HE1 HW
      obtain ⟨kr1, kr2, kr3⟩ := blk1 KRj.out
      obtain ⟨kp1, kp2, kp3⟩ := blk1 KPj.out
      obtain ⟨kq1, kq2, kq3⟩ := blk1 KQj.out
      obtain ⟨al, hal⟩ : ∃ al, allF l = al := ⟨_, rfl⟩
      rw [hal] at hs1 hs0 kr2 KRj HE2
      have HALL := hide hal
      clear hal
      by_cases ha0 : al = 0
      · subst ha0
        go_wp2_with fail
        exact HNO.out _ _ HE2.out (by decide) HBj.out
      have hz : (al == 0) = false := by rw [beq_eq_false_iff_ne]; exact ha0
      have HE3 : Hid (giE n l = 0) := hide (by rw [HE2.out, if_neg ha0])
      clear HE2
      go_upto_region 15 with fail
      go_cut [9, 10, 11] (fun a b c w' => ∃ g o : Nat, a = .slice (some ⟨g, 0, none⟩) k k ∧ b = .slice (some ⟨o, 0, none⟩) k k ∧ c = .int .i64 n ∧ Hid (g ≠ o ∧ wr.heap.size ≤ g ∧ wr.heap.size ≤ o) ∧ Hid (Blk w' g 3 (rowV k fun _ => .int .i64 0)) ∧ Hid (Blk w' o 3 (rowV k fun _ => .int .i64 0)) ∧ Hid (Below wr.heap.size wr w'))
      case first =>
        have HBD := hide ((Below.refl wr.heap.size wr).drew)
        have HS : Hid (∀ W, Below wr.heap.size wr W → (W.cell? ⟨p + 1, 0, none⟩ = some (.slice A k cp) ∧ W.cell? ⟨p, 0, none⟩ = some (.int .i64 n))) := hide fun W h => ⟨(h.cell kq1).trans kq2, (h.cell kp1).trans kp2⟩
        refine wp_region_J (fun W : World => (W.cell? ⟨p + 1, 0, none⟩ = some (.slice A k cp) ∧ W.cell? ⟨p, 0, none⟩ = some (.int .i64 n))) (by kernel_rfl) ?_
        generalize wr.drew = wd at HBD ⊢
        have gl := fun W => make_ints k (by omega) W
        have hb1 : Below wd.heap.size wd (wd.alloc (.cells (rowV k fun _ => Value.int .i64 0) 3)) := (Below.refl _ _).alloc (Nat.le_refl _) _
        have hb2 : Below wd.heap.size wd ((wd.alloc (.cells (rowV k fun _ => Value.int .i64 0) 3)).alloc (.cells (rowV k fun _ => Value.int .i64 0) 3)) := hb1.alloc (by simp) _
        have HB1 := hide (HBD.out.trans (hb1.mono HBD.out.size))
        have HB2 := hide (HBD.out.trans (hb2.mono HBD.out.size))
        have HZ := hide HBD.out.size
        clear hb1 hb2 kr1 kr2 kr3 kp1 kp2 kp3 kq1 kq2 kq3
        refine tk_start [0, 1, 3, 4, 6] ?_
        iterate 5
          refine tk_one (v := ?_) (by first | exact hF | exact wideFn) (HS.out _ HBD.out) rfl (by kernel_rfl) (by kernel_rfl) (by kernel_rfl) (by kernel_rfl) rfl ?_ (by first | exact fun _ _ _ h => h | exact fun _ _ _ h => hQ2 _ _ _ _ _ h) ?_
          rotate_left
          · intro W hSW
            simp only [glA, glB, glC]
            (try dsimp only at hSW)
            go_simp
            with_reducible rfl
          (try simp only [glA, glB, glC, Act.put, glD, glE, glF])
        refine tk_end ?_
        refine wpAnyJ_two 2 5 rfl rfl (by kernel_rfl) (fun K hK => ?_) (fun K hK => ?_)
        · simp only [glA, glB, glC]
          go_simp
          refine hK.out _ _ (fun _ => HS.out _ HB1.out) ?_
          clear hK K
          (try simp only [glA, glB, glC, Act.put, glD, glE, glF])
          refine wpAnyJ_take 7 (v := ?_) (by first | exact hF | exact wideFn) (HS.out _ HB1.out) rfl (by kernel_rfl) (by kernel_rfl) (by kernel_rfl) (by kernel_rfl) rfl ?_ (by first | exact fun _ _ _ h => h | exact fun _ _ _ h => hQ2 _ _ _ _ _ h) ?_
          rotate_left
          · intro W hSW
            simp only [glA, glB, glC]
            (try dsimp only at hSW)
            go_simp
            with_reducible rfl
          (try simp only [glA, glB, glC, Act.put, glD, glE, glF])
          refine wpAnyJ_one 5 rfl (by kernel_rfl) (fun K hK => ?_)
          simp only [glA, glB, glC]
          go_simp
          refine hK.out _ _ (fun _ => HS.out _ HB2.out) ?_
          clear hK K
          (try simp only [glA, glB, glC, Act.put, glD, glE, glF])
          refine wpAnyJ_take 8 (v := ?_) (by first | exact hF | exact wideFn) (HS.out _ HB2.out) rfl (by kernel_rfl) (by kernel_rfl) (by kernel_rfl) (by kernel_rfl) rfl ?_ (by first | exact fun _ _ _ h => h | exact fun _ _ _ h => hQ2 _ _ _ _ _ h) ?_
          rotate_left
          · intro W hSW
            simp only [glA, glB, glC]
            (try dsimp only at hSW)
            go_simp
            with_reducible rfl
          (try simp only [glA, glB, glC, Act.put, glD, glE, glF])
          refine wpAnyJ_take 9 (v := ?_) (by first | exact hF | exact wideFn) (HS.out _ HB2.out) rfl (by kernel_rfl) (by kernel_rfl) (by kernel_rfl) (by kernel_rfl) rfl ?_ (by first | exact fun _ _ _ h => h | exact fun _ _ _ h => hQ2 _ _ _ _ _ h) ?_
          rotate_left
          · intro W hSW
            simp only [glA, glB, glC]
            (try dsimp only at hSW)
            go_simp
            with_reducible rfl
          (try simp only [glA, glB, glC, Act.put, glD, glE, glF])
          refine wpAnyJ_done (by kernel_rfl) ?_
          go_wp2_with fail
          go_meet
          exact ⟨_, _, rfl, rfl, rfl, hide ⟨by simp, HZ.out, by have := HZ.out; simp; omega⟩, hide ((Blk.new wd _ _).alloc _), hide (by simpa using Blk.new (wd.alloc (.cells (rowV k fun _ => Value.int .i64 0) 3)) 3 (rowV k fun _ => Value.int .i64 0)), HB2⟩
        · simp only [glA, glB, glC]
          go_simp
          refine hK.out _ _ (fun _ => HS.out _ HB1.out) ?_
          clear hK K
          (try simp only [glA, glB, glC, Act.put, glD, glE, glF])
          refine wpAnyJ_one 2 rfl (by kernel_rfl) (fun K hK => ?_)
          simp only [glA, glB, glC]
          go_simp
          refine hK.out _ _ (fun _ => HS.out _ HB2.out) ?_
          clear hK K
          (try simp only [glA, glB, glC, Act.put, glD, glE, glF])
          refine tk_start [7, 8, 9] ?_
          iterate 3
            refine tk_one (v := ?_) (by first | exact hF | exact wideFn) (HS.out _ HB2.out) rfl (by kernel_rfl) (by kernel_rfl) (by kernel_rfl) (by kernel_rfl) rfl ?_ (by first | exact fun _ _ _ h => h | exact fun _ _ _ h => hQ2 _ _ _ _ _ h) ?_
            rotate_left
            · intro W hSW
              simp only [glA, glB, glC]
              (try dsimp only at hSW)
              go_simp
              with_reducible rfl
            (try simp only [glA, glB, glC, Act.put, glD, glE, glF])
          refine tk_end ?_
          refine wpAnyJ_done (by kernel_rfl) ?_
          go_wp2_with fail
          go_meet
          exact ⟨_, _, rfl, rfl, rfl, hide ⟨by simp, by have := HZ.out; simp; omega, HZ.out⟩, hide (by simpa using Blk.new (wd.alloc (.cells (rowV k fun _ => Value.int .i64 0) 3)) 3 (rowV k fun _ => Value.int .i64 0)), hide ((Blk.new wd _ _).alloc _), HB2⟩
      obtain ⟨g, o, rfl, rfl, rfl, HNE, KG, KO, HB4⟩ := hcut
      obtain ⟨w4, rfl⟩ : ∃ x, x = wc := ⟨wc, rfl⟩
      clear kr1 kr2 kr3 kp1 kp2 kp3 kq1 kq2 kq3 hz
      obtain ⟨kq1, kq2, kq3⟩ := blk1 (KQj.out.ext HB4.out)
      go_wp2_with fail
      clear kq1 kq2 kq3
      obtain ⟨wo, rfl⟩ : ∃ x, x = wr := ⟨wr, rfl⟩
      go_loopw [11, 53] (fun lf i wx => ∃ j : Nat, j ≤ k ∧ i = .int .i64 j ∧ lf = .int .i64 (n - smF (flrF n al l) j) ∧ Hid (Blk wx g 3 (rowV k fun i => .int .i64 (if i < j then flrF n al l i else 0))) ∧ Hid (Blk wx o 3 (rowV k fun i => .int .i64 (if i < j then (i : Int) else 0))) ∧ Hid (Below wo.heap.size wo wx)) (fun _ i _ => k - (intOf i).toNat)
      case atStart => exact ⟨0, Nat.zero_le _, rfl, by simp [smF], hide (by
        rw [rowV_same k _ (fun _ => .int .i64 0) (fun i _ => by rw [if_neg (by omega)])]; exact KG.out), hide (by
        rw [rowV_same k _ (fun _ => .int .i64 0) (fun i _ => by rw [if_neg (by omega)])]; exact KO.out), HB4⟩
      case round =>
        obtain ⟨j, hj, rfl, rfl, KGj, KOj, HB5⟩ := hrel
        clear KG KO HB4
        by_cases hlt : j < k
        · obtain ⟨wb, wf, rfl, hwl, hc⟩ := VR1.at_ (u := fun k => .int .i64 (l.getD k 0)) (HAL.out _ (HBj.out.trans (HB5.out.mono (by have h1 := HBj.out.size; have h2 := HPP.out; omega)))) (k := j) (by rw [HK.out]; exact hlt)
          have hxm := HWL.out _ (wt_mem (k := j) (by rw [HK.out]; exact hlt))
          obtain ⟨x, hx⟩ : ∃ x, l.getD j 0 = x := ⟨_, rfl⟩
          rw [hx] at hc
          have hx2 : wtF l j = x := hx
          rw [hx2] at hxm
          have hm := mul_bd (show 0 ≤ n by omega) hn1 hxm.1 hxm.2
          obtain ⟨y, hy⟩ : ∃ y, n * x = y := ⟨_, rfl⟩
          rw [hy] at hm
          have w1 : IntKind.i64.wrap (n * x) = y := by rw [hy]; exact IntWalk.i64_in _ (by omega)
          have hfl : flrF n al l j = y / al := by unfold flrF; rw [hx, hy]
          have hf0 : 0 ≤ y / al := Int.ediv_nonneg hm.1 (by omega)
          have hf1 : y / al ≤ 1000000000000000 := by have := Int.ediv_le_self al hm.1; omega
          have hfb : ∀ i, i < j → 0 ≤ flrF n al l i ∧ flrF n al l i ≤ 1000000000000000 := fun i hi => by
            have h1 := HWL.out _ (wt_mem (k := i) (by rw [HK.out]; omega))
            have h2 := mul_bd (show 0 ≤ n by omega) hn1 h1.1 h1.2
            unfold flrF
            exact ⟨Int.ediv_nonneg h2.1 (by omega), by have := Int.ediv_le_self al h2.1; unfold wtF at this h2; omega⟩
          have hs3 : smF (flrF n al l) j ≤ (j : Int) * 1000000000000000 := by rw [← smF_const]; exact smF_le (fun i hi => (hfb i hi).2)
          have hs2 : 0 ≤ smF (flrF n al l) j := smF_nonneg (fun i hi => (hfb i hi).1)
          obtain ⟨sm, hsm⟩ : ∃ s, smF (flrF n al l) j = s := ⟨_, rfl⟩
          rw [hsm] at hs2 hs3 ⊢
          obtain ⟨f, hf⟩ : ∃ f, y / al = f := ⟨_, rfl⟩
          have w2 : y.tdiv al = f := by rw [Int.tdiv_eq_ediv_of_nonneg hm.1, hf]
          rw [hf] at hfl hf0 hf1
          have w3 : IntKind.i64.wrap f = f := IntWalk.i64_in _ (by omega)
          have w4' : IntKind.i64.wrap (n - sm - f) = n - sm - f := IntWalk.i64_in _ (by omega)
          obtain ⟨kr1, kr2, kr3⟩ := blk1 (KRj.out.ext HB5.out)
          obtain ⟨kp1, kp2, kp3⟩ := blk1 (KPj.out.ext HB5.out)
          have i1 : (0 : Int) ≤ (j : Int) := by omega
          have i2 : (j : Int) < (k : Int) := by omega
          have z1 : ¬ al = 0 := ha0
          have hgo := HNE.out.1
          have cg : wr.cell? ⟨g, j, none⟩ = some (.int .i64 0) := by rw [KGj.out.cell, rowV_get _ _ hlt, if_neg (by omega)]
          have co : wr.cell? ⟨o, j, none⟩ = some (.int .i64 0) := by rw [KOj.out.cell, rowV_get _ _ hlt, if_neg (by omega)]
          have fg := KGj.out.frozen j
          have fo := KOj.out.frozen j
          have KG2 := hide ((KGj.out.set_ j (.int .i64 f)).far (p := ⟨o, j, none⟩) hgo (.int .i64 (j : Int)))
          have KO2 := hide ((KOj.out.far (p := ⟨g, j, none⟩) (fun e => hgo e.symm) (.int .i64 f)).set_ j (.int .i64 (j : Int)))
          have HB6 := hide ((HB5.out.setCell (p := ⟨g, j, none⟩) HNE.out.2.1 (.int .i64 f)).setCell (p := ⟨o, j, none⟩) HNE.out.2.2 (.int .i64 (j : Int)))
          have cg2 : ((wr.setCell ⟨g, j, none⟩ (.int .i64 f)).setCell ⟨o, j, none⟩ (.int .i64 (j : Int))).cell? ⟨g, j, none⟩ = some (.int .i64 f) := by
            rw [KG2.out.cell, rowV_set, rowV_get _ _ hlt, upd_same]
          have KO1 := hide (KOj.out.far (p := ⟨g, j, none⟩) (fun e => hgo e.symm) (.int .i64 f))
          have co2 : (wr.setCell ⟨g, j, none⟩ (.int .i64 f)).cell? ⟨o, j, none⟩ = some (.int .i64 0) := by rw [KO1.out.cell, rowV_get _ _ hlt, if_neg (by omega)]
          have fo2 := KO1.out.frozen j
          have zg := KGj.out.lt
          have zo := KOj.out.lt
          have hog : o ≠ g := fun e => hgo e.symm
          have HFL := hide hfl
          have HSM := hide hsm
          clear hx hx2 hy hf hfl hfb hsm hm hxm hwl co fo
          go_wp2_with fail
          go_roundw
          case rel => exact ⟨j + 1, by omega, by go_num, by unfold smF; rw [HSM.out, HFL.out]; go_num, hide (by
            have h := KG2.out
            rw [rowV_set] at h
            rw [rowV_same k _ (upd (fun i => Value.int .i64 (if i < j then flrF n al l i else 0)) j (.int .i64 f)) (fun i hi => by
              by_cases e : i = j
              · subst e; rw [upd_same, if_pos (by omega), HFL.out]
              · rw [upd_ne _ _ e]
                by_cases e2 : i < j
                · rw [if_pos (by omega), if_pos e2]
                · rw [if_neg (by omega), if_neg e2])]
            exact h), hide (by
            have h := KO2.out
            rw [rowV_set] at h
            rw [rowV_same k _ (upd (fun i => Value.int .i64 (if i < j then (i : Int) else 0)) j (.int .i64 (j : Int))) (fun i hi => by
              by_cases e : i = j
              · subst e; rw [upd_same, if_pos (by omega)]
              · rw [upd_ne _ _ e]
                by_cases e2 : i < j
                · rw [if_pos (by omega), if_pos e2]
                · rw [if_neg (by omega), if_neg e2])]
            exact h), HB6⟩
          case measure => simp [intOf]; omega
        · obtain rfl : k = j := by omega
          clear hlt
          have hlb := lef_bd n l (by rw [HALL.out]; omega)
          unfold lefF at hlb
          rw [HALL.out, HK.out] at hlb
          obtain ⟨e, he⟩ := Int.eq_ofNat_of_zero_le hlb.1
          rw [he] at hlb ⊢
          have hek : e < k := by omega
          have HE9 := hide he
          have KG2 : Hid (Blk wr g 3 (rowV k fun i => .int .i64 (flrF n al l i))) := hide (by
            rw [rowV_same k _ (fun i => .int .i64 (if i < k then flrF n al l i else 0)) (fun i hi => by rw [if_pos hi])]; exact KGj.out)
          have KO2 : Hid (Blk wr o 3 (rowV k fun i => .int .i64 (i : Int))) := hide (by
            rw [rowV_same k _ (fun i => .int .i64 (if i < k then (i : Int) else 0)) (fun i hi => by rw [if_pos hi])]; exact KOj.out)
          have KP2 := hide (KPj.out.ext HB5.out)
          have KQ2 := hide (KQj.out.ext HB5.out)
          have KR2 := hide (KRj.out.ext HB5.out)
          have HB2 := hide (HBj.out.trans (HB5.out.mono (by have h1 := HBj.out.size; have h2 := HPP.out; omega)))
          have KRj' := KRj
          clear he hlb KGj KOj KPj KQj KRj
          go_wp2_with fail
          have hbs : Below wr.heap.size wr (wr.alloc (.cells #[.func (.func 48) #[] #[.pointer (some ⟨p, 0, none⟩), .pointer (some ⟨p + 1, 0, none⟩), .pointer (some ⟨p + 1 + 1, 0, none⟩)]] 101)) := (Below.refl _ _).alloc (Nat.le_refl _) _
          have ks := Blk.new wr 101 #[.func (.func 48) #[] #[.pointer (some ⟨p, 0, none⟩), .pointer (some ⟨p + 1, 0, none⟩), .pointer (some ⟨p + 1 + 1, 0, none⟩)]]
          have hkp := KP2.out.ext hbs
          have hkq := KQ2.out.ext hbs
          have hkr := KR2.out.ext hbs
          have hlp := KR2.out.lt
          have hol := KO2.out.lt
          have hwo := HNE.out.2.2
          have hlo2 := KRj'.out.lt
          have HSO := hide (gift_sort p wr.heap.size o g k A cp n al l (wr.alloc (.cells #[.func (.func 48) #[] #[.pointer (some ⟨p, 0, none⟩), .pointer (some ⟨p + 1, 0, none⟩), .pointer (some ⟨p + 1 + 1, 0, none⟩)]] 101)) HK.out (by omega) ⟨by omega, by omega⟩ ⟨by omega, by omega⟩ HWL.out
            ⟨(bx1 hkp).2, by rw [HK.out]; exact (bx1 hkq).2, (bx1 hkr).2, (bx1 ks).2, ER.more (HAL.out _ (HB2.out.trans (hbs.mono (by have := HB2.out.size; omega)))) (by simp; omega)⟩
            (HAL.out _ (HB2.out.trans (hbs.mono (by have := HB2.out.size; omega)))) (by simp; omega) (by omega) (by omega) (KO2.out.ext hbs))
          have HBS := hide hbs
          clear hkp hkq hkr ks hbs hlp hol hwo
          refine HSO.out.mono ?_
          rintro e' w5 ⟨rfl, f', hI5, hM5, hG5⟩
          have hpe := HPP.out
          have hbz := HB2.out.size
          have hoz := HNE.out.2.2
          have hgz := HNE.out.2.1
          have hwz := HBj.out.size
          have KG5 : Hid (Blk w5 g 3 (rowV k fun i => .int .i64 (gnF n al l f' 0 i))) := hide (by
            rw [rowV_same k _ (fun i => .int .i64 (flrF n al l i)) (fun i _ => by show Value.int .i64 (flrF n al l i + if false = true then 1 else 0) = _; simp)]
            exact (KG2.out.ext HBS.out).grown hG5 (fun e => HNE.out.1 (by injection e)))
          have HB5' : Hid (Below p w w5) := hide ((HB2.out.trans (HBS.out.mono (by omega))).grown hG5 (by have := HBS.out.size; omega) (fun k e => by injection e with e; omega))
          have HI5 := hide hI5
          have HM5 := hide hM5
          have e1 : (0 : Int) ≤ (e : Int) := by omega
          have e2 : (e : Int) ≤ (k : Int) := by omega
          clear hI5 hM5 hG5 hpe hbz KG2 KO2 HSO HBS
          go_wp2_with fail
          go_loopw [85] (fun i wr => ∃ j : Nat, j ≤ e ∧ i = .int .i64 j ∧ Hid (Blk wr g 3 (rowV k fun i => .int .i64 (gnF n al l f' j i))) ∧ Hid (IBR (GfV k) wr o k f') ∧ Hid (Below p w wr)) (fun i _ => e - (intOf i).toNat)
          case atStart => exact ⟨0, Nat.zero_le _, rfl, KG5, HI5, HB5'⟩
          case round =>
            obtain ⟨j, hj, rfl, KGj, HIj, HBj2⟩ := hrel
            clear KG5 HI5 HB5'
            by_cases hlt : j < e
            · have hjk : j < k := by omega
              obtain ⟨o1, o2, o3⟩ := HIj.out.at_ hjk
              obtain ⟨v0, v1⟩ := HIj.out.val j hjk
              obtain ⟨m, hm⟩ := Int.eq_ofNat_of_zero_le v0
              rw [hm] at o2 v1
              have hmk : m < k := by omega
              have hnin : inB f' j m = false := by
                rcases hb : inB f' j m with _ | _
                · rfl
                · obtain ⟨t, ht, h2⟩ := (anyTo_iff _ _).1 hb
                  have h3 := of_decide_eq_true h2
                  have hM := HM5.out
                  rw [← HK.out] at hM
                  have r1 := rk_at hM (t := t) (by rw [HK.out]; omega)
                  have r2 := rk_at hM (t := j) (by rw [HK.out]; omega)
                  rw [h3, ← hm, r2] at r1
                  omega
              have cg : wr.cell? ⟨g, m, none⟩ = some (.int .i64 (flrF n al l m)) := by rw [KGj.out.cell, rowV_get _ _ hmk]; unfold gnF; rw [hnin]; simp
              have fg := KGj.out.frozen m
              have zg := KGj.out.lt
              have i1 : (0 : Int) ≤ (m : Int) := by omega
              have i2 : (m : Int) < (k : Int) := by omega
              have hflb : 0 ≤ flrF n al l m ∧ flrF n al l m ≤ 1000000000000000 := by
                have h1 := HWL.out _ (wt_mem (k := m) (by rw [HK.out]; omega))
                have h2 := mul_bd (show 0 ≤ n by omega) hn1 h1.1 h1.2
                unfold flrF
                exact ⟨Int.ediv_nonneg h2.1 (by omega), by have := Int.ediv_le_self al h2.1; unfold wtF at this h2; omega⟩
              obtain ⟨f, hf⟩ : ∃ f, flrF n al l m = f := ⟨_, rfl⟩
              rw [hf] at cg hflb
              have w1 : IntKind.i64.wrap (f + 1) = f + 1 := IntWalk.i64_in _ (by omega)
              have KG6 := hide (KGj.out.set_ m (.int .i64 (f + 1)))
              have HI6 : Hid (IBR (GfV k) (wr.setCell ⟨g, m, none⟩ (.int .i64 (f + 1))) o k f') := hide (by
                obtain ⟨⟨cs, hc⟩, hK, hV⟩ := HIj.out
                have hne := HNE.out.1
                have hc2 := hc.far (p := ⟨g, m, none⟩) (fun e => hne e.symm) (.int .i64 (f + 1))
                exact ⟨⟨cs, hc2⟩, fun i hi => by rw [hc2.cell, ← hc.cell]; exact hK i hi, hV⟩)
              have HB6 := hide (HBj2.out.setCell (p := ⟨g, m, none⟩) (by dsimp only; have := HPP.out; omega) (.int .i64 (f + 1)))
              have HFF := hide hf
              have HMM := hide hm
              have HNI := hide hnin
              clear hf hm hnin hflb
              go_wp2_with fail
              go_roundw
              case rel => exact ⟨j + 1, by omega, by go_num, hide (by
                have h := KG6.out
                rw [rowV_set] at h
                rw [rowV_same k _ (upd (fun i => Value.int .i64 (gnF n al l f' j i)) m (.int .i64 (f + 1))) (fun i hi => by
                  by_cases e : i = m
                  · subst e
                    rw [upd_same]
                    unfold gnF
                    rw [inB_succ, HMM.out, HFF.out]
                    simp
                  · rw [upd_ne _ _ e]
                    unfold gnF
                    rw [inB_succ, HMM.out, decide_eq_false (by omega), Bool.or_false])]
                exact h), HI6, HB6⟩
              case measure => simp [intOf]; omega
            · obtain rfl : e = j := by omega
              have hfin : GiPost n l w (.returned (.tuple #[.slice (some ⟨g, 0, none⟩) k k, .int .i64 0])) wr := by
                refine ⟨_, by rw [HE3.out], ?_, by have := HBj2.out; rw [← HPP.out] at this; exact this⟩
                rw [if_pos HE3.out]
                have h := own_row (base := w.heap.size) KGj.out (by have := HPP.out; omega) (by omega)
                unfold gvL
                rw [HK.out]
                have e3 : (List.range k).map (gvF n l) = (List.range k).map fun i => gnF n al l f' e i := List.map_congr_left (fun i hi => by
                  have hik := List.mem_range.1 hi
                  have hM := HM5.out
                  rw [← HK.out] at hM
                  have hr := rk_mem hM e (by rw [HK.out]; omega) (i := i) (by rw [HK.out]; exact hik)
                  have hin : inB f' e i = decide (rkF n al l (i : Int) < e) := by
                    rw [Bool.eq_iff_iff, decide_eq_true_iff, ← hr]
                    unfold inB
                    rw [anyTo_iff]
                    constructor
                    · rintro ⟨t, h1, h2⟩; exact ⟨t, h1, of_decide_eq_true h2⟩
                    · rintro ⟨t, h1, h2⟩; exact ⟨t, h1, decide_eq_true h2⟩
                  have hl : lefF n al l = e := by unfold lefF; rw [HK.out, HE9.out]
                  unfold gvF gnF
                  rw [HALL.out, hin, hl]
                  by_cases hc : rkF n al l (i : Int) < e
                  · rw [if_pos (by omega), if_pos (decide_eq_true hc)]
                  · rw [if_neg (by omega), if_neg (by rw [decide_eq_false hc]; exact Bool.false_ne_true)])
                rw [e3]
                exact h
              rw [HQ.out] at hfin
              have HFIN := hide hfin
              clear hfin
              go_wp2_with fail
              exact HFIN.out
end Go.Proofs.YtlkkkgpcjdemdaaDoor
/- Song: Borrow, walked. -/
namespace Go.Proofs.YtlkkkgpcjdemdaaDoor
open Go Go.RowKit Go.Shelf
set_option maxHeartbeats 4000000
set_option maxRecDepth 100000
theorem OwnJ.push1 {W : World} {base : Nat} {v : Value} {l : List Int} (h : OwnJ W base v l) (x : Int) (hl : l.length ≤ 1000000) (hb : base ≤ W.heap.size) :
    ∃ v' w', (Builtin.append_ #[26, 26] 26 #[v, .slice (some ⟨W.heap.size, 0, none⟩) 1 1]).run Tryd.prog (W.alloc (.cells #[.int .i64 x] 3)) = .ok v' w' ∧ OwnJ w' base v' (l ++ [x]) ∧
      (W.alloc (.cells #[.int .i64 x] 3)).grownBy w' v.ownBlock ∧ (v'.ownBlock = v.ownBlock ∨ v'.ownBlock = some (W.heap.size + 1)) := by
  obtain ⟨i0, hi, hz0, hz1, hz2⟩ := info_parts info_int'
  obtain ⟨v', w', hr, h2, h3, h4⟩ := own_push (P := Tryd.prog) 26 3 i0 _ 8 Tryd.underlying26 hi hz0 hz1 hz2 rfl h (.int .i64 x) rfl (by omega) (by unfold maxLen; omega) hb
  refine ⟨v', w', hr, ?_, h3, h4⟩
  unfold OwnJ
  unfold intJ at h2 ⊢
  rw [List.map_append, List.length_append]
  exact h2
theorem pt_le {h : Int} {l : List (Int × Int)} (h0 : 0 ≤ h) (hl : l.all poB = true) {i : Nat} (hi : i < l.length) : 0 ≤ ptF h l i ∧ ptF h l i ≤ h := by
  have hpo := List.all_eq_true.1 hl (l.getD i (0, 0)) (by rw [List.getD_eq_getElem?_getD, List.getElem?_eq_getElem hi]; exact List.getElem_mem hi)
  obtain ⟨p1, p2, p3⟩ := poB_iff.1 hpo
  unfold ptF
  refine ⟨Int.ediv_nonneg (Int.mul_nonneg h0 (by omega)) (by omega), ?_⟩
  have h1 := Int.mul_le_mul_of_nonneg_left p2 h0
  exact Int.ediv_le_of_le_mul (by omega) h1
def BoPost (n : Int) (l : List (Int × Int)) (w : World) (e : Ending) (w' : World) : Prop :=
  ∃ v, e = .returned (.tuple #[.int .i64 (boR n l).1, v, .int .i64 (boR n l).2.2]) ∧ OwnJ w' w.heap.size v (boR n l).2.1 ∧ Below w.heap.size w w'
theorem bo_no {n : Int} {l : List (Int × Int)} {w w' : World} {E : Int} (h : boR n l = (0, [], E)) (hb : Below w.heap.size w w') : BoPost n l w (.returned (.tuple #[.int .i64 0, .slice none 0 0, .int .i64 E])) w' := by
  refine ⟨_, by rw [h], ?_, hb⟩
  rw [h]
  exact OwnJ.nil _ _
theorem borrow_any (n : Int) (A : Option Addr) (c : Nat) (l : List (Int × Int)) (w : World) (hn : l.length ≤ maxLen) (hR : PoR w w.heap.size A l) :
    Calls Tryd.prog 17 #[.int .i64 n, .slice A l.length c] w (BoPost n l w) := by
  have HC := hide (checkPo_any A c l w hn hR)
  have HNO := hide (fun w' E (h : boR n l = (0, [], E)) (hb : Below w.heap.size w w') => bo_no h hb)
  have HRR := hide (fun W (h : Below w.heap.size w W) => (hR.below h (Nat.le_refl _)))
  obtain ⟨k, hk⟩ : ∃ k, l.length = k := ⟨_, rfl⟩
  have HK := hide hk
  obtain ⟨Q, hQ⟩ : ∃ Q, BoPost n l w = Q := ⟨_, rfl⟩
  rw [hQ] at HNO
  rw [hk] at HC hn
  rw [hQ, hk]
  have HQ := hide hQ
  unfold maxLen at hn
  by_cases h0 : poE l = 0
  rotate_left
  · have HE : Hid (boR n l = (0, [], poE l)) := hide (by unfold boR; rw [if_pos h0])
    obtain ⟨E, hE⟩ : ∃ E, poE l = E := ⟨_, rfl⟩
    rw [hE] at HC HE h0
    clear hE hQ hk hR
    go_enter Tryd.func17, Tryd.ntmps17
    go_wp2_with fail
    refine HC.out.mono ?_
    rintro e w1 ⟨rfl, hb1⟩
    go_wp2_with fail
    go_ret3
    exact HNO.out _ _ HE.out hb1
  rw [h0] at HC
  obtain ⟨h20, hall⟩ := poE_ok h0
  have HW := hide (fun W (h : Below w.heap.size w W) => whole_any A c l 2000000000 W hall h20 (by omega) (by omega) ((hR.below h (Nat.le_refl _)).more h.size))
  have HP0 := hide h0
  rw [hk] at h20 HW
  have HALL := hide hall
  clear hR hQ hk h0 hall
  by_cases hn0 : n < 0
  · have HE : Hid (boR n l = (0, [], 3)) := hide (by unfold boR; rw [if_neg (by rw [HP0.out]; simp), if_pos (.inl hn0)])
    go_enter Tryd.func17, Tryd.ntmps17
    go_wp2_with fail
    refine HC.out.mono ?_
    rintro e w1 ⟨rfl, hb1⟩
    go_wp2_with fail
    go_ret3
    exact HNO.out _ _ HE.out hb1
  by_cases hn1 : 1000000000 < n
  · have HE : Hid (boR n l = (0, [], 3)) := hide (by unfold boR; rw [if_neg (by rw [HP0.out]; simp), if_pos (.inr hn1)])
    go_enter Tryd.func17, Tryd.ntmps17
    go_wp2_with fail
    refine HC.out.mono ?_
    rintro e w1 ⟨rfl, hb1⟩
    go_wp2_with fail
    go_ret3
    exact HNO.out _ _ HE.out hb1
  by_cases hnz : n = 0
  · subst hnz
    have HE : Hid (boR 0 l = (0, List.replicate k 0, 0)) := hide (by unfold boR; rw [if_neg (by rw [HP0.out]; simp), if_neg (by omega), if_pos rfl, HK.out])
    have HFI : Hid (∀ W, Below w.heap.size w W → Q (.returned (.tuple #[.int .i64 0, .slice (some ⟨W.heap.size, 0, none⟩) k k, .int .i64 0])) (W.alloc (.cells (rowV k fun _ => Value.int .i64 0) 3))) := hide (fun W hb => by
      rw [← HQ.out]
      refine ⟨_, by rw [HE.out], ?_, hb.alloc hb.size _⟩
      rw [HE.out]
      have h := own_row (base := w.heap.size) (f := fun _ => 0) (Blk.new W 3 (rowV k fun _ => Value.int .i64 0)) hb.size (by omega)
      have e : (List.range k).map (fun _ => (0 : Int)) = List.replicate k 0 := by rw [List.map_const', List.length_range]
      rw [e] at h
      exact h)
    have gl := fun W => make_ints k (by omega) W
    clear HW HRR
    go_enter Tryd.func17, Tryd.ntmps17
    go_wp2_with fail
    refine HC.out.mono ?_
    rintro e w1 ⟨rfl, hb1⟩
    have HB1 := hide hb1
    clear hb1
    go_upto_region 7 with fail
    refine wp_region_J (fun W : World => True) (by kernel_rfl) ?_
    have HBd := hide (HB1.out.trans ((Below.refl w1.heap.size w1).drew.mono HB1.out.size))
    generalize w1.drew = wd at HBd ⊢
    refine tk_start [0, 1, 3] ?_
    iterate 3
      refine tk_one (v := ?_) (by first | exact hF | exact wideFn) trivial rfl (by kernel_rfl) (by kernel_rfl) (by kernel_rfl) (by kernel_rfl) rfl ?_ (by first | exact fun _ _ _ h => h | exact fun _ _ _ h => hQ2 _ _ _ _ _ h) ?_
      rotate_left
      · intro W hSW
        simp only [List.getElem_toArray, List.getElem_cons_zero, List.getElem_cons_succ]
        (try dsimp only at hSW)
        go_simp
        with_reducible rfl
      (try simp only [List.getElem_toArray, List.getElem_cons_zero, List.getElem_cons_succ, Act.put, List.setIfInBounds_toArray, List.set_cons_zero, List.set_cons_succ])
    refine tk_end ?_
    refine wpAnyJ_one 2 rfl (by kernel_rfl) (fun K hK => ?_)
    simp only [List.getElem_toArray, List.getElem_cons_zero, List.getElem_cons_succ]
    go_simp
    refine hK.out _ _ (fun _ => trivial) ?_
    clear hK K
    (try simp only [List.getElem_toArray, List.getElem_cons_zero, List.getElem_cons_succ, Act.put, List.setIfInBounds_toArray, List.set_cons_zero, List.set_cons_succ])
    refine wpAnyJ_take 4 (v := ?_) (by first | exact hF | exact wideFn) trivial rfl (by kernel_rfl) (by kernel_rfl) (by kernel_rfl) (by kernel_rfl) rfl ?_ (by first | exact fun _ _ _ h => h | exact fun _ _ _ h => hQ2 _ _ _ _ _ h) ?_
    rotate_left
    · intro W hSW
      simp only [List.getElem_toArray, List.getElem_cons_zero, List.getElem_cons_succ]
      (try dsimp only at hSW)
      go_simp
      with_reducible rfl
    (try simp only [List.getElem_toArray, List.getElem_cons_zero, List.getElem_cons_succ, Act.put, List.setIfInBounds_toArray, List.set_cons_zero, List.set_cons_succ])
    refine wpAnyJ_take 5 (v := ?_) (by first | exact hF | exact wideFn) trivial rfl (by kernel_rfl) (by kernel_rfl) (by kernel_rfl) (by kernel_rfl) rfl ?_ (by first | exact fun _ _ _ h => h | exact fun _ _ _ h => hQ2 _ _ _ _ _ h) ?_
    rotate_left
    · intro W hSW
      simp only [List.getElem_toArray, List.getElem_cons_zero, List.getElem_cons_succ]
      (try dsimp only at hSW)
      go_simp
      with_reducible rfl
    (try simp only [List.getElem_toArray, List.getElem_cons_zero, List.getElem_cons_succ, Act.put, List.setIfInBounds_toArray, List.set_cons_zero, List.set_cons_succ])
    refine wpAnyJ_done (by kernel_rfl) ?_
    go_wp2_with fail
    go_ret3
    exact HFI.out wd HBd.out
  have hnz' : (n == 0) = false := by rw [beq_eq_false_iff_ne]; exact hnz
  have HB9 : Hid (boR n l = if 2000000000 < whN l l.length ∨ l.length = 0 then (0, [], 7)
  else if n % givF (whN l l.length) l ≠ 0 ∨ n / givF (whN l l.length) l * (whN l l.length : Int) < n ∨ 1000000000 < n / givF (whN l l.length) l * (whN l l.length : Int) - n then (0, [], 7)
  else (n / givF (whN l l.length) l * (whN l l.length : Int) - n, (List.range l.length).map fun i => n / givF (whN l l.length) l * ptF (whN l l.length) l i, 0)) := hide (by
    unfold boR; rw [if_neg (by rw [HP0.out]; simp), if_neg (by omega), if_neg hnz])
  by_cases hw0 : 2000000000 < whN l k
  · have HE : Hid (boR n l = (0, [], 7)) := hide (by rw [HB9.out, if_pos (.inl (by rw [HK.out]; exact hw0))])
    rw [if_neg (by omega), decide_eq_false (by omega)] at HW
    clear HB9
    go_enter Tryd.func17, Tryd.ntmps17
    go_wp2_with fail
    refine HC.out.mono ?_
    rintro e w1 ⟨rfl, hb1⟩
    go_wp2_with fail
    refine (HW.out w1 hb1).mono ?_
    rintro e w2 ⟨rfl, hb2⟩
    go_wp2_with fail
    go_ret3
    exact HNO.out _ _ HE.out (hb1.trans (hb2.mono hb1.size))
  rw [if_pos (by omega), decide_eq_true (by omega)] at HW
  by_cases hk0 : k = 0
  · subst hk0
    have HE : Hid (boR n l = (0, [], 7)) := hide (by rw [HB9.out, if_pos (.inr HK.out)])
    clear HB9
    go_enter Tryd.func17, Tryd.ntmps17
    go_wp2_with fail
    refine HC.out.mono ?_
    rintro e w1 ⟨rfl, hb1⟩
    go_wp2_with fail
    refine (HW.out w1 hb1).mono ?_
    rintro e w2 ⟨rfl, hb2⟩
    go_wp2_with fail
    go_ret3
    exact HNO.out _ _ HE.out (hb1.trans (hb2.mono hb1.size))
  have hkp : 1 ≤ k := by omega
  have HPT := hide (fun i (hi : i < k) => (pt_le (h := (whN l l.length : Int)) (by omega) HALL.out (i := i) (by rw [HK.out]; exact hi)))
  have HP1 := hide (fun i (hi : i < k) => pt_pos HALL.out (i := i) (by rw [HK.out]; exact hi))
  have HPO := hide (fun i (hi : i < k) => List.all_eq_true.1 HALL.out (l.getD i (0, 0)) (by rw [List.getD_eq_getElem?_getD, List.getElem?_eq_getElem (by rw [HK.out]; exact hi)]; exact List.getElem_mem (by rw [HK.out]; exact hi)))
  rw [HK.out] at HPT HP1 HB9
  have HB10 : Hid (boR n l = if n % givF (whN l k) l ≠ 0 ∨ n / givF (whN l k) l * (whN l k : Int) < n ∨ 1000000000 < n / givF (whN l k) l * (whN l k : Int) - n then (0, [], 7)
    else (n / givF (whN l k) l * (whN l k : Int) - n, (List.range k).map fun i => n / givF (whN l k) l * ptF (whN l k) l i, 0)) := hide (by rw [HB9.out, if_neg (by omega)])
  have HGV : Hid (givF (whN l k) l = smF (ptF (whN l k) l) k) := hide (by unfold givF; rw [HK.out])
  clear HB9
  obtain ⟨H, hH⟩ : ∃ H, whN l k = H := ⟨_, rfl⟩
  rw [hH] at HPT HP1 HB10 HGV hw0 HW
  have hH1 : (H : Int) ≤ 2000000000 := by omega
  clear hH
  have hk0' : ((k : Int) == 0) = false := by rw [beq_eq_false_iff_ne]; omega
  have hnn : ¬ (n < 0) := hn0
  go_enter Tryd.func17, Tryd.ntmps17
  go_wp2_with fail
  refine HC.out.mono ?_
  rintro e w1 ⟨rfl, hb1⟩
  go_wp2_with fail
  refine (HW.out w1 hb1).mono ?_
  rintro e w2 ⟨rfl, hb2⟩
  have HB2 := hide (hb1.trans (hb2.mono hb1.size))
  clear hb1 hb2
  go_wp2_with fail
  go_loopw [10, 46] (fun v i wr => ∃ j : Nat, j ≤ k ∧ i = .int .i64 j ∧ v = .int .i64 (smF (ptF H l) j) ∧ Hid (Below w.heap.size w wr)) (fun _ i _ => k - (intOf i).toNat)
  case atStart => exact ⟨0, Nat.zero_le _, rfl, rfl, HB2⟩
  case round =>
    obtain ⟨j, hj, rfl, rfl, HB⟩ := hrel
    clear HB2
    have hs1 : smF (ptF H l) j ≤ (j : Int) * 2000000000 := by rw [← smF_const]; exact smF_le (fun i hi => by have := (HPT.out i (by omega)).2; omega)
    have hs0 : 0 ≤ smF (ptF H l) j := smF_nonneg (fun i hi => (HPT.out i (by omega)).1)
    by_cases hlt : j < k
    · obtain ⟨b, off, rfl, hb, c1, c2⟩ := PI.at_ (HRR.out _ HB.out) (k := j) (by rw [HK.out]; exact hlt)
      have hpo := HPO.out j hlt
      have hpt := HPT.out j hlt
      obtain ⟨x, hx⟩ : ∃ x, l.getD j (0, 0) = x := ⟨_, rfl⟩
      have hpx : ptF H l j = (H : Int) * x.1 / x.2 := by unfold ptF; rw [hx]
      rw [hx] at c1 c2 hpo
      obtain ⟨p1, p2, p3⟩ := poB_iff.1 hpo
      obtain ⟨xa, hxa⟩ : ∃ y, x.1 = y := ⟨_, rfl⟩
      obtain ⟨xb, hxb⟩ : ∃ y, x.2 = y := ⟨_, rfl⟩
      rw [hxa] at c1 p1 p2 hpx
      rw [hxb] at c2 p2 p3 hpx
      have hmb := mul_bd (show (0 : Int) ≤ (H : Int) by omega) hH1 (show 0 ≤ xa by omega) (show xa ≤ 1000000 by omega)
      obtain ⟨y, hy⟩ : ∃ y, (H : Int) * xa = y := ⟨_, rfl⟩
      rw [hy] at hmb hpx
      obtain ⟨pt, hptv⟩ : ∃ p, ptF H l j = p := ⟨_, rfl⟩
      rw [hptv] at hpt hpx
      obtain ⟨sm, hsm⟩ : ∃ s, smF (ptF H l) j = s := ⟨_, rfl⟩
      rw [hsm] at hs0 hs1 ⊢
      have t1 : y.tdiv xb = pt := by rw [Int.tdiv_eq_ediv_of_nonneg hmb.1, hpx]
      have t1' : y / xb = pt := hpx.symm
      have w1' : IntKind.i64.wrap ((H : Int) * xa) = y := by rw [hy]; exact IntWalk.i64_in _ (by omega)
      have w2' : IntKind.i64.wrap pt = pt := IntWalk.i64_in _ (by omega)
      have w3' : IntKind.i64.wrap (sm + pt) = sm + pt := IntWalk.i64_in _ (by omega)
      have z1 : ¬ xb = 0 := by omega
      have z2 : (xb == 0) = false := by rw [beq_eq_false_iff_ne]; omega
      have HSM : Hid (smF (ptF H l) (j + 1) = sm + pt) := hide (by unfold smF; rw [hsm, hptv])
      have HB6 := hide (HB.out.trans (((Below.refl wr.heap.size wr).alloc (Nat.le_refl _) (.cells #[.int .i64 xa, .int .i64 xb] 37)).mono HB.out.size))
      clear hx hpx hxa hxb hy hptv hsm hpo
      go_wp2_with fail
      go_roundw
      case rel => exact ⟨j + 1, by omega, by go_num, by rw [HSM.out], HB6⟩
      case measure => simp [intOf]; omega
    · obtain rfl : k = j := by omega
      have hg1 : (k : Int) * 1 ≤ smF (ptF H l) k := by rw [← smF_const]; exact smF_le (fun i hi => HP1.out i hi)
      clear hlt hj
      obtain ⟨G, hG⟩ : ∃ G, smF (ptF H l) k = G := ⟨_, rfl⟩
      rw [hG] at hg1 hs0 hs1 HGV ⊢
      rw [HGV.out] at HB10
      have hG1 : 1 ≤ G := by omega
      have hG2 : G ≤ 40000000000 := by omega
      obtain ⟨t, ht⟩ : ∃ t, n / G = t := ⟨_, rfl⟩
      have t0 : 0 ≤ t := by rw [← ht]; exact Int.ediv_nonneg (by omega) (by omega)
      have t1 : t ≤ 1000000000 := by rw [← ht]; have := Int.ediv_le_self G (show 0 ≤ n by omega); omega
      obtain ⟨r, hr⟩ : ∃ r, n % G = r := ⟨_, rfl⟩
      rw [ht, hr] at HB10
      have d1 : n.tdiv G = t := by rw [Int.tdiv_eq_ediv_of_nonneg (by omega), ht]
      have d2 : n.tmod G = r := by rw [Int.tmod_eq_emod_of_nonneg (by omega), hr]
      have d1' : n / G = t := ht
      have d2' : n % G = r := hr
      have hmb := mul_bd t0 t1 (show (0 : Int) ≤ (H : Int) by omega) hH1
      obtain ⟨th, hth⟩ : ∃ x, t * (H : Int) = x := ⟨_, rfl⟩
      rw [hth] at hmb HB10
      have w1' : IntKind.i64.wrap (t * (H : Int)) = th := by rw [hth]; exact IntWalk.i64_in _ (by omega)
      have w2' : IntKind.i64.wrap t = t := IntWalk.i64_in _ (by omega)
      have w3' : IntKind.i64.wrap (th - n) = th - n := IntWalk.i64_in _ (by omega)
      have z1 : ¬ G = 0 := by omega
      have z2 : (G == 0) = false := by rw [beq_eq_false_iff_ne]; omega
      clear ht hr hth hG hg1 hs0 hs1 HGV HP1
      by_cases c1 : r = 0
      rotate_left
      · have HE : Hid (boR n l = (0, [], 7)) := hide (by rw [HB10.out, if_pos (.inl c1)])
        have c1' : ¬ r = 0 := c1
        go_wp2_with fail
        go_ret3
        exact HNO.out _ _ HE.out HB.out
      by_cases c2 : th < n
      · have HE : Hid (boR n l = (0, [], 7)) := hide (by rw [HB10.out, if_pos (.inr (.inl c2))])
        subst c1
        go_wp2_with fail
        go_ret3
        exact HNO.out _ _ HE.out HB.out
      by_cases c3 : 1000000000 < th - n
      · have HE : Hid (boR n l = (0, [], 7)) := hide (by rw [HB10.out, if_pos (.inr (.inr c3))])
        subst c1
        go_wp2_with fail
        go_ret3
        exact HNO.out _ _ HE.out HB.out
      have HE : Hid (boR n l = (th - n, (List.range k).map (fun i => t * ptF H l i), 0)) := hide (by rw [HB10.out, if_neg (by omega)])
      subst c1
      clear HB10
      go_wp2_with fail
      obtain ⟨wo, rfl⟩ : ∃ x, x = wr := ⟨wr, rfl⟩
      go_loopw [5, 84] (fun v i wr => ∃ j : Nat, j ≤ k ∧ i = .int .i64 j ∧ Hid (OwnJ wr w.heap.size v ((List.range j).map fun i => t * ptF H l i)) ∧ Hid (Below w.heap.size w wr)) (fun _ i _ => k - (intOf i).toNat)
      case atStart => exact ⟨0, Nat.zero_le _, rfl, hide (OwnJ.nil _ _), HB⟩
      case round =>
        rename_i v _
        obtain ⟨j, hj, rfl, HO, HBj⟩ := hrel
        clear HB
        by_cases hlt : j < k
        · obtain ⟨b, off, rfl, hb, e1, e2⟩ := PI.at_ (HRR.out _ HBj.out) (k := j) (by rw [HK.out]; exact hlt)
          have hpo := HPO.out j hlt
          have hpt := HPT.out j hlt
          obtain ⟨x, hx⟩ : ∃ x, l.getD j (0, 0) = x := ⟨_, rfl⟩
          have hpx : ptF H l j = (H : Int) * x.1 / x.2 := by unfold ptF; rw [hx]
          rw [hx] at e1 e2 hpo
          obtain ⟨p1, p2, p3⟩ := poB_iff.1 hpo
          obtain ⟨xa, hxa⟩ : ∃ y, x.1 = y := ⟨_, rfl⟩
          obtain ⟨xb, hxb⟩ : ∃ y, x.2 = y := ⟨_, rfl⟩
          rw [hxa] at e1 p1 p2 hpx
          rw [hxb] at e2 p2 p3 hpx
          have hmb2 := mul_bd (show (0 : Int) ≤ (H : Int) by omega) hH1 (show 0 ≤ xa by omega) (show xa ≤ 1000000 by omega)
          obtain ⟨y, hy⟩ : ∃ y, (H : Int) * xa = y := ⟨_, rfl⟩
          rw [hy] at hmb2 hpx
          obtain ⟨pt, hptv⟩ : ∃ p, ptF H l j = p := ⟨_, rfl⟩
          rw [hptv] at hpt hpx
          have hmb3 := mul_bd t0 t1 hpt.1 (show pt ≤ 2000000000 by omega)
          obtain ⟨u, hu⟩ : ∃ u, t * pt = u := ⟨_, rfl⟩
          rw [hu] at hmb3
          have q1 : y.tdiv xb = pt := by rw [Int.tdiv_eq_ediv_of_nonneg hmb2.1, hpx]
          have q1' : y / xb = pt := hpx.symm
          have q2 : IntKind.i64.wrap ((H : Int) * xa) = y := by rw [hy]; exact IntWalk.i64_in _ (by omega)
          have q3 : IntKind.i64.wrap pt = pt := IntWalk.i64_in _ (by omega)
          have q4 : IntKind.i64.wrap (t * pt) = u := by rw [hu]; exact IntWalk.i64_in _ (by omega)
          have y1 : ¬ xb = 0 := by omega
          have y2 : (xb == 0) = false := by rw [beq_eq_false_iff_ne]; omega
          have HLS : Hid ((List.range (j + 1)).map (fun i => t * ptF H l i) = (List.range j).map (fun i => t * ptF H l i) ++ [u]) := hide (by rw [List.range_succ, List.map_append, List.map_cons, List.map_nil, hptv, hu])
          have hba : Below wr.heap.size wr (wr.alloc (.cells #[.int .i64 xa, .int .i64 xb] 37)) := (Below.refl _ _).alloc (Nat.le_refl _) _
          obtain ⟨A1, c1, rfl⟩ := own_shape HO.out
          obtain ⟨v', w', hr, ho, hg, -⟩ := OwnJ.push1 (HO.out.ext hba) u (by simp; omega) (by have := HBj.out.size; simp; omega)
          have HB6 : Hid (Below w.heap.size w w') := hide (((HBj.out.trans (hba.mono HBj.out.size)).alloc (by have := HBj.out.size; simp; omega) _).grown hg (by have := HBj.out.size; simp; omega) (fun k e => (World.ownsRow.lt HO.out k e).1))
          rw [← HLS.out] at ho
          have HO6 := hide ho
          rw [show (wr.alloc (.cells #[.int .i64 xa, .int .i64 xb] 37)).heap.size = wr.heap.size + 1 by simp] at hr
          have HRN := hide hr
          clear hx hpx hxa hxb hy hptv hu hpo hr ho hg hba
          go_wp2_with (at_builtin; refine wpList_append_run rfl (.tmp 88) (.tmp 98) 26 rfl rfl rfl HRN.out ?_)
          go_roundw
          case rel => exact ⟨j + 1, by omega, by go_num, HO6, HB6⟩
          case measure => simp [intOf]; omega
        · obtain rfl : k = j := by omega
          obtain ⟨A1, c1, rfl⟩ := own_shape HO.out
          have hfin : Q (.returned (.tuple #[.int .i64 (th - n), .slice A1 ((List.range k).map fun i => t * ptF H l i).length c1, .int .i64 0])) wr := by
            rw [← HQ.out]
            refine ⟨_, by rw [HE.out], ?_, HBj.out⟩
            rw [HE.out]
            exact HO.out
          have HFIN := hide hfin
          clear hfin
          go_wp2_with fail
          go_ret3
          exact HFIN.out
end Go.Proofs.YtlkkkgpcjdemdaaDoor
/- Song: moons: CheckMoon, ahead, fall, Falls, At. -/
namespace Go.Proofs.YtlkkkgpcjdemdaaDoor
open Go Go.RowKit Go.Shelf
set_option maxHeartbeats 4000000
set_option maxRecDepth 100000
/-- a moon: its lunar days' length, the days' length, where the first lunar day begins -/
structure Mo where
  ln : Int
  per : Int
  ph : Int
def Mo.ok (m : Mo) : Prop := 1 ≤ m.per ∧ m.per ≤ 100000 ∧ 1 ≤ m.ln ∧ m.ln ≤ 2 * m.per ∧ m.per ≤ 2 * m.ln ∧ 0 ≤ m.ph ∧ m.ph < m.per
instance (m : Mo) : Decidable m.ok := by unfold Mo.ok; infer_instance
def moB (m : Mo) : Bool := decide m.ok
def mnE (m : Mo) : Int := if moB m then 0 else 2
def Mo.v (m : Mo) : Value := .agg #[.int .i64 m.ln, .int .i64 m.per, .int .i64 m.ph]
theorem moB_no {m : Mo} (h : ¬ m.ok) : mnE m = 2 := by unfold mnE moB; rw [if_neg (by simp [h])]
theorem moB_yes {m : Mo} (h : m.ok) : mnE m = 0 := by unfold mnE moB; rw [if_pos (by simp [h])]
theorem checkMoon_any (m : Mo) (w : World) : Calls Tryd.prog 24 #[.agg #[.int .i64 m.ln, .int .i64 m.per, .int .i64 m.ph]] w fun e w' => e = .returned (.int .i64 (mnE m)) ∧ Below w.heap.size w w' := by
  obtain ⟨l, p, h⟩ := m
  obtain ⟨E, hE⟩ : ∃ E, mnE ⟨l, p, h⟩ = E := ⟨_, rfl⟩
  rw [hE]
  dsimp only
  by_cases h1 : p < 1
  · obtain rfl : E = 2 := by rw [← hE]; exact moB_no (fun k => by have := k.1; dsimp only at this; omega)
    clear hE
    go_enter Tryd.func24, Tryd.ntmps24
    go_wp2_with fail
    go_ret
    exact ⟨rfl, (Below.refl _ _).alloc (Nat.le_refl _) _⟩
  by_cases h2 : 100000 < p
  · obtain rfl : E = 2 := by rw [← hE]; exact moB_no (fun k => by have := k.2.1; dsimp only at this; omega)
    clear hE
    go_enter Tryd.func24, Tryd.ntmps24
    go_wp2_with fail
    go_ret
    exact ⟨rfl, (Below.refl _ _).alloc (Nat.le_refl _) _⟩
  by_cases h3 : l < 1
  · obtain rfl : E = 2 := by rw [← hE]; exact moB_no (fun k => by have := k.2.2.1; dsimp only at this; omega)
    clear hE
    go_enter Tryd.func24, Tryd.ntmps24
    go_wp2_with fail
    go_ret
    exact ⟨rfl, (Below.refl _ _).alloc (Nat.le_refl _) _⟩
  by_cases h4 : 2 * p < l
  · obtain rfl : E = 2 := by rw [← hE]; exact moB_no (fun k => by have := k.2.2.2.1; dsimp only at this; omega)
    clear hE
    go_enter Tryd.func24, Tryd.ntmps24
    go_wp2_with fail
    go_ret
    exact ⟨rfl, (Below.refl _ _).alloc (Nat.le_refl _) _⟩
  by_cases h5 : 2 * l < p
  · obtain rfl : E = 2 := by rw [← hE]; exact moB_no (fun k => by have := k.2.2.2.2.1; dsimp only at this; omega)
    clear hE
    go_enter Tryd.func24, Tryd.ntmps24
    go_wp2_with fail
    go_ret
    exact ⟨rfl, (Below.refl _ _).alloc (Nat.le_refl _) _⟩
  by_cases h6 : h < 0
  · obtain rfl : E = 2 := by rw [← hE]; exact moB_no (fun k => by have := k.2.2.2.2.2.1; dsimp only at this; omega)
    clear hE
    go_enter Tryd.func24, Tryd.ntmps24
    go_wp2_with fail
    go_ret
    exact ⟨rfl, (Below.refl _ _).alloc (Nat.le_refl _) _⟩
  by_cases h7 : p ≤ h
  · obtain rfl : E = 2 := by rw [← hE]; exact moB_no (fun k => by have := k.2.2.2.2.2.2; dsimp only at this; omega)
    clear hE
    go_enter Tryd.func24, Tryd.ntmps24
    go_wp2_with fail
    go_ret
    exact ⟨rfl, (Below.refl _ _).alloc (Nat.le_refl _) _⟩
  obtain rfl : E = 0 := by rw [← hE]; exact moB_yes ⟨by dsimp only; omega, by dsimp only; omega, by dsimp only; omega, by dsimp only; omega, by dsimp only; omega, by dsimp only; omega, by dsimp only; omega⟩
  clear hE
  go_enter Tryd.func24, Tryd.ntmps24
  go_wp2_with fail
  go_ret
  exact ⟨rfl, (Below.refl _ _).alloc (Nat.le_refl _) _⟩
def tmB (n : Int) : Bool := decide (0 ≤ n) && decide (n ≤ 1000000)
theorem isTime_any (n : Int) (w : World) : Calls Tryd.prog 53 #[.int .i64 n] w fun e w' => e = .returned (.bool (tmB n)) ∧ w = w' := by
  unfold tmB
  by_cases h1 : 0 ≤ n
  · by_cases h2 : n ≤ 1000000
    · rw [decide_eq_true h1, decide_eq_true h2]
      go_enter Tryd.func53, Tryd.ntmps53
      go_wp2_with fail
      go_ret
      exact ⟨rfl, rfl⟩
    · rw [decide_eq_true h1, decide_eq_false h2]
      go_enter Tryd.func53, Tryd.ntmps53
      go_wp2_with fail
      go_ret
      exact ⟨rfl, rfl⟩
  · rw [decide_eq_false h1]
    go_enter Tryd.func53, Tryd.ntmps53
    go_wp2_with fail
    go_ret
    exact ⟨rfl, rfl⟩
/-- how many sunrises there are ahead of a lunar day -/
def ahF (m : Mo) (n : Int) : Int := (n * m.ln + m.ph + m.per - 1) / m.per
theorem ah_bd {m : Mo} (hm : m.ok) {n : Int} (h0 : 0 ≤ n) (h1 : n ≤ 4000000) : 0 ≤ n * m.ln ∧ n * m.ln ≤ 4000000 * 200000 := mul_bd h0 h1 (by have := hm.2.2.1; omega) (by have := hm.2.1; have := hm.2.2.2.1; omega)
theorem ah_lo {m : Mo} (hm : m.ok) {n : Int} (h0 : 0 ≤ n) (h1 : n ≤ 4000000) : 0 ≤ ahF m n := by
  have := ah_bd hm h0 h1
  unfold ahF
  exact Int.ediv_nonneg (by have := hm.2.2.2.2.2.1; have := hm.1; omega) (by have := hm.1; omega)
theorem ah_hi {m : Mo} (hm : m.ok) {n : Int} (h0 : 0 ≤ n) (h1 : n ≤ 4000000) : ahF m n ≤ 800000300000 := by
  have h2 := ah_bd hm h0 h1
  have h3 := hm.1
  have h4 := hm.2.1
  have h5 := hm.2.2.2.2.2.2
  have h6 := hm.2.2.2.2.2.1
  unfold ahF
  have := Int.ediv_le_self m.per (show 0 ≤ n * m.ln + m.ph + m.per - 1 by omega)
  omega
theorem ahead_any (m : Mo) (hm : m.ok) (n : Int) (h0 : 0 ≤ n) (h1 : n ≤ 4000000) (w : World) : Calls Tryd.prog 86 #[.agg #[.int .i64 m.ln, .int .i64 m.per, .int .i64 m.ph], .int .i64 n] w fun e w' => e = .returned (.int .i64 (ahF m n)) ∧ Below w.heap.size w w' := by
  have hb := ah_bd hm h0 h1
  obtain ⟨a1, a2, a3, a4, a5, a6, a7⟩ := hm
  obtain ⟨q, hq⟩ : ∃ q, n * m.ln = q := ⟨_, rfl⟩
  have e : ahF m n = (q + m.ph + m.per - 1) / m.per := by unfold ahF; rw [hq]
  rw [e]
  obtain ⟨l, p, h⟩ := m
  dsimp only at *
  rw [hq] at hb
  have w1 : IntKind.i64.wrap (n * l) = q := by rw [hq]; exact IntWalk.i64_in _ (by omega)
  clear e
  go_enter Tryd.func86, Tryd.ntmps86
  go_wp2_with fail
  go_ret
  refine ⟨ret_int ?_, (Below.refl _ _).alloc (Nat.le_refl _) _⟩
  first | rfl | (rw [hq])
/-- on which day a lunar day falls, and how -/
def flF (m : Mo) (n : Int) : Int × Int := if ahF m (n + 1) - ahF m n = 0 then (ahF m n - 1, 3) else if ahF m (n + 1) - ahF m n = 1 then (ahF m n, 1) else (ahF m n, 2)
theorem fall_any (m : Mo) (hm : m.ok) (n : Int) (h0 : 0 ≤ n) (h1 : n ≤ 3000000) (w : World) :
    Calls Tryd.prog 54 #[.agg #[.int .i64 m.ln, .int .i64 m.per, .int .i64 m.ph], .int .i64 n] w fun e w' => e = .returned (.tuple #[.int .i64 (flF m n).1, .int .i64 (flF m n).2]) ∧ Below w.heap.size w w' := by
  have HA := hide (fun W => ahead_any m hm n h0 (by omega) W)
  have HB := hide (fun W => ahead_any m hm (n + 1) (by omega) (by omega) W)
  have l1 := ah_lo hm h0 (by omega)
  have l2 := ah_lo hm (show 0 ≤ n + 1 by omega) (by omega)
  have u1 := ah_hi hm h0 (by omega)
  have u2 := ah_hi hm (show 0 ≤ n + 1 by omega) (by omega)
  unfold flF
  obtain ⟨f, hf⟩ : ∃ f, ahF m n = f := ⟨_, rfl⟩
  obtain ⟨g, hg⟩ : ∃ f, ahF m (n + 1) = f := ⟨_, rfl⟩
  rw [hf] at HA l1 u1 ⊢
  rw [hg] at HB l2 u2 ⊢
  clear hf hg hm
  obtain ⟨l, p, h⟩ := m
  dsimp only at HA HB ⊢
  by_cases c0 : g - f = 0
  · rw [if_pos c0]
    have c1 : (g - f == 0) = true := by rw [c0]; rfl
    clear c0
    go_enter Tryd.func54, Tryd.ntmps54
    go_wp2_with fail
    refine (HA.out _).mono ?_
    rintro e w1 ⟨rfl, hb1⟩
    obtain ⟨hc, hf⟩ := bcell hb1
    have hz := hb1.size
    go_wp2_with fail
    refine (HB.out _).mono ?_
    rintro e w2 ⟨rfl, hb2⟩
    go_wp2_with fail
    go_ret2
    exact ⟨rfl, ((Below.refl w.heap.size w).alloc (Nat.le_refl _) _).trans ((hb1.mono (by simp)).trans (hb2.mono (by simp at hz; omega)))⟩
  · rw [if_neg c0]
    have c1 : (g - f == 0) = false := by rw [beq_eq_false_iff_ne]; exact c0
    by_cases c2 : g - f = 1
    · rw [if_pos c2]
      have c3 : (g - f == 1) = true := by rw [c2]; rfl
      clear c0 c2
      go_enter Tryd.func54, Tryd.ntmps54
      go_wp2_with fail
      refine (HA.out _).mono ?_
      rintro e w1 ⟨rfl, hb1⟩
      obtain ⟨hc, hf⟩ := bcell hb1
      have hz := hb1.size
      go_wp2_with fail
      refine (HB.out _).mono ?_
      rintro e w2 ⟨rfl, hb2⟩
      go_wp2_with fail
      go_ret2
      exact ⟨rfl, ((Below.refl w.heap.size w).alloc (Nat.le_refl _) _).trans ((hb1.mono (by simp)).trans (hb2.mono (by simp at hz; omega)))⟩
    · rw [if_neg c2]
      have c3 : (g - f == 1) = false := by rw [beq_eq_false_iff_ne]; exact c2
      clear c0 c2
      go_enter Tryd.func54, Tryd.ntmps54
      go_wp2_with fail
      refine (HA.out _).mono ?_
      rintro e w1 ⟨rfl, hb1⟩
      obtain ⟨hc, hf⟩ := bcell hb1
      have hz := hb1.size
      go_wp2_with fail
      refine (HB.out _).mono ?_
      rintro e w2 ⟨rfl, hb2⟩
      go_wp2_with fail
      go_ret2
      exact ⟨rfl, ((Below.refl w.heap.size w).alloc (Nat.le_refl _) _).trans ((hb1.mono (by simp)).trans (hb2.mono (by simp at hz; omega)))⟩
/-- what Falls returns -/
def fsF (m : Mo) (n : Int) : Int × Int × Int := if m.ok then if tmB n then ((flF m n).1, (flF m n).2, 0) else (0, 0, 3) else (0, 0, 2)
theorem Falls_any (m : Mo) (n : Int) (w : World) :
    Calls Tryd.prog 26 #[.agg #[.int .i64 m.ln, .int .i64 m.per, .int .i64 m.ph], .int .i64 n] w fun e w' => e = .returned (.tuple #[.int .i64 (fsF m n).1, .int .i64 (fsF m n).2.1, .int .i64 (fsF m n).2.2]) ∧ Below w.heap.size w w' := by
  have HC := hide (fun W => checkMoon_any m W)
  have HT := hide (fun W => isTime_any n W)
  unfold fsF
  by_cases hm : m.ok
  · rw [moB_yes hm] at HC
    rw [if_pos hm]
    rcases ht : tmB n with _ | _
    · rw [ht] at HT
      rw [if_neg Bool.false_ne_true]
      clear ht hm
      obtain ⟨l, p, h⟩ := m
      dsimp only at HC ⊢
      go_enter Tryd.func26, Tryd.ntmps26
      go_wp2_with fail
      refine (HC.out _).mono ?_
      rintro e w1 ⟨rfl, hb1⟩
      go_wp2_with fail
      refine (HT.out _).mono ?_
      rintro e w2 ⟨rfl, rfl⟩
      go_wp2_with fail
      go_ret3
      exact ⟨rfl, ((Below.refl w.heap.size w).alloc (Nat.le_refl _) _).trans (hb1.mono (by simp))⟩
    · rw [ht] at HT
      rw [if_pos rfl]
      unfold tmB at ht
      rw [Bool.and_eq_true, decide_eq_true_iff, decide_eq_true_iff] at ht
      have HF := hide (fun W => fall_any m hm n ht.1 (by omega) W)
      obtain ⟨a, ha⟩ : ∃ a, (flF m n).1 = a := ⟨_, rfl⟩
      obtain ⟨b, hb⟩ : ∃ a, (flF m n).2 = a := ⟨_, rfl⟩
      rw [ha, hb] at HF ⊢
      clear ha hb hm ht
      obtain ⟨l, p, h⟩ := m
      dsimp only at HC HF ⊢
      go_enter Tryd.func26, Tryd.ntmps26
      go_wp2_with fail
      refine (HC.out _).mono ?_
      rintro e w1 ⟨rfl, hb1⟩
      obtain ⟨hc, hf⟩ := bcell hb1
      have hz := hb1.size
      go_wp2_with fail
      refine (HT.out _).mono ?_
      rintro e w2 ⟨rfl, rfl⟩
      go_wp2_with fail
      refine (HF.out _).mono ?_
      rintro e w3 ⟨rfl, hb3⟩
      go_wp2_with fail
      go_ret3
      exact ⟨rfl, ((Below.refl w.heap.size w).alloc (Nat.le_refl _) _).trans ((hb1.mono (by simp)).trans (hb3.mono (by simp at hz; omega)))⟩
  · rw [moB_no hm] at HC
    rw [if_neg hm]
    clear hm
    obtain ⟨l, p, h⟩ := m
    dsimp only at HC ⊢
    go_enter Tryd.func26, Tryd.ntmps26
    go_wp2_with fail
    refine (HC.out _).mono ?_
    rintro e w1 ⟨rfl, hb1⟩
    go_wp2_with fail
    go_ret3
    exact ⟨rfl, ((Below.refl w.heap.size w).alloc (Nat.le_refl _) _).trans (hb1.mono (by simp))⟩
end Go.Proofs.YtlkkkgpcjdemdaaDoor
