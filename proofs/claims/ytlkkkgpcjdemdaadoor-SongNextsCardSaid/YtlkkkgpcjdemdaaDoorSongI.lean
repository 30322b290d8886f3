/- Song: Odd, walked: the range. -/
import Derived.Test.YtlkkkgpcjdemdaaDoorSongH
import Derived.RangeFuncLeaves
set_option linter.unusedSimpArgs false
set_option linter.unusedVariables false
set_option linter.unnecessarySimpa false
namespace Go.Proofs.YtlkkkgpcjdemdaaDoor
open List renaming getElem_toArray → glA, getElem_cons_zero → glB, getElem_cons_succ → glC, setIfInBounds_toArray → glD, set_cons_zero → glE, set_cons_succ → glF
open Go Go.RowKit Go.Shelf
attribute [local go_sem] Oper.semAt_some
set_option maxHeartbeats 8000000
set_option maxRecDepth 100000
/-- what Odd's walk keeps -/
structure OdI (w W : World) (g M : Nat) (l1 l2 : List Int) : Prop where
  low : Below w.heap.size w W
  r : OdR W (g + 1) (g + 2) w.heap.size M l1 l2
theorem OdI.ext {w W W' : World} {g M : Nat} {l1 l2 : List Int} (h : OdI w W g M l1 l2) (hb : Below W.heap.size W W') : OdI w W' g M l1 l2 := ⟨h.low.trans (hb.mono h.low.size), h.r.ext hb⟩
theorem OdI.out {w W W' : World} {g M a : Nat} {l1 l2 : List Int} (h : OdI w W g M l1 l2) (ho : OutK a M W W') (hw : w.heap.size ≤ a) (hg : g + 2 < a) : OdI w W' g M l1 l2 := ⟨ho.below h.low hw (Nat.le_refl _), h.r.out ho (by omega) (by omega)⟩
/-- the end: both boxes read -/
theorem OdI.fin {w W : World} {g M : Nat} {l1 l2 : List Int} (h : OdI w W g M l1 l2) : ∃ v1 v2, (W.cell? ⟨g + 1, 0, none⟩ = some v1 ∧ W.cell? ⟨g + 2, 0, none⟩ = some v2) ∧ OwnJ W w.heap.size v1 l1 ∧ OwnJ W w.heap.size v2 l2 ∧ Blk W (g + 1) 26 #[v1] ∧ Blk W (g + 2) 26 #[v2] ∧ ∃ A1 c1 A2 c2, v1 = .slice A1 l1.length c1 ∧ v2 = .slice A2 l2.length c2 := by
  obtain ⟨v1, v2, h1, h2, h3, h4, -⟩ := h.r
  obtain ⟨-, c1, -⟩ := blk1 h1
  obtain ⟨-, c2, -⟩ := blk1 h2
  obtain ⟨A1, k1, e1⟩ := own_shape h3
  obtain ⟨A2, k2, e2⟩ := own_shape h4
  exact ⟨v1, v2, ⟨c1, c2⟩, h3, h4, h1, h2, A1, k1, A2, k2, e1, e2⟩
structure OdB (w W : World) (g : Nat) (m : Mo) : Prop where
  low : Below w.heap.size w W
  bm : Blk W g 47 #[.int .i64 m.ln, .int .i64 m.per, .int .i64 m.ph]
  k1 : Blk W (g + 1) 26 #[.slice none 0 0]
  k2 : Blk W (g + 2) 26 #[.slice none 0 0]
theorem OdB.ext {w W W' : World} {g : Nat} {m : Mo} (h : OdB w W g m) (hb : Below W.heap.size W W') : OdB w W' g m := ⟨h.low.trans (hb.mono h.low.size), h.bm.ext hb, h.k1.ext hb, h.k2.ext hb⟩
theorem OdB.nil {w W : World} {g M : Nat} {m : Mo} (h : OdB w W g m) : OdI w W g M [] [] :=
  ⟨h.low, _, _, h.k1, h.k2, OwnJ.nil _ _, OwnJ.nil _ _, fun b e => (by cases e), fun b e => (by cases e), fun b e => (by cases e)⟩
/-- both boxes emptied -/
theorem OdB.two {w W : World} {g : Nat} {m : Mo} (h : OdB w W g m) (hg : w.heap.size ≤ g) : OdB w ((W.setCell ⟨g + 1, 0, none⟩ (.slice none 0 0)).setCell ⟨g + 2, 0, none⟩ (.slice none 0 0)) g m :=
  ⟨(h.low.setCell (by dsimp only; omega) _).setCell (by dsimp only; omega) _, (h.bm.far (p := ⟨g + 1, 0, none⟩) (fun e => by dsimp only at e; omega) _).far (p := ⟨g + 2, 0, none⟩) (fun e => by dsimp only at e; omega) _,
    (show Blk (W.setCell ⟨g + 1, 0, none⟩ (.slice none 0 0)) (g + 1) 26 #[.slice none 0 0] by simpa using h.k1.set_ 0 (.slice none 0 0)).far (p := ⟨g + 2, 0, none⟩) (fun e => by dsimp only at e; omega) _,
    by simpa using (h.k2.far (p := ⟨g + 1, 0, none⟩) (fun e => by dsimp only at e; omega) (.slice none 0 0)).set_ 0 (.slice none 0 0)⟩
def hwL (m : Mo) (h : Int) (l : List Int) : List Int := l.filter fun x => decide ((flF m x).2 = h)
theorem hwL_yes {m : Mo} {h x : Int} {l : List Int} (e : (flF m x).2 = h) : hwL m h (l ++ [x]) = hwL m h l ++ [x] := by simp [hwL, e]
theorem hwL_no {m : Mo} {h x : Int} {l : List Int} (e : (flF m x).2 ≠ h) : hwL m h (l ++ [x]) = hwL m h l := by simp [hwL, e]
theorem hwL_len (m : Mo) (h : Int) (l : List Int) : (hwL m h l).length ≤ l.length := List.length_filter_le _ _
theorem dyL_len (f t : Int) (h : t - f ≤ 1000) : (dyL f t 1).length ≤ 1001 := by
  unfold dyL dyP dyN
  rw [List.length_map, List.length_range, Int.ediv_one]
  omega
theorem Odd_any (m : Mo) (a b : Int) (w : World) : Calls Tryd.prog 40 #[.agg #[.int .i64 m.ln, .int .i64 m.per, .int .i64 m.ph], .int .i64 a, .int .i64 b] w (OdPost m a b w) := by
  have HC := hide (fun W => checkMoon_any m W)
  have HTA := hide (fun W => isTime_any a W)
  have HTB := hide (fun W => isTime_any b W)
  refine (callsIn_wide (n := 9)).1 ?_
  obtain ⟨F, hFw⟩ : ∃ F : Fence, F = Fence.wide := ⟨_, rfl⟩
  rw [← hFw]
  have hF : ∀ f, F.fn f := by rw [hFw]; exact fun _ => trivial
  have hro : F.round = none := by rw [hFw]; rfl
  have hwd : ∀ {n f args w R}, Calls Tryd.prog f args w R → CallsIn F n Tryd.prog f args w R := by rw [hFw]; exact fun h => callsIn_wide.2 h
  clear hFw
  have hb1 : Below w.heap.size w (((w.alloc (.cells #[.int .i64 m.ln, .int .i64 m.per, .int .i64 m.ph] 47)).alloc (.cells #[.slice none 0 0] 26)).alloc (.cells #[.slice none 0 0] 26)) := (((Below.refl _ _).alloc (Nat.le_refl _) _).alloc (by simp) _).alloc (by simp; omega) _
  obtain ⟨g, hg⟩ : ∃ g, w.heap.size = g := ⟨_, rfl⟩
  have HG := hide hg.symm
  have I1 : Hid (OdB w (((w.alloc (.cells #[.int .i64 m.ln, .int .i64 m.per, .int .i64 m.ph] 47)).alloc (.cells #[.slice none 0 0] 26)).alloc (.cells #[.slice none 0 0] 26)) g m) := hide (by
    have h1 := Blk.new w 47 #[.int .i64 m.ln, .int .i64 m.per, .int .i64 m.ph]
    have h2 := Blk.new (w.alloc (.cells #[.int .i64 m.ln, .int .i64 m.per, .int .i64 m.ph] 47)) 26 #[.slice none 0 0]
    have h3 := Blk.new ((w.alloc (.cells #[.int .i64 m.ln, .int .i64 m.per, .int .i64 m.ph] 47)).alloc (.cells #[.slice none 0 0] 26)) 26 #[.slice none 0 0]
    rw [World.size_alloc] at h2
    rw [World.size_alloc, World.size_alloc] at h3
    rw [hg] at h1 h2 h3
    exact ⟨hb1, (h1.alloc _).alloc _, h2.alloc _, h3⟩)
  refine callsIn_of_wp_marks Tryd.func40 rfl (hF _) ?_ hro
  simp only [Tryd.ntmps40, List.size_toArray, List.length_cons, List.length_nil, Nat.reduceAdd, Nat.reduceSub, Array.replicate_succ, Array.replicate_zero, List.push_toArray, List.append_toArray, List.nil_append, List.cons_append]
  clear hb1
  have HSEQ := hide (fun (h : m.ok) (h1 : 0 ≤ a ∧ a ≤ 3000000) (h2 : b ≤ 1000000) pf pt ps pm W => dy_seq F (9 - 1) hF hro hwd (by omega) pf pt ps pm m h a b 1 h1 h2 (by omega) W)
  unfold OdPost odR
  by_cases hm : m.ok
  rotate_left
  · rw [moB_no hm] at HC
    rw [if_neg hm]
    clear hm HSEQ
    gi_wp2_with fail
    (try simp only [World.size_alloc])
    (try rw [hg])
    clear hg
    (try simp only [Nat.add_assoc, Nat.reduceAdd])
    generalize (((w.alloc (.cells #[.int .i64 m.ln, .int .i64 m.per, .int .i64 m.ph] 47)).alloc (.cells #[.slice none 0 0] 26)).alloc (.cells #[.slice none 0 0] 26)) = w1 at I1 ⊢
    (with_reducible refine (hwd (HC.out _)).mono ?_)
    rintro e w2 ⟨rfl, hb⟩
    have I2 := hide (I1.out.ext hb)
    clear hb
    obtain ⟨z0, c0, c1, c2, f0⟩ := blk3 I2.out.bm
    obtain ⟨z1, c3, f1⟩ := blk1 I2.out.k1
    obtain ⟨z2, c4, f2⟩ := blk1 I2.out.k2
    (try dsimp only)
    (repeat (first | go_values | gi_guarded | gi_step | gi_upon))
    have HS := I2.out.two (Nat.le_of_eq HG.out.symm)
    obtain ⟨-, r1, -⟩ := blk1 HS.k1
    obtain ⟨-, r2, -⟩ := blk1 HS.k2
    refine ⟨.tuple #[.slice none 0 0, .slice none 0 0, .int .i64 2], by simp [results, Tryd.results40, go_sem, r1, r2], ?_⟩
    exact ⟨_, _, rfl, OwnJ.nil _ _, OwnJ.nil _ _, HS.low⟩
  rw [moB_yes hm] at HC
  rw [if_pos hm]
  by_cases harg : tmB a = true ∧ tmB b = true ∧ a ≤ b ∧ b - a ≤ 1000
  rotate_left
  · rw [if_neg harg]
    clear HSEQ
    gi_wp2_with fail
    (try simp only [World.size_alloc])
    (try rw [hg])
    clear hg
    (try simp only [Nat.add_assoc, Nat.reduceAdd])
    generalize (((w.alloc (.cells #[.int .i64 m.ln, .int .i64 m.per, .int .i64 m.ph] 47)).alloc (.cells #[.slice none 0 0] 26)).alloc (.cells #[.slice none 0 0] 26)) = w1 at I1 ⊢
    (with_reducible refine (hwd (HC.out _)).mono ?_)
    rintro e w2 ⟨rfl, hb⟩
    have I2 := hide (I1.out.ext hb)
    clear hb
    obtain ⟨z0, c0, c1, c2, f0⟩ := blk3 I2.out.bm
    obtain ⟨z1, c3, f1⟩ := blk1 I2.out.k1
    obtain ⟨z2, c4, f2⟩ := blk1 I2.out.k2
    rcases hta : tmB a with _ | _
    · rw [hta] at HTA
      clear harg hta
      (try dsimp only)
      (repeat (first | go_values | gi_guarded | gi_step | gi_upon))
      (with_reducible refine (hwd (HTA.out _)).mono ?_)
      rintro e w3 ⟨rfl, rfl⟩
      (try dsimp only)
      (repeat (first | go_values | gi_guarded | gi_step | gi_upon))
      have HS := I2.out.two (Nat.le_of_eq HG.out.symm)
      obtain ⟨-, r1, -⟩ := blk1 HS.k1
      obtain ⟨-, r2, -⟩ := blk1 HS.k2
      refine ⟨.tuple #[.slice none 0 0, .slice none 0 0, .int .i64 3], by simp [results, Tryd.results40, go_sem, r1, r2], ?_⟩
      exact ⟨_, _, rfl, OwnJ.nil _ _, OwnJ.nil _ _, HS.low⟩
    rw [hta] at HTA
    rcases htb : tmB b with _ | _
    · rw [htb] at HTB
      clear harg hta htb
      (try dsimp only)
      (repeat (first | go_values | gi_guarded | gi_step | gi_upon))
      (with_reducible refine (hwd (HTA.out _)).mono ?_)
      rintro e w3 ⟨rfl, rfl⟩
      (try dsimp only)
      (repeat (first | go_values | gi_guarded | gi_step | gi_upon))
      (with_reducible refine (hwd (HTB.out _)).mono ?_)
      rintro e w4 ⟨rfl, rfl⟩
      (try dsimp only)
      (repeat (first | go_values | gi_guarded | gi_step | gi_upon))
      have HS := I2.out.two (Nat.le_of_eq HG.out.symm)
      obtain ⟨-, r1, -⟩ := blk1 HS.k1
      obtain ⟨-, r2, -⟩ := blk1 HS.k2
      refine ⟨.tuple #[.slice none 0 0, .slice none 0 0, .int .i64 3], by simp [results, Tryd.results40, go_sem, r1, r2], ?_⟩
      exact ⟨_, _, rfl, OwnJ.nil _ _, OwnJ.nil _ _, HS.low⟩
    rw [htb] at HTB
    have t1 := tm_iff.1 hta
    have t2 := tm_iff.1 htb
    have harg' : ¬ (a ≤ b ∧ b - a ≤ 1000) := fun h => harg ⟨hta, htb, h⟩
    rcases (by omega : b < a ∨ ¬ b < a ∧ 1000 < b - a) with h1 | ⟨h1, h2⟩
    · clear harg harg' hta htb
      (try dsimp only)
      (repeat (first | go_values | gi_guarded | gi_step | gi_upon))
      (with_reducible refine (hwd (HTA.out _)).mono ?_)
      rintro e w3 ⟨rfl, rfl⟩
      (try dsimp only)
      (repeat (first | go_values | gi_guarded | gi_step | gi_upon))
      (with_reducible refine (hwd (HTB.out _)).mono ?_)
      rintro e w4 ⟨rfl, rfl⟩
      (try dsimp only)
      (repeat (first | go_values | gi_guarded | gi_step | gi_upon))
      have HS := I2.out.two (Nat.le_of_eq HG.out.symm)
      obtain ⟨-, r1, -⟩ := blk1 HS.k1
      obtain ⟨-, r2, -⟩ := blk1 HS.k2
      refine ⟨.tuple #[.slice none 0 0, .slice none 0 0, .int .i64 3], by simp [results, Tryd.results40, go_sem, r1, r2], ?_⟩
      exact ⟨_, _, rfl, OwnJ.nil _ _, OwnJ.nil _ _, HS.low⟩
    · clear harg harg' hta htb
      (try dsimp only)
      (repeat (first | go_values | gi_guarded | gi_step | gi_upon))
      (with_reducible refine (hwd (HTA.out _)).mono ?_)
      rintro e w3 ⟨rfl, rfl⟩
      (try dsimp only)
      (repeat (first | go_values | gi_guarded | gi_step | gi_upon))
      (with_reducible refine (hwd (HTB.out _)).mono ?_)
      rintro e w4 ⟨rfl, rfl⟩
      (try dsimp only)
      (repeat (first | go_values | gi_guarded | gi_step | gi_upon))
      have HS := I2.out.two (Nat.le_of_eq HG.out.symm)
      obtain ⟨-, r1, -⟩ := blk1 HS.k1
      obtain ⟨-, r2, -⟩ := blk1 HS.k2
      refine ⟨.tuple #[.slice none 0 0, .slice none 0 0, .int .i64 3], by simp [results, Tryd.results40, go_sem, r1, r2], ?_⟩
      exact ⟨_, _, rfl, OwnJ.nil _ _, OwnJ.nil _ _, HS.low⟩
  rw [if_pos harg]
  obtain ⟨hta, htb, hab, hab2⟩ := harg
  have t1 := tm_iff.1 hta
  have t2 := tm_iff.1 htb
  rw [hta] at HTA
  rw [htb] at HTB
  replace HSEQ := hide (fun pf pt ps pm W => HSEQ.out hm (by omega) (by omega) pf pt ps pm W)
  have HDF := hide (fun W => daysF_any m a b 1 W)
  have HLN := hide (dyL_len a b hab2)
  obtain ⟨L, hL⟩ : ∃ L, dyL a b 1 = L := ⟨_, rfl⟩
  rw [hL] at HSEQ HLN ⊢
  clear hm hta htb hL
  obtain ⟨h3, h4⟩ : ¬ b < a ∧ ¬ 1000 < b - a := by omega
  gi_wp2_with fail
  (try simp only [World.size_alloc])
  (try rw [hg])
  clear hg
  (try simp only [Nat.add_assoc, Nat.reduceAdd])
  generalize (((w.alloc (.cells #[.int .i64 m.ln, .int .i64 m.per, .int .i64 m.ph] 47)).alloc (.cells #[.slice none 0 0] 26)).alloc (.cells #[.slice none 0 0] 26)) = w1 at I1 ⊢
  (with_reducible refine (hwd (HC.out _)).mono ?_)
  rintro e w2 ⟨rfl, hb⟩
  have I2 := hide (I1.out.ext hb)
  clear hb
  obtain ⟨z0, c0, c1, c2, f0⟩ := blk3 I2.out.bm
  obtain ⟨z1, c3, f1⟩ := blk1 I2.out.k1
  obtain ⟨z2, c4, f2⟩ := blk1 I2.out.k2
  have HLT : Hid (g + 2 < w2.heap.size) := hide I2.out.k2.lt
  (try dsimp only)
  (repeat (first | go_values | gi_guarded | gi_step | gi_upon))
  (with_reducible refine (hwd (HTA.out _)).mono ?_)
  rintro e w3 ⟨rfl, rfl⟩
  (try dsimp only)
  (repeat (first | go_values | gi_guarded | gi_step | gi_upon))
  (with_reducible refine (hwd (HTB.out _)).mono ?_)
  rintro e w4 ⟨rfl, rfl⟩
  (try dsimp only)
  (repeat (first | go_values | gi_guarded | gi_step | gi_upon))
  (with_reducible refine (hwd (HDF.out _)).mono ?_)
  rintro e w4 ⟨rfl, hdb, hb, hz⟩
  have I4 := hide (I2.out.ext hb)
  obtain ⟨pm, hpm⟩ : ∃ pm, w2.heap.size = pm := ⟨_, rfl⟩
  rw [hpm] at hdb hz HLT ⊢
  have DB := hide hdb
  have HZ4 := hide hz
  clear hb hdb hz hpm I2 I1 HC HTA HTB HDF
  clear z0 c0 c1 c2 f0 z1 c3 f1 z2 c4 f2
  (try dsimp only)
  (repeat (first | go_values | gi_guarded | gi_step | gi_upon))
  have hst := HSEQ.out (pm + 1) (pm + 2) (pm + 3) pm w4
  clear HSEQ
  obtain ⟨A, hA⟩ : ∃ A, w4.heap.size = A := ⟨_, rfl⟩
  have HA : Hid (pm + 3 < A) := hide (by rw [← hA]; exact HZ4.out)
  have HE : Hid (∀ e w', (∃ v1 v2, e = Ending.returned (.tuple #[v1, v2, .int .i64 0]) ∧ OwnJ w' w.heap.size v1 (hwL m 3 L) ∧ OwnJ w' w.heap.size v2 (hwL m 2 L) ∧ Below w.heap.size w w') → ∃ v1 v2, e = Ending.returned (.tuple #[v1, v2, .int .i64 0]) ∧ OwnJ w' w.heap.size v1 (L.filter fun x => decide ((flF m x).2 = 3)) ∧ OwnJ w' w.heap.size v2 (L.filter fun x => decide ((flF m x).2 = 2)) ∧ Below w.heap.size w w') := hide (fun e w' h => h)
  refine wpIn_rangeFunc_z hro (by omega) (gf := 104) (fs := #[]) (lb := #[.pointer (some ⟨pm + 1, 0, none⟩), .pointer (some ⟨pm + 2, 0, none⟩), .pointer (some ⟨pm + 3, 0, none⟩), .pointer (some ⟨pm, 0, none⟩)]) rfl (hF _) (enters_of Tryd.func104 (by kernel_rfl) rfl) hst (Below.refl _ _) (fun _ => rfl)
    (fun M pre W => OdI w W g M (hwL m 3 pre) (hwL m 2 pre) ∧ DyB W pm m a b 1)
    (fun _ _ _ => False) ?hZ ?hI0 ?hI (fun _ _ _ _ h _ => h)
    (fun M x a' W => ∃ g11, a' = { tmps := #[.agg #[.int .i64 m.ln, .int .i64 m.per, .int .i64 m.ph], .int .i64 a, .int .i64 b, .pointer (some ⟨g, 0, none⟩), undef, undef, .pointer (some ⟨g + 1, 0, none⟩), .pointer (some ⟨g + 2, 0, none⟩), .int .i64 0, .int .i64 0, .int .i64 x, .pointer (some ⟨g11, 0, none⟩), .agg #[.int .i64 m.ln, .int .i64 m.per, .int .i64 m.ph], .int .i64 0, .int .i64 0, .bool false, undef, .int .i64 a, .bool true, .bool false, .bool false, .int .i64 b, .bool true, .bool false, .bool false, .bool false, .int .i64 a, .int .i64 b, .bool (decide (b < a)), .bool (decide (b < a)), .bool (decide (b < a)), .int .i64 b, .int .i64 a, .int .i64 (b - a), .bool (decide (1000 < b - a)), .bool (decide (b < a) || decide (1000 < b - a)), .agg #[.int .i64 m.ln, .int .i64 m.per, .int .i64 m.ph], .agg #[.int .i64 m.ln, .int .i64 m.per, .int .i64 m.ph], .int .i64 a, .int .i64 b, .func (.func 104) #[] #[.pointer (some ⟨pm + 1, 0, none⟩), .pointer (some ⟨pm + 2, 0, none⟩), .pointer (some ⟨pm + 3, 0, none⟩), .pointer (some ⟨pm, 0, none⟩)], .int .i64 x, .agg #[.int .i64 (flF m x).1, .int .i64 (flF m x).2], undef, undef, undef, undef, undef, undef, undef, undef, undef, undef, undef, undef, undef, undef, undef, undef], defers := [] } ∧ M ≤ g11 ∧ Blk W g11 124 #[.int .i64 (flF m x).1, .int .i64 (flF m x).2])
    ?hAx ?hassign ?hbody ?hdone ?hstop
  case hZ =>
    rintro M pre W ⟨h1, h2⟩
    exact h2.z
  case hI0 =>
    intro W1 h1 _
    exact ⟨(I4.out.ext h1).nil, DB.out.ext h1⟩
  case hI =>
    rintro M pre W1 W2 ⟨h1, h2⟩ ho
    rw [hA] at ho
    have e1 := HA.out
    have e2 := HLT.out
    have e3 : w.heap.size ≤ g := Nat.le_of_eq HG.out.symm
    exact ⟨h1.out ho (by omega) (by omega), h2.out ho (by omega)⟩
  case hAx =>
    rintro M x a' W1 W2 ⟨g11, rfl, h1, h2⟩ ho
    exact ⟨g11, rfl, h1, ho.blk h2 (by omega)⟩
  case hassign =>
    intro l M pre x W K hMW hI hK
    have HK2 := hide hK
    clear hK
    unfold dyE
    gi_wp2_with fail
    have hbn : Below W.heap.size W (W.alloc (.cells #[.int .i64 (flF m x).1, .int .i64 (flF m x).2] 124)) := (Below.refl _ _).alloc (Nat.le_refl _) _
    refine HK2.out _ _ (KeepB.of_below hbn hMW) ⟨hI.1.ext hbn, hI.2.ext hbn⟩ ⟨W.heap.size, rfl, hMW, ?_⟩
    exact Blk.new W _ _
  case hbody =>
    rintro l M pre x a' W hM2 hMW hpre ⟨hS, hD⟩ ⟨g11, rfl, hg11, hk11⟩
    rw [hA] at hM2
    obtain ⟨y0, y1, y2, y3⟩ := blk2 hk11
    have hpl : pre.length ≤ 1001 := by
      have := hpre.length_le
      simp at this
      have := HLN.out
      omega
    have hl3 := hwL_len m 3 pre
    have hl2 := hwL_len m 2 pre
    have e1 := HA.out
    have e2 := HLT.out
    have e3 : w.heap.size ≤ g := Nat.le_of_eq HG.out.symm
    obtain ⟨fd, hfd⟩ : ∃ f, (flF m x).1 = f := ⟨_, rfl⟩
    obtain ⟨fh, hfh⟩ : ∃ f, (flF m x).2 = f := ⟨_, rfl⟩
    have h3y := fun e : fh = 3 => hwL_yes (l := pre) (hfh.trans e)
    have h3n := fun e : fh ≠ 3 => hwL_no (l := pre) (m := m) (x := x) (h := 3) (fun e2 => e (hfh.symm.trans e2))
    have h2y := fun e : fh = 2 => hwL_yes (l := pre) (hfh.trans e)
    have h2n := fun e : fh ≠ 2 => hwL_no (l := pre) (m := m) (x := x) (h := 2) (fun e2 => e (hfh.symm.trans e2))
    rw [hfd, hfh] at hk11
    rw [hfh] at y2
    rw [hfd, hfh]
    clear hfd hfh hpre hst y1
    by_cases h3 : fh = 3
    · have hq : (fh == 3) = true := by rw [h3]; rfl
      have HP := hide (hS.r.push x (by omega) hS.low.size hMW (by omega) (by omega) (by omega))
      have hG3 := h3y h3
      have hG2 := h2n (by omega)
      obtain ⟨A1, c1', A2, c2', w', hb1, hr, hb2, hR, hO, hK⟩ := HP.out
      have HKB : Hid (KeepB A M W (w'.setCell ⟨g + 1, 0, none⟩ (.slice A2 ((hwL m 3 pre).length + 1) c2'))) := hide ⟨by have := hO.size; simpa using this, fun k k1 k2 => hK k k2 (by omega)⟩
      have HIN : Hid (OdI w (w'.setCell ⟨g + 1, 0, none⟩ (.slice A2 ((hwL m 3 pre).length + 1) c2')) g M (hwL m 3 (pre ++ [x])) (hwL m 2 (pre ++ [x])) ∧ DyB (w'.setCell ⟨g + 1, 0, none⟩ (.slice A2 ((hwL m 3 pre).length + 1) c2')) pm m a b 1) := hide (by
        rw [hG3, hG2]
        refine ⟨⟨(hO.below hS.low (by omega) (Nat.le_refl _)).setCell (by dsimp only; omega) _, hR⟩, ?_, ?_, ?_, ?_⟩
        · exact (hK pm (by omega) (by omega)).trans hD.m
        · exact (hK (pm + 1) (by omega) (by omega)).trans hD.f
        · exact (hK (pm + 2) (by omega) (by omega)).trans hD.t
        · exact (hK (pm + 3) (by omega) (by omega)).trans hD.s)
      have HRUN := hide hr
      obtain ⟨q1, q2, q3⟩ := blk1 hb1
      obtain ⟨q4, q5, q6⟩ := blk1 hb2
      clear hr hR hO hK hS hD HP hb1 hb2 hG3 hG2 h3y h3n h2y h2n h3 hk11
      gi_wp2_with (gi_at_builtin; refine wpListIn_append_run hF rfl (.tmp 47) (.tmp 49) 26 rfl rfl rfl HRUN.out ?_)
      exact ⟨by first | exact HKB.out | (rw [hA]; exact HKB.out), HIN.out⟩
    · have hq : (fh == 3) = false := by rw [beq_eq_false_iff_ne]; exact h3
      have hG3 := h3n h3
      by_cases h2 : fh = 2
      · have hq2 : (fh == 2) = true := by rw [h2]; rfl
        have hG2 := h2y h2
        have HP := hide (hS.r.swap.push x (by omega) hS.low.size hMW (by omega) (by omega) (by omega))
        obtain ⟨A1, c1', A2, c2', w', hb1, hr, hb2, hR, hO, hK⟩ := HP.out
        have HKB : Hid (KeepB A M W (w'.setCell ⟨g + 2, 0, none⟩ (.slice A2 ((hwL m 2 pre).length + 1) c2'))) := hide ⟨by have := hO.size; simpa using this, fun k k1 k2 => hK k k2 (by omega)⟩
        have HIN : Hid (OdI w (w'.setCell ⟨g + 2, 0, none⟩ (.slice A2 ((hwL m 2 pre).length + 1) c2')) g M (hwL m 3 (pre ++ [x])) (hwL m 2 (pre ++ [x])) ∧ DyB (w'.setCell ⟨g + 2, 0, none⟩ (.slice A2 ((hwL m 2 pre).length + 1) c2')) pm m a b 1) := hide (by
          rw [hG3, hG2]
          refine ⟨⟨(hO.below hS.low (by omega) (Nat.le_refl _)).setCell (by dsimp only; omega) _, hR.swap⟩, ?_, ?_, ?_, ?_⟩
          · exact (hK pm (by omega) (by omega)).trans hD.m
          · exact (hK (pm + 1) (by omega) (by omega)).trans hD.f
          · exact (hK (pm + 2) (by omega) (by omega)).trans hD.t
          · exact (hK (pm + 3) (by omega) (by omega)).trans hD.s)
        have HRUN := hide hr
        obtain ⟨q1, q2, q3⟩ := blk1 hb1
        obtain ⟨q4, q5, q6⟩ := blk1 hb2
        clear hr hR hO hK hS hD HP hb1 hb2 hG3 hG2 h3y h3n h2y h2n h3 h2 hk11
        gi_wp2_with (gi_at_builtin; refine wpListIn_append_run hF rfl (.tmp 53) (.tmp 55) 26 rfl rfl rfl HRUN.out ?_)
        exact ⟨by first | exact HKB.out | (rw [hA]; exact HKB.out), HIN.out⟩
      · have hq2 : (fh == 2) = false := by rw [beq_eq_false_iff_ne]; exact h2
        have hG2 := h2n h2
        have HIN : Hid (OdI w W g M (hwL m 3 (pre ++ [x])) (hwL m 2 (pre ++ [x])) ∧ DyB W pm m a b 1) := hide (by rw [hG3, hG2]; exact ⟨hS, hD⟩)
        clear hS hD hG3 hG2 h3y h3n h2y h2n h3 h2 hk11
        gi_wp2_with fail
        exact ⟨KeepB.refl _ _ _, HIN.out⟩
  case hdone =>
    rintro D M W hD ⟨hS, hdb⟩ hK
    rw [hA] at hD
    obtain ⟨v1, v2, hc, o1, o2, b1, b2, A1, k1, A2, k2, rfl, rfl⟩ := hS.fin
    have e1 := HA.out
    have e2 := HLT.out
    have e3 : w.heap.size ≤ g := Nat.le_of_eq HG.out.symm
    have HC2 : Hid (∀ W', Blk W' (g + 1) 26 #[.slice A1 (hwL m 3 L).length k1] → Blk W' (g + 2) 26 #[.slice A2 (hwL m 2 L).length k2] → W'.cell? ⟨g + 1, 0, none⟩ = some (.slice A1 (hwL m 3 L).length k1) ∧ W'.cell? ⟨g + 2, 0, none⟩ = some (.slice A2 (hwL m 2 L).length k2)) := hide (fun W' h1 h2 => ⟨(blk1 h1).2.1, (blk1 h2).2.1⟩)
    obtain ⟨wd, hwd⟩ : ∃ wd, W.drew = wd := ⟨_, rfl⟩
    have hbd : Below W.heap.size W wd := by rw [← hwd]; exact (Below.refl _ _).drew
    have B1 := hide (b1.ext hbd)
    have B2 := hide (b2.ext hbd)
    have B1' : Hid (Blk (wd.setCell ⟨g + 1, 0, none⟩ (.slice A1 (hwL m 3 L).length k1)) (g + 1) 26 #[.slice A1 (hwL m 3 L).length k1]) := hide (by simpa using B1.out.set_ 0 (.slice A1 (hwL m 3 L).length k1))
    have B2' := hide (B2.out.far (p := ⟨g + 1, 0, none⟩) (fun e => by dsimp only at e; omega) (.slice A1 (hwL m 3 L).length k1))
    have B1e := hide (B1'.out.far (p := ⟨g + 2, 0, none⟩) (fun e => by dsimp only at e; omega) (.slice A2 (hwL m 2 L).length k2))
    have B2e : Hid (Blk ((wd.setCell ⟨g + 1, 0, none⟩ (.slice A1 (hwL m 3 L).length k1)).setCell ⟨g + 2, 0, none⟩ (.slice A2 (hwL m 2 L).length k2)) (g + 2) 26 #[.slice A2 (hwL m 2 L).length k2]) := hide (by simpa using B2'.out.set_ 0 (.slice A2 (hwL m 2 L).length k2))
    have hkk : ∀ k, k < W.heap.size → k ≠ g + 1 → k ≠ g + 2 → ((wd.setCell ⟨g + 1, 0, none⟩ (.slice A1 (hwL m 3 L).length k1)).setCell ⟨g + 2, 0, none⟩ (.slice A2 (hwL m 2 L).length k2)).heap[k]? = W.heap[k]? := fun k h1 h2 h3 =>
      (Below.heap_setCell _ _ _ k (fun e => h3 (by simpa using e))).trans ((Below.heap_setCell _ _ _ k (fun e => h2 (by simpa using e))).trans (hbd.block k h1))
    have HO1 : Hid (OwnJ ((wd.setCell ⟨g + 1, 0, none⟩ (.slice A1 (hwL m 3 L).length k1)).setCell ⟨g + 2, 0, none⟩ (.slice A2 (hwL m 2 L).length k2)) w.heap.size (.slice A1 (hwL m 3 L).length k1) (hwL m 3 L)) := hide (own_keep o1 (fun k e => hkk k (own_lt' o1 e) (fun e2 => own_blk_ne o1 b1 (by decide) (by rw [e, e2])) (fun e2 => own_blk_ne o1 b2 (by decide) (by rw [e, e2]))))
    have HO2 : Hid (OwnJ ((wd.setCell ⟨g + 1, 0, none⟩ (.slice A1 (hwL m 3 L).length k1)).setCell ⟨g + 2, 0, none⟩ (.slice A2 (hwL m 2 L).length k2)) w.heap.size (.slice A2 (hwL m 2 L).length k2) (hwL m 2 L)) := hide (own_keep o2 (fun k e => hkk k (own_lt' o2 e) (fun e2 => own_blk_ne o2 b1 (by decide) (by rw [e, e2])) (fun e2 => own_blk_ne o2 b2 (by decide) (by rw [e, e2]))))
    have HLW : Hid (Below w.heap.size w ((wd.setCell ⟨g + 1, 0, none⟩ (.slice A1 (hwL m 3 L).length k1)).setCell ⟨g + 2, 0, none⟩ (.slice A2 (hwL m 2 L).length k2))) := hide (((hS.low.trans (hbd.mono hS.low.size)).setCell (by dsimp only; omega) _).setCell (by dsimp only; omega) _)
    have HKD : Hid (((wd.setCell ⟨g + 1, 0, none⟩ (.slice A1 (hwL m 3 L).length k1)).setCell ⟨g + 2, 0, none⟩ (.slice A2 (hwL m 2 L).length k2)).heap[D]? = some (.deferred (some []))) := hide ((hkk D (Array.getElem?_eq_some_iff.1 hK).1 (by omega) (by omega)).trans hK)
    clear hkk hbd o1 o2 b1 b2 hS hdb hK hc hst
    gi_wp2_with fail
    refine wpIn_on ?_
    refine wpIn_region_J (fun W : World => W.cell? ⟨g + 1, 0, none⟩ = some (.slice A1 (hwL m 3 L).length k1) ∧ W.cell? ⟨g + 2, 0, none⟩ = some (.slice A2 (hwL m 2 L).length k2)) (by kernel_rfl) ?_
    rw [hwd]
    refine wpAnyJ_take 0 (v := ?_) (by first | exact hF | exact wideFn) (HC2.out _ B1.out B2.out) rfl (by kernel_rfl) (by kernel_rfl) (by kernel_rfl) (by kernel_rfl) rfl ?_ (by first | exact fun _ _ _ h => h | exact fun _ _ _ h => hQ2 _ _ _ _ _ h) ?_
    rotate_left
    · intro W hSW
      simp only [glA, glB, glC]
      (try dsimp only at hSW)
      go_simp
      with_reducible rfl
    (try simp only [glA, glB, glC, Act.put, glD, glE, glF])
    refine wpAnyJ_take 1 (v := ?_) (by first | exact hF | exact wideFn) (HC2.out _ B1.out B2.out) rfl (by kernel_rfl) (by kernel_rfl) (by kernel_rfl) (by kernel_rfl) rfl ?_ (by first | exact fun _ _ _ h => h | exact fun _ _ _ h => hQ2 _ _ _ _ _ h) ?_
    rotate_left
    · intro W hSW
      simp only [glA, glB, glC]
      (try dsimp only at hSW)
      go_simp
      with_reducible rfl
    (try simp only [glA, glB, glC, Act.put, glD, glE, glF])
    obtain ⟨q1, q2, q3⟩ := blk1 B1.out
    refine wpAnyJ_one 2 rfl (by kernel_rfl) (fun K hK => ?_)
    simp only [glA, glB, glC]
    go_simp
    refine hK.out _ _ (fun _ => HC2.out _ B1'.out B2'.out) ?_
    clear hK K
    (try simp only [glA, glB, glC, Act.put, glD, glE, glF])
    obtain ⟨q4, q5, q6⟩ := blk1 B2'.out
    refine wpAnyJ_one 3 rfl (by kernel_rfl) (fun K hK => ?_)
    simp only [glA, glB, glC]
    go_simp
    refine hK.out _ _ (fun _ => HC2.out _ B1e.out B2e.out) ?_
    clear hK K
    (try simp only [glA, glB, glC, Act.put, glD, glE, glF])
    refine wpAnyJ_one 4 rfl (by kernel_rfl) (fun K hK => ?_)
    simp only [glA, glB, glC]
    go_simp
    refine hK.out _ _ (fun h => absurd h (by rw [show lastOp _ _ _ = true from by kernel_rfl]; simp)) ?_
    clear hK K
    (try simp only [glA, glB, glC, Act.put, glD, glE, glF])
    refine wpAnyJ_done (by kernel_rfl) ?_
    dsimp only [OnlyNormal]
    clear q1 q2 q3 q4 q5 q6
    gi_wp2_with fail
    refine ⟨by simp, .inl ⟨_, _, rfl, run_takeDeferred HKD.out, ?_⟩⟩
    have hgp := grownBy_putObj' ((wd.setCell ⟨g + 1, 0, none⟩ (.slice A1 (hwL m 3 L).length k1)).setCell ⟨g + 2, 0, none⟩ (.slice A2 (hwL m 2 L).length k2)) D (.deferred none)
    have hob : OutK D (D + 1) ((wd.setCell ⟨g + 1, 0, none⟩ (.slice A1 (hwL m 3 L).length k1)).setCell ⟨g + 2, 0, none⟩ (.slice A2 (hwL m 2 L).length k2)) (((wd.setCell ⟨g + 1, 0, none⟩ (.slice A1 (hwL m 3 L).length k1)).setCell ⟨g + 2, 0, none⟩ (.slice A2 (hwL m 2 L).length k2)).putObj D (.deferred none)) := OutK.putObj _ (Nat.le_refl _) (by omega) _
    have p1 := (blk1 (hob.blk B1e.out (by omega))).2.1
    have p2 := (blk1 (hob.blk B2e.out (by omega))).2.1
    refine ⟨.tuple #[.slice A1 (hwL m 3 L).length k1, .slice A2 (hwL m 2 L).length k2, .int .i64 0], by simp [results, Tryd.results40, go_sem, p1, p2], ?_⟩
    exact ⟨_, _, rfl, ownN HO1.out hgp (fun r e => by cases e; exact ⟨_, HKD.out, rfl⟩), ownN HO2.out hgp (fun r e => by cases e; exact ⟨_, HKD.out, rfl⟩), OutK.below HLW.out hob (by omega) (Nat.le_refl _)⟩
  case hstop =>
    intro D c pre W hD hSp h hK
    exact h.elim
end Go.Proofs.YtlkkkgpcjdemdaaDoor
/- Song: Next, walked. -/
namespace Go.Proofs.YtlkkkgpcjdemdaaDoor
open Go Go.RowKit Go.Shelf
attribute [local go_sem] Oper.semAt_some
set_option maxHeartbeats 8000000
set_option maxRecDepth 100000
structure NxI (w W : World) (g : Nat) (m : Mo) (d v8 v9 : Int) : Prop where
  low : Below w.heap.size w W
  bm : Blk W g 47 #[.int .i64 m.ln, .int .i64 m.per, .int .i64 m.ph]
  bd : Blk W (g + 1) 3 #[.int .i64 d]
  k8 : Blk W (g + 2) 3 #[.int .i64 v8]
  k9 : Blk W (g + 3) 28 #[.int .i64 v9]
theorem nx_start {m : Mo} (hm : m.ok) {d : Int} {dark : Bool} {num : Int} (h0 : 0 ≤ d) (h1 : d ≤ 1000000) (h2 : 1 ≤ num) (h3 : num ≤ 15) : 0 ≤ nxS m d dark num ∧ nxS m d dark num ≤ 3000000 ∧ 0 ≤ d * m.per / m.ln ∧ d * m.per / m.ln ≤ 2000000 := by
  have b0 := mul_bd h0 h1 (show 0 ≤ m.per by have := hm.1; omega) hm.2.1
  have b1 := hm.2.2.2.2.1
  have b2 := hm.2.2.1
  have b3 : 0 ≤ d * m.per / m.ln := Int.ediv_nonneg b0.1 (by omega)
  have h4 : d * m.per ≤ 1000000 * (2 * m.ln) := Int.le_trans (Int.mul_le_mul_of_nonneg_left b1 h0) (Int.mul_le_mul_of_nonneg_right (by omega) (by omega))
  have h6 := Int.ediv_le_ediv (show 0 < m.ln by omega) h4
  have h7 : 1000000 * (2 * m.ln) / m.ln = 2000000 := by rw [← Int.mul_assoc]; exact Int.mul_ediv_cancel _ (by omega)
  unfold nxS erF
  split <;> omega
variable {w W W' : World} {g : Nat} {m : Mo} {d v8 v9 : Int}
theorem NxI.ext (h : NxI w W g m d v8 v9) (hb : Below W.heap.size W W') : NxI w W' g m d v8 v9 := ⟨h.low.trans (hb.mono h.low.size), h.bm.ext hb, h.bd.ext hb, h.k8.ext hb, h.k9.ext hb⟩
theorem NxI.out (h : NxI w W g m d v8 v9) {a b : Nat} (ho : OutK a b W W') (ha : w.heap.size ≤ a) (hg : g + 3 < a) : NxI w W' g m d v8 v9 :=
  ⟨ho.below h.low ha (Nat.le_refl _), ho.blk h.bm (by omega), ho.blk h.bd (by omega), ho.blk h.k8 (by omega), ho.blk h.k9 (by omega)⟩
theorem NxI.set (h : NxI w W g m d v8 v9) (hg : w.heap.size ≤ g) (a b : Int) : NxI w ((W.setCell ⟨g + 2, 0, none⟩ (.int .i64 a)).setCell ⟨g + 3, 0, none⟩ (.int .i64 b)) g m d a b :=
  ⟨(h.low.setCell (by dsimp only; omega) _).setCell (by dsimp only; omega) _, (h.bm.far (p := ⟨g + 2, 0, none⟩) (fun e => by dsimp only at e; omega) _).far (p := ⟨g + 3, 0, none⟩) (fun e => by dsimp only at e; omega) _,
    (h.bd.far (p := ⟨g + 2, 0, none⟩) (fun e => by dsimp only at e; omega) _).far (p := ⟨g + 3, 0, none⟩) (fun e => by dsimp only at e; omega) _,
    (show Blk (W.setCell ⟨g + 2, 0, none⟩ (.int .i64 a)) (g + 2) 3 #[.int .i64 a] by simpa using h.k8.set_ 0 (.int .i64 a)).far (p := ⟨g + 3, 0, none⟩) (fun e => by dsimp only at e; omega) _,
    by simpa using (h.k9.far (p := ⟨g + 2, 0, none⟩) (fun e => by dsimp only at e; omega) (.int .i64 a)).set_ 0 (.int .i64 b)⟩
theorem find_pre {α : Type} {P : α → Bool} {p0 L : List α} {x : α} (h : p0 ++ [x] <+: L) (h1 : ∀ y ∈ p0, P y = false) (h2 : P x = true) : L.find? P = some x := by
  obtain ⟨t, rfl⟩ := h
  rw [List.append_assoc, List.find?_append, List.find?_eq_none.2 (fun y hy => by rw [h1 y hy]; exact Bool.false_ne_true)]
  simp [h2]
theorem Next_any (m : Mo) (d : Int) (dark : Bool) (num : Int) (w : World) :
    Calls Tryd.prog 39 #[.agg #[.int .i64 m.ln, .int .i64 m.per, .int .i64 m.ph], .int .i64 d, .bool dark, .int .i64 num] w fun e w' => e = .returned (.tuple #[.int .i64 (nxR m d dark num).1, .int .i64 (nxR m d dark num).2]) ∧ Below w.heap.size w w' := by
  have HC := hide (fun W => checkMoon_any m W)
  have HT := hide (fun W => isTime_any d W)
  refine (callsIn_wide (n := 9)).1 ?_
  obtain ⟨F, hFw⟩ : ∃ F : Fence, F = Fence.wide := ⟨_, rfl⟩
  rw [← hFw]
  have hF : ∀ f, F.fn f := by rw [hFw]; exact fun _ => trivial
  have hro : F.round = none := by rw [hFw]; rfl
  have hwd : ∀ {n f args w R}, Calls Tryd.prog f args w R → CallsIn F n Tryd.prog f args w R := by rw [hFw]; exact fun h => callsIn_wide.2 h
  clear hFw
  have hb1 : Below w.heap.size w ((((w.alloc (.cells #[.int .i64 m.ln, .int .i64 m.per, .int .i64 m.ph] 47)).alloc (.cells #[.int .i64 d] 3)).alloc (.cells #[.int .i64 0] 3)).alloc (.cells #[.int .i64 0] 28)) := ((((Below.refl _ _).alloc (Nat.le_refl _) _).alloc (by simp) _).alloc (by simp; omega) _).alloc (by simp; omega) _
  obtain ⟨g, hg⟩ : ∃ g, w.heap.size = g := ⟨_, rfl⟩
  have HG := hide hg.symm
  have I1 : Hid (NxI w ((((w.alloc (.cells #[.int .i64 m.ln, .int .i64 m.per, .int .i64 m.ph] 47)).alloc (.cells #[.int .i64 d] 3)).alloc (.cells #[.int .i64 0] 3)).alloc (.cells #[.int .i64 0] 28)) g m d 0 0) := hide (by
    have h1 := Blk.new w 47 #[.int .i64 m.ln, .int .i64 m.per, .int .i64 m.ph]
    have h2 := Blk.new (w.alloc (.cells #[.int .i64 m.ln, .int .i64 m.per, .int .i64 m.ph] 47)) 3 #[.int .i64 d]
    have h3 := Blk.new ((w.alloc (.cells #[.int .i64 m.ln, .int .i64 m.per, .int .i64 m.ph] 47)).alloc (.cells #[.int .i64 d] 3)) 3 #[.int .i64 0]
    have h4 := Blk.new (((w.alloc (.cells #[.int .i64 m.ln, .int .i64 m.per, .int .i64 m.ph] 47)).alloc (.cells #[.int .i64 d] 3)).alloc (.cells #[.int .i64 0] 3)) 28 #[.int .i64 0]
    rw [World.size_alloc] at h2
    rw [World.size_alloc, World.size_alloc] at h3
    rw [World.size_alloc, World.size_alloc, World.size_alloc] at h4
    rw [hg] at h1 h2 h3 h4
    exact ⟨hb1, ((h1.alloc _).alloc _).alloc _, (h2.alloc _).alloc _, h3.alloc _, h4⟩)
  refine callsIn_of_wp_marks Tryd.func39 rfl (hF _) ?_ hro
  simp only [Tryd.ntmps39, List.size_toArray, List.length_cons, List.length_nil, Nat.reduceAdd, Nat.reduceSub, Array.replicate_succ, Array.replicate_zero, List.push_toArray, List.append_toArray, List.nil_append, List.cons_append]
  clear hb1
  have HS0 := hide (fun (h : m.ok) => nx_start h (d := d) (dark := dark) (num := num))
  have HSEQ := hide (fun (h : m.ok) f (h1 : 0 ≤ f) (h2 : f ≤ 3000000) pf pt ps pm W => dy_seq F (9 - 1) hF hro hwd (by omega) pf pt ps pm m h f 1000000 30 ⟨h1, h2⟩ (Int.le_refl _) (by omega) W)
  unfold nxR
  by_cases hm : m.ok
  rotate_left
  · rw [moB_no hm] at HC
    rw [if_neg hm]
    clear hm HS0 HSEQ
    gi_wp2_with fail
    (try simp only [World.size_alloc])
    (try rw [hg])
    clear hg
    (try simp only [Nat.add_assoc, Nat.reduceAdd])
    generalize ((((w.alloc (.cells #[.int .i64 m.ln, .int .i64 m.per, .int .i64 m.ph] 47)).alloc (.cells #[.int .i64 d] 3)).alloc (.cells #[.int .i64 0] 3)).alloc (.cells #[.int .i64 0] 28)) = w1 at I1 ⊢
    (with_reducible refine (hwd (HC.out _)).mono ?_)
    rintro e w2 ⟨rfl, hb⟩
    have I2 := hide (I1.out.ext hb)
    clear hb
    obtain ⟨z0, c0, c1, c2, f0⟩ := blk3 I2.out.bm
    obtain ⟨z1, c3, f1⟩ := blk1 I2.out.bd
    obtain ⟨z2, c4, f2⟩ := blk1 I2.out.k8
    obtain ⟨z3, c5, f3⟩ := blk1 I2.out.k9
    (try dsimp only)
    (repeat (first | go_values | gi_guarded | gi_step | gi_upon))
    have HS := I2.out.set (Nat.le_of_eq HG.out.symm) 0 2
    obtain ⟨-, r8, -⟩ := blk1 HS.k8
    obtain ⟨-, r9, -⟩ := blk1 HS.k9
    refine ⟨.tuple #[.int .i64 0, .int .i64 2], by simp [results, Tryd.results39, go_sem, r8, r9], ?_⟩
    exact ⟨rfl, HS.low⟩
  rw [moB_yes hm] at HC
  rw [if_pos hm]
  by_cases harg : tmB d = true ∧ 1 ≤ num ∧ num ≤ 15
  rotate_left
  · rw [if_neg harg]
    clear HS0 HSEQ
    gi_wp2_with fail
    (try simp only [World.size_alloc])
    (try rw [hg])
    clear hg
    (try simp only [Nat.add_assoc, Nat.reduceAdd])
    generalize ((((w.alloc (.cells #[.int .i64 m.ln, .int .i64 m.per, .int .i64 m.ph] 47)).alloc (.cells #[.int .i64 d] 3)).alloc (.cells #[.int .i64 0] 3)).alloc (.cells #[.int .i64 0] 28)) = w1 at I1 ⊢
    (with_reducible refine (hwd (HC.out _)).mono ?_)
    rintro e w2 ⟨rfl, hb⟩
    have I2 := hide (I1.out.ext hb)
    clear hb
    obtain ⟨z0, c0, c1, c2, f0⟩ := blk3 I2.out.bm
    obtain ⟨z1, c3, f1⟩ := blk1 I2.out.bd
    obtain ⟨z2, c4, f2⟩ := blk1 I2.out.k8
    obtain ⟨z3, c5, f3⟩ := blk1 I2.out.k9
    rcases htm : tmB d with _ | _
    · rw [htm] at HT
      clear harg htm
      (try dsimp only)
      (repeat (first | go_values | gi_guarded | gi_step | gi_upon))
      (with_reducible refine (hwd (HT.out _)).mono ?_)
      rintro e w3 ⟨rfl, rfl⟩
      (try dsimp only)
      (repeat (first | go_values | gi_guarded | gi_step | gi_upon))
      have HS := I2.out.set (Nat.le_of_eq HG.out.symm) 0 3
      obtain ⟨-, r8, -⟩ := blk1 HS.k8
      obtain ⟨-, r9, -⟩ := blk1 HS.k9
      refine ⟨.tuple #[.int .i64 0, .int .i64 3], by simp [results, Tryd.results39, go_sem, r8, r9], ?_⟩
      exact ⟨rfl, HS.low⟩
    · rw [htm] at HT
      have harg' : ¬ (1 ≤ num ∧ num ≤ 15) := fun h => harg ⟨htm, h⟩
      rcases (by omega : num < 1 ∨ ¬ num < 1 ∧ 15 < num) with h1 | ⟨h1, h2⟩
      · clear harg harg' htm
        (try dsimp only)
        (repeat (first | go_values | gi_guarded | gi_step | gi_upon))
        (with_reducible refine (hwd (HT.out _)).mono ?_)
        rintro e w3 ⟨rfl, rfl⟩
        (try dsimp only)
        (repeat (first | go_values | gi_guarded | gi_step | gi_upon))
        have HS := I2.out.set (Nat.le_of_eq HG.out.symm) 0 3
        obtain ⟨-, r8, -⟩ := blk1 HS.k8
        obtain ⟨-, r9, -⟩ := blk1 HS.k9
        refine ⟨.tuple #[.int .i64 0, .int .i64 3], by simp [results, Tryd.results39, go_sem, r8, r9], ?_⟩
        exact ⟨rfl, HS.low⟩
      · clear harg harg' htm
        (try dsimp only)
        (repeat (first | go_values | gi_guarded | gi_step | gi_upon))
        (with_reducible refine (hwd (HT.out _)).mono ?_)
        rintro e w3 ⟨rfl, rfl⟩
        (try dsimp only)
        (repeat (first | go_values | gi_guarded | gi_step | gi_upon))
        have HS := I2.out.set (Nat.le_of_eq HG.out.symm) 0 3
        obtain ⟨-, r8, -⟩ := blk1 HS.k8
        obtain ⟨-, r9, -⟩ := blk1 HS.k9
        refine ⟨.tuple #[.int .i64 0, .int .i64 3], by simp [results, Tryd.results39, go_sem, r8, r9], ?_⟩
        exact ⟨rfl, HS.low⟩
  rw [if_pos harg]
  obtain ⟨htm, hn1, hn2⟩ := harg
  rw [htm] at HT
  obtain ⟨hd0, hd1⟩ := tm_iff.1 htm
  obtain ⟨s1, s2, s3, s4⟩ := HS0.out hm hd0 hd1 hn1 hn2
  replace HSEQ := hide (fun pf pt ps pm W => HSEQ.out hm (nxS m d dark num) s1 s2 pf pt ps pm W)
  have HDF := hide (fun f W => daysF_any m f 1000000 30 W)
  have hq0 := mul_bd hd0 hd1 (show 0 ≤ m.per by have := hm.1; omega) hm.2.1
  have hl1 := hm.2.2.1
  obtain ⟨q, hq⟩ : ∃ q, d * m.per = q := ⟨_, rfl⟩
  rw [hq] at hq0 s3 s4
  have hwq : IntKind.i64.wrap (d * m.per) = q := by rw [hq]; exact IntWalk.i64_in _ (by omega)
  have hst : nxS m d dark num = (if dark then num - 1 + 15 else num - 1) + max 0 (q / m.ln - 3) / 30 * 30 := by rw [← hq]; rfl
  obtain ⟨f0, hf0⟩ : ∃ f, nxS m d dark num = f := ⟨_, rfl⟩
  rw [hf0] at hst s1 s2 HSEQ ⊢
  clear hm HS0 htm hf0
  generalize hRR : nxO m d (dyL f0 1000000 30) = RR
  have HRR := hide hRR
  clear hRR
  gi_wp2_with fail
  (try simp only [World.size_alloc])
  (try rw [hg])
  clear hg
  (try simp only [Nat.add_assoc, Nat.reduceAdd])
  generalize ((((w.alloc (.cells #[.int .i64 m.ln, .int .i64 m.per, .int .i64 m.ph] 47)).alloc (.cells #[.int .i64 d] 3)).alloc (.cells #[.int .i64 0] 3)).alloc (.cells #[.int .i64 0] 28)) = w1 at I1 ⊢
  (with_reducible refine (hwd (HC.out _)).mono ?_)
  rintro e w2 ⟨rfl, hb⟩
  have I2 := hide (I1.out.ext hb)
  clear hb
  obtain ⟨z0, c0, c1, c2, f0⟩ := blk3 I2.out.bm
  obtain ⟨z1, c3, f1⟩ := blk1 I2.out.bd
  obtain ⟨z2, c4, f2⟩ := blk1 I2.out.k8
  obtain ⟨z3, c5, f3⟩ := blk1 I2.out.k9
  (try dsimp only)
  (repeat (first | go_values | gi_guarded | gi_step | gi_upon))
  (with_reducible refine (hwd (HT.out _)).mono ?_)
  rintro e w3 ⟨rfl, rfl⟩
  have HLT : Hid (g + 3 < w2.heap.size) := hide I2.out.k9.lt
  cases dark with
  | true =>
    rw [if_pos rfl] at hst
    subst hst
    (try dsimp only)
    (repeat (first | go_values | gi_guarded | gi_step | gi_upon))
    (with_reducible refine (hwd (HDF.out _ _)).mono ?_)
    rintro e w4 ⟨rfl, hdb, hb, hz⟩
    have I4 := hide (I2.out.ext hb)
    obtain ⟨pm, hpm⟩ : ∃ pm, w2.heap.size = pm := ⟨_, rfl⟩
    rw [hpm] at hdb hz HLT ⊢
    have DB := hide hdb
    have HZ4 := hide hz
    clear hb hdb hz hpm I2 I1 HC HT HDF
    clear z0 c0 c1 c2 f0 z1 c3 f1 z2 c4 f2 z3 c5 f3
    (try dsimp only)
    (repeat (first | go_values | gi_guarded | gi_step | gi_upon))
    have hst := HSEQ.out (pm + 1) (pm + 2) (pm + 3) pm w4
    clear HSEQ
    obtain ⟨A, hA⟩ : ∃ A, w4.heap.size = A := ⟨_, rfl⟩
    have HA : Hid (pm + 3 < A) := hide (by rw [← hA]; exact HZ4.out)
    refine wpIn_rangeFunc_z hro (by omega) (gf := 104) (fs := #[]) (lb := #[.pointer (some ⟨pm + 1, 0, none⟩), .pointer (some ⟨pm + 2, 0, none⟩), .pointer (some ⟨pm + 3, 0, none⟩), .pointer (some ⟨pm, 0, none⟩)]) rfl (hF _) (enters_of Tryd.func104 (by kernel_rfl) rfl) hst (Below.refl _ _) (fun _ => rfl)
      (fun _ pre W => NxI w W g m d 0 0 ∧ DyB W pm m (num - 1 + 15 + max 0 (q / m.ln - 3) / 30 * 30) 1000000 30 ∧ ∀ x ∈ pre, ¬ d ≤ (flF m x).1)
      (fun c pre W => c = .ret ∧ ∃ x pre0, pre = pre0 ++ [x] ∧ (∀ y ∈ pre0, ¬ d ≤ (flF m y).1) ∧ d ≤ (flF m x).1 ∧ NxI w W g m d (flF m x).1 0) ?hZ ?hI0 ?hI ?hIx
      (fun M x a' W => ∃ g14, a' = { tmps := #[.agg #[.int .i64 m.ln, .int .i64 m.per, .int .i64 m.ph], .int .i64 d, .bool true, .int .i64 num, .pointer (some ⟨g, 0, none⟩), .pointer (some ⟨g + 1, 0, none⟩), undef, undef, .pointer (some ⟨g + 2, 0, none⟩), .pointer (some ⟨g + 3, 0, none⟩), .int .i64 0, .int .i64 (num - 1 + 15), .int .i64 (max 0 (q / m.ln - 3)), undef, .pointer (some ⟨g14, 0, none⟩), .agg #[.int .i64 m.ln, .int .i64 m.per, .int .i64 m.ph], .int .i64 0, .int .i64 0, .bool false, undef, .int .i64 d, .bool true, .bool false, .bool false, .int .i64 num, .bool (decide (num < 1)), .bool (decide (num < 1)), .bool (decide (num < 1)), .int .i64 num, .bool (decide (15 < num)), .bool (decide (num < 1) || decide (15 < num)), .int .i64 num, .int .i64 (num - 1), .bool true, .int .i64 (num - 1), .int .i64 (num - 1 + 15), .int .i64 d, .pointer (some ⟨g, 1, none⟩), .int .i64 m.per, .int .i64 q, .pointer (some ⟨g, 0, none⟩), .int .i64 m.ln, .int .i64 (q / m.ln), .int .i64 (q / m.ln - 3), .int .i64 (max 0 (q / m.ln - 3)), .agg #[.int .i64 m.ln, .int .i64 m.per, .int .i64 m.ph], .agg #[.int .i64 m.ln, .int .i64 m.per, .int .i64 m.ph], .int .i64 (num - 1 + 15), .int .i64 (max 0 (q / m.ln - 3)), .int .i64 (max 0 (q / m.ln - 3) / 30), .int .i64 (max 0 (q / m.ln - 3) / 30 * 30), .int .i64 (num - 1 + 15 + max 0 (q / m.ln - 3) / 30 * 30), .func (.func 104) #[] #[.pointer (some ⟨pm + 1, 0, none⟩), .pointer (some ⟨pm + 2, 0, none⟩), .pointer (some ⟨pm + 3, 0, none⟩), .pointer (some ⟨pm, 0, none⟩)], .int .i64 x, .agg #[.int .i64 (flF m x).1, .int .i64 (flF m x).2], undef, undef, undef, undef, undef, undef], defers := [] } ∧ M ≤ g14 ∧ Blk W g14 124 #[.int .i64 (flF m x).1, .int .i64 (flF m x).2])
      ?hAx ?hassign ?hbody ?hdone ?hstop
    case hZ =>
      rintro M pre W ⟨h1, h2, h3⟩
      exact h2.z
    case hI0 =>
      intro W1 h1 _
      exact ⟨I4.out.ext h1, DB.out.ext h1, fun x hx => by cases hx⟩
    case hI =>
      rintro M pre W1 W2 ⟨h1, h2, h3⟩ ho
      rw [hA] at ho
      have e1 := HA.out
      have e2 := HLT.out
      have e3 : w.heap.size ≤ g := Nat.le_of_eq HG.out.symm
      exact ⟨h1.out ho (by omega) (by omega), h2.out ho (by omega), h3⟩
    case hIx =>
      rintro c pre W1 W2 ⟨rfl, x, p0, h1, h2, h3, h4⟩ ho
      rw [hA] at ho
      have e1 := HA.out
      have e2 := HLT.out
      have e3 : w.heap.size ≤ g := Nat.le_of_eq HG.out.symm
      exact ⟨rfl, x, p0, h1, h2, h3, h4.out ho (by omega) (by omega)⟩
    case hAx =>
      rintro M x a' W1 W2 ⟨g14, rfl, h1, h2⟩ ho
      exact ⟨g14, rfl, h1, ho.blk h2 (by omega)⟩
    case hassign =>
      intro l M pre x W K hMW hI hK
      have HK2 := hide hK
      clear hK
      unfold dyE
      gi_wp2_with fail
      have hbn : Below W.heap.size W (W.alloc (.cells #[.int .i64 (flF m x).1, .int .i64 (flF m x).2] 124)) := (Below.refl _ _).alloc (Nat.le_refl _) _
      refine HK2.out _ _ (KeepB.of_below hbn hMW) ⟨hI.1.ext hbn, hI.2.1.ext hbn, hI.2.2⟩ ⟨W.heap.size, rfl, hMW, ?_⟩
      exact Blk.new W _ _
    case hbody =>
      rintro l M pre x a' W hM2 hMW hpre ⟨hS, h5, h6⟩ ⟨g14, rfl, hg14, hk14⟩
      rw [hA] at hM2
      obtain ⟨y0, y1, y2, y3⟩ := blk2 hk14
      obtain ⟨fd, hfd⟩ : ∃ f, (flF m x).1 = f := ⟨_, rfl⟩
      obtain ⟨fh, hfh⟩ : ∃ f, (flF m x).2 = f := ⟨_, rfl⟩
      rw [hfd] at y1
      rw [hfd, hfh]
      have HFD := hide hfd
      have HS := hide hS
      have H5 := hide h5
      have H6 := hide h6
      have e1 := HA.out
      have e2 := HLT.out
      have e3 : w.heap.size ≤ g := Nat.le_of_eq HG.out.symm
      obtain ⟨z0, c0, c1, c2, f0⟩ := blk3 HS.out.bm
      obtain ⟨z1, c3, f1⟩ := blk1 HS.out.bd
      obtain ⟨z2, c4, f2⟩ := blk1 HS.out.k8
      obtain ⟨z3, c5, f3⟩ := blk1 HS.out.k9
      clear hfd hfh hS h5 h6 hpre hst
      by_cases hle : d ≤ fd
      · have hSS := HS.out.set (Nat.le_of_eq HG.out.symm) fd 0
        have hKB : KeepB A M W ((W.setCell ⟨g + 2, 0, none⟩ (.int .i64 fd)).setCell ⟨g + 3, 0, none⟩ (.int .i64 0)) := (KeepB.set W (by omega) 0 _).trans (KeepB.set _ (by omega) 0 _)
        have HSS := hide hSS
        have HKB := hide hKB
        clear hSS hKB
        gi_wp2_with fail
        refine ⟨by first | exact HKB.out | (rw [hA]; exact HKB.out), rfl, x, pre, rfl, H6.out, by rw [HFD.out]; exact hle, by rw [HFD.out]; exact HSS.out⟩
      · gi_wp2_with fail
        refine ⟨KeepB.refl _ _ _, HS.out, H5.out, fun y hy => ?_⟩
        rcases List.mem_append.1 hy with h | h
        · exact H6.out y h
        · rw [List.mem_singleton] at h
          rw [h, HFD.out]
          exact hle
    case hdone =>
      rintro D M W hD ⟨hS, h5, h6⟩ hK
      rw [hA] at hD
      have e1 := HA.out
      have e2 := HLT.out
      have e3 : w.heap.size ≤ g := Nat.le_of_eq HG.out.symm
      have hR : RR = (0, 7) := by
        rw [← HRR.out]
        unfold nxO
        rw [List.find?_eq_none.2 (fun x hx => by simpa using h6 x hx)]
      have HS := hide hS
      have HSS := hide (hS.set (Nat.le_of_eq HG.out.symm) 0 7)
      have HK : Hid (((W.setCell ⟨g + 2, 0, none⟩ (.int .i64 0)).setCell ⟨g + 3, 0, none⟩ (.int .i64 7)).heap[D]? = some (.deferred (some []))) := hide ((Below.heap_setCell _ _ _ D (by dsimp only; omega)).trans ((Below.heap_setCell _ _ _ D (by dsimp only; omega)).trans hK))
      obtain ⟨z0, c0, c1, c2, f0⟩ := blk3 HS.out.bm
      obtain ⟨z1, c3, f1⟩ := blk1 HS.out.bd
      obtain ⟨z2, c4, f2⟩ := blk1 HS.out.k8
      obtain ⟨z3, c5, f3⟩ := blk1 HS.out.k9
      have HRE := hide hR
      clear hS h5 h6 hK hst hR
      gi_wp2_with fail
      refine ⟨by simp, .inl ⟨_, _, rfl, run_takeDeferred HK.out, ?_⟩⟩
      have hS2 := HSS.out.out (OutK.putObj ((W.setCell ⟨g + 2, 0, none⟩ (.int .i64 0)).setCell ⟨g + 3, 0, none⟩ (.int .i64 7)) (a := D) (b := D + 1) (g := D) (Nat.le_refl _) (by omega) (.deferred none)) (by omega) (by omega)
      obtain ⟨-, r8, -⟩ := blk1 hS2.k8
      obtain ⟨-, r9, -⟩ := blk1 hS2.k9
      refine ⟨.tuple #[.int .i64 0, .int .i64 7], by simp [results, Tryd.results39, go_sem, r8, r9], ?_⟩
      exact ⟨by rw [HRE.out], hS2.low⟩
    case hstop =>
      rintro D c pre W hD hSp ⟨rfl, x, p0, rfl, h2, h3, h4⟩ hK
      rw [hA] at hD
      have e1 := HA.out
      have e2 := HLT.out
      have e3 : w.heap.size ≤ g := Nat.le_of_eq HG.out.symm
      have hR : RR = ((flF m x).1, 0) := by
        rw [← HRR.out]
        unfold nxO
        rw [find_pre hSp (fun y hy => by simpa using h2 y hy) (by simpa using h3)]
      have HRE := hide hR
      have H4 := hide h4
      clear hR h2 h3 h4 hst hSp
      gi_wp2_with fail
      refine ⟨by simp, .inl ⟨_, _, rfl, run_takeDeferred hK, ?_⟩⟩
      have hS2 := H4.out.out (OutK.putObj W (a := D) (b := D + 1) (g := D) (Nat.le_refl _) (by omega) (.deferred none)) (by omega) (by omega)
      obtain ⟨-, r8, -⟩ := blk1 hS2.k8
      obtain ⟨-, r9, -⟩ := blk1 hS2.k9
      refine ⟨.tuple #[.int .i64 (flF m x).1, .int .i64 0], by simp [results, Tryd.results39, go_sem, r8, r9], ?_⟩
      exact ⟨by rw [HRE.out], hS2.low⟩
  | false =>
    rw [if_neg Bool.false_ne_true] at hst
    subst hst
    (try dsimp only)
    (repeat (first | go_values | gi_guarded | gi_step | gi_upon))
    (with_reducible refine (hwd (HDF.out _ _)).mono ?_)
    rintro e w4 ⟨rfl, hdb, hb, hz⟩
    have I4 := hide (I2.out.ext hb)
    obtain ⟨pm, hpm⟩ : ∃ pm, w2.heap.size = pm := ⟨_, rfl⟩
    rw [hpm] at hdb hz HLT ⊢
    have DB := hide hdb
    have HZ4 := hide hz
    clear hb hdb hz hpm I2 I1 HC HT HDF
    clear z0 c0 c1 c2 f0 z1 c3 f1 z2 c4 f2 z3 c5 f3
    (try dsimp only)
    (repeat (first | go_values | gi_guarded | gi_step | gi_upon))
    have hst := HSEQ.out (pm + 1) (pm + 2) (pm + 3) pm w4
    clear HSEQ
    obtain ⟨A, hA⟩ : ∃ A, w4.heap.size = A := ⟨_, rfl⟩
    have HA : Hid (pm + 3 < A) := hide (by rw [← hA]; exact HZ4.out)
    refine wpIn_rangeFunc_z hro (by omega) (gf := 104) (fs := #[]) (lb := #[.pointer (some ⟨pm + 1, 0, none⟩), .pointer (some ⟨pm + 2, 0, none⟩), .pointer (some ⟨pm + 3, 0, none⟩), .pointer (some ⟨pm, 0, none⟩)]) rfl (hF _) (enters_of Tryd.func104 (by kernel_rfl) rfl) hst (Below.refl _ _) (fun _ => rfl)
      (fun _ pre W => NxI w W g m d 0 0 ∧ DyB W pm m (num - 1 + max 0 (q / m.ln - 3) / 30 * 30) 1000000 30 ∧ ∀ x ∈ pre, ¬ d ≤ (flF m x).1)
      (fun c pre W => c = .ret ∧ ∃ x pre0, pre = pre0 ++ [x] ∧ (∀ y ∈ pre0, ¬ d ≤ (flF m y).1) ∧ d ≤ (flF m x).1 ∧ NxI w W g m d (flF m x).1 0) ?hZ ?hI0 ?hI ?hIx
      (fun M x a' W => ∃ g14, a' = { tmps := #[.agg #[.int .i64 m.ln, .int .i64 m.per, .int .i64 m.ph], .int .i64 d, .bool false, .int .i64 num, .pointer (some ⟨g, 0, none⟩), .pointer (some ⟨g + 1, 0, none⟩), undef, undef, .pointer (some ⟨g + 2, 0, none⟩), .pointer (some ⟨g + 3, 0, none⟩), .int .i64 0, .int .i64 (num - 1), .int .i64 (max 0 (q / m.ln - 3)), undef, .pointer (some ⟨g14, 0, none⟩), .agg #[.int .i64 m.ln, .int .i64 m.per, .int .i64 m.ph], .int .i64 0, .int .i64 0, .bool false, undef, .int .i64 d, .bool true, .bool false, .bool false, .int .i64 num, .bool (decide (num < 1)), .bool (decide (num < 1)), .bool (decide (num < 1)), .int .i64 num, .bool (decide (15 < num)), .bool (decide (num < 1) || decide (15 < num)), .int .i64 num, .int .i64 (num - 1), .bool false, undef, undef, .int .i64 d, .pointer (some ⟨g, 1, none⟩), .int .i64 m.per, .int .i64 q, .pointer (some ⟨g, 0, none⟩), .int .i64 m.ln, .int .i64 (q / m.ln), .int .i64 (q / m.ln - 3), .int .i64 (max 0 (q / m.ln - 3)), .agg #[.int .i64 m.ln, .int .i64 m.per, .int .i64 m.ph], .agg #[.int .i64 m.ln, .int .i64 m.per, .int .i64 m.ph], .int .i64 (num - 1), .int .i64 (max 0 (q / m.ln - 3)), .int .i64 (max 0 (q / m.ln - 3) / 30), .int .i64 (max 0 (q / m.ln - 3) / 30 * 30), .int .i64 (num - 1 + max 0 (q / m.ln - 3) / 30 * 30), .func (.func 104) #[] #[.pointer (some ⟨pm + 1, 0, none⟩), .pointer (some ⟨pm + 2, 0, none⟩), .pointer (some ⟨pm + 3, 0, none⟩), .pointer (some ⟨pm, 0, none⟩)], .int .i64 x, .agg #[.int .i64 (flF m x).1, .int .i64 (flF m x).2], undef, undef, undef, undef, undef, undef], defers := [] } ∧ M ≤ g14 ∧ Blk W g14 124 #[.int .i64 (flF m x).1, .int .i64 (flF m x).2])
      ?hAx ?hassign ?hbody ?hdone ?hstop
    case hZ =>
      rintro M pre W ⟨h1, h2, h3⟩
      exact h2.z
    case hI0 =>
      intro W1 h1 _
      exact ⟨I4.out.ext h1, DB.out.ext h1, fun x hx => by cases hx⟩
    case hI =>
      rintro M pre W1 W2 ⟨h1, h2, h3⟩ ho
      rw [hA] at ho
      have e1 := HA.out
      have e2 := HLT.out
      have e3 : w.heap.size ≤ g := Nat.le_of_eq HG.out.symm
      exact ⟨h1.out ho (by omega) (by omega), h2.out ho (by omega), h3⟩
    case hIx =>
      rintro c pre W1 W2 ⟨rfl, x, p0, h1, h2, h3, h4⟩ ho
      rw [hA] at ho
      have e1 := HA.out
      have e2 := HLT.out
      have e3 : w.heap.size ≤ g := Nat.le_of_eq HG.out.symm
      exact ⟨rfl, x, p0, h1, h2, h3, h4.out ho (by omega) (by omega)⟩
    case hAx =>
      rintro M x a' W1 W2 ⟨g14, rfl, h1, h2⟩ ho
      exact ⟨g14, rfl, h1, ho.blk h2 (by omega)⟩
    case hassign =>
      intro l M pre x W K hMW hI hK
      have HK2 := hide hK
      clear hK
      unfold dyE
      gi_wp2_with fail
      have hbn : Below W.heap.size W (W.alloc (.cells #[.int .i64 (flF m x).1, .int .i64 (flF m x).2] 124)) := (Below.refl _ _).alloc (Nat.le_refl _) _
      refine HK2.out _ _ (KeepB.of_below hbn hMW) ⟨hI.1.ext hbn, hI.2.1.ext hbn, hI.2.2⟩ ⟨W.heap.size, rfl, hMW, ?_⟩
      exact Blk.new W _ _
    case hbody =>
      rintro l M pre x a' W hM2 hMW hpre ⟨hS, h5, h6⟩ ⟨g14, rfl, hg14, hk14⟩
      rw [hA] at hM2
      obtain ⟨y0, y1, y2, y3⟩ := blk2 hk14
      obtain ⟨fd, hfd⟩ : ∃ f, (flF m x).1 = f := ⟨_, rfl⟩
      obtain ⟨fh, hfh⟩ : ∃ f, (flF m x).2 = f := ⟨_, rfl⟩
      rw [hfd] at y1
      rw [hfd, hfh]
      have HFD := hide hfd
      have HS := hide hS
      have H5 := hide h5
      have H6 := hide h6
      have e1 := HA.out
      have e2 := HLT.out
      have e3 : w.heap.size ≤ g := Nat.le_of_eq HG.out.symm
      obtain ⟨z0, c0, c1, c2, f0⟩ := blk3 HS.out.bm
      obtain ⟨z1, c3, f1⟩ := blk1 HS.out.bd
      obtain ⟨z2, c4, f2⟩ := blk1 HS.out.k8
      obtain ⟨z3, c5, f3⟩ := blk1 HS.out.k9
      clear hfd hfh hS h5 h6 hpre hst
      by_cases hle : d ≤ fd
      · have hSS := HS.out.set (Nat.le_of_eq HG.out.symm) fd 0
        have hKB : KeepB A M W ((W.setCell ⟨g + 2, 0, none⟩ (.int .i64 fd)).setCell ⟨g + 3, 0, none⟩ (.int .i64 0)) := (KeepB.set W (by omega) 0 _).trans (KeepB.set _ (by omega) 0 _)
        have HSS := hide hSS
        have HKB := hide hKB
        clear hSS hKB
        gi_wp2_with fail
        refine ⟨by first | exact HKB.out | (rw [hA]; exact HKB.out), rfl, x, pre, rfl, H6.out, by rw [HFD.out]; exact hle, by rw [HFD.out]; exact HSS.out⟩
      · gi_wp2_with fail
        refine ⟨KeepB.refl _ _ _, HS.out, H5.out, fun y hy => ?_⟩
        rcases List.mem_append.1 hy with h | h
        · exact H6.out y h
        · rw [List.mem_singleton] at h
          rw [h, HFD.out]
          exact hle
    case hdone =>
      rintro D M W hD ⟨hS, h5, h6⟩ hK
      rw [hA] at hD
      have e1 := HA.out
      have e2 := HLT.out
      have e3 : w.heap.size ≤ g := Nat.le_of_eq HG.out.symm
      have hR : RR = (0, 7) := by
        rw [← HRR.out]
        unfold nxO
        rw [List.find?_eq_none.2 (fun x hx => by simpa using h6 x hx)]
      have HS := hide hS
      have HSS := hide (hS.set (Nat.le_of_eq HG.out.symm) 0 7)
      have HK : Hid (((W.setCell ⟨g + 2, 0, none⟩ (.int .i64 0)).setCell ⟨g + 3, 0, none⟩ (.int .i64 7)).heap[D]? = some (.deferred (some []))) := hide ((Below.heap_setCell _ _ _ D (by dsimp only; omega)).trans ((Below.heap_setCell _ _ _ D (by dsimp only; omega)).trans hK))
      obtain ⟨z0, c0, c1, c2, f0⟩ := blk3 HS.out.bm
      obtain ⟨z1, c3, f1⟩ := blk1 HS.out.bd
      obtain ⟨z2, c4, f2⟩ := blk1 HS.out.k8
      obtain ⟨z3, c5, f3⟩ := blk1 HS.out.k9
      have HRE := hide hR
      clear hS h5 h6 hK hst hR
      gi_wp2_with fail
      refine ⟨by simp, .inl ⟨_, _, rfl, run_takeDeferred HK.out, ?_⟩⟩
      have hS2 := HSS.out.out (OutK.putObj ((W.setCell ⟨g + 2, 0, none⟩ (.int .i64 0)).setCell ⟨g + 3, 0, none⟩ (.int .i64 7)) (a := D) (b := D + 1) (g := D) (Nat.le_refl _) (by omega) (.deferred none)) (by omega) (by omega)
      obtain ⟨-, r8, -⟩ := blk1 hS2.k8
      obtain ⟨-, r9, -⟩ := blk1 hS2.k9
      refine ⟨.tuple #[.int .i64 0, .int .i64 7], by simp [results, Tryd.results39, go_sem, r8, r9], ?_⟩
      exact ⟨by rw [HRE.out], hS2.low⟩
    case hstop =>
      rintro D c pre W hD hSp ⟨rfl, x, p0, rfl, h2, h3, h4⟩ hK
      rw [hA] at hD
      have e1 := HA.out
      have e2 := HLT.out
      have e3 : w.heap.size ≤ g := Nat.le_of_eq HG.out.symm
      have hR : RR = ((flF m x).1, 0) := by
        rw [← HRR.out]
        unfold nxO
        rw [find_pre hSp (fun y hy => by simpa using h2 y hy) (by simpa using h3)]
      have HRE := hide hR
      have H4 := hide h4
      clear hR h2 h3 h4 hst hSp
      gi_wp2_with fail
      refine ⟨by simp, .inl ⟨_, _, rfl, run_takeDeferred hK, ?_⟩⟩
      have hS2 := H4.out.out (OutK.putObj W (a := D) (b := D + 1) (g := D) (Nat.le_refl _) (by omega) (.deferred none)) (by omega) (by omega)
      obtain ⟨-, r8, -⟩ := blk1 hS2.k8
      obtain ⟨-, r9, -⟩ := blk1 hS2.k9
      refine ⟨.tuple #[.int .i64 (flF m x).1, .int .i64 0], by simp [results, Tryd.results39, go_sem, r8, r9], ?_⟩
      exact ⟨by rw [HRE.out], hS2.low⟩
end Go.Proofs.YtlkkkgpcjdemdaaDoor
/- Song, plain: from one sunrise to the next. -/
namespace Go.Proofs.YtlkkkgpcjdemdaaDoor
open Go Go.RowKit Go.Shelf
set_option maxHeartbeats 2000000
set_option maxRecDepth 100000
theorem sr_next {m : Mo} (hm : m.ok) {d : Int} (hs : 0 ≤ snF m d) : 0 ≤ snF m (d + 1) ∧ 0 ≤ curF m d ∧ curF m d ≤ curF m (d + 1) ∧ curF m (d + 1) ≤ curF m d + 2 ∧ ahF m (curF m d) ≤ d ∧ d < ahF m (curF m d + 1) := by
  have h1 : 0 ≤ curF m d := by unfold curF; exact Int.ediv_nonneg hs (by have := hm.2.2.1; omega)
  have h2 := (ah_cur hm (curF m d) d).2 (Int.le_refl _)
  have h3 : d < ahF m (curF m d + 1) := by
    have := ah_cur hm (curF m d + 1) d
    omega
  have h4 := (ah_cur hm (curF m d) (d + 1)).1 (by omega)
  have h5 : 0 ≤ snF m (d + 1) := by unfold snF at *; rw [Int.add_mul]; have := hm.1; omega
  refine ⟨h5, h1, h4, ?_, h2, h3⟩
  have h6 := ah_far hm (show curF m d + 1 + 2 ≤ curF m d + 3 by omega)
  have h7 := ah_cur hm (curF m d + 3) (d + 1)
  omega
theorem sr_pass {m : Mo} (hm : m.ok) {d i : Int} (h1 : curF m d < i) (h2 : i < curF m (d + 1)) : flF m i = (d, 3) := by
  have h3 := ah_cur hm i d
  have h4 := (ah_cur hm (i + 1) (d + 1)).2 (by omega)
  have h5 := ah_mono hm (show i ≤ i + 1 by omega)
  exact fl_never (by omega) (by omega)
theorem hw_two {m : Mo} (hm : m.ok) (hl : m.ln ≤ m.per) (l : List Int) : hwL m 2 l = [] := by
  unfold hwL
  rw [List.filter_eq_nil_iff]
  intro x _
  have := ah_one hm hl x
  have h2 := ah_mono hm (show x ≤ x + 1 by omega)
  unfold flF
  rw [decide_eq_true_iff]
  split
  · dsimp only; omega
  · split
    · dsimp only; omega
    · omega
theorem hw_three {m : Mo} (hm : m.ok) (hl : m.per ≤ m.ln) (l : List Int) : hwL m 3 l = [] := by
  unfold hwL
  rw [List.filter_eq_nil_iff]
  intro x _
  have := ah_some hm hl x
  unfold flF
  rw [decide_eq_true_iff, if_neg (by omega)]
  split <;> (dsimp only; omega)
theorem odR_of {m : Mo} (hm : m.ok) {n : Int} (h0 : 0 ≤ n) (h1 : n ≤ 999997) : odR m n (n + 3) = (hwL m 3 (dyL n (n + 3) 1), hwL m 2 (dyL n (n + 3) 1), 0) := by
  unfold odR
  rw [if_pos hm, if_pos ⟨tm_iff.2 ⟨h0, by omega⟩, tm_iff.2 ⟨by omega, by omega⟩, by omega, by omega⟩]
  rfl
theorem fsF_of {m : Mo} (hm : m.ok) {n : Int} (h0 : 0 ≤ n) (h1 : n ≤ 1000000) : fsF m n = ((flF m n).1, (flF m n).2, 0) := by
  unfold fsF
  rw [if_pos hm, if_pos (tm_iff.2 ⟨h0, h1⟩)]
theorem nx_back {m : Mo} (hm : m.ok) {n : Int} (h0 : 0 ≤ n) (h1 : n ≤ 1000000) (ho : ahF m n ≤ 1000000) (hf : (flF m n).1 = ahF m n) (hc : curF m (ahF m n) = n) : nxR m (ahF m n) (n / 15 % 2 == 1) (n % 15 + 1) = (ahF m n, 0) := by
  have hlo : 0 ≤ ahF m n := by
    have := ah_lo hm h0 (by omega)
    exact this
  have hsn : 0 ≤ snF m (ahF m n) := by
    have h2 := (ah_le hm n (ahF m n)).1 (Int.le_refl _)
    have := Int.mul_nonneg h0 (show 0 ≤ m.ln by have := hm.2.2.1; omega)
    unfold snF; omega
  have he := er_cur hm hsn
  rw [hc] at he
  have he0 : 0 ≤ erF m (ahF m n) := by unfold erF; omega
  unfold nxR
  rw [if_pos hm, if_pos ⟨tm_iff.2 ⟨hlo, ho⟩, by omega, by omega⟩]
  have hst : nxS m (ahF m n) (n / 15 % 2 == 1) (n % 15 + 1) = n % 30 + erF m (ahF m n) / 30 * 30 := by
    unfold nxS
    by_cases hd : n / 15 % 2 = 1
    · rw [if_pos (by rw [hd]; rfl)]; omega
    · rw [if_neg (by simpa using hd)]; omega
  rw [hst]
  generalize erF m (ahF m n) = e at *
  obtain ⟨j, hj⟩ := Int.eq_ofNat_of_zero_le (show 0 ≤ n / 30 - e / 30 by omega)
  have hn : n % 30 + e / 30 * 30 + 30 * (j : Int) = n := by omega
  have hpre : dyP (n % 30 + e / 30 * 30) 30 j ++ [n] <+: dyL (n % 30 + e / 30 * 30) 1000000 30 := by
    have h5 : j < dyN (n % 30 + e / 30 * 30) 1000000 30 := (dyN_lt (by omega) j).2 (by omega)
    have h6 := dyP_pre (n % 30 + e / 30 * 30) 30 (j + 1) (dyN (n % 30 + e / 30 * 30) 1000000 30 - (j + 1))
    rw [dyP_succ, hn, show j + 1 + (dyN (n % 30 + e / 30 * 30) 1000000 30 - (j + 1)) = dyN (n % 30 + e / 30 * 30) 1000000 30 by omega] at h6
    exact h6
  unfold nxO
  rw [find_pre hpre (fun y hy => ?_) (by rw [hf]; simp)]
  · dsimp only
    rw [hf]
  · unfold dyP at hy
    obtain ⟨i, hi, rfl⟩ := List.mem_map.1 hy
    have hi := List.mem_range.1 hi
    rw [decide_eq_false_iff_not]
    have h7 := fl_le (m := m) (n % 30 + e / 30 * 30 + 30 * (i : Int))
    have h8 := ah_far hm (show n % 30 + e / 30 * 30 + 30 * (i : Int) + 2 ≤ n by omega)
    omega
end Go.Proofs.YtlkkkgpcjdemdaaDoor
/- Song, plain: the reference looks at all lunar days from the first on. -/
namespace Go.Proofs.YtlkkkgpcjdemdaaDoor
open Go Go.RowKit Go.Shelf
set_option maxHeartbeats 2000000
set_option maxRecDepth 100000
theorem dyP_add (f s : Int) (a b : Nat) : dyP f s (a + b) = dyP f s a ++ dyP (f + s * (a : Int)) s b := by
  unfold dyP
  rw [List.range_add, List.map_append, List.map_map]
  congr 1
  refine List.map_congr_left (fun i _ => ?_)
  show f + s * ((a + i : Nat) : Int) = f + s * (a : Int) + s * (i : Int)
  rw [Int.natCast_add, Int.mul_add, Int.add_assoc]
theorem find_none' {α : Type} {P : α → Bool} {l : List α} (h : ∀ y ∈ l, P y = false) : l.find? P = none := List.find?_eq_none.2 (fun y hy => by rw [h y hy]; exact Bool.false_ne_true)
/-- a beginning that fails does not matter -/
theorem find_skip (P : Int → Bool) (f t : Int) (j : Nat) (h : ∀ i : Nat, i < j → P (f + 30 * (i : Int)) = false) : (dyL f t 30).find? P = (dyL (f + 30 * (j : Int)) t 30).find? P := by
  have hj : ∀ k, k ≤ j → ∀ y ∈ dyP f 30 k, P y = false := fun k hk y hy => by
    unfold dyP at hy
    obtain ⟨i, hi, rfl⟩ := List.mem_map.1 hy
    exact h i (by have := List.mem_range.1 hi; omega)
  unfold dyL
  obtain ⟨N, hN⟩ : ∃ N, dyN f t 30 = N := ⟨_, rfl⟩
  have hN2 : dyN (f + 30 * (j : Int)) t 30 = N - j := by rw [← hN]; unfold dyN; omega
  rw [hN, hN2]
  by_cases hle : j ≤ N
  · obtain ⟨b, rfl⟩ : ∃ b, N = j + b := ⟨N - j, by omega⟩
    rw [dyP_add, List.find?_append, find_none' (hj j (Nat.le_refl _)), show j + b - j = b by omega]
    rfl
  · rw [find_none' (hj N (by omega)), show N - j = 0 by omega]
    rfl
/-- the first of such lunar days -/
def nxB (dark : Bool) (num : Int) : Int := if dark then num - 1 + 15 else num - 1
theorem nx_ref {m : Mo} (hm : m.ok) {d : Int} {dark : Bool} {num : Int} (h1 : 1 ≤ num) : nxO m d (dyL (nxS m d dark num) 1000000 30) = nxO m d (dyL (nxB dark num) 1000000 30) ∨ 15 < num := by
  rcases (by omega : num ≤ 15 ∨ 15 < num) with h2 | h2
  · left
    have he0 : 0 ≤ erF m d := by unfold erF; omega
    obtain ⟨j, hj⟩ := Int.eq_ofNat_of_zero_le (show 0 ≤ erF m d / 30 by omega)
    have hs : nxS m d dark num = nxB dark num + 30 * (j : Int) := by
      unfold nxS nxB
      rw [hj]
      split <;> omega
    have hb : 0 ≤ nxB dark num ∧ nxB dark num ≤ 29 := by unfold nxB; split <;> omega
    unfold nxO
    rw [hs, find_skip (fun x => decide (d ≤ (flF m x).1)) (nxB dark num) 1000000 j (fun i hi => by
      rw [decide_eq_false_iff_not]
      have := er_early hm (d := d) (i := nxB dark num + 30 * (i : Int)) (by omega) (by omega)
      omega)]
  · exact .inr h2
/-- what the reference's loop knows behind j rounds -/
def RfI (m : Mo) (d b : Int) (j : Nat) (want : Int) (found : Bool) : Prop :=
  if found then ∃ i : Nat, j = i + 1 ∧ b + 30 * (i : Int) ≤ 1000000 ∧ (∀ k : Nat, k < i → (flF m (b + 30 * (k : Int))).1 < d) ∧ d ≤ (flF m (b + 30 * (i : Int))).1 ∧ want = (flF m (b + 30 * (i : Int))).1
  else ∀ k : Nat, k < j → (flF m (b + 30 * (k : Int))).1 < d
theorem RfI.zero (m : Mo) (d b : Int) : RfI m d b 0 0 false := fun k h => by omega
theorem RfI.step {m : Mo} {d b w : Int} {j : Nat} (h : RfI m d b j w false) (hb : b + 30 * (j : Int) ≤ 1000000) : RfI m d b (j + 1) (flF m (b + 30 * (j : Int))).1 (decide (d ≤ (flF m (b + 30 * (j : Int))).1)) := by
  have h' : ∀ k : Nat, k < j → (flF m (b + 30 * (k : Int))).1 < d := h
  unfold RfI
  by_cases hd : d ≤ (flF m (b + 30 * (j : Int))).1
  · rw [if_pos (by simpa using hd)]
    exact ⟨j, rfl, hb, h', hd, rfl⟩
  · rw [if_neg (by simpa using hd)]
    intro k hk
    rcases (by omega : k < j ∨ k = j) with h1 | rfl
    · exact h' k h1
    · omega
theorem RfI.yes {m : Mo} {d b w : Int} {j : Nat} (h : RfI m d b j w true) : nxO m d (dyL b 1000000 30) = (w, 0) := by
  obtain ⟨i, -, hb, h1, h2, rfl⟩ : ∃ i : Nat, j = i + 1 ∧ b + 30 * (i : Int) ≤ 1000000 ∧ (∀ k : Nat, k < i → (flF m (b + 30 * (k : Int))).1 < d) ∧ d ≤ (flF m (b + 30 * (i : Int))).1 ∧ w = (flF m (b + 30 * (i : Int))).1 := h
  have h5 : i < dyN b 1000000 30 := (dyN_lt (by omega) i).2 hb
  have hpre : dyP b 30 i ++ [b + 30 * (i : Int)] <+: dyL b 1000000 30 := by
    have h6 := dyP_pre b 30 (i + 1) (dyN b 1000000 30 - (i + 1))
    rw [dyP_succ, show i + 1 + (dyN b 1000000 30 - (i + 1)) = dyN b 1000000 30 by omega] at h6
    exact h6
  unfold nxO
  rw [find_pre hpre (fun y hy => ?_) (by simpa using h2)]
  unfold dyP at hy
  obtain ⟨k, hk, rfl⟩ := List.mem_map.1 hy
  have := h1 k (List.mem_range.1 hk)
  rw [decide_eq_false_iff_not]
  omega
theorem RfI.no {m : Mo} {d b w : Int} {j : Nat} (h : RfI m d b j w false) (hb : 1000000 < b + 30 * (j : Int)) : nxO m d (dyL b 1000000 30) = (0, 7) := by
  have h' : ∀ k : Nat, k < j → (flF m (b + 30 * (k : Int))).1 < d := h
  have h5 : ¬ j < dyN b 1000000 30 := fun h => by have := (dyN_lt (by omega) j).1 h; omega
  unfold nxO
  rw [find_none' (fun y hy => ?_)]
  unfold dyL dyP at hy
  obtain ⟨k, hk, rfl⟩ := List.mem_map.1 hy
  have := h' k (by have := List.mem_range.1 hk; omega)
  rw [decide_eq_false_iff_not]
  omega
theorem OwnJ.lowS {W : World} {n0 n1 : Nat} {v : Value} {l : List Int} (h : OwnJ W n0 v l) (hb : n1 ≤ n0) : OwnJ W n1 v l := ⟨h.1, h.2.imp id fun ⟨g, cap, cur, h1, h2, h3⟩ => ⟨g, cap, cur, h1, Nat.le_trans hb h2, h3⟩⟩
/-- two lists in the making, apart -/
structure TwL (W0 W : World) (v1 v2 : Value) (l1 l2 : List Int) : Prop where
  b : Below W0.heap.size W0 W
  o1 : OwnJ W W0.heap.size v1 l1
  o2 : OwnJ W W0.heap.size v2 l2
  ne : ∀ b, v1.ownBlock = some b → v2.ownBlock ≠ some b
theorem TwL.swap {W0 W : World} {v1 v2 : Value} {l1 l2 : List Int} (h : TwL W0 W v1 v2 l1 l2) : TwL W0 W v2 v1 l2 l1 := ⟨h.b, h.o2, h.o1, fun b e1 e2 => h.ne b e2 e1⟩
theorem TwL.ext {W0 W W' : World} {v1 v2 : Value} {l1 l2 : List Int} (h : TwL W0 W v1 v2 l1 l2) (hb : Below W.heap.size W W') : TwL W0 W' v1 v2 l1 l2 := ⟨h.b.trans (hb.mono h.b.size), h.o1.ext hb, h.o2.ext hb, h.ne⟩
theorem TwL.push {W0 W : World} {v1 v2 : Value} {l1 l2 : List Int} (h : TwL W0 W v1 v2 l1 l2) (x : Int) (hl : l1.length ≤ 1000000) :
    ∃ v' w', (Builtin.append_ #[26, 26] 26 #[v1, .slice (some ⟨W.heap.size, 0, none⟩) 1 1]).run Tryd.prog (W.alloc (.cells #[.int .i64 x] 3)) = .ok v' w' ∧ TwL W0 w' v' v2 (l1 ++ [x]) l2 := by
  obtain ⟨v', w', hr, ho', hg', hv'⟩ := h.o1.push1 x hl h.b.size
  have hba : Below W.heap.size W (W.alloc (.cells #[.int .i64 x] 3)) := (Below.refl _ _).alloc (Nat.le_refl _) _
  have hob : ∀ k, v1.ownBlock = some k → W0.heap.size ≤ k := fun k e => by
    rcases h.o1.2 with ⟨rfl, -⟩ | ⟨g, cap, cur, rfl, h3, -⟩
    · cases e
    · injection e with e; subst e; exact h3
  have hk : ∀ k, k < W.heap.size → v1.ownBlock ≠ some k → w'.heap[k]? = W.heap[k]? := fun k hk e => (hg'.block k (Nat.lt_of_lt_of_le hk hba.size) (fun e2 => e e2.symm)).trans (hba.block k hk)
  refine ⟨v', w', hr, ⟨hg'.os.trans (hba.os.trans h.b.os), hg'.tape.trans (hba.tape.trans h.b.tape), hg'.output.trans (hba.output.trans h.b.output), Nat.le_trans h.b.size (Nat.le_trans hba.size hg'.size), fun k hk2 => (hk k (Nat.lt_of_lt_of_le hk2 h.b.size) (fun e => by have := hob k e; omega)).trans (h.b.block k hk2)⟩, ho',
    own_keep h.o2 (fun g e => hk g (own_lt' h.o2 e) (fun e2 => h.ne g e2 e)), fun b e e2 => ?_⟩
  rcases hv' with h8 | h8
  · rw [h8] at e; exact h.ne b e e2
  · rw [h8] at e
    injection e with e
    have := own_lt' h.o2 e2
    omega
theorem dyP_len (f s : Int) (k : Nat) : (dyP f s k).length = k := by unfold dyP; simp
/-- a list that is read, of its length -/
structure LiR (W : World) (A : Option Addr) (l : List Int) : Prop where
  r : LI W W.heap.size A l
theorem own_li {W : World} {base n c : Nat} {A : Option Addr} {l : List Int} (h : OwnJ W base (.slice A n c) l) : LiR W A l := ⟨h.li.2⟩
theorem LiR.ext {W W' : World} {A : Option Addr} {l : List Int} (h : LiR W A l) (hb : Below W.heap.size W W') : LiR W' A l := ⟨ER.more (ER.below h.r hb (Nat.le_refl _)) hb.size⟩
end Go.Proofs.YtlkkkgpcjdemdaaDoor
/- Song: the laws' comparison of lists, walked. -/
namespace Go.Proofs.YtlkkkgpcjdemdaaDoor
open Go Go.RowKit Go.Shelf
set_option maxHeartbeats 4000000
set_option maxRecDepth 100000
theorem lists_ne {l m : List Int} {k : Nat} (h : l.getD k 0 ≠ m.getD k 0) : l ≠ m := fun e => h (by rw [e])
theorem lsame_any (A B : Option Addr) (c1 c2 : Nat) (l m : List Int) (w : World) (hl : l.length ≤ maxLen) (hm : m.length ≤ maxLen) (hA : LI w w.heap.size A l) (hB : LI w w.heap.size B m) :
    Calls Tryd.prog 16 #[.slice A l.length c1, .slice B m.length c2] w fun e w' => e = .returned (.bool (decide (l = m))) ∧ Below w.heap.size w w' := by
  have HA := hide (fun W (h : Below w.heap.size w W) => (ER.below hA h (Nat.le_refl _) : LI W w.heap.size A l))
  have HB := hide (fun W (h : Below w.heap.size w W) => (ER.below hB h (Nat.le_refl _) : LI W w.heap.size B m))
  unfold maxLen at hl hm
  clear hA hB
  obtain ⟨R, hR⟩ : ∃ R : Ending, Ending.returned (.bool (decide (l = m))) = R := ⟨_, rfl⟩
  have HNO : Hid (l ≠ m → Ending.returned (.bool false) = R) := hide (fun h => by rw [← hR, decide_eq_false h])
  have HYE : Hid (l = m → Ending.returned (.bool true) = R) := hide (fun h => by rw [← hR, decide_eq_true h])
  rw [hR]
  clear hR
  by_cases hlen : l.length = m.length
  rotate_left
  · have hne : Ending.returned (.bool false) = R := HNO.out (fun e => hlen (by rw [e]))
    have hl2 : ¬ (l.length : Int) = (m.length : Int) := by omega
    generalize l.length = n1 at *
    generalize m.length = n2 at *
    clear HA HB HNO HYE hlen
    go_enter Tryd.func16, Tryd.ntmps16
    go_wp2_with fail
    go_ret
    exact ⟨hne, Below.refl _ _⟩
  obtain ⟨n, hn⟩ : ∃ n, l.length = n := ⟨_, rfl⟩
  have HN := hide hn
  have HN2 := hide (hlen.symm.trans hn)
  rw [← hlen, hn]
  rw [hn] at hl
  clear hm hlen hn
  go_enter Tryd.func16, Tryd.ntmps16
  go_wp2_with fail
  go_loopw [5] (fun i wr => ∃ k : Nat, k ≤ n ∧ i = .int .i64 k ∧ Hid (∀ j, j < k → l.getD j 0 = m.getD j 0) ∧ Hid (Below w.heap.size w wr)) (fun i _ => n - (intOf i).toNat)
  case atStart => exact ⟨0, Nat.zero_le _, rfl, hide (fun j h => by omega), hide (Below.refl _ _)⟩
  case round =>
    obtain ⟨k, hk, rfl, HE, Hb⟩ := hrel
    by_cases hlt : k < n
    · have Bd := hide (Hb.out.drew)
      obtain ⟨b, off, hAe, hb, ca⟩ := VR1.at_ (HA.out _ Bd.out) (k := k) (by rw [HN.out]; exact hlt)
      obtain ⟨b', off', hBe, hb', cb⟩ := VR1.at_ (HB.out _ Bd.out) (k := k) (by rw [HN2.out]; exact hlt)
      obtain ⟨x, hx⟩ : ∃ x, l.getD k 0 = x := ⟨_, rfl⟩
      obtain ⟨y, hy⟩ : ∃ x, m.getD k 0 = x := ⟨_, rfl⟩
      rw [hx] at ca
      rw [hy] at cb
      have HX := hide hx
      have HY := hide hy
      have HS := hide (And.intro ca cb)
      subst hAe hBe
      clear hx hy ca cb
      go_upto_region 6 with fail
      refine wp_region_J (fun W : World => W.cell? ⟨b, off + k, none⟩ = some (.int .i64 x) ∧ W.cell? ⟨b', off' + k, none⟩ = some (.int .i64 y)) (by kernel_rfl) ?_
      generalize wr.drew = wd at Bd HS ⊢
      refine tk_start [0, 1, 2, 3, 4, 5, 6, 7, 8] ?_
      iterate 9
        refine tk_one (v := ?_) (by first | exact hF | exact wideFn) HS.out rfl (by kernel_rfl) (by kernel_rfl) (by kernel_rfl) (by kernel_rfl) rfl ?_ (by first | exact fun _ _ _ h => h | exact fun _ _ _ h => hQ2 _ _ _ _ _ h) ?_
        rotate_left
        · intro W hSW
          simp only [List.getElem_toArray, List.getElem_cons_zero, List.getElem_cons_succ]
          (try dsimp only at hSW)
          go_simp
          with_reducible rfl
        (try simp only [List.getElem_toArray, List.getElem_cons_zero, List.getElem_cons_succ, Act.put, List.setIfInBounds_toArray, List.set_cons_zero, List.set_cons_succ])
      refine tk_end ?_
      refine wpAnyJ_done (by kernel_rfl) ?_
      by_cases hxy : x = y
      · have h1 : (x == y) = true := by rw [hxy]; exact beq_self_eq_true _
        subst hxy
        go_wp2_with fail
        go_roundw
        case rel => exact ⟨k + 1, by omega, by first | rfl | (simp; done), hide (fun j hj => by
          rcases (by omega : j < k ∨ j = k) with h | rfl
          · exact HE.out j h
          · rw [HX.out, HY.out]), Bd⟩
        case measure => simp [intOf]; omega
      · have h1 : (x == y) = false := by rw [beq_eq_false_iff_ne]; exact hxy
        have hne : Ending.returned (.bool false) = R := HNO.out (lists_ne (k := k) (by rw [HX.out, HY.out]; exact hxy))
        go_wp2_with fail
        go_ret
        exact ⟨hne, Bd.out⟩
    · obtain rfl : k = n := by omega
      have hye : Ending.returned (.bool true) = R := HYE.out (getD_allI (by rw [HN.out, HN2.out]) (fun j hj => HE.out j (by rw [← HN.out]; exact hj)))
      go_wp2_with fail
      go_ret
      exact ⟨hye, Hb.out⟩
end Go.Proofs.YtlkkkgpcjdemdaaDoor
/- Song: the reference's moons, walked. -/
namespace Go.Proofs.YtlkkkgpcjdemdaaDoor
open Go Go.RowKit Go.Shelf
set_option maxHeartbeats 4000000
set_option maxRecDepth 100000
theorem moB_f {m : Mo} (h : ¬ m.ok) : moB m = false := by unfold moB; simp [h]
theorem moB_t {m : Mo} (h : m.ok) : moB m = true := by unfold moB; simp [h]
theorem refMoon_any (m : Mo) (w : World) : Calls Tryd.prog 27 #[.agg #[.int .i64 m.ln, .int .i64 m.per, .int .i64 m.ph]] w fun e w' => e = .returned (.bool (moB m)) ∧ Below w.heap.size w w' := by
  obtain ⟨l, p, h⟩ := m
  obtain ⟨b, hb⟩ : ∃ b, moB ⟨l, p, h⟩ = b := ⟨_, rfl⟩
  rw [hb]
  dsimp only
  by_cases h1 : p < 1
  · obtain rfl : b = false := by rw [← hb]; exact moB_f (fun k => by have := k.1; dsimp only at this; omega)
    clear hb
    go_enter Tryd.func27, Tryd.ntmps27
    go_wp2_with fail
    go_ret
    first
      | exact ⟨rfl, (Below.refl _ _).alloc (Nat.le_refl _) _⟩
      | (refine ⟨?_, (Below.refl _ _).alloc (Nat.le_refl _) _⟩; show Ending.returned (.bool (decide (_ < _))) = _; rw [decide_eq_false (by omega)])
  by_cases h2 : 100000 < p
  · obtain rfl : b = false := by rw [← hb]; exact moB_f (fun k => by have := k.2.1; dsimp only at this; omega)
    clear hb
    go_enter Tryd.func27, Tryd.ntmps27
    go_wp2_with fail
    go_ret
    first
      | exact ⟨rfl, (Below.refl _ _).alloc (Nat.le_refl _) _⟩
      | (refine ⟨?_, (Below.refl _ _).alloc (Nat.le_refl _) _⟩; show Ending.returned (.bool (decide (_ < _))) = _; rw [decide_eq_false (by omega)])
  by_cases h3 : l < 1
  · obtain rfl : b = false := by rw [← hb]; exact moB_f (fun k => by have := k.2.2.1; dsimp only at this; omega)
    clear hb
    go_enter Tryd.func27, Tryd.ntmps27
    go_wp2_with fail
    go_ret
    first
      | exact ⟨rfl, (Below.refl _ _).alloc (Nat.le_refl _) _⟩
      | (refine ⟨?_, (Below.refl _ _).alloc (Nat.le_refl _) _⟩; show Ending.returned (.bool (decide (_ < _))) = _; rw [decide_eq_false (by omega)])
  by_cases h4 : 2 * p < l
  · obtain rfl : b = false := by rw [← hb]; exact moB_f (fun k => by have := k.2.2.2.1; dsimp only at this; omega)
    clear hb
    go_enter Tryd.func27, Tryd.ntmps27
    go_wp2_with fail
    go_ret
    first
      | exact ⟨rfl, (Below.refl _ _).alloc (Nat.le_refl _) _⟩
      | (refine ⟨?_, (Below.refl _ _).alloc (Nat.le_refl _) _⟩; show Ending.returned (.bool (decide (_ < _))) = _; rw [decide_eq_false (by omega)])
  by_cases h5 : 2 * l < p
  · obtain rfl : b = false := by rw [← hb]; exact moB_f (fun k => by have := k.2.2.2.2.1; dsimp only at this; omega)
    clear hb
    go_enter Tryd.func27, Tryd.ntmps27
    go_wp2_with fail
    go_ret
    first
      | exact ⟨rfl, (Below.refl _ _).alloc (Nat.le_refl _) _⟩
      | (refine ⟨?_, (Below.refl _ _).alloc (Nat.le_refl _) _⟩; show Ending.returned (.bool (decide (_ < _))) = _; rw [decide_eq_false (by omega)])
  by_cases h6 : h < 0
  · obtain rfl : b = false := by rw [← hb]; exact moB_f (fun k => by have := k.2.2.2.2.2.1; dsimp only at this; omega)
    clear hb
    go_enter Tryd.func27, Tryd.ntmps27
    go_wp2_with fail
    go_ret
    first
      | exact ⟨rfl, (Below.refl _ _).alloc (Nat.le_refl _) _⟩
      | (refine ⟨?_, (Below.refl _ _).alloc (Nat.le_refl _) _⟩; show Ending.returned (.bool (decide (_ < _))) = _; rw [decide_eq_false (by omega)])
  by_cases h7 : p ≤ h
  · obtain rfl : b = false := by rw [← hb]; exact moB_f (fun k => by have := k.2.2.2.2.2.2; dsimp only at this; omega)
    clear hb
    go_enter Tryd.func27, Tryd.ntmps27
    go_wp2_with fail
    go_ret
    first
      | exact ⟨rfl, (Below.refl _ _).alloc (Nat.le_refl _) _⟩
      | (refine ⟨?_, (Below.refl _ _).alloc (Nat.le_refl _) _⟩; show Ending.returned (.bool (decide (_ < _))) = _; rw [decide_eq_false (by omega)])
  obtain rfl : b = true := by rw [← hb]; exact moB_t ⟨by dsimp only; omega, by dsimp only; omega, by dsimp only; omega, by dsimp only; omega, by dsimp only; omega, by dsimp only; omega, by dsimp only; omega⟩
  clear hb
  go_enter Tryd.func27, Tryd.ntmps27
  go_wp2_with fail
  go_ret
  first
    | exact ⟨rfl, (Below.refl _ _).alloc (Nat.le_refl _) _⟩
    | (refine ⟨?_, (Below.refl _ _).alloc (Nat.le_refl _) _⟩; show Ending.returned (.bool (decide (_ < _))) = _; rw [decide_eq_false (by omega)])
end Go.Proofs.YtlkkkgpcjdemdaaDoor
