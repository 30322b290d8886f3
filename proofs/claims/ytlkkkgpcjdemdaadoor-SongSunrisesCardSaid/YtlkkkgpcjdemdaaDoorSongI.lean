/- Song: Odd, walked: the range. -/
import Derived.Test.YtlkkkgpcjdemdaaDoorSongH
import Derived.RangeFuncLeaves
set_option linter.unusedSimpArgs false
set_option linter.unusedVariables false
set_option linter.unnecessarySimpa false
namespace Go.Proofs.YtlkkkgpcjdemdaaDoor
open List renaming getElem_toArray → glA, getElem_cons_zero → glB, getElem_cons_succ → glC, setIfInBounds_toArray → glD, set_cons_zero → glE, set_cons_succ → glF
open Go Go.RowKit Go.Shelf
attribute [local go_sem] Oper.semAt_some
set_option maxHeartbeats 8000000
set_option maxRecDepth 100000
/-- what Odd's walk keeps -/
structure OdI (w W : World) (g M : Nat) (l1 l2 : List Int) : Prop where
  low : Below w.heap.size w W
  r : OdR W (g + 1) (g + 2) w.heap.size M l1 l2
theorem OdI.ext {w W W' : World} {g M : Nat} {l1 l2 : List Int} (h : OdI w W g M l1 l2) (hb : Below W.heap.size W W') : OdI w W' g M l1 l2 := ⟨h.low.trans (hb.mono h.low.size), h.r.ext hb⟩
theorem OdI.out {w W W' : World} {g M a : Nat} {l1 l2 : List Int} (h : OdI w W g M l1 l2) (ho : OutK a M W W') (hw : w.heap.size ≤ a) (hg : g + 2 < a) : OdI w W' g M l1 l2 := ⟨ho.below h.low hw (Nat.le_refl _), h.r.out ho (by omega) (by omega)⟩
/-- the end: both boxes read -/
theorem OdI.fin {w W : World} {g M : Nat} {l1 l2 : List Int} (h : OdI w W g M l1 l2) : ∃ v1 v2, (W.cell? ⟨g + 1, 0, none⟩ = some v1 ∧ W.cell? ⟨g + 2, 0, none⟩ = some v2) ∧ OwnJ W w.heap.size v1 l1 ∧ OwnJ W w.heap.size v2 l2 ∧ Blk W (g + 1) 26 #[v1] ∧ Blk W (g + 2) 26 #[v2] ∧ ∃ A1 c1 A2 c2, v1 = .slice A1 l1.length c1 ∧ v2 = .slice A2 l2.length c2 := by
  obtain ⟨v1, v2, h1, h2, h3, h4, -⟩ := h.r
  obtain ⟨-, c1, -⟩ := blk1 h1
  obtain ⟨-, c2, -⟩ := blk1 h2
  obtain ⟨A1, k1, e1⟩ := own_shape h3
  obtain ⟨A2, k2, e2⟩ := own_shape h4
  exact ⟨v1, v2, ⟨c1, c2⟩, h3, h4, h1, h2, A1, k1, A2, k2, e1, e2⟩
structure OdB (w W : World) (g : Nat) (m : Mo) : Prop where
  low : Below w.heap.size w W
  bm : Blk W g 47 #[.int .i64 m.ln, .int .i64 m.per, .int .i64 m.ph]
  k1 : Blk W (g + 1) 26 #[.slice none 0 0]
  k2 : Blk W (g + 2) 26 #[.slice none 0 0]
theorem OdB.ext {w W W' : World} {g : Nat} {m : Mo} (h : OdB w W g m) (hb : Below W.heap.size W W') : OdB w W' g m := ⟨h.low.trans (hb.mono h.low.size), h.bm.ext hb, h.k1.ext hb, h.k2.ext hb⟩
theorem OdB.nil {w W : World} {g M : Nat} {m : Mo} (h : OdB w W g m) : OdI w W g M [] [] :=
  ⟨h.low, _, _, h.k1, h.k2, OwnJ.nil _ _, OwnJ.nil _ _, fun b e => (by cases e), fun b e => (by cases e), fun b e => (by cases e)⟩
/-- both boxes emptied -/
theorem OdB.two {w W : World} {g : Nat} {m : Mo} (h : OdB w W g m) (hg : w.heap.size ≤ g) : OdB w ((W.setCell ⟨g + 1, 0, none⟩ (.slice none 0 0)).setCell ⟨g + 2, 0, none⟩ (.slice none 0 0)) g m :=
  ⟨(h.low.setCell (by dsimp only; omega) _).setCell (by dsimp only; omega) _, (h.bm.far (p := ⟨g + 1, 0, none⟩) (fun e => by dsimp only at e; omega) _).far (p := ⟨g + 2, 0, none⟩) (fun e => by dsimp only at e; omega) _,
    (show Blk (W.setCell ⟨g + 1, 0, none⟩ (.slice none 0 0)) (g + 1) 26 #[.slice none 0 0] by simpa using h.k1.set_ 0 (.slice none 0 0)).far (p := ⟨g + 2, 0, none⟩) (fun e => by dsimp only at e; omega) _,
    by simpa using (h.k2.far (p := ⟨g + 1, 0, none⟩) (fun e => by dsimp only at e; omega) (.slice none 0 0)).set_ 0 (.slice none 0 0)⟩
def hwL (m : Mo) (h : Int) (l : List Int) : List Int := l.filter fun x => decide ((flF m x).2 = h)
theorem hwL_yes {m : Mo} {h x : Int} {l : List Int} (e : (flF m x).2 = h) : hwL m h (l ++ [x]) = hwL m h l ++ [x] := by simp [hwL, e]
theorem hwL_no {m : Mo} {h x : Int} {l : List Int} (e : (flF m x).2 ≠ h) : hwL m h (l ++ [x]) = hwL m h l := by simp [hwL, e]
theorem hwL_len (m : Mo) (h : Int) (l : List Int) : (hwL m h l).length ≤ l.length := List.length_filter_le _ _
theorem dyL_len (f t : Int) (h : t - f ≤ 1000) : (dyL f t 1).length ≤ 1001 := by
  unfold dyL dyP dyN
  rw [List.length_map, List.length_range, Int.ediv_one]
  omega
theorem Odd_any (m : Mo) (a b : Int) (w : World) : Calls Tryd.prog 40 #[.agg #[.int .i64 m.ln, .int .i64 m.per, .int .i64 m.ph], .int .i64 a, .int .i64 b] w (OdPost m a b w) := by
  have HC := hide (fun W => checkMoon_any m W)
  have HTA := hide (fun W => isTime_any a W)
  have HTB := hide (fun W => isTime_any b W)
  refine (callsIn_wide (n := 9)).1 ?_
  obtain ⟨F, hFw⟩ : ∃ F : Fence, F = Fence.wide := ⟨_, rfl⟩
  rw [← hFw]
  have hF : ∀ f, F.fn f := by rw [hFw]; exact fun _ => trivial
  have hro : F.round = none := by rw [hFw]; rfl
  have hwd : ∀ {n f args w R}, Calls Tryd.prog f args w R → CallsIn F n Tryd.prog f args w R := by rw [hFw]; exact fun h => callsIn_wide.2 h
  clear hFw
  have hb1 : Below w.heap.size w (((w.alloc (.cells #[.int .i64 m.ln, .int .i64 m.per, .int .i64 m.ph] 47)).alloc (.cells #[.slice none 0 0] 26)).alloc (.cells #[.slice none 0 0] 26)) := (((Below.refl _ _).alloc (Nat.le_refl _) _).alloc (by simp) _).alloc (by simp; omega) _
  obtain ⟨g, hg⟩ : ∃ g, w.heap.size = g := ⟨_, rfl⟩
  have HG := hide hg.symm
  have I1 : Hid (OdB w (((w.alloc (.cells #[.int .i64 m.ln, .int .i64 m.per, .int .i64 m.ph] 47)).alloc (.cells #[.slice none 0 0] 26)).alloc (.cells #[.slice none 0 0] 26)) g m) := hide (by
    have h1 := Blk.new w 47 #[.int .i64 m.ln, .int .i64 m.per, .int .i64 m.ph]
    have h2 := Blk.new (w.alloc (.cells #[.int .i64 m.ln, .int .i64 m.per, .int .i64 m.ph] 47)) 26 #[.slice none 0 0]
    have h3 := Blk.new ((w.alloc (.cells #[.int .i64 m.ln, .int .i64 m.per, .int .i64 m.ph] 47)).alloc (.cells #[.slice none 0 0] 26)) 26 #[.slice none 0 0]
    rw [World.size_alloc] at h2
    rw [World.size_alloc, World.size_alloc] at h3
    rw [hg] at h1 h2 h3
    exact ⟨hb1, (h1.alloc _).alloc _, h2.alloc _, h3⟩)
  refine callsIn_of_wp_marks Tryd.func40 rfl (hF _) ?_ hro
  simp only [Tryd.ntmps40, List.size_toArray, List.length_cons, List.length_nil, Nat.reduceAdd, Nat.reduceSub, Array.replicate_succ, Array.replicate_zero, List.push_toArray, List.append_toArray, List.nil_append, List.cons_append]
  clear hb1
  have HSEQ := hide (fun (h : m.ok) (h1 : 0 ≤ a ∧ a ≤ 3000000) (h2 : b ≤ 1000000) pf pt ps pm W => dy_seq F (9 - 1) hF hro hwd (by omega) pf pt ps pm m h a b 1 h1 h2 (by omega) W)
  unfold OdPost odR
  by_cases hm : m.ok
  rotate_left
  · rw [moB_no hm] at HC
    rw [if_neg hm]
    clear hm HSEQ
    gi_wp2_with fail
    (try simp only [World.size_alloc])
    (try rw [hg])
    clear hg
    (try simp only [Nat.add_assoc, Nat.reduceAdd])
    generalize (((w.alloc (.cells #[.int .i64 m.ln, .int .i64 m.per, .int .i64 m.ph] 47)).alloc (.cells #[.slice none 0 0] 26)).alloc (.cells #[.slice none 0 0] 26)) = w1 at I1 ⊢
    (with_reducible refine (hwd (HC.out _)).mono ?_)
    rintro e w2 ⟨rfl, hb⟩
    have I2 := hide (I1.out.ext hb)
    clear hb
    obtain ⟨z0, c0, c1, c2, f0⟩ := blk3 I2.out.bm
    obtain ⟨z1, c3, f1⟩ := blk1 I2.out.k1
    obtain ⟨z2, c4, f2⟩ := blk1 I2.out.k2
    (try dsimp only)
    (repeat (first | go_values | gi_guarded | gi_step | gi_upon))
    have HS := I2.out.two (Nat.le_of_eq HG.out.symm)
    obtain ⟨-, r1, -⟩ := blk1 HS.k1
    obtain ⟨-, r2, -⟩ := blk1 HS.k2
    refine ⟨.tuple #[.slice none 0 0, .slice none 0 0, .int .i64 2], by simp [results, Tryd.results40, go_sem, r1, r2], ?_⟩
    exact ⟨_, _, rfl, OwnJ.nil _ _, OwnJ.nil _ _, HS.low⟩
  rw [moB_yes hm] at HC
  rw [if_pos hm]
  by_cases harg : tmB a = true ∧ tmB b = true ∧ a ≤ b ∧ b - a ≤ 1000
  rotate_left
  · rw [if_neg harg]
    clear HSEQ
    gi_wp2_with fail
    (try simp only [World.size_alloc])
    (try rw [hg])
    clear hg
    (try simp only [Nat.add_assoc, Nat.reduceAdd])
    generalize (((w.alloc (.cells #[.int .i64 m.ln, .int .i64 m.per, .int .i64 m.ph] 47)).alloc (.cells #[.slice none 0 0] 26)).alloc (.cells #[.slice none 0 0] 26)) = w1 at I1 ⊢
    (with_reducible refine (hwd (HC.out _)).mono ?_)
    rintro e w2 ⟨rfl, hb⟩
    have I2 := hide (I1.out.ext hb)
    clear hb
    obtain ⟨z0, c0, c1, c2, f0⟩ := blk3 I2.out.bm
    obtain ⟨z1, c3, f1⟩ := blk1 I2.out.k1
    obtain ⟨z2, c4, f2⟩ := blk1 I2.out.k2
    rcases hta : tmB a with _ | _
    · rw [hta] at HTA
      clear harg hta
      (try dsimp only)
      (repeat (first | go_values | gi_guarded | gi_step | gi_upon))
      (with_reducible refine (hwd (HTA.out _)).mono ?_)
      rintro e w3 ⟨rfl, rfl⟩
      (try dsimp only)
      (repeat (first | go_values | gi_guarded | gi_step | gi_upon))
      have HS := I2.out.two (Nat.le_of_eq HG.out.symm)
      obtain ⟨-, r1, -⟩ := blk1 HS.k1
      obtain ⟨-, r2, -⟩ := blk1 HS.k2
      refine ⟨.tuple #[.slice none 0 0, .slice none 0 0, .int .i64 3], by simp [results, Tryd.results40, go_sem, r1, r2], ?_⟩
      exact ⟨_, _, rfl, OwnJ.nil _ _, OwnJ.nil _ _, HS.low⟩
    rw [hta] at HTA
    rcases htb : tmB b with _ | _
    · rw [htb] at HTB
      clear harg hta htb
      (try dsimp only)
      (repeat (first | go_values | gi_guarded | gi_step | gi_upon))
      (with_reducible refine (hwd (HTA.out _)).mono ?_)
      rintro e w3 ⟨rfl, rfl⟩
      (try dsimp only)
      (repeat (first | go_values | gi_guarded | gi_step | gi_upon))
      (with_reducible refine (hwd (HTB.out _)).mono ?_)
      rintro e w4 ⟨rfl, rfl⟩
      (try dsimp only)
      (repeat (first | go_values | gi_guarded | gi_step | gi_upon))
      have HS := I2.out.two (Nat.le_of_eq HG.out.symm)
      obtain ⟨-, r1, -⟩ := blk1 HS.k1
      obtain ⟨-, r2, -⟩ := blk1 HS.k2
      refine ⟨.tuple #[.slice none 0 0, .slice none 0 0, .int .i64 3], by simp [results, Tryd.results40, go_sem, r1, r2], ?_⟩
      exact ⟨_, _, rfl, OwnJ.nil _ _, OwnJ.nil _ _, HS.low⟩
    rw [htb] at HTB
    have t1 := tm_iff.1 hta
    have t2 := tm_iff.1 htb
    have harg' : ¬ (a ≤ b ∧ b - a ≤ 1000) := fun h => harg ⟨hta, htb, h⟩
    rcases (by omega : b < a ∨ ¬ b < a ∧ 1000 < b - a) with h1 | ⟨h1, h2⟩
    · clear harg harg' hta htb
      (try dsimp only)
      (repeat (first | go_values | gi_guarded | gi_step | gi_upon))
      (with_reducible refine (hwd (HTA.out _)).mono ?_)
      rintro e w3 ⟨rfl, rfl⟩
      (try dsimp only)
      (repeat (first | go_values | gi_guarded | gi_step | gi_upon))
      (with_reducible refine (hwd (HTB.out _)).mono ?_)
      rintro e w4 ⟨rfl, rfl⟩
      (try dsimp only)
      (repeat (first | go_values | gi_guarded | gi_step | gi_upon))
      have HS := I2.out.two (Nat.le_of_eq HG.out.symm)
      obtain ⟨-, r1, -⟩ := blk1 HS.k1
      obtain ⟨-, r2, -⟩ := blk1 HS.k2
      refine ⟨.tuple #[.slice none 0 0, .slice none 0 0, .int .i64 3], by simp [results, Tryd.results40, go_sem, r1, r2], ?_⟩
      exact ⟨_, _, rfl, OwnJ.nil _ _, OwnJ.nil _ _, HS.low⟩
    · clear harg harg' hta htb
      (try dsimp only)
      (repeat (first | go_values | gi_guarded | gi_step | gi_upon))
      (with_reducible refine (hwd (HTA.out _)).mono ?_)
      rintro e w3 ⟨rfl, rfl⟩
      (try dsimp only)
      (repeat (first | go_values | gi_guarded | gi_step | gi_upon))
      (with_reducible refine (hwd (HTB.out _)).mono ?_)
      rintro e w4 ⟨rfl, rfl⟩
      (try dsimp only)
      (repeat (first | go_values | gi_guarded | gi_step | gi_upon))
      have HS := I2.out.two (Nat.le_of_eq HG.out.symm)
      obtain ⟨-, r1, -⟩ := blk1 HS.k1
      obtain ⟨-, r2, -⟩ := blk1 HS.k2
      refine ⟨.tuple #[.slice none 0 0, .slice none 0 0, .int .i64 3], by simp [results, Tryd.results40, go_sem, r1, r2], ?_⟩
      exact ⟨_, _, rfl, OwnJ.nil _ _, OwnJ.nil _ _, HS.low⟩
  rw [if_pos harg]
  obtain ⟨hta, htb, hab, hab2⟩ := harg
  have t1 := tm_iff.1 hta
  have t2 := tm_iff.1 htb
  rw [hta] at HTA
  rw [htb] at HTB
  replace HSEQ := hide (fun pf pt ps pm W => HSEQ.out hm (by omega) (by omega) pf pt ps pm W)
  have HDF := hide (fun W => daysF_any m a b 1 W)
  have HLN := hide (dyL_len a b hab2)
  obtain ⟨L, hL⟩ : ∃ L, dyL a b 1 = L := ⟨_, rfl⟩
  rw [hL] at HSEQ HLN ⊢
  clear hm hta htb hL
  obtain ⟨h3, h4⟩ : ¬ b < a ∧ ¬ 1000 < b - a := by omega
  gi_wp2_with fail
  (try simp only [World.size_alloc])
  (try rw [hg])
  clear hg
  (try simp only [Nat.add_assoc, Nat.reduceAdd])
  generalize (((w.alloc (.cells #[.int .i64 m.ln, .int .i64 m.per, .int .i64 m.ph] 47)).alloc (.cells #[.slice none 0 0] 26)).alloc (.cells #[.slice none 0 0] 26)) = w1 at I1 ⊢
  (with_reducible refine (hwd (HC.out _)).mono ?_)
  rintro e w2 ⟨rfl, hb⟩
  have I2 := hide (I1.out.ext hb)
  clear hb
  obtain ⟨z0, c0, c1, c2, f0⟩ := blk3 I2.out.bm
  obtain ⟨z1, c3, f1⟩ := blk1 I2.out.k1
  obtain ⟨z2, c4, f2⟩ := blk1 I2.out.k2
  have HLT : Hid (g + 2 < w2.heap.size) := hide I2.out.k2.lt
  (try dsimp only)
  (repeat (first | go_values | gi_guarded | gi_step | gi_upon))
  (with_reducible refine (hwd (HTA.out _)).mono ?_)
  rintro e w3 ⟨rfl, rfl⟩
  (try dsimp only)
  (repeat (first | go_values | gi_guarded | gi_step | gi_upon))
  (with_reducible refine (hwd (HTB.out _)).mono ?_)
  rintro e w4 ⟨rfl, rfl⟩
  (try dsimp only)
  (repeat (first | go_values | gi_guarded | gi_step | gi_upon))
  (with_reducible refine (hwd (HDF.out _)).mono ?_)
  rintro e w4 ⟨rfl, hdb, hb, hz⟩
  have I4 := hide (I2.out.ext hb)
  obtain ⟨pm, hpm⟩ : ∃ pm, w2.heap.size = pm := ⟨_, rfl⟩
  rw [hpm] at hdb hz HLT ⊢
  have DB := hide hdb
  have HZ4 := hide hz
  clear hb hdb hz hpm I2 I1 HC HTA HTB HDF
  clear z0 c0 c1 c2 f0 z1 c3 f1 z2 c4 f2
  (try dsimp only)
  (repeat (first | go_values | gi_guarded | gi_step | gi_upon))
  have hst := HSEQ.out (pm + 1) (pm + 2) (pm + 3) pm w4
  clear HSEQ
  obtain ⟨A, hA⟩ : ∃ A, w4.heap.size = A := ⟨_, rfl⟩
  have HA : Hid (pm + 3 < A) := hide (by rw [← hA]; exact HZ4.out)
  have HE : Hid (∀ e w', (∃ v1 v2, e = Ending.returned (.tuple #[v1, v2, .int .i64 0]) ∧ OwnJ w' w.heap.size v1 (hwL m 3 L) ∧ OwnJ w' w.heap.size v2 (hwL m 2 L) ∧ Below w.heap.size w w') → ∃ v1 v2, e = Ending.returned (.tuple #[v1, v2, .int .i64 0]) ∧ OwnJ w' w.heap.size v1 (L.filter fun x => decide ((flF m x).2 = 3)) ∧ OwnJ w' w.heap.size v2 (L.filter fun x => decide ((flF m x).2 = 2)) ∧ Below w.heap.size w w') := hide (fun e w' h => h)
  refine wpIn_rangeFunc_z hro (by omega) (gf := 104) (fs := #[]) (lb := #[.pointer (some ⟨pm + 1, 0, none⟩), .pointer (some ⟨pm + 2, 0, none⟩), .pointer (some ⟨pm + 3, 0, none⟩), .pointer (some ⟨pm, 0, none⟩)]) rfl (hF _) (enters_of Tryd.func104 (by kernel_rfl) rfl) hst (Below.refl _ _) (fun _ => rfl)
    (fun M pre W => OdI w W g M (hwL m 3 pre) (hwL m 2 pre) ∧ DyB W pm m a b 1)
    (fun _ _ _ => False) ?hZ ?hI0 ?hI (fun _ _ _ _ h _ => h)
    (fun M x a' W => ∃ g11, a' = { tmps := #[.agg #[.int .i64 m.ln, .int .i64 m.per, .int .i64 m.ph], .int .i64 a, .int .i64 b, .pointer (some ⟨g, 0, none⟩), undef, undef, .pointer (some ⟨g + 1, 0, none⟩), .pointer (some ⟨g + 2, 0, none⟩), .int .i64 0, .int .i64 0, .int .i64 x, .pointer (some ⟨g11, 0, none⟩), .agg #[.int .i64 m.ln, .int .i64 m.per, .int .i64 m.ph], .int .i64 0, .int .i64 0, .bool false, undef, .int .i64 a, .bool true, .bool false, .bool false, .int .i64 b, .bool true, .bool false, .bool false, .bool false, .int .i64 a, .int .i64 b, .bool (decide (b < a)), .bool (decide (b < a)), .bool (decide (b < a)), .int .i64 b, .int .i64 a, .int .i64 (b - a), .bool (decide (1000 < b - a)), .bool (decide (b < a) || decide (1000 < b - a)), .agg #[.int .i64 m.ln, .int .i64 m.per, .int .i64 m.ph], .agg #[.int .i64 m.ln, .int .i64 m.per, .int .i64 m.ph], .int .i64 a, .int .i64 b, .func (.func 104) #[] #[.pointer (some ⟨pm + 1, 0, none⟩), .pointer (some ⟨pm + 2, 0, none⟩), .pointer (some ⟨pm + 3, 0, none⟩), .pointer (some ⟨pm, 0, none⟩)], .int .i64 x, .agg #[.int .i64 (flF m x).1, .int .i64 (flF m x).2], undef, undef, undef, undef, undef, undef, undef, undef, undef, undef, undef, undef, undef, undef, undef, undef], defers := [] } ∧ M ≤ g11 ∧ Blk W g11 124 #[.int .i64 (flF m x).1, .int .i64 (flF m x).2])
    ?hAx ?hassign ?hbody ?hdone ?hstop
  case hZ =>
    rintro M pre W ⟨h1, h2⟩
    exact h2.z
  case hI0 =>
    intro W1 h1 _
    exact ⟨(I4.out.ext h1).nil, DB.out.ext h1⟩
  case hI =>
    rintro M pre W1 W2 ⟨h1, h2⟩ ho
    rw [hA] at ho
    have e1 := HA.out
    have e2 := HLT.out
    have e3 : w.heap.size ≤ g := Nat.le_of_eq HG.out.symm
    exact ⟨h1.out ho (by omega) (by omega), h2.out ho (by omega)⟩
  case hAx =>
    rintro M x a' W1 W2 ⟨g11, rfl, h1, h2⟩ ho
    exact ⟨g11, rfl, h1, ho.blk h2 (by omega)⟩
  case hassign =>
    intro l M pre x W K hMW hI hK
    have HK2 := hide hK
    clear hK
    unfold dyE
    gi_wp2_with fail
    have hbn : Below W.heap.size W (W.alloc (.cells #[.int .i64 (flF m x).1, .int .i64 (flF m x).2] 124)) := (Below.refl _ _).alloc (Nat.le_refl _) _
    refine HK2.out _ _ (KeepB.of_below hbn hMW) ⟨hI.1.ext hbn, hI.2.ext hbn⟩ ⟨W.heap.size, rfl, hMW, ?_⟩
    exact Blk.new W _ _
  case hbody =>
    rintro l M pre x a' W hM2 hMW hpre ⟨hS, hD⟩ ⟨g11, rfl, hg11, hk11⟩
    rw [hA] at hM2
    obtain ⟨y0, y1, y2, y3⟩ := blk2 hk11
    have hpl : pre.length ≤ 1001 := by
      have := hpre.length_le
      simp at this
      have := HLN.out
      omega
    have hl3 := hwL_len m 3 pre
    have hl2 := hwL_len m 2 pre
    have e1 := HA.out
    have e2 := HLT.out
    have e3 : w.heap.size ≤ g := Nat.le_of_eq HG.out.symm
    obtain ⟨fd, hfd⟩ : ∃ f, (flF m x).1 = f := ⟨_, rfl⟩
    obtain ⟨fh, hfh⟩ : ∃ f, (flF m x).2 = f := ⟨_, rfl⟩
    have h3y := fun e : fh = 3 => hwL_yes (l := pre) (hfh.trans e)
    have h3n := fun e : fh ≠ 3 => hwL_no (l := pre) (m := m) (x := x) (h := 3) (fun e2 => e (hfh.symm.trans e2))
    have h2y := fun e : fh = 2 => hwL_yes (l := pre) (hfh.trans e)
    have h2n := fun e : fh ≠ 2 => hwL_no (l := pre) (m := m) (x := x) (h := 2) (fun e2 => e (hfh.symm.trans e2))
    rw [hfd, hfh] at hk11
    rw [hfh] at y2
    rw [hfd, hfh]
    clear hfd hfh hpre hst y1
    by_cases h3 : fh = 3
    · have hq : (fh == 3) = true := by rw [h3]; rfl
      have HP := hide (hS.r.push x (by omega) hS.low.size hMW (by omega) (by omega) (by omega))
      have hG3 := h3y h3
      have hG2 := h2n (by omega)
      obtain ⟨A1, c1', A2, c2', w', hb1, hr, hb2, hR, hO, hK⟩ := HP.out
      have HKB : Hid (KeepB A M W (w'.setCell ⟨g + 1, 0, none⟩ (.slice A2 ((hwL m 3 pre).length + 1) c2'))) := hide ⟨by have := hO.size; simpa using this, fun k k1 k2 => hK k k2 (by omega)⟩
      have HIN : Hid (OdI w (w'.setCell ⟨g + 1, 0, none⟩ (.slice A2 ((hwL m 3 pre).length + 1) c2')) g M (hwL m 3 (pre ++ [x])) (hwL m 2 (pre ++ [x])) ∧ DyB (w'.setCell ⟨g + 1, 0, none⟩ (.slice A2 ((hwL m 3 pre).length + 1) c2')) pm m a b 1) := hide (by
        rw [hG3, hG2]
        refine ⟨⟨(hO.below hS.low (by omega) (Nat.le_refl _)).setCell (by dsimp only; omega) _, hR⟩, ?_, ?_, ?_, ?_⟩
        · exact (hK pm (by omega) (by omega)).trans hD.m
        · exact (hK (pm + 1) (by omega) (by omega)).trans hD.f
        · exact (hK (pm + 2) (by omega) (by omega)).trans hD.t
        · exact (hK (pm + 3) (by omega) (by omega)).trans hD.s)
      have HRUN := hide hr
      obtain ⟨q1, q2, q3⟩ := blk1 hb1
      obtain ⟨q4, q5, q6⟩ := blk1 hb2
      clear hr hR hO hK hS hD HP hb1 hb2 hG3 hG2 h3y h3n h2y h2n h3 hk11
      gi_wp2_with (gi_at_builtin; refine wpListIn_append_run hF rfl (.tmp 47) (.tmp 49) 26 rfl rfl rfl HRUN.out ?_)
      exact ⟨by first | exact HKB.out | (rw [hA]; exact HKB.out), HIN.out⟩
    · have hq : (fh == 3) = false := by rw [beq_eq_false_iff_ne]; exact h3
      have hG3 := h3n h3
      by_cases h2 : fh = 2
      · have hq2 : (fh == 2) = true := by rw [h2]; rfl
        have hG2 := h2y h2
        have HP := hide (hS.r.swap.push x (by omega) hS.low.size hMW (by omega) (by omega) (by omega))
        obtain ⟨A1, c1', A2, c2', w', hb1, hr, hb2, hR, hO, hK⟩ := HP.out
        have HKB : Hid (KeepB A M W (w'.setCell ⟨g + 2, 0, none⟩ (.slice A2 ((hwL m 2 pre).length + 1) c2'))) := hide ⟨by have := hO.size; simpa using this, fun k k1 k2 => hK k k2 (by omega)⟩
        have HIN : Hid (OdI w (w'.setCell ⟨g + 2, 0, none⟩ (.slice A2 ((hwL m 2 pre).length + 1) c2')) g M (hwL m 3 (pre ++ [x])) (hwL m 2 (pre ++ [x])) ∧ DyB (w'.setCell ⟨g + 2, 0, none⟩ (.slice A2 ((hwL m 2 pre).length + 1) c2')) pm m a b 1) := hide (by
          rw [hG3, hG2]
          refine ⟨⟨(hO.below hS.low (by omega) (Nat.le_refl _)).setCell (by dsimp only; omega) _, hR.swap⟩, ?_, ?_, ?_, ?_⟩
          · exact (hK pm (by omega) (by omega)).trans hD.m
          · exact (hK (pm + 1) (by omega) (by omega)).trans hD.f
          · exact (hK (pm + 2) (by omega) (by omega)).trans hD.t
          · exact (hK (pm + 3) (by omega) (by omega)).trans hD.s)
        have HRUN := hide hr
        obtain ⟨q1, q2, q3⟩ := blk1 hb1
        obtain ⟨q4, q5, q6⟩ := blk1 hb2
        clear hr hR hO hK hS hD HP hb1 hb2 hG3 hG2 h3y h3n h2y h2n h3 h2 hk11
        gi_wp2_with (gi_at_builtin; refine wpListIn_append_run hF rfl (.tmp 53) (.tmp 55) 26 rfl rfl rfl HRUN.out ?_)
        exact ⟨by first | exact HKB.out | (rw [hA]; exact HKB.out), HIN.out⟩
      · have hq2 : (fh == 2) = false := by rw [beq_eq_false_iff_ne]; exact h2
        have hG2 := h2n h2
        have HIN : Hid (OdI w W g M (hwL m 3 (pre ++ [x])) (hwL m 2 (pre ++ [x])) ∧ DyB W pm m a b 1) := hide (by rw [hG3, hG2]; exact ⟨hS, hD⟩)
        clear hS hD hG3 hG2 h3y h3n h2y h2n h3 h2 hk11
        gi_wp2_with fail
        exact ⟨KeepB.refl _ _ _, HIN.out⟩
  case hdone =>
    rintro D M W hD ⟨hS, hdb⟩ hK
    rw [hA] at hD
    obtain ⟨v1, v2, hc, o1, o2, b1, b2, A1, k1, A2, k2, rfl, rfl⟩ := hS.fin
    have e1 := HA.out
    have e2 := HLT.out
    have e3 : w.heap.size ≤ g := Nat.le_of_eq HG.out.symm
    have HC2 : Hid (∀ W', Blk W' (g + 1) 26 #[.slice A1 (hwL m 3 L).length k1] → Blk W' (g + 2) 26 #[.slice A2 (hwL m 2 L).length k2] → W'.cell? ⟨g + 1, 0, none⟩ = some (.slice A1 (hwL m 3 L).length k1) ∧ W'.cell? ⟨g + 2, 0, none⟩ = some (.slice A2 (hwL m 2 L).length k2)) := hide (fun W' h1 h2 => ⟨(blk1 h1).2.1, (blk1 h2).2.1⟩)
    obtain ⟨wd, hwd⟩ : ∃ wd, W.drew = wd := ⟨_, rfl⟩
    have hbd : Below W.heap.size W wd := by rw [← hwd]; exact (Below.refl _ _).drew
    have B1 := hide (b1.ext hbd)
    have B2 := hide (b2.ext hbd)
    have B1' : Hid (Blk (wd.setCell ⟨g + 1, 0, none⟩ (.slice A1 (hwL m 3 L).length k1)) (g + 1) 26 #[.slice A1 (hwL m 3 L).length k1]) := hide (by simpa using B1.out.set_ 0 (.slice A1 (hwL m 3 L).length k1))
    have B2' := hide (B2.out.far (p := ⟨g + 1, 0, none⟩) (fun e => by dsimp only at e; omega) (.slice A1 (hwL m 3 L).length k1))
    have B1e := hide (B1'.out.far (p := ⟨g + 2, 0, none⟩) (fun e => by dsimp only at e; omega) (.slice A2 (hwL m 2 L).length k2))
    have B2e : Hid (Blk ((wd.setCell ⟨g + 1, 0, none⟩ (.slice A1 (hwL m 3 L).length k1)).setCell ⟨g + 2, 0, none⟩ (.slice A2 (hwL m 2 L).length k2)) (g + 2) 26 #[.slice A2 (hwL m 2 L).length k2]) := hide (by simpa using B2'.out.set_ 0 (.slice A2 (hwL m 2 L).length k2))
    have hkk : ∀ k, k < W.heap.size → k ≠ g + 1 → k ≠ g + 2 → ((wd.setCell ⟨g + 1, 0, none⟩ (.slice A1 (hwL m 3 L).length k1)).setCell ⟨g + 2, 0, none⟩ (.slice A2 (hwL m 2 L).length k2)).heap[k]? = W.heap[k]? := fun k h1 h2 h3 =>
      (Below.heap_setCell _ _ _ k (fun e => h3 (by simpa using e))).trans ((Below.heap_setCell _ _ _ k (fun e => h2 (by simpa using e))).trans (hbd.block k h1))
    have HO1 : Hid (OwnJ ((wd.setCell ⟨g + 1, 0, none⟩ (.slice A1 (hwL m 3 L).length k1)).setCell ⟨g + 2, 0, none⟩ (.slice A2 (hwL m 2 L).length k2)) w.heap.size (.slice A1 (hwL m 3 L).length k1) (hwL m 3 L)) := hide (own_keep o1 (fun k e => hkk k (own_lt' o1 e) (fun e2 => own_blk_ne o1 b1 (by decide) (by rw [e, e2])) (fun e2 => own_blk_ne o1 b2 (by decide) (by rw [e, e2]))))
    have HO2 : Hid (OwnJ ((wd.setCell ⟨g + 1, 0, none⟩ (.slice A1 (hwL m 3 L).length k1)).setCell ⟨g + 2, 0, none⟩ (.slice A2 (hwL m 2 L).length k2)) w.heap.size (.slice A2 (hwL m 2 L).length k2) (hwL m 2 L)) := hide (own_keep o2 (fun k e => hkk k (own_lt' o2 e) (fun e2 => own_blk_ne o2 b1 (by decide) (by rw [e, e2])) (fun e2 => own_blk_ne o2 b2 (by decide) (by rw [e, e2]))))
    have HLW : Hid (Below w.heap.size w ((wd.setCell ⟨g + 1, 0, none⟩ (.slice A1 (hwL m 3 L).length k1)).setCell ⟨g + 2, 0, none⟩ (.slice A2 (hwL m 2 L).length k2))) := hide (((hS.low.trans (hbd.mono hS.low.size)).setCell (by dsimp only; omega) _).setCell (by dsimp only; omega) _)
    have HKD : Hid (((wd.setCell ⟨g + 1, 0, none⟩ (.slice A1 (hwL m 3 L).length k1)).setCell ⟨g + 2, 0, none⟩ (.slice A2 (hwL m 2 L).length k2)).heap[D]? = some (.deferred (some []))) := hide ((hkk D (Array.getElem?_eq_some_iff.1 hK).1 (by omega) (by omega)).trans hK)
    clear hkk hbd o1 o2 b1 b2 hS hdb hK hc hst
    gi_wp2_with fail
    refine wpIn_on ?_
    refine wpIn_region_J (fun W : World => W.cell? ⟨g + 1, 0, none⟩ = some (.slice A1 (hwL m 3 L).length k1) ∧ W.cell? ⟨g + 2, 0, none⟩ = some (.slice A2 (hwL m 2 L).length k2)) (by kernel_rfl) ?_
    rw [hwd]
    refine wpAnyJ_take 0 (v := ?_) (by first | exact hF | exact wideFn) (HC2.out _ B1.out B2.out) rfl (by kernel_rfl) (by kernel_rfl) (by kernel_rfl) (by kernel_rfl) rfl ?_ (by first | exact fun _ _ _ h => h | exact fun _ _ _ h => hQ2 _ _ _ _ _ h) ?_
    rotate_left
    · intro W hSW
      simp only [glA, glB, glC]
      (try dsimp only at hSW)
      go_simp
      with_reducible rfl
    (try simp only [glA, glB, glC, Act.put, glD, glE, glF])
    refine wpAnyJ_take 1 (v := ?_) (by first | exact hF | exact wideFn) (HC2.out _ B1.out B2.out) rfl (by kernel_rfl) (by kernel_rfl) (by kernel_rfl) (by kernel_rfl) rfl ?_ (by first | exact fun _ _ _ h => h | exact fun _ _ _ h => hQ2 _ _ _ _ _ h) ?_
    rotate_left
    · intro W hSW
      simp only [glA, glB, glC]
      (try dsimp only at hSW)
      go_simp
      with_reducible rfl
    (try simp only [glA, glB, glC, Act.put, glD, glE, glF])
    obtain ⟨q1, q2, q3⟩ := blk1 B1.out
    refine wpAnyJ_one 2 rfl (by kernel_rfl) (fun K hK => ?_)
    simp only [glA, glB, glC]
    go_simp
    refine hK.out _ _ (fun _ => HC2.out _ B1'.out B2'.out) ?_
    clear hK K
    (try simp only [glA, glB, glC, Act.put, glD, glE, glF])
    obtain ⟨q4, q5, q6⟩ := blk1 B2'.out
    refine wpAnyJ_one 3 rfl (by kernel_rfl) (fun K hK => ?_)
    simp only [glA, glB, glC]
    go_simp
    refine hK.out _ _ (fun _ => HC2.out _ B1e.out B2e.out) ?_
    clear hK K
    (try simp only [glA, glB, glC, Act.put, glD, glE, glF])
    refine wpAnyJ_one 4 rfl (by kernel_rfl) (fun K hK => ?_)
    simp only [glA, glB, glC]
    go_simp
    refine hK.out _ _ (fun h => absurd h (by rw [show lastOp _ _ _ = true from by kernel_rfl]; simp)) ?_
    clear hK K
    (try simp only [glA, glB, glC, Act.put, glD, glE, glF])
    refine wpAnyJ_done (by kernel_rfl) ?_
    dsimp only [OnlyNormal]
    clear q1 q2 q3 q4 q5 q6
    gi_wp2_with fail
    refine ⟨by simp, .inl ⟨_, _, rfl, run_takeDeferred HKD.out, ?_⟩⟩
    have hgp := grownBy_putObj' ((wd.setCell ⟨g + 1, 0, none⟩ (.slice A1 (hwL m 3 L).length k1)).setCell ⟨g + 2, 0, none⟩ (.slice A2 (hwL m 2 L).length k2)) D (.deferred none)
    have hob : OutK D (D + 1) ((wd.setCell ⟨g + 1, 0, none⟩ (.slice A1 (hwL m 3 L).length k1)).setCell ⟨g + 2, 0, none⟩ (.slice A2 (hwL m 2 L).length k2)) (((wd.setCell ⟨g + 1, 0, none⟩ (.slice A1 (hwL m 3 L).length k1)).setCell ⟨g + 2, 0, none⟩ (.slice A2 (hwL m 2 L).length k2)).putObj D (.deferred none)) := OutK.putObj _ (Nat.le_refl _) (by omega) _
    have p1 := (blk1 (hob.blk B1e.out (by omega))).2.1
    have p2 := (blk1 (hob.blk B2e.out (by omega))).2.1
    refine ⟨.tuple #[.slice A1 (hwL m 3 L).length k1, .slice A2 (hwL m 2 L).length k2, .int .i64 0], by simp [results, Tryd.results40, go_sem, p1, p2], ?_⟩
    exact ⟨_, _, rfl, ownN HO1.out hgp (fun r e => by cases e; exact ⟨_, HKD.out, rfl⟩), ownN HO2.out hgp (fun r e => by cases e; exact ⟨_, HKD.out, rfl⟩), OutK.below HLW.out hob (by omega) (Nat.le_refl _)⟩
  case hstop =>
    intro D c pre W hD hSp h hK
    exact h.elim
end Go.Proofs.YtlkkkgpcjdemdaaDoor
/- Song: Next, walked. -/
namespace Go.Proofs.YtlkkkgpcjdemdaaDoor
open Go Go.RowKit Go.Shelf
attribute [local go_sem] Oper.semAt_some
set_option maxHeartbeats 8000000
set_option maxRecDepth 100000
structure NxI (w W : World) (g : Nat) (m : Mo) (d v8 v9 : Int) : Prop where
  low : Below w.heap.size w W
  bm : Blk W g 47 #[.int .i64 m.ln, .int .i64 m.per, .int .i64 m.ph]
  bd : Blk W (g + 1) 3 #[.int .i64 d]
  k8 : Blk W (g + 2) 3 #[.int .i64 v8]
  k9 : Blk W (g + 3) 28 #[.int .i64 v9]
theorem nx_start {m : Mo} (hm : m.ok) {d : Int} {dark : Bool} {num : Int} (h0 : 0 ≤ d) (h1 : d ≤ 1000000) (h2 : 1 ≤ num) (h3 : num ≤ 15) : 0 ≤ nxS m d dark num ∧ nxS m d dark num ≤ 3000000 ∧ 0 ≤ d * m.per / m.ln ∧ d * m.per / m.ln ≤ 2000000 := by
  have b0 := mul_bd h0 h1 (show 0 ≤ m.per by have := hm.1; omega) hm.2.1
  have b1 := hm.2.2.2.2.1
  have b2 := hm.2.2.1
  have b3 : 0 ≤ d * m.per / m.ln := Int.ediv_nonneg b0.1 (by omega)
  have h4 : d * m.per ≤ 1000000 * (2 * m.ln) := Int.le_trans (Int.mul_le_mul_of_nonneg_left b1 h0) (Int.mul_le_mul_of_nonneg_right (by omega) (by omega))
  have h6 := Int.ediv_le_ediv (show 0 < m.ln by omega) h4
  have h7 : 1000000 * (2 * m.ln) / m.ln = 2000000 := by rw [← Int.mul_assoc]; exact Int.mul_ediv_cancel _ (by omega)
  unfold nxS erF
  split <;> omega
variable {w W W' : World} {g : Nat} {m : Mo} {d v8 v9 : Int}
theorem NxI.ext (h : NxI w W g m d v8 v9) (hb : Below W.heap.size W W') : NxI w W' g m d v8 v9 := ⟨h.low.trans (hb.mono h.low.size), h.bm.ext hb, h.bd.ext hb, h.k8.ext hb, h.k9.ext hb⟩
theorem NxI.out (h : NxI w W g m d v8 v9) {a b : Nat} (ho : OutK a b W W') (ha : w.heap.size ≤ a) (hg : g + 3 < a) : NxI w W' g m d v8 v9 :=
  ⟨ho.below h.low ha (Nat.le_refl _), ho.blk h.bm (by omega), ho.blk h.bd (by omega), ho.blk h.k8 (by omega), ho.blk h.k9 (by omega)⟩
theorem NxI.set (h : NxI w W g m d v8 v9) (hg : w.heap.size ≤ g) (a b : Int) : NxI w ((W.setCell ⟨g + 2, 0, none⟩ (.int .i64 a)).setCell ⟨g + 3, 0, none⟩ (.int .i64 b)) g m d a b :=
  ⟨(h.low.setCell (by dsimp only; omega) _).setCell (by dsimp only; omega) _, (h.bm.far (p := ⟨g + 2, 0, none⟩) (fun e => by dsimp only at e; omega) _).far (p := ⟨g + 3, 0, none⟩) (fun e => by dsimp only at e; omega) _,
    (h.bd.far (p := ⟨g + 2, 0, none⟩) (fun e => by dsimp only at e; omega) _).far (p := ⟨g + 3, 0, none⟩) (fun e => by dsimp only at e; omega) _,
    (show Blk (W.setCell ⟨g + 2, 0, none⟩ (.int .i64 a)) (g + 2) 3 #[.int .i64 a] by simpa using h.k8.set_ 0 (.int .i64 a)).far (p := ⟨g + 3, 0, none⟩) (fun e => by dsimp only at e; omega) _,
    by simpa using (h.k9.far (p := ⟨g + 2, 0, none⟩) (fun e => by dsimp only at e; omega) (.int .i64 a)).set_ 0 (.int .i64 b)⟩
theorem find_pre {α : Type} {P : α → Bool} {p0 L : List α} {x : α} (h : p0 ++ [x] <+: L) (h1 : ∀ y ∈ p0, P y = false) (h2 : P x = true) : L.find? P = some x := by
  obtain ⟨t, rfl⟩ := h
  rw [List.append_assoc, List.find?_append, List.find?_eq_none.2 (fun y hy => by rw [h1 y hy]; exact Bool.false_ne_true)]
  simp [h2]
theorem Next_any (m : Mo) (d : Int) (dark : Bool) (num : Int) (w : World) :
    Calls Tryd.prog 39 #[.agg #[.int .i64 m.ln, .int .i64 m.per, .int .i64 m.ph], .int .i64 d, .bool dark, .int .i64 num] w fun e w' => e = .returned (.tuple #[.int .i64 (nxR m d dark num).1, .int .i64 (nxR m d dark num).2]) ∧ Below w.heap.size w w' := by
  have HC := hide (fun W => checkMoon_any m W)
  have HT := hide (fun W => isTime_any d W)
  refine (callsIn_wide (n := 9)).1 ?_
  obtain ⟨F, hFw⟩ : ∃ F : Fence, F = Fence.wide := ⟨_, rfl⟩
  rw [← hFw]
  have hF : ∀ f, F.fn f := by rw [hFw]; exact fun _ => trivial
  have hro : F.round = none := by rw [hFw]; rfl
  have hwd : ∀ {n f args w R}, Calls Tryd.prog f args w R → CallsIn F n Tryd.prog f args w R := by rw [hFw]; exact fun h => callsIn_wide.2 h
  clear hFw
  have hb1 : Below w.heap.size w ((((w.alloc (.cells #[.int .i64 m.ln, .int .i64 m.per, .int .i64 m.ph] 47)).alloc (.cells #[.int .i64 d] 3)).alloc (.cells #[.int .i64 0] 3)).alloc (.cells #[.int .i64 0] 28)) := ((((Below.refl _ _).alloc (Nat.le_refl _) _).alloc (by simp) _).alloc (by simp; omega) _).alloc (by simp; omega) _
  obtain ⟨g, hg⟩ : ∃ g, w.heap.size = g := ⟨_, rfl⟩
  have HG := hide hg.symm
  have I1 : Hid (NxI w ((((w.alloc (.cells #[.int .i64 m.ln, .int .i64 m.per, .int .i64 m.ph] 47)).alloc (.cells #[.int .i64 d] 3)).alloc (.cells #[.int .i64 0] 3)).alloc (.cells #[.int .i64 0] 28)) g m d 0 0) := hide (by
    have h1 := Blk.new w 47 #[.int .i64 m.ln, .int .i64 m.per, .int .i64 m.ph]
    have h2 := Blk.new (w.alloc (.cells #[.int .i64 m.ln, .int .i64 m.per, .int .i64 m.ph] 47)) 3 #[.int .i64 d]
    have h3 := Blk.new ((w.alloc (.cells #[.int .i64 m.ln, .int .i64 m.per, .int .i64 m.ph] 47)).alloc (.cells #[.int .i64 d] 3)) 3 #[.int .i64 0]
    have h4 := Blk.new (((w.alloc (.cells #[.int .i64 m.ln, .int .i64 m.per, .int .i64 m.ph] 47)).alloc (.cells #[.int .i64 d] 3)).alloc (.cells #[.int .i64 0] 3)) 28 #[.int .i64 0]
    rw [World.size_alloc] at h2
    rw [World.size_alloc, World.size_alloc] at h3
    rw [World.size_alloc, World.size_alloc, World.size_alloc] at h4
    rw [hg] at h1 h2 h3 h4
    exact ⟨hb1, ((h1.alloc _).alloc _).alloc _, (h2.alloc _).alloc _, h3.alloc _, h4⟩)
  refine callsIn_of_wp_marks Tryd.func39 rfl (hF _) ?_ hro
  simp only [Tryd.ntmps39, List.size_toArray, List.length_cons, List.length_nil, Nat.reduceAdd, Nat.reduceSub, Array.replicate_succ, Array.replicate_zero, List.push_toArray, List.append_toArray, List.nil_append, List.cons_append]
  clear hb1
  have HS0 := hide (fun (h : m.ok) => nx_start h (d := d) (dark := dark) (num := num))
  have HSEQ := hide (fun (h : m.ok) f (h1 : 0 ≤ f) (h2 : f ≤ 3000000) pf pt ps pm W => dy_seq F (9 - 1) hF hro hwd (by omega) pf pt ps pm m h f 1000000 30 ⟨h1, h2⟩ (Int.le_refl _) (by omega) W)
  unfold nxR
  by_cases hm : m.ok
  rotate_left
  · rw [moB_no hm] at HC
    rw [if_neg hm]
    clear hm HS0 HSEQ
    gi_wp2_with fail
    (try simp only [World.size_alloc])
    (try rw [hg])
    clear hg
    (try simp only [Nat.add_assoc, Nat.reduceAdd])
    generalize ((((w.alloc (.cells #[.int .i64 m.ln, .int .i64 m.per, .int .i64 m.ph] 47)).alloc (.cells #[.int .i64 d] 3)).alloc (.cells #[.int .i64 0] 3)).alloc (.cells #[.int .i64 0] 28)) = w1 at I1 ⊢
    (with_reducible refine (hwd (HC.out _)).mono ?_)
    rintro e w2 ⟨rfl, hb⟩
    have I2 := hide (I1.out.ext hb)
    clear hb
    obtain ⟨z0, c0, c1, c2, f0⟩ := blk3 I2.out.bm
    obtain ⟨z1, c3, f1⟩ := blk1 I2.out.bd
    obtain ⟨z2, c4, f2⟩ := blk1 I2.out.k8
    obtain ⟨z3, c5, f3⟩ := blk1 I2.out.k9
    (try dsimp only)
    (repeat (first | go_values | gi_guarded | gi_step | gi_upon))
    have HS := I2.out.set (Nat.le_of_eq HG.out.symm) 0 2
    obtain ⟨-, r8, -⟩ := blk1 HS.k8
    obtain ⟨-, r9, -⟩ := blk1 HS.k9
    refine ⟨.tuple #[.int .i64 0, .int .i64 2], by simp [results, Tryd.results39, go_sem, r8, r9], ?_⟩
    exact ⟨rfl, HS.low⟩
  rw [moB_yes hm] at HC
  rw [if_pos hm]
  by_cases harg : tmB d = true ∧ 1 ≤ num ∧ num ≤ 15
  rotate_left
  · rw [if_neg harg]
    clear HS0 HSEQ
    gi_wp2_with fail
    (try simp only [World.size_alloc])
    (try rw [hg])
    clear hg
    (try simp only [Nat.add_assoc, Nat.reduceAdd])
    generalize ((((w.alloc (.cells #[.int .i64 m.ln, .int .i64 m.per, .int .i64 m.ph] 47)).alloc (.cells #[.int .i64 d] 3)).alloc (.cells #[.int .i64 0] 3)).alloc (.cells #[.int .i64 0] 28)) = w1 at I1 ⊢
    (with_reducible refine (hwd (HC.out _)).mono ?_)
    rintro e w2 ⟨rfl, hb⟩
    have I2 := hide (I1.out.ext hb)
    clear hb
    obtain ⟨z0, c0, c1, c2, f0⟩ := blk3 I2.out.bm
    obtain ⟨z1, c3, f1⟩ := blk1 I2.out.bd
    obtain ⟨z2, c4, f2⟩ := blk1 I2.out.k8
    obtain ⟨z3, c5, f3⟩ := blk1 I2.out.k9
    rcases htm : tmB d with _ | _
    · rw [htm] at HT
      clear harg htm
      (try dsimp only)
      (repeat (first | go_values | gi_guarded | gi_step | gi_upon))
      (with_reducible refine (hwd (HT.out _)).mono ?_)
      rintro e w3 ⟨rfl, rfl⟩
      (try dsimp only)
      (repeat (first | go_values | gi_guarded | gi_step | gi_upon))
      have HS := I2.out.set (Nat.le_of_eq HG.out.symm) 0 3
      obtain ⟨-, r8, -⟩ := blk1 HS.k8
      obtain ⟨-, r9, -⟩ := blk1 HS.k9
      refine ⟨.tuple #[.int .i64 0, .int .i64 3], by simp [results, Tryd.results39, go_sem, r8, r9], ?_⟩
      exact ⟨rfl, HS.low⟩
    · rw [htm] at HT
      have harg' : ¬ (1 ≤ num ∧ num ≤ 15) := fun h => harg ⟨htm, h⟩
      rcases (by omega : num < 1 ∨ ¬ num < 1 ∧ 15 < num) with h1 | ⟨h1, h2⟩
      · clear harg harg' htm
        (try dsimp only)
        (repeat (first | go_values | gi_guarded | gi_step | gi_upon))
        (with_reducible refine (hwd (HT.out _)).mono ?_)
        rintro e w3 ⟨rfl, rfl⟩
        (try dsimp only)
        (repeat (first | go_values | gi_guarded | gi_step | gi_upon))
        have HS := I2.out.set (Nat.le_of_eq HG.out.symm) 0 3
        obtain ⟨-, r8, -⟩ := blk1 HS.k8
        obtain ⟨-, r9, -⟩ := blk1 HS.k9
        refine ⟨.tuple #[.int .i64 0, .int .i64 3], by simp [results, Tryd.results39, go_sem, r8, r9], ?_⟩
        exact ⟨rfl, HS.low⟩
      · clear harg harg' htm
        (try dsimp only)
        (repeat (first | go_values | gi_guarded | gi_step | gi_upon))
        (with_reducible refine (hwd (HT.out _)).mono ?_)
        rintro e w3 ⟨rfl, rfl⟩
        (try dsimp only)
        (repeat (first | go_values | gi_guarded | gi_step | gi_upon))
        have HS := I2.out.set (Nat.le_of_eq HG.out.symm) 0 3
        obtain ⟨-, r8, -⟩ := blk1 HS.k8
        obtain ⟨-, r9, -⟩ := blk1 HS.k9
        refine ⟨.tuple #[.int .i64 0, .int .i64 3], by simp [results, Tryd.results39, go_sem, r8, r9], ?_⟩
        exact ⟨rfl, HS.low⟩
  rw [if_pos harg]
  obtain ⟨htm, hn1, hn2⟩ := harg
  rw [htm] at HT
  obtain ⟨hd0, hd1⟩ := tm_iff.1 htm
  obtain ⟨s1, s2, s3, s4⟩ := HS0.out hm hd0 hd1 hn1 hn2
  replace HSEQ := hide (fun pf pt ps pm W => HSEQ.out hm (nxS m d dark num) s1 s2 pf pt ps pm W)
  have HDF := hide (fun f W => daysF_any m f 1000000 30 W)
  have hq0 := mul_bd hd0 hd1 (show 0 ≤ m.per by have := hm.1; omega) hm.2.1
  have hl1 := hm.2.2.1
  obtain ⟨q, hq⟩ : ∃ q, d * m.per = q := ⟨_, rfl⟩
  rw [hq] at hq0 s3 s4
  have hwq : IntKind.i64.wrap (d * m.per) = q := by rw [hq]; exact IntWalk.i64_in _ (by omega)
  have hst : nxS m d dark num = (if dark then num - 1 + 15 else num - 1) + max 0 (q / m.ln - 3) / 30 * 30 := by rw [← hq]; rfl
  obtain ⟨f0, hf0⟩ : ∃ f, nxS m d dark num = f := ⟨_, rfl⟩
  rw [hf0] at hst s1 s2 HSEQ ⊢
  clear hm HS0 htm hf0
  generalize hRR : nxO m d (dyL f0 1000000 30) = RR
  have HRR := hide hRR
  clear hRR
  gi_wp2_with fail
  (try simp only [World.size_alloc])
  (try rw [hg])
  clear hg
  (try simp only [Nat.add_assoc, Nat.reduceAdd])
  generalize ((((w.alloc (.cells #[.int .i64 m.ln, .int .i64 m.per, .int .i64 m.ph] 47)).alloc (.cells #[.int .i64 d] 3)).alloc (.cells #[.int .i64 0] 3)).alloc (.cells #[.int .i64 0] 28)) = w1 at I1 ⊢
  (with_reducible refine (hwd (HC.out _)).mono ?_)
  rintro e w2 ⟨rfl, hb⟩
  have I2 := hide (I1.out.ext hb)
  clear hb
  obtain ⟨z0, c0, c1, c2, f0⟩ := blk3 I2.out.bm
  obtain ⟨z1, c3, f1⟩ := blk1 I2.out.bd
  obtain ⟨z2, c4, f2⟩ := blk1 I2.out.k8
  obtain ⟨z3, c5, f3⟩ := blk1 I2.out.k9
  (try dsimp only)
  (repeat (first | go_values | gi_guarded | gi_step | gi_upon))
  (with_reducible refine (hwd (HT.out _)).mono ?_)
  rintro e w3 ⟨rfl, rfl⟩
  have HLT : Hid (g + 3 < w2.heap.size) := hide I2.out.k9.lt
  cases dark with
  | true =>
    rw [if_pos rfl] at hst
    subst hst
    (try dsimp only)
    (repeat (first | go_values | gi_guarded | gi_step | gi_upon))
    (with_reducible refine (hwd (HDF.out _ _)).mono ?_)
    rintro e w4 ⟨rfl, hdb, hb, hz⟩
    have I4 := hide (I2.out.ext hb)
    obtain ⟨pm, hpm⟩ : ∃ pm, w2.heap.size = pm := ⟨_, rfl⟩
    rw [hpm] at hdb hz HLT ⊢
    have DB := hide hdb
    have HZ4 := hide hz
    clear hb hdb hz hpm I2 I1 HC HT HDF
    clear z0 c0 c1 c2 f0 z1 c3 f1 z2 c4 f2 z3 c5 f3
    (try dsimp only)
    (repeat (first | go_values | gi_guarded | gi_step | gi_upon))
    have hst := HSEQ.out (pm + 1) (pm + 2) (pm + 3) pm w4
    clear HSEQ
    obtain ⟨A, hA⟩ : ∃ A, w4.heap.size = A := ⟨_, rfl⟩
    have HA : Hid (pm + 3 < A) := hide (by rw [← hA]; exact HZ4.out)
    refine wpIn_rangeFunc_z hro (by omega) (gf := 104) (fs := #[]) (lb := #[.pointer (some ⟨pm + 1, 0, none⟩), .pointer (some ⟨pm + 2, 0, none⟩), .pointer (some ⟨pm + 3, 0, none⟩), .pointer (some ⟨pm, 0, none⟩)]) rfl (hF _) (enters_of Tryd.func104 (by kernel_rfl) rfl) hst (Below.refl _ _) (fun _ => rfl)
      (fun _ pre W => NxI w W g m d 0 0 ∧ DyB W pm m (num - 1 + 15 + max 0 (q / m.ln - 3) / 30 * 30) 1000000 30 ∧ ∀ x ∈ pre, ¬ d ≤ (flF m x).1)
      (fun c pre W => c = .ret ∧ ∃ x pre0, pre = pre0 ++ [x] ∧ (∀ y ∈ pre0, ¬ d ≤ (flF m y).1) ∧ d ≤ (flF m x).1 ∧ NxI w W g m d (flF m x).1 0) ?hZ ?hI0 ?hI ?hIx
      (fun M x a' W => ∃ g14, a' = { tmps := #[.agg #[.int .i64 m.ln, .int .i64 m.per, .int .i64 m.ph], .int .i64 d, .bool true, .int .i64 num, .pointer (some ⟨g, 0, none⟩), .pointer (some ⟨g + 1, 0, none⟩), undef, undef, .pointer (some ⟨g + 2, 0, none⟩), .pointer (some ⟨g + 3, 0, none⟩), .int .i64 0, .int .i64 (num - 1 + 15), .int .i64 (max 0 (q / m.ln - 3)), undef, .pointer (some ⟨g14, 0, none⟩), .agg #[.int .i64 m.ln, .int .i64 m.per, .int .i64 m.ph], .int .i64 0, .int .i64 0, .bool false, undef, .int .i64 d, .bool true, .bool false, .bool false, .int .i64 num, .bool (decide (num < 1)), .bool (decide (num < 1)), .bool (decide (num < 1)), .int .i64 num, .bool (decide (15 < num)), .bool (decide (num < 1) || decide (15 < num)), .int .i64 num, .int .i64 (num - 1), .bool true, .int .i64 (num - 1), .int .i64 (num - 1 + 15), .int .i64 d, .pointer (some ⟨g, 1, none⟩), .int .i64 m.per, .int .i64 q, .pointer (some ⟨g, 0, none⟩), .int .i64 m.ln, .int .i64 (q / m.ln), .int .i64 (q / m.ln - 3), .int .i64 (max 0 (q / m.ln - 3)), .agg #[.int .i64 m.ln, .int .i64 m.per, .int .i64 m.ph], .agg #[.int .i64 m.ln, .int .i64 m.per, .int .i64 m.ph], .int .i64 (num - 1 + 15), .int .i64 (max 0 (q / m.ln - 3)), .int .i64 (max 0 (q / m.ln - 3) / 30), .int .i64 (max 0 (q / m.ln - 3) / 30 * 30), .int .i64 (num - 1 + 15 + max 0 (q / m.ln - 3) / 30 * 30), .func (.func 104) #[] #[.pointer (some ⟨pm + 1, 0, none⟩), .pointer (some ⟨pm + 2, 0, none⟩), .pointer (some ⟨pm + 3, 0, none⟩), .pointer (some ⟨pm, 0, none⟩)], .int .i64 x, .agg #[.int .i64 (flF m x).1, .int .i64 (flF m x).2], undef, undef, undef, undef, undef, undef], defers := [] } ∧ M ≤ g14 ∧ Blk W g14 124 #[.int .i64 (flF m x).1, .int .i64 (flF m x).2])
      ?hAx ?hassign ?hbody ?hdone ?hstop
    case hZ =>
      rintro M pre W ⟨h1, h2, h3⟩
      exact h2.z
    case hI0 =>
      intro W1 h1 _
      exact ⟨I4.out.ext h1, DB.out.ext h1, fun x hx => by cases hx⟩
    case hI =>
      rintro M pre W1 W2 ⟨h1, h2, h3⟩ ho
      rw [hA] at ho
      have e1 := HA.out
      have e2 := HLT.out
      have e3 : w.heap.size ≤ g := Nat.le_of_eq HG.out.symm
      exact ⟨h1.out ho (by omega) (by omega), h2.out ho (by omega), h3⟩
    case hIx =>
      rintro c pre W1 W2 ⟨rfl, x, p0, h1, h2, h3, h4⟩ ho
      rw [hA] at ho
      have e1 := HA.out
      have e2 := HLT.out
      have e3 : w.heap.size ≤ g := Nat.le_of_eq HG.out.symm
      exact ⟨rfl, x, p0, h1, h2, h3, h4.out ho (by omega) (by omega)⟩
    case hAx =>
      rintro M x a' W1 W2 ⟨g14, rfl, h1, h2⟩ ho
      exact ⟨g14, rfl, h1, ho.blk h2 (by omega)⟩
    case hassign =>
      intro l M pre x W K hMW hI hK
      have HK2 := hide hK
      clear hK
      unfold dyE
      gi_wp2_with fail
      have hbn : Below W.heap.size W (W.alloc (.cells #[.int .i64 (flF m x).1, .int .i64 (flF m x).2] 124)) := (Below.refl _ _).alloc (Nat.le_refl _) _
      refine HK2.out _ _ (KeepB.of_below hbn hMW) ⟨hI.1.ext hbn, hI.2.1.ext hbn, hI.2.2⟩ ⟨W.heap.size, rfl, hMW, ?_⟩
      exact Blk.new W _ _
    case hbody =>
      rintro l M pre x a' W hM2 hMW hpre ⟨hS, h5, h6⟩ ⟨g14, rfl, hg14, hk14⟩
      rw [hA] at hM2
      obtain ⟨y0, y1, y2, y3⟩ := blk2 hk14
      obtain ⟨fd, hfd⟩ : ∃ f, (flF m x).1 = f := ⟨_, rfl⟩
      obtain ⟨fh, hfh⟩ : ∃ f, (flF m x).2 = f := ⟨_, rfl⟩
      rw [hfd] at y1
      rw [hfd, hfh]
      have HFD := hide hfd
      have HS := hide hS
      have H5 := hide h5
      have H6 := hide h6
      have e1 := HA.out
      have e2 := HLT.out
      have e3 : w.heap.size ≤ g := Nat.le_of_eq HG.out.symm
      obtain ⟨z0, c0, c1, c2, f0⟩ := blk3 HS.out.bm
      obtain ⟨z1, c3, f1⟩ := blk1 HS.out.bd
      obtain ⟨z2, c4, f2⟩ := blk1 HS.out.k8
      obtain ⟨z3, c5, f3⟩ := blk1 HS.out.k9
      clear hfd hfh hS h5 h6 hpre hst
      by_cases hle : d ≤ fd
      · have hSS := HS.out.set (Nat.le_of_eq HG.out.symm) fd 0
        have hKB : KeepB A M W ((W.setCell ⟨g + 2, 0, none⟩ (.int .i64 fd)).setCell ⟨g + 3, 0, none⟩ (.int .i64 0)) := (KeepB.set W (by omega) 0 _).trans (KeepB.set _ (by omega) 0 _)
        have HSS := hide hSS
        have HKB := hide hKB
        clear hSS hKB
        gi_wp2_with fail
        refine ⟨by first | exact HKB.out | (rw [hA]; exact HKB.out), rfl, x, pre, rfl, H6.out, by rw [HFD.out]; exact hle, by rw [HFD.out]; exact HSS.out⟩
      · gi_wp2_with fail
        refine ⟨KeepB.refl _ _ _, HS.out, H5.out, fun y hy => ?_⟩
        rcases List.mem_append.1 hy with h | h
        · exact H6.out y h
        · rw [List.mem_singleton] at h
          rw [h, HFD.out]
          exact hle
    case hdone =>
      rintro D M W hD ⟨hS, h5, h6⟩ hK
      rw [hA] at hD
      have e1 := HA.out
      have e2 := HLT.out
      have e3 : w.heap.size ≤ g := Nat.le_of_eq HG.out.symm
      have hR : RR = (0, 7) := by
        rw [← HRR.out]
        unfold nxO
        rw [List.find?_eq_none.2 (fun x hx => by simpa using h6 x hx)]
      have HS := hide hS
      have HSS := hide (hS.set (Nat.le_of_eq HG.out.symm) 0 7)
      have HK : Hid (((W.setCell ⟨g + 2, 0, none⟩ (.int .i64 0)).setCell ⟨g + 3, 0, none⟩ (.int .i64 7)).heap[D]? = some (.deferred (some []))) := hide ((Below.heap_setCell _ _ _ D (by dsimp only; omega)).trans ((Below.heap_setCell _ _ _ D (by dsimp only; omega)).trans hK))
      obtain ⟨z0, c0, c1, c2, f0⟩ := blk3 HS.out.bm
      obtain ⟨z1, c3, f1⟩ := blk1 HS.out.bd
      obtain ⟨z2, c4, f2⟩ := blk1 HS.out.k8
      obtain ⟨z3, c5, f3⟩ := blk1 HS.out.k9
      have HRE := hide hR
      clear hS h5 h6 hK hst hR
      gi_wp2_with fail
      refine ⟨by simp, .inl ⟨_, _, rfl, run_takeDeferred HK.out, ?_⟩⟩
      have hS2 := HSS.out.out (OutK.putObj ((W.setCell ⟨g + 2, 0, none⟩ (.int .i64 0)).setCell ⟨g + 3, 0, none⟩ (.int .i64 7)) (a := D) (b := D + 1) (g := D) (Nat.le_refl _) (by omega) (.deferred none)) (by omega) (by omega)
      obtain ⟨-, r8, -⟩ := blk1 hS2.k8
      obtain ⟨-, r9, -⟩ := blk1 hS2.k9
      refine ⟨.tuple #[.int .i64 0, .int .i64 7], by simp [results, Tryd.results39, go_sem, r8, r9], ?_⟩
      exact ⟨by rw [HRE.out], hS2.low⟩
    case hstop =>
      rintro D c pre W hD hSp ⟨rfl, x, p0, rfl, h2, h3, h4⟩ hK
      rw [hA] at hD
      have e1 := HA.out
      have e2 := HLT.out
      have e3 : w.heap.size ≤ g := Nat.le_of_eq HG.out.symm
      have hR : RR = ((flF m x).1, 0) := by
        rw [← HRR.out]
        unfold nxO
        rw [find_pre hSp (fun y hy => by simpa using h2 y hy) (by simpa using h3)]
      have HRE := hide hR
      have H4 := hide h4
      clear hR h2 h3 h4 hst hSp
      gi_wp2_with fail
      refine ⟨by simp, .inl ⟨_, _, rfl, run_takeDeferred hK, ?_⟩⟩
      have hS2 := H4.out.out (OutK.putObj W (a := D) (b := D + 1) (g := D) (Nat.le_refl _) (by omega) (.deferred none)) (by omega) (by omega)
      obtain ⟨-, r8, -⟩ := blk1 hS2.k8
      obtain ⟨-, r9, -⟩ := blk1 hS2.k9
      refine ⟨.tuple #[.int .i64 (flF m x).1, .int .i64 0], by simp [results, Tryd.results39, go_sem, r8, r9], ?_⟩
      exact ⟨by rw [HRE.out], hS2.low⟩
  | false =>
    rw [if_neg Bool.false_ne_true] at hst
    subst hst
    (try dsimp only)
    (repeat (first | go_values | gi_guarded | gi_step | gi_upon))
    (with_reducible refine (hwd (HDF.out _ _)).mono ?_)
    rintro e w4 ⟨rfl, hdb, hb, hz⟩
    have I4 := hide (I2.out.ext hb)
    obtain ⟨pm, hpm⟩ : ∃ pm, w2.heap.size = pm := ⟨_, rfl⟩
    rw [hpm] at hdb hz HLT ⊢
    have DB := hide hdb
    have HZ4 := hide hz
    clear hb hdb hz hpm I2 I1 HC HT HDF
    clear z0 c0 c1 c2 f0 z1 c3 f1 z2 c4 f2 z3 c5 f3
    (try dsimp only)
    (repeat (first | go_values | gi_guarded | gi_step | gi_upon))
    have hst := HSEQ.out (pm + 1) (pm + 2) (pm + 3) pm w4
    clear HSEQ
    obtain ⟨A, hA⟩ : ∃ A, w4.heap.size = A := ⟨_, rfl⟩
    have HA : Hid (pm + 3 < A) := hide (by rw [← hA]; exact HZ4.out)
    refine wpIn_rangeFunc_z hro (by omega) (gf := 104) (fs := #[]) (lb := #[.pointer (some ⟨pm + 1, 0, none⟩), .pointer (some ⟨pm + 2, 0, none⟩), .pointer (some ⟨pm + 3, 0, none⟩), .pointer (some ⟨pm, 0, none⟩)]) rfl (hF _) (enters_of Tryd.func104 (by kernel_rfl) rfl) hst (Below.refl _ _) (fun _ => rfl)
      (fun _ pre W => NxI w W g m d 0 0 ∧ DyB W pm m (num - 1 + max 0 (q / m.ln - 3) / 30 * 30) 1000000 30 ∧ ∀ x ∈ pre, ¬ d ≤ (flF m x).1)
      (fun c pre W => c = .ret ∧ ∃ x pre0, pre = pre0 ++ [x] ∧ (∀ y ∈ pre0, ¬ d ≤ (flF m y).1) ∧ d ≤ (flF m x).1 ∧ NxI w W g m d (flF m x).1 0) ?hZ ?hI0 ?hI ?hIx
      (fun M x a' W => ∃ g14, a' = { tmps := #[.agg #[.int .i64 m.ln, .int .i64 m.per, .int .i64 m.ph], .int .i64 d, .bool false, .int .i64 num, .pointer (some ⟨g, 0, none⟩), .pointer (some ⟨g + 1, 0, none⟩), undef, undef, .pointer (some ⟨g + 2, 0, none⟩), .pointer (some ⟨g + 3, 0, none⟩), .int .i64 0, .int .i64 (num - 1), .int .i64 (max 0 (q / m.ln - 3)), undef, .pointer (some ⟨g14, 0, none⟩), .agg #[.int .i64 m.ln, .int .i64 m.per, .int .i64 m.ph], .int .i64 0, .int .i64 0, .bool false, undef, .int .i64 d, .bool true, .bool false, .bool false, .int .i64 num, .bool (decide (num < 1)), .bool (decide (num < 1)), .bool (decide (num < 1)), .int .i64 num, .bool (decide (15 < num)), .bool (decide (num < 1) || decide (15 < num)), .int .i64 num, .int .i64 (num - 1), .bool false, undef, undef, .int .i64 d, .pointer (some ⟨g, 1, none⟩), .int .i64 m.per, .int .i64 q, .pointer (some ⟨g, 0, none⟩), .int .i64 m.ln, .int .i64 (q / m.ln), .int .i64 (q / m.ln - 3), .int .i64 (max 0 (q / m.ln - 3)), .agg #[.int .i64 m.ln, .int .i64 m.per, .int .i64 m.ph], .agg #[.int .i64 m.ln, .int .i64 m.per, .int .i64 m.ph], .int .i64 (num - 1), .int .i64 (max 0 (q / m.ln - 3)), .int .i64 (max 0 (q / m.ln - 3) / 30), .int .i64 (max 0 (q / m.ln - 3) / 30 * 30), .int .i64 (num - 1 + max 0 (q / m.ln - 3) / 30 * 30), .func (.func 104) #[] #[.pointer (some ⟨pm + 1, 0, none⟩), .pointer (some ⟨pm + 2, 0, none⟩), .pointer (some ⟨pm + 3, 0, none⟩), .pointer (some ⟨pm, 0, none⟩)], .int .i64 x, .agg #[.int .i64 (flF m x).1, .int .i64 (flF m x).2], undef, undef, undef, undef, undef, undef], defers := [] } ∧ M ≤ g14 ∧ Blk W g14 124 #[.int .i64 (flF m x).1, .int .i64 (flF m x).2])
      ?hAx ?hassign ?hbody ?hdone ?hstop
    case hZ =>
      rintro M pre W ⟨h1, h2, h3⟩
      exact h2.z
    case hI0 =>
      intro W1 h1 _
      exact ⟨I4.out.ext h1, DB.out.ext h1, fun x hx => by cases hx⟩
    case hI =>
      rintro M pre W1 W2 ⟨h1, h2, h3⟩ ho
      rw [hA] at ho
      have e1 := HA.out
      have e2 := HLT.out
      have e3 : w.heap.size ≤ g := Nat.le_of_eq HG.out.symm
      exact ⟨h1.out ho (by omega) (by omega), h2.out ho (by omega), h3⟩
    case hIx =>
      rintro c pre W1 W2 ⟨rfl, x, p0, h1, h2, h3, h4⟩ ho
      rw [hA] at ho
      have e1 := HA.out
      have e2 := HLT.out
      have e3 : w.heap.size ≤ g := Nat.le_of_eq HG.out.symm
      exact ⟨rfl, x, p0, h1, h2, h3, h4.out ho (by omega) (by omega)⟩
    case hAx =>
      rintro M x a' W1 W2 ⟨g14, rfl, h1, h2⟩ ho
      exact ⟨g14, rfl, h1, ho.blk h2 (by omega)⟩
    case hassign =>
      intro l M pre x W K hMW hI hK
      have HK2 := hide hK
      clear hK
      unfold dyE
      gi_wp2_with fail
      have hbn : Below W.heap.size W (W.alloc (.cells #[.int .i64 (flF m x).1, .int .i64 (flF m x).2] 124)) := (Below.refl _ _).alloc (Nat.le_refl _) _
      refine HK2.out _ _ (KeepB.of_below hbn hMW) ⟨hI.1.ext hbn, hI.2.1.ext hbn, hI.2.2⟩ ⟨W.heap.size, rfl, hMW, ?_⟩
      exact Blk.new W _ _
    case hbody =>
      rintro l M pre x a' W hM2 hMW hpre ⟨hS, h5, h6⟩ ⟨g14, rfl, hg14, hk14⟩
      rw [hA] at hM2
      obtain ⟨y0, y1, y2, y3⟩ := blk2 hk14
      obtain ⟨fd, hfd⟩ : ∃ f, (flF m x).1 = f := ⟨_, rfl⟩
      obtain ⟨fh, hfh⟩ : ∃ f, (flF m x).2 = f := ⟨_, rfl⟩
      rw [hfd] at y1
      rw [hfd, hfh]
      have HFD := hide hfd
      have HS := hide hS
      have H5 := hide h5
      have H6 := hide h6
      have e1 := HA.out
      have e2 := HLT.out
      have e3 : w.heap.size ≤ g := Nat.le_of_eq HG.out.symm
      obtain ⟨z0, c0, c1, c2, f0⟩ := blk3 HS.out.bm
      obtain ⟨z1, c3, f1⟩ := blk1 HS.out.bd
      obtain ⟨z2, c4, f2⟩ := blk1 HS.out.k8
      obtain ⟨z3, c5, f3⟩ := blk1 HS.out.k9
      clear hfd hfh hS h5 h6 hpre hst
      by_cases hle : d ≤ fd
      · have hSS := HS.out.set (Nat.le_of_eq HG.out.symm) fd 0
        have hKB : KeepB A M W ((W.setCell ⟨g + 2, 0, none⟩ (.int .i64 fd)).setCell ⟨g + 3, 0, none⟩ (.int .i64 0)) := (KeepB.set W (by omega) 0 _).trans (KeepB.set _ (by omega) 0 _)
        have HSS := hide hSS
        have HKB := hide hKB
        clear hSS hKB
        gi_wp2_with fail
        refine ⟨by first | exact HKB.out | (rw [hA]; exact HKB.out), rfl, x, pre, rfl, H6.out, by rw [HFD.out]; exact hle, by rw [HFD.out]; exact HSS.out⟩
      · gi_wp2_with fail
        refine ⟨KeepB.refl _ _ _, HS.out, H5.out, fun y hy => ?_⟩
        rcases List.mem_append.1 hy with h | h
        · exact H6.out y h
        · rw [List.mem_singleton] at h
          rw [h, HFD.out]
          exact hle
    case hdone =>
      rintro D M W hD ⟨hS, h5, h6⟩ hK
      rw [hA] at hD
      have e1 := HA.out
      have e2 := HLT.out
      have e3 : w.heap.size ≤ g := Nat.le_of_eq HG.out.symm
      have hR : RR = (0, 7) := by
        rw [← HRR.out]
        unfold nxO
        rw [List.find?_eq_none.2 (fun x hx => by simpa using h6 x hx)]
      have HS := hide hS
      have HSS := hide (hS.set (Nat.le_of_eq HG.out.symm) 0 7)
      have HK : Hid (((W.setCell ⟨g + 2, 0, none⟩ (.int .i64 0)).setCell ⟨g + 3, 0, none⟩ (.int .i64 7)).heap[D]? = some (.deferred (some []))) := hide ((Below.heap_setCell _ _ _ D (by dsimp only; omega)).trans ((Below.heap_setCell _ _ _ D (by dsimp only; omega)).trans hK))
      obtain ⟨z0, c0, c1, c2, f0⟩ := blk3 HS.out.bm
      obtain ⟨z1, c3, f1⟩ := blk1 HS.out.bd
      obtain ⟨z2, c4, f2⟩ := blk1 HS.out.k8
      obtain ⟨z3, c5, f3⟩ := blk1 HS.out.k9
      have HRE := hide hR
      clear hS h5 h6 hK hst hR
      gi_wp2_with fail
      refine ⟨by simp, .inl ⟨_, _, rfl, run_takeDeferred HK.out, ?_⟩⟩
      have hS2 := HSS.out.out (OutK.putObj ((W.setCell ⟨g + 2, 0, none⟩ (.int .i64 0)).setCell ⟨g + 3, 0, none⟩ (.int .i64 7)) (a := D) (b := D + 1) (g := D) (Nat.le_refl _) (by omega) (.deferred none)) (by omega) (by omega)
      obtain ⟨-, r8, -⟩ := blk1 hS2.k8
      obtain ⟨-, r9, -⟩ := blk1 hS2.k9
      refine ⟨.tuple #[.int .i64 0, .int .i64 7], by simp [results, Tryd.results39, go_sem, r8, r9], ?_⟩
      exact ⟨by rw [HRE.out], hS2.low⟩
    case hstop =>
      rintro D c pre W hD hSp ⟨rfl, x, p0, rfl, h2, h3, h4⟩ hK
      rw [hA] at hD
      have e1 := HA.out
      have e2 := HLT.out
      have e3 : w.heap.size ≤ g := Nat.le_of_eq HG.out.symm
      have hR : RR = ((flF m x).1, 0) := by
        rw [← HRR.out]
        unfold nxO
        rw [find_pre hSp (fun y hy => by simpa using h2 y hy) (by simpa using h3)]
      have HRE := hide hR
      have H4 := hide h4
      clear hR h2 h3 h4 hst hSp
      gi_wp2_with fail
      refine ⟨by simp, .inl ⟨_, _, rfl, run_takeDeferred hK, ?_⟩⟩
      have hS2 := H4.out.out (OutK.putObj W (a := D) (b := D + 1) (g := D) (Nat.le_refl _) (by omega) (.deferred none)) (by omega) (by omega)
      obtain ⟨-, r8, -⟩ := blk1 hS2.k8
      obtain ⟨-, r9, -⟩ := blk1 hS2.k9
      refine ⟨.tuple #[.int .i64 (flF m x).1, .int .i64 0], by simp [results, Tryd.results39, go_sem, r8, r9], ?_⟩
      exact ⟨by rw [HRE.out], hS2.low⟩
end Go.Proofs.YtlkkkgpcjdemdaaDoor
/- Song, plain: from one sunrise to the next. -/
namespace Go.Proofs.YtlkkkgpcjdemdaaDoor
open Go Go.RowKit Go.Shelf
set_option maxHeartbeats 2000000
set_option maxRecDepth 100000
theorem sr_next {m : Mo} (hm : m.ok) {d : Int} (hs : 0 ≤ snF m d) : 0 ≤ snF m (d + 1) ∧ 0 ≤ curF m d ∧ curF m d ≤ curF m (d + 1) ∧ curF m (d + 1) ≤ curF m d + 2 ∧ ahF m (curF m d) ≤ d ∧ d < ahF m (curF m d + 1) := by
  have h1 : 0 ≤ curF m d := by unfold curF; exact Int.ediv_nonneg hs (by have := hm.2.2.1; omega)
  have h2 := (ah_cur hm (curF m d) d).2 (Int.le_refl _)
  have h3 : d < ahF m (curF m d + 1) := by
    have := ah_cur hm (curF m d + 1) d
    omega
  have h4 := (ah_cur hm (curF m d) (d + 1)).1 (by omega)
  have h5 : 0 ≤ snF m (d + 1) := by unfold snF at *; rw [Int.add_mul]; have := hm.1; omega
  refine ⟨h5, h1, h4, ?_, h2, h3⟩
  have h6 := ah_far hm (show curF m d + 1 + 2 ≤ curF m d + 3 by omega)
  have h7 := ah_cur hm (curF m d + 3) (d + 1)
  omega
theorem sr_pass {m : Mo} (hm : m.ok) {d i : Int} (h1 : curF m d < i) (h2 : i < curF m (d + 1)) : flF m i = (d, 3) := by
  have h3 := ah_cur hm i d
  have h4 := (ah_cur hm (i + 1) (d + 1)).2 (by omega)
  have h5 := ah_mono hm (show i ≤ i + 1 by omega)
  exact fl_never (by omega) (by omega)
theorem hw_two {m : Mo} (hm : m.ok) (hl : m.ln ≤ m.per) (l : List Int) : hwL m 2 l = [] := by
  unfold hwL
  rw [List.filter_eq_nil_iff]
  intro x _
  have := ah_one hm hl x
  have h2 := ah_mono hm (show x ≤ x + 1 by omega)
  unfold flF
  rw [decide_eq_true_iff]
  split
  · dsimp only; omega
  · split
    · dsimp only; omega
    · omega
theorem hw_three {m : Mo} (hm : m.ok) (hl : m.per ≤ m.ln) (l : List Int) : hwL m 3 l = [] := by
  unfold hwL
  rw [List.filter_eq_nil_iff]
  intro x _
  have := ah_some hm hl x
  unfold flF
  rw [decide_eq_true_iff, if_neg (by omega)]
  split <;> (dsimp only; omega)
theorem odR_of {m : Mo} (hm : m.ok) {n : Int} (h0 : 0 ≤ n) (h1 : n ≤ 999997) : odR m n (n + 3) = (hwL m 3 (dyL n (n + 3) 1), hwL m 2 (dyL n (n + 3) 1), 0) := by
  unfold odR
  rw [if_pos hm, if_pos ⟨tm_iff.2 ⟨h0, by omega⟩, tm_iff.2 ⟨by omega, by omega⟩, by omega, by omega⟩]
  rfl
theorem fsF_of {m : Mo} (hm : m.ok) {n : Int} (h0 : 0 ≤ n) (h1 : n ≤ 1000000) : fsF m n = ((flF m n).1, (flF m n).2, 0) := by
  unfold fsF
  rw [if_pos hm, if_pos (tm_iff.2 ⟨h0, h1⟩)]
theorem nx_back {m : Mo} (hm : m.ok) {n : Int} (h0 : 0 ≤ n) (h1 : n ≤ 1000000) (ho : ahF m n ≤ 1000000) (hf : (flF m n).1 = ahF m n) (hc : curF m (ahF m n) = n) : nxR m (ahF m n) (n / 15 % 2 == 1) (n % 15 + 1) = (ahF m n, 0) := by
  have hlo : 0 ≤ ahF m n := by
    have := ah_lo hm h0 (by omega)
    exact this
  have hsn : 0 ≤ snF m (ahF m n) := by
    have h2 := (ah_le hm n (ahF m n)).1 (Int.le_refl _)
    have := Int.mul_nonneg h0 (show 0 ≤ m.ln by have := hm.2.2.1; omega)
    unfold snF; omega
  have he := er_cur hm hsn
  rw [hc] at he
  have he0 : 0 ≤ erF m (ahF m n) := by unfold erF; omega
  unfold nxR
  rw [if_pos hm, if_pos ⟨tm_iff.2 ⟨hlo, ho⟩, by omega, by omega⟩]
  have hst : nxS m (ahF m n) (n / 15 % 2 == 1) (n % 15 + 1) = n % 30 + erF m (ahF m n) / 30 * 30 := by
    unfold nxS
    by_cases hd : n / 15 % 2 = 1
    · rw [if_pos (by rw [hd]; rfl)]; omega
    · rw [if_neg (by simpa using hd)]; omega
  rw [hst]
  generalize erF m (ahF m n) = e at *
  obtain ⟨j, hj⟩ := Int.eq_ofNat_of_zero_le (show 0 ≤ n / 30 - e / 30 by omega)
  have hn : n % 30 + e / 30 * 30 + 30 * (j : Int) = n := by omega
  have hpre : dyP (n % 30 + e / 30 * 30) 30 j ++ [n] <+: dyL (n % 30 + e / 30 * 30) 1000000 30 := by
    have h5 : j < dyN (n % 30 + e / 30 * 30) 1000000 30 := (dyN_lt (by omega) j).2 (by omega)
    have h6 := dyP_pre (n % 30 + e / 30 * 30) 30 (j + 1) (dyN (n % 30 + e / 30 * 30) 1000000 30 - (j + 1))
    rw [dyP_succ, hn, show j + 1 + (dyN (n % 30 + e / 30 * 30) 1000000 30 - (j + 1)) = dyN (n % 30 + e / 30 * 30) 1000000 30 by omega] at h6
    exact h6
  unfold nxO
  rw [find_pre hpre (fun y hy => ?_) (by rw [hf]; simp)]
  · dsimp only
    rw [hf]
  · unfold dyP at hy
    obtain ⟨i, hi, rfl⟩ := List.mem_map.1 hy
    have hi := List.mem_range.1 hi
    rw [decide_eq_false_iff_not]
    have h7 := fl_le (m := m) (n % 30 + e / 30 * 30 + 30 * (i : Int))
    have h8 := ah_far hm (show n % 30 + e / 30 * 30 + 30 * (i : Int) + 2 ≤ n by omega)
    omega
end Go.Proofs.YtlkkkgpcjdemdaaDoor
/- Song: the reference's moons, walked. -/
namespace Go.Proofs.YtlkkkgpcjdemdaaDoor
open Go Go.RowKit Go.Shelf
set_option maxHeartbeats 4000000
set_option maxRecDepth 100000
theorem moB_f {m : Mo} (h : ¬ m.ok) : moB m = false := by unfold moB; simp [h]
theorem moB_t {m : Mo} (h : m.ok) : moB m = true := by unfold moB; simp [h]
theorem refMoon_any (m : Mo) (w : World) : Calls Tryd.prog 27 #[.agg #[.int .i64 m.ln, .int .i64 m.per, .int .i64 m.ph]] w fun e w' => e = .returned (.bool (moB m)) ∧ Below w.heap.size w w' := by
  obtain ⟨l, p, h⟩ := m
  obtain ⟨b, hb⟩ : ∃ b, moB ⟨l, p, h⟩ = b := ⟨_, rfl⟩
  rw [hb]
  dsimp only
  by_cases h1 : p < 1
  · obtain rfl : b = false := by rw [← hb]; exact moB_f (fun k => by have := k.1; dsimp only at this; omega)
    clear hb
    go_enter Tryd.func27, Tryd.ntmps27
    go_wp2_with fail
    go_ret
    first
      | exact ⟨rfl, (Below.refl _ _).alloc (Nat.le_refl _) _⟩
      | (refine ⟨?_, (Below.refl _ _).alloc (Nat.le_refl _) _⟩; show Ending.returned (.bool (decide (_ < _))) = _; rw [decide_eq_false (by omega)])
  by_cases h2 : 100000 < p
  · obtain rfl : b = false := by rw [← hb]; exact moB_f (fun k => by have := k.2.1; dsimp only at this; omega)
    clear hb
    go_enter Tryd.func27, Tryd.ntmps27
    go_wp2_with fail
    go_ret
    first
      | exact ⟨rfl, (Below.refl _ _).alloc (Nat.le_refl _) _⟩
      | (refine ⟨?_, (Below.refl _ _).alloc (Nat.le_refl _) _⟩; show Ending.returned (.bool (decide (_ < _))) = _; rw [decide_eq_false (by omega)])
  by_cases h3 : l < 1
  · obtain rfl : b = false := by rw [← hb]; exact moB_f (fun k => by have := k.2.2.1; dsimp only at this; omega)
    clear hb
    go_enter Tryd.func27, Tryd.ntmps27
    go_wp2_with fail
    go_ret
    first
      | exact ⟨rfl, (Below.refl _ _).alloc (Nat.le_refl _) _⟩
      | (refine ⟨?_, (Below.refl _ _).alloc (Nat.le_refl _) _⟩; show Ending.returned (.bool (decide (_ < _))) = _; rw [decide_eq_false (by omega)])
  by_cases h4 : 2 * p < l
  · obtain rfl : b = false := by rw [← hb]; exact moB_f (fun k => by have := k.2.2.2.1; dsimp only at this; omega)
    clear hb
    go_enter Tryd.func27, Tryd.ntmps27
    go_wp2_with fail
    go_ret
    first
      | exact ⟨rfl, (Below.refl _ _).alloc (Nat.le_refl _) _⟩
      | (refine ⟨?_, (Below.refl _ _).alloc (Nat.le_refl _) _⟩; show Ending.returned (.bool (decide (_ < _))) = _; rw [decide_eq_false (by omega)])
  by_cases h5 : 2 * l < p
  · obtain rfl : b = false := by rw [← hb]; exact moB_f (fun k => by have := k.2.2.2.2.1; dsimp only at this; omega)
    clear hb
    go_enter Tryd.func27, Tryd.ntmps27
    go_wp2_with fail
    go_ret
    first
      | exact ⟨rfl, (Below.refl _ _).alloc (Nat.le_refl _) _⟩
      | (refine ⟨?_, (Below.refl _ _).alloc (Nat.le_refl _) _⟩; show Ending.returned (.bool (decide (_ < _))) = _; rw [decide_eq_false (by omega)])
  by_cases h6 : h < 0
  · obtain rfl : b = false := by rw [← hb]; exact moB_f (fun k => by have := k.2.2.2.2.2.1; dsimp only at this; omega)
    clear hb
    go_enter Tryd.func27, Tryd.ntmps27
    go_wp2_with fail
    go_ret
    first
      | exact ⟨rfl, (Below.refl _ _).alloc (Nat.le_refl _) _⟩
      | (refine ⟨?_, (Below.refl _ _).alloc (Nat.le_refl _) _⟩; show Ending.returned (.bool (decide (_ < _))) = _; rw [decide_eq_false (by omega)])
  by_cases h7 : p ≤ h
  · obtain rfl : b = false := by rw [← hb]; exact moB_f (fun k => by have := k.2.2.2.2.2.2; dsimp only at this; omega)
    clear hb
    go_enter Tryd.func27, Tryd.ntmps27
    go_wp2_with fail
    go_ret
    first
      | exact ⟨rfl, (Below.refl _ _).alloc (Nat.le_refl _) _⟩
      | (refine ⟨?_, (Below.refl _ _).alloc (Nat.le_refl _) _⟩; show Ending.returned (.bool (decide (_ < _))) = _; rw [decide_eq_false (by omega)])
  obtain rfl : b = true := by rw [← hb]; exact moB_t ⟨by dsimp only; omega, by dsimp only; omega, by dsimp only; omega, by dsimp only; omega, by dsimp only; omega, by dsimp only; omega, by dsimp only; omega⟩
  clear hb
  go_enter Tryd.func27, Tryd.ntmps27
  go_wp2_with fail
  go_ret
  first
    | exact ⟨rfl, (Below.refl _ _).alloc (Nat.le_refl _) _⟩
    | (refine ⟨?_, (Below.refl _ _).alloc (Nat.le_refl _) _⟩; show Ending.returned (.bool (decide (_ < _))) = _; rw [decide_eq_false (by omega)])
end Go.Proofs.YtlkkkgpcjdemdaaDoor
/- Song: the reference's sunrises, dates and At, walked. -/
namespace Go.Proofs.YtlkkkgpcjdemdaaDoor
open Go Go.RowKit Go.Shelf
set_option maxHeartbeats 4000000
set_option maxRecDepth 100000
theorem refSun_any (m : Mo) (hm : m.ok) (n : Int) (h0 : 0 ≤ n) (h1 : n ≤ 4000000) (w : World) : Calls Tryd.prog 55 #[.agg #[.int .i64 m.ln, .int .i64 m.per, .int .i64 m.ph], .int .i64 n] w fun e w' => e = .returned (.int .i64 (ahF m n)) ∧ Below w.heap.size w w' := by
  have hb := ah_bd hm h0 h1
  obtain ⟨a1, a2, a3, a4, a5, a6, a7⟩ := hm
  obtain ⟨q, hq⟩ : ∃ q, n * m.ln = q := ⟨_, rfl⟩
  have e : ahF m n = (q + m.ph + m.per - 1) / m.per := by unfold ahF; rw [hq]
  rw [e]
  obtain ⟨l, p, h⟩ := m
  dsimp only at *
  rw [hq] at hb
  have w1 : IntKind.i64.wrap (n * l) = q := by rw [hq]; exact IntWalk.i64_in _ (by omega)
  clear e
  go_enter Tryd.func55, Tryd.ntmps55
  go_wp2_with fail
  go_ret
  refine ⟨ret_int ?_, (Below.refl _ _).alloc (Nat.le_refl _) _⟩
  first | rfl | (rw [hq])
theorem refDate_any (n : Int) (h0 : 0 ≤ n) (h1 : n ≤ 4000000) (w : World) : Calls Tryd.prog 29 #[.int .i64 n] w fun e w' => e = .returned (dayV n) ∧ Below w.heap.size w w' := by
  have e1 : (n / 15 % 2 == 1) = decide (15 ≤ n % 30) := by rw [Bool.eq_iff_iff, beq_iff_eq, decide_eq_true_iff]; omega
  have e2 : n % 15 + 1 = 1 + n % 15 := by omega
  unfold dayV
  rw [e1, e2]
  go_enter Tryd.func29, Tryd.ntmps29
  go_wp2_with fail
  refine ⟨rfl, .agg #[.int .i64 (n / 30), .bool (decide (15 ≤ n % 30)), .int .i64 (1 + n % 15)], by simp [results, Tryd.results29, go_sem], ?_⟩
  exact ⟨rfl, ((Below.refl _ _).alloc (Nat.le_refl _) _).alloc (by simp) _⟩
theorem mcell_lt {W : World} {p : Addr} {v : Value} (hc : W.cell? p = some v) : p.block < W.heap.size := by
  unfold World.cell? at hc
  rcases h : W.heap[p.block]? with _ | o
  · rw [h] at hc; cases hc
  · exact (Array.getElem?_eq_some_iff.1 h).1
theorem refAt_any (m : Mo) (hm : m.ok) (d : Int) (h0 : 0 ≤ d) (h1 : d ≤ 1000000) (w : World) : Calls Tryd.prog 28 #[.agg #[.int .i64 m.ln, .int .i64 m.per, .int .i64 m.ph], .int .i64 d] w fun e w' => e = .returned (.int .i64 (if snF m d < 0 then -1 else curF m d)) ∧ Below w.heap.size w w' := by
  have HS := hide (fun n (k0 : 0 ≤ n) (k1 : n ≤ 4000000) W => refSun_any m hm n k0 k1 W)
  have HA := hide (fun n => ah_cur hm n d)
  have hb := sn_bd hm h0 (by omega)
  have hbeg : ∃ b, begF m d = b := ⟨_, rfl⟩
  obtain ⟨b, hbg⟩ := hbeg
  have hb2 : d * m.per / m.ln ≤ 2000002 := by
    have h2 := hm.2.2.2.2.1
    have h3 := hm.2.2.1
    have h4 : d * m.per ≤ 1000000 * (2 * m.ln) := Int.le_trans (Int.mul_le_mul_of_nonneg_left h2 h0) (Int.mul_le_mul_of_nonneg_right (by omega) (by omega))
    have h5 := Int.ediv_le_ediv (show 0 < m.ln by omega) h4
    have h6 : 1000000 * (2 * m.ln) / m.ln = 2000000 := by rw [← Int.mul_assoc]; exact Int.mul_ediv_cancel _ (by omega)
    omega
  have hb3 : 0 ≤ d * m.per / m.ln := Int.ediv_nonneg hb.1 (by have := hm.2.2.1; omega)
  have hn := beg_none hm h0 (d := d)
  have hc := beg_cur hm (d := d)
  obtain ⟨c, hcu⟩ : ∃ c, curF m d = c := ⟨_, rfl⟩
  obtain ⟨q, hq⟩ : ∃ q, d * m.per = q := ⟨_, rfl⟩
  have hsn : snF m d = q - m.ph := by unfold snF; rw [hq]
  have hbe : b = max 0 (q / m.ln - 2) := by rw [← hbg, ← hq]; rfl
  have hb0 : 0 ≤ b := by omega
  rw [hcu] at HA
  rw [hbg, hcu] at hc
  rw [hbg] at hn
  rw [hcu]
  by_cases hs : snF m d < 0
  · rw [if_pos hs]
    obtain ⟨k1, k2⟩ := hn hs
    have hmx : q / m.ln - 2 ≤ 0 := by omega
    have hm1 := hm.1
    have hm2 := hm.2.1
    have hm3 := hm.2.2.1
    have hwq : IntKind.i64.wrap (d * m.per) = q := by rw [hq]; exact IntWalk.i64_in _ (by omega)
    have HS0 := hide (HS.out b hb0 (by omega))
    rw [k1] at HS0 k2
    obtain ⟨a, ha⟩ : ∃ a, ahF m 0 = a := ⟨_, rfl⟩
    rw [ha] at HS0 k2
    rw [hq] at hb hb2 hb3
    subst k1
    clear hm hn hc hbe hbg HS HA ha hs hsn hcu
    obtain ⟨l, p, h⟩ := m
    dsimp only at *
    have hmz : max 0 (q / l - 2) = 0 := by omega
    go_enter Tryd.func28, Tryd.ntmps28
    go_wp2_with fail
    (try rw [hmz])
    (with_reducible refine (HS0.out _).mono ?_)
    rintro e w1 ⟨rfl, hb1⟩
    go_wp2_with fail
    go_ret
    exact ⟨rfl, ((Below.refl w.heap.size w).alloc (Nat.le_refl _) _).trans (hb1.mono (by simp))⟩
  · rw [if_neg hs]
    obtain ⟨k1, k2⟩ := hc (by omega)
    have hm1 := hm.1
    have hm2 := hm.2.1
    have hm3 := hm.2.2.1
    have hwq : IntKind.i64.wrap (d * m.per) = q := by rw [hq]; exact IntWalk.i64_in _ (by omega)
    rw [hq] at hb hb2 hb3
    have hc0 : c ≤ 2000005 := by omega
    have HSB := hide (HS.out b hb0 (by omega))
    have hab := (HA.out b).2 k1
    obtain ⟨ab, hab2⟩ : ∃ a, ahF m b = a := ⟨_, rfl⟩
    rw [hab2] at HSB hab
    clear hm hn hc hbg hs hsn hcu hab2
    have HE : Hid (∀ v, v = c → Ending.returned (Value.int .i64 v) = .returned (.int .i64 c)) := hide (fun v h => by rw [h])
    have HB0 := hide ((Below.refl w.heap.size w).alloc (Nat.le_refl _) (.cells #[.int .i64 m.ln, .int .i64 m.per, .int .i64 m.ph] 47))
    by_cases hmx : q / m.ln - 2 ≤ 0
    · obtain rfl : b = 0 := by omega
      clear hbe
      obtain ⟨fn, hfn⟩ : ∃ fn, fn = ahF m := ⟨_, rfl⟩
      rw [← hfn] at HS HA
      clear hfn
      obtain ⟨l, p, h⟩ := m
      dsimp only at *
      have hmz : max 0 (q / l - 2) = 0 := by omega
      go_enter Tryd.func28, Tryd.ntmps28
      go_wp2_with fail
      (try rw [hmz])
      (with_reducible refine (HSB.out _).mono ?_)
      rintro e w1 ⟨rfl, hb1⟩
      have HB1 := hide (HB0.out.trans (hb1.mono HB0.out.size))
      obtain ⟨hc1, hf1⟩ := bcell hb1
      have hz := hb1.size
      have cm : w1.cell? ⟨w.heap.size, 0, none⟩ = some (.int .i64 l) ∧ w1.cell? ⟨w.heap.size, 1, none⟩ = some (.int .i64 p) ∧ w1.cell? ⟨w.heap.size, 2, none⟩ = some (.int .i64 h) := by
        have hk := (Blk.new w 47 #[.int .i64 l, .int .i64 p, .int .i64 h]).ext hb1
        obtain ⟨-, x0, x1, x2, -⟩ := blk3 hk
        exact ⟨x0, x1, x2⟩
      have HCM := hide cm
      clear cm hc1 hf1 hz hb1
      go_wp2_with fail
      go_loopw [5] (fun x wr => ∃ n : Int, x = .int .i64 n ∧ 0 ≤ n ∧ 0 ≤ n ∧ n ≤ c ∧ Hid (Below w.heap.size w wr) ∧ Hid (wr.cell? ⟨w.heap.size, 0, none⟩ = some (.int .i64 l) ∧ wr.cell? ⟨w.heap.size, 1, none⟩ = some (.int .i64 p) ∧ wr.cell? ⟨w.heap.size, 2, none⟩ = some (.int .i64 h))) (fun x _ => (c - intOf x).toNat)
      case atStart => exact ⟨0, rfl, Int.le_refl _, by omega, by omega, HB1, HCM⟩
      case round =>
        obtain ⟨n, rfl, hn0, hn1, hn2, HBr, HCr⟩ := hrel
        clear HB1 HCM HSB
        obtain ⟨x0, x1, x2⟩ := HCr.out
        have z0 := mcell_lt x0
        dsimp only at z0
        by_cases hlt : n + 1 ≤ c
        · have hfl := (HA.out (n + 1)).2 hlt
          have HS1 := hide (HS.out (n + 1) (by omega) (by omega))
          obtain ⟨a2, ha2⟩ : ∃ a, fn (n + 1) = a := ⟨_, rfl⟩
          rw [ha2] at HS1 hfl
          clear ha2 HS HE
          go_wp2_with fail
          (with_reducible refine (HS1.out _).mono ?_)
          rintro e w2 ⟨rfl, hb2⟩
          have HB2 := hide (HBr.out.trans (hb2.mono HBr.out.size))
          have HC2 := hide (And.intro ((hb2.cell (mcell_lt x0)).trans x0) (And.intro ((hb2.cell (mcell_lt x1)).trans x1) ((hb2.cell (mcell_lt x2)).trans x2)))
          clear hb2 HBr HCr x0 x1 x2
          go_wp2_with fail
          go_roundw
          case rel => exact ⟨n + 1, rfl, by omega, by omega, hlt, HB2, HC2⟩
          case measure => simp [intOf]; omega
        · have hfl : ¬ fn (n + 1) ≤ d := fun hh => hlt ((HA.out (n + 1)).1 hh)
          have HS1 := hide (HS.out (n + 1) (by omega) (by omega))
          obtain ⟨a2, ha2⟩ : ∃ a, fn (n + 1) = a := ⟨_, rfl⟩
          rw [ha2] at HS1 hfl
          obtain rfl : n = c := by omega
          clear ha2 HS HE
          go_wp2_with fail
          (with_reducible refine (HS1.out _).mono ?_)
          rintro e w2 ⟨rfl, hb2⟩
          have HB2 := hide (HBr.out.trans (hb2.mono HBr.out.size))
          go_wp2_with fail
          go_ret
          exact ⟨rfl, HB2.out⟩
    · obtain rfl : b = q / m.ln - 2 := by omega
      clear hbe
      obtain ⟨fn, hfn⟩ : ∃ fn, fn = ahF m := ⟨_, rfl⟩
      rw [← hfn] at HS HA
      clear hfn
      obtain ⟨l, p, h⟩ := m
      dsimp only at *
      have hmz : max 0 (q / l - 2) = q / l - 2 := by omega
      go_enter Tryd.func28, Tryd.ntmps28
      go_wp2_with fail
      (try rw [hmz])
      (with_reducible refine (HSB.out _).mono ?_)
      rintro e w1 ⟨rfl, hb1⟩
      have HB1 := hide (HB0.out.trans (hb1.mono HB0.out.size))
      obtain ⟨hc1, hf1⟩ := bcell hb1
      have hz := hb1.size
      have cm : w1.cell? ⟨w.heap.size, 0, none⟩ = some (.int .i64 l) ∧ w1.cell? ⟨w.heap.size, 1, none⟩ = some (.int .i64 p) ∧ w1.cell? ⟨w.heap.size, 2, none⟩ = some (.int .i64 h) := by
        have hk := (Blk.new w 47 #[.int .i64 l, .int .i64 p, .int .i64 h]).ext hb1
        obtain ⟨-, x0, x1, x2, -⟩ := blk3 hk
        exact ⟨x0, x1, x2⟩
      have HCM := hide cm
      clear cm hc1 hf1 hz hb1
      go_wp2_with fail
      go_loopw [5] (fun x wr => ∃ n : Int, x = .int .i64 n ∧ q / l - 2 ≤ n ∧ 0 ≤ n ∧ n ≤ c ∧ Hid (Below w.heap.size w wr) ∧ Hid (wr.cell? ⟨w.heap.size, 0, none⟩ = some (.int .i64 l) ∧ wr.cell? ⟨w.heap.size, 1, none⟩ = some (.int .i64 p) ∧ wr.cell? ⟨w.heap.size, 2, none⟩ = some (.int .i64 h))) (fun x _ => (c - intOf x).toNat)
      case atStart => exact ⟨q / l - 2, rfl, Int.le_refl _, by omega, by omega, HB1, HCM⟩
      case round =>
        obtain ⟨n, rfl, hn0, hn1, hn2, HBr, HCr⟩ := hrel
        clear HB1 HCM HSB
        obtain ⟨x0, x1, x2⟩ := HCr.out
        have z0 := mcell_lt x0
        dsimp only at z0
        by_cases hlt : n + 1 ≤ c
        · have hfl := (HA.out (n + 1)).2 hlt
          have HS1 := hide (HS.out (n + 1) (by omega) (by omega))
          obtain ⟨a2, ha2⟩ : ∃ a, fn (n + 1) = a := ⟨_, rfl⟩
          rw [ha2] at HS1 hfl
          clear ha2 HS HE
          go_wp2_with fail
          (with_reducible refine (HS1.out _).mono ?_)
          rintro e w2 ⟨rfl, hb2⟩
          have HB2 := hide (HBr.out.trans (hb2.mono HBr.out.size))
          have HC2 := hide (And.intro ((hb2.cell (mcell_lt x0)).trans x0) (And.intro ((hb2.cell (mcell_lt x1)).trans x1) ((hb2.cell (mcell_lt x2)).trans x2)))
          clear hb2 HBr HCr x0 x1 x2
          go_wp2_with fail
          go_roundw
          case rel => exact ⟨n + 1, rfl, by omega, by omega, hlt, HB2, HC2⟩
          case measure => simp [intOf]; omega
        · have hfl : ¬ fn (n + 1) ≤ d := fun hh => hlt ((HA.out (n + 1)).1 hh)
          have HS1 := hide (HS.out (n + 1) (by omega) (by omega))
          obtain ⟨a2, ha2⟩ : ∃ a, fn (n + 1) = a := ⟨_, rfl⟩
          rw [ha2] at HS1 hfl
          obtain rfl : n = c := by omega
          clear ha2 HS HE
          go_wp2_with fail
          (with_reducible refine (HS1.out _).mono ?_)
          rintro e w2 ⟨rfl, hb2⟩
          have HB2 := hide (HBr.out.trans (hb2.mono HBr.out.size))
          go_wp2_with fail
          go_ret
          exact ⟨rfl, HB2.out⟩
end Go.Proofs.YtlkkkgpcjdemdaaDoor
