/- School: the best reading of a parent. -/
import Derived.Test.YtfbnpiafoaoddaaDoorMergesC
import Derived.Lib.SliceRun
set_option linter.unusedSimpArgs false
set_option linter.unusedVariables false
set_option linter.unnecessarySimpa false
namespace Go.Proofs.YtfbnpiafoaoddaaDoor
open List renaming getElem_toArray → glA, getElem_cons_zero → glB, getElem_cons_succ → glC, setIfInBounds_toArray → glD, set_cons_zero → glE, set_cons_succ → glF
open Go Go.RowKit Go.Shelf
set_option maxHeartbeats 2000000
set_option maxRecDepth 100000
/-- what reading k costs where the copy has v -/
def cstF (t : Nat → Int) (v : Int) (k : Nat) : Int := if (k : Int) = v then t k else t k + 1
/-- the first reading that costs least, of the first n, and what it costs -/
def bestF (t : Nat → Int) (v : Int) : Nat → Int × Int
  | 0 => (0, 1000000)
  | n + 1 => if cstF t v n < (bestF t v n).2 then ((n : Int), cstF t v n) else bestF t v n
theorem best_any (B o : Nat) (t : Nat → Int) (v : Int) (w : World) (hB : B < w.heap.size) (hc : ∀ k, k < 16 → w.cell? ⟨B, o + k, none⟩ = some (.int .i64 (t k))) (ht : ∀ k, k < 16 → 0 ≤ t k ∧ t k ≤ 1000000000000) :
    Calls Tryd.prog 29 #[.pointer (some ⟨B, o, none⟩), .int .i64 v] w fun e w' => e = .returned (.tuple #[.int .i64 (bestF t v 16).1, .int .i64 (bestF t v 16).2]) ∧ Below w.heap.size w w' := by
  have HC := hide hc
  have HT := hide ht
  clear hc ht
  go_enter Tryd.func29, Tryd.ntmps29
  go_wp2_with fail
  go_loopw [4, 5, 9] (fun a b i wr => ∃ k : Nat, k ≤ 16 ∧ i = .int .i64 k ∧ a = .int .i64 (bestF t v k).1 ∧ b = .int .i64 (bestF t v k).2 ∧ Below w.heap.size w wr) (fun _ _ i _ => 16 - (intOf i).toNat)
  case atStart => exact ⟨0, by omega, rfl, rfl, rfl, Below.refl _ _⟩
  case round =>
    obtain ⟨k, hk, rfl, rfl, rfl, hb⟩ := hrel
    have HBW := hide hb
    clear hb
    by_cases hlt : k < 16
    · have hlt' : (k : Int) < 16 := by omega
      have k0 : (0 : Int) ≤ (k : Int) := by omega
      have hx0 := HC.out k hlt
      have ht0 := HT.out k hlt
      obtain ⟨x, hx⟩ : ∃ x, t k = x := ⟨_, rfl⟩
      rw [hx] at hx0 ht0
      have HS : Hid (∀ W, Below w.heap.size w W → W.cell? ⟨B, o + k, none⟩ = some (.int .i64 x)) := hide fun W h => (h.cell (p := ⟨B, o + k, none⟩) hB).trans hx0
      have hstep : bestF t v (k + 1) = if cstF t v k < (bestF t v k).2 then ((k : Int), cstF t v k) else bestF t v k := rfl
      have hcst : cstF t v k = if (k : Int) = v then x else x + 1 := by unfold cstF; rw [hx]
      obtain ⟨⟨pa, pc⟩, hp⟩ : ∃ p, bestF t v k = p := ⟨_, rfl⟩
      rw [hp] at hstep ⊢
      rw [hcst] at hstep
      have w1 : IntKind.i64.wrap (x + 1) = x + 1 := IntWalk.i64_in _ (by omega)
      have HST := hide hstep
      clear hstep hcst hx hx0 hp
      go_upto_region 4 with fail
      have Bd := hide (HBW.out.trans ((Below.refl wr.heap.size wr).drew.mono HBW.out.size))
      refine wp_region_J (fun W : World => W.cell? ⟨B, o + k, none⟩ = some (.int .i64 x)) (by kernel_rfl) ?_
      generalize wr.drew = wd at Bd ⊢
      refine wpAnyJ_take 0 (v := ?_) (by first | exact hF | exact wideFn) (HS.out _ Bd.out) rfl (by kernel_rfl) (by kernel_rfl) (by kernel_rfl) (by kernel_rfl) rfl ?_ (by first | exact fun _ _ _ h => h | exact fun _ _ _ h => hQ2 _ _ _ _ _ h) ?_
      rotate_left
      · intro W hSW
        simp only [glA, glB, glC]
        (try dsimp only at hSW)
        go_simp
        with_reducible rfl
      (try simp only [glA, glB, glC, Act.put, glD, glE, glF])
      refine wpAnyJ_take 1 (v := ?_) (by first | exact hF | exact wideFn) (HS.out _ Bd.out) rfl (by kernel_rfl) (by kernel_rfl) (by kernel_rfl) (by kernel_rfl) rfl ?_ (by first | exact fun _ _ _ h => h | exact fun _ _ _ h => hQ2 _ _ _ _ _ h) ?_
      rotate_left
      · intro W hSW
        simp only [glA, glB, glC]
        (try dsimp only at hSW)
        go_simp
        with_reducible rfl
      (try simp only [glA, glB, glC, Act.put, glD, glE, glF])
      refine wpAnyJ_take 2 (v := ?_) (by first | exact hF | exact wideFn) (HS.out _ Bd.out) rfl (by kernel_rfl) (by kernel_rfl) (by kernel_rfl) (by kernel_rfl) rfl ?_ (by first | exact fun _ _ _ h => h | exact fun _ _ _ h => hQ2 _ _ _ _ _ h) ?_
      rotate_left
      · intro W hSW
        simp only [glA, glB, glC]
        (try dsimp only at hSW)
        go_simp
        with_reducible rfl
      (try simp only [glA, glB, glC, Act.put, glD, glE, glF])
      refine wpAnyJ_take 3 (v := ?_) (by first | exact hF | exact wideFn) (HS.out _ Bd.out) rfl (by kernel_rfl) (by kernel_rfl) (by kernel_rfl) (by kernel_rfl) rfl ?_ (by first | exact fun _ _ _ h => h | exact fun _ _ _ h => hQ2 _ _ _ _ _ h) ?_
      rotate_left
      · intro W hSW
        simp only [glA, glB, glC]
        (try dsimp only at hSW)
        go_simp
        with_reducible rfl
      (try simp only [glA, glB, glC, Act.put, glD, glE, glF])
      refine wpAnyJ_take 4 (v := ?_) (by first | exact hF | exact wideFn) (HS.out _ Bd.out) rfl (by kernel_rfl) (by kernel_rfl) (by kernel_rfl) (by kernel_rfl) rfl ?_ (by first | exact fun _ _ _ h => h | exact fun _ _ _ h => hQ2 _ _ _ _ _ h) ?_
      rotate_left
      · intro W hSW
        simp only [glA, glB, glC]
        (try dsimp only at hSW)
        go_simp
        with_reducible rfl
      (try simp only [glA, glB, glC, Act.put, glD, glE, glF])
      refine wpAnyJ_take 5 (v := ?_) (by first | exact hF | exact wideFn) (HS.out _ Bd.out) rfl (by kernel_rfl) (by kernel_rfl) (by kernel_rfl) (by kernel_rfl) rfl ?_ (by first | exact fun _ _ _ h => h | exact fun _ _ _ h => hQ2 _ _ _ _ _ h) ?_
      rotate_left
      · intro W hSW
        simp only [glA, glB, glC]
        (try dsimp only at hSW)
        go_simp
        with_reducible rfl
      (try simp only [glA, glB, glC, Act.put, glD, glE, glF])
      refine wpAnyJ_done (by kernel_rfl) ?_
      by_cases hv : (k : Int) = v
      · have v1 : ((k : Int) == v) = true := by rw [hv]; exact beq_self_eq_true _
        have v2 : ((k : Int) != v) = false := by rw [hv]; exact bne_self_eq_false _
        have HV := hide hv
        clear hv
        by_cases hx : x < pc
        · have hnew : bestF t v (k + 1) = ((k : Int), x) := by rw [HST.out, if_pos HV.out, if_pos hx]
          have HNEW := hide hnew
          clear hnew
          go_wp2_with fail
          go_roundw
          case rel => exact ⟨k + 1, by omega, by go_num, by rw [HNEW.out], by rw [HNEW.out], Bd.out⟩
          case measure => simp [intOf]; omega
        · have hnew : bestF t v (k + 1) = (pa, pc) := by rw [HST.out, if_pos HV.out, if_neg hx]
          have HNEW := hide hnew
          clear hnew
          go_wp2_with fail
          go_roundw
          case rel => exact ⟨k + 1, by omega, by go_num, by rw [HNEW.out], by rw [HNEW.out], Bd.out⟩
          case measure => simp [intOf]; omega
      · have v1 : ((k : Int) == v) = false := by rw [beq_eq_false_iff_ne]; exact hv
        have v2 : ((k : Int) != v) = true := by simp [hv]
        have HV := hide hv
        by_cases hx : x + 1 < pc
        · have hnew : bestF t v (k + 1) = ((k : Int), x + 1) := by rw [HST.out, if_neg HV.out, if_pos hx]
          have HNEW := hide hnew
          clear hnew
          go_wp2_with fail
          go_roundw
          case rel => exact ⟨k + 1, by omega, by go_num, by rw [HNEW.out], by rw [HNEW.out], Bd.out⟩
          case measure => simp [intOf]; omega
        · have hnew : bestF t v (k + 1) = (pa, pc) := by rw [HST.out, if_neg HV.out, if_neg hx]
          have HNEW := hide hnew
          clear hnew
          go_wp2_with fail
          go_roundw
          case rel => exact ⟨k + 1, by omega, by go_num, by rw [HNEW.out], by rw [HNEW.out], Bd.out⟩
          case measure => simp [intOf]; omega
    · obtain rfl : k = 16 := by omega
      go_wp2_with fail
      go_ret2
      exact ⟨rfl, HBW.out⟩
end Go.Proofs.YtfbnpiafoaoddaaDoor
/- School: own lists of intJ; slices.Clone. -/
namespace Go.Proofs.YtfbnpiafoaoddaaDoor
open Go Go.RowKit Go.Shelf
set_option maxHeartbeats 2000000
set_option maxRecDepth 100000
theorem info_int' : (Tryd.prog.info? 3).map (fun i => (i.zero, i.size, i.bytes)) = some (some (.int .i64 0), 1, 8) := by kernel_rfl
def intJ (l : List Int) : List Value := l.map (.int .i64)
theorem intJ_one (l : List Int) : ∀ u ∈ intJ l, u.oneCell' = true := by
  intro u hu
  obtain ⟨x, -, rfl⟩ := List.mem_map.1 hu
  rfl
theorem intJ_len (l : List Int) : (intJ l).length = l.length := by simp [intJ]
theorem intJ_append (l m : List Int) : intJ (l ++ m) = intJ l ++ intJ m := by simp [intJ]
/-- an own list of intJ -/
def OwnJ (W : World) (n0 : Nat) (v : Value) (l : List Int) : Prop := W.ownsRow n0 3 1 v l.length (intJ l)
theorem OwnJ.nil (W : World) (n0 : Nat) : OwnJ W n0 (.slice none 0 0) [] := ⟨rfl, .inl ⟨rfl, rfl⟩⟩
theorem OwnJ.ext {W W' : World} {n0 : Nat} {v : Value} {l : List Int} (h : OwnJ W n0 v l) (hb : Below W.heap.size W W') : OwnJ W' n0 v l := ownBelow h hb
theorem intJ_at (l : List Int) {k : Nat} (hk : k < l.length) : (intJ l)[k]? = some (.int .i64 (l.getD k 0)) := by
  unfold intJ
  rw [List.getElem?_map, List.getElem?_eq_getElem hk, List.getD_eq_getElem?_getD, List.getElem?_eq_getElem hk]; rfl
theorem OwnJ.pushes {W : World} {base : Nat} {v : Value} {l : List Int} (h : OwnJ W base v l) (A : Option Addr) (c : Nat) (m : List Int) (hA : LI W W.heap.size A m) (hl : l.length + m.length ≤ 1000000) (hb : base ≤ W.heap.size) :
    ∃ v' w', (Builtin.append_ #[26, 26] 26 #[v, .slice A m.length c]).run Tryd.prog W = .ok v' w' ∧ OwnJ w' base v' (l ++ m) ∧ W.grownBy w' v.ownBlock ∧ (v'.ownBlock = v.ownBlock ∨ v'.ownBlock = some W.heap.size) := by
  obtain ⟨i0, hi, hz0, hz1, hz2⟩ := info_parts info_int'
  cases A with
  | none =>
    have hm : m = [] := by
      rcases hm : m with _ | ⟨x, m⟩
      · rfl
      · exfalso
        obtain ⟨b, off, hA, -⟩ := hA (by rw [hm]; simp)
        cases hA
    subst hm
    refine ⟨v, W, run_append_none0 (P := Tryd.prog) _ _ 3 i0 1 Tryd.underlying26 hi v l.length c (intJ l) h, by simpa using h, World.grownBy.refl _ _, .inl rfl⟩
  | some a =>
    have hcells : ∀ j u, (intJ m)[j]? = some u → W.cell? (a.add j) = some u := by
      intro j u hj
      have hlt : j < m.length := by
        have := (List.getElem?_eq_some_iff.1 hj).1
        rwa [intJ_len] at this
      obtain ⟨b, off, hA', -, hc⟩ := VR1.at_ hA hlt
      injection hA' with hA'
      subst hA'
      rw [intJ_at m hlt] at hj
      have e4 : ((⟨b, off, none⟩ : Addr).add j) = ⟨b, off + j, none⟩ := by simp [Addr.add]
      rw [e4, ← hj]
      exact hc
    obtain ⟨v', w', hr, h2, h3, -, h4⟩ := run_append_own_at (P := Tryd.prog) (w := W) base 26 26 3 i0 _ 1 8 Tryd.underlying26 hi hz0 hz1 hz2 rfl (by decide) v l.length (intJ l) h
      a m.length c (intJ m) (by rw [intJ_len]; omega) hcells (intJ_one m) (by unfold maxLen; omega) (by omega) hb
    refine ⟨v', w', hr, ?_, h3, h4⟩
    unfold OwnJ
    rw [intJ_append, List.length_append]
    exact h2
theorem OwnJ.made0 (W : World) : OwnJ (W.alloc (.cells #[] 3)) W.heap.size (.slice (some ⟨W.heap.size, 0, none⟩) 0 0) [] :=
  World.ownsRow_made W #[] 0 (Nat.le_refl _) (by unfold maxLen; omega) rfl
theorem cloneI_any (A : Option Addr) (c : Nat) (l : List Int) (w : World) (hl : l.length ≤ 100000) (hA : LI w w.heap.size A l) :
    Calls Tryd.prog 19 #[.slice A l.length c] w fun e w' => ∃ v, e = .returned v ∧ OwnJ w' w.heap.size v l ∧ Below w.heap.size w w' := by
  cases A with
  | none =>
    have hn : l = [] := by
      rcases hm : l with _ | ⟨x, m⟩
      · rfl
      · exfalso
        obtain ⟨b, off, hA, -⟩ := hA (by rw [hm]; simp)
        cases hA
    subst hn
    have hnil := fun (W : World) => Lib.run_eql_slice_nil (P := Tryd.prog) W 26 3 none 0 c 0 0 Tryd.underlying26
    go_enter Tryd.func19, Tryd.ntmps19
    go_wp2_with fail
    go_ret
    exact ⟨_, rfl, OwnJ.nil _ _, Below.refl _ _⟩
  | some a =>
    have hB0 : Below w.heap.size w (w.alloc (.cells #[] 3)) := (Below.refl _ _).alloc (Nat.le_refl _) _
    obtain ⟨v', w', hrun, ho, hg, -⟩ := (OwnJ.made0 w).pushes (some a) c l ((hA.below hB0 (Nat.le_refl _)).more hB0.size) (by simp; omega) hB0.size
    rw [List.nil_append] at ho
    have HRUN := hide hrun
    have HO := hide (And.intro ho (hB0.grown hg hB0.size (fun k hk => (World.ownsRow.lt (OwnJ.made0 w) k hk).1)))
    clear hrun ho hg hB0 hA
    generalize l.length = n at HRUN ⊢
    have hnil := fun (W : World) => Lib.run_eql_slice_nil (P := Tryd.prog) W 26 3 (some a) n c 0 0 Tryd.underlying26
    go_enter Tryd.func19, Tryd.ntmps19
    go_wp2_with (at_builtin; refine wpList_append_run rfl (.tmp 5) (.tmp 6) 26 rfl rfl rfl HRUN.out ?_)
    go_ret
    exact ⟨_, rfl, HO.out.1, HO.out.2⟩
end Go.Proofs.YtfbnpiafoaoddaaDoor
/- School: sets of values: in. -/
namespace Go.Proofs.YtfbnpiafoaoddaaDoor
open List renaming getElem_toArray → glA, getElem_cons_zero → glB, getElem_cons_succ → glC, setIfInBounds_toArray → glD, set_cons_zero → glE, set_cons_succ → glF
open Go Go.RowKit Go.Shelf
set_option maxHeartbeats 2000000
set_option maxRecDepth 100000
/-- of the first n features no value is in s that is not in t -/
def inTo (s t : Nat → Nat) (n : Nat) : Bool := decide (∀ k, k < n → bits BinOp.andNot IntKind.i64 (s k : Nat) (t k : Nat) = 0)
theorem in_any (s t : Nat → Nat) (w : World) (hs : ∀ k, s k < 65536) (ht : ∀ k, t k < 65536) :
    Calls Tryd.prog 48 #[.agg #[.int .i64 (s 0 : Nat), .int .i64 (s 1 : Nat), .int .i64 (s 2 : Nat), .int .i64 (s 3 : Nat), .int .i64 (s 4 : Nat)], .agg #[.int .i64 (t 0 : Nat), .int .i64 (t 1 : Nat), .int .i64 (t 2 : Nat), .int .i64 (t 3 : Nat), .int .i64 (t 4 : Nat)]] w fun e w' => e = .returned (.bool (inTo s t 5)) ∧ Below w.heap.size w w' := by
  have HB0 := hide (((Below.refl w.heap.size w).alloc (Nat.le_refl _) (.cells #[.int .i64 (s 0 : Nat), .int .i64 (s 1 : Nat), .int .i64 (s 2 : Nat), .int .i64 (s 3 : Nat), .int .i64 (s 4 : Nat)] 90)).alloc (by simp) (.cells #[.int .i64 (t 0 : Nat), .int .i64 (t 1 : Nat), .int .i64 (t 2 : Nat), .int .i64 (t 3 : Nat), .int .i64 (t 4 : Nat)] 90))
  have S1 := hide ((Blk.new w 90 #[.int .i64 (s 0 : Nat), .int .i64 (s 1 : Nat), .int .i64 (s 2 : Nat), .int .i64 (s 3 : Nat), .int .i64 (s 4 : Nat)]).alloc (.cells #[.int .i64 (t 0 : Nat), .int .i64 (t 1 : Nat), .int .i64 (t 2 : Nat), .int .i64 (t 3 : Nat), .int .i64 (t 4 : Nat)] 90))
  have T1 := hide (show Blk _ (w.heap.size + 1) _ _ from by simpa using (Blk.new (w.alloc (.cells #[.int .i64 (s 0 : Nat), .int .i64 (s 1 : Nat), .int .i64 (s 2 : Nat), .int .i64 (s 3 : Nat), .int .i64 (s 4 : Nat)] 90)) 90 #[.int .i64 (t 0 : Nat), .int .i64 (t 1 : Nat), .int .i64 (t 2 : Nat), .int .i64 (t 3 : Nat), .int .i64 (t 4 : Nat)]))
  obtain ⟨w1, hw1⟩ : ∃ w1, (w.alloc (.cells #[.int .i64 (s 0 : Nat), .int .i64 (s 1 : Nat), .int .i64 (s 2 : Nat), .int .i64 (s 3 : Nat), .int .i64 (s 4 : Nat)] 90)).alloc (.cells #[.int .i64 (t 0 : Nat), .int .i64 (t 1 : Nat), .int .i64 (t 2 : Nat), .int .i64 (t 3 : Nat), .int .i64 (t 4 : Nat)] 90) = w1 := ⟨_, rfl⟩
  rw [hw1] at HB0 S1 T1
  have HC : Hid (∀ W, Below w1.heap.size w1 W → ∀ k, k < 5 → W.cell? ⟨w.heap.size, k, none⟩ = some (.int .i64 (s k : Nat)) ∧ W.cell? ⟨w.heap.size + 1, k, none⟩ = some (.int .i64 (t k : Nat))) := hide (fun W h k hk => by
    rw [(S1.out.ext h).cell, (T1.out.ext h).cell]
    rcases (by omega : k = 0 ∨ k = 1 ∨ k = 2 ∨ k = 3 ∨ k = 4) with rfl | rfl | rfl | rfl | rfl <;> exact ⟨rfl, rfl⟩)
  go_enter Tryd.func48, Tryd.ntmps48
  go_upto_region 2 with fail
  go_loopw [6] (fun i wr => ∃ k : Nat, k ≤ 5 ∧ i = .int .i64 k ∧ (∀ j, j < k → bits BinOp.andNot IntKind.i64 (s j : Nat) (t j : Nat) = 0) ∧ Below w1.heap.size w1 wr) (fun i _ => 5 - (intOf i).toNat)
  case atStart => exact ⟨0, by omega, rfl, fun j hj => absurd hj (by omega), Below.refl _ _⟩
  case round =>
    obtain ⟨k, hk, rfl, hx, hb⟩ := hrel
    have HX := hide hx
    clear hx
    have HBW := hide hb
    clear hb
    by_cases hlt : k < 5
    · have hlt' : (k : Int) < 5 := by omega
      have k0 : (0 : Int) ≤ (k : Int) := by omega
      have HS : Hid (∀ W, Below w1.heap.size w1 W → W.cell? ⟨w.heap.size, k, none⟩ = some (.int .i64 (s k : Nat)) ∧ W.cell? ⟨w.heap.size + 1, k, none⟩ = some (.int .i64 (t k : Nat))) := hide (fun W h => HC.out W h k hlt)
      go_upto_region 4 with fail
      have Bd := hide (HBW.out.trans ((Below.refl wr.heap.size wr).drew.mono HBW.out.size))
      refine wp_region_J (fun W : World => W.cell? ⟨w.heap.size, k, none⟩ = some (.int .i64 (s k : Nat)) ∧ W.cell? ⟨w.heap.size + 1, k, none⟩ = some (.int .i64 (t k : Nat))) (by kernel_rfl) ?_
      generalize wr.drew = wd at Bd ⊢
      refine wpAnyJ_take 0 (v := ?_) (by first | exact hF | exact wideFn) (HS.out _ Bd.out) rfl (by kernel_rfl) (by kernel_rfl) (by kernel_rfl) (by kernel_rfl) rfl ?_ (by first | exact fun _ _ _ h => h | exact fun _ _ _ h => hQ2 _ _ _ _ _ h) ?_
      rotate_left
      · intro W hSW
        simp only [glA, glB, glC]
        (try dsimp only at hSW)
        go_simp
        with_reducible rfl
      (try simp only [glA, glB, glC, Act.put, glD, glE, glF])
      refine wpAnyJ_take 1 (v := ?_) (by first | exact hF | exact wideFn) (HS.out _ Bd.out) rfl (by kernel_rfl) (by kernel_rfl) (by kernel_rfl) (by kernel_rfl) rfl ?_ (by first | exact fun _ _ _ h => h | exact fun _ _ _ h => hQ2 _ _ _ _ _ h) ?_
      rotate_left
      · intro W hSW
        simp only [glA, glB, glC]
        (try dsimp only at hSW)
        go_simp
        with_reducible rfl
      (try simp only [glA, glB, glC, Act.put, glD, glE, glF])
      refine wpAnyJ_take 2 (v := ?_) (by first | exact hF | exact wideFn) (HS.out _ Bd.out) rfl (by kernel_rfl) (by kernel_rfl) (by kernel_rfl) (by kernel_rfl) rfl ?_ (by first | exact fun _ _ _ h => h | exact fun _ _ _ h => hQ2 _ _ _ _ _ h) ?_
      rotate_left
      · intro W hSW
        simp only [glA, glB, glC]
        (try dsimp only at hSW)
        go_simp
        with_reducible rfl
      (try simp only [glA, glB, glC, Act.put, glD, glE, glF])
      refine wpAnyJ_take 3 (v := ?_) (by first | exact hF | exact wideFn) (HS.out _ Bd.out) rfl (by kernel_rfl) (by kernel_rfl) (by kernel_rfl) (by kernel_rfl) rfl ?_ (by first | exact fun _ _ _ h => h | exact fun _ _ _ h => hQ2 _ _ _ _ _ h) ?_
      rotate_left
      · intro W hSW
        simp only [glA, glB, glC]
        (try dsimp only at hSW)
        go_simp
        with_reducible rfl
      (try simp only [glA, glB, glC, Act.put, glD, glE, glF])
      refine wpAnyJ_take 4 (v := ?_) (by first | exact hF | exact wideFn) (HS.out _ Bd.out) rfl (by kernel_rfl) (by kernel_rfl) (by kernel_rfl) (by kernel_rfl) rfl ?_ (by first | exact fun _ _ _ h => h | exact fun _ _ _ h => hQ2 _ _ _ _ _ h) ?_
      rotate_left
      · intro W hSW
        simp only [glA, glB, glC]
        (try dsimp only at hSW)
        go_simp
        with_reducible rfl
      (try simp only [glA, glB, glC, Act.put, glD, glE, glF])
      refine wpAnyJ_take 5 (v := ?_) (by first | exact hF | exact wideFn) (HS.out _ Bd.out) rfl (by kernel_rfl) (by kernel_rfl) (by kernel_rfl) (by kernel_rfl) rfl ?_ (by first | exact fun _ _ _ h => h | exact fun _ _ _ h => hQ2 _ _ _ _ _ h) ?_
      rotate_left
      · intro W hSW
        simp only [glA, glB, glC]
        (try dsimp only at hSW)
        go_simp
        with_reducible rfl
      (try simp only [glA, glB, glC, Act.put, glD, glE, glF])
      refine wpAnyJ_take 6 (v := ?_) (by first | exact hF | exact wideFn) (HS.out _ Bd.out) rfl (by kernel_rfl) (by kernel_rfl) (by kernel_rfl) (by kernel_rfl) rfl ?_ (by first | exact fun _ _ _ h => h | exact fun _ _ _ h => hQ2 _ _ _ _ _ h) ?_
      rotate_left
      · intro W hSW
        simp only [glA, glB, glC]
        (try dsimp only at hSW)
        go_simp
        with_reducible rfl
      (try simp only [glA, glB, glC, Act.put, glD, glE, glF])
      obtain ⟨z, hz⟩ : ∃ z, bits BinOp.andNot IntKind.i64 (s k : Nat) (t k : Nat) = z := ⟨_, rfl⟩
      rw [hz]
      have HZ := hide hz
      clear hz
      refine wpAnyJ_take 7 (v := ?_) (by first | exact hF | exact wideFn) (HS.out _ Bd.out) rfl (by kernel_rfl) (by kernel_rfl) (by kernel_rfl) (by kernel_rfl) rfl ?_ (by first | exact fun _ _ _ h => h | exact fun _ _ _ h => hQ2 _ _ _ _ _ h) ?_
      rotate_left
      · intro W hSW
        simp only [glA, glB, glC]
        (try dsimp only at hSW)
        go_simp
        with_reducible rfl
      (try simp only [glA, glB, glC, Act.put, glD, glE, glF])
      refine wpAnyJ_done (by kernel_rfl) ?_
      by_cases q : z = 0
      · have q1 : (z == 0) = true := by rw [q]; rfl
        have q2 : (z != 0) = false := by rw [q]; rfl
        have Q := hide q
        clear q
        go_wp2_with fail
        go_roundw
        case rel => exact ⟨k + 1, by omega, by go_num, fun j hj => by
          rcases (by omega : j < k ∨ j = k) with h | h
          · exact HX.out j h
          · rw [h, HZ.out, Q.out], Bd.out⟩
        case measure => simp [intOf]; omega
      · have q1 : (z == 0) = false := by rw [beq_eq_false_iff_ne]; exact q
        have q2 : (z != 0) = true := by simp [q]
        go_wp2_with fail
        go_ret
        refine ⟨ret_bool ?_, HB0.out.trans (Bd.out.mono HB0.out.size)⟩
        have hne : ¬ ∀ k, k < 5 → bits BinOp.andNot IntKind.i64 (s k : Nat) (t k : Nat) = 0 := fun h => q (by rw [← HZ.out]; exact h k hlt)
        exact (decide_eq_false hne).symm
    · obtain rfl : k = 5 := by omega
      go_wp2_with fail
      go_ret
      exact ⟨ret_bool (decide_eq_true HX.out).symm, HB0.out.trans (HBW.out.mono HB0.out.size)⟩
end Go.Proofs.YtfbnpiafoaoddaaDoor
/- School, plain: what Restore computes. -/
namespace Go.Proofs.YtfbnpiafoaoddaaDoor
open Go Go.RowKit Go.Shelf
set_option maxHeartbeats 2000000
set_option maxRecDepth 100000
/-- what a reading may not be -/
def barI (r : Int) (v : Nat) : Bool := decide (0 ≤ r) && decide (r ≠ (v : Int))
/-- row i with the readings that it may not have -/
def barT (r : Int) (t : Nat → Int) (v : Nat) : Int := if barI r v then 1000 else t v
/-- the table behind copy i -/
def stepT (p r : Nat → Int) (i : Nat) (T : Nat → Nat → Int) (k v : Nat) : Int :=
  if k = i then barT (r i) (T i) v else if 0 < i ∧ (k : Int) = p i then T k v + (bestF (barT (r i) (T i)) v 16).2 else T k v
/-- the table behind the last m copies of n -/
def tabF (p r : Nat → Int) (n : Nat) : Nat → Nat → Nat → Int
  | 0 => fun _ _ => 0
  | m + 1 => stepT p r (n - 1 - m) (tabF p r n m)
/-- the readings of the first n copies -/
def allF (p : Nat → Int) (T : Nat → Nat → Int) : Nat → List Int
  | 0 => []
  | i + 1 => allF p T i ++ [(bestF (T i) (if 0 ≤ p i then (allF p T i).getD (p i).toNat 0 else -1) 16).1]
theorem allF_len (p : Nat → Int) (T : Nat → Nat → Int) : ∀ n, (allF p T n).length = n
  | 0 => rfl
  | n + 1 => by show (allF p T n ++ [_]).length = _; rw [List.length_append, allF_len p T n]; rfl
theorem bestF_low (t : Nat → Int) (v : Int) (ht : ∀ k, 0 ≤ t k) : ∀ n, 0 ≤ (bestF t v n).2 ∧ (bestF t v n).2 ≤ 1000000
  | 0 => by simp [bestF]
  | n + 1 => by
    have ih := bestF_low t v ht n
    have h := ht n
    have e : bestF t v (n + 1) = if cstF t v n < (bestF t v n).2 then ((n : Int), cstF t v n) else bestF t v n := rfl
    rw [e]
    split
    · have : 0 ≤ cstF t v n := by unfold cstF; split <;> omega
      dsimp only at *
      omega
    · exact ih
theorem barT_nn {r : Int} {t : Nat → Int} (h : ∀ v, 0 ≤ t v) (v : Nat) : 0 ≤ barT r t v := by
  unfold barT; split
  · omega
  · exact h v
theorem tabF_bd (p r : Nat → Int) (n : Nat) : ∀ m k v, 0 ≤ tabF p r n m k v ∧ tabF p r n m k v ≤ m * 1000000
  | 0, k, v => by simp [tabF]
  | m + 1, k, v => by
    have ih := tabF_bd p r n m
    show 0 ≤ stepT p r (n - 1 - m) (tabF p r n m) k v ∧ stepT p r (n - 1 - m) (tabF p r n m) k v ≤ _
    unfold stepT
    have h1 := bestF_low (barT (r (n - 1 - m)) (tabF p r n m (n - 1 - m))) v (fun u => barT_nn (fun u => (ih _ u).1) u) 16
    have h2 := ih k v
    split
    · have h3 := ih (n - 1 - m) v
      unfold barT
      split <;> omega
    · split <;> omega
/-- parents and readings that are not as told -/
def cpOk (p r : Nat → Int) (i : Nat) : Bool := (if i = 0 then decide (p 0 = -1) else decide (0 ≤ p i ∧ p i ≤ (i : Int) - 1)) && decide (-1 ≤ r i ∧ r i ≤ 15)
def cpAll (p r : Nat → Int) : Nat → Bool
  | 0 => true
  | n + 1 => cpAll p r n && cpOk p r n
theorem cpAll_at {p r : Nat → Int} {n : Nat} (h : cpAll p r n = true) : ∀ k, k < n → cpOk p r k = true := by
  induction n with
  | zero => intro k hk; omega
  | succ n ih =>
    intro k hk
    have h2 : (cpAll p r n && cpOk p r n) = true := h
    rw [Bool.and_eq_true] at h2
    rcases (by omega : k < n ∨ k = n) with h1 | rfl
    · exact ih h2.1 k h1
    · exact h2.2
theorem cpAll_no {p r : Nat → Int} {i n : Nat} (h : cpOk p r i = false) (hi : i < n) : cpAll p r n = false := by
  cases h1 : cpAll p r n with
  | false => rfl
  | true => rw [cpAll_at h1 i hi] at h; cases h
theorem cpOk_p {p r : Nat → Int} {i : Nat} (h : cpOk p r i = true) : p i < i ∧ (i = 0 → p i = -1) ∧ (0 < i → 0 ≤ p i) ∧ -1 ≤ r i ∧ r i ≤ 15 := by
  unfold cpOk at h
  rw [Bool.and_eq_true] at h
  obtain ⟨h1, h2⟩ := h
  have h2 := of_decide_eq_true h2
  by_cases hi : i = 0
  · subst hi
    rw [if_pos rfl] at h1
    have h1 := of_decide_eq_true h1
    omega
  · rw [if_neg hi] at h1
    have h1 := of_decide_eq_true h1
    omega
/-- what Restore returns -/
def rsR (P R : List Int) : List Int × Int × Int :=
  if 20 < P.length then ([], 0, 5)
  else if P.length = 0 ∨ R.length ≠ P.length ∨ cpAll (fun k => P.getD k 0) (fun k => R.getD k 0) P.length = false then ([], 0, 2)
  else
    let T := tabF (fun k => P.getD k 0) (fun k => R.getD k 0) P.length P.length
    (allF (fun k => P.getD k 0) T P.length, (bestF (T 0) (-1) 16).2 - 1, 0)
end Go.Proofs.YtfbnpiafoaoddaaDoor
/- School: Restore, walked. -/
namespace Go.Proofs.YtfbnpiafoaoddaaDoor
open List renaming getElem_toArray → glA, getElem_cons_zero → glB, getElem_cons_succ → glC, setIfInBounds_toArray → glD, set_cons_zero → glE, set_cons_succ → glF
open Go Go.RowKit Go.Shelf
set_option maxHeartbeats 8000000
set_option maxRecDepth 100000
theorem LI.one (W : World) (x : Int) : LI (W.alloc (.cells #[.int .i64 x] 3)) (W.alloc (.cells #[.int .i64 x] 3)).heap.size (some ⟨W.heap.size, 0, none⟩) [x] := fun _ => by
  refine ⟨W.heap.size, 0, rfl, by simp, fun k i hk hi => ?_⟩
  have hk : k = 0 := by simp at hk; exact hk
  obtain rfl := hk
  obtain rfl : i = 0 := by omega
  have h := (Blk.new W 3 #[.int .i64 x]).cell 0
  simpa using h
/-- an int is put behind an own list -/
theorem OwnJ.push {W : World} {base : Nat} {v : Value} {l : List Int} (h : OwnJ W base v l) (x : Int) (hl : l.length ≤ 100000) (hb : base ≤ W.heap.size) :
    ∃ v' w', (Builtin.append_ #[26, 26] 26 #[v, .slice (some ⟨W.heap.size, 0, none⟩) 1 1]).run Tryd.prog (W.alloc (.cells #[.int .i64 x] 3)) = .ok v' w' ∧ OwnJ w' base v' (l ++ [x]) ∧ (W.alloc (.cells #[.int .i64 x] 3)).grownBy w' v.ownBlock := by
  have hBA : Below W.heap.size W (W.alloc (.cells #[.int .i64 x] 3)) := (Below.refl _ _).alloc (Nat.le_refl _) _
  obtain ⟨v', w', hr, ho, hg, -⟩ := (h.ext hBA).pushes (some ⟨W.heap.size, 0, none⟩) 1 [x] (LI.one W x) (by simp; omega) (Nat.le_trans hb hBA.size)
  exact ⟨v', w', hr, ho, hg⟩
/-- the table of the fewest changes -/
structure RT (w W : World) (D n : Nat) (T : Nat → Nat → Int) : Prop where
  below : Below w.heap.size w W
  lo : w.heap.size ≤ D
  blk : Blk W D 86 (rowV (n * 16) fun q => .int .i64 (T (q / 16) (q % 16)))
section
variable {w W W' : World} {D n : Nat} {T : Nat → Nat → Int}
theorem RT.ext (h : RT w W D n T) (hb : Below W.heap.size W W') : RT w W' D n T := ⟨h.below.trans (hb.mono h.below.size), h.lo, h.blk.ext hb⟩
theorem RT.at_ (h : RT w W D n T) {k v : Nat} (hk : k < n) (hv : v < 16) : W.cell? ⟨D, k * 16 + v, none⟩ = some (.int .i64 (T k v)) := by
  rw [h.blk.cell, rowV_get _ _ (by omega), show (k * 16 + v) / 16 = k by omega, show (k * 16 + v) % 16 = v by omega]
theorem RT.congr {T' : Nat → Nat → Int} (h : RT w W D n T) (he : ∀ k v, k < n → v < 16 → T k v = T' k v) : RT w W D n T' := by
  refine ⟨h.below, h.lo, ?_⟩
  rw [rowV_same (n * 16) _ (fun q => Value.int .i64 (T (q / 16) (q % 16))) (fun q hq => by rw [he (q / 16) (q % 16) (by omega) (by omega)])]
  exact h.blk
theorem RT.put (h : RT w W D n T) {k v : Nat} (hk : k < n) (hv : v < 16) (x : Int) : RT w (W.setCell ⟨D, k * 16 + v, none⟩ (.int .i64 x)) D n (fun i u => if i = k ∧ u = v then x else T i u) := by
  refine ⟨h.below.setCell h.lo _, h.lo, ?_⟩
  rw [rowV_same (n * 16) _ (upd (fun q => Value.int .i64 (T (q / 16) (q % 16))) (k * 16 + v) (.int .i64 x)) (fun q hq => by
    unfold upd
    by_cases e : q = k * 16 + v
    · subst e
      rw [if_pos rfl, if_pos (by omega)]
    · rw [if_neg e, if_neg (by omega)])]
  rw [← rowV_set]
  exact h.blk.set_ _ _
theorem RT.grown (h : RT w W D n T) {row : Option Nat} (hg : W.grownBy W' row) (h1 : ∀ k, row = some k → w.heap.size ≤ k) (h2 : row ≠ some D) : RT w W' D n T :=
  ⟨h.below.grown hg h.below.size h1, h.lo, h.blk.grown hg (fun e => h2 e.symm)⟩
end
theorem info_costs : (Tryd.prog.info? 86).map (fun i => (i.zero, i.size, i.bytes)) = some (some (.agg (Array.replicate 16 (.int .i64 0))), 16, 128) := by kernel_rfl
theorem rowV_costs (n : Nat) : madeCells (Value.agg (Array.replicate 16 (.int .i64 0))).cells (n * 16) = rowV (n * 16) (fun q => .int .i64 ((fun _ _ => (0 : Int)) (q / 16) (q % 16))) := by
  apply Array.ext_getElem?
  intro j
  simp only [rowV, madeCells, Array.getElem?_map, Array.getElem?_range, List.getElem?_toArray, List.getElem?_map]
  by_cases hj : j < n * 16
  · have h2 : j % 16 < 16 := Nat.mod_lt _ (by omega)
    have hc : (Value.agg (Array.replicate 16 (.int .i64 0))).cells = Array.replicate 16 (.int .i64 0) := by rfl
    simp [hj, hc, h2]
  · simp [hj]
def RsPost (w : World) (r : List Int × Int × Int) (e : Ending) (w' : World) : Prop :=
  ∃ v, e = .returned (.tuple #[v, .int .i64 r.2.1, .int .i64 r.2.2]) ∧ OwnJ w' w.heap.size v r.1 ∧ Below w.heap.size w w'
theorem restore_long (A B : Option Addr) (c d : Nat) (P R : List Int) (w : World) (hl : 20 < P.length) :
    Calls Tryd.prog 13 #[.slice A P.length c, .slice B R.length d] w (RsPost w ([], 0, 5)) := by
  have hl' : (20 : Int) < (P.length : Int) := by omega
  unfold RsPost
  generalize P.length = n at hl hl' ⊢
  generalize R.length = m
  go_enter Tryd.func13, Tryd.ntmps13
  go_wp2_with fail
  go_ret3
  exact ⟨_, rfl, OwnJ.nil _ _, Below.refl _ _⟩
theorem restore_len (A B : Option Addr) (c d : Nat) (P R : List Int) (w : World) (hl : P.length ≤ 20) (hne : P.length = 0 ∨ R.length ≠ P.length) :
    Calls Tryd.prog 13 #[.slice A P.length c, .slice B R.length d] w (RsPost w ([], 0, 2)) := by
  have hl' : ¬ (20 : Int) < (P.length : Int) := by omega
  unfold RsPost
  generalize P.length = n at hl hl' hne ⊢
  generalize R.length = m at hne ⊢
  by_cases h0 : n = 0
  · subst h0
    clear hne hl hl'
    go_enter Tryd.func13, Tryd.ntmps13
    go_wp2_with fail
    go_ret3
    exact ⟨_, rfl, OwnJ.nil _ _, Below.refl _ _⟩
  · have h1 : ((n : Int) == 0) = false := by rw [beq_eq_false_iff_ne]; omega
    have h1' : (n == 0) = false := by rw [beq_eq_false_iff_ne]; exact h0
    have h2 : ((m : Int) != (n : Int)) = true := by rw [bne_iff_ne]; omega
    have h2' : (m != n) = true := by rw [bne_iff_ne]; omega
    clear hne h0
    go_enter Tryd.func13, Tryd.ntmps13
    go_wp2_with fail
    go_ret3
    exact ⟨_, rfl, OwnJ.nil _ _, Below.refl _ _⟩
theorem cpAll_succ (p r : Nat → Int) (n : Nat) : cpAll p r (n + 1) = (cpAll p r n && cpOk p r n) := rfl
attribute [local irreducible] bestF
theorem OwnJ.li {W : World} {n0 : Nat} {A : Option Addr} {n c : Nat} {l : List Int} (h : OwnJ W n0 (.slice A n c) l) : n = l.length ∧ LI W W.heap.size A l := by
  obtain ⟨A', c', e⟩ := own_shape h
  injection e with e1 e2 e3
  subst e2
  refine ⟨rfl, fun hn => ?_⟩
  rcases h.2 with ⟨h1, h2⟩ | ⟨g, cap, cur, h1, h2, h3, h4, h5, h6, h7⟩
  · omega
  · injection h1 with hA
    subst hA
    have hg := (World.ownsRow.lt h g rfl).2
    refine ⟨g, 0, rfl, hg, fun k i hk hi => ?_⟩
    obtain rfl : i = 0 := by omega
    have hc := World.ownsRow.cells h (g := g) rfl k _ (intJ_at l hk)
    have e1 : ((⟨g, 0, none⟩ : Addr).add k) = ⟨g, 0 + k * 1 + 0, none⟩ := by simp [Addr.add]; omega
    rw [e1] at hc
    exact hc
theorem restore_go (A B : Option Addr) (c d n : Nat) (P R : List Int) (p r : Nat → Int) (w : World) (x : List Int × Int × Int) (h0 : 0 < n) (hn : n ≤ 20) (hP : ER w w.heap.size 1 A n fun k _ => .int .i64 (p k)) (hR : ER w w.heap.size 1 B n fun k _ => .int .i64 (r k))
    (hno : cpAll p r n = false → x = ([], 0, 2)) (hyes : cpAll p r n = true → x = (allF p (tabF p r n n) n, (bestF (tabF p r n n 0) (-1) 16).2 - 1, 0)) :
    Calls Tryd.prog 13 #[.slice A n c, .slice B n d] w (RsPost w x) := by
  have HP := hide hP
  have HR := hide hR
  have HNO := hide hno
  have HYES := hide hyes
  clear hP hR hno hyes
  have h1 : ((n : Int) == 0) = false := by rw [beq_eq_false_iff_ne]; omega
  have h1' : (n == 0) = false := by rw [beq_eq_false_iff_ne]; omega
  have h2 : ((n : Int) != (n : Int)) = false := bne_self_eq_false _
  have h2' : (n != n) = false := bne_self_eq_false _
  have h3 : ¬ (20 : Int) < (n : Int) := by omega
  unfold RsPost
  go_enter Tryd.func13, Tryd.ntmps13
  go_upto_region 5 with fail
  clear h1 h1' h2 h2' h3
  go_upto_region 6 with fail
  go_loopw [4, 5, 35] (fun u z i wr => ∃ k : Nat, k ≤ n ∧ i = .int .i64 k ∧ u = .slice none 0 0 ∧ z = .int .i64 0 ∧ Hid (cpAll p r k = true) ∧ Hid (Below w.heap.size w wr)) (fun _ _ i _ => n - (intOf i).toNat)
  case atStart => exact ⟨0, Nat.zero_le _, rfl, rfl, rfl, hide rfl, hide (Below.refl _ _)⟩
  case round =>
    obtain ⟨k, hk, rfl, rfl, rfl, HC, HB⟩ := hrel
    by_cases hlt : k < n
    · -- BEGIN1
      have hlt' : (k : Int) < (n : Int) := by omega
      have k0 : (0 : Int) ≤ (k : Int) := by omega
      obtain ⟨pb, po, rfl, hpb, hpc⟩ := VR1.at_ (ER.below HP.out HB.out (Nat.le_refl _)) hlt
      obtain ⟨rb, ro, rfl, hrb, hrc⟩ := VR1.at_ (ER.below HR.out HB.out (Nat.le_refl _)) hlt
      obtain ⟨a, ha⟩ : ∃ a, p k = a := ⟨_, rfl⟩
      obtain ⟨b, hb⟩ : ∃ b, r k = b := ⟨_, rfl⟩
      rw [ha] at hpc
      rw [hb] at hrc
      have HWB := hide (within_any b (-1) 15 wr)
      have hcp : cpOk p r k = ((if k = 0 then decide (a = -1) else decide (0 ≤ a ∧ a ≤ (k : Int) - 1)) && decide (-1 ≤ b ∧ b ≤ 15)) := by
        unfold cpOk
        rw [ha, hb]
        by_cases e : k = 0
        · rw [if_pos e, if_pos e, ← ha, e]
        · rw [if_neg e, if_neg e]
      have hwb : (decide ((-1 : Int) ≤ b) && decide (b ≤ 15)) = decide (-1 ≤ b ∧ b ≤ 15) := by rw [Bool.decide_and]
      rw [hwb] at HWB
      clear hwb ha hb
      go_upto_region 8 with fail
      by_cases hk0 : k = 0
      · rw [if_pos hk0] at hcp
        have e1 : ((k : Int) == 0) = true := by rw [hk0]; rfl
        have e1' : (k == 0) = true := by rw [hk0]; rfl
        have e2 : ¬ (0 : Int) < (k : Int) := by omega
        by_cases ha1 : a = -1
        · rw [decide_eq_true ha1, Bool.true_and] at hcp
          have e3 : (a != -1) = false := by rw [ha1]; rfl
          have HCP := hide hcp
          clear hcp ha1 hk0
          generalize decide (-1 ≤ b ∧ b ≤ 15) = bb at HWB HCP
          go_wp2_with fail
          refine HWB.out.mono ?_
          rintro e _ ⟨rfl, rfl⟩
          rcases bb with _ | _
          · go_wp2_with fail
            go_ret3
            rw [HNO.out (cpAll_no HCP.out hlt)]
            exact ⟨_, rfl, OwnJ.nil _ _, HB.out⟩
          · go_wp2_with fail
            go_roundw
            case rel => exact ⟨k + 1, by omega, by go_num, rfl, rfl, hide (by rw [cpAll_succ, HC.out, HCP.out]; rfl), HB⟩
            case measure => simp [intOf]; omega
        · rw [decide_eq_false ha1, Bool.false_and] at hcp
          have e3 : (a != -1) = true := by rw [bne_iff_ne]; exact ha1
          have HCP := hide hcp
          clear hcp ha1 hk0
          go_wp2_with fail
          go_ret3
          rw [HNO.out (cpAll_no HCP.out hlt)]
          exact ⟨_, rfl, OwnJ.nil _ _, HB.out⟩
      · rw [if_neg hk0] at hcp
        have e1 : ((k : Int) == 0) = false := by rw [beq_eq_false_iff_ne]; omega
        have e1' : (k == 0) = false := by rw [beq_eq_false_iff_ne]; omega
        have e2 : (0 : Int) < (k : Int) := by omega
        have w1 : IntKind.i64.wrap ((k : Int) - 1) = (k : Int) - 1 := IntWalk.i64_in _ (by omega)
        have HWA := hide (within_any a 0 ((k : Int) - 1) wr)
        have hwa : (decide ((0 : Int) ≤ a) && decide (a ≤ (k : Int) - 1)) = decide (0 ≤ a ∧ a ≤ (k : Int) - 1) := by rw [Bool.decide_and]
        rw [hwa] at HWA
        clear hwa hk0
        generalize decide (0 ≤ a ∧ a ≤ (k : Int) - 1) = aa at HWA hcp
        generalize decide (-1 ≤ b ∧ b ≤ 15) = bb at HWB hcp
        go_wp2_with fail
        refine HWA.out.mono ?_
        rintro e _ ⟨rfl, rfl⟩
        rcases aa with _ | _
        · have HCP := hide (hcp.trans (Bool.false_and bb))
          clear hcp
          go_wp2_with fail
          go_ret3
          rw [HNO.out (cpAll_no HCP.out hlt)]
          exact ⟨_, rfl, OwnJ.nil _ _, HB.out⟩
        · have HCP := hide (hcp.trans (Bool.true_and bb))
          clear hcp
          go_wp2_with fail
          refine HWB.out.mono ?_
          rintro e _ ⟨rfl, rfl⟩
          rcases bb with _ | _
          · go_wp2_with fail
            go_ret3
            rw [HNO.out (cpAll_no HCP.out hlt)]
            exact ⟨_, rfl, OwnJ.nil _ _, HB.out⟩
          · go_wp2_with fail
            go_roundw
            case rel => exact ⟨k + 1, by omega, by go_num, rfl, rfl, hide (by rw [cpAll_succ, HC.out, HCP.out]; rfl), HB⟩
            case measure => simp [intOf]; omega
      -- END1
    · -- BEGIN2
      obtain rfl : n = k := by omega
      have hnl : ¬ (n : Int) < (n : Int) := by omega
      have HX := hide (HYES.out HC.out)
      have HCA := hide (cpAll_at HC.out)
      clear HNO HYES
      obtain ⟨i0, hi, hz0, hz1, hz2⟩ := info_parts info_costs
      have gl := run_make_rowN (P := Tryd.prog) 84 86 i0 _ Tryd.underlying84 hi hz0 .i64 .i64 n n (Nat.le_refl _) (by rw [hz2]; omega) (by omega) wr
      rw [hz1, rowV_costs] at gl
      clear hi hz0 hz1 hz2
      have w1 : IntKind.i64.wrap ((n : Int) - 1) = (n : Int) - 1 := IntWalk.i64_in _ (by omega)
      go_upto_region 13 with fail
      have HT0 : Hid (RT w (wr.alloc (.cells (rowV (n * 16) (fun q => .int .i64 ((fun _ _ => (0 : Int)) (q / 16) (q % 16)))) 86)) wr.heap.size n (tabF p r n 0)) := hide ⟨HB.out.alloc HB.out.size _, HB.out.size, Blk.new _ _ _⟩
      generalize (wr.alloc (.cells (rowV (n * 16) (fun q => .int .i64 ((fun _ _ => (0 : Int)) (q / 16) (q % 16)))) 86)) = w2 at HT0 ⊢
      generalize wr.heap.size = D at HT0 ⊢
      clear gl HB HC w1
      go_loopw [10] (fun x wr => ∃ (m : Nat) (iv : Int), x = .int .i64 iv ∧ iv = (n : Int) - 1 - m ∧ m ≤ n ∧ Hid (RT w wr D n (tabF p r n m))) (fun x _ => (intOf x + 1).toNat)
      case atStart => exact ⟨0, _, rfl, by omega, by omega, HT0⟩
      case round =>
        obtain ⟨m, iv, rfl, hiv, hm, HT⟩ := hrel
        clear HT0
        by_cases hmn : m < n
        · -- BEGIN3
          obtain ⟨i, hi⟩ : ∃ i, n - 1 - m = i := ⟨_, rfl⟩
          obtain rfl : iv = (i : Int) := by omega
          have hin : i < n := by omega
          have i0 : (0 : Int) ≤ (i : Int) := by omega
          have i1 : (i : Int) < (n : Int) := by omega
          have w3 : IntKind.i64.wrap ((i : Int) - 1) = (i : Int) - 1 := IntWalk.i64_in _ (by omega)
          have HST : Hid (∀ k v, tabF p r n (m + 1) k v = stepT p r i (tabF p r n m) k v) := hide (fun k v => by rw [← hi]; rfl)
          have HBD := hide (tabF_bd p r n m)
          have HCP := hide (cpOk_p (HCA.out i hin))
          generalize tabF p r n m = T at HT HST HBD
          obtain ⟨b, hb⟩ : ∃ b, r i = b := ⟨_, rfl⟩
          obtain ⟨a, ha⟩ : ∃ b, p i = b := ⟨_, rfl⟩
          obtain ⟨rb, ro, rfl, hrb, hrc⟩ := VR1.at_ HR.out hin
          obtain ⟨pb, po, rfl, hpb, hpc⟩ := VR1.at_ HP.out hin
          rw [hb] at hrc
          rw [ha] at hpc
          have HSTT : Hid (∀ k v, tabF p r n (m + 1) k v = if k = i then barT b (T i) v else if 0 < i ∧ (k : Int) = a then T k v + (bestF (barT b (T i)) v 16).2 else T k v) := hide (fun k v => by rw [HST.out]; unfold stepT; rw [hb, ha])
          rw [ha, hb] at HCP
          have HI := hide hi
          clear HST ha hb hi hiv
          have HRC := hide (And.intro hrb hrc)
          have HPC := hide (And.intro hpb hpc)
          clear hrb hrc hpb hpc
          go_upto_region 16 with fail
          go_loopw [76] (fun x wr => ∃ v : Nat, x = .int .i64 v ∧ v ≤ 16 ∧ Hid (RT w wr D n (fun k u => if k = i ∧ u < v then barT b (T i) u else T k u))) (fun x _ => 16 - (intOf x).toNat)
          case atStart => exact ⟨0, rfl, by omega, hide (HT.out.congr (fun k u _ _ => by rw [if_neg (by omega)]))⟩
          case round =>
            obtain ⟨v, rfl, hv, HV⟩ := hrel
            clear HT
            by_cases hv16 : v < 16
            · -- BEGIN4
              have hv16' : (v : Int) < 16 := by omega
              have v0 : (0 : Int) ≤ (v : Int) := by omega
              have hrc := (HV.out.below.cell (p := ⟨rb, ro + i, none⟩) HRC.out.1).trans HRC.out.2
              by_cases hb0 : 0 ≤ b
              · by_cases hbv : b = (v : Int)
                · have e1 : (b != (v : Int)) = false := by rw [hbv]; exact bne_self_eq_false _
                  have hbar : barT b (T i) v = T i v := by unfold barT barI; rw [if_neg]; simp [hbv]
                  have HBAR := hide hbar
                  clear hbv hbar
                  go_wp2_with fail
                  go_roundw
                  case rel => exact ⟨v + 1, by go_num, by omega, hide (HV.out.congr (fun k u _ _ => by
                    by_cases h1 : k = i ∧ u < v
                    · rw [if_pos h1, if_pos (by omega)]
                    · rw [if_neg h1]
                      by_cases h2 : k = i ∧ u < v + 1
                      · obtain ⟨rfl, h3⟩ := h2
                        obtain rfl : u = v := by omega
                        rw [if_pos (by omega), HBAR.out]
                      · rw [if_neg h2]))⟩
                  case measure => simp [intOf]; omega
                · have e1 : (b != (v : Int)) = true := by rw [bne_iff_ne]; exact hbv
                  have hbar : barT b (T i) v = 1000 := by unfold barT barI; rw [if_pos]; simp [hb0, hbv]
                  have HBAR := hide hbar
                  have HPUT := hide (HV.out.put hin hv16 1000)
                  have cD := HV.out.at_ hin hv16
                  have fD := HV.out.blk.frozen (i * 16 + v)
                  have lD := HV.out.blk.lt
                  clear hbv hbar
                  go_wp2_with fail
                  go_roundw
                  case rel => exact ⟨v + 1, by go_num, by omega, hide (HPUT.out.congr (fun k u _ _ => by
                    by_cases h1 : k = i ∧ u = v
                    · obtain ⟨rfl, rfl⟩ := h1
                      rw [if_pos ⟨rfl, rfl⟩, if_pos (by omega), HBAR.out]
                    · rw [if_neg h1]
                      by_cases h2 : k = i ∧ u < v
                      · rw [if_pos h2, if_pos (by omega)]
                      · rw [if_neg h2, if_neg (by omega)]))⟩
                  case measure => simp [intOf]; omega
              · have hbar : barT b (T i) v = T i v := by unfold barT barI; rw [if_neg]; simp; omega
                have HBAR := hide hbar
                clear hbar
                go_wp2_with fail
                go_roundw
                case rel => exact ⟨v + 1, by go_num, by omega, hide (HV.out.congr (fun k u _ _ => by
                    by_cases h1 : k = i ∧ u < v
                    · rw [if_pos h1, if_pos (by omega)]
                    · rw [if_neg h1]
                      by_cases h2 : k = i ∧ u < v + 1
                      · obtain ⟨rfl, h3⟩ := h2
                        obtain rfl : u = v := by omega
                        rw [if_pos (by omega), HBAR.out]
                      · rw [if_neg h2]))⟩
                case measure => simp [intOf]; omega
              -- END4
            · -- BEGIN5
              obtain rfl : v = 16 := by omega
              have hnl16 : ¬ ((16 : Nat) : Int) < 16 := by omega
              have HV1 : Hid (RT w wr D n (fun k u => if k = i then barT b (T i) u else T k u)) := hide (HV.out.congr (fun k u _ hu => by
                by_cases h1 : k = i
                · rw [if_pos ⟨h1, hu⟩, if_pos h1]
                · rw [if_neg (by omega), if_neg h1]))
              clear HV
              by_cases hi0 : i = 0
              · subst hi0
                have HN : Hid (RT w wr D n (tabF p r n (m + 1))) := hide (HV1.out.congr (fun k u _ _ => by
                  rw [HSTT.out]
                  by_cases h1 : k = 0
                  · rw [if_pos h1, if_pos h1]
                  · rw [if_neg h1, if_neg h1, if_neg (by omega)]))
                clear HV1
                go_wp2_with fail
                go_roundw
                case rel => exact ⟨m + 1, ((0 : Nat) : Int) - 1, by first | rfl | rw [IntWalk.i64_in _ (by omega)], by have := HI.out; omega, by omega, HN⟩
                case measure => first | (simp [intOf]; omega) | simp [intOf]
              · have hi0' : (0 : Int) < (i : Int) := by omega
                obtain ⟨q, rfl⟩ : ∃ q : Nat, a = (q : Int) := ⟨a.toNat, by have := HCP.out.2.2.1; omega⟩
                have hqi : q < i := by have := HCP.out.1; omega
                have q0 : (0 : Int) ≤ (q : Int) := by omega
                have q1 : (q : Int) < (n : Int) := by omega
                have hqn : q < n := by omega
                go_upto_region 23 with fail
                go_loopw [100] (fun x wr => ∃ v : Nat, x = .int .i64 v ∧ v ≤ 16 ∧ Hid (RT w wr D n (fun k u => if k = i then barT b (T i) u else if k = q ∧ u < v then T k u + (bestF (barT b (T i)) u 16).2 else T k u))) (fun x _ => 16 - (intOf x).toNat)
                case atStart => exact ⟨0, rfl, by omega, hide (HV1.out.congr (fun k u _ _ => by
                  by_cases h1 : k = i
                  · rw [if_pos h1, if_pos h1]
                  · rw [if_neg h1, if_neg h1, if_neg (by omega)]))⟩
                case round =>
                  obtain ⟨v, rfl, hv, HV⟩ := hrel
                  clear HV1
                  by_cases hv16 : v < 16
                  · -- BEGIN7
                    have hv16' : (v : Int) < 16 := by omega
                    have v0 : (0 : Int) ≤ (v : Int) := by omega
                    have HBST := hide (best_any D (i * 16) (barT b (T i)) (v : Int) wr HV.out.blk.lt (fun k hk => by
                      have h := HV.out.at_ hin hk
                      rw [if_pos rfl] at h
                      exact h) (fun k hk => by
                      have h := HBD.out i k
                      have h2 : ((m : Nat) : Int) ≤ 20 := by omega
                      refine ⟨barT_nn (fun u => (HBD.out i u).1) k, ?_⟩
                      unfold barT
                      split
                      · omega
                      · omega))
                    have hbl := bestF_low (barT b (T i)) (v : Int) (fun k => barT_nn (fun u => (HBD.out i u).1) k) 16
                    have htq := HBD.out q v
                    go_wp2_with fail
                    refine HBST.out.mono ?_
                    rintro e w4 ⟨rfl, hb4⟩
                    have HV4 := hide (HV.out.ext hb4)
                    clear HBST HV hb4
                    obtain ⟨y, hy⟩ : ∃ y, (bestF (barT b (T i)) (v : Int) 16).2 = y := ⟨_, rfl⟩
                    obtain ⟨t, ht⟩ : ∃ y, T q v = y := ⟨_, rfl⟩
                    rw [hy] at hbl ⊢
                    rw [ht] at htq
                    have wy : IntKind.i64.wrap (t + y) = t + y := IntWalk.i64_in _ (by omega)
                    have HYT := hide (And.intro hy ht)
                    clear hy ht
                    go_upto_region 26 with fail
                    have HV5 := hide (HV4.out.ext (Below.refl w4.heap.size w4).drew)
                    refine wp_region_K (pickS [4, 8] (fun W : World => W.cell? ⟨pb, po + i, none⟩ = some (.int .i64 (q : Nat)) ∧ W.cell? ⟨D, q * 16 + v, none⟩ = some (.int .i64 t)) (fun _ => True)) (by kernel_rfl) ?_
                    generalize w4.drew = w5 at HV5 ⊢
                    have HS : Hid (w5.cell? ⟨pb, po + i, none⟩ = some (.int .i64 (q : Nat)) ∧ w5.cell? ⟨D, q * 16 + v, none⟩ = some (.int .i64 t)) := hide ⟨(HV5.out.below.cell (p := ⟨pb, po + i, none⟩) HPC.out.1).trans HPC.out.2, by
                      have h := HV5.out.at_ hqn hv16
                      rw [if_neg (by omega), if_neg (by omega), HYT.out.2] at h
                      exact h⟩
                    have HPUT := hide (HV5.out.put hqn hv16 (t + y))
                    have cD := HS.out.2
                    have fD := HV5.out.blk.frozen (q * 16 + v)
                    have lD := HV5.out.blk.lt
                    refine wpAnyK_take 0 (v := ?_) (by first | exact hF | exact wideFn) trivial rfl (by kernel_rfl) (by kernel_rfl) (by kernel_rfl) (by kernel_rfl) rfl ?_ (by first | exact fun _ _ _ h => h | exact fun _ _ _ h => hQ2 _ _ _ _ _ h) ?_
                    rotate_left
                    · intro W hSW
                      replace hSW : True := hSW
                      simp only [glA, glB, glC]
                      (try dsimp only at hSW)
                      go_simp
                      with_reducible rfl
                    (try simp only [glA, glB, glC, Act.put, glD, glE, glF])
                    refine wpAnyK_take 1 (v := ?_) (by first | exact hF | exact wideFn) trivial rfl (by kernel_rfl) (by kernel_rfl) (by kernel_rfl) (by kernel_rfl) rfl ?_ (by first | exact fun _ _ _ h => h | exact fun _ _ _ h => hQ2 _ _ _ _ _ h) ?_
                    rotate_left
                    · intro W hSW
                      replace hSW : True := hSW
                      simp only [glA, glB, glC]
                      (try dsimp only at hSW)
                      go_simp
                      with_reducible rfl
                    (try simp only [glA, glB, glC, Act.put, glD, glE, glF])
                    refine wpAnyK_take 2 (v := ?_) (by first | exact hF | exact wideFn) trivial rfl (by kernel_rfl) (by kernel_rfl) (by kernel_rfl) (by kernel_rfl) rfl ?_ (by first | exact fun _ _ _ h => h | exact fun _ _ _ h => hQ2 _ _ _ _ _ h) ?_
                    rotate_left
                    · intro W hSW
                      replace hSW : True := hSW
                      simp only [glA, glB, glC]
                      (try dsimp only at hSW)
                      go_simp
                      with_reducible rfl
                    (try simp only [glA, glB, glC, Act.put, glD, glE, glF])
                    refine wpAnyK_take 3 (v := ?_) (by first | exact hF | exact wideFn) trivial rfl (by kernel_rfl) (by kernel_rfl) (by kernel_rfl) (by kernel_rfl) rfl ?_ (by first | exact fun _ _ _ h => h | exact fun _ _ _ h => hQ2 _ _ _ _ _ h) ?_
                    rotate_left
                    · intro W hSW
                      replace hSW : True := hSW
                      simp only [glA, glB, glC]
                      (try dsimp only at hSW)
                      go_simp
                      with_reducible rfl
                    (try simp only [glA, glB, glC, Act.put, glD, glE, glF])
                    refine wpAnyK_take 4 (v := ?_) (by first | exact hF | exact wideFn) (And.intro HS.out trivial) rfl (by kernel_rfl) (by kernel_rfl) (by kernel_rfl) (by kernel_rfl) rfl ?_ (by first | exact fun _ _ _ h => h | exact fun _ _ _ h => hQ2 _ _ _ _ _ h) ?_
                    rotate_left
                    · intro W hSW
                      replace hSW : ((W.cell? ⟨pb, po + i, none⟩ = some (.int .i64 (q : Nat)) ∧ W.cell? ⟨D, q * 16 + v, none⟩ = some (.int .i64 t)) ∧ True) := hSW
                      simp only [glA, glB, glC]
                      (try dsimp only at hSW)
                      go_simp
                      with_reducible rfl
                    (try simp only [glA, glB, glC, Act.put, glD, glE, glF])
                    refine wpAnyK_take 5 (v := ?_) (by first | exact hF | exact wideFn) trivial rfl (by kernel_rfl) (by kernel_rfl) (by kernel_rfl) (by kernel_rfl) rfl ?_ (by first | exact fun _ _ _ h => h | exact fun _ _ _ h => hQ2 _ _ _ _ _ h) ?_
                    rotate_left
                    · intro W hSW
                      replace hSW : True := hSW
                      simp only [glA, glB, glC]
                      (try dsimp only at hSW)
                      go_simp
                      with_reducible rfl
                    (try simp only [glA, glB, glC, Act.put, glD, glE, glF])
                    refine wpAnyK_take 6 (v := ?_) (by first | exact hF | exact wideFn) trivial rfl (by kernel_rfl) (by kernel_rfl) (by kernel_rfl) (by kernel_rfl) rfl ?_ (by first | exact fun _ _ _ h => h | exact fun _ _ _ h => hQ2 _ _ _ _ _ h) ?_
                    rotate_left
                    · intro W hSW
                      replace hSW : True := hSW
                      simp only [glA, glB, glC]
                      (try dsimp only at hSW)
                      go_simp
                      with_reducible rfl
                    (try simp only [glA, glB, glC, Act.put, glD, glE, glF])
                    refine wpAnyK_take 7 (v := ?_) (by first | exact hF | exact wideFn) trivial rfl (by kernel_rfl) (by kernel_rfl) (by kernel_rfl) (by kernel_rfl) rfl ?_ (by first | exact fun _ _ _ h => h | exact fun _ _ _ h => hQ2 _ _ _ _ _ h) ?_
                    rotate_left
                    · intro W hSW
                      replace hSW : True := hSW
                      simp only [glA, glB, glC]
                      (try dsimp only at hSW)
                      go_simp
                      with_reducible rfl
                    (try simp only [glA, glB, glC, Act.put, glD, glE, glF])
                    refine wpAnyK_take 8 (v := ?_) (by first | exact hF | exact wideFn) (And.intro HS.out trivial) rfl (by kernel_rfl) (by kernel_rfl) (by kernel_rfl) (by kernel_rfl) rfl ?_ (by first | exact fun _ _ _ h => h | exact fun _ _ _ h => hQ2 _ _ _ _ _ h) ?_
                    rotate_left
                    · intro W hSW
                      replace hSW : ((W.cell? ⟨pb, po + i, none⟩ = some (.int .i64 (q : Nat)) ∧ W.cell? ⟨D, q * 16 + v, none⟩ = some (.int .i64 t)) ∧ True) := hSW
                      simp only [glA, glB, glC]
                      (try dsimp only at hSW)
                      go_simp
                      with_reducible rfl
                    (try simp only [glA, glB, glC, Act.put, glD, glE, glF])
                    refine wpAnyK_take 9 (v := ?_) (by first | exact hF | exact wideFn) trivial rfl (by kernel_rfl) (by kernel_rfl) (by kernel_rfl) (by kernel_rfl) rfl ?_ (by first | exact fun _ _ _ h => h | exact fun _ _ _ h => hQ2 _ _ _ _ _ h) ?_
                    rotate_left
                    · intro W hSW
                      replace hSW : True := hSW
                      simp only [glA, glB, glC]
                      (try dsimp only at hSW)
                      go_simp
                      with_reducible rfl
                    (try simp only [glA, glB, glC, Act.put, glD, glE, glF])
                    refine wpAnyK_take 10 (v := ?_) (by first | exact hF | exact wideFn) trivial rfl (by kernel_rfl) (by kernel_rfl) (by kernel_rfl) (by kernel_rfl) rfl ?_ (by first | exact fun _ _ _ h => h | exact fun _ _ _ h => hQ2 _ _ _ _ _ h) ?_
                    rotate_left
                    · intro W hSW
                      replace hSW : True := hSW
                      simp only [glA, glB, glC]
                      (try dsimp only at hSW)
                      go_simp
                      with_reducible rfl
                    (try simp only [glA, glB, glC, Act.put, glD, glE, glF])
                    refine wpAnyK_take 11 (v := ?_) (by first | exact hF | exact wideFn) trivial rfl (by kernel_rfl) (by kernel_rfl) (by kernel_rfl) (by kernel_rfl) rfl ?_ (by first | exact fun _ _ _ h => h | exact fun _ _ _ h => hQ2 _ _ _ _ _ h) ?_
                    rotate_left
                    · intro W hSW
                      replace hSW : True := hSW
                      simp only [glA, glB, glC]
                      (try dsimp only at hSW)
                      go_simp
                      with_reducible rfl
                    (try simp only [glA, glB, glC, Act.put, glD, glE, glF])
                    refine wpAnyK_take 12 (v := ?_) (by first | exact hF | exact wideFn) trivial rfl (by kernel_rfl) (by kernel_rfl) (by kernel_rfl) (by kernel_rfl) rfl ?_ (by first | exact fun _ _ _ h => h | exact fun _ _ _ h => hQ2 _ _ _ _ _ h) ?_
                    rotate_left
                    · intro W hSW
                      replace hSW : True := hSW
                      simp only [glA, glB, glC]
                      (try dsimp only at hSW)
                      go_simp
                      with_reducible rfl
                    (try simp only [glA, glB, glC, Act.put, glD, glE, glF])
                    refine wpAnyK_one 13 rfl (by kernel_rfl) (fun K hK => ?_)
                    simp only [glA, glB, glC]
                    go_simp
                    refine hK.out _ _ (.inr (pickS_need (by kernel_rfl) trivial)) ?_
                    clear hK K
                    (try simp only [glA, glB, glC, Act.put, glD, glE, glF])
                    refine wpAnyK_done (by kernel_rfl) ?_
                    clear cD fD lD
                    go_wp2_with fail
                    go_roundw
                    case rel => exact ⟨v + 1, by go_num, by omega, hide (HPUT.out.congr (fun k u _ _ => by
                      by_cases h1 : k = q ∧ u = v
                      · obtain ⟨rfl, rfl⟩ := h1
                        rw [if_pos ⟨rfl, rfl⟩, if_neg (by omega), if_pos (by omega), HYT.out.1, HYT.out.2]
                      · rw [if_neg h1]
                        by_cases h2 : k = i
                        · rw [if_pos h2, if_pos h2]
                        · rw [if_neg h2, if_neg h2]
                          by_cases h3 : k = q ∧ u < v
                          · rw [if_pos h3, if_pos (by omega)]
                          · rw [if_neg h3, if_neg (by omega)]))⟩
                    case measure => simp [intOf]; omega
                    -- END7
                  · -- BEGIN8
                    obtain rfl : v = 16 := by omega
                    have HN : Hid (RT w wr D n (tabF p r n (m + 1))) := hide (HV.out.congr (fun k u _ hu => by
                      rw [HSTT.out]
                      by_cases h1 : k = i
                      · rw [if_pos h1, if_pos h1]
                      · rw [if_neg h1, if_neg h1]
                        by_cases h2 : k = q
                        · rw [if_pos ⟨h2, hu⟩, if_pos (by omega)]
                        · rw [if_neg (by omega), if_neg (by omega)]))
                    clear HV
                    go_wp2_with fail
                    go_roundw
                    case rel => exact ⟨m + 1, (i : Int) - 1, by first | rfl | rw [IntWalk.i64_in _ (by omega)], by have := HI.out; omega, by omega, HN⟩
                    case measure => first | (simp [intOf]; omega) | simp [intOf]
                    -- END8
              -- END5
          -- END3
        · -- BEGIN6
          obtain rfl : n = m := by omega
          obtain rfl : iv = -1 := by omega
          clear hiv
          have HBD := hide (tabF_bd p r n n)
          generalize tabF p r n n = T at HT HBD HX
          go_upto_region 29 with fail
          go_loopw [4, 5, 127] (fun u z x wr => ∃ (k : Nat) (v : Value), u = v ∧ k ≤ n ∧ x = .int .i64 k ∧ z = .int .i64 (if k = 0 then 0 else (bestF (T 0) (-1) 16).2 - 1) ∧ Hid (RT w wr D n T) ∧ Hid (OwnJ wr w.heap.size v (allF p T k))) (fun _ _ x _ => n - (intOf x).toNat)
          case atStart => exact ⟨0, _, rfl, Nat.zero_le _, rfl, rfl, HT, hide (OwnJ.nil _ _)⟩
          case round =>
            obtain ⟨k, v, rfl, hk, rfl, rfl, HV, HO⟩ := hrel
            clear HT
            by_cases hlt : k < n
            · -- BEGIN9
              have hlt' : (k : Int) < (n : Int) := by omega
              have k0 : (0 : Int) ≤ (k : Int) := by omega
              have HCP := hide (cpOk_p (HCA.out k hlt))
              obtain ⟨a, ha⟩ : ∃ b, p k = b := ⟨_, rfl⟩
              obtain ⟨pb, po, rfl, hpb, hpc⟩ := VR1.at_ (ER.below HP.out HV.out.below (Nat.le_refl _)) hlt
              rw [ha] at hpc HCP
              have hnx : allF p T (k + 1) = allF p T k ++ [(bestF (T k) (if 0 ≤ a then (allF p T k).getD a.toNat 0 else -1) 16).1] := by
                rw [← ha]; rfl
              have hrow : ∀ (f : Int) (W : World), RT w W D n T → Calls Tryd.prog 29 #[.pointer (some ⟨D, k * 16, none⟩), .int .i64 f] W fun e w' => e = .returned (.tuple #[.int .i64 (bestF (T k) f 16).1, .int .i64 (bestF (T k) f 16).2]) ∧ Below W.heap.size W w' := fun f W h =>
                best_any D (k * 16) (T k) f W h.blk.lt (fun u hu => h.at_ hlt hu) (fun u hu => by
                  have h := HBD.out k u
                  have h2 : ((n : Nat) : Int) ≤ 20 := by omega
                  omega)
              have HROW := hide hrow
              have hlen := allF_len p T k
              obtain ⟨lk, hlk⟩ : ∃ l, allF p T k = l := ⟨_, rfl⟩
              rw [hlk] at HO hnx hlen
              have HNX := hide hnx
              obtain ⟨AA, cc, hAA⟩ := own_shape HO.out
              rw [hlen] at hAA
              subst hAA
              have HLEN := hide hlen
              have HHA := hide ha
              clear ha hnx hlen hlk
              obtain ⟨z, hz⟩ : ∃ z, (if k = 0 then (0 : Int) else (bestF (T 0) (-1) 16).2 - 1) = z := ⟨_, rfl⟩
              rw [hz]
              have HZ := hide hz
              clear hz
              by_cases ha0 : 0 ≤ a
              · obtain ⟨q, rfl⟩ : ∃ q : Nat, a = (q : Int) := ⟨a.toNat, by omega⟩
                have hqk : q < k := by have := HCP.out.1; omega
                have hqk' : (q : Int) < (k : Int) := by omega
                have hal : ¬ (q : Int) < 0 := by omega
                obtain ⟨ob, oo, rfl, hob, hoc⟩ := VR1.at_ (k := q) (HO.out.li).2 (by have := HLEN.out; omega)
                obtain ⟨f, hf⟩ : ∃ f, lk.getD q 0 = f := ⟨_, rfl⟩
                rw [hf] at hoc
                have HNY := hide (HNX.out.trans (by rw [if_pos ha0, show ((q : Int)).toNat = q by omega, hf] : _ = lk ++ [(bestF (T k) f 16).1]))
                clear hf
                go_wp2_with fail
                refine (HROW.out (f) wr HV.out).mono ?_
                rintro e w4 ⟨rfl, hb4⟩
                have HV4 := hide (HV.out.ext hb4)
                have HO4 := hide (HO.out.ext hb4)
                clear hb4 HV HO HROW
                obtain ⟨y1, hy1⟩ : ∃ y, (bestF (T k) (f) 16).1 = y := ⟨_, rfl⟩
                obtain ⟨y2, hy2⟩ : ∃ y, (bestF (T k) (f) 16).2 = y := ⟨_, rfl⟩
                have hbl := bestF_low (T k) (f) (fun u => (HBD.out k u).1) 16
                rw [hy2] at hbl
                rw [hy1, hy2]
                have wy : IntKind.i64.wrap (y2 - 1) = y2 - 1 := IntWalk.i64_in _ (by omega)
                have HY := hide (And.intro hy1 hy2)
                clear hy1 hy2
                have hV6 := HV4.out.ext ((Below.refl w4.heap.size w4).alloc (Nat.le_refl _) (.cells #[.int .i64 y1] 3))
                obtain ⟨v6, w6, hrun, ho6, hg6⟩ := HO4.out.push y1 (by have := HLEN.out; omega) HV4.out.below.size
                have HV6 := hide (hV6.grown hg6 (fun j hj => (World.ownsRow.lt HO4.out j hj).1) (own_blk_ne HO4.out HV4.out.blk (by decide)))
                have HO6 := hide ho6
                have HRUN := hide hrun
                clear hV6 ho6 hg6 hrun HV4 HO4
                go_wp2_with (at_builtin; refine wpList_append_run rfl (.tmp 146) (.tmp 148) 26 rfl rfl rfl HRUN.out ?_)
                go_roundw
                case rel => exact ⟨k + 1, v6, rfl, by omega, by go_num, by rw [if_neg (by omega), ← HZ.out, if_neg (by omega)], HV6, hide (by rw [HNY.out, HY.out.1]; exact HO6.out)⟩
                case measure => simp [intOf]; omega
              · have hk0 : k = 0 := by
                  rcases Nat.eq_zero_or_pos k with h | h
                  · exact h
                  · exact absurd (HCP.out.2.2.1 h) ha0
                have hal : a < 0 := by omega
                have HK0 := hide hk0
                have HNY := hide (HNX.out.trans (by rw [if_neg ha0] : _ = lk ++ [(bestF (T k) (-1) 16).1]))
                clear hk0
                go_wp2_with fail
                refine (HROW.out (-1) wr HV.out).mono ?_
                rintro e w4 ⟨rfl, hb4⟩
                have HV4 := hide (HV.out.ext hb4)
                have HO4 := hide (HO.out.ext hb4)
                clear hb4 HV HO HROW
                obtain ⟨y1, hy1⟩ : ∃ y, (bestF (T k) (-1) 16).1 = y := ⟨_, rfl⟩
                obtain ⟨y2, hy2⟩ : ∃ y, (bestF (T k) (-1) 16).2 = y := ⟨_, rfl⟩
                have hbl := bestF_low (T k) (-1) (fun u => (HBD.out k u).1) 16
                rw [hy2] at hbl
                rw [hy1, hy2]
                have wy : IntKind.i64.wrap (y2 - 1) = y2 - 1 := IntWalk.i64_in _ (by omega)
                have HY := hide (And.intro hy1 hy2)
                clear hy1 hy2
                have hV6 := HV4.out.ext ((Below.refl w4.heap.size w4).alloc (Nat.le_refl _) (.cells #[.int .i64 y1] 3))
                obtain ⟨v6, w6, hrun, ho6, hg6⟩ := HO4.out.push y1 (by have := HLEN.out; omega) HV4.out.below.size
                have HV6 := hide (hV6.grown hg6 (fun j hj => (World.ownsRow.lt HO4.out j hj).1) (own_blk_ne HO4.out HV4.out.blk (by decide)))
                have HO6 := hide ho6
                have HRUN := hide hrun
                clear hV6 ho6 hg6 hrun HV4 HO4
                go_wp2_with (at_builtin; refine wpList_append_run rfl (.tmp 146) (.tmp 148) 26 rfl rfl rfl HRUN.out ?_)
                go_roundw
                case rel => exact ⟨k + 1, v6, rfl, by omega, by go_num, by rw [if_neg (by omega), ← HY.out.2, HK0.out], HV6, hide (by rw [HNY.out, HY.out.1]; exact HO6.out)⟩
                case measure => simp [intOf]; omega
              -- END9
            · -- BEGIN10
              obtain rfl : n = k := by omega
              rw [if_neg (by omega)]
              go_wp2_with fail
              go_ret3
              rw [HX.out]
              exact ⟨_, rfl, HO.out, HV.out.below⟩
              -- END10
          -- END6
      -- END2
theorem Restore_any (A B : Option Addr) (c d : Nat) (P R : List Int) (w : World) (hP : LI w w.heap.size A P) (hR : LI w w.heap.size B R) :
    Calls Tryd.prog 13 #[.slice A P.length c, .slice B R.length d] w (RsPost w (rsR P R)) := by
  by_cases h1 : 20 < P.length
  · have e : rsR P R = ([], 0, 5) := by unfold rsR; rw [if_pos h1]
    rw [e]
    exact restore_long A B c d P R w h1
  · by_cases h2 : P.length = 0 ∨ R.length ≠ P.length
    · have e : rsR P R = ([], 0, 2) := by
        unfold rsR; rw [if_neg h1, if_pos]
        exact h2.imp id .inl
      rw [e]
      exact restore_len A B c d P R w (by omega) h2
    · have h3 : R.length = P.length := by omega
      have h4 : P.length ≠ 0 := fun e => h2 (.inl e)
      have hR' := hR
      unfold LI at hP hR'
      rw [h3] at hR' ⊢
      refine restore_go A B c d P.length P R _ _ w _ (by omega) (by omega) hP hR' (fun h => ?_) (fun h => ?_)
      · unfold rsR; rw [if_neg h1, if_pos (.inr (.inr h))]
      · unfold rsR; rw [if_neg h1, if_neg]
        rintro (e | e | e)
        · exact h4 e
        · exact e h3
        · rw [h] at e; cases e
end Go.Proofs.YtfbnpiafoaoddaaDoor
/- School: slices.Index and Contains at ints; sets: clean, special. -/
namespace Go.Proofs.YtfbnpiafoaoddaaDoor
open Go Go.RowKit Go.Shelf
set_option maxHeartbeats 2000000
set_option maxRecDepth 100000
theorem index_any (v : Int) (A : Option Addr) (n c : Nat) (x : Nat → Int) (w : World) (hn : n ≤ 1000000) (hR : IR w w.heap.size A n x) :
    Calls Tryd.prog 54 #[.slice A n c, .int .i64 v] w fun e w' => e = .returned (.int .i64 (idx (fun k => x k == v) n)) ∧ w' = w := by
  have HR := hide hR
  clear hR
  go_enter Tryd.func54, Tryd.ntmps54
  go_wp2_with fail
  go_loopw [8] (fun i wr => ∃ k : Nat, k ≤ n ∧ i = .int .i64 k ∧ Hid (idx (fun k => x k == v) k = -1) ∧ Hid (wr = w)) (fun i _ => n - (intOf i).toNat)
  case atStart => exact ⟨0, Nat.zero_le _, rfl, hide rfl, hide rfl⟩
  case round =>
    obtain ⟨k, hk, rfl, HX, HW⟩ := hrel
    obtain rfl := HW.out
    by_cases hlt : k < n
    · obtain ⟨b, off, rfl, hb, hc⟩ := HR.out.at_ hlt
      have i1 : (0 : Int) ≤ (k : Int) := by omega
      have i2 : (k : Int) < (n : Int) := by omega
      by_cases hx : x k = v
      · have h1 : (v == x k) = true := by simp [hx]
        have h2 : idx (fun k => x k == v) n = k := by
          have h3 : idx (fun k => x k == v) (k + 1) = k := by simp [idx, HX.out, hx]
          rw [idx_stable _ (k + 1) n (by rw [h3]; omega) (by omega), h3]
        have H2 := hide h2
        clear h2 hx
        go_wp2_with fail
        go_ret
        exact ⟨ret_int H2.out.symm, rfl⟩
      · have h1 : (v == x k) = false := by simp; exact fun e => hx e.symm
        have h2 : idx (fun k => x k == v) (k + 1) = -1 := by simp [idx, HX.out, hx]
        have H2 := hide h2
        clear h2 hx
        go_wp2_with fail
        go_roundw
        case rel => exact ⟨k + 1, by omega, by go_num, H2, trivial⟩
        case measure => simp [intOf]; omega
    · obtain rfl : k = n := by omega
      have i2 : ¬ (k : Int) < (k : Int) := by omega
      go_wp2_with fail
      go_ret
      exact ⟨ret_int HX.out.symm, rfl⟩
theorem contains_any (v : Int) (A : Option Addr) (n c : Nat) (x : Nat → Int) (w : World) (hn : n ≤ 1000000) (hR : IR w w.heap.size A n x) :
    Calls Tryd.prog 46 #[.slice A n c, .int .i64 v] w fun e w' => e = .returned (.bool (anyTo (fun k => x k == v) n)) ∧ w' = w := by
  have H := hide (index_any v A n c x w hn hR)
  rw [← idx_any]
  generalize idx (fun k => x k == v) n = R at H ⊢
  clear hR
  go_enter Tryd.func46, Tryd.ntmps46
  go_wp2_with fail
  refine H.out.mono ?_
  rintro e w1 ⟨rfl, rfl⟩
  go_wp2_with fail
  go_ret
  exact ⟨rfl, rfl⟩
theorem set5_at {W : World} {g : Nat} {s : Nat → Nat} (h : Blk W g 90 #[.int .i64 (s 0 : Nat), .int .i64 (s 1 : Nat), .int .i64 (s 2 : Nat), .int .i64 (s 3 : Nat), .int .i64 (s 4 : Nat)]) {k : Nat} (hk : k < 5) : W.cell? ⟨g, k, none⟩ = some (.int .i64 (s k : Nat)) := by
  rw [h.cell]
  rcases (by omega : k = 0 ∨ k = 1 ∨ k = 2 ∨ k = 3 ∨ k = 4) with rfl | rfl | rfl | rfl | rfl <;> rfl
/-- a set of cases that is empty in one feature has none -/
def clnF (s : Nat → Nat) (n : Nat) (k : Nat) : Nat := if anyTo (fun j => ((s j : Nat) : Int) == 0) n then 0 else s k
theorem clean_any (s : Nat → Nat) (n : Nat) (w : World) (hn : n ≤ 5) :
    Calls Tryd.prog 30 #[(.agg #[.int .i64 (s 0 : Nat), .int .i64 (s 1 : Nat), .int .i64 (s 2 : Nat), .int .i64 (s 3 : Nat), .int .i64 (s 4 : Nat)]), .int .i64 n] w fun e w' => e = .returned (.agg #[.int .i64 ((clnF s n) 0 : Nat), .int .i64 ((clnF s n) 1 : Nat), .int .i64 ((clnF s n) 2 : Nat), .int .i64 ((clnF s n) 3 : Nat), .int .i64 ((clnF s n) 4 : Nat)]) ∧ Below w.heap.size w w' := by
  have HB0 := hide ((Below.refl w.heap.size w).alloc (Nat.le_refl _) (.cells #[.int .i64 (s 0 : Nat), .int .i64 (s 1 : Nat), .int .i64 (s 2 : Nat), .int .i64 (s 3 : Nat), .int .i64 (s 4 : Nat)] 90))
  have S1 := hide (Blk.new w 90 #[.int .i64 (s 0 : Nat), .int .i64 (s 1 : Nat), .int .i64 (s 2 : Nat), .int .i64 (s 3 : Nat), .int .i64 (s 4 : Nat)])
  have HIR : Hid (∀ W, Below (w.alloc (.cells #[.int .i64 (s 0 : Nat), .int .i64 (s 1 : Nat), .int .i64 (s 2 : Nat), .int .i64 (s 3 : Nat), .int .i64 (s 4 : Nat)] 90)).heap.size (w.alloc (.cells #[.int .i64 (s 0 : Nat), .int .i64 (s 1 : Nat), .int .i64 (s 2 : Nat), .int .i64 (s 3 : Nat), .int .i64 (s 4 : Nat)] 90)) W → IR W W.heap.size (some ⟨w.heap.size, 0, none⟩) n (fun k => ((s k : Nat) : Int))) := hide (fun W h => by
    refine fun _ => ⟨w.heap.size, 0, rfl, (S1.out.ext h).lt, fun k i hk hi => ?_⟩
    obtain rfl : i = 0 := by omega
    have := set5_at (S1.out.ext h) (k := k) (by omega)
    rwa [show 0 + k * 1 + 0 = k by omega])
  go_enter Tryd.func30, Tryd.ntmps30
  go_upto_region 1 with fail
  have hB2 : Below (w.alloc (.cells #[.int .i64 (s 0 : Nat), .int .i64 (s 1 : Nat), .int .i64 (s 2 : Nat), .int .i64 (s 3 : Nat), .int .i64 (s 4 : Nat)] 90)).heap.size (w.alloc (.cells #[.int .i64 (s 0 : Nat), .int .i64 (s 1 : Nat), .int .i64 (s 2 : Nat), .int .i64 (s 3 : Nat), .int .i64 (s 4 : Nat)] 90)) ((w.alloc (.cells #[.int .i64 (s 0 : Nat), .int .i64 (s 1 : Nat), .int .i64 (s 2 : Nat), .int .i64 (s 3 : Nat), .int .i64 (s 4 : Nat)] 90)).alloc (.cells #[.int .i64 0, .int .i64 0, .int .i64 0, .int .i64 0, .int .i64 0] 90)) := (Below.refl _ _).alloc (Nat.le_refl _) _
  have HB2 := hide (HB0.out.trans (hB2.mono HB0.out.size))
  have hT : Blk ((w.alloc (.cells #[.int .i64 (s 0 : Nat), .int .i64 (s 1 : Nat), .int .i64 (s 2 : Nat), .int .i64 (s 3 : Nat), .int .i64 (s 4 : Nat)] 90)).alloc (.cells #[.int .i64 0, .int .i64 0, .int .i64 0, .int .i64 0, .int .i64 0] 90)) (w.heap.size + 1) 90 #[.int .i64 0, .int .i64 0, .int .i64 0, .int .i64 0, .int .i64 0] := by
    simpa using Blk.new (w.alloc (.cells #[.int .i64 (s 0 : Nat), .int .i64 (s 1 : Nat), .int .i64 (s 2 : Nat), .int .i64 (s 3 : Nat), .int .i64 (s 4 : Nat)] 90)) 90 #[.int .i64 0, .int .i64 0, .int .i64 0, .int .i64 0, .int .i64 0]
  have HC := hide (contains_any 0 (some ⟨w.heap.size, 0, none⟩) n 5 _ _ (by omega) (HIR.out _ hB2))
  have HS := hide (S1.out.ext hB2)
  have HT := hide hT
  clear hT hB2 HIR S1 HB0
  generalize ((w.alloc (.cells #[.int .i64 (s 0 : Nat), .int .i64 (s 1 : Nat), .int .i64 (s 2 : Nat), .int .i64 (s 3 : Nat), .int .i64 (s 4 : Nat)] 90)).alloc (.cells #[.int .i64 0, .int .i64 0, .int .i64 0, .int .i64 0, .int .i64 0] 90)) = w2 at HB2 HC HS HT ⊢
  have n0 : (0 : Int) ≤ (n : Int) := by omega
  have n5 : (n : Int) ≤ 5 := by omega
  go_wp2_with fail
  refine HC.out.mono ?_
  rintro e w3 ⟨rfl, rfl⟩
  have hcl : ∀ k, clnF s n k = if anyTo (fun j => ((s j : Nat) : Int) == 0) n then 0 else s k := fun k => rfl
  generalize anyTo (fun j => ((s j : Nat) : Int) == 0) n = t at hcl ⊢
  clear HC
  have lT := HT.out.lt
  have f0 := HT.out.frozen 0
  have f1 := HT.out.frozen 1
  have f2 := HT.out.frozen 2
  have f3 := HT.out.frozen 3
  have f4 := HT.out.frozen 4
  have z0 : w3.cell? ⟨w.heap.size + 1, 0, none⟩ = some (.int .i64 0) := by rw [HT.out.cell]; rfl
  have z1 : w3.cell? ⟨w.heap.size + 1, 1, none⟩ = some (.int .i64 0) := by rw [HT.out.cell]; rfl
  have z2 : w3.cell? ⟨w.heap.size + 1, 2, none⟩ = some (.int .i64 0) := by rw [HT.out.cell]; rfl
  have z3 : w3.cell? ⟨w.heap.size + 1, 3, none⟩ = some (.int .i64 0) := by rw [HT.out.cell]; rfl
  have z4 : w3.cell? ⟨w.heap.size + 1, 4, none⟩ = some (.int .i64 0) := by rw [HT.out.cell]; rfl
  rcases t with _ | _
  · have e0 : ∀ k, clnF s n k = s k := fun k => by rw [hcl]; rfl
    have E0 := hide e0
    clear hcl e0
    have y0 := set5_at HS.out (k := 0) (by omega)
    have y1 := set5_at HS.out (k := 1) (by omega)
    have y2 := set5_at HS.out (k := 2) (by omega)
    have y3 := set5_at HS.out (k := 3) (by omega)
    have y4 := set5_at HS.out (k := 4) (by omega)
    go_wp2_with fail
    have hR : Blk (((((w3.setCell ⟨w.heap.size + 1, 0, none⟩ (.int .i64 (s 0 : Nat))).setCell ⟨w.heap.size + 1, 1, none⟩ (.int .i64 (s 1 : Nat))).setCell ⟨w.heap.size + 1, 2, none⟩ (.int .i64 (s 2 : Nat))).setCell ⟨w.heap.size + 1, 3, none⟩ (.int .i64 (s 3 : Nat))).setCell ⟨w.heap.size + 1, 4, none⟩ (.int .i64 (s 4 : Nat))) (w.heap.size + 1) 90 #[.int .i64 (s 0 : Nat), .int .i64 (s 1 : Nat), .int .i64 (s 2 : Nat), .int .i64 (s 3 : Nat), .int .i64 (s 4 : Nat)] := by
      simpa using ((((HT.out.set_ 0 (.int .i64 (s 0 : Nat))).set_ 1 (.int .i64 (s 1 : Nat))).set_ 2 (.int .i64 (s 2 : Nat))).set_ 3 (.int .i64 (s 3 : Nat))).set_ 4 (.int .i64 (s 4 : Nat))
    have hB5 : Below w.heap.size w (((((w3.setCell ⟨w.heap.size + 1, 0, none⟩ (.int .i64 (s 0 : Nat))).setCell ⟨w.heap.size + 1, 1, none⟩ (.int .i64 (s 1 : Nat))).setCell ⟨w.heap.size + 1, 2, none⟩ (.int .i64 (s 2 : Nat))).setCell ⟨w.heap.size + 1, 3, none⟩ (.int .i64 (s 3 : Nat))).setCell ⟨w.heap.size + 1, 4, none⟩ (.int .i64 (s 4 : Nat))) :=
      ((((HB2.out.setCell (p := ⟨w.heap.size + 1, 0, none⟩) (Nat.le_succ _) _).setCell (p := ⟨w.heap.size + 1, 1, none⟩) (Nat.le_succ _) _).setCell (p := ⟨w.heap.size + 1, 2, none⟩) (Nat.le_succ _) _).setCell (p := ⟨w.heap.size + 1, 3, none⟩) (Nat.le_succ _) _).setCell (p := ⟨w.heap.size + 1, 4, none⟩) (Nat.le_succ _) _
    generalize (((((w3.setCell ⟨w.heap.size + 1, 0, none⟩ (.int .i64 (s 0 : Nat))).setCell ⟨w.heap.size + 1, 1, none⟩ (.int .i64 (s 1 : Nat))).setCell ⟨w.heap.size + 1, 2, none⟩ (.int .i64 (s 2 : Nat))).setCell ⟨w.heap.size + 1, 3, none⟩ (.int .i64 (s 3 : Nat))).setCell ⟨w.heap.size + 1, 4, none⟩ (.int .i64 (s 4 : Nat))) = w5 at hR hB5 ⊢
    have q0 := set5_at hR (k := 0) (by omega)
    have q1 := set5_at hR (k := 1) (by omega)
    have q2 := set5_at hR (k := 2) (by omega)
    have q3 := set5_at hR (k := 3) (by omega)
    have q4 := set5_at hR (k := 4) (by omega)
    refine bodyPost_ret (v := .agg #[.int .i64 (s 0 : Nat), .int .i64 (s 1 : Nat), .int .i64 (s 2 : Nat), .int .i64 (s 3 : Nat), .int .i64 (s 4 : Nat)]) (by simp [results, Tryd.results30, go_sem, q0, q1, q2, q3, q4]) rfl ⟨?_, hB5⟩
    rw [E0.out, E0.out, E0.out, E0.out, E0.out]
  · have e0 : ∀ k, clnF s n k = 0 := fun k => by rw [hcl]; rfl
    have E0 := hide e0
    clear hcl e0
    go_wp2_with fail
    obtain ⟨z, hz⟩ : ∃ z : Nat → Nat, z = fun _ => 0 := ⟨_, rfl⟩
    have hz' : ∀ k, z k = 0 := fun k => by rw [hz]
    have e0 : (0 : Int) = ((0 : Nat) : Int) := rfl
    rw [e0]
    have hR : Blk (((((w3.setCell ⟨w.heap.size + 1, 0, none⟩ (.int .i64 (z 0 : Nat))).setCell ⟨w.heap.size + 1, 1, none⟩ (.int .i64 (z 1 : Nat))).setCell ⟨w.heap.size + 1, 2, none⟩ (.int .i64 (z 2 : Nat))).setCell ⟨w.heap.size + 1, 3, none⟩ (.int .i64 (z 3 : Nat))).setCell ⟨w.heap.size + 1, 4, none⟩ (.int .i64 (z 4 : Nat))) (w.heap.size + 1) 90 #[.int .i64 (z 0 : Nat), .int .i64 (z 1 : Nat), .int .i64 (z 2 : Nat), .int .i64 (z 3 : Nat), .int .i64 (z 4 : Nat)] := by
      simpa using ((((HT.out.set_ 0 (.int .i64 (z 0 : Nat))).set_ 1 (.int .i64 (z 1 : Nat))).set_ 2 (.int .i64 (z 2 : Nat))).set_ 3 (.int .i64 (z 3 : Nat))).set_ 4 (.int .i64 (z 4 : Nat))
    have hB5 : Below w.heap.size w (((((w3.setCell ⟨w.heap.size + 1, 0, none⟩ (.int .i64 (z 0 : Nat))).setCell ⟨w.heap.size + 1, 1, none⟩ (.int .i64 (z 1 : Nat))).setCell ⟨w.heap.size + 1, 2, none⟩ (.int .i64 (z 2 : Nat))).setCell ⟨w.heap.size + 1, 3, none⟩ (.int .i64 (z 3 : Nat))).setCell ⟨w.heap.size + 1, 4, none⟩ (.int .i64 (z 4 : Nat))) :=
      ((((HB2.out.setCell (p := ⟨w.heap.size + 1, 0, none⟩) (Nat.le_succ _) _).setCell (p := ⟨w.heap.size + 1, 1, none⟩) (Nat.le_succ _) _).setCell (p := ⟨w.heap.size + 1, 2, none⟩) (Nat.le_succ _) _).setCell (p := ⟨w.heap.size + 1, 3, none⟩) (Nat.le_succ _) _).setCell (p := ⟨w.heap.size + 1, 4, none⟩) (Nat.le_succ _) _
    simp only [hz'] at hR hB5
    generalize (((((w3.setCell ⟨w.heap.size + 1, 0, none⟩ (.int .i64 ((0 : Nat) : Int))).setCell ⟨w.heap.size + 1, 1, none⟩ (.int .i64 ((0 : Nat) : Int))).setCell ⟨w.heap.size + 1, 2, none⟩ (.int .i64 ((0 : Nat) : Int))).setCell ⟨w.heap.size + 1, 3, none⟩ (.int .i64 ((0 : Nat) : Int))).setCell ⟨w.heap.size + 1, 4, none⟩ (.int .i64 ((0 : Nat) : Int))) = w5 at hR hB5 ⊢
    have q0 : w5.cell? ⟨w.heap.size + 1, 0, none⟩ = some (.int .i64 0) := by rw [hR.cell]; rfl
    have q1 : w5.cell? ⟨w.heap.size + 1, 1, none⟩ = some (.int .i64 0) := by rw [hR.cell]; rfl
    have q2 : w5.cell? ⟨w.heap.size + 1, 2, none⟩ = some (.int .i64 0) := by rw [hR.cell]; rfl
    have q3 : w5.cell? ⟨w.heap.size + 1, 3, none⟩ = some (.int .i64 0) := by rw [hR.cell]; rfl
    have q4 : w5.cell? ⟨w.heap.size + 1, 4, none⟩ = some (.int .i64 0) := by rw [hR.cell]; rfl
    refine bodyPost_ret (v := .agg #[.int .i64 0, .int .i64 0, .int .i64 0, .int .i64 0, .int .i64 0]) (by simp [results, Tryd.results30, go_sem, q0, q1, q2, q3, q4]) rfl ⟨?_, hB5⟩
    rw [E0.out, E0.out, E0.out, E0.out, E0.out]
    rfl
/-- sets that are the same -/
def eqS (s t : Nat → Nat) : Bool := (((s 0 : Nat) : Int) == (t 0 : Nat)) && ((((s 1 : Nat) : Int) == (t 1 : Nat)) && ((((s 2 : Nat) : Int) == (t 2 : Nat)) && ((((s 3 : Nat) : Int) == (t 3 : Nat)) && (((s 4 : Nat) : Int) == (t 4 : Nat)))))
theorem eq_set5 (a b c d e a' b' c' d' e' : Int) (w : World) : (Op.equalIn 10000 90 (.agg #[.int .i64 a, .int .i64 b, .int .i64 c, .int .i64 d, .int .i64 e]) (.agg #[.int .i64 a', .int .i64 b', .int .i64 c', .int .i64 d', .int .i64 e'])).run Tryd.prog w = .ok (a == a' && (b == b' && (c == c' && (d == d' && e == e')))) w := by
  have u3 := Tryd.underlying3
  have a3 := Tryd.isAgg3
  have z3 := Tryd.sizeOf3
  rw [show (10000 : Nat) = 9999 + 1 from rfl, Op.equalIn]
  simp only [Sem.run_bind, run_underlying Tryd.underlying90, Result.andThen_ok]
  simp only [Std.Legacy.Range.forIn_eq_forIn_range', Std.Legacy.Range.size, Nat.sub_zero, Nat.add_sub_cancel, Nat.div_one, List.range'_succ, List.range'_zero, List.forIn_cons, List.forIn_nil]
  go_simp
  by_cases h1 : a = a' <;> by_cases h2 : b = b' <;> by_cases h3 : c = c' <;> by_cases h4 : d = d' <;> by_cases h5 : e = e' <;> simp [h1, h2, h3, h4, h5]
/-- a rule that is more special -/
def spc (s t : Nat → Nat) : Bool := !eqS s t && inTo s t 5
theorem special_any (s t : Nat → Nat) (w : World) (hs : ∀ k, s k < 65536) (ht : ∀ k, t k < 65536) :
    Calls Tryd.prog 35 #[(.agg #[.int .i64 (s 0 : Nat), .int .i64 (s 1 : Nat), .int .i64 (s 2 : Nat), .int .i64 (s 3 : Nat), .int .i64 (s 4 : Nat)]), (.agg #[.int .i64 (t 0 : Nat), .int .i64 (t 1 : Nat), .int .i64 (t 2 : Nat), .int .i64 (t 3 : Nat), .int .i64 (t 4 : Nat)])] w fun e w' => e = .returned (.bool (spc s t)) ∧ Below w.heap.size w w' := by
  have HB0 := hide (((Below.refl w.heap.size w).alloc (Nat.le_refl _) (.cells #[.int .i64 (s 0 : Nat), .int .i64 (s 1 : Nat), .int .i64 (s 2 : Nat), .int .i64 (s 3 : Nat), .int .i64 (s 4 : Nat)] 90)).alloc (by simp) (.cells #[.int .i64 (t 0 : Nat), .int .i64 (t 1 : Nat), .int .i64 (t 2 : Nat), .int .i64 (t 3 : Nat), .int .i64 (t 4 : Nat)] 90))
  have S1 := (Blk.new w 90 #[.int .i64 (s 0 : Nat), .int .i64 (s 1 : Nat), .int .i64 (s 2 : Nat), .int .i64 (s 3 : Nat), .int .i64 (s 4 : Nat)]).alloc (.cells #[.int .i64 (t 0 : Nat), .int .i64 (t 1 : Nat), .int .i64 (t 2 : Nat), .int .i64 (t 3 : Nat), .int .i64 (t 4 : Nat)] 90)
  have T1 := (show Blk _ (w.heap.size + 1) _ _ from by simpa using (Blk.new (w.alloc (.cells #[.int .i64 (s 0 : Nat), .int .i64 (s 1 : Nat), .int .i64 (s 2 : Nat), .int .i64 (s 3 : Nat), .int .i64 (s 4 : Nat)] 90)) 90 #[.int .i64 (t 0 : Nat), .int .i64 (t 1 : Nat), .int .i64 (t 2 : Nat), .int .i64 (t 3 : Nat), .int .i64 (t 4 : Nat)]))
  have HIN : Hid (∀ W, Calls Tryd.prog 48 #[(.agg #[.int .i64 (s 0 : Nat), .int .i64 (s 1 : Nat), .int .i64 (s 2 : Nat), .int .i64 (s 3 : Nat), .int .i64 (s 4 : Nat)]), (.agg #[.int .i64 (t 0 : Nat), .int .i64 (t 1 : Nat), .int .i64 (t 2 : Nat), .int .i64 (t 3 : Nat), .int .i64 (t 4 : Nat)])] W fun e w' => e = .returned (.bool (inTo s t 5)) ∧ Below W.heap.size W w') := hide fun W => in_any s t W hs ht
  unfold spc
  obtain ⟨q, hq⟩ : ∃ q, eqS s t = q := ⟨_, rfl⟩
  rw [hq]
  generalize inTo s t 5 = b at HIN ⊢
  go_enter Tryd.func35, Tryd.ntmps35
  go_upto_region 1 with fail
  generalize ((w.alloc (.cells #[.int .i64 (s 0 : Nat), .int .i64 (s 1 : Nat), .int .i64 (s 2 : Nat), .int .i64 (s 3 : Nat), .int .i64 (s 4 : Nat)] 90)).alloc (.cells #[.int .i64 (t 0 : Nat), .int .i64 (t 1 : Nat), .int .i64 (t 2 : Nat), .int .i64 (t 3 : Nat), .int .i64 (t 4 : Nat)] 90)) = w1 at HB0 S1 T1 ⊢
  have s0 := set5_at S1 (k := 0) (by omega)
  have s1 := set5_at S1 (k := 1) (by omega)
  have s2 := set5_at S1 (k := 2) (by omega)
  have s3 := set5_at S1 (k := 3) (by omega)
  have s4 := set5_at S1 (k := 4) (by omega)
  have t0 := set5_at T1 (k := 0) (by omega)
  have t1 := set5_at T1 (k := 1) (by omega)
  have t2 := set5_at T1 (k := 2) (by omega)
  have t3 := set5_at T1 (k := 3) (by omega)
  have t4 := set5_at T1 (k := 4) (by omega)
  clear S1 T1
  have heq := fun W => eq_set5 (s 0 : Nat) (s 1 : Nat) (s 2 : Nat) (s 3 : Nat) (s 4 : Nat) (t 0 : Nat) (t 1 : Nat) (t 2 : Nat) (t 3 : Nat) (t 4 : Nat) W
  unfold eqS at hq
  simp only [hq] at heq
  clear hq
  rcases q with _ | _
  · go_wp2_with fail
    refine (HIN.out _).mono ?_
    rintro e w2 ⟨rfl, hb2⟩
    go_wp2_with fail
    go_ret
    exact ⟨by first | rfl | simp, HB0.out.trans (hb2.mono HB0.out.size)⟩
  · go_wp2_with fail
    go_ret
    exact ⟨by first | rfl | simp, HB0.out⟩
end Go.Proofs.YtfbnpiafoaoddaaDoor
/- School: sets of values: has. -/
namespace Go.Proofs.YtfbnpiafoaoddaaDoor
open Go Go.RowKit Go.Shelf
set_option maxHeartbeats 2000000
set_option maxRecDepth 100000
/-- the bit that a case's value asks for -/
def hasBit (s : Nat → Nat) (l : List Int) (k : Nat) : Int := bits BinOp.and IntKind.i64 ((s k : Nat) / 2 ^ (l.getD k 0).toNat) 1
theorem has_any (s : Nat → Nat) (A : Option Addr) (c : Nat) (l : List Int) (w : World) (hl : l.length ≤ 5) (hv : ∀ k, k < l.length → 0 ≤ l.getD k 0 ∧ l.getD k 0 ≤ 62) (hA : LI w w.heap.size A l) :
    Calls Tryd.prog 32 #[.agg #[.int .i64 (s 0 : Nat), .int .i64 (s 1 : Nat), .int .i64 (s 2 : Nat), .int .i64 (s 3 : Nat), .int .i64 (s 4 : Nat)], .slice A l.length c] w fun e w' => e = .returned (.bool (decide (∀ k, k < l.length → hasBit s l k ≠ 0))) ∧ Below w.heap.size w w' := by
  have HB0 := hide ((Below.refl w.heap.size w).alloc (Nat.le_refl _) (.cells #[.int .i64 (s 0 : Nat), .int .i64 (s 1 : Nat), .int .i64 (s 2 : Nat), .int .i64 (s 3 : Nat), .int .i64 (s 4 : Nat)] 90))
  have S1 := hide (Blk.new w 90 #[.int .i64 (s 0 : Nat), .int .i64 (s 1 : Nat), .int .i64 (s 2 : Nat), .int .i64 (s 3 : Nat), .int .i64 (s 4 : Nat)])
  obtain ⟨w1, hw1⟩ : ∃ w1, w.alloc (.cells #[.int .i64 (s 0 : Nat), .int .i64 (s 1 : Nat), .int .i64 (s 2 : Nat), .int .i64 (s 3 : Nat), .int .i64 (s 4 : Nat)] 90) = w1 := ⟨_, rfl⟩
  rw [hw1] at HB0 S1
  have HC : Hid (∀ W, Below w1.heap.size w1 W → ∀ k, k < 5 → W.cell? ⟨w.heap.size, k, none⟩ = some (.int .i64 (s k : Nat))) := hide (fun W h k hk => by
    rw [(S1.out.ext h).cell]
    rcases (by omega : k = 0 ∨ k = 1 ∨ k = 2 ∨ k = 3 ∨ k = 4) with rfl | rfl | rfl | rfl | rfl <;> rfl)
  have HA := hide hA
  have HV := hide hv
  clear hA hv
  obtain ⟨n, hn⟩ : ∃ n, l.length = n := ⟨_, rfl⟩
  have HN := hide hn
  rw [hn] at hl ⊢
  clear hn
  go_enter Tryd.func32, Tryd.ntmps32
  go_upto_region 2 with fail
  go_loopw [9] (fun i wr => ∃ k : Nat, k ≤ n ∧ i = .int .i64 k ∧ (∀ j, j < k → hasBit s l j ≠ 0) ∧ Below w1.heap.size w1 wr) (fun i _ => n - (intOf i).toNat)
  case atStart => exact ⟨0, by omega, rfl, fun j hj => absurd hj (by omega), Below.refl _ _⟩
  case round =>
    obtain ⟨k, hk, rfl, hx, hb⟩ := hrel
    have HX := hide hx
    clear hx
    have HBW := hide hb
    clear hb
    by_cases hlt : k < n
    · have hlt' : (k : Int) < (n : Int) := by omega
      have k0 : (0 : Int) ≤ (k : Int) := by omega
      have k5 : (k : Int) < 5 := by omega
      have hB := HB0.out.trans (HBW.out.mono HB0.out.size)
      obtain ⟨b, off, rfl, hb, hc⟩ := VR1.at_ (ER.below HA.out hB (Nat.le_refl _)) (by rw [HN.out]; exact hlt)
      have hs := HC.out _ HBW.out k (by omega)
      have hv := HV.out k (by rw [HN.out]; exact hlt)
      obtain ⟨x, hx⟩ : ∃ x, l.getD k 0 = x := ⟨_, rfl⟩
      rw [hx] at hc hv
      obtain ⟨z, hz⟩ : ∃ z, bits BinOp.and IntKind.i64 ((s k : Nat) / 2 ^ x.toNat) 1 = z := ⟨_, rfl⟩
      have hbit : hasBit s l k = z := by unfold hasBit; rw [hx, hz]
      have HBIT := hide hbit
      clear hbit hx
      by_cases q : z = 0
      · have q1 : (bits BinOp.and IntKind.i64 ((s k : Nat) / 2 ^ x.toNat) 1 == 0) = true := by rw [hz, q]; rfl
        have Q := hide q
        clear q hz
        go_wp2_with fail
        go_ret
        refine ⟨ret_bool ?_, hB⟩
        have hne : ¬ ∀ k, k < n → hasBit s l k ≠ 0 := fun h => h k hlt (by rw [HBIT.out]; exact Q.out)
        exact (decide_eq_false hne).symm
      · have q1 : (bits BinOp.and IntKind.i64 ((s k : Nat) / 2 ^ x.toNat) 1 == 0) = false := by rw [hz, beq_eq_false_iff_ne]; exact q
        have Q := hide q
        clear q hz
        go_wp2_with fail
        go_roundw
        case rel => exact ⟨k + 1, by omega, by go_num, fun j hj => by
          rcases (by omega : j < k ∨ j = k) with h | h
          · exact HX.out j h
          · rw [h, HBIT.out]; exact Q.out, HBW.out⟩
        case measure => simp [intOf]; omega
    · obtain rfl : k = n := by omega
      go_wp2_with fail
      go_ret
      exact ⟨ret_bool (decide_eq_true HX.out).symm, HB0.out.trans (HBW.out.mono HB0.out.size)⟩
end Go.Proofs.YtfbnpiafoaoddaaDoor
/- School: what a school is, as it is read; own lists of sets. -/
namespace Go.Proofs.YtfbnpiafoaoddaaDoor
open Go Go.RowKit Go.Shelf
set_option maxHeartbeats 2000000
set_option maxRecDepth 100000
/-- a rule: its tests (feature, choices), the question, what it says -/
structure Rl where
  when_ : List (Int × Int)
  ask : Int
  say : Int
/-- a school: its features, how many questions, its rules -/
structure Sch where
  fs : List Int
  q : Int
  rs : List Rl
def r0 : Rl := ⟨[], 0, 0⟩
def tsV (t : Int × Int) (i : Nat) : Value := if i = 0 then .int .i64 t.1 else .int .i64 t.2
/-- a list of tests that is read -/
def TsR (w : World) (B : Nat) (A : Option Addr) (l : List (Int × Int)) : Prop := ER w B 2 A l.length fun k i => tsV (l.getD k (0, 0)) i
theorem TsR.at_ {w : World} {B : Nat} {A : Option Addr} {l : List (Int × Int)} (h : TsR w B A l) {k : Nat} (hk : k < l.length) {t : Int × Int} (ht : l.getD k (0, 0) = t) :
    ∃ b off, A = some ⟨b, off, none⟩ ∧ b < B ∧ w.cell? ⟨b, off + k * 2, none⟩ = some (.int .i64 t.1) ∧ w.cell? ⟨b, off + k * 2 + 1, none⟩ = some (.int .i64 t.2) := by
  obtain ⟨b, off, hA, hlt, hc⟩ := h (by omega)
  subst ht
  exact ⟨b, off, hA, hlt, hc k 0 hk (by omega), hc k 1 hk (by omega)⟩
def rlV (r : Rl) (a : Option Addr) (c : Nat) (i : Nat) : Value := if i = 0 then .slice a r.when_.length c else if i = 1 then .int .i64 r.ask else .int .i64 r.say
/-- a list of rules that is read -/
structure RsR (w : World) (B : Nat) (A : Option Addr) (ra : Nat → Option Addr) (rc : Nat → Nat) (rs : List Rl) : Prop where
  row : ER w B 3 A rs.length fun k i => rlV (rs.getD k r0) (ra k) (rc k) i
  tests : ∀ k, k < rs.length → TsR w B (ra k) (rs.getD k r0).when_
theorem RsR.at_ {w : World} {B : Nat} {A : Option Addr} {ra : Nat → Option Addr} {rc : Nat → Nat} {rs : List Rl} (h : RsR w B A ra rc rs) {k : Nat} (hk : k < rs.length) {r : Rl} (hr : rs.getD k r0 = r) :
    ∃ b off, A = some ⟨b, off, none⟩ ∧ b < B ∧ w.cell? ⟨b, off + k * 3, none⟩ = some (.slice (ra k) r.when_.length (rc k)) ∧ w.cell? ⟨b, off + k * 3 + 1, none⟩ = some (.int .i64 r.ask) ∧ w.cell? ⟨b, off + k * 3 + 2, none⟩ = some (.int .i64 r.say) := by
  obtain ⟨b, off, hA, hlt, hc⟩ := h.row (by omega)
  subst hr
  exact ⟨b, off, hA, hlt, hc k 0 hk (by omega), hc k 1 hk (by omega), hc k 2 hk (by omega)⟩
/-- where a school lies -/
structure Ad_ where
  fa : Option Addr
  fc : Nat
  ra : Option Addr
  rc : Nat
  ta : Nat → Option Addr
  tc : Nat → Nat
/-- a school that is read -/
structure ScR (w : World) (B : Nat) (d : Ad_) (s : Sch) : Prop where
  fs : LI w B d.fa s.fs
  rs : RsR w B d.ra d.ta d.tc s.rs
theorem RsR.below {w w' : World} {A : Option Addr} {ra : Nat → Option Addr} {rc : Nat → Nat} {rs : List Rl} (h : RsR w w.heap.size A ra rc rs) (hb : Below w.heap.size w w') : RsR w' w'.heap.size A ra rc rs :=
  ⟨(ER.below h.row hb (Nat.le_refl _)).more hb.size, fun k hk => (ER.below (h.tests k hk) hb (Nat.le_refl _)).more hb.size⟩
theorem ScR.below {w w' : World} {d : Ad_} {s : Sch} (h : ScR w w.heap.size d s) (hb : Below w.heap.size w w') : ScR w' w'.heap.size d s :=
  ⟨(ER.below h.fs hb (Nat.le_refl _)).more hb.size, h.rs.below hb⟩
/-- a school, as it is handed over -/
def scV (d : Ad_) (s : Sch) : Value := .agg #[.slice d.fa s.fs.length d.fc, .int .i64 s.q, .slice d.ra s.rs.length d.rc]
-- own lists of sets
theorem info_sets : (Tryd.prog.info? 90).map (fun i => (i.zero, i.size, i.bytes)) = some (some (.agg #[.int .i64 0, .int .i64 0, .int .i64 0, .int .i64 0, .int .i64 0]), 5, 40) := by kernel_rfl
def stC (s : Nat → Nat) : List Value := [.int .i64 (s 0 : Nat), .int .i64 (s 1 : Nat), .int .i64 (s 2 : Nat), .int .i64 (s 3 : Nat), .int .i64 (s 4 : Nat)]
def cellsS (l : List (Nat → Nat)) : List Value := l.flatMap stC
theorem cellsS_append (l m : List (Nat → Nat)) : cellsS (l ++ m) = cellsS l ++ cellsS m := by simp [cellsS, List.flatMap_append]
theorem cellsS_one (l : List (Nat → Nat)) : ∀ u ∈ cellsS l, u.oneCell' = true := by
  intro u hu
  unfold cellsS at hu
  obtain ⟨e, -, he⟩ := List.mem_flatMap.1 hu
  simp only [stC, List.mem_cons, List.not_mem_nil, or_false] at he
  rcases he with rfl | rfl | rfl | rfl | rfl <;> rfl
def s0 : Nat → Nat := fun _ => 0
theorem cellsS_at (l : List (Nat → Nat)) : ∀ (k i : Nat), k < l.length → i < 5 → (cellsS l)[k * 5 + i]? = some (.int .i64 ((l.getD k s0 i : Nat) : Int)) := by
  induction l with
  | nil => intro k i hk; simp at hk
  | cons x l ih =>
    intro k i hk hi
    show (stC x ++ cellsS l)[k * 5 + i]? = _
    cases k with
    | zero =>
      rcases (by omega : i = 0 ∨ i = 1 ∨ i = 2 ∨ i = 3 ∨ i = 4) with rfl | rfl | rfl | rfl | rfl <;> rfl
    | succ k =>
      rw [List.getElem?_append_right (by show 5 ≤ _; omega)]
      have : (k + 1) * 5 + i - (stC x).length = k * 5 + i := by show _ - 5 = _; omega
      rw [this, ih k i (by simpa using hk) hi]
      rfl
def OwnT (W : World) (n0 : Nat) (v : Value) (l : List (Nat → Nat)) : Prop := W.ownsRow n0 90 5 v l.length (cellsS l)
theorem OwnT.nil (W : World) (n0 : Nat) : OwnT W n0 (.slice none 0 0) [] := ⟨rfl, .inl ⟨rfl, rfl⟩⟩
theorem OwnT.ext {W W' : World} {n0 : Nat} {v : Value} {l : List (Nat → Nat)} (h : OwnT W n0 v l) (hb : Below W.heap.size W W') : OwnT W' n0 v l := ownBelow h hb
theorem cell_five_new (w : World) (a b c d e : Value) (t : TypeId) : ∀ (j : Nat) (u : Value), [a, b, c, d, e][j]? = some u → (w.alloc (.cells #[a, b, c, d, e] t)).cell? ((⟨w.heap.size, 0, none⟩ : Addr).add j) = some u := by
  intro j u h
  have hB := Blk.new w t #[a, b, c, d, e]
  match j, h with
  | 0, h => simpa [Addr.add] using (show (w.alloc (.cells #[a, b, c, d, e] t)).cell? ⟨w.heap.size, 0, none⟩ = some u by rw [hB.cell]; simpa using h)
  | 1, h => simpa [Addr.add] using (show (w.alloc (.cells #[a, b, c, d, e] t)).cell? ⟨w.heap.size, 1, none⟩ = some u by rw [hB.cell]; simpa using h)
  | 2, h => simpa [Addr.add] using (show (w.alloc (.cells #[a, b, c, d, e] t)).cell? ⟨w.heap.size, 2, none⟩ = some u by rw [hB.cell]; simpa using h)
  | 3, h => simpa [Addr.add] using (show (w.alloc (.cells #[a, b, c, d, e] t)).cell? ⟨w.heap.size, 3, none⟩ = some u by rw [hB.cell]; simpa using h)
  | 4, h => simpa [Addr.add] using (show (w.alloc (.cells #[a, b, c, d, e] t)).cell? ⟨w.heap.size, 4, none⟩ = some u by rw [hB.cell]; simpa using h)
  | j + 5, h => simp at h
theorem OwnT.push {W : World} {base : Nat} {v : Value} {l : List (Nat → Nat)} (h : OwnT W base v l) (s : Nat → Nat) (hl : l.length ≤ 10000) (hb : base ≤ W.heap.size) :
    ∃ A c w', (Builtin.append_ #[91, 91] 91 #[v, .slice (some ⟨W.heap.size, 0, none⟩) 1 1]).run Tryd.prog (W.alloc (.cells #[.int .i64 (s 0 : Nat), .int .i64 (s 1 : Nat), .int .i64 (s 2 : Nat), .int .i64 (s 3 : Nat), .int .i64 (s 4 : Nat)] 90)) = .ok (.slice A (l.length + 1) c) w' ∧
      OwnT w' base (.slice A (l.length + 1) c) (l ++ [s]) ∧ (W.alloc (.cells #[.int .i64 (s 0 : Nat), .int .i64 (s 1 : Nat), .int .i64 (s 2 : Nat), .int .i64 (s 3 : Nat), .int .i64 (s 4 : Nat)] 90)).grownBy w' v.ownBlock := by
  obtain ⟨i0, hi, hz0, hz1, hz2⟩ := info_parts info_sets
  obtain ⟨v', w', hr, h2, h3, -⟩ := run_append_own (P := Tryd.prog) (w := W.alloc (.cells #[.int .i64 (s 0 : Nat), .int .i64 (s 1 : Nat), .int .i64 (s 2 : Nat), .int .i64 (s 3 : Nat), .int .i64 (s 4 : Nat)] 90)) base 91 91 90 i0 _ 5 40 Tryd.underlying91 hi hz0 hz1 hz2 rfl (by decide) v l.length (cellsS l) (World.ownsRow.alloc h _)
    ⟨W.heap.size, 0, none⟩ 1 1 (stC s) rfl (cell_five_new _ _ _ _ _ _ _) (by have := cellsS_one [s]; simpa [cellsS] using this) (by unfold maxLen; omega) (by omega) (by simp; omega)
  obtain ⟨A, c, rfl⟩ := own_shape h2
  refine ⟨A, c, w', hr, ?_, h3⟩
  unfold OwnT
  rw [cellsS_append, List.length_append]
  simpa [cellsS] using h2
theorem OwnT.cell {W : World} {n0 : Nat} {A : Option Addr} {n c : Nat} {l : List (Nat → Nat)} (h : OwnT W n0 (.slice A n c) l) {k : Nat} (hk : k < l.length) :
    n = l.length ∧ ∃ g, A = some ⟨g, 0, none⟩ ∧ g < W.heap.size ∧ n0 ≤ g ∧ ∀ i, i < 5 → W.cell? ⟨g, k * 5 + i, none⟩ = some (.int .i64 ((l.getD k s0 i : Nat) : Int)) := by
  obtain ⟨A', c', e⟩ := own_shape h
  injection e with e1 e2 e3
  refine ⟨e2, ?_⟩
  rcases h.2 with ⟨h1, h2⟩ | ⟨g, cap, cur, h1, h2, h3, h4, h5, h6, h7⟩
  · omega
  · injection h1 with hA
    subst hA
    refine ⟨g, rfl, (World.ownsRow.lt h g rfl).2, h2, fun i hi => ?_⟩
    have hc := World.ownsRow.cells h (g := g) rfl (k * 5 + i) _ (cellsS_at l k i hk hi)
    have e1 : ((⟨g, 0, none⟩ : Addr).add (k * 5 + i)) = ⟨g, k * 5 + i, none⟩ := by simp [Addr.add]; omega
    rw [e1] at hc
    exact hc
-- plain: what open computes
theorem bits_and_nat (m : Nat) (c : Int) (h : m < 65536) : bits BinOp.and IntKind.i64 (m : Nat) c = ((m &&& (BitVec.ofInt 64 c).toNat : Nat) : Int) := by
  unfold bits
  have e : (BitVec.ofInt IntKind.i64.bits (m : Int)).toNat = m := by
    show (BitVec.ofInt 64 (m : Int)).toNat = m
    rw [BitVec.ofInt_natCast, BitVec.toNat_ofNat]
    omega
  dsimp only
  rw [BitVec.toNat_and, e]
  have h2 : m &&& (BitVec.ofInt IntKind.i64.bits c).toNat ≤ m := Nat.and_le_left
  show IntKind.i64.wrap ((m &&& (BitVec.ofInt 64 c).toNat : Nat) : Int) = _
  have h3 : m &&& (BitVec.ofInt 64 c).toNat ≤ m := h2
  exact IntWalk.i64_in _ (by omega)
/-- all choices of each feature -/
def evF (fs : List Int) (k : Nat) : Nat := if k < fs.length then 2 ^ (fs.getD k 0).toNat - 1 else 0
def tstB (nf : Nat) (ev : Nat → Nat) (t : Int × Int) : Bool := decide (0 ≤ t.1 ∧ t.1 ≤ (nf : Int) - 1) && (bits BinOp.andNot IntKind.i64 t.2 (ev t.1.toNat : Nat) == 0)
def wthF (m : Nat → Nat) (t : Int × Int) : Nat → Nat := upd m t.1.toNat (m t.1.toNat &&& (BitVec.ofInt 64 t.2).toNat)
def wthL (ev : Nat → Nat) (l : List (Int × Int)) : Nat → Nat := l.foldl wthF ev
theorem wthL_take (ev : Nat → Nat) (l : List (Int × Int)) {k : Nat} (hk : k < l.length) {t : Int × Int} (ht : l.getD k (0, 0) = t) : wthL ev (l.take (k + 1)) = wthF (wthL ev (l.take k)) t := by
  have h1 : l.take (k + 1) = l.take k ++ [t] := by
    rw [List.take_succ_eq_append_getElem hk]
    rw [List.getD_eq_getElem?_getD, List.getElem?_eq_getElem hk] at ht
    rw [← ht]; rfl
  rw [h1]
  unfold wthL
  rw [List.foldl_append]
  rfl
theorem wthL_le (ev : Nat → Nat) (l : List (Int × Int)) : ∀ k, wthL ev l k ≤ ev k := by
  unfold wthL
  induction l generalizing ev with
  | nil => intro k; exact Nat.le_refl _
  | cons t l ih =>
    intro k
    refine Nat.le_trans (ih (wthF ev t) k) ?_
    unfold wthF upd
    split
    · rename_i e; rw [e]; exact Nat.and_le_left
    · exact Nat.le_refl _
def rlB (nf : Nat) (q : Int) (ev : Nat → Nat) (r : Rl) : Bool := decide (r.when_.length ≤ 5) && (decide (0 ≤ r.ask ∧ r.ask ≤ q - 1) && (decide (0 ≤ r.say ∧ r.say ≤ 999) && r.when_.all (tstB nf ev)))
def fsB (fs : List Int) : Bool := fs.all fun n => decide (1 ≤ n ∧ n ≤ 4)
/-- a school that is valid -/
def schB (s : Sch) : Bool := decide (1 ≤ s.fs.length ∧ s.fs.length ≤ 5) && (decide (1 ≤ s.q ∧ s.q ≤ 4) && (decide (s.rs.length ≤ 12) && (fsB s.fs && s.rs.all (rlB s.fs.length s.q (evF s.fs)))))
/-- the sets of a rule -/
def setF (s : Sch) (r : Rl) : Nat → Nat := clnF (wthL (evF s.fs) r.when_) s.fs.length
theorem all_take_no {α : Type} (p : α → Bool) (l : List α) {k : Nat} (hk : k < l.length) (d : α) (h : p (l.getD k d) = false) : l.all p = false := by
  rw [List.getD_eq_getElem?_getD, List.getElem?_eq_getElem hk] at h
  rw [← Bool.not_eq_true, List.all_eq_true]
  intro h2
  rw [show (some l[k]).getD d = l[k] from rfl, h2 _ (List.getElem_mem hk)] at h
  cases h
theorem all_take_succ {α : Type} (p : α → Bool) (l : List α) {k : Nat} (hk : k < l.length) (d : α) (h : p (l.getD k d) = true) (h2 : (l.take k).all p = true) : (l.take (k + 1)).all p = true := by
  rw [List.take_succ_eq_append_getElem hk, List.all_append, h2]
  rw [List.getD_eq_getElem?_getD, List.getElem?_eq_getElem hk] at h
  simpa using h
theorem map_take_succ {α β : Type} (f : α → β) (l : List α) {k : Nat} (hk : k < l.length) (d : α) : (l.take (k + 1)).map f = (l.take k).map f ++ [f (l.getD k d)] := by
  rw [List.take_succ_eq_append_getElem hk, List.map_append, List.getD_eq_getElem?_getD, List.getElem?_eq_getElem hk]
  rfl
end Go.Proofs.YtfbnpiafoaoddaaDoor
/- School: own lists of tests, own lists of rules. -/
namespace Go.Proofs.YtfbnpiafoaoddaaDoor
open Go Go.RowKit Go.Shelf
set_option maxHeartbeats 4000000
set_option maxRecDepth 100000
theorem info_test : (Tryd.prog.info? 59).map (fun i => (i.zero, i.size, i.bytes)) = some (some (.agg #[.int .i64 0, .int .i64 0]), 2, 16) := by kernel_rfl
theorem info_rule : (Tryd.prog.info? 56).map (fun i => (i.zero, i.size, i.bytes)) = some (some (.agg #[.slice none 0 0, .int .i64 0, .int .i64 0]), 3, 40) := by kernel_rfl
def tsC (t : Int × Int) : List Value := [.int .i64 t.1, .int .i64 t.2]
def cellsQ (l : List (Int × Int)) : List Value := l.flatMap tsC
theorem cellsQ_append (l m : List (Int × Int)) : cellsQ (l ++ m) = cellsQ l ++ cellsQ m := by simp [cellsQ, List.flatMap_append]
theorem cellsQ_len (l : List (Int × Int)) : (cellsQ l).length = l.length * 2 := by
  induction l with
  | nil => rfl
  | cons x l ih => show (tsC x ++ cellsQ l).length = _; rw [List.length_append, ih, List.length_cons]; show 2 + _ = _; omega
theorem cellsQ_one (l : List (Int × Int)) : ∀ u ∈ cellsQ l, u.oneCell' = true := by
  intro u hu
  unfold cellsQ at hu
  obtain ⟨e, -, he⟩ := List.mem_flatMap.1 hu
  simp only [tsC, List.mem_cons, List.not_mem_nil, or_false] at he
  rcases he with rfl | rfl <;> rfl
theorem cellsQ_at (l : List (Int × Int)) : ∀ (k i : Nat), k < l.length → i < 2 → (cellsQ l)[k * 2 + i]? = some (tsV (l.getD k (0, 0)) i) := by
  induction l with
  | nil => intro k i hk; simp at hk
  | cons x l ih =>
    intro k i hk hi
    show (tsC x ++ cellsQ l)[k * 2 + i]? = _
    cases k with
    | zero => rcases (by omega : i = 0 ∨ i = 1) with rfl | rfl <;> rfl
    | succ k =>
      rw [List.getElem?_append_right (by show 2 ≤ _; omega)]
      have : (k + 1) * 2 + i - (tsC x).length = k * 2 + i := by show _ - 2 = _; omega
      rw [this, ih k i (by simpa using hk) hi]
      rfl
/-- an own list of tests -/
def OwnQ (W : World) (n0 : Nat) (v : Value) (l : List (Int × Int)) : Prop := W.ownsRow n0 59 2 v l.length (cellsQ l)
theorem OwnQ.ext {W W' : World} {n0 : Nat} {v : Value} {l : List (Int × Int)} (h : OwnQ W n0 v l) (hb : Below W.heap.size W W') : OwnQ W' n0 v l := ownBelow h hb
theorem OwnQ.made0 (W : World) : OwnQ (W.alloc (.cells #[] 59)) W.heap.size (.slice (some ⟨W.heap.size, 0, none⟩) 0 0) [] :=
  World.ownsRow_made W #[] 0 (Nat.le_refl _) (by unfold maxLen; omega) rfl
theorem OwnQ.pushes {W : World} {base : Nat} {v : Value} {l : List (Int × Int)} (h : OwnQ W base v l) (A : Option Addr) (c : Nat) (m : List (Int × Int)) (hA : TsR W W.heap.size A m) (hl : l.length + m.length ≤ 1000000) (hb : base ≤ W.heap.size) :
    ∃ v' w', (Builtin.append_ #[54, 54] 54 #[v, .slice A m.length c]).run Tryd.prog W = .ok v' w' ∧ OwnQ w' base v' (l ++ m) ∧ W.grownBy w' v.ownBlock := by
  obtain ⟨i0, hi, hz0, hz1, hz2⟩ := info_parts info_test
  cases A with
  | none =>
    have hm : m = [] := by
      rcases hm : m with _ | ⟨x, m⟩
      · rfl
      · exfalso
        obtain ⟨b, off, hA, -⟩ := hA (by rw [hm]; simp)
        cases hA
    subst hm
    refine ⟨v, W, run_append_none0 (P := Tryd.prog) _ _ 59 i0 2 Tryd.underlying54 hi v l.length c (cellsQ l) h, by simpa using h, World.grownBy.refl _ _⟩
  | some a =>
    have hcells : ∀ j u, (cellsQ m)[j]? = some u → W.cell? (a.add j) = some u := by
      intro j u hj
      have hlt : j < m.length * 2 := by
        have := (List.getElem?_eq_some_iff.1 hj).1
        rwa [cellsQ_len] at this
      obtain ⟨b, off, hA', -, hc⟩ := hA (by omega)
      injection hA' with hA'
      subst hA'
      have hk : j / 2 < m.length := by omega
      have hi4 : j % 2 < 2 := by omega
      have e1 : j / 2 * 2 + j % 2 = j := by omega
      have e2 := cellsQ_at m (j / 2) (j % 2) hk hi4
      rw [e1, hj] at e2
      have e3 := hc (j / 2) (j % 2) hk hi4
      rw [show off + j / 2 * 2 + j % 2 = off + j by omega, ← e2] at e3
      have e4 : ((⟨b, off, none⟩ : Addr).add j) = ⟨b, off + j, none⟩ := by simp [Addr.add]
      rw [e4]
      exact e3
    obtain ⟨v', w', hr, h2, h3, -⟩ := run_append_own (P := Tryd.prog) (w := W) base 54 54 59 i0 _ 2 16 Tryd.underlying54 hi hz0 hz1 hz2 rfl (by decide) v l.length (cellsQ l) h
      a m.length c (cellsQ m) (cellsQ_len m) hcells (cellsQ_one m) (by unfold maxLen; omega) (by omega) hb
    refine ⟨v', w', hr, ?_, h3⟩
    unfold OwnQ
    rw [cellsQ_append, List.length_append]
    exact h2
/-- an own list of tests is read -/
theorem OwnQ.tsR {W : World} {n0 : Nat} {A : Option Addr} {n c : Nat} {l : List (Int × Int)} (h : OwnQ W n0 (.slice A n c) l) : n = l.length ∧ TsR W W.heap.size A l := by
  obtain ⟨A', c', e⟩ := own_shape h
  injection e with e1 e2 e3
  subst e1
  refine ⟨e2, fun hn => ?_⟩
  rcases h.2 with ⟨h1, h2⟩ | ⟨g, cap, cur, h1, h2, h3, h4, h5, h6, h7⟩
  · omega
  · injection h1 with hA
    subst hA
    have hg := (World.ownsRow.lt h g rfl).2
    refine ⟨g, 0, rfl, hg, fun k i hk hi => ?_⟩
    have hc := World.ownsRow.cells h (g := g) rfl (k * 2 + i) _ (cellsQ_at l k i hk hi)
    have e1 : ((⟨g, 0, none⟩ : Addr).add (k * 2 + i)) = ⟨g, 0 + k * 2 + i, none⟩ := by simp [Addr.add]; omega
    rw [e1] at hc
    exact hc
-- rules: the values of a rule's three cells
abbrev R3 := Value × Int × Int
def r3C (r : R3) : List Value := [r.1, .int .i64 r.2.1, .int .i64 r.2.2]
def cells3 (l : List R3) : List Value := l.flatMap r3C
theorem cells3_append (l m : List R3) : cells3 (l ++ m) = cells3 l ++ cells3 m := by simp [cells3, List.flatMap_append]
theorem cells3_one (l : List R3) (h : ∀ r ∈ l, r.1.oneCell' = true) : ∀ u ∈ cells3 l, u.oneCell' = true := by
  intro u hu
  unfold cells3 at hu
  obtain ⟨e, hm, he⟩ := List.mem_flatMap.1 hu
  simp only [r3C, List.mem_cons, List.not_mem_nil, or_false] at he
  rcases he with rfl | rfl | rfl
  · exact h e hm
  · rfl
  · rfl
def r3V (r : R3) (i : Nat) : Value := if i = 0 then r.1 else if i = 1 then .int .i64 r.2.1 else .int .i64 r.2.2
def r30 : R3 := (.slice none 0 0, 0, 0)
theorem cells3_at (l : List R3) : ∀ (k i : Nat), k < l.length → i < 3 → (cells3 l)[k * 3 + i]? = some (r3V (l.getD k r30) i) := by
  induction l with
  | nil => intro k i hk; simp at hk
  | cons x l ih =>
    intro k i hk hi
    show (r3C x ++ cells3 l)[k * 3 + i]? = _
    cases k with
    | zero => rcases (by omega : i = 0 ∨ i = 1 ∨ i = 2) with rfl | rfl | rfl <;> rfl
    | succ k =>
      rw [List.getElem?_append_right (by show 3 ≤ _; omega)]
      have : (k + 1) * 3 + i - (r3C x).length = k * 3 + i := by show _ - 3 = _; omega
      rw [this, ih k i (by simpa using hk) hi]
      rfl
/-- an own list of rules -/
def Own3 (W : World) (n0 : Nat) (v : Value) (l : List R3) : Prop := W.ownsRow n0 56 3 v l.length (cells3 l)
theorem Own3.nil (W : World) (n0 : Nat) : Own3 W n0 (.slice none 0 0) [] := ⟨rfl, .inl ⟨rfl, rfl⟩⟩
theorem Own3.ext {W W' : World} {n0 : Nat} {v : Value} {l : List R3} (h : Own3 W n0 v l) (hb : Below W.heap.size W W') : Own3 W' n0 v l := ownBelow h hb
theorem cell_three_new (w : World) (a b c : Value) (t : TypeId) : ∀ (j : Nat) (u : Value), [a, b, c][j]? = some u → (w.alloc (.cells #[a, b, c] t)).cell? ((⟨w.heap.size, 0, none⟩ : Addr).add j) = some u := by
  intro j u h
  have hB := Blk.new w t #[a, b, c]
  match j, h with
  | 0, h => simpa [Addr.add] using (show (w.alloc (.cells #[a, b, c] t)).cell? ⟨w.heap.size, 0, none⟩ = some u by rw [hB.cell]; simpa using h)
  | 1, h => simpa [Addr.add] using (show (w.alloc (.cells #[a, b, c] t)).cell? ⟨w.heap.size, 1, none⟩ = some u by rw [hB.cell]; simpa using h)
  | 2, h => simpa [Addr.add] using (show (w.alloc (.cells #[a, b, c] t)).cell? ⟨w.heap.size, 2, none⟩ = some u by rw [hB.cell]; simpa using h)
  | j + 3, h => simp at h
theorem Own3.push {W : World} {base : Nat} {v : Value} {l : List R3} (h : Own3 W base v l) (r : R3) (h1 : r.1.oneCell' = true) (hl : l.length ≤ 1000000) (hb : base ≤ W.heap.size) :
    ∃ A c w', (Builtin.append_ #[27, 27] 27 #[v, .slice (some ⟨W.heap.size, 0, none⟩) 1 1]).run Tryd.prog (W.alloc (.cells #[r.1, .int .i64 r.2.1, .int .i64 r.2.2] 56)) = .ok (.slice A (l.length + 1) c) w' ∧
      Own3 w' base (.slice A (l.length + 1) c) (l ++ [r]) ∧ (W.alloc (.cells #[r.1, .int .i64 r.2.1, .int .i64 r.2.2] 56)).grownBy w' v.ownBlock := by
  obtain ⟨i0, hi, hz0, hz1, hz2⟩ := info_parts info_rule
  obtain ⟨v', w', hr, h2, h3, -⟩ := run_append_own (P := Tryd.prog) (w := W.alloc (.cells #[r.1, .int .i64 r.2.1, .int .i64 r.2.2] 56)) base 27 27 56 i0 _ 3 40 Tryd.underlying27 hi hz0 hz1 hz2 rfl (by decide) v l.length (cells3 l) (World.ownsRow.alloc h _)
    ⟨W.heap.size, 0, none⟩ 1 1 (r3C r) rfl (cell_three_new _ _ _ _ _) (by have := cells3_one [r] (fun x hx => by rw [List.mem_singleton.1 hx]; exact h1); simpa [cells3] using this) (by unfold maxLen; omega) (by omega) (by simp; omega)
  obtain ⟨A, c, rfl⟩ := own_shape h2
  refine ⟨A, c, w', hr, ?_, h3⟩
  unfold Own3
  rw [cells3_append, List.length_append]
  simpa [cells3] using h2
theorem Own3.row {W : World} {n0 : Nat} {A : Option Addr} {n c : Nat} {l : List R3} (h : Own3 W n0 (.slice A n c) l) : n = l.length ∧ ER W W.heap.size 3 A l.length fun k i => r3V (l.getD k r30) i := by
  obtain ⟨A', c', e⟩ := own_shape h
  injection e with e1 e2 e3
  subst e1
  refine ⟨e2, fun hn => ?_⟩
  rcases h.2 with ⟨h1, h2⟩ | ⟨g, cap, cur, h1, h2, h3, h4, h5, h6, h7⟩
  · omega
  · injection h1 with hA
    subst hA
    have hg := (World.ownsRow.lt h g rfl).2
    refine ⟨g, 0, rfl, hg, fun k i hk hi => ?_⟩
    have hc := World.ownsRow.cells h (g := g) rfl (k * 3 + i) _ (cells3_at l k i hk hi)
    have e1 : ((⟨g, 0, none⟩ : Addr).add (k * 3 + i)) = ⟨g, 0 + k * 3 + i, none⟩ := by simp [Addr.add]; omega
    rw [e1] at hc
    exact hc
/-- a school whose lists are own -/
structure ScO (W : World) (base : Nat) (d : Ad_) (s : Sch) : Prop where
  fs : OwnJ W base (.slice d.fa s.fs.length d.fc) s.fs
  rs : ∃ L : List R3, Own3 W base (.slice d.ra s.rs.length d.rc) L ∧ L.length = s.rs.length ∧ ∀ j, j < s.rs.length → L.getD j r30 = (.slice (d.ta j) (s.rs.getD j r0).when_.length (d.tc j), (s.rs.getD j r0).ask, (s.rs.getD j r0).say) ∧ OwnQ W base (.slice (d.ta j) (s.rs.getD j r0).when_.length (d.tc j)) (s.rs.getD j r0).when_
theorem ScO.ext {W W' : World} {base : Nat} {d : Ad_} {s : Sch} (h : ScO W base d s) (hb : Below W.heap.size W W') : ScO W' base d s := by
  obtain ⟨L, h1, h2, h3⟩ := h.rs
  exact ⟨h.fs.ext hb, L, h1.ext hb, h2, fun j hj => ⟨(h3 j hj).1, (h3 j hj).2.ext hb⟩⟩
theorem ScO.read {W : World} {base : Nat} {d : Ad_} {s : Sch} (h : ScO W base d s) : ScR W W.heap.size d s := by
  obtain ⟨L, h1, h2, h3⟩ := h.rs
  refine ⟨(OwnJ.li h.fs).2, ⟨?_, fun k hk => (OwnQ.tsR (h3 k hk).2).2⟩⟩
  have h4 := (Own3.row h1).2
  rw [h2] at h4
  intro hn
  obtain ⟨b, off, hA, hb, hc⟩ := h4 hn
  refine ⟨b, off, hA, hb, fun k i hk1 hi => ?_⟩
  rw [hc k i hk1 hi]
  show some (r3V (L.getD k r30) i) = some (rlV (s.rs.getD k r0) (d.ta k) (d.tc k) i)
  rw [(h3 k hk1).1]
  rcases (by omega : i = 0 ∨ i = 1 ∨ i = 2) with rfl | rfl | rfl <;> rfl
/-- a school whose lists are own stays where a school's block is written -/
theorem ScO.kx {W W' : World} {base X : Nat} {d : Ad_} {s : Sch} {cs : Array Value} (h : ScO W base d s) (hX : Blk W X 29 cs) (hk : KX W W' X none) : ScO W' base d s := by
  obtain ⟨L, h1, h2, h3⟩ := h.rs
  exact ⟨own_kx h.fs hk (own_blk_ne h.fs hX (by decide)) none_or, L, own_kx h1 hk (own_blk_ne h1 hX (by decide)) none_or, h2, fun j hj => ⟨(h3 j hj).1, own_kx (h3 j hj).2 hk (own_blk_ne (h3 j hj).2 hX (by decide)) none_or⟩⟩
end Go.Proofs.YtfbnpiafoaoddaaDoor
/- Link: chapter 8's example of the top laws; stages out of numbers. -/
namespace Go.Proofs.YtfbnpiafoaoddaaDoor
open Go Go.RowKit Go.Shelf
set_option maxHeartbeats 4000000
set_option maxRecDepth 100000
theorem linkKiln_any (w : World) : Calls Tryd.prog 11 #[] w fun e w' => e = .returned (.bool true) ∧ Below w.heap.size w w' := by
  have HN : Hid (∀ W, w.alloc (.cells #[.int .i64 500, .int .i64 1000, .int .i64 500, .int .i64 1000] 81) = W → Calls Tryd.prog 8 #[.int .i64 81, .slice (some ⟨w.heap.size, 0, none⟩) 2 2] W fun e w' => e = .returned (.tuple #[.int .i64 98, .int .i64 0]) ∧ Below W.heap.size W w') := hide fun W hW => by
    subst hW
    refine known_need _ _ _ fun _ => ⟨w.heap.size, 0, rfl, by simp, fun k i hk hi => ?_⟩
    have hB := Blk.new w 81 #[.int .i64 500, .int .i64 1000, .int .i64 500, .int .i64 1000]
    rw [hB.cell]
    rcases (by omega : k = 0 ∨ k = 1) with rfl | rfl <;> rcases (by omega : i = 0 ∨ i = 1) with rfl | rfl <;> rfl
  have hB0 : Below w.heap.size w (w.alloc (.cells #[.int .i64 500, .int .i64 1000, .int .i64 500, .int .i64 1000] 81)) := (Below.refl _ _).alloc (Nat.le_refl _) _
  have B0 := hide hB0
  clear hB0
  go_enter Tryd.func11, Tryd.ntmps11
  go_wp2_with fail
  refine (HN.out _ rfl).mono ?_
  rintro e w1 ⟨rfl, hb1⟩
  go_wp2_with fail
  go_ret
  exact ⟨rfl, B0.out.trans (hb1.mono B0.out.size)⟩
theorem info_yst : (Tryd.prog.info? 81).map (fun i => (i.zero, i.size, i.bytes)) = some (some (.agg #[.int .i64 0, .int .i64 0]), 2, 16) := by kernel_rfl
/-- an own list of stages -/
def OwnY (W : World) (n0 : Nat) (v : Value) (l : List (Int × Int)) : Prop := W.ownsRow n0 81 2 v l.length (cellsQ l)
theorem OwnY.made0 (W : World) : OwnY (W.alloc (.cells #[] 81)) W.heap.size (.slice (some ⟨W.heap.size, 0, none⟩) 0 0) [] :=
  World.ownsRow_made W #[] 0 (Nat.le_refl _) (by unfold maxLen; omega) rfl
theorem cell_two_new (w : World) (a b : Value) (t : TypeId) : ∀ (j : Nat) (u : Value), [a, b][j]? = some u → (w.alloc (.cells #[a, b] t)).cell? ((⟨w.heap.size, 0, none⟩ : Addr).add j) = some u := by
  intro j u h
  have hB := Blk.new w t #[a, b]
  match j, h with
  | 0, h => simpa [Addr.add] using (show (w.alloc (.cells #[a, b] t)).cell? ⟨w.heap.size, 0, none⟩ = some u by rw [hB.cell]; simpa using h)
  | 1, h => simpa [Addr.add] using (show (w.alloc (.cells #[a, b] t)).cell? ⟨w.heap.size, 1, none⟩ = some u by rw [hB.cell]; simpa using h)
  | j + 2, h => simp at h
theorem OwnY.push {W : World} {base : Nat} {v : Value} {l : List (Int × Int)} (h : OwnY W base v l) (t : Int × Int) (hl : l.length ≤ 1000000) (hb : base ≤ W.heap.size) :
    ∃ A c w', (Builtin.append_ #[38, 38] 38 #[v, .slice (some ⟨W.heap.size, 0, none⟩) 1 1]).run Tryd.prog (W.alloc (.cells #[.int .i64 t.1, .int .i64 t.2] 81)) = .ok (.slice A (l.length + 1) c) w' ∧
      OwnY w' base (.slice A (l.length + 1) c) (l ++ [t]) ∧ (W.alloc (.cells #[.int .i64 t.1, .int .i64 t.2] 81)).grownBy w' v.ownBlock := by
  obtain ⟨i0, hi, hz0, hz1, hz2⟩ := info_parts info_yst
  obtain ⟨v', w', hr, h2, h3, -⟩ := run_append_own (P := Tryd.prog) (w := W.alloc (.cells #[.int .i64 t.1, .int .i64 t.2] 81)) base 38 38 81 i0 _ 2 16 Tryd.underlying38 hi hz0 hz1 hz2 rfl (by decide) v l.length (cellsQ l) (World.ownsRow.alloc h _)
    ⟨W.heap.size, 0, none⟩ 1 1 (tsC t) rfl (cell_two_new _ _ _ _) (by have := cellsQ_one [t]; simpa [cellsQ] using this) (by unfold maxLen; omega) (by omega) (by simp; omega)
  obtain ⟨A, c, rfl⟩ := own_shape h2
  refine ⟨A, c, w', hr, ?_, h3⟩
  unfold OwnY
  rw [cellsQ_append, List.length_append]
  simpa [cellsQ] using h2
theorem OwnY.pi {W : World} {n0 : Nat} {A : Option Addr} {n c : Nat} {l : List (Int × Int)} (h : OwnY W n0 (.slice A n c) l) : n = l.length ∧ PI W W.heap.size A l.length (fun k => (l.getD k (0, 0)).1) (fun k => (l.getD k (0, 0)).2) := by
  obtain ⟨A', c', e⟩ := own_shape h
  injection e with e1 e2 e3
  subst e1
  refine ⟨e2, fun hn => ?_⟩
  rcases h.2 with ⟨h1, h2⟩ | ⟨g, cap, cur, h1, h2, h3, h4, h5, h6, h7⟩
  · omega
  · injection h1 with hA
    subst hA
    have hg := (World.ownsRow.lt h g rfl).2
    refine ⟨g, 0, rfl, hg, fun k i hk hi => ?_⟩
    have hc := World.ownsRow.cells h (g := g) rfl (k * 2 + i) _ (cellsQ_at l k i hk hi)
    have e1 : ((⟨g, 0, none⟩ : Addr).add (k * 2 + i)) = ⟨g, 0 + k * 2 + i, none⟩ := by simp [Addr.add]; omega
    rw [e1] at hc
    exact hc
/-- a stage out of two numbers -/
def sty (u : Nat → Nat → Int) (k : Nat) : Int × Int := (u k 0 % (u k 1 % 9000 + 1), u k 1 % 9000)
def stL (u : Nat → Nat → Int) : Nat → List (Int × Int)
  | 0 => []
  | k + 1 => stL u k ++ [sty u k]
theorem stL_len (u : Nat → Nat → Int) : ∀ k, (stL u k).length = k
  | 0 => rfl
  | k + 1 => by unfold stL; rw [List.length_append, stL_len u k]; rfl
theorem stL_at (u : Nat → Nat → Int) : ∀ n k, k < n → (stL u n).getD k (0, 0) = sty u k
  | 0, k, h => absurd h (by omega)
  | n + 1, k, h => by
    unfold stL
    rw [List.getD_eq_getElem?_getD]
    by_cases e : k < n
    · rw [List.getElem?_append_left (by rw [stL_len]; exact e), ← List.getD_eq_getElem?_getD, stL_at u n k e]
    · obtain rfl : k = n := by omega
      rw [List.getElem?_append_right (by rw [stL_len]; exact Nat.le_refl _), stL_len, Nat.sub_self]
      rfl
theorem sty_ok {u : Nat → Nat → Int} {k : Nat} (h0 : 0 ≤ u k 0) (h1 : 0 ≤ u k 1) : 0 ≤ (sty u k).1 ∧ (sty u k).1 ≤ (sty u k).2 ∧ (sty u k).2 ≤ 8999 := by
  unfold sty
  dsimp only
  have := Int.emod_lt_of_pos (u k 0) (show (0 : Int) < u k 1 % 9000 + 1 by omega)
  have := Int.emod_nonneg (u k 0) (show (u k 1 % 9000 + 1 : Int) ≠ 0 by omega)
  omega
theorem linkStages_any (A : Option Addr) (n c : Nat) (u : Nat → Nat → Int) (w : World) (hn : n ≤ 1000) (hR : ER w w.heap.size 2 A n (fun k i => .int .u16 (u k i))) (hu : ∀ k i, k < n → i < 2 → 0 ≤ u k i ∧ u k i ≤ 65535) :
    Calls Tryd.prog 9 #[.slice A n c] w fun e w' => ∃ A' c', e = .returned (.slice A' n c') ∧ OwnY w' w.heap.size (.slice A' n c') (stL u n) ∧ Below w.heap.size w w' := by
  have HR := hide hR
  have HU := hide hu
  have HB0 : Hid (Below w.heap.size w (w.alloc (.cells #[] 81))) := hide ((Below.refl _ _).alloc (Nat.le_refl _) _)
  have HO0 := hide (OwnY.made0 w)
  clear hR hu
  go_enter Tryd.func9, Tryd.ntmps9
  go_wp2_with fail
  go_loopw [3, 4, 5] (fun s i y wr => ∃ (k : Nat) (B : Option Addr) (d : Nat), k ≤ n ∧ i = .int .i64 k ∧ s = .slice B k d ∧ Hid (OwnY wr w.heap.size (.slice B k d) (stL u k)) ∧ Hid (Below w.heap.size w wr)) (fun _ i _ _ => n - (intOf i).toNat)
  case atStart => exact ⟨0, _, _, Nat.zero_le _, rfl, rfl, HO0, HB0⟩
  case round =>
    obtain ⟨k, B, d, hk, rfl, rfl, HO, HB⟩ := hrel
    have hst : IntKind.i64.wrap ((k : Int) + 1) = ((k + 1 : Nat) : Int) := by rw [IntWalk.i64_in _ (by omega)]; omega
    by_cases hlt : k < n
    · have hlt' : (k : Int) < (n : Int) := by omega
      obtain ⟨b, off, rfl, hb, hc⟩ := HR.out (by omega)
      have c0 : wr.cell? ⟨b, off + k * 2, none⟩ = some (.int .u16 (u k 0)) := (HB.out.cell (p := ⟨b, off + k * 2, none⟩) hb).trans (hc k 0 hlt (by omega))
      have c1 : wr.cell? ⟨b, off + k * 2 + 1, none⟩ = some (.int .u16 (u k 1)) := (HB.out.cell (p := ⟨b, off + k * 2 + 1, none⟩) hb).trans (hc k 1 hlt (by omega))
      obtain ⟨u0, u1⟩ := HU.out k 0 hlt (by omega)
      obtain ⟨u2, u3⟩ := HU.out k 1 hlt (by omega)
      have hs0 := sty_ok u0 u2
      obtain ⟨A1, d1, w1, hrun, ho1, hg1⟩ := HO.out.push (sty u k) (by rw [stL_len]; omega) HB.out.size
      rw [stL_len] at hrun ho1
      have HO1 := hide (show OwnY w1 w.heap.size (.slice A1 (k + 1) d1) (stL u (k + 1)) from ho1)
      have HB1 := hide ((HB.out.alloc HB.out.size (.cells #[.int .i64 (sty u k).1, .int .i64 (sty u k).2] 81)).grown hg1 (by have h1 := HB.out.size; have h2 := World.size_alloc wr (.cells #[.int .i64 (sty u k).1, .int .i64 (sty u k).2] 81); omega) (fun j hj => (World.ownsRow.lt HO.out j hj).1))
      clear ho1 hg1 hc
      unfold sty at hrun
      dsimp only at hrun
      have HRUN := hide hrun
      clear hrun hs0
      generalize u k 0 = x at *
      generalize u k 1 = y at *
      have m1 : (0 : Int) ≤ y % 9000 ∧ y % 9000 ≤ 8999 := by omega
      have y1 : IntKind.i64.wrap y = y := IntWalk.i64_in _ (by omega)
      have y2 : y.tmod 9000 = y % 9000 := Int.tmod_eq_emod_of_nonneg (by omega)
      have x1 : IntKind.i64.wrap x = x := IntWalk.i64_in _ (by omega)
      generalize y % 9000 = z at *
      have z1 : IntKind.i64.wrap (z + 1) = z + 1 := IntWalk.i64_in _ (by omega)
      have x2 : x.tmod (z + 1) = x % (z + 1) := Int.tmod_eq_emod_of_nonneg (by omega)
      have z2 : (z + 1 == 0) = false := by simp; omega
      generalize x % (z + 1) = x3 at *
      go_wp2_with (at_builtin; refine wpList_append_run rfl (.tmp 20) (.tmp 32) 38 rfl rfl rfl HRUN.out ?_)
      go_roundw
      case rel => exact ⟨k + 1, _, _, by omega, by go_num, rfl, HO1, HB1⟩
      case measure => simp [intOf]; omega
    · obtain rfl : k = n := by omega
      go_wp2_with fail
      go_ret
      exact ⟨_, _, rfl, HO.out, HB.out⟩
end Go.Proofs.YtfbnpiafoaoddaaDoor
