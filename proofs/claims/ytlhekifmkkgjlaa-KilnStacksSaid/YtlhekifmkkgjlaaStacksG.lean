/- Chapter 8, the reference: Stack. -/
import Derived.Test.YtlhekifmkkgjlaaStacksF
import Derived.Deep.CutBlock
import Derived.Deep.DeepCutAuto
set_option linter.unusedSimpArgs false
set_option linter.unusedVariables false
set_option linter.unnecessarySimpa false
namespace Go.Proofs.Ytlhekifmkkgjlaa
open Go Go.RowKit Go.Shelf
set_option maxHeartbeats 8000000
set_option maxRecDepth 100000
theorem info_bool : (Try.prog.info? 4).map (fun i => (i.zero, i.size, i.bytes)) = some (some (.bool false), 1, 1) := by kernel_rfl
theorem rowV_bools (n : Nat) : madeCells (Value.bool false).cells (n * 1) = rowV n (fun _ => .bool false) := by
  apply Array.ext_getElem?
  intro j
  simp only [rowV, madeCells, Array.getElem?_map, Array.getElem?_range, List.getElem?_toArray, List.getElem?_map, Nat.mul_one]
  by_cases hj : j < n
  · simp [hj, Value.cells, Nat.mod_one]
  · simp [hj]
def hasTo (x : Nat → Int) (i b : Nat) : Bool := anyTo (fun c => x c == (b : Int)) i
theorem stack_no {s : Stk} (h : ¬ (((1 ≤ s.wd ∧ s.wd ≤ 12) ∧ (1 ≤ s.hg ∧ s.hg ≤ 12)) ∧ s.nt ≤ 10 ∧ ∀ k, k < s.nt → tierB (s.wd * s.hg) (s.cn k) (s.wn k) (s.cf k) (s.wf k) = true)) : stackB s = false := by
  rcases e : stackB s with _ | _
  · rfl
  · exact absurd ((stackB_iff s).1 e) h
theorem inB_iff (n a b : Int) : inB n a b = true ↔ a ≤ n ∧ n ≤ b := by simp [inB]
theorem inB_no {n a b : Int} (h : inB n a b = false) : ¬ (a ≤ n ∧ n ≤ b) := fun e => by rw [(inB_iff n a b).2 e] at h; cases h
theorem hasTo_succ (x : Nat → Int) (j b : Nat) : hasTo x (j + 1) b = (hasTo x j b || (x j == (b : Int))) := rfl
theorem has_on {w : World} {g n j q : Nat} {t : TypeId} {x : Nat → Int} (h : Blk w g t (rowV n fun b => .bool (hasTo x j b))) (hq : x j = (q : Int)) : Blk (w.setCell ⟨g, q, none⟩ (.bool true)) g t (rowV n fun b => .bool (hasTo x (j + 1) b)) := by
  have h1 := h.set_ q (.bool true)
  rw [rowV_set] at h1
  rw [rowV_same n _ (upd (fun b => Value.bool (hasTo x j b)) q (.bool true)) (fun b _ => by
    rw [hasTo_succ, hq]
    by_cases e : b = q
    · subst e; rw [upd_same]; simp
    · rw [upd_ne _ _ e]
      have : ((q : Int) == (b : Int)) = false := by simp; omega
      rw [this, Bool.or_false])]
  exact h1
theorem has_off {w : World} {g n j : Nat} {t : TypeId} {x : Nat → Int} (h : Blk w g t (rowV n fun b => .bool (hasTo x j b))) (hq : x j < 0) : Blk w g t (rowV n fun b => .bool (hasTo x (j + 1) b)) := by
  rw [rowV_same n _ (fun b => Value.bool (hasTo x j b)) (fun b _ => by
    rw [hasTo_succ]
    have : (x j == (b : Int)) = false := by simp; omega
    rw [this, Bool.or_false])]
  exact h
theorem has_all {cn wn : Nat} {x : Nat → Int} {b : Nat} (h : allB cn wn x = true) (hb : b < wn) (hh : hasTo x cn b = false) : False := by
  unfold allB at h
  rw [Bool.not_eq_true', ← Bool.not_eq_true, anyTo_iff] at h
  exact h ⟨b, hb, by unfold hasTo at hh; rw [hh]; rfl⟩
theorem tier_yes {m : Int} {cn wn : Nat} {x y : Nat → Int} (h1 : (cn : Int) = m) (h2 : (wn : Int) ≤ m) (h3 : ∀ b, b < wn → 0 ≤ y b ∧ y b ≤ 1000) (h4 : ∀ c, c < cn → -1 ≤ x c ∧ x c ≤ (wn : Int) - 1) (h5 : ∀ b, b < wn → hasTo x cn b = true) : tierB m cn wn x y = true := by
  unfold tierB
  simp only [Bool.and_eq_true, decide_eq_true_eq, wiB_iff]
  refine ⟨h1, h2, h3, h4, ?_⟩
  unfold allB
  rw [Bool.not_eq_true', ← Bool.not_eq_true, anyTo_iff]
  rintro ⟨b, hb, h6⟩
  have := h5 b hb
  unfold hasTo at this
  rw [this] at h6
  cases h6
def StackInv (w : World) (s : Stk) (wr : World) : Prop := Below w.heap.size w wr ∧ Blk wr w.heap.size 55 #[.int .i64 s.wd, .int .i64 s.hg, .slice s.A s.nt s.cap]
theorem StackInv.ext {w wr w' : World} {s : Stk} (h : StackInv w s wr) (hb : Below wr.heap.size wr w') : StackInv w s w' := ⟨h.1.trans (hb.mono h.1.size), h.2.ext hb⟩
theorem refStack_any (s : Stk) (w : World) (hs : StkR w w.heap.size s) : Calls Try.prog 28 #[.agg #[.int .i64 s.wd, .int .i64 s.hg, .slice s.A s.nt s.cap]] w fun e w' => e = .returned (.bool (stackB s)) ∧ Below w.heap.size w w' := by
  have m0 := hs.1
  have HSS := hide hs
  obtain ⟨i0, hi, hz0, hz1, hz2⟩ := info_parts info_bool
  have HGL := hide (fun (n : Nat) (hn : n ≤ 1000000) (W : World) => (show _ from by
    have gl := run_make_rowN (P := Try.prog) 139 4 i0 _ Try.underlying139 hi hz0 .i64 .i64 n n (Nat.le_refl _) (by rw [hz2]; omega) (by omega) W
    rw [hz1, rowV_bools] at gl
    exact gl : (Instr.makeSlice 139 (.int .i64 (n : Int)) (.int .i64 (n : Int))).run Try.prog W = .ok (.slice (some ⟨W.heap.size, 0, none⟩) n n) (W.alloc (.cells (rowV n (fun _ => .bool false)) 4))))
  have HR0 : Hid (StackInv w s (w.alloc (.cells #[.int .i64 s.wd, .int .i64 s.hg, .slice s.A s.nt s.cap] 55))) := hide ⟨(Below.refl _ _).alloc (Nat.le_refl _) _, Blk.new w _ _⟩
  clear hs hi hz0 hz1 hz2
  rcases hd1 : inB s.wd 1 12 with _ | _
  · have HX : Hid (stackB s = false) := hide (stack_no fun e => inB_no hd1 e.1.1)
    go_enter Try.func28, Try.ntmps28
    go_wp2_with ((with_reducible refine (refIn_any _ _ _ _).mono ?_); rintro e w' ⟨rfl, rfl⟩)
    go_ret
    exact ⟨by rw [HX.out]; rfl, HR0.out.1⟩
  rcases hd2 : inB s.hg 1 12 with _ | _
  · have HX : Hid (stackB s = false) := hide (stack_no fun e => inB_no hd2 e.1.2)
    go_enter Try.func28, Try.ntmps28
    go_wp2_with ((with_reducible refine (refIn_any _ _ _ _).mono ?_); rintro e w' ⟨rfl, rfl⟩)
    go_ret
    exact ⟨by rw [HX.out]; rfl, HR0.out.1⟩
  by_cases hd3 : 10 < s.nt
  · have HX : Hid (stackB s = false) := hide (stack_no fun e => by omega)
    have hd4 : (10 : Int) < (s.nt : Int) := by omega
    go_enter Try.func28, Try.ntmps28
    go_wp2_with ((with_reducible refine (refIn_any _ _ _ _).mono ?_); rintro e w' ⟨rfl, rfl⟩)
    go_ret
    exact ⟨by rw [HX.out]; rfl, HR0.out.1⟩
  have hd4 : ¬ (10 : Int) < (s.nt : Int) := by omega
  obtain ⟨w1, w2⟩ := (inB_iff _ _ _).1 hd1
  obtain ⟨g1, g2⟩ := (inB_iff _ _ _).1 hd2
  have hmb := mul_bd (a := s.wd) (b := s.hg) (M := 12) (N := 12) (by omega) (by omega) (by omega) (by omega)
  have hw0 : IntKind.i64.wrap (s.wd * s.hg) = s.wd * s.hg := IntWalk.i64_in _ (by omega)
  go_enter Try.func28, Try.ntmps28
  go_wp2_with ((with_reducible refine (refIn_any _ _ _ _).mono ?_); rintro e w' ⟨rfl, rfl⟩)
  generalize (w.alloc (.cells #[.int .i64 s.wd, .int .i64 s.hg, .slice s.A s.nt s.cap] 55)) = W1 at HR0 ⊢
  clear hd1 hd2
  go_loopw [3] (fun i wr => ∃ k : Nat, i = .int .i64 k ∧ k ≤ s.nt ∧ Hid (∀ t, t < k → tierB (s.wd * s.hg) (s.cn t) (s.wn t) (s.cf t) (s.wf t) = true) ∧ Hid (StackInv w s wr)) (fun i _ => s.nt - (intOf i).toNat)
  case atStart => exact ⟨0, rfl, by omega, hide (fun t h => absurd h (by omega)), HR0⟩
  case round =>
    obtain ⟨k, rfl, hk, HT, HR⟩ := hrel
    obtain ⟨a0, a1, a2, a3, -, -, -⟩ := blk3 HR.out.2
    by_cases hlt : k < s.nt
    · obtain ⟨tb, toff, hA, htb, hu, hv⟩ := P2.at_ (HSS.out.2.1.below HR.out.1 (Nat.le_refl _)) hlt
      obtain ⟨l1, l2, hIc, hIw⟩ := HSS.out.2.2 k hlt
      have HIC := hide hIc
      have HIW := hide hIw
      unfold Stk.u at hu
      unfold Stk.v at hv
      rw [hA] at a3
      have i1 : (0 : Int) ≤ (k : Int) := by omega
      have i2 : (k : Int) < (s.nt : Int) := by omega
      clear hIc hIw hA
      go_upto_region 7 with fail
      have KT := hide (Blk.new wr 72 #[.slice (s.ca k) (s.cn k) (s.cc k), .slice (s.wa k) (s.wn k) (s.wc k)])
      have HRa := hide (HR.out.ext ((Below.refl _ wr).alloc (Nat.le_refl _) (.cells #[.slice (s.ca k) (s.cn k) (s.cc k), .slice (s.wa k) (s.wn k) (s.wc k)] 72)))
      clear a0 a1 a2 a3 hu hv HR
      generalize (wr.alloc (.cells #[.slice (s.ca k) (s.cn k) (s.cc k), .slice (s.wa k) (s.wn k) (s.wc k)] 72)) = wa at KT HRa ⊢
      generalize wr.heap.size = g at KT ⊢
      obtain ⟨b0, b1, b2, b3, -, -, -⟩ := blk3 HRa.out.2
      obtain ⟨t0, t1, t2⟩ := bx2 KT.out
      by_cases hcn : (s.cn k : Int) = s.wd * s.hg
      · by_cases hwn : s.wn k ≤ s.cn k
        · have hcn2 : ((s.cn k : Int) != s.wd * s.hg) = false := by simp [hcn]
          have hwn2 : ¬ (s.cn k : Int) < (s.wn k : Int) := by omega
          have hgl := HGL.out (s.wn k) l2 wa
          have HCN := hide hcn
          clear hcn
          go_wp2_with fail
          clear hgl b0 b1 b2 b3 t0 t1 t2
          have HRb := hide (HRa.out.ext ((Below.refl _ wa).alloc (Nat.le_refl _) (.cells (rowV (s.wn k) fun _ => .bool false) 4)))
          have KTb := hide (KT.out.alloc (.cells (rowV (s.wn k) fun _ => .bool false) 4))
          have KH := hide (Blk.new wa 4 (rowV (s.wn k) fun _ => .bool false))
          have hhg : g ≠ wa.heap.size := by have := KT.out.lt; omega
          have hhw : w.heap.size < wa.heap.size := by have := HRa.out.2.lt; omega
          clear HRa KT
          generalize (wa.alloc (.cells (rowV (s.wn k) fun _ => .bool false) 4)) = wb at HRb KTb KH ⊢
          generalize wa.heap.size = hb at KH hhg hhw ⊢
          obtain ⟨wo, hwo⟩ : ∃ wo : World, wo = wr := ⟨_, rfl⟩
          go_loopw [6] (fun i wr => ∃ j : Nat, i = .int .i64 j ∧ j ≤ s.cn k ∧ Hid (∀ c, c < j → -1 ≤ s.cf k c ∧ s.cf k c ≤ (s.wn k : Int) - 1) ∧ Hid (StackInv w s wr) ∧ Hid (Blk wr g 72 #[.slice (s.ca k) (s.cn k) (s.cc k), .slice (s.wa k) (s.wn k) (s.wc k)]) ∧ Hid (Blk wr hb 4 (rowV (s.wn k) fun b => .bool (hasTo (s.cf k) j b)))) (fun i _ => s.cn k - (intOf i).toNat)
          case atStart => exact ⟨0, rfl, by omega, hide (fun c h => absurd h (by omega)), HRb, KTb, KH⟩
          case round =>
            obtain ⟨j, rfl, hj, HCF, HRc, KTc, KHc⟩ := hrel
            obtain ⟨t0, t1, t2⟩ := bx2 KTc.out
            by_cases hlt2 : j < s.cn k
            · obtain ⟨cb, coff, hca, hcb, hcc⟩ := (HIC.out.below HRc.out.1 (Nat.le_refl _)).at_ hlt2
              rw [hca] at t1
              have HCA := hide hca
              clear hca
              have j1 : (0 : Int) ≤ (j : Int) := by omega
              have j2 : (j : Int) < (s.cn k : Int) := by omega
              have hww : IntKind.i64.wrap ((s.wn k : Int) - 1) = (s.wn k : Int) - 1 := IntWalk.i64_in _ (by omega)
              go_wp2_with fail
              have hHeld : wr.drew.cell? ⟨g, 0, none⟩ = some (.slice (some ⟨cb, coff, none⟩) (s.cn k) (s.cc k)) ∧ wr.drew.cell? ⟨g, 1, none⟩ = some (.slice (s.wa k) (s.wn k) (s.wc k)) ∧ wr.drew.cell? ⟨cb, coff + j, none⟩ = some (.int .i64 (s.cf k j)) := ⟨t1, t2, hcc⟩
              refine wp_region_J (fun W : World => W.cell? ⟨g, 0, none⟩ = some (.slice (some ⟨cb, coff, none⟩) (s.cn k) (s.cc k)) ∧ W.cell? ⟨g, 1, none⟩ = some (.slice (s.wa k) (s.wn k) (s.wc k)) ∧ W.cell? ⟨cb, coff + j, none⟩ = some (.int .i64 (s.cf k j))) (by kernel_rfl) ?_
              rcases hin : inB (s.cf k j) (-1) ((s.wn k : Int) - 1) with _ | _
              · have HX : Hid (stackB s = false) := hide (stack_no fun e => by have := e.2.2 k hlt; simp only [tierB, Bool.and_eq_true, decide_eq_true_eq, wiB_iff] at this; exact inB_no hin (this.2.2.2.1 j hlt2))
                refine wpAnyJ_take 0 (v := ?_) (by first | exact hF | exact wideFn) hHeld rfl (by kernel_rfl) (by kernel_rfl) (by kernel_rfl) (by kernel_rfl) rfl ?_ (by first | exact fun _ _ _ h => h | exact fun _ _ _ h => hQ2 _ _ _ _ _ h) ?_
                rotate_left
                · intro W hSW
                  simp only [List.getElem_toArray, List.getElem_cons_zero, List.getElem_cons_succ]
                  (try dsimp only at hSW)
                  go_simp
                  with_reducible rfl
                (try simp only [List.getElem_toArray, List.getElem_cons_zero, List.getElem_cons_succ, Act.put, List.setIfInBounds_toArray, List.set_cons_zero, List.set_cons_succ])
                refine wpAnyJ_take 1 (v := ?_) (by first | exact hF | exact wideFn) hHeld rfl (by kernel_rfl) (by kernel_rfl) (by kernel_rfl) (by kernel_rfl) rfl ?_ (by first | exact fun _ _ _ h => h | exact fun _ _ _ h => hQ2 _ _ _ _ _ h) ?_
                rotate_left
                · intro W hSW
                  simp only [List.getElem_toArray, List.getElem_cons_zero, List.getElem_cons_succ]
                  (try dsimp only at hSW)
                  go_simp
                  with_reducible rfl
                (try simp only [List.getElem_toArray, List.getElem_cons_zero, List.getElem_cons_succ, Act.put, List.setIfInBounds_toArray, List.set_cons_zero, List.set_cons_succ])
                refine wpAnyJ_take 2 (v := ?_) (by first | exact hF | exact wideFn) hHeld rfl (by kernel_rfl) (by kernel_rfl) (by kernel_rfl) (by kernel_rfl) rfl ?_ (by first | exact fun _ _ _ h => h | exact fun _ _ _ h => hQ2 _ _ _ _ _ h) ?_
                rotate_left
                · intro W hSW
                  simp only [List.getElem_toArray, List.getElem_cons_zero, List.getElem_cons_succ]
                  (try dsimp only at hSW)
                  go_simp
                  with_reducible rfl
                (try simp only [List.getElem_toArray, List.getElem_cons_zero, List.getElem_cons_succ, Act.put, List.setIfInBounds_toArray, List.set_cons_zero, List.set_cons_succ])
                refine wpAnyJ_take 3 (v := ?_) (by first | exact hF | exact wideFn) hHeld rfl (by kernel_rfl) (by kernel_rfl) (by kernel_rfl) (by kernel_rfl) rfl ?_ (by first | exact fun _ _ _ h => h | exact fun _ _ _ h => hQ2 _ _ _ _ _ h) ?_
                rotate_left
                · intro W hSW
                  simp only [List.getElem_toArray, List.getElem_cons_zero, List.getElem_cons_succ]
                  (try dsimp only at hSW)
                  go_simp
                  with_reducible rfl
                (try simp only [List.getElem_toArray, List.getElem_cons_zero, List.getElem_cons_succ, Act.put, List.setIfInBounds_toArray, List.set_cons_zero, List.set_cons_succ])
                refine wpAnyJ_take 4 (v := ?_) (by first | exact hF | exact wideFn) hHeld rfl (by kernel_rfl) (by kernel_rfl) (by kernel_rfl) (by kernel_rfl) rfl ?_ (by first | exact fun _ _ _ h => h | exact fun _ _ _ h => hQ2 _ _ _ _ _ h) ?_
                rotate_left
                · intro W hSW
                  simp only [List.getElem_toArray, List.getElem_cons_zero, List.getElem_cons_succ]
                  (try dsimp only at hSW)
                  go_simp
                  with_reducible rfl
                (try simp only [List.getElem_toArray, List.getElem_cons_zero, List.getElem_cons_succ, Act.put, List.setIfInBounds_toArray, List.set_cons_zero, List.set_cons_succ])
                refine wpAnyJ_take 5 (v := ?_) (by first | exact hF | exact wideFn) hHeld rfl (by kernel_rfl) (by kernel_rfl) (by kernel_rfl) (by kernel_rfl) rfl ?_ (by first | exact fun _ _ _ h => h | exact fun _ _ _ h => hQ2 _ _ _ _ _ h) ?_
                rotate_left
                · intro W hSW
                  simp only [List.getElem_toArray, List.getElem_cons_zero, List.getElem_cons_succ]
                  (try dsimp only at hSW)
                  go_simp
                  with_reducible rfl
                (try simp only [List.getElem_toArray, List.getElem_cons_zero, List.getElem_cons_succ, Act.put, List.setIfInBounds_toArray, List.set_cons_zero, List.set_cons_succ])
                refine wpAnyJ_take 6 (v := ?_) (by first | exact hF | exact wideFn) hHeld rfl (by kernel_rfl) (by kernel_rfl) (by kernel_rfl) (by kernel_rfl) rfl ?_ (by first | exact fun _ _ _ h => h | exact fun _ _ _ h => hQ2 _ _ _ _ _ h) ?_
                rotate_left
                · intro W hSW
                  simp only [List.getElem_toArray, List.getElem_cons_zero, List.getElem_cons_succ]
                  (try dsimp only at hSW)
                  go_simp
                  with_reducible rfl
                (try simp only [List.getElem_toArray, List.getElem_cons_zero, List.getElem_cons_succ, Act.put, List.setIfInBounds_toArray, List.set_cons_zero, List.set_cons_succ])
                refine wpAnyJ_take 7 (v := ?_) (by first | exact hF | exact wideFn) hHeld rfl (by kernel_rfl) (by kernel_rfl) (by kernel_rfl) (by kernel_rfl) rfl ?_ (by first | exact fun _ _ _ h => h | exact fun _ _ _ h => hQ2 _ _ _ _ _ h) ?_
                rotate_left
                · intro W hSW
                  simp only [List.getElem_toArray, List.getElem_cons_zero, List.getElem_cons_succ]
                  (try dsimp only at hSW)
                  go_simp
                  with_reducible rfl
                (try simp only [List.getElem_toArray, List.getElem_cons_zero, List.getElem_cons_succ, Act.put, List.setIfInBounds_toArray, List.set_cons_zero, List.set_cons_succ])
                refine wpAnyJ_take 8 (v := ?_) (by first | exact hF | exact wideFn) hHeld rfl (by kernel_rfl) (by kernel_rfl) (by kernel_rfl) (by kernel_rfl) rfl ?_ (by first | exact fun _ _ _ h => h | exact fun _ _ _ h => hQ2 _ _ _ _ _ h) ?_
                rotate_left
                · intro W hSW
                  simp only [List.getElem_toArray, List.getElem_cons_zero, List.getElem_cons_succ]
                  (try dsimp only at hSW)
                  go_simp
                  with_reducible rfl
                (try simp only [List.getElem_toArray, List.getElem_cons_zero, List.getElem_cons_succ, Act.put, List.setIfInBounds_toArray, List.set_cons_zero, List.set_cons_succ])
                refine wpAnyJ_one 9 rfl (by kernel_rfl) (fun K hK => ?_)
                simp only [List.getElem_toArray, List.getElem_cons_zero, List.getElem_cons_succ]
                go_simp
                refine ⟨trivial, rfl, ?_⟩
                refine (callsIn_wide.2 (refIn_any (s.cf k j) (-1) ((s.wn k : Int) - 1) _)).mono ?_
                rintro e w' ⟨rfl, rfl⟩
                skip
                dsimp only
                refine hK.out _ _ (fun _ => hHeld) ?_
                clear hK K
                (try simp only [List.getElem_toArray, List.getElem_cons_zero, List.getElem_cons_succ, Act.put, List.setIfInBounds_toArray, List.set_cons_zero, List.set_cons_succ])
                refine wpAnyJ_take 10 (v := ?_) (by first | exact hF | exact wideFn) hHeld rfl (by kernel_rfl) (by kernel_rfl) (by kernel_rfl) (by kernel_rfl) rfl ?_ (by first | exact fun _ _ _ h => h | exact fun _ _ _ h => hQ2 _ _ _ _ _ h) ?_
                rotate_left
                · intro W hSW
                  simp only [List.getElem_toArray, List.getElem_cons_zero, List.getElem_cons_succ]
                  (try dsimp only at hSW)
                  go_simp
                  with_reducible rfl
                (try simp only [List.getElem_toArray, List.getElem_cons_zero, List.getElem_cons_succ, Act.put, List.setIfInBounds_toArray, List.set_cons_zero, List.set_cons_succ])
                refine wpAnyJ_done (by kernel_rfl) ?_
                go_wp2_with fail
                go_ret
                exact ⟨by rw [HX.out]; rfl, HRc.out.1.drew⟩
              · have hin2 := (inB_iff _ _ _).1 hin
                refine wpAnyJ_take 0 (v := ?_) (by first | exact hF | exact wideFn) hHeld rfl (by kernel_rfl) (by kernel_rfl) (by kernel_rfl) (by kernel_rfl) rfl ?_ (by first | exact fun _ _ _ h => h | exact fun _ _ _ h => hQ2 _ _ _ _ _ h) ?_
                rotate_left
                · intro W hSW
                  simp only [List.getElem_toArray, List.getElem_cons_zero, List.getElem_cons_succ]
                  (try dsimp only at hSW)
                  go_simp
                  with_reducible rfl
                (try simp only [List.getElem_toArray, List.getElem_cons_zero, List.getElem_cons_succ, Act.put, List.setIfInBounds_toArray, List.set_cons_zero, List.set_cons_succ])
                refine wpAnyJ_take 1 (v := ?_) (by first | exact hF | exact wideFn) hHeld rfl (by kernel_rfl) (by kernel_rfl) (by kernel_rfl) (by kernel_rfl) rfl ?_ (by first | exact fun _ _ _ h => h | exact fun _ _ _ h => hQ2 _ _ _ _ _ h) ?_
                rotate_left
                · intro W hSW
                  simp only [List.getElem_toArray, List.getElem_cons_zero, List.getElem_cons_succ]
                  (try dsimp only at hSW)
                  go_simp
                  with_reducible rfl
                (try simp only [List.getElem_toArray, List.getElem_cons_zero, List.getElem_cons_succ, Act.put, List.setIfInBounds_toArray, List.set_cons_zero, List.set_cons_succ])
                refine wpAnyJ_take 2 (v := ?_) (by first | exact hF | exact wideFn) hHeld rfl (by kernel_rfl) (by kernel_rfl) (by kernel_rfl) (by kernel_rfl) rfl ?_ (by first | exact fun _ _ _ h => h | exact fun _ _ _ h => hQ2 _ _ _ _ _ h) ?_
                rotate_left
                · intro W hSW
                  simp only [List.getElem_toArray, List.getElem_cons_zero, List.getElem_cons_succ]
                  (try dsimp only at hSW)
                  go_simp
                  with_reducible rfl
                (try simp only [List.getElem_toArray, List.getElem_cons_zero, List.getElem_cons_succ, Act.put, List.setIfInBounds_toArray, List.set_cons_zero, List.set_cons_succ])
                refine wpAnyJ_take 3 (v := ?_) (by first | exact hF | exact wideFn) hHeld rfl (by kernel_rfl) (by kernel_rfl) (by kernel_rfl) (by kernel_rfl) rfl ?_ (by first | exact fun _ _ _ h => h | exact fun _ _ _ h => hQ2 _ _ _ _ _ h) ?_
                rotate_left
                · intro W hSW
                  simp only [List.getElem_toArray, List.getElem_cons_zero, List.getElem_cons_succ]
                  (try dsimp only at hSW)
                  go_simp
                  with_reducible rfl
                (try simp only [List.getElem_toArray, List.getElem_cons_zero, List.getElem_cons_succ, Act.put, List.setIfInBounds_toArray, List.set_cons_zero, List.set_cons_succ])
                refine wpAnyJ_take 4 (v := ?_) (by first | exact hF | exact wideFn) hHeld rfl (by kernel_rfl) (by kernel_rfl) (by kernel_rfl) (by kernel_rfl) rfl ?_ (by first | exact fun _ _ _ h => h | exact fun _ _ _ h => hQ2 _ _ _ _ _ h) ?_
                rotate_left
                · intro W hSW
                  simp only [List.getElem_toArray, List.getElem_cons_zero, List.getElem_cons_succ]
                  (try dsimp only at hSW)
                  go_simp
                  with_reducible rfl
                (try simp only [List.getElem_toArray, List.getElem_cons_zero, List.getElem_cons_succ, Act.put, List.setIfInBounds_toArray, List.set_cons_zero, List.set_cons_succ])
                refine wpAnyJ_take 5 (v := ?_) (by first | exact hF | exact wideFn) hHeld rfl (by kernel_rfl) (by kernel_rfl) (by kernel_rfl) (by kernel_rfl) rfl ?_ (by first | exact fun _ _ _ h => h | exact fun _ _ _ h => hQ2 _ _ _ _ _ h) ?_
                rotate_left
                · intro W hSW
                  simp only [List.getElem_toArray, List.getElem_cons_zero, List.getElem_cons_succ]
                  (try dsimp only at hSW)
                  go_simp
                  with_reducible rfl
                (try simp only [List.getElem_toArray, List.getElem_cons_zero, List.getElem_cons_succ, Act.put, List.setIfInBounds_toArray, List.set_cons_zero, List.set_cons_succ])
                refine wpAnyJ_take 6 (v := ?_) (by first | exact hF | exact wideFn) hHeld rfl (by kernel_rfl) (by kernel_rfl) (by kernel_rfl) (by kernel_rfl) rfl ?_ (by first | exact fun _ _ _ h => h | exact fun _ _ _ h => hQ2 _ _ _ _ _ h) ?_
                rotate_left
                · intro W hSW
                  simp only [List.getElem_toArray, List.getElem_cons_zero, List.getElem_cons_succ]
                  (try dsimp only at hSW)
                  go_simp
                  with_reducible rfl
                (try simp only [List.getElem_toArray, List.getElem_cons_zero, List.getElem_cons_succ, Act.put, List.setIfInBounds_toArray, List.set_cons_zero, List.set_cons_succ])
                refine wpAnyJ_take 7 (v := ?_) (by first | exact hF | exact wideFn) hHeld rfl (by kernel_rfl) (by kernel_rfl) (by kernel_rfl) (by kernel_rfl) rfl ?_ (by first | exact fun _ _ _ h => h | exact fun _ _ _ h => hQ2 _ _ _ _ _ h) ?_
                rotate_left
                · intro W hSW
                  simp only [List.getElem_toArray, List.getElem_cons_zero, List.getElem_cons_succ]
                  (try dsimp only at hSW)
                  go_simp
                  with_reducible rfl
                (try simp only [List.getElem_toArray, List.getElem_cons_zero, List.getElem_cons_succ, Act.put, List.setIfInBounds_toArray, List.set_cons_zero, List.set_cons_succ])
                refine wpAnyJ_take 8 (v := ?_) (by first | exact hF | exact wideFn) hHeld rfl (by kernel_rfl) (by kernel_rfl) (by kernel_rfl) (by kernel_rfl) rfl ?_ (by first | exact fun _ _ _ h => h | exact fun _ _ _ h => hQ2 _ _ _ _ _ h) ?_
                rotate_left
                · intro W hSW
                  simp only [List.getElem_toArray, List.getElem_cons_zero, List.getElem_cons_succ]
                  (try dsimp only at hSW)
                  go_simp
                  with_reducible rfl
                (try simp only [List.getElem_toArray, List.getElem_cons_zero, List.getElem_cons_succ, Act.put, List.setIfInBounds_toArray, List.set_cons_zero, List.set_cons_succ])
                refine wpAnyJ_one 9 rfl (by kernel_rfl) (fun K hK => ?_)
                simp only [List.getElem_toArray, List.getElem_cons_zero, List.getElem_cons_succ]
                go_simp
                refine ⟨trivial, rfl, ?_⟩
                refine (callsIn_wide.2 (refIn_any (s.cf k j) (-1) ((s.wn k : Int) - 1) _)).mono ?_
                rintro e w' ⟨rfl, rfl⟩
                skip
                dsimp only
                refine hK.out _ _ (fun _ => hHeld) ?_
                clear hK K
                (try simp only [List.getElem_toArray, List.getElem_cons_zero, List.getElem_cons_succ, Act.put, List.setIfInBounds_toArray, List.set_cons_zero, List.set_cons_succ])
                refine wpAnyJ_take 10 (v := ?_) (by first | exact hF | exact wideFn) hHeld rfl (by kernel_rfl) (by kernel_rfl) (by kernel_rfl) (by kernel_rfl) rfl ?_ (by first | exact fun _ _ _ h => h | exact fun _ _ _ h => hQ2 _ _ _ _ _ h) ?_
                rotate_left
                · intro W hSW
                  simp only [List.getElem_toArray, List.getElem_cons_zero, List.getElem_cons_succ]
                  (try dsimp only at hSW)
                  go_simp
                  with_reducible rfl
                (try simp only [List.getElem_toArray, List.getElem_cons_zero, List.getElem_cons_succ, Act.put, List.setIfInBounds_toArray, List.set_cons_zero, List.set_cons_succ])
                refine wpAnyJ_done (by kernel_rfl) ?_
                have HRd := hide (HRc.out.ext (Below.refl _ _).drew)
                have KTd := hide KTc.out.drew
                have KHd := hide KHc.out.drew
                have HCFn : Hid (∀ c, c < j + 1 → -1 ≤ s.cf k c ∧ s.cf k c ≤ (s.wn k : Int) - 1) := hide (fun c hc => by
                  by_cases e : c = j
                  · subst e; exact hin2
                  · exact HCF.out c (by omega))
                have hcc2 : wr.drew.cell? ⟨cb, coff + j, none⟩ = some (.int .i64 (s.cf k j)) := hcc
                clear hHeld hin hww
                generalize wr.drew = wd at HRd KTd KHd hcc2 ⊢
                obtain ⟨t0, t1', t2'⟩ := bx2 KTd.out
                rw [HCA.out] at t1'
                by_cases hneg : 0 ≤ s.cf k j
                · obtain ⟨q, hq⟩ := Int.eq_ofNat_of_zero_le hneg
                  have HQ := hide hq
                  rw [hq] at hcc2
                  have hqn : q < s.wn k := by omega
                  have q1 : (0 : Int) ≤ (q : Int) := by omega
                  have q2 : (q : Int) < (s.wn k : Int) := by omega
                  have hqc : wd.cell? ⟨hb, q, none⟩ = some (.bool (hasTo (s.cf k) j q)) := by rw [KHd.out.cell, rowV_get _ _ hqn]
                  have hqf := KHd.out.frozen q
                  have hql := KHd.out.lt
                  clear hneg hq hcc hin2 t1 t2
                  go_wp2_with fail
                  go_roundw
                  case rel => exact ⟨j + 1, by go_num, by omega, HCFn, hide ⟨HRd.out.1.setCell (p := ⟨hb, q, none⟩) (by show w.heap.size ≤ hb; omega) _, HRd.out.2.far (p := ⟨hb, q, none⟩) (by show w.heap.size ≠ hb; omega) _⟩, hide (KTd.out.far (p := ⟨hb, q, none⟩) hhg _), hide (has_on KHd.out HQ.out)⟩
                  case measure => simp [intOf]; omega
                · have hcc3 : s.cf k j < 0 := by omega
                  clear hcc hin2 t1 t2
                  go_wp2_with fail
                  go_roundw
                  case rel => exact ⟨j + 1, by go_num, by omega, HCFn, HRd, KTd, hide (has_off KHd.out hcc3)⟩
                  case measure => simp [intOf]; omega
            · obtain rfl : j = s.cn k := by omega
              go_wp2_with fail
              go_loopw [7] (fun i wr => ∃ j : Nat, i = .int .i64 j ∧ j ≤ s.wn k ∧ Hid (∀ b, b < j → hasTo (s.cf k) (s.cn k) b = true ∧ 0 ≤ s.wf k b ∧ s.wf k b ≤ 1000) ∧ Hid (StackInv w s wr) ∧ Hid (Blk wr g 72 #[.slice (s.ca k) (s.cn k) (s.cc k), .slice (s.wa k) (s.wn k) (s.wc k)]) ∧ Hid (Blk wr hb 4 (rowV (s.wn k) fun b => .bool (hasTo (s.cf k) (s.cn k) b)))) (fun i _ => s.wn k - (intOf i).toNat)
              case atStart => exact ⟨0, rfl, by omega, hide (fun c h => absurd h (by omega)), HRc, KTc, KHc⟩
              case round =>
                obtain ⟨j, rfl, hj, HWF, HRe, KTe, KHe⟩ := hrel
                obtain ⟨t0', t1', t2'⟩ := bx2 KTe.out
                by_cases hlt3 : j < s.wn k
                · obtain ⟨eb, eoff, hwa, heb, hec⟩ := (HIW.out.below HRe.out.1 (Nat.le_refl _)).at_ hlt3
                  rw [hwa] at t2'
                  clear hwa
                  have j1 : (0 : Int) ≤ (j : Int) := by omega
                  have j2 : (j : Int) < (s.wn k : Int) := by omega
                  have hqc : wr.cell? ⟨hb, j, none⟩ = some (.bool (hasTo (s.cf k) (s.cn k) j)) := by rw [KHe.out.cell, rowV_get _ _ hlt3]
                  rcases hh : hasTo (s.cf k) (s.cn k) j with _ | _
                  · rw [hh] at hqc
                    have HX : Hid (stackB s = false) := hide (stack_no fun e => by have := e.2.2 k hlt; simp only [tierB, Bool.and_eq_true, decide_eq_true_eq] at this; exact has_all this.2.2.2.2 hlt3 hh)
                    clear hh
                    go_wp2_with fail
                    go_ret
                    exact ⟨by rw [HX.out]; rfl, HRe.out.1⟩
                  · rw [hh] at hqc
                    rcases hin : inB (s.wf k j) 0 1000 with _ | _
                    · have HX : Hid (stackB s = false) := hide (stack_no fun e => by have := e.2.2 k hlt; simp only [tierB, Bool.and_eq_true, decide_eq_true_eq, wiB_iff] at this; exact inB_no hin (this.2.2.1 j hlt3))
                      clear hh
                      go_wp2_with ((with_reducible refine (refIn_any _ _ _ _).mono ?_); rintro e w' ⟨rfl, rfl⟩)
                      go_ret
                      exact ⟨by rw [HX.out]; rfl, HRe.out.1⟩
                    · have hin2 := (inB_iff _ _ _).1 hin
                      have HWFn : Hid (∀ b, b < j + 1 → hasTo (s.cf k) (s.cn k) b = true ∧ 0 ≤ s.wf k b ∧ s.wf k b ≤ 1000) := hide (fun b hb => by
                        by_cases e : b = j
                        · subst e; exact ⟨hh, hin2⟩
                        · exact HWF.out b (by omega))
                      clear hh hin2
                      go_wp2_with ((with_reducible refine (refIn_any _ _ _ _).mono ?_); rintro e w' ⟨rfl, rfl⟩)
                      go_roundw
                      case rel => exact ⟨j + 1, by go_num, by omega, HWFn, HRe, KTe, KHe⟩
                      case measure => simp [intOf]; omega
                · obtain rfl : j = s.wn k := by omega
                  have HTn : Hid (∀ t, t < k + 1 → tierB (s.wd * s.hg) (s.cn t) (s.wn t) (s.cf t) (s.wf t) = true) := hide (fun t ht => by
                    by_cases e : t = k
                    · subst e
                      exact tier_yes HCN.out (by have := HCN.out; omega) (fun b hb => (HWF.out b hb).2) HCF.out (fun b hb => (HWF.out b hb).1)
                    · exact HT.out t (by omega))
                  go_wp2_with fail
                  go_roundw
                  case rel => exact ⟨k + 1, by go_num, by omega, HTn, HRe⟩
                  case measure => simp [intOf]; omega
        · have hcn2 : ((s.cn k : Int) != s.wd * s.hg) = false := by simp [hcn]
          have hwn2 : (s.cn k : Int) < (s.wn k : Int) := by omega
          have HX : Hid (stackB s = false) := hide (stack_no fun e => by have := e.2.2 k hlt; simp only [tierB, Bool.and_eq_true, decide_eq_true_eq] at this; omega)
          clear hcn
          go_wp2_with fail
          go_ret
          exact ⟨by rw [HX.out]; rfl, HRa.out.1⟩
      · have hcn2 : ((s.cn k : Int) != s.wd * s.hg) = true := by simp [hcn]
        have HX : Hid (stackB s = false) := hide (stack_no fun e => by have := e.2.2 k hlt; simp only [tierB, Bool.and_eq_true, decide_eq_true_eq] at this; omega)
        clear hcn
        go_wp2_with fail
        go_ret
        exact ⟨by rw [HX.out]; rfl, HRa.out.1⟩
    · obtain rfl : k = s.nt := by omega
      have HX : Hid (stackB s = true) := hide ((stackB_iff s).2 ⟨⟨⟨w1, w2⟩, ⟨g1, g2⟩⟩, by omega, HT.out⟩)
      go_wp2_with fail
      go_ret
      exact ⟨by rw [HX.out]; rfl, HR.out.1⟩
end Go.Proofs.Ytlhekifmkkgjlaa
/- Chapter 8, the reference: Hangs. -/
namespace Go.Proofs.Ytlhekifmkkgjlaa
open Go Go.RowKit Go.Shelf
set_option maxHeartbeats 4000000
set_option maxRecDepth 100000
def HangInv (w : World) (s : Stk) (wr : World) : Prop :=
  Below w.heap.size w wr ∧ Blk wr w.heap.size 55 #[.int .i64 s.wd, .int .i64 s.hg, .slice s.A s.nt s.cap] ∧ Blk wr (w.heap.size + 1) 59 #[.int .i64 0, .int .i64 0]
theorem HangInv.ext {w wr w' : World} {s : Stk} (h : HangInv w s wr) (hb : Below wr.heap.size wr w') : HangInv w s w' := ⟨h.1.trans (hb.mono h.1.size), h.2.1.ext hb, h.2.2.ext hb⟩
theorem refHangs_any (s : Stk) (w : World) (hs : StkR w w.heap.size s) (hc : ∀ k j, k < s.nt → j < s.nt → s.cn k = s.cn j) :
    Calls Try.prog 29 #[.agg #[.int .i64 s.wd, .int .i64 s.hg, .slice s.A s.nt s.cap]] w fun e w' => e = .returned (brV (hangF s)) ∧ Below w.heap.size w w' := by
  have m0 := hs.1
  have HSS := hide hs
  have HCC := hide hc
  clear hs hc
  go_enter Try.func29, Try.ntmps29
  go_wp2_with fail
  have HR0 : Hid (HangInv w s ((w.alloc (.cells #[.int .i64 s.wd, .int .i64 s.hg, .slice s.A s.nt s.cap] 55)).alloc (.cells #[.int .i64 0, .int .i64 0] 59))) := hide ⟨((Below.refl _ _).alloc (Nat.le_refl _) _).alloc (by simp) _, (Blk.new w _ _).alloc _, by simpa using Blk.new (w.alloc (.cells #[.int .i64 s.wd, .int .i64 s.hg, .slice s.A s.nt s.cap] 55)) 59 #[.int .i64 0, .int .i64 0]⟩
  generalize ((w.alloc (.cells #[.int .i64 s.wd, .int .i64 s.hg, .slice s.A s.nt s.cap] 55)).alloc (.cells #[.int .i64 0, .int .i64 0] 59)) = W0 at HR0 ⊢
  go_loopw [3] (fun i wr => ∃ k : Nat, i = .int .i64 k ∧ k ≤ s.nt ∧ Hid (∀ t j : Nat, t < k → j < s.wn t → hangP s t j = false) ∧ Hid (HangInv w s wr)) (fun i _ => s.nt - (intOf i).toNat)
  case atStart => exact ⟨0, rfl, by omega, hide (fun t j h => absurd h (by omega)), HR0⟩
  case round =>
    obtain ⟨k, rfl, hk, HP, HR⟩ := hrel
    obtain ⟨a0, a1, a2, a3, -, -, -⟩ := blk3 HR.out.2.1
    by_cases hlt : k < s.nt
    · obtain ⟨tb, toff, hA, htb, -, hv⟩ := P2.at_ HSS.out.2.1 hlt
      obtain ⟨l1, l2, -, -⟩ := HSS.out.2.2 k hlt
      unfold Stk.v at hv
      have HAA := hide hA
      have HV := hide hv
      clear hv hA
      have i1 : (0 : Int) ≤ (k : Int) := by omega
      have i2 : (k : Int) < (s.nt : Int) := by omega
      rw [HAA.out] at a3
      go_wp2_with fail
      obtain ⟨wo, hwo⟩ : ∃ wo : World, wo = wr := ⟨_, rfl⟩
      subst hwo
      go_loopw [4] (fun i wr => ∃ j : Nat, i = .int .i64 j ∧ j ≤ s.wn k ∧ Hid (∀ i : Nat, i < j → hangP s k i = false) ∧ Hid (HangInv w s wr)) (fun i _ => s.wn k - (intOf i).toNat)
      case atStart => exact ⟨0, rfl, by omega, hide (fun i h => absurd h (by omega)), HR⟩
      case round =>
        obtain ⟨j, rfl, hj, HQ, HR2⟩ := hrel
        obtain ⟨b0, b1, b2, b3, -, -, -⟩ := blk3 HR2.out.2.1
        rw [HAA.out] at b3
        have u1 := (HR2.out.1.cell (p := ⟨tb, toff + k * 2 + 1, none⟩) htb).trans HV.out
        by_cases hlt2 : j < s.wn k
        · have j1 : (0 : Int) ≤ (j : Int) := by omega
          have j2 : (j : Int) < (s.wn k : Int) := by omega
          have HC := hide (refRests_any s k j wr ((HSS.out.below HR2.out.1 (Nat.le_refl _)).more HR2.out.1.size) hlt (fun i hi => HCC.out i k hi hlt))
          have hAA := HAA.out
          rw [hAA] at HC
          clear hAA
          go_wp2_with fail
          refine HC.out.mono ?_
          rintro e w2 ⟨v, rfl, hown, hb2⟩
          obtain ⟨vA, vc, rfl⟩ := own_shape hown
          have HR3 := hide (HR2.out.ext hb2)
          have hl := restTo_len s k j (s.cn k)
          rw [restTo_all] at hl
          clear hb2 hown
          by_cases hp : (restL s k j).length = 0
          · have hp1 : (((restL s k j).length : Int) == 0) = true := by simp [hp]
            have HX : Hid (hangF s = ((k : Int), (j : Int))) := hide (firstOf_at HP.out HQ.out hlt hlt2 (by unfold hangP; exact decide_eq_true hp))
            clear hp
            obtain ⟨c0, c1, c2, c3, c4⟩ := blk2 HR3.out.2.2
            go_wp2_with fail
            have hP := HR3.out.2.2.set2 (.int .i64 k) (.int .i64 j)
            obtain ⟨f1, f2, f3, f4, f5⟩ := blk2 hP
            refine bodyPost_ret (v := .agg #[.int .i64 k, .int .i64 j]) (by simp [results, Try.results29, go_sem, *]) rfl ⟨by rw [HX.out]; rfl, ?_⟩
            exact set2B HR3.out.1 (by omega) _ _
          · have hp1 : (((restL s k j).length : Int) == 0) = false := by simpa using hp
            have HX : Hid (hangP s k j = false) := hide (by unfold hangP; exact decide_eq_false hp)
            clear hp
            go_wp2_with fail
            go_roundw
            case rel => exact ⟨j + 1, by go_num, by omega, hide (fun i hi => by
              by_cases e : i = j
              · subst e; exact HX.out
              · exact HQ.out i (by omega)), HR3⟩
            case measure => simp [intOf]; omega
        · obtain rfl : j = s.wn k := by omega
          go_wp2_with fail
          go_roundw
          case rel => exact ⟨k + 1, by go_num, by omega, hide (fun t i ht hi => by
            by_cases e : t = k
            · subst e; exact HQ.out i hi
            · exact HP.out t i (by omega) hi), HR2⟩
          case measure => simp [intOf]; omega
    · obtain rfl : k = s.nt := by omega
      have HX : Hid (hangF s = (-1, -1)) := hide (firstOf_no HP.out)
      obtain ⟨c0, c1, c2, c3, c4⟩ := blk2 HR.out.2.2
      go_wp2_with fail
      have hP := HR.out.2.2.set2 (.int .i64 (-1)) (.int .i64 (-1))
      obtain ⟨f1, f2, f3, f4, f5⟩ := blk2 hP
      refine bodyPost_ret (v := .agg #[.int .i64 (-1), .int .i64 (-1)]) (by simp [results, Try.results29, go_sem, *]) rfl ⟨by rw [HX.out]; rfl, ?_⟩
      exact set2B HR.out.1 (by omega) _ _
end Go.Proofs.Ytlhekifmkkgjlaa
/- Chapter 8, the reference: lowest. -/
namespace Go.Proofs.Ytlhekifmkkgjlaa
open Go Go.RowKit Go.Shelf
set_option maxHeartbeats 4000000
set_option maxRecDepth 100000
theorem refLowest_core (n d G N D : Nat) (w : World) (hn : n ≤ 4000000000000000000) (hd : d ≤ 4000000000000000000) (hG : Nat.gcd n d = G) (hN : n / G = N) (hD : d / G = D) (g0 : 0 < G) :
    Calls Try.prog 72 #[.int .i64 n, .int .i64 d] w fun e w' => e = .returned (.tuple #[ldV (N, D), .bool (fitP (N, D))]) ∧ Below w.heap.size w w' := by
  have k0 := hide (Blk.new w 76 #[.int .i64 0, .int .i64 0])
  have q1 : N ≤ n := hN ▸ Nat.div_le_self _ _
  have q2 : D ≤ d := hD ▸ Nat.div_le_self _ _
  have x1 : (n : Int) / (G : Int) = (N : Int) := by rw [← hN]; rfl
  have x2 : (d : Int) / (G : Int) = (D : Int) := by rw [← hD]; rfl
  have w1 : wrap64 (N : Int) = N := IntWalk.wrap64_in _ (by omega)
  have w2 : wrap64 (D : Int) = D := IntWalk.wrap64_in _ (by omega)
  have X := hide (And.intro (And.intro x1 x2) (And.intro w1 w2))
  have HG := hide hG
  clear x1 x2 w1 w2 hN hD hG
  go_enter Try.func72, Try.ntmps72
  go_wp2_with fail
  go_loopw [6, 7] (fun i j wr => ∃ a b : Nat, i = .int .i64 a ∧ j = .int .i64 b ∧ a ≤ 4000000000000000000 ∧ b ≤ 4000000000000000000 ∧ Hid (Nat.gcd a b = G) ∧ Below (w.heap.size + 1) (w.alloc (.cells #[.int .i64 0, .int .i64 0] 76)) wr ∧ Hid (wr.heap.size = w.heap.size + 1)) (fun _ j _ => (intOf j).toNat)
  case atStart => exact ⟨n, d, rfl, rfl, hn, hd, HG, Below.refl _ _, hide (by simp)⟩
  case round =>
    obtain ⟨a, b, rfl, rfl, ha, hb, H, hB, HZ⟩ := hrel
    have hzz : w.heap.size < wr.heap.size := by have := HZ.out; omega
    rcases Nat.eq_zero_or_pos b with rfl | hb0
    · have ha' : a = G := by have := H.out; simpa using this
      subst ha'
      have g1 : ((a : Nat) : Int) ≠ 0 := by omega
      have g2 : (0 : Int) < ((a : Nat) : Int) := by omega
      go_wp2_with fail
      go_region
      simp only [X.out.1.1, X.out.1.2, X.out.2.1, X.out.2.2]
      have hB0 : Below w.heap.size w wr := ((Below.refl _ _).alloc (Nat.le_refl _) _).trans (hB.mono (by omega))
      have KA := hide ((Blk.new wr 76 #[.int .i64 N, .int .i64 D]).drew)
      have KR := hide (((k0.out.below hB (by omega)).alloc (.cells #[.int .i64 N, .int .i64 D] 76)).drew)
      have HB1 := hide ((hB0.alloc hB0.size (.cells #[.int .i64 N, .int .i64 D] 76)).drew)
      go_wp2_with fail
      have hgz : w.heap.size ≠ wr.heap.size := by omega
      generalize (wr.alloc (.cells #[.int .i64 N, .int .i64 D] 76)).drew = wd at KA KR HB1 ⊢
      generalize wr.heap.size = g at KA hgz ⊢
      obtain ⟨r0, r1, r2, r3, r4⟩ := blk2 KR.out.drew
      have hHeld : (wd.drew.cell? ⟨g, 0, none⟩ = some (.int .i64 N) ∧ wd.drew.cell? ⟨g, 1, none⟩ = some (.int .i64 D)) ∧ Blk wd.drew w.heap.size 76 #[.int .i64 0, .int .i64 0] := by
        obtain ⟨-, p1, p2, -, -⟩ := blk2 KA.out.drew
        exact ⟨⟨p1, p2⟩, KR.out.drew⟩
      clear hHeld
      have hHeld : wd.drew.cell? ⟨g, 0, none⟩ = some (.int .i64 N) ∧ wd.drew.cell? ⟨g, 1, none⟩ = some (.int .i64 D) := by
        obtain ⟨-, p1, p2, -, -⟩ := blk2 KA.out.drew
        exact ⟨p1, p2⟩
      have hfin : Below w.heap.size w (((wd.drew.setCell ⟨w.heap.size, 0, none⟩ (.int .i64 N)).setCell ⟨w.heap.size, 1, none⟩ (.int .i64 D))) := set2B HB1.out.drew (Nat.le_refl _) _ _
      have hP := KR.out.drew.set2 (.int .i64 N) (.int .i64 D)
      have HF := hide hfin
      have HPP := hide hP
      have hH2 : (((wd.drew.setCell ⟨w.heap.size, 0, none⟩ (.int .i64 N)).setCell ⟨w.heap.size, 1, none⟩ (.int .i64 D))).cell? ⟨g, 0, none⟩ = some (.int .i64 N) ∧ (((wd.drew.setCell ⟨w.heap.size, 0, none⟩ (.int .i64 N)).setCell ⟨w.heap.size, 1, none⟩ (.int .i64 D))).cell? ⟨g, 1, none⟩ = some (.int .i64 D) := by
        obtain ⟨-, p1, p2, -, -⟩ := blk2 ((KA.out.drew.far (p := ⟨w.heap.size, 0, none⟩) (Ne.symm hgz) (.int .i64 N)).far (p := ⟨w.heap.size, 1, none⟩) (Ne.symm hgz) (.int .i64 D))
        exact ⟨p1, p2⟩
      have HH2 := hide hH2
      clear hfin hP hH2
      refine wp_region_J (fun W : World => W.cell? ⟨g, 0, none⟩ = some (.int .i64 N) ∧ W.cell? ⟨g, 1, none⟩ = some (.int .i64 D)) (by kernel_rfl) ?_
      generalize wd.drew = we at hHeld HF HPP HH2 r0 r1 r2 r3 r4 ⊢
      by_cases f1 : N ≤ 1000000000
      · have u1 : (N : Int) ≤ 1000000000 := by omega
        by_cases f2 : D ≤ 1000000000
        · have fit := hide (show fitP (N, D) = true by simp [fitP, f1, f2])
          have u2 : (D : Int) ≤ 1000000000 := by omega
          refine wpAnyJ_take 0 (v := ?_) (by first | exact hF | exact wideFn) hHeld rfl (by kernel_rfl) (by kernel_rfl) (by kernel_rfl) (by kernel_rfl) rfl ?_ (by first | exact fun _ _ _ h => h | exact fun _ _ _ h => hQ2 _ _ _ _ _ h) ?_
          rotate_left
          · intro W hSW
            simp only [List.getElem_toArray, List.getElem_cons_zero, List.getElem_cons_succ]
            (try dsimp only at hSW)
            go_simp
            with_reducible rfl
          (try simp only [List.getElem_toArray, List.getElem_cons_zero, List.getElem_cons_succ, Act.put, List.setIfInBounds_toArray, List.set_cons_zero, List.set_cons_succ])
          refine wpAnyJ_take 1 (v := ?_) (by first | exact hF | exact wideFn) hHeld rfl (by kernel_rfl) (by kernel_rfl) (by kernel_rfl) (by kernel_rfl) rfl ?_ (by first | exact fun _ _ _ h => h | exact fun _ _ _ h => hQ2 _ _ _ _ _ h) ?_
          rotate_left
          · intro W hSW
            simp only [List.getElem_toArray, List.getElem_cons_zero, List.getElem_cons_succ]
            (try dsimp only at hSW)
            go_simp
            with_reducible rfl
          (try simp only [List.getElem_toArray, List.getElem_cons_zero, List.getElem_cons_succ, Act.put, List.setIfInBounds_toArray, List.set_cons_zero, List.set_cons_succ])
          refine wpAnyJ_take 2 (v := ?_) (by first | exact hF | exact wideFn) hHeld rfl (by kernel_rfl) (by kernel_rfl) (by kernel_rfl) (by kernel_rfl) rfl ?_ (by first | exact fun _ _ _ h => h | exact fun _ _ _ h => hQ2 _ _ _ _ _ h) ?_
          rotate_left
          · intro W hSW
            simp only [List.getElem_toArray, List.getElem_cons_zero, List.getElem_cons_succ]
            (try dsimp only at hSW)
            go_simp
            with_reducible rfl
          (try simp only [List.getElem_toArray, List.getElem_cons_zero, List.getElem_cons_succ, Act.put, List.setIfInBounds_toArray, List.set_cons_zero, List.set_cons_succ])
          refine wpAnyJ_take 3 (v := ?_) (by first | exact hF | exact wideFn) hHeld rfl (by kernel_rfl) (by kernel_rfl) (by kernel_rfl) (by kernel_rfl) rfl ?_ (by first | exact fun _ _ _ h => h | exact fun _ _ _ h => hQ2 _ _ _ _ _ h) ?_
          rotate_left
          · intro W hSW
            simp only [List.getElem_toArray, List.getElem_cons_zero, List.getElem_cons_succ]
            (try dsimp only at hSW)
            go_simp
            with_reducible rfl
          (try simp only [List.getElem_toArray, List.getElem_cons_zero, List.getElem_cons_succ, Act.put, List.setIfInBounds_toArray, List.set_cons_zero, List.set_cons_succ])
          refine wpAnyJ_take 4 (v := ?_) (by first | exact hF | exact wideFn) hHeld rfl (by kernel_rfl) (by kernel_rfl) (by kernel_rfl) (by kernel_rfl) rfl ?_ (by first | exact fun _ _ _ h => h | exact fun _ _ _ h => hQ2 _ _ _ _ _ h) ?_
          rotate_left
          · intro W hSW
            simp only [List.getElem_toArray, List.getElem_cons_zero, List.getElem_cons_succ]
            (try dsimp only at hSW)
            go_simp
            with_reducible rfl
          (try simp only [List.getElem_toArray, List.getElem_cons_zero, List.getElem_cons_succ, Act.put, List.setIfInBounds_toArray, List.set_cons_zero, List.set_cons_succ])
          refine wpAnyJ_take 5 (v := ?_) (by first | exact hF | exact wideFn) hHeld rfl (by kernel_rfl) (by kernel_rfl) (by kernel_rfl) (by kernel_rfl) rfl ?_ (by first | exact fun _ _ _ h => h | exact fun _ _ _ h => hQ2 _ _ _ _ _ h) ?_
          rotate_left
          · intro W hSW
            simp only [List.getElem_toArray, List.getElem_cons_zero, List.getElem_cons_succ]
            (try dsimp only at hSW)
            go_simp
            with_reducible rfl
          (try simp only [List.getElem_toArray, List.getElem_cons_zero, List.getElem_cons_succ, Act.put, List.setIfInBounds_toArray, List.set_cons_zero, List.set_cons_succ])
          refine wpAnyJ_take 6 (v := ?_) (by first | exact hF | exact wideFn) hHeld rfl (by kernel_rfl) (by kernel_rfl) (by kernel_rfl) (by kernel_rfl) rfl ?_ (by first | exact fun _ _ _ h => h | exact fun _ _ _ h => hQ2 _ _ _ _ _ h) ?_
          rotate_left
          · intro W hSW
            simp only [List.getElem_toArray, List.getElem_cons_zero, List.getElem_cons_succ]
            (try dsimp only at hSW)
            go_simp
            with_reducible rfl
          (try simp only [List.getElem_toArray, List.getElem_cons_zero, List.getElem_cons_succ, Act.put, List.setIfInBounds_toArray, List.set_cons_zero, List.set_cons_succ])
          refine wpAnyJ_take 7 (v := ?_) (by first | exact hF | exact wideFn) hHeld rfl (by kernel_rfl) (by kernel_rfl) (by kernel_rfl) (by kernel_rfl) rfl ?_ (by first | exact fun _ _ _ h => h | exact fun _ _ _ h => hQ2 _ _ _ _ _ h) ?_
          rotate_left
          · intro W hSW
            simp only [List.getElem_toArray, List.getElem_cons_zero, List.getElem_cons_succ]
            (try dsimp only at hSW)
            go_simp
            with_reducible rfl
          (try simp only [List.getElem_toArray, List.getElem_cons_zero, List.getElem_cons_succ, Act.put, List.setIfInBounds_toArray, List.set_cons_zero, List.set_cons_succ])
          refine wpAnyJ_take 8 (v := ?_) (by first | exact hF | exact wideFn) hHeld rfl (by kernel_rfl) (by kernel_rfl) (by kernel_rfl) (by kernel_rfl) rfl ?_ (by first | exact fun _ _ _ h => h | exact fun _ _ _ h => hQ2 _ _ _ _ _ h) ?_
          rotate_left
          · intro W hSW
            simp only [List.getElem_toArray, List.getElem_cons_zero, List.getElem_cons_succ]
            (try dsimp only at hSW)
            go_simp
            with_reducible rfl
          (try simp only [List.getElem_toArray, List.getElem_cons_zero, List.getElem_cons_succ, Act.put, List.setIfInBounds_toArray, List.set_cons_zero, List.set_cons_succ])
          refine wpAnyJ_one 9 rfl (by kernel_rfl) (fun K hK => ?_)
          simp only [List.getElem_toArray, List.getElem_cons_zero, List.getElem_cons_succ]
          go_simp
          refine hK.out _ _ (fun _ => HH2.out) ?_
          clear hK K
          (try simp only [List.getElem_toArray, List.getElem_cons_zero, List.getElem_cons_succ, Act.put, List.setIfInBounds_toArray, List.set_cons_zero, List.set_cons_succ])
          refine wpAnyJ_one 10 rfl (by kernel_rfl) (fun K hK => ?_)
          simp only [List.getElem_toArray, List.getElem_cons_zero, List.getElem_cons_succ]
          go_simp
          refine hK.out _ _ (fun h => absurd h (by rw [show lastOp _ _ _ = true from by kernel_rfl]; simp)) ?_
          clear hK K
          (try simp only [List.getElem_toArray, List.getElem_cons_zero, List.getElem_cons_succ, Act.put, List.setIfInBounds_toArray, List.set_cons_zero, List.set_cons_succ])
          refine wpAnyJ_done (by kernel_rfl) ?_
          go_wp2_with fail
          obtain ⟨g1', g2', g3', g4', g5'⟩ := blk2 HPP.out
          refine bodyPost_ret (v := .tuple #[ldV (N, D), .bool true]) (by simp [results, Try.results72, go_sem, ldV, *]) rfl ⟨by rw [fit.out], HF.out⟩
        · have fit := hide (show fitP (N, D) = false by simp [fitP, f2])
          have u2 : ¬ (D : Int) ≤ 1000000000 := by omega
          refine wpAnyJ_take 0 (v := ?_) (by first | exact hF | exact wideFn) hHeld rfl (by kernel_rfl) (by kernel_rfl) (by kernel_rfl) (by kernel_rfl) rfl ?_ (by first | exact fun _ _ _ h => h | exact fun _ _ _ h => hQ2 _ _ _ _ _ h) ?_
          rotate_left
          · intro W hSW
            simp only [List.getElem_toArray, List.getElem_cons_zero, List.getElem_cons_succ]
            (try dsimp only at hSW)
            go_simp
            with_reducible rfl
          (try simp only [List.getElem_toArray, List.getElem_cons_zero, List.getElem_cons_succ, Act.put, List.setIfInBounds_toArray, List.set_cons_zero, List.set_cons_succ])
          refine wpAnyJ_take 1 (v := ?_) (by first | exact hF | exact wideFn) hHeld rfl (by kernel_rfl) (by kernel_rfl) (by kernel_rfl) (by kernel_rfl) rfl ?_ (by first | exact fun _ _ _ h => h | exact fun _ _ _ h => hQ2 _ _ _ _ _ h) ?_
          rotate_left
          · intro W hSW
            simp only [List.getElem_toArray, List.getElem_cons_zero, List.getElem_cons_succ]
            (try dsimp only at hSW)
            go_simp
            with_reducible rfl
          (try simp only [List.getElem_toArray, List.getElem_cons_zero, List.getElem_cons_succ, Act.put, List.setIfInBounds_toArray, List.set_cons_zero, List.set_cons_succ])
          refine wpAnyJ_take 2 (v := ?_) (by first | exact hF | exact wideFn) hHeld rfl (by kernel_rfl) (by kernel_rfl) (by kernel_rfl) (by kernel_rfl) rfl ?_ (by first | exact fun _ _ _ h => h | exact fun _ _ _ h => hQ2 _ _ _ _ _ h) ?_
          rotate_left
          · intro W hSW
            simp only [List.getElem_toArray, List.getElem_cons_zero, List.getElem_cons_succ]
            (try dsimp only at hSW)
            go_simp
            with_reducible rfl
          (try simp only [List.getElem_toArray, List.getElem_cons_zero, List.getElem_cons_succ, Act.put, List.setIfInBounds_toArray, List.set_cons_zero, List.set_cons_succ])
          refine wpAnyJ_take 3 (v := ?_) (by first | exact hF | exact wideFn) hHeld rfl (by kernel_rfl) (by kernel_rfl) (by kernel_rfl) (by kernel_rfl) rfl ?_ (by first | exact fun _ _ _ h => h | exact fun _ _ _ h => hQ2 _ _ _ _ _ h) ?_
          rotate_left
          · intro W hSW
            simp only [List.getElem_toArray, List.getElem_cons_zero, List.getElem_cons_succ]
            (try dsimp only at hSW)
            go_simp
            with_reducible rfl
          (try simp only [List.getElem_toArray, List.getElem_cons_zero, List.getElem_cons_succ, Act.put, List.setIfInBounds_toArray, List.set_cons_zero, List.set_cons_succ])
          refine wpAnyJ_take 4 (v := ?_) (by first | exact hF | exact wideFn) hHeld rfl (by kernel_rfl) (by kernel_rfl) (by kernel_rfl) (by kernel_rfl) rfl ?_ (by first | exact fun _ _ _ h => h | exact fun _ _ _ h => hQ2 _ _ _ _ _ h) ?_
          rotate_left
          · intro W hSW
            simp only [List.getElem_toArray, List.getElem_cons_zero, List.getElem_cons_succ]
            (try dsimp only at hSW)
            go_simp
            with_reducible rfl
          (try simp only [List.getElem_toArray, List.getElem_cons_zero, List.getElem_cons_succ, Act.put, List.setIfInBounds_toArray, List.set_cons_zero, List.set_cons_succ])
          refine wpAnyJ_take 5 (v := ?_) (by first | exact hF | exact wideFn) hHeld rfl (by kernel_rfl) (by kernel_rfl) (by kernel_rfl) (by kernel_rfl) rfl ?_ (by first | exact fun _ _ _ h => h | exact fun _ _ _ h => hQ2 _ _ _ _ _ h) ?_
          rotate_left
          · intro W hSW
            simp only [List.getElem_toArray, List.getElem_cons_zero, List.getElem_cons_succ]
            (try dsimp only at hSW)
            go_simp
            with_reducible rfl
          (try simp only [List.getElem_toArray, List.getElem_cons_zero, List.getElem_cons_succ, Act.put, List.setIfInBounds_toArray, List.set_cons_zero, List.set_cons_succ])
          refine wpAnyJ_take 6 (v := ?_) (by first | exact hF | exact wideFn) hHeld rfl (by kernel_rfl) (by kernel_rfl) (by kernel_rfl) (by kernel_rfl) rfl ?_ (by first | exact fun _ _ _ h => h | exact fun _ _ _ h => hQ2 _ _ _ _ _ h) ?_
          rotate_left
          · intro W hSW
            simp only [List.getElem_toArray, List.getElem_cons_zero, List.getElem_cons_succ]
            (try dsimp only at hSW)
            go_simp
            with_reducible rfl
          (try simp only [List.getElem_toArray, List.getElem_cons_zero, List.getElem_cons_succ, Act.put, List.setIfInBounds_toArray, List.set_cons_zero, List.set_cons_succ])
          refine wpAnyJ_take 7 (v := ?_) (by first | exact hF | exact wideFn) hHeld rfl (by kernel_rfl) (by kernel_rfl) (by kernel_rfl) (by kernel_rfl) rfl ?_ (by first | exact fun _ _ _ h => h | exact fun _ _ _ h => hQ2 _ _ _ _ _ h) ?_
          rotate_left
          · intro W hSW
            simp only [List.getElem_toArray, List.getElem_cons_zero, List.getElem_cons_succ]
            (try dsimp only at hSW)
            go_simp
            with_reducible rfl
          (try simp only [List.getElem_toArray, List.getElem_cons_zero, List.getElem_cons_succ, Act.put, List.setIfInBounds_toArray, List.set_cons_zero, List.set_cons_succ])
          refine wpAnyJ_take 8 (v := ?_) (by first | exact hF | exact wideFn) hHeld rfl (by kernel_rfl) (by kernel_rfl) (by kernel_rfl) (by kernel_rfl) rfl ?_ (by first | exact fun _ _ _ h => h | exact fun _ _ _ h => hQ2 _ _ _ _ _ h) ?_
          rotate_left
          · intro W hSW
            simp only [List.getElem_toArray, List.getElem_cons_zero, List.getElem_cons_succ]
            (try dsimp only at hSW)
            go_simp
            with_reducible rfl
          (try simp only [List.getElem_toArray, List.getElem_cons_zero, List.getElem_cons_succ, Act.put, List.setIfInBounds_toArray, List.set_cons_zero, List.set_cons_succ])
          refine wpAnyJ_one 9 rfl (by kernel_rfl) (fun K hK => ?_)
          simp only [List.getElem_toArray, List.getElem_cons_zero, List.getElem_cons_succ]
          go_simp
          refine hK.out _ _ (fun _ => HH2.out) ?_
          clear hK K
          (try simp only [List.getElem_toArray, List.getElem_cons_zero, List.getElem_cons_succ, Act.put, List.setIfInBounds_toArray, List.set_cons_zero, List.set_cons_succ])
          refine wpAnyJ_one 10 rfl (by kernel_rfl) (fun K hK => ?_)
          simp only [List.getElem_toArray, List.getElem_cons_zero, List.getElem_cons_succ]
          go_simp
          refine hK.out _ _ (fun h => absurd h (by rw [show lastOp _ _ _ = true from by kernel_rfl]; simp)) ?_
          clear hK K
          (try simp only [List.getElem_toArray, List.getElem_cons_zero, List.getElem_cons_succ, Act.put, List.setIfInBounds_toArray, List.set_cons_zero, List.set_cons_succ])
          refine wpAnyJ_done (by kernel_rfl) ?_
          go_wp2_with fail
          obtain ⟨g1', g2', g3', g4', g5'⟩ := blk2 HPP.out
          refine bodyPost_ret (v := .tuple #[ldV (N, D), .bool false]) (by simp [results, Try.results72, go_sem, ldV, *]) rfl ⟨by rw [fit.out], HF.out⟩
      · have fit := hide (show fitP (N, D) = false by simp [fitP, f1])
        have u1 : ¬ (N : Int) ≤ 1000000000 := by omega
        refine wpAnyJ_take 0 (v := ?_) (by first | exact hF | exact wideFn) hHeld rfl (by kernel_rfl) (by kernel_rfl) (by kernel_rfl) (by kernel_rfl) rfl ?_ (by first | exact fun _ _ _ h => h | exact fun _ _ _ h => hQ2 _ _ _ _ _ h) ?_
        rotate_left
        · intro W hSW
          simp only [List.getElem_toArray, List.getElem_cons_zero, List.getElem_cons_succ]
          (try dsimp only at hSW)
          go_simp
          with_reducible rfl
        (try simp only [List.getElem_toArray, List.getElem_cons_zero, List.getElem_cons_succ, Act.put, List.setIfInBounds_toArray, List.set_cons_zero, List.set_cons_succ])
        refine wpAnyJ_take 1 (v := ?_) (by first | exact hF | exact wideFn) hHeld rfl (by kernel_rfl) (by kernel_rfl) (by kernel_rfl) (by kernel_rfl) rfl ?_ (by first | exact fun _ _ _ h => h | exact fun _ _ _ h => hQ2 _ _ _ _ _ h) ?_
        rotate_left
        · intro W hSW
          simp only [List.getElem_toArray, List.getElem_cons_zero, List.getElem_cons_succ]
          (try dsimp only at hSW)
          go_simp
          with_reducible rfl
        (try simp only [List.getElem_toArray, List.getElem_cons_zero, List.getElem_cons_succ, Act.put, List.setIfInBounds_toArray, List.set_cons_zero, List.set_cons_succ])
        refine wpAnyJ_take 2 (v := ?_) (by first | exact hF | exact wideFn) hHeld rfl (by kernel_rfl) (by kernel_rfl) (by kernel_rfl) (by kernel_rfl) rfl ?_ (by first | exact fun _ _ _ h => h | exact fun _ _ _ h => hQ2 _ _ _ _ _ h) ?_
        rotate_left
        · intro W hSW
          simp only [List.getElem_toArray, List.getElem_cons_zero, List.getElem_cons_succ]
          (try dsimp only at hSW)
          go_simp
          with_reducible rfl
        (try simp only [List.getElem_toArray, List.getElem_cons_zero, List.getElem_cons_succ, Act.put, List.setIfInBounds_toArray, List.set_cons_zero, List.set_cons_succ])
        refine wpAnyJ_take 3 (v := ?_) (by first | exact hF | exact wideFn) hHeld rfl (by kernel_rfl) (by kernel_rfl) (by kernel_rfl) (by kernel_rfl) rfl ?_ (by first | exact fun _ _ _ h => h | exact fun _ _ _ h => hQ2 _ _ _ _ _ h) ?_
        rotate_left
        · intro W hSW
          simp only [List.getElem_toArray, List.getElem_cons_zero, List.getElem_cons_succ]
          (try dsimp only at hSW)
          go_simp
          with_reducible rfl
        (try simp only [List.getElem_toArray, List.getElem_cons_zero, List.getElem_cons_succ, Act.put, List.setIfInBounds_toArray, List.set_cons_zero, List.set_cons_succ])
        refine wpAnyJ_take 4 (v := ?_) (by first | exact hF | exact wideFn) hHeld rfl (by kernel_rfl) (by kernel_rfl) (by kernel_rfl) (by kernel_rfl) rfl ?_ (by first | exact fun _ _ _ h => h | exact fun _ _ _ h => hQ2 _ _ _ _ _ h) ?_
        rotate_left
        · intro W hSW
          simp only [List.getElem_toArray, List.getElem_cons_zero, List.getElem_cons_succ]
          (try dsimp only at hSW)
          go_simp
          with_reducible rfl
        (try simp only [List.getElem_toArray, List.getElem_cons_zero, List.getElem_cons_succ, Act.put, List.setIfInBounds_toArray, List.set_cons_zero, List.set_cons_succ])
        refine wpAnyJ_skip 5 (by first | exact hF | exact wideFn) hHeld rfl (by kernel_rfl) (by kernel_rfl) (by kernel_rfl) (by kernel_rfl) rfl (by first | exact fun _ _ _ h => h | exact fun _ _ _ h => hQ2 _ _ _ _ _ h) ?_
        (try simp only [List.getElem_toArray, List.getElem_cons_zero, List.getElem_cons_succ, Act.put, List.setIfInBounds_toArray, List.set_cons_zero, List.set_cons_succ])
        refine wpAnyJ_skip 6 (by first | exact hF | exact wideFn) hHeld rfl (by kernel_rfl) (by kernel_rfl) (by kernel_rfl) (by kernel_rfl) rfl (by first | exact fun _ _ _ h => h | exact fun _ _ _ h => hQ2 _ _ _ _ _ h) ?_
        (try simp only [List.getElem_toArray, List.getElem_cons_zero, List.getElem_cons_succ, Act.put, List.setIfInBounds_toArray, List.set_cons_zero, List.set_cons_succ])
        refine wpAnyJ_skip 7 (by first | exact hF | exact wideFn) hHeld rfl (by kernel_rfl) (by kernel_rfl) (by kernel_rfl) (by kernel_rfl) rfl (by first | exact fun _ _ _ h => h | exact fun _ _ _ h => hQ2 _ _ _ _ _ h) ?_
        (try simp only [List.getElem_toArray, List.getElem_cons_zero, List.getElem_cons_succ, Act.put, List.setIfInBounds_toArray, List.set_cons_zero, List.set_cons_succ])
        refine wpAnyJ_take 8 (v := ?_) (by first | exact hF | exact wideFn) hHeld rfl (by kernel_rfl) (by kernel_rfl) (by kernel_rfl) (by kernel_rfl) rfl ?_ (by first | exact fun _ _ _ h => h | exact fun _ _ _ h => hQ2 _ _ _ _ _ h) ?_
        rotate_left
        · intro W hSW
          simp only [List.getElem_toArray, List.getElem_cons_zero, List.getElem_cons_succ]
          (try dsimp only at hSW)
          go_simp
          with_reducible rfl
        (try simp only [List.getElem_toArray, List.getElem_cons_zero, List.getElem_cons_succ, Act.put, List.setIfInBounds_toArray, List.set_cons_zero, List.set_cons_succ])
        refine wpAnyJ_one 9 rfl (by kernel_rfl) (fun K hK => ?_)
        simp only [List.getElem_toArray, List.getElem_cons_zero, List.getElem_cons_succ]
        go_simp
        refine hK.out _ _ (fun _ => HH2.out) ?_
        clear hK K
        (try simp only [List.getElem_toArray, List.getElem_cons_zero, List.getElem_cons_succ, Act.put, List.setIfInBounds_toArray, List.set_cons_zero, List.set_cons_succ])
        refine wpAnyJ_one 10 rfl (by kernel_rfl) (fun K hK => ?_)
        simp only [List.getElem_toArray, List.getElem_cons_zero, List.getElem_cons_succ]
        go_simp
        refine hK.out _ _ (fun h => absurd h (by rw [show lastOp _ _ _ = true from by kernel_rfl]; simp)) ?_
        clear hK K
        (try simp only [List.getElem_toArray, List.getElem_cons_zero, List.getElem_cons_succ, Act.put, List.setIfInBounds_toArray, List.set_cons_zero, List.set_cons_succ])
        refine wpAnyJ_done (by kernel_rfl) ?_
        go_wp2_with fail
        obtain ⟨g1', g2', g3', g4', g5'⟩ := blk2 HPP.out
        refine bodyPost_ret (v := .tuple #[ldV (N, D), .bool false]) (by simp [results, Try.results72, go_sem, ldV, *]) rfl ⟨by rw [fit.out], HF.out⟩
    · have hb1 : ((b : Int) != 0) = true := by simp; omega
      have hb2 : (0 : Int) < (b : Int) := by omega
      have hm : a % b < b := Nat.mod_lt _ hb0
      have e1 : ((a : Int)).tmod (b : Int) = ((a % b : Nat) : Int) := by rw [Int.tmod_eq_emod_of_nonneg (by omega)]; rfl
      have e3 : IntKind.i64.wrap ((a % b : Nat) : Int) = ((a % b : Nat) : Int) := IntWalk.i64_in _ (by omega)
      go_wp2_with fail
      go_region
      clear e1 e3
      go_wp2_with fail
      go_roundw
      case rel => exact ⟨b, a % b, rfl, rfl, hb, by omega, hide (by rw [gcd_step]; exact H.out), hB.drew, HZ⟩
      case measure => simp [intOf]; omega
theorem refLowest_any (a b : Int) (n d : Nat) (w : World) (ha : a = (n : Int)) (hb : b = (d : Int)) (hn : n ≤ 4000000000000000000) (hd : d ≤ 4000000000000000000) (hd0 : 0 < d) :
    Calls Try.prog 72 #[.int .i64 a, .int .i64 b] w fun e w' => e = .returned (.tuple #[ldV (lowP n d), .bool (fitP (lowP n d))]) ∧ Below w.heap.size w w' := by
  subst ha hb
  exact refLowest_core n d _ _ _ w hn hd rfl rfl rfl (Nat.gcd_pos_of_pos_right _ hd0)
end Go.Proofs.Ytlhekifmkkgjlaa
/- Chapter 8: a family of lists of loads, each with a block of its own (no program in sight). -/
namespace Go.Proofs.Ytlhekifmkkgjlaa
open Go Go.RowKit Go.Shelf
set_option maxRecDepth 100000
/-- N lists, no two of them in one block -/
structure Fam (base N : Nat) (v : Nat → Value) (L : Nat → List (Nat × Nat)) (wr : World) : Prop where
  own : ∀ k, k < N → OwnL wr base (v k) (L k)
  ne : ∀ j k, j < N → k < N → j ≠ k → (v j).ownBlock = none ∨ (v j).ownBlock ≠ (v k).ownBlock
section
variable {base N : Nat} {v : Nat → Value} {L : Nat → List (Nat × Nat)} {wr w' : World}
theorem Fam.ext (h : Fam base N v L wr) (hb : Below wr.heap.size wr w') : Fam base N v L w' := ⟨fun k hk => ownBelow (h.own k hk) hb, h.ne⟩
/-- a write into a block of another type -/
theorem Fam.other (h : Fam base N v L wr) {g : Nat} {t : TypeId} {cs : Array Value} (hB : Blk wr g t cs) (ht : t ≠ 76) (hg : wr.grownBy w' (some g)) : Fam base N v L w' :=
  ⟨fun k hk => World.ownsRow.kept (h.own k hk) hg (.inr (own_blk_ne (h.own k hk) hB (Ne.symm ht))), h.ne⟩
/-- a write into a block of loads that is none of theirs -/
theorem Fam.apart (h : Fam base N v L wr) {g : Nat} (hne : ∀ k, k < N → (v k).ownBlock ≠ some g) (hg : wr.grownBy w' (some g)) : Fam base N v L w' :=
  ⟨fun k hk => World.ownsRow.kept (h.own k hk) hg (.inr (hne k hk)), h.ne⟩
theorem Fam.lt (h : Fam base N v L wr) {k g : Nat} (hk : k < N) (he : (v k).ownBlock = some g) : base ≤ g ∧ g < wr.heap.size := (h.own k hk).lt he
/-- list k is turned into another one: in its own block, or in a new one -/
theorem Fam.turn (h : Fam base N v L wr) {k : Nat} (hk : k < N) {x : Value} {l : List (Nat × Nat)} (hg : wr.grownBy w' (v k).ownBlock) (ho : OwnL w' base x l) (hx : x.ownBlock = (v k).ownBlock ∨ ∃ g, x.ownBlock = some g ∧ wr.heap.size ≤ g) : Fam base N (upd v k x) (upd L k l) w' := by
  refine ⟨fun j hj => ?_, fun i j hi hj hij => ?_⟩
  · by_cases e : j = k
    · subst e; rw [upd_same, upd_same]; exact ho
    · rw [upd_ne _ _ e, upd_ne _ _ e]
      exact World.ownsRow.kept (h.own j hj) hg (h.ne j k hj hk e)
  · by_cases e : i = k
    · subst e
      rw [upd_same, upd_ne _ _ (Ne.symm hij)]
      rcases hx with hx | ⟨g, hx, hgz⟩
      · rw [hx]; exact h.ne i j hi hj hij
      · refine .inr (fun e2 => ?_)
        rw [hx] at e2
        have := (h.lt hj e2.symm).2
        omega
    · rw [upd_ne _ _ e]
      by_cases e2 : j = k
      · subst e2
        rw [upd_same]
        rcases hx with hx | ⟨g, hx, hgz⟩
        · rw [hx]; exact h.ne i j hi hj hij
        · refine .inr (fun e3 => ?_)
          rw [hx] at e3
          have := (h.lt hi e3).2
          omega
      · rw [upd_ne _ _ e2]; exact h.ne i j hi hj hij
/-- one list more, in a new block -/
theorem Fam.more (h : Fam base N v L wr) (hb : Below wr.heap.size wr w') {x : Value} {l : List (Nat × Nat)} (ho : OwnL w' base x l) (hx : x.ownBlock = none ∨ ∃ g, x.ownBlock = some g ∧ wr.heap.size ≤ g) : Fam base (N + 1) (upd v N x) (upd L N l) w' := by
  refine ⟨fun j hj => ?_, fun i j hi hj hij => ?_⟩
  · by_cases e : j = N
    · subst e; rw [upd_same, upd_same]; exact ho
    · rw [upd_ne _ _ e, upd_ne _ _ e]
      exact ownBelow (h.own j (by omega)) hb
  · by_cases e : i = N
    · subst e
      rw [upd_same, upd_ne _ _ (Ne.symm hij)]
      rcases hx with hx | ⟨g, hx, hgz⟩
      · exact .inl hx
      · refine .inr (fun e2 => ?_)
        rw [hx] at e2
        have := (h.lt (show j < i by omega) e2.symm).2
        omega
    · rw [upd_ne _ _ e]
      by_cases e2 : j = N
      · subst e2
        rw [upd_same]
        rcases hx with hx | ⟨g, hx, hgz⟩
        · rw [hx]
          cases hv : (v i).ownBlock with
          | none => exact .inl rfl
          | some q => exact .inr (by simp)
        · refine .inr (fun e3 => ?_)
          rw [hx] at e3
          have := (h.lt (show i < j by omega) e3).2
          omega
      · rw [upd_ne _ _ e2]; exact h.ne i j (by omega) (by omega) hij
/-- the last list takes the place of the one ahead of it -/
theorem Fam.drop (h : Fam base (N + 2) v L wr) : Fam base (N + 1) (upd v N (v (N + 1))) (upd L N (L (N + 1))) wr := by
  refine ⟨fun j hj => ?_, fun i j hi hj hij => ?_⟩
  · by_cases e : j = N
    · subst e; rw [upd_same, upd_same]; exact h.own _ (by omega)
    · rw [upd_ne _ _ e, upd_ne _ _ e]; exact h.own j (by omega)
  · by_cases e : i = N
    · subst e
      rw [upd_same, upd_ne _ _ (Ne.symm hij)]
      exact h.ne _ _ (by omega) (by omega) (by omega)
    · rw [upd_ne _ _ e]
      by_cases e2 : j = N
      · subst e2; rw [upd_same]; exact h.ne _ _ (by omega) (by omega) (by omega)
      · rw [upd_ne _ _ e2]; exact h.ne _ _ (by omega) (by omega) hij
theorem Fam.congr (h : Fam base N v L wr) {v' : Nat → Value} {L' : Nat → List (Nat × Nat)} (hv : ∀ k, k < N → v' k = v k) (hL : ∀ k, k < N → L' k = L k) : Fam base N v' L' wr :=
  ⟨fun k hk => by rw [hv k hk, hL k hk]; exact h.own k hk, fun i j hi hj hij => by rw [hv i hi, hv j hj]; exact h.ne i j hi hj hij⟩
/-- a load is stored in list k -/
theorem Fam.put (h : Fam base N v L wr) {k c g cap : Nat} (hk : k < N) (hv : v k = .slice (some ⟨g, 0, none⟩) (L k).length cap) (hc : c < (L k).length) (x : Nat × Nat) :
    Fam base N v (upd L k ((L k).set c x)) ((wr.setCell ⟨g, c * 2, none⟩ (.int .i64 x.1)).setCell ⟨g, c * 2 + 1, none⟩ (.int .i64 x.2)) := by
  have ho := h.own k hk
  rw [hv] at ho
  have h2 := OwnL.set ho x hc
  have hg : wr.grownBy ((wr.setCell ⟨g, c * 2, none⟩ (.int .i64 x.1)).setCell ⟨g, c * 2 + 1, none⟩ (.int .i64 x.2)) (v k).ownBlock := by
    rw [hv]; exact grownBy_setS (grownBy_setS (World.grownBy.refl wr (some g)) _ _) _ _
  have h3 := h.turn hk hg (by rw [hv]; exact h2) (.inl rfl)
  rw [upd_self] at h3
  exact h3
end
/-- a list that is filled with (0, 1) up to i -/
def fillL (m i : Nat) : List (Nat × Nat) := List.replicate i (0, 1) ++ List.replicate (m - i) (0, 0)
theorem fillL_len {m i : Nat} (h : i ≤ m) : (fillL m i).length = m := by simp [fillL]; omega
theorem fillL_all (m : Nat) : fillL m m = List.replicate m (0, 1) := by simp [fillL]
theorem fillL_set {m i : Nat} (h : i < m) : (fillL m i).set i (0, 1) = fillL m (i + 1) := by
  unfold fillL
  rw [List.set_append_right _ _ (by simp), List.length_replicate, Nat.sub_self, show m - i = (m - (i + 1)) + 1 by omega, List.replicate_succ, List.set_cons_zero, List.replicate_succ', List.append_assoc]
  rfl
theorem made_loads (n : Nat) : (madeCells (Value.agg #[.int .i64 0, .int .i64 0]).cells (n * 2)).toList = cellsL (List.replicate n (0, 0)) := by
  have key : ∀ n, cellsL (List.replicate n (0, 0)) = List.replicate (n * 2) (.int .i64 0) := by
    intro n
    induction n with
    | zero => rfl
    | succ n ih =>
      rw [List.replicate_succ, cellsL_cons, ih, show (n + 1) * 2 = n * 2 + 1 + 1 by omega, List.replicate_succ, List.replicate_succ]
      rfl
  rw [key]
  apply List.ext_getElem?
  intro j
  rw [Array.getElem?_toList]
  simp only [madeCells, Array.getElem?_map, Array.getElem?_range, List.getElem?_replicate]
  by_cases hj : j < n * 2
  · rcases (by omega : j % 2 = 0 ∨ j % 2 = 1) with e | e <;> simp [hj, Value.cells, e]
  · simp [hj]
/-- a new list of loads -/
theorem own_made (w : World) (base n : Nat) (hb : base ≤ w.heap.size) (hn : n ≤ maxLen) : OwnL (w.alloc (.cells (madeCells (Value.agg #[.int .i64 0, .int .i64 0]).cells (n * 2)) 76)) base (.slice (some ⟨w.heap.size, 0, none⟩) n n) (fillL n 0) := by
  have hl : fillL n 0 = List.replicate n (0, 0) := by simp [fillL]
  rw [hl]
  unfold OwnL
  rw [List.length_replicate, ← made_loads]
  exact World.ownsRow_lit w _ n hb hn (by simp [madeCells])
end Go.Proofs.Ytlhekifmkkgjlaa
/- Chapter 8, the reference: Loads, what its walk keeps. -/
namespace Go.Proofs.Ytlhekifmkkgjlaa
open Go Go.RowKit Go.Shelf
set_option maxHeartbeats 8000000
set_option maxRecDepth 100000
theorem fill_step {wr : World} {base g m i : Nat} (h : OwnL wr base (.slice (some ⟨g, 0, none⟩) m m) (fillL m i)) (hi : i < m) :
    OwnL ((wr.setCell ⟨g, i * 2, none⟩ (.int .i64 0)).setCell ⟨g, i * 2 + 1, none⟩ (.int .i64 1)) base (.slice (some ⟨g, 0, none⟩) m m) (fillL m (i + 1)) := by
  have hl := fillL_len (m := m) (i := i) (by omega)
  rw [← fillL_set hi]
  have h2 : OwnL wr base (.slice (some ⟨g, 0, none⟩) (fillL m i).length m) (fillL m i) := by rw [hl]; exact h
  have h3 := OwnL.set h2 (0, 1) (c := i) (by rw [hl]; exact hi)
  rw [hl] at h3
  exact h3
/-- what the reference keeps at the head of a tier: r tiers are still to come -/
structure RefL (w : World) (s : Stk) (zo r : Nat) (v : Nat → Value) (wr : World) : Prop where
  below : Below w.heap.size w wr
  bx : Blk wr w.heap.size 55 #[.int .i64 s.wd, .int .i64 s.hg, .slice s.A s.nt s.cap]
  row : Blk wr zo 65 (rowV s.nt v)
  fam : Fam w.heap.size (s.nt + 1) v (gL s r).1 wr
  lo : w.heap.size < zo
theorem loads_short {s : Stk} {r k : Nat} (hk : k < r) (hr : r ≤ s.nt) : (gL s r).1 k = [] := by
  have h1 := loads_cnt s (flr s) (s.nt - r) r (by omega) k (by omega)
  rw [if_neg (by omega)] at h1
  exact List.eq_nil_of_length_eq_zero h1
theorem gL_top (s : Stk) : (gL s s.nt).1 = fun k => if k = s.nt then List.replicate (flr s) (0, 1) else [] := by
  show (loadsF s (flr s) (backTo s.nt s.nt)).1 = _
  rw [loads_top]; rfl
def RefLoadsPost (s : Stk) (w : World) (e : Ending) (w' : World) : Prop :=
  (LoadsB s = false ∧ e = .returned (.tuple #[.slice none 0 0, .slice none 0 0, .bool false]) ∧ Below w.heap.size w w') ∨
  (LoadsB s = true ∧ ∃ zo v, e = .returned (.tuple #[.slice (some ⟨zo, 0, none⟩) s.nt s.nt, v s.nt, .bool true]) ∧ RefL w s zo 0 v w')
theorem RefL.ext {w wr w' : World} {s : Stk} {zo r : Nat} {v : Nat → Value} (h : RefL w s zo r v wr) (hb : Below wr.heap.size wr w') : RefL w s zo r v w' := ⟨h.below.trans (hb.mono h.below.size), h.bx.ext hb, h.row.ext hb, h.fam.ext hb, h.lo⟩
/-- within a tier: the tier in box gt, the list for the tier below in block gn -/
structure TierL (w : World) (s : Stk) (zo t : Nat) (v : Nat → Value) (gt gn : Nat) (l : List (Nat × Nat)) (wr : World) : Prop where
  below : Below w.heap.size w wr
  bx : Blk wr w.heap.size 55 #[.int .i64 s.wd, .int .i64 s.hg, .slice s.A s.nt s.cap]
  row : Blk wr zo 65 (rowV s.nt v)
  fam : Fam w.heap.size (s.nt + 2) (upd v (s.nt + 1) (.slice (some ⟨gn, 0, none⟩) (flr s) (flr s))) (upd (gL s (t + 1)).1 (s.nt + 1) l) wr
  tr : Blk wr gt 72 #[.slice (s.ca t) (s.cn t) (s.cc t), .slice (s.wa t) (s.wn t) (s.wc t)]
  lo : w.heap.size < zo ∧ w.heap.size < gt
theorem TierL.at_ {w wr : World} {s : Stk} {zo t gt gn c : Nat} {v : Nat → Value} {l : List (Nat × Nat)} (h : TierL w s zo t v gt gn l wr) (hl : l.length = flr s) (hc : c < flr s) :
    wr.cell? ⟨gn, c * 2, none⟩ = some (.int .i64 (l.getD c (0, 1)).1) ∧ wr.cell? ⟨gn, c * 2 + 1, none⟩ = some (.int .i64 (l.getD c (0, 1)).2) ∧ wr.frozen? ⟨gn, c * 2, none⟩ = false ∧ wr.frozen? ⟨gn, c * 2 + 1, none⟩ = false ∧ gn < wr.heap.size := by
  have ho := h.fam.own (s.nt + 1) (by omega)
  rw [upd_same, upd_same] at ho
  obtain ⟨g, cap, hv, -, hg, x1, x2, f1, f2⟩ := OwnL.at_ ho (c := c) (by omega)
  injection hv with hv1
  injection hv1 with hv1
  injection hv1 with hv1
  subst hv1
  exact ⟨x1, x2, f1, f2, hg⟩
theorem TierL.put {w wr : World} {s : Stk} {zo t gt gn c : Nat} {v : Nat → Value} {l : List (Nat × Nat)} (h : TierL w s zo t v gt gn l wr) (hl : l.length = flr s) (hc : c < flr s) (x : Nat × Nat) :
    TierL w s zo t v gt gn (l.set c x) ((wr.setCell ⟨gn, c * 2, none⟩ (.int .i64 x.1)).setCell ⟨gn, c * 2 + 1, none⟩ (.int .i64 x.2)) := by
  have ho := h.fam.own (s.nt + 1) (by omega)
  rw [upd_same, upd_same] at ho
  have hlt := (ho.lt (show (Value.slice (some ⟨gn, 0, none⟩) (flr s) (flr s)).ownBlock = some gn from rfl)).1
  have hg := grownBy_setS (grownBy_setS (World.grownBy.refl wr (some gn)) (c * 2) (.int .i64 x.1)) (c * 2 + 1) (.int .i64 x.2)
  have hf := h.fam.put (k := s.nt + 1) (c := c) (g := gn) (cap := flr s) (by omega) (by rw [upd_same, upd_same, hl]) (by rw [upd_same]; omega) x
  rw [upd_same, upd_upd] at hf
  exact ⟨h.below.grown hg h.below.size (fun j hj => by injection hj with hj; omega), h.bx.grown hg (fun e => own_blk_ne ho h.bx (by decide) e.symm), h.row.grown hg (fun e => own_blk_ne ho h.row (by decide) e.symm), hf, h.tr.grown hg (fun e => own_blk_ne ho h.tr (by decide) e.symm), h.lo⟩
/-- within a tier: k bricks done, their loads in list o -/
structure TierB (w : World) (s : Stk) (zo t : Nat) (v : Nat → Value) (gt gn : Nat) (l o : List (Nat × Nat)) (wr : World) : Prop where
  below : Below w.heap.size w wr
  bx : Blk wr w.heap.size 55 #[.int .i64 s.wd, .int .i64 s.hg, .slice s.A s.nt s.cap]
  row : Blk wr zo 65 (rowV s.nt v)
  fam : Fam w.heap.size (s.nt + 2) (upd v (s.nt + 1) (.slice (some ⟨gn, 0, none⟩) (flr s) (flr s))) (upd (upd (gL s (t + 1)).1 t o) (s.nt + 1) l) wr
  tr : Blk wr gt 72 #[.slice (s.ca t) (s.cn t) (s.cc t), .slice (s.wa t) (s.wn t) (s.wc t)]
  lo : w.heap.size < zo ∧ w.heap.size < gt
theorem tierB_start {w wr : World} {s : Stk} {zo t gt gn : Nat} {v : Nat → Value} {l : List (Nat × Nat)} (h : TierL w s zo t v gt gn l wr) (ht : t < s.nt) (hr : t + 1 ≤ s.nt) :
    TierB w s zo t (upd v t (.slice (some ⟨wr.heap.size, 0, none⟩) 0 0)) gt gn l [] ((wr.alloc (.cells #[] 76)).setCell ⟨zo, t, none⟩ (.slice (some ⟨wr.heap.size, 0, none⟩) 0 0)) := by
  have hb : Below wr.heap.size wr (wr.alloc (.cells #[] 76)) := (Below.refl _ _).alloc (Nat.le_refl _) _
  have hv : upd v (s.nt + 1) (.slice (some ⟨gn, 0, none⟩) (flr s) (flr s)) t = v t := upd_ne _ _ (by omega)
  have hL : upd (gL s (t + 1)).1 (s.nt + 1) l t = [] := by rw [upd_ne _ _ (by omega)]; exact loads_short (by omega) hr
  have ho : OwnL (wr.alloc (.cells #[] 76)) w.heap.size (.slice (some ⟨wr.heap.size, 0, none⟩) 0 0) [] := ownMono (own_empty wr 76 2) h.below.size
  have hf := h.fam.turn (k := t) (by omega) (World.grownBy_alloc wr (.cells #[] 76) _) ho (.inr ⟨wr.heap.size, rfl, Nat.le_refl _⟩)
  have hrow := h.row.ext hb
  have hg := grownBy_setC (wr.alloc (.cells #[] 76)) zo t (.slice (some ⟨wr.heap.size, 0, none⟩) 0 0)
  have hf2 := hf.other hrow (by decide) hg
  have htz : gt ≠ zo := h.tr.ne_ h.row (by decide)
  refine ⟨(h.below.alloc h.below.size _).setCell (p := ⟨zo, t, none⟩) (by show w.heap.size ≤ zo; have := h.lo.1; omega) _, (h.bx.ext hb).far (p := ⟨zo, t, none⟩) (by show w.heap.size ≠ zo; have := h.lo.1; omega) _, ?_, ?_, (h.tr.ext hb).far (p := ⟨zo, t, none⟩) htz _, h.lo⟩
  · have h2 := hrow.set_ t (.slice (some ⟨wr.heap.size, 0, none⟩) 0 0)
    rw [rowV_set] at h2
    exact h2
  · refine hf2.congr (fun k hk => ?_) (fun k hk => ?_)
    · by_cases e : k = t
      · subst e; rw [upd_same, upd_ne _ _ (by omega), upd_same]
      · rw [upd_ne _ _ e]
        by_cases e2 : k = s.nt + 1
        · subst e2; rw [upd_same, upd_same]
        · rw [upd_ne _ _ e2, upd_ne _ _ e2, upd_ne _ _ e]
    · by_cases e : k = t
      · subst e; rw [upd_same, upd_ne _ _ (by omega), upd_same]
      · rw [upd_ne _ _ e]
        by_cases e2 : k = s.nt + 1
        · subst e2; rw [upd_same, upd_same]
        · rw [upd_ne _ _ e2, upd_ne _ _ e2, upd_ne _ _ e]
theorem tierB_start' {w wr : World} {s : Stk} {zo t gt gn : Nat} {v : Nat → Value} {l : List (Nat × Nat)} (h : TierL w s zo t v gt gn l wr) (ht : t < s.nt) (hr : t + 1 ≤ s.nt) :
    TierB w s zo t (upd v t (.slice (some ⟨wr.heap.size, 0, none⟩) 0 0)) gt gn l [] ((wr.setCell ⟨zo, t, none⟩ (.slice (some ⟨wr.heap.size, 0, none⟩) 0 0)).alloc (.cells #[] 76)) := by
  have e := tierB_start h ht hr
  rw [World.setCell_alloc_past (w := wr) (.cells #[] 76) zo t (.slice (some ⟨wr.heap.size, 0, none⟩) 0 0) h.row.lt] at e
  exact e
theorem gL_tier {s : Stk} {t : Nat} (ht : t < s.nt) (hok : (gL s (t + 1)).2 = true) : (gL s t).1 = upd (upd (gL s (t + 1)).1 t (tierR s (flr s) t ((gL s (t + 1)).1 s.nt) [] true (s.wn t)).2.1) s.nt (tierR s (flr s) t ((gL s (t + 1)).1 s.nt) [] true (s.wn t)).1 ∧ (gL s t).2 = (tierR s (flr s) t ((gL s (t + 1)).1 s.nt) [] true (s.wn t)).2.2 := by
  have hnil : (gL s (t + 1)).1 t = [] := loads_short (by omega) (by omega)
  rw [gL_step ht]
  unfold tierSt
  rw [hnil, hok]
  exact ⟨rfl, rfl⟩
theorem tierB_end {w wr : World} {s : Stk} {zo t gt gn : Nat} {v : Nat → Value} (h : TierB w s zo t v gt gn (tierR s (flr s) t ((gL s (t + 1)).1 s.nt) [] true (s.wn t)).1 (tierR s (flr s) t ((gL s (t + 1)).1 s.nt) [] true (s.wn t)).2.1 wr) (ht : t < s.nt) (hok : (gL s (t + 1)).2 = true) :
    RefL w s zo t (upd v s.nt (.slice (some ⟨gn, 0, none⟩) (flr s) (flr s))) wr := by
  have hd := h.fam.drop
  rw [upd_same, upd_same] at hd
  refine ⟨h.below, h.bx, ?_, ?_, h.lo.1⟩
  · rw [← rowV_same s.nt v _ (fun k hk => (upd_ne _ _ (by omega)).symm)]; exact h.row
  · rw [(gL_tier ht hok).1]
    refine hd.congr (fun k hk => ?_) (fun k hk => ?_)
    · by_cases e2 : k = s.nt
      · subst e2; rw [upd_same, upd_same]
      · rw [upd_ne _ _ e2, upd_ne _ _ e2, upd_ne _ _ (by omega)]
    · by_cases e2 : k = s.nt
      · subst e2; rw [upd_same, upd_same]
      · rw [upd_ne _ _ e2, upd_ne _ _ e2, upd_ne _ _ (show k ≠ s.nt + 1 by omega)]
theorem TierB.ext {w wr w' : World} {s : Stk} {zo t gt gn : Nat} {v : Nat → Value} {l o : List (Nat × Nat)} (h : TierB w s zo t v gt gn l o wr) (hb : Below wr.heap.size wr w') : TierB w s zo t v gt gn l o w' :=
  ⟨h.below.trans (hb.mono h.below.size), h.bx.ext hb, h.row.ext hb, h.fam.ext hb, h.tr.ext hb, h.lo⟩
/-- within a brick: a load of its own in box gb -/
structure TierK (w : World) (s : Stk) (zo t : Nat) (v : Nat → Value) (gt gn : Nat) (l o : List (Nat × Nat)) (gb : Nat) (x : Nat × Nat) (wr : World) : Prop where
  base : TierB w s zo t v gt gn l o wr
  kb : Blk wr gb 76 #[.int .i64 x.1, .int .i64 x.2]
  ap : ∀ k, k < s.nt + 2 → (upd v (s.nt + 1) (.slice (some ⟨gn, 0, none⟩) (flr s) (flr s)) k).ownBlock ≠ some gb
  lo : w.heap.size < gb
theorem TierK.ext {w wr w' : World} {s : Stk} {zo t gt gn gb : Nat} {v : Nat → Value} {l o : List (Nat × Nat)} {x : Nat × Nat} (h : TierK w s zo t v gt gn l o gb x wr) (hb : Below wr.heap.size wr w') : TierK w s zo t v gt gn l o gb x w' :=
  ⟨h.base.ext hb, h.kb.ext hb, h.ap, h.lo⟩
theorem tierK_start {w wr : World} {s : Stk} {zo t gt gn : Nat} {v : Nat → Value} {l o : List (Nat × Nat)} (h : TierB w s zo t v gt gn l o wr) (a b : Nat) :
    TierK w s zo t v gt gn l o wr.heap.size (a, b) (wr.alloc (.cells #[.int .i64 a, .int .i64 b] 76)) :=
  ⟨h.ext ((Below.refl _ _).alloc (Nat.le_refl _) _), Blk.new wr _ _, fun k hk e => by have := (h.fam.lt hk e).2; omega, h.bx.lt⟩
theorem TierK.set {w wr : World} {s : Stk} {zo t gt gn gb : Nat} {v : Nat → Value} {l o : List (Nat × Nat)} {x : Nat × Nat} (h : TierK w s zo t v gt gn l o gb x wr) (y : Nat × Nat) :
    TierK w s zo t v gt gn l o gb y ((wr.setCell ⟨gb, 0, none⟩ (.int .i64 y.1)).setCell ⟨gb, 1, none⟩ (.int .i64 y.2)) := by
  have hg := grownBy_setS (grownBy_setS (World.grownBy.refl wr (some gb)) 0 (.int .i64 y.1)) 1 (.int .i64 y.2)
  have hlo := h.lo
  refine ⟨⟨h.base.below.grown hg h.base.below.size (fun j hj => by injection hj with hj; omega), h.base.bx.grown hg (fun e => by injection e; omega), h.base.row.grown hg (fun e => by injection e with e; exact h.kb.ne_ h.base.row (by decide) e.symm), h.base.fam.apart h.ap hg, h.base.tr.grown hg (fun e => by injection e with e; exact h.kb.ne_ h.base.tr (by decide) e.symm), h.base.lo⟩, h.kb.set2 _ _, h.ap, h.lo⟩
theorem tierL_start {w wd W2 : World} {s : Stk} {zo t gt gn : Nat} {v : Nat → Value} (h : RefL w s zo (t + 1) v wd) (hb : Below wd.heap.size wd W2) (ho : OwnL W2 w.heap.size (.slice (some ⟨gn, 0, none⟩) (flr s) (flr s)) (fillL (flr s) 0)) (hgn : wd.heap.size ≤ gn)
    (hk : Blk W2 gt 72 #[.slice none 0 0, .slice none 0 0]) (hgt : wd.heap.size ≤ gt) :
    TierL w s zo t v gt gn (fillL (flr s) 0) ((W2.setCell ⟨gt, 0, none⟩ (.slice (s.ca t) (s.cn t) (s.cc t))).setCell ⟨gt, 1, none⟩ (.slice (s.wa t) (s.wn t) (s.wc t))) := by
  have h2 := h.ext hb
  have hf := h.fam.more hb ho (.inr ⟨gn, rfl, hgn⟩)
  have hg := grownBy_setS (grownBy_setS (World.grownBy.refl W2 (some gt)) 0 (.slice (s.ca t) (s.cn t) (s.cc t))) 1 (.slice (s.wa t) (s.wn t) (s.wc t))
  have hw := h.bx.lt
  have hz := h.row.lt
  refine ⟨h2.below.grown hg h2.below.size (fun j hj => by injection hj with hj; omega), h2.bx.grown hg (fun e => by injection e; omega), h2.row.grown hg (fun e => by injection e; omega), hf.other hk (by decide) hg, hk.set2 _ _, h.lo, by omega⟩
theorem tierL_done {w wd W3 : World} {s : Stk} {zo t gt gn : Nat} {v : Nat → Value} (h : RefL w s zo (t + 1) v wd) (hb : Below wd.heap.size wd W3) (ho : OwnL W3 w.heap.size (.slice (some ⟨gn, 0, none⟩) (flr s) (flr s)) (fillL (flr s) 0)) (hgn : wd.heap.size ≤ gn)
    (hk : Blk W3 gt 72 #[.slice (s.ca t) (s.cn t) (s.cc t), .slice (s.wa t) (s.wn t) (s.wc t)]) (hgt : wd.heap.size ≤ gt) : TierL w s zo t v gt gn (fillL (flr s) 0) W3 := by
  have h2 := h.ext hb
  have hw := h.bx.lt
  exact ⟨h2.below, h2.bx, h2.row, h.fam.more hb ho (.inr ⟨gn, rfl, hgn⟩), hk, h.lo, by omega⟩
theorem refL_start {w wr : World} {s : Stk} {g : Nat} (h : OwnL wr w.heap.size (.slice (some ⟨g, 0, none⟩) (flr s) (flr s)) (fillL (flr s) (flr s))) (hb : Below w.heap.size w wr) (hk : Blk wr w.heap.size 55 #[.int .i64 s.wd, .int .i64 s.hg, .slice s.A s.nt s.cap]) (hf : flr s ≤ 144) :
    ∃ v, .slice (some ⟨g, 0, none⟩) (flr s) (flr s) = v s.nt ∧ RefL w s wr.heap.size s.nt v (wr.alloc (.cells (rowV s.nt fun _ => .slice none 0 0) 65)) := by
  refine ⟨fun k => if k = s.nt then .slice (some ⟨g, 0, none⟩) (flr s) (flr s) else .slice none 0 0, (if_pos rfl).symm, hb.alloc hb.size _, hk.alloc _, ?_, ⟨fun k hk2 => ?_, fun i j hi hj hij => ?_⟩, hk.lt⟩
  · have h1 := Blk.new wr 65 (rowV s.nt fun _ => .slice none 0 0)
    rw [rowV_same s.nt (fun k => if k = s.nt then .slice (some ⟨g, 0, none⟩) (flr s) (flr s) else .slice none 0 0) (fun _ => .slice none 0 0) (fun k hk2 => if_neg (by omega))]
    exact h1
  · rw [gL_top]
    by_cases e : k = s.nt
    · simp only [if_pos e]
      rw [fillL_all] at h
      exact World.ownsRow.alloc h _
    · simp only [if_neg e]
      exact OwnL.nil _ _
  · by_cases e : i = s.nt
    · simp only [if_pos e, if_neg (show ¬ j = s.nt by omega)]
      exact .inr (by simp [Value.ownBlock])
    · simp only [if_neg e]
      exact .inl rfl
theorem loads_false {s : Stk} (h1 : stackB s = true) (h2 : (hangF s).1 < 0) {r : Nat} (hr : r ≤ s.nt) (h : (gL s r).2 = false) : LoadsB s = false := by
  rcases e : LoadsB s with _ | _
  · rfl
  · have := (tower h1 h2 s.nt 0 (by omega) e).2 r (by omega) hr
    rw [this] at h; cases h

/-- the cells of a brick up to one, added -/
def addTo (s : Stk) (t k : Nat) (on : List (Nat × Nat)) (j : Nat) : (Nat × Nat) × Bool := (cellsTo (s.cf t) k j).foldl (addSt on) ((0, 1), true)
theorem addTo_zero (s : Stk) (t k : Nat) (on : List (Nat × Nat)) : addTo s t k on 0 = ((0, 1), true) := rfl
theorem addTo_yes {s : Stk} {t k j : Nat} (on : List (Nat × Nat)) (h : s.cf t j = (k : Int)) : addTo s t k on (j + 1) = addSt on (addTo s t k on j) j := by
  unfold addTo
  rw [cellsTo_yes h, List.foldl_append]; rfl
theorem addTo_no {s : Stk} {t k j : Nat} (on : List (Nat × Nat)) (h : s.cf t j ≠ (k : Int)) : addTo s t k on (j + 1) = addTo s t k on j := by
  unfold addTo
  rw [cellsTo_no h]
theorem addTo_all {s : Stk} {t k n : Nat} (on : List (Nat × Nat)) (h : s.cn t = n) : addTo s t k on n = onBrk s t k on true := by subst h; rfl
theorem foldA_ok {on : List (Nat × Nat)} (ho : ∀ x ∈ on, LdOk x) : ∀ (cs : List Nat) (st : (Nat × Nat) × Bool), LdOk st.1 → LdOk (cs.foldl (addSt on) st).1
  | [], st, h => h
  | c :: cs, st, h => by rw [List.foldl_cons]; exact foldA_ok ho cs _ (addSt_ok on st c h ho)
theorem addTo_ok {s : Stk} {t k j : Nat} {on : List (Nat × Nat)} (ho : ∀ x ∈ on, LdOk x) : LdOk (addTo s t k on j).1 := foldA_ok ho _ _ LdOk_zero
theorem addTo_over {s : Stk} {t k j : Nat} {on : List (Nat × Nat)} (ho : ∀ x ∈ on, LdOk x) (hj : j ≤ s.cn t) (h : (addTo s t k on j).2 = false) : (onBrk s t k on true).2 = false := by
  rcases e : (onBrk s t k on true).2 with _ | _
  · rfl
  · obtain ⟨r, hr⟩ := cellsTo_prefix (s.cf t) k j (s.cn t) hj
    unfold onBrk at e
    rw [← hr, List.foldl_append] at e
    have h2 := (addSt_sum ho r _ (foldA_ok ho (cellsTo (s.cf t) k j) ((0, 1), true) LdOk_zero) e).1
    unfold addTo at h
    rw [h] at h2; cases h2
theorem tierR_mono {s : Stk} {m t : Nat} {on l : List (Nat × Nat)} (ho : ∀ x ∈ on, LdOk x) : ∀ (n k : Nat), k ≤ n → (tierR s m t on l true n).2.2 = true → (tierR s m t on l true k).2.2 = true
  | 0, k, hk, h => by obtain rfl : k = 0 := by omega
                      exact h
  | n + 1, k, hk, h => by
    rcases Nat.lt_or_ge k (n + 1) with hl | hl
    · refine tierR_mono ho n k (by omega) ?_
      rw [tierR_succ] at h
      simp only [brkSt, Bool.and_eq_true] at h
      exact (onBrk_sum ho h.1.1).1
    · obtain rfl : k = n + 1 := by omega
      exact h
theorem on_ok {s : Stk} {t : Nat} (h2 : (hangF s).1 < 0) (ht : t < s.nt) : ∀ x ∈ (gL s (t + 1)).1 s.nt, LdOk x :=
  loads_ok s (flr s) (rest_pos h2) (s.nt - (t + 1)) (t + 1) (by omega) s.nt (Nat.le_refl _)
theorem over_of {s : Stk} {t k : Nat} (h1 : stackB s = true) (h2 : (hangF s).1 < 0) (ht : t < s.nt) (hok : (gL s (t + 1)).2 = true) (hk : k < s.wn t)
    (h : (brkSt s t ((gL s (t + 1)).1 s.nt) (tierR s (flr s) t ((gL s (t + 1)).1 s.nt) [] true k) k).2.2 = false) : LoadsB s = false := by
  refine loads_false h1 h2 (r := t) (by omega) ?_
  rw [(gL_tier ht hok).2]
  rcases e : (tierR s (flr s) t ((gL s (t + 1)).1 s.nt) [] true (s.wn t)).2.2 with _ | _
  · rfl
  · have h3 := tierR_mono (on_ok h2 ht) (s.wn t) (k + 1) (by omega) e
    rw [tierR_succ, h] at h3
    cases h3
theorem lowP_pos (n d : Nat) (h : 0 < d) : 0 < (lowP n d).2 := Nat.div_pos (Nat.le_of_dvd h (Nat.gcd_dvd_right n d)) (Nat.gcd_pos_of_pos_right _ h)
theorem brk_no1 {s : Stk} {t k : Nat} {on : List (Nat × Nat)} {R : List (Nat × Nat) × List (Nat × Nat) × Bool} (hR : R.2.2 = true) (h : (onBrk s t k on true).2 = false) : (brkSt s t on R k).2.2 = false := by
  unfold brkSt; dsimp only; rw [hR, h]; rfl
theorem brk_no2 {s : Stk} {t k wN : Nat} {on : List (Nat × Nat)} {x : Nat × Nat} {R : List (Nat × Nat) × List (Nat × Nat) × Bool} (hR : R.2.2 = true) (hx : (onBrk s t k on true).1 = x) (hw : wtP s t k = (wN, 1)) (h : fitP (lowP (addN x (wN, 1)) (addD x (wN, 1))) = false) : (brkSt s t on R k).2.2 = false := by
  unfold brkSt dnOk; dsimp only; rw [hR, hx, hw, h, Bool.and_false]; rfl
theorem brk_dn {s : Stk} {t k wN : Nat} {x y : Nat × Nat} (hw : wtP s t k = (wN, 1)) (hy : lowP (addN x (wN, 1)) (addD x (wN, 1)) = y) (h : fitP y = true) : dnBrk s t k x = y := by
  unfold dnBrk; rw [hw]; unfold lowS; rw [hy, capP_yes h]
theorem brk_no3 {s : Stk} {t k wN n : Nat} {on : List (Nat × Nat)} {x y : Nat × Nat} {R : List (Nat × Nat) × List (Nat × Nat) × Bool} (hR : R.2.2 = true) (hx : (onBrk s t k on true).1 = x) (hw : wtP s t k = (wN, 1)) (hy : lowP (addN x (wN, 1)) (addD x (wN, 1)) = y) (h : fitP y = true) (hn : (restL s t k).length = n) (h2 : fitP (lowP y.1 (y.2 * n)) = false) : (brkSt s t on R k).2.2 = false := by
  unfold brkSt shOk; dsimp only; rw [hR, hx, brk_dn hw hy h, hn, h2, Bool.and_false]
theorem brk_yes {s : Stk} {t k wN n : Nat} {on : List (Nat × Nat)} {x y : Nat × Nat} {R : List (Nat × Nat) × List (Nat × Nat) × Bool} (hR : R.2.2 = true) (ho : (onBrk s t k on true).2 = true) (hx : (onBrk s t k on true).1 = x) (hw : wtP s t k = (wN, 1)) (hy : lowP (addN x (wN, 1)) (addD x (wN, 1)) = y) (h : fitP y = true) (hn : (restL s t k).length = n) (h2 : fitP (lowP y.1 (y.2 * n)) = true) :
    brkSt s t on R k = (layOn R.1 (restL s t k) (lowP y.1 (y.2 * n)), R.2.1 ++ [x], true) := by
  unfold brkSt shOk shBrk dnOk; rw [hR, hx, brk_dn hw hy h, hn, h2, hw, hy, h, ho]; unfold lowS; rw [capP_yes h2]; rfl
section
variable {w wr A W2 : World} {s : Stk} {zo t gt gn gb : Nat} {v : Nat → Value} {l o : List (Nat × Nat)} {x e : Nat × Nat} {x' : Value}
/-- what lies on the tier -/
theorem TierB.press (h : TierB w s zo t v gt gn l o wr) (ht : t < s.nt) {pA : Option Addr} {pc c : Nat} (hv : v s.nt = .slice pA (flr s) pc) (hc : c < flr s) :
    ∃ g, pA = some ⟨g, 0, none⟩ ∧ wr.cell? ⟨g, c * 2, none⟩ = some (.int .i64 (((gL s (t + 1)).1 s.nt).getD c (0, 1)).1) ∧ wr.cell? ⟨g, c * 2 + 1, none⟩ = some (.int .i64 (((gL s (t + 1)).1 s.nt).getD c (0, 1)).2) := by
  have ho := h.fam.own s.nt (by omega)
  rw [upd_ne _ _ (show s.nt ≠ s.nt + 1 by omega), upd_ne _ _ (show s.nt ≠ s.nt + 1 by omega), upd_ne _ _ (show s.nt ≠ t by omega), hv] at ho
  obtain ⟨g, cap, hv2, -, -, x1, x2, -, -⟩ := OwnL.at_ ho (c := c) (by rw [loadsF_len]; exact hc)
  injection hv2 with hv1 hv2 hv3
  exact ⟨g, hv1, x1, x2⟩
theorem TierB.at_ (h : TierB w s zo t v gt gn l o wr) {c : Nat} (hl : l.length = flr s) (hc : c < flr s) :
    wr.cell? ⟨gn, c * 2, none⟩ = some (.int .i64 (l.getD c (0, 1)).1) ∧ wr.cell? ⟨gn, c * 2 + 1, none⟩ = some (.int .i64 (l.getD c (0, 1)).2) ∧ wr.frozen? ⟨gn, c * 2, none⟩ = false ∧ wr.frozen? ⟨gn, c * 2 + 1, none⟩ = false ∧ gn < wr.heap.size := by
  have ho := h.fam.own (s.nt + 1) (by omega)
  rw [upd_same, upd_same] at ho
  obtain ⟨g, cap, hv, -, hg, x1, x2, f1, f2⟩ := OwnL.at_ ho (c := c) (by omega)
  injection hv with hv1
  injection hv1 with hv1
  injection hv1 with hv1
  subst hv1
  exact ⟨x1, x2, f1, f2, hg⟩
theorem TierB.nlt (h : TierB w s zo t v gt gn l o wr) : gn < wr.heap.size := (h.fam.lt (k := s.nt + 1) (by omega) (by rw [upd_same]; rfl)).2
theorem TierB.put (h : TierB w s zo t v gt gn l o wr) {c : Nat} (hl : l.length = flr s) (hc : c < flr s) (x : Nat × Nat) :
    TierB w s zo t v gt gn (l.set c x) o ((wr.setCell ⟨gn, c * 2, none⟩ (.int .i64 x.1)).setCell ⟨gn, c * 2 + 1, none⟩ (.int .i64 x.2)) := by
  have ho := h.fam.own (s.nt + 1) (by omega)
  rw [upd_same, upd_same] at ho
  have hlt := (ho.lt (show (Value.slice (some ⟨gn, 0, none⟩) (flr s) (flr s)).ownBlock = some gn from rfl)).1
  have hg := grownBy_setS (grownBy_setS (World.grownBy.refl wr (some gn)) (c * 2) (.int .i64 x.1)) (c * 2 + 1) (.int .i64 x.2)
  have hf := h.fam.put (k := s.nt + 1) (c := c) (g := gn) (cap := flr s) (by omega) (by rw [upd_same, upd_same, hl]) (by rw [upd_same]; omega) x
  rw [upd_same, upd_upd] at hf
  exact ⟨h.below.grown hg h.below.size (fun j hj => by injection hj with hj; omega), h.bx.grown hg (fun e => own_blk_ne ho h.bx (by decide) e.symm), h.row.grown hg (fun e => own_blk_ne ho h.row (by decide) e.symm), hf, h.tr.grown hg (fun e => own_blk_ne ho h.tr (by decide) e.symm), h.lo⟩
/-- the list of the tier's loads -/
theorem TierB.list (h : TierB w s zo t v gt gn l o A) (ht : t < s.nt) : OwnL A w.heap.size (v t) o := by
  have ho := h.fam.own t (by omega)
  rw [upd_ne _ _ (show t ≠ s.nt + 1 by omega), upd_ne _ _ (show t ≠ s.nt + 1 by omega), upd_same] at ho
  exact ho
theorem TierB.push (h : TierB w s zo t v gt gn l o A) (ht : t < s.nt) (hg : A.grownBy W2 (v t).ownBlock) (ho : OwnL W2 w.heap.size x' (o ++ [e])) (hx : x'.ownBlock = (v t).ownBlock ∨ ∃ g, x'.ownBlock = some g ∧ A.heap.size ≤ g) :
    TierB w s zo t (upd v t x') gt gn l (o ++ [e]) (W2.setCell ⟨zo, t, none⟩ x') := by
  have e1 := h.list ht
  have hv : upd v (s.nt + 1) (.slice (some ⟨gn, 0, none⟩) (flr s) (flr s)) t = v t := upd_ne _ _ (by omega)
  have hb : Below w.heap.size w W2 := h.below.grown hg h.below.size (fun j hj => (e1.lt hj).1)
  have f1 := h.fam.turn (k := t) (by omega) (by rw [hv]; exact hg) ho (by rw [hv]; exact hx)
  have row2 : Blk W2 zo 65 (rowV s.nt v) := h.row.grown hg (fun e => own_blk_ne e1 h.row (by decide) e.symm)
  have f2 := f1.other row2 (by decide) (grownBy_setC W2 zo t x')
  have htz : gt ≠ zo := h.tr.ne_ h.row (by decide)
  refine ⟨hb.setCell (p := ⟨zo, t, none⟩) (by show w.heap.size ≤ zo; have := h.lo.1; omega) _, (h.bx.grown hg (fun e => own_blk_ne e1 h.bx (by decide) e.symm)).far (p := ⟨zo, t, none⟩) (by show w.heap.size ≠ zo; have := h.lo.1; omega) _, ?_, ?_, (h.tr.grown hg (fun e => own_blk_ne e1 h.tr (by decide) e.symm)).far (p := ⟨zo, t, none⟩) htz _, h.lo⟩
  · have h2 := row2.set_ t x'
    rw [rowV_set] at h2
    exact h2
  · refine f2.congr (fun k hk => ?_) (fun k hk => ?_)
    · by_cases e : k = t
      · subst e; rw [upd_same, upd_ne _ _ (by omega), upd_same]
      · rw [upd_ne _ _ e]
        by_cases e2 : k = s.nt + 1
        · subst e2; rw [upd_same, upd_same]
        · rw [upd_ne _ _ e2, upd_ne _ _ e2, upd_ne _ _ e]
    · by_cases e : k = t
      · subst e; rw [upd_same, upd_ne _ _ (by omega), upd_same]
      · rw [upd_ne _ _ e]
        by_cases e2 : k = s.nt + 1
        · subst e2; rw [upd_same, upd_same]
        · rw [upd_ne _ _ e2, upd_ne _ _ e2, upd_ne _ _ e, upd_ne _ _ e]
theorem TierK.mid (h : TierK w s zo t v gt gn l o gb x A) (ht : t < s.nt) (hg : A.grownBy W2 (v t).ownBlock) : Blk W2 zo 65 (rowV s.nt v) ∧ Blk W2 gb 76 #[.int .i64 x.1, .int .i64 x.2] := by
  have e1 := h.base.list ht
  have ht2 := h.ap t (by omega)
  rw [upd_ne _ _ (show t ≠ s.nt + 1 by omega)] at ht2
  exact ⟨h.base.row.grown hg (fun e => own_blk_ne e1 h.base.row (by decide) e.symm), h.kb.grown hg (fun e => ht2 e.symm)⟩
theorem TierK.push (h : TierK w s zo t v gt gn l o gb x A) (ht : t < s.nt) (hg : A.grownBy W2 (v t).ownBlock) (ho : OwnL W2 w.heap.size x' (o ++ [e])) (hx : x'.ownBlock = (v t).ownBlock ∨ ∃ g, x'.ownBlock = some g ∧ A.heap.size ≤ g) :
    TierK w s zo t (upd v t x') gt gn l (o ++ [e]) gb x (W2.setCell ⟨zo, t, none⟩ x') := by
  have hv : upd v (s.nt + 1) (.slice (some ⟨gn, 0, none⟩) (flr s) (flr s)) t = v t := upd_ne _ _ (by omega)
  have ht2 := h.ap t (by omega)
  rw [hv] at ht2
  refine ⟨h.base.push ht hg ho hx, (h.kb.grown hg (fun e => ht2 e.symm)).far (p := ⟨zo, t, none⟩) (h.kb.ne_ h.base.row (by decide)) _, fun k hk => ?_, h.lo⟩
  have hk2 := h.ap k hk
  by_cases e2 : k = s.nt + 1
  · subst e2; rw [upd_same] at hk2 ⊢; exact hk2
  · rw [upd_ne _ _ e2] at hk2 ⊢
    by_cases e3 : k = t
    · subst e3
      rw [upd_same]
      rcases hx with hx | ⟨g, hx, hg2⟩
      · rw [hx]; exact hk2
      · intro e
        rw [hx] at e
        injection e with e
        have := h.kb.lt
        omega
    · rw [upd_ne _ _ e3]; exact hk2
end
end Go.Proofs.Ytlhekifmkkgjlaa
