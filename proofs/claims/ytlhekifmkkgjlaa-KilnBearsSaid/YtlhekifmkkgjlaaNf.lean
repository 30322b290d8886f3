/- Chapter 8: a copy of a stack, walked. -/
import Derived.Test.YtlhekifmkkgjlaaNe
import Derived.Deep.CutBlock
import Derived.Deep.DeepCutAuto
set_option linter.unusedSimpArgs false
set_option linter.unusedVariables false
set_option linter.unnecessarySimpa false
namespace Go.Proofs.Ytlhekifmkkgjlaa
open Go Go.RowKit Go.Shelf
set_option maxHeartbeats 4000000
set_option maxRecDepth 100000
theorem ints_one (n : Nat) (x : Nat → Int) : ∀ u ∈ cellsOf 1 n (fun i _ => Value.int .i64 (x i)), u.oneCell' = true := by
  intro u hu
  unfold cellsOf at hu
  obtain ⟨j, -, rfl⟩ := List.mem_map.1 hu
  rfl
theorem tier_read (w : World) (a b : Value) (e : TypeId) : Reads (w.alloc (.cells #[a, b] e)) (w.heap.size + 1) 2 (some ⟨w.heap.size, 0, none⟩) 1 [a, b] := by
  have h : ER (w.alloc (.cells #[a, b] e)) (w.heap.size + 1) 2 (some ⟨w.heap.size, 0, none⟩) 1 (fun _ i => if i = 0 then a else b) := fun _ => ⟨w.heap.size, 0, rfl, by omega, fun k i hk hi => by
    obtain rfl : k = 0 := by omega
    obtain ⟨-, z1, z2⟩ := bx2 (Blk.new w e #[a, b])
    rcases (by omega : i = 0 ∨ i = 1) with rfl | rfl
    · simpa using z1
    · simpa using z2⟩
  have h2 := h.reads (by omega)
  have e2 : cellsOf 2 1 (fun _ i => if i = 0 then a else b) = [a, b] := by
    simp [cellsOf, List.range_succ]
  rw [e2] at h2
  exact h2
theorem own_any (s : Stk) (w : World) (hs : StkR w w.heap.size s) (hn : s.nt ≤ 65536) (hm : ∀ k, k < s.nt → s.cn k ≤ 65536 ∧ s.wn k ≤ 65536) : Calls Try.prog 27 #[.agg #[.int .i64 s.wd, .int .i64 s.hg, .slice s.A s.nt s.cap]] w (OwnPost s w) := by
  have HSS := hide hs
  have HM := hide hm
  obtain ⟨i0, hi, hz0, hz1, hz2⟩ := info_parts info_int
  obtain ⟨t0, hti, htz0, htz1, htz2⟩ := info_parts info_tier
  have HI := hide (show _ ∧ _ ∧ _ ∧ _ from ⟨hi, hz0, hz1, hz2⟩)
  have HT := hide (show _ ∧ _ ∧ _ ∧ _ from ⟨hti, htz0, htz1, htz2⟩)
  clear hs hm hi hz0 hz1 hz2 hti htz0 htz1 htz2
  go_enter Try.func27, Try.ntmps27
  go_wp2_with fail
  have HR0 : Hid (OwnRel w s 0 (.slice (some ⟨w.heap.size + 1 + 1, 0, none⟩) 0 0) (fun _ => none) (fun _ => none) (fun _ => 0) (fun _ => 0) (((w.alloc (.cells #[.int .i64 s.wd, .int .i64 s.hg, .slice s.A s.nt s.cap] 55)).alloc (.cells #[.int .i64 0, .int .i64 0, .slice none 0 0] 55)).alloc (.cells #[] 72))) := hide ⟨(((Below.refl _ _).alloc (Nat.le_refl _) _).alloc (by simp) _).alloc (by simp only [World.size_alloc]; omega) _, ((Blk.new w _ _).alloc _).alloc _, by simpa using (Blk.new (w.alloc (.cells #[.int .i64 s.wd, .int .i64 s.hg, .slice s.A s.nt s.cap] 55)) 55 #[.int .i64 0, .int .i64 0, .slice none 0 0]).alloc (.cells #[] 72),
    by
      have h := own_empty ((w.alloc (.cells #[.int .i64 s.wd, .int .i64 s.hg, .slice s.A s.nt s.cap] 55)).alloc (.cells #[.int .i64 0, .int .i64 0, .slice none 0 0] 55)) 72 2
      simp only [World.size_alloc] at h
      exact ownMono h (by omega), fun j hj => absurd hj (by omega)⟩
  generalize (((w.alloc (.cells #[.int .i64 s.wd, .int .i64 s.hg, .slice s.A s.nt s.cap] 55)).alloc (.cells #[.int .i64 0, .int .i64 0, .slice none 0 0] 55)).alloc (.cells #[] 72)) = W0 at HR0 ⊢
  go_loopw [3, 4] (fun v i wr => ∃ k : Nat, i = .int .i64 k ∧ k ≤ s.nt ∧ ∃ ca wa cc wc, Hid (OwnRel w s k v ca wa cc wc wr)) (fun _ i _ => s.nt - (intOf i).toNat)
  case atStart => exact ⟨0, rfl, by omega, _, _, _, _, HR0⟩
  case round =>
    obtain ⟨k, rfl, hk, ca, wa, cc, wc, HR⟩ := hrel
    obtain ⟨a0, a1, a2, a3, -, -, -⟩ := blk3 HR.out.bx
    by_cases hlt : k < s.nt
    · obtain ⟨tb, toff, hA, htb, hu, hv⟩ := P2.at_ (HSS.out.2.1) hlt
      obtain ⟨l1, l2⟩ := HM.out k hlt
      obtain ⟨-, -, hIc, hIw⟩ := HSS.out.2.2 k hlt
      have HIC := hide (fun W (h : Below w.heap.size w W) => (hIc.below h (Nat.le_refl _)).more h.size)
      have HIW := hide (fun W (h : Below w.heap.size w W) => (hIw.below h (Nat.le_refl _)).more h.size)
      unfold Stk.u at hu
      unfold Stk.v at hv
      rw [hA] at a3
      have HS : Hid (∀ W, Below w.heap.size w W → Blk W w.heap.size 55 #[.int .i64 s.wd, .int .i64 s.hg, .slice s.A s.nt s.cap] → W.cell? ⟨w.heap.size, 2, none⟩ = some (.slice (some ⟨tb, toff, none⟩) s.nt s.cap) ∧ W.cell? ⟨tb, toff + k * 2, none⟩ = some (.slice (s.ca k) (s.cn k) (s.cc k)) ∧ W.cell? ⟨tb, toff + k * 2 + 1, none⟩ = some (.slice (s.wa k) (s.wn k) (s.wc k))) := hide (fun W hb hB => by
        obtain ⟨-, -, -, h3, -, -, -⟩ := blk3 hB
        rw [hA] at h3
        exact ⟨h3, (hb.cell (p := ⟨tb, toff + k * 2, none⟩) htb).trans hu, (hb.cell (p := ⟨tb, toff + k * 2 + 1, none⟩) htb).trans hv⟩)
      have i1 : (0 : Int) ≤ (k : Int) := by omega
      have i2 : (k : Int) < (s.nt : Int) := by omega
      obtain ⟨vA, vc, rfl⟩ := own_shape HR.out.own
      clear hu hv hA hIc hIw
      go_upto_block 1 with fail
      go_cut [3] (fun v' wq => ∃ ca' wa' cc' wc', Hid (OwnRel w s (k + 1) v' ca' wa' cc' wc' wq))
      case first =>
        have HRd := hide (HR.out.ext (Below.refl _ _).drew)
        have HSB : Hid (∀ W, Below wr.heap.size wr W → W.cell? ⟨w.heap.size, 2, none⟩ = some (.slice (some ⟨tb, toff, none⟩) s.nt s.cap) ∧ W.cell? ⟨tb, toff + k * 2, none⟩ = some (.slice (s.ca k) (s.cn k) (s.cc k)) ∧ W.cell? ⟨tb, toff + k * 2 + 1, none⟩ = some (.slice (s.wa k) (s.wn k) (s.wc k))) := hide (fun W h => HS.out W (HR.out.below.trans (h.mono HR.out.below.size)) (HR.out.bx.ext h))
        have Bd := hide (Below.refl wr.heap.size wr).drew
        clear a0 a1 a2 a3
        go_wp2_with fail
        refine wp_region_J (fun W : World => W.cell? ⟨w.heap.size, 2, none⟩ = some (.slice (some ⟨tb, toff, none⟩) s.nt s.cap) ∧ W.cell? ⟨tb, toff + k * 2, none⟩ = some (.slice (s.ca k) (s.cn k) (s.cc k)) ∧ W.cell? ⟨tb, toff + k * 2 + 1, none⟩ = some (.slice (s.wa k) (s.wn k) (s.wc k))) (by kernel_rfl) ?_
        refine wpAnyJ_take 0 (v := ?_) (by first | exact hF | exact wideFn) (HSB.out _ Bd.out) rfl (by kernel_rfl) (by kernel_rfl) (by kernel_rfl) (by kernel_rfl) rfl ?_ (by first | exact fun _ _ _ h => h | exact fun _ _ _ h => hQ2 _ _ _ _ _ h) ?_
        rotate_left
        · intro W hSW
          simp only [List.getElem_toArray, List.getElem_cons_zero, List.getElem_cons_succ]
          (try dsimp only at hSW)
          go_simp
          with_reducible rfl
        (try simp only [List.getElem_toArray, List.getElem_cons_zero, List.getElem_cons_succ, Act.put, List.setIfInBounds_toArray, List.set_cons_zero, List.set_cons_succ])
        refine wpAnyJ_take 2 (v := ?_) (by first | exact hF | exact wideFn) (HSB.out _ Bd.out) rfl (by kernel_rfl) (by kernel_rfl) (by kernel_rfl) (by kernel_rfl) rfl ?_ (by first | exact fun _ _ _ h => h | exact fun _ _ _ h => hQ2 _ _ _ _ _ h) ?_
        rotate_left
        · intro W hSW
          simp only [List.getElem_toArray, List.getElem_cons_zero, List.getElem_cons_succ]
          (try dsimp only at hSW)
          go_simp
          with_reducible rfl
        (try simp only [List.getElem_toArray, List.getElem_cons_zero, List.getElem_cons_succ, Act.put, List.setIfInBounds_toArray, List.set_cons_zero, List.set_cons_succ])
        refine wpAnyJ_take 3 (v := ?_) (by first | exact hF | exact wideFn) (HSB.out _ Bd.out) rfl (by kernel_rfl) (by kernel_rfl) (by kernel_rfl) (by kernel_rfl) rfl ?_ (by first | exact fun _ _ _ h => h | exact fun _ _ _ h => hQ2 _ _ _ _ _ h) ?_
        rotate_left
        · intro W hSW
          simp only [List.getElem_toArray, List.getElem_cons_zero, List.getElem_cons_succ]
          (try dsimp only at hSW)
          go_simp
          with_reducible rfl
        (try simp only [List.getElem_toArray, List.getElem_cons_zero, List.getElem_cons_succ, Act.put, List.setIfInBounds_toArray, List.set_cons_zero, List.set_cons_succ])
        refine wpAnyJ_take 4 (v := ?_) (by first | exact hF | exact wideFn) (HSB.out _ Bd.out) rfl (by kernel_rfl) (by kernel_rfl) (by kernel_rfl) (by kernel_rfl) rfl ?_ (by first | exact fun _ _ _ h => h | exact fun _ _ _ h => hQ2 _ _ _ _ _ h) ?_
        rotate_left
        · intro W hSW
          simp only [List.getElem_toArray, List.getElem_cons_zero, List.getElem_cons_succ]
          (try dsimp only at hSW)
          go_simp
          with_reducible rfl
        (try simp only [List.getElem_toArray, List.getElem_cons_zero, List.getElem_cons_succ, Act.put, List.setIfInBounds_toArray, List.set_cons_zero, List.set_cons_succ])
        refine wpAnyJ_take 5 (v := ?_) (by first | exact hF | exact wideFn) (HSB.out _ Bd.out) rfl (by kernel_rfl) (by kernel_rfl) (by kernel_rfl) (by kernel_rfl) rfl ?_ (by first | exact fun _ _ _ h => h | exact fun _ _ _ h => hQ2 _ _ _ _ _ h) ?_
        rotate_left
        · intro W hSW
          simp only [List.getElem_toArray, List.getElem_cons_zero, List.getElem_cons_succ]
          (try dsimp only at hSW)
          go_simp
          with_reducible rfl
        (try simp only [List.getElem_toArray, List.getElem_cons_zero, List.getElem_cons_succ, Act.put, List.setIfInBounds_toArray, List.set_cons_zero, List.set_cons_succ])
        refine wpAnyJ_take 6 (v := ?_) (by first | exact hF | exact wideFn) (HSB.out _ Bd.out) rfl (by kernel_rfl) (by kernel_rfl) (by kernel_rfl) (by kernel_rfl) rfl ?_ (by first | exact fun _ _ _ h => h | exact fun _ _ _ h => hQ2 _ _ _ _ _ h) ?_
        rotate_left
        · intro W hSW
          simp only [List.getElem_toArray, List.getElem_cons_zero, List.getElem_cons_succ]
          (try dsimp only at hSW)
          go_simp
          with_reducible rfl
        (try simp only [List.getElem_toArray, List.getElem_cons_zero, List.getElem_cons_succ, Act.put, List.setIfInBounds_toArray, List.set_cons_zero, List.set_cons_succ])
        refine wpAnyJ_take 7 (v := ?_) (by first | exact hF | exact wideFn) (HSB.out _ Bd.out) rfl (by kernel_rfl) (by kernel_rfl) (by kernel_rfl) (by kernel_rfl) rfl ?_ (by first | exact fun _ _ _ h => h | exact fun _ _ _ h => hQ2 _ _ _ _ _ h) ?_
        rotate_left
        · intro W hSW
          simp only [List.getElem_toArray, List.getElem_cons_zero, List.getElem_cons_succ]
          (try dsimp only at hSW)
          go_simp
          with_reducible rfl
        (try simp only [List.getElem_toArray, List.getElem_cons_zero, List.getElem_cons_succ, Act.put, List.setIfInBounds_toArray, List.set_cons_zero, List.set_cons_succ])
        refine wpAnyJ_take 10 (v := ?_) (by first | exact hF | exact wideFn) (HSB.out _ Bd.out) rfl (by kernel_rfl) (by kernel_rfl) (by kernel_rfl) (by kernel_rfl) rfl ?_ (by first | exact fun _ _ _ h => h | exact fun _ _ _ h => hQ2 _ _ _ _ _ h) ?_
        rotate_left
        · intro W hSW
          simp only [List.getElem_toArray, List.getElem_cons_zero, List.getElem_cons_succ]
          (try dsimp only at hSW)
          go_simp
          with_reducible rfl
        (try simp only [List.getElem_toArray, List.getElem_cons_zero, List.getElem_cons_succ, Act.put, List.setIfInBounds_toArray, List.set_cons_zero, List.set_cons_succ])
        refine wpAnyJ_take 11 (v := ?_) (by first | exact hF | exact wideFn) (HSB.out _ Bd.out) rfl (by kernel_rfl) (by kernel_rfl) (by kernel_rfl) (by kernel_rfl) rfl ?_ (by first | exact fun _ _ _ h => h | exact fun _ _ _ h => hQ2 _ _ _ _ _ h) ?_
        rotate_left
        · intro W hSW
          simp only [List.getElem_toArray, List.getElem_cons_zero, List.getElem_cons_succ]
          (try dsimp only at hSW)
          go_simp
          with_reducible rfl
        (try simp only [List.getElem_toArray, List.getElem_cons_zero, List.getElem_cons_succ, Act.put, List.setIfInBounds_toArray, List.set_cons_zero, List.set_cons_succ])
        refine wpAnyJ_take 12 (v := ?_) (by first | exact hF | exact wideFn) (HSB.out _ Bd.out) rfl (by kernel_rfl) (by kernel_rfl) (by kernel_rfl) (by kernel_rfl) rfl ?_ (by first | exact fun _ _ _ h => h | exact fun _ _ _ h => hQ2 _ _ _ _ _ h) ?_
        rotate_left
        · intro W hSW
          simp only [List.getElem_toArray, List.getElem_cons_zero, List.getElem_cons_succ]
          (try dsimp only at hSW)
          go_simp
          with_reducible rfl
        (try simp only [List.getElem_toArray, List.getElem_cons_zero, List.getElem_cons_succ, Act.put, List.setIfInBounds_toArray, List.set_cons_zero, List.set_cons_succ])
        refine wpAnyJ_take 13 (v := ?_) (by first | exact hF | exact wideFn) (HSB.out _ Bd.out) rfl (by kernel_rfl) (by kernel_rfl) (by kernel_rfl) (by kernel_rfl) rfl ?_ (by first | exact fun _ _ _ h => h | exact fun _ _ _ h => hQ2 _ _ _ _ _ h) ?_
        rotate_left
        · intro W hSW
          simp only [List.getElem_toArray, List.getElem_cons_zero, List.getElem_cons_succ]
          (try dsimp only at hSW)
          go_simp
          with_reducible rfl
        (try simp only [List.getElem_toArray, List.getElem_cons_zero, List.getElem_cons_succ, Act.put, List.setIfInBounds_toArray, List.set_cons_zero, List.set_cons_succ])
        refine wpAnyJ_take 14 (v := ?_) (by first | exact hF | exact wideFn) (HSB.out _ Bd.out) rfl (by kernel_rfl) (by kernel_rfl) (by kernel_rfl) (by kernel_rfl) rfl ?_ (by first | exact fun _ _ _ h => h | exact fun _ _ _ h => hQ2 _ _ _ _ _ h) ?_
        rotate_left
        · intro W hSW
          simp only [List.getElem_toArray, List.getElem_cons_zero, List.getElem_cons_succ]
          (try dsimp only at hSW)
          go_simp
          with_reducible rfl
        (try simp only [List.getElem_toArray, List.getElem_cons_zero, List.getElem_cons_succ, Act.put, List.setIfInBounds_toArray, List.set_cons_zero, List.set_cons_succ])
        refine wpAnyJ_take 15 (v := ?_) (by first | exact hF | exact wideFn) (HSB.out _ Bd.out) rfl (by kernel_rfl) (by kernel_rfl) (by kernel_rfl) (by kernel_rfl) rfl ?_ (by first | exact fun _ _ _ h => h | exact fun _ _ _ h => hQ2 _ _ _ _ _ h) ?_
        rotate_left
        · intro W hSW
          simp only [List.getElem_toArray, List.getElem_cons_zero, List.getElem_cons_succ]
          (try dsimp only at hSW)
          go_simp
          with_reducible rfl
        (try simp only [List.getElem_toArray, List.getElem_cons_zero, List.getElem_cons_succ, Act.put, List.setIfInBounds_toArray, List.set_cons_zero, List.set_cons_succ])
        generalize wr.drew = wd at HRd Bd ⊢
        have hzd : w.heap.size + 1 + 1 ≤ wd.heap.size := by have := HRd.out.rb.lt; omega
        have hwd : wr.heap.size ≤ wd.heap.size := Bd.out.size
        have HSW := hide (fun W (h : Below wd.heap.size wd W) => HSB.out W (Bd.out.trans (h.mono hwd)))
        clear HSB HR
        refine wpAnyJ_two 1 9 rfl rfl (by kernel_rfl) (fun K hK => ?_) (fun K hK => ?_)
        · have hB1 : Below wd.heap.size wd (wd.alloc (.cells #[] 3)) := (Below.refl _ _).alloc (Nat.le_refl _) _
          simp only [List.getElem_toArray, List.getElem_cons_zero, List.getElem_cons_succ]
          go_simp
          refine hK.out _ _ (fun _ => HSW.out _ hB1) ?_
          clear hK K
          (try simp only [List.getElem_toArray, List.getElem_cons_zero, List.getElem_cons_succ, Act.put, List.setIfInBounds_toArray, List.set_cons_zero, List.set_cons_succ])
          refine wpAnyJ_two 8 9 rfl rfl (by kernel_rfl) (fun K hK => ?_) (fun K hK => ?_)
          · obtain ⟨v8, w8, hrun8, hown8, hg8, -⟩ := run_append_any (P := Try.prog) (wd.alloc (.cells #[] 3)) w.heap.size 56 56 3 i0 _ 1 8 Try.underlying56 HI.out.1 HI.out.2.1 HI.out.2.2.1 HI.out.2.2.2 rfl (by omega) (.slice (some ⟨wd.heap.size, 0, none⟩) 0 0) 0 [] (ownMono (own_empty wd 3 1) (show w.heap.size ≤ wd.heap.size by omega)) _ (s.ca k) (s.cn k) (s.cc k) (cellsOf 1 (s.cn k) fun i _ => .int .i64 (s.cf k i)) (ER.reads (HIC.out _ (HRd.out.below.trans (hB1.mono HRd.out.below.size))) (by omega)) (ints_one _ _) (by unfold maxLen; omega) (by omega) (by simp; omega)
            have hB8 : Below wd.heap.size wd w8 := hB1.grown hg8 (by simp) (by simp [Value.ownBlock])
            rw [Nat.zero_add, List.nil_append] at hown8
            obtain ⟨A8, c8, rfl⟩ := own_shape hown8
            rw [if_pos (by rfl)]
            refine wpIn_append_run (.tmp 14) (.tmp 20) 56 wideFn rfl rfl rfl hrun8 ?_
            refine hK.out _ _ (fun _ => (HSW.out _ hB8)) ?_
            clear hK K
            (try simp only [List.getElem_toArray, List.getElem_cons_zero, List.getElem_cons_succ, Act.put, List.setIfInBounds_toArray, List.set_cons_zero, List.set_cons_succ])
            refine wpAnyJ_one 9 rfl (by kernel_rfl) (fun K hK => ?_)
            have hB3 : Below wd.heap.size wd (w8.alloc (.cells #[] 3)) := hB8.alloc hB8.size _
            simp only [List.getElem_toArray, List.getElem_cons_zero, List.getElem_cons_succ]
            go_simp
            refine hK.out _ _ (fun _ => HSW.out _ hB3) ?_
            clear hK K
            (try simp only [List.getElem_toArray, List.getElem_cons_zero, List.getElem_cons_succ, Act.put, List.setIfInBounds_toArray, List.set_cons_zero, List.set_cons_succ])
            have hr21 : rowI (w8.alloc (.cells #[] 3)) w.heap.size A8 (s.cn k) c8 (s.cf k) := World.ownsRow.alloc hown8 _
            have hr22 := ownMono (own_empty w8 3 1) (show w.heap.size ≤ w8.heap.size by have := hB8.size; omega)
            have hne : (Value.slice A8 (s.cn k) c8).ownBlock ≠ some w8.heap.size := fun e => by have := (hown8.lt _ e).2; omega
            refine wpAnyJ_one 16 rfl (by kernel_rfl) (fun K hK => ?_)
            obtain ⟨v16, w16, hrun16, hown16, hg16, -⟩ := run_append_any (P := Try.prog) (w8.alloc (.cells #[] 3)) w.heap.size 56 56 3 i0 _ 1 8 Try.underlying56 HI.out.1 HI.out.2.1 HI.out.2.2.1 HI.out.2.2.2 rfl (by omega) (.slice (some ⟨w8.heap.size, 0, none⟩) 0 0) 0 [] hr22 _ (s.wa k) (s.wn k) (s.wc k) (cellsOf 1 (s.wn k) fun i _ => .int .i64 (s.wf k i)) (ER.reads (HIW.out _ (HRd.out.below.trans (hB3.mono HRd.out.below.size))) (by omega)) (ints_one _ _) (by unfold maxLen; omega) (by omega) (by have := hB3.size; omega)
            have hB16 : Below wd.heap.size wd w16 := hB3.grown hg16 hB3.size (by have := hB8.size; simp [Value.ownBlock] <;> omega)
            rw [Nat.zero_add, List.nil_append] at hown16
            obtain ⟨A16, c16, rfl⟩ := own_shape hown16
            rw [if_pos (by rfl)]
            refine wpIn_append_run (.tmp 22) (.tmp 28) 56 wideFn rfl rfl rfl hrun16 ?_
            refine hK.out _ _ (fun _ => (HSW.out _ hB16)) ?_
            clear hK K
            (try simp only [List.getElem_toArray, List.getElem_cons_zero, List.getElem_cons_succ, Act.put, List.setIfInBounds_toArray, List.set_cons_zero, List.set_cons_succ])
            have hr21b := hr21.kept hg16 (.inr hne)
            refine wpAnyJ_take 17 (v := ?_) (by first | exact hF | exact wideFn) (HSW.out _ hB16) rfl (by kernel_rfl) (by kernel_rfl) (by kernel_rfl) (by kernel_rfl) rfl ?_ (by first | exact fun _ _ _ h => h | exact fun _ _ _ h => hQ2 _ _ _ _ _ h) ?_
            rotate_left
            · intro W hSW
              simp only [List.getElem_toArray, List.getElem_cons_zero, List.getElem_cons_succ]
              (try dsimp only at hSW)
              go_simp
              with_reducible rfl
            (try simp only [List.getElem_toArray, List.getElem_cons_zero, List.getElem_cons_succ, Act.put, List.setIfInBounds_toArray, List.set_cons_zero, List.set_cons_succ])
            refine wpAnyJ_one 18 rfl (by kernel_rfl) (fun K hK => ?_)
            have hB18 : Below wd.heap.size wd (w16.alloc (.cells #[.slice A8 (s.cn k) c8, .slice A16 (s.wn k) c16] 72)) := hB16.alloc hB16.size _
            simp only [List.getElem_toArray, List.getElem_cons_zero, List.getElem_cons_succ]
            go_simp
            refine hK.out _ _ (fun _ => HSW.out _ hB18) ?_
            clear hK K
            (try simp only [List.getElem_toArray, List.getElem_cons_zero, List.getElem_cons_succ, Act.put, List.setIfInBounds_toArray, List.set_cons_zero, List.set_cons_succ])
            refine wpAnyJ_one 19 rfl (by kernel_rfl) (fun K hK => ?_)
            have ho16 := ownBelow HRd.out.own hB16
            obtain ⟨v19, w19, hrun19, hown19, hg19, -⟩ := run_append_any (P := Try.prog) (w16.alloc (.cells #[.slice A8 (s.cn k) c8, .slice A16 (s.wn k) c16] 72)) w.heap.size 53 53 72 t0 _ 2 48 Try.underlying53 HT.out.1 HT.out.2.1 HT.out.2.2.1 HT.out.2.2.2 rfl (by omega) _ k _ (World.ownsRow.alloc ho16 _) (w16.heap.size + 1) (some ⟨w16.heap.size, 0, none⟩) 1 1 [.slice A8 (s.cn k) c8, .slice A16 (s.wn k) c16] (tier_read w16 _ _ _) (by intro u hu; simp at hu; rcases hu with rfl | rfl <;> rfl) (by unfold maxLen; omega) (by omega) (by have := hB16.size; simp; omega)
            have HN := hide (HRd.out.step hB16 hr21b hown16 ((World.grownBy_alloc w16 (.cells #[.slice A8 (s.cn k) c8, .slice A16 (s.wn k) c16] 72) _).trans hg19) hown19)
            rw [if_pos (by rfl)]
            refine wpIn_append_run (.tmp 13) (.tmp 31) 53 wideFn rfl rfl rfl hrun19 ?_
            refine hK.out _ _ (fun _ => HS.out _ HN.out.below HN.out.bx) ?_
            clear hK K
            (try simp only [List.getElem_toArray, List.getElem_cons_zero, List.getElem_cons_succ, Act.put, List.setIfInBounds_toArray, List.set_cons_zero, List.set_cons_succ])
            refine wpAnyJ_one 20 rfl (by kernel_rfl) (fun K hK => ?_)
            simp only [List.getElem_toArray, List.getElem_cons_zero, List.getElem_cons_succ]
            go_simp
            refine hK.out _ _ (fun h => absurd h (by rw [show lastOp _ _ _ = true from by kernel_rfl]; simp)) ?_
            clear hK K
            (try simp only [List.getElem_toArray, List.getElem_cons_zero, List.getElem_cons_succ, Act.put, List.setIfInBounds_toArray, List.set_cons_zero, List.set_cons_succ])
            refine wpAnyJ_done (by kernel_rfl) ?_
            go_wp2_with fail
            go_meet
            exact ⟨_, _, _, _, HN⟩
          · have hB2 : Below wd.heap.size wd ((wd.alloc (.cells #[] 3)).alloc (.cells #[] 3)) := hB1.alloc (by simp) _
            simp only [List.getElem_toArray, List.getElem_cons_zero, List.getElem_cons_succ]
            go_simp
            refine hK.out _ _ (fun _ => HSW.out _ hB2) ?_
            clear hK K
            (try simp only [List.getElem_toArray, List.getElem_cons_zero, List.getElem_cons_succ, Act.put, List.setIfInBounds_toArray, List.set_cons_zero, List.set_cons_succ])
            refine wpAnyJ_one 8 rfl (by kernel_rfl) (fun K hK => ?_)
            obtain ⟨v8, w8, hrun8, hown8, hg8, hob8⟩ := run_append_any (P := Try.prog) ((wd.alloc (.cells #[] 3)).alloc (.cells #[] 3)) w.heap.size 56 56 3 i0 _ 1 8 Try.underlying56 HI.out.1 HI.out.2.1 HI.out.2.2.1 HI.out.2.2.2 rfl (by omega) (.slice (some ⟨wd.heap.size, 0, none⟩) 0 0) 0 [] ((ownMono (own_empty wd 3 1) (show w.heap.size ≤ wd.heap.size by omega)).alloc _) _ (s.ca k) (s.cn k) (s.cc k) (cellsOf 1 (s.cn k) fun i _ => .int .i64 (s.cf k i)) (ER.reads (HIC.out _ (HRd.out.below.trans (hB2.mono HRd.out.below.size))) (by omega)) (ints_one _ _) (by unfold maxLen; omega) (by omega) (by simp; omega)
            have hB8 : Below wd.heap.size wd w8 := hB2.grown hg8 (by simp <;> omega) (by simp [Value.ownBlock] <;> omega)
            rw [Nat.zero_add, List.nil_append] at hown8
            obtain ⟨A8, c8, rfl⟩ := own_shape hown8
            rw [if_pos (by rfl)]
            refine wpIn_append_run (.tmp 14) (.tmp 20) 56 wideFn rfl rfl rfl hrun8 ?_
            refine hK.out _ _ (fun _ => (HSW.out _ hB8)) ?_
            clear hK K
            (try simp only [List.getElem_toArray, List.getElem_cons_zero, List.getElem_cons_succ, Act.put, List.setIfInBounds_toArray, List.set_cons_zero, List.set_cons_succ])
            have hr22 : w8.ownsRow w.heap.size 3 1 (.slice (some ⟨wd.heap.size + 1, 0, none⟩) 0 0) 0 [] := World.ownsRow.kept (by simpa using ownMono (own_empty (wd.alloc (.cells #[] 3)) 3 1) (show w.heap.size ≤ (wd.alloc (.cells #[] 3)).heap.size by simp; omega)) hg8 (.inr (by simp [Value.ownBlock]))
            have hne : (Value.slice A8 (s.cn k) c8).ownBlock ≠ some (wd.heap.size + 1) := fun e => by
              rcases hob8 with h | h <;> rw [h] at e <;> simp [Value.ownBlock] at e <;> omega
            have hB3 := hB8
            have hr21 : rowI w8 w.heap.size A8 (s.cn k) c8 (s.cf k) := hown8
            refine wpAnyJ_one 16 rfl (by kernel_rfl) (fun K hK => ?_)
            obtain ⟨v16, w16, hrun16, hown16, hg16, -⟩ := run_append_any (P := Try.prog) w8 w.heap.size 56 56 3 i0 _ 1 8 Try.underlying56 HI.out.1 HI.out.2.1 HI.out.2.2.1 HI.out.2.2.2 rfl (by omega) (.slice (some ⟨(wd.heap.size + 1), 0, none⟩) 0 0) 0 [] hr22 _ (s.wa k) (s.wn k) (s.wc k) (cellsOf 1 (s.wn k) fun i _ => .int .i64 (s.wf k i)) (ER.reads (HIW.out _ (HRd.out.below.trans (hB3.mono HRd.out.below.size))) (by omega)) (ints_one _ _) (by unfold maxLen; omega) (by omega) (by have := hB3.size; omega)
            have hB16 : Below wd.heap.size wd w16 := hB3.grown hg16 hB3.size (by have := hB8.size; simp [Value.ownBlock] <;> omega)
            rw [Nat.zero_add, List.nil_append] at hown16
            obtain ⟨A16, c16, rfl⟩ := own_shape hown16
            rw [if_pos (by rfl)]
            refine wpIn_append_run (.tmp 22) (.tmp 28) 56 wideFn rfl rfl rfl hrun16 ?_
            refine hK.out _ _ (fun _ => (HSW.out _ hB16)) ?_
            clear hK K
            (try simp only [List.getElem_toArray, List.getElem_cons_zero, List.getElem_cons_succ, Act.put, List.setIfInBounds_toArray, List.set_cons_zero, List.set_cons_succ])
            have hr21b := hr21.kept hg16 (.inr hne)
            refine wpAnyJ_take 17 (v := ?_) (by first | exact hF | exact wideFn) (HSW.out _ hB16) rfl (by kernel_rfl) (by kernel_rfl) (by kernel_rfl) (by kernel_rfl) rfl ?_ (by first | exact fun _ _ _ h => h | exact fun _ _ _ h => hQ2 _ _ _ _ _ h) ?_
            rotate_left
            · intro W hSW
              simp only [List.getElem_toArray, List.getElem_cons_zero, List.getElem_cons_succ]
              (try dsimp only at hSW)
              go_simp
              with_reducible rfl
            (try simp only [List.getElem_toArray, List.getElem_cons_zero, List.getElem_cons_succ, Act.put, List.setIfInBounds_toArray, List.set_cons_zero, List.set_cons_succ])
            refine wpAnyJ_one 18 rfl (by kernel_rfl) (fun K hK => ?_)
            have hB18 : Below wd.heap.size wd (w16.alloc (.cells #[.slice A8 (s.cn k) c8, .slice A16 (s.wn k) c16] 72)) := hB16.alloc hB16.size _
            simp only [List.getElem_toArray, List.getElem_cons_zero, List.getElem_cons_succ]
            go_simp
            refine hK.out _ _ (fun _ => HSW.out _ hB18) ?_
            clear hK K
            (try simp only [List.getElem_toArray, List.getElem_cons_zero, List.getElem_cons_succ, Act.put, List.setIfInBounds_toArray, List.set_cons_zero, List.set_cons_succ])
            refine wpAnyJ_one 19 rfl (by kernel_rfl) (fun K hK => ?_)
            have ho16 := ownBelow HRd.out.own hB16
            obtain ⟨v19, w19, hrun19, hown19, hg19, -⟩ := run_append_any (P := Try.prog) (w16.alloc (.cells #[.slice A8 (s.cn k) c8, .slice A16 (s.wn k) c16] 72)) w.heap.size 53 53 72 t0 _ 2 48 Try.underlying53 HT.out.1 HT.out.2.1 HT.out.2.2.1 HT.out.2.2.2 rfl (by omega) _ k _ (World.ownsRow.alloc ho16 _) (w16.heap.size + 1) (some ⟨w16.heap.size, 0, none⟩) 1 1 [.slice A8 (s.cn k) c8, .slice A16 (s.wn k) c16] (tier_read w16 _ _ _) (by intro u hu; simp at hu; rcases hu with rfl | rfl <;> rfl) (by unfold maxLen; omega) (by omega) (by have := hB16.size; simp; omega)
            have HN := hide (HRd.out.step hB16 hr21b hown16 ((World.grownBy_alloc w16 (.cells #[.slice A8 (s.cn k) c8, .slice A16 (s.wn k) c16] 72) _).trans hg19) hown19)
            rw [if_pos (by rfl)]
            refine wpIn_append_run (.tmp 13) (.tmp 31) 53 wideFn rfl rfl rfl hrun19 ?_
            refine hK.out _ _ (fun _ => HS.out _ HN.out.below HN.out.bx) ?_
            clear hK K
            (try simp only [List.getElem_toArray, List.getElem_cons_zero, List.getElem_cons_succ, Act.put, List.setIfInBounds_toArray, List.set_cons_zero, List.set_cons_succ])
            refine wpAnyJ_one 20 rfl (by kernel_rfl) (fun K hK => ?_)
            simp only [List.getElem_toArray, List.getElem_cons_zero, List.getElem_cons_succ]
            go_simp
            refine hK.out _ _ (fun h => absurd h (by rw [show lastOp _ _ _ = true from by kernel_rfl]; simp)) ?_
            clear hK K
            (try simp only [List.getElem_toArray, List.getElem_cons_zero, List.getElem_cons_succ, Act.put, List.setIfInBounds_toArray, List.set_cons_zero, List.set_cons_succ])
            refine wpAnyJ_done (by kernel_rfl) ?_
            go_wp2_with fail
            go_meet
            exact ⟨_, _, _, _, HN⟩
        · have hB1 : Below wd.heap.size wd (wd.alloc (.cells #[] 3)) := (Below.refl _ _).alloc (Nat.le_refl _) _
          simp only [List.getElem_toArray, List.getElem_cons_zero, List.getElem_cons_succ]
          go_simp
          refine hK.out _ _ (fun _ => HSW.out _ hB1) ?_
          clear hK K
          (try simp only [List.getElem_toArray, List.getElem_cons_zero, List.getElem_cons_succ, Act.put, List.setIfInBounds_toArray, List.set_cons_zero, List.set_cons_succ])
          refine wpAnyJ_one 1 rfl (by kernel_rfl) (fun K hK => ?_)
          have hB2 : Below wd.heap.size wd ((wd.alloc (.cells #[] 3)).alloc (.cells #[] 3)) := hB1.alloc (by simp) _
          simp only [List.getElem_toArray, List.getElem_cons_zero, List.getElem_cons_succ]
          go_simp
          refine hK.out _ _ (fun _ => HSW.out _ hB2) ?_
          clear hK K
          (try simp only [List.getElem_toArray, List.getElem_cons_zero, List.getElem_cons_succ, Act.put, List.setIfInBounds_toArray, List.set_cons_zero, List.set_cons_succ])
          refine wpAnyJ_one 8 rfl (by kernel_rfl) (fun K hK => ?_)
          obtain ⟨v8, w8, hrun8, hown8, hg8, hob8⟩ := run_append_any (P := Try.prog) ((wd.alloc (.cells #[] 3)).alloc (.cells #[] 3)) w.heap.size 56 56 3 i0 _ 1 8 Try.underlying56 HI.out.1 HI.out.2.1 HI.out.2.2.1 HI.out.2.2.2 rfl (by omega) (.slice (some ⟨(wd.heap.size + 1), 0, none⟩) 0 0) 0 [] (by simpa using ownMono (own_empty (wd.alloc (.cells #[] 3)) 3 1) (show w.heap.size ≤ (wd.alloc (.cells #[] 3)).heap.size by simp; omega)) _ (s.ca k) (s.cn k) (s.cc k) (cellsOf 1 (s.cn k) fun i _ => .int .i64 (s.cf k i)) (ER.reads (HIC.out _ (HRd.out.below.trans (hB2.mono HRd.out.below.size))) (by omega)) (ints_one _ _) (by unfold maxLen; omega) (by omega) (by simp; omega)
          have hB8 : Below wd.heap.size wd w8 := hB2.grown hg8 (by simp <;> omega) (by simp [Value.ownBlock] <;> omega)
          rw [Nat.zero_add, List.nil_append] at hown8
          obtain ⟨A8, c8, rfl⟩ := own_shape hown8
          rw [if_pos (by rfl)]
          refine wpIn_append_run (.tmp 14) (.tmp 20) 56 wideFn rfl rfl rfl hrun8 ?_
          refine hK.out _ _ (fun _ => (HSW.out _ hB8)) ?_
          clear hK K
          (try simp only [List.getElem_toArray, List.getElem_cons_zero, List.getElem_cons_succ, Act.put, List.setIfInBounds_toArray, List.set_cons_zero, List.set_cons_succ])
          have hr22 : w8.ownsRow w.heap.size 3 1 (.slice (some ⟨wd.heap.size, 0, none⟩) 0 0) 0 [] := World.ownsRow.kept ((ownMono (own_empty wd 3 1) (show w.heap.size ≤ wd.heap.size by omega)).alloc _) hg8 (.inr (by simp [Value.ownBlock]))
          have hne : (Value.slice A8 (s.cn k) c8).ownBlock ≠ some wd.heap.size := fun e => by
            rcases hob8 with h | h <;> rw [h] at e <;> simp [Value.ownBlock] at e <;> omega
          have hB3 := hB8
          have hr21 : rowI w8 w.heap.size A8 (s.cn k) c8 (s.cf k) := hown8
          refine wpAnyJ_one 16 rfl (by kernel_rfl) (fun K hK => ?_)
          obtain ⟨v16, w16, hrun16, hown16, hg16, -⟩ := run_append_any (P := Try.prog) w8 w.heap.size 56 56 3 i0 _ 1 8 Try.underlying56 HI.out.1 HI.out.2.1 HI.out.2.2.1 HI.out.2.2.2 rfl (by omega) (.slice (some ⟨wd.heap.size, 0, none⟩) 0 0) 0 [] hr22 _ (s.wa k) (s.wn k) (s.wc k) (cellsOf 1 (s.wn k) fun i _ => .int .i64 (s.wf k i)) (ER.reads (HIW.out _ (HRd.out.below.trans (hB3.mono HRd.out.below.size))) (by omega)) (ints_one _ _) (by unfold maxLen; omega) (by omega) (by have := hB3.size; omega)
          have hB16 : Below wd.heap.size wd w16 := hB3.grown hg16 hB3.size (by have := hB8.size; simp [Value.ownBlock] <;> omega)
          rw [Nat.zero_add, List.nil_append] at hown16
          obtain ⟨A16, c16, rfl⟩ := own_shape hown16
          rw [if_pos (by rfl)]
          refine wpIn_append_run (.tmp 22) (.tmp 28) 56 wideFn rfl rfl rfl hrun16 ?_
          refine hK.out _ _ (fun _ => (HSW.out _ hB16)) ?_
          clear hK K
          (try simp only [List.getElem_toArray, List.getElem_cons_zero, List.getElem_cons_succ, Act.put, List.setIfInBounds_toArray, List.set_cons_zero, List.set_cons_succ])
          have hr21b := hr21.kept hg16 (.inr hne)
          refine wpAnyJ_take 17 (v := ?_) (by first | exact hF | exact wideFn) (HSW.out _ hB16) rfl (by kernel_rfl) (by kernel_rfl) (by kernel_rfl) (by kernel_rfl) rfl ?_ (by first | exact fun _ _ _ h => h | exact fun _ _ _ h => hQ2 _ _ _ _ _ h) ?_
          rotate_left
          · intro W hSW
            simp only [List.getElem_toArray, List.getElem_cons_zero, List.getElem_cons_succ]
            (try dsimp only at hSW)
            go_simp
            with_reducible rfl
          (try simp only [List.getElem_toArray, List.getElem_cons_zero, List.getElem_cons_succ, Act.put, List.setIfInBounds_toArray, List.set_cons_zero, List.set_cons_succ])
          refine wpAnyJ_one 18 rfl (by kernel_rfl) (fun K hK => ?_)
          have hB18 : Below wd.heap.size wd (w16.alloc (.cells #[.slice A8 (s.cn k) c8, .slice A16 (s.wn k) c16] 72)) := hB16.alloc hB16.size _
          simp only [List.getElem_toArray, List.getElem_cons_zero, List.getElem_cons_succ]
          go_simp
          refine hK.out _ _ (fun _ => HSW.out _ hB18) ?_
          clear hK K
          (try simp only [List.getElem_toArray, List.getElem_cons_zero, List.getElem_cons_succ, Act.put, List.setIfInBounds_toArray, List.set_cons_zero, List.set_cons_succ])
          refine wpAnyJ_one 19 rfl (by kernel_rfl) (fun K hK => ?_)
          have ho16 := ownBelow HRd.out.own hB16
          obtain ⟨v19, w19, hrun19, hown19, hg19, -⟩ := run_append_any (P := Try.prog) (w16.alloc (.cells #[.slice A8 (s.cn k) c8, .slice A16 (s.wn k) c16] 72)) w.heap.size 53 53 72 t0 _ 2 48 Try.underlying53 HT.out.1 HT.out.2.1 HT.out.2.2.1 HT.out.2.2.2 rfl (by omega) _ k _ (World.ownsRow.alloc ho16 _) (w16.heap.size + 1) (some ⟨w16.heap.size, 0, none⟩) 1 1 [.slice A8 (s.cn k) c8, .slice A16 (s.wn k) c16] (tier_read w16 _ _ _) (by intro u hu; simp at hu; rcases hu with rfl | rfl <;> rfl) (by unfold maxLen; omega) (by omega) (by have := hB16.size; simp; omega)
          have HN := hide (HRd.out.step hB16 hr21b hown16 ((World.grownBy_alloc w16 (.cells #[.slice A8 (s.cn k) c8, .slice A16 (s.wn k) c16] 72) _).trans hg19) hown19)
          rw [if_pos (by rfl)]
          refine wpIn_append_run (.tmp 13) (.tmp 31) 53 wideFn rfl rfl rfl hrun19 ?_
          refine hK.out _ _ (fun _ => HS.out _ HN.out.below HN.out.bx) ?_
          clear hK K
          (try simp only [List.getElem_toArray, List.getElem_cons_zero, List.getElem_cons_succ, Act.put, List.setIfInBounds_toArray, List.set_cons_zero, List.set_cons_succ])
          refine wpAnyJ_one 20 rfl (by kernel_rfl) (fun K hK => ?_)
          simp only [List.getElem_toArray, List.getElem_cons_zero, List.getElem_cons_succ]
          go_simp
          refine hK.out _ _ (fun h => absurd h (by rw [show lastOp _ _ _ = true from by kernel_rfl]; simp)) ?_
          clear hK K
          (try simp only [List.getElem_toArray, List.getElem_cons_zero, List.getElem_cons_succ, Act.put, List.setIfInBounds_toArray, List.set_cons_zero, List.set_cons_succ])
          refine wpAnyJ_done (by kernel_rfl) ?_
          go_wp2_with fail
          go_meet
          exact ⟨_, _, _, _, HN⟩
      case rest =>
        obtain ⟨ca', wa', cc', wc', HN⟩ := hcut
        go_wp2_with fail
        go_roundw
        case rel => exact ⟨k + 1, by go_num, by omega, ca', wa', cc', wc', HN⟩
        case measure => simp [intOf]; omega
    · obtain rfl : k = s.nt := by omega
      obtain ⟨vA, vc, rfl⟩ := own_shape HR.out.own
      obtain ⟨b0, b1, b2, b3, b4, b5, b6⟩ := blk3 HR.out.rb
      obtain ⟨-, -, -, -, a4, a5, a6⟩ := blk3 HR.out.bx
      go_wp2_with fail
      refine bodyPost_ret (v := .agg #[.int .i64 s.wd, .int .i64 s.hg, .slice vA s.nt vc]) (by simp [results, Try.results27, go_sem, *]) rfl ⟨vA, vc, ca, wa, cc, wc, rfl, ?_, ?_⟩
      · exact (HR.out.shut _ _ _ _).2 HSS.out
      · exact (HR.out.shut _ _ _ _).1
end Go.Proofs.Ytlhekifmkkgjlaa
