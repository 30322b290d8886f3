/- The law KilnAllows, walked. -/
import Derived.Test.YtlhekifmkkgjlaaLf
import Derived.Test.YtlhekifmkkgjlaaBoxes
import Derived.Test.YtlhekifmkkgjlaaLd
set_option linter.unusedSimpArgs false
set_option linter.unusedVariables false
set_option linter.unnecessarySimpa false
namespace Go.Proofs.Ytlhekifmkkgjlaa
open Go Go.RowKit Go.Shelf
set_option maxHeartbeats 4000000
set_option maxRecDepth 100000
theorem P2.less {w : World} {B n n' : Nat} {A : Option Addr} {u v : Nat → Value} (h : P2 w B A n u v) (hn : n' ≤ n) : P2 w B A n' u v := fun h0 => by
  obtain ⟨b, off, hA, hb, hc⟩ := h (by omega)
  exact ⟨b, off, hA, hb, fun k i hk hi => hc k i (by omega) hi⟩
theorem P2.rest {w : World} {B n : Nat} {b off : Nat} {u v : Nat → Value} (h : P2 w B (some ⟨b, off, none⟩) n u v) : P2 w B (some ⟨b, off + 2, none⟩) (n - 1) (fun k => u (k + 1)) (fun k => v (k + 1)) := fun h0 => by
  obtain ⟨b', off', hA, hb, hc⟩ := h (by omega)
  injection hA with hA
  injection hA with h1 h2
  subst h1 h2
  refine ⟨b, off + 2, rfl, hb, fun k i hk hi => ?_⟩
  have := hc (k + 1) i (by omega) hi
  rw [show off + 2 + k * 2 + i = off + (k + 1) * 2 + i by omega]
  exact this
theorem allows_many (n : Int) (A : Option Addr) (m c : Nat) (w : World) (hm : m < 1 ∨ 9 < m) (hm2 : m ≤ maxLen) : Calls Try.prog 4 #[.int .u32 n, .slice A m c] w fun e w' => e = .returned (.bool true) ∧ Below w.heap.size w w' := by
  unfold maxLen at hm2
  have HK := hide known_any
  rcases hm with hm | hm
  all_goals
    go_enter Try.func4, Try.ntmps4
    go_wp2_with fail
    refine (HK.out _).mono ?_
    rintro e w1 ⟨rfl, hb1⟩
    go_wp2_with fail
    go_ret
    exact ⟨rfl, hb1⟩
theorem allows_bad (n : Int) (A : Option Addr) (m c : Nat) (x y : Nat → Int) (w : World) (hn : 0 ≤ n ∧ n ≤ 4294967295) (hm : 1 ≤ m ∧ m ≤ 9) (hR : PI w w.heap.size A m x y) (hb : (anyTo (fun k => stB (x k) (y k)) m) = true) : Calls Try.prog 4 #[.int .u32 n, .slice A m c] w fun e w' => e = .returned (.bool true) ∧ Below w.heap.size w w' := by
  have HK := hide known_any
  have HST := hide (fun W c (hB : Below w.heap.size w W) => stages_any A m c x y W (by omega) ((hR.below hB (Nat.le_refl _)).more hB.size))
  have HLE := hide (fun M W A c hR => left_err M A m c x y W (by unfold maxLen; omega) hR (by rw [hb]; unfold chkE; rw [if_neg (by omega), if_pos rfl]; decide))
  have he : ∀ M, chkE M m (anyTo (fun k => stB (x k) (y k)) m) = 2 := fun M => by rw [hb]; unfold chkE; rw [if_neg (by omega), if_pos rfl]
  simp only [he] at HLE
  obtain ⟨n0, n1⟩ := hn
  obtain ⟨m0, m1⟩ := hm
  have m2 : ¬ m < 1 := by omega
  have m3 : ¬ 9 < m := by omega
  clear he hb hR
  go_enter Try.func4, Try.ntmps4
  go_wp2_with fail
  refine (HST.out _ _ (Below.refl _ _)).mono ?_
  rintro e w1 ⟨A1, c1, rfl, hR1, hb1⟩
  have HR1 := hide hR1
  clear hR1
  go_wp2_with fail
  refine (HLE.out _ _ _ _ HR1.out).mono ?_
  rintro e w2 ⟨rfl, hb2⟩
  have B2 := hide ((hb1.trans (hb2.mono hb1.size)).alloc (hb1.trans (hb2.mono hb1.size)).size (.cells #[.int .i64 0, .int .i64 0] 25))
  have K2 := hide (Blk.new w2 25 #[.int .i64 0, .int .i64 0])
  clear hb1 hb2
  go_wp2_with fail
  refine (HK.out _).mono ?_
  rintro e w3 ⟨rfl, hb3⟩
  go_wp2_with fail
  go_ret
  exact ⟨rfl, B2.out.trans (hb3.mono B2.out.size)⟩
/-- what Left answers on lists that read as these stages -/
def LeftIs (m : Nat) (x y : Nat → Int) (N u v : Int) : Prop := ∀ (W : World) (A : Option Addr) (c : Nat), PI W W.heap.size A m x y → Calls Try.prog 14 #[.int .i64 N, .slice A m c] W fun e w' => e = .returned (.tuple #[.agg #[.int .i64 u, .int .i64 v], .int .i64 0]) ∧ Below W.heap.size W w'
def NeedIs (m : Nat) (x y : Nat → Int) (N r e : Int) : Prop := ∀ (W : World) (A : Option Addr) (c : Nat), PI W W.heap.size A m x y → Calls Try.prog 16 #[.int .i64 N, .slice A m c] W fun en w' => en = .returned (.tuple #[.int .i64 r, .int .i64 e]) ∧ Below W.heap.size W w'
def CopyIs (w : World) (m : Nat) (x y : Nat → Int) (v : Value) : Prop := ∀ W, Below w.heap.size w W → Calls Try.prog 15 #[v] W (StagesPost m x y W)
/-- what follows the store of the answer: R -/
theorem allows_no (n M : Int) (ab aoff : Nat) (m c : Nat) (x y : Nat → Int) (w : World) (hn : 0 ≤ n ∧ n ≤ 4294967295) (hM : n % 500000000 = M) (hm : 1 ≤ m ∧ m ≤ 9) (hmc : m ≤ c) (hc : c ≤ 9223372036854775807)
    (aL aH bL bH fL fH zL zH : Int) (q1 : 0 ≤ aL) (q2 : aL ≤ aH) (q3 : aH ≤ M) (q4 : aL ≤ bL) (q5 : aH ≤ bH) (q6 : aL ≤ fL) (q7 : aH ≤ fH) (q8 : 0 ≤ fL)
    (HST : Hid (CopyIs w m x y (.slice (some ⟨ab, aoff, none⟩) m c))) (HS1 : Hid (CopyIs w 1 x y (.slice (some ⟨ab, aoff, none⟩) 1 c)))
    (HS2 : Hid (CopyIs w (m - 1) (fun i => x (i + 1)) (fun i => y (i + 1)) (.slice (if c = 1 then some ⟨ab, aoff, none⟩ else some ⟨ab, aoff + 2, none⟩) (m - 1) (c - 1))))
    (HLa : Hid (LeftIs m x y M aL aH)) (HLb : Hid (LeftIs m x y (M + 1) bL bH)) (HLf : Hid (LeftIs 1 x y M fL fH)) (HLo : Hid (LeftIs (m - 1) (fun i => x (i + 1)) (fun i => y (i + 1)) fL aL zH)) (HHi : Hid (LeftIs (m - 1) (fun i => x (i + 1)) (fun i => y (i + 1)) fH zL aH)) (HN : Hid (NeedIs m x y M 0 7)) (gL gH : Int) (HLx : Hid (LeftIs m x y 1000000000 gL gH)) (hg : gL < M) : Calls Try.prog 4 #[.int .u32 n, .slice (some ⟨ab, aoff, none⟩) m c] w fun e w' => e = .returned (.bool true) ∧ Below w.heap.size w w' := by
  unfold NeedIs at HN
  unfold LeftIs at HLx
  have HK := hide known_any
  have HME := hide hM
  have HMB : 0 ≤ M ∧ M < 500000000 := by omega
  unfold CopyIs at HST HS1 HS2
  unfold LeftIs at HLa HLb HLf HLo HHi
  obtain ⟨n0, n1⟩ := hn
  obtain ⟨m0, m1⟩ := hm
  have m2 : ¬ m < 1 := by omega
  have m3 : ¬ 9 < m := by omega
  have B0 := hide (Below.refl w.heap.size w)
  clear hM
  go_enter Try.func4, Try.ntmps4
  go_wp2_with fail
  rw [HME.out]
  refine (HST.out _ B0.out).mono ?_
  rintro e w1 ⟨A1, c1, rfl, hR1, hb1⟩
  have HR1 := hide hR1
  have B1 := hide (B0.out.trans (hb1.mono B0.out.size))
  
  clear hR1 hb1
  go_wp2_with fail
  refine (HLa.out _ _ _ HR1.out).mono ?_
  rintro e w2 ⟨rfl, hb2⟩
  have B2 := hide (B1.out.trans (hb2.mono B1.out.size))
  
  clear hb2 HR1
  have B3 := hide (B2.out.alloc B2.out.size (.cells #[.int .i64 (aL), .int .i64 (aH)] 25))
  have K3 := hide (Blk.new w2 25 #[.int .i64 (aL), .int .i64 (aH)])
  
  go_wp2_with fail
  refine (HST.out _ B3.out).mono ?_
  rintro e w4 ⟨A4, c4, rfl, hR4, hb4⟩
  have HR4 := hide hR4
  have B4 := hide (B3.out.trans (hb4.mono B3.out.size))
  have K4 := hide (K3.out.ext hb4)
  clear hR4 hb4
  go_wp2_with fail
  refine (HLb.out _ _ _ HR4.out).mono ?_
  rintro e w5 ⟨rfl, hb5⟩
  have B5 := hide (B4.out.trans (hb5.mono B4.out.size))
  have K5 := hide (K4.out.ext hb5)
  clear hb5 HR4
  have B6 := hide (B5.out.alloc B5.out.size (.cells #[.int .i64 (bL), .int .i64 (bH)] 25))
  have N6 := hide (Blk.new w5 25 #[.int .i64 (bL), .int .i64 (bH)])
  have K6 := hide (K5.out.alloc (.cells #[.int .i64 (bL), .int .i64 (bH)] 25))
  go_wp2_with fail
  refine (HS1.out _ B6.out).mono ?_
  rintro e w7 ⟨A7, c7, rfl, hR7, hb7⟩
  have HR7 := hide hR7
  have B7 := hide (B6.out.trans (hb7.mono B6.out.size))
  have K7 := hide (K6.out.ext hb7)
  have N7 := hide (N6.out.ext hb7)
  clear hR7 hb7
  go_wp2_with fail
  refine (HLf.out _ _ _ HR7.out).mono ?_
  rintro e w8 ⟨rfl, hb8⟩
  have B8 := hide (B7.out.trans (hb8.mono B7.out.size))
  have K8 := hide (K7.out.ext hb8)
  have N8 := hide (N7.out.ext hb8)
  clear hb8 HR7
  have B9 := hide (B8.out.alloc B8.out.size (.cells #[.int .i64 (fL), .int .i64 (fH)] 25))
  have F9 := hide (Blk.new w8 25 #[.int .i64 (fL), .int .i64 (fH)])
  have K9 := hide (K8.out.alloc (.cells #[.int .i64 (fL), .int .i64 (fH)] 25))
  have N9 := hide (N8.out.alloc (.cells #[.int .i64 (fL), .int .i64 (fH)] 25))
  obtain ⟨eKl, eK0, eK1⟩ := bx2 K9.out
  obtain ⟨eNl, eN0, eN1⟩ := bx2 N9.out
  obtain ⟨eFl, eF0, eF1⟩ := bx2 F9.out
  go_wp2_with fail
  generalize hw9 : w8.alloc (.cells #[.int .i64 (fL), .int .i64 (fH)] 25) = w9 at B9 K9 N9 F9 eKl eK0 eK1 eNl eN0 eN1 eFl eF0 eF1 ⊢
  clear hw9
  refine wp_cut (fun a a' w' => ∃ (v4 : Value) (b : Nat), a' = (((((((((((a.put (some 122) (.pointer (some ⟨w8.heap.size, 0, none⟩))).put (some 123) (.int .i64 fL)).put (some 124) (.slice (some ⟨ab, aoff, none⟩) m c)).put (some 125) (.slice (if c = 1 then some ⟨ab, aoff, none⟩ else some ⟨ab, aoff + 2, none⟩) (m - 1) (c - 1))).put (some 126) v4).put (some 127) (.tuple #[.agg #[.int .i64 aL, .int .i64 zH], .int .i64 0])).put (some 121) (.tuple #[.agg #[.int .i64 aL, .int .i64 zH], .int .i64 0])).put (some 128) (.agg #[.int .i64 aL, .int .i64 zH])).put (some 129) (.int .i64 0)).put (some 11) (.pointer (some ⟨b, 0, none⟩))).put (some 7) (.int .i64 0)) ∧ Below w9.heap.size w9 w' ∧ w9.heap.size ≤ b ∧ Blk w' b 25 #[.int .i64 aL, .int .i64 zH]) ?_ ?_
  · have HSF : Hid (∀ W', Below w9.heap.size w9 W' → W'.cell? ⟨w8.heap.size, 0, none⟩ = some (.int .i64 fL)) := hide (fun W' hb => (hb.cell (p := ⟨w8.heap.size, 0, none⟩) eFl).trans eF0)
    have Bd := hide (Below.refl w9.heap.size w9).drew
    have HB9 := hide (fun W' (hb : Below w9.heap.size w9 W') => B9.out.trans (hb.mono B9.out.size))
    refine wp_region_J (fun W : World => W.cell? ⟨w8.heap.size, 0, none⟩ = some (.int .i64 fL)) (by kernel_rfl) ?_
    have hHeld : (fun W : World => W.cell? ⟨w8.heap.size, 0, none⟩ = some (.int .i64 fL)) w9.drew := HSF.out _ Bd.out
    clear eKl eK0 eK1 eNl eN0 eN1 eFl eF0 eF1
    refine wpAnyJ_take 0 (v := ?_) (by first | exact hF | exact wideFn) hHeld rfl (by kernel_rfl) (by kernel_rfl) (by kernel_rfl) (by kernel_rfl) rfl ?_ (fun _ _ _ h => h) ?_
    rotate_left
    · intro W hSW
      simp only [List.getElem_toArray, List.getElem_cons_zero, List.getElem_cons_succ]
      (try dsimp only at hSW)
      go_simp
      with_reducible rfl
    (try simp only [List.getElem_toArray, List.getElem_cons_zero, List.getElem_cons_succ, Act.put, List.setIfInBounds_toArray, List.set_cons_zero, List.set_cons_succ])
    refine wpAnyJ_take 1 (v := ?_) (by first | exact hF | exact wideFn) hHeld rfl (by kernel_rfl) (by kernel_rfl) (by kernel_rfl) (by kernel_rfl) rfl ?_ (fun _ _ _ h => h) ?_
    rotate_left
    · intro W hSW
      simp only [List.getElem_toArray, List.getElem_cons_zero, List.getElem_cons_succ]
      (try dsimp only at hSW)
      go_simp
      with_reducible rfl
    (try simp only [List.getElem_toArray, List.getElem_cons_zero, List.getElem_cons_succ, Act.put, List.setIfInBounds_toArray, List.set_cons_zero, List.set_cons_succ])
    refine wpAnyJ_take 2 (v := ?_) (by first | exact hF | exact wideFn) hHeld rfl (by kernel_rfl) (by kernel_rfl) (by kernel_rfl) (by kernel_rfl) rfl ?_ (fun _ _ _ h => h) ?_
    rotate_left
    · intro W hSW
      simp only [List.getElem_toArray, List.getElem_cons_zero, List.getElem_cons_succ]
      (try dsimp only at hSW)
      go_simp
      with_reducible rfl
    (try simp only [List.getElem_toArray, List.getElem_cons_zero, List.getElem_cons_succ, Act.put, List.setIfInBounds_toArray, List.set_cons_zero, List.set_cons_succ])
    refine wpAnyJ_take 3 (v := ?_) (by first | exact hF | exact wideFn) hHeld rfl (by kernel_rfl) (by kernel_rfl) (by kernel_rfl) (by kernel_rfl) rfl ?_ (fun _ _ _ h => h) ?_
    rotate_left
    · intro W hSW
      simp only [List.getElem_toArray, List.getElem_cons_zero, List.getElem_cons_succ]
      (try dsimp only at hSW)
      go_simp
      with_reducible rfl
    (try simp only [List.getElem_toArray, List.getElem_cons_zero, List.getElem_cons_succ, Act.put, List.setIfInBounds_toArray, List.set_cons_zero, List.set_cons_succ])
    clear hHeld
    refine wpAnyJ_two 4 9 rfl rfl (by kernel_rfl) (fun K hK => ?_) (fun K hK => ?_)
    · simp only [List.getElem_toArray, List.getElem_cons_zero, List.getElem_cons_succ]
      go_simp
      refine ⟨trivial, rfl, ?_⟩
      refine (callsIn_wide.2 (HS2.out _ (HB9.out _ Bd.out))).mono ?_
      rintro e w10 ⟨A10, c10, rfl, hR10, hb10⟩
      have Be := hide (Bd.out.trans (hb10.mono Bd.out.size))
      dsimp only
      refine hK.out _ _ (fun _ => HSF.out _ Be.out) ?_
      clear hK K
      (try simp only [List.getElem_toArray, List.getElem_cons_zero, List.getElem_cons_succ, Act.put, List.setIfInBounds_toArray, List.set_cons_zero, List.set_cons_succ])
      have HR10 := hide hR10
      clear hR10 hb10
      refine wpAnyJ_two 5 9 rfl rfl (by kernel_rfl) (fun K hK => ?_) (fun K hK => ?_)
      · simp only [List.getElem_toArray, List.getElem_cons_zero, List.getElem_cons_succ]
        go_simp
        refine ⟨trivial, rfl, ?_⟩
        refine (callsIn_wide.2 (HLo.out _ _ _ HR10.out)).mono ?_
        rintro e w11 ⟨rfl, hb11⟩
        have Bf := hide (Be.out.trans (hb11.mono Be.out.size))
        dsimp only
        refine hK.out _ _ (fun _ => HSF.out _ Bf.out) ?_
        clear hK K
        (try simp only [List.getElem_toArray, List.getElem_cons_zero, List.getElem_cons_succ, Act.put, List.setIfInBounds_toArray, List.set_cons_zero, List.set_cons_succ])
        clear hb11 HR10
        refine wpAnyJ_take 6 (v := ?_) (by first | exact hF | exact wideFn) (HSF.out _ Bf.out) rfl (by kernel_rfl) (by kernel_rfl) (by kernel_rfl) (by kernel_rfl) rfl ?_ (fun _ _ _ h => h) ?_
        rotate_left
        · intro W hSW
          simp only [List.getElem_toArray, List.getElem_cons_zero, List.getElem_cons_succ]
          (try dsimp only at hSW)
          go_simp
          with_reducible rfl
        (try simp only [List.getElem_toArray, List.getElem_cons_zero, List.getElem_cons_succ, Act.put, List.setIfInBounds_toArray, List.set_cons_zero, List.set_cons_succ])
        refine wpAnyJ_take 7 (v := ?_) (by first | exact hF | exact wideFn) (HSF.out _ Bf.out) rfl (by kernel_rfl) (by kernel_rfl) (by kernel_rfl) (by kernel_rfl) rfl ?_ (fun _ _ _ h => h) ?_
        rotate_left
        · intro W hSW
          simp only [List.getElem_toArray, List.getElem_cons_zero, List.getElem_cons_succ]
          (try dsimp only at hSW)
          go_simp
          with_reducible rfl
        (try simp only [List.getElem_toArray, List.getElem_cons_zero, List.getElem_cons_succ, Act.put, List.setIfInBounds_toArray, List.set_cons_zero, List.set_cons_succ])
        refine wpAnyJ_take 8 (v := ?_) (by first | exact hF | exact wideFn) (HSF.out _ Bf.out) rfl (by kernel_rfl) (by kernel_rfl) (by kernel_rfl) (by kernel_rfl) rfl ?_ (fun _ _ _ h => h) ?_
        rotate_left
        · intro W hSW
          simp only [List.getElem_toArray, List.getElem_cons_zero, List.getElem_cons_succ]
          (try dsimp only at hSW)
          go_simp
          with_reducible rfl
        (try simp only [List.getElem_toArray, List.getElem_cons_zero, List.getElem_cons_succ, Act.put, List.setIfInBounds_toArray, List.set_cons_zero, List.set_cons_succ])
        refine wpAnyJ_one 9 rfl (by kernel_rfl) (fun K hK => ?_)
        simp only [List.getElem_toArray, List.getElem_cons_zero, List.getElem_cons_succ]
        go_simp
        refine hK.out _ _ (fun _ => HSF.out _ (Bf.out.alloc Bf.out.size _)) ?_
        clear hK K
        (try simp only [List.getElem_toArray, List.getElem_cons_zero, List.getElem_cons_succ, Act.put, List.setIfInBounds_toArray, List.set_cons_zero, List.set_cons_succ])
        refine wpAnyJ_one 10 rfl (by kernel_rfl) (fun K hK => ?_)
        simp only [List.getElem_toArray, List.getElem_cons_zero, List.getElem_cons_succ]
        go_simp
        refine hK.out _ _ (fun _ => HSF.out _ (Bf.out.alloc Bf.out.size _)) ?_
        clear hK K
        (try simp only [List.getElem_toArray, List.getElem_cons_zero, List.getElem_cons_succ, Act.put, List.setIfInBounds_toArray, List.set_cons_zero, List.set_cons_succ])
        refine wpAnyJ_take 11 (v := ?_) (by first | exact hF | exact wideFn) (HSF.out _ (Bf.out.alloc Bf.out.size _)) rfl (by kernel_rfl) (by kernel_rfl) (by kernel_rfl) (by kernel_rfl) rfl ?_ (fun _ _ _ h => h) ?_
        rotate_left
        · intro W hSW
          simp only [List.getElem_toArray, List.getElem_cons_zero, List.getElem_cons_succ]
          (try dsimp only at hSW)
          go_simp
          with_reducible rfl
        (try simp only [List.getElem_toArray, List.getElem_cons_zero, List.getElem_cons_succ, Act.put, List.setIfInBounds_toArray, List.set_cons_zero, List.set_cons_succ])
        refine wpAnyJ_done (by kernel_rfl) ?_
        exact ⟨_, _, rfl, Bf.out.alloc Bf.out.size _, Bf.out.size, Blk.new _ _ _⟩
      · simp only [List.getElem_toArray, List.getElem_cons_zero, List.getElem_cons_succ]
        go_simp
        refine hK.out _ _ (fun _ => HSF.out _ (Be.out.alloc Be.out.size _)) ?_
        clear hK K
        (try simp only [List.getElem_toArray, List.getElem_cons_zero, List.getElem_cons_succ, Act.put, List.setIfInBounds_toArray, List.set_cons_zero, List.set_cons_succ])
        have Z10 := hide (Blk.new w10 25 #[.int .i64 0, .int .i64 0])
        have Bf := hide (Be.out.alloc Be.out.size (.cells #[.int .i64 (0), .int .i64 (0)] 25))
        have hRz : PI (w10.alloc (.cells #[.int .i64 (0), .int .i64 (0)] 25)) (w10.alloc (.cells #[.int .i64 (0), .int .i64 (0)] 25)).heap.size A10 (m - 1) (fun i => x (i + 1)) (fun i => y (i + 1)) := (HR10.out.below ((Below.refl _ w10).alloc (Nat.le_refl _) _) (Nat.le_refl _)).more (by simp)
        have HR11 := hide hRz
        clear hRz HR10
        refine wpAnyJ_one 5 rfl (by kernel_rfl) (fun K hK => ?_)
        simp only [List.getElem_toArray, List.getElem_cons_zero, List.getElem_cons_succ]
        go_simp
        refine ⟨trivial, rfl, ?_⟩
        refine (callsIn_wide.2 (HLo.out _ _ _ HR11.out)).mono ?_
        rintro e w11 ⟨rfl, hb11⟩
        have Bg := hide (Bf.out.trans (hb11.mono Bf.out.size))
        dsimp only
        refine hK.out _ _ (fun _ => HSF.out _ Bg.out) ?_
        clear hK K
        (try simp only [List.getElem_toArray, List.getElem_cons_zero, List.getElem_cons_succ, Act.put, List.setIfInBounds_toArray, List.set_cons_zero, List.set_cons_succ])
        have Z11 := hide (Z10.out.ext hb11)
        clear hb11 HR11
        refine wpAnyJ_take 6 (v := ?_) (by first | exact hF | exact wideFn) (HSF.out _ Bg.out) rfl (by kernel_rfl) (by kernel_rfl) (by kernel_rfl) (by kernel_rfl) rfl ?_ (fun _ _ _ h => h) ?_
        rotate_left
        · intro W hSW
          simp only [List.getElem_toArray, List.getElem_cons_zero, List.getElem_cons_succ]
          (try dsimp only at hSW)
          go_simp
          with_reducible rfl
        (try simp only [List.getElem_toArray, List.getElem_cons_zero, List.getElem_cons_succ, Act.put, List.setIfInBounds_toArray, List.set_cons_zero, List.set_cons_succ])
        refine wpAnyJ_take 7 (v := ?_) (by first | exact hF | exact wideFn) (HSF.out _ Bg.out) rfl (by kernel_rfl) (by kernel_rfl) (by kernel_rfl) (by kernel_rfl) rfl ?_ (fun _ _ _ h => h) ?_
        rotate_left
        · intro W hSW
          simp only [List.getElem_toArray, List.getElem_cons_zero, List.getElem_cons_succ]
          (try dsimp only at hSW)
          go_simp
          with_reducible rfl
        (try simp only [List.getElem_toArray, List.getElem_cons_zero, List.getElem_cons_succ, Act.put, List.setIfInBounds_toArray, List.set_cons_zero, List.set_cons_succ])
        refine wpAnyJ_take 8 (v := ?_) (by first | exact hF | exact wideFn) (HSF.out _ Bg.out) rfl (by kernel_rfl) (by kernel_rfl) (by kernel_rfl) (by kernel_rfl) rfl ?_ (fun _ _ _ h => h) ?_
        rotate_left
        · intro W hSW
          simp only [List.getElem_toArray, List.getElem_cons_zero, List.getElem_cons_succ]
          (try dsimp only at hSW)
          go_simp
          with_reducible rfl
        (try simp only [List.getElem_toArray, List.getElem_cons_zero, List.getElem_cons_succ, Act.put, List.setIfInBounds_toArray, List.set_cons_zero, List.set_cons_succ])
        obtain ⟨g0, g1, g2, g3, g4⟩ := blk2 Z11.out
        refine wpAnyJ_one 10 rfl (by kernel_rfl) (fun K hK => ?_)
        simp only [List.getElem_toArray, List.getElem_cons_zero, List.getElem_cons_succ]
        go_simp
        refine hK.out _ _ (fun _ => HSF.out _ (set2B Bg.out Be.out.size _ _)) ?_
        clear hK K
        (try simp only [List.getElem_toArray, List.getElem_cons_zero, List.getElem_cons_succ, Act.put, List.setIfInBounds_toArray, List.set_cons_zero, List.set_cons_succ])
        clear g0 g1 g2 g3 g4
        refine wpAnyJ_take 11 (v := ?_) (by first | exact hF | exact wideFn) (HSF.out _ (set2B Bg.out Be.out.size _ _)) rfl (by kernel_rfl) (by kernel_rfl) (by kernel_rfl) (by kernel_rfl) rfl ?_ (fun _ _ _ h => h) ?_
        rotate_left
        · intro W hSW
          simp only [List.getElem_toArray, List.getElem_cons_zero, List.getElem_cons_succ]
          (try dsimp only at hSW)
          go_simp
          with_reducible rfl
        (try simp only [List.getElem_toArray, List.getElem_cons_zero, List.getElem_cons_succ, Act.put, List.setIfInBounds_toArray, List.set_cons_zero, List.set_cons_succ])
        refine wpAnyJ_done (by kernel_rfl) ?_
        exact ⟨_, _, rfl, set2B Bg.out Be.out.size _ _, Be.out.size, Blk.set2 Z11.out _ _⟩
    · simp only [List.getElem_toArray, List.getElem_cons_zero, List.getElem_cons_succ]
      go_simp
      refine hK.out _ _ (fun _ => HSF.out _ (Bd.out.alloc Bd.out.size _)) ?_
      clear hK K
      (try simp only [List.getElem_toArray, List.getElem_cons_zero, List.getElem_cons_succ, Act.put, List.setIfInBounds_toArray, List.set_cons_zero, List.set_cons_succ])
      have Z9 := hide (Blk.new w9.drew 25 #[.int .i64 0, .int .i64 0])
      have Be := hide (Bd.out.alloc Bd.out.size (.cells #[.int .i64 (0), .int .i64 (0)] 25))
      have hzz : w9.drew.heap.size = w9.heap.size := rfl
      rw [hzz] at Z9
      clear hzz
      refine wpAnyJ_one 4 rfl (by kernel_rfl) (fun K hK => ?_)
      simp only [List.getElem_toArray, List.getElem_cons_zero, List.getElem_cons_succ]
      go_simp
      refine ⟨trivial, rfl, ?_⟩
      refine (callsIn_wide.2 (HS2.out _ (HB9.out _ Be.out))).mono ?_
      rintro e w10 ⟨A10, c10, rfl, hR10, hb10⟩
      have Bf := hide (Be.out.trans (hb10.mono Be.out.size))
      dsimp only
      refine hK.out _ _ (fun _ => HSF.out _ Bf.out) ?_
      clear hK K
      (try simp only [List.getElem_toArray, List.getElem_cons_zero, List.getElem_cons_succ, Act.put, List.setIfInBounds_toArray, List.set_cons_zero, List.set_cons_succ])
      have HR10 := hide hR10
      have Z10 := hide (Z9.out.ext hb10)
      clear hR10 hb10
      refine wpAnyJ_one 5 rfl (by kernel_rfl) (fun K hK => ?_)
      simp only [List.getElem_toArray, List.getElem_cons_zero, List.getElem_cons_succ]
      go_simp
      refine ⟨trivial, rfl, ?_⟩
      refine (callsIn_wide.2 (HLo.out _ _ _ HR10.out)).mono ?_
      rintro e w11 ⟨rfl, hb11⟩
      have Bg := hide (Bf.out.trans (hb11.mono Bf.out.size))
      dsimp only
      refine hK.out _ _ (fun _ => HSF.out _ Bg.out) ?_
      clear hK K
      (try simp only [List.getElem_toArray, List.getElem_cons_zero, List.getElem_cons_succ, Act.put, List.setIfInBounds_toArray, List.set_cons_zero, List.set_cons_succ])
      have Z11 := hide (Z10.out.ext hb11)
      clear hb11 HR10
      refine wpAnyJ_take 6 (v := ?_) (by first | exact hF | exact wideFn) (HSF.out _ Bg.out) rfl (by kernel_rfl) (by kernel_rfl) (by kernel_rfl) (by kernel_rfl) rfl ?_ (fun _ _ _ h => h) ?_
      rotate_left
      · intro W hSW
        simp only [List.getElem_toArray, List.getElem_cons_zero, List.getElem_cons_succ]
        (try dsimp only at hSW)
        go_simp
        with_reducible rfl
      (try simp only [List.getElem_toArray, List.getElem_cons_zero, List.getElem_cons_succ, Act.put, List.setIfInBounds_toArray, List.set_cons_zero, List.set_cons_succ])
      refine wpAnyJ_take 7 (v := ?_) (by first | exact hF | exact wideFn) (HSF.out _ Bg.out) rfl (by kernel_rfl) (by kernel_rfl) (by kernel_rfl) (by kernel_rfl) rfl ?_ (fun _ _ _ h => h) ?_
      rotate_left
      · intro W hSW
        simp only [List.getElem_toArray, List.getElem_cons_zero, List.getElem_cons_succ]
        (try dsimp only at hSW)
        go_simp
        with_reducible rfl
      (try simp only [List.getElem_toArray, List.getElem_cons_zero, List.getElem_cons_succ, Act.put, List.setIfInBounds_toArray, List.set_cons_zero, List.set_cons_succ])
      refine wpAnyJ_take 8 (v := ?_) (by first | exact hF | exact wideFn) (HSF.out _ Bg.out) rfl (by kernel_rfl) (by kernel_rfl) (by kernel_rfl) (by kernel_rfl) rfl ?_ (fun _ _ _ h => h) ?_
      rotate_left
      · intro W hSW
        simp only [List.getElem_toArray, List.getElem_cons_zero, List.getElem_cons_succ]
        (try dsimp only at hSW)
        go_simp
        with_reducible rfl
      (try simp only [List.getElem_toArray, List.getElem_cons_zero, List.getElem_cons_succ, Act.put, List.setIfInBounds_toArray, List.set_cons_zero, List.set_cons_succ])
      obtain ⟨g0, g1, g2, g3, g4⟩ := blk2 Z11.out
      refine wpAnyJ_one 10 rfl (by kernel_rfl) (fun K hK => ?_)
      simp only [List.getElem_toArray, List.getElem_cons_zero, List.getElem_cons_succ]
      go_simp
      refine hK.out _ _ (fun _ => HSF.out _ (set2B Bg.out (Nat.le_refl _) _ _)) ?_
      clear hK K
      (try simp only [List.getElem_toArray, List.getElem_cons_zero, List.getElem_cons_succ, Act.put, List.setIfInBounds_toArray, List.set_cons_zero, List.set_cons_succ])
      clear g0 g1 g2 g3 g4
      refine wpAnyJ_take 11 (v := ?_) (by first | exact hF | exact wideFn) (HSF.out _ (set2B Bg.out (Nat.le_refl _) _ _)) rfl (by kernel_rfl) (by kernel_rfl) (by kernel_rfl) (by kernel_rfl) rfl ?_ (fun _ _ _ h => h) ?_
      rotate_left
      · intro W hSW
        simp only [List.getElem_toArray, List.getElem_cons_zero, List.getElem_cons_succ]
        (try dsimp only at hSW)
        go_simp
        with_reducible rfl
      (try simp only [List.getElem_toArray, List.getElem_cons_zero, List.getElem_cons_succ, Act.put, List.setIfInBounds_toArray, List.set_cons_zero, List.set_cons_succ])
      refine wpAnyJ_done (by kernel_rfl) ?_
      exact ⟨_, _, rfl, set2B Bg.out (Nat.le_refl _) _ _, Nat.le_refl _, Blk.set2 Z11.out _ _⟩
  rintro a' w13 ⟨v4, b11, rfl, hb13, hbb, hT⟩
  have B13 := hide (B9.out.trans (hb13.mono B9.out.size))
  have T13 := hide hT
  have K13 := hide (K9.out.ext hb13)
  have N13 := hide (N9.out.ext hb13)
  have F13 := hide (F9.out.ext hb13)
  have zz9 := B9.out.size
  have zz13 := hb13.size
  simp only [Act.put, List.setIfInBounds_toArray, List.set_cons_zero, List.set_cons_succ]
  clear hb13 hT
  generalize (if c = 1 then (some ⟨ab, aoff, none⟩ : Option Addr) else some ⟨ab, aoff + 2, none⟩) = Q1
  obtain ⟨eKl, eK0, eK1⟩ := bx2 K13.out
  obtain ⟨eNl, eN0, eN1⟩ := bx2 N13.out
  obtain ⟨eFl, eF0, eF1⟩ := bx2 F13.out
  go_wp2_with fail
  refine wp_cut (fun a a' w' => ∃ (v4 : Value) (b : Nat), a' = (((((((((((a.put (some 131) (.pointer (some ⟨w8.heap.size, 1, none⟩))).put (some 132) (.int .i64 fH)).put (some 133) (.slice (some ⟨ab, aoff, none⟩) m c)).put (some 134) (.slice (if c = 1 then some ⟨ab, aoff, none⟩ else some ⟨ab, aoff + 2, none⟩) (m - 1) (c - 1))).put (some 135) v4).put (some 136) (.tuple #[.agg #[.int .i64 zL, .int .i64 aH], .int .i64 0])).put (some 130) (.tuple #[.agg #[.int .i64 zL, .int .i64 aH], .int .i64 0])).put (some 137) (.agg #[.int .i64 zL, .int .i64 aH])).put (some 138) (.int .i64 0)).put (some 12) (.pointer (some ⟨b, 0, none⟩))).put (some 10) (.int .i64 0)) ∧ Below w13.heap.size w13 w' ∧ w13.heap.size ≤ b ∧ Blk w' b 25 #[.int .i64 zL, .int .i64 aH]) ?_ ?_
  · have HSF : Hid (∀ W', Below w13.heap.size w13 W' → W'.cell? ⟨w8.heap.size, 1, none⟩ = some (.int .i64 fH)) := hide (fun W' hb => (hb.cell (p := ⟨w8.heap.size, 1, none⟩) eFl).trans eF1)
    have Bd := hide (Below.refl w13.heap.size w13).drew
    have HB13 := hide (fun W' (hb : Below w13.heap.size w13 W') => B13.out.trans (hb.mono B13.out.size))
    refine wp_region_J (fun W : World => W.cell? ⟨w8.heap.size, 1, none⟩ = some (.int .i64 fH)) (by kernel_rfl) ?_
    have hHeld : (fun W : World => W.cell? ⟨w8.heap.size, 1, none⟩ = some (.int .i64 fH)) w13.drew := HSF.out _ Bd.out
    clear eKl eK0 eK1 eNl eN0 eN1 eFl eF0 eF1
    refine wpAnyJ_take 0 (v := ?_) (by first | exact hF | exact wideFn) hHeld rfl (by kernel_rfl) (by kernel_rfl) (by kernel_rfl) (by kernel_rfl) rfl ?_ (fun _ _ _ h => h) ?_
    rotate_left
    · intro W hSW
      simp only [List.getElem_toArray, List.getElem_cons_zero, List.getElem_cons_succ]
      (try dsimp only at hSW)
      go_simp
      with_reducible rfl
    (try simp only [List.getElem_toArray, List.getElem_cons_zero, List.getElem_cons_succ, Act.put, List.setIfInBounds_toArray, List.set_cons_zero, List.set_cons_succ])
    refine wpAnyJ_take 1 (v := ?_) (by first | exact hF | exact wideFn) hHeld rfl (by kernel_rfl) (by kernel_rfl) (by kernel_rfl) (by kernel_rfl) rfl ?_ (fun _ _ _ h => h) ?_
    rotate_left
    · intro W hSW
      simp only [List.getElem_toArray, List.getElem_cons_zero, List.getElem_cons_succ]
      (try dsimp only at hSW)
      go_simp
      with_reducible rfl
    (try simp only [List.getElem_toArray, List.getElem_cons_zero, List.getElem_cons_succ, Act.put, List.setIfInBounds_toArray, List.set_cons_zero, List.set_cons_succ])
    refine wpAnyJ_take 2 (v := ?_) (by first | exact hF | exact wideFn) hHeld rfl (by kernel_rfl) (by kernel_rfl) (by kernel_rfl) (by kernel_rfl) rfl ?_ (fun _ _ _ h => h) ?_
    rotate_left
    · intro W hSW
      simp only [List.getElem_toArray, List.getElem_cons_zero, List.getElem_cons_succ]
      (try dsimp only at hSW)
      go_simp
      with_reducible rfl
    (try simp only [List.getElem_toArray, List.getElem_cons_zero, List.getElem_cons_succ, Act.put, List.setIfInBounds_toArray, List.set_cons_zero, List.set_cons_succ])
    refine wpAnyJ_take 3 (v := ?_) (by first | exact hF | exact wideFn) hHeld rfl (by kernel_rfl) (by kernel_rfl) (by kernel_rfl) (by kernel_rfl) rfl ?_ (fun _ _ _ h => h) ?_
    rotate_left
    · intro W hSW
      simp only [List.getElem_toArray, List.getElem_cons_zero, List.getElem_cons_succ]
      (try dsimp only at hSW)
      go_simp
      with_reducible rfl
    (try simp only [List.getElem_toArray, List.getElem_cons_zero, List.getElem_cons_succ, Act.put, List.setIfInBounds_toArray, List.set_cons_zero, List.set_cons_succ])
    clear hHeld
    refine wpAnyJ_two 4 9 rfl rfl (by kernel_rfl) (fun K hK => ?_) (fun K hK => ?_)
    · simp only [List.getElem_toArray, List.getElem_cons_zero, List.getElem_cons_succ]
      go_simp
      refine ⟨trivial, rfl, ?_⟩
      refine (callsIn_wide.2 (HS2.out _ (HB13.out _ Bd.out))).mono ?_
      rintro e w10 ⟨A10, c10, rfl, hR10, hb10⟩
      have Be := hide (Bd.out.trans (hb10.mono Bd.out.size))
      dsimp only
      refine hK.out _ _ (fun _ => HSF.out _ Be.out) ?_
      clear hK K
      (try simp only [List.getElem_toArray, List.getElem_cons_zero, List.getElem_cons_succ, Act.put, List.setIfInBounds_toArray, List.set_cons_zero, List.set_cons_succ])
      have HR10 := hide hR10
      clear hR10 hb10
      refine wpAnyJ_two 5 9 rfl rfl (by kernel_rfl) (fun K hK => ?_) (fun K hK => ?_)
      · simp only [List.getElem_toArray, List.getElem_cons_zero, List.getElem_cons_succ]
        go_simp
        refine ⟨trivial, rfl, ?_⟩
        refine (callsIn_wide.2 (HHi.out _ _ _ HR10.out)).mono ?_
        rintro e w11 ⟨rfl, hb11⟩
        have Bf := hide (Be.out.trans (hb11.mono Be.out.size))
        dsimp only
        refine hK.out _ _ (fun _ => HSF.out _ Bf.out) ?_
        clear hK K
        (try simp only [List.getElem_toArray, List.getElem_cons_zero, List.getElem_cons_succ, Act.put, List.setIfInBounds_toArray, List.set_cons_zero, List.set_cons_succ])
        clear hb11 HR10
        refine wpAnyJ_take 6 (v := ?_) (by first | exact hF | exact wideFn) (HSF.out _ Bf.out) rfl (by kernel_rfl) (by kernel_rfl) (by kernel_rfl) (by kernel_rfl) rfl ?_ (fun _ _ _ h => h) ?_
        rotate_left
        · intro W hSW
          simp only [List.getElem_toArray, List.getElem_cons_zero, List.getElem_cons_succ]
          (try dsimp only at hSW)
          go_simp
          with_reducible rfl
        (try simp only [List.getElem_toArray, List.getElem_cons_zero, List.getElem_cons_succ, Act.put, List.setIfInBounds_toArray, List.set_cons_zero, List.set_cons_succ])
        refine wpAnyJ_take 7 (v := ?_) (by first | exact hF | exact wideFn) (HSF.out _ Bf.out) rfl (by kernel_rfl) (by kernel_rfl) (by kernel_rfl) (by kernel_rfl) rfl ?_ (fun _ _ _ h => h) ?_
        rotate_left
        · intro W hSW
          simp only [List.getElem_toArray, List.getElem_cons_zero, List.getElem_cons_succ]
          (try dsimp only at hSW)
          go_simp
          with_reducible rfl
        (try simp only [List.getElem_toArray, List.getElem_cons_zero, List.getElem_cons_succ, Act.put, List.setIfInBounds_toArray, List.set_cons_zero, List.set_cons_succ])
        refine wpAnyJ_take 8 (v := ?_) (by first | exact hF | exact wideFn) (HSF.out _ Bf.out) rfl (by kernel_rfl) (by kernel_rfl) (by kernel_rfl) (by kernel_rfl) rfl ?_ (fun _ _ _ h => h) ?_
        rotate_left
        · intro W hSW
          simp only [List.getElem_toArray, List.getElem_cons_zero, List.getElem_cons_succ]
          (try dsimp only at hSW)
          go_simp
          with_reducible rfl
        (try simp only [List.getElem_toArray, List.getElem_cons_zero, List.getElem_cons_succ, Act.put, List.setIfInBounds_toArray, List.set_cons_zero, List.set_cons_succ])
        refine wpAnyJ_one 9 rfl (by kernel_rfl) (fun K hK => ?_)
        simp only [List.getElem_toArray, List.getElem_cons_zero, List.getElem_cons_succ]
        go_simp
        refine hK.out _ _ (fun _ => HSF.out _ (Bf.out.alloc Bf.out.size _)) ?_
        clear hK K
        (try simp only [List.getElem_toArray, List.getElem_cons_zero, List.getElem_cons_succ, Act.put, List.setIfInBounds_toArray, List.set_cons_zero, List.set_cons_succ])
        refine wpAnyJ_one 10 rfl (by kernel_rfl) (fun K hK => ?_)
        simp only [List.getElem_toArray, List.getElem_cons_zero, List.getElem_cons_succ]
        go_simp
        refine hK.out _ _ (fun _ => HSF.out _ (Bf.out.alloc Bf.out.size _)) ?_
        clear hK K
        (try simp only [List.getElem_toArray, List.getElem_cons_zero, List.getElem_cons_succ, Act.put, List.setIfInBounds_toArray, List.set_cons_zero, List.set_cons_succ])
        refine wpAnyJ_take 11 (v := ?_) (by first | exact hF | exact wideFn) (HSF.out _ (Bf.out.alloc Bf.out.size _)) rfl (by kernel_rfl) (by kernel_rfl) (by kernel_rfl) (by kernel_rfl) rfl ?_ (fun _ _ _ h => h) ?_
        rotate_left
        · intro W hSW
          simp only [List.getElem_toArray, List.getElem_cons_zero, List.getElem_cons_succ]
          (try dsimp only at hSW)
          go_simp
          with_reducible rfl
        (try simp only [List.getElem_toArray, List.getElem_cons_zero, List.getElem_cons_succ, Act.put, List.setIfInBounds_toArray, List.set_cons_zero, List.set_cons_succ])
        refine wpAnyJ_done (by kernel_rfl) ?_
        exact ⟨_, _, rfl, Bf.out.alloc Bf.out.size _, Bf.out.size, Blk.new _ _ _⟩
      · simp only [List.getElem_toArray, List.getElem_cons_zero, List.getElem_cons_succ]
        go_simp
        refine hK.out _ _ (fun _ => HSF.out _ (Be.out.alloc Be.out.size _)) ?_
        clear hK K
        (try simp only [List.getElem_toArray, List.getElem_cons_zero, List.getElem_cons_succ, Act.put, List.setIfInBounds_toArray, List.set_cons_zero, List.set_cons_succ])
        have Z10 := hide (Blk.new w10 25 #[.int .i64 0, .int .i64 0])
        have Bf := hide (Be.out.alloc Be.out.size (.cells #[.int .i64 (0), .int .i64 (0)] 25))
        have hRz : PI (w10.alloc (.cells #[.int .i64 (0), .int .i64 (0)] 25)) (w10.alloc (.cells #[.int .i64 (0), .int .i64 (0)] 25)).heap.size A10 (m - 1) (fun i => x (i + 1)) (fun i => y (i + 1)) := (HR10.out.below ((Below.refl _ w10).alloc (Nat.le_refl _) _) (Nat.le_refl _)).more (by simp)
        have HR11 := hide hRz
        clear hRz HR10
        refine wpAnyJ_one 5 rfl (by kernel_rfl) (fun K hK => ?_)
        simp only [List.getElem_toArray, List.getElem_cons_zero, List.getElem_cons_succ]
        go_simp
        refine ⟨trivial, rfl, ?_⟩
        refine (callsIn_wide.2 (HHi.out _ _ _ HR11.out)).mono ?_
        rintro e w11 ⟨rfl, hb11⟩
        have Bg := hide (Bf.out.trans (hb11.mono Bf.out.size))
        dsimp only
        refine hK.out _ _ (fun _ => HSF.out _ Bg.out) ?_
        clear hK K
        (try simp only [List.getElem_toArray, List.getElem_cons_zero, List.getElem_cons_succ, Act.put, List.setIfInBounds_toArray, List.set_cons_zero, List.set_cons_succ])
        have Z11 := hide (Z10.out.ext hb11)
        clear hb11 HR11
        refine wpAnyJ_take 6 (v := ?_) (by first | exact hF | exact wideFn) (HSF.out _ Bg.out) rfl (by kernel_rfl) (by kernel_rfl) (by kernel_rfl) (by kernel_rfl) rfl ?_ (fun _ _ _ h => h) ?_
        rotate_left
        · intro W hSW
          simp only [List.getElem_toArray, List.getElem_cons_zero, List.getElem_cons_succ]
          (try dsimp only at hSW)
          go_simp
          with_reducible rfl
        (try simp only [List.getElem_toArray, List.getElem_cons_zero, List.getElem_cons_succ, Act.put, List.setIfInBounds_toArray, List.set_cons_zero, List.set_cons_succ])
        refine wpAnyJ_take 7 (v := ?_) (by first | exact hF | exact wideFn) (HSF.out _ Bg.out) rfl (by kernel_rfl) (by kernel_rfl) (by kernel_rfl) (by kernel_rfl) rfl ?_ (fun _ _ _ h => h) ?_
        rotate_left
        · intro W hSW
          simp only [List.getElem_toArray, List.getElem_cons_zero, List.getElem_cons_succ]
          (try dsimp only at hSW)
          go_simp
          with_reducible rfl
        (try simp only [List.getElem_toArray, List.getElem_cons_zero, List.getElem_cons_succ, Act.put, List.setIfInBounds_toArray, List.set_cons_zero, List.set_cons_succ])
        refine wpAnyJ_take 8 (v := ?_) (by first | exact hF | exact wideFn) (HSF.out _ Bg.out) rfl (by kernel_rfl) (by kernel_rfl) (by kernel_rfl) (by kernel_rfl) rfl ?_ (fun _ _ _ h => h) ?_
        rotate_left
        · intro W hSW
          simp only [List.getElem_toArray, List.getElem_cons_zero, List.getElem_cons_succ]
          (try dsimp only at hSW)
          go_simp
          with_reducible rfl
        (try simp only [List.getElem_toArray, List.getElem_cons_zero, List.getElem_cons_succ, Act.put, List.setIfInBounds_toArray, List.set_cons_zero, List.set_cons_succ])
        obtain ⟨g0, g1, g2, g3, g4⟩ := blk2 Z11.out
        refine wpAnyJ_one 10 rfl (by kernel_rfl) (fun K hK => ?_)
        simp only [List.getElem_toArray, List.getElem_cons_zero, List.getElem_cons_succ]
        go_simp
        refine hK.out _ _ (fun _ => HSF.out _ (set2B Bg.out Be.out.size _ _)) ?_
        clear hK K
        (try simp only [List.getElem_toArray, List.getElem_cons_zero, List.getElem_cons_succ, Act.put, List.setIfInBounds_toArray, List.set_cons_zero, List.set_cons_succ])
        clear g0 g1 g2 g3 g4
        refine wpAnyJ_take 11 (v := ?_) (by first | exact hF | exact wideFn) (HSF.out _ (set2B Bg.out Be.out.size _ _)) rfl (by kernel_rfl) (by kernel_rfl) (by kernel_rfl) (by kernel_rfl) rfl ?_ (fun _ _ _ h => h) ?_
        rotate_left
        · intro W hSW
          simp only [List.getElem_toArray, List.getElem_cons_zero, List.getElem_cons_succ]
          (try dsimp only at hSW)
          go_simp
          with_reducible rfl
        (try simp only [List.getElem_toArray, List.getElem_cons_zero, List.getElem_cons_succ, Act.put, List.setIfInBounds_toArray, List.set_cons_zero, List.set_cons_succ])
        refine wpAnyJ_done (by kernel_rfl) ?_
        exact ⟨_, _, rfl, set2B Bg.out Be.out.size _ _, Be.out.size, Blk.set2 Z11.out _ _⟩
    · simp only [List.getElem_toArray, List.getElem_cons_zero, List.getElem_cons_succ]
      go_simp
      refine hK.out _ _ (fun _ => HSF.out _ (Bd.out.alloc Bd.out.size _)) ?_
      clear hK K
      (try simp only [List.getElem_toArray, List.getElem_cons_zero, List.getElem_cons_succ, Act.put, List.setIfInBounds_toArray, List.set_cons_zero, List.set_cons_succ])
      have Z9 := hide (Blk.new w13.drew 25 #[.int .i64 0, .int .i64 0])
      have Be := hide (Bd.out.alloc Bd.out.size (.cells #[.int .i64 (0), .int .i64 (0)] 25))
      have hzz : w13.drew.heap.size = w13.heap.size := rfl
      rw [hzz] at Z9
      clear hzz
      refine wpAnyJ_one 4 rfl (by kernel_rfl) (fun K hK => ?_)
      simp only [List.getElem_toArray, List.getElem_cons_zero, List.getElem_cons_succ]
      go_simp
      refine ⟨trivial, rfl, ?_⟩
      refine (callsIn_wide.2 (HS2.out _ (HB13.out _ Be.out))).mono ?_
      rintro e w10 ⟨A10, c10, rfl, hR10, hb10⟩
      have Bf := hide (Be.out.trans (hb10.mono Be.out.size))
      dsimp only
      refine hK.out _ _ (fun _ => HSF.out _ Bf.out) ?_
      clear hK K
      (try simp only [List.getElem_toArray, List.getElem_cons_zero, List.getElem_cons_succ, Act.put, List.setIfInBounds_toArray, List.set_cons_zero, List.set_cons_succ])
      have HR10 := hide hR10
      have Z10 := hide (Z9.out.ext hb10)
      clear hR10 hb10
      refine wpAnyJ_one 5 rfl (by kernel_rfl) (fun K hK => ?_)
      simp only [List.getElem_toArray, List.getElem_cons_zero, List.getElem_cons_succ]
      go_simp
      refine ⟨trivial, rfl, ?_⟩
      refine (callsIn_wide.2 (HHi.out _ _ _ HR10.out)).mono ?_
      rintro e w11 ⟨rfl, hb11⟩
      have Bg := hide (Bf.out.trans (hb11.mono Bf.out.size))
      dsimp only
      refine hK.out _ _ (fun _ => HSF.out _ Bg.out) ?_
      clear hK K
      (try simp only [List.getElem_toArray, List.getElem_cons_zero, List.getElem_cons_succ, Act.put, List.setIfInBounds_toArray, List.set_cons_zero, List.set_cons_succ])
      have Z11 := hide (Z10.out.ext hb11)
      clear hb11 HR10
      refine wpAnyJ_take 6 (v := ?_) (by first | exact hF | exact wideFn) (HSF.out _ Bg.out) rfl (by kernel_rfl) (by kernel_rfl) (by kernel_rfl) (by kernel_rfl) rfl ?_ (fun _ _ _ h => h) ?_
      rotate_left
      · intro W hSW
        simp only [List.getElem_toArray, List.getElem_cons_zero, List.getElem_cons_succ]
        (try dsimp only at hSW)
        go_simp
        with_reducible rfl
      (try simp only [List.getElem_toArray, List.getElem_cons_zero, List.getElem_cons_succ, Act.put, List.setIfInBounds_toArray, List.set_cons_zero, List.set_cons_succ])
      refine wpAnyJ_take 7 (v := ?_) (by first | exact hF | exact wideFn) (HSF.out _ Bg.out) rfl (by kernel_rfl) (by kernel_rfl) (by kernel_rfl) (by kernel_rfl) rfl ?_ (fun _ _ _ h => h) ?_
      rotate_left
      · intro W hSW
        simp only [List.getElem_toArray, List.getElem_cons_zero, List.getElem_cons_succ]
        (try dsimp only at hSW)
        go_simp
        with_reducible rfl
      (try simp only [List.getElem_toArray, List.getElem_cons_zero, List.getElem_cons_succ, Act.put, List.setIfInBounds_toArray, List.set_cons_zero, List.set_cons_succ])
      refine wpAnyJ_take 8 (v := ?_) (by first | exact hF | exact wideFn) (HSF.out _ Bg.out) rfl (by kernel_rfl) (by kernel_rfl) (by kernel_rfl) (by kernel_rfl) rfl ?_ (fun _ _ _ h => h) ?_
      rotate_left
      · intro W hSW
        simp only [List.getElem_toArray, List.getElem_cons_zero, List.getElem_cons_succ]
        (try dsimp only at hSW)
        go_simp
        with_reducible rfl
      (try simp only [List.getElem_toArray, List.getElem_cons_zero, List.getElem_cons_succ, Act.put, List.setIfInBounds_toArray, List.set_cons_zero, List.set_cons_succ])
      obtain ⟨g0, g1, g2, g3, g4⟩ := blk2 Z11.out
      refine wpAnyJ_one 10 rfl (by kernel_rfl) (fun K hK => ?_)
      simp only [List.getElem_toArray, List.getElem_cons_zero, List.getElem_cons_succ]
      go_simp
      refine hK.out _ _ (fun _ => HSF.out _ (set2B Bg.out (Nat.le_refl _) _ _)) ?_
      clear hK K
      (try simp only [List.getElem_toArray, List.getElem_cons_zero, List.getElem_cons_succ, Act.put, List.setIfInBounds_toArray, List.set_cons_zero, List.set_cons_succ])
      clear g0 g1 g2 g3 g4
      refine wpAnyJ_take 11 (v := ?_) (by first | exact hF | exact wideFn) (HSF.out _ (set2B Bg.out (Nat.le_refl _) _ _)) rfl (by kernel_rfl) (by kernel_rfl) (by kernel_rfl) (by kernel_rfl) rfl ?_ (fun _ _ _ h => h) ?_
      rotate_left
      · intro W hSW
        simp only [List.getElem_toArray, List.getElem_cons_zero, List.getElem_cons_succ]
        (try dsimp only at hSW)
        go_simp
        with_reducible rfl
      (try simp only [List.getElem_toArray, List.getElem_cons_zero, List.getElem_cons_succ, Act.put, List.setIfInBounds_toArray, List.set_cons_zero, List.set_cons_succ])
      refine wpAnyJ_done (by kernel_rfl) ?_
      exact ⟨_, _, rfl, set2B Bg.out (Nat.le_refl _) _ _, Nat.le_refl _, Blk.set2 Z11.out _ _⟩
  rintro a' w14 ⟨v5, b12, rfl, hb14, hbb2, hT2⟩
  have B14 := hide (B13.out.trans (hb14.mono B13.out.size))
  have U14 := hide hT2
  have K14 := hide (K13.out.ext hb14)
  have N14 := hide (N13.out.ext hb14)
  have F14 := hide (F13.out.ext hb14)
  have T14 := hide (T13.out.ext hb14)
  simp only [Act.put, List.setIfInBounds_toArray, List.set_cons_zero, List.set_cons_succ]
  clear hb14 hT2
  generalize (if c = 1 then (some ⟨ab, aoff, none⟩ : Option Addr) else some ⟨ab, aoff + 2, none⟩) = Q2
  obtain ⟨eKl, eK0, eK1⟩ := bx2 K14.out
  obtain ⟨eTl, eT0, eT1⟩ := bx2 T14.out
  obtain ⟨eUl, eU0, eU1⟩ := bx2 U14.out
  go_wp2_with fail
  refine (HST.out _ B14.out).mono ?_
  rintro e w15 ⟨A15, c15, rfl, hR15, hb15⟩
  have HR15 := hide hR15
  have B15 := hide (B14.out.trans (hb15.mono B14.out.size))
  have K15 := hide (K14.out.ext hb15)
  clear hR15 hb15
  go_wp2_with fail
  clear eKl eK0 eK1 eTl eT0 eT1 eUl eU0 eU1
  refine (HN.out _ _ _ HR15.out).mono ?_
  rintro e w16 ⟨rfl, hb16⟩
  have B16 := hide (B15.out.trans (hb16.mono B15.out.size))
  have K16 := hide (K15.out.ext hb16)
  clear hb16 HR15
  go_wp2_with fail
  refine (HST.out _ B16.out).mono ?_
  rintro e w17 ⟨A17, c17, rfl, hR17, hb17⟩
  have HR17 := hide hR17
  have B17 := hide (B16.out.trans (hb17.mono B16.out.size))
  
  clear hR17 hb17
  go_wp2_with fail
  refine (HLx.out _ _ _ HR17.out).mono ?_
  rintro e w18 ⟨rfl, hb18⟩
  have B18 := hide (B17.out.trans (hb18.mono B17.out.size))
  
  clear hb18 HR17
  have B19 := hide (B18.out.alloc B18.out.size (.cells #[.int .i64 (gL), .int .i64 (gH)] 25))
  have X19 := hide (Blk.new w18 25 #[.int .i64 (gL), .int .i64 (gH)])
  
  obtain ⟨eXl, eX0, eX1⟩ := bx2 X19.out
  go_wp2_with fail
  refine (HK.out _).mono ?_
  rintro e w20 ⟨rfl, hb20⟩
  go_wp2_with fail
  go_ret
  exact ⟨rfl, B19.out.trans (hb20.mono B19.out.size)⟩
theorem allows_yes0 (n M : Int) (ab aoff : Nat) (m c : Nat) (x y : Nat → Int) (w : World) (hn : 0 ≤ n ∧ n ≤ 4294967295) (hM : n % 500000000 = M) (hm : 1 ≤ m ∧ m ≤ 9) (hmc : m ≤ c) (hc : c ≤ 9223372036854775807)
    (aL aH bL bH fL fH zL zH : Int) (q1 : 0 ≤ aL) (q2 : aL ≤ aH) (q3 : aH ≤ M) (q4 : aL ≤ bL) (q5 : aH ≤ bH) (q6 : aL ≤ fL) (q7 : aH ≤ fH) (q8 : 0 ≤ fL)
    (HST : Hid (CopyIs w m x y (.slice (some ⟨ab, aoff, none⟩) m c))) (HS1 : Hid (CopyIs w 1 x y (.slice (some ⟨ab, aoff, none⟩) 1 c)))
    (HS2 : Hid (CopyIs w (m - 1) (fun i => x (i + 1)) (fun i => y (i + 1)) (.slice (if c = 1 then some ⟨ab, aoff, none⟩ else some ⟨ab, aoff + 2, none⟩) (m - 1) (c - 1))))
    (HLa : Hid (LeftIs m x y M aL aH)) (HLb : Hid (LeftIs m x y (M + 1) bL bH)) (HLf : Hid (LeftIs 1 x y M fL fH)) (HLo : Hid (LeftIs (m - 1) (fun i => x (i + 1)) (fun i => y (i + 1)) fL aL zH)) (HHi : Hid (LeftIs (m - 1) (fun i => x (i + 1)) (fun i => y (i + 1)) fH zL aH)) (HN : Hid (NeedIs m x y M 0 0)) (sL sH : Int) (HLx : Hid (LeftIs m x y 0 sL sH)) (hg : M ≤ sL) (hg0 : M ≤ 0) : Calls Try.prog 4 #[.int .u32 n, .slice (some ⟨ab, aoff, none⟩) m c] w fun e w' => e = .returned (.bool true) ∧ Below w.heap.size w w' := by
  unfold NeedIs at HN
  unfold LeftIs at HLx
  have HK := hide known_any
  have HME := hide hM
  have HMB : 0 ≤ M ∧ M < 500000000 := by omega
  unfold CopyIs at HST HS1 HS2
  unfold LeftIs at HLa HLb HLf HLo HHi
  obtain ⟨n0, n1⟩ := hn
  obtain ⟨m0, m1⟩ := hm
  have m2 : ¬ m < 1 := by omega
  have m3 : ¬ 9 < m := by omega
  have B0 := hide (Below.refl w.heap.size w)
  clear hM
  go_enter Try.func4, Try.ntmps4
  go_wp2_with fail
  rw [HME.out]
  refine (HST.out _ B0.out).mono ?_
  rintro e w1 ⟨A1, c1, rfl, hR1, hb1⟩
  have HR1 := hide hR1
  have B1 := hide (B0.out.trans (hb1.mono B0.out.size))
  
  clear hR1 hb1
  go_wp2_with fail
  refine (HLa.out _ _ _ HR1.out).mono ?_
  rintro e w2 ⟨rfl, hb2⟩
  have B2 := hide (B1.out.trans (hb2.mono B1.out.size))
  
  clear hb2 HR1
  have B3 := hide (B2.out.alloc B2.out.size (.cells #[.int .i64 (aL), .int .i64 (aH)] 25))
  have K3 := hide (Blk.new w2 25 #[.int .i64 (aL), .int .i64 (aH)])
  
  go_wp2_with fail
  refine (HST.out _ B3.out).mono ?_
  rintro e w4 ⟨A4, c4, rfl, hR4, hb4⟩
  have HR4 := hide hR4
  have B4 := hide (B3.out.trans (hb4.mono B3.out.size))
  have K4 := hide (K3.out.ext hb4)
  clear hR4 hb4
  go_wp2_with fail
  refine (HLb.out _ _ _ HR4.out).mono ?_
  rintro e w5 ⟨rfl, hb5⟩
  have B5 := hide (B4.out.trans (hb5.mono B4.out.size))
  have K5 := hide (K4.out.ext hb5)
  clear hb5 HR4
  have B6 := hide (B5.out.alloc B5.out.size (.cells #[.int .i64 (bL), .int .i64 (bH)] 25))
  have N6 := hide (Blk.new w5 25 #[.int .i64 (bL), .int .i64 (bH)])
  have K6 := hide (K5.out.alloc (.cells #[.int .i64 (bL), .int .i64 (bH)] 25))
  go_wp2_with fail
  refine (HS1.out _ B6.out).mono ?_
  rintro e w7 ⟨A7, c7, rfl, hR7, hb7⟩
  have HR7 := hide hR7
  have B7 := hide (B6.out.trans (hb7.mono B6.out.size))
  have K7 := hide (K6.out.ext hb7)
  have N7 := hide (N6.out.ext hb7)
  clear hR7 hb7
  go_wp2_with fail
  refine (HLf.out _ _ _ HR7.out).mono ?_
  rintro e w8 ⟨rfl, hb8⟩
  have B8 := hide (B7.out.trans (hb8.mono B7.out.size))
  have K8 := hide (K7.out.ext hb8)
  have N8 := hide (N7.out.ext hb8)
  clear hb8 HR7
  have B9 := hide (B8.out.alloc B8.out.size (.cells #[.int .i64 (fL), .int .i64 (fH)] 25))
  have F9 := hide (Blk.new w8 25 #[.int .i64 (fL), .int .i64 (fH)])
  have K9 := hide (K8.out.alloc (.cells #[.int .i64 (fL), .int .i64 (fH)] 25))
  have N9 := hide (N8.out.alloc (.cells #[.int .i64 (fL), .int .i64 (fH)] 25))
  obtain ⟨eKl, eK0, eK1⟩ := bx2 K9.out
  obtain ⟨eNl, eN0, eN1⟩ := bx2 N9.out
  obtain ⟨eFl, eF0, eF1⟩ := bx2 F9.out
  go_wp2_with fail
  generalize hw9 : w8.alloc (.cells #[.int .i64 (fL), .int .i64 (fH)] 25) = w9 at B9 K9 N9 F9 eKl eK0 eK1 eNl eN0 eN1 eFl eF0 eF1 ⊢
  clear hw9
  refine wp_cut (fun a a' w' => ∃ (v4 : Value) (b : Nat), a' = (((((((((((a.put (some 122) (.pointer (some ⟨w8.heap.size, 0, none⟩))).put (some 123) (.int .i64 fL)).put (some 124) (.slice (some ⟨ab, aoff, none⟩) m c)).put (some 125) (.slice (if c = 1 then some ⟨ab, aoff, none⟩ else some ⟨ab, aoff + 2, none⟩) (m - 1) (c - 1))).put (some 126) v4).put (some 127) (.tuple #[.agg #[.int .i64 aL, .int .i64 zH], .int .i64 0])).put (some 121) (.tuple #[.agg #[.int .i64 aL, .int .i64 zH], .int .i64 0])).put (some 128) (.agg #[.int .i64 aL, .int .i64 zH])).put (some 129) (.int .i64 0)).put (some 11) (.pointer (some ⟨b, 0, none⟩))).put (some 7) (.int .i64 0)) ∧ Below w9.heap.size w9 w' ∧ w9.heap.size ≤ b ∧ Blk w' b 25 #[.int .i64 aL, .int .i64 zH]) ?_ ?_
  · have HSF : Hid (∀ W', Below w9.heap.size w9 W' → W'.cell? ⟨w8.heap.size, 0, none⟩ = some (.int .i64 fL)) := hide (fun W' hb => (hb.cell (p := ⟨w8.heap.size, 0, none⟩) eFl).trans eF0)
    have Bd := hide (Below.refl w9.heap.size w9).drew
    have HB9 := hide (fun W' (hb : Below w9.heap.size w9 W') => B9.out.trans (hb.mono B9.out.size))
    refine wp_region_J (fun W : World => W.cell? ⟨w8.heap.size, 0, none⟩ = some (.int .i64 fL)) (by kernel_rfl) ?_
    have hHeld : (fun W : World => W.cell? ⟨w8.heap.size, 0, none⟩ = some (.int .i64 fL)) w9.drew := HSF.out _ Bd.out
    clear eKl eK0 eK1 eNl eN0 eN1 eFl eF0 eF1
    refine wpAnyJ_take 0 (v := ?_) (by first | exact hF | exact wideFn) hHeld rfl (by kernel_rfl) (by kernel_rfl) (by kernel_rfl) (by kernel_rfl) rfl ?_ (fun _ _ _ h => h) ?_
    rotate_left
    · intro W hSW
      simp only [List.getElem_toArray, List.getElem_cons_zero, List.getElem_cons_succ]
      (try dsimp only at hSW)
      go_simp
      with_reducible rfl
    (try simp only [List.getElem_toArray, List.getElem_cons_zero, List.getElem_cons_succ, Act.put, List.setIfInBounds_toArray, List.set_cons_zero, List.set_cons_succ])
    refine wpAnyJ_take 1 (v := ?_) (by first | exact hF | exact wideFn) hHeld rfl (by kernel_rfl) (by kernel_rfl) (by kernel_rfl) (by kernel_rfl) rfl ?_ (fun _ _ _ h => h) ?_
    rotate_left
    · intro W hSW
      simp only [List.getElem_toArray, List.getElem_cons_zero, List.getElem_cons_succ]
      (try dsimp only at hSW)
      go_simp
      with_reducible rfl
    (try simp only [List.getElem_toArray, List.getElem_cons_zero, List.getElem_cons_succ, Act.put, List.setIfInBounds_toArray, List.set_cons_zero, List.set_cons_succ])
    refine wpAnyJ_take 2 (v := ?_) (by first | exact hF | exact wideFn) hHeld rfl (by kernel_rfl) (by kernel_rfl) (by kernel_rfl) (by kernel_rfl) rfl ?_ (fun _ _ _ h => h) ?_
    rotate_left
    · intro W hSW
      simp only [List.getElem_toArray, List.getElem_cons_zero, List.getElem_cons_succ]
      (try dsimp only at hSW)
      go_simp
      with_reducible rfl
    (try simp only [List.getElem_toArray, List.getElem_cons_zero, List.getElem_cons_succ, Act.put, List.setIfInBounds_toArray, List.set_cons_zero, List.set_cons_succ])
    refine wpAnyJ_take 3 (v := ?_) (by first | exact hF | exact wideFn) hHeld rfl (by kernel_rfl) (by kernel_rfl) (by kernel_rfl) (by kernel_rfl) rfl ?_ (fun _ _ _ h => h) ?_
    rotate_left
    · intro W hSW
      simp only [List.getElem_toArray, List.getElem_cons_zero, List.getElem_cons_succ]
      (try dsimp only at hSW)
      go_simp
      with_reducible rfl
    (try simp only [List.getElem_toArray, List.getElem_cons_zero, List.getElem_cons_succ, Act.put, List.setIfInBounds_toArray, List.set_cons_zero, List.set_cons_succ])
    clear hHeld
    refine wpAnyJ_two 4 9 rfl rfl (by kernel_rfl) (fun K hK => ?_) (fun K hK => ?_)
    · simp only [List.getElem_toArray, List.getElem_cons_zero, List.getElem_cons_succ]
      go_simp
      refine ⟨trivial, rfl, ?_⟩
      refine (callsIn_wide.2 (HS2.out _ (HB9.out _ Bd.out))).mono ?_
      rintro e w10 ⟨A10, c10, rfl, hR10, hb10⟩
      have Be := hide (Bd.out.trans (hb10.mono Bd.out.size))
      dsimp only
      refine hK.out _ _ (fun _ => HSF.out _ Be.out) ?_
      clear hK K
      (try simp only [List.getElem_toArray, List.getElem_cons_zero, List.getElem_cons_succ, Act.put, List.setIfInBounds_toArray, List.set_cons_zero, List.set_cons_succ])
      have HR10 := hide hR10
      clear hR10 hb10
      refine wpAnyJ_two 5 9 rfl rfl (by kernel_rfl) (fun K hK => ?_) (fun K hK => ?_)
      · simp only [List.getElem_toArray, List.getElem_cons_zero, List.getElem_cons_succ]
        go_simp
        refine ⟨trivial, rfl, ?_⟩
        refine (callsIn_wide.2 (HLo.out _ _ _ HR10.out)).mono ?_
        rintro e w11 ⟨rfl, hb11⟩
        have Bf := hide (Be.out.trans (hb11.mono Be.out.size))
        dsimp only
        refine hK.out _ _ (fun _ => HSF.out _ Bf.out) ?_
        clear hK K
        (try simp only [List.getElem_toArray, List.getElem_cons_zero, List.getElem_cons_succ, Act.put, List.setIfInBounds_toArray, List.set_cons_zero, List.set_cons_succ])
        clear hb11 HR10
        refine wpAnyJ_take 6 (v := ?_) (by first | exact hF | exact wideFn) (HSF.out _ Bf.out) rfl (by kernel_rfl) (by kernel_rfl) (by kernel_rfl) (by kernel_rfl) rfl ?_ (fun _ _ _ h => h) ?_
        rotate_left
        · intro W hSW
          simp only [List.getElem_toArray, List.getElem_cons_zero, List.getElem_cons_succ]
          (try dsimp only at hSW)
          go_simp
          with_reducible rfl
        (try simp only [List.getElem_toArray, List.getElem_cons_zero, List.getElem_cons_succ, Act.put, List.setIfInBounds_toArray, List.set_cons_zero, List.set_cons_succ])
        refine wpAnyJ_take 7 (v := ?_) (by first | exact hF | exact wideFn) (HSF.out _ Bf.out) rfl (by kernel_rfl) (by kernel_rfl) (by kernel_rfl) (by kernel_rfl) rfl ?_ (fun _ _ _ h => h) ?_
        rotate_left
        · intro W hSW
          simp only [List.getElem_toArray, List.getElem_cons_zero, List.getElem_cons_succ]
          (try dsimp only at hSW)
          go_simp
          with_reducible rfl
        (try simp only [List.getElem_toArray, List.getElem_cons_zero, List.getElem_cons_succ, Act.put, List.setIfInBounds_toArray, List.set_cons_zero, List.set_cons_succ])
        refine wpAnyJ_take 8 (v := ?_) (by first | exact hF | exact wideFn) (HSF.out _ Bf.out) rfl (by kernel_rfl) (by kernel_rfl) (by kernel_rfl) (by kernel_rfl) rfl ?_ (fun _ _ _ h => h) ?_
        rotate_left
        · intro W hSW
          simp only [List.getElem_toArray, List.getElem_cons_zero, List.getElem_cons_succ]
          (try dsimp only at hSW)
          go_simp
          with_reducible rfl
        (try simp only [List.getElem_toArray, List.getElem_cons_zero, List.getElem_cons_succ, Act.put, List.setIfInBounds_toArray, List.set_cons_zero, List.set_cons_succ])
        refine wpAnyJ_one 9 rfl (by kernel_rfl) (fun K hK => ?_)
        simp only [List.getElem_toArray, List.getElem_cons_zero, List.getElem_cons_succ]
        go_simp
        refine hK.out _ _ (fun _ => HSF.out _ (Bf.out.alloc Bf.out.size _)) ?_
        clear hK K
        (try simp only [List.getElem_toArray, List.getElem_cons_zero, List.getElem_cons_succ, Act.put, List.setIfInBounds_toArray, List.set_cons_zero, List.set_cons_succ])
        refine wpAnyJ_one 10 rfl (by kernel_rfl) (fun K hK => ?_)
        simp only [List.getElem_toArray, List.getElem_cons_zero, List.getElem_cons_succ]
        go_simp
        refine hK.out _ _ (fun _ => HSF.out _ (Bf.out.alloc Bf.out.size _)) ?_
        clear hK K
        (try simp only [List.getElem_toArray, List.getElem_cons_zero, List.getElem_cons_succ, Act.put, List.setIfInBounds_toArray, List.set_cons_zero, List.set_cons_succ])
        refine wpAnyJ_take 11 (v := ?_) (by first | exact hF | exact wideFn) (HSF.out _ (Bf.out.alloc Bf.out.size _)) rfl (by kernel_rfl) (by kernel_rfl) (by kernel_rfl) (by kernel_rfl) rfl ?_ (fun _ _ _ h => h) ?_
        rotate_left
        · intro W hSW
          simp only [List.getElem_toArray, List.getElem_cons_zero, List.getElem_cons_succ]
          (try dsimp only at hSW)
          go_simp
          with_reducible rfl
        (try simp only [List.getElem_toArray, List.getElem_cons_zero, List.getElem_cons_succ, Act.put, List.setIfInBounds_toArray, List.set_cons_zero, List.set_cons_succ])
        refine wpAnyJ_done (by kernel_rfl) ?_
        exact ⟨_, _, rfl, Bf.out.alloc Bf.out.size _, Bf.out.size, Blk.new _ _ _⟩
      · simp only [List.getElem_toArray, List.getElem_cons_zero, List.getElem_cons_succ]
        go_simp
        refine hK.out _ _ (fun _ => HSF.out _ (Be.out.alloc Be.out.size _)) ?_
        clear hK K
        (try simp only [List.getElem_toArray, List.getElem_cons_zero, List.getElem_cons_succ, Act.put, List.setIfInBounds_toArray, List.set_cons_zero, List.set_cons_succ])
        have Z10 := hide (Blk.new w10 25 #[.int .i64 0, .int .i64 0])
        have Bf := hide (Be.out.alloc Be.out.size (.cells #[.int .i64 (0), .int .i64 (0)] 25))
        have hRz : PI (w10.alloc (.cells #[.int .i64 (0), .int .i64 (0)] 25)) (w10.alloc (.cells #[.int .i64 (0), .int .i64 (0)] 25)).heap.size A10 (m - 1) (fun i => x (i + 1)) (fun i => y (i + 1)) := (HR10.out.below ((Below.refl _ w10).alloc (Nat.le_refl _) _) (Nat.le_refl _)).more (by simp)
        have HR11 := hide hRz
        clear hRz HR10
        refine wpAnyJ_one 5 rfl (by kernel_rfl) (fun K hK => ?_)
        simp only [List.getElem_toArray, List.getElem_cons_zero, List.getElem_cons_succ]
        go_simp
        refine ⟨trivial, rfl, ?_⟩
        refine (callsIn_wide.2 (HLo.out _ _ _ HR11.out)).mono ?_
        rintro e w11 ⟨rfl, hb11⟩
        have Bg := hide (Bf.out.trans (hb11.mono Bf.out.size))
        dsimp only
        refine hK.out _ _ (fun _ => HSF.out _ Bg.out) ?_
        clear hK K
        (try simp only [List.getElem_toArray, List.getElem_cons_zero, List.getElem_cons_succ, Act.put, List.setIfInBounds_toArray, List.set_cons_zero, List.set_cons_succ])
        have Z11 := hide (Z10.out.ext hb11)
        clear hb11 HR11
        refine wpAnyJ_take 6 (v := ?_) (by first | exact hF | exact wideFn) (HSF.out _ Bg.out) rfl (by kernel_rfl) (by kernel_rfl) (by kernel_rfl) (by kernel_rfl) rfl ?_ (fun _ _ _ h => h) ?_
        rotate_left
        · intro W hSW
          simp only [List.getElem_toArray, List.getElem_cons_zero, List.getElem_cons_succ]
          (try dsimp only at hSW)
          go_simp
          with_reducible rfl
        (try simp only [List.getElem_toArray, List.getElem_cons_zero, List.getElem_cons_succ, Act.put, List.setIfInBounds_toArray, List.set_cons_zero, List.set_cons_succ])
        refine wpAnyJ_take 7 (v := ?_) (by first | exact hF | exact wideFn) (HSF.out _ Bg.out) rfl (by kernel_rfl) (by kernel_rfl) (by kernel_rfl) (by kernel_rfl) rfl ?_ (fun _ _ _ h => h) ?_
        rotate_left
        · intro W hSW
          simp only [List.getElem_toArray, List.getElem_cons_zero, List.getElem_cons_succ]
          (try dsimp only at hSW)
          go_simp
          with_reducible rfl
        (try simp only [List.getElem_toArray, List.getElem_cons_zero, List.getElem_cons_succ, Act.put, List.setIfInBounds_toArray, List.set_cons_zero, List.set_cons_succ])
        refine wpAnyJ_take 8 (v := ?_) (by first | exact hF | exact wideFn) (HSF.out _ Bg.out) rfl (by kernel_rfl) (by kernel_rfl) (by kernel_rfl) (by kernel_rfl) rfl ?_ (fun _ _ _ h => h) ?_
        rotate_left
        · intro W hSW
          simp only [List.getElem_toArray, List.getElem_cons_zero, List.getElem_cons_succ]
          (try dsimp only at hSW)
          go_simp
          with_reducible rfl
        (try simp only [List.getElem_toArray, List.getElem_cons_zero, List.getElem_cons_succ, Act.put, List.setIfInBounds_toArray, List.set_cons_zero, List.set_cons_succ])
        obtain ⟨g0, g1, g2, g3, g4⟩ := blk2 Z11.out
        refine wpAnyJ_one 10 rfl (by kernel_rfl) (fun K hK => ?_)
        simp only [List.getElem_toArray, List.getElem_cons_zero, List.getElem_cons_succ]
        go_simp
        refine hK.out _ _ (fun _ => HSF.out _ (set2B Bg.out Be.out.size _ _)) ?_
        clear hK K
        (try simp only [List.getElem_toArray, List.getElem_cons_zero, List.getElem_cons_succ, Act.put, List.setIfInBounds_toArray, List.set_cons_zero, List.set_cons_succ])
        clear g0 g1 g2 g3 g4
        refine wpAnyJ_take 11 (v := ?_) (by first | exact hF | exact wideFn) (HSF.out _ (set2B Bg.out Be.out.size _ _)) rfl (by kernel_rfl) (by kernel_rfl) (by kernel_rfl) (by kernel_rfl) rfl ?_ (fun _ _ _ h => h) ?_
        rotate_left
        · intro W hSW
          simp only [List.getElem_toArray, List.getElem_cons_zero, List.getElem_cons_succ]
          (try dsimp only at hSW)
          go_simp
          with_reducible rfl
        (try simp only [List.getElem_toArray, List.getElem_cons_zero, List.getElem_cons_succ, Act.put, List.setIfInBounds_toArray, List.set_cons_zero, List.set_cons_succ])
        refine wpAnyJ_done (by kernel_rfl) ?_
        exact ⟨_, _, rfl, set2B Bg.out Be.out.size _ _, Be.out.size, Blk.set2 Z11.out _ _⟩
    · simp only [List.getElem_toArray, List.getElem_cons_zero, List.getElem_cons_succ]
      go_simp
      refine hK.out _ _ (fun _ => HSF.out _ (Bd.out.alloc Bd.out.size _)) ?_
      clear hK K
      (try simp only [List.getElem_toArray, List.getElem_cons_zero, List.getElem_cons_succ, Act.put, List.setIfInBounds_toArray, List.set_cons_zero, List.set_cons_succ])
      have Z9 := hide (Blk.new w9.drew 25 #[.int .i64 0, .int .i64 0])
      have Be := hide (Bd.out.alloc Bd.out.size (.cells #[.int .i64 (0), .int .i64 (0)] 25))
      have hzz : w9.drew.heap.size = w9.heap.size := rfl
      rw [hzz] at Z9
      clear hzz
      refine wpAnyJ_one 4 rfl (by kernel_rfl) (fun K hK => ?_)
      simp only [List.getElem_toArray, List.getElem_cons_zero, List.getElem_cons_succ]
      go_simp
      refine ⟨trivial, rfl, ?_⟩
      refine (callsIn_wide.2 (HS2.out _ (HB9.out _ Be.out))).mono ?_
      rintro e w10 ⟨A10, c10, rfl, hR10, hb10⟩
      have Bf := hide (Be.out.trans (hb10.mono Be.out.size))
      dsimp only
      refine hK.out _ _ (fun _ => HSF.out _ Bf.out) ?_
      clear hK K
      (try simp only [List.getElem_toArray, List.getElem_cons_zero, List.getElem_cons_succ, Act.put, List.setIfInBounds_toArray, List.set_cons_zero, List.set_cons_succ])
      have HR10 := hide hR10
      have Z10 := hide (Z9.out.ext hb10)
      clear hR10 hb10
      refine wpAnyJ_one 5 rfl (by kernel_rfl) (fun K hK => ?_)
      simp only [List.getElem_toArray, List.getElem_cons_zero, List.getElem_cons_succ]
      go_simp
      refine ⟨trivial, rfl, ?_⟩
      refine (callsIn_wide.2 (HLo.out _ _ _ HR10.out)).mono ?_
      rintro e w11 ⟨rfl, hb11⟩
      have Bg := hide (Bf.out.trans (hb11.mono Bf.out.size))
      dsimp only
      refine hK.out _ _ (fun _ => HSF.out _ Bg.out) ?_
      clear hK K
      (try simp only [List.getElem_toArray, List.getElem_cons_zero, List.getElem_cons_succ, Act.put, List.setIfInBounds_toArray, List.set_cons_zero, List.set_cons_succ])
      have Z11 := hide (Z10.out.ext hb11)
      clear hb11 HR10
      refine wpAnyJ_take 6 (v := ?_) (by first | exact hF | exact wideFn) (HSF.out _ Bg.out) rfl (by kernel_rfl) (by kernel_rfl) (by kernel_rfl) (by kernel_rfl) rfl ?_ (fun _ _ _ h => h) ?_
      rotate_left
      · intro W hSW
        simp only [List.getElem_toArray, List.getElem_cons_zero, List.getElem_cons_succ]
        (try dsimp only at hSW)
        go_simp
        with_reducible rfl
      (try simp only [List.getElem_toArray, List.getElem_cons_zero, List.getElem_cons_succ, Act.put, List.setIfInBounds_toArray, List.set_cons_zero, List.set_cons_succ])
      refine wpAnyJ_take 7 (v := ?_) (by first | exact hF | exact wideFn) (HSF.out _ Bg.out) rfl (by kernel_rfl) (by kernel_rfl) (by kernel_rfl) (by kernel_rfl) rfl ?_ (fun _ _ _ h => h) ?_
      rotate_left
      · intro W hSW
        simp only [List.getElem_toArray, List.getElem_cons_zero, List.getElem_cons_succ]
        (try dsimp only at hSW)
        go_simp
        with_reducible rfl
      (try simp only [List.getElem_toArray, List.getElem_cons_zero, List.getElem_cons_succ, Act.put, List.setIfInBounds_toArray, List.set_cons_zero, List.set_cons_succ])
      refine wpAnyJ_take 8 (v := ?_) (by first | exact hF | exact wideFn) (HSF.out _ Bg.out) rfl (by kernel_rfl) (by kernel_rfl) (by kernel_rfl) (by kernel_rfl) rfl ?_ (fun _ _ _ h => h) ?_
      rotate_left
      · intro W hSW
        simp only [List.getElem_toArray, List.getElem_cons_zero, List.getElem_cons_succ]
        (try dsimp only at hSW)
        go_simp
        with_reducible rfl
      (try simp only [List.getElem_toArray, List.getElem_cons_zero, List.getElem_cons_succ, Act.put, List.setIfInBounds_toArray, List.set_cons_zero, List.set_cons_succ])
      obtain ⟨g0, g1, g2, g3, g4⟩ := blk2 Z11.out
      refine wpAnyJ_one 10 rfl (by kernel_rfl) (fun K hK => ?_)
      simp only [List.getElem_toArray, List.getElem_cons_zero, List.getElem_cons_succ]
      go_simp
      refine hK.out _ _ (fun _ => HSF.out _ (set2B Bg.out (Nat.le_refl _) _ _)) ?_
      clear hK K
      (try simp only [List.getElem_toArray, List.getElem_cons_zero, List.getElem_cons_succ, Act.put, List.setIfInBounds_toArray, List.set_cons_zero, List.set_cons_succ])
      clear g0 g1 g2 g3 g4
      refine wpAnyJ_take 11 (v := ?_) (by first | exact hF | exact wideFn) (HSF.out _ (set2B Bg.out (Nat.le_refl _) _ _)) rfl (by kernel_rfl) (by kernel_rfl) (by kernel_rfl) (by kernel_rfl) rfl ?_ (fun _ _ _ h => h) ?_
      rotate_left
      · intro W hSW
        simp only [List.getElem_toArray, List.getElem_cons_zero, List.getElem_cons_succ]
        (try dsimp only at hSW)
        go_simp
        with_reducible rfl
      (try simp only [List.getElem_toArray, List.getElem_cons_zero, List.getElem_cons_succ, Act.put, List.setIfInBounds_toArray, List.set_cons_zero, List.set_cons_succ])
      refine wpAnyJ_done (by kernel_rfl) ?_
      exact ⟨_, _, rfl, set2B Bg.out (Nat.le_refl _) _ _, Nat.le_refl _, Blk.set2 Z11.out _ _⟩
  rintro a' w13 ⟨v4, b11, rfl, hb13, hbb, hT⟩
  have B13 := hide (B9.out.trans (hb13.mono B9.out.size))
  have T13 := hide hT
  have K13 := hide (K9.out.ext hb13)
  have N13 := hide (N9.out.ext hb13)
  have F13 := hide (F9.out.ext hb13)
  have zz9 := B9.out.size
  have zz13 := hb13.size
  simp only [Act.put, List.setIfInBounds_toArray, List.set_cons_zero, List.set_cons_succ]
  clear hb13 hT
  generalize (if c = 1 then (some ⟨ab, aoff, none⟩ : Option Addr) else some ⟨ab, aoff + 2, none⟩) = Q1
  obtain ⟨eKl, eK0, eK1⟩ := bx2 K13.out
  obtain ⟨eNl, eN0, eN1⟩ := bx2 N13.out
  obtain ⟨eFl, eF0, eF1⟩ := bx2 F13.out
  go_wp2_with fail
  refine wp_cut (fun a a' w' => ∃ (v4 : Value) (b : Nat), a' = (((((((((((a.put (some 131) (.pointer (some ⟨w8.heap.size, 1, none⟩))).put (some 132) (.int .i64 fH)).put (some 133) (.slice (some ⟨ab, aoff, none⟩) m c)).put (some 134) (.slice (if c = 1 then some ⟨ab, aoff, none⟩ else some ⟨ab, aoff + 2, none⟩) (m - 1) (c - 1))).put (some 135) v4).put (some 136) (.tuple #[.agg #[.int .i64 zL, .int .i64 aH], .int .i64 0])).put (some 130) (.tuple #[.agg #[.int .i64 zL, .int .i64 aH], .int .i64 0])).put (some 137) (.agg #[.int .i64 zL, .int .i64 aH])).put (some 138) (.int .i64 0)).put (some 12) (.pointer (some ⟨b, 0, none⟩))).put (some 10) (.int .i64 0)) ∧ Below w13.heap.size w13 w' ∧ w13.heap.size ≤ b ∧ Blk w' b 25 #[.int .i64 zL, .int .i64 aH]) ?_ ?_
  · have HSF : Hid (∀ W', Below w13.heap.size w13 W' → W'.cell? ⟨w8.heap.size, 1, none⟩ = some (.int .i64 fH)) := hide (fun W' hb => (hb.cell (p := ⟨w8.heap.size, 1, none⟩) eFl).trans eF1)
    have Bd := hide (Below.refl w13.heap.size w13).drew
    have HB13 := hide (fun W' (hb : Below w13.heap.size w13 W') => B13.out.trans (hb.mono B13.out.size))
    refine wp_region_J (fun W : World => W.cell? ⟨w8.heap.size, 1, none⟩ = some (.int .i64 fH)) (by kernel_rfl) ?_
    have hHeld : (fun W : World => W.cell? ⟨w8.heap.size, 1, none⟩ = some (.int .i64 fH)) w13.drew := HSF.out _ Bd.out
    clear eKl eK0 eK1 eNl eN0 eN1 eFl eF0 eF1
    refine wpAnyJ_take 0 (v := ?_) (by first | exact hF | exact wideFn) hHeld rfl (by kernel_rfl) (by kernel_rfl) (by kernel_rfl) (by kernel_rfl) rfl ?_ (fun _ _ _ h => h) ?_
    rotate_left
    · intro W hSW
      simp only [List.getElem_toArray, List.getElem_cons_zero, List.getElem_cons_succ]
      (try dsimp only at hSW)
      go_simp
      with_reducible rfl
    (try simp only [List.getElem_toArray, List.getElem_cons_zero, List.getElem_cons_succ, Act.put, List.setIfInBounds_toArray, List.set_cons_zero, List.set_cons_succ])
    refine wpAnyJ_take 1 (v := ?_) (by first | exact hF | exact wideFn) hHeld rfl (by kernel_rfl) (by kernel_rfl) (by kernel_rfl) (by kernel_rfl) rfl ?_ (fun _ _ _ h => h) ?_
    rotate_left
    · intro W hSW
      simp only [List.getElem_toArray, List.getElem_cons_zero, List.getElem_cons_succ]
      (try dsimp only at hSW)
      go_simp
      with_reducible rfl
    (try simp only [List.getElem_toArray, List.getElem_cons_zero, List.getElem_cons_succ, Act.put, List.setIfInBounds_toArray, List.set_cons_zero, List.set_cons_succ])
    refine wpAnyJ_take 2 (v := ?_) (by first | exact hF | exact wideFn) hHeld rfl (by kernel_rfl) (by kernel_rfl) (by kernel_rfl) (by kernel_rfl) rfl ?_ (fun _ _ _ h => h) ?_
    rotate_left
    · intro W hSW
      simp only [List.getElem_toArray, List.getElem_cons_zero, List.getElem_cons_succ]
      (try dsimp only at hSW)
      go_simp
      with_reducible rfl
    (try simp only [List.getElem_toArray, List.getElem_cons_zero, List.getElem_cons_succ, Act.put, List.setIfInBounds_toArray, List.set_cons_zero, List.set_cons_succ])
    refine wpAnyJ_take 3 (v := ?_) (by first | exact hF | exact wideFn) hHeld rfl (by kernel_rfl) (by kernel_rfl) (by kernel_rfl) (by kernel_rfl) rfl ?_ (fun _ _ _ h => h) ?_
    rotate_left
    · intro W hSW
      simp only [List.getElem_toArray, List.getElem_cons_zero, List.getElem_cons_succ]
      (try dsimp only at hSW)
      go_simp
      with_reducible rfl
    (try simp only [List.getElem_toArray, List.getElem_cons_zero, List.getElem_cons_succ, Act.put, List.setIfInBounds_toArray, List.set_cons_zero, List.set_cons_succ])
    clear hHeld
    refine wpAnyJ_two 4 9 rfl rfl (by kernel_rfl) (fun K hK => ?_) (fun K hK => ?_)
    · simp only [List.getElem_toArray, List.getElem_cons_zero, List.getElem_cons_succ]
      go_simp
      refine ⟨trivial, rfl, ?_⟩
      refine (callsIn_wide.2 (HS2.out _ (HB13.out _ Bd.out))).mono ?_
      rintro e w10 ⟨A10, c10, rfl, hR10, hb10⟩
      have Be := hide (Bd.out.trans (hb10.mono Bd.out.size))
      dsimp only
      refine hK.out _ _ (fun _ => HSF.out _ Be.out) ?_
      clear hK K
      (try simp only [List.getElem_toArray, List.getElem_cons_zero, List.getElem_cons_succ, Act.put, List.setIfInBounds_toArray, List.set_cons_zero, List.set_cons_succ])
      have HR10 := hide hR10
      clear hR10 hb10
      refine wpAnyJ_two 5 9 rfl rfl (by kernel_rfl) (fun K hK => ?_) (fun K hK => ?_)
      · simp only [List.getElem_toArray, List.getElem_cons_zero, List.getElem_cons_succ]
        go_simp
        refine ⟨trivial, rfl, ?_⟩
        refine (callsIn_wide.2 (HHi.out _ _ _ HR10.out)).mono ?_
        rintro e w11 ⟨rfl, hb11⟩
        have Bf := hide (Be.out.trans (hb11.mono Be.out.size))
        dsimp only
        refine hK.out _ _ (fun _ => HSF.out _ Bf.out) ?_
        clear hK K
        (try simp only [List.getElem_toArray, List.getElem_cons_zero, List.getElem_cons_succ, Act.put, List.setIfInBounds_toArray, List.set_cons_zero, List.set_cons_succ])
        clear hb11 HR10
        refine wpAnyJ_take 6 (v := ?_) (by first | exact hF | exact wideFn) (HSF.out _ Bf.out) rfl (by kernel_rfl) (by kernel_rfl) (by kernel_rfl) (by kernel_rfl) rfl ?_ (fun _ _ _ h => h) ?_
        rotate_left
        · intro W hSW
          simp only [List.getElem_toArray, List.getElem_cons_zero, List.getElem_cons_succ]
          (try dsimp only at hSW)
          go_simp
          with_reducible rfl
        (try simp only [List.getElem_toArray, List.getElem_cons_zero, List.getElem_cons_succ, Act.put, List.setIfInBounds_toArray, List.set_cons_zero, List.set_cons_succ])
        refine wpAnyJ_take 7 (v := ?_) (by first | exact hF | exact wideFn) (HSF.out _ Bf.out) rfl (by kernel_rfl) (by kernel_rfl) (by kernel_rfl) (by kernel_rfl) rfl ?_ (fun _ _ _ h => h) ?_
        rotate_left
        · intro W hSW
          simp only [List.getElem_toArray, List.getElem_cons_zero, List.getElem_cons_succ]
          (try dsimp only at hSW)
          go_simp
          with_reducible rfl
        (try simp only [List.getElem_toArray, List.getElem_cons_zero, List.getElem_cons_succ, Act.put, List.setIfInBounds_toArray, List.set_cons_zero, List.set_cons_succ])
        refine wpAnyJ_take 8 (v := ?_) (by first | exact hF | exact wideFn) (HSF.out _ Bf.out) rfl (by kernel_rfl) (by kernel_rfl) (by kernel_rfl) (by kernel_rfl) rfl ?_ (fun _ _ _ h => h) ?_
        rotate_left
        · intro W hSW
          simp only [List.getElem_toArray, List.getElem_cons_zero, List.getElem_cons_succ]
          (try dsimp only at hSW)
          go_simp
          with_reducible rfl
        (try simp only [List.getElem_toArray, List.getElem_cons_zero, List.getElem_cons_succ, Act.put, List.setIfInBounds_toArray, List.set_cons_zero, List.set_cons_succ])
        refine wpAnyJ_one 9 rfl (by kernel_rfl) (fun K hK => ?_)
        simp only [List.getElem_toArray, List.getElem_cons_zero, List.getElem_cons_succ]
        go_simp
        refine hK.out _ _ (fun _ => HSF.out _ (Bf.out.alloc Bf.out.size _)) ?_
        clear hK K
        (try simp only [List.getElem_toArray, List.getElem_cons_zero, List.getElem_cons_succ, Act.put, List.setIfInBounds_toArray, List.set_cons_zero, List.set_cons_succ])
        refine wpAnyJ_one 10 rfl (by kernel_rfl) (fun K hK => ?_)
        simp only [List.getElem_toArray, List.getElem_cons_zero, List.getElem_cons_succ]
        go_simp
        refine hK.out _ _ (fun _ => HSF.out _ (Bf.out.alloc Bf.out.size _)) ?_
        clear hK K
        (try simp only [List.getElem_toArray, List.getElem_cons_zero, List.getElem_cons_succ, Act.put, List.setIfInBounds_toArray, List.set_cons_zero, List.set_cons_succ])
        refine wpAnyJ_take 11 (v := ?_) (by first | exact hF | exact wideFn) (HSF.out _ (Bf.out.alloc Bf.out.size _)) rfl (by kernel_rfl) (by kernel_rfl) (by kernel_rfl) (by kernel_rfl) rfl ?_ (fun _ _ _ h => h) ?_
        rotate_left
        · intro W hSW
          simp only [List.getElem_toArray, List.getElem_cons_zero, List.getElem_cons_succ]
          (try dsimp only at hSW)
          go_simp
          with_reducible rfl
        (try simp only [List.getElem_toArray, List.getElem_cons_zero, List.getElem_cons_succ, Act.put, List.setIfInBounds_toArray, List.set_cons_zero, List.set_cons_succ])
        refine wpAnyJ_done (by kernel_rfl) ?_
        exact ⟨_, _, rfl, Bf.out.alloc Bf.out.size _, Bf.out.size, Blk.new _ _ _⟩
      · simp only [List.getElem_toArray, List.getElem_cons_zero, List.getElem_cons_succ]
        go_simp
        refine hK.out _ _ (fun _ => HSF.out _ (Be.out.alloc Be.out.size _)) ?_
        clear hK K
        (try simp only [List.getElem_toArray, List.getElem_cons_zero, List.getElem_cons_succ, Act.put, List.setIfInBounds_toArray, List.set_cons_zero, List.set_cons_succ])
        have Z10 := hide (Blk.new w10 25 #[.int .i64 0, .int .i64 0])
        have Bf := hide (Be.out.alloc Be.out.size (.cells #[.int .i64 (0), .int .i64 (0)] 25))
        have hRz : PI (w10.alloc (.cells #[.int .i64 (0), .int .i64 (0)] 25)) (w10.alloc (.cells #[.int .i64 (0), .int .i64 (0)] 25)).heap.size A10 (m - 1) (fun i => x (i + 1)) (fun i => y (i + 1)) := (HR10.out.below ((Below.refl _ w10).alloc (Nat.le_refl _) _) (Nat.le_refl _)).more (by simp)
        have HR11 := hide hRz
        clear hRz HR10
        refine wpAnyJ_one 5 rfl (by kernel_rfl) (fun K hK => ?_)
        simp only [List.getElem_toArray, List.getElem_cons_zero, List.getElem_cons_succ]
        go_simp
        refine ⟨trivial, rfl, ?_⟩
        refine (callsIn_wide.2 (HHi.out _ _ _ HR11.out)).mono ?_
        rintro e w11 ⟨rfl, hb11⟩
        have Bg := hide (Bf.out.trans (hb11.mono Bf.out.size))
        dsimp only
        refine hK.out _ _ (fun _ => HSF.out _ Bg.out) ?_
        clear hK K
        (try simp only [List.getElem_toArray, List.getElem_cons_zero, List.getElem_cons_succ, Act.put, List.setIfInBounds_toArray, List.set_cons_zero, List.set_cons_succ])
        have Z11 := hide (Z10.out.ext hb11)
        clear hb11 HR11
        refine wpAnyJ_take 6 (v := ?_) (by first | exact hF | exact wideFn) (HSF.out _ Bg.out) rfl (by kernel_rfl) (by kernel_rfl) (by kernel_rfl) (by kernel_rfl) rfl ?_ (fun _ _ _ h => h) ?_
        rotate_left
        · intro W hSW
          simp only [List.getElem_toArray, List.getElem_cons_zero, List.getElem_cons_succ]
          (try dsimp only at hSW)
          go_simp
          with_reducible rfl
        (try simp only [List.getElem_toArray, List.getElem_cons_zero, List.getElem_cons_succ, Act.put, List.setIfInBounds_toArray, List.set_cons_zero, List.set_cons_succ])
        refine wpAnyJ_take 7 (v := ?_) (by first | exact hF | exact wideFn) (HSF.out _ Bg.out) rfl (by kernel_rfl) (by kernel_rfl) (by kernel_rfl) (by kernel_rfl) rfl ?_ (fun _ _ _ h => h) ?_
        rotate_left
        · intro W hSW
          simp only [List.getElem_toArray, List.getElem_cons_zero, List.getElem_cons_succ]
          (try dsimp only at hSW)
          go_simp
          with_reducible rfl
        (try simp only [List.getElem_toArray, List.getElem_cons_zero, List.getElem_cons_succ, Act.put, List.setIfInBounds_toArray, List.set_cons_zero, List.set_cons_succ])
        refine wpAnyJ_take 8 (v := ?_) (by first | exact hF | exact wideFn) (HSF.out _ Bg.out) rfl (by kernel_rfl) (by kernel_rfl) (by kernel_rfl) (by kernel_rfl) rfl ?_ (fun _ _ _ h => h) ?_
        rotate_left
        · intro W hSW
          simp only [List.getElem_toArray, List.getElem_cons_zero, List.getElem_cons_succ]
          (try dsimp only at hSW)
          go_simp
          with_reducible rfl
        (try simp only [List.getElem_toArray, List.getElem_cons_zero, List.getElem_cons_succ, Act.put, List.setIfInBounds_toArray, List.set_cons_zero, List.set_cons_succ])
        obtain ⟨g0, g1, g2, g3, g4⟩ := blk2 Z11.out
        refine wpAnyJ_one 10 rfl (by kernel_rfl) (fun K hK => ?_)
        simp only [List.getElem_toArray, List.getElem_cons_zero, List.getElem_cons_succ]
        go_simp
        refine hK.out _ _ (fun _ => HSF.out _ (set2B Bg.out Be.out.size _ _)) ?_
        clear hK K
        (try simp only [List.getElem_toArray, List.getElem_cons_zero, List.getElem_cons_succ, Act.put, List.setIfInBounds_toArray, List.set_cons_zero, List.set_cons_succ])
        clear g0 g1 g2 g3 g4
        refine wpAnyJ_take 11 (v := ?_) (by first | exact hF | exact wideFn) (HSF.out _ (set2B Bg.out Be.out.size _ _)) rfl (by kernel_rfl) (by kernel_rfl) (by kernel_rfl) (by kernel_rfl) rfl ?_ (fun _ _ _ h => h) ?_
        rotate_left
        · intro W hSW
          simp only [List.getElem_toArray, List.getElem_cons_zero, List.getElem_cons_succ]
          (try dsimp only at hSW)
          go_simp
          with_reducible rfl
        (try simp only [List.getElem_toArray, List.getElem_cons_zero, List.getElem_cons_succ, Act.put, List.setIfInBounds_toArray, List.set_cons_zero, List.set_cons_succ])
        refine wpAnyJ_done (by kernel_rfl) ?_
        exact ⟨_, _, rfl, set2B Bg.out Be.out.size _ _, Be.out.size, Blk.set2 Z11.out _ _⟩
    · simp only [List.getElem_toArray, List.getElem_cons_zero, List.getElem_cons_succ]
      go_simp
      refine hK.out _ _ (fun _ => HSF.out _ (Bd.out.alloc Bd.out.size _)) ?_
      clear hK K
      (try simp only [List.getElem_toArray, List.getElem_cons_zero, List.getElem_cons_succ, Act.put, List.setIfInBounds_toArray, List.set_cons_zero, List.set_cons_succ])
      have Z9 := hide (Blk.new w13.drew 25 #[.int .i64 0, .int .i64 0])
      have Be := hide (Bd.out.alloc Bd.out.size (.cells #[.int .i64 (0), .int .i64 (0)] 25))
      have hzz : w13.drew.heap.size = w13.heap.size := rfl
      rw [hzz] at Z9
      clear hzz
      refine wpAnyJ_one 4 rfl (by kernel_rfl) (fun K hK => ?_)
      simp only [List.getElem_toArray, List.getElem_cons_zero, List.getElem_cons_succ]
      go_simp
      refine ⟨trivial, rfl, ?_⟩
      refine (callsIn_wide.2 (HS2.out _ (HB13.out _ Be.out))).mono ?_
      rintro e w10 ⟨A10, c10, rfl, hR10, hb10⟩
      have Bf := hide (Be.out.trans (hb10.mono Be.out.size))
      dsimp only
      refine hK.out _ _ (fun _ => HSF.out _ Bf.out) ?_
      clear hK K
      (try simp only [List.getElem_toArray, List.getElem_cons_zero, List.getElem_cons_succ, Act.put, List.setIfInBounds_toArray, List.set_cons_zero, List.set_cons_succ])
      have HR10 := hide hR10
      have Z10 := hide (Z9.out.ext hb10)
      clear hR10 hb10
      refine wpAnyJ_one 5 rfl (by kernel_rfl) (fun K hK => ?_)
      simp only [List.getElem_toArray, List.getElem_cons_zero, List.getElem_cons_succ]
      go_simp
      refine ⟨trivial, rfl, ?_⟩
      refine (callsIn_wide.2 (HHi.out _ _ _ HR10.out)).mono ?_
      rintro e w11 ⟨rfl, hb11⟩
      have Bg := hide (Bf.out.trans (hb11.mono Bf.out.size))
      dsimp only
      refine hK.out _ _ (fun _ => HSF.out _ Bg.out) ?_
      clear hK K
      (try simp only [List.getElem_toArray, List.getElem_cons_zero, List.getElem_cons_succ, Act.put, List.setIfInBounds_toArray, List.set_cons_zero, List.set_cons_succ])
      have Z11 := hide (Z10.out.ext hb11)
      clear hb11 HR10
      refine wpAnyJ_take 6 (v := ?_) (by first | exact hF | exact wideFn) (HSF.out _ Bg.out) rfl (by kernel_rfl) (by kernel_rfl) (by kernel_rfl) (by kernel_rfl) rfl ?_ (fun _ _ _ h => h) ?_
      rotate_left
      · intro W hSW
        simp only [List.getElem_toArray, List.getElem_cons_zero, List.getElem_cons_succ]
        (try dsimp only at hSW)
        go_simp
        with_reducible rfl
      (try simp only [List.getElem_toArray, List.getElem_cons_zero, List.getElem_cons_succ, Act.put, List.setIfInBounds_toArray, List.set_cons_zero, List.set_cons_succ])
      refine wpAnyJ_take 7 (v := ?_) (by first | exact hF | exact wideFn) (HSF.out _ Bg.out) rfl (by kernel_rfl) (by kernel_rfl) (by kernel_rfl) (by kernel_rfl) rfl ?_ (fun _ _ _ h => h) ?_
      rotate_left
      · intro W hSW
        simp only [List.getElem_toArray, List.getElem_cons_zero, List.getElem_cons_succ]
        (try dsimp only at hSW)
        go_simp
        with_reducible rfl
      (try simp only [List.getElem_toArray, List.getElem_cons_zero, List.getElem_cons_succ, Act.put, List.setIfInBounds_toArray, List.set_cons_zero, List.set_cons_succ])
      refine wpAnyJ_take 8 (v := ?_) (by first | exact hF | exact wideFn) (HSF.out _ Bg.out) rfl (by kernel_rfl) (by kernel_rfl) (by kernel_rfl) (by kernel_rfl) rfl ?_ (fun _ _ _ h => h) ?_
      rotate_left
      · intro W hSW
        simp only [List.getElem_toArray, List.getElem_cons_zero, List.getElem_cons_succ]
        (try dsimp only at hSW)
        go_simp
        with_reducible rfl
      (try simp only [List.getElem_toArray, List.getElem_cons_zero, List.getElem_cons_succ, Act.put, List.setIfInBounds_toArray, List.set_cons_zero, List.set_cons_succ])
      obtain ⟨g0, g1, g2, g3, g4⟩ := blk2 Z11.out
      refine wpAnyJ_one 10 rfl (by kernel_rfl) (fun K hK => ?_)
      simp only [List.getElem_toArray, List.getElem_cons_zero, List.getElem_cons_succ]
      go_simp
      refine hK.out _ _ (fun _ => HSF.out _ (set2B Bg.out (Nat.le_refl _) _ _)) ?_
      clear hK K
      (try simp only [List.getElem_toArray, List.getElem_cons_zero, List.getElem_cons_succ, Act.put, List.setIfInBounds_toArray, List.set_cons_zero, List.set_cons_succ])
      clear g0 g1 g2 g3 g4
      refine wpAnyJ_take 11 (v := ?_) (by first | exact hF | exact wideFn) (HSF.out _ (set2B Bg.out (Nat.le_refl _) _ _)) rfl (by kernel_rfl) (by kernel_rfl) (by kernel_rfl) (by kernel_rfl) rfl ?_ (fun _ _ _ h => h) ?_
      rotate_left
      · intro W hSW
        simp only [List.getElem_toArray, List.getElem_cons_zero, List.getElem_cons_succ]
        (try dsimp only at hSW)
        go_simp
        with_reducible rfl
      (try simp only [List.getElem_toArray, List.getElem_cons_zero, List.getElem_cons_succ, Act.put, List.setIfInBounds_toArray, List.set_cons_zero, List.set_cons_succ])
      refine wpAnyJ_done (by kernel_rfl) ?_
      exact ⟨_, _, rfl, set2B Bg.out (Nat.le_refl _) _ _, Nat.le_refl _, Blk.set2 Z11.out _ _⟩
  rintro a' w14 ⟨v5, b12, rfl, hb14, hbb2, hT2⟩
  have B14 := hide (B13.out.trans (hb14.mono B13.out.size))
  have U14 := hide hT2
  have K14 := hide (K13.out.ext hb14)
  have N14 := hide (N13.out.ext hb14)
  have F14 := hide (F13.out.ext hb14)
  have T14 := hide (T13.out.ext hb14)
  simp only [Act.put, List.setIfInBounds_toArray, List.set_cons_zero, List.set_cons_succ]
  clear hb14 hT2
  generalize (if c = 1 then (some ⟨ab, aoff, none⟩ : Option Addr) else some ⟨ab, aoff + 2, none⟩) = Q2
  obtain ⟨eKl, eK0, eK1⟩ := bx2 K14.out
  obtain ⟨eTl, eT0, eT1⟩ := bx2 T14.out
  obtain ⟨eUl, eU0, eU1⟩ := bx2 U14.out
  go_wp2_with fail
  refine (HST.out _ B14.out).mono ?_
  rintro e w15 ⟨A15, c15, rfl, hR15, hb15⟩
  have HR15 := hide hR15
  have B15 := hide (B14.out.trans (hb15.mono B14.out.size))
  have K15 := hide (K14.out.ext hb15)
  clear hR15 hb15
  go_wp2_with fail
  clear eKl eK0 eK1 eTl eT0 eT1 eUl eU0 eU1
  refine (HN.out _ _ _ HR15.out).mono ?_
  rintro e w16 ⟨rfl, hb16⟩
  have B16 := hide (B15.out.trans (hb16.mono B15.out.size))
  have K16 := hide (K15.out.ext hb16)
  clear hb16 HR15
  obtain rfl : M = 0 := by omega
  go_wp2_with fail
  refine (HST.out _ B16.out).mono ?_
  rintro e w17 ⟨A17, c17, rfl, hR17, hb17⟩
  have HR17 := hide hR17
  have B17 := hide (B16.out.trans (hb17.mono B16.out.size))
  
  clear hR17 hb17
  go_wp2_with fail
  refine (HLx.out _ _ _ HR17.out).mono ?_
  rintro e w18 ⟨rfl, hb18⟩
  have B18 := hide (B17.out.trans (hb18.mono B17.out.size))
  
  clear hb18 HR17
  have B19 := hide (B18.out.alloc B18.out.size (.cells #[.int .i64 (sL), .int .i64 (sH)] 25))
  have X19 := hide (Blk.new w18 25 #[.int .i64 (sL), .int .i64 (sH)])
  
  obtain ⟨eXl, eX0, eX1⟩ := bx2 X19.out
  go_wp2_with fail
  refine (HK.out _).mono ?_
  rintro e w20 ⟨rfl, hb20⟩
  go_wp2_with fail
  go_ret
  exact ⟨rfl, B19.out.trans (hb20.mono B19.out.size)⟩
theorem allows_yes (n M : Int) (ab aoff : Nat) (m c : Nat) (x y : Nat → Int) (w : World) (hn : 0 ≤ n ∧ n ≤ 4294967295) (hM : n % 500000000 = M) (hm : 1 ≤ m ∧ m ≤ 9) (hmc : m ≤ c) (hc : c ≤ 9223372036854775807)
    (aL aH bL bH fL fH zL zH : Int) (q1 : 0 ≤ aL) (q2 : aL ≤ aH) (q3 : aH ≤ M) (q4 : aL ≤ bL) (q5 : aH ≤ bH) (q6 : aL ≤ fL) (q7 : aH ≤ fH) (q8 : 0 ≤ fL)
    (HST : Hid (CopyIs w m x y (.slice (some ⟨ab, aoff, none⟩) m c))) (HS1 : Hid (CopyIs w 1 x y (.slice (some ⟨ab, aoff, none⟩) 1 c)))
    (HS2 : Hid (CopyIs w (m - 1) (fun i => x (i + 1)) (fun i => y (i + 1)) (.slice (if c = 1 then some ⟨ab, aoff, none⟩ else some ⟨ab, aoff + 2, none⟩) (m - 1) (c - 1))))
    (HLa : Hid (LeftIs m x y M aL aH)) (HLb : Hid (LeftIs m x y (M + 1) bL bH)) (HLf : Hid (LeftIs 1 x y M fL fH)) (HLo : Hid (LeftIs (m - 1) (fun i => x (i + 1)) (fun i => y (i + 1)) fL aL zH)) (HHi : Hid (LeftIs (m - 1) (fun i => x (i + 1)) (fun i => y (i + 1)) fH zL aH)) (r : Int) (hr : 0 < r ∧ r ≤ 1000000000) (HN : Hid (NeedIs m x y M r 0)) (sL sH tL tH : Int) (HLx : Hid (LeftIs m x y r sL sH)) (HLy : Hid (LeftIs m x y (r - 1) tL tH)) (hg : M ≤ sL) (hg0 : M ≤ r) (hg1 : tL < M) : Calls Try.prog 4 #[.int .u32 n, .slice (some ⟨ab, aoff, none⟩) m c] w fun e w' => e = .returned (.bool true) ∧ Below w.heap.size w w' := by
  unfold NeedIs at HN
  unfold LeftIs at HLx HLy
  obtain ⟨hr0, hr1⟩ := hr
  have HK := hide known_any
  have HME := hide hM
  have HMB : 0 ≤ M ∧ M < 500000000 := by omega
  unfold CopyIs at HST HS1 HS2
  unfold LeftIs at HLa HLb HLf HLo HHi
  obtain ⟨n0, n1⟩ := hn
  obtain ⟨m0, m1⟩ := hm
  have m2 : ¬ m < 1 := by omega
  have m3 : ¬ 9 < m := by omega
  have B0 := hide (Below.refl w.heap.size w)
  clear hM
  go_enter Try.func4, Try.ntmps4
  go_wp2_with fail
  rw [HME.out]
  refine (HST.out _ B0.out).mono ?_
  rintro e w1 ⟨A1, c1, rfl, hR1, hb1⟩
  have HR1 := hide hR1
  have B1 := hide (B0.out.trans (hb1.mono B0.out.size))
  
  clear hR1 hb1
  go_wp2_with fail
  refine (HLa.out _ _ _ HR1.out).mono ?_
  rintro e w2 ⟨rfl, hb2⟩
  have B2 := hide (B1.out.trans (hb2.mono B1.out.size))
  
  clear hb2 HR1
  have B3 := hide (B2.out.alloc B2.out.size (.cells #[.int .i64 (aL), .int .i64 (aH)] 25))
  have K3 := hide (Blk.new w2 25 #[.int .i64 (aL), .int .i64 (aH)])
  
  go_wp2_with fail
  refine (HST.out _ B3.out).mono ?_
  rintro e w4 ⟨A4, c4, rfl, hR4, hb4⟩
  have HR4 := hide hR4
  have B4 := hide (B3.out.trans (hb4.mono B3.out.size))
  have K4 := hide (K3.out.ext hb4)
  clear hR4 hb4
  go_wp2_with fail
  refine (HLb.out _ _ _ HR4.out).mono ?_
  rintro e w5 ⟨rfl, hb5⟩
  have B5 := hide (B4.out.trans (hb5.mono B4.out.size))
  have K5 := hide (K4.out.ext hb5)
  clear hb5 HR4
  have B6 := hide (B5.out.alloc B5.out.size (.cells #[.int .i64 (bL), .int .i64 (bH)] 25))
  have N6 := hide (Blk.new w5 25 #[.int .i64 (bL), .int .i64 (bH)])
  have K6 := hide (K5.out.alloc (.cells #[.int .i64 (bL), .int .i64 (bH)] 25))
  go_wp2_with fail
  refine (HS1.out _ B6.out).mono ?_
  rintro e w7 ⟨A7, c7, rfl, hR7, hb7⟩
  have HR7 := hide hR7
  have B7 := hide (B6.out.trans (hb7.mono B6.out.size))
  have K7 := hide (K6.out.ext hb7)
  have N7 := hide (N6.out.ext hb7)
  clear hR7 hb7
  go_wp2_with fail
  refine (HLf.out _ _ _ HR7.out).mono ?_
  rintro e w8 ⟨rfl, hb8⟩
  have B8 := hide (B7.out.trans (hb8.mono B7.out.size))
  have K8 := hide (K7.out.ext hb8)
  have N8 := hide (N7.out.ext hb8)
  clear hb8 HR7
  have B9 := hide (B8.out.alloc B8.out.size (.cells #[.int .i64 (fL), .int .i64 (fH)] 25))
  have F9 := hide (Blk.new w8 25 #[.int .i64 (fL), .int .i64 (fH)])
  have K9 := hide (K8.out.alloc (.cells #[.int .i64 (fL), .int .i64 (fH)] 25))
  have N9 := hide (N8.out.alloc (.cells #[.int .i64 (fL), .int .i64 (fH)] 25))
  obtain ⟨eKl, eK0, eK1⟩ := bx2 K9.out
  obtain ⟨eNl, eN0, eN1⟩ := bx2 N9.out
  obtain ⟨eFl, eF0, eF1⟩ := bx2 F9.out
  go_wp2_with fail
  generalize hw9 : w8.alloc (.cells #[.int .i64 (fL), .int .i64 (fH)] 25) = w9 at B9 K9 N9 F9 eKl eK0 eK1 eNl eN0 eN1 eFl eF0 eF1 ⊢
  clear hw9
  refine wp_cut (fun a a' w' => ∃ (v4 : Value) (b : Nat), a' = (((((((((((a.put (some 122) (.pointer (some ⟨w8.heap.size, 0, none⟩))).put (some 123) (.int .i64 fL)).put (some 124) (.slice (some ⟨ab, aoff, none⟩) m c)).put (some 125) (.slice (if c = 1 then some ⟨ab, aoff, none⟩ else some ⟨ab, aoff + 2, none⟩) (m - 1) (c - 1))).put (some 126) v4).put (some 127) (.tuple #[.agg #[.int .i64 aL, .int .i64 zH], .int .i64 0])).put (some 121) (.tuple #[.agg #[.int .i64 aL, .int .i64 zH], .int .i64 0])).put (some 128) (.agg #[.int .i64 aL, .int .i64 zH])).put (some 129) (.int .i64 0)).put (some 11) (.pointer (some ⟨b, 0, none⟩))).put (some 7) (.int .i64 0)) ∧ Below w9.heap.size w9 w' ∧ w9.heap.size ≤ b ∧ Blk w' b 25 #[.int .i64 aL, .int .i64 zH]) ?_ ?_
  · have HSF : Hid (∀ W', Below w9.heap.size w9 W' → W'.cell? ⟨w8.heap.size, 0, none⟩ = some (.int .i64 fL)) := hide (fun W' hb => (hb.cell (p := ⟨w8.heap.size, 0, none⟩) eFl).trans eF0)
    have Bd := hide (Below.refl w9.heap.size w9).drew
    have HB9 := hide (fun W' (hb : Below w9.heap.size w9 W') => B9.out.trans (hb.mono B9.out.size))
    refine wp_region_J (fun W : World => W.cell? ⟨w8.heap.size, 0, none⟩ = some (.int .i64 fL)) (by kernel_rfl) ?_
    have hHeld : (fun W : World => W.cell? ⟨w8.heap.size, 0, none⟩ = some (.int .i64 fL)) w9.drew := HSF.out _ Bd.out
    clear eKl eK0 eK1 eNl eN0 eN1 eFl eF0 eF1
    refine wpAnyJ_take 0 (v := ?_) (by first | exact hF | exact wideFn) hHeld rfl (by kernel_rfl) (by kernel_rfl) (by kernel_rfl) (by kernel_rfl) rfl ?_ (fun _ _ _ h => h) ?_
    rotate_left
    · intro W hSW
      simp only [List.getElem_toArray, List.getElem_cons_zero, List.getElem_cons_succ]
      (try dsimp only at hSW)
      go_simp
      with_reducible rfl
    (try simp only [List.getElem_toArray, List.getElem_cons_zero, List.getElem_cons_succ, Act.put, List.setIfInBounds_toArray, List.set_cons_zero, List.set_cons_succ])
    refine wpAnyJ_take 1 (v := ?_) (by first | exact hF | exact wideFn) hHeld rfl (by kernel_rfl) (by kernel_rfl) (by kernel_rfl) (by kernel_rfl) rfl ?_ (fun _ _ _ h => h) ?_
    rotate_left
    · intro W hSW
      simp only [List.getElem_toArray, List.getElem_cons_zero, List.getElem_cons_succ]
      (try dsimp only at hSW)
      go_simp
      with_reducible rfl
    (try simp only [List.getElem_toArray, List.getElem_cons_zero, List.getElem_cons_succ, Act.put, List.setIfInBounds_toArray, List.set_cons_zero, List.set_cons_succ])
    refine wpAnyJ_take 2 (v := ?_) (by first | exact hF | exact wideFn) hHeld rfl (by kernel_rfl) (by kernel_rfl) (by kernel_rfl) (by kernel_rfl) rfl ?_ (fun _ _ _ h => h) ?_
    rotate_left
    · intro W hSW
      simp only [List.getElem_toArray, List.getElem_cons_zero, List.getElem_cons_succ]
      (try dsimp only at hSW)
      go_simp
      with_reducible rfl
    (try simp only [List.getElem_toArray, List.getElem_cons_zero, List.getElem_cons_succ, Act.put, List.setIfInBounds_toArray, List.set_cons_zero, List.set_cons_succ])
    refine wpAnyJ_take 3 (v := ?_) (by first | exact hF | exact wideFn) hHeld rfl (by kernel_rfl) (by kernel_rfl) (by kernel_rfl) (by kernel_rfl) rfl ?_ (fun _ _ _ h => h) ?_
    rotate_left
    · intro W hSW
      simp only [List.getElem_toArray, List.getElem_cons_zero, List.getElem_cons_succ]
      (try dsimp only at hSW)
      go_simp
      with_reducible rfl
    (try simp only [List.getElem_toArray, List.getElem_cons_zero, List.getElem_cons_succ, Act.put, List.setIfInBounds_toArray, List.set_cons_zero, List.set_cons_succ])
    clear hHeld
    refine wpAnyJ_two 4 9 rfl rfl (by kernel_rfl) (fun K hK => ?_) (fun K hK => ?_)
    · simp only [List.getElem_toArray, List.getElem_cons_zero, List.getElem_cons_succ]
      go_simp
      refine ⟨trivial, rfl, ?_⟩
      refine (callsIn_wide.2 (HS2.out _ (HB9.out _ Bd.out))).mono ?_
      rintro e w10 ⟨A10, c10, rfl, hR10, hb10⟩
      have Be := hide (Bd.out.trans (hb10.mono Bd.out.size))
      dsimp only
      refine hK.out _ _ (fun _ => HSF.out _ Be.out) ?_
      clear hK K
      (try simp only [List.getElem_toArray, List.getElem_cons_zero, List.getElem_cons_succ, Act.put, List.setIfInBounds_toArray, List.set_cons_zero, List.set_cons_succ])
      have HR10 := hide hR10
      clear hR10 hb10
      refine wpAnyJ_two 5 9 rfl rfl (by kernel_rfl) (fun K hK => ?_) (fun K hK => ?_)
      · simp only [List.getElem_toArray, List.getElem_cons_zero, List.getElem_cons_succ]
        go_simp
        refine ⟨trivial, rfl, ?_⟩
        refine (callsIn_wide.2 (HLo.out _ _ _ HR10.out)).mono ?_
        rintro e w11 ⟨rfl, hb11⟩
        have Bf := hide (Be.out.trans (hb11.mono Be.out.size))
        dsimp only
        refine hK.out _ _ (fun _ => HSF.out _ Bf.out) ?_
        clear hK K
        (try simp only [List.getElem_toArray, List.getElem_cons_zero, List.getElem_cons_succ, Act.put, List.setIfInBounds_toArray, List.set_cons_zero, List.set_cons_succ])
        clear hb11 HR10
        refine wpAnyJ_take 6 (v := ?_) (by first | exact hF | exact wideFn) (HSF.out _ Bf.out) rfl (by kernel_rfl) (by kernel_rfl) (by kernel_rfl) (by kernel_rfl) rfl ?_ (fun _ _ _ h => h) ?_
        rotate_left
        · intro W hSW
          simp only [List.getElem_toArray, List.getElem_cons_zero, List.getElem_cons_succ]
          (try dsimp only at hSW)
          go_simp
          with_reducible rfl
        (try simp only [List.getElem_toArray, List.getElem_cons_zero, List.getElem_cons_succ, Act.put, List.setIfInBounds_toArray, List.set_cons_zero, List.set_cons_succ])
        refine wpAnyJ_take 7 (v := ?_) (by first | exact hF | exact wideFn) (HSF.out _ Bf.out) rfl (by kernel_rfl) (by kernel_rfl) (by kernel_rfl) (by kernel_rfl) rfl ?_ (fun _ _ _ h => h) ?_
        rotate_left
        · intro W hSW
          simp only [List.getElem_toArray, List.getElem_cons_zero, List.getElem_cons_succ]
          (try dsimp only at hSW)
          go_simp
          with_reducible rfl
        (try simp only [List.getElem_toArray, List.getElem_cons_zero, List.getElem_cons_succ, Act.put, List.setIfInBounds_toArray, List.set_cons_zero, List.set_cons_succ])
        refine wpAnyJ_take 8 (v := ?_) (by first | exact hF | exact wideFn) (HSF.out _ Bf.out) rfl (by kernel_rfl) (by kernel_rfl) (by kernel_rfl) (by kernel_rfl) rfl ?_ (fun _ _ _ h => h) ?_
        rotate_left
        · intro W hSW
          simp only [List.getElem_toArray, List.getElem_cons_zero, List.getElem_cons_succ]
          (try dsimp only at hSW)
          go_simp
          with_reducible rfl
        (try simp only [List.getElem_toArray, List.getElem_cons_zero, List.getElem_cons_succ, Act.put, List.setIfInBounds_toArray, List.set_cons_zero, List.set_cons_succ])
        refine wpAnyJ_one 9 rfl (by kernel_rfl) (fun K hK => ?_)
        simp only [List.getElem_toArray, List.getElem_cons_zero, List.getElem_cons_succ]
        go_simp
        refine hK.out _ _ (fun _ => HSF.out _ (Bf.out.alloc Bf.out.size _)) ?_
        clear hK K
        (try simp only [List.getElem_toArray, List.getElem_cons_zero, List.getElem_cons_succ, Act.put, List.setIfInBounds_toArray, List.set_cons_zero, List.set_cons_succ])
        refine wpAnyJ_one 10 rfl (by kernel_rfl) (fun K hK => ?_)
        simp only [List.getElem_toArray, List.getElem_cons_zero, List.getElem_cons_succ]
        go_simp
        refine hK.out _ _ (fun _ => HSF.out _ (Bf.out.alloc Bf.out.size _)) ?_
        clear hK K
        (try simp only [List.getElem_toArray, List.getElem_cons_zero, List.getElem_cons_succ, Act.put, List.setIfInBounds_toArray, List.set_cons_zero, List.set_cons_succ])
        refine wpAnyJ_take 11 (v := ?_) (by first | exact hF | exact wideFn) (HSF.out _ (Bf.out.alloc Bf.out.size _)) rfl (by kernel_rfl) (by kernel_rfl) (by kernel_rfl) (by kernel_rfl) rfl ?_ (fun _ _ _ h => h) ?_
        rotate_left
        · intro W hSW
          simp only [List.getElem_toArray, List.getElem_cons_zero, List.getElem_cons_succ]
          (try dsimp only at hSW)
          go_simp
          with_reducible rfl
        (try simp only [List.getElem_toArray, List.getElem_cons_zero, List.getElem_cons_succ, Act.put, List.setIfInBounds_toArray, List.set_cons_zero, List.set_cons_succ])
        refine wpAnyJ_done (by kernel_rfl) ?_
        exact ⟨_, _, rfl, Bf.out.alloc Bf.out.size _, Bf.out.size, Blk.new _ _ _⟩
      · simp only [List.getElem_toArray, List.getElem_cons_zero, List.getElem_cons_succ]
        go_simp
        refine hK.out _ _ (fun _ => HSF.out _ (Be.out.alloc Be.out.size _)) ?_
        clear hK K
        (try simp only [List.getElem_toArray, List.getElem_cons_zero, List.getElem_cons_succ, Act.put, List.setIfInBounds_toArray, List.set_cons_zero, List.set_cons_succ])
        have Z10 := hide (Blk.new w10 25 #[.int .i64 0, .int .i64 0])
        have Bf := hide (Be.out.alloc Be.out.size (.cells #[.int .i64 (0), .int .i64 (0)] 25))
        have hRz : PI (w10.alloc (.cells #[.int .i64 (0), .int .i64 (0)] 25)) (w10.alloc (.cells #[.int .i64 (0), .int .i64 (0)] 25)).heap.size A10 (m - 1) (fun i => x (i + 1)) (fun i => y (i + 1)) := (HR10.out.below ((Below.refl _ w10).alloc (Nat.le_refl _) _) (Nat.le_refl _)).more (by simp)
        have HR11 := hide hRz
        clear hRz HR10
        refine wpAnyJ_one 5 rfl (by kernel_rfl) (fun K hK => ?_)
        simp only [List.getElem_toArray, List.getElem_cons_zero, List.getElem_cons_succ]
        go_simp
        refine ⟨trivial, rfl, ?_⟩
        refine (callsIn_wide.2 (HLo.out _ _ _ HR11.out)).mono ?_
        rintro e w11 ⟨rfl, hb11⟩
        have Bg := hide (Bf.out.trans (hb11.mono Bf.out.size))
        dsimp only
        refine hK.out _ _ (fun _ => HSF.out _ Bg.out) ?_
        clear hK K
        (try simp only [List.getElem_toArray, List.getElem_cons_zero, List.getElem_cons_succ, Act.put, List.setIfInBounds_toArray, List.set_cons_zero, List.set_cons_succ])
        have Z11 := hide (Z10.out.ext hb11)
        clear hb11 HR11
        refine wpAnyJ_take 6 (v := ?_) (by first | exact hF | exact wideFn) (HSF.out _ Bg.out) rfl (by kernel_rfl) (by kernel_rfl) (by kernel_rfl) (by kernel_rfl) rfl ?_ (fun _ _ _ h => h) ?_
        rotate_left
        · intro W hSW
          simp only [List.getElem_toArray, List.getElem_cons_zero, List.getElem_cons_succ]
          (try dsimp only at hSW)
          go_simp
          with_reducible rfl
        (try simp only [List.getElem_toArray, List.getElem_cons_zero, List.getElem_cons_succ, Act.put, List.setIfInBounds_toArray, List.set_cons_zero, List.set_cons_succ])
        refine wpAnyJ_take 7 (v := ?_) (by first | exact hF | exact wideFn) (HSF.out _ Bg.out) rfl (by kernel_rfl) (by kernel_rfl) (by kernel_rfl) (by kernel_rfl) rfl ?_ (fun _ _ _ h => h) ?_
        rotate_left
        · intro W hSW
          simp only [List.getElem_toArray, List.getElem_cons_zero, List.getElem_cons_succ]
          (try dsimp only at hSW)
          go_simp
          with_reducible rfl
        (try simp only [List.getElem_toArray, List.getElem_cons_zero, List.getElem_cons_succ, Act.put, List.setIfInBounds_toArray, List.set_cons_zero, List.set_cons_succ])
        refine wpAnyJ_take 8 (v := ?_) (by first | exact hF | exact wideFn) (HSF.out _ Bg.out) rfl (by kernel_rfl) (by kernel_rfl) (by kernel_rfl) (by kernel_rfl) rfl ?_ (fun _ _ _ h => h) ?_
        rotate_left
        · intro W hSW
          simp only [List.getElem_toArray, List.getElem_cons_zero, List.getElem_cons_succ]
          (try dsimp only at hSW)
          go_simp
          with_reducible rfl
        (try simp only [List.getElem_toArray, List.getElem_cons_zero, List.getElem_cons_succ, Act.put, List.setIfInBounds_toArray, List.set_cons_zero, List.set_cons_succ])
        obtain ⟨g0, g1, g2, g3, g4⟩ := blk2 Z11.out
        refine wpAnyJ_one 10 rfl (by kernel_rfl) (fun K hK => ?_)
        simp only [List.getElem_toArray, List.getElem_cons_zero, List.getElem_cons_succ]
        go_simp
        refine hK.out _ _ (fun _ => HSF.out _ (set2B Bg.out Be.out.size _ _)) ?_
        clear hK K
        (try simp only [List.getElem_toArray, List.getElem_cons_zero, List.getElem_cons_succ, Act.put, List.setIfInBounds_toArray, List.set_cons_zero, List.set_cons_succ])
        clear g0 g1 g2 g3 g4
        refine wpAnyJ_take 11 (v := ?_) (by first | exact hF | exact wideFn) (HSF.out _ (set2B Bg.out Be.out.size _ _)) rfl (by kernel_rfl) (by kernel_rfl) (by kernel_rfl) (by kernel_rfl) rfl ?_ (fun _ _ _ h => h) ?_
        rotate_left
        · intro W hSW
          simp only [List.getElem_toArray, List.getElem_cons_zero, List.getElem_cons_succ]
          (try dsimp only at hSW)
          go_simp
          with_reducible rfl
        (try simp only [List.getElem_toArray, List.getElem_cons_zero, List.getElem_cons_succ, Act.put, List.setIfInBounds_toArray, List.set_cons_zero, List.set_cons_succ])
        refine wpAnyJ_done (by kernel_rfl) ?_
        exact ⟨_, _, rfl, set2B Bg.out Be.out.size _ _, Be.out.size, Blk.set2 Z11.out _ _⟩
    · simp only [List.getElem_toArray, List.getElem_cons_zero, List.getElem_cons_succ]
      go_simp
      refine hK.out _ _ (fun _ => HSF.out _ (Bd.out.alloc Bd.out.size _)) ?_
      clear hK K
      (try simp only [List.getElem_toArray, List.getElem_cons_zero, List.getElem_cons_succ, Act.put, List.setIfInBounds_toArray, List.set_cons_zero, List.set_cons_succ])
      have Z9 := hide (Blk.new w9.drew 25 #[.int .i64 0, .int .i64 0])
      have Be := hide (Bd.out.alloc Bd.out.size (.cells #[.int .i64 (0), .int .i64 (0)] 25))
      have hzz : w9.drew.heap.size = w9.heap.size := rfl
      rw [hzz] at Z9
      clear hzz
      refine wpAnyJ_one 4 rfl (by kernel_rfl) (fun K hK => ?_)
      simp only [List.getElem_toArray, List.getElem_cons_zero, List.getElem_cons_succ]
      go_simp
      refine ⟨trivial, rfl, ?_⟩
      refine (callsIn_wide.2 (HS2.out _ (HB9.out _ Be.out))).mono ?_
      rintro e w10 ⟨A10, c10, rfl, hR10, hb10⟩
      have Bf := hide (Be.out.trans (hb10.mono Be.out.size))
      dsimp only
      refine hK.out _ _ (fun _ => HSF.out _ Bf.out) ?_
      clear hK K
      (try simp only [List.getElem_toArray, List.getElem_cons_zero, List.getElem_cons_succ, Act.put, List.setIfInBounds_toArray, List.set_cons_zero, List.set_cons_succ])
      have HR10 := hide hR10
      have Z10 := hide (Z9.out.ext hb10)
      clear hR10 hb10
      refine wpAnyJ_one 5 rfl (by kernel_rfl) (fun K hK => ?_)
      simp only [List.getElem_toArray, List.getElem_cons_zero, List.getElem_cons_succ]
      go_simp
      refine ⟨trivial, rfl, ?_⟩
      refine (callsIn_wide.2 (HLo.out _ _ _ HR10.out)).mono ?_
      rintro e w11 ⟨rfl, hb11⟩
      have Bg := hide (Bf.out.trans (hb11.mono Bf.out.size))
      dsimp only
      refine hK.out _ _ (fun _ => HSF.out _ Bg.out) ?_
      clear hK K
      (try simp only [List.getElem_toArray, List.getElem_cons_zero, List.getElem_cons_succ, Act.put, List.setIfInBounds_toArray, List.set_cons_zero, List.set_cons_succ])
      have Z11 := hide (Z10.out.ext hb11)
      clear hb11 HR10
      refine wpAnyJ_take 6 (v := ?_) (by first | exact hF | exact wideFn) (HSF.out _ Bg.out) rfl (by kernel_rfl) (by kernel_rfl) (by kernel_rfl) (by kernel_rfl) rfl ?_ (fun _ _ _ h => h) ?_
      rotate_left
      · intro W hSW
        simp only [List.getElem_toArray, List.getElem_cons_zero, List.getElem_cons_succ]
        (try dsimp only at hSW)
        go_simp
        with_reducible rfl
      (try simp only [List.getElem_toArray, List.getElem_cons_zero, List.getElem_cons_succ, Act.put, List.setIfInBounds_toArray, List.set_cons_zero, List.set_cons_succ])
      refine wpAnyJ_take 7 (v := ?_) (by first | exact hF | exact wideFn) (HSF.out _ Bg.out) rfl (by kernel_rfl) (by kernel_rfl) (by kernel_rfl) (by kernel_rfl) rfl ?_ (fun _ _ _ h => h) ?_
      rotate_left
      · intro W hSW
        simp only [List.getElem_toArray, List.getElem_cons_zero, List.getElem_cons_succ]
        (try dsimp only at hSW)
        go_simp
        with_reducible rfl
      (try simp only [List.getElem_toArray, List.getElem_cons_zero, List.getElem_cons_succ, Act.put, List.setIfInBounds_toArray, List.set_cons_zero, List.set_cons_succ])
      refine wpAnyJ_take 8 (v := ?_) (by first | exact hF | exact wideFn) (HSF.out _ Bg.out) rfl (by kernel_rfl) (by kernel_rfl) (by kernel_rfl) (by kernel_rfl) rfl ?_ (fun _ _ _ h => h) ?_
      rotate_left
      · intro W hSW
        simp only [List.getElem_toArray, List.getElem_cons_zero, List.getElem_cons_succ]
        (try dsimp only at hSW)
        go_simp
        with_reducible rfl
      (try simp only [List.getElem_toArray, List.getElem_cons_zero, List.getElem_cons_succ, Act.put, List.setIfInBounds_toArray, List.set_cons_zero, List.set_cons_succ])
      obtain ⟨g0, g1, g2, g3, g4⟩ := blk2 Z11.out
      refine wpAnyJ_one 10 rfl (by kernel_rfl) (fun K hK => ?_)
      simp only [List.getElem_toArray, List.getElem_cons_zero, List.getElem_cons_succ]
      go_simp
      refine hK.out _ _ (fun _ => HSF.out _ (set2B Bg.out (Nat.le_refl _) _ _)) ?_
      clear hK K
      (try simp only [List.getElem_toArray, List.getElem_cons_zero, List.getElem_cons_succ, Act.put, List.setIfInBounds_toArray, List.set_cons_zero, List.set_cons_succ])
      clear g0 g1 g2 g3 g4
      refine wpAnyJ_take 11 (v := ?_) (by first | exact hF | exact wideFn) (HSF.out _ (set2B Bg.out (Nat.le_refl _) _ _)) rfl (by kernel_rfl) (by kernel_rfl) (by kernel_rfl) (by kernel_rfl) rfl ?_ (fun _ _ _ h => h) ?_
      rotate_left
      · intro W hSW
        simp only [List.getElem_toArray, List.getElem_cons_zero, List.getElem_cons_succ]
        (try dsimp only at hSW)
        go_simp
        with_reducible rfl
      (try simp only [List.getElem_toArray, List.getElem_cons_zero, List.getElem_cons_succ, Act.put, List.setIfInBounds_toArray, List.set_cons_zero, List.set_cons_succ])
      refine wpAnyJ_done (by kernel_rfl) ?_
      exact ⟨_, _, rfl, set2B Bg.out (Nat.le_refl _) _ _, Nat.le_refl _, Blk.set2 Z11.out _ _⟩
  rintro a' w13 ⟨v4, b11, rfl, hb13, hbb, hT⟩
  have B13 := hide (B9.out.trans (hb13.mono B9.out.size))
  have T13 := hide hT
  have K13 := hide (K9.out.ext hb13)
  have N13 := hide (N9.out.ext hb13)
  have F13 := hide (F9.out.ext hb13)
  have zz9 := B9.out.size
  have zz13 := hb13.size
  simp only [Act.put, List.setIfInBounds_toArray, List.set_cons_zero, List.set_cons_succ]
  clear hb13 hT
  generalize (if c = 1 then (some ⟨ab, aoff, none⟩ : Option Addr) else some ⟨ab, aoff + 2, none⟩) = Q1
  obtain ⟨eKl, eK0, eK1⟩ := bx2 K13.out
  obtain ⟨eNl, eN0, eN1⟩ := bx2 N13.out
  obtain ⟨eFl, eF0, eF1⟩ := bx2 F13.out
  go_wp2_with fail
  refine wp_cut (fun a a' w' => ∃ (v4 : Value) (b : Nat), a' = (((((((((((a.put (some 131) (.pointer (some ⟨w8.heap.size, 1, none⟩))).put (some 132) (.int .i64 fH)).put (some 133) (.slice (some ⟨ab, aoff, none⟩) m c)).put (some 134) (.slice (if c = 1 then some ⟨ab, aoff, none⟩ else some ⟨ab, aoff + 2, none⟩) (m - 1) (c - 1))).put (some 135) v4).put (some 136) (.tuple #[.agg #[.int .i64 zL, .int .i64 aH], .int .i64 0])).put (some 130) (.tuple #[.agg #[.int .i64 zL, .int .i64 aH], .int .i64 0])).put (some 137) (.agg #[.int .i64 zL, .int .i64 aH])).put (some 138) (.int .i64 0)).put (some 12) (.pointer (some ⟨b, 0, none⟩))).put (some 10) (.int .i64 0)) ∧ Below w13.heap.size w13 w' ∧ w13.heap.size ≤ b ∧ Blk w' b 25 #[.int .i64 zL, .int .i64 aH]) ?_ ?_
  · have HSF : Hid (∀ W', Below w13.heap.size w13 W' → W'.cell? ⟨w8.heap.size, 1, none⟩ = some (.int .i64 fH)) := hide (fun W' hb => (hb.cell (p := ⟨w8.heap.size, 1, none⟩) eFl).trans eF1)
    have Bd := hide (Below.refl w13.heap.size w13).drew
    have HB13 := hide (fun W' (hb : Below w13.heap.size w13 W') => B13.out.trans (hb.mono B13.out.size))
    refine wp_region_J (fun W : World => W.cell? ⟨w8.heap.size, 1, none⟩ = some (.int .i64 fH)) (by kernel_rfl) ?_
    have hHeld : (fun W : World => W.cell? ⟨w8.heap.size, 1, none⟩ = some (.int .i64 fH)) w13.drew := HSF.out _ Bd.out
    clear eKl eK0 eK1 eNl eN0 eN1 eFl eF0 eF1
    refine wpAnyJ_take 0 (v := ?_) (by first | exact hF | exact wideFn) hHeld rfl (by kernel_rfl) (by kernel_rfl) (by kernel_rfl) (by kernel_rfl) rfl ?_ (fun _ _ _ h => h) ?_
    rotate_left
    · intro W hSW
      simp only [List.getElem_toArray, List.getElem_cons_zero, List.getElem_cons_succ]
      (try dsimp only at hSW)
      go_simp
      with_reducible rfl
    (try simp only [List.getElem_toArray, List.getElem_cons_zero, List.getElem_cons_succ, Act.put, List.setIfInBounds_toArray, List.set_cons_zero, List.set_cons_succ])
    refine wpAnyJ_take 1 (v := ?_) (by first | exact hF | exact wideFn) hHeld rfl (by kernel_rfl) (by kernel_rfl) (by kernel_rfl) (by kernel_rfl) rfl ?_ (fun _ _ _ h => h) ?_
    rotate_left
    · intro W hSW
      simp only [List.getElem_toArray, List.getElem_cons_zero, List.getElem_cons_succ]
      (try dsimp only at hSW)
      go_simp
      with_reducible rfl
    (try simp only [List.getElem_toArray, List.getElem_cons_zero, List.getElem_cons_succ, Act.put, List.setIfInBounds_toArray, List.set_cons_zero, List.set_cons_succ])
    refine wpAnyJ_take 2 (v := ?_) (by first | exact hF | exact wideFn) hHeld rfl (by kernel_rfl) (by kernel_rfl) (by kernel_rfl) (by kernel_rfl) rfl ?_ (fun _ _ _ h => h) ?_
    rotate_left
    · intro W hSW
      simp only [List.getElem_toArray, List.getElem_cons_zero, List.getElem_cons_succ]
      (try dsimp only at hSW)
      go_simp
      with_reducible rfl
    (try simp only [List.getElem_toArray, List.getElem_cons_zero, List.getElem_cons_succ, Act.put, List.setIfInBounds_toArray, List.set_cons_zero, List.set_cons_succ])
    refine wpAnyJ_take 3 (v := ?_) (by first | exact hF | exact wideFn) hHeld rfl (by kernel_rfl) (by kernel_rfl) (by kernel_rfl) (by kernel_rfl) rfl ?_ (fun _ _ _ h => h) ?_
    rotate_left
    · intro W hSW
      simp only [List.getElem_toArray, List.getElem_cons_zero, List.getElem_cons_succ]
      (try dsimp only at hSW)
      go_simp
      with_reducible rfl
    (try simp only [List.getElem_toArray, List.getElem_cons_zero, List.getElem_cons_succ, Act.put, List.setIfInBounds_toArray, List.set_cons_zero, List.set_cons_succ])
    clear hHeld
    refine wpAnyJ_two 4 9 rfl rfl (by kernel_rfl) (fun K hK => ?_) (fun K hK => ?_)
    · simp only [List.getElem_toArray, List.getElem_cons_zero, List.getElem_cons_succ]
      go_simp
      refine ⟨trivial, rfl, ?_⟩
      refine (callsIn_wide.2 (HS2.out _ (HB13.out _ Bd.out))).mono ?_
      rintro e w10 ⟨A10, c10, rfl, hR10, hb10⟩
      have Be := hide (Bd.out.trans (hb10.mono Bd.out.size))
      dsimp only
      refine hK.out _ _ (fun _ => HSF.out _ Be.out) ?_
      clear hK K
      (try simp only [List.getElem_toArray, List.getElem_cons_zero, List.getElem_cons_succ, Act.put, List.setIfInBounds_toArray, List.set_cons_zero, List.set_cons_succ])
      have HR10 := hide hR10
      clear hR10 hb10
      refine wpAnyJ_two 5 9 rfl rfl (by kernel_rfl) (fun K hK => ?_) (fun K hK => ?_)
      · simp only [List.getElem_toArray, List.getElem_cons_zero, List.getElem_cons_succ]
        go_simp
        refine ⟨trivial, rfl, ?_⟩
        refine (callsIn_wide.2 (HHi.out _ _ _ HR10.out)).mono ?_
        rintro e w11 ⟨rfl, hb11⟩
        have Bf := hide (Be.out.trans (hb11.mono Be.out.size))
        dsimp only
        refine hK.out _ _ (fun _ => HSF.out _ Bf.out) ?_
        clear hK K
        (try simp only [List.getElem_toArray, List.getElem_cons_zero, List.getElem_cons_succ, Act.put, List.setIfInBounds_toArray, List.set_cons_zero, List.set_cons_succ])
        clear hb11 HR10
        refine wpAnyJ_take 6 (v := ?_) (by first | exact hF | exact wideFn) (HSF.out _ Bf.out) rfl (by kernel_rfl) (by kernel_rfl) (by kernel_rfl) (by kernel_rfl) rfl ?_ (fun _ _ _ h => h) ?_
        rotate_left
        · intro W hSW
          simp only [List.getElem_toArray, List.getElem_cons_zero, List.getElem_cons_succ]
          (try dsimp only at hSW)
          go_simp
          with_reducible rfl
        (try simp only [List.getElem_toArray, List.getElem_cons_zero, List.getElem_cons_succ, Act.put, List.setIfInBounds_toArray, List.set_cons_zero, List.set_cons_succ])
        refine wpAnyJ_take 7 (v := ?_) (by first | exact hF | exact wideFn) (HSF.out _ Bf.out) rfl (by kernel_rfl) (by kernel_rfl) (by kernel_rfl) (by kernel_rfl) rfl ?_ (fun _ _ _ h => h) ?_
        rotate_left
        · intro W hSW
          simp only [List.getElem_toArray, List.getElem_cons_zero, List.getElem_cons_succ]
          (try dsimp only at hSW)
          go_simp
          with_reducible rfl
        (try simp only [List.getElem_toArray, List.getElem_cons_zero, List.getElem_cons_succ, Act.put, List.setIfInBounds_toArray, List.set_cons_zero, List.set_cons_succ])
        refine wpAnyJ_take 8 (v := ?_) (by first | exact hF | exact wideFn) (HSF.out _ Bf.out) rfl (by kernel_rfl) (by kernel_rfl) (by kernel_rfl) (by kernel_rfl) rfl ?_ (fun _ _ _ h => h) ?_
        rotate_left
        · intro W hSW
          simp only [List.getElem_toArray, List.getElem_cons_zero, List.getElem_cons_succ]
          (try dsimp only at hSW)
          go_simp
          with_reducible rfl
        (try simp only [List.getElem_toArray, List.getElem_cons_zero, List.getElem_cons_succ, Act.put, List.setIfInBounds_toArray, List.set_cons_zero, List.set_cons_succ])
        refine wpAnyJ_one 9 rfl (by kernel_rfl) (fun K hK => ?_)
        simp only [List.getElem_toArray, List.getElem_cons_zero, List.getElem_cons_succ]
        go_simp
        refine hK.out _ _ (fun _ => HSF.out _ (Bf.out.alloc Bf.out.size _)) ?_
        clear hK K
        (try simp only [List.getElem_toArray, List.getElem_cons_zero, List.getElem_cons_succ, Act.put, List.setIfInBounds_toArray, List.set_cons_zero, List.set_cons_succ])
        refine wpAnyJ_one 10 rfl (by kernel_rfl) (fun K hK => ?_)
        simp only [List.getElem_toArray, List.getElem_cons_zero, List.getElem_cons_succ]
        go_simp
        refine hK.out _ _ (fun _ => HSF.out _ (Bf.out.alloc Bf.out.size _)) ?_
        clear hK K
        (try simp only [List.getElem_toArray, List.getElem_cons_zero, List.getElem_cons_succ, Act.put, List.setIfInBounds_toArray, List.set_cons_zero, List.set_cons_succ])
        refine wpAnyJ_take 11 (v := ?_) (by first | exact hF | exact wideFn) (HSF.out _ (Bf.out.alloc Bf.out.size _)) rfl (by kernel_rfl) (by kernel_rfl) (by kernel_rfl) (by kernel_rfl) rfl ?_ (fun _ _ _ h => h) ?_
        rotate_left
        · intro W hSW
          simp only [List.getElem_toArray, List.getElem_cons_zero, List.getElem_cons_succ]
          (try dsimp only at hSW)
          go_simp
          with_reducible rfl
        (try simp only [List.getElem_toArray, List.getElem_cons_zero, List.getElem_cons_succ, Act.put, List.setIfInBounds_toArray, List.set_cons_zero, List.set_cons_succ])
        refine wpAnyJ_done (by kernel_rfl) ?_
        exact ⟨_, _, rfl, Bf.out.alloc Bf.out.size _, Bf.out.size, Blk.new _ _ _⟩
      · simp only [List.getElem_toArray, List.getElem_cons_zero, List.getElem_cons_succ]
        go_simp
        refine hK.out _ _ (fun _ => HSF.out _ (Be.out.alloc Be.out.size _)) ?_
        clear hK K
        (try simp only [List.getElem_toArray, List.getElem_cons_zero, List.getElem_cons_succ, Act.put, List.setIfInBounds_toArray, List.set_cons_zero, List.set_cons_succ])
        have Z10 := hide (Blk.new w10 25 #[.int .i64 0, .int .i64 0])
        have Bf := hide (Be.out.alloc Be.out.size (.cells #[.int .i64 (0), .int .i64 (0)] 25))
        have hRz : PI (w10.alloc (.cells #[.int .i64 (0), .int .i64 (0)] 25)) (w10.alloc (.cells #[.int .i64 (0), .int .i64 (0)] 25)).heap.size A10 (m - 1) (fun i => x (i + 1)) (fun i => y (i + 1)) := (HR10.out.below ((Below.refl _ w10).alloc (Nat.le_refl _) _) (Nat.le_refl _)).more (by simp)
        have HR11 := hide hRz
        clear hRz HR10
        refine wpAnyJ_one 5 rfl (by kernel_rfl) (fun K hK => ?_)
        simp only [List.getElem_toArray, List.getElem_cons_zero, List.getElem_cons_succ]
        go_simp
        refine ⟨trivial, rfl, ?_⟩
        refine (callsIn_wide.2 (HHi.out _ _ _ HR11.out)).mono ?_
        rintro e w11 ⟨rfl, hb11⟩
        have Bg := hide (Bf.out.trans (hb11.mono Bf.out.size))
        dsimp only
        refine hK.out _ _ (fun _ => HSF.out _ Bg.out) ?_
        clear hK K
        (try simp only [List.getElem_toArray, List.getElem_cons_zero, List.getElem_cons_succ, Act.put, List.setIfInBounds_toArray, List.set_cons_zero, List.set_cons_succ])
        have Z11 := hide (Z10.out.ext hb11)
        clear hb11 HR11
        refine wpAnyJ_take 6 (v := ?_) (by first | exact hF | exact wideFn) (HSF.out _ Bg.out) rfl (by kernel_rfl) (by kernel_rfl) (by kernel_rfl) (by kernel_rfl) rfl ?_ (fun _ _ _ h => h) ?_
        rotate_left
        · intro W hSW
          simp only [List.getElem_toArray, List.getElem_cons_zero, List.getElem_cons_succ]
          (try dsimp only at hSW)
          go_simp
          with_reducible rfl
        (try simp only [List.getElem_toArray, List.getElem_cons_zero, List.getElem_cons_succ, Act.put, List.setIfInBounds_toArray, List.set_cons_zero, List.set_cons_succ])
        refine wpAnyJ_take 7 (v := ?_) (by first | exact hF | exact wideFn) (HSF.out _ Bg.out) rfl (by kernel_rfl) (by kernel_rfl) (by kernel_rfl) (by kernel_rfl) rfl ?_ (fun _ _ _ h => h) ?_
        rotate_left
        · intro W hSW
          simp only [List.getElem_toArray, List.getElem_cons_zero, List.getElem_cons_succ]
          (try dsimp only at hSW)
          go_simp
          with_reducible rfl
        (try simp only [List.getElem_toArray, List.getElem_cons_zero, List.getElem_cons_succ, Act.put, List.setIfInBounds_toArray, List.set_cons_zero, List.set_cons_succ])
        refine wpAnyJ_take 8 (v := ?_) (by first | exact hF | exact wideFn) (HSF.out _ Bg.out) rfl (by kernel_rfl) (by kernel_rfl) (by kernel_rfl) (by kernel_rfl) rfl ?_ (fun _ _ _ h => h) ?_
        rotate_left
        · intro W hSW
          simp only [List.getElem_toArray, List.getElem_cons_zero, List.getElem_cons_succ]
          (try dsimp only at hSW)
          go_simp
          with_reducible rfl
        (try simp only [List.getElem_toArray, List.getElem_cons_zero, List.getElem_cons_succ, Act.put, List.setIfInBounds_toArray, List.set_cons_zero, List.set_cons_succ])
        obtain ⟨g0, g1, g2, g3, g4⟩ := blk2 Z11.out
        refine wpAnyJ_one 10 rfl (by kernel_rfl) (fun K hK => ?_)
        simp only [List.getElem_toArray, List.getElem_cons_zero, List.getElem_cons_succ]
        go_simp
        refine hK.out _ _ (fun _ => HSF.out _ (set2B Bg.out Be.out.size _ _)) ?_
        clear hK K
        (try simp only [List.getElem_toArray, List.getElem_cons_zero, List.getElem_cons_succ, Act.put, List.setIfInBounds_toArray, List.set_cons_zero, List.set_cons_succ])
        clear g0 g1 g2 g3 g4
        refine wpAnyJ_take 11 (v := ?_) (by first | exact hF | exact wideFn) (HSF.out _ (set2B Bg.out Be.out.size _ _)) rfl (by kernel_rfl) (by kernel_rfl) (by kernel_rfl) (by kernel_rfl) rfl ?_ (fun _ _ _ h => h) ?_
        rotate_left
        · intro W hSW
          simp only [List.getElem_toArray, List.getElem_cons_zero, List.getElem_cons_succ]
          (try dsimp only at hSW)
          go_simp
          with_reducible rfl
        (try simp only [List.getElem_toArray, List.getElem_cons_zero, List.getElem_cons_succ, Act.put, List.setIfInBounds_toArray, List.set_cons_zero, List.set_cons_succ])
        refine wpAnyJ_done (by kernel_rfl) ?_
        exact ⟨_, _, rfl, set2B Bg.out Be.out.size _ _, Be.out.size, Blk.set2 Z11.out _ _⟩
    · simp only [List.getElem_toArray, List.getElem_cons_zero, List.getElem_cons_succ]
      go_simp
      refine hK.out _ _ (fun _ => HSF.out _ (Bd.out.alloc Bd.out.size _)) ?_
      clear hK K
      (try simp only [List.getElem_toArray, List.getElem_cons_zero, List.getElem_cons_succ, Act.put, List.setIfInBounds_toArray, List.set_cons_zero, List.set_cons_succ])
      have Z9 := hide (Blk.new w13.drew 25 #[.int .i64 0, .int .i64 0])
      have Be := hide (Bd.out.alloc Bd.out.size (.cells #[.int .i64 (0), .int .i64 (0)] 25))
      have hzz : w13.drew.heap.size = w13.heap.size := rfl
      rw [hzz] at Z9
      clear hzz
      refine wpAnyJ_one 4 rfl (by kernel_rfl) (fun K hK => ?_)
      simp only [List.getElem_toArray, List.getElem_cons_zero, List.getElem_cons_succ]
      go_simp
      refine ⟨trivial, rfl, ?_⟩
      refine (callsIn_wide.2 (HS2.out _ (HB13.out _ Be.out))).mono ?_
      rintro e w10 ⟨A10, c10, rfl, hR10, hb10⟩
      have Bf := hide (Be.out.trans (hb10.mono Be.out.size))
      dsimp only
      refine hK.out _ _ (fun _ => HSF.out _ Bf.out) ?_
      clear hK K
      (try simp only [List.getElem_toArray, List.getElem_cons_zero, List.getElem_cons_succ, Act.put, List.setIfInBounds_toArray, List.set_cons_zero, List.set_cons_succ])
      have HR10 := hide hR10
      have Z10 := hide (Z9.out.ext hb10)
      clear hR10 hb10
      refine wpAnyJ_one 5 rfl (by kernel_rfl) (fun K hK => ?_)
      simp only [List.getElem_toArray, List.getElem_cons_zero, List.getElem_cons_succ]
      go_simp
      refine ⟨trivial, rfl, ?_⟩
      refine (callsIn_wide.2 (HHi.out _ _ _ HR10.out)).mono ?_
      rintro e w11 ⟨rfl, hb11⟩
      have Bg := hide (Bf.out.trans (hb11.mono Bf.out.size))
      dsimp only
      refine hK.out _ _ (fun _ => HSF.out _ Bg.out) ?_
      clear hK K
      (try simp only [List.getElem_toArray, List.getElem_cons_zero, List.getElem_cons_succ, Act.put, List.setIfInBounds_toArray, List.set_cons_zero, List.set_cons_succ])
      have Z11 := hide (Z10.out.ext hb11)
      clear hb11 HR10
      refine wpAnyJ_take 6 (v := ?_) (by first | exact hF | exact wideFn) (HSF.out _ Bg.out) rfl (by kernel_rfl) (by kernel_rfl) (by kernel_rfl) (by kernel_rfl) rfl ?_ (fun _ _ _ h => h) ?_
      rotate_left
      · intro W hSW
        simp only [List.getElem_toArray, List.getElem_cons_zero, List.getElem_cons_succ]
        (try dsimp only at hSW)
        go_simp
        with_reducible rfl
      (try simp only [List.getElem_toArray, List.getElem_cons_zero, List.getElem_cons_succ, Act.put, List.setIfInBounds_toArray, List.set_cons_zero, List.set_cons_succ])
      refine wpAnyJ_take 7 (v := ?_) (by first | exact hF | exact wideFn) (HSF.out _ Bg.out) rfl (by kernel_rfl) (by kernel_rfl) (by kernel_rfl) (by kernel_rfl) rfl ?_ (fun _ _ _ h => h) ?_
      rotate_left
      · intro W hSW
        simp only [List.getElem_toArray, List.getElem_cons_zero, List.getElem_cons_succ]
        (try dsimp only at hSW)
        go_simp
        with_reducible rfl
      (try simp only [List.getElem_toArray, List.getElem_cons_zero, List.getElem_cons_succ, Act.put, List.setIfInBounds_toArray, List.set_cons_zero, List.set_cons_succ])
      refine wpAnyJ_take 8 (v := ?_) (by first | exact hF | exact wideFn) (HSF.out _ Bg.out) rfl (by kernel_rfl) (by kernel_rfl) (by kernel_rfl) (by kernel_rfl) rfl ?_ (fun _ _ _ h => h) ?_
      rotate_left
      · intro W hSW
        simp only [List.getElem_toArray, List.getElem_cons_zero, List.getElem_cons_succ]
        (try dsimp only at hSW)
        go_simp
        with_reducible rfl
      (try simp only [List.getElem_toArray, List.getElem_cons_zero, List.getElem_cons_succ, Act.put, List.setIfInBounds_toArray, List.set_cons_zero, List.set_cons_succ])
      obtain ⟨g0, g1, g2, g3, g4⟩ := blk2 Z11.out
      refine wpAnyJ_one 10 rfl (by kernel_rfl) (fun K hK => ?_)
      simp only [List.getElem_toArray, List.getElem_cons_zero, List.getElem_cons_succ]
      go_simp
      refine hK.out _ _ (fun _ => HSF.out _ (set2B Bg.out (Nat.le_refl _) _ _)) ?_
      clear hK K
      (try simp only [List.getElem_toArray, List.getElem_cons_zero, List.getElem_cons_succ, Act.put, List.setIfInBounds_toArray, List.set_cons_zero, List.set_cons_succ])
      clear g0 g1 g2 g3 g4
      refine wpAnyJ_take 11 (v := ?_) (by first | exact hF | exact wideFn) (HSF.out _ (set2B Bg.out (Nat.le_refl _) _ _)) rfl (by kernel_rfl) (by kernel_rfl) (by kernel_rfl) (by kernel_rfl) rfl ?_ (fun _ _ _ h => h) ?_
      rotate_left
      · intro W hSW
        simp only [List.getElem_toArray, List.getElem_cons_zero, List.getElem_cons_succ]
        (try dsimp only at hSW)
        go_simp
        with_reducible rfl
      (try simp only [List.getElem_toArray, List.getElem_cons_zero, List.getElem_cons_succ, Act.put, List.setIfInBounds_toArray, List.set_cons_zero, List.set_cons_succ])
      refine wpAnyJ_done (by kernel_rfl) ?_
      exact ⟨_, _, rfl, set2B Bg.out (Nat.le_refl _) _ _, Nat.le_refl _, Blk.set2 Z11.out _ _⟩
  rintro a' w14 ⟨v5, b12, rfl, hb14, hbb2, hT2⟩
  have B14 := hide (B13.out.trans (hb14.mono B13.out.size))
  have U14 := hide hT2
  have K14 := hide (K13.out.ext hb14)
  have N14 := hide (N13.out.ext hb14)
  have F14 := hide (F13.out.ext hb14)
  have T14 := hide (T13.out.ext hb14)
  simp only [Act.put, List.setIfInBounds_toArray, List.set_cons_zero, List.set_cons_succ]
  clear hb14 hT2
  generalize (if c = 1 then (some ⟨ab, aoff, none⟩ : Option Addr) else some ⟨ab, aoff + 2, none⟩) = Q2
  obtain ⟨eKl, eK0, eK1⟩ := bx2 K14.out
  obtain ⟨eTl, eT0, eT1⟩ := bx2 T14.out
  obtain ⟨eUl, eU0, eU1⟩ := bx2 U14.out
  go_wp2_with fail
  refine (HST.out _ B14.out).mono ?_
  rintro e w15 ⟨A15, c15, rfl, hR15, hb15⟩
  have HR15 := hide hR15
  have B15 := hide (B14.out.trans (hb15.mono B14.out.size))
  have K15 := hide (K14.out.ext hb15)
  clear hR15 hb15
  go_wp2_with fail
  clear eKl eK0 eK1 eTl eT0 eT1 eUl eU0 eU1
  refine (HN.out _ _ _ HR15.out).mono ?_
  rintro e w16 ⟨rfl, hb16⟩
  have B16 := hide (B15.out.trans (hb16.mono B15.out.size))
  have K16 := hide (K15.out.ext hb16)
  clear hb16 HR15
  have r0 : (r == 0) = false := by simp; omega
  go_wp2_with fail
  refine (HST.out _ B16.out).mono ?_
  rintro e w17 ⟨A17, c17, rfl, hR17, hb17⟩
  have HR17 := hide hR17
  have B17 := hide (B16.out.trans (hb17.mono B16.out.size))
  
  clear hR17 hb17
  go_wp2_with fail
  refine (HLx.out _ _ _ HR17.out).mono ?_
  rintro e w18 ⟨rfl, hb18⟩
  have B18 := hide (B17.out.trans (hb18.mono B17.out.size))
  
  clear hb18 HR17
  have B19 := hide (B18.out.alloc B18.out.size (.cells #[.int .i64 (sL), .int .i64 (sH)] 25))
  have X19 := hide (Blk.new w18 25 #[.int .i64 (sL), .int .i64 (sH)])
  
  obtain ⟨eXl, eX0, eX1⟩ := bx2 X19.out
  go_wp2_with fail
  clear eXl eX0 eX1
  refine (HST.out _ B19.out).mono ?_
  rintro e w20 ⟨A20, c20, rfl, hR20, hb20⟩
  have HR20 := hide hR20
  have B20 := hide (B19.out.trans (hb20.mono B19.out.size))
  have X20 := hide (X19.out.ext hb20)
  clear hR20 hb20
  go_wp2_with fail
  refine (HLy.out _ _ _ HR20.out).mono ?_
  rintro e w21 ⟨rfl, hb21⟩
  have B21 := hide (B20.out.trans (hb21.mono B20.out.size))
  have X21 := hide (X20.out.ext hb21)
  clear hb21 HR20
  obtain ⟨g0, g1, g2, g3, g4⟩ := blk2 X21.out
  have zz20 := B21.out.size
  go_wp2_with fail
  obtain ⟨h0, h1, h2, h3, h4⟩ := blk2 (Blk.set2 X21.out (.int .i64 tL) (.int .i64 tH))
  have B22 := hide (set2B (g := w18.heap.size) B21.out B18.out.size (.int .i64 tL) (.int .i64 tH))
  clear g0 g1 g2 g3 g4
  go_wp2_with fail
  refine (HK.out _).mono ?_
  rintro e w23 ⟨rfl, hb23⟩
  go_wp2_with fail
  go_ret
  exact ⟨rfl, B22.out.trans (hb23.mono B22.out.size)⟩
end Go.Proofs.Ytlhekifmkkgjlaa
