/- The law KilnBears, walked. -/
import Derived.Test.YtlhekifmkkgjlaaNt
import Derived.Deep.CutBlock
import Derived.Deep.DeepCutAuto
set_option linter.unusedSimpArgs false
set_option linter.unusedVariables false
set_option linter.unnecessarySimpa false
namespace Go.Proofs.Ytlhekifmkkgjlaa
open Go Go.RowKit Go.Shelf
set_option maxHeartbeats 8000000
set_option maxRecDepth 100000
theorem bears_main (s : Stk) (UA : Option Addr) (uc : Nat) (v : Nat → Int) (w : World) (hs : StkR w w.heap.size s) (hu : ER w w.heap.size 1 UA s.nt (fun k _ => .int .u16 (v k))) (hv : ∀ k, k < s.nt → 0 ≤ v k ∧ v k ≤ 65535)
    (hnt : s.nt ≤ 8) (hb : ∀ k, k < s.nt → s.cn k ≤ 36 ∧ s.wn k ≤ 36) (h1 : stackB s = true) (h2 : (hangF s).1 < 0) (h3 : LoadsB s = true) : Calls Try.prog 8 #[.agg #[.int .i64 s.wd, .int .i64 s.hg, .slice s.A s.nt s.cap], .slice UA s.nt uc] w fun e w' => e = .returned (.bool true) ∧ Below w.heap.size w w' := by
  obtain ⟨i0, hi, hz0, hz1, hz2⟩ := info_parts info_int
  have HI := hide (show _ ∧ _ ∧ _ ∧ _ from ⟨hi, hz0, hz1, hz2⟩)
  have HK := hide known_any
  have HSS := hide hs
  have HUU := hide hu
  have HVV := hide hv
  have HBB := hide hb
  have H1 := hide h1
  have H2 := hide h2
  have H3 := hide h3
  have HB := hide ((Below.refl w.heap.size w).alloc (Nat.le_refl _) (.cells #[.int .i64 s.wd, .int .i64 s.hg, .slice s.A s.nt s.cap] 55))
  have KS := hide (Blk.new w 55 #[.int .i64 s.wd, .int .i64 s.hg, .slice s.A s.nt s.cap])
  clear hi hz0 hz1 hz2 hs hu hv hb h1 h2 h3
  go_enter Try.func8, Try.ntmps8
  go_wp2_with fail
  generalize (w.alloc (.cells #[.int .i64 s.wd, .int .i64 s.hg, .slice s.A s.nt s.cap] 55)) = W1 at HB KS ⊢
  obtain ⟨a0, a1, a2, a3, a4, a5, a6⟩ := blk3 KS.out
  go_loop [5] (fun i => ∃ k : Nat, i = .int .i64 k ∧ k ≤ s.nt) (fun i => s.nt - (intOf i).toNat)
  case atStart => exact ⟨0, rfl, by omega⟩
  case round =>
    obtain ⟨k, rfl, hk⟩ := hrel
    by_cases hlt : k < s.nt
    · obtain ⟨tb, toff, hA, htb, hu, hv⟩ := P2.at_ (HSS.out.2.1.below HB.out (Nat.le_refl _)) hlt
      rw [hA] at a3
      have i1 : (0 : Int) ≤ (k : Int) := by omega
      have i2 : (k : Int) < (s.nt : Int) := by omega
      obtain ⟨b1, b2⟩ := no_big HBB.out k hlt
      obtain ⟨b3, b4⟩ := HBB.out k hlt
      have b1' : ¬ (36 : Int) < (s.cn k : Int) := b1
      have b2' : ¬ (36 : Int) < (s.wn k : Int) := b2
      unfold Stk.u at hu
      unfold Stk.v at hv
      go_wp2_with fail
      go_round
      case rel => exact ⟨k + 1, by go_num, by omega⟩
      case measure => simp [intOf]; omega
    · obtain rfl : k = s.nt := by omega
      have c8' : ¬ (8 : Int) < (s.nt : Int) := by omega
      go_wp2_with fail
      refine (own_any s _ ((HSS.out.below HB.out (Nat.le_refl _)).more HB.out.size) (by omega) (fun k hk => by have := HBB.out k hk; omega)).mono ?_
      rintro e w2 ⟨A, c, ca, wa, cc, wc, rfl, hs2, hb2⟩
      have HS2 := hide hs2
      have KS2 := hide (KS.out.ext hb2)
      have HB2 := hide (HB.out.trans (hb2.mono HB.out.size))
      clear hb2 hs2 a0 a1 a2 a3 a4 a5 a6
      go_wp2_with fail
      refine (Loads_ok (s.at A c ca wa cc wc) _ HS2.out H1.out H2.out H3.out).mono ?_
      rintro e w3 ⟨z, vv, hz, rfl, hb3, hrow, hown⟩
      have HBR := hide (show BR w s z vv w3 from ⟨HB2.out.trans (hb3.mono HB2.out.size), KS2.out.ext hb3, hrow, hown⟩)
      have hzz : w.heap.size ≤ z := by have := HB2.out.size; omega
      clear hb3 hrow hown KS2 HB2 HS2 KS HB hz
      have hsa : (s.at A c ca wa cc wc).nt = s.nt := rfl
      simp only [hsa]
      clear hsa
      obtain ⟨a0, a1, a2, a3, a4, a5, a6⟩ := blk3 HBR.out.bx
      go_wp2_with fail
      have HTR : Hid (Tri w.heap.size v never ever 0 (.slice (some ⟨w3.heap.size, 0, none⟩) 0 0) (.slice (some ⟨w3.heap.size + 1, 0, none⟩) 0 0) (.slice (some ⟨w3.heap.size + 1 + 1, 0, none⟩) 0 0) (((w3.alloc (.cells #[] 3)).alloc (.cells #[] 3)).alloc (.cells #[] 3))) := hide (by
        have hb := HBR.out.below.size
        have e1 := ownMono (own_empty w3 3 1) hb
        have e2 := ownMono (own_empty (w3.alloc (.cells #[] 3)) 3 1) (show w.heap.size ≤ _ by simp; omega)
        have e3 := ownMono (own_empty ((w3.alloc (.cells #[] 3)).alloc (.cells #[] 3)) 3 1) (show w.heap.size ≤ _ by simp; omega)
        simp only [World.size_alloc] at e2 e3
        exact ⟨World.ownsRow.alloc (World.ownsRow.alloc e1 _) _, World.ownsRow.alloc e2 _, e3, by simp [Value.ownBlock], by simp [Value.ownBlock]; omega, by simp [Value.ownBlock]⟩)
      have HB3 := hide (HBR.out.ext ((((Below.refl _ w3).alloc (Nat.le_refl _) (.cells #[] 3)).alloc (by simp) (.cells #[] 3)).alloc (by simp only [World.size_alloc]; omega) (.cells #[] 3)))
      clear a0 a1 a2 a3 a4 a5 a6 HBR
      generalize (((w3.alloc (.cells #[] 3)).alloc (.cells #[] 3)).alloc (.cells #[] 3)) = w4 at HTR HB3 ⊢
      go_loopw [9, 10, 11, 12] (fun x y t i wr => ∃ k : Nat, i = .int .i64 k ∧ k ≤ s.nt ∧ Hid (Tri w.heap.size v never ever k x y t wr) ∧ Hid (BR w s z vv wr)) (fun _ _ _ i _ => s.nt - (intOf i).toNat)
      case atStart => exact ⟨0, rfl, by omega, HTR, HB3⟩
      case round =>
        obtain ⟨k, rfl, hk, HT, HBR⟩ := hrel
        by_cases hlt : k < s.nt
        · obtain ⟨ub, uoff, hU, hub, hcl⟩ := HUU.out (by omega)
          have hu1 := (HBR.out.below.cell (p := ⟨ub, uoff + k, none⟩) hub).trans (by simpa using hcl k 0 hlt (by omega))
          obtain ⟨v0, v1⟩ := HVV.out k hlt
          have i1 : (0 : Int) ≤ (k : Int) := by omega
          have i2 : (k : Int) < (s.nt : Int) := by omega
          subst hU
          clear hcl
          obtain ⟨xA, xc, rfl⟩ := own_shape HT.out.rx
          obtain ⟨yA, yc, rfl⟩ := own_shape HT.out.ry
          obtain ⟨tA, tc, rfl⟩ := own_shape HT.out.rz
          go_wp2_with (first
            | (at_builtin; refine wpList_append_any _ rfl (.tmp 85) (.tmp 91) 56 rfl w.heap.size 3 i0 _ 1 8 Try.underlying56 HI.out.1 HI.out.2.1 HI.out.2.2.1 HI.out.2.2.2 rfl (by omega) (Value.slice xA k xc) k _ rfl (World.ownsRow.alloc HT.out.rx _) (wr.heap.size + 1) (some ⟨wr.heap.size, 0, none⟩) 1 1 [.int .i64 (v k)] rfl (int_read wr _ _) (by intro u hu; simp at hu; subst hu; rfl) (by unfold maxLen; omega) (by omega) (by have := HBR.out.below.size; simp; omega) ?_; intro x2 w5 hx2 hg2 ho2; have HB5 := hide (HBR.out.push HT.out.rx hg2); have HX5 := hide (rowX_snoc (f := v) hx2); have HY5 := hide (row_other HT.out.ry hg2 HT.out.xy); have HZ5 := hide (row_other HT.out.rz hg2 HT.out.xz); have HXY5 := hide (block_other HT.out.ry ho2 HT.out.xy); have HXZ5 := hide (block_other HT.out.rz ho2 HT.out.xz); clear hx2 hg2 ho2)
            | (at_builtin; refine wpList_append_any _ rfl (.tmp 93) (.tmp 94) 56 rfl w.heap.size 3 i0 _ 1 8 Try.underlying56 HI.out.1 HI.out.2.1 HI.out.2.2.1 HI.out.2.2.2 rfl (by omega) (Value.slice yA k yc) k _ rfl (World.ownsRow.alloc HY5.out _) (w5.heap.size + 1) (some ⟨w5.heap.size, 0, none⟩) 1 1 [.int .i64 0] rfl (int_read w5 _ _) (by intro u hu; simp at hu; subst hu; rfl) (by unfold maxLen; omega) (by omega) (by have := HB5.out.below.size; simp; omega) ?_; intro y2 w6 hy2 hg3 ho3; have HB6 := hide (HB5.out.push HY5.out hg3); have HY6 := hide (rowX_snoc (f := never) hy2); have HX6 := hide (row_other HX5.out hg3 (Ne.symm HXY5.out)); have HZ6 := hide (row_other HZ5.out hg3 HT.out.yz); have HYX6 := hide (block_other HX5.out ho3 (Ne.symm HXY5.out)); have HYZ6 := hide (block_other HZ5.out ho3 HT.out.yz); clear hy2 hg3 ho3)
            | (at_builtin; refine wpList_append_any _ rfl (.tmp 96) (.tmp 97) 56 rfl w.heap.size 3 i0 _ 1 8 Try.underlying56 HI.out.1 HI.out.2.1 HI.out.2.2.1 HI.out.2.2.2 rfl (by omega) (Value.slice tA k tc) k _ rfl (World.ownsRow.alloc HZ6.out _) (w6.heap.size + 1) (some ⟨w6.heap.size, 0, none⟩) 1 1 [.int .i64 1000000] rfl (int_read w6 _ _) (by intro u hu; simp at hu; subst hu; rfl) (by unfold maxLen; omega) (by omega) (by have := HB6.out.below.size; simp; omega) ?_; intro z2 w7 hz2 hg4 ho4; have HB7 := hide (HB6.out.push HZ6.out hg4); have HZ7 := hide (rowX_snoc (f := ever) hz2); have HX7 := hide (row_other HX6.out hg4 (Ne.symm HXZ5.out)); have HY7 := hide (row_other HY6.out hg4 (Ne.symm HYZ6.out)); have HZX7 := hide (block_other HX6.out ho4 (Ne.symm HXZ5.out)); have HZY7 := hide (block_other HY6.out ho4 (Ne.symm HYZ6.out)); clear hz2 hg4 ho4))
          go_roundw
          case rel => exact ⟨k + 1, by go_num, by omega, hide ⟨HX7.out, HY7.out, HZ7.out, Ne.symm HYX6.out, Ne.symm HZX7.out, Ne.symm HZY7.out⟩, HB7⟩
          case measure => simp [intOf]; omega
        · obtain rfl : k = s.nt := by omega
          have HCR : Hid (∀ (BA : Option Addr) (bc : Nat) (be : Nat → Int) (A : Option Addr) (c : Nat) (ca wa : Nat → Option Addr) (cc wc : Nat → Nat) (W : World), StkR W W.heap.size (s.at A c ca wa cc wc) → IR W W.heap.size BA s.nt be → wiB 0 1000000 be s.nt = true →
              Calls Try.prog 26 #[.agg #[.int .i64 s.wd, .int .i64 s.hg, .slice A s.nt c], .slice BA s.nt bc] W fun e w' => e = .returned (.tuple #[brV (firstOf (crushP s be) (bricksTo s.wn s.nt)), .int .i64 0]) ∧ Below W.heap.size W w') :=
            hide (fun BA bc be A c ca wa cc wc W h1 h2 h3 => Crushed_ok BA s.nt bc be (s.at A c ca wa cc wc) W h1 h2 (by omega) H1.out rfl h3 H2.out H3.out)
          obtain ⟨xA, xc, rfl⟩ := own_shape HT.out.rx
          obtain ⟨yA, yc, rfl⟩ := own_shape HT.out.ry
          obtain ⟨tA, tc, rfl⟩ := own_shape HT.out.rz
          have RX := hide HT.out.rx
          have RY := hide HT.out.ry
          have RZ := hide HT.out.rz
          have HEV := hide (crush_ever H1.out H2.out H3.out hnt (fun k hk => (HBB.out k hk).2))
          clear HT
          obtain ⟨a0, a1, a2, a3, a4, a5, a6⟩ := blk3 HBR.out.bx
          go_wp2_with fail
          refine (own_any s _ ((HSS.out.below HBR.out.below (Nat.le_refl _)).more HBR.out.below.size) (by omega) (fun k hk => by have := HBB.out k hk; omega)).mono ?_
          rintro e wa1 ⟨A1, c1, ca1, wx1, cc1, wc1, rfl, hs1, hb1⟩
          have HS1 := hide hs1
          have HBA1 := hide (HBR.out.ext hb1)
          have RW1 := hide (show rowX wa1 w.heap.size (.slice xA s.nt xc) s.nt v from ownBelow (RX).out hb1)
          have HBZ1 := hide hb1
          clear hs1 hb1 a0 a1 a2 a3 a4 a5 a6
          go_wp2_with fail
          refine (HCR.out xA xc v A1 c1 ca1 wx1 cc1 wc1 _ HS1.out RW1.out.ir (wi_some HVV.out)).mono ?_
          rintro e wb1 ⟨rfl, hb1⟩
          have HBB1 := hide (show Below wr.heap.size wr wb1 from HBZ1.out.trans (hb1.mono HBZ1.out.size))
          clear hb1 HS1 RW1 HBA1 HBZ1
          generalize hR1 : firstOf (crushP s v) (bricksTo s.wn s.nt) = R1
          have HR1 := hide hR1
          clear hR1
          unfold brV
          go_upto_region 17 with fail
          have HD1 : Hid (Below wb1.heap.size wb1 (wb1.alloc (.cells #[.int .i64 R1.1, .int .i64 R1.2] 59))) := hide ((Below.refl _ _).alloc (Nat.le_refl _) _)
          have KB1 := hide (Blk.new wb1 59 #[.int .i64 R1.1, .int .i64 R1.2])
          have HGT1 : Hid (w.heap.size < wb1.heap.size) := hide (by have := HBB1.out.size; have := HBR.out.bx.lt; omega)
          generalize (wb1.alloc (.cells #[.int .i64 R1.1, .int .i64 R1.2] 59)) = wy1 at HD1 KB1 ⊢
          have HE1 := hide (HBB1.out.trans (HD1.out.mono HBB1.out.size))
          have HBR := hide (HBR.out.ext HE1.out)
          obtain ⟨a0, a1, a2, a3, a4, a5, a6⟩ := blk3 HBR.out.bx
          have RY1 := hide (show rowX wy1 w.heap.size (.slice yA s.nt yc) s.nt never from ownBelow RY.out HE1.out)
          have RZ1 := hide (show rowX wy1 w.heap.size (.slice tA s.nt tc) s.nt ever from ownBelow RZ.out HE1.out)
          go_wp2_with fail
          refine (own_any s _ ((HSS.out.below HBR.out.below (Nat.le_refl _)).more HBR.out.below.size) (by omega) (fun k hk => by have := HBB.out k hk; omega)).mono ?_
          rintro e wa2 ⟨A2, c2, ca2, wx2, cc2, wc2, rfl, hs2, hb2⟩
          have HS2 := hide hs2
          have HBA2 := hide (HBR.out.ext hb2)
          have RW2 := hide (show rowX wa2 w.heap.size (.slice yA s.nt yc) s.nt never from ownBelow (RY1).out hb2)
          have HBZ2 := hide hb2
          clear hs2 hb2 a0 a1 a2 a3 a4 a5 a6
          go_wp2_with fail
          refine (HCR.out yA yc never A2 c2 ca2 wx2 cc2 wc2 _ HS2.out RW2.out.ir (wi_never _)).mono ?_
          rintro e wb2 ⟨rfl, hb2⟩
          have HBB2 := hide (show Below wy1.heap.size wy1 wb2 from HBZ2.out.trans (hb2.mono HBZ2.out.size))
          clear hb2 HS2 RW2 HBA2 HBZ2
          generalize hR2 : firstOf (crushP s never) (bricksTo s.wn s.nt) = R2
          have HR2 := hide hR2
          clear hR2
          unfold brV
          go_upto_region 18 with fail
          have HD2 : Hid (Below wb2.heap.size wb2 (wb2.alloc (.cells #[.int .i64 R2.1, .int .i64 R2.2] 59))) := hide ((Below.refl _ _).alloc (Nat.le_refl _) _)
          have KB2 := hide (Blk.new wb2 59 #[.int .i64 R2.1, .int .i64 R2.2])
          have HGT2 : Hid (w.heap.size < wb2.heap.size) := hide (by have := HBB2.out.size; have := HBR.out.bx.lt; omega)
          generalize (wb2.alloc (.cells #[.int .i64 R2.1, .int .i64 R2.2] 59)) = wy2 at HD2 KB2 ⊢
          have HE2 := hide (HBB2.out.trans (HD2.out.mono HBB2.out.size))
          have HBR := hide (HBR.out.ext HE2.out)
          obtain ⟨a0, a1, a2, a3, a4, a5, a6⟩ := blk3 HBR.out.bx
          have RZ2 := hide (show rowX wy2 w.heap.size (.slice tA s.nt tc) s.nt ever from ownBelow RZ1.out HE2.out)
          go_wp2_with fail
          refine (own_any s _ ((HSS.out.below HBR.out.below (Nat.le_refl _)).more HBR.out.below.size) (by omega) (fun k hk => by have := HBB.out k hk; omega)).mono ?_
          rintro e wa3 ⟨A3, c3, ca3, wx3, cc3, wc3, rfl, hs3, hb3⟩
          have HS3 := hide hs3
          have HBA3 := hide (HBR.out.ext hb3)
          have RW3 := hide (show rowX wa3 w.heap.size (.slice tA s.nt tc) s.nt ever from ownBelow (RZ2).out hb3)
          have HBZ3 := hide hb3
          clear hs3 hb3 a0 a1 a2 a3 a4 a5 a6
          go_wp2_with fail
          refine (HCR.out tA tc ever A3 c3 ca3 wx3 cc3 wc3 _ HS3.out RW3.out.ir (wi_ever _)).mono ?_
          rintro e wb3 ⟨rfl, hb3⟩
          have HBB3 := hide (show Below wy2.heap.size wy2 wb3 from HBZ3.out.trans (hb3.mono HBZ3.out.size))
          clear hb3 HS3 RW3 HBA3 HBZ3
          rw [HEV.out]
          unfold brV
          go_upto_region 19 with fail
          have KB3 : Hid (Blk (wb3.alloc (.cells #[.int .i64 (-1), .int .i64 (-1)] 59)) wb3.heap.size 59 #[.int .i64 (-1), .int .i64 (-1)]) := hide (Blk.new wb3 _ _)
          have HD3 : Hid (Below wb3.heap.size wb3 (wb3.alloc (.cells #[.int .i64 (-1), .int .i64 (-1)] 59))) := hide ((Below.refl _ _).alloc (Nat.le_refl _) _)
          generalize (wb3.alloc (.cells #[.int .i64 (-1), .int .i64 (-1)] 59)) = wy3 at KB3 HD3 ⊢
          have HE3 := hide (HBB3.out.trans (HD3.out.mono HBB3.out.size))
          have HBR3 := hide (HBR.out.ext HE3.out)
          have K13 := hide ((KB1.out.ext HE2.out).ext HE3.out)
          have K14 := hide (KB2.out.ext HE3.out)
          have hg1 : wb1.heap.size < wy3.heap.size := K13.out.lt
          have hg2 : wb2.heap.size < wy3.heap.size := K14.out.lt
          have hgt : w.heap.size < wy3.heap.size := HBR3.out.bx.lt
          have HBX : Hid (Bx w s z vv wb1.heap.size wb2.heap.size wy3.heap.size (wy3.heap.size + 1) R1 R2 (-1, -1) ((wy3.alloc (.cells #[.int .i64 (-1), .int .i64 (-1)] 59)).alloc (.cells #[.int .i64 (-1), .int .i64 (-1)] 59))) := hide
            ⟨HBR3.out.ext (((Below.refl _ wy3).alloc (Nat.le_refl _) _).alloc (by simp) _), (K13.out.alloc _).alloc _, (K14.out.alloc _).alloc _, (Blk.new wy3 _ _).alloc _, by simpa using Blk.new (wy3.alloc (.cells #[.int .i64 (-1), .int .i64 (-1)] 59)) 59 #[.int .i64 (-1), .int .i64 (-1)], by omega, by omega, by omega, by omega⟩
          obtain ⟨e0, e1, e2⟩ := bx2 KB3.out
          obtain ⟨a0, a1, a2, a3, a4, a5, a6⟩ := blk3 HBR3.out.bx
          go_upto_block 4 with fail
          clear a0 a1 a2 a3 a4 a5 a6 e0 e1 e2 HBR3 K13 K14 KB1 KB2 KB3 HD1 HD2 HD3 HE1 HE2 HE3 HBB1 HBB2 HBB3 HBR RX RY RZ RY1 RZ1 RZ2 HGT1 HGT2 HB3 HTR hg1 hg2 hgt
          generalize ((wy3.alloc (.cells #[.int .i64 (-1), .int .i64 (-1)] 59)).alloc (.cells #[.int .i64 (-1), .int .i64 (-1)] 59)) = wq at HBX ⊢
          generalize wb1.heap.size = g1 at HBX ⊢
          generalize wb2.heap.size = g2 at HBX ⊢
          generalize wy3.heap.size = g8 at HBX ⊢
          go_wp2_with fail
          go_loopw [20] (fun i wr => ∃ (r : Nat) (iv : Int) (b : Int × Int), i = .int .i64 iv ∧ iv = (r : Int) - 1 ∧ r ≤ s.nt ∧ Hid (Best (crushP s never) s.wn s.nt r 0 b) ∧ Hid (Bx w s z vv g1 g2 g8 (g8 + 1) R1 R2 b wr)) (fun i _ => (intOf i + 1).toNat)
          case atStart => exact ⟨s.nt, _, (-1, -1), rfl, rfl, by omega, hide (Best.top _ _ _), HBX⟩
          case round =>
            obtain ⟨r, iv, b, rfl, hiv, hr, HBE, HX⟩ := hrel
            by_cases h0 : r = 0
            · have hv0 : iv = -1 := by omega
              clear hiv
              subst h0 hv0
              have HRB : Hid (R2 = b) := hide (HR2.out.symm.trans (HBE.out.all))
              obtain rfl := HRB.out
              have hf := first_later (wn := s.wn) (n := s.nt) (crush_mono (s := s) (v := v) (fun k hk => (HVV.out k hk).1))
              rw [HR1.out, HR2.out] at hf
              have HBL := hide HX.out.br.below
              have X1 := hide HX.out.k1
              have X2 := hide HX.out.k2
              have X8 := hide HX.out.k8
              have X9 := hide HX.out.k9
              clear HX HBX HR1 HR2 HBE HRB HEV
              rcases hf with h | ⟨a, b', c, d, h1, h2, h3⟩
              · subst h
                obtain ⟨l1, m1, m2⟩ := bx2 X1.out
                obtain ⟨l2, n1, n2⟩ := bx2 X2.out
                obtain ⟨l8, o1, o2⟩ := bx2 X8.out
                obtain ⟨l9, p1, p2⟩ := bx2 X9.out
                clear X1 X2 X8 X9
                go_wp2_with fail
                refine (HK.out _).mono ?_
                rintro e w9 ⟨rfl, hb9⟩
                go_wp2_with fail
                go_ret
                exact ⟨rfl, HBL.out.trans (hb9.mono HBL.out.size)⟩
              · subst h1 h2
                obtain ⟨l1, m1, m2⟩ := bx2 X1.out
                obtain ⟨l2, n1, n2⟩ := bx2 X2.out
                obtain ⟨l8, o1, o2⟩ := bx2 X8.out
                obtain ⟨l9, p1, p2⟩ := bx2 X9.out
                clear X1 X2 X8 X9
                have z1 : ((a : Int) == -1) = false := by simp <;> omega
                have z2 : ((c : Int) == -1) = false := by simp <;> omega
                have z3 : ((a : Int) != -1) = true := by simp <;> omega
                have z4 : ¬ (a : Int) < (c : Int) := by omega
                by_cases hac : c < a
                · have z5 : ((a : Int) == (c : Int)) = false := by simp <;> omega
                  clear hac h3
                  go_wp2_with fail
                  refine (HK.out _).mono ?_
                  rintro e w9 ⟨rfl, hb9⟩
                  go_wp2_with fail
                  go_ret
                  exact ⟨rfl, HBL.out.trans (hb9.mono HBL.out.size)⟩
                · have z5 : ((a : Int) == (c : Int)) = true := by simp <;> omega
                  have z6 : ¬ (b' : Int) < (d : Int) := by omega
                  clear hac h3
                  go_wp2_with fail
                  refine (HK.out _).mono ?_
                  rintro e w9 ⟨rfl, hb9⟩
                  go_wp2_with fail
                  go_ret
                  exact ⟨rfl, HBL.out.trans (hb9.mono HBL.out.size)⟩
            · obtain ⟨r', hr'⟩ : ∃ r' : Nat, r = r' + 1 := ⟨r - 1, by omega⟩
              have hv0 : iv = (r' : Int) := by omega
              clear hiv
              subst hr' hv0
              have i1 : (0 : Int) ≤ (r' : Int) := by omega
              have i2 : (r' : Int) < (s.nt : Int) := by omega
              have hrn : r' < s.nt := by omega
              obtain ⟨rA, rc, hrow⟩ := OwnL.shape (HX.out.br.own r' (by omega))
              have hlen := LoadsL_len hrn
              rw [hlen] at hrow
              have hwn := (HBB.out r' hrn).2
              have HROW := hide hrow
              have hzc : wr.cell? ⟨z + 3, r', none⟩ = some (.slice rA (s.wn r') rc) := by rw [HX.out.br.row.cell, rowV_get _ _ hrn, hrow]
              have HLN := hide hlen
              clear hrow hlen
              go_wp2_with fail
              clear hzc
              obtain ⟨wo, hwo⟩ : ∃ wo : World, wo = wr := ⟨_, rfl⟩
              subst hwo
              go_loopw [21] (fun i wr => ∃ (j : Nat) (jv : Int) (b : Int × Int), i = .int .i64 jv ∧ jv = (j : Int) - 1 ∧ j ≤ s.wn r' ∧ Hid (Best (crushP s never) s.wn s.nt r' j b) ∧ Hid (Bx w s z vv g1 g2 g8 (g8 + 1) R1 R2 b wr)) (fun i _ => (intOf i + 1).toNat)
              case atStart => exact ⟨s.wn r', _, b, rfl, rfl, by omega, hide HBE.out.down, HX⟩
              case round =>
                obtain ⟨j, jv, b, rfl, hjv, hj, HBE, HX⟩ := hrel
                by_cases h0 : j = 0
                · have hv0 : jv = -1 := by omega
                  clear hjv
                  subst h0 hv0
                  go_wp2_with fail
                  go_roundw
                  case rel => exact ⟨r', _, b, rfl, rfl, by omega, HBE, HX⟩
                  case measure => simp [intOf] <;> omega
                · obtain ⟨j', hj'⟩ : ∃ j' : Nat, j = j' + 1 := ⟨j - 1, by omega⟩
                  have hv0 : jv = (j' : Int) := by omega
                  clear hjv
                  subst hj' hv0
                  have j1 : (0 : Int) ≤ (j' : Int) := by omega
                  have j2 : (j' : Int) < (s.wn r' : Int) := by omega
                  have hzc : wr.cell? ⟨z + 3, r', none⟩ = some (.slice rA (s.wn r') rc) := by rw [HX.out.br.row.cell, rowV_get _ _ hrn, HROW.out]
                  obtain ⟨g, cap, hv, -, hg, x1, x2, -, -⟩ := OwnL.at_ (HX.out.br.own r' (by omega)) (c := j') (by rw [HLN.out]; omega)
                  rw [HROW.out] at hv
                  injection hv with hv1 hv2 hv3
                  rw [hv1] at hzc
                  obtain ⟨q0, q1, q2⟩ := bx2 HX.out.k9
                  have fr0 := HX.out.k9.frozen 0
                  have fr1 := HX.out.k9.frozen 1
                  have hcn := crush_never s r' j'
                  clear hv1 hv2 hv3 x2
                  generalize (LoadsL s r').getD j' (0, 1) = x at x1 hcn
                  have HCN := hide hcn
                  clear hcn
                  by_cases hnum : 0 < x.1
                  · have HP : Hid (crushP s never r' j' = true) := hide (by rw [HCN.out]; exact decide_eq_true hnum)
                    have hnum2 : (0 : Int) < (x.1 : Int) := by omega
                    clear hnum
                    go_wp2_with fail
                    go_roundw
                    case rel => exact ⟨j', _, ((r' : Int), (j' : Int)), rfl, rfl, by omega, hide (Best.yes hrn (by omega) HP.out), hide (HX.out.put _ _)⟩
                    case measure => simp [intOf] <;> omega
                  · have HP : Hid (crushP s never r' j' = false) := hide (by rw [HCN.out]; exact decide_eq_false hnum)
                    have hnum2 : ¬ (0 : Int) < (x.1 : Int) := by omega
                    clear hnum
                    go_wp2_with fail
                    go_roundw
                    case rel => exact ⟨j', _, b, rfl, rfl, by omega, hide (HBE.out.no HP.out), HX⟩
                    case measure => simp [intOf] <;> omega
end Go.Proofs.Ytlhekifmkkgjlaa
