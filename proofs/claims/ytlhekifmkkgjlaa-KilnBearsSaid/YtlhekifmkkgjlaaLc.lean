/- Chapter 8's known calls: known. -/
import Derived.Test.YtlhekifmkkgjlaaLb
set_option linter.unusedSimpArgs false
set_option linter.unusedVariables false
set_option linter.unnecessarySimpa false
namespace Go.Proofs.Ytlhekifmkkgjlaa
open Go Go.RowKit Go.Shelf
set_option maxHeartbeats 2000000
def KnownLoads (w : World) (e : Ending) (w' : World) : Prop := ∃ (q g0 c0 g2 c2 : Nat), e = .returned (.tuple #[.slice (some ⟨q, 0, none⟩) 2 2, .slice (some ⟨g2, 0, none⟩) 2 c2, .int .i64 0]) ∧ Below w.heap.size w w' ∧
  (q < w'.heap.size ∧ g0 < w'.heap.size ∧ g2 < w'.heap.size) ∧ w'.cell? ⟨q, 0, none⟩ = some (.slice (some ⟨g0, 0, none⟩) 2 c0) ∧ w'.cell? ⟨g0, 2, none⟩ = some (.int .i64 2) ∧ w'.cell? ⟨g0, 3, none⟩ = some (.int .i64 1) ∧
  w'.cell? ⟨g2, 2, none⟩ = some (.int .i64 7) ∧ w'.cell? ⟨g2, 3, none⟩ = some (.int .i64 1)
theorem known_loads (z0 : Nat) (w : World) (hs : StkR w w.heap.size (twoS z0)) :
    Calls Try.prog 32 #[.agg #[.int .i64 2, .int .i64 1, .slice (some ⟨z0 + 5, 0, none⟩) 2 2]] w (KnownLoads w) := by
  refine (Loads_ok (twoS z0) w hs (two_stack z0) (by rw [two_hangs]; decide) (two_loadsB z0)).mono ?_
  rintro e w' ⟨z, v, hz, rfl, hB, hrow, hown⟩
  have o0 := hown 0 (Nat.zero_le _)
  have o2 := hown 2 (Nat.le_refl _)
  rw [two_loads0] at o0
  rw [two_loads2] at o2
  obtain ⟨g0, c0, hv0, -, l0, a0, a1, -, -⟩ := o0.at_ (c := 1) (by simp)
  obtain ⟨g2, c2, hv2, -, l2, b0, b1, -, -⟩ := o2.at_ (c := 1) (by simp)
  have hr := hrow.cell 0
  rw [rowV_get _ _ (show 0 < (twoS z0).nt from Nat.zero_lt_succ 1), hv0] at hr
  refine ⟨z + 3, g0, c0, g2, c2, ?_, hB, ⟨hrow.lt, l0, l2⟩, hr, a0, a1, b0, b1⟩
  rw [show v (twoS z0).nt = v 2 from rfl, hv2]
  rfl
theorem grown_cell {w w' : World} {S b : Nat} (hg : w.grownBy w' (some S)) (hlt : b < w.heap.size) (hne : b ≠ S) (o : Nat) : w'.cell? ⟨b, o, none⟩ = w.cell? ⟨b, o, none⟩ :=
  World.cell?_of_block (hg.block b hlt (fun e => hne (by injection e)))
theorem grown_below {w w1 w2 : World} {B S : Nat} (h : Below B w w1) (hg : w1.grownBy w2 (some S)) (hB : B ≤ w1.heap.size) (hS : B ≤ S) : Below B w w2 :=
  ⟨hg.os.trans h.os, hg.tape.trans h.tape, hg.output.trans h.output, Nat.le_trans h.size hg.size, fun k hk => (hg.block k (by omega) (fun e => by injection e; omega)).trans (h.block k hk)⟩
theorem known_any (w : World) : Calls Try.prog 13 #[] w fun e w' => e = .returned (.bool true) ∧ Below w.heap.size w w' := by
  go_enter Try.func13, Try.ntmps13
  go_wp2_with fail
  refine (known_moulds _).mono ?_
  rintro e w1 ⟨rfl, hb1⟩
  have B2 := hide ((hb1.alloc hb1.size (.cells #[.int .i64 977, .int .i64 999] 25)).alloc (by have := hb1.size; simp only [World.size_alloc]; omega) (.cells #[.int .i64 500, .int .i64 1000, .int .i64 500, .int .i64 1000] 121))
  have K1 := hide ((Blk.new w1 25 #[.int .i64 977, .int .i64 999]).alloc (.cells #[.int .i64 500, .int .i64 1000, .int .i64 500, .int .i64 1000] 121))
  have KY := hide (Blk.new (w1.alloc (.cells #[.int .i64 977, .int .i64 999] 25)) 121 #[.int .i64 500, .int .i64 1000, .int .i64 500, .int .i64 1000])
  have z1 := hb1.size
  clear hb1
  go_wp2_with fail
  refine (known_need _ _ _ ?_).mono ?_
  · refine fun _ => ⟨_, 0, rfl, ?_, fun k i hk hi => ?_⟩
    · simp
    · have hc := KY.out.cell (0 + k * 2 + i)
      simp only [World.size_alloc] at hc
      rw [hc]
      rcases (by omega : k = 0 ∨ k = 1) with rfl | rfl <;> rcases (by omega : i = 0 ∨ i = 1) with rfl | rfl <;> rfl
  rintro e w2 ⟨rfl, hb2⟩
  have B3 := hide (B2.out.trans (hb2.mono B2.out.size))
  have K2 := hide (K1.out.ext hb2)
  clear hb2 B2 K1 KY
  go_wp2_with fail
  refine (two_any _).mono ?_
  rintro e w3 ⟨rfl, hs3, hb3⟩
  have B4 := hide (B3.out.trans (hb3.mono B3.out.size))
  have K3 := hide (K2.out.ext hb3)
  have HL := hide (known_loads w2.heap.size w3 hs3)
  clear hb3 B3 K2 hs3
  go_wp2_with fail
  refine HL.out.mono ?_
  rintro e w4 ⟨q, g0, c0, g2, c2, rfl, hb4, hlt, hcs⟩
  have B5 := hide (B4.out.trans (hb4.mono B4.out.size))
  have K4 := hide (K3.out.ext hb4)
  have HLT := hide hlt
  have HCS := hide hcs
  have HN := hide (new_ok (some ⟨w4.heap.size, 0, none⟩) 1 1 (fun _ => 1) 9 (w4.alloc (.cells #[.int .i64 1] 3)) (by simpa using IR.one w4 1 3) (by decide))
  clear hb4 B4 K3 hlt hcs HL
  go_wp2_with fail
  refine HN.out.mono ?_
  rintro e w5 ⟨b, S, rfl, ⟨Ab, cb, hbk, -, hst, hS0, hb0⟩, hb5⟩
  simp only [World.size_alloc] at hb5 hS0 hb0
  have hb5' : Below w4.heap.size w4 w5 := ((Below.refl w4.heap.size w4).alloc (Nat.le_refl _) (.cells #[.int .i64 1] 3)).trans (hb5.mono (by omega))
  have B6 := hide (B5.out.trans (hb5'.mono B5.out.size))
  have K5 := hide (K4.out.ext hb5')
  obtain ⟨l1, l2, l3⟩ := HLT.out
  obtain ⟨h1, h2, h3, h4, h5⟩ := HCS.out
  have x1 := (hb5'.cell (p := ⟨q, 0, none⟩) l1).trans h1
  have x2 := (hb5'.cell (p := ⟨g0, 2, none⟩) l2).trans h2
  have x3 := (hb5'.cell (p := ⟨g0, 3, none⟩) l2).trans h3
  have x4 := (hb5'.cell (p := ⟨g2, 2, none⟩) l3).trans h4
  have x5 := (hb5'.cell (p := ⟨g2, 3, none⟩) l3).trans h5
  have hK4 := K4.out.lt
  have HX := hide (And.intro x2 (And.intro x3 (And.intro x4 x5)))
  have HX1 := hide x1
  have HBK := hide hbk
  have HST := hide hst
  have z5 := hb5'.size
  have HLS := hide (And.intro l1 (And.intro l2 (And.intro l3 hS0)))
  have hB5 := B5.out.size
  clear hb5 hb5' hbk hst h1 h2 h3 h4 h5 x2 x3 x4 x5 hb0 B5 K4 HLT HCS HN
  go_wp2_with fail
  refine (known_mould b S _ _ 9 w5 HBK.out HST.out).mono ?_
  rintro e w6 ⟨rfl, hbk6, hst6, hg6⟩
  have HBK6 := hide hbk6
  have HST6 := hide hst6
  have HG6 := hide hg6
  clear hbk6 hst6 hg6 x1
  go_wp2_with fail
  refine (known_dry b S _ _ 9 w6 HBK6.out HST6.out).mono ?_
  rintro e w7 ⟨rfl, hbk7, hst7, hg7⟩
  have HBK7 := hide hbk7
  have HST7 := hide hst7
  have HG7 := hide hg7
  clear hbk7 hst7 hg7
  go_wp2_with fail
  refine (count_ok b S 1 0 _ _ 9 ⟨2, 7, 0, 0, 0, 1, 0⟩ w7 HBK7.out (by omega) (by omega) (HST7.out.2 0 (by omega)) ⟨by decide, by decide, by decide, by decide, by decide, by decide, by decide, by decide, by decide⟩).mono ?_
  rintro e w8 ⟨rfl, hb8⟩
  have z6 := HG6.out.size
  have z7 := HG7.out.size
  have far : ∀ c, c < w4.heap.size → ∀ o, w8.cell? ⟨c, o, none⟩ = w5.cell? ⟨c, o, none⟩ := fun c hc o =>
    (hb8.cell (p := ⟨c, o, none⟩) (by simp only []; omega)).trans ((grown_cell HG7.out (by omega) (by omega) o).trans (grown_cell HG6.out (by omega) (by omega) o))
  have hK := K5.out
  have y1 := (far q l1 0).trans HX1.out
  have y2 := (far g0 l2 2).trans HX.out.1
  have y3 := (far g0 l2 3).trans HX.out.2.1
  have y4 := (far g2 l3 2).trans HX.out.2.2.1
  have y5 := (far g2 l3 3).trans HX.out.2.2.2
  obtain ⟨-, k0, k1, -, -⟩ := blk2 hK
  have y6 := (far w1.heap.size hK4 0).trans k0
  have y7 := (far w1.heap.size hK4 1).trans k1
  have B9 := hide ((grown_below (grown_below B6.out HG6.out B6.out.size (by omega)) HG7.out (by omega) (by omega)).trans (hb8.mono (by omega)))
  have z8 := hb8.size
  have u1 : q < w8.heap.size := by omega
  have u2 : g0 < w8.heap.size := by omega
  have u3 : g2 < w8.heap.size := by omega
  have u4 : w1.heap.size < w8.heap.size := by omega
  unfold agg7
  dsimp only
  clear far k0 k1 hb8 hK
  go_wp2_with fail
  go_ret
  exact ⟨rfl, B9.out.alloc (by omega) _⟩
end Go.Proofs.Ytlhekifmkkgjlaa
