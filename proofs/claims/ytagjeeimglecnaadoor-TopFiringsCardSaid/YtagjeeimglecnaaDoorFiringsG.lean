/- Top: the law TopFirings: the row and the tied card. -/
import Derived.Test.YtagjeeimglecnaaDoorFiringsF
import Derived.Test.YtagjeeimglecnaaDoorRows
import Derived.ProofKit
import Derived.OpenShut
import Derived.Carry
import Derived.ChangeSame
import Derived.Deep.SlicePairs
import Derived.ChangeSlices
import Derived.Deep.Fields
import Derived.Lib.LaidU8
import Derived.MakeChecks
import Derived.Test.YtagjeeimglecnaaDoorCards
import Derived.Test.YtagjeeimglecnaaDoorTie
import Derived.LaidMore
import Derived.Lay
import Derived.SevenTiedAt
import Derived.Stop.Joined
set_option linter.unusedSimpArgs false
set_option linter.unusedVariables false
set_option linter.unnecessarySimpa false
/- Top: the law TopFirings, walked. -/
namespace Go.Proofs.YtagjeeimglecnaaDoor
open List renaming getElem_toArray → glA, getElem_cons_zero → glB, getElem_cons_succ → glC, setIfInBounds_toArray → glD, set_cons_zero → glE, set_cons_succ → glF
open Go Go.RowKit Go.Shelf
set_option maxHeartbeats 20000000
set_option maxRecDepth 100000
theorem own_burn {W : World} {base : Nat} {v : Value} (h : W.ownsRow base 3 1 v 1 (cellsOf 1 1 fun _ _ => .int .i64 ((0 : Nat) : Int))) :
    ∃ g oc : Nat, v = .slice (some ⟨g, 0, none⟩) 1 oc ∧ base ≤ g ∧ ∃ cs : Array Value, Blk W g 3 cs ∧ cs[0]? = some (.int .i64 0) := by
  obtain ⟨g, oc, rfl, h7, h8⟩ := own_addr h (by omega)
  obtain ⟨hg, cur, hcur⟩ := own_blk1 h
  obtain ⟨g', o', e1, e2, e3⟩ := h8 (by omega)
  injection e1 with e1
  injection e1 with e4 e5
  subst e4 e5
  have e6 := e3 0 0 (by omega) (by omega)
  rw [hcur.cell] at e6
  exact ⟨g, oc, rfl, hg, cur, hcur, e6⟩
theorem pi_one (w : World) (a b : Int) (e : TypeId) : PI (w.alloc (.cells #[.int .i64 a, .int .i64 b] e)) (w.alloc (.cells #[.int .i64 a, .int .i64 b] e)).heap.size (some ⟨w.heap.size, 0, none⟩) 1 (fun _ => a) (fun _ => b) := fun _ =>
  ⟨w.heap.size, 0, rfl, by simp, fun k i hk hi => by
    obtain ⟨z0, z1, z2⟩ := bx2 (Blk.new w e #[.int .i64 a, .int .i64 b])
    obtain rfl : k = 0 := by omega
    rcases (by omega : i = 0 ∨ i = 1) with rfl | rfl
    · simpa using z1
    · simpa using z2⟩
theorem kw_sum {n lo : Int} {k : Nat} (hk : k ≤ 5) : (k = 0 → (kwW n lo k).sum = 0) ∧ (0 < k → (kwW n lo k).sum = n) ∧ (k = 5 → (kwW n lo k).laid = n - lo ∧ (kwW n lo k).broken = lo) := by
  unfold kwW Wa.sum
  rcases (by omega : k = 0 ∨ k = 1 ∨ k = 2 ∨ k = 3 ∨ k = 4 ∨ k = 5) with rfl | rfl | rfl | rfl | rfl | rfl <;> simp [Wa.zero]
theorem firings_any (b y : Nat → Nat) (A : Option Addr) (c : Nat) (l : List (Int × Int)) (w : World) (hb : ∀ i, b i < 256) (hy : ∀ i, y i < 256) (hD : DsR w A l) (hT : TB w) :
    Calls Tryd.prog 3 #[.agg #[.int .u8 (b 0 : Nat), .int .u8 (b 1 : Nat), .int .u8 (b 2 : Nat), .int .u8 (b 3 : Nat), .int .u8 (b 4 : Nat)], .agg #[.int .u8 (y 0 : Nat), .int .u8 (y 1 : Nat), .int .u8 (y 2 : Nat)], .slice A l.length c] w fun e w' => e = .returned (.bool true) ∧ Below w.heap.size w w' := by
  have HT := hide hT
  have HDS := hide (fun W (h : Below w.heap.size w W) => hD.ext h)
  have HKN := hide (fun W (h : Below w.heap.size w W) => knownRites_any W (hT.ext h))
  have HLW := hide (fun W => linkWork_any b (y 0) W hb (hy 0))
  unfold WkPost at HLW
  have hy0 := hy 0
  have hy1 := hy 1
  have hy2 := hy 2
  obtain ⟨f, hf⟩ : ∃ f : Nat → Int, wkF b = f := ⟨_, rfl⟩
  obtain ⟨lg, hlg⟩ : ∃ lg : Int, ((y 0 % 8 : Nat) : Int) = lg := ⟨_, rfl⟩
  rw [hf, hlg] at HLW
  have hwr : (wkR f lg).n = 5 ∧ (wkR f lg).last = 12 ∧ (wkR f lg).toil = 4 := ⟨rfl, rfl, rfl⟩
  rw [hwr.1, hwr.2.1, hwr.2.2] at HLW
  have HF9 : Hid (∀ i, 0 ≤ f i ∧ f i ≤ 9) := hide fun i => by rw [← hf]; unfold wkF; omega
  have HL7 : Hid (0 ≤ lg ∧ lg ≤ 7) := hide (by rw [← hlg]; omega)
  have hB2 : Below w.heap.size w ((w.alloc (.cells #[.int .u8 (b 0 : Nat), .int .u8 (b 1 : Nat), .int .u8 (b 2 : Nat), .int .u8 (b 3 : Nat), .int .u8 (b 4 : Nat)] 22)).alloc (.cells #[.int .u8 (y 0 : Nat), .int .u8 (y 1 : Nat), .int .u8 (y 2 : Nat)] 23)) := ((Below.refl _ _).alloc (Nat.le_refl _) _).alloc (by simp) _
  have K1 : Blk ((w.alloc (.cells #[.int .u8 (b 0 : Nat), .int .u8 (b 1 : Nat), .int .u8 (b 2 : Nat), .int .u8 (b 3 : Nat), .int .u8 (b 4 : Nat)] 22)).alloc (.cells #[.int .u8 (y 0 : Nat), .int .u8 (y 1 : Nat), .int .u8 (y 2 : Nat)] 23)) w.heap.size 22 #[.int .u8 (b 0 : Nat), .int .u8 (b 1 : Nat), .int .u8 (b 2 : Nat), .int .u8 (b 3 : Nat), .int .u8 (b 4 : Nat)] := (Blk.new w _ _).alloc _
  have K2 : Blk ((w.alloc (.cells #[.int .u8 (b 0 : Nat), .int .u8 (b 1 : Nat), .int .u8 (b 2 : Nat), .int .u8 (b 3 : Nat), .int .u8 (b 4 : Nat)] 22)).alloc (.cells #[.int .u8 (y 0 : Nat), .int .u8 (y 1 : Nat), .int .u8 (y 2 : Nat)] 23)) (w.heap.size + 1) 23 #[.int .u8 (y 0 : Nat), .int .u8 (y 1 : Nat), .int .u8 (y 2 : Nat)] := by simpa using Blk.new (w.alloc (.cells #[.int .u8 (b 0 : Nat), .int .u8 (b 1 : Nat), .int .u8 (b 2 : Nat), .int .u8 (b 3 : Nat), .int .u8 (b 4 : Nat)] 22)) 23 #[.int .u8 (y 0 : Nat), .int .u8 (y 1 : Nat), .int .u8 (y 2 : Nat)]
  have HB2 := hide hB2
  obtain ⟨nl, hnl⟩ : ∃ n, l.length = n := ⟨_, rfl⟩
  have HNL := hide hnl
  rw [hnl]
  clear hf hlg hwr hB2 hnl hb hy hD hT
  go_enter Tryd.func3, Tryd.ntmps3
  go_upto_region 1 with fail
  obtain ⟨B, hB⟩ : ∃ x, w.heap.size = x := ⟨_, rfl⟩
  obtain ⟨Y, hY⟩ : ∃ x, w.heap.size + 1 = x := ⟨_, rfl⟩
  rw [hY] at K2
  rw [hB] at K1
  rw [hY, hB]
  have HBY := hide (And.intro hB hY)
  clear hB hY
  have KB := hide K1
  have KY := hide K2
  clear K1 K2
  generalize ((w.alloc (.cells #[.int .u8 (b 0 : Nat), .int .u8 (b 1 : Nat), .int .u8 (b 2 : Nat), .int .u8 (b 3 : Nat), .int .u8 (b 4 : Nat)] 22)).alloc (.cells #[.int .u8 (y 0 : Nat), .int .u8 (y 1 : Nat), .int .u8 (y 2 : Nat)] 23)) = w2 at HB2 KB KY ⊢
  by_cases hl12 : 12 < nl
  · have hl12' : (12 : Int) < (nl : Int) := by omega
    go_wp2_with fail
    refine (HKN.out w2 HB2.out).mono ?_
    rintro e wk ⟨rfl, hbk⟩
    have HBK := hide (HB2.out.trans (hbk.mono HB2.out.size))
    clear hbk
    go_wp2_with fail
    go_ret
    exact ⟨rfl, HBK.out⟩
  have hl12' : ¬ (12 : Int) < (nl : Int) := by omega
  obtain ⟨n, hn⟩ : ∃ n : Int, 1 + ((y 1 : Nat) : Int) % 50 = n := ⟨_, rfl⟩
  have hn50 : 1 ≤ n ∧ n ≤ 50 := by omega
  have ht1 : ((y 1 : Nat) : Int).tmod 50 = ((y 1 : Nat) : Int) % 50 := Int.tmod_eq_emod_of_nonneg (by omega)
  have ht2 : IntKind.i64.wrap (1 + ((y 1 : Nat) : Int) % 50) = n := by rw [hn, IntWalk.i64_in _ (by omega)]
  have ht3 : IntKind.i64.wrap ((y 1 : Nat) : Int) = ((y 1 : Nat) : Int) := by rw [IntWalk.i64_in _ (by omega)]
  clear hn
  go_upto_region 3 with fail
  go_cut [7, 8] (fun p q w' => q = .int .i64 n ∧ Hid (∃ (G : Nat) (d : Rad), p = .pointer (some ⟨G, 0, none⟩) ∧ Blk w' G 28 #[.slice d.A 5 d.c, .int .i64 12, .int .i64 4] ∧ RtR w' d (wkR f lg) ∧ Below w2.heap.size w2 w'))
  case first =>
    have HBD := hide ((Below.refl w2.heap.size w2).drew)
    have HS3 : Hid (∀ W, Below w2.heap.size w2 W → ((W.cell? ⟨B, 0, none⟩ = some (.int .u8 (b 0 : Nat)) ∧ W.cell? ⟨B, 1, none⟩ = some (.int .u8 (b 1 : Nat)) ∧ W.cell? ⟨B, 2, none⟩ = some (.int .u8 (b 2 : Nat)) ∧ W.cell? ⟨B, 3, none⟩ = some (.int .u8 (b 3 : Nat)) ∧ W.cell? ⟨B, 4, none⟩ = some (.int .u8 (b 4 : Nat))) ∧ W.cell? ⟨Y, 0, none⟩ = some (.int .u8 (y 0 : Nat)) ∧ W.cell? ⟨Y, 1, none⟩ = some (.int .u8 (y 1 : Nat)))) := hide fun W h => by
      have k := KB.out.ext h
      have q := KY.out.ext h
      exact ⟨⟨(k.cell 0).trans rfl, (k.cell 1).trans rfl, (k.cell 2).trans rfl, (k.cell 3).trans rfl, (k.cell 4).trans rfl⟩, (q.cell 0).trans rfl, (q.cell 1).trans rfl⟩
    refine wp_region_J (fun W : World => ((W.cell? ⟨B, 0, none⟩ = some (.int .u8 (b 0 : Nat)) ∧ W.cell? ⟨B, 1, none⟩ = some (.int .u8 (b 1 : Nat)) ∧ W.cell? ⟨B, 2, none⟩ = some (.int .u8 (b 2 : Nat)) ∧ W.cell? ⟨B, 3, none⟩ = some (.int .u8 (b 3 : Nat)) ∧ W.cell? ⟨B, 4, none⟩ = some (.int .u8 (b 4 : Nat))) ∧ W.cell? ⟨Y, 0, none⟩ = some (.int .u8 (y 0 : Nat)) ∧ W.cell? ⟨Y, 1, none⟩ = some (.int .u8 (y 1 : Nat)))) (by kernel_rfl) ?_
    generalize w2.drew = wd at HBD ⊢
    refine tk_start [0, 1, 2, 4, 5, 6, 7, 8] ?_
    iterate 8
      refine tk_one (v := ?_) (by first | exact hF | exact wideFn) (HS3.out _ HBD.out) rfl (by kernel_rfl) (by kernel_rfl) (by kernel_rfl) (by kernel_rfl) rfl ?_ (by first | exact fun _ _ _ h => h | exact fun _ _ _ h => hQ2 _ _ _ _ _ h) ?_
      rotate_left
      · intro W hSW
        simp only [glA, glB, glC]
        (try dsimp only at hSW)
        go_simp
        with_reducible rfl
      (try simp only [glA, glB, glC, Act.put, glD, glE, glF])
    refine tk_end ?_
    refine wpAnyJ_two 3 9 rfl rfl (by kernel_rfl) (fun K hK => ?_) (fun K hK => ?_)
    · simp only [glA, glB, glC]
      go_simp
      refine ⟨trivial, rfl, ?_⟩
      refine (callsIn_wide.2 (HLW.out wd)).mono ?_
      rintro e wa ⟨d, rfl, hrt, hba⟩
      have HBa := hide (HBD.out.trans (hba.mono HBD.out.size))
      dsimp only
      refine hK.out _ _ (fun _ => HS3.out _ HBa.out) ?_
      clear hK K
      (try simp only [glA, glB, glC, Act.put, glD, glE, glF])
      have hb2 : Below wa.heap.size wa (wa.alloc (.cells #[.slice none 0 0, .int .i64 0, .int .i64 0] 28)) := (Below.refl _ _).alloc (Nat.le_refl _) _
      obtain ⟨wS, hrun, hKS, hBS, -⟩ := store_blk (P := Tryd.prog) (ty := 28) (cells := #[.slice d.A 5 d.c, .int .i64 12, .int .i64 4]) (Blk.new wa 28 #[.slice none 0 0, .int .i64 0, .int .i64 0]) rfl (by kernel_rfl) (by simp [Value.oneCell'])
      have hb5 := hBS _ _ hb2 (Nat.le_refl _)
      have HBs := hide (HBa.out.trans (hb5.mono HBa.out.size))
      refine wpAnyJ_one 9 rfl (by kernel_rfl) (fun K hK => ?_)
      simp only [glA, glB, glC]
      go_simp
      refine hK.out _ _ (fun _ => HS3.out _ (HBa.out.trans (hb2.mono HBa.out.size))) ?_
      clear hK K
      (try simp only [glA, glB, glC, Act.put, glD, glE, glF])
      refine wpAnyJ_one 10 rfl (by kernel_rfl) (fun K hK => ?_)
      rw [if_pos (by rfl)]
      refine wpIn_store_run 28 (.tmp 7) (.tmp 29) wideFn rfl rfl rfl hrun ?_
      refine hK.out _ _ (fun _ => HS3.out _ HBs.out) ?_
      clear hK K
      (try simp only [glA, glB, glC, Act.put, glD, glE, glF])
      refine wpAnyJ_take 11 (v := ?_) (by first | exact hF | exact wideFn) (HS3.out _ HBs.out) rfl (by kernel_rfl) (by kernel_rfl) (by kernel_rfl) (by kernel_rfl) rfl ?_ (by first | exact fun _ _ _ h => h | exact fun _ _ _ h => hQ2 _ _ _ _ _ h) ?_
      rotate_left
      · intro W hSW
        simp only [glA, glB, glC]
        (try dsimp only at hSW)
        go_simp
        with_reducible rfl
      (try simp only [glA, glB, glC, Act.put, glD, glE, glF])
      refine wpAnyJ_done (by kernel_rfl) ?_
      go_wp2_with fail
      go_meet
      exact ⟨rfl, hide ⟨_, d, rfl, hKS, hrt _ hb5.size (fun k _ hk => hb5.block k hk), HBs.out⟩⟩
    · have hb2 : Below wd.heap.size wd (wd.alloc (.cells #[.slice none 0 0, .int .i64 0, .int .i64 0] 28)) := (Below.refl _ _).alloc (Nat.le_refl _) _
      have KZ := Blk.new wd 28 #[.slice none 0 0, .int .i64 0, .int .i64 0]
      have HBa := hide (HBD.out.trans (hb2.mono HBD.out.size))
      simp only [glA, glB, glC]
      go_simp
      refine hK.out _ _ (fun _ => HS3.out _ HBa.out) ?_
      clear hK K
      (try simp only [glA, glB, glC, Act.put, glD, glE, glF])
      have HWE : Hid ((wd.alloc (.cells #[.slice none 0 0, .int .i64 0, .int .i64 0] 28)).heap.size = wd.heap.size + 1) := hide (by simp)
      generalize wd.alloc (.cells #[.slice none 0 0, .int .i64 0, .int .i64 0] 28) = we at HBa KZ HWE ⊢
      refine wpAnyJ_one 3 rfl (by kernel_rfl) (fun K hK => ?_)
      simp only [glA, glB, glC]
      go_simp
      refine ⟨trivial, rfl, ?_⟩
      refine (callsIn_wide.2 (HLW.out we)).mono ?_
      rintro e wa ⟨d, rfl, hrt, hba⟩
      have HBb := hide (HBa.out.trans (hba.mono HBa.out.size))
      dsimp only
      refine hK.out _ _ (fun _ => HS3.out _ HBb.out) ?_
      clear hK K
      (try simp only [glA, glB, glC, Act.put, glD, glE, glF])
      have hge : we.heap.size = wd.heap.size + 1 := HWE.out
      obtain ⟨wS, hrun, hKS, hBS, hsz, hoz⟩ := store_blk (P := Tryd.prog) (ty := 28) (cells := #[.slice d.A 5 d.c, .int .i64 12, .int .i64 4]) (KZ.ext hba) rfl (by kernel_rfl) (by simp [Value.oneCell'])
      have HBs := hide (hBS _ _ HBb.out HBD.out.size)
      refine wpAnyJ_one 10 rfl (by kernel_rfl) (fun K hK => ?_)
      rw [if_pos (by rfl)]
      refine wpIn_store_run 28 (.tmp 7) (.tmp 29) wideFn rfl rfl rfl hrun ?_
      refine hK.out _ _ (fun _ => HS3.out _ HBs.out) ?_
      clear hK K
      (try simp only [glA, glB, glC, Act.put, glD, glE, glF])
      refine wpAnyJ_take 11 (v := ?_) (by first | exact hF | exact wideFn) (HS3.out _ HBs.out) rfl (by kernel_rfl) (by kernel_rfl) (by kernel_rfl) (by kernel_rfl) rfl ?_ (by first | exact fun _ _ _ h => h | exact fun _ _ _ h => hQ2 _ _ _ _ _ h) ?_
      rotate_left
      · intro W hSW
        simp only [glA, glB, glC]
        (try dsimp only at hSW)
        go_simp
        with_reducible rfl
      (try simp only [glA, glB, glC, Act.put, glD, glE, glF])
      refine wpAnyJ_done (by kernel_rfl) ?_
      go_wp2_with fail
      go_meet
      exact ⟨rfl, hide ⟨_, d, rfl, hKS, hrt _ (by rw [hsz]; exact Nat.le_refl _) (fun k hk _ => hoz k (by omega)), HBs.out⟩⟩
  obtain ⟨rfl, HC⟩ := hcut
  obtain ⟨G, d, rfl, hG, hrt, hbc⟩ := HC.out
  obtain ⟨w0, rfl⟩ : ∃ x, x = wc := ⟨wc, rfl⟩
  have HB0 := hide (HB2.out.trans (hbc.mono HB2.out.size))
  have KG := hide hG
  have HRT := hide hrt
  have KY0 := hide (KY.out.ext hbc)
  clear HC hG hrt hbc KB KY HLW HB2 ht1 ht2 ht3
  obtain ⟨lo, hlo⟩ : ∃ lo : Int, ((y 2 : Nat) : Int) % n = lo := ⟨_, rfl⟩
  have hlo1 : 0 ≤ lo ∧ lo < n := by rw [← hlo]; exact ⟨Int.emod_nonneg _ (by omega), Int.emod_lt_of_pos _ (by omega)⟩
  have ht1 : ((y 2 : Nat) : Int).tmod n = lo := by rw [Int.tmod_eq_emod_of_nonneg (by omega), hlo]
  have ht2 : IntKind.i64.wrap lo = lo := by rw [IntWalk.i64_in _ (by omega)]
  have ht3 : IntKind.i64.wrap ((y 2 : Nat) : Int) = ((y 2 : Nat) : Int) := by rw [IntWalk.i64_in _ (by omega)]
  have hn0 : ¬ n = 0 := by omega
  have c2 := KY0.out.cell 2
  replace c2 : w0.cell? ⟨Y, 2, none⟩ = some (.int .u8 (y 2 : Nat)) := c2
  clear hlo
  have HNW := hide (new_ok (some ⟨w0.heap.size, 0, none⟩) 1 1 (fun _ => 2) 1000 (w0.alloc (.cells #[.int .i64 2] 3)) (by simpa using IR.one w0 2 3) (by decide))
  go_wp2_with fail
  refine HNW.out.mono ?_
  rintro e w4 ⟨bk, S, rfl, hbook, hb4⟩
  have hba : Below w0.heap.size w0 (w0.alloc (.cells #[.int .i64 2] 3)) := (Below.refl _ _).alloc (Nat.le_refl _) _
  obtain ⟨sb, sc, hfi⟩ := FrI.init (w0 := w0) hbook hba.size (hba.trans (hb4.mono hba.size))
  have HI := hide hfi
  clear hba hbook hb4 hfi HNW c2 ht1 ht2 ht3 KY0
  go_wp2_with fail
  generalize w4.alloc (.cells #[] 38) = w5 at HI ⊢
  generalize w4.heap.size = p5 at HI ⊢
  go_loopw [12, 13] (fun rv i wr => ∃ (j k : Nat) (RA : Option Addr) (rc : Nat) (ov : Value) (right : List (Int × Int)), j ≤ nl ∧ i = .int .i64 j ∧ rv = .slice RA right.length rc ∧ Hid (FrI w0 wr bk S sb sc ov (kwW n lo k) (decide (k = 3)) (.slice RA right.length rc) right) ∧ Hid (WkI f lg right k)) (fun _ i _ => nl - (intOf i).toNat)
  case atStart => exact ⟨0, 0, _, _, _, [], Nat.zero_le _, rfl, rfl, HI, hide (WkI.nil HF9.out HL7.out)⟩
  clear HI
  case round =>
    obtain ⟨j, k, RA, rc, ov, right, hj, rfl, rfl, HI, HWK⟩ := hrel
    have hst : IntKind.i64.wrap ((j : Int) + 1) = ((j + 1 : Nat) : Int) := by rw [IntWalk.i64_in _ (by omega)]; omega
    by_cases hlt : j < nl
    · have hlt' : (j : Int) < (nl : Int) := by omega
      have hjl : j < l.length := by rw [HNL.out]; exact hlt
      obtain ⟨x, hx⟩ : ∃ x, l.getD j (0, 0) = x := ⟨_, rfl⟩
      obtain ⟨lb, lf, hA, hll, hc0, hc1⟩ := (HDS.out w (Below.refl _ _)).at_ hjl hx
      subst hA
      have HLX : Hid (∀ W, Below w0.heap.size w0 W → W.cell? ⟨lb, lf + j * 2, none⟩ = some (.int .i64 x.1) ∧ W.cell? ⟨lb, lf + j * 2 + 1, none⟩ = some (.int .i64 x.2)) := hide fun W h => by
        have h2 := HB0.out.trans (h.mono HB0.out.size)
        exact ⟨(h2.cell (p := ⟨lb, lf + j * 2, none⟩) hll).trans hc0, (h2.cell (p := ⟨lb, lf + j * 2 + 1, none⟩) hll).trans hc1⟩
      have HRW : Hid (∀ W, Below w0.heap.size w0 W → RtR W d (wkR f lg) ∧ (W.cell? ⟨G, 0, none⟩ = some (.slice d.A 5 d.c) ∧ W.cell? ⟨G, 1, none⟩ = some (.int .i64 12) ∧ W.cell? ⟨G, 2, none⟩ = some (.int .i64 4))) := hide fun W h => by
        obtain ⟨-, g0, g1, g2, -⟩ := blk3 (KG.out.ext h)
        exact ⟨HRT.out.ext h, g0, g1, g2⟩
      obtain ⟨xd, xa⟩ := x
      obtain ⟨ru, hru⟩ : ∃ ru, wkQ f lg right (xd, xa) = ru := ⟨_, rfl⟩
      obtain ⟨av, hav⟩ : ∃ av, (folF (wkR f lg) m0 (right ++ [(xd, xa)]) 0).2.1 = av := ⟨_, rfl⟩
      obtain ⟨nr, hnr⟩ : ∃ nr, right.length = nr := ⟨_, rfl⟩
      have hnr5 : nr ≤ 5 := by rw [← hnr, HWK.out.len]; exact HWK.out.k5
      have hq : (right ++ [(xd, xa)]).length = nr + 1 := by simp [hnr]
      have HJU : Hid (∀ A' c' W, RtR W d (wkR f lg) → DsR W A' (right ++ [(xd, xa)]) → Calls Tryd.prog 8 #[.agg #[.slice d.A 5 d.c, .int .i64 12, .int .i64 4], .slice A' (nr + 1) c'] W fun e w' => e = .returned (.tuple #[.int .i64 av, .int .i64 ru, .int .i64 0]) ∧ Below W.heap.size W w') := hide fun A' c' W h1 h2 => by
        have h := judge_any d (wkR f lg) A' c' (right ++ [(xd, xa)]) W h1 (wk_z f lg) (by rw [hq]; omega) h2
        rw [if_pos (wk_valid HF9.out HL7.out), if_pos (wk_valid HF9.out HL7.out), if_pos (wk_valid HF9.out HL7.out), hav, hq] at h
        unfold wkQ at hru
        rw [hru] at h
        exact h
      have HWQ : Hid (((xa < 0 ∨ 4 < xa) → ru = 1 ∨ ru = 2) ∧ (ru = 0 → xa = k ∧ k < 5 ∧ WkI f lg (right ++ [(xd, xa)]) (k + 1)) ∧ (ru = 4 → (k : Int) < xa)) := hide (by
        have h := wkQ_facts HWK.out (xd, xa)
        rw [hru] at h
        exact h)
      have HNR := hide (And.intro hnr hq)
      have HRD : Hid (DsR wr RA right) := hide HI.out.rt.dsr.2
      rw [hnr]
      clear hjl hx hll hc0 hc1 hru hav hnr hq
      dsimp only at HLX
      go_upto_region 12 with fail
      go_cut [14, 15, 16] (fun a r_ e_ w' => a = .int .i64 av ∧ r_ = .int .i64 ru ∧ e_ = .int .i64 0 ∧ Hid (Below wr.heap.size wr w'))
      case first =>
        have HBD := hide ((Below.refl wr.heap.size wr).drew)
        have HS12 : Hid (∀ W, Below wr.heap.size wr W → ((W.cell? ⟨G, 0, none⟩ = some (.slice d.A 5 d.c) ∧ W.cell? ⟨G, 1, none⟩ = some (.int .i64 12) ∧ W.cell? ⟨G, 2, none⟩ = some (.int .i64 4)) ∧ W.cell? ⟨lb, lf + j * 2, none⟩ = some (.int .i64 xd) ∧ W.cell? ⟨lb, lf + j * 2 + 1, none⟩ = some (.int .i64 xa))) := hide fun W h => ⟨(HRW.out W (HI.out.lo.trans (h.mono HI.out.lo.size))).2, HLX.out W (HI.out.lo.trans (h.mono HI.out.lo.size))⟩
        refine wp_region_J (fun W : World => ((W.cell? ⟨G, 0, none⟩ = some (.slice d.A 5 d.c) ∧ W.cell? ⟨G, 1, none⟩ = some (.int .i64 12) ∧ W.cell? ⟨G, 2, none⟩ = some (.int .i64 4)) ∧ W.cell? ⟨lb, lf + j * 2, none⟩ = some (.int .i64 xd) ∧ W.cell? ⟨lb, lf + j * 2 + 1, none⟩ = some (.int .i64 xa))) (by kernel_rfl) ?_
        generalize wr.drew = wd at HBD ⊢
        refine tk_start [0, 2, 4, 5, 6, 7] ?_
        iterate 6
          refine tk_one (v := ?_) (by first | exact hF | exact wideFn) (HS12.out _ HBD.out) rfl (by kernel_rfl) (by kernel_rfl) (by kernel_rfl) (by kernel_rfl) rfl ?_ (by first | exact fun _ _ _ h => h | exact fun _ _ _ h => hQ2 _ _ _ _ _ h) ?_
          rotate_left
          · intro W hSW
            simp only [glA, glB, glC]
            (try dsimp only at hSW)
            go_simp
            with_reducible rfl
          (try simp only [glA, glB, glC, Act.put, glD, glE, glF])
        refine tk_end ?_
        have hr0 : DsR wd RA right := HRD.out.ext HBD.out
        have hlen : right.length + 1 ≤ 1000000 := by rw [HNR.out.1]; omega
        -- BEGIN1
        as_aux_lemma =>
          refine wpAnyJ_two 1 8 rfl rfl (by kernel_rfl) (fun K hK => ?_) (fun K hK => ?_)
          · have hb1 : Below wd.heap.size wd (wd.alloc (.cells #[] 38)) := (Below.refl _ _).alloc (Nat.le_refl _) _
            have ho1 := OwnD.made0 wd
            simp only [glA, glB, glC]
            go_simp
            refine hK.out _ _ (fun _ => HS12.out _ (HBD.out.trans (hb1.mono HBD.out.size))) ?_
            clear hK K
            (try simp only [glA, glB, glC, Act.put, glD, glE, glF])
            refine wpAnyJ_two 3 8 rfl rfl (by kernel_rfl) (fun K hK => ?_) (fun K hK => ?_)
            · obtain ⟨v2, w2', hr2, ho2, hg2⟩ := ho1.pushes RA rc right (hr0.ext hb1) (by simp; omega) hb1.size
              have hb2 := hb1.grown hg2 hb1.size (fun j e => (World.ownsRow.lt ho1 j e).1)
              rw [HNR.out.1] at hr2
              rw [List.nil_append] at ho2
              rw [if_pos (by rfl)]
              refine wpIn_append_run (.tmp 60) (.tmp 61) 24 wideFn rfl rfl rfl hr2 ?_
              refine hK.out _ _ (fun _ => HS12.out _ (HBD.out.trans (hb2.mono HBD.out.size))) ?_
              clear hK K
              (try simp only [glA, glB, glC, Act.put, glD, glE, glF])
              have hb3 : Below w2'.heap.size w2' (w2'.alloc (.cells #[.int .i64 xd, .int .i64 xa] 38)) := (Below.refl _ _).alloc (Nat.le_refl _) _
              have KX := Blk.new w2' 38 #[.int .i64 xd, .int .i64 xa]
              have hb23 := hb2.trans (hb3.mono hb2.size)
              refine wpAnyJ_one 8 rfl (by kernel_rfl) (fun K hK => ?_)
              simp only [glA, glB, glC]
              go_simp
              refine hK.out _ _ (fun _ => HS12.out _ (HBD.out.trans (hb23.mono HBD.out.size))) ?_
              clear hK K
              (try simp only [glA, glB, glC, Act.put, glD, glE, glF])
              obtain ⟨v4, w9, hr4, ho4, hg4⟩ := (ho2.ext hb3).pushes (some ⟨w2'.heap.size, 0, none⟩) 1 [(xd, xa)] (blk_dsr (x := (xd, xa)) KX) (by simpa using hlen) hb23.size
              have hb9 := hb23.grown hg4 hb23.size (fun j e => (World.ownsRow.lt ho2 j e).1)
              obtain ⟨A9, c9, rfl⟩ := own_shape ho4
              have D9 := ho4.dsr.2
              rw [HNR.out.2] at hr4
              have HB9 := hide (HBD.out.trans (hb9.mono HBD.out.size))
              rw [show ([(xd, xa)] : List (Int × Int)).length = 1 from rfl] at hr4
              refine wpAnyJ_one 9 rfl (by kernel_rfl) (fun K hK => ?_)
              rw [if_pos (by rfl)]
              refine wpIn_append_run (.tmp 62) (.tmp 67) 24 wideFn rfl rfl rfl hr4 ?_
              refine hK.out _ _ (fun _ => HS12.out _ HB9.out) ?_
              clear hK K
              (try simp only [glA, glB, glC, Act.put, glD, glE, glF])
              refine wpAnyJ_one 10 rfl (by kernel_rfl) (fun K hK => ?_)
              simp only [glA, glB, glC]
              go_simp
              refine ⟨trivial, rfl, ?_⟩
              refine (callsIn_wide.2 (HJU.out A9 c9 _ (HRW.out _ (HI.out.lo.trans (HB9.out.mono HI.out.lo.size))).1 D9)).mono ?_
              rintro e wz ⟨rfl, hbz⟩
              have HBz := hide (HB9.out.trans (hbz.mono HB9.out.size))
              dsimp only
              refine hK.out _ _ (fun _ => HS12.out _ HBz.out) ?_
              clear hK K
              (try simp only [glA, glB, glC, Act.put, glD, glE, glF])
              refine tk_start [11, 12, 13, 14, 15, 16, 17] ?_
              iterate 7
                refine tk_one (v := ?_) (by first | exact hF | exact wideFn) (HS12.out _ HBz.out) rfl (by kernel_rfl) (by kernel_rfl) (by kernel_rfl) (by kernel_rfl) rfl ?_ (by first | exact fun _ _ _ h => h | exact fun _ _ _ h => hQ2 _ _ _ _ _ h) ?_
                rotate_left
                · intro W hSW
                  simp only [glA, glB, glC]
                  (try dsimp only at hSW)
                  go_simp
                  with_reducible rfl
                (try simp only [glA, glB, glC, Act.put, glD, glE, glF])
              refine tk_end ?_
              refine wpAnyJ_done (by kernel_rfl) ?_
              go_wp2_with fail
              go_meet
              exact ⟨rfl, rfl, rfl, HBz⟩
            · have hbX : Below (wd.alloc (.cells #[] 38)).heap.size (wd.alloc (.cells #[] 38)) ((wd.alloc (.cells #[] 38)).alloc (.cells #[.int .i64 xd, .int .i64 xa] 38)) := (Below.refl _ _).alloc (Nat.le_refl _) _
              have hsz : (wd.alloc (.cells #[] 38)).heap.size = wd.heap.size + 1 := by simp
              have KX := Blk.new (wd.alloc (.cells #[] 38)) 38 #[.int .i64 xd, .int .i64 xa]
              rw [hsz] at KX
              have hb2 := hb1.trans (hbX.mono hb1.size)
              simp only [glA, glB, glC]
              go_simp
              refine hK.out _ _ (fun _ => HS12.out _ (HBD.out.trans (hb2.mono HBD.out.size))) ?_
              clear hK K
              (try simp only [glA, glB, glC, Act.put, glD, glE, glF])
              obtain ⟨v2, w3, hr2, ho2, hg2⟩ := (ho1.ext hbX).pushes RA rc right (hr0.ext hb2) (by simp; omega) hb2.size
              have hb3 := hb2.grown hg2 hb2.size (fun j e => (World.ownsRow.lt ho1 j e).1)
              have KX3 := KX.grown hg2 (fun e => by
                have e : some (wd.heap.size + 1) = some wd.heap.size := e
                injection e with e
                omega)
              rw [HNR.out.1] at hr2
              rw [List.nil_append] at ho2
              refine wpAnyJ_one 3 rfl (by kernel_rfl) (fun K hK => ?_)
              rw [if_pos (by rfl)]
              refine wpIn_append_run (.tmp 60) (.tmp 61) 24 wideFn rfl rfl rfl hr2 ?_
              refine hK.out _ _ (fun _ => HS12.out _ (HBD.out.trans (hb3.mono HBD.out.size))) ?_
              clear hK K
              (try simp only [glA, glB, glC, Act.put, glD, glE, glF])
              obtain ⟨v4, w9, hr4, ho4, hg4⟩ := ho2.pushes (some ⟨wd.heap.size + 1, 0, none⟩) 1 [(xd, xa)] (blk_dsr (x := (xd, xa)) KX3) (by simpa using hlen) hb3.size
              have hb9 := hb3.grown hg4 hb3.size (fun j e => (World.ownsRow.lt ho2 j e).1)
              obtain ⟨A9, c9, rfl⟩ := own_shape ho4
              have D9 := ho4.dsr.2
              rw [HNR.out.2] at hr4
              have HB9 := hide (HBD.out.trans (hb9.mono HBD.out.size))
              rw [show ([(xd, xa)] : List (Int × Int)).length = 1 from rfl] at hr4
              refine wpAnyJ_one 9 rfl (by kernel_rfl) (fun K hK => ?_)
              rw [if_pos (by rfl)]
              refine wpIn_append_run (.tmp 62) (.tmp 67) 24 wideFn rfl rfl rfl hr4 ?_
              refine hK.out _ _ (fun _ => HS12.out _ HB9.out) ?_
              clear hK K
              (try simp only [glA, glB, glC, Act.put, glD, glE, glF])
              refine wpAnyJ_one 10 rfl (by kernel_rfl) (fun K hK => ?_)
              simp only [glA, glB, glC]
              go_simp
              refine ⟨trivial, rfl, ?_⟩
              refine (callsIn_wide.2 (HJU.out A9 c9 _ (HRW.out _ (HI.out.lo.trans (HB9.out.mono HI.out.lo.size))).1 D9)).mono ?_
              rintro e wz ⟨rfl, hbz⟩
              have HBz := hide (HB9.out.trans (hbz.mono HB9.out.size))
              dsimp only
              refine hK.out _ _ (fun _ => HS12.out _ HBz.out) ?_
              clear hK K
              (try simp only [glA, glB, glC, Act.put, glD, glE, glF])
              refine tk_start [11, 12, 13, 14, 15, 16, 17] ?_
              iterate 7
                refine tk_one (v := ?_) (by first | exact hF | exact wideFn) (HS12.out _ HBz.out) rfl (by kernel_rfl) (by kernel_rfl) (by kernel_rfl) (by kernel_rfl) rfl ?_ (by first | exact fun _ _ _ h => h | exact fun _ _ _ h => hQ2 _ _ _ _ _ h) ?_
                rotate_left
                · intro W hSW
                  simp only [glA, glB, glC]
                  (try dsimp only at hSW)
                  go_simp
                  with_reducible rfl
                (try simp only [glA, glB, glC, Act.put, glD, glE, glF])
              refine tk_end ?_
              refine wpAnyJ_done (by kernel_rfl) ?_
              go_wp2_with fail
              go_meet
              exact ⟨rfl, rfl, rfl, HBz⟩
          · have hb1 : Below wd.heap.size wd (wd.alloc (.cells #[.int .i64 xd, .int .i64 xa] 38)) := (Below.refl _ _).alloc (Nat.le_refl _) _
            have KX0 := Blk.new wd 38 #[.int .i64 xd, .int .i64 xa]
            simp only [glA, glB, glC]
            go_simp
            refine hK.out _ _ (fun _ => HS12.out _ (HBD.out.trans (hb1.mono HBD.out.size))) ?_
            clear hK K
            (try simp only [glA, glB, glC, Act.put, glD, glE, glF])
            have hbX : Below (wd.alloc (.cells #[.int .i64 xd, .int .i64 xa] 38)).heap.size (wd.alloc (.cells #[.int .i64 xd, .int .i64 xa] 38)) ((wd.alloc (.cells #[.int .i64 xd, .int .i64 xa] 38)).alloc (.cells #[] 38)) := (Below.refl _ _).alloc (Nat.le_refl _) _
            have ho1 := OwnD.made0 (wd.alloc (.cells #[.int .i64 xd, .int .i64 xa] 38))
            have KX := KX0.ext hbX
            have hb2 := hb1.trans (hbX.mono hb1.size)
            refine wpAnyJ_one 1 rfl (by kernel_rfl) (fun K hK => ?_)
            simp only [glA, glB, glC]
            go_simp
            refine hK.out _ _ (fun _ => HS12.out _ (HBD.out.trans (hb2.mono HBD.out.size))) ?_
            clear hK K
            (try simp only [glA, glB, glC, Act.put, glD, glE, glF])
            obtain ⟨v2, w3, hr2, ho2, hg2⟩ := ho1.pushes RA rc right (hr0.ext hb2) (by simp; omega) hbX.size
            have hb3 := hb2.grown hg2 hb2.size (fun j e => Nat.le_trans hb1.size (World.ownsRow.lt ho1 j e).1)
            have KX3 := KX.grown hg2 (fun e => by
              have e : some wd.heap.size = some (wd.alloc (.cells #[.int .i64 xd, .int .i64 xa] 38)).heap.size := e
              injection e with e
              rw [World.size_alloc] at e
              omega)
            rw [HNR.out.1, show (wd.alloc (.cells #[.int .i64 xd, .int .i64 xa] 38)).heap.size = wd.heap.size + 1 by simp] at hr2
            rw [List.nil_append] at ho2
            refine wpAnyJ_one 3 rfl (by kernel_rfl) (fun K hK => ?_)
            rw [if_pos (by rfl)]
            refine wpIn_append_run (.tmp 60) (.tmp 61) 24 wideFn rfl rfl rfl hr2 ?_
            refine hK.out _ _ (fun _ => HS12.out _ (HBD.out.trans (hb3.mono HBD.out.size))) ?_
            clear hK K
            (try simp only [glA, glB, glC, Act.put, glD, glE, glF])
            obtain ⟨v4, w9, hr4, ho4, hg4⟩ := ho2.pushes (some ⟨wd.heap.size, 0, none⟩) 1 [(xd, xa)] (blk_dsr (x := (xd, xa)) KX3) (by simpa using hlen) (Nat.le_trans hbX.size hg2.size)
            have hb9 := hb3.grown hg4 hb3.size (fun j e => Nat.le_trans hb1.size (World.ownsRow.lt ho2 j e).1)
            obtain ⟨A9, c9, rfl⟩ := own_shape ho4
            have D9 := ho4.dsr.2
            rw [HNR.out.2] at hr4
            have HB9 := hide (HBD.out.trans (hb9.mono HBD.out.size))
            rw [show ([(xd, xa)] : List (Int × Int)).length = 1 from rfl] at hr4
            refine wpAnyJ_one 9 rfl (by kernel_rfl) (fun K hK => ?_)
            rw [if_pos (by rfl)]
            refine wpIn_append_run (.tmp 62) (.tmp 67) 24 wideFn rfl rfl rfl hr4 ?_
            refine hK.out _ _ (fun _ => HS12.out _ HB9.out) ?_
            clear hK K
            (try simp only [glA, glB, glC, Act.put, glD, glE, glF])
            refine wpAnyJ_one 10 rfl (by kernel_rfl) (fun K hK => ?_)
            simp only [glA, glB, glC]
            go_simp
            refine ⟨trivial, rfl, ?_⟩
            refine (callsIn_wide.2 (HJU.out A9 c9 _ (HRW.out _ (HI.out.lo.trans (HB9.out.mono HI.out.lo.size))).1 D9)).mono ?_
            rintro e wz ⟨rfl, hbz⟩
            have HBz := hide (HB9.out.trans (hbz.mono HB9.out.size))
            dsimp only
            refine hK.out _ _ (fun _ => HS12.out _ HBz.out) ?_
            clear hK K
            (try simp only [glA, glB, glC, Act.put, glD, glE, glF])
            refine tk_start [11, 12, 13, 14, 15, 16, 17] ?_
            iterate 7
              refine tk_one (v := ?_) (by first | exact hF | exact wideFn) (HS12.out _ HBz.out) rfl (by kernel_rfl) (by kernel_rfl) (by kernel_rfl) (by kernel_rfl) rfl ?_ (by first | exact fun _ _ _ h => h | exact fun _ _ _ h => hQ2 _ _ _ _ _ h) ?_
              rotate_left
              · intro W hSW
                simp only [glA, glB, glC]
                (try dsimp only at hSW)
                go_simp
                with_reducible rfl
              (try simp only [glA, glB, glC, Act.put, glD, glE, glF])
            refine tk_end ?_
            refine wpAnyJ_done (by kernel_rfl) ?_
            go_wp2_with fail
            go_meet
            exact ⟨rfl, rfl, rfl, HBz⟩
        -- END1
      obtain ⟨rfl, rfl, rfl, HBC⟩ := hcut
      have HIc := hide (HI.out.ext HBC.out)
      rw [HNR.out.1] at HIc
      obtain ⟨q0, q1⟩ := HLX.out _ HIc.out.lo
      clear HI HJU HRD
      by_cases hout : xa < 0 ∨ 4 < xa
      · have h12 := HWQ.out.1 hout
        clear HWQ
        by_cases hx0 : xa < 0
        · rcases h12 with rfl | rfl
          · go_wp2_with fail
            go_roundw
            case rel => exact ⟨j + 1, k, RA, rc, ov, right, by omega, by go_num, by rw [HNR.out.1], by rw [HNR.out.1]; exact HIc, HWK⟩
            case measure => simp [intOf]; omega
          · go_wp2_with fail
            go_roundw
            case rel => exact ⟨j + 1, k, RA, rc, ov, right, by omega, by go_num, by rw [HNR.out.1], by rw [HNR.out.1]; exact HIc, HWK⟩
            case measure => simp [intOf]; omega
        · have hx4 : 4 < xa := by omega
          rcases h12 with rfl | rfl
          · go_wp2_with fail
            go_roundw
            case rel => exact ⟨j + 1, k, RA, rc, ov, right, by omega, by go_num, by rw [HNR.out.1], by rw [HNR.out.1]; exact HIc, HWK⟩
            case measure => simp [intOf]; omega
          · go_wp2_with fail
            go_roundw
            case rel => exact ⟨j + 1, k, RA, rc, ov, right, by omega, by go_num, by rw [HNR.out.1], by rw [HNR.out.1]; exact HIc, HWK⟩
            case measure => simp [intOf]; omega
      · have hx0 : ¬ xa < 0 := by omega
        have hx4 : ¬ 4 < xa := by omega
        by_cases hr04 : ru = 0 ∨ ru = 4
        rotate_left
        · have hr0 : (ru != 0) = true := by rw [bne_iff_ne]; omega
          have hr4 : (ru != 4) = true := by rw [bne_iff_ne]; omega
          clear HWQ hr04
          go_wp2_with fail
          go_roundw
          case rel => exact ⟨j + 1, k, RA, rc, ov, right, by omega, by go_num, by rw [HNR.out.1], by rw [HNR.out.1]; exact HIc, HWK⟩
          case measure => simp [intOf]; omega
        obtain ⟨k', hk'⟩ : ∃ k', (if ru = 0 then k + 1 else k) = k' := ⟨_, rfl⟩
        obtain ⟨ec, hec⟩ : ∃ ec : Int, (if ru = 0 then 0 else 9) = ec := ⟨_, rfl⟩
        have HKE := hide (And.intro hk' hec)
        clear hk' hec
        rcases hr04 with hr0 | hr4
        · subst hr0
          obtain ⟨hxk, hk5, hwk⟩ := HWQ.out.2.1 rfl
          have HWK2 := hide hwk
          clear HWQ HKE hwk
          rcases (by omega : k = 0 ∨ k = 1 ∨ k = 2 ∨ k = 3 ∨ k = 4) with rfl | rfl | rfl | rfl | rfl
          · have hxa : xa = 0 := by omega
            subst hxa
            clear hxk hk5
            -- BEGIN2
            as_aux_lemma =>
              have hm := kw_mould (lo := lo) hn50
              have HC := mould_step bk S 1 0 (.slice (some ⟨sb, 0, none⟩) 1 sc) ov 1000 n (fun _ => kwW n lo 0) wc HIc.out.book (by omega) (by omega) HIc.out.st (kw_ok hn50 hlo1 0) (by omega) (by omega)
              simp only [hm.1, hm.2] at HC
              replace HC := hide HC
              clear hm
              go_wp2_with fail
              refine HC.out.mono ?_
              rintro e wm hs
              have HI2 := hide (FrI.step HIc.out hs)
              obtain ⟨rfl, -⟩ := hs
              clear HC HIc q0 q1
              obtain ⟨p0, p1⟩ := HLX.out _ HI2.out.lo
              obtain ⟨A9, c9, w9, hr9, ho9, hg9⟩ := HI2.out.rt.push (xd, 0) (by rw [HNR.out.1]; omega) HI2.out.lo.size
              have hbA := (Below.refl wm.heap.size wm).alloc (Nat.le_refl _) (.cells #[.int .i64 xd, .int .i64 0] 38)
              dsimp only at hr9 hg9
              have HI3 := hide ((HI2.out.ext hbA).push hg9 ho9)
              rw [HNR.out.1] at hr9 HI3
              have HR9 := hide hr9
              clear hr9 ho9 hg9 hbA HI2
              go_wp2_with (at_builtin; refine wpList_append_run rfl (.tmp 149) (.tmp 154) 24 rfl rfl rfl HR9.out ?_)
              go_roundw
              case rel => exact ⟨j + 1, 1, A9, c9, _, _, by omega, by go_num, by rw [HNR.out.2], by rw [HNR.out.2]; exact HI3, HWK2⟩
              case measure => simp [intOf]; omega
            -- END2
          · have hxa : xa = 1 := by omega
            subst hxa
            clear hxk hk5
            -- BEGIN3
            as_aux_lemma =>
              have hm := kw_dry hn50 hlo1 (k := 1) (by omega)
              have HC := dry_step bk S 1 0 (.slice (some ⟨sb, 0, none⟩) 1 sc) ov 1000 n (fun _ => kwW n lo 1) wc HIc.out.book (by omega) (by omega) HIc.out.st (kw_ok hn50 hlo1 1) (by omega) (by omega) 0
              simp only [hm.1, hm.2, if_true] at HC
              replace HC := hide HC
              clear hm
              go_wp2_with fail
              refine HC.out.mono ?_
              rintro e wm hs
              have HI2 := hide (FrI.step HIc.out hs)
              obtain ⟨rfl, -⟩ := hs
              clear HC HIc q0 q1
              obtain ⟨p0, p1⟩ := HLX.out _ HI2.out.lo
              obtain ⟨A9, c9, w9, hr9, ho9, hg9⟩ := HI2.out.rt.push (xd, 1) (by rw [HNR.out.1]; omega) HI2.out.lo.size
              have hbA := (Below.refl wm.heap.size wm).alloc (Nat.le_refl _) (.cells #[.int .i64 xd, .int .i64 1] 38)
              dsimp only at hr9 hg9
              have HI3 := hide ((HI2.out.ext hbA).push hg9 ho9)
              rw [HNR.out.1] at hr9 HI3
              have HR9 := hide hr9
              clear hr9 ho9 hg9 hbA HI2
              go_wp2_with (at_builtin; refine wpList_append_run rfl (.tmp 149) (.tmp 154) 24 rfl rfl rfl HR9.out ?_)
              go_roundw
              case rel => exact ⟨j + 1, 2, A9, c9, _, _, by omega, by go_num, by rw [HNR.out.2], by rw [HNR.out.2]; exact HI3, HWK2⟩
              case measure => simp [intOf]; omega
            -- END3
          · have hxa : xa = 2 := by omega
            subst hxa
            clear hxk hk5
            -- BEGIN4
            as_aux_lemma =>
              have hm := kw_fire hn50 hlo1 (k := 2) (by omega)
              rcases HIc.out.burn with ⟨-, rfl⟩ | ⟨h, -⟩
              rotate_left
              · exact absurd h (by decide)
              have hbA := (Below.refl wc.heap.size wc).alloc (Nat.le_refl _) (.cells #[.int .i64 0, .int .i64 n] 43)
              have HIz := hide (HIc.out.ext hbA)
              have h8 : wc.heap.size ≠ S := by have := HIc.out.st.lt; omega
              have h9 : wc.heap.size ≠ bk := by have := HIc.out.book.lt; omega
              obtain ⟨cs, hcs, hc0⟩ := HIz.out.sp
              have HC := fire_one bk S 1 0 1 wc.heap.size 0 sb 0 sc 1000 n (fun _ => 2) (fun _ => kwW n lo 2) _ HIz.out.book (by omega) (by omega) HIz.out.st (fun _ _ => kw_ok hn50 hlo1 2) (int_ir hcs hc0) (fun _ _ => by omega) h8 h9 (pi_one wc ((0 : Nat) : Int) n _) (by omega) (by omega)
              clear h8 h9 hcs hc0
              simp only [hm.1, if_true] at HC
              rw [hm.2] at HC
              replace HC := hide HC
              clear hm hbA
              go_wp2_with fail
              refine HC.out.mono ?_
              rintro e wm ⟨rfl, h⟩
              clear HC
              rcases h with ⟨h0, -⟩ | ⟨-, ov', hbk, how, hst, hap⟩
              · exact absurd rfl h0
              obtain ⟨g, oc, rfl, hg, cs, hcs, hc0⟩ := own_burn how
              have HI2 := hide (HIz.out.apart (hot' := true) hap hbk hst (.inr ⟨rfl, g, oc, rfl, Nat.le_trans HIz.out.lo.size hg, cs, hcs, hc0⟩))
              clear hbk how hst hap hg hcs hc0 HIc HIz q0 q1
              obtain ⟨p0, p1⟩ := HLX.out _ HI2.out.lo
              obtain ⟨A9, c9, w9, hr9, ho9, hg9⟩ := HI2.out.rt.push (xd, 2) (by rw [HNR.out.1]; omega) HI2.out.lo.size
              have hbA := (Below.refl wm.heap.size wm).alloc (Nat.le_refl _) (.cells #[.int .i64 xd, .int .i64 2] 38)
              dsimp only at hr9 hg9
              have HI3 := hide ((HI2.out.ext hbA).push hg9 ho9)
              rw [HNR.out.1] at hr9 HI3
              have HR9 := hide hr9
              clear hr9 ho9 hg9 hbA HI2
              go_wp2_with (at_builtin; refine wpList_append_run rfl (.tmp 149) (.tmp 154) 24 rfl rfl rfl HR9.out ?_)
              go_roundw
              case rel => exact ⟨j + 1, 3, A9, c9, _, _, by omega, by go_num, by rw [HNR.out.2], by rw [HNR.out.2]; exact HI3, HWK2⟩
              case measure => simp [intOf]; omega
            -- END4
          · have hxa : xa = 3 := by omega
            subst hxa
            clear hxk hk5
            -- BEGIN5
            as_aux_lemma =>
              have hm := kw_draw hn50 hlo1
              have hbA := (Below.refl wc.heap.size wc).alloc (Nat.le_refl _) (.cells #[.int .i64 lo] 3)
              have HIz := hide (HIc.out.ext hbA)
              have h8 : wc.heap.size ≠ S := by have := HIc.out.st.lt; omega
              have h9 : wc.heap.size ≠ bk := by have := HIc.out.book.lt; omega
              rcases HIz.out.burn with ⟨h, -⟩ | ⟨-, g, oc, rfl, hg0, cs, hcs, hc0⟩
              · exact absurd h (by decide)
              obtain ⟨ct, hct⟩ := HIz.out.st.1
              have HC := draw_one bk S 1 0 oc 1 wc.heap.size 0 g 0 1000 lo (.slice (some ⟨sb, 0, none⟩) 1 sc) (fun _ => kwW n lo 3) _ HIz.out.book (by omega) (by omega) HIz.out.st (fun _ _ => kw_ok hn50 hlo1 3) (int_ir hcs hc0) (by simpa using IR.one wc lo 3) (by omega) h8 h9 (hcs.ne_ hct (by decide)) (hcs.ne_ HIz.out.book (by decide))
              simp only [hm.1, hm.2] at HC
              replace HC := hide HC
              clear hm hbA h8 h9 hcs hc0 hct hg0
              go_wp2_with fail
              refine HC.out.mono ?_
              rintro e wm ⟨rfl, h⟩
              clear HC
              rcases h with ⟨h0, -⟩ | ⟨-, hbk, hst, hap⟩
              · exact absurd rfl h0
              have HI2 := hide (HIz.out.apart (hot' := false) hap hbk hst (.inl ⟨rfl, rfl⟩))
              clear hbk hst hap HIc HIz q0 q1
              obtain ⟨p0, p1⟩ := HLX.out _ HI2.out.lo
              obtain ⟨A9, c9, w9, hr9, ho9, hg9⟩ := HI2.out.rt.push (xd, 3) (by rw [HNR.out.1]; omega) HI2.out.lo.size
              have hbA := (Below.refl wm.heap.size wm).alloc (Nat.le_refl _) (.cells #[.int .i64 xd, .int .i64 3] 38)
              dsimp only at hr9 hg9
              have HI3 := hide ((HI2.out.ext hbA).push hg9 ho9)
              rw [HNR.out.1] at hr9 HI3
              have HR9 := hide hr9
              clear hr9 ho9 hg9 hbA HI2
              go_wp2_with (at_builtin; refine wpList_append_run rfl (.tmp 149) (.tmp 154) 24 rfl rfl rfl HR9.out ?_)
              go_roundw
              case rel => exact ⟨j + 1, 4, A9, c9, _, _, by omega, by go_num, by rw [HNR.out.2], by rw [HNR.out.2]; exact HI3, HWK2⟩
              case measure => simp [intOf]; omega
            -- END5
          · have hxa : xa = 4 := by omega
            subst hxa
            clear hxk hk5
            -- BEGIN6
            as_aux_lemma =>
              have hm := kw_lay hn50 hlo1 (k := 4) (by omega)
              have HC := lay_step bk S 1 0 (.slice (some ⟨sb, 0, none⟩) 1 sc) ov 1000 (n - lo) (fun _ => kwW n lo 4) wc HIc.out.book (by omega) (by omega) HIc.out.st (kw_ok hn50 hlo1 4) (by omega) (by omega)
              simp only [hm.1, hm.2, if_true] at HC
              have hnl : IntKind.i64.wrap (n - lo) = n - lo := by rw [IntWalk.i64_in _ (by omega)]
              replace HC := hide HC
              clear hm
              go_wp2_with fail
              refine HC.out.mono ?_
              rintro e wm hs
              have HI2 := hide (FrI.step HIc.out hs)
              obtain ⟨rfl, -⟩ := hs
              clear HC HIc q0 q1
              obtain ⟨p0, p1⟩ := HLX.out _ HI2.out.lo
              obtain ⟨A9, c9, w9, hr9, ho9, hg9⟩ := HI2.out.rt.push (xd, 4) (by rw [HNR.out.1]; omega) HI2.out.lo.size
              have hbA := (Below.refl wm.heap.size wm).alloc (Nat.le_refl _) (.cells #[.int .i64 xd, .int .i64 4] 38)
              dsimp only at hr9 hg9
              have HI3 := hide ((HI2.out.ext hbA).push hg9 ho9)
              rw [HNR.out.1] at hr9 HI3
              have HR9 := hide hr9
              clear hr9 ho9 hg9 hbA HI2
              go_wp2_with (at_builtin; refine wpList_append_run rfl (.tmp 149) (.tmp 154) 24 rfl rfl rfl HR9.out ?_)
              go_roundw
              case rel => exact ⟨j + 1, 5, A9, c9, _, _, by omega, by go_num, by rw [HNR.out.2], by rw [HNR.out.2]; exact HI3, HWK2⟩
              case measure => simp [intOf]; omega
            -- END6
        · subst hr4
          have hkx := HWQ.out.2.2 rfl
          clear HWQ HKE
          rcases (by omega : xa = 1 ∨ xa = 2 ∨ xa = 3 ∨ xa = 4) with rfl | rfl | rfl | rfl
          · -- BEGIN7
            as_aux_lemma =>
              obtain rfl : k = 0 := by omega
              have hm := kw_dry hn50 hlo1 (k := 0) (by omega)
              have HC := dry_step bk S 1 0 (.slice (some ⟨sb, 0, none⟩) 1 sc) ov 1000 n (fun _ => kwW n lo 0) wc HIc.out.book (by omega) (by omega) HIc.out.st (kw_ok hn50 hlo1 0) (by omega) (by omega) 0
              rw [if_neg (by omega), if_neg (by omega)] at hm
              simp only [hm.1, hm.2] at HC
              replace HC := hide HC
              clear hm
              go_wp2_with fail
              refine HC.out.mono ?_
              rintro e wm hs
              have HI2 := hide (FrI.step HIc.out hs)
              obtain ⟨rfl, -⟩ := hs
              clear HC HIc q0 q1
              clear hkx
              go_wp2_with fail
              go_roundw
              case rel => exact ⟨j + 1, 0, RA, rc, _, right, by omega, by go_num, by rw [HNR.out.1], by rw [HNR.out.1]; exact HI2, HWK⟩
              case measure => simp [intOf]; omega
            -- END7
          · -- BEGIN8
            as_aux_lemma =>
              have hm := kw_fire hn50 hlo1 (k := k) (by omega)
              rw [if_neg (by omega)] at hm
              rcases HIc.out.burn with ⟨-, rfl⟩ | ⟨h, -⟩
              rotate_left
              · exact absurd h (by rw [decide_eq_true_iff]; omega)
              have hbA := (Below.refl wc.heap.size wc).alloc (Nat.le_refl _) (.cells #[.int .i64 0, .int .i64 n] 43)
              have HIz := hide (HIc.out.ext hbA)
              have h8 : wc.heap.size ≠ S := by have := HIc.out.st.lt; omega
              have h9 : wc.heap.size ≠ bk := by have := HIc.out.book.lt; omega
              obtain ⟨cs, hcs, hc0⟩ := HIz.out.sp
              have HC := fire_one bk S 1 0 1 wc.heap.size 0 sb 0 sc 1000 n (fun _ => 2) (fun _ => kwW n lo k) _ HIz.out.book (by omega) (by omega) HIz.out.st (fun _ _ => kw_ok hn50 hlo1 k) (int_ir hcs hc0) (fun _ _ => by omega) h8 h9 (pi_one wc ((0 : Nat) : Int) n _) (by omega) (by omega)
              clear h8 h9 hcs hc0
              simp only [hm.1] at HC
              replace HC := hide HC
              clear hm hbA
              go_wp2_with fail
              refine HC.out.mono ?_
              rintro e wm ⟨rfl, h⟩
              clear HC
              rcases h with ⟨-, hB⟩ | ⟨h0, -⟩
              rotate_left
              · exact absurd h0 (by decide)
              have HI2 := hide (HIz.out.ext hB)
              clear hB HIc HIz q0 q1
              go_wp2_with fail
              go_roundw
              case rel => exact ⟨j + 1, k, RA, rc, _, right, by omega, by go_num, by rw [HNR.out.1], by rw [HNR.out.1]; exact HI2, HWK⟩
              case measure => simp [intOf]; omega
            -- END8
          · -- BEGIN9
            as_aux_lemma =>
              have hbA := (Below.refl wc.heap.size wc).alloc (Nat.le_refl _) (.cells #[.int .i64 lo] 3)
              have HIz := hide (HIc.out.ext hbA)
              rcases HIc.out.burn with ⟨-, rfl⟩ | ⟨h, -⟩
              rotate_left
              · exact absurd h (by rw [decide_eq_true_iff]; omega)
              have HC := hide (draw_cold bk S 1 1 1 (some ⟨wc.heap.size, 0, none⟩) 1000 _ _ HIz.out.book)
              clear hbA
              go_wp2_with fail
              refine HC.out.mono ?_
              rintro e wm ⟨rfl, hB⟩
              clear HC
              have HI2 := hide (HIz.out.ext hB)
              clear hB HIc HIz q0 q1
              go_wp2_with fail
              go_roundw
              case rel => exact ⟨j + 1, k, RA, rc, _, right, by omega, by go_num, by rw [HNR.out.1], by rw [HNR.out.1]; exact HI2, HWK⟩
              case measure => simp [intOf]; omega
            -- END9
          · -- BEGIN10
            as_aux_lemma =>
              have hm := kw_lay hn50 hlo1 (k := k) (by omega)
              rw [if_neg (by omega), if_neg (by omega)] at hm
              have HC := lay_step bk S 1 0 (.slice (some ⟨sb, 0, none⟩) 1 sc) ov 1000 (n - lo) (fun _ => kwW n lo k) wc HIc.out.book (by omega) (by omega) HIc.out.st (kw_ok hn50 hlo1 k) (by omega) (by omega)
              simp only [hm.1, hm.2] at HC
              have hnl : IntKind.i64.wrap (n - lo) = n - lo := by rw [IntWalk.i64_in _ (by omega)]
              replace HC := hide HC
              clear hm
              go_wp2_with fail
              refine HC.out.mono ?_
              rintro e wm hs
              have HI2 := hide (FrI.step HIc.out hs)
              obtain ⟨rfl, -⟩ := hs
              clear HC HIc q0 q1
              go_wp2_with fail
              go_roundw
              case rel => exact ⟨j + 1, k, RA, rc, _, right, by omega, by go_num, by rw [HNR.out.1], by rw [HNR.out.1]; exact HI2, HWK⟩
              case measure => simp [intOf]; omega
            -- END10
    · obtain rfl : nl = j := by omega
      have hnl : ¬ (nl : Int) < (nl : Int) := by omega
      -- BEGIN20
      as_aux_lemma =>
        obtain ⟨nr, hnr⟩ : ∃ nr, right.length = nr := ⟨_, rfl⟩
        have hnk : nr = k := by rw [← hnr]; exact HWK.out.len
        have hk5 := HWK.out.k5
        have HNR := hide hnr
        have HNK := hide hnk
        rw [hnr] at HI
        rw [hnr]
        clear hnr hnk
        obtain ⟨x, hx⟩ : ∃ x, kwW n lo k = x := ⟨_, rfl⟩
        have hxs := kw_sum (n := n) (lo := lo) hk5
        rw [hx] at HI hxs
        have hox : OkW x := by rw [← hx]; exact kw_ok hn50 hlo1 k
        have HC := hide (count_ok bk S 1 0 (.slice (some ⟨sb, 0, none⟩) 1 sc) ov 1000 x wr HI.out.book (by omega) (by omega) (by simpa using HI.out.st.2 0 (by omega)) hox)
        clear hx
        obtain ⟨cb, hcb⟩ : ∃ cb, decide (k = 5) = cb := ⟨_, rfl⟩
        have HCO : Hid (∀ A' c' W, RtR W d (wkR f lg) → DsR W A' right → Calls Tryd.prog 15 #[.agg #[.slice d.A 5 d.c, .int .i64 12, .int .i64 4], .slice A' nr c'] W fun e w' => e = .returned (.tuple #[.bool cb, .int .i64 0]) ∧ Below W.heap.size W w') := hide fun A' c' W h1 h2 => by
          have h := complete_rite d (wkR f lg) A' c' right W h1 (wk_z f lg) (by rw [HNR.out, HNK.out]; omega) h2
          rw [HNR.out] at h
          obtain ⟨r1, r2, r3⟩ := rg_yes HWK.out.rg
          refine h.mono ?_
          rintro e w' ⟨⟨h3, -⟩ | ⟨-, -, rfl⟩, hB⟩
          · exact absurd r3 h3
          · rw [HWK.out.d, wk_co f lg HWK.out.k5, hcb]
            exact ⟨rfl, hB⟩
        obtain ⟨o1, o2, o3, o4, o5, o6, o7, o8, o9⟩ := hox
        have hn1 : IntKind.i64.wrap (x.wet + x.dry) = x.wet + x.dry := IntWalk.i64_in _ (by omega)
        have hn2 : IntKind.i64.wrap (x.wet + x.dry + x.burning) = x.wet + x.dry + x.burning := IntWalk.i64_in _ (by omega)
        have hn3 : IntKind.i64.wrap (x.wet + x.dry + x.burning + x.fired) = x.wet + x.dry + x.burning + x.fired := IntWalk.i64_in _ (by omega)
        have hn4 : IntKind.i64.wrap (x.wet + x.dry + x.burning + x.fired + x.laid) = x.wet + x.dry + x.burning + x.fired + x.laid := IntWalk.i64_in _ (by omega)
        obtain ⟨s, hs⟩ : ∃ s, x.wet + x.dry + x.burning + x.fired + x.laid + x.broken = s := ⟨_, rfl⟩
        have hn5 : IntKind.i64.wrap (x.wet + x.dry + x.burning + x.fired + x.laid + x.broken) = s := by rw [IntWalk.i64_in _ (by omega)]; exact hs
        have hn6 : IntKind.i64.wrap (n - lo) = n - lo := IntWalk.i64_in _ (by omega)
        unfold Wa.sum at hxs
        rw [hs] at hxs
        clear hs o1 o2 o3 o4 o5 o6 o7 o8 o9
        go_wp2_with fail
        refine HC.out.mono ?_
        rintro e w9 ⟨rfl, hB⟩
        have HIk := hide (HI.out.ext hB)
        clear HC hB HI
        unfold agg7
        go_upto_region 35 with fail
        have HBX := hide (Blk.new w9 47 #[.int .i64 x.wet, .int .i64 x.dry, .int .i64 x.burning, .int .i64 x.fired, .int .i64 x.laid, .int .i64 x.broken, .int .i64 x.missing])
        have hB := (Below.refl w9.heap.size w9).alloc (Nat.le_refl _) (.cells #[.int .i64 x.wet, .int .i64 x.dry, .int .i64 x.burning, .int .i64 x.fired, .int .i64 x.laid, .int .i64 x.broken, .int .i64 x.missing] 47)
        have HIl := hide (HIk.out.ext hB)
        clear hB HIk
        generalize (w9.alloc (.cells #[.int .i64 x.wet, .int .i64 x.dry, .int .i64 x.burning, .int .i64 x.fired, .int .i64 x.laid, .int .i64 x.broken, .int .i64 x.missing] 47)) = wA at HIl HBX ⊢
        generalize w9.heap.size = g at HBX ⊢
        go_cut [19, 20] (fun c e w' => c = .bool cb ∧ e = .int .i64 0 ∧ Hid (Below wA.heap.size wA w'))
        case first =>
          have HBD := hide ((Below.refl wA.heap.size wA).drew)
          have HSF : Hid (∀ W, Below wA.heap.size wA W → RtR W d (wkR f lg) ∧ (W.cell? ⟨G, 0, none⟩ = some (.slice d.A 5 d.c) ∧ W.cell? ⟨G, 1, none⟩ = some (.int .i64 12) ∧ W.cell? ⟨G, 2, none⟩ = some (.int .i64 4))) := hide fun W h => by
            have h2 := HIl.out.lo.trans (h.mono HIl.out.lo.size)
            obtain ⟨-, g0, g1, g2, -⟩ := blk3 (KG.out.ext h2)
            exact ⟨HRT.out.ext h2, g0, g1, g2⟩
          have hr0 : DsR wA.drew RA right := (show DsR wA RA right from HIl.out.rt.dsr.2).ext HBD.out
          have hlen : right.length ≤ 1000000 := by rw [HNR.out, HNK.out]; omega
          refine wp_region_J (fun W : World => (W.cell? ⟨G, 0, none⟩ = some (.slice d.A 5 d.c) ∧ W.cell? ⟨G, 1, none⟩ = some (.int .i64 12) ∧ W.cell? ⟨G, 2, none⟩ = some (.int .i64 4))) (by kernel_rfl) ?_
          generalize wA.drew = wd at HBD hr0 ⊢
          refine wpAnyJ_take 0 (v := ?_) (by first | exact hF | exact wideFn) (HSF.out _ HBD.out).2 rfl (by kernel_rfl) (by kernel_rfl) (by kernel_rfl) (by kernel_rfl) rfl ?_ (by first | exact fun _ _ _ h => h | exact fun _ _ _ h => hQ2 _ _ _ _ _ h) ?_
          rotate_left
          · intro W hSW
            simp only [glA, glB, glC]
            (try dsimp only at hSW)
            go_simp
            with_reducible rfl
          (try simp only [glA, glB, glC, Act.put, glD, glE, glF])
          refine wpAnyJ_take 2 (v := ?_) (by first | exact hF | exact wideFn) (HSF.out _ HBD.out).2 rfl (by kernel_rfl) (by kernel_rfl) (by kernel_rfl) (by kernel_rfl) rfl ?_ (by first | exact fun _ _ _ h => h | exact fun _ _ _ h => hQ2 _ _ _ _ _ h) ?_
          rotate_left
          · intro W hSW
            simp only [glA, glB, glC]
            (try dsimp only at hSW)
            go_simp
            with_reducible rfl
          (try simp only [glA, glB, glC, Act.put, glD, glE, glF])
          have hb1 : Below wd.heap.size wd (wd.alloc (.cells #[] 38)) := (Below.refl _ _).alloc (Nat.le_refl _) _
          have ho1 := OwnD.made0 wd
          refine wpAnyJ_one 1 rfl (by kernel_rfl) (fun K hK => ?_)
          simp only [glA, glB, glC]
          go_simp
          refine hK.out _ _ (fun _ => (HSF.out _ (HBD.out.trans (hb1.mono HBD.out.size))).2) ?_
          clear hK K
          (try simp only [glA, glB, glC, Act.put, glD, glE, glF])
          obtain ⟨v2, w2', hr2, ho2, hg2⟩ := ho1.pushes RA rc right (hr0.ext hb1) (by simpa using hlen) hb1.size
          have hb2 := hb1.grown hg2 hb1.size (fun j e => (World.ownsRow.lt ho1 j e).1)
          rw [List.nil_append] at ho2
          obtain ⟨A9, c9, rfl⟩ := own_shape ho2
          have D9 := ho2.dsr.2
          rw [HNR.out] at hr2
          refine wpAnyJ_one 3 rfl (by kernel_rfl) (fun K hK => ?_)
          rw [if_pos (by rfl)]
          refine wpIn_append_run (.tmp 163) (.tmp 164) 24 wideFn rfl rfl rfl hr2 ?_
          refine hK.out _ _ (fun _ => (HSF.out _ (HBD.out.trans (hb2.mono HBD.out.size))).2) ?_
          clear hK K
          (try simp only [glA, glB, glC, Act.put, glD, glE, glF])
          have HB9 := hide (HBD.out.trans (hb2.mono HBD.out.size))
          refine wpAnyJ_one 4 rfl (by kernel_rfl) (fun K hK => ?_)
          simp only [glA, glB, glC]
          go_simp
          refine ⟨trivial, rfl, ?_⟩
          refine (callsIn_wide.2 (HCO.out A9 c9 _ (HSF.out _ HB9.out).1 D9)).mono ?_
          rintro e wz ⟨rfl, hbz⟩
          have HBz := hide (HB9.out.trans (hbz.mono HB9.out.size))
          dsimp only
          refine hK.out _ _ (fun _ => (HSF.out _ HBz.out).2) ?_
          clear hK K
          (try simp only [glA, glB, glC, Act.put, glD, glE, glF])
          refine tk_start [5, 6, 7, 8, 9] ?_
          iterate 5
            refine tk_one (v := ?_) (by first | exact hF | exact wideFn) ((HSF.out _ HBz.out).2) rfl (by kernel_rfl) (by kernel_rfl) (by kernel_rfl) (by kernel_rfl) rfl ?_ (by first | exact fun _ _ _ h => h | exact fun _ _ _ h => hQ2 _ _ _ _ _ h) ?_
            rotate_left
            · intro W hSW
              simp only [glA, glB, glC]
              (try dsimp only at hSW)
              go_simp
              with_reducible rfl
            (try simp only [glA, glB, glC, Act.put, glD, glE, glF])
          refine tk_end ?_
          refine wpAnyJ_done (by kernel_rfl) ?_
          go_wp2_with fail
          go_meet
          exact ⟨rfl, rfl, HBz⟩
        obtain ⟨rfl, rfl, HBC⟩ := hcut
        have HBE := hide (HB0.out.trans ((HIl.out.lo.trans (HBC.out.mono HIl.out.lo.size)).mono HB0.out.size))
        obtain ⟨z9, c0, c1, c2, c3, c4, c5, c6⟩ := bx7 (HBX.out.ext HBC.out)
        have HE := hide (HKN.out wc HBE.out)
        have hnk := HNK.out
        clear HNK HCO HBX HIl HBC HWK HNR HKN HRT KG HDS
        rcases (by omega : k = 0 ∨ (1 ≤ k ∧ k ≤ 4) ∨ k = 5) with rfl | hk | rfl
        · -- BEGIN21
          subst hnk
          obtain rfl : cb = false := by rw [← hcb]; rfl
          obtain rfl : s = 0 := hxs.1 rfl
          have e1 : ((0 : Int) == n) = false := by rw [beq_eq_false_iff_ne]; omega
          clear hcb hxs
          go_wp2_with fail
          refine HE.out.mono ?_
          rintro e we ⟨rfl, hb⟩
          have HBF := hide (HBE.out.trans (hb.mono HBE.out.size))
          go_wp2_with fail
          go_ret
          exact ⟨rfl, HBF.out⟩
          -- END21
        · -- BEGIN22
          obtain rfl : cb = false := by rw [← hcb, decide_eq_false_iff_not]; omega
          obtain rfl : s = n := hxs.2.1 (by omega)
          have e1 : (0 : Int) < (nr : Int) := by omega
          have e2 : ((nr : Int) == 5) = false := by rw [beq_eq_false_iff_ne]; omega
          have e3 : (s == 0) = false := by rw [beq_eq_false_iff_ne]; omega
          clear hcb hxs hnk
          go_wp2_with fail
          refine HE.out.mono ?_
          rintro e we ⟨rfl, hb⟩
          have HBF := hide (HBE.out.trans (hb.mono HBE.out.size))
          go_wp2_with fail
          go_ret
          exact ⟨rfl, HBF.out⟩
          -- END22
        · -- BEGIN23
          subst hnk
          obtain rfl : cb = true := by rw [← hcb]; rfl
          obtain rfl : s = n := hxs.2.1 (by omega)
          obtain ⟨l1, l2⟩ := hxs.2.2 rfl
          have e4 : (x.laid == s - lo) = true := by rw [l1]; exact beq_self_eq_true _
          have e5 : (x.broken == lo) = true := by rw [l2]; exact beq_self_eq_true _
          clear l1 l2
          have e3 : (s == 0) = false := by rw [beq_eq_false_iff_ne]; omega
          clear hcb hxs
          go_wp2_with fail
          refine HE.out.mono ?_
          rintro e we ⟨rfl, hb⟩
          have HBF := hide (HBE.out.trans (hb.mono HBE.out.size))
          go_wp2_with fail
          go_ret
          exact ⟨rfl, HBF.out⟩
          -- END23
      -- END20
end Go.Proofs.YtagjeeimglecnaaDoor
/- How a law's statement follows from its walk; arguments opened as readings. -/
namespace Go.Proofs.YtagjeeimglecnaaDoor
open Go Go.RowKit Go.ChangeShapes Go.WideShapes Go.ChangeAt
set_option maxRecDepth 100000
theorem own_knob : ownKnob Tryd.prog.godebug = none := by kernel_rfl
theorem laidOut : laidOutB Tryd.prog = true := by kernel_rfl
section
variable {H : Type} {enc : TypeId × Value → H}
/-- arguments read behind the call as before, if below the heap's old size nothing has turned -/
theorem stay_all {W W' : World} (hb : Below W.heap.size W W') {sp : Nat → Bool} : ∀ {ts : List TypeId} {vs : List Value} {ds : List (DataW H)} {ps : List MemPlace},
    (∀ t ∈ ts, Tryd.prog.readableRec t = true ∧ t < Tryd.prog.types.size) → DataW.TrodAll enc Tryd.prog W 0 (fun _ => true) true ts vs ds ps → (∀ x ∈ ps, x.block < W.heap.size) → (∀ x ∈ ps, sp x.block = true) →
    DataW.TrodAll enc Tryd.prog W' 0 sp true ts vs ds ps
  | [], _, _, _, _, h, _, _ => by
    obtain ⟨rfl, rfl, rfl⟩ := trodAll_nil h
    exact trodAll_mk0
  | t :: ts, _, _, _, hr, h, hlt, hsp => by
    obtain ⟨v, vs, d, ds, p, q, rfl, rfl, rfl, h0, r0⟩ := trodAll_cons h
    have k := hr t (by simp)
    exact trodAll_cons_mk (WideElems.Trod_stays laidOut k.1 k.2 h0 (fun x hx => hb.same (hlt x (by simp [hx]))) (fun x hx => hsp x (by simp [hx])))
      (stay_all hb (fun t ht => hr t (by simp [ht])) r0 (fun x hx => hlt x (by simp [hx])) (fun x hx => hsp x (by simp [hx])))
/-- a law that returned true and turned nothing old -/
theorem law_post {f : Func} {s : ChangeSpec} {apart fresh handsOn again : Bool} {W W' : World} {args : Array Value} {ds gs : List (DataW H)} {before : List MemPlace}
    (hW : DataW.Whole enc Tryd.prog f.params.toList s.vars apart W args.toList ds gs before) (hb : Below W.heap.size W W')
    (hvs : s.vars = []) (hr1 : f.resultTypes = #[4])
    (hpar : f.params.toList.all (fun t => Tryd.prog.readableRec t && decide (t < Tryd.prog.types.size)) = true)
    (hfn : (s.fn H ds).results = [.lit (.bool true)] ∧ (s.fn H ds).args = ds ∧ (s.fn H ds).vars = []) :
    s.post enc Tryd.prog f apart fresh handsOn again W args (.bool true) W' := by
  have hW0 := hW
  have hlt : ∀ p ∈ before, p.block < W.heap.size := fun p hp => hW.lt p hp
  have hold : ∀ p ∈ before, (fun b => decide (b < W.heap.size)) p.block = true := fun p hp => by simpa using hlt p hp
  obtain ⟨p, q, hA, hV, rfl, hz, hn⟩ := hW
  rw [hvs] at hV
  obtain ⟨rfl, rfl⟩ := trodVars_none hV
  simp only [List.append_nil] at *
  have hk : ∀ t ∈ f.params.toList, Tryd.prog.readableRec t = true ∧ t < Tryd.prog.types.size := by
    intro t ht
    have := List.all_eq_true.1 hpar t ht
    simpa using this
  have hargs : ∀ sp : Nat → Bool, (∀ x ∈ p, sp x.block = true) → DataW.TrodAll enc Tryd.prog W' 0 sp true f.params.toList args.toList (s.fn H (ds ++ [])).args p := fun sp hsp => by
    rw [List.append_nil, hfn.2.1]; exact stay_all hb hk hA hlt hsp
  have hvars : ∀ sp : Nat → Bool, DataW.TrodVars enc Tryd.prog W' sp s.vars (s.fn H (ds ++ [])).vars [] := fun sp => by
    rw [hvs, List.append_nil, hfn.2.2]; exact rfl
  have hres : ∀ (b : Nat) (sp : Nat → Bool) (hd : Bool), DataW.TrodAll enc Tryd.prog W' b sp hd f.resultTypes.toList ((Value.bool true).resultList f.resultTypes.size) (s.fn H (ds ++ [])).results [] := fun b sp hd => by
    rw [List.append_nil, hfn.1, hr1]
    exact trodAll_cons_mk (shut_bool Tryd.underlying4 _) trodAll_mk0
  refine ⟨ds, [], p, [], p, [], hW0, hres _ _ _, hargs _ hold, hvars _, World.keptBut_mono (fun x hx => ⟨hx, Or.inr (by simpa using hx)⟩) (hb.frame (· ∈ p)), fun _ => ?_⟩
  refine ⟨ok_one hr1 rfl (okWide_bool_mk Tryd.underlying4 _), _, _, ([] ++ p) ++ [], ⟨[] ++ p, [], trodAll_append (hargs _ (fun _ _ => rfl)) (hres _ _ _), hvars (fun _ => true), rfl, ?_, ?_⟩, ?_⟩
  · intro b off hp
    have hin : MemPlace.cell b off ∈ p := by simpa using hp
    rw [hb.frozen (hlt _ hin)]
    exact hz b off hin
  · intro ha
    simpa using hn ha
  · intro x hx _
    simpa using hx
/-- a slice of structs of two cells: the readings of its elements -/
theorem open_pairs_c {W : World} {t e : TypeId} {f0 f1 : Field} {v : Value} {x : DataW H × List MemPlace} {fuel : Nat} (ht : Tryd.prog.underlying t = some (.slice e)) (he : Tryd.prog.underlying e = some (.struct #[f0, f1]))
    (ce : Tryd.prog.cellsOf e = 2) (o0 : f0.offset = 0) (o1 : f1.offset = 1) (c0 : Tryd.prog.cellsOf f0.type = 1) (c1 : Tryd.prog.cellsOf f1.type = 1)
    (h : DataW.trod enc Tryd.prog W 0 (fun _ => true) true fuel t [v] = some x) (hlt : ∀ y ∈ x.2, y.block < W.heap.size) :
    ∃ A n c V0 V1, v = .slice A n c ∧ n ≤ maxLen ∧ n ≤ c ∧ P2 W W.heap.size A n V0 V1 ∧ ∀ i, i < n → ∃ m x0 x1, DataW.trod enc Tryd.prog W 0 (fun _ => true) true m f0.type [V0 i] = some x0 ∧ DataW.trod enc Tryd.prog W 0 (fun _ => true) true m f1.type [V1 i] = some x1 ∧
      (∀ y ∈ x0.2, y.block < W.heap.size) ∧ (∀ y ∈ x1.2, y.block < W.heap.size) := by
  rcases Deep.open_slice_pairs ht he ce o0 o1 c0 c1 h with ⟨h1, -⟩ | ⟨a, len, cap, m, n, V0, V1, D0, D1, P0, P1, h1, hb, hl, hm, hmm, hx, hc⟩
  · injection h1 with h1
    subst h1
    exact ⟨none, 0, 0, fun _ => .nilIface, fun _ => .nilIface, rfl, by simp [maxLen], Nat.le_refl _, ER.nil _ _ _ _ _, fun i hi => absurd hi (by omega)⟩
  · injection h1 with h1
    subst h1
    simp only [if_true] at hmm
    subst hmm
    refine ⟨some a, len, m, V0, V1, rfl, by omega, hl, fun hn => ?_, fun i hi => ?_⟩
    · have h0 := (hc 0 (by omega)).1
      obtain ⟨b, off, spot⟩ := a
      have hsp : spot = none := by simpa [Addr.add] using World.cell?_spot h0
      subst hsp
      refine ⟨b, off, rfl, ?_, fun k i hk hi => ?_⟩
      · have hb1 := hlt (.cell b (off + 0)) (by
          rw [hx]
          exact List.mem_append_left _ (MemPlace.mem_row.2 ⟨0, by omega, rfl⟩))
        exact hb1
      · have hk2 := hc k (by omega)
        have q0 := hk2.1
        have q1 := hk2.2.1
        rw [add_lit'] at q0 q1
        rcases (by omega : i = 0 ∨ i = 1) with rfl | rfl
        · simpa using q0
        · simpa [Nat.add_assoc] using q1
    · have hi2 := hc i (by omega)
      refine ⟨n, _, _, hi2.2.2.1, hi2.2.2.2, fun y hy => hlt y ?_, fun y hy => hlt y ?_⟩
      · rw [hx]; exact List.mem_append_right _ (List.mem_flatMap.2 ⟨i, by simp; omega, List.mem_append_left _ hy⟩)
      · rw [hx]; exact List.mem_append_right _ (List.mem_flatMap.2 ⟨i, by simp; omega, List.mem_append_right _ hy⟩)
/-- a slice of ints -/
theorem open_ints_c {W : World} {t : TypeId} {v : Value} {x : DataW H × List MemPlace} {fuel : Nat} (ht : Tryd.prog.underlying t = some (.slice 3))
    (h : DataW.trod enc Tryd.prog W 0 (fun _ => true) true fuel t [v] = some x) (hlt : ∀ y ∈ x.2, y.block < W.heap.size) :
    ∃ A n c z, v = .slice A n c ∧ n ≤ maxLen ∧ n ≤ c ∧ IR W W.heap.size A n z ∧ ∀ i, i < n → -9223372036854775808 ≤ z i ∧ z i ≤ 9223372036854775807 := by
  rcases open_ints ht Tryd.underlying3 (by kernel_rfl) h with ⟨h1, -⟩ | ⟨a, len, cap, zs, h1, hb, hl, hm, hz, hx, hc, hwf⟩
  · injection h1 with h1
    subst h1
    exact ⟨none, 0, 0, fun _ => 0, rfl, by simp [maxLen], Nat.le_refl _, ER.nil _ _ _ _ _, fun i hi => absurd hi (by omega)⟩
  · injection h1 with h1
    subst h1
    simp only [if_true] at hz
    refine ⟨some a, len, cap, fun i => zs.getD i 0, rfl, by omega, hl, fun hn => ?_, fun i hi => ?_⟩
    · have h0 := hc 0 (by omega)
      obtain ⟨b, off, spot⟩ := a
      have hsp : spot = none := by simpa [Addr.add] using World.cell?_spot h0
      subst hsp
      refine ⟨b, off, rfl, ?_, fun k i hk hi => ?_⟩
      · have hb1 := hlt (.cell b (off + 0)) (by
          rw [hx]
          exact MemPlace.mem_row.2 ⟨0, by omega, rfl⟩)
        exact hb1
      · obtain rfl : i = 0 := by omega
        have := hc k (by omega)
        rw [add_lit'] at this
        simpa using this
    · have h1 : zs.getD i 0 ∈ zs := by
        rw [List.getD_eq_getElem?_getD, List.getElem?_eq_getElem (by omega)]
        exact List.getElem_mem _
      have := hwf _ h1
      simp only [Lit.wf, Bool.and_eq_true, decide_eq_true_eq] at this
      simpa [IntKind.min, IntKind.max, IntKind.signed, IntKind.bits] using this
theorem int_of_trod {W : World} {t : TypeId} {v : Value} {x : DataW H × List MemPlace} {fuel : Nat} (ht : Tryd.prog.underlying t = some (.int .i64)) (h : DataW.trod enc Tryd.prog W 0 (fun _ => true) true fuel t [v] = some x) :
    v = .int .i64 (intOf v) ∧ -9223372036854775808 ≤ intOf v ∧ intOf v ≤ 9223372036854775807 := by
  obtain ⟨z, hz, -, hw⟩ := DataW.trod_int ht h
  injection hz with hz
  subst hz
  simp only [Lit.wf, Bool.and_eq_true, decide_eq_true_eq] at hw
  exact ⟨rfl, by simpa [intOf, IntKind.min, IntKind.max, IntKind.signed, IntKind.bits] using hw⟩
theorem cells_slice {A : Option Addr} {n c : Nat} : (Value.slice A n c).cells.toList = [.slice A n c] := rfl
/-- a slice of structs of two ints -/
theorem open_pairs {r : Reach} {b0 : Nat} {W : World} {t e : TypeId} {f0 f1 : Field} {v : Value} {d : DataW H} {p : List MemPlace} (ht : Tryd.prog.underlying t = some (.slice e)) (he : Tryd.prog.underlying e = some (.struct #[f0, f1]))
    (ce : Tryd.prog.cellsOf e = 2) (o0 : f0.offset = 0) (o1 : f1.offset = 1) (c0 : Tryd.prog.cellsOf f0.type = 1) (c1 : Tryd.prog.cellsOf f1.type = 1)
    (k0 : Tryd.prog.underlying f0.type = some (.int .i64)) (k1 : Tryd.prog.underlying f1.type = some (.int .i64)) (hval : Value.okWide Tryd.prog W r b0 t v)
    (h : DataW.Trod enc Tryd.prog W 0 (fun _ => true) true t v d p) (hlt : ∀ x ∈ p, x.block < W.heap.size) :
    ∃ A n c x y, v = .slice A n c ∧ n ≤ maxLen ∧ n ≤ c ∧ PI W W.heap.size A n x y := by
  obtain ⟨fuel, h⟩ := h
  obtain ⟨A, n, c, rfl⟩ := okWide_slice ht hval
  rw [cells_slice] at h
  obtain ⟨A', n', c', V0, V1, h1, hn, hnc, hP, hV⟩ := open_pairs_c ht he ce o0 o1 c0 c1 h hlt
  injection h1 with h1 h2 h3
  subst h1 h2 h3
  refine ⟨A, n, c, fun i => intOf (V0 i), fun i => intOf (V1 i), rfl, hn, hnc, fun hn0 => ?_⟩
  obtain ⟨b, off, hA, hb, hc⟩ := hP hn0
  refine ⟨b, off, hA, hb, fun k i hk hi => ?_⟩
  obtain ⟨m, x0, x1, g0, g1, -, -⟩ := hV k hk
  rw [hc k i hk hi]
  rcases (by omega : i = 0 ∨ i = 1) with rfl | rfl
  · simpa using (int_of_trod k0 g0).1
  · simpa using (int_of_trod k1 g1).1
end
end Go.Proofs.YtagjeeimglecnaaDoor
/- Top: arguments opened: arrays of bytes. -/
namespace Go.Proofs.YtagjeeimglecnaaDoor
open Go Go.RowKit Go.ChangeShapes Go.WideShapes Go.ChangeAt
section
variable {H : Type} {enc : TypeId × Value → H} {r : Reach} {b0 : Nat} {W : World} {v : Value} {d : DataW H} {p : List MemPlace}
set_option maxRecDepth 100000
theorem u8_of_trod {W : World} {t : TypeId} {v : Value} {x : DataW H × List MemPlace} {fuel : Nat} (ht : Tryd.prog.underlying t = some (.int .u8)) (h : DataW.trod enc Tryd.prog W 0 (fun _ => true) true fuel t [v] = some x) :
    ∃ n : Nat, v = .int .u8 (n : Int) ∧ n < 256 := by
  obtain ⟨z, hz, -, hw⟩ := DataW.trod_int ht h
  injection hz with hz
  subst hz
  have h2 : 0 ≤ z ∧ z ≤ 255 := by simpa [Lit.wf, IntKind.min, IntKind.max, IntKind.signed, IntKind.bits] using hw
  exact ⟨z.toNat, by rw [show ((z.toNat : Nat) : Int) = z by omega], by omega⟩
theorem agg_of {n : Nat} {t e : TypeId} (ht : Tryd.prog.underlying t = some (.array n e)) (hval : Value.okWide Tryd.prog W r b0 t v) : ∃ cs, v = .agg cs ∧ cs.size = Tryd.prog.cellsOf t := by
  unfold Value.okWide at hval
  cases v <;> simp_all
theorem getD_lt {l : List Nat} (h : ∀ x ∈ l, x < 256) (k : Nat) : l.getD k 0 < 256 := by
  rw [List.getD_eq_getElem?_getD]
  by_cases hk : k < l.length
  · rw [List.getElem?_eq_getElem hk]
    exact h _ (List.getElem_mem _)
  · rw [List.getElem?_eq_none (by omega)]
    decide
theorem open_u8x5 (hval : Value.okWide Tryd.prog W r b0 22 v) (h : DataW.Trod enc Tryd.prog W 0 (fun _ => true) true 22 v d p) :
    ∃ u : Nat → Nat, v = .agg #[.int .u8 (u 0 : Nat), .int .u8 (u 1 : Nat), .int .u8 (u 2 : Nat), .int .u8 (u 3 : Nat), .int .u8 (u 4 : Nat)] ∧ ∀ k, u k < 256 := by
  obtain ⟨⟨cs⟩, rfl, hsz⟩ := agg_of Tryd.underlying22 hval
  have hs5 : cs.length = 5 := hsz.trans (by kernel_rfl)
  match cs, hs5 with
  | [c0, c1, c2, c3, c4], _ =>
  obtain ⟨fuel, h⟩ := h
  obtain ⟨xs, m, -, -, -, hl, hx⟩ := DataW.trod_array Tryd.underlying22 h
  have ce : Tryd.prog.cellsOf 5 = 1 := by kernel_rfl
  rw [ce] at hx
  have y0 := hx 0 (by omega)
  have y1 := hx 1 (by omega)
  have y2 := hx 2 (by omega)
  have y3 := hx 3 (by omega)
  have y4 := hx 4 (by omega)
  rw [List.getElem?_eq_getElem (by omega)] at y0 y1 y2 y3 y4
  obtain ⟨n0, rfl, k0⟩ := u8_of_trod Tryd.underlying5 (show DataW.trod enc Tryd.prog W 0 (fun _ => true) true m 5 [c0] = _ from y0)
  obtain ⟨n1, rfl, k1⟩ := u8_of_trod Tryd.underlying5 (show DataW.trod enc Tryd.prog W 0 (fun _ => true) true m 5 [c1] = _ from y1)
  obtain ⟨n2, rfl, k2⟩ := u8_of_trod Tryd.underlying5 (show DataW.trod enc Tryd.prog W 0 (fun _ => true) true m 5 [c2] = _ from y2)
  obtain ⟨n3, rfl, k3⟩ := u8_of_trod Tryd.underlying5 (show DataW.trod enc Tryd.prog W 0 (fun _ => true) true m 5 [c3] = _ from y3)
  obtain ⟨n4, rfl, k4⟩ := u8_of_trod Tryd.underlying5 (show DataW.trod enc Tryd.prog W 0 (fun _ => true) true m 5 [c4] = _ from y4)
  exact ⟨fun k => [n0, n1, n2, n3, n4].getD k 0, rfl, getD_lt (by simp; omega)⟩
theorem open_u8x3 (hval : Value.okWide Tryd.prog W r b0 23 v) (h : DataW.Trod enc Tryd.prog W 0 (fun _ => true) true 23 v d p) :
    ∃ u : Nat → Nat, v = .agg #[.int .u8 (u 0 : Nat), .int .u8 (u 1 : Nat), .int .u8 (u 2 : Nat)] ∧ ∀ k, u k < 256 := by
  obtain ⟨⟨cs⟩, rfl, hsz⟩ := agg_of Tryd.underlying23 hval
  have hs5 : cs.length = 3 := hsz.trans (by kernel_rfl)
  match cs, hs5 with
  | [c0, c1, c2], _ =>
  obtain ⟨fuel, h⟩ := h
  obtain ⟨xs, m, -, -, -, hl, hx⟩ := DataW.trod_array Tryd.underlying23 h
  have ce : Tryd.prog.cellsOf 5 = 1 := by kernel_rfl
  rw [ce] at hx
  have y0 := hx 0 (by omega)
  have y1 := hx 1 (by omega)
  have y2 := hx 2 (by omega)
  rw [List.getElem?_eq_getElem (by omega)] at y0 y1 y2
  obtain ⟨n0, rfl, k0⟩ := u8_of_trod Tryd.underlying5 (show DataW.trod enc Tryd.prog W 0 (fun _ => true) true m 5 [c0] = _ from y0)
  obtain ⟨n1, rfl, k1⟩ := u8_of_trod Tryd.underlying5 (show DataW.trod enc Tryd.prog W 0 (fun _ => true) true m 5 [c1] = _ from y1)
  obtain ⟨n2, rfl, k2⟩ := u8_of_trod Tryd.underlying5 (show DataW.trod enc Tryd.prog W 0 (fun _ => true) true m 5 [c2] = _ from y2)
  exact ⟨fun k => [n0, n1, n2].getD k 0, rfl, getD_lt (by simp; omega)⟩
end
end Go.Proofs.YtagjeeimglecnaaDoor
/- Rite: a law's arguments opened: rites, lists of deeds, the library's table. -/
namespace Go.Proofs.YtagjeeimglecnaaDoor
open Go Go.RowKit Go.ChangeShapes Go.WideShapes Go.ChangeAt
section
variable {H : Type} {enc : TypeId × Value → H} {r : Reach} {b0 : Nat} {W : World} {v : Value} {d : DataW H} {p : List MemPlace}
set_option maxRecDepth 100000
/-- a slice of structs of one-cell fields -/
theorem open_cellsR {t e : TypeId} {fs : Array Field} {x : DataW H × List MemPlace} {fuel : Nat} (ht : Tryd.prog.underlying t = some (.slice e)) (he : Tryd.prog.underlying e = some (.struct fs)) (hone : Deep.oneCellFields Tryd.prog fs = true)
    (ce : Tryd.prog.cellsOf e = fs.size) (hpos : 0 < fs.size) (h : DataW.trod enc Tryd.prog W 0 (fun _ => true) true fuel t [v] = some x) (hlt : ∀ y ∈ x.2, y.block < W.heap.size) :
    ∃ A n c V, v = .slice A n c ∧ n ≤ maxLen ∧ n ≤ c ∧ ER W W.heap.size fs.size A n V ∧ ∀ i k f, i < n → fs[k]? = some f → ∃ m y, DataW.trod enc Tryd.prog W 0 (fun _ => true) true m f.type [V i k] = some y ∧ (∀ z ∈ y.2, z.block < W.heap.size) := by
  rcases Deep.open_slice ht h with ⟨h1, -⟩ | ⟨a, len, cap, m, n, D, Pl, h1, hb, hl, hm, hmm, hx, hc⟩
  · injection h1 with h1
    subst h1
    exact ⟨none, 0, 0, fun _ _ => .nilIface, rfl, by simp [maxLen], Nat.le_refl _, ER.nil _ _ _ _ _, fun i k f hi => absurd hi (by omega)⟩
  · injection h1 with h1
    subst h1
    simp only [if_true] at hmm
    subst hmm
    rw [ce] at hc hx
    obtain ⟨C, hC⟩ := Deep.choose_lt hc
    refine ⟨some a, len, m, fun i k => (C i).getD k undef, rfl, by omega, hl, fun hn => ?_, fun i k f hi hf => ?_⟩
    · obtain ⟨-, hl0, hc0⟩ := World.cells?_some (hC 0 (by omega)).1
      have h0 := hc0 0 hpos
      rw [List.getElem?_eq_getElem (by omega)] at h0
      obtain ⟨b, off, spot⟩ := a
      have hsp : spot = none := by simpa [Addr.add] using World.cell?_spot h0
      subst hsp
      refine ⟨b, off, rfl, ?_, fun k i hk hi => ?_⟩
      · have hb1 := hlt (.cell b (off + 0)) (by
          rw [hx]
          exact List.mem_append_left _ (MemPlace.mem_row.2 ⟨0, Nat.mul_pos (by omega) hpos, rfl⟩))
        exact hb1
      · obtain ⟨-, hl1, hc1⟩ := World.cells?_some (hC k (by omega)).1
        have h2 := hc1 i hi
        rw [Deep.add_add, add_lit', List.getElem?_eq_getElem (by omega)] at h2
        rw [show off + k * fs.size + i = off + (k * fs.size + i) by omega, h2]
        simp [List.getD, List.getElem?_eq_getElem (show i < (C k).length by omega)]
    · obtain ⟨-, hl1, -⟩ := World.cells?_some (hC i (by omega)).1
      obtain ⟨xs, m', -, hxy, -, hxl, hf2⟩ := DataW.trod_struct he (hC i (by omega)).2
      have hk : k < fs.size := (Array.getElem?_eq_some_iff.1 hf).1
      obtain ⟨ho, hc1⟩ := Deep.hone_of hone k f hf
      have g := hf2 k f hf
      rw [ho, hc1, Deep.take1_drop (C i) k undef (by omega), List.getElem?_eq_getElem (by omega)] at g
      refine ⟨m', _, g, fun z hz => hlt z ?_⟩
      rw [hx]
      simp only [Prod.mk.injEq] at hxy
      refine List.mem_append_right _ (List.mem_flatMap.2 ⟨i, by simp; omega, ?_⟩)
      rw [hxy.2]
      exact List.mem_flatMap.2 ⟨_, List.getElem_mem _, hz⟩
theorem arr3R {cs : Array Value} (h : cs.size = 3) : ∃ a b c, cs = #[a, b, c] := by
  rcases cs with ⟨l⟩
  match l, h with
  | [a, b, c], _ => exact ⟨a, b, c, rfl⟩
/-- the table of the library, from a row's list -/
theorem tb_laid {l : List (String × DataW Unit)} {T : DataW Unit} (h : laidMetH Tryd.prog l W) (hpl : (l.all fun x => x.2.handleName?.isNone) = true) (hm : ("math/bits.deBruijn32tab", T) ∈ l)
    (hT : T = Lib.tabData .u8 ((List.range 32).map fun j => ((Lib.deBruijn32tab.getD j 0 : Nat) : Int))) : TB W := by
  rw [MakeChecks.laidMetH_plain _ _ _ hpl] at h
  obtain ⟨g, t, cs, fuel, p, hg, hty, hvar, hd⟩ := Lib.laidMet.reads h hm
  obtain rfl := Option.some.inj ((show Tryd.prog.globalNamed "math/bits.deBruijn32tab" = some 0 by kernel_rfl).symm.trans hg)
  have ht2 : (Tryd.prog.globals[0]?).map (·.type) = some 187 := by kernel_rfl
  obtain rfl := Option.some.inj (ht2.symm.trans hty)
  rw [hT] at hd
  have hcs := Lib.cells_of_tab Tryd.underlying187 Tryd.underlying5 (by kernel_rfl) (by kernel_rfl) hd
  have key : ∀ j, j < 32 → W.cell? ⟨0, j, none⟩ = some (.int .u8 (Lib.deBruijn32tab.getD j 0 : Nat)) := fun j hj => by
    have := World.var?_cell hg hvar j
    rw [this, ← Array.getElem?_toList, hcs]
    simp [hj]
  exact ⟨World.block_lt_of_cell? W ⟨0, 0, none⟩ (key 0 (by omega)), key⟩
/-- a list of deeds -/
theorem open_deeds {x : DataW H × List MemPlace} {fuel : Nat} (h : DataW.trod enc Tryd.prog W 0 (fun _ => true) true fuel 24 [v] = some x) (hlt : ∀ y ∈ x.2, y.block < W.heap.size) :
    ∃ (A : Option Addr) (c : Nat) (l : List (Int × Int)), v = .slice A l.length c ∧ (l.length ≤ maxLen ∧ l.length ≤ c) ∧ DsR W A l ∧ ∀ t ∈ l, (-9223372036854775808 ≤ t.1 ∧ t.1 ≤ 9223372036854775807) ∧ -9223372036854775808 ≤ t.2 ∧ t.2 ≤ 9223372036854775807 := by
  obtain ⟨A, n, c, V, rfl, hn, hnc, hE, hV⟩ := open_cellsR Tryd.underlying24 Tryd.underlying38 (by kernel_rfl) (by kernel_rfl) (by decide) h hlt
  have k0 : ∀ k, k < n → V k 0 = .int .i64 (intOf (V k 0)) ∧ -9223372036854775808 ≤ intOf (V k 0) ∧ intOf (V k 0) ≤ 9223372036854775807 := fun k hk => by
    obtain ⟨m, y, g, -⟩ := hV k 0 _ hk rfl
    exact int_of_trod Tryd.underlying3 g
  have k1 : ∀ k, k < n → V k 1 = .int .i64 (intOf (V k 1)) ∧ -9223372036854775808 ≤ intOf (V k 1) ∧ intOf (V k 1) ≤ 9223372036854775807 := fun k hk => by
    obtain ⟨m, y, g, -⟩ := hV k 1 _ hk rfl
    exact int_of_trod Tryd.underlying3 g
  obtain ⟨f, hf⟩ : ∃ f : Nat → Int × Int, f = fun k => (intOf (V k 0), intOf (V k 1)) := ⟨_, rfl⟩
  have hl : ((List.range n).map f).length = n := by simp
  have hg : ∀ k, k < n → ((List.range n).map f).getD k (0, 0) = f k := fun k hk => by
    rw [List.getD_eq_getElem?_getD, List.getElem?_map, List.getElem?_range hk]; rfl
  refine ⟨A, c, (List.range n).map f, by rw [hl], by rw [hl]; exact ⟨hn, hnc⟩, ?_, fun t ht => by
    obtain ⟨k, hk, rfl⟩ := List.mem_map.1 ht
    rw [hf]
    exact ⟨(k0 k (List.mem_range.1 hk)).2, (k1 k (List.mem_range.1 hk)).2⟩⟩
  unfold DsR
  rw [hl]
  refine fun hn0 => ?_
  obtain ⟨b, off, hA, hb, hc⟩ := hE hn0
  refine ⟨b, off, hA, hb, fun k i hk hi => ?_⟩
  refine (hc k i hk hi).trans ?_
  show _ = some (dsV (((List.range n).map f).getD k (0, 0)) i)
  rw [hg k hk, hf]
  rcases (by omega : i = 0 ∨ i = 1) with rfl | rfl
  · rw [(k0 k hk).1]; rfl
  · rw [(k1 k hk).1]; rfl
/-- a list of acts -/
theorem open_acts {x : DataW H × List MemPlace} {fuel : Nat} (h : DataW.trod enc Tryd.prog W 0 (fun _ => true) true fuel 26 [v] = some x) (hlt : ∀ y ∈ x.2, y.block < W.heap.size) (last toil : Int) :
    ∃ (d : Rad) (l : List Rac), v = .slice d.A l.length d.c ∧ l.length ≤ maxLen ∧ RtR W d ⟨l, last, toil⟩ := by
  obtain ⟨A, n, c, V, rfl, hn, hnc, hE, hV⟩ := open_cellsR Tryd.underlying26 Tryd.underlying71 (by kernel_rfl) (by kernel_rfl) (by decide) h hlt
  have key : ∀ i, i < n → ∃ q : Option Addr × Nat × Option Addr × Nat × Rac, (∀ k, k < 7 → V i k = acV q.2.2.2.2 q.1 q.2.1 q.2.2.1 q.2.2.2.1 k) ∧ LI W W.heap.size q.1 q.2.2.2.2.nd ∧ LI W W.heap.size q.2.2.1 q.2.2.2.2.ins := fun i hi => by
    obtain ⟨m0, y0, g0, l0⟩ := hV i 0 _ hi rfl
    obtain ⟨m1, y1, g1, l1⟩ := hV i 1 _ hi rfl
    obtain ⟨m2, y2, g2, l2⟩ := hV i 2 _ hi rfl
    obtain ⟨m3, y3, g3, l3⟩ := hV i 3 _ hi rfl
    obtain ⟨m4, y4, g4, l4⟩ := hV i 4 _ hi rfl
    obtain ⟨m5, y5, g5, l5⟩ := hV i 5 _ hi rfl
    obtain ⟨m6, y6, g6, l6⟩ := hV i 6 _ hi rfl
    obtain ⟨s, hs, -, -⟩ := DataW.trod_string Tryd.underlying9 g0
    obtain ⟨bo, hbo, -⟩ := DataW.trod_bool Tryd.underlying4 g6
    obtain ⟨A1, n1, c1, z1, e1, -, -, r1, -⟩ := open_ints_c Tryd.underlying34 g1 l1
    obtain ⟨A2, n2, c2, z2, e2, -, -, r2, -⟩ := open_ints_c Tryd.underlying34 g2 l2
    have e3 := (int_of_trod Tryd.underlying3 g3).1
    have e4 := (int_of_trod Tryd.underlying3 g4).1
    have e5 := (int_of_trod Tryd.underlying3 g5).1
    injection hs with e0
    injection hbo with e6
    have li : ∀ (A : Option Addr) (n : Nat) (z : Nat → Int), IR W W.heap.size A n z → LI W W.heap.size A ((List.range n).map z) := fun A n z hz => by
      have hl : ((List.range n).map z).length = n := by simp
      unfold LI
      rw [hl]
      refine fun hn => ?_
      obtain ⟨b', off, hA, hb, hc⟩ := hz hn
      refine ⟨b', off, hA, hb, fun k i hk hi => ?_⟩
      rw [hc k i hk hi]
      have e : ((List.range n).map z).getD k 0 = z k := by
        rw [List.getD_eq_getElem?_getD, List.getElem?_map, List.getElem?_range hk]; rfl
      show some (Value.int .i64 (z k)) = some (Value.int .i64 (((List.range n).map z).getD k 0))
      rw [e]
    refine ⟨(A1, c1, A2, c2, ⟨s, (List.range n1).map z1, (List.range n2).map z2, intOf (V i 3), intOf (V i 4), intOf (V i 5), bo⟩), fun k hk => ?_, li _ _ _ r1, li _ _ _ r2⟩
    have hl1 : ((List.range n1).map z1).length = n1 := by simp
    have hl2 : ((List.range n2).map z2).length = n2 := by simp
    rcases (by omega : k = 0 ∨ k = 1 ∨ k = 2 ∨ k = 3 ∨ k = 4 ∨ k = 5 ∨ k = 6) with rfl | rfl | rfl | rfl | rfl | rfl | rfl
    · exact e0
    · rw [e1]; show Value.slice A1 n1 c1 = Value.slice A1 ((List.range n1).map z1).length c1; rw [hl1]
    · rw [e2]; show Value.slice A2 n2 c2 = Value.slice A2 ((List.range n2).map z2).length c2; rw [hl2]
    · exact e3
    · exact e4
    · exact e5
    · exact e6
  haveI : Inhabited Rac := ⟨ra0⟩
  obtain ⟨q, hq⟩ := Deep.choose_lt key
  obtain ⟨f, hf⟩ : ∃ f : Nat → Rac, f = fun k => (q k).2.2.2.2 := ⟨_, rfl⟩
  have hl : ((List.range n).map f).length = n := by simp
  have hg : ∀ k, k < n → (⟨(List.range n).map f, last, toil⟩ : Rit).ac k = f k := fun k hk => by
    unfold Rit.ac
    show ((List.range n).map f).getD k ra0 = f k
    rw [List.getD_eq_getElem?_getD, List.getElem?_map, List.getElem?_range hk]; rfl
  have hn2 : (⟨(List.range n).map f, last, toil⟩ : Rit).n = n := hl
  refine ⟨⟨A, c, fun k => (q k).1, fun k => (q k).2.1, fun k => (q k).2.2.1, fun k => (q k).2.2.2.1⟩, (List.range n).map f, by rw [hl], by rw [hl]; exact hn, ⟨?_, fun k hk => ?_, fun k hk => ?_⟩⟩
  · rw [hn2]
    refine fun hn0 => ?_
    obtain ⟨b, off, hA, hb, hc⟩ := hE hn0
    refine ⟨b, off, hA, hb, fun k i hk hi => ?_⟩
    refine (hc k i hk hi).trans ?_
    show _ = some (acV (Rit.ac _ k) (q k).1 (q k).2.1 (q k).2.2.1 (q k).2.2.2.1 i)
    rw [hg k hk, hf, (hq k hk).1 i hi]
  · rw [hn2] at hk
    rw [hg k hk, hf]
    exact (hq k hk).2.1
  · rw [hn2] at hk
    rw [hg k hk, hf]
    exact (hq k hk).2.2
/-- a rite -/
theorem open_riteV (hval : Value.okWide Tryd.prog W r b0 28 v) (h : DataW.Trod enc Tryd.prog W 0 (fun _ => true) true 28 v d p) (hlt : ∀ x ∈ p, x.block < W.heap.size) :
    ∃ (dd : Rad) (s : Rit), v = .agg #[.slice dd.A s.n dd.c, .int .i64 s.last, .int .i64 s.toil] ∧ s.n ≤ maxLen ∧ RtR W dd s ∧ (-9223372036854775808 ≤ s.last ∧ s.last ≤ 9223372036854775807) ∧ -9223372036854775808 ≤ s.toil ∧ s.toil ≤ 9223372036854775807 := by
  obtain ⟨cs, rfl, hsz⟩ := okWide_struct Tryd.underlying28 hval
  obtain ⟨a, b, c, rfl⟩ : ∃ a b c, cs = #[a, b, c] := by
    have hsz := hsz.trans (show _ = 3 by kernel_rfl)
    rcases cs with ⟨l⟩
    match l, hsz with
    | [a, b, c], _ => exact ⟨a, b, c, rfl⟩
  obtain ⟨fuel, h⟩ := h
  have h' : DataW.trod enc Tryd.prog W 0 (fun _ => true) true fuel 28 [a, b, c] = some (d, p) := h
  obtain ⟨xs, m, -, hxy, -, hxl, hf⟩ := DataW.trod_struct Tryd.underlying28 h'
  have g0 := hf 0 _ rfl
  have g1 := hf 1 _ rfl
  have g2 := hf 2 _ rfl
  rw [List.getElem?_eq_getElem (by rw [hxl]; decide)] at g0 g1 g2
  have k0 : DataW.trod enc Tryd.prog W 0 (fun _ => true) true m 26 [a] = _ := g0
  have k1 : DataW.trod enc Tryd.prog W 0 (fun _ => true) true m 3 [b] = _ := g1
  have k2 : DataW.trod enc Tryd.prog W 0 (fun _ => true) true m 3 [c] = _ := g2
  obtain ⟨e1, b1⟩ := int_of_trod Tryd.underlying3 k1
  obtain ⟨e2, b2⟩ := int_of_trod Tryd.underlying3 k2
  simp only [Prod.mk.injEq] at hxy
  obtain ⟨dd, l, e0, l0, r0⟩ := open_acts k0 (fun y hy => hlt y (by
    rw [hxy.2]
    exact List.mem_flatMap.2 ⟨_, List.getElem_mem _, hy⟩)) (intOf b) (intOf c)
  refine ⟨dd, ⟨l, intOf b, intOf c⟩, ?_, l0, r0, b1, b2⟩
  show _ = Value.agg #[.slice dd.A l.length dd.c, .int .i64 (intOf b), .int .i64 (intOf c)]
  rw [← e0, ← e1, ← e2]
theorem open_deedsV (hval : Value.okWide Tryd.prog W r b0 24 v) (h : DataW.Trod enc Tryd.prog W 0 (fun _ => true) true 24 v d p) (hlt : ∀ x ∈ p, x.block < W.heap.size) :
    ∃ (A : Option Addr) (c : Nat) (l : List (Int × Int)), v = .slice A l.length c ∧ (l.length ≤ maxLen ∧ l.length ≤ c) ∧ DsR W A l ∧ ∀ t ∈ l, (-9223372036854775808 ≤ t.1 ∧ t.1 ≤ 9223372036854775807) ∧ -9223372036854775808 ≤ t.2 ∧ t.2 ≤ 9223372036854775807 := by
  obtain ⟨fuel, h⟩ := h
  obtain ⟨A, n, c, rfl⟩ := okWide_slice Tryd.underlying24 hval
  rw [cells_slice] at h
  exact open_deeds h hlt
theorem open_intV (hval : Value.okWide Tryd.prog W r b0 3 v) (h : DataW.Trod enc Tryd.prog W 0 (fun _ => true) true 3 v d p) : ∃ x, v = .int .i64 x ∧ -9223372036854775808 ≤ x ∧ x ≤ 9223372036854775807 := by
  obtain ⟨z, rfl, rfl, rfl, -⟩ := open_int Tryd.underlying3 hval h
  obtain ⟨fuel, h⟩ := h
  have e := int_of_trod Tryd.underlying3 h
  exact ⟨z, rfl, e.2⟩
end
end Go.Proofs.YtagjeeimglecnaaDoor
namespace Go.Proofs.YtagjeeimglecnaaDoor.topFirings
open Go Go.ChangeShapes Go.WideShapes Go.ChangeAt Go.RowKit
set_option maxRecDepth 100000 in
theorem lifted (os : Os) (started : os.Started) (H : Type) (enc : TypeId × Value → H) :
    ReturnsInHanded {} Tryd.checked os 3 .any (fun w args => (Rows.topFiringsSpec.pre enc Tryd.prog Tryd.f3 Rows.topFiringsRow.domain false w args ∧ laidMetH Tryd.prog Rows.topFiringsRow.laid w) ∧ sizedMet enc Tryd.prog Tryd.f3 (OpenSpec.ofChange Rows.topFiringsSpec) false w args)
      (Rows.topFiringsSpec.post enc Tryd.prog Tryd.f3 false true false false) := by
  refine returnsInHanded_of_change_and (C := Tryd.checked) (X := fun w _ => laidMetH Tryd.prog Rows.topFiringsRow.laid w) (fun _ _ _ hh h => h.of_heap hh) own_knob started (by kernel_rfl) Tryd.func3
    (ChangeSpec.witness_shaped (enc := enc) (C := Tryd.checked) (os := os) (X := fun w _ => laidMetH Tryd.prog Rows.topFiringsRow.laid w) false (World.laidAll Tryd.prog os Rows.topFiringsRow.laid) #[.agg #[.int .u8 0, .int .u8 0, .int .u8 0, .int .u8 0, .int .u8 0], .agg #[.int .u8 0, .int .u8 0, .int .u8 0], .slice none 0 0] 8 (World.laidAll_os _ _ _)
      (World.shaped_of_ZipB (by kernel_rfl) (by kernel_rfl)) (by kernel_rfl) (by kernel_rfl) (by kernel_rfl)
      (by rw [MakeChecks.laidMetH_plain _ _ _ (by kernel_rfl)]; exact laidMet_laidAll _ (by kernel_rfl) (by kernel_rfl))) ?_
  intro W base args ds gs before hval0 hW _ _ hL _
  have hval : ∀ (j : Nat) t v, Tryd.f3.params[j]? = some t → args[j]? = some v → Value.okWide Tryd.prog W .any base t v := hval0
  have hW' := hW
  have hlt : ∀ p ∈ before, p.block < W.heap.size := fun p hp => hW.lt p hp
  obtain ⟨p, q, hA0, hV, rfl, hfz, hnd⟩ := hW
  have hA : DataW.TrodAll enc Tryd.prog W 0 (fun _ => true) true Tryd.f3.params.toList args.toList ds p := hA0
  rw [Tryd.params3] at hA hval
  obtain ⟨v0, vs0, d0, ds0, p0, q0, hargs, rfl, rfl, h0, r0⟩ := trodAll_cons hA
  obtain ⟨v1, vs1, d1, ds1, p1, q1, rfl, rfl, rfl, h1, r1⟩ := trodAll_cons r0
  obtain ⟨v2, vs2, d2, ds2, p2, q2, rfl, rfl, rfl, h2, r2⟩ := trodAll_cons r1
  obtain ⟨rfl, rfl, rfl⟩ := trodAll_nil r2
  obtain rfl : args = #[v0, v1, v2] := by cases args; simp_all
  obtain ⟨rfl, rfl⟩ := trodVars_none hV
  have k0 := hval 0 22 v0 rfl rfl
  have k1 := hval 1 23 v1 rfl rfl
  have k2 := hval 2 24 v2 rfl rfl
  have hT : TB W := tb_laid hL (by kernel_rfl) (.head _) (by kernel_rfl)
  obtain ⟨b0, rfl, s0⟩ := open_u8x5 k0 h0
  obtain ⟨y1, rfl, s1⟩ := open_u8x3 k1 h1
  obtain ⟨A2, c2, u2, rfl, -, s2, -⟩ := open_deedsV k2 h2 (fun x hx => hlt x (by simp [hx]))
  clear hA0 hval0
  refine (firings_any b0 y1 A2 c2 u2 W s0 s1 s2 hT).mono fun e W' ⟨he, hb⟩ => ?_
  subst he
  exact ⟨_, rfl, law_post hW' hb rfl rfl (by kernel_rfl) ⟨rfl, rfl, rfl⟩⟩
theorem over : Rows.topFiringsRow.holds Tryd.pinned (OpenSpec.ofChange Rows.topFiringsSpec) :=
  OpenClaim.holds_of_wide 3 Tryd.f3 rfl rfl rfl rfl rfl rfl rfl ⟨rfl, rfl, rfl, rfl, rfl⟩ rfl rfl rfl rfl rfl (by kernel_rfl) Tryd.func3 (by kernel_rfl)
    (of_decide_eq_true (by kernel_rfl)) (by unfold Func.isWrapper; first | (rw [if_pos (by decide +kernel)]; kernel_rfl) | (rw [if_neg (by decide +kernel)]; exact ⟨rfl, rfl⟩))
    (fun os started H enc _ => lifted os started H enc)
theorem proved : Rows.TopFiringsCardSaid :=
  Claim7.holds_tied_plain_at .later [] [.data, .data, .pinned] true (true, "2e92dcd5f84424410bd225b108f158cfc1e25e94796026258fce9916b3d02a5e") false over (fun _ h => by cases h) (by kernel_rfl) (fun _ h => by cases h) topFirings_row_tie rfl ⟨rfl, rfl⟩ (by kernel_rfl) rfl
    (fun f fn hf hfn => by
      obtain rfl : f = 3 := Option.some.inj ((show Tryd.prog.funcNamed "chiti/chititop.TopFirings" = some 3 by kernel_rfl).symm.trans hf) |>.symm
      obtain rfl : fn = Tryd.f3 := (Option.some.inj (Tryd.func3.symm.trans hfn)).symm
      exact ⟨by kernel_rfl, fun j t ht => by
        rw [Tryd.params3] at ht
        have hm : t ∈ ([22, 23, 24] : List TypeId) := by simpa using Array.mem_of_getElem? ht
        have hall : (([22, 23, 24] : List TypeId).all fun u => !Tryd.prog.wantsStandIn u) = true := by kernel_rfl
        exact (show Tryd.prog.wantsStandIn t = false by simpa using List.all_eq_true.1 hall t hm)⟩)
    (by kernel_rfl)
#print axioms proved
end Go.Proofs.YtagjeeimglecnaaDoor.topFirings
