/- Rite, the reference: Valid. -/
import Derived.Test.YtcgdalabenflmaaDoorOpensF
import Derived.Test.YtcgdalabenflmaaDoorRows
import Derived.ProofKit
import Derived.OpenShut
import Derived.Carry
import Derived.ChangeSame
import Derived.Deep.SlicePairs
import Derived.ChangeSlices
import Derived.Deep.Fields
import Derived.Lib.LaidU8
import Derived.MakeChecks
set_option linter.unusedSimpArgs false
set_option linter.unusedVariables false
set_option linter.unnecessarySimpa false
namespace Go.Proofs.YtcgdalabenflmaaDoor
open Go Go.RowKit Go.Shelf
set_option maxHeartbeats 8000000
set_option maxRecDepth 100000
theorem valid_any (d : Rad) (r : Rit) (w : World) (hd : RtR w d r) (hz : RtZ r) :
    Calls Tryd.prog 15 #[.agg #[.slice d.A r.n d.c, .int .i64 r.last, .int .i64 r.toil]] w fun e w' => e = .returned (.bool (riB r)) ∧ Below w.heap.size w w' := by
  have HB1 : Hid (Below w.heap.size w (w.alloc (.cells #[.slice d.A r.n d.c, .int .i64 r.last, .int .i64 r.toil] 24))) := hide ((Below.refl _ _).alloc (Nat.le_refl _) _)
  have G1 := hide (Blk.new w 24 #[.slice d.A r.n d.c, .int .i64 r.last, .int .i64 r.toil])
  have HRT := hide (hd.ext HB1.out)
  have HKI := hide (fun (k : Nat) W (h : RtR W d r) => kind_any d r k W h hz)
  have HOT := hide (fun (A : Option Addr) (c : Nat) (l : List Int) (act : Nat) W (h : RtR W d r) (hl : l.length ≤ 1000) (hA : LI W W.heap.size A l) => others_any d r A c l act W h hz.n hl hA)
  have HZ := hide hz
  obtain ⟨R, hR⟩ : ∃ R, riB r = R := ⟨_, rfl⟩
  have HR := hide hR
  obtain ⟨n, hn⟩ : ∃ x, r.n = x := ⟨_, rfl⟩
  obtain ⟨la, hla⟩ : ∃ x, r.last = x := ⟨_, rfl⟩
  obtain ⟨tl, htl⟩ : ∃ x, r.toil = x := ⟨_, rfl⟩
  have hn1 := hz.n
  have HN := hide (And.intro hn (And.intro hla htl))
  rw [hR]
  rw [hn] at hn1
  rw [hn, hla, htl] at HB1 G1 HRT HKI HOT ⊢
  go_enter Tryd.func15, Tryd.ntmps15
  go_upto_region 1 with fail
  generalize w.alloc (.cells #[.slice d.A n d.c, .int .i64 la, .int .i64 tl] 24) = w1 at HB1 G1 HRT ⊢
  obtain ⟨G, hG⟩ : ∃ x, w.heap.size = x := ⟨_, rfl⟩
  rw [hG] at G1 ⊢
  clear hG hR hd hz
  obtain ⟨g9, g0, g1, g2, -⟩ := blk3 G1.out
  by_cases c1 : (n : Int) < 1
  · have HE : Hid (R = false) := hide (by rw [← HR.out]; unfold riB szB; rw [hn, decide_eq_false (show ¬ (1 ≤ n ∧ n ≤ 10) by omega)]; simp)
    clear hn hla htl
    go_wp2_with fail
    go_ret
    exact ⟨by rw [HE.out]; rfl, HB1.out⟩
  by_cases c2 : (n : Int) > 10
  · have HE : Hid (R = false) := hide (by rw [← HR.out]; unfold riB szB; rw [hn, decide_eq_false (show ¬ (1 ≤ n ∧ n ≤ 10) by omega)]; simp)
    have c2b : (10 : Int) < (n : Int) := by omega
    clear hn hla htl
    go_wp2_with fail
    go_ret
    exact ⟨by rw [HE.out]; rfl, HB1.out⟩
  have c2b : ¬ (10 : Int) < (n : Int) := by omega
  by_cases c3 : la < 0
  · have HE : Hid (R = false) := hide (by rw [← HR.out]; unfold riB szB; rw [hla, decide_eq_false (show ¬ (0 ≤ la ∧ la ≤ 30) by omega)]; simp)
    clear hn hla htl
    go_wp2_with fail
    go_ret
    exact ⟨by rw [HE.out]; rfl, HB1.out⟩
  by_cases c4 : la > 30
  · have HE : Hid (R = false) := hide (by rw [← HR.out]; unfold riB szB; rw [hla, decide_eq_false (show ¬ (0 ≤ la ∧ la ≤ 30) by omega)]; simp)
    have c4b : 30 < la := by omega
    clear hn hla htl
    go_wp2_with fail
    go_ret
    exact ⟨by rw [HE.out]; rfl, HB1.out⟩
  have c4b : ¬ 30 < la := by omega
  by_cases c5 : tl < 1
  · have HE : Hid (R = false) := hide (by rw [← HR.out]; unfold riB szB; rw [htl, decide_eq_false (show ¬ (1 ≤ tl ∧ tl ≤ 4) by omega)]; simp)
    clear hn hla htl
    go_wp2_with fail
    go_ret
    exact ⟨by rw [HE.out]; rfl, HB1.out⟩
  by_cases c6 : tl > 4
  · have HE : Hid (R = false) := hide (by rw [← HR.out]; unfold riB szB; rw [htl, decide_eq_false (show ¬ (1 ≤ tl ∧ tl ≤ 4) by omega)]; simp)
    have c6b : 4 < tl := by omega
    clear hn hla htl
    go_wp2_with fail
    go_ret
    exact ⟨by rw [HE.out]; rfl, HB1.out⟩
  have c6b : ¬ 4 < tl := by omega
  have hsz : szB r = true := by
    unfold szB
    rw [hn, hla, htl, decide_eq_true (show 1 ≤ n ∧ n ≤ 10 by omega), decide_eq_true (show 0 ≤ la ∧ la ≤ 30 by omega), decide_eq_true (show 1 ≤ tl ∧ tl ≤ 4 by omega)]
    rfl
  have hRe : R = ((List.range n).all (acB r) && (List.range n).all (kiB r)) := by
    rw [← HR.out]; unfold riB; rw [hsz, hn, Bool.true_and]
  have HA : Hid (∀ i, i < n → acB r i = false → R = false) := hide fun i hi h => by
    rw [hRe]
    have : (List.range n).all (acB r) = false := by
      rw [← Bool.not_eq_true, List.all_eq_true]
      intro h2
      rw [h2 i (List.mem_range.2 hi)] at h
      cases h
    rw [this, Bool.false_and]
  have HK : Hid (∀ i, i < n → kiB r i = false → R = false) := hide fun i hi h => by
    rw [hRe]
    have : (List.range n).all (kiB r) = false := by
      rw [← Bool.not_eq_true, List.all_eq_true]
      intro h2
      rw [h2 i (List.mem_range.2 hi)] at h
      cases h
    rw [this, Bool.and_false]
  have HY : Hid ((∀ i, i < n → acB r i = true) → (∀ i, i < n → kiB r i = true) → R = true) := hide fun h1 h2 => by
    rw [hRe, Bool.and_eq_true, List.all_eq_true, List.all_eq_true]
    exact ⟨fun i hi => h1 i (List.mem_range.1 hi), fun i hi => h2 i (List.mem_range.1 hi)⟩
  clear hsz hRe hn hla htl
  go_wp2_with fail
  clear g9 g0 g1 g2 c1 c2 c2b c3 c4 c4b c5 c6 c6b
  go_loopw [3] (fun x wr => ∃ i : Nat, i ≤ n ∧ x = .int .i64 i ∧ Hid (∀ j, j < i → acB r j = true) ∧ Hid (Below w1.heap.size w1 wr)) (fun x _ => n - (intOf x).toNat)
  case atStart => exact ⟨0, Nat.zero_le _, rfl, hide (fun j hj => absurd hj (by omega)), hide (Below.refl _ _)⟩
  case round =>
    obtain ⟨i, hi, rfl, HX, HB⟩ := hrel
    have hst : IntKind.i64.wrap ((i : Int) + 1) = ((i + 1 : Nat) : Int) := by rw [IntWalk.i64_in _ (by omega)]; omega
    obtain ⟨-, g0, -⟩ := blk3 (G1.out.ext HB.out)
    by_cases hlt : i < n
    · have hlt' : (i : Int) < (n : Int) := by omega
      have hir : i < r.n := by rw [HN.out.1]; exact hlt
      obtain ⟨ac, hac⟩ : ∃ x, r.ac i = x := ⟨_, rfl⟩
      have HRB := hide (HRT.out.ext HB.out)
      obtain ⟨ab, ao, hra, hal, hrow⟩ := HRT.out.row (by omega)
      have HROW : Hid (∀ W, Below w1.heap.size w1 W → W.cell? ⟨G, 0, none⟩ = some (.slice (some ⟨ab, ao, none⟩) n d.c) ∧ ∀ t, t < n → W.cell? ⟨ab, ao + t * 7, none⟩ = some (.string (r.ac t).nm)) := hide fun W h => by
        obtain ⟨-, g0, -⟩ := blk3 (G1.out.ext h)
        rw [hra] at g0
        exact ⟨g0, fun t ht => (h.cell (p := ⟨ab, ao + t * 7, none⟩) hal).trans (hrow t 0 (by rw [HN.out.1]; exact ht) (by omega))⟩
      clear hrow hal
      obtain ⟨ab2, ao2, hra2, hal, c0, c1, c2, c3, c4, c5, c6⟩ := HRB.out.at_ hir hac
      rw [hra] at hra2
      injection hra2 with hra2
      injection hra2 with e1 e2
      subst e1 e2
      have hla := HRB.out.nd i hir
      have hlb := HRB.out.ins i hir
      have hz1 := HZ.out.nm i hir
      have hz2 := HZ.out.nd i hir
      have hz3 := HZ.out.ins i hir
      have hac2 : acB r i = acB r i := rfl
      unfold acB at hac2
      rw [hac, HN.out.1, HN.out.2.1] at hac2
      rw [hac] at hla hlb hz1 hz2 hz3
      obtain ⟨nm, nd, ins, at_, fr, to_, ex⟩ := ac
      dsimp only at c0 c1 c2 c3 c4 c5 c6 hla hlb hz1 hz2 hz3
      have HAC : Hid (acB r i = ((((((wordB nm && (List.range i).all fun k => decide ((r.ac k).nm ≠ nm)) && isLF i n (-1) nd) && isLF i n (-1) ins) && decide (-1 ≤ at_ ∧ at_ ≤ (n : Int) - 1)) && decide (at_ ≠ (i : Int))) && decide (0 ≤ fr ∧ fr ≤ to_ ∧ to_ ≤ la))) := hide (by
        unfold acB
        rw [hac, HN.out.1, HN.out.2.1])
      have HA2 := hide (HA.out i hlt)
      obtain ⟨na, hna⟩ : ∃ x, d.na i = x := ⟨_, rfl⟩
      obtain ⟨nc, hnc⟩ : ∃ x, d.nc i = x := ⟨_, rfl⟩
      obtain ⟨ia, hia⟩ : ∃ x, d.ia i = x := ⟨_, rfl⟩
      obtain ⟨ic, hic⟩ : ∃ x, d.ic i = x := ⟨_, rfl⟩
      obtain ⟨nn, hnn⟩ : ∃ x, nd.length = x := ⟨_, rfl⟩
      obtain ⟨ni, hni⟩ : ∃ x, ins.length = x := ⟨_, rfl⟩
      rw [hna, hnc, hnn] at c1
      rw [hia, hic, hni] at c2
      rw [hna] at hla
      rw [hia] at hlb
      have HO1 := hide (fun W (h : RtR W d r) (h2 : LI W W.heap.size na nd) => HOT.out na nc nd i W h hz2 h2)
      have HO2 := hide (fun W (h : RtR W d r) (h2 : LI W W.heap.size ia ins) => HOT.out ia ic ins i W h hz3 h2)
      rw [hnn] at HO1
      rw [hni] at HO2
      have HLT := hide (fun W => letters_any nm W (by unfold maxLen; omega))
      have HLA := hide hla
      have HLB := hide hlb
      obtain ⟨W1, hw⟩ : ∃ x, wordB nm = x := ⟨_, rfl⟩
      obtain ⟨W2, hl1⟩ : ∃ x, isLF i n (-1) nd = x := ⟨_, rfl⟩
      obtain ⟨W3, hl2⟩ : ∃ x, isLF i n (-1) ins = x := ⟨_, rfl⟩
      rw [hw, hl1, hl2] at HAC
      rw [hw] at HLT
      rw [hl1] at HO1
      rw [hl2] at HO2
      rw [hra] at g0 HO1 HO2
      clear hra hir hac hac2 hla hlb hz1 hz2 hz3 hna hnc hia hic hnn hni hal hw hl1 hl2 HOT
      have hbE : Below wr.heap.size wr (wr.alloc (.cells #[.string nm, .slice na nn nc, .slice ia ni ic, .int .i64 at_, .int .i64 fr, .int .i64 to_, .bool ex] 58)) := (Below.refl _ _).alloc (Nat.le_refl _) _
      have KE := hide (Blk.new wr 58 #[.string nm, .slice na nn nc, .slice ia ni ic, .int .i64 at_, .int .i64 fr, .int .i64 to_, .bool ex])
      go_upto_region 7 with fail
      replace HRB := hide (HRB.out.ext hbE)
      replace HB := hide (HB.out.trans (hbE.mono HB.out.size))
      replace HLA := hide (liE HLA.out hbE)
      replace HLB := hide (liE HLB.out hbE)
      clear hbE g0 c0 c1 c2 c3 c4 c5 c6
      generalize wr.alloc (.cells #[.string nm, .slice na nn nc, .slice ia ni ic, .int .i64 at_, .int .i64 fr, .int .i64 to_, .bool ex] 58) = we at KE HB HRB HLA HLB ⊢
      obtain ⟨E, hE⟩ : ∃ x, wr.heap.size = x := ⟨_, rfl⟩
      rw [hE] at KE ⊢
      clear hE
      have e0 := KE.out.cell 0
      go_wp2_with fail
      refine (HLT.out we).mono ?_
      rintro e _ ⟨rfl, rfl⟩
      clear e0
      cases W1 with
      | false =>
        have HE : Hid (R = false) := hide (HA2.out (by rw [HAC.out]; simp))
        go_wp2_with fail
        go_ret
        exact ⟨by rw [HE.out]; rfl, HB1.out.trans (HB.out.mono HB1.out.size)⟩
      | true =>
      obtain ⟨g9, -, g1, g2, -⟩ := blk3 (G1.out.ext HB.out)
      have g0 := (HROW.out _ HB.out).1
      have e1 := KE.out.cell 1
      have e2 := KE.out.cell 2
      have e3 := KE.out.cell 3
      have e4 := KE.out.cell 4
      have e5 := KE.out.cell 5
      clear e1 e2 e3 e4 e5
      have e1 := KE.out.cell 1
      go_wp2_with fail
      refine (HO1.out we HRB.out HLA.out).mono ?_
      rintro e wf ⟨rfl, hbf⟩
      clear g9 g0 g1 g2 e1 HO1 HLT HLA
      replace HRB := hide (HRB.out.ext hbf)
      replace KE := hide (KE.out.ext hbf)
      replace HB := hide (HB.out.trans ((hbf).mono HB.out.size))
      (try replace HLA := hide (liE HLA.out hbf))
      (try replace HLB := hide (liE HLB.out hbf))
      clear hbf
      cases W2 with
      | false =>
        have HE : Hid (R = false) := hide (HA2.out (by rw [HAC.out]; simp))
        go_wp2_with fail
        go_ret
        exact ⟨by rw [HE.out]; rfl, HB1.out.trans (HB.out.mono HB1.out.size)⟩
      | true =>
      obtain ⟨g9, -, g1, g2, -⟩ := blk3 (G1.out.ext HB.out)
      have g0 := (HROW.out _ HB.out).1
      have e1 := KE.out.cell 1
      have e2 := KE.out.cell 2
      have e3 := KE.out.cell 3
      have e4 := KE.out.cell 4
      have e5 := KE.out.cell 5
      clear e1 e3 e4 e5
      go_wp2_with fail
      refine (HO2.out wf HRB.out HLB.out).mono ?_
      rintro e wg ⟨rfl, hbg⟩
      clear g9 g0 g1 g2 e2 HO2 HLB
      replace HRB := hide (HRB.out.ext hbg)
      replace KE := hide (KE.out.ext hbg)
      replace HB := hide (HB.out.trans ((hbg).mono HB.out.size))
      (try replace HLA := hide (liE HLA.out hbg))
      (try replace HLB := hide (liE HLB.out hbg))
      clear hbg
      cases W3 with
      | false =>
        have HE : Hid (R = false) := hide (HA2.out (by rw [HAC.out]; simp))
        go_wp2_with fail
        go_ret
        exact ⟨by rw [HE.out]; rfl, HB1.out.trans (HB.out.mono HB1.out.size)⟩
      | true =>
      obtain ⟨g9, -, g1, g2, -⟩ := blk3 (G1.out.ext HB.out)
      have g0 := (HROW.out _ HB.out).1
      have e1 := KE.out.cell 1
      have e2 := KE.out.cell 2
      have e3 := KE.out.cell 3
      have e4 := KE.out.cell 4
      have e5 := KE.out.cell 5
      clear e1 e2
      by_cases k1 : at_ < -1
      · have HE : Hid (R = false) := hide (HA2.out (by rw [HAC.out]; rw [decide_eq_false (show ¬ (-1 ≤ at_ ∧ at_ ≤ (n : Int) - 1) by omega)]; simp))
        go_wp2_with fail
        go_ret
        exact ⟨by rw [HE.out]; rfl, HB1.out.trans (HB.out.mono HB1.out.size)⟩
      by_cases k2 : at_ ≥ (n : Int)
      · have HE : Hid (R = false) := hide (HA2.out (by rw [HAC.out]; rw [decide_eq_false (show ¬ (-1 ≤ at_ ∧ at_ ≤ (n : Int) - 1) by omega)]; simp))
        go_wp2_with fail
        go_ret
        exact ⟨by rw [HE.out]; rfl, HB1.out.trans (HB.out.mono HB1.out.size)⟩
      by_cases k3 : at_ = (i : Int)
      · have k3b : (at_ == (i : Int)) = true := by rw [k3]; exact beq_self_eq_true _
        have HAT := hide k3
        clear k3
        have HE : Hid (R = false) := hide (HA2.out (by rw [HAC.out]; rw [decide_eq_false (show ¬ at_ ≠ (i : Int) from fun h => h HAT.out)]; simp))
        go_wp2_with fail
        go_ret
        exact ⟨by rw [HE.out]; rfl, HB1.out.trans (HB.out.mono HB1.out.size)⟩
      have k3b : (at_ == (i : Int)) = false := by rw [beq_eq_false_iff_ne]; exact k3
      by_cases k4 : fr < 0
      · have HE : Hid (R = false) := hide (HA2.out (by rw [HAC.out]; rw [decide_eq_false (show ¬ (0 ≤ fr ∧ fr ≤ to_ ∧ to_ ≤ la) by omega)]; simp))
        go_wp2_with fail
        go_ret
        exact ⟨by rw [HE.out]; rfl, HB1.out.trans (HB.out.mono HB1.out.size)⟩
      by_cases k5 : fr > to_
      · have HE : Hid (R = false) := hide (HA2.out (by rw [HAC.out]; rw [decide_eq_false (show ¬ (0 ≤ fr ∧ fr ≤ to_ ∧ to_ ≤ la) by omega)]; simp))
        go_wp2_with fail
        go_ret
        exact ⟨by rw [HE.out]; rfl, HB1.out.trans (HB.out.mono HB1.out.size)⟩
      by_cases k6 : to_ > la
      · have HE : Hid (R = false) := hide (HA2.out (by rw [HAC.out]; rw [decide_eq_false (show ¬ (0 ≤ fr ∧ fr ≤ to_ ∧ to_ ≤ la) by omega)]; simp))
        go_wp2_with fail
        go_ret
        exact ⟨by rw [HE.out]; rfl, HB1.out.trans (HB.out.mono HB1.out.size)⟩
      have HAC2 : Hid (((List.range i).all fun k => decide ((r.ac k).nm ≠ nm)) = acB r i) := hide (by
        rw [HAC.out, decide_eq_true (show -1 ≤ at_ ∧ at_ ≤ (n : Int) - 1 by omega), decide_eq_true (show at_ ≠ (i : Int) from k3), decide_eq_true (show 0 ≤ fr ∧ fr ≤ to_ ∧ to_ ≤ la by omega)]
        simp)
      go_wp2_with fail
      clear g9 g0 g1 g2 e3 e4 e5 k1 k2 k3 k3b k4 k5 k6 HAC
      go_loopw [5] (fun x wr => ∃ t : Nat, t ≤ i ∧ x = .int .i64 t ∧ Hid (∀ j, j < t → (r.ac j).nm ≠ nm) ∧ Hid (Below wg.heap.size wg wr)) (fun x _ => i - (intOf x).toNat)
      case atStart => exact ⟨0, Nat.zero_le _, rfl, hide (fun j hj => absurd hj (by omega)), hide (Below.refl _ _)⟩
      case round =>
        obtain ⟨t, ht, rfl, HNM, HBF⟩ := hrel
        have hst2 : IntKind.i64.wrap ((t : Int) + 1) = ((t + 1 : Nat) : Int) := by rw [IntWalk.i64_in _ (by omega)]; omega
        by_cases htl : t < i
        · have htl' : (t : Int) < (i : Int) := by omega
          have htn : t < n := by omega
          have htn' : (t : Int) < (n : Int) := by omega
          obtain ⟨x, hx⟩ : ∃ x, (r.ac t).nm = x := ⟨_, rfl⟩
          have HS12 : Hid (∀ W, Below wg.heap.size wg W → (W.cell? ⟨G, 0, none⟩ = some (.slice (some ⟨ab, ao, none⟩) n d.c) ∧ W.cell? ⟨ab, ao + t * 7, none⟩ = some (.string x) ∧ W.cell? ⟨E, 0, none⟩ = some (.string nm))) := hide fun W h => by
            have q := HROW.out W (HB.out.trans (h.mono HB.out.size))
            have q2 := q.2 t htn
            rw [hx] at q2
            exact ⟨q.1, q2, (KE.out.ext h).cell 0⟩
          have HXX := hide hx
          clear hx
          go_upto_region 12 with fail
          replace HBF := hide (HBF.out.trans ((Below.refl wr.heap.size wr).drew.mono HBF.out.size))
          refine wp_region_J (fun W : World => (W.cell? ⟨G, 0, none⟩ = some (.slice (some ⟨ab, ao, none⟩) n d.c) ∧ W.cell? ⟨ab, ao + t * 7, none⟩ = some (.string x) ∧ W.cell? ⟨E, 0, none⟩ = some (.string nm))) (by kernel_rfl) ?_
          generalize wr.drew = wd at HBF ⊢
          by_cases hxe : x = nm
          · have hb : (ByteArray.toList x == ByteArray.toList nm) = true := by rw [hxe]; exact beq_self_eq_true _
            have HE : Hid (R = false) := hide (HA2.out (by
              rw [← HAC2.out, ← Bool.not_eq_true, List.all_eq_true]
              intro h2
              have := of_decide_eq_true (h2 t (List.mem_range.2 htl))
              rw [HXX.out] at this
              exact this hxe))
            clear hxe
            refine tk_start [0, 1, 2, 3, 4, 5, 6, 7, 8] ?_
            iterate 9
              refine tk_one (v := ?_) (by first | exact hF | exact wideFn) (HS12.out _ HBF.out) rfl (by kernel_rfl) (by kernel_rfl) (by kernel_rfl) (by kernel_rfl) rfl ?_ (by first | exact fun _ _ _ h => h | exact fun _ _ _ h => hQ2 _ _ _ _ _ h) ?_
              rotate_left
              · intro W hSW
                simp only [List.getElem_toArray, List.getElem_cons_zero, List.getElem_cons_succ]
                (try dsimp only at hSW)
                go_simp
                with_reducible rfl
              (try simp only [List.getElem_toArray, List.getElem_cons_zero, List.getElem_cons_succ, Act.put, List.setIfInBounds_toArray, List.set_cons_zero, List.set_cons_succ])
            refine tk_end ?_
            refine wpAnyJ_done (by kernel_rfl) ?_
            go_wp2_with fail
            go_ret
            exact ⟨by rw [HE.out]; rfl, (HB1.out.trans (HB.out.mono HB1.out.size)).trans (HBF.out.mono (Nat.le_trans HB1.out.size HB.out.size))⟩
          · have hb : (ByteArray.toList x == ByteArray.toList nm) = false := str_ne hxe
            have HNM2 : Hid (∀ j, j < t + 1 → (r.ac j).nm ≠ nm) := hide fun j hj => by
              rcases (by omega : j < t ∨ j = t) with h | rfl
              · exact HNM.out j h
              · rw [HXX.out]; exact hxe
            clear hxe
            refine tk_start [0, 1, 2, 3, 4, 5, 6, 7, 8] ?_
            iterate 9
              refine tk_one (v := ?_) (by first | exact hF | exact wideFn) (HS12.out _ HBF.out) rfl (by kernel_rfl) (by kernel_rfl) (by kernel_rfl) (by kernel_rfl) rfl ?_ (by first | exact fun _ _ _ h => h | exact fun _ _ _ h => hQ2 _ _ _ _ _ h) ?_
              rotate_left
              · intro W hSW
                simp only [List.getElem_toArray, List.getElem_cons_zero, List.getElem_cons_succ]
                (try dsimp only at hSW)
                go_simp
                with_reducible rfl
              (try simp only [List.getElem_toArray, List.getElem_cons_zero, List.getElem_cons_succ, Act.put, List.setIfInBounds_toArray, List.set_cons_zero, List.set_cons_succ])
            refine tk_end ?_
            refine wpAnyJ_done (by kernel_rfl) ?_
            go_wp2_with fail
            go_roundw
            case rel => exact ⟨t + 1, by omega, by go_num, HNM2, HBF⟩
            case measure => simp [intOf]; omega
        · obtain rfl : i = t := by omega
          have hnl : ¬ (i : Int) < (i : Int) := by omega
          have HX2 : Hid (∀ j, j < i + 1 → acB r j = true) := hide fun j hj => by
            rcases (by omega : j < i ∨ j = i) with h | rfl
            · exact HX.out j h
            · rw [← HAC2.out, List.all_eq_true]
              exact fun t ht => decide_eq_true (HNM.out t (List.mem_range.1 ht))
          go_wp2_with fail
          go_roundw
          case rel => exact ⟨i + 1, by omega, by go_num, HX2, hide (HB.out.trans (HBF.out.mono HB.out.size))⟩
          case measure => simp [intOf]; omega
    · obtain rfl : n = i := by omega
      have hnl : ¬ (n : Int) < (n : Int) := by omega
      go_wp2_with fail
      clear g0 hst hnl hlt
      go_loopw [6] (fun x wk => ∃ i : Nat, i ≤ n ∧ x = .int .i64 i ∧ Hid (∀ j, j < i → kiB r j = true) ∧ Hid (Below w1.heap.size w1 wk)) (fun x _ => n - (intOf x).toNat)
      case atStart => exact ⟨0, Nat.zero_le _, rfl, hide (fun j hj => absurd hj (by omega)), HB⟩
      case round =>
        obtain ⟨i, hi2, rfl, HX4, HB4⟩ := hrel
        have hst : IntKind.i64.wrap ((i : Int) + 1) = ((i + 1 : Nat) : Int) := by rw [IntWalk.i64_in _ (by omega)]; omega
        obtain ⟨g9, g0, g1, g2, -⟩ := blk3 (G1.out.ext HB4.out)
        by_cases hlt : i < n
        · have hlt' : (i : Int) < (n : Int) := by omega
          have hir : i < r.n := by rw [HN.out.1]; exact hlt
          go_wp2_with fail
          refine (HKI.out i wr (HRT.out.ext HB4.out)).mono ?_
          rintro e wk ⟨rfl, hbk⟩
          replace HB4 := hide (HB4.out.trans (hbk.mono HB4.out.size))
          obtain ⟨s, hs⟩ : ∃ x, subB r i = x := ⟨_, rfl⟩
          obtain ⟨q, hq⟩ : ∃ x, atoB r i = x := ⟨_, rfl⟩
          obtain ⟨ex, hex⟩ : ∃ x, (r.ac i).ex = x := ⟨_, rfl⟩
          have HKB : Hid (kiB r i = !(((s || q) && !ex) || (s && q))) := hide (by unfold kiB; rw [hs, hq, hex])
          obtain ⟨ab, ao, hra, hal, c0, c1, c2, c3, c4, c5, c6⟩ := (HRT.out.ext HB4.out).at_ hir rfl
          rw [hex] at c6
          clear g9 g0 g1 g2 hbk c0 c1 c2 c3 c4 c5 hal
          obtain ⟨-, g0, -⟩ := blk3 (G1.out.ext HB4.out)
          rw [hra] at g0
          rw [hs, hq]
          clear hs hq hex hra hir
          rcases s with _ | _
          · rcases q with _ | _
            · have HX5 : Hid (∀ j, j < i + 1 → kiB r j = true) := hide fun j hj => by
                rcases (by omega : j < i ∨ j = i) with h | rfl
                · exact HX4.out j h
                · rw [HKB.out]; rfl
              go_wp2_with fail
              go_roundw
              case rel => exact ⟨i + 1, by omega, by go_num, HX5, HB4⟩
              case measure => simp [intOf]; omega
            · rcases ex with _ | _
              · have HE : Hid (R = false) := hide (HK.out i hlt (by rw [HKB.out]; rfl))
                go_wp2_with fail
                go_ret
                exact ⟨by rw [HE.out]; rfl, HB1.out.trans (HB4.out.mono HB1.out.size)⟩
              · have HX5 : Hid (∀ j, j < i + 1 → kiB r j = true) := hide fun j hj => by
                  rcases (by omega : j < i ∨ j = i) with h | rfl
                  · exact HX4.out j h
                  · rw [HKB.out]; rfl
                go_wp2_with fail
                go_roundw
                case rel => exact ⟨i + 1, by omega, by go_num, HX5, HB4⟩
                case measure => simp [intOf]; omega
          · rcases q with _ | _
            · rcases ex with _ | _
              · have HE : Hid (R = false) := hide (HK.out i hlt (by rw [HKB.out]; rfl))
                go_wp2_with fail
                go_ret
                exact ⟨by rw [HE.out]; rfl, HB1.out.trans (HB4.out.mono HB1.out.size)⟩
              · have HX5 : Hid (∀ j, j < i + 1 → kiB r j = true) := hide fun j hj => by
                  rcases (by omega : j < i ∨ j = i) with h | rfl
                  · exact HX4.out j h
                  · rw [HKB.out]; rfl
                go_wp2_with fail
                go_roundw
                case rel => exact ⟨i + 1, by omega, by go_num, HX5, HB4⟩
                case measure => simp [intOf]; omega
            · rcases ex with _ | _
              · have HE : Hid (R = false) := hide (HK.out i hlt (by rw [HKB.out]; rfl))
                go_wp2_with fail
                go_ret
                exact ⟨by rw [HE.out]; rfl, HB1.out.trans (HB4.out.mono HB1.out.size)⟩
              · have HE : Hid (R = false) := hide (HK.out i hlt (by rw [HKB.out]; rfl))
                go_wp2_with fail
                go_ret
                exact ⟨by rw [HE.out]; rfl, HB1.out.trans (HB4.out.mono HB1.out.size)⟩
        · obtain rfl : n = i := by omega
          have hnl : ¬ (n : Int) < (n : Int) := by omega
          have HE : Hid (R = true) := hide (HY.out HX.out HX4.out)
          go_wp2_with fail
          go_ret
          exact ⟨by rw [HE.out]; rfl, HB1.out.trans (HB4.out.mono HB1.out.size)⟩
end Go.Proofs.YtcgdalabenflmaaDoor
/- Rite, the reference: Settled, Forgotten, Complete. -/
namespace Go.Proofs.YtcgdalabenflmaaDoor
open Go Go.RowKit Go.Shelf
set_option maxHeartbeats 8000000
set_option maxRecDepth 100000
def dB (D i : Nat) : Bool := D.testBit i
theorem dn_get (D : Nat) {i : Nat} (hi : i < 10) : (#[.bool (dB D 0), .bool (dB D 1), .bool (dB D 2), .bool (dB D 3), .bool (dB D 4), .bool (dB D 5), .bool (dB D 6), .bool (dB D 7), .bool (dB D 8), .bool (dB D 9)] : Array Value)[i]? = some (.bool (dB D i)) := by
  rcases (by omega : i = 0 ∨ i = 1 ∨ i = 2 ∨ i = 3 ∨ i = 4 ∨ i = 5 ∨ i = 6 ∨ i = 7 ∨ i = 8 ∨ i = 9) with rfl | rfl | rfl | rfl | rfl | rfl | rfl | rfl | rfl | rfl <;> rfl
theorem dn_cell {w : World} {g D : Nat} (h : Blk w g 37 #[.bool (dB D 0), .bool (dB D 1), .bool (dB D 2), .bool (dB D 3), .bool (dB D 4), .bool (dB D 5), .bool (dB D 6), .bool (dB D 7), .bool (dB D 8), .bool (dB D 9)]) {i : Nat} (hi : i < 10) : w.cell? ⟨g, i, none⟩ = some (.bool (dB D i)) := (h.cell i).trans (dn_get D hi)
theorem bx10 {w : World} {g D : Nat} (h : Blk w g 37 #[.bool (dB D 0), .bool (dB D 1), .bool (dB D 2), .bool (dB D 3), .bool (dB D 4), .bool (dB D 5), .bool (dB D 6), .bool (dB D 7), .bool (dB D 8), .bool (dB D 9)]) : w.cell? ⟨g, 0, none⟩ = some (.bool (dB D 0)) ∧ w.cell? ⟨g, 1, none⟩ = some (.bool (dB D 1)) ∧ w.cell? ⟨g, 2, none⟩ = some (.bool (dB D 2)) ∧ w.cell? ⟨g, 3, none⟩ = some (.bool (dB D 3)) ∧ w.cell? ⟨g, 4, none⟩ = some (.bool (dB D 4)) ∧ w.cell? ⟨g, 5, none⟩ = some (.bool (dB D 5)) ∧ w.cell? ⟨g, 6, none⟩ = some (.bool (dB D 6)) ∧ w.cell? ⟨g, 7, none⟩ = some (.bool (dB D 7)) ∧ w.cell? ⟨g, 8, none⟩ = some (.bool (dB D 8)) ∧ w.cell? ⟨g, 9, none⟩ = some (.bool (dB D 9)) :=
  ⟨dn_cell h (by omega), dn_cell h (by omega), dn_cell h (by omega), dn_cell h (by omega), dn_cell h (by omega), dn_cell h (by omega), dn_cell h (by omega), dn_cell h (by omega), dn_cell h (by omega), dn_cell h (by omega)⟩
theorem two_boxes (w : World) (cs : Array Value) (D : Nat) : ∃ w1 w2, w.alloc (.cells cs 24) = w1 ∧ w1.alloc (.cells #[.bool (dB D 0), .bool (dB D 1), .bool (dB D 2), .bool (dB D 3), .bool (dB D 4), .bool (dB D 5), .bool (dB D 6), .bool (dB D 7), .bool (dB D 8), .bool (dB D 9)] 37) = w2 ∧ w1.heap.size = w.heap.size + 1 ∧ Blk w2 w.heap.size 24 cs ∧ Blk w2 (w.heap.size + 1) 37 #[.bool (dB D 0), .bool (dB D 1), .bool (dB D 2), .bool (dB D 3), .bool (dB D 4), .bool (dB D 5), .bool (dB D 6), .bool (dB D 7), .bool (dB D 8), .bool (dB D 9)] ∧ Below w.heap.size w w2 := by
  obtain ⟨w1, hw1⟩ : ∃ x, w.alloc (.cells cs 24) = x := ⟨_, rfl⟩
  have hb1 : Below w.heap.size w w1 := by rw [← hw1]; exact (Below.refl _ _).alloc (Nat.le_refl _) _
  have k1 : Blk w1 w.heap.size 24 cs := by rw [← hw1]; exact Blk.new w _ _
  obtain ⟨w2, hw2⟩ : ∃ x, w1.alloc (.cells #[.bool (dB D 0), .bool (dB D 1), .bool (dB D 2), .bool (dB D 3), .bool (dB D 4), .bool (dB D 5), .bool (dB D 6), .bool (dB D 7), .bool (dB D 8), .bool (dB D 9)] 37) = x := ⟨_, rfl⟩
  have hb2 : Below w1.heap.size w1 w2 := by rw [← hw2]; exact (Below.refl _ _).alloc (Nat.le_refl _) _
  have hs1 : w1.heap.size = w.heap.size + 1 := by rw [← hw1]; simp
  have k2 : Blk w2 (w.heap.size + 1) 37 #[.bool (dB D 0), .bool (dB D 1), .bool (dB D 2), .bool (dB D 3), .bool (dB D 4), .bool (dB D 5), .bool (dB D 6), .bool (dB D 7), .bool (dB D 8), .bool (dB D 9)] := by rw [← hw2, ← hs1]; exact Blk.new w1 _ _
  exact ⟨w1, w2, hw1, hw2, hs1, k1.ext hb2, k2, hb1.trans (hb2.mono hb1.size)⟩
theorem refSettled_any (d : Rad) (r : Rit) (D act : Nat) (w : World) (hd : RtR w d r) (hr : RiOk r) (hz : RtZ r) (hact : act < r.n) :
    Calls Tryd.prog 33 #[.agg #[.slice d.A r.n d.c, .int .i64 r.last, .int .i64 r.toil], .agg #[.bool (dB D 0), .bool (dB D 1), .bool (dB D 2), .bool (dB D 3), .bool (dB D 4), .bool (dB D 5), .bool (dB D 6), .bool (dB D 7), .bool (dB D 8), .bool (dB D 9)], .int .i64 act] w fun e w' => e = .returned (.bool (seB r D act)) ∧ Below w.heap.size w w' := by
  have hac0 := hr.at_ hact
  have hn10 := hr.n10
  obtain ⟨R, hR⟩ : ∃ R, seB r D act = R := ⟨_, rfl⟩
  have HR := hide hR
  rw [hR]
  obtain ⟨n, hn⟩ : ∃ x, r.n = x := ⟨_, rfl⟩
  obtain ⟨la, hla⟩ : ∃ x, r.last = x := ⟨_, rfl⟩
  obtain ⟨tl, htl⟩ : ∃ x, r.toil = x := ⟨_, rfl⟩
  have hz3 := hz.ins act hact
  obtain ⟨a, ha⟩ : ∃ x, r.ac act = x := ⟨_, rfl⟩
  obtain ⟨ab, ao, hra, hal, c0, c1, c2, c3, c4, c5, c6⟩ := hd.at_ hact ha
  have hli := hd.ins act hact
  have hin := hac0.ins
  have hat := hac0.at0
  have hat1 := hac0.at1
  unfold seB at hR
  rw [ha] at hli hin hat hat1 hR hz3
  rw [hn] at hact hin hat1 hn10
  rw [hn, hla, htl]
  obtain ⟨nm, nd, ins, at_, fr, to_, ex⟩ := a
  dsimp only at c0 c1 c2 c3 c4 c5 c6 hli hin hat hat1 hR hz3
  obtain ⟨na, hna⟩ : ∃ x, d.na act = x := ⟨_, rfl⟩
  obtain ⟨nc, hnc⟩ : ∃ x, d.nc act = x := ⟨_, rfl⟩
  obtain ⟨ia, hia⟩ : ∃ x, d.ia act = x := ⟨_, rfl⟩
  obtain ⟨ic, hic⟩ : ∃ x, d.ic act = x := ⟨_, rfl⟩
  obtain ⟨nn, hnn⟩ : ∃ x, nd.length = x := ⟨_, rfl⟩
  obtain ⟨ni, hni⟩ : ∃ x, ins.length = x := ⟨_, rfl⟩
  rw [hna, hnc, hnn] at c1
  rw [hia, hic, hni] at c2
  rw [hia] at hli
  rw [hni] at hz3
  rw [hra]
  have HIN := hide hin
  have HNI := hide hni
  have HRX := hide hR
  have hact' : (act : Int) < (n : Int) := by omega
  have hact9 : act < 10 := by omega
  have hact9' : (act : Int) < 10 := by omega
  obtain ⟨w1, w2, hw1, hw2, hs1, k1, k2, hbb⟩ := two_boxes w #[.slice (some ⟨ab, ao, none⟩) n d.c, .int .i64 la, .int .i64 tl] D
  have K1 := hide k1
  have K2 := hide k2
  have HBB := hide hbb
  have C : Hid (w2.cell? ⟨ab, ao + act * 7, none⟩ = some (.string nm) ∧ w2.cell? ⟨ab, ao + act * 7 + 1, none⟩ = some (.slice na nn nc) ∧ w2.cell? ⟨ab, ao + act * 7 + 2, none⟩ = some (.slice ia ni ic) ∧ w2.cell? ⟨ab, ao + act * 7 + 3, none⟩ = some (.int .i64 at_) ∧ w2.cell? ⟨ab, ao + act * 7 + 4, none⟩ = some (.int .i64 fr) ∧ w2.cell? ⟨ab, ao + act * 7 + 5, none⟩ = some (.int .i64 to_) ∧ w2.cell? ⟨ab, ao + act * 7 + 6, none⟩ = some (.bool ex)) := hide
    ⟨(hbb.cell (p := ⟨ab, ao + act * 7, none⟩) hal).trans c0, (hbb.cell (p := ⟨ab, ao + act * 7 + 1, none⟩) hal).trans c1, (hbb.cell (p := ⟨ab, ao + act * 7 + 2, none⟩) hal).trans c2, (hbb.cell (p := ⟨ab, ao + act * 7 + 3, none⟩) hal).trans c3, (hbb.cell (p := ⟨ab, ao + act * 7 + 4, none⟩) hal).trans c4, (hbb.cell (p := ⟨ab, ao + act * 7 + 5, none⟩) hal).trans c5, (hbb.cell (p := ⟨ab, ao + act * 7 + 6, none⟩) hal).trans c6⟩
  have HL := hide (liE hli hbb)
  clear hd hr hz hac0 hR hn hla htl ha hra hal c0 c1 c2 c3 c4 c5 c6 hli hin hna hnc hia hic hnn hni hbb k1 k2
  go_enter Tryd.func33, Tryd.ntmps33
  go_upto_region 1 with fail
  clear hw1 hw2 hs1
  obtain ⟨G, hG⟩ : ∃ x, w.heap.size = x := ⟨_, rfl⟩
  rw [hG] at K1 K2 ⊢
  clear hG
  obtain ⟨E, hE⟩ : ∃ x, w2.heap.size = x := ⟨_, rfl⟩
  obtain ⟨-, g0, -⟩ := blk3 K1.out
  obtain ⟨c0, c1, c2, c3, c4, c5, c6⟩ := C.out
  have hbE : Below w2.heap.size w2 (w2.alloc (.cells #[.string nm, .slice na nn nc, .slice ia ni ic, .int .i64 at_, .int .i64 fr, .int .i64 to_, .bool ex] 58)) := (Below.refl _ _).alloc (Nat.le_refl _) _
  have KE := hide (Blk.new w2 58 #[.string nm, .slice na nn nc, .slice ia ni ic, .int .i64 at_, .int .i64 fr, .int .i64 to_, .bool ex])
  have K2E := hide (K2.out.ext hbE)
  replace HBB := hide (HBB.out.trans (hbE.mono HBB.out.size))
  replace HL := hide (liE HL.out hbE)
  go_upto_region 2 with fail
  clear g0 c0 c1 c2 c3 c4 c5 c6 hbE K1 K2 C
  rw [hE] at KE
  (try rw [hE])
  clear hE
  generalize w2.alloc (.cells #[.string nm, .slice na nn nc, .slice ia ni ic, .int .i64 at_, .int .i64 fr, .int .i64 to_, .bool ex] 58) = w3 at KE K2E HBB HL ⊢
  have q0 := dn_cell K2E.out hact9
  have e3 := KE.out.cell 3
  rcases hdb : dB D act with _ | _
  · rw [hdb] at q0
    have HRY : Hid ((decide (0 ≤ at_) && dB D at_.toNat || ins.any fun x => dB D x.toNat) = R) := hide (by
      rw [← HRX.out]
      show _ = (dB D act || _ || _)
      rw [hdb]; rfl)
    clear hdb
    by_cases hat0 : at_ ≥ 0
    · obtain ⟨a, rfl⟩ : ∃ a : Nat, at_ = a := ⟨at_.toNat, by omega⟩
      have ha9 : a < 10 := by omega
      have ha9' : (a : Int) < 10 := by omega
      have hat2 : (0 : Int) ≤ (a : Int) := by omega
      have q1 := dn_cell K2E.out ha9
      rcases hda : dB D a with _ | _
      · rw [hda] at q1
        have HRZ : Hid ((ins.any fun x => dB D x.toNat) = R) := hide (by
          rw [← HRY.out, Int.toNat_natCast, hda, Bool.and_false, Bool.false_or])
        clear hda
        go_wp2_with fail
        clear q0 q1 e3 ha9 ha9' hat0 hat2
        go_loopw [8] (fun x wr => ∃ t : Nat, t ≤ ni ∧ x = .int .i64 t ∧ Hid (∀ j, j < t → dB D (ins.getD j 0).toNat = false) ∧ Hid (w3 = wr)) (fun x _ => ni - (intOf x).toNat)
        case atStart => exact ⟨0, Nat.zero_le _, rfl, hide (fun j hj => absurd hj (by omega)), hide rfl⟩
        case round =>
          obtain ⟨t, ht, rfl, HX, HW⟩ := hrel
          obtain rfl := HW.out
          have hst : IntKind.i64.wrap ((t : Int) + 1) = ((t + 1 : Nat) : Int) := by rw [IntWalk.i64_in _ (by omega)]; omega
          have e2 := KE.out.cell 2
          by_cases htl : t < ni
          · have htl' : (t : Int) < (ni : Int) := by omega
            have htn : t < ins.length := by rw [HNI.out]; exact htl
            obtain ⟨xb, xo, rfl, hxl, hxc⟩ := VR1.at_ HL.out htn
            have hmem : ins.getD t 0 ∈ ins := by rw [List.getD_eq_getElem?_getD, List.getElem?_eq_getElem htn]; exact List.getElem_mem htn
            have hx := HIN.out _ hmem
            obtain ⟨x, hxx⟩ : ∃ x : Nat, ins.getD t 0 = x := ⟨(ins.getD t 0).toNat, by omega⟩
            have HXX := hide hxx
            rw [hxx] at hxc hx
            have hx9 : x < 10 := by omega
            have hx9' : (x : Int) < 10 := by omega
            have q1 := dn_cell K2E.out hx9
            rcases hdx : dB D x with _ | _
            · rw [hdx] at q1
              have HX2 : Hid (∀ j, j < t + 1 → dB D (ins.getD j 0).toNat = false) := hide fun j hj => by
                rcases (by omega : j < t ∨ j = t) with h | rfl
                · exact HX.out j h
                · rw [HXX.out, Int.toNat_natCast]; exact hdx
              clear hdx htn hmem hx hxx hxl
              go_wp2_with fail
              go_roundw
              case rel => exact ⟨t + 1, by omega, by go_num, HX2, by first | exact hide rfl | exact hide trivial⟩
              case measure => simp [intOf]; omega
            · rw [hdx] at q1
              have HE : Hid (R = true) := hide (by
                rw [← HRZ.out, List.any_eq_true]
                exact ⟨_, hmem, by rw [HXX.out, Int.toNat_natCast]; exact hdx⟩)
              clear hdx htn hmem hx hxx hxl
              go_wp2_with fail
              go_ret
              exact ⟨by rw [HE.out]; rfl, HBB.out⟩
          · obtain rfl : ni = t := by omega
            have hnl : ¬ (ni : Int) < (ni : Int) := by omega
            have HE : Hid (R = false) := hide (by
              rw [← HRZ.out, ← Bool.not_eq_true, List.any_eq_true]
              rintro ⟨x, hx, hx2⟩
              obtain ⟨j, hj, rfl⟩ := List.getElem_of_mem hx
              have := HX.out j (by rw [← HNI.out]; exact hj)
              rw [List.getD_eq_getElem?_getD, List.getElem?_eq_getElem hj] at this
              have h3 : dB D (ins[j]).toNat = false := this
              rw [h3] at hx2; cases hx2)
            go_wp2_with fail
            go_ret
            exact ⟨by rw [HE.out]; rfl, HBB.out⟩
      · rw [hda] at q1
        have HE : Hid (R = true) := hide (by
          rw [← HRY.out, Int.toNat_natCast, hda, decide_eq_true (show (0 : Int) ≤ (a : Int) by omega)]; rfl)
        clear hda
        go_wp2_with fail
        go_ret
        exact ⟨by rw [HE.out]; rfl, HBB.out⟩
    · have hat2 : ¬ 0 ≤ at_ := by omega
      have HRZ : Hid ((ins.any fun x => dB D x.toNat) = R) := hide (by
        rw [← HRY.out, decide_eq_false hat2, Bool.false_and, Bool.false_or])
      go_wp2_with fail
      clear q0 e3 hat0 hat2
      go_loopw [8] (fun x wr => ∃ t : Nat, t ≤ ni ∧ x = .int .i64 t ∧ Hid (∀ j, j < t → dB D (ins.getD j 0).toNat = false) ∧ Hid (w3 = wr)) (fun x _ => ni - (intOf x).toNat)
      case atStart => exact ⟨0, Nat.zero_le _, rfl, hide (fun j hj => absurd hj (by omega)), hide rfl⟩
      case round =>
        obtain ⟨t, ht, rfl, HX, HW⟩ := hrel
        obtain rfl := HW.out
        have hst : IntKind.i64.wrap ((t : Int) + 1) = ((t + 1 : Nat) : Int) := by rw [IntWalk.i64_in _ (by omega)]; omega
        have e2 := KE.out.cell 2
        by_cases htl : t < ni
        · have htl' : (t : Int) < (ni : Int) := by omega
          have htn : t < ins.length := by rw [HNI.out]; exact htl
          obtain ⟨xb, xo, rfl, hxl, hxc⟩ := VR1.at_ HL.out htn
          have hmem : ins.getD t 0 ∈ ins := by rw [List.getD_eq_getElem?_getD, List.getElem?_eq_getElem htn]; exact List.getElem_mem htn
          have hx := HIN.out _ hmem
          obtain ⟨x, hxx⟩ : ∃ x : Nat, ins.getD t 0 = x := ⟨(ins.getD t 0).toNat, by omega⟩
          have HXX := hide hxx
          rw [hxx] at hxc hx
          have hx9 : x < 10 := by omega
          have hx9' : (x : Int) < 10 := by omega
          have q1 := dn_cell K2E.out hx9
          rcases hdx : dB D x with _ | _
          · rw [hdx] at q1
            have HX2 : Hid (∀ j, j < t + 1 → dB D (ins.getD j 0).toNat = false) := hide fun j hj => by
              rcases (by omega : j < t ∨ j = t) with h | rfl
              · exact HX.out j h
              · rw [HXX.out, Int.toNat_natCast]; exact hdx
            clear hdx htn hmem hx hxx hxl
            go_wp2_with fail
            go_roundw
            case rel => exact ⟨t + 1, by omega, by go_num, HX2, by first | exact hide rfl | exact hide trivial⟩
            case measure => simp [intOf]; omega
          · rw [hdx] at q1
            have HE : Hid (R = true) := hide (by
              rw [← HRZ.out, List.any_eq_true]
              exact ⟨_, hmem, by rw [HXX.out, Int.toNat_natCast]; exact hdx⟩)
            clear hdx htn hmem hx hxx hxl
            go_wp2_with fail
            go_ret
            exact ⟨by rw [HE.out]; rfl, HBB.out⟩
        · obtain rfl : ni = t := by omega
          have hnl : ¬ (ni : Int) < (ni : Int) := by omega
          have HE : Hid (R = false) := hide (by
            rw [← HRZ.out, ← Bool.not_eq_true, List.any_eq_true]
            rintro ⟨x, hx, hx2⟩
            obtain ⟨j, hj, rfl⟩ := List.getElem_of_mem hx
            have := HX.out j (by rw [← HNI.out]; exact hj)
            rw [List.getD_eq_getElem?_getD, List.getElem?_eq_getElem hj] at this
            have h3 : dB D (ins[j]).toNat = false := this
            rw [h3] at hx2; cases hx2)
          go_wp2_with fail
          go_ret
          exact ⟨by rw [HE.out]; rfl, HBB.out⟩
  · rw [hdb] at q0
    have HE : Hid (R = true) := hide (by
      rw [← HRX.out]
      show (dB D act || _ || _) = true
      rw [hdb]; rfl)
    clear hdb
    go_wp2_with fail
    go_ret
    exact ⟨by rw [HE.out]; rfl, HBB.out⟩
end Go.Proofs.YtcgdalabenflmaaDoor
/- Rite, the reference: Forgotten, Complete. -/
namespace Go.Proofs.YtcgdalabenflmaaDoor
open Go Go.RowKit Go.Shelf
set_option maxHeartbeats 8000000
set_option maxRecDepth 100000
theorem refForgotten_any (d : Rad) (r : Rit) (D act : Nat) (day : Int) (w : World) (hd : RtR w d r) (hr : RiOk r) (hz : RtZ r) (hact : act < r.n) :
    Calls Tryd.prog 24 #[.agg #[.slice d.A r.n d.c, .int .i64 r.last, .int .i64 r.toil], .agg #[.bool (dB D 0), .bool (dB D 1), .bool (dB D 2), .bool (dB D 3), .bool (dB D 4), .bool (dB D 5), .bool (dB D 6), .bool (dB D 7), .bool (dB D 8), .bool (dB D 9)], .int .i64 act, .int .i64 day] w fun e w' => e = .returned (.bool (foB r D day act)) ∧ Below w.heap.size w w' := by
  have HSE := hide (fun W (h : RtR W d r) => refSettled_any d r D act W h hr hz hact)
  obtain ⟨w1, w2, hw1, hw2, hs1, k1, k2, hbb⟩ := two_boxes w #[.slice d.A r.n d.c, .int .i64 r.last, .int .i64 r.toil] D
  have hn10 := hr.n10
  obtain ⟨ab, ao, hra, hal, c0, c1, c2, c3, c4, c5, c6⟩ := (hd.ext hbb).at_ hact rfl
  have HRT := hide (hd.ext hbb)
  obtain ⟨R, hR⟩ : ∃ R, foB r D day act = R := ⟨_, rfl⟩
  have HR := hide hR
  obtain ⟨S, hS⟩ : ∃ S, seB r D act = S := ⟨_, rfl⟩
  rw [hS] at HSE
  have HRX : Hid (R = (!(r.ac act).ex && decide ((r.ac act).to_ < day) && !S)) := hide (by rw [← hR, ← hS]; rfl)
  obtain ⟨ex, hex⟩ : ∃ x, (r.ac act).ex = x := ⟨_, rfl⟩
  obtain ⟨to_, hto⟩ : ∃ x, (r.ac act).to_ = x := ⟨_, rfl⟩
  rw [hex, hto] at HRX
  rw [hto] at c5
  rw [hex] at c6
  rw [hR]
  obtain ⟨n, hn⟩ : ∃ x, r.n = x := ⟨_, rfl⟩
  obtain ⟨la, hla⟩ : ∃ x, r.last = x := ⟨_, rfl⟩
  obtain ⟨tl, htl⟩ : ∃ x, r.toil = x := ⟨_, rfl⟩
  rw [hn] at hact
  rw [hra, hn, hla, htl] at hw1 k1 HSE
  rw [hra, hn, hla, htl]
  have hact' : (act : Int) < (n : Int) := by omega
  have K1 := hide k1
  have K2 := hide k2
  have HBB := hide hbb
  clear hd hr hz hR hS hex hto hn hla htl hra hal k1 k2 hbb c0 c1 c2 c3 c4
  go_enter Tryd.func24, Tryd.ntmps24
  go_upto_region 1 with fail
  clear hw1 hw2 hs1
  obtain ⟨G, hG⟩ : ∃ x, w.heap.size = x := ⟨_, rfl⟩
  rw [hG] at K1 K2 ⊢
  clear hG
  obtain ⟨-, g0, g1, g2, -⟩ := blk3 K1.out
  obtain ⟨x0, x1, x2, x3, x4, x5, x6, x7, x8, x9⟩ := bx10 K2.out
  cases ex with
  | true =>
    have HE : Hid (R = false) := hide (by rw [HRX.out]; rfl)
    go_wp2_with fail
    go_ret
    exact ⟨by rw [HE.out]; rfl, HBB.out⟩
  | false =>
  by_cases h1 : day > to_
  · have h1b : to_ < day := h1
    go_wp2_with fail
    refine (HSE.out w2 HRT.out).mono ?_
    rintro e w3 ⟨rfl, hb3⟩
    have HE : Hid (R = !S) := hide (by rw [HRX.out, decide_eq_true h1b]; rfl)
    go_wp2_with fail
    go_ret
    exact ⟨by rw [HE.out]; rfl, HBB.out.trans (hb3.mono HBB.out.size)⟩
  · have h1b : ¬ to_ < day := h1
    have HE : Hid (R = false) := hide (by rw [HRX.out, decide_eq_false h1b]; rfl)
    go_wp2_with fail
    go_ret
    exact ⟨by rw [HE.out]; rfl, HBB.out⟩
theorem refComplete_any (d : Rad) (r : Rit) (D : Nat) (w : World) (hd : RtR w d r) (hr : RiOk r) (hz : RtZ r) :
    Calls Tryd.prog 34 #[.agg #[.slice d.A r.n d.c, .int .i64 r.last, .int .i64 r.toil], .agg #[.bool (dB D 0), .bool (dB D 1), .bool (dB D 2), .bool (dB D 3), .bool (dB D 4), .bool (dB D 5), .bool (dB D 6), .bool (dB D 7), .bool (dB D 8), .bool (dB D 9)]] w fun e w' => e = .returned (.bool (coB r D)) ∧ Below w.heap.size w w' := by
  have HSE := hide (fun act (hact : act < r.n) W (h : RtR W d r) => refSettled_any d r D act W h hr hz hact)
  obtain ⟨w1, w2, hw1, hw2, hs1, k1, k2, hbb⟩ := two_boxes w #[.slice d.A r.n d.c, .int .i64 r.last, .int .i64 r.toil] D
  have hn10 := hr.n10
  have HRT := hide (hd.ext hbb)
  obtain ⟨R, hR⟩ : ∃ R, coB r D = R := ⟨_, rfl⟩
  have HR := hide hR
  rw [hR]
  obtain ⟨n, hn⟩ : ∃ x, r.n = x := ⟨_, rfl⟩
  obtain ⟨la, hla⟩ : ∃ x, r.last = x := ⟨_, rfl⟩
  obtain ⟨tl, htl⟩ : ∃ x, r.toil = x := ⟨_, rfl⟩
  have HN := hide hn
  rw [hn] at hn10
  rw [hn, hla, htl] at hw1 k1 HSE
  rw [hn, hla, htl]
  have K1 := hide k1
  have K2 := hide k2
  have HBB := hide hbb
  clear hd hr hz hR hn hla htl k1 k2 hbb
  go_enter Tryd.func34, Tryd.ntmps34
  go_upto_region 1 with fail
  clear hw1 hw2 hs1
  obtain ⟨G, hG⟩ : ∃ x, w.heap.size = x := ⟨_, rfl⟩
  rw [hG] at K1 K2 ⊢
  clear hG
  go_wp2_with fail
  go_loopw [5] (fun x wr => ∃ i : Nat, i ≤ n ∧ x = .int .i64 i ∧ Hid (∀ j, j < i → ((r.ac j).ex || seB r D j) = true) ∧ Hid (Below w2.heap.size w2 wr)) (fun x _ => n - (intOf x).toNat)
  case atStart => exact ⟨0, Nat.zero_le _, rfl, hide (fun j hj => absurd hj (by omega)), hide (Below.refl _ _)⟩
  case round =>
    obtain ⟨i, hi, rfl, HX, HB⟩ := hrel
    have hst : IntKind.i64.wrap ((i : Int) + 1) = ((i + 1 : Nat) : Int) := by rw [IntWalk.i64_in _ (by omega)]; omega
    obtain ⟨-, g0, g1, g2, -⟩ := blk3 (K1.out.ext HB.out)
    by_cases hlt : i < n
    · have hlt' : (i : Int) < (n : Int) := by omega
      have hir : i < r.n := by rw [HN.out]; exact hlt
      have HS := hide (HSE.out i hlt wr (HRT.out.ext HB.out))
      obtain ⟨S, hS⟩ : ∃ S, seB r D i = S := ⟨_, rfl⟩
      obtain ⟨ab, ao, hra, hal, c0, c1, c2, c3, c4, c5, c6⟩ := (HRT.out.ext HB.out).at_ hir rfl
      obtain ⟨ex, hex⟩ : ∃ x, (r.ac i).ex = x := ⟨_, rfl⟩
      rw [hex] at c6
      rw [hS, hra] at HS
      rw [hra] at g0
      have HSX := hide (And.intro hS hex)
      clear hS hex hra hal c0 c1 c2 c3 c4 c5 hir
      cases ex with
      | true =>
        have HX2 : Hid (∀ j, j < i + 1 → ((r.ac j).ex || seB r D j) = true) := hide fun j hj => by
          rcases (by omega : j < i ∨ j = i) with h | rfl
          · exact HX.out j h
          · rw [HSX.out.2]; rfl
        go_wp2_with fail
        go_roundw
        case rel => exact ⟨i + 1, by omega, by go_num, HX2, HB⟩
        case measure => simp [intOf]; omega
      | false =>
        obtain ⟨x0, x1, x2, x3, x4, x5, x6, x7, x8, x9⟩ := bx10 (K2.out.ext HB.out)
        go_wp2_with fail
        refine HS.out.mono ?_
        rintro e w3 ⟨rfl, hb3⟩
        replace HB := hide (HB.out.trans (hb3.mono HB.out.size))
        clear g0 g1 g2 c6 x0 x1 x2 x3 x4 x5 x6 x7 x8 x9 hb3
        cases S with
        | true =>
          have HX2 : Hid (∀ j, j < i + 1 → ((r.ac j).ex || seB r D j) = true) := hide fun j hj => by
            rcases (by omega : j < i ∨ j = i) with h | rfl
            · exact HX.out j h
            · rw [HSX.out.1, HSX.out.2]; rfl
          go_wp2_with fail
          go_roundw
          case rel => exact ⟨i + 1, by omega, by go_num, HX2, HB⟩
          case measure => simp [intOf]; omega
        | false =>
          have HE : Hid (R = false) := hide (by
            rw [← HR.out]
            unfold coB
            rw [← Bool.not_eq_true, List.all_eq_true]
            intro h
            have h2 := h i (List.mem_range.2 (by rw [HN.out]; exact hlt))
            rw [HSX.out.1, HSX.out.2] at h2
            cases h2)
          go_wp2_with fail
          go_ret
          exact ⟨by rw [HE.out]; rfl, HBB.out.trans (HB.out.mono HBB.out.size)⟩
    · obtain rfl : n = i := by omega
      have hnl : ¬ (n : Int) < (n : Int) := by omega
      have HE : Hid (R = true) := hide (by
        rw [← HR.out]
        unfold coB
        rw [List.all_eq_true]
        exact fun j hj => HX.out j (by rw [← HN.out]; exact List.mem_range.1 hj))
      go_wp2_with fail
      go_ret
      exact ⟨by rw [HE.out]; rfl, HBB.out.trans (HB.out.mono HBB.out.size)⟩
end Go.Proofs.YtcgdalabenflmaaDoor
/- Rite, the reference: Breaks. -/
namespace Go.Proofs.YtcgdalabenflmaaDoor
open List renaming getElem_toArray → glA, getElem_cons_zero → glB, getElem_cons_succ → glC, setIfInBounds_toArray → glD, set_cons_zero → glE, set_cons_succ → glF
open Go Go.RowKit Go.Shelf
set_option maxHeartbeats 8000000
set_option maxRecDepth 100000
theorem refBreaks_any (d : Rad) (r : Rit) (D : Nat) (day de act : Int) (w : World) (hd : RtR w d r) (hr : RiOk r) (hz : RtZ r) :
    Calls Tryd.prog 23 #[.agg #[.slice d.A r.n d.c, .int .i64 r.last, .int .i64 r.toil], .agg #[.bool (dB D 0), .bool (dB D 1), .bool (dB D 2), .bool (dB D 3), .bool (dB D 4), .bool (dB D 5), .bool (dB D 6), .bool (dB D 7), .bool (dB D 8), .bool (dB D 9)], .int .i64 day, .int .i64 de, .int .i64 act] w fun e w' => e = .returned (.int .i64 (brF r D day de act)) ∧ Below w.heap.size w w' := by
  have HSE := hide (fun act (hact : act < r.n) W (h : RtR W d r) => refSettled_any d r D act W h hr hz hact)
  have HFO := hide (fun act (hact : act < r.n) W (h : RtR W d r) => refForgotten_any d r D act day W h hr hz hact)
  have HREP := hide (fun (a i : Nat) (hi : i < r.n) W (h : RtR W d r) => replaces_any d r a i W h hi (by have := hz.ins i hi; omega) (by have := hz.n; omega))
  obtain ⟨w1, w2, hw1, hw2, hs1, k1, k2, hbb⟩ := two_boxes w #[.slice d.A r.n d.c, .int .i64 r.last, .int .i64 r.toil] D
  have hn10 := hr.n10
  have hn1 := hr.n1
  have HRT := hide (hd.ext hbb)
  have HRI := hide hr
  have HZ := hide hz
  obtain ⟨R, hR⟩ : ∃ R, brF r D day de act = R := ⟨_, rfl⟩
  have HR := hide hR
  rw [hR]
  obtain ⟨n, hn⟩ : ∃ x, r.n = x := ⟨_, rfl⟩
  obtain ⟨la, hla⟩ : ∃ x, r.last = x := ⟨_, rfl⟩
  obtain ⟨tl, htl⟩ : ∃ x, r.toil = x := ⟨_, rfl⟩
  obtain ⟨ab, ao, hra, hal, hrow⟩ := HRT.out.row (by omega)
  have HROW : Hid (∀ W, Below w2.heap.size w2 W → ∀ i, i < n → W.cell? ⟨ab, ao + i * 7 + 3, none⟩ = some (.int .i64 (r.ac i).at_)) := hide fun W h i hi => (h.cell (p := ⟨ab, ao + i * 7 + 3, none⟩) hal).trans (hrow i 3 (by rw [hn]; exact hi) (by omega))
  clear hrow hal
  have HN := hide (And.intro hn htl)
  rw [hn] at hn10
  rw [hra, hn, hla, htl] at hw1 k1 HSE HFO HREP
  rw [hra, hn, hla, htl]
  have K1 := hide k1
  have K2 := hide k2
  have HBB := hide hbb
  have HB : Hid (Below w2.heap.size w2 w2) := hide (Below.refl _ _)
  clear hd hr hz hR hn hla htl hn1 k1 k2 hbb
  go_enter Tryd.func23, Tryd.ntmps23
  go_upto_region 1 with fail
  clear hw1 hw2 hs1
  obtain ⟨G, hG⟩ : ∃ x, w.heap.size = x := ⟨_, rfl⟩
  rw [hG] at K1 K2 ⊢
  clear hG
  obtain ⟨-, g0, -⟩ := blk3 K1.out
  by_cases h1 : act < 0
  · have HE : Hid (R = 2) := hide (by rw [← HR.out]; unfold brF; rw [if_pos (.inl h1)])
    go_wp2_with fail
    go_ret
    exact ⟨by rw [HE.out]; rfl, HBB.out.trans (HB.out.mono HBB.out.size)⟩
  by_cases h2 : act ≥ (n : Int)
  · have HE : Hid (R = 2) := hide (by rw [← HR.out]; unfold brF; rw [HN.out.1, if_pos (.inr h2)])
    go_wp2_with fail
    go_ret
    exact ⟨by rw [HE.out]; rfl, HBB.out.trans (HB.out.mono HBB.out.size)⟩
  obtain ⟨a, rfl⟩ : ∃ a : Nat, act = a := ⟨act.toNat, by omega⟩
  have han : a < n := by omega
  have han' : (a : Int) < (n : Int) := by omega
  have hkr : a < r.n := by rw [HN.out.1]; exact han
  have ha9 : a < 10 := by omega
  have ha9' : (a : Int) < 10 := by omega
  have q0 := dn_cell K2.out ha9
  obtain ⟨ac, hac⟩ : ∃ x, r.ac a = x := ⟨_, rfl⟩
  obtain ⟨ab2, ao2, hra2, hal, c0, c1, c2, c3, c4, c5, c6⟩ := HRT.out.at_ hkr hac
  rw [hra] at hra2
  injection hra2 with hra2
  injection hra2 with e1 e2
  subst e1 e2
  have hli := HRT.out.nd a hkr
  have hin := (HRI.out.at_ hkr).nd
  have hz2 := HZ.out.nd a hkr
  obtain ⟨S, hS⟩ : ∃ S, seB r D a = S := ⟨_, rfl⟩
  obtain ⟨N, hN⟩ : ∃ N, neB r D a = N := ⟨_, rfl⟩
  obtain ⟨U, hU⟩ : ∃ U, usB r D day a = U := ⟨_, rfl⟩
  have hRX : R = if dB D a || (!(r.ac a).ex && S) then 2 else if day < (r.ac a).fr ∨ (r.ac a).to_ < day then 3 else if !N then 4 else if (r.ac a).ex && !U then 5 else if tl ≤ de then 6 else 0 := by
    rw [← HR.out, ← hS, ← hN, ← hU, ← HN.out.2]
    unfold brF
    rw [HN.out.1, if_neg (by omega), Int.toNat_natCast]
    rfl
  have hNN : N = (r.ac a).nd.all fun x => seB r D x.toNat := by rw [← hN]; rfl
  have HS := hide (HSE.out a han)
  rw [hS] at HS
  rw [hac] at hli hin hz2 hRX hNN
  rw [HN.out.1] at hin
  obtain ⟨nm, nd, ins, at_, fr, to_, ex⟩ := ac
  dsimp only at c0 c1 c2 c3 c4 c5 c6 hli hin hz2 hRX hNN
  have HRX := hide hRX
  have HNN := hide hNN
  have HUU := hide hU
  have HIN := hide hin
  obtain ⟨na, hna⟩ : ∃ x, d.na a = x := ⟨_, rfl⟩
  obtain ⟨nc, hnc⟩ : ∃ x, d.nc a = x := ⟨_, rfl⟩
  obtain ⟨ia, hia⟩ : ∃ x, d.ia a = x := ⟨_, rfl⟩
  obtain ⟨ic, hic⟩ : ∃ x, d.ic a = x := ⟨_, rfl⟩
  obtain ⟨nn, hnn⟩ : ∃ x, nd.length = x := ⟨_, rfl⟩
  obtain ⟨ni, hni⟩ : ∃ x, ins.length = x := ⟨_, rfl⟩
  rw [hna, hnc, hnn] at c1
  rw [hia, hic, hni] at c2
  rw [hna] at hli
  rw [hnn] at hz2
  have HLI := hide hli
  have HNL := hide hnn
  clear hkr hac hal hli hin hna hnc hia hic hnn hni hS hN hU hRX hNN HR
  rcases hdb : dB D a with _ | _
  · rw [hdb] at q0
    rw [hdb] at HRX
    clear hdb
    have hbE : Below w2.heap.size w2 (w2.alloc (.cells #[.string nm, .slice na nn nc, .slice ia ni ic, .int .i64 at_, .int .i64 fr, .int .i64 to_, .bool ex] 58)) := (Below.refl _ _).alloc (Nat.le_refl _) _
    have KE := hide (Blk.new w2 58 #[.string nm, .slice na nn nc, .slice ia ni ic, .int .i64 at_, .int .i64 fr, .int .i64 to_, .bool ex])
    obtain ⟨E, hE⟩ : ∃ x, w2.heap.size = x := ⟨_, rfl⟩
    go_upto_region 4 with fail
    clear g0 q0 c0 c1 c2 c3 c4 c5 c6 h1 h2
    replace HRT := hide (HRT.out.ext hbE)
    replace HLI := hide ((ER.below HLI.out hbE (Nat.le_refl _)).more hbE.size)
    replace HB := hide hbE
    clear hbE
    rw [hE] at KE
    (try rw [hE])
    clear hE
    generalize w2.alloc (.cells #[.string nm, .slice na nn nc, .slice ia ni ic, .int .i64 at_, .int .i64 fr, .int .i64 to_, .bool ex] 58) = w3 at KE HB HRT HLI ⊢
    have e6 := KE.out.cell 6
    cases ex with
    | false =>
      obtain ⟨-, g0, g1, g2, -⟩ := blk3 (K1.out.ext HB.out)
      obtain ⟨x0, x1, x2, x3, x4, x5, x6, x7, x8, x9⟩ := bx10 (K2.out.ext HB.out)
      go_wp2_with fail
      refine (HS.out w3 HRT.out).mono ?_
      rintro e w4 ⟨rfl, hb4⟩
      clear g0 g1 g2 x0 x1 x2 x3 x4 x5 x6 x7 x8 x9
      replace HLI := hide ((ER.below HLI.out hb4 (Nat.le_refl _)).more hb4.size)
      replace HRT := hide (HRT.out.ext hb4)
      (try replace KE := hide (KE.out.ext hb4))
      replace HB := hide (HB.out.trans ((hb4).mono HB.out.size))
      clear hb4 e6 HS
      cases S with
      | true =>
        have HE : Hid (R = 2) := hide (by rw [HRX.out]; rfl)
        go_wp2_with fail
        go_ret
        exact ⟨by rw [HE.out]; rfl, HBB.out.trans (HB.out.mono HBB.out.size)⟩
      | false =>
        have e4 := KE.out.cell 4
        have e5 := KE.out.cell 5
        by_cases h3 : day < fr
        · have HE : Hid (R = 3) := hide (by rw [HRX.out]; simp [h3])
          go_wp2_with fail
          go_ret
          exact ⟨by rw [HE.out]; rfl, HBB.out.trans (HB.out.mono HBB.out.size)⟩
        by_cases h4 : day > to_
        · have HE : Hid (R = 3) := hide (by rw [HRX.out]; simp [show to_ < day from h4])
          go_wp2_with fail
          go_ret
          exact ⟨by rw [HE.out]; rfl, HBB.out.trans (HB.out.mono HBB.out.size)⟩
        have HRY : Hid (R = if !N then 4 else if false && !U then 5 else if tl ≤ de then 6 else 0) := hide (by
          rw [HRX.out, if_neg (by simp), if_neg (show ¬ (day < fr ∨ to_ < day) by omega)])
        go_wp2_with fail
        (try clear e6)
        clear e4 e5 h3 h4 HRX
        go_loopw [12] (fun z wr => ∃ t : Nat, t ≤ nn ∧ z = .int .i64 t ∧ Hid (∀ j, j < t → seB r D (nd.getD j 0).toNat = true) ∧ Hid (Below w4.heap.size w4 wr)) (fun z _ => nn - (intOf z).toNat)
        case atStart => exact ⟨0, Nat.zero_le _, rfl, hide (fun j hj => absurd hj (by omega)), hide (Below.refl _ _)⟩
        case round =>
          obtain ⟨t, ht, rfl, HX, HBF⟩ := hrel
          have hst : IntKind.i64.wrap ((t : Int) + 1) = ((t + 1 : Nat) : Int) := by rw [IntWalk.i64_in _ (by omega)]; omega
          have e1 := (KE.out.ext HBF.out).cell 1
          by_cases htl : t < nn
          · have htl' : (t : Int) < (nn : Int) := by omega
            have htn : t < nd.length := by rw [HNL.out]; exact htl
            obtain ⟨xb, xo, hxa, hxl, hxc⟩ := VR1.at_ HLI.out htn
            have hmem : nd.getD t 0 ∈ nd := by rw [List.getD_eq_getElem?_getD, List.getElem?_eq_getElem htn]; exact List.getElem_mem htn
            have hx := HIN.out _ hmem
            obtain ⟨x, hxx⟩ : ∃ x : Nat, nd.getD t 0 = x := ⟨(nd.getD t 0).toNat, by omega⟩
            have HXX := hide hxx
            rw [hxx] at hxc hx
            have hxn : x < n := by omega
            have HSX := hide (HSE.out x hxn)
            obtain ⟨sx, hsx⟩ : ∃ s, seB r D x = s := ⟨_, rfl⟩
            have HSY := hide hsx
            rw [hsx] at HSX
            rw [hxa] at e1
            have HS11 : Hid (∀ W, Below w4.heap.size w4 W → (((W.cell? ⟨G, 0, none⟩ = some (.slice (some ⟨ab, ao, none⟩) n d.c) ∧ W.cell? ⟨G, 1, none⟩ = some (.int .i64 la) ∧ W.cell? ⟨G, 2, none⟩ = some (.int .i64 tl)) ∧ (W.cell? ⟨G + 1, 0, none⟩ = some (.bool (dB D 0)) ∧ W.cell? ⟨G + 1, 1, none⟩ = some (.bool (dB D 1)) ∧ W.cell? ⟨G + 1, 2, none⟩ = some (.bool (dB D 2)) ∧ W.cell? ⟨G + 1, 3, none⟩ = some (.bool (dB D 3)) ∧ W.cell? ⟨G + 1, 4, none⟩ = some (.bool (dB D 4)) ∧ W.cell? ⟨G + 1, 5, none⟩ = some (.bool (dB D 5)) ∧ W.cell? ⟨G + 1, 6, none⟩ = some (.bool (dB D 6)) ∧ W.cell? ⟨G + 1, 7, none⟩ = some (.bool (dB D 7)) ∧ W.cell? ⟨G + 1, 8, none⟩ = some (.bool (dB D 8)) ∧ W.cell? ⟨G + 1, 9, none⟩ = some (.bool (dB D 9)))) ∧ W.cell? ⟨E, 1, none⟩ = some (.slice (some ⟨xb, xo, none⟩) nn nc) ∧ W.cell? ⟨xb, xo + t, none⟩ = some (.int .i64 (x : Nat)))) := hide fun W h => by
              have h2 := HB.out.trans (h.mono HB.out.size)
              obtain ⟨-, g0, g1, g2, -⟩ := blk3 (K1.out.ext h2)
              have q := (KE.out.ext h).cell 1
              rw [hxa] at q
              exact ⟨⟨⟨g0, g1, g2⟩, bx10 (K2.out.ext h2)⟩, q, (h.cell (p := ⟨xb, xo + t, none⟩) hxl).trans hxc⟩
            clear htn hxl hxc hx hxx hxa hxn hsx
            go_upto_region 11 with fail
            clear e1
            replace HBF := hide (HBF.out.trans ((Below.refl wr.heap.size wr).drew.mono HBF.out.size))
            refine wp_region_J (fun W : World => (((W.cell? ⟨G, 0, none⟩ = some (.slice (some ⟨ab, ao, none⟩) n d.c) ∧ W.cell? ⟨G, 1, none⟩ = some (.int .i64 la) ∧ W.cell? ⟨G, 2, none⟩ = some (.int .i64 tl)) ∧ (W.cell? ⟨G + 1, 0, none⟩ = some (.bool (dB D 0)) ∧ W.cell? ⟨G + 1, 1, none⟩ = some (.bool (dB D 1)) ∧ W.cell? ⟨G + 1, 2, none⟩ = some (.bool (dB D 2)) ∧ W.cell? ⟨G + 1, 3, none⟩ = some (.bool (dB D 3)) ∧ W.cell? ⟨G + 1, 4, none⟩ = some (.bool (dB D 4)) ∧ W.cell? ⟨G + 1, 5, none⟩ = some (.bool (dB D 5)) ∧ W.cell? ⟨G + 1, 6, none⟩ = some (.bool (dB D 6)) ∧ W.cell? ⟨G + 1, 7, none⟩ = some (.bool (dB D 7)) ∧ W.cell? ⟨G + 1, 8, none⟩ = some (.bool (dB D 8)) ∧ W.cell? ⟨G + 1, 9, none⟩ = some (.bool (dB D 9)))) ∧ W.cell? ⟨E, 1, none⟩ = some (.slice (some ⟨xb, xo, none⟩) nn nc) ∧ W.cell? ⟨xb, xo + t, none⟩ = some (.int .i64 (x : Nat)))) (by kernel_rfl) ?_
            generalize wr.drew = wd at HBF ⊢
            refine tk_start [0, 1, 2, 3, 4, 5, 6] ?_
            iterate 7
              refine tk_one (v := ?_) (by first | exact hF | exact wideFn) (HS11.out _ HBF.out) rfl (by kernel_rfl) (by kernel_rfl) (by kernel_rfl) (by kernel_rfl) rfl ?_ (by first | exact fun _ _ _ h => h | exact fun _ _ _ h => hQ2 _ _ _ _ _ h) ?_
              rotate_left
              · intro W hSW
                simp only [glA, glB, glC]
                (try dsimp only at hSW)
                go_simp
                with_reducible rfl
              (try simp only [glA, glB, glC, Act.put, glD, glE, glF])
            refine tk_end ?_
            refine wpAnyJ_one 7 rfl (by kernel_rfl) (fun K hK => ?_)
            simp only [glA, glB, glC]
            go_simp
            refine ⟨trivial, rfl, ?_⟩
            refine (callsIn_wide.2 (HSX.out _ (HRT.out.ext HBF.out))).mono ?_
            rintro e w5 ⟨rfl, hb5⟩
            have HB5 := hide (HBF.out.trans (hb5.mono HBF.out.size))
            dsimp only
            refine hK.out _ _ (fun _ => HS11.out _ HB5.out) ?_
            clear hK K
            (try simp only [glA, glB, glC, Act.put, glD, glE, glF])
            clear hb5 HBF
            cases sx with
            | true =>
              have HX2 : Hid (∀ j, j < t + 1 → seB r D (nd.getD j 0).toNat = true) := hide fun j hj => by
                rcases (by omega : j < t ∨ j = t) with h | rfl
                · exact HX.out j h
                · rw [HXX.out, Int.toNat_natCast]; exact HSY.out
              refine wpAnyJ_take 8 (v := ?_) (by first | exact hF | exact wideFn) (HS11.out _ HB5.out) rfl (by kernel_rfl) (by kernel_rfl) (by kernel_rfl) (by kernel_rfl) rfl ?_ (by first | exact fun _ _ _ h => h | exact fun _ _ _ h => hQ2 _ _ _ _ _ h) ?_
              rotate_left
              · intro W hSW
                simp only [glA, glB, glC]
                (try dsimp only at hSW)
                go_simp
                with_reducible rfl
              (try simp only [glA, glB, glC, Act.put, glD, glE, glF])
              refine wpAnyJ_done (by kernel_rfl) ?_
              go_wp2_with fail
              go_roundw
              case rel => exact ⟨t + 1, by omega, by go_num, HX2, HB5⟩
              case measure => simp [intOf]; omega
            | false =>
              have HE : Hid (R = 4) := hide (by
                have hN : N = false := by
                  rw [HNN.out, ← Bool.not_eq_true, List.all_eq_true]
                  intro h
                  have h2 := h _ hmem
                  rw [HXX.out, Int.toNat_natCast, HSY.out] at h2
                  cases h2
                rw [HRY.out, hN]; rfl)
              refine wpAnyJ_take 8 (v := ?_) (by first | exact hF | exact wideFn) (HS11.out _ HB5.out) rfl (by kernel_rfl) (by kernel_rfl) (by kernel_rfl) (by kernel_rfl) rfl ?_ (by first | exact fun _ _ _ h => h | exact fun _ _ _ h => hQ2 _ _ _ _ _ h) ?_
              rotate_left
              · intro W hSW
                simp only [glA, glB, glC]
                (try dsimp only at hSW)
                go_simp
                with_reducible rfl
              (try simp only [glA, glB, glC, Act.put, glD, glE, glF])
              refine wpAnyJ_done (by kernel_rfl) ?_
              go_wp2_with fail
              go_ret
              exact ⟨by rw [HE.out]; rfl, (HBB.out.trans (HB.out.mono HBB.out.size)).trans (HB5.out.mono (Nat.le_trans HBB.out.size HB.out.size))⟩
          · obtain rfl : nn = t := by omega
            have hnl : ¬ (nn : Int) < (nn : Int) := by omega
            have HRZ : Hid (R = if false && !U then 5 else if tl ≤ de then 6 else 0) := hide (by
              have hN : N = true := by
                rw [HNN.out, List.all_eq_true]
                intro x hx
                obtain ⟨j, hj, rfl⟩ := List.getElem_of_mem hx
                have := HX.out j (by rw [← HNL.out]; exact hj)
                rw [List.getD_eq_getElem?_getD, List.getElem?_eq_getElem hj] at this
                exact this
              rw [HRY.out, hN]; rfl)
            clear hst htl ht
            replace HRT := hide (HRT.out.ext HBF.out)
            replace KE := hide (KE.out.ext HBF.out)
            replace HB := hide (HB.out.trans (HBF.out.mono HB.out.size))
            clear HBF HRY HNN HX HLI
            have e6 := KE.out.cell 6
            have HRX : Hid (R = if tl ≤ de then 6 else 0) := hide (by rw [HRZ.out]; rfl)
            clear HRZ
            obtain ⟨-, -, -, g2, -⟩ := blk3 (K1.out.ext HB.out)
            by_cases h6 : de ≥ tl
            · have HE : Hid (R = 6) := hide (by rw [HRX.out, if_pos (show tl ≤ de from h6)])
              go_wp2_with fail
              go_ret
              exact ⟨by rw [HE.out]; rfl, HBB.out.trans (HB.out.mono HBB.out.size)⟩
            · have HE : Hid (R = 0) := hide (by rw [HRX.out, if_neg (show ¬ tl ≤ de from h6)])
              go_wp2_with fail
              go_ret
              exact ⟨by rw [HE.out]; rfl, HBB.out.trans (HB.out.mono HBB.out.size)⟩
    | true =>
      clear HS
      have e4 := KE.out.cell 4
      have e5 := KE.out.cell 5
      by_cases h3 : day < fr
      · have HE : Hid (R = 3) := hide (by rw [HRX.out]; simp [h3])
        go_wp2_with fail
        go_ret
        exact ⟨by rw [HE.out]; rfl, HBB.out.trans (HB.out.mono HBB.out.size)⟩
      by_cases h4 : day > to_
      · have HE : Hid (R = 3) := hide (by rw [HRX.out]; simp [show to_ < day from h4])
        go_wp2_with fail
        go_ret
        exact ⟨by rw [HE.out]; rfl, HBB.out.trans (HB.out.mono HBB.out.size)⟩
      have HRY : Hid (R = if !N then 4 else if true && !U then 5 else if tl ≤ de then 6 else 0) := hide (by
        rw [HRX.out, if_neg (by simp), if_neg (show ¬ (day < fr ∨ to_ < day) by omega)])
      go_wp2_with fail
      (try clear e6)
      clear e4 e5 h3 h4 HRX
      go_loopw [12] (fun z wr => ∃ t : Nat, t ≤ nn ∧ z = .int .i64 t ∧ Hid (∀ j, j < t → seB r D (nd.getD j 0).toNat = true) ∧ Hid (Below w3.heap.size w3 wr)) (fun z _ => nn - (intOf z).toNat)
      case atStart => exact ⟨0, Nat.zero_le _, rfl, hide (fun j hj => absurd hj (by omega)), hide (Below.refl _ _)⟩
      case round =>
        obtain ⟨t, ht, rfl, HX, HBF⟩ := hrel
        have hst : IntKind.i64.wrap ((t : Int) + 1) = ((t + 1 : Nat) : Int) := by rw [IntWalk.i64_in _ (by omega)]; omega
        have e1 := (KE.out.ext HBF.out).cell 1
        by_cases htl : t < nn
        · have htl' : (t : Int) < (nn : Int) := by omega
          have htn : t < nd.length := by rw [HNL.out]; exact htl
          obtain ⟨xb, xo, hxa, hxl, hxc⟩ := VR1.at_ HLI.out htn
          have hmem : nd.getD t 0 ∈ nd := by rw [List.getD_eq_getElem?_getD, List.getElem?_eq_getElem htn]; exact List.getElem_mem htn
          have hx := HIN.out _ hmem
          obtain ⟨x, hxx⟩ : ∃ x : Nat, nd.getD t 0 = x := ⟨(nd.getD t 0).toNat, by omega⟩
          have HXX := hide hxx
          rw [hxx] at hxc hx
          have hxn : x < n := by omega
          have HSX := hide (HSE.out x hxn)
          obtain ⟨sx, hsx⟩ : ∃ s, seB r D x = s := ⟨_, rfl⟩
          have HSY := hide hsx
          rw [hsx] at HSX
          rw [hxa] at e1
          have HS11 : Hid (∀ W, Below w3.heap.size w3 W → (((W.cell? ⟨G, 0, none⟩ = some (.slice (some ⟨ab, ao, none⟩) n d.c) ∧ W.cell? ⟨G, 1, none⟩ = some (.int .i64 la) ∧ W.cell? ⟨G, 2, none⟩ = some (.int .i64 tl)) ∧ (W.cell? ⟨G + 1, 0, none⟩ = some (.bool (dB D 0)) ∧ W.cell? ⟨G + 1, 1, none⟩ = some (.bool (dB D 1)) ∧ W.cell? ⟨G + 1, 2, none⟩ = some (.bool (dB D 2)) ∧ W.cell? ⟨G + 1, 3, none⟩ = some (.bool (dB D 3)) ∧ W.cell? ⟨G + 1, 4, none⟩ = some (.bool (dB D 4)) ∧ W.cell? ⟨G + 1, 5, none⟩ = some (.bool (dB D 5)) ∧ W.cell? ⟨G + 1, 6, none⟩ = some (.bool (dB D 6)) ∧ W.cell? ⟨G + 1, 7, none⟩ = some (.bool (dB D 7)) ∧ W.cell? ⟨G + 1, 8, none⟩ = some (.bool (dB D 8)) ∧ W.cell? ⟨G + 1, 9, none⟩ = some (.bool (dB D 9)))) ∧ W.cell? ⟨E, 1, none⟩ = some (.slice (some ⟨xb, xo, none⟩) nn nc) ∧ W.cell? ⟨xb, xo + t, none⟩ = some (.int .i64 (x : Nat)))) := hide fun W h => by
            have h2 := HB.out.trans (h.mono HB.out.size)
            obtain ⟨-, g0, g1, g2, -⟩ := blk3 (K1.out.ext h2)
            have q := (KE.out.ext h).cell 1
            rw [hxa] at q
            exact ⟨⟨⟨g0, g1, g2⟩, bx10 (K2.out.ext h2)⟩, q, (h.cell (p := ⟨xb, xo + t, none⟩) hxl).trans hxc⟩
          clear htn hxl hxc hx hxx hxa hxn hsx
          go_upto_region 11 with fail
          clear e1
          replace HBF := hide (HBF.out.trans ((Below.refl wr.heap.size wr).drew.mono HBF.out.size))
          refine wp_region_J (fun W : World => (((W.cell? ⟨G, 0, none⟩ = some (.slice (some ⟨ab, ao, none⟩) n d.c) ∧ W.cell? ⟨G, 1, none⟩ = some (.int .i64 la) ∧ W.cell? ⟨G, 2, none⟩ = some (.int .i64 tl)) ∧ (W.cell? ⟨G + 1, 0, none⟩ = some (.bool (dB D 0)) ∧ W.cell? ⟨G + 1, 1, none⟩ = some (.bool (dB D 1)) ∧ W.cell? ⟨G + 1, 2, none⟩ = some (.bool (dB D 2)) ∧ W.cell? ⟨G + 1, 3, none⟩ = some (.bool (dB D 3)) ∧ W.cell? ⟨G + 1, 4, none⟩ = some (.bool (dB D 4)) ∧ W.cell? ⟨G + 1, 5, none⟩ = some (.bool (dB D 5)) ∧ W.cell? ⟨G + 1, 6, none⟩ = some (.bool (dB D 6)) ∧ W.cell? ⟨G + 1, 7, none⟩ = some (.bool (dB D 7)) ∧ W.cell? ⟨G + 1, 8, none⟩ = some (.bool (dB D 8)) ∧ W.cell? ⟨G + 1, 9, none⟩ = some (.bool (dB D 9)))) ∧ W.cell? ⟨E, 1, none⟩ = some (.slice (some ⟨xb, xo, none⟩) nn nc) ∧ W.cell? ⟨xb, xo + t, none⟩ = some (.int .i64 (x : Nat)))) (by kernel_rfl) ?_
          generalize wr.drew = wd at HBF ⊢
          refine tk_start [0, 1, 2, 3, 4, 5, 6] ?_
          iterate 7
            refine tk_one (v := ?_) (by first | exact hF | exact wideFn) (HS11.out _ HBF.out) rfl (by kernel_rfl) (by kernel_rfl) (by kernel_rfl) (by kernel_rfl) rfl ?_ (by first | exact fun _ _ _ h => h | exact fun _ _ _ h => hQ2 _ _ _ _ _ h) ?_
            rotate_left
            · intro W hSW
              simp only [glA, glB, glC]
              (try dsimp only at hSW)
              go_simp
              with_reducible rfl
            (try simp only [glA, glB, glC, Act.put, glD, glE, glF])
          refine tk_end ?_
          refine wpAnyJ_one 7 rfl (by kernel_rfl) (fun K hK => ?_)
          simp only [glA, glB, glC]
          go_simp
          refine ⟨trivial, rfl, ?_⟩
          refine (callsIn_wide.2 (HSX.out _ (HRT.out.ext HBF.out))).mono ?_
          rintro e w5 ⟨rfl, hb5⟩
          have HB5 := hide (HBF.out.trans (hb5.mono HBF.out.size))
          dsimp only
          refine hK.out _ _ (fun _ => HS11.out _ HB5.out) ?_
          clear hK K
          (try simp only [glA, glB, glC, Act.put, glD, glE, glF])
          clear hb5 HBF
          cases sx with
          | true =>
            have HX2 : Hid (∀ j, j < t + 1 → seB r D (nd.getD j 0).toNat = true) := hide fun j hj => by
              rcases (by omega : j < t ∨ j = t) with h | rfl
              · exact HX.out j h
              · rw [HXX.out, Int.toNat_natCast]; exact HSY.out
            refine wpAnyJ_take 8 (v := ?_) (by first | exact hF | exact wideFn) (HS11.out _ HB5.out) rfl (by kernel_rfl) (by kernel_rfl) (by kernel_rfl) (by kernel_rfl) rfl ?_ (by first | exact fun _ _ _ h => h | exact fun _ _ _ h => hQ2 _ _ _ _ _ h) ?_
            rotate_left
            · intro W hSW
              simp only [glA, glB, glC]
              (try dsimp only at hSW)
              go_simp
              with_reducible rfl
            (try simp only [glA, glB, glC, Act.put, glD, glE, glF])
            refine wpAnyJ_done (by kernel_rfl) ?_
            go_wp2_with fail
            go_roundw
            case rel => exact ⟨t + 1, by omega, by go_num, HX2, HB5⟩
            case measure => simp [intOf]; omega
          | false =>
            have HE : Hid (R = 4) := hide (by
              have hN : N = false := by
                rw [HNN.out, ← Bool.not_eq_true, List.all_eq_true]
                intro h
                have h2 := h _ hmem
                rw [HXX.out, Int.toNat_natCast, HSY.out] at h2
                cases h2
              rw [HRY.out, hN]; rfl)
            refine wpAnyJ_take 8 (v := ?_) (by first | exact hF | exact wideFn) (HS11.out _ HB5.out) rfl (by kernel_rfl) (by kernel_rfl) (by kernel_rfl) (by kernel_rfl) rfl ?_ (by first | exact fun _ _ _ h => h | exact fun _ _ _ h => hQ2 _ _ _ _ _ h) ?_
            rotate_left
            · intro W hSW
              simp only [glA, glB, glC]
              (try dsimp only at hSW)
              go_simp
              with_reducible rfl
            (try simp only [glA, glB, glC, Act.put, glD, glE, glF])
            refine wpAnyJ_done (by kernel_rfl) ?_
            go_wp2_with fail
            go_ret
            exact ⟨by rw [HE.out]; rfl, (HBB.out.trans (HB.out.mono HBB.out.size)).trans (HB5.out.mono (Nat.le_trans HBB.out.size HB.out.size))⟩
        · obtain rfl : nn = t := by omega
          have hnl : ¬ (nn : Int) < (nn : Int) := by omega
          have HRZ : Hid (R = if true && !U then 5 else if tl ≤ de then 6 else 0) := hide (by
            have hN : N = true := by
              rw [HNN.out, List.all_eq_true]
              intro x hx
              obtain ⟨j, hj, rfl⟩ := List.getElem_of_mem hx
              have := HX.out j (by rw [← HNL.out]; exact hj)
              rw [List.getD_eq_getElem?_getD, List.getElem?_eq_getElem hj] at this
              exact this
            rw [HRY.out, hN]; rfl)
          clear hst htl ht
          replace HRT := hide (HRT.out.ext HBF.out)
          replace KE := hide (KE.out.ext HBF.out)
          replace HB := hide (HB.out.trans (HBF.out.mono HB.out.size))
          clear HBF HRY HNN HX HLI
          have e6 := KE.out.cell 6
          go_wp2_with fail
          clear e1 hnl e6 KE
          obtain ⟨P, hP⟩ : ∃ P : Nat → Bool, (fun k => ((r.ac k).ins.contains (a : Int) && !seB r D k) || (decide ((r.ac k).at_ = (a : Int)) && foB r D day k)) = P := ⟨_, rfl⟩
          have HPU : Hid (U = (List.range n).any P) := hide (by rw [← hP, ← HUU.out, ← HN.out.1]; rfl)
          have HPK : Hid (∀ k, P k = (((r.ac k).ins.contains (a : Int) && !seB r D k) || (decide ((r.ac k).at_ = (a : Int)) && foB r D day k))) := hide fun k => by rw [← hP]
          clear hP
          go_loopw [13, 14] (fun u z wr2 => ∃ i : Nat, i ≤ n ∧ z = .int .i64 i ∧ u = .bool ((List.range i).any P) ∧ Hid (Below wr.heap.size wr wr2)) (fun _ z _ => n - (intOf z).toNat)
          case atStart => exact ⟨0, Nat.zero_le _, rfl, rfl, hide (Below.refl _ _)⟩
          case round =>
            obtain ⟨i, hi, rfl, rfl, HBF⟩ := hrel
            have hst : IntKind.i64.wrap ((i : Int) + 1) = ((i + 1 : Nat) : Int) := by rw [IntWalk.i64_in _ (by omega)]; omega
            obtain ⟨-, g0, g1, g2, -⟩ := blk3 (K1.out.ext (HB.out.trans (HBF.out.mono HB.out.size)))
            obtain ⟨u, hu⟩ : ∃ x, (List.range i).any P = x := ⟨_, rfl⟩
            have HU9 := hide hu
            rw [hu]
            clear hu
            by_cases hil : i < n
            · have hil' : (i : Int) < (n : Int) := by omega
              have HSX := hide (HSE.out i hil)
              have HFX := hide (HFO.out i hil)
              have HRX := hide (HREP.out a i hil)
              have hpk := HPK.out i
              obtain ⟨s, hs⟩ : ∃ x, seB r D i = x := ⟨_, rfl⟩
              obtain ⟨f, hf⟩ : ∃ x, foB r D day i = x := ⟨_, rfl⟩
              obtain ⟨rp, hrp⟩ : ∃ x, (r.ac i).ins.contains (a : Int) = x := ⟨_, rfl⟩
              obtain ⟨ati, hati⟩ : ∃ x, (r.ac i).at_ = x := ⟨_, rfl⟩
              obtain ⟨q, hq⟩ : ∃ x, decide (ati = (a : Int)) = x := ⟨_, rfl⟩
              have hqq : (ati == (a : Int)) = q := by rw [← hq]; rfl
              have HQX := hide hati
              rw [hs] at HSX
              rw [hf] at HFX
              rw [hrp] at HRX
              rw [hrp, hs, hati, hq, hf] at hpk
              have HPX := hide (And.intro HU9.out hpk)
              clear hpk hs hf hrp hati hq HU9
              cases u with
              | true =>
                go_wp2_with fail
                go_roundw
                case rel => exact ⟨i + 1, by omega, by go_num, by rw [any_succ, HPX.out.1, HPX.out.2]; rfl, HBF⟩
                case measure => simp [intOf]; omega
              | false =>
                go_wp2_with fail
                refine (HRX.out wr (HRT.out.ext HBF.out)).mono ?_
                rintro e wy ⟨rfl, hby⟩
                clear g0 g1 g2 HRX
                replace HBF := hide (HBF.out.trans (hby.mono HBF.out.size))
                clear hby
                cases rp with
                | false =>
                  have a3 := HROW.out _ (HB.out.trans (HBF.out.mono HB.out.size)) i hil
                  rw [HQX.out] at a3
                  obtain ⟨-, g0, -⟩ := blk3 (K1.out.ext (HB.out.trans (HBF.out.mono HB.out.size)))
                  cases q with
                  | false =>
                    go_wp2_with fail
                    go_roundw
                    case rel => exact ⟨i + 1, by omega, by go_num, by rw [any_succ, HPX.out.1, HPX.out.2]; rfl, HBF⟩
                    case measure => simp [intOf]; omega
                  | true =>
                    obtain ⟨-, g0, g1, g2, -⟩ := blk3 (K1.out.ext (HB.out.trans (HBF.out.mono HB.out.size)))
                    obtain ⟨x0, x1, x2, x3, x4, x5, x6, x7, x8, x9⟩ := bx10 (K2.out.ext (HB.out.trans (HBF.out.mono HB.out.size)))
                    go_wp2_with fail
                    refine (HFX.out wy (HRT.out.ext HBF.out)).mono ?_
                    rintro e wz ⟨rfl, hbz⟩
                    clear g0 g1 g2 x0 x1 x2 x3 x4 x5 x6 x7 x8 x9
                    replace HBF := hide (HBF.out.trans (hbz.mono HBF.out.size))
                    clear hbz
                    cases f with
                    | false =>
                      go_wp2_with fail
                      go_roundw
                      case rel => exact ⟨i + 1, by omega, by go_num, by rw [any_succ, HPX.out.1, HPX.out.2]; rfl, HBF⟩
                      case measure => simp [intOf]; omega
                    | true =>
                      go_wp2_with fail
                      go_roundw
                      case rel => exact ⟨i + 1, by omega, by go_num, by rw [any_succ, HPX.out.1, HPX.out.2]; rfl, HBF⟩
                      case measure => simp [intOf]; omega
                | true =>
                  obtain ⟨-, g0, g1, g2, -⟩ := blk3 (K1.out.ext (HB.out.trans (HBF.out.mono HB.out.size)))
                  obtain ⟨x0, x1, x2, x3, x4, x5, x6, x7, x8, x9⟩ := bx10 (K2.out.ext (HB.out.trans (HBF.out.mono HB.out.size)))
                  go_wp2_with fail
                  refine (HSX.out wy (HRT.out.ext HBF.out)).mono ?_
                  rintro e wx ⟨rfl, hbx⟩
                  clear g0 g1 g2 x0 x1 x2 x3 x4 x5 x6 x7 x8 x9 HSX
                  replace HBF := hide (HBF.out.trans (hbx.mono HBF.out.size))
                  clear hbx
                  cases s with
                  | false =>
                    go_wp2_with fail
                    go_roundw
                    case rel => exact ⟨i + 1, by omega, by go_num, by rw [any_succ, HPX.out.1, HPX.out.2]; rfl, HBF⟩
                    case measure => simp [intOf]; omega
                  | true =>
                    have a3 := HROW.out _ (HB.out.trans (HBF.out.mono HB.out.size)) i hil
                    rw [HQX.out] at a3
                    obtain ⟨-, g0, -⟩ := blk3 (K1.out.ext (HB.out.trans (HBF.out.mono HB.out.size)))
                    cases q with
                    | false =>
                      go_wp2_with fail
                      go_roundw
                      case rel => exact ⟨i + 1, by omega, by go_num, by rw [any_succ, HPX.out.1, HPX.out.2]; rfl, HBF⟩
                      case measure => simp [intOf]; omega
                    | true =>
                      obtain ⟨-, g0, g1, g2, -⟩ := blk3 (K1.out.ext (HB.out.trans (HBF.out.mono HB.out.size)))
                      obtain ⟨x0, x1, x2, x3, x4, x5, x6, x7, x8, x9⟩ := bx10 (K2.out.ext (HB.out.trans (HBF.out.mono HB.out.size)))
                      go_wp2_with fail
                      refine (HFX.out wx (HRT.out.ext HBF.out)).mono ?_
                      rintro e wz ⟨rfl, hbz⟩
                      clear g0 g1 g2 x0 x1 x2 x3 x4 x5 x6 x7 x8 x9
                      replace HBF := hide (HBF.out.trans (hbz.mono HBF.out.size))
                      clear hbz
                      cases f with
                      | false =>
                        go_wp2_with fail
                        go_roundw
                        case rel => exact ⟨i + 1, by omega, by go_num, by rw [any_succ, HPX.out.1, HPX.out.2]; rfl, HBF⟩
                        case measure => simp [intOf]; omega
                      | true =>
                        go_wp2_with fail
                        go_roundw
                        case rel => exact ⟨i + 1, by omega, by go_num, by rw [any_succ, HPX.out.1, HPX.out.2]; rfl, HBF⟩
                        case measure => simp [intOf]; omega
            · obtain rfl : n = i := by omega
              have hnl : ¬ (n : Int) < (n : Int) := by omega
              replace HB := hide (HB.out.trans (HBF.out.mono HB.out.size))
              clear HBF
              cases u with
              | false =>
                have HE0 : Hid (U = false) := hide (HPU.out.trans HU9.out)
                have HE : Hid (R = 5) := hide (by rw [HRZ.out, HE0.out]; rfl)
                go_wp2_with fail
                go_ret
                exact ⟨by rw [HE.out]; rfl, HBB.out.trans (HB.out.mono HBB.out.size)⟩
              | true =>
                have HE0 : Hid (U = true) := hide (HPU.out.trans HU9.out)
                have HRX : Hid (R = if tl ≤ de then 6 else 0) := hide (by rw [HRZ.out, HE0.out]; rfl)
                clear HRZ HE0
                clear g1 g2
                obtain ⟨-, -, -, g2, -⟩ := blk3 (K1.out.ext HB.out)
                by_cases h6 : de ≥ tl
                · have HE : Hid (R = 6) := hide (by rw [HRX.out, if_pos (show tl ≤ de from h6)])
                  go_wp2_with fail
                  go_ret
                  exact ⟨by rw [HE.out]; rfl, HBB.out.trans (HB.out.mono HBB.out.size)⟩
                · have HE : Hid (R = 0) := hide (by rw [HRX.out, if_neg (show ¬ tl ≤ de from h6)])
                  go_wp2_with fail
                  go_ret
                  exact ⟨by rw [HE.out]; rfl, HBB.out.trans (HB.out.mono HBB.out.size)⟩
  · rw [hdb] at q0
    rw [hdb] at HRX
    clear hdb
    have HE : Hid (R = 2) := hide (by rw [HRX.out]; rfl)
    go_wp2_with fail
    go_ret
    exact ⟨by rw [HE.out]; rfl, HBB.out.trans (HB.out.mono HBB.out.size)⟩
end Go.Proofs.YtcgdalabenflmaaDoor
/- Rite, the reference: Follow. -/
namespace Go.Proofs.YtcgdalabenflmaaDoor
open List renaming getElem_toArray → glA, getElem_cons_zero → glB, getElem_cons_succ → glC, setIfInBounds_toArray → glD, set_cons_zero → glE, set_cons_succ → glF
open Go Go.RowKit Go.Shelf
set_option maxHeartbeats 8000000
set_option maxRecDepth 100000
theorem built_done : Tryd.prog.built 37 [] = some #[.bool false, .bool false, .bool false, .bool false, .bool false, .bool false, .bool false, .bool false, .bool false, .bool false] := by kernel_rfl
theorem wpList_store_run {P : Program} {ops : Array Oper} {rest : List Oper} {o : Oper} {a : Act} {w w' : World} {Q : Exit → Act → World → Prop} (hgd : o.guard = none) (ty : TypeId) (p x : Operand) {v u : Value}
    (ho : o.op = .store ty p x) (hp : a.eval p = v) (hx : a.eval x = u) (hrun : (Instr.storeAt ty v u).run P w = .ok () w') (h : wpList P ops Q rest (a.put o.dst undef) w') : wpList P ops Q (o :: rest) a w :=
  wpList_plain hgd fun _ hK => by
    unfold Oper.wp execOp
    simp only [ho, hp, hx, hrun, Sem.run_bind, Sem.run_pure, Result.andThen_ok]
    exact hK _ _ h
theorem results5 {P : Program} {fn : Func} {p u1 u2 u3 u4 : Tmp} {ty : TypeId} (h : fn.results = #[.cell p ty, .tmp u1, .tmp u2, .tmp u3, .tmp u4]) {tmps : Array Value} {w : World} {g : Nat} {t : TypeId} {cs : Array Value} {n : Nat} {e : TypeId}
    (hp : tmps.getD p undef = .pointer (some ⟨g, 0, none⟩)) (hg : Blk w g t cs) (hu : P.underlying ty = some (.array n e)) (hi : (P.info? ty).map (·.size) = some cs.size) :
    (results fn tmps).run P w = .ok (.tuple #[.agg cs, tmps.getD u1 undef, tmps.getD u2 undef, tmps.getD u3 undef, tmps.getD u4 undef]) w := by
  have hl := run_loadVar_row (P := P) w g t ty cs _ _ hg hu rfl hi
  simp only [results, h]
  simp only [Array.getD_eq_getD_getElem?] at hp
  simp [Sem.run_bind, Result.andThen, asAddr, hp, hl]
theorem dn_set (D : Nat) {a : Nat} (ha : a < 10) (D2 : Nat) (h2 : D2 = D ||| 2 ^ a) : (#[.bool (dB D 0), .bool (dB D 1), .bool (dB D 2), .bool (dB D 3), .bool (dB D 4), .bool (dB D 5), .bool (dB D 6), .bool (dB D 7), .bool (dB D 8), .bool (dB D 9)] : Array Value).setIfInBounds a (.bool true) = #[.bool (dB D2 0), .bool (dB D2 1), .bool (dB D2 2), .bool (dB D2 3), .bool (dB D2 4), .bool (dB D2 5), .bool (dB D2 6), .bool (dB D2 7), .bool (dB D2 8), .bool (dB D2 9)] := by
  subst h2
  have key : ∀ i, dB (D ||| 2 ^ a) i = (dB D i || decide (a = i)) := fun i => by unfold dB; rw [Nat.testBit_or, Nat.testBit_two_pow]
  rcases (by omega : a = 0 ∨ a = 1 ∨ a = 2 ∨ a = 3 ∨ a = 4 ∨ a = 5 ∨ a = 6 ∨ a = 7 ∨ a = 8 ∨ a = 9) with rfl | rfl | rfl | rfl | rfl | rfl | rfl | rfl | rfl | rfl <;> simp [key]
/-- what lies while a course is followed -/
structure FoI (w W : World) (G R T : Nat) (cs : Array Value) (D : Nat) : Prop where
  lo : Below w.heap.size w W
  kG : Blk W G 24 cs
  kR : Blk W R 37 #[.bool false, .bool false, .bool false, .bool false, .bool false, .bool false, .bool false, .bool false, .bool false, .bool false]
  kD : Blk W T 37 #[.bool (dB D 0), .bool (dB D 1), .bool (dB D 2), .bool (dB D 3), .bool (dB D 4), .bool (dB D 5), .bool (dB D 6), .bool (dB D 7), .bool (dB D 8), .bool (dB D 9)]
  ne : R ≠ T
  hT : w.heap.size ≤ T
  hR : w.heap.size ≤ R
theorem FoI.ext {w W W' : World} {G R T : Nat} {cs : Array Value} {D : Nat} (h : FoI w W G R T cs D) (hb : Below W.heap.size W W') : FoI w W' G R T cs D :=
  ⟨h.lo.trans (hb.mono h.lo.size), h.kG.ext hb, h.kR.ext hb, h.kD.ext hb, h.ne, h.hT, h.hR⟩
theorem FoI.put {w W : World} {G R T : Nat} {cs : Array Value} {D : Nat} (h : FoI w W G R T cs D) {a : Nat} (ha : a < 10) : FoI w (W.setCell ⟨T, a, none⟩ (.bool true)) G R T cs (D ||| 2 ^ a) :=
  ⟨h.lo.setCell (p := ⟨T, a, none⟩) h.hT _, h.kG.far (p := ⟨T, a, none⟩) (h.kG.ne_ h.kD (by decide)) _, h.kR.far (p := ⟨T, a, none⟩) h.ne _, by rw [← dn_set D ha _ rfl]; exact h.kD.set_ a _, h.ne, h.hT, h.hR⟩
theorem fo_boxes (w : World) (cs : Array Value) : ∃ w2, (w.alloc (.cells cs 24)).alloc (.cells #[.bool false, .bool false, .bool false, .bool false, .bool false, .bool false, .bool false, .bool false, .bool false, .bool false] 37) = w2 ∧ ∃ w3, (Instr.storeAt 37 (.pointer (some ⟨w2.heap.size, 0, none⟩)) (.agg #[.bool false, .bool false, .bool false, .bool false, .bool false, .bool false, .bool false, .bool false, .bool false, .bool false])).run Tryd.prog (w2.alloc (.cells #[.bool false, .bool false, .bool false, .bool false, .bool false, .bool false, .bool false, .bool false, .bool false, .bool false] 37)) = .ok () w3 ∧ FoI w w3 w.heap.size (w.heap.size + 1) w2.heap.size cs 0 := by
  obtain ⟨w1, hw1⟩ : ∃ x, w.alloc (.cells cs 24) = x := ⟨_, rfl⟩
  have hb1 : Below w.heap.size w w1 := by rw [← hw1]; exact (Below.refl _ _).alloc (Nat.le_refl _) _
  have k1 : Blk w1 w.heap.size 24 cs := by rw [← hw1]; exact Blk.new w _ _
  have hs1 : w1.heap.size = w.heap.size + 1 := by rw [← hw1]; simp
  rw [hw1]
  obtain ⟨w2, hw2⟩ : ∃ x, w1.alloc (.cells #[.bool false, .bool false, .bool false, .bool false, .bool false, .bool false, .bool false, .bool false, .bool false, .bool false] 37) = x := ⟨_, rfl⟩
  have hb2 : Below w1.heap.size w1 w2 := by rw [← hw2]; exact (Below.refl _ _).alloc (Nat.le_refl _) _
  have k2 : Blk w2 (w.heap.size + 1) 37 #[.bool false, .bool false, .bool false, .bool false, .bool false, .bool false, .bool false, .bool false, .bool false, .bool false] := by rw [← hw2, ← hs1]; exact Blk.new w1 _ _
  have hs2 : w2.heap.size = w.heap.size + 2 := by rw [← hw2]; simp [hs1]
  refine ⟨w2, hw2, ?_⟩
  have hb3 : Below w2.heap.size w2 (w2.alloc (.cells #[.bool false, .bool false, .bool false, .bool false, .bool false, .bool false, .bool false, .bool false, .bool false, .bool false] 37)) := (Below.refl _ _).alloc (Nat.le_refl _) _
  obtain ⟨wS, hrun, hKS, hBS, -⟩ := store_blk (P := Tryd.prog) (ty := 37) (cells := #[.bool false, .bool false, .bool false, .bool false, .bool false, .bool false, .bool false, .bool false, .bool false, .bool false]) (Blk.new w2 37 #[.bool false, .bool false, .bool false, .bool false, .bool false, .bool false, .bool false, .bool false, .bool false, .bool false]) rfl (by kernel_rfl) (by simp [Value.oneCell'])
  have hb4 := hBS _ _ hb3 (Nat.le_refl _)
  exact ⟨wS, hrun, (hb1.trans (hb2.mono hb1.size)).trans (hb4.mono (by omega)), (k1.ext hb2).ext hb4, k2.ext hb4, hKS, by omega, by omega, by omega⟩
theorem refFollow_any (d : Rad) (r : Rit) (A : Option Addr) (c : Nat) (l : List (Int × Int)) (w : World) (hd : RtR w d r) (hr : RiOk r) (hz : RtZ r) (hD : DsR w A l) (hl : l.length ≤ 1000000) :
    Calls Tryd.prog 16 #[.agg #[.slice d.A r.n d.c, .int .i64 r.last, .int .i64 r.toil], .slice A l.length c] w fun e w' => e = .returned (.tuple #[.agg #[.bool (dB (folF r m0 l 0).1.d 0), .bool (dB (folF r m0 l 0).1.d 1), .bool (dB (folF r m0 l 0).1.d 2), .bool (dB (folF r m0 l 0).1.d 3), .bool (dB (folF r m0 l 0).1.d 4), .bool (dB (folF r m0 l 0).1.d 5), .bool (dB (folF r m0 l 0).1.d 6), .bool (dB (folF r m0 l 0).1.d 7), .bool (dB (folF r m0 l 0).1.d 8), .bool (dB (folF r m0 l 0).1.d 9)], .int .i64 (folF r m0 l 0).1.day, .int .i64 (folF r m0 l 0).1.de, .int .i64 (folF r m0 l 0).2.1, .int .i64 (folF r m0 l 0).2.2]) ∧ Below w.heap.size w w' := by
  have HBR := hide (fun D day de act W (h : RtR W d r) => refBreaks_any d r D day de act W h hr hz)
  obtain ⟨w2, hw2, w3, hw3, hf⟩ := fo_boxes w #[.slice d.A r.n d.c, .int .i64 r.last, .int .i64 r.toil]
  have HF := hide hf
  have HRUN := hide hw3
  have HRT := hide (fun W (h : Below w.heap.size w W) => hd.ext h)
  have HDS := hide (fun W (h : Below w.heap.size w W) => hD.ext h)
  obtain ⟨F, hF⟩ : ∃ F, folF r m0 l 0 = F := ⟨_, rfl⟩
  have HFO := hide hF
  obtain ⟨n, hn⟩ : ∃ x, r.n = x := ⟨_, rfl⟩
  obtain ⟨la, hla⟩ : ∃ x, r.last = x := ⟨_, rfl⟩
  obtain ⟨tl, htl⟩ : ∃ x, r.toil = x := ⟨_, rfl⟩
  obtain ⟨nl, hnl⟩ : ∃ x, l.length = x := ⟨_, rfl⟩
  have HNL := hide hnl
  have HLA := hide hla
  have HN10 := hide hr.n10
  rw [hnl] at hl
  rw [hF]
  rw [hn, hla, htl] at hw2 HF HBR
  rw [hn, hla, htl, hnl]
  clear hd hr hz hD hf hw3 hF hn hla htl hnl
  go_enter Tryd.func16, Tryd.ntmps16
  go_upto_region 1 with fail
  (try rw [hw2])
  clear hw2
  obtain ⟨G, hG⟩ : ∃ x, w.heap.size = x := ⟨_, rfl⟩
  obtain ⟨R, hR⟩ : ∃ x, w.heap.size + 1 = x := ⟨_, rfl⟩
  obtain ⟨T, hT⟩ : ∃ x, w2.heap.size = x := ⟨_, rfl⟩
  rw [hR, hT, hG] at HF
  rw [hT] at HRUN
  (try rw [hR])
  (try rw [hG])
  clear hG hR
  go_wp2_with (refine wpList_store_run rfl 37 (.tmp 9) (.tmp 14) rfl rfl rfl HRUN.out ?_)
  clear hT HRUN
  generalize hcs : #[Value.slice d.A n d.c, Value.int IntKind.i64 la, Value.int IntKind.i64 tl] = cs at HF
  have HCS := hide hcs.symm
  clear hcs
  go_loopw [10, 11, 12] (fun x y i wr => ∃ (k D : Nat) (dy de : Int), k ≤ nl ∧ i = .int .i64 k ∧ x = .int .i64 dy ∧ y = .int .i64 de ∧ Hid (folF r ⟨D, dy, de⟩ (l.drop k) k = F) ∧ (0 ≤ de ∧ de ≤ k) ∧ Hid (FoI w wr G R T cs D)) (fun _ _ i _ => nl - (intOf i).toNat)
  case atStart => exact ⟨0, 0, 0, 0, Nat.zero_le _, rfl, rfl, rfl, HFO, by omega, HF⟩
  case round =>
    obtain ⟨k, D, dy, de, hk, rfl, rfl, rfl, HX, hde, HI⟩ := hrel
    have hst : IntKind.i64.wrap ((k : Int) + 1) = ((k + 1 : Nat) : Int) := by rw [IntWalk.i64_in _ (by omega)]; omega
    by_cases hlt : k < nl
    · have hlt' : (k : Int) < (nl : Int) := by omega
      have hkl : k < l.length := by rw [HNL.out]; exact hlt
      obtain ⟨b, off, hA, hbl, hc0, hc1⟩ := (HDS.out wr HI.out.lo).at_ hkl rfl
      subst hA
      obtain ⟨yd, hyd⟩ : ∃ x, (l.getD k (0, 0)).1 = x := ⟨_, rfl⟩
      obtain ⟨ya, hya⟩ : ∃ x, (l.getD k (0, 0)).2 = x := ⟨_, rfl⟩
      rw [hyd] at hc0
      rw [hya] at hc1
      have hx := HX.out
      have hy : l.getD k (0, 0) = (yd, ya) := by rw [← hyd, ← hya]
      rw [drop_step hkl, hy] at hx
      have HXS := hide hx
      have HS5 : Hid (∀ W, Below wr.heap.size wr W → ((W.cell? ⟨b, off + k * 2, none⟩ = some (.int .i64 yd) ∧ W.cell? ⟨b, off + k * 2 + 1, none⟩ = some (.int .i64 ya)) ∧ (W.cell? ⟨G, 0, none⟩ = some (.slice d.A n d.c) ∧ W.cell? ⟨G, 1, none⟩ = some (.int .i64 la) ∧ W.cell? ⟨G, 2, none⟩ = some (.int .i64 tl)) ∧ (W.cell? ⟨T, 0, none⟩ = some (.bool (dB D 0)) ∧ W.cell? ⟨T, 1, none⟩ = some (.bool (dB D 1)) ∧ W.cell? ⟨T, 2, none⟩ = some (.bool (dB D 2)) ∧ W.cell? ⟨T, 3, none⟩ = some (.bool (dB D 3)) ∧ W.cell? ⟨T, 4, none⟩ = some (.bool (dB D 4)) ∧ W.cell? ⟨T, 5, none⟩ = some (.bool (dB D 5)) ∧ W.cell? ⟨T, 6, none⟩ = some (.bool (dB D 6)) ∧ W.cell? ⟨T, 7, none⟩ = some (.bool (dB D 7)) ∧ W.cell? ⟨T, 8, none⟩ = some (.bool (dB D 8)) ∧ W.cell? ⟨T, 9, none⟩ = some (.bool (dB D 9))))) := hide fun W h => by
        obtain ⟨-, g0, g1, g2, -⟩ := blk3 (by have := (HI.out.ext h).kG; rw [HCS.out] at this; exact this)
        exact ⟨⟨(h.cell (p := ⟨b, off + k * 2, none⟩) hbl).trans hc0, (h.cell (p := ⟨b, off + k * 2 + 1, none⟩) hbl).trans hc1⟩, ⟨g0, g1, g2⟩, bx10 (HI.out.ext h).kD⟩
      clear hkl hbl hc0 hc1 hyd hya hx hy HX
      have HBW : Hid (Below wr.heap.size wr wr) := hide (Below.refl _ _)
      go_upto_region 5 with fail
      replace HI := hide (HI.out.ext (Below.refl wr.heap.size wr).drew)
      replace HBW := hide (Below.refl wr.heap.size wr).drew
      by_cases h1 : yd < dy
      · have HE : Hid (F = (⟨D, dy, de⟩, (k : Int), 1)) := hide (by
          rw [← HXS.out]; unfold folF; rw [if_pos (.inl h1)])
        refine wp_region_J (fun W : World => ((W.cell? ⟨b, off + k * 2, none⟩ = some (.int .i64 yd) ∧ W.cell? ⟨b, off + k * 2 + 1, none⟩ = some (.int .i64 ya)) ∧ (W.cell? ⟨G, 0, none⟩ = some (.slice d.A n d.c) ∧ W.cell? ⟨G, 1, none⟩ = some (.int .i64 la) ∧ W.cell? ⟨G, 2, none⟩ = some (.int .i64 tl)) ∧ (W.cell? ⟨T, 0, none⟩ = some (.bool (dB D 0)) ∧ W.cell? ⟨T, 1, none⟩ = some (.bool (dB D 1)) ∧ W.cell? ⟨T, 2, none⟩ = some (.bool (dB D 2)) ∧ W.cell? ⟨T, 3, none⟩ = some (.bool (dB D 3)) ∧ W.cell? ⟨T, 4, none⟩ = some (.bool (dB D 4)) ∧ W.cell? ⟨T, 5, none⟩ = some (.bool (dB D 5)) ∧ W.cell? ⟨T, 6, none⟩ = some (.bool (dB D 6)) ∧ W.cell? ⟨T, 7, none⟩ = some (.bool (dB D 7)) ∧ W.cell? ⟨T, 8, none⟩ = some (.bool (dB D 8)) ∧ W.cell? ⟨T, 9, none⟩ = some (.bool (dB D 9))))) (by kernel_rfl) ?_
        generalize wr.drew = wd at HI HBW ⊢
        refine tk_start [0, 1, 2, 3, 4, 5, 6, 7] ?_
        iterate 8
          refine tk_one (v := ?_) (by first | exact hF | exact wideFn) (HS5.out _ HBW.out) rfl (by kernel_rfl) (by kernel_rfl) (by kernel_rfl) (by kernel_rfl) rfl ?_ (by first | exact fun _ _ _ h => h | exact fun _ _ _ h => hQ2 _ _ _ _ _ h) ?_
          rotate_left
          · intro W hSW
            simp only [glA, glB, glC]
            (try dsimp only at hSW)
            go_simp
            with_reducible rfl
          (try simp only [glA, glB, glC, Act.put, glD, glE, glF])
        refine tk_end ?_
        refine tk_start [8, 9, 10, 11, 12, 13, 14, 15] ?_
        iterate 8
          refine tk_skip (by first | exact hF | exact wideFn) (HS5.out _ HBW.out) rfl (by kernel_rfl) (by kernel_rfl) (by kernel_rfl) (by kernel_rfl) rfl (by first | exact fun _ _ _ h => h | exact fun _ _ _ h => hQ2 _ _ _ _ _ h) ?_
          (try simp only [glA, glB, glC, Act.put, glD, glE, glF])
        refine tk_end ?_
        refine wpAnyJ_take 16 (v := ?_) (by first | exact hF | exact wideFn) (HS5.out _ HBW.out) rfl (by kernel_rfl) (by kernel_rfl) (by kernel_rfl) (by kernel_rfl) rfl ?_ (by first | exact fun _ _ _ h => h | exact fun _ _ _ h => hQ2 _ _ _ _ _ h) ?_
        rotate_left
        · intro W hSW
          simp only [glA, glB, glC]
          (try dsimp only at hSW)
          go_simp
          with_reducible rfl
        (try simp only [glA, glB, glC, Act.put, glD, glE, glF])
        refine wpAnyJ_done (by kernel_rfl) ?_
        obtain ⟨wz, hrz, hkz, hbz, -⟩ := store_blk (P := Tryd.prog) (ty := 37) (cells := #[.bool (dB D 0), .bool (dB D 1), .bool (dB D 2), .bool (dB D 3), .bool (dB D 4), .bool (dB D 5), .bool (dB D 6), .bool (dB D 7), .bool (dB D 8), .bool (dB D 9)]) HI.out.kR rfl (by kernel_rfl) (by simp [Value.oneCell'])
        have HLZ := hide (hbz _ _ HI.out.lo HI.out.hR)
        have HRZ := hide hrz
        have HKZ := hide hkz
        obtain ⟨x0, x1, x2, x3, x4, x5, x6, x7, x8, x9⟩ := bx10 HI.out.kD
        clear hrz hkz hbz
        go_wp2_with (refine wpList_store_run rfl 37 (.tmp 4) (.tmp 38) rfl rfl rfl HRZ.out ?_)
        (try simp only [Exit.inBlock, Exit.then])
        refine bodyPost_ret (results5 rfl rfl HKZ.out Tryd.underlying37 (by kernel_rfl)) rfl ?_
        exact ⟨by rw [HE.out]; rfl, HLZ.out⟩
      by_cases h2 : yd > la
      · have HE : Hid (F = (⟨D, dy, de⟩, (k : Int), 1)) := hide (by
          rw [← HXS.out]; unfold folF; rw [if_pos (.inr (by rw [HLA.out]; exact h2))])
        refine wp_region_J (fun W : World => ((W.cell? ⟨b, off + k * 2, none⟩ = some (.int .i64 yd) ∧ W.cell? ⟨b, off + k * 2 + 1, none⟩ = some (.int .i64 ya)) ∧ (W.cell? ⟨G, 0, none⟩ = some (.slice d.A n d.c) ∧ W.cell? ⟨G, 1, none⟩ = some (.int .i64 la) ∧ W.cell? ⟨G, 2, none⟩ = some (.int .i64 tl)) ∧ (W.cell? ⟨T, 0, none⟩ = some (.bool (dB D 0)) ∧ W.cell? ⟨T, 1, none⟩ = some (.bool (dB D 1)) ∧ W.cell? ⟨T, 2, none⟩ = some (.bool (dB D 2)) ∧ W.cell? ⟨T, 3, none⟩ = some (.bool (dB D 3)) ∧ W.cell? ⟨T, 4, none⟩ = some (.bool (dB D 4)) ∧ W.cell? ⟨T, 5, none⟩ = some (.bool (dB D 5)) ∧ W.cell? ⟨T, 6, none⟩ = some (.bool (dB D 6)) ∧ W.cell? ⟨T, 7, none⟩ = some (.bool (dB D 7)) ∧ W.cell? ⟨T, 8, none⟩ = some (.bool (dB D 8)) ∧ W.cell? ⟨T, 9, none⟩ = some (.bool (dB D 9))))) (by kernel_rfl) ?_
        generalize wr.drew = wd at HI HBW ⊢
        refine tk_start [0, 1, 2, 3, 4, 5, 6, 7, 8, 9, 10, 11, 12, 13, 14, 15, 16] ?_
        iterate 17
          refine tk_one (v := ?_) (by first | exact hF | exact wideFn) (HS5.out _ HBW.out) rfl (by kernel_rfl) (by kernel_rfl) (by kernel_rfl) (by kernel_rfl) rfl ?_ (by first | exact fun _ _ _ h => h | exact fun _ _ _ h => hQ2 _ _ _ _ _ h) ?_
          rotate_left
          · intro W hSW
            simp only [glA, glB, glC]
            (try dsimp only at hSW)
            go_simp
            with_reducible rfl
          (try simp only [glA, glB, glC, Act.put, glD, glE, glF])
        refine tk_end ?_
        refine wpAnyJ_done (by kernel_rfl) ?_
        obtain ⟨wz, hrz, hkz, hbz, -⟩ := store_blk (P := Tryd.prog) (ty := 37) (cells := #[.bool (dB D 0), .bool (dB D 1), .bool (dB D 2), .bool (dB D 3), .bool (dB D 4), .bool (dB D 5), .bool (dB D 6), .bool (dB D 7), .bool (dB D 8), .bool (dB D 9)]) HI.out.kR rfl (by kernel_rfl) (by simp [Value.oneCell'])
        have HLZ := hide (hbz _ _ HI.out.lo HI.out.hR)
        have HRZ := hide hrz
        have HKZ := hide hkz
        obtain ⟨x0, x1, x2, x3, x4, x5, x6, x7, x8, x9⟩ := bx10 HI.out.kD
        clear hrz hkz hbz
        go_wp2_with (refine wpList_store_run rfl 37 (.tmp 4) (.tmp 38) rfl rfl rfl HRZ.out ?_)
        (try simp only [Exit.inBlock, Exit.then])
        refine bodyPost_ret (results5 rfl rfl HKZ.out Tryd.underlying37 (by kernel_rfl)) rfl ?_
        exact ⟨by rw [HE.out]; rfl, HLZ.out⟩
      refine wp_region_J (fun W : World => ((W.cell? ⟨b, off + k * 2, none⟩ = some (.int .i64 yd) ∧ W.cell? ⟨b, off + k * 2 + 1, none⟩ = some (.int .i64 ya)) ∧ (W.cell? ⟨G, 0, none⟩ = some (.slice d.A n d.c) ∧ W.cell? ⟨G, 1, none⟩ = some (.int .i64 la) ∧ W.cell? ⟨G, 2, none⟩ = some (.int .i64 tl)) ∧ (W.cell? ⟨T, 0, none⟩ = some (.bool (dB D 0)) ∧ W.cell? ⟨T, 1, none⟩ = some (.bool (dB D 1)) ∧ W.cell? ⟨T, 2, none⟩ = some (.bool (dB D 2)) ∧ W.cell? ⟨T, 3, none⟩ = some (.bool (dB D 3)) ∧ W.cell? ⟨T, 4, none⟩ = some (.bool (dB D 4)) ∧ W.cell? ⟨T, 5, none⟩ = some (.bool (dB D 5)) ∧ W.cell? ⟨T, 6, none⟩ = some (.bool (dB D 6)) ∧ W.cell? ⟨T, 7, none⟩ = some (.bool (dB D 7)) ∧ W.cell? ⟨T, 8, none⟩ = some (.bool (dB D 8)) ∧ W.cell? ⟨T, 9, none⟩ = some (.bool (dB D 9))))) (by kernel_rfl) ?_
      generalize wr.drew = wd at HI HBW ⊢
      refine tk_start [0, 1, 2, 3, 4, 5, 6, 7, 8, 9, 10, 11, 12, 13, 14, 15, 16] ?_
      iterate 17
        refine tk_one (v := ?_) (by first | exact hF | exact wideFn) (HS5.out _ HBW.out) rfl (by kernel_rfl) (by kernel_rfl) (by kernel_rfl) (by kernel_rfl) rfl ?_ (by first | exact fun _ _ _ h => h | exact fun _ _ _ h => hQ2 _ _ _ _ _ h) ?_
        rotate_left
        · intro W hSW
          simp only [glA, glB, glC]
          (try dsimp only at hSW)
          go_simp
          with_reducible rfl
        (try simp only [glA, glB, glC, Act.put, glD, glE, glF])
      refine tk_end ?_
      refine wpAnyJ_done (by kernel_rfl) ?_
      have hday : ∀ (m : Mom) x, (m.on x).day = x := fun m x => by unfold Mom.on; split <;> simp_all
      have HXT : Hid ((if brF r D yd ((⟨D, dy, de⟩ : Mom).on yd).de ya ≠ 0 then ((⟨D, dy, de⟩ : Mom).on yd, (k : Int), brF r D yd ((⟨D, dy, de⟩ : Mom).on yd).de ya) else folF r (((⟨D, dy, de⟩ : Mom).on yd).wi ya.toNat) (l.drop (k + 1)) (k + 1)) = F) := hide (by
        have h := HXS.out
        unfold folF at h
        rw [if_neg (by rw [HLA.out]; dsimp only; omega)] at h
        rw [on_d, hday] at h
        exact h)
      clear hday HXS
      obtain ⟨y0, -⟩ := (HS5.out _ HBW.out).1
      by_cases h3 : yd > dy
      · have HOM : Hid ((⟨D, dy, de⟩ : Mom).on yd = ⟨D, yd, 0⟩) := hide (by unfold Mom.on; dsimp only; rw [if_neg (by omega)])
        rw [HOM.out] at HXT
        clear HOM
        go_upto_region 9 with fail
        clear y0 h1 h2 h3
        obtain ⟨f, hf⟩ : ∃ f, brF r D yd 0 ya = f := ⟨_, rfl⟩
        have HB := hide (HBR.out D yd 0 ya)
        rw [hf] at HB
        have HRG : Hid (f = 0 → 0 ≤ ya ∧ ya < r.n) := hide fun h => br_range (hf.trans h)
        rw [hf] at HXT
        clear hf
        have hd1 := (Below.refl wd.heap.size wd).drew
        replace HI := hide (HI.out.ext hd1)
        replace HBW := hide (HBW.out.trans (hd1.mono HBW.out.size))
        clear hd1
        refine wp_region_J (fun W : World => ((W.cell? ⟨b, off + k * 2, none⟩ = some (.int .i64 yd) ∧ W.cell? ⟨b, off + k * 2 + 1, none⟩ = some (.int .i64 ya)) ∧ (W.cell? ⟨G, 0, none⟩ = some (.slice d.A n d.c) ∧ W.cell? ⟨G, 1, none⟩ = some (.int .i64 la) ∧ W.cell? ⟨G, 2, none⟩ = some (.int .i64 tl)) ∧ (W.cell? ⟨T, 0, none⟩ = some (.bool (dB D 0)) ∧ W.cell? ⟨T, 1, none⟩ = some (.bool (dB D 1)) ∧ W.cell? ⟨T, 2, none⟩ = some (.bool (dB D 2)) ∧ W.cell? ⟨T, 3, none⟩ = some (.bool (dB D 3)) ∧ W.cell? ⟨T, 4, none⟩ = some (.bool (dB D 4)) ∧ W.cell? ⟨T, 5, none⟩ = some (.bool (dB D 5)) ∧ W.cell? ⟨T, 6, none⟩ = some (.bool (dB D 6)) ∧ W.cell? ⟨T, 7, none⟩ = some (.bool (dB D 7)) ∧ W.cell? ⟨T, 8, none⟩ = some (.bool (dB D 8)) ∧ W.cell? ⟨T, 9, none⟩ = some (.bool (dB D 9))))) (by kernel_rfl) ?_
        generalize wd.drew = we at HI HBW ⊢
        refine tk_start [0, 1, 2, 3, 4, 5, 6, 7, 8] ?_
        iterate 9
          refine tk_one (v := ?_) (by first | exact hF | exact wideFn) (HS5.out _ HBW.out) rfl (by kernel_rfl) (by kernel_rfl) (by kernel_rfl) (by kernel_rfl) rfl ?_ (by first | exact fun _ _ _ h => h | exact fun _ _ _ h => hQ2 _ _ _ _ _ h) ?_
          rotate_left
          · intro W hSW
            simp only [glA, glB, glC]
            (try dsimp only at hSW)
            go_simp
            with_reducible rfl
          (try simp only [glA, glB, glC, Act.put, glD, glE, glF])
        refine tk_end ?_
        refine wpAnyJ_one 9 rfl (by kernel_rfl) (fun K hK => ?_)
        simp only [glA, glB, glC]
        go_simp
        refine ⟨trivial, rfl, ?_⟩
        refine (callsIn_wide.2 (HB.out _ (HRT.out _ HI.out.lo))).mono ?_
        rintro e wf ⟨rfl, hbf⟩
        have HBX := hide (HBW.out.trans (hbf.mono HBW.out.size))
        dsimp only
        refine hK.out _ _ (fun _ => HS5.out _ HBX.out) ?_
        clear hK K
        (try simp only [glA, glB, glC, Act.put, glD, glE, glF])
        replace HI := hide (HI.out.ext hbf)
        clear hbf HBW
        have HBW := HBX
        clear HBX
        refine wpAnyJ_take 10 (v := ?_) (by first | exact hF | exact wideFn) (HS5.out _ HBW.out) rfl (by kernel_rfl) (by kernel_rfl) (by kernel_rfl) (by kernel_rfl) rfl ?_ (by first | exact fun _ _ _ h => h | exact fun _ _ _ h => hQ2 _ _ _ _ _ h) ?_
        rotate_left
        · intro W hSW
          simp only [glA, glB, glC]
          (try dsimp only at hSW)
          go_simp
          with_reducible rfl
        (try simp only [glA, glB, glC, Act.put, glD, glE, glF])
        refine wpAnyJ_done (by kernel_rfl) ?_
        by_cases hf0 : f = 0
        · have hfb : (f != 0) = false := by rw [hf0]; rfl
          obtain ⟨y0, y1⟩ := (HS5.out _ HBW.out).1
          obtain ⟨a, ha⟩ : ∃ a : Nat, ya = a := ⟨ya.toNat, by have := HRG.out hf0; omega⟩
          have ha9 : a < 10 := by have := HRG.out hf0; have := HN10.out; omega
          have ha9' : (a : Int) < 10 := by omega
          have hxt := HXT.out
          rw [if_neg (by rw [hf0]; exact fun h => h rfl)] at hxt
          subst ha
          rw [Int.toNat_natCast] at hxt
          have HX2 := hide hxt
          clear hxt HXT HRG
          have q0 := dn_cell HI.out.kD ha9
          have q1 := HI.out.kD.frozen a
          have hde2 : IntKind.i64.wrap (0 + 1) = 0 + 1 := by rw [IntWalk.i64_in _ (by omega)]
          clear hf0
          have HI2 := hide (HI.out.put ha9)
          go_wp2_with fail
          go_roundw
          case rel => exact ⟨k + 1, _, yd, 0 + 1, by omega, by go_num, rfl, rfl, HX2, by omega, HI2⟩
          case measure => simp [intOf]; omega
        · have hfb : (f != 0) = true := by rw [bne_iff_ne]; exact hf0
          have HE : Hid (F = (⟨D, yd, 0⟩, (k : Int), f)) := hide (by
            rw [← HXT.out, if_pos hf0])
          clear hf0 HRG HXT
          obtain ⟨wz, hrz, hkz, hbz, -⟩ := store_blk (P := Tryd.prog) (ty := 37) (cells := #[.bool (dB D 0), .bool (dB D 1), .bool (dB D 2), .bool (dB D 3), .bool (dB D 4), .bool (dB D 5), .bool (dB D 6), .bool (dB D 7), .bool (dB D 8), .bool (dB D 9)]) HI.out.kR rfl (by kernel_rfl) (by simp [Value.oneCell'])
          have HLZ := hide (hbz _ _ HI.out.lo HI.out.hR)
          have HRZ := hide hrz
          have HKZ := hide hkz
          obtain ⟨x0, x1, x2, x3, x4, x5, x6, x7, x8, x9⟩ := bx10 HI.out.kD
          clear hrz hkz hbz
          go_wp2_with (refine wpList_store_run rfl 37 (.tmp 4) (.tmp 66) rfl rfl rfl HRZ.out ?_)
          (try simp only [Exit.inBlock, Exit.then])
          refine bodyPost_ret (results5 rfl rfl HKZ.out Tryd.underlying37 (by kernel_rfl)) rfl ?_
          exact ⟨by rw [HE.out]; rfl, HLZ.out⟩
      · have HOM : Hid ((⟨D, dy, de⟩ : Mom).on yd = ⟨D, dy, de⟩) := hide (by unfold Mom.on; dsimp only; rw [if_pos (by omega)])
        have hyd : yd = dy := by omega
        rw [HOM.out] at HXT
        clear HOM
        go_upto_region 9 with fail
        subst hyd
        clear y0 h1 h2 h3
        obtain ⟨f, hf⟩ : ∃ f, brF r D yd de ya = f := ⟨_, rfl⟩
        have HB := hide (HBR.out D yd de ya)
        rw [hf] at HB
        have HRG : Hid (f = 0 → 0 ≤ ya ∧ ya < r.n) := hide fun h => br_range (hf.trans h)
        rw [hf] at HXT
        clear hf
        have hd1 := (Below.refl wd.heap.size wd).drew
        replace HI := hide (HI.out.ext hd1)
        replace HBW := hide (HBW.out.trans (hd1.mono HBW.out.size))
        clear hd1
        refine wp_region_J (fun W : World => ((W.cell? ⟨b, off + k * 2, none⟩ = some (.int .i64 yd) ∧ W.cell? ⟨b, off + k * 2 + 1, none⟩ = some (.int .i64 ya)) ∧ (W.cell? ⟨G, 0, none⟩ = some (.slice d.A n d.c) ∧ W.cell? ⟨G, 1, none⟩ = some (.int .i64 la) ∧ W.cell? ⟨G, 2, none⟩ = some (.int .i64 tl)) ∧ (W.cell? ⟨T, 0, none⟩ = some (.bool (dB D 0)) ∧ W.cell? ⟨T, 1, none⟩ = some (.bool (dB D 1)) ∧ W.cell? ⟨T, 2, none⟩ = some (.bool (dB D 2)) ∧ W.cell? ⟨T, 3, none⟩ = some (.bool (dB D 3)) ∧ W.cell? ⟨T, 4, none⟩ = some (.bool (dB D 4)) ∧ W.cell? ⟨T, 5, none⟩ = some (.bool (dB D 5)) ∧ W.cell? ⟨T, 6, none⟩ = some (.bool (dB D 6)) ∧ W.cell? ⟨T, 7, none⟩ = some (.bool (dB D 7)) ∧ W.cell? ⟨T, 8, none⟩ = some (.bool (dB D 8)) ∧ W.cell? ⟨T, 9, none⟩ = some (.bool (dB D 9))))) (by kernel_rfl) ?_
        generalize wd.drew = we at HI HBW ⊢
        refine tk_start [0, 1, 2, 3, 4, 5, 6, 7, 8] ?_
        iterate 9
          refine tk_one (v := ?_) (by first | exact hF | exact wideFn) (HS5.out _ HBW.out) rfl (by kernel_rfl) (by kernel_rfl) (by kernel_rfl) (by kernel_rfl) rfl ?_ (by first | exact fun _ _ _ h => h | exact fun _ _ _ h => hQ2 _ _ _ _ _ h) ?_
          rotate_left
          · intro W hSW
            simp only [glA, glB, glC]
            (try dsimp only at hSW)
            go_simp
            with_reducible rfl
          (try simp only [glA, glB, glC, Act.put, glD, glE, glF])
        refine tk_end ?_
        refine wpAnyJ_one 9 rfl (by kernel_rfl) (fun K hK => ?_)
        simp only [glA, glB, glC]
        go_simp
        refine ⟨trivial, rfl, ?_⟩
        refine (callsIn_wide.2 (HB.out _ (HRT.out _ HI.out.lo))).mono ?_
        rintro e wf ⟨rfl, hbf⟩
        have HBX := hide (HBW.out.trans (hbf.mono HBW.out.size))
        dsimp only
        refine hK.out _ _ (fun _ => HS5.out _ HBX.out) ?_
        clear hK K
        (try simp only [glA, glB, glC, Act.put, glD, glE, glF])
        replace HI := hide (HI.out.ext hbf)
        clear hbf HBW
        have HBW := HBX
        clear HBX
        refine wpAnyJ_take 10 (v := ?_) (by first | exact hF | exact wideFn) (HS5.out _ HBW.out) rfl (by kernel_rfl) (by kernel_rfl) (by kernel_rfl) (by kernel_rfl) rfl ?_ (by first | exact fun _ _ _ h => h | exact fun _ _ _ h => hQ2 _ _ _ _ _ h) ?_
        rotate_left
        · intro W hSW
          simp only [glA, glB, glC]
          (try dsimp only at hSW)
          go_simp
          with_reducible rfl
        (try simp only [glA, glB, glC, Act.put, glD, glE, glF])
        refine wpAnyJ_done (by kernel_rfl) ?_
        by_cases hf0 : f = 0
        · have hfb : (f != 0) = false := by rw [hf0]; rfl
          obtain ⟨y0, y1⟩ := (HS5.out _ HBW.out).1
          obtain ⟨a, ha⟩ : ∃ a : Nat, ya = a := ⟨ya.toNat, by have := HRG.out hf0; omega⟩
          have ha9 : a < 10 := by have := HRG.out hf0; have := HN10.out; omega
          have ha9' : (a : Int) < 10 := by omega
          have hxt := HXT.out
          rw [if_neg (by rw [hf0]; exact fun h => h rfl)] at hxt
          subst ha
          rw [Int.toNat_natCast] at hxt
          have HX2 := hide hxt
          clear hxt HXT HRG
          have q0 := dn_cell HI.out.kD ha9
          have q1 := HI.out.kD.frozen a
          have hde2 : IntKind.i64.wrap (de + 1) = de + 1 := by rw [IntWalk.i64_in _ (by omega)]
          clear hf0
          have HI2 := hide (HI.out.put ha9)
          go_wp2_with fail
          go_roundw
          case rel => exact ⟨k + 1, _, yd, de + 1, by omega, by go_num, rfl, rfl, HX2, by omega, HI2⟩
          case measure => simp [intOf]; omega
        · have hfb : (f != 0) = true := by rw [bne_iff_ne]; exact hf0
          have HE : Hid (F = (⟨D, yd, de⟩, (k : Int), f)) := hide (by
            rw [← HXT.out, if_pos hf0])
          clear hf0 HRG HXT
          obtain ⟨wz, hrz, hkz, hbz, -⟩ := store_blk (P := Tryd.prog) (ty := 37) (cells := #[.bool (dB D 0), .bool (dB D 1), .bool (dB D 2), .bool (dB D 3), .bool (dB D 4), .bool (dB D 5), .bool (dB D 6), .bool (dB D 7), .bool (dB D 8), .bool (dB D 9)]) HI.out.kR rfl (by kernel_rfl) (by simp [Value.oneCell'])
          have HLZ := hide (hbz _ _ HI.out.lo HI.out.hR)
          have HRZ := hide hrz
          have HKZ := hide hkz
          obtain ⟨x0, x1, x2, x3, x4, x5, x6, x7, x8, x9⟩ := bx10 HI.out.kD
          clear hrz hkz hbz
          go_wp2_with (refine wpList_store_run rfl 37 (.tmp 4) (.tmp 66) rfl rfl rfl HRZ.out ?_)
          (try simp only [Exit.inBlock, Exit.then])
          refine bodyPost_ret (results5 rfl rfl HKZ.out Tryd.underlying37 (by kernel_rfl)) rfl ?_
          exact ⟨by rw [HE.out]; rfl, HLZ.out⟩
    · obtain rfl : nl = k := by omega
      have hnl : ¬ (nl : Int) < (nl : Int) := by omega
      have HE : Hid (F = (⟨D, dy, de⟩, -1, 0)) := hide (by
        rw [← HX.out, List.drop_eq_nil_of_le (by rw [HNL.out]; exact Nat.le_refl _)]; rfl)
      obtain ⟨wz, hrz, hkz, hbz, -⟩ := store_blk (P := Tryd.prog) (ty := 37) (cells := #[.bool (dB D 0), .bool (dB D 1), .bool (dB D 2), .bool (dB D 3), .bool (dB D 4), .bool (dB D 5), .bool (dB D 6), .bool (dB D 7), .bool (dB D 8), .bool (dB D 9)]) HI.out.kR rfl (by kernel_rfl) (by simp [Value.oneCell'])
      have HLZ := hide (hbz _ _ HI.out.lo HI.out.hR)
      have HRZ := hide hrz
      have HKZ := hide hkz
      obtain ⟨x0, x1, x2, x3, x4, x5, x6, x7, x8, x9⟩ := bx10 HI.out.kD
      clear hrz hkz hbz
      go_wp2_with (refine wpList_store_run rfl 37 (.tmp 4) (.tmp 79) rfl rfl rfl HRZ.out ?_)
      (try simp only [Exit.inBlock, Exit.then])
      refine bodyPost_ret (results5 rfl rfl HKZ.out Tryd.underlying37 (by kernel_rfl)) rfl ?_
      exact ⟨by rw [HE.out]; rfl, HLZ.out⟩
end Go.Proofs.YtcgdalabenflmaaDoor
/- Rite: the law RiteJudges, walked. -/
namespace Go.Proofs.YtcgdalabenflmaaDoor
open Go Go.RowKit Go.Shelf
set_option maxHeartbeats 8000000
set_option maxRecDepth 100000
/-- what is settled behind a course, if it is right -/
def seL2 (r : Rit) (l : List (Int × Int)) : List Int := if aftC r l = 0 then ofN (elS (seS r (folF r m0 l 0).1.d)) else []
def whB (r : Rit) (l : List (Int × Int)) : Bool := decide (aftC r l = 0) && coB r (folF r m0 l 0).1.d
theorem settled_all (d : Rad) (r : Rit) (A : Option Addr) (c : Nat) (l : List (Int × Int)) (w : World) (hd : RtR w d r) (hz : RtZ r) (hl : l.length ≤ 1000000) (hD : DsR w A l) (hT : TB w) :
    Calls Tryd.prog 31 #[.agg #[.slice d.A r.n d.c, .int .i64 r.last, .int .i64 r.toil], .slice A l.length c] w fun e w' => ∃ B bc, e = .returned (.tuple #[.slice B (seL2 r l).length bc, .int .i64 (aftC r l)]) ∧ LI w' w'.heap.size B (seL2 r l) ∧ Below w.heap.size w w' := by
  refine (settled_rite d r A c l w hd hz hl hD hT).mono ?_
  rintro e w2 ⟨⟨hc, rfl⟩ | ⟨hc, -, v, rfl, hv⟩, hb⟩
  · unfold seL2
    rw [if_neg hc]
    exact ⟨none, 0, rfl, ER.nil _ _ _ _ _, hb⟩
  · obtain ⟨B, bc, rfl⟩ := own_shape hv
    unfold seL2
    rw [if_pos hc, hc]
    exact ⟨B, bc, rfl, hv.li.2, hb⟩
theorem complete_all (d : Rad) (r : Rit) (A : Option Addr) (c : Nat) (l : List (Int × Int)) (w : World) (hd : RtR w d r) (hz : RtZ r) (hl : l.length ≤ 1000000) (hD : DsR w A l) :
    Calls Tryd.prog 32 #[.agg #[.slice d.A r.n d.c, .int .i64 r.last, .int .i64 r.toil], .slice A l.length c] w fun e w' => e = .returned (.tuple #[.bool (whB r l), .int .i64 (aftC r l)]) ∧ Below w.heap.size w w' := by
  refine (complete_rite d r A c l w hd hz hl hD).mono ?_
  rintro e w2 ⟨⟨hc, rfl⟩ | ⟨hc, -, rfl⟩, hb⟩
  · unfold whB
    rw [decide_eq_false hc]
    exact ⟨rfl, hb⟩
  · unfold whB
    rw [hc]
    exact ⟨rfl, hb⟩
/-- the acts below a number that a question says yes of -/
def fiL (p : Nat → Bool) (i : Nat) : List Int := ofN ((List.range i).filter p)
theorem fiL_succ (p : Nat → Bool) (i : Nat) : fiL p (i + 1) = if p i = true then fiL p i ++ [(i : Int)] else fiL p i := by
  unfold fiL ofN
  rw [List.range_succ, List.filter_append, List.map_append]
  by_cases h : p i = true
  · rw [if_pos h]; simp [h]
  · rw [if_neg h]; simp [h]
theorem fiL_len (p : Nat → Bool) (i : Nat) : (fiL p i).length ≤ i := by
  unfold fiL ofN
  rw [List.length_map]
  exact Nat.le_trans (List.length_filter_le _ _) (by simp)
theorem elS_mk (p : Nat → Bool) {n : Nat} (hn : n ≤ 16) : elS (mkS p n) = (List.range n).filter p := by
  unfold elS
  have e : (List.range 16) = List.range n ++ (List.range (16 - n)).map (n + ·) := by
    rw [← List.range_add, Nat.add_sub_cancel' hn]
  rw [e, List.filter_append]
  have h1 : (List.range n).filter (mkS p n).testBit = (List.range n).filter p := by
    apply List.filter_congr
    intro i hi
    rw [mkS_bit, decide_eq_true (List.mem_range.1 hi), Bool.true_and]
  have h2 : ((List.range (16 - n)).map (n + ·)).filter (mkS p n).testBit = [] := by
    rw [List.filter_eq_nil_iff]
    intro x hx
    obtain ⟨i, -, rfl⟩ := List.mem_map.1 hx
    rw [mkS_bit, decide_eq_false (show ¬ n + i < n by omega)]
    simp
  rw [h1, h2, List.append_nil]
theorem fiL_mk (p : Nat → Bool) {n : Nat} (hn : n ≤ 16) : fiL p n = ofN (elS (mkS p n)) := by
  unfold fiL
  rw [elS_mk p hn]
end Go.Proofs.YtcgdalabenflmaaDoor
/- Rite: what a question answers, said in one way. -/
namespace Go.Proofs.YtcgdalabenflmaaDoor
open Go Go.RowKit Go.Shelf
set_option maxHeartbeats 8000000
set_option maxRecDepth 100000
/-- what a question answers, if it is answered -/
def askL (r : Rit) (l : List (Int × Int)) (day : Int) (S : Nat) : List Int := if frC r l day = 0 then ofN (elS S) else []
theorem ask_all {w w' : World} {r : Rit} {l : List (Int × Int)} {day : Int} {S : Nat} {e : Ending} (h : AskPost w r l day S e w') :
    ∃ B bc, e = .returned (.tuple #[.slice B (askL r l day S).length bc, .int .i64 (frC r l day)]) ∧ LI w' w'.heap.size B (askL r l day S) ∧ Below w.heap.size w w' := by
  obtain ⟨⟨hc, rfl⟩ | ⟨hc, -, v, rfl, hv⟩, hb⟩ := h
  · unfold askL
    rw [if_neg hc]
    exact ⟨none, 0, rfl, ER.nil _ _ _ _ _, hb⟩
  · obtain ⟨B, bc, rfl⟩ := own_shape hv
    unfold askL
    rw [if_pos hc, hc]
    exact ⟨B, bc, rfl, hv.li.2, hb⟩
theorem on_dayA (m : Mom) (x : Int) : (m.on x).day = x := by
  unfold Mom.on
  split
  · rename_i h; exact h.symm
  · rfl
end Go.Proofs.YtcgdalabenflmaaDoor
/- How a law's statement follows from its walk; arguments opened as readings. -/
namespace Go.Proofs.YtcgdalabenflmaaDoor
open Go Go.RowKit Go.ChangeShapes Go.WideShapes Go.ChangeAt
set_option maxRecDepth 100000
theorem own_knob : ownKnob Tryd.prog.godebug = none := by kernel_rfl
theorem laidOut : laidOutB Tryd.prog = true := by kernel_rfl
section
variable {H : Type} {enc : TypeId × Value → H}
/-- arguments read behind the call as before, if below the heap's old size nothing has turned -/
theorem stay_all {W W' : World} (hb : Below W.heap.size W W') {sp : Nat → Bool} : ∀ {ts : List TypeId} {vs : List Value} {ds : List (DataW H)} {ps : List MemPlace},
    (∀ t ∈ ts, Tryd.prog.readableRec t = true ∧ t < Tryd.prog.types.size) → DataW.TrodAll enc Tryd.prog W 0 (fun _ => true) true ts vs ds ps → (∀ x ∈ ps, x.block < W.heap.size) → (∀ x ∈ ps, sp x.block = true) →
    DataW.TrodAll enc Tryd.prog W' 0 sp true ts vs ds ps
  | [], _, _, _, _, h, _, _ => by
    obtain ⟨rfl, rfl, rfl⟩ := trodAll_nil h
    exact trodAll_mk0
  | t :: ts, _, _, _, hr, h, hlt, hsp => by
    obtain ⟨v, vs, d, ds, p, q, rfl, rfl, rfl, h0, r0⟩ := trodAll_cons h
    have k := hr t (by simp)
    exact trodAll_cons_mk (WideElems.Trod_stays laidOut k.1 k.2 h0 (fun x hx => hb.same (hlt x (by simp [hx]))) (fun x hx => hsp x (by simp [hx])))
      (stay_all hb (fun t ht => hr t (by simp [ht])) r0 (fun x hx => hlt x (by simp [hx])) (fun x hx => hsp x (by simp [hx])))
/-- a law that returned true and turned nothing old -/
theorem law_post {f : Func} {s : ChangeSpec} {apart fresh handsOn again : Bool} {W W' : World} {args : Array Value} {ds gs : List (DataW H)} {before : List MemPlace}
    (hW : DataW.Whole enc Tryd.prog f.params.toList s.vars apart W args.toList ds gs before) (hb : Below W.heap.size W W')
    (hvs : s.vars = []) (hr1 : f.resultTypes = #[4])
    (hpar : f.params.toList.all (fun t => Tryd.prog.readableRec t && decide (t < Tryd.prog.types.size)) = true)
    (hfn : (s.fn H ds).results = [.lit (.bool true)] ∧ (s.fn H ds).args = ds ∧ (s.fn H ds).vars = []) :
    s.post enc Tryd.prog f apart fresh handsOn again W args (.bool true) W' := by
  have hW0 := hW
  have hlt : ∀ p ∈ before, p.block < W.heap.size := fun p hp => hW.lt p hp
  have hold : ∀ p ∈ before, (fun b => decide (b < W.heap.size)) p.block = true := fun p hp => by simpa using hlt p hp
  obtain ⟨p, q, hA, hV, rfl, hz, hn⟩ := hW
  rw [hvs] at hV
  obtain ⟨rfl, rfl⟩ := trodVars_none hV
  simp only [List.append_nil] at *
  have hk : ∀ t ∈ f.params.toList, Tryd.prog.readableRec t = true ∧ t < Tryd.prog.types.size := by
    intro t ht
    have := List.all_eq_true.1 hpar t ht
    simpa using this
  have hargs : ∀ sp : Nat → Bool, (∀ x ∈ p, sp x.block = true) → DataW.TrodAll enc Tryd.prog W' 0 sp true f.params.toList args.toList (s.fn H (ds ++ [])).args p := fun sp hsp => by
    rw [List.append_nil, hfn.2.1]; exact stay_all hb hk hA hlt hsp
  have hvars : ∀ sp : Nat → Bool, DataW.TrodVars enc Tryd.prog W' sp s.vars (s.fn H (ds ++ [])).vars [] := fun sp => by
    rw [hvs, List.append_nil, hfn.2.2]; exact rfl
  have hres : ∀ (b : Nat) (sp : Nat → Bool) (hd : Bool), DataW.TrodAll enc Tryd.prog W' b sp hd f.resultTypes.toList ((Value.bool true).resultList f.resultTypes.size) (s.fn H (ds ++ [])).results [] := fun b sp hd => by
    rw [List.append_nil, hfn.1, hr1]
    exact trodAll_cons_mk (shut_bool Tryd.underlying4 _) trodAll_mk0
  refine ⟨ds, [], p, [], p, [], hW0, hres _ _ _, hargs _ hold, hvars _, World.keptBut_mono (fun x hx => ⟨hx, Or.inr (by simpa using hx)⟩) (hb.frame (· ∈ p)), fun _ => ?_⟩
  refine ⟨ok_one hr1 rfl (okWide_bool_mk Tryd.underlying4 _), _, _, ([] ++ p) ++ [], ⟨[] ++ p, [], trodAll_append (hargs _ (fun _ _ => rfl)) (hres _ _ _), hvars (fun _ => true), rfl, ?_, ?_⟩, ?_⟩
  · intro b off hp
    have hin : MemPlace.cell b off ∈ p := by simpa using hp
    rw [hb.frozen (hlt _ hin)]
    exact hz b off hin
  · intro ha
    simpa using hn ha
  · intro x hx _
    simpa using hx
/-- a slice of structs of two cells: the readings of its elements -/
theorem open_pairs_c {W : World} {t e : TypeId} {f0 f1 : Field} {v : Value} {x : DataW H × List MemPlace} {fuel : Nat} (ht : Tryd.prog.underlying t = some (.slice e)) (he : Tryd.prog.underlying e = some (.struct #[f0, f1]))
    (ce : Tryd.prog.cellsOf e = 2) (o0 : f0.offset = 0) (o1 : f1.offset = 1) (c0 : Tryd.prog.cellsOf f0.type = 1) (c1 : Tryd.prog.cellsOf f1.type = 1)
    (h : DataW.trod enc Tryd.prog W 0 (fun _ => true) true fuel t [v] = some x) (hlt : ∀ y ∈ x.2, y.block < W.heap.size) :
    ∃ A n c V0 V1, v = .slice A n c ∧ n ≤ maxLen ∧ n ≤ c ∧ P2 W W.heap.size A n V0 V1 ∧ ∀ i, i < n → ∃ m x0 x1, DataW.trod enc Tryd.prog W 0 (fun _ => true) true m f0.type [V0 i] = some x0 ∧ DataW.trod enc Tryd.prog W 0 (fun _ => true) true m f1.type [V1 i] = some x1 ∧
      (∀ y ∈ x0.2, y.block < W.heap.size) ∧ (∀ y ∈ x1.2, y.block < W.heap.size) := by
  rcases Deep.open_slice_pairs ht he ce o0 o1 c0 c1 h with ⟨h1, -⟩ | ⟨a, len, cap, m, n, V0, V1, D0, D1, P0, P1, h1, hb, hl, hm, hmm, hx, hc⟩
  · injection h1 with h1
    subst h1
    exact ⟨none, 0, 0, fun _ => .nilIface, fun _ => .nilIface, rfl, by simp [maxLen], Nat.le_refl _, ER.nil _ _ _ _ _, fun i hi => absurd hi (by omega)⟩
  · injection h1 with h1
    subst h1
    simp only [if_true] at hmm
    subst hmm
    refine ⟨some a, len, m, V0, V1, rfl, by omega, hl, fun hn => ?_, fun i hi => ?_⟩
    · have h0 := (hc 0 (by omega)).1
      obtain ⟨b, off, spot⟩ := a
      have hsp : spot = none := by simpa [Addr.add] using World.cell?_spot h0
      subst hsp
      refine ⟨b, off, rfl, ?_, fun k i hk hi => ?_⟩
      · have hb1 := hlt (.cell b (off + 0)) (by
          rw [hx]
          exact List.mem_append_left _ (MemPlace.mem_row.2 ⟨0, by omega, rfl⟩))
        exact hb1
      · have hk2 := hc k (by omega)
        have q0 := hk2.1
        have q1 := hk2.2.1
        rw [add_lit'] at q0 q1
        rcases (by omega : i = 0 ∨ i = 1) with rfl | rfl
        · simpa using q0
        · simpa [Nat.add_assoc] using q1
    · have hi2 := hc i (by omega)
      refine ⟨n, _, _, hi2.2.2.1, hi2.2.2.2, fun y hy => hlt y ?_, fun y hy => hlt y ?_⟩
      · rw [hx]; exact List.mem_append_right _ (List.mem_flatMap.2 ⟨i, by simp; omega, List.mem_append_left _ hy⟩)
      · rw [hx]; exact List.mem_append_right _ (List.mem_flatMap.2 ⟨i, by simp; omega, List.mem_append_right _ hy⟩)
/-- a slice of ints -/
theorem open_ints_c {W : World} {t : TypeId} {v : Value} {x : DataW H × List MemPlace} {fuel : Nat} (ht : Tryd.prog.underlying t = some (.slice 3))
    (h : DataW.trod enc Tryd.prog W 0 (fun _ => true) true fuel t [v] = some x) (hlt : ∀ y ∈ x.2, y.block < W.heap.size) :
    ∃ A n c z, v = .slice A n c ∧ n ≤ maxLen ∧ n ≤ c ∧ IR W W.heap.size A n z ∧ ∀ i, i < n → -9223372036854775808 ≤ z i ∧ z i ≤ 9223372036854775807 := by
  rcases open_ints ht Tryd.underlying3 (by kernel_rfl) h with ⟨h1, -⟩ | ⟨a, len, cap, zs, h1, hb, hl, hm, hz, hx, hc, hwf⟩
  · injection h1 with h1
    subst h1
    exact ⟨none, 0, 0, fun _ => 0, rfl, by simp [maxLen], Nat.le_refl _, ER.nil _ _ _ _ _, fun i hi => absurd hi (by omega)⟩
  · injection h1 with h1
    subst h1
    simp only [if_true] at hz
    refine ⟨some a, len, cap, fun i => zs.getD i 0, rfl, by omega, hl, fun hn => ?_, fun i hi => ?_⟩
    · have h0 := hc 0 (by omega)
      obtain ⟨b, off, spot⟩ := a
      have hsp : spot = none := by simpa [Addr.add] using World.cell?_spot h0
      subst hsp
      refine ⟨b, off, rfl, ?_, fun k i hk hi => ?_⟩
      · have hb1 := hlt (.cell b (off + 0)) (by
          rw [hx]
          exact MemPlace.mem_row.2 ⟨0, by omega, rfl⟩)
        exact hb1
      · obtain rfl : i = 0 := by omega
        have := hc k (by omega)
        rw [add_lit'] at this
        simpa using this
    · have h1 : zs.getD i 0 ∈ zs := by
        rw [List.getD_eq_getElem?_getD, List.getElem?_eq_getElem (by omega)]
        exact List.getElem_mem _
      have := hwf _ h1
      simp only [Lit.wf, Bool.and_eq_true, decide_eq_true_eq] at this
      simpa [IntKind.min, IntKind.max, IntKind.signed, IntKind.bits] using this
theorem int_of_trod {W : World} {t : TypeId} {v : Value} {x : DataW H × List MemPlace} {fuel : Nat} (ht : Tryd.prog.underlying t = some (.int .i64)) (h : DataW.trod enc Tryd.prog W 0 (fun _ => true) true fuel t [v] = some x) :
    v = .int .i64 (intOf v) ∧ -9223372036854775808 ≤ intOf v ∧ intOf v ≤ 9223372036854775807 := by
  obtain ⟨z, hz, -, hw⟩ := DataW.trod_int ht h
  injection hz with hz
  subst hz
  simp only [Lit.wf, Bool.and_eq_true, decide_eq_true_eq] at hw
  exact ⟨rfl, by simpa [intOf, IntKind.min, IntKind.max, IntKind.signed, IntKind.bits] using hw⟩
theorem cells_slice {A : Option Addr} {n c : Nat} : (Value.slice A n c).cells.toList = [.slice A n c] := rfl
/-- a slice of structs of two ints -/
theorem open_pairs {r : Reach} {b0 : Nat} {W : World} {t e : TypeId} {f0 f1 : Field} {v : Value} {d : DataW H} {p : List MemPlace} (ht : Tryd.prog.underlying t = some (.slice e)) (he : Tryd.prog.underlying e = some (.struct #[f0, f1]))
    (ce : Tryd.prog.cellsOf e = 2) (o0 : f0.offset = 0) (o1 : f1.offset = 1) (c0 : Tryd.prog.cellsOf f0.type = 1) (c1 : Tryd.prog.cellsOf f1.type = 1)
    (k0 : Tryd.prog.underlying f0.type = some (.int .i64)) (k1 : Tryd.prog.underlying f1.type = some (.int .i64)) (hval : Value.okWide Tryd.prog W r b0 t v)
    (h : DataW.Trod enc Tryd.prog W 0 (fun _ => true) true t v d p) (hlt : ∀ x ∈ p, x.block < W.heap.size) :
    ∃ A n c x y, v = .slice A n c ∧ n ≤ maxLen ∧ n ≤ c ∧ PI W W.heap.size A n x y := by
  obtain ⟨fuel, h⟩ := h
  obtain ⟨A, n, c, rfl⟩ := okWide_slice ht hval
  rw [cells_slice] at h
  obtain ⟨A', n', c', V0, V1, h1, hn, hnc, hP, hV⟩ := open_pairs_c ht he ce o0 o1 c0 c1 h hlt
  injection h1 with h1 h2 h3
  subst h1 h2 h3
  refine ⟨A, n, c, fun i => intOf (V0 i), fun i => intOf (V1 i), rfl, hn, hnc, fun hn0 => ?_⟩
  obtain ⟨b, off, hA, hb, hc⟩ := hP hn0
  refine ⟨b, off, hA, hb, fun k i hk hi => ?_⟩
  obtain ⟨m, x0, x1, g0, g1, -, -⟩ := hV k hk
  rw [hc k i hk hi]
  rcases (by omega : i = 0 ∨ i = 1) with rfl | rfl
  · simpa using (int_of_trod k0 g0).1
  · simpa using (int_of_trod k1 g1).1
end
end Go.Proofs.YtcgdalabenflmaaDoor
/- Rite: a law's arguments opened: rites, lists of deeds, the library's table. -/
namespace Go.Proofs.YtcgdalabenflmaaDoor
open Go Go.RowKit Go.ChangeShapes Go.WideShapes Go.ChangeAt
section
variable {H : Type} {enc : TypeId × Value → H} {r : Reach} {b0 : Nat} {W : World} {v : Value} {d : DataW H} {p : List MemPlace}
set_option maxRecDepth 100000
/-- a slice of structs of one-cell fields -/
theorem open_cellsR {t e : TypeId} {fs : Array Field} {x : DataW H × List MemPlace} {fuel : Nat} (ht : Tryd.prog.underlying t = some (.slice e)) (he : Tryd.prog.underlying e = some (.struct fs)) (hone : Deep.oneCellFields Tryd.prog fs = true)
    (ce : Tryd.prog.cellsOf e = fs.size) (hpos : 0 < fs.size) (h : DataW.trod enc Tryd.prog W 0 (fun _ => true) true fuel t [v] = some x) (hlt : ∀ y ∈ x.2, y.block < W.heap.size) :
    ∃ A n c V, v = .slice A n c ∧ n ≤ maxLen ∧ n ≤ c ∧ ER W W.heap.size fs.size A n V ∧ ∀ i k f, i < n → fs[k]? = some f → ∃ m y, DataW.trod enc Tryd.prog W 0 (fun _ => true) true m f.type [V i k] = some y ∧ (∀ z ∈ y.2, z.block < W.heap.size) := by
  rcases Deep.open_slice ht h with ⟨h1, -⟩ | ⟨a, len, cap, m, n, D, Pl, h1, hb, hl, hm, hmm, hx, hc⟩
  · injection h1 with h1
    subst h1
    exact ⟨none, 0, 0, fun _ _ => .nilIface, rfl, by simp [maxLen], Nat.le_refl _, ER.nil _ _ _ _ _, fun i k f hi => absurd hi (by omega)⟩
  · injection h1 with h1
    subst h1
    simp only [if_true] at hmm
    subst hmm
    rw [ce] at hc hx
    obtain ⟨C, hC⟩ := Deep.choose_lt hc
    refine ⟨some a, len, m, fun i k => (C i).getD k undef, rfl, by omega, hl, fun hn => ?_, fun i k f hi hf => ?_⟩
    · obtain ⟨-, hl0, hc0⟩ := World.cells?_some (hC 0 (by omega)).1
      have h0 := hc0 0 hpos
      rw [List.getElem?_eq_getElem (by omega)] at h0
      obtain ⟨b, off, spot⟩ := a
      have hsp : spot = none := by simpa [Addr.add] using World.cell?_spot h0
      subst hsp
      refine ⟨b, off, rfl, ?_, fun k i hk hi => ?_⟩
      · have hb1 := hlt (.cell b (off + 0)) (by
          rw [hx]
          exact List.mem_append_left _ (MemPlace.mem_row.2 ⟨0, Nat.mul_pos (by omega) hpos, rfl⟩))
        exact hb1
      · obtain ⟨-, hl1, hc1⟩ := World.cells?_some (hC k (by omega)).1
        have h2 := hc1 i hi
        rw [Deep.add_add, add_lit', List.getElem?_eq_getElem (by omega)] at h2
        rw [show off + k * fs.size + i = off + (k * fs.size + i) by omega, h2]
        simp [List.getD, List.getElem?_eq_getElem (show i < (C k).length by omega)]
    · obtain ⟨-, hl1, -⟩ := World.cells?_some (hC i (by omega)).1
      obtain ⟨xs, m', -, hxy, -, hxl, hf2⟩ := DataW.trod_struct he (hC i (by omega)).2
      have hk : k < fs.size := (Array.getElem?_eq_some_iff.1 hf).1
      obtain ⟨ho, hc1⟩ := Deep.hone_of hone k f hf
      have g := hf2 k f hf
      rw [ho, hc1, Deep.take1_drop (C i) k undef (by omega), List.getElem?_eq_getElem (by omega)] at g
      refine ⟨m', _, g, fun z hz => hlt z ?_⟩
      rw [hx]
      simp only [Prod.mk.injEq] at hxy
      refine List.mem_append_right _ (List.mem_flatMap.2 ⟨i, by simp; omega, ?_⟩)
      rw [hxy.2]
      exact List.mem_flatMap.2 ⟨_, List.getElem_mem _, hz⟩
theorem arr3R {cs : Array Value} (h : cs.size = 3) : ∃ a b c, cs = #[a, b, c] := by
  rcases cs with ⟨l⟩
  match l, h with
  | [a, b, c], _ => exact ⟨a, b, c, rfl⟩
/-- the table of the library, from a row's list -/
theorem tb_laid {l : List (String × DataW Unit)} {T : DataW Unit} (h : laidMetH Tryd.prog l W) (hpl : (l.all fun x => x.2.handleName?.isNone) = true) (hm : ("math/bits.deBruijn32tab", T) ∈ l)
    (hT : T = Lib.tabData .u8 ((List.range 32).map fun j => ((Lib.deBruijn32tab.getD j 0 : Nat) : Int))) : TB W := by
  rw [MakeChecks.laidMetH_plain _ _ _ hpl] at h
  obtain ⟨g, t, cs, fuel, p, hg, hty, hvar, hd⟩ := Lib.laidMet.reads h hm
  obtain rfl := Option.some.inj ((show Tryd.prog.globalNamed "math/bits.deBruijn32tab" = some 0 by kernel_rfl).symm.trans hg)
  have ht2 : (Tryd.prog.globals[0]?).map (·.type) = some 135 := by kernel_rfl
  obtain rfl := Option.some.inj (ht2.symm.trans hty)
  rw [hT] at hd
  have hcs := Lib.cells_of_tab Tryd.underlying135 Tryd.underlying5 (by kernel_rfl) (by kernel_rfl) hd
  have key : ∀ j, j < 32 → W.cell? ⟨0, j, none⟩ = some (.int .u8 (Lib.deBruijn32tab.getD j 0 : Nat)) := fun j hj => by
    have := World.var?_cell hg hvar j
    rw [this, ← Array.getElem?_toList, hcs]
    simp [hj]
  exact ⟨World.block_lt_of_cell? W ⟨0, 0, none⟩ (key 0 (by omega)), key⟩
/-- a list of deeds -/
theorem open_deeds {x : DataW H × List MemPlace} {fuel : Nat} (h : DataW.trod enc Tryd.prog W 0 (fun _ => true) true fuel 25 [v] = some x) (hlt : ∀ y ∈ x.2, y.block < W.heap.size) :
    ∃ (A : Option Addr) (c : Nat) (l : List (Int × Int)), v = .slice A l.length c ∧ (l.length ≤ maxLen ∧ l.length ≤ c) ∧ DsR W A l ∧ ∀ t ∈ l, (-9223372036854775808 ≤ t.1 ∧ t.1 ≤ 9223372036854775807) ∧ -9223372036854775808 ≤ t.2 ∧ t.2 ≤ 9223372036854775807 := by
  obtain ⟨A, n, c, V, rfl, hn, hnc, hE, hV⟩ := open_cellsR Tryd.underlying25 Tryd.underlying60 (by kernel_rfl) (by kernel_rfl) (by decide) h hlt
  have k0 : ∀ k, k < n → V k 0 = .int .i64 (intOf (V k 0)) ∧ -9223372036854775808 ≤ intOf (V k 0) ∧ intOf (V k 0) ≤ 9223372036854775807 := fun k hk => by
    obtain ⟨m, y, g, -⟩ := hV k 0 _ hk rfl
    exact int_of_trod Tryd.underlying3 g
  have k1 : ∀ k, k < n → V k 1 = .int .i64 (intOf (V k 1)) ∧ -9223372036854775808 ≤ intOf (V k 1) ∧ intOf (V k 1) ≤ 9223372036854775807 := fun k hk => by
    obtain ⟨m, y, g, -⟩ := hV k 1 _ hk rfl
    exact int_of_trod Tryd.underlying3 g
  obtain ⟨f, hf⟩ : ∃ f : Nat → Int × Int, f = fun k => (intOf (V k 0), intOf (V k 1)) := ⟨_, rfl⟩
  have hl : ((List.range n).map f).length = n := by simp
  have hg : ∀ k, k < n → ((List.range n).map f).getD k (0, 0) = f k := fun k hk => by
    rw [List.getD_eq_getElem?_getD, List.getElem?_map, List.getElem?_range hk]; rfl
  refine ⟨A, c, (List.range n).map f, by rw [hl], by rw [hl]; exact ⟨hn, hnc⟩, ?_, fun t ht => by
    obtain ⟨k, hk, rfl⟩ := List.mem_map.1 ht
    rw [hf]
    exact ⟨(k0 k (List.mem_range.1 hk)).2, (k1 k (List.mem_range.1 hk)).2⟩⟩
  unfold DsR
  rw [hl]
  refine fun hn0 => ?_
  obtain ⟨b, off, hA, hb, hc⟩ := hE hn0
  refine ⟨b, off, hA, hb, fun k i hk hi => ?_⟩
  refine (hc k i hk hi).trans ?_
  show _ = some (dsV (((List.range n).map f).getD k (0, 0)) i)
  rw [hg k hk, hf]
  rcases (by omega : i = 0 ∨ i = 1) with rfl | rfl
  · rw [(k0 k hk).1]; rfl
  · rw [(k1 k hk).1]; rfl
/-- a list of acts -/
theorem open_acts {x : DataW H × List MemPlace} {fuel : Nat} (h : DataW.trod enc Tryd.prog W 0 (fun _ => true) true fuel 22 [v] = some x) (hlt : ∀ y ∈ x.2, y.block < W.heap.size) (last toil : Int) :
    ∃ (d : Rad) (l : List Rac), v = .slice d.A l.length d.c ∧ l.length ≤ maxLen ∧ RtR W d ⟨l, last, toil⟩ := by
  obtain ⟨A, n, c, V, rfl, hn, hnc, hE, hV⟩ := open_cellsR Tryd.underlying22 Tryd.underlying58 (by kernel_rfl) (by kernel_rfl) (by decide) h hlt
  have key : ∀ i, i < n → ∃ q : Option Addr × Nat × Option Addr × Nat × Rac, (∀ k, k < 7 → V i k = acV q.2.2.2.2 q.1 q.2.1 q.2.2.1 q.2.2.2.1 k) ∧ LI W W.heap.size q.1 q.2.2.2.2.nd ∧ LI W W.heap.size q.2.2.1 q.2.2.2.2.ins := fun i hi => by
    obtain ⟨m0, y0, g0, l0⟩ := hV i 0 _ hi rfl
    obtain ⟨m1, y1, g1, l1⟩ := hV i 1 _ hi rfl
    obtain ⟨m2, y2, g2, l2⟩ := hV i 2 _ hi rfl
    obtain ⟨m3, y3, g3, l3⟩ := hV i 3 _ hi rfl
    obtain ⟨m4, y4, g4, l4⟩ := hV i 4 _ hi rfl
    obtain ⟨m5, y5, g5, l5⟩ := hV i 5 _ hi rfl
    obtain ⟨m6, y6, g6, l6⟩ := hV i 6 _ hi rfl
    obtain ⟨s, hs, -, -⟩ := DataW.trod_string Tryd.underlying9 g0
    obtain ⟨bo, hbo, -⟩ := DataW.trod_bool Tryd.underlying4 g6
    obtain ⟨A1, n1, c1, z1, e1, -, -, r1, -⟩ := open_ints_c Tryd.underlying48 g1 l1
    obtain ⟨A2, n2, c2, z2, e2, -, -, r2, -⟩ := open_ints_c Tryd.underlying48 g2 l2
    have e3 := (int_of_trod Tryd.underlying3 g3).1
    have e4 := (int_of_trod Tryd.underlying3 g4).1
    have e5 := (int_of_trod Tryd.underlying3 g5).1
    injection hs with e0
    injection hbo with e6
    have li : ∀ (A : Option Addr) (n : Nat) (z : Nat → Int), IR W W.heap.size A n z → LI W W.heap.size A ((List.range n).map z) := fun A n z hz => by
      have hl : ((List.range n).map z).length = n := by simp
      unfold LI
      rw [hl]
      refine fun hn => ?_
      obtain ⟨b', off, hA, hb, hc⟩ := hz hn
      refine ⟨b', off, hA, hb, fun k i hk hi => ?_⟩
      rw [hc k i hk hi]
      have e : ((List.range n).map z).getD k 0 = z k := by
        rw [List.getD_eq_getElem?_getD, List.getElem?_map, List.getElem?_range hk]; rfl
      show some (Value.int .i64 (z k)) = some (Value.int .i64 (((List.range n).map z).getD k 0))
      rw [e]
    refine ⟨(A1, c1, A2, c2, ⟨s, (List.range n1).map z1, (List.range n2).map z2, intOf (V i 3), intOf (V i 4), intOf (V i 5), bo⟩), fun k hk => ?_, li _ _ _ r1, li _ _ _ r2⟩
    have hl1 : ((List.range n1).map z1).length = n1 := by simp
    have hl2 : ((List.range n2).map z2).length = n2 := by simp
    rcases (by omega : k = 0 ∨ k = 1 ∨ k = 2 ∨ k = 3 ∨ k = 4 ∨ k = 5 ∨ k = 6) with rfl | rfl | rfl | rfl | rfl | rfl | rfl
    · exact e0
    · rw [e1]; show Value.slice A1 n1 c1 = Value.slice A1 ((List.range n1).map z1).length c1; rw [hl1]
    · rw [e2]; show Value.slice A2 n2 c2 = Value.slice A2 ((List.range n2).map z2).length c2; rw [hl2]
    · exact e3
    · exact e4
    · exact e5
    · exact e6
  haveI : Inhabited Rac := ⟨ra0⟩
  obtain ⟨q, hq⟩ := Deep.choose_lt key
  obtain ⟨f, hf⟩ : ∃ f : Nat → Rac, f = fun k => (q k).2.2.2.2 := ⟨_, rfl⟩
  have hl : ((List.range n).map f).length = n := by simp
  have hg : ∀ k, k < n → (⟨(List.range n).map f, last, toil⟩ : Rit).ac k = f k := fun k hk => by
    unfold Rit.ac
    show ((List.range n).map f).getD k ra0 = f k
    rw [List.getD_eq_getElem?_getD, List.getElem?_map, List.getElem?_range hk]; rfl
  have hn2 : (⟨(List.range n).map f, last, toil⟩ : Rit).n = n := hl
  refine ⟨⟨A, c, fun k => (q k).1, fun k => (q k).2.1, fun k => (q k).2.2.1, fun k => (q k).2.2.2.1⟩, (List.range n).map f, by rw [hl], by rw [hl]; exact hn, ⟨?_, fun k hk => ?_, fun k hk => ?_⟩⟩
  · rw [hn2]
    refine fun hn0 => ?_
    obtain ⟨b, off, hA, hb, hc⟩ := hE hn0
    refine ⟨b, off, hA, hb, fun k i hk hi => ?_⟩
    refine (hc k i hk hi).trans ?_
    show _ = some (acV (Rit.ac _ k) (q k).1 (q k).2.1 (q k).2.2.1 (q k).2.2.2.1 i)
    rw [hg k hk, hf, (hq k hk).1 i hi]
  · rw [hn2] at hk
    rw [hg k hk, hf]
    exact (hq k hk).2.1
  · rw [hn2] at hk
    rw [hg k hk, hf]
    exact (hq k hk).2.2
/-- a rite -/
theorem open_riteV (hval : Value.okWide Tryd.prog W r b0 24 v) (h : DataW.Trod enc Tryd.prog W 0 (fun _ => true) true 24 v d p) (hlt : ∀ x ∈ p, x.block < W.heap.size) :
    ∃ (dd : Rad) (s : Rit), v = .agg #[.slice dd.A s.n dd.c, .int .i64 s.last, .int .i64 s.toil] ∧ s.n ≤ maxLen ∧ RtR W dd s ∧ (-9223372036854775808 ≤ s.last ∧ s.last ≤ 9223372036854775807) ∧ -9223372036854775808 ≤ s.toil ∧ s.toil ≤ 9223372036854775807 := by
  obtain ⟨cs, rfl, hsz⟩ := okWide_struct Tryd.underlying24 hval
  obtain ⟨a, b, c, rfl⟩ : ∃ a b c, cs = #[a, b, c] := by
    have hsz := hsz.trans (show _ = 3 by kernel_rfl)
    rcases cs with ⟨l⟩
    match l, hsz with
    | [a, b, c], _ => exact ⟨a, b, c, rfl⟩
  obtain ⟨fuel, h⟩ := h
  have h' : DataW.trod enc Tryd.prog W 0 (fun _ => true) true fuel 24 [a, b, c] = some (d, p) := h
  obtain ⟨xs, m, -, hxy, -, hxl, hf⟩ := DataW.trod_struct Tryd.underlying24 h'
  have g0 := hf 0 _ rfl
  have g1 := hf 1 _ rfl
  have g2 := hf 2 _ rfl
  rw [List.getElem?_eq_getElem (by rw [hxl]; decide)] at g0 g1 g2
  have k0 : DataW.trod enc Tryd.prog W 0 (fun _ => true) true m 22 [a] = _ := g0
  have k1 : DataW.trod enc Tryd.prog W 0 (fun _ => true) true m 3 [b] = _ := g1
  have k2 : DataW.trod enc Tryd.prog W 0 (fun _ => true) true m 3 [c] = _ := g2
  obtain ⟨e1, b1⟩ := int_of_trod Tryd.underlying3 k1
  obtain ⟨e2, b2⟩ := int_of_trod Tryd.underlying3 k2
  simp only [Prod.mk.injEq] at hxy
  obtain ⟨dd, l, e0, l0, r0⟩ := open_acts k0 (fun y hy => hlt y (by
    rw [hxy.2]
    exact List.mem_flatMap.2 ⟨_, List.getElem_mem _, hy⟩)) (intOf b) (intOf c)
  refine ⟨dd, ⟨l, intOf b, intOf c⟩, ?_, l0, r0, b1, b2⟩
  show _ = Value.agg #[.slice dd.A l.length dd.c, .int .i64 (intOf b), .int .i64 (intOf c)]
  rw [← e0, ← e1, ← e2]
theorem open_deedsV (hval : Value.okWide Tryd.prog W r b0 25 v) (h : DataW.Trod enc Tryd.prog W 0 (fun _ => true) true 25 v d p) (hlt : ∀ x ∈ p, x.block < W.heap.size) :
    ∃ (A : Option Addr) (c : Nat) (l : List (Int × Int)), v = .slice A l.length c ∧ (l.length ≤ maxLen ∧ l.length ≤ c) ∧ DsR W A l ∧ ∀ t ∈ l, (-9223372036854775808 ≤ t.1 ∧ t.1 ≤ 9223372036854775807) ∧ -9223372036854775808 ≤ t.2 ∧ t.2 ≤ 9223372036854775807 := by
  obtain ⟨fuel, h⟩ := h
  obtain ⟨A, n, c, rfl⟩ := okWide_slice Tryd.underlying25 hval
  rw [cells_slice] at h
  exact open_deeds h hlt
theorem open_intV (hval : Value.okWide Tryd.prog W r b0 3 v) (h : DataW.Trod enc Tryd.prog W 0 (fun _ => true) true 3 v d p) : ∃ x, v = .int .i64 x ∧ -9223372036854775808 ≤ x ∧ x ≤ 9223372036854775807 := by
  obtain ⟨z, rfl, rfl, rfl, -⟩ := open_int Tryd.underlying3 hval h
  obtain ⟨fuel, h⟩ := h
  have e := int_of_trod Tryd.underlying3 h
  exact ⟨z, rfl, e.2⟩
end
end Go.Proofs.YtcgdalabenflmaaDoor
