/- Rite: the law RiteRepairs: the row and the tied card. -/
import Derived.Test.YtcgdalabenflmaaDoorOpensH
import Derived.Test.YtcgdalabenflmaaDoorCards
import Derived.Test.YtcgdalabenflmaaDoorTie
import Derived.LaidMore
import Derived.Lay
import Derived.SevenTiedAt
import Derived.Stop.Joined
set_option linter.unusedSimpArgs false
set_option linter.unusedVariables false
set_option linter.unnecessarySimpa false
/- Rite: the law RiteRepairs, walked. -/
namespace Go.Proofs.YtcgdalabenflmaaDoor
open Go Go.RowKit Go.Shelf
set_option maxHeartbeats 16000000
set_option maxRecDepth 100000
/-- the last day so far from which on a rite can be completed -/
def LtQ (r : Rit) (m : Mom) (k : Nat) (lv : Int) : Prop := (lv = -1 ∧ ∀ y : Nat, m.day ≤ y → y < k → ¬ fwN r (m.on y) < 11) ∨ (0 ≤ lv ∧ m.day ≤ lv ∧ lv < k ∧ fwN r (m.on lv) < 11 ∧ ∀ y : Nat, lv < y → y < k → ¬ fwN r (m.on y) < 11)
theorem LtQ.init {r : Rit} {m : Mom} {k : Nat} (h : m.day = k) : LtQ r m k (-1) := .inl ⟨rfl, fun y h0 h1 => absurd h0 (by omega)⟩
theorem LtQ.yes {r : Rit} {m : Mom} {k : Nat} (h0 : m.day ≤ k) (h : fwN r (m.on k) < 11) : LtQ r m (k + 1) k := .inr ⟨by omega, h0, by omega, h, fun y h0 h1 => absurd h0 (by omega)⟩
theorem LtQ.no {r : Rit} {m : Mom} {k : Nat} {lv : Int} (h : ¬ fwN r (m.on k) < 11) (hq : LtQ r m k lv) : LtQ r m (k + 1) lv := by
  rcases hq with ⟨h1, h2⟩ | ⟨h0, h1, h2, h3, h4⟩
  · refine .inl ⟨h1, fun y ha hb => ?_⟩
    rcases (by omega : y = k ∨ y < k) with rfl | h5
    · exact h
    · exact h2 y ha h5
  · refine .inr ⟨h0, h1, by omega, h3, fun y ha hb => ?_⟩
    rcases (by omega : y = k ∨ y < k) with rfl | h5
    · exact h
    · exact h4 y ha h5
theorem on_of {m : Mom} {D : Nat} {dy de : Int} (h1 : m.d = D) (h2 : m.day = dy) (h3 : m.de = de) (x : Int) : m.on x = ⟨D, x, if x = dy then de else 0⟩ := by
  subst h1 h2 h3
  unfold Mom.on
  split
  · rename_i h; subst h; rfl
  · rfl
theorem fol_lt {r : Rit} : ∀ (l : List (Int × Int)) (m : Mom) (i : Nat), m.d < 2 ^ r.n → (folF r m l i).1.d < 2 ^ r.n
  | [], _, _, h => h
  | x :: l, m, i, h => by
    unfold folF
    split
    · exact h
    · split
      · rw [on_d]; exact h
      · rename_i hb
        have hb := Classical.not_not.1 hb
        have h2 := br_range hb
        refine fol_lt l _ _ ?_
        show (m.on x.1).d ||| 2 ^ x.2.toNat < _
        rw [on_d]
        exact Nat.or_lt_two_pow h (Nat.pow_lt_pow_right (by decide) (by omega))
theorem repairs_any (d : Rad) (r : Rit) (A : Option Addr) (c : Nat) (l : List (Int × Int)) (day : Int) (w : World) (hd : RtR w d r) (hD : DsR w A l) (hT : TB w) :
    Calls Tryd.prog 3 #[.agg #[.slice d.A r.n d.c, .int .i64 r.last, .int .i64 r.toil], .slice A l.length c, .int .i64 day] w fun e w' => e = .returned (.bool true) ∧ Below w.heap.size w w' := by
  have HT := hide hT
  have HB1 : Hid (Below w.heap.size w (w.alloc (.cells #[.slice d.A r.n d.c, .int .i64 r.last, .int .i64 r.toil] 24))) := hide ((Below.refl _ _).alloc (Nat.le_refl _) _)
  obtain ⟨G, hG⟩ : ∃ x, w.heap.size = x := ⟨_, rfl⟩
  have HS : Hid (LwS w (w.alloc (.cells #[.slice d.A r.n d.c, .int .i64 r.last, .int .i64 r.toil] 24)) G d r A l) := hide ⟨HB1.out, by rw [← hG]; exact Blk.new w _ _, hd.ext HB1.out, hD.ext HB1.out⟩
  have HLO1 := hide (fun W (h : RtR W d r) => long_any d r A c l W h)
  have HKN := hide (fun W (h : Below w.heap.size w W) => known_any W (hT.ext h))
  have HCP := hide (fun (hz : RtZ r) W (h : RtR W d r) => copied_any d r W h hz)
  have HDE := hide (fun (hl : l.length ≤ 1000000) W (h : DsR W A l) => deeds_any A c l W h hl)
  have HRP := hide (fun (hz : RtZ r) (hl : l.length ≤ 1000000) d' A' c' W (h : RtR W d' r) (h2 : DsR W A' l) (h3 : TB W) => (repair_rite d' r A' c' l day W h hz hl h2 h3).mono fun _ _ => rpr_all)
  have HLA := hide (fun (hz : RtZ r) (hl : l.length ≤ 1000000) d' A' c' W (h : RtR W d' r) (h2 : DsR W A' l) (h3 : TB W) => (latest_rite d' r A' c' l W h hz hl h2 h3).mono fun _ _ => lat2_all)
  have HVA := hide (fun (hz : RtZ r) W (h : RtR W d r) => valid_any d r W h hz)
  have HFW := hide (fun (hr : RiOk r) (hz : RtZ r) (hl : l.length ≤ 1000000) W (h : RtR W d r) (h2 : DsR W A l) => refFollow_any d r A c l W h hr hz h2 hl)
  unfold CpPost at HCP
  obtain ⟨nl, hnl⟩ : ∃ n, l.length = n := ⟨_, rfl⟩
  have HNL := hide hnl
  obtain ⟨ec, hec⟩ : ∃ x, rprC r l day = x := ⟨_, rfl⟩
  obtain ⟨LM, hLM⟩ : ∃ x, rprL r l day = x := ⟨_, rfl⟩
  obtain ⟨nM, hnM⟩ : ∃ x, LM.length = x := ⟨_, rfl⟩
  obtain ⟨vb, hvb⟩ : ∃ x, riB r = x := ⟨_, rfl⟩
  rw [hec, hLM, hnM] at HRP
  rw [hvb] at HVA
  have HEC := hide hec
  have HLM0 := hide hLM
  have HNM := hide hnM
  have HVB := hide hvb
  rw [hnl] at HLO1 HDE HRP HLA HFW ⊢
  clear hd hD hT HB1 hnl hec hLM hnM hvb
  go_enter Tryd.func3, Tryd.ntmps3
  go_upto_region 1 with fail
  (try rw [hG])
  clear hG
  generalize w.alloc (.cells #[.slice d.A r.n d.c, .int .i64 r.last, .int .i64 r.toil] 24) = w1 at HS ⊢
  obtain ⟨g9, g0, g1, g2, -⟩ := blk3 HS.out.kG
  go_wp2_with fail
  refine (HLO1.out w1 HS.out.rt).mono ?_
  rintro e w2 ⟨rfl, hb2⟩
  replace HS := hide (HS.out.ext hb2)
  (try replace HLM := hide (HLM.out.ext hb2))
  (try replace KD := hide (KD.out.ext hb2))
  (try replace KT := hide (KT.out.ext hb2))
  (try replace HTB := hide (HTB.out.ext hb2))
  clear g9 g0 g1 g2 hb2 HLO1
  rcases hlo : loF r l with _ | _
  rotate_left
  · clear hlo
    go_wp2_with fail
    refine (HKN.out w2 HS.out.lo).mono ?_
    rintro e wk ⟨rfl, hbk⟩
    replace HS := hide (HS.out.ext hbk)
    (try replace HLM := hide (HLM.out.ext hbk))
    (try replace KD := hide (KD.out.ext hbk))
    (try replace KT := hide (KT.out.ext hbk))
    (try replace HTB := hide (HTB.out.ext hbk))
    clear hbk
    go_wp2_with fail
    go_ret
    exact ⟨rfl, HS.out.lo⟩
  obtain ⟨hz, hl20⟩ := lo_z hlo
  rw [HNL.out] at hl20
  have hlm : nl ≤ 1000000 := by omega
  have HZ := hide hz
  replace HCP := hide (HCP.out hz)
  replace HDE := hide (HDE.out hlm)
  replace HRP := hide (HRP.out hz hlm)
  replace HLA := hide (HLA.out hz hlm)
  replace HVA := hide (HVA.out hz)
  clear hlo hz
  obtain ⟨g9, g0, g1, g2, -⟩ := blk3 HS.out.kG
  go_wp2_with fail
  refine (HCP.out w2 HS.out.rt).mono ?_
  rintro e wpa ⟨dpa, rfl, hrp, hbp⟩
  have RPa := hide hrp
  replace HS := hide (HS.out.ext hbp)
  (try replace HLM := hide (HLM.out.ext hbp))
  (try replace KD := hide (KD.out.ext hbp))
  (try replace KT := hide (KT.out.ext hbp))
  (try replace HTB := hide (HTB.out.ext hbp))
  clear hrp hbp g9 g0 g1 g2
  go_wp2_with fail
  refine (HDE.out wpa HS.out.ds).mono ?_
  rintro e wqa ⟨Aqa, cqa, rfl, hoq, hbq⟩
  have DQa := hide hoq.dsr.2
  replace RPa := hide (RPa.out.ext hbq)
  replace HS := hide (HS.out.ext hbq)
  (try replace HLM := hide (HLM.out.ext hbq))
  (try replace KD := hide (KD.out.ext hbq))
  (try replace KT := hide (KT.out.ext hbq))
  (try replace HTB := hide (HTB.out.ext hbq))
  clear hoq hbq
  go_wp2_with fail
  refine (HRP.out dpa Aqa cqa wqa RPa.out DQa.out (HT.out.ext HS.out.lo)).mono ?_
  rintro e w4 ⟨AM, cM, rfl, ⟨hm, hcm⟩, hb4⟩
  replace HS := hide (HS.out.ext hb4)
  (try replace HLM := hide (HLM.out.ext hb4))
  (try replace KD := hide (KD.out.ext hb4))
  (try replace KT := hide (KT.out.ext hb4))
  (try replace HTB := hide (HTB.out.ext hb4))
  have HLM := hide hm
  clear hm hb4 HRP RPa DQa hcm
  obtain ⟨g9, g0, g1, g2, -⟩ := blk3 HS.out.kG
  go_wp2_with fail
  refine (HCP.out w4 HS.out.rt).mono ?_
  rintro e wpb ⟨dpb, rfl, hrp, hbp⟩
  have RPb := hide hrp
  replace HS := hide (HS.out.ext hbp)
  (try replace HLM := hide (HLM.out.ext hbp))
  (try replace KD := hide (KD.out.ext hbp))
  (try replace KT := hide (KT.out.ext hbp))
  (try replace HTB := hide (HTB.out.ext hbp))
  clear hrp hbp g9 g0 g1 g2
  go_wp2_with fail
  refine (HDE.out wpb HS.out.ds).mono ?_
  rintro e wqb ⟨Aqb, cqb, rfl, hoq, hbq⟩
  have DQb := hide hoq.dsr.2
  replace RPb := hide (RPb.out.ext hbq)
  replace HS := hide (HS.out.ext hbq)
  (try replace HLM := hide (HLM.out.ext hbq))
  (try replace KD := hide (KD.out.ext hbq))
  (try replace KT := hide (KT.out.ext hbq))
  (try replace HTB := hide (HTB.out.ext hbq))
  clear hoq hbq
  go_wp2_with fail
  refine (HLA.out dpb Aqb cqb wqb RPb.out DQb.out (HT.out.ext HS.out.lo)).mono ?_
  rintro e w6 ⟨x, g, rfl, hx, hb6⟩
  replace HS := hide (HS.out.ext hb6)
  (try replace HLM := hide (HLM.out.ext hb6))
  (try replace KD := hide (KD.out.ext hb6))
  (try replace KT := hide (KT.out.ext hb6))
  (try replace HTB := hide (HTB.out.ext hb6))
  have HX := hide hx
  clear hx hb6 HLA RPb DQb HCP HDE
  obtain ⟨g9, g0, g1, g2, -⟩ := blk3 HS.out.kG
  go_wp2_with fail
  refine (HVA.out w6 HS.out.rt).mono ?_
  rintro e w7 ⟨rfl, hb7⟩
  replace HS := hide (HS.out.ext hb7)
  (try replace HLM := hide (HLM.out.ext hb7))
  (try replace KD := hide (KD.out.ext hb7))
  (try replace KT := hide (KT.out.ext hb7))
  (try replace HTB := hide (HTB.out.ext hb7))
  clear hb7 HVA g9 g0 g1 g2
  cases vb with
  | false =>
    have ha : aftC r l = 2 := by unfold aftC; rw [HVB.out]; rfl
    have hf : frC r l day = 2 := by unfold frC; rw [ha]; rfl
    have e1 : ec = 2 := by rw [← HEC.out]; unfold rprC; rw [hf]; rfl
    have e2 : nM = 0 := by rw [← HNM.out, ← HLM0.out]; unfold rprL; rw [HEC.out, e1]; rfl
    obtain ⟨e3, e4⟩ := HX.out.1 (by rw [ha]; decide)
    rw [ha] at e4
    subst e1 e2 e3 e4
    clear ha hf
    go_wp2_with fail
    refine (HKN.out w7 HS.out.lo).mono ?_
    rintro e wk ⟨rfl, hbk⟩
    replace HS := hide (HS.out.ext hbk)
    (try replace HLM := hide (HLM.out.ext hbk))
    (try replace KD := hide (KD.out.ext hbk))
    (try replace KT := hide (KT.out.ext hbk))
    (try replace HTB := hide (HTB.out.ext hbk))
    clear hbk
    go_wp2_with fail
    go_ret
    exact ⟨rfl, HS.out.lo⟩
  | true =>
    have HRO := hide (riB_ok HVB.out)
    have hn10 := HRO.out.n10
    obtain ⟨D, hDD⟩ : ∃ x, (folF r m0 l 0).1.d = x := ⟨_, rfl⟩
    obtain ⟨dy, hdy⟩ : ∃ x : Nat, (folF r m0 l 0).1.day = x := ⟨(folF r m0 l 0).1.day.toNat, by have := (fol_ok HRO.out l m0 0 (m0_ok HRO.out)).d0; omega⟩
    obtain ⟨de, hde⟩ : ∃ x : Nat, (folF r m0 l 0).1.de = x := ⟨(folF r m0 l 0).1.de.toNat, by have := (fol_ok HRO.out l m0 0 (m0_ok HRO.out)).e0; omega⟩
    obtain ⟨ru, hru⟩ : ∃ x, (folF r m0 l 0).2.2 = x := ⟨_, rfl⟩
    obtain ⟨at_, hat⟩ : ∃ x, (folF r m0 l 0).2.1 = x := ⟨_, rfl⟩
    have ha : aftC r l = if ru = 0 then 0 else 9 := by unfold aftC; rw [HVB.out, hru]; rfl
    have HFX := hide (HFW.out HRO.out HZ.out hlm)
    rw [hDD, hdy, hde, hru, hat] at HFX
    have HMO := hide (And.intro hDD (And.intro hdy hde))
    have HRU := hide hru
    have HA := hide ha
    clear hDD hdy hde hru hat ha HFW
    obtain ⟨g9, g0, g1, g2, -⟩ := blk3 HS.out.kG
    go_wp2_with fail
    refine (HFX.out w7 HS.out.rt HS.out.ds).mono ?_
    rintro e wF ⟨rfl, hbF⟩
    replace HS := hide (HS.out.ext hbF)
    (try replace HLM := hide (HLM.out.ext hbF))
    (try replace KD := hide (KD.out.ext hbF))
    (try replace KT := hide (KT.out.ext hbF))
    (try replace HTB := hide (HTB.out.ext hbF))
    clear hbF HFX g9 g0 g1 g2
    have hba : Below wF.heap.size wF (wF.alloc (.cells #[.bool false, .bool false, .bool false, .bool false, .bool false, .bool false, .bool false, .bool false, .bool false, .bool false] 37)) := (Below.refl _ _).alloc (Nat.le_refl _) _
    obtain ⟨wS, hrun, hKS, hBS, -⟩ := store_blk (P := Tryd.prog) (ty := 37) (cells := #[.bool (dB D 0), .bool (dB D 1), .bool (dB D 2), .bool (dB D 3), .bool (dB D 4), .bool (dB D 5), .bool (dB D 6), .bool (dB D 7), .bool (dB D 8), .bool (dB D 9)]) (Blk.new wF 37 #[.bool false, .bool false, .bool false, .bool false, .bool false, .bool false, .bool false, .bool false, .bool false, .bool false]) rfl (by kernel_rfl) (by simp [Value.oneCell'])
    have hb5 := hBS _ _ hba (Nat.le_refl _)
    have HRUN := hide hrun
    replace HS := hide (HS.out.ext hb5)
    (try replace HLM := hide (HLM.out.ext hb5))
    (try replace KD := hide (KD.out.ext hb5))
    (try replace KT := hide (KT.out.ext hb5))
    (try replace HTB := hide (HTB.out.ext hb5))
    have KD := hide hKS
    obtain ⟨E, hE⟩ : ∃ x, wF.heap.size = x := ⟨_, rfl⟩
    rw [hE] at KD HRUN
    clear hba hrun hKS hBS hb5
    by_cases hru0 : ru = 0
    rotate_left
    · have ha := HA.out
      rw [if_neg hru0] at ha
      have hf : frC r l day = 9 := by unfold frC; rw [ha]; rfl
      have e1 : ec = 9 := by rw [← HEC.out]; unfold rprC; rw [hf]; rfl
      have e2 : nM = 0 := by rw [← HNM.out, ← HLM0.out]; unfold rprL; rw [HEC.out, e1]; rfl
      obtain ⟨e3, e4⟩ := HX.out.1 (by rw [ha]; decide)
      rw [ha] at e4
      subst e1 e2 e3 e4
      have hr2 : (ru != 0) = true := by rw [bne_iff_ne]; exact hru0
      clear ha hf
      go_wp2_with (refine wpList_store_run rfl 37 (.tmp 11) (.tmp 71) rfl rfl rfl HRUN.out ?_)
      refine (HKN.out wS HS.out.lo).mono ?_
      rintro e wk ⟨rfl, hbk⟩
      replace HS := hide (HS.out.ext hbk)
      (try replace HLM := hide (HLM.out.ext hbk))
      (try replace KD := hide (KD.out.ext hbk))
      (try replace KT := hide (KT.out.ext hbk))
      (try replace HTB := hide (HTB.out.ext hbk))
      clear hbk
      go_wp2_with fail
      go_ret
      exact ⟨rfl, HS.out.lo⟩
    have ha : aftC r l = 0 := by rw [HA.out, if_pos hru0]
    have HX2 := hide (HX.out.2 ha)
    have HA0 := hide ha
    subst hru0
    clear HX HA ha
    have hmo := fol_ok HRO.out l m0 0 (m0_ok HRO.out)
    have hD16 : D < 2 ^ r.n := by rw [← HMO.out.1]; exact fol_lt l m0 0 (Nat.two_pow_pos _)
    have HD16 := hide hD16
    obtain ⟨n, hn⟩ : ∃ x, r.n = x := ⟨_, rfl⟩
    obtain ⟨la, hla⟩ : ∃ x : Nat, r.last = x := ⟨r.last.toNat, by have := HRO.out.l0; omega⟩
    obtain ⟨tl, htl⟩ : ∃ x, r.toil = x := ⟨_, rfl⟩
    have HN := hide (And.intro hn (And.intro hla htl))
    have hdl : dy ≤ la := by have := hmo.d1; rw [HMO.out.2.1, hla] at this; omega
    have hdt : (de : Int) ≤ tl := by have := hmo.e1; rw [HMO.out.2.2, htl] at this; exact this
    have hla30 : la ≤ 30 := by have := HRO.out.l30; omega
    have HFE := hide (fun W (h : RtR W d r) => refFewest_any d r dy W h HRO.out HZ.out (by rw [hla]; omega))
    unfold RFwPost at HFE
    have HRR := hide (fun T (y e : Nat) W (h : RtR W d r) (h2 : TbV W r dy T) (h3 : dy ≤ y) (h4 : (y : Int) ≤ la) (h5 : (e : Int) ≤ tl) => refRepair_any d r T dy D y e W h HRO.out HZ.out h2 HD16.out h3 (by rw [hla]; exact h4) (by rw [htl]; exact h5))
    unfold RRpPost at HRR
    rw [hn, hla, htl] at HFE HRR
    have HON : Hid (∀ x : Int, (folF r m0 l 0).1.on x = ⟨D, x, if x = (dy : Int) then (de : Int) else 0⟩) := hide (on_of HMO.out.1 HMO.out.2.1 HMO.out.2.2)
    have HLD : Hid (∀ W, LwS w W G d r A l → W.cell? ⟨G, 0, none⟩ = some (.slice d.A n d.c) ∧ W.cell? ⟨G, 1, none⟩ = some (.int .i64 la) ∧ W.cell? ⟨G, 2, none⟩ = some (.int .i64 tl)) := hide fun W h => by
      obtain ⟨-, g0, g1, g2, -⟩ := blk3 h.kG
      rw [hn] at g0
      rw [hla] at g1
      rw [htl] at g2
      exact ⟨g0, g1, g2⟩
    rw [hn] at hn10
    rw [hn, hla, htl]
    clear hn hla htl hmo hD16
    obtain ⟨g0, g1, g2⟩ := HLD.out wS HS.out
    go_wp2_with (refine wpList_store_run rfl 37 (.tmp 11) (.tmp 71) rfl rfl rfl HRUN.out ?_)
    refine (HFE.out wS HS.out.rt).mono ?_
    rintro e wG ⟨A1, rfl, htb, hbG⟩
    replace HS := hide (HS.out.ext hbG)
    (try replace HLM := hide (HLM.out.ext hbG))
    (try replace KD := hide (KD.out.ext hbG))
    (try replace KT := hide (KT.out.ext hbG))
    (try replace HTB := hide (HTB.out.ext hbG))
    have HTB := hide htb
    clear hbG htb HFE HRUN hE g0 g1 g2
    have hba : Below wG.heap.size wG (wG.alloc (.cells #[.slice none 0 0, .slice none 0 0, .slice none 0 0, .slice none 0 0, .slice none 0 0, .slice none 0 0, .slice none 0 0, .slice none 0 0, .slice none 0 0, .slice none 0 0, .slice none 0 0, .slice none 0 0, .slice none 0 0, .slice none 0 0, .slice none 0 0, .slice none 0 0, .slice none 0 0, .slice none 0 0, .slice none 0 0, .slice none 0 0, .slice none 0 0, .slice none 0 0, .slice none 0 0, .slice none 0 0, .slice none 0 0, .slice none 0 0, .slice none 0 0, .slice none 0 0, .slice none 0 0, .slice none 0 0, .slice none 0 0] 42)) := (Below.refl _ _).alloc (Nat.le_refl _) _
    obtain ⟨wH, hrun, hKS, hBS, -⟩ := store_blk (P := Tryd.prog) (ty := 42) (cells := rowV 31 A1) (Blk.new wG 42 #[.slice none 0 0, .slice none 0 0, .slice none 0 0, .slice none 0 0, .slice none 0 0, .slice none 0 0, .slice none 0 0, .slice none 0 0, .slice none 0 0, .slice none 0 0, .slice none 0 0, .slice none 0 0, .slice none 0 0, .slice none 0 0, .slice none 0 0, .slice none 0 0, .slice none 0 0, .slice none 0 0, .slice none 0 0, .slice none 0 0, .slice none 0 0, .slice none 0 0, .slice none 0 0, .slice none 0 0, .slice none 0 0, .slice none 0 0, .slice none 0 0, .slice none 0 0, .slice none 0 0, .slice none 0 0, .slice none 0 0]) (by rw [rowV_size]; rfl) (by rw [rowV_size]; kernel_rfl) (row_one HTB.out.one)
    have hb5 := hBS _ _ hba (Nat.le_refl _)
    have HRUN := hide hrun
    replace HS := hide (HS.out.ext hb5)
    (try replace HLM := hide (HLM.out.ext hb5))
    (try replace KD := hide (KD.out.ext hb5))
    (try replace KT := hide (KT.out.ext hb5))
    (try replace HTB := hide (HTB.out.ext hb5))
    have KT := hide hKS
    obtain ⟨T, hT2⟩ : ∃ x, wG.heap.size = x := ⟨_, rfl⟩
    rw [hT2] at KT HRUN
    clear hba hrun hKS hBS hb5
    have HLT : Hid (∀ W, Blk W T 42 (rowV 31 A1) → (Instr.loadAt 42 (.pointer (some ⟨T, 0, none⟩))).run Tryd.prog W = .ok (.agg (rowV 31 A1)) W) := hide fun W h => by
      have hld := run_loadVar_row (P := Tryd.prog) W T 42 42 (rowV 31 A1) _ _ h Tryd.underlying42 rfl (by rw [rowV_size]; kernel_rfl)
      unfold Instr.loadAt
      simpa [Sem.run_bind, Instr.sureAddr, Result.andThen] using hld
    go_wp2_with (refine wpList_store_run rfl 42 (.tmp 16) (.tmp 99) rfl rfl rfl HRUN.out ?_)
    clear HRUN hT2
    go_loopw [17, 18] (fun lv i wr => ∃ (k : Nat) (v : Int), (dy ≤ k ∧ k ≤ la + 1) ∧ i = .int .i64 k ∧ lv = .int .i64 v ∧ Hid (LtQ r (folF r m0 l 0).1 k v) ∧ Hid (Below wH.heap.size wH wr)) (fun _ i _ => la + 1 - (intOf i).toNat)
    case atStart => exact ⟨dy, -1, ⟨Nat.le_refl _, by omega⟩, rfl, rfl, hide (LtQ.init HMO.out.2.1), hide (Below.refl _ _)⟩
    case round =>
      obtain ⟨k, v, ⟨hk0, hk1⟩, rfl, rfl, HQ, HB⟩ := hrel
      have hst : IntKind.i64.wrap ((k : Int) + 1) = ((k + 1 : Nat) : Int) := by rw [IntWalk.i64_in _ (by omega)]; omega
      obtain ⟨g0, g1, g2⟩ := HLD.out wr (HS.out.ext HB.out)
      by_cases hlt : k ≤ la
      · have hlt' : (k : Int) ≤ (la : Int) := by omega
        obtain ⟨dk, hdk⟩ : ∃ dk : Nat, (if (k : Int) = (dy : Int) then (de : Int) else 0) = dk := by
          by_cases h : (k : Int) = (dy : Int)
          · exact ⟨de, by rw [if_pos h]⟩
          · exact ⟨0, by rw [if_neg h]; rfl⟩
        have hdk2 : if dy < k then dk = 0 else dk = de := by
          by_cases h : dy < k
          · rw [if_pos h]; rw [if_neg (by omega)] at hdk; omega
          · rw [if_neg h]; rw [if_pos (by omega)] at hdk; omega
        have HDK := hide hdk2
        have HONK : Hid ((folF r m0 l 0).1.on k = ⟨D, k, dk⟩) := hide (by rw [HON.out, hdk])
        have hdkt : (dk : Int) ≤ tl := by
          by_cases h : dy < k
          · rw [if_pos h] at hdk2; omega
          · rw [if_neg h] at hdk2; omega
        clear hdk hdk2
        go_upto_if 110 with fail
        go_cut [19] (fun z w' => z = .int .i64 (dk : Nat) ∧ w' = wr)
        case first =>
          have h2 := HDK.out
          by_cases hdd : dy < k
          · have hdd' : (dy : Int) < (k : Int) := by omega
            rw [if_pos hdd] at h2
            subst h2
            go_wp2_with fail
            go_meet
            exact ⟨rfl, rfl⟩
          · have hdd' : ¬ (dy : Int) < (k : Int) := by omega
            rw [if_neg hdd] at h2
            subst h2
            go_wp2_with fail
            go_meet
            exact ⟨rfl, rfl⟩
        obtain ⟨rfl, hwc⟩ := hcut
        obtain rfl : wr = wc := hwc.symm
        clear HDK
        obtain ⟨nR, hnR⟩ : ∃ x, (rrL r ⟨D, k, dk⟩).length = x := ⟨_, rfl⟩
        obtain ⟨ok, hok⟩ : ∃ x, decide (fwN r ⟨D, k, dk⟩ < 11) = x := ⟨_, rfl⟩
        have HC1 := hide (HRR.out A1 k dk wr (HS.out.ext HB.out).rt (HTB.out.ext HB.out) hk0 hlt' hdkt)
        rw [hnR, hok] at HC1
        have HOK := hide hok
        have hlt1 := HLT.out wr (KT.out.ext HB.out)
        have HL1 := hide hlt1
        obtain ⟨x0, x1, x2, x3, x4, x5, x6, x7, x8, x9⟩ := bx10 (KD.out.ext HB.out)
        clear hnR hok hlt1
        go_wp2_with (refine wpList_load_run rfl 42 (.tmp 16) rfl rfl HL1.out ?_)
        refine HC1.out.mono ?_
        rintro e wa ⟨B, bc, rfl, -, hba⟩
        replace HB := hide (HB.out.trans (hba.mono HB.out.size))
        clear hba HC1 HL1 g0 g1 g2 x0 x1 x2 x3 x4 x5 x6 x7 x8 x9
        cases ok with
        | true =>
          have HQ2 := hide (LtQ.yes (r := r) (m := (folF r m0 l 0).1) (k := k) (by rw [HMO.out.2.1]; omega) (by rw [HONK.out]; exact of_decide_eq_true HOK.out))
          go_wp2_with fail
          go_roundw
          case rel => exact ⟨k + 1, k, ⟨by omega, by omega⟩, by go_num, rfl, HQ2, HB⟩
          case measure => simp [intOf]; omega
        | false =>
          have HQ2 := hide (HQ.out.no (by rw [HONK.out]; exact of_decide_eq_false HOK.out))
          go_wp2_with fail
          go_roundw
          case rel => exact ⟨k + 1, v, ⟨by omega, by omega⟩, by go_num, rfl, HQ2, HB⟩
          case measure => simp [intOf]; omega
      · obtain rfl : k = la + 1 := by omega
        have hnl : ¬ (la : Int) + 1 ≤ (la : Int) := by omega
        go_upto_region 20 with fail
        go_cut [144] (fun z w' => z = .bool false ∧ w' = wr)
        case first =>
          rcases HQ.out with ⟨rfl, hno⟩ | ⟨h0, h1, h2, h3, h4⟩
          · obtain ⟨rfl, rfl⟩ : g = 7 ∧ x = 0 := by
              rcases HX2.out with ⟨-, ⟨h5, h6, h7⟩, -⟩ | ⟨h, -⟩
              · exfalso
                rw [HMO.out.2.1] at h5
                rw [HN.out.2.1] at h6
                have h8 := hno x.toNat (by rw [HMO.out.2.1]; omega) (by omega)
                rw [Int.toNat_of_nonneg (by omega)] at h8
                exact h8 h7
              · exact h
            clear hno
            go_wp2_with fail
            go_meet
            exact ⟨rfl, rfl⟩
          · obtain ⟨rfl, rfl⟩ : g = 0 ∧ x = v := by
              rcases HX2.out with ⟨hg, ⟨h5, h6, h7⟩, h8⟩ | ⟨-, h⟩
              · refine ⟨hg, ?_⟩
                rw [HMO.out.2.1] at h5
                rw [HN.out.2.1] at h6
                rcases (by omega : x < v ∨ x = v ∨ v < x) with h9 | h9 | h9
                · exact absurd h3 (h8 v h9 (by rw [HN.out.2.1]; omega))
                · exact h9
                · have h10 := h4 x.toNat (by omega) (by omega)
                  rw [Int.toNat_of_nonneg (by omega)] at h10
                  exact absurd h7 h10
              · exact absurd h3 (h v h1 (by rw [HN.out.2.1]; omega))
            have h5 : ¬ x < 0 := by omega
            clear h1 h2 h3 h4
            go_wp2_with fail
            go_meet
            exact ⟨rfl, rfl⟩
        obtain ⟨rfl, hwc⟩ := hcut
        obtain rfl : wr = wc := hwc.symm
        replace HS := hide (HS.out.ext HB.out)
        (try replace HLM := hide (HLM.out.ext HB.out))
        (try replace KD := hide (KD.out.ext HB.out))
        (try replace KT := hide (KT.out.ext HB.out))
        (try replace HTB := hide (HTB.out.ext HB.out))
        clear HQ HX2 HB hst hlt hnl g0 g1 g2
        obtain ⟨g0, g1, g2⟩ := HLD.out wr HS.out
        have hfr : frC r l day = if (dy : Int) ≤ day ∧ day ≤ la then 0 else 3 := by
          unfold frC
          rw [if_pos HA0.out, HMO.out.2.1, HN.out.2.1]
        by_cases hin : (dy : Int) ≤ day ∧ day ≤ la
        rotate_left
        · rw [if_neg hin] at hfr
          have e1 : ec = 3 := by rw [← HEC.out]; unfold rprC; rw [hfr]; rfl
          have e2 : nM = 0 := by rw [← HNM.out, ← HLM0.out]; unfold rprL; rw [HEC.out, e1]; rfl
          subst e1 e2
          clear hfr
          by_cases h1 : day < (dy : Int)
          · go_wp2_with fail
            refine (HKN.out wr HS.out.lo).mono ?_
            rintro e wk ⟨rfl, hbk⟩
            replace HS := hide (HS.out.ext hbk)
            (try replace HLM := hide (HLM.out.ext hbk))
            (try replace KD := hide (KD.out.ext hbk))
            (try replace KT := hide (KT.out.ext hbk))
            (try replace HTB := hide (HTB.out.ext hbk))
            clear hbk
            go_wp2_with fail
            go_ret
            exact ⟨rfl, HS.out.lo⟩
          · have h2 : (la : Int) < day := by omega
            go_wp2_with fail
            refine (HKN.out wr HS.out.lo).mono ?_
            rintro e wk ⟨rfl, hbk⟩
            replace HS := hide (HS.out.ext hbk)
            (try replace HLM := hide (HLM.out.ext hbk))
            (try replace KD := hide (KD.out.ext hbk))
            (try replace KT := hide (KT.out.ext hbk))
            (try replace HTB := hide (HTB.out.ext hbk))
            clear hbk
            go_wp2_with fail
            go_ret
            exact ⟨rfl, HS.out.lo⟩
        rw [if_pos hin] at hfr
        obtain ⟨dn, rfl⟩ : ∃ dn : Nat, day = dn := ⟨day.toNat, by omega⟩
        have h1 : ¬ (dn : Int) < (dy : Int) := by omega
        have h2 : ¬ (la : Int) < (dn : Int) := by omega
        obtain ⟨dk, hdk⟩ : ∃ dk : Nat, (if (dn : Int) = (dy : Int) then (de : Int) else 0) = dk := by
          by_cases h : (dn : Int) = (dy : Int)
          · exact ⟨de, by rw [if_pos h]⟩
          · exact ⟨0, by rw [if_neg h]; rfl⟩
        have hdk2 : if dy < dn then dk = 0 else dk = de := by
          by_cases h : dy < dn
          · rw [if_pos h]; rw [if_neg (by omega)] at hdk; omega
          · rw [if_neg h]; rw [if_pos (by omega)] at hdk; omega
        have HDK := hide hdk2
        have hmk : (folF r m0 l 0).1.on dn = ⟨D, dn, dk⟩ := by rw [HON.out, hdk]
        have hdkt : (dk : Int) ≤ tl := by
          by_cases h : dy < dn
          · rw [if_pos h] at hdk2; omega
          · rw [if_neg h] at hdk2; omega
        have hec : ec = if fwN r ⟨D, dn, dk⟩ < 11 then 0 else 7 := by
          rw [← HEC.out]
          unfold rprC
          rw [hfr, hmk]
          rfl
        have hlm : LM = if ec = 0 then rpL r ⟨D, dn, dk⟩ (fwN r ⟨D, dn, dk⟩) else [] := by
          rw [← HLM0.out]
          unfold rprL
          rw [HEC.out, hmk]
        have HEC2 := hide (And.intro hec hlm)
        clear hdk hdk2 hmk hec hlm hfr HON HEC HLM0
        go_upto_if 166 with fail
        go_cut [13] (fun z w' => z = .int .i64 (dk : Nat) ∧ w' = wr)
        case first =>
          have h2 := HDK.out
          by_cases hdd : dy < dn
          · have hdd' : (dy : Int) < (dn : Int) := by omega
            rw [if_pos hdd] at h2
            subst h2
            go_wp2_with fail
            go_meet
            exact ⟨rfl, rfl⟩
          · have hdd' : ¬ (dy : Int) < (dn : Int) := by omega
            rw [if_neg hdd] at h2
            subst h2
            go_wp2_with fail
            go_meet
            exact ⟨rfl, rfl⟩
        obtain ⟨rfl, hwc⟩ := hcut
        obtain rfl : wr = wc := hwc.symm
        clear HDK
        obtain ⟨LR, hLR⟩ : ∃ x, rrL r ⟨D, dn, dk⟩ = x := ⟨_, rfl⟩
        obtain ⟨nR, hnR⟩ : ∃ x, LR.length = x := ⟨_, rfl⟩
        obtain ⟨ok, hok⟩ : ∃ x, decide (fwN r ⟨D, dn, dk⟩ < 11) = x := ⟨_, rfl⟩
        have HC1 := hide (HRR.out A1 dn dk wr HS.out.rt HTB.out (by omega) hin.2 hdkt)
        rw [hLR, hnR, hok] at HC1
        have HOK := hide hok
        have HLR := hide hLR
        have HNR := hide hnR
        have hlt1 := HLT.out wr KT.out
        have HL1 := hide hlt1
        obtain ⟨x0, x1, x2, x3, x4, x5, x6, x7, x8, x9⟩ := bx10 KD.out
        clear hLR hnR hok hlt1
        go_wp2_with (refine wpList_load_run rfl 42 (.tmp 16) rfl rfl HL1.out ?_)
        refine HC1.out.mono ?_
        rintro e wa ⟨B, bc, rfl, hdr, hba⟩
        replace HS := hide (HS.out.ext hba)
        (try replace HLM := hide (HLM.out.ext hba))
        (try replace KD := hide (KD.out.ext hba))
        (try replace KT := hide (KT.out.ext hba))
        (try replace HTB := hide (HTB.out.ext hba))
        have HDR := hide hdr
        clear hba hdr HC1 HL1 g0 g1 g2 x0 x1 x2 x3 x4 x5 x6 x7 x8 x9 KD KT HTB
        cases ok with
        | false =>
          have e1 : ec = 7 := by rw [HEC2.out.1, if_neg (of_decide_eq_false HOK.out)]
          have e2 : nM = 0 := by rw [← HNM.out, HEC2.out.2, e1]; rfl
          subst e1 e2
          go_wp2_with fail
          refine (HKN.out wa HS.out.lo).mono ?_
          rintro e wk ⟨rfl, hbk⟩
          replace HS := hide (HS.out.ext hbk)
          (try replace HLM := hide (HLM.out.ext hbk))
          (try replace KD := hide (KD.out.ext hbk))
          (try replace KT := hide (KT.out.ext hbk))
          (try replace HTB := hide (HTB.out.ext hbk))
          clear hbk
          go_wp2_with fail
          go_ret
          exact ⟨rfl, HS.out.lo⟩
        | true =>
          have hf := of_decide_eq_true HOK.out
          have e1 : ec = 0 := by rw [HEC2.out.1, if_pos hf]
          have e2 : LM = LR := by rw [← HLR.out, HEC2.out.2, if_pos e1]; unfold rrL; rw [if_pos hf]
          subst e1 e2
          have e3 : nM = nR := by rw [← HNM.out, HNR.out]
          subst e3
          have hl11 : LM.length ≤ 1000000 := by
            rw [HEC2.out.2, if_pos rfl, rp_len (by rw [HN.out.1]; omega) _ _ _ (Nat.le_refl _) rfl hf]
            omega
          have HSA := same_any AM B cM bc LM LM wa hl11 hl11 HLM.out HDR.out
          rw [HNM.out, show decide (LM = LM) = true from decide_eq_true rfl] at HSA
          replace HSA := hide HSA
          clear hf hl11 HEC2
          go_wp2_with fail
          refine HSA.out.mono ?_
          rintro e wb ⟨rfl, hbb⟩
          replace HS := hide (HS.out.ext hbb)
          (try replace HLM := hide (HLM.out.ext hbb))
          (try replace KD := hide (KD.out.ext hbb))
          (try replace KT := hide (KT.out.ext hbb))
          (try replace HTB := hide (HTB.out.ext hbb))
          clear hbb HSA
          go_wp2_with fail
          refine (HKN.out wb HS.out.lo).mono ?_
          rintro e wk ⟨rfl, hbk⟩
          replace HS := hide (HS.out.ext hbk)
          (try replace HLM := hide (HLM.out.ext hbk))
          (try replace KD := hide (KD.out.ext hbk))
          (try replace KT := hide (KT.out.ext hbk))
          (try replace HTB := hide (HTB.out.ext hbk))
          clear hbk
          go_wp2_with fail
          go_ret
          exact ⟨rfl, HS.out.lo⟩
end Go.Proofs.YtcgdalabenflmaaDoor
namespace Go.Proofs.YtcgdalabenflmaaDoor.riteRepairs
open Go Go.ChangeShapes Go.WideShapes Go.ChangeAt Go.RowKit
set_option maxRecDepth 100000 in
theorem lifted (os : Os) (started : os.Started) (H : Type) (enc : TypeId × Value → H) :
    ReturnsInHanded {} Tryd.checked os 3 .any (fun w args => (Rows.riteRepairsSpec.pre enc Tryd.prog Tryd.f3 Rows.riteRepairsRow.domain false w args ∧ laidMetH Tryd.prog Rows.riteRepairsRow.laid w) ∧ sizedMet enc Tryd.prog Tryd.f3 (OpenSpec.ofChange Rows.riteRepairsSpec) false w args)
      (Rows.riteRepairsSpec.post enc Tryd.prog Tryd.f3 false true false false) := by
  refine returnsInHanded_of_change_and (C := Tryd.checked) (X := fun w _ => laidMetH Tryd.prog Rows.riteRepairsRow.laid w) (fun _ _ _ hh h => h.of_heap hh) own_knob started (by kernel_rfl) Tryd.func3
    (ChangeSpec.witness_shaped (enc := enc) (C := Tryd.checked) (os := os) (X := fun w _ => laidMetH Tryd.prog Rows.riteRepairsRow.laid w) false (World.laidAll Tryd.prog os Rows.riteRepairsRow.laid) #[.agg #[.slice none 0 0, .int .i64 0, .int .i64 0], .slice none 0 0, .int .i64 0] 8 (World.laidAll_os _ _ _)
      (World.shaped_of_ZipB (by kernel_rfl) (by kernel_rfl)) (by kernel_rfl) (by kernel_rfl) (by kernel_rfl)
      (by rw [MakeChecks.laidMetH_plain _ _ _ (by kernel_rfl)]; exact laidMet_laidAll _ (by kernel_rfl) (by kernel_rfl))) ?_
  intro W base args ds gs before hval0 hW _ _ hL _
  have hval : ∀ (j : Nat) t v, Tryd.f3.params[j]? = some t → args[j]? = some v → Value.okWide Tryd.prog W .any base t v := hval0
  have hW' := hW
  have hlt : ∀ p ∈ before, p.block < W.heap.size := fun p hp => hW.lt p hp
  obtain ⟨p, q, hA0, hV, rfl, hfz, hnd⟩ := hW
  have hA : DataW.TrodAll enc Tryd.prog W 0 (fun _ => true) true Tryd.f3.params.toList args.toList ds p := hA0
  rw [Tryd.params3] at hA hval
  obtain ⟨v0, vs0, d0, ds0, p0, q0, hargs, rfl, rfl, h0, r0⟩ := trodAll_cons hA
  obtain ⟨v1, vs1, d1, ds1, p1, q1, rfl, rfl, rfl, h1, r1⟩ := trodAll_cons r0
  obtain ⟨v2, vs2, d2, ds2, p2, q2, rfl, rfl, rfl, h2, r2⟩ := trodAll_cons r1
  obtain ⟨rfl, rfl, rfl⟩ := trodAll_nil r2
  obtain rfl : args = #[v0, v1, v2] := by cases args; simp_all
  obtain ⟨rfl, rfl⟩ := trodVars_none hV
  have k0 := hval 0 24 v0 rfl rfl
  have k1 := hval 1 25 v1 rfl rfl
  have k2 := hval 2 3 v2 rfl rfl
  have hT : TB W := tb_laid hL (by kernel_rfl) (.head _) (by kernel_rfl)
  obtain ⟨e0, l0, rfl, -, s0, -, -⟩ := open_riteV k0 h0 (fun x hx => hlt x (by simp [hx]))
  obtain ⟨A1, c1, u1, rfl, -, s1, -⟩ := open_deedsV k1 h1 (fun x hx => hlt x (by simp [hx]))
  obtain ⟨a2, rfl, -, -⟩ := open_intV k2 h2
  clear hA0 hval0
  refine (repairs_any e0 l0 A1 c1 u1 a2 W s0 s1 hT).mono fun e W' ⟨he, hb⟩ => ?_
  subst he
  exact ⟨_, rfl, law_post hW' hb rfl rfl (by kernel_rfl) ⟨rfl, rfl, rfl⟩⟩
theorem over : Rows.riteRepairsRow.holds Tryd.pinned (OpenSpec.ofChange Rows.riteRepairsSpec) :=
  OpenClaim.holds_of_wide 3 Tryd.f3 rfl rfl rfl rfl rfl rfl rfl ⟨rfl, rfl, rfl, rfl, rfl⟩ rfl rfl rfl rfl rfl (by kernel_rfl) Tryd.func3 (by kernel_rfl)
    (of_decide_eq_true (by kernel_rfl)) (by unfold Func.isWrapper; first | (rw [if_pos (by decide +kernel)]; kernel_rfl) | (rw [if_neg (by decide +kernel)]; exact ⟨rfl, rfl⟩))
    (fun os started H enc _ => lifted os started H enc)
theorem proved : Rows.RiteRepairsCardSaid :=
  Claim7.holds_tied_plain_at .later [] [.data, .data, .data, .data, .pinned] true (true, "376b80f4633cca043c83d1652b79e11020b8f3081dfa86be3e3dff3f771ffefe") false over (fun _ h => by cases h) (by kernel_rfl) (fun _ h => by cases h) riteRepairs_row_tie rfl ⟨rfl, rfl⟩ (by kernel_rfl) rfl
    (fun f fn hf hfn => by
      obtain rfl : f = 3 := Option.some.inj ((show Tryd.prog.funcNamed "chiti/chitilaw09.RiteRepairs" = some 3 by kernel_rfl).symm.trans hf) |>.symm
      obtain rfl : fn = Tryd.f3 := (Option.some.inj (Tryd.func3.symm.trans hfn)).symm
      exact ⟨by kernel_rfl, fun j t ht => by
        rw [Tryd.params3] at ht
        have hm : t ∈ ([24, 25, 3] : List TypeId) := by simpa using Array.mem_of_getElem? ht
        have hall : (([24, 25, 3] : List TypeId).all fun u => !Tryd.prog.wantsStandIn u) = true := by kernel_rfl
        exact (show Tryd.prog.wantsStandIn t = false by simpa using List.all_eq_true.1 hall t hm)⟩)
    (by kernel_rfl)
#print axioms proved
end Go.Proofs.YtcgdalabenflmaaDoor.riteRepairs
