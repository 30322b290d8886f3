/- Rite: the law RiteRepaired: the row and the tied card. -/
import Derived.Test.YtcgdalabenflmaaDoorOpensF
import Derived.Test.YtcgdalabenflmaaDoorCards
import Derived.Test.YtcgdalabenflmaaDoorTie
import Derived.LaidMore
import Derived.Lay
import Derived.SevenTiedAt
import Derived.Stop.Joined
set_option linter.unusedSimpArgs false
set_option linter.unusedVariables false
set_option linter.unnecessarySimpa false
/- Rite: the law RiteRepaired, walked. -/
namespace Go.Proofs.YtcgdalabenflmaaDoor
open List renaming getElem_toArray → glA, getElem_cons_zero → glB, getElem_cons_succ → glC, setIfInBounds_toArray → glD, set_cons_zero → glE, set_cons_succ → glF
open Go Go.RowKit Go.Shelf
set_option maxHeartbeats 8000000
set_option maxRecDepth 100000
-- what Repair and Latest answer, said in one way
def rprC (r : Rit) (l : List (Int × Int)) (day : Int) : Int := if frC r l day ≠ 0 then frC r l day else if fwN r ((folF r m0 l 0).1.on day) < 11 then 0 else 7
def rprL (r : Rit) (l : List (Int × Int)) (day : Int) : List (Int × Int) := if rprC r l day = 0 then rpL r ((folF r m0 l 0).1.on day) (fwN r ((folF r m0 l 0).1.on day)) else []
theorem OwnD.cap {W : World} {n0 : Nat} {A : Option Addr} {n c : Nat} {l : List (Int × Int)} (h : OwnD W n0 (.slice A n c) l) : n ≤ c ∧ c ≤ maxLen := by
  rcases h.2 with ⟨h1, h2⟩ | ⟨g, cap, cur, h1, h2, h3, h4, h5, h6, h7⟩
  · injection h1 with h1 h3 h4
    subst h3 h4
    unfold maxLen
    exact ⟨Nat.le_refl _, Nat.zero_le _⟩
  · injection h1 with h1 h3 h4
    subst h3 h4
    unfold maxLen at *
    omega
theorem rpr_all {w w' : World} {r : Rit} {l : List (Int × Int)} {day : Int} {e : Ending} (h : RprPost w r l day e w') :
    ∃ B bc, e = .returned (.tuple #[.slice B (rprL r l day).length bc, .int .i64 (rprC r l day)]) ∧ (DsR w' B (rprL r l day) ∧ (rprL r l day).length ≤ bc) ∧ Below w.heap.size w w' := by
  obtain ⟨⟨hc, rfl⟩ | ⟨hc, -, ⟨h11, rfl⟩ | ⟨h11, v, rfl, hv⟩⟩, hb⟩ := h
  · have e1 : rprC r l day = frC r l day := by unfold rprC; rw [if_pos hc]
    have e2 : rprL r l day = [] := by unfold rprL; rw [e1, if_neg hc]
    rw [e1, e2]
    exact ⟨none, 0, rfl, ⟨ER.nil _ _ _ _ _, Nat.le_refl _⟩, hb⟩
  · have e1 : rprC r l day = 7 := by unfold rprC; rw [if_neg (by simpa using hc), if_neg (by omega)]
    have e2 : rprL r l day = [] := by unfold rprL; rw [e1, if_neg (by decide)]
    rw [e1, e2]
    exact ⟨none, 0, rfl, ⟨ER.nil _ _ _ _ _, Nat.le_refl _⟩, hb⟩
  · have e1 : rprC r l day = 0 := by unfold rprC; rw [if_neg (by simpa using hc), if_pos h11]
    have e2 : rprL r l day = rpL r ((folF r m0 l 0).1.on day) (fwN r ((folF r m0 l 0).1.on day)) := by unfold rprL; rw [if_pos e1]
    rw [e1, e2]
    obtain ⟨B, bc, rfl⟩ := own_shape hv
    exact ⟨B, bc, rfl, ⟨hv.dsr.2, hv.cap.1⟩, hb⟩
theorem lat_all {w w' : World} {r : Rit} {l : List (Int × Int)} {e : Ending} (ha : aftC r l = 0) (h : LatPost w r l e w') :
    ∃ x g, e = .returned (.tuple #[.int .i64 x, .int .i64 g]) ∧ (g = 0 ∧ LatR r (folF r m0 l 0).1 x ∨ g = 7 ∧ ∀ y, (folF r m0 l 0).1.day ≤ y → y ≤ r.last → ¬ fwN r ((folF r m0 l 0).1.on y) < 11) ∧ Below w.heap.size w w' := by
  obtain ⟨⟨hc, rfl⟩ | ⟨hc, -, ⟨x, hx, rfl⟩ | ⟨hx, rfl⟩⟩, hb⟩ := h
  · exact absurd ha hc
  · exact ⟨x, 0, rfl, .inl ⟨rfl, hx⟩, hb⟩
  · exact ⟨0, 7, rfl, .inr ⟨rfl, hx⟩, hb⟩
theorem DsR.take2 {w : World} {A : Option Addr} {l : List (Int × Int)} (h : DsR w A l) (k : Nat) : DsR w A (l.take k) := by
  unfold DsR at h ⊢
  intro hn
  rw [List.length_take] at hn
  obtain ⟨b, off, hA, hb, hc⟩ := h (by omega)
  refine ⟨b, off, hA, hb, fun j i hj hi => ?_⟩
  rw [List.length_take] at hj
  rw [hc j i (by omega) hi]
  have e : (l.take k).getD j (0, 0) = l.getD j (0, 0) := by
    rw [List.getD_eq_getElem?_getD, List.getD_eq_getElem?_getD, List.getElem?_take, if_pos (by omega)]
  show some (dsV (l.getD j (0, 0)) i) = some (dsV ((l.take k).getD j (0, 0)) i)
  rw [e]
theorem DsR.drop {w : World} {b off : Nat} {l : List (Int × Int)} (h : DsR w (some ⟨b, off, none⟩) l) {k : Nat} {B : Option Addr} (hB : k < l.length → B = some ⟨b, off + k * 2, none⟩) : DsR w B (l.drop k) := by
  unfold DsR at h ⊢
  intro hn
  rw [List.length_drop] at hn
  obtain ⟨b', off', hA, hb, hc⟩ := h (by omega)
  injection hA with hA
  injection hA with e1 e2
  subst e1; subst e2
  refine ⟨b, off + k * 2, hB (by omega), hb, fun j i hj hi => ?_⟩
  rw [List.length_drop] at hj
  have h2 := hc (k + j) i (by omega) hi
  have e : off + k * 2 + j * 2 + i = off + (k + j) * 2 + i := by omega
  rw [e, h2]
  have e : (l.drop k).getD j (0, 0) = l.getD (k + j) (0, 0) := by
    rw [List.getD_eq_getElem?_getD, List.getD_eq_getElem?_getD, List.getElem?_drop]
  show some (dsV (l.getD (k + j) (0, 0)) i) = some (dsV ((l.drop k).getD j (0, 0)) i)
  rw [e]
theorem repaired_any (d : Rad) (r : Rit) (A : Option Addr) (c : Nat) (l : List (Int × Int)) (day : Int) (w : World) (hd : RtR w d r) (hD : DsR w A l) (hT : TB w) :
    Calls Tryd.prog 5 #[.agg #[.slice d.A r.n d.c, .int .i64 r.last, .int .i64 r.toil], .slice A l.length c, .int .i64 day] w fun e w' => e = .returned (.bool true) ∧ Below w.heap.size w w' := by
  have HT := hide hT
  have HB1 : Hid (Below w.heap.size w (w.alloc (.cells #[.slice d.A r.n d.c, .int .i64 r.last, .int .i64 r.toil] 24))) := hide ((Below.refl _ _).alloc (Nat.le_refl _) _)
  obtain ⟨G, hG⟩ : ∃ x, w.heap.size = x := ⟨_, rfl⟩
  have HS : Hid (LwS w (w.alloc (.cells #[.slice d.A r.n d.c, .int .i64 r.last, .int .i64 r.toil] 24)) G d r A l) := hide ⟨HB1.out, by rw [← hG]; exact Blk.new w _ _, hd.ext HB1.out, hD.ext HB1.out⟩
  have HGO := hide (fun W (h : RtR W d r) => good_any d r A c l W h)
  have HKN := hide (fun W (h : Below w.heap.size w W) => known_any W (hT.ext h))
  have HRI := hide (fun (hz : RtZ r) (d' : Rad) (A' : Option Addr) (c' : Nat) (l' : List (Int × Int)) (hl : l'.length ≤ 1000000) W (h : RtR W d' r) (h2 : DsR W A' l') => right_any d' r A' c' l' W h hz hl h2)
  have HCP := hide (fun (hz : RtZ r) W (h : RtR W d r) => copied_any d r W h hz)
  have HDE := hide (fun (hl : l.length ≤ 1000000) W (h : DsR W A l) => deeds_any A c l W h hl)
  unfold CpPost at HCP
  obtain ⟨nl, hnl⟩ : ∃ n, l.length = n := ⟨_, rfl⟩
  have HNL := hide hnl
  rw [hnl] at HGO HDE ⊢
  clear hd hD hT HB1 hnl
  go_enter Tryd.func5, Tryd.ntmps5
  go_upto_region 1 with fail
  (try rw [hG])
  clear hG
  generalize w.alloc (.cells #[.slice d.A r.n d.c, .int .i64 r.last, .int .i64 r.toil] 24) = w1 at HS ⊢
  obtain ⟨g9, g0, g1, g2, -⟩ := blk3 HS.out.kG
  go_wp2_with fail
  refine (HGO.out w1 HS.out.rt).mono ?_
  rintro e w2 ⟨rfl, hb2⟩
  replace HS := hide (HS.out.ext hb2)
  (try replace HLM := hide (HLM.out.ext hb2))
  (try replace HLH := hide (liE HLH.out hb2))
  clear g9 g0 g1 g2 hb2 HGO
  rcases hgd : gdB r l with _ | _
  · clear hgd
    go_wp2_with fail
    refine (HKN.out w2 HS.out.lo).mono ?_
    rintro e wk ⟨rfl, hbk⟩
    replace HS := hide (HS.out.ext hbk)
    (try replace HLM := hide (HLM.out.ext hbk))
    (try replace HLH := hide (liE HLH.out hbk))
    clear hbk
    go_wp2_with fail
    go_ret
    exact ⟨rfl, HS.out.lo⟩
  obtain ⟨hro, hz, hl20, hrb⟩ := gd_yes hgd
  have HZ := hide hz
  have HRO := hide hro
  have hnl20 : nl ≤ 20 := by rw [← HNL.out]; exact hl20
  replace HCP := hide (HCP.out hz)
  replace HDE := hide (HDE.out (by omega))
  replace HRI := hide (HRI.out hz)
  clear hgd hro hz hl20 hrb
  obtain ⟨g9, g0, g1, g2, -⟩ := blk3 HS.out.kG
  go_wp2_with fail
  have HR1 := hide (HRI.out d A c l (by rw [HNL.out]; omega) w2 HS.out.rt HS.out.ds)
  rw [HNL.out] at HR1
  refine HR1.out.mono ?_
  rintro e w3 ⟨rfl, hb3⟩
  replace HS := hide (HS.out.ext hb3)
  (try replace HLM := hide (HLM.out.ext hb3))
  (try replace HLH := hide (liE HLH.out hb3))
  clear g9 g0 g1 g2 hb3 HR1
  rcases hrg : rgB r l with _ | _
  · clear hrg
    go_wp2_with fail
    refine (HKN.out w3 HS.out.lo).mono ?_
    rintro e wk ⟨rfl, hbk⟩
    replace HS := hide (HS.out.ext hbk)
    (try replace HLM := hide (HLM.out.ext hbk))
    (try replace HLH := hide (liE HLH.out hbk))
    clear hbk
    go_wp2_with fail
    go_ret
    exact ⟨rfl, HS.out.lo⟩
  obtain ⟨hrb, hf0, ha0⟩ := rg_yes hrg
  have HRG := hide hrg
  have HRB := hide hrb
  have HA0 := hide ha0
  clear hrg hf0 ha0 hrb
  generalize (true && coB r (folF r m0 l 0).1.d) = co
  have HRP := hide (fun dx d' A' c' W (h : RtR W d' r) (h2 : DsR W A' l) (h3 : TB W) => (repair_rite d' r A' c' l dx W h HZ.out (by rw [HNL.out]; omega) h2 h3).mono fun _ _ => rpr_all)
  have HHO := hide (fun d' A' c' W (h : RtR W d' r) (h2 : DsR W A' l) (h3 : TB W) => (hopeless_rite d' r A' c' l day W h HZ.out (by rw [HNL.out]; omega) h2 h3).mono fun _ _ => ask_all)
  have HLA := hide (fun d' A' c' W (h : RtR W d' r) (h2 : DsR W A' l) (h3 : TB W) => (latest_rite d' r A' c' l W h HZ.out (by rw [HNL.out]; omega) h2 h3).mono fun _ _ => lat_all HA0.out)
  rw [HNL.out] at HRP HHO HLA
  have HR1 := hide (HRP.out day)
  obtain ⟨ec, hec⟩ : ∃ x, rprC r l day = x := ⟨_, rfl⟩
  obtain ⟨LM, hLM⟩ : ∃ x, rprL r l day = x := ⟨_, rfl⟩
  obtain ⟨nM, hnM⟩ : ∃ x, LM.length = x := ⟨_, rfl⟩
  rw [hec, hLM, hnM] at HR1
  have HEC := hide hec
  have HLM0 := hide hLM
  have HNM := hide hnM
  clear hec hLM hnM
  obtain ⟨g9, g0, g1, g2, -⟩ := blk3 HS.out.kG
  go_wp2_with fail
  refine (HCP.out w3 HS.out.rt).mono ?_
  rintro e wpa ⟨dpa, rfl, hrp, hbp⟩
  have RPa := hide hrp
  replace HS := hide (HS.out.ext hbp)
  (try replace HLM := hide (HLM.out.ext hbp))
  (try replace HLH := hide (liE HLH.out hbp))
  clear hrp hbp g9 g0 g1 g2
  go_wp2_with fail
  refine (HDE.out wpa HS.out.ds).mono ?_
  rintro e wqa ⟨Aqa, cqa, rfl, hoq, hbq⟩
  have DQa := hide hoq.dsr.2
  replace RPa := hide (RPa.out.ext hbq)
  replace HS := hide (HS.out.ext hbq)
  (try replace HLM := hide (HLM.out.ext hbq))
  (try replace HLH := hide (liE HLH.out hbq))
  clear hoq hbq
  go_wp2_with fail
  refine (HR1.out dpa Aqa cqa wqa RPa.out DQa.out (HT.out.ext HS.out.lo)).mono ?_
  rintro e w4 ⟨AM, cM, rfl, ⟨hm, hcm⟩, hb4⟩
  replace HS := hide (HS.out.ext hb4)
  (try replace HLM := hide (HLM.out.ext hb4))
  (try replace HLH := hide (liE HLH.out hb4))
  have HLM := hide hm
  clear hm hb4 HR1 RPa DQa
  by_cases hfr : frC r l day = 0
  rotate_left
  · have e1 : ec = 3 := by rw [← HEC.out]; unfold rprC; rw [if_pos hfr]; exact frC_three HA0.out hfr
    have e2 : nM = 0 := by rw [← HNM.out, ← HLM0.out]; unfold rprL; rw [HEC.out, e1]; rfl
    subst e1 e2
    clear hfr HHO HLA HRP
    go_wp2_with fail
    refine (HKN.out w4 HS.out.lo).mono ?_
    rintro e wk ⟨rfl, hbk⟩
    replace HS := hide (HS.out.ext hbk)
    (try replace HLM := hide (HLM.out.ext hbk))
    (try replace HLH := hide (liE HLH.out hbk))
    clear hbk
    go_wp2_with fail
    go_ret
    exact ⟨rfl, HS.out.lo⟩
  have HFR := hide (frC_in hfr)
  obtain ⟨LH, hLH⟩ : ∃ x, askL r l day (if riB r = true then hpS r ((folF r m0 l 0).1.on day) else 0) = x := ⟨_, rfl⟩
  obtain ⟨nH, hnH⟩ : ∃ x, LH.length = x := ⟨_, rfl⟩
  rw [hLH, hnH, hfr] at HHO
  have HLH0 : Hid (ofN (elS (hpS r ((folF r m0 l 0).1.on day))) = LH) := hide (by rw [← hLH]; unfold askL; rw [if_pos hfr, if_pos HRB.out])
  have HNH := hide hnH
  have HEC2 : Hid (ec = if fwN r ((folF r m0 l 0).1.on day) < 11 then 0 else 7) := hide (by rw [← HEC.out]; unfold rprC; rw [if_neg (by simpa using hfr)])
  have hec3 : ¬ ec = 3 := by rw [HEC2.out]; split <;> decide
  clear hLH hnH hfr
  obtain ⟨g9, g0, g1, g2, -⟩ := blk3 HS.out.kG
  go_wp2_with fail
  refine (HCP.out w4 HS.out.rt).mono ?_
  rintro e wpb ⟨dpb, rfl, hrp, hbp⟩
  have RPb := hide hrp
  replace HS := hide (HS.out.ext hbp)
  (try replace HLM := hide (HLM.out.ext hbp))
  (try replace HLH := hide (liE HLH.out hbp))
  clear hrp hbp g9 g0 g1 g2
  go_wp2_with fail
  refine (HDE.out wpb HS.out.ds).mono ?_
  rintro e wqb ⟨Aqb, cqb, rfl, hoq, hbq⟩
  have DQb := hide hoq.dsr.2
  replace RPb := hide (RPb.out.ext hbq)
  replace HS := hide (HS.out.ext hbq)
  (try replace HLM := hide (HLM.out.ext hbq))
  (try replace HLH := hide (liE HLH.out hbq))
  clear hoq hbq
  go_wp2_with fail
  refine (HHO.out dpb Aqb cqb wqb RPb.out DQb.out (HT.out.ext HS.out.lo)).mono ?_
  rintro e w5 ⟨AH, cH, rfl, hlh, hb5⟩
  replace HS := hide (HS.out.ext hb5)
  (try replace HLM := hide (HLM.out.ext hb5))
  (try replace HLH := hide (liE HLH.out hb5))
  have HLH := hide hlh
  clear hlh hb5 HHO RPb DQb
  obtain ⟨g9, g0, g1, g2, -⟩ := blk3 HS.out.kG
  go_wp2_with fail
  refine (HCP.out w5 HS.out.rt).mono ?_
  rintro e wpc ⟨dpc, rfl, hrp, hbp⟩
  have RPc := hide hrp
  replace HS := hide (HS.out.ext hbp)
  (try replace HLM := hide (HLM.out.ext hbp))
  (try replace HLH := hide (liE HLH.out hbp))
  clear hrp hbp g9 g0 g1 g2
  go_wp2_with fail
  refine (HDE.out wpc HS.out.ds).mono ?_
  rintro e wqc ⟨Aqc, cqc, rfl, hoq, hbq⟩
  have DQc := hide hoq.dsr.2
  replace RPc := hide (RPc.out.ext hbq)
  replace HS := hide (HS.out.ext hbq)
  (try replace HLM := hide (HLM.out.ext hbq))
  (try replace HLH := hide (liE HLH.out hbq))
  clear hoq hbq
  go_wp2_with fail
  refine (HLA.out dpc Aqc cqc wqc RPc.out DQc.out (HT.out.ext HS.out.lo)).mono ?_
  rintro e w6 ⟨x, g, rfl, hx, hb6⟩
  replace HS := hide (HS.out.ext hb6)
  (try replace HLM := hide (HLM.out.ext hb6))
  (try replace HLH := hide (liE HLH.out hb6))
  have HX := hide hx
  clear hx hb6 HLA RPc DQc
  have hnH16 : nH ≤ 16 := by
    rw [← HNH.out, ← HLH0.out]
    unfold ofN; rw [List.length_map]; exact el_len _
  have hn10 := HRO.out.n10
  obtain ⟨n, hn⟩ : ∃ x, r.n = x := ⟨_, rfl⟩
  obtain ⟨la, hla⟩ : ∃ x, r.last = x := ⟨_, rfl⟩
  obtain ⟨tl, htl⟩ : ∃ x, r.toil = x := ⟨_, rfl⟩
  have HN := hide (And.intro hn (And.intro hla htl))
  rw [hn] at hn10
  rw [hn, hla, htl]
  clear hn hla htl
  obtain ⟨mu, hmu⟩ : ∃ x, (LH.any fun x => !(r.ac x.toNat).ex) = x := ⟨_, rfl⟩
  have HMU := hide hmu
  clear hmu
  go_wp2_with fail
  go_loopw [15, 16] (fun v i wr => ∃ (k : Nat) (c2 : Bool), k ≤ nH ∧ v = .bool c2 ∧ i = .int .i64 k ∧ Hid (c2 = (LH.take k).any fun x => !(r.ac x.toNat).ex) ∧ Hid (Below w6.heap.size w6 wr)) (fun _ i _ => nH - (intOf i).toNat)
  case atStart => exact ⟨0, false, Nat.zero_le _, rfl, rfl, hide rfl, hide (Below.refl _ _)⟩
  case round =>
    obtain ⟨k, c2, hk, rfl, rfl, HC2, HB⟩ := hrel
    have hst : IntKind.i64.wrap ((k : Int) + 1) = ((k + 1 : Nat) : Int) := by rw [IntWalk.i64_in _ (by omega)]; omega
    by_cases hlt : k < nH
    · have hlt' : (k : Int) < (nH : Int) := by omega
      have hkL : k < LH.length := by rw [HNH.out]; exact hlt
      have hmem : LH.getD k 0 ∈ LH := by rw [List.getD_eq_getElem?_getD, List.getElem?_eq_getElem hkL]; exact List.getElem_mem hkL
      obtain ⟨a, haa⟩ : ∃ a : Nat, LH.getD k 0 = a ∧ a < r.n := by
        rw [← HLH0.out] at hmem ⊢
        obtain ⟨y, hy, he⟩ := List.mem_map.1 (by unfold ofN at hmem; exact hmem)
        exact ⟨y, he.symm, (hp_facts HRO.out ((elS_mem (hp_lt _ _)).1 hy)).1⟩
      obtain ⟨haa, har⟩ := haa
      have han : a < n := by rw [← HN.out.1]; exact har
      have ha0 : ¬ (a : Int) < 0 := by omega
      have ha1 : ¬ (n : Int) ≤ (a : Int) := by omega
      have ha1' : (a : Int) < (n : Int) := by omega
      obtain ⟨ex, hex⟩ : ∃ x, (r.ac a).ex = x := ⟨_, rfl⟩
      have HTK : Hid (((LH.take (k + 1)).any fun x => !(r.ac x.toNat).ex) = (c2 || !ex)) := hide (by
        have e : LH[k] = (a : Int) := by rw [← haa, List.getD_eq_getElem?_getD, List.getElem?_eq_getElem hkL]; rfl
        rw [List.take_add_one, List.getElem?_eq_getElem hkL, List.any_append, ← HC2.out, e, ← hex]
        simp)
      obtain ⟨hb, ho, rfl, hhl, hhc⟩ := VR1.at_ (HLH.out) hkL
      rw [haa] at hhc
      obtain ⟨ab, ao, hra, hab, -, -, -, -, -, -, hx6⟩ := HS.out.rt.at_ har rfl
      rw [hex] at hx6
      have HS17 : Hid (∀ W, Below w6.heap.size w6 W → (W.cell? ⟨hb, ho + k, none⟩ = some (.int .i64 (a : Nat)) ∧ W.cell? ⟨G, 0, none⟩ = some (.slice (some ⟨ab, ao, none⟩) n d.c) ∧ W.cell? ⟨ab, ao + a * 7 + 6, none⟩ = some (.bool ex))) := hide fun W h => by
        obtain ⟨-, x0, -⟩ := blk3 (HS.out.ext h).kG
        rw [hra, HN.out.1] at x0
        exact ⟨(h.cell (p := ⟨hb, ho + k, none⟩) hhl).trans hhc, x0, (h.cell (p := ⟨ab, ao + a * 7 + 6, none⟩) hab).trans hx6⟩
      clear hkL hmem haa har hex hhl hhc hra hab hx6
      go_upto_region 17 with fail
      replace HB := hide (HB.out.trans ((Below.refl wr.heap.size wr).drew.mono HB.out.size))
      refine wp_region_J (fun W : World => (W.cell? ⟨hb, ho + k, none⟩ = some (.int .i64 (a : Nat)) ∧ W.cell? ⟨G, 0, none⟩ = some (.slice (some ⟨ab, ao, none⟩) n d.c) ∧ W.cell? ⟨ab, ao + a * 7 + 6, none⟩ = some (.bool ex))) (by kernel_rfl) ?_
      generalize wr.drew = wd at HB ⊢
      refine tk_start [0, 1, 2, 3, 4, 5, 6, 7, 8, 9, 10, 11, 12, 13, 14] ?_
      iterate 15
        refine tk_one (v := ?_) (by first | exact hF | exact wideFn) (HS17.out _ HB.out) rfl (by kernel_rfl) (by kernel_rfl) (by kernel_rfl) (by kernel_rfl) rfl ?_ (by first | exact fun _ _ _ h => h | exact fun _ _ _ h => hQ2 _ _ _ _ _ h) ?_
        rotate_left
        · intro W hSW
          simp only [glA, glB, glC]
          (try dsimp only at hSW)
          go_simp
          with_reducible rfl
        (try simp only [glA, glB, glC, Act.put, glD, glE, glF])
      refine tk_end ?_
      refine wpAnyJ_done (by kernel_rfl) ?_
      go_upto_region 19 with fail
      replace HB := hide (HB.out.trans ((Below.refl wd.heap.size wd).drew.mono HB.out.size))
      refine wp_region_J (fun W : World => (W.cell? ⟨hb, ho + k, none⟩ = some (.int .i64 (a : Nat)) ∧ W.cell? ⟨G, 0, none⟩ = some (.slice (some ⟨ab, ao, none⟩) n d.c) ∧ W.cell? ⟨ab, ao + a * 7 + 6, none⟩ = some (.bool ex))) (by kernel_rfl) ?_
      generalize wd.drew = we at HB ⊢
      cases c2 with
      | true =>
        refine wpAnyJ_take 0 (v := ?_) (by first | exact hF | exact wideFn) (HS17.out _ HB.out) rfl (by kernel_rfl) (by kernel_rfl) (by kernel_rfl) (by kernel_rfl) rfl ?_ (by first | exact fun _ _ _ h => h | exact fun _ _ _ h => hQ2 _ _ _ _ _ h) ?_
        rotate_left
        · intro W hSW
          simp only [glA, glB, glC]
          (try dsimp only at hSW)
          go_simp
          with_reducible rfl
        (try simp only [glA, glB, glC, Act.put, glD, glE, glF])
        refine wpAnyJ_take 1 (v := ?_) (by first | exact hF | exact wideFn) (HS17.out _ HB.out) rfl (by kernel_rfl) (by kernel_rfl) (by kernel_rfl) (by kernel_rfl) rfl ?_ (by first | exact fun _ _ _ h => h | exact fun _ _ _ h => hQ2 _ _ _ _ _ h) ?_
        rotate_left
        · intro W hSW
          simp only [glA, glB, glC]
          (try dsimp only at hSW)
          go_simp
          with_reducible rfl
        (try simp only [glA, glB, glC, Act.put, glD, glE, glF])
        refine tk_start [2, 3, 4, 5, 6, 7, 8, 9, 10, 11] ?_
        iterate 10
          refine tk_skip (by first | exact hF | exact wideFn) (HS17.out _ HB.out) rfl (by kernel_rfl) (by kernel_rfl) (by kernel_rfl) (by kernel_rfl) rfl (by first | exact fun _ _ _ h => h | exact fun _ _ _ h => hQ2 _ _ _ _ _ h) ?_
          (try simp only [glA, glB, glC, Act.put, glD, glE, glF])
        refine tk_end ?_
        refine wpAnyJ_take 12 (v := ?_) (by first | exact hF | exact wideFn) (HS17.out _ HB.out) rfl (by kernel_rfl) (by kernel_rfl) (by kernel_rfl) (by kernel_rfl) rfl ?_ (by first | exact fun _ _ _ h => h | exact fun _ _ _ h => hQ2 _ _ _ _ _ h) ?_
        rotate_left
        · intro W hSW
          simp only [glA, glB, glC]
          (try dsimp only at hSW)
          go_simp
          with_reducible rfl
        (try simp only [glA, glB, glC, Act.put, glD, glE, glF])
        refine wpAnyJ_take 13 (v := ?_) (by first | exact hF | exact wideFn) (HS17.out _ HB.out) rfl (by kernel_rfl) (by kernel_rfl) (by kernel_rfl) (by kernel_rfl) rfl ?_ (by first | exact fun _ _ _ h => h | exact fun _ _ _ h => hQ2 _ _ _ _ _ h) ?_
        rotate_left
        · intro W hSW
          simp only [glA, glB, glC]
          (try dsimp only at hSW)
          go_simp
          with_reducible rfl
        (try simp only [glA, glB, glC, Act.put, glD, glE, glF])
        refine wpAnyJ_done (by kernel_rfl) ?_
        go_wp2_with fail
        go_roundw
        case rel => exact ⟨k + 1, true, by omega, rfl, by go_num, hide (by rw [HTK.out]; rfl), HB⟩
        case measure => simp [intOf]; omega
      | false =>
        refine tk_start [0, 1, 2, 3, 4, 5, 6, 7, 8, 9, 10, 11, 12, 13] ?_
        iterate 14
          refine tk_one (v := ?_) (by first | exact hF | exact wideFn) (HS17.out _ HB.out) rfl (by kernel_rfl) (by kernel_rfl) (by kernel_rfl) (by kernel_rfl) rfl ?_ (by first | exact fun _ _ _ h => h | exact fun _ _ _ h => hQ2 _ _ _ _ _ h) ?_
          rotate_left
          · intro W hSW
            simp only [glA, glB, glC]
            (try dsimp only at hSW)
            go_simp
            with_reducible rfl
          (try simp only [glA, glB, glC, Act.put, glD, glE, glF])
        refine tk_end ?_
        refine wpAnyJ_done (by kernel_rfl) ?_
        go_wp2_with fail
        go_roundw
        case rel => exact ⟨k + 1, !ex, by omega, rfl, by go_num, hide (by rw [HTK.out]; rfl), HB⟩
        case measure => simp [intOf]; omega
    · obtain rfl : nH = k := by omega
      have hnl : ¬ (nH : Int) < (nH : Int) := by omega
      have hc2 : c2 = mu := by
        rw [HC2.out, ← HMU.out, List.take_of_length_le (by rw [HNH.out]; exact Nat.le_refl _)]
      obtain rfl : mu = c2 := hc2.symm
      replace HS := hide (HS.out.ext HB.out)
      replace HLM := hide (HLM.out.ext HB.out)
      clear HC2 HLH HB hst hlt
      have hn16 : r.n ≤ 16 := by rw [HN.out.1]; omega
      by_cases h11 : fwN r ((folF r m0 l 0).1.on day) < 11
      rotate_left
      · have e1 : ec = 7 := by rw [HEC2.out, if_neg h11]
        have e2 : nM = 0 := by rw [← HNM.out, ← HLM0.out]; unfold rprL; rw [HEC.out, e1]; rfl
        subst e1 e2
        rcases HX.out with ⟨rfl, hla⟩ | ⟨rfl, -⟩
        · have hxd : x < day := by
            rcases Int.lt_or_le x day with h | h
            · exact h
            · exact absurd (Nat.lt_of_le_of_lt (fw_mono hn16 HFR.out.1 h hla.1.2.1) hla.1.2.2) h11
          clear hla h11 HRP
          go_wp2_with fail
          refine (HKN.out wr HS.out.lo).mono ?_
          rintro e wk ⟨rfl, hbk⟩
          replace HS := hide (HS.out.ext hbk)
          (try replace HLM := hide (HLM.out.ext hbk))
          (try replace HLH := hide (liE HLH.out hbk))
          clear hbk
          go_wp2_with fail
          go_ret
          exact ⟨rfl, HS.out.lo⟩
        · clear h11 HRP
          go_wp2_with fail
          refine (HKN.out wr HS.out.lo).mono ?_
          rintro e wk ⟨rfl, hbk⟩
          replace HS := hide (HS.out.ext hbk)
          (try replace HLM := hide (HLM.out.ext hbk))
          (try replace HLH := hide (liE HLH.out hbk))
          clear hbk
          go_wp2_with fail
          go_ret
          exact ⟨rfl, HS.out.lo⟩
      · have e1 : ec = 0 := by rw [HEC2.out, if_pos h11]
        have hfd : (folF r m0 l 0).1.d < 65536 := by have h := mo_dlt HRB.out l day; rw [on_d] at h; exact h
        have hlm : rpL r ((folF r m0 l 0).1.on day) (fwN r ((folF r m0 l 0).1.on day)) = LM := by rw [← HLM0.out]; unfold rprL; rw [HEC.out, e1, if_pos rfl]
        have hml : nM = fwN r ((folF r m0 l 0).1.on day) := by rw [← HNM.out, ← hlm, rp_len hn16 _ _ _ (Nat.le_refl _) rfl h11]
        have hmn : nM ≤ n := by
          rw [hml, ← HN.out.1]
          exact Nat.le_trans (fw_un hn16 _ _ (Nat.le_refl _) h11) (un_le _ _)
        have e2 : mu = false := by
          rw [← HMU.out, ← HLH0.out, List.any_eq_false]
          intro y hy
          unfold ofN at hy
          obtain ⟨z, hz, rfl⟩ := List.mem_map.1 hy
          have h5 := fw_hope HRO.out (by rw [on_d]; exact hfd) (by rw [on_dayA]; exact HFR.out.2) h11 ((elS_mem (hp_lt _ _)).1 hz)
          simp [h5]
        obtain ⟨e3, hx1⟩ : g = 0 ∧ LatR r (folF r m0 l 0).1 x := by
          rcases HX.out with h | ⟨-, h⟩
          · exact h
          · exact absurd h11 (h day HFR.out.1 HFR.out.2)
        have hxd : ¬ x < day := fun h => hx1.2 day h HFR.out.2 h11
        obtain ⟨hw1, hw2, hw3⟩ := repair_whole HRO.out HRG.out HFR.out.1 HFR.out.2 h11
        rw [hlm] at hw1 hw2 hw3
        have HW := hide hw1
        have HWD := hide hw2
        have HWL := hide hw3
        have HLX := hide hx1
        have HML := hide hml
        subst e1 e2 e3
        clear h11 hfd hlm hml hx1 hw1 hw2 hw3 HMU
        have hmn' : ¬ (n : Int) < (nM : Int) := by omega
        obtain ⟨g9, g0, g1, g2, -⟩ := blk3 HS.out.kG
        rw [HN.out.1] at g0
        rw [HN.out.2.1] at g1
        rw [HN.out.2.2] at g2
        go_wp2_with fail
        refine (HDE.out wr HS.out.ds).mono ?_
        rintro e w7 ⟨A5, c5, rfl, ho5, hb7⟩
        clear g9 g0 g1 g2
        obtain ⟨v9, w9, hrun, ho9, hg9⟩ := OwnD.pushes ho5 AM cM LM (HLM.out.ext hb7) (by have := HNL.out; have := HNM.out; omega) hb7.size
        have hb9 : Below wr.heap.size wr w9 := hb7.grown hg9 hb7.size (fun j e => (World.ownsRow.lt ho5 j e).1)
        obtain ⟨A9, c9, rfl⟩ := own_shape ho9
        rw [HNM.out] at hrun
        obtain ⟨q, hq⟩ : ∃ x, (l ++ LM).length = x := ⟨_, rfl⟩
        rw [hq] at hrun ho9
        have D9 := hide ho9.dsr.2
        replace HS := hide (HS.out.ext hb9)
        (try replace HLM := hide (HLM.out.ext hb9))
        (try replace HLH := hide (liE HLH.out hb9))
        have HRUN := hide hrun
        have HR2 := HRI.out d A9 c9 (l ++ LM) (by rw [List.length_append]; have := HNL.out; have := HNM.out; omega) w9 HS.out.rt D9.out
        rw [hq, HW.out.1, HW.out.2, HN.out.1, HN.out.2.1, HN.out.2.2] at HR2
        replace HR2 := hide HR2
        clear hrun ho9 hg9 hb9 hb7 ho5 D9 hq HW
        obtain ⟨g9, g0, g1, g2, -⟩ := blk3 HS.out.kG
        rw [HN.out.1] at g0
        rw [HN.out.2.1] at g1
        rw [HN.out.2.2] at g2
        go_wp2_with (at_builtin; refine wpList_append_run rfl (.tmp 149) (.tmp 150) 25 rfl rfl rfl HRUN.out ?_)
        refine HR2.out.mono ?_
        rintro e w10 ⟨rfl, hb10⟩
        replace HS := hide (HS.out.ext hb10)
        (try replace HLM := hide (HLM.out.ext hb10))
        (try replace HLH := hide (liE HLH.out hb10))
        clear hb10 HR2 HRUN g9 g0 g1 g2
        go_wp2_with fail
        go_loopw [20] (fun i wr => ∃ k : Nat, k ≤ nM ∧ i = .int .i64 k ∧ Hid (Below w10.heap.size w10 wr)) (fun i _ => nM - (intOf i).toNat)
        case atStart => exact ⟨0, Nat.zero_le _, rfl, hide (Below.refl _ _)⟩
        case round =>
          obtain ⟨k, hk, rfl, HB⟩ := hrel
          have hst : IntKind.i64.wrap ((k : Int) + 1) = ((k + 1 : Nat) : Int) := by rw [IntWalk.i64_in _ (by omega)]; omega
          by_cases hlt : k < nM
          · have hlt' : (k : Int) < (nM : Int) := by omega
            obtain ⟨⟨yd, ya⟩, hy⟩ : ∃ y, LM.getD k (0, 0) = y := ⟨_, rfl⟩
            have hkM : k < LM.length := by rw [HNM.out]; exact hlt
            obtain ⟨mb, mo, rfl, hml, hm0, hm1⟩ := HLM.out.at_ hkM hy
            have hyd : ¬ yd < day := by
              have h1 : LM.getD k (0, 0) ∈ LM := by rw [List.getD_eq_getElem?_getD, List.getElem?_eq_getElem hkM]; exact List.getElem_mem hkM
              have h2 := HWD.out _ h1
              rw [hy] at h2
              dsimp only at h2
              omega
            have hLs : (LM.take k).length = k := by rw [List.length_take]; omega
            have hLd : (LM.drop (k + 1)).length = nM - (k + 1) := by rw [List.length_drop, HNM.out]
            have q0 := (HB.out.cell (p := ⟨mb, mo + k * 2, none⟩) hml).trans hm0
            have hst2 : k ≤ cM := by omega
            have hst3 : k + 1 ≤ nM := by omega
            have hst4 : k + 1 ≤ cM := by omega
            dsimp only at q0
            clear hml hm0 hm1 hy
            go_upto_region 33 with fail
            replace HB := hide (HB.out.trans ((Below.refl wr.heap.size wr).drew.mono HB.out.size))
            refine wp_region_J (fun W : World => True) (by kernel_rfl) ?_
            generalize wr.drew = wd at HB ⊢
            refine tk_start [0, 2, 3, 4, 6, 7, 8] ?_
            iterate 7
              refine tk_one (v := ?_) (by first | exact hF | exact wideFn) trivial rfl (by kernel_rfl) (by kernel_rfl) (by kernel_rfl) (by kernel_rfl) rfl ?_ (by first | exact fun _ _ _ h => h | exact fun _ _ _ h => hQ2 _ _ _ _ _ h) ?_
              rotate_left
              · intro W hSW
                simp only [glA, glB, glC]
                (try dsimp only at hSW)
                go_simp
                with_reducible rfl
              (try simp only [glA, glB, glC, Act.put, glD, glE, glF])
            refine tk_end ?_
            obtain ⟨B, hB⟩ : ∃ B, (if cM = k + 1 then some (⟨mb, mo, none⟩ : Addr) else some ⟨mb, mo + (k + 1) * 2, none⟩) = B := ⟨_, rfl⟩
            have HBD : Hid (k + 1 < LM.length → B = some ⟨mb, mo + (k + 1) * 2, none⟩) := hide fun h => by
              rw [← hB, if_neg (by have := HNM.out; omega)]
            have hs5 : 0 ≤ (k : Int) + 1 := by omega
            have hs6 : (k : Int) + 1 ≤ (nM : Int) := by omega
            refine wpAnyJ_take 9 (v := ?_) (by first | exact hF | exact wideFn) trivial rfl (by kernel_rfl) (by kernel_rfl) (by kernel_rfl) (by kernel_rfl) rfl ?_ (by first | exact fun _ _ _ h => h | exact fun _ _ _ h => hQ2 _ _ _ _ _ h) ?_
            rotate_left
            · intro W hSW
              simp only [glA, glB, glC]
              (try dsimp only at hSW)
              go_simp
              with_reducible rfl
            (try simp only [glA, glB, glC, Act.put, glD, glE, glF])
            clear hB hs5 hs6
            have HLMd := hide (HLM.out.ext HB.out)
            have HSd := hide (HS.out.ext HB.out)
            refine wpAnyJ_one 1 rfl (by kernel_rfl) (fun K hK => ?_)
            simp only [glA, glB, glC]
            go_simp
            refine ⟨trivial, rfl, ?_⟩
            refine (callsIn_wide.2 (HDE.out wd HSd.out.ds)).mono ?_
            rintro e w8 ⟨A8, c8, rfl, ho8, hb8⟩
            skip
            dsimp only
            refine hK.out _ _ (fun _ => trivial) ?_
            clear hK K
            (try simp only [glA, glB, glC, Act.put, glD, glE, glF])
            obtain ⟨v1, wx, hr1, ho1, hg1⟩ := OwnD.pushes ho8 (some ⟨mb, mo, none⟩) cM (LM.take k) ((HLMd.out.ext hb8).take2 k) (by rw [hLs]; have := HNL.out; have := HNM.out; omega) hb8.size
            have hbx : Below wd.heap.size wd wx := hb8.grown hg1 hb8.size (fun j e => (World.ownsRow.lt ho8 j e).1)
            rw [hLs] at hr1
            have HR1 := hide hr1
            obtain ⟨v2, wy, hr2, ho2, hg2⟩ := OwnD.pushes ho1 B (cM - (k + 1)) (LM.drop (k + 1)) ((HLMd.out.ext hbx).drop HBD.out) (by rw [List.length_append, hLs, hLd]; have := HNL.out; have := HNM.out; omega) hbx.size
            have hby : Below wd.heap.size wd wy := hbx.grown hg2 hbx.size (fun j e => (World.ownsRow.lt ho1 j e).1)
            rw [hLd] at hr2
            obtain ⟨A3, c3, rfl⟩ := own_shape ho2
            obtain ⟨q, hq⟩ : ∃ x, (l ++ LM.take k ++ LM.drop (k + 1)).length = x := ⟨_, rfl⟩
            rw [hq] at hr2 ho2
            have D3 := hide ho2.dsr.2
            have HR2 := hide hr2
            have HBY := hide hby
            have HR3 := HRI.out d A3 c3 (l ++ LM.take k ++ LM.drop (k + 1)) (by rw [List.length_append, List.length_append, hLs, hLd]; have := HNL.out; have := HNM.out; omega) wy (HSd.out.ext hby).rt D3.out
            rw [hq, HN.out.1, HN.out.2.1, HN.out.2.2] at HR3
            obtain ⟨b1, hb1⟩ : ∃ x, rgB r (l ++ LM.take k ++ LM.drop (k + 1)) = x := ⟨_, rfl⟩
            obtain ⟨b2, hb2⟩ : ∃ x, (b1 && coB r (folF r m0 (l ++ LM.take k ++ LM.drop (k + 1)) 0).1.d) = x := ⟨_, rfl⟩
            have hbb : b1 = true → b2 = false := fun h1 => by
              have h5 := HWL.out (LM.take k ++ LM.drop (k + 1)) (fun y hy => by
                rcases List.mem_append.1 hy with h | h
                · exact HWD.out y (List.mem_of_mem_take h)
                · exact HWD.out y (List.mem_of_mem_drop h)) (by rw [List.length_append, hLs, hLd, HNM.out]; omega)
              rw [← List.append_assoc, hb1, h1] at h5
              rw [h1, Bool.true_and] at hb2
              rcases hb3 : b2 with _ | _
              · rfl
              · rw [hb3] at hb2
                exact absurd ⟨rfl, hb2⟩ h5
            rw [hb1, hb2] at HR3
            replace HR3 := hide HR3
            have HBB := hide hbb
            clear hr1 ho1 hg1 hr2 ho2 hg2 hbx hby hq hb1 hb2 hbb ho8 hb8 hLs hLd HBD D3
            refine wpAnyJ_one 5 rfl (by kernel_rfl) (fun K hK => ?_)
            rw [if_pos (by rfl)]
            refine wpIn_append_run (.tmp 178) (.tmp 181) 25 wideFn rfl rfl rfl HR1.out ?_
            refine hK.out _ _ (fun _ => trivial) ?_
            clear hK K
            (try simp only [glA, glB, glC, Act.put, glD, glE, glF])
            refine wpAnyJ_one 10 rfl (by kernel_rfl) (fun K hK => ?_)
            rw [if_pos (by rfl)]
            refine wpIn_append_run (.tmp 182) (.tmp 186) 25 wideFn rfl rfl rfl HR2.out ?_
            refine hK.out _ _ (fun _ => trivial) ?_
            clear hK K
            (try simp only [glA, glB, glC, Act.put, glD, glE, glF])
            refine wpAnyJ_take 11 (v := ?_) (by first | exact hF | exact wideFn) trivial rfl (by kernel_rfl) (by kernel_rfl) (by kernel_rfl) (by kernel_rfl) rfl ?_ (by first | exact fun _ _ _ h => h | exact fun _ _ _ h => hQ2 _ _ _ _ _ h) ?_
            rotate_left
            · intro W hSW
              simp only [glA, glB, glC]
              (try dsimp only at hSW)
              go_simp
              with_reducible rfl
            (try simp only [glA, glB, glC, Act.put, glD, glE, glF])
            refine wpAnyJ_done (by kernel_rfl) ?_
            have HSy := hide (HSd.out.ext HBY.out)
            obtain ⟨g9, g0, g1, g2, -⟩ := blk3 HSy.out.kG
            rw [HN.out.1] at g0
            rw [HN.out.2.1] at g1
            rw [HN.out.2.2] at g2
            go_wp2_with fail
            refine HR3.out.mono ?_
            rintro e wz ⟨rfl, hbz⟩
            replace HB := hide (HB.out.trans ((HBY.out.trans (hbz.mono HBY.out.size)).mono HB.out.size))
            clear hbz HR3 g9 g0 g1 g2 HR1 HR2 HBY HSy HSd HLMd
            cases b1 with
            | false =>
              go_wp2_with fail
              go_roundw
              case rel => exact ⟨k + 1, by omega, by go_num, HB⟩
              case measure => simp [intOf]; omega
            | true =>
              have h2 := HBB.out rfl
              subst h2
              go_wp2_with fail
              go_roundw
              case rel => exact ⟨k + 1, by omega, by go_num, HB⟩
              case measure => simp [intOf]; omega
          · obtain rfl : nM = k := by omega
            have hnl : ¬ (nM : Int) < (nM : Int) := by omega
            replace HS := hide (HS.out.ext HB.out)
            by_cases hdx : day < x
            · obtain ⟨ec2, hec2⟩ : ∃ y, rprC r l (day + 1) = y := ⟨_, rfl⟩
              obtain ⟨LX, hLX⟩ : ∃ y, rprL r l (day + 1) = y := ⟨_, rfl⟩
              obtain ⟨nX, hnX⟩ : ∃ y, LX.length = y := ⟨_, rfl⟩
              have hn16 : r.n ≤ 16 := by rw [HN.out.1]; omega
              have hd1 : day + 1 ≤ r.last := by have := HLX.out.1.2.1; omega
              have hm1 := HFR.out.1
              have hf1 : frC r l (day + 1) = 0 := by unfold frC; rw [if_pos HA0.out, if_pos ⟨by omega, hd1⟩]
              have hw1 := Nat.lt_of_le_of_lt (fw_mono hn16 (show (folF r m0 l 0).1.day ≤ day + 1 by omega) (show day + 1 ≤ x by omega) HLX.out.1.2.1) HLX.out.1.2.2
              have e1 : ec2 = 0 := by rw [← hec2]; unfold rprC; rw [if_neg (by simp [hf1]), if_pos hw1]
              have e2 : nM ≤ nX := by
                rw [← hnX, ← hLX, HML.out]
                unfold rprL
                rw [hec2, e1, if_pos rfl, rp_len hn16 _ _ _ (Nat.le_refl _) rfl hw1]
                exact fw_mono hn16 hm1 (by omega) hd1
              have e3 : ¬ nX < nM := by omega
              have e3' : ¬ (nX : Int) < (nM : Int) := by omega
              have hstd : IntKind.i64.wrap (day + 1) = day + 1 := by
                rw [IntWalk.i64_in _ ?_]
                have h0 := (fol_ok HRO.out l m0 0 (m0_ok HRO.out)).d0
                have h30 := HRO.out.l30
                omega
              have HR1 := hide (HRP.out (day + 1))
              rw [hec2, hLX, hnX, e1] at HR1
              clear hec2 hLX hnX hn16 hd1 hm1 hf1 hw1 e1 e2
              obtain ⟨g9, g0, g1, g2, -⟩ := blk3 HS.out.kG
              go_wp2_with fail
              refine (HCP.out wr HS.out.rt).mono ?_
              rintro e wpe ⟨dpe, rfl, hrp, hbp⟩
              have RPe := hide hrp
              replace HS := hide (HS.out.ext hbp)
              (try replace HLM := hide (HLM.out.ext hbp))
              (try replace HLH := hide (liE HLH.out hbp))
              clear hrp hbp g9 g0 g1 g2
              go_wp2_with fail
              refine (HDE.out wpe HS.out.ds).mono ?_
              rintro e wqe ⟨Aqe, cqe, rfl, hoq, hbq⟩
              have DQe := hide hoq.dsr.2
              replace RPe := hide (RPe.out.ext hbq)
              replace HS := hide (HS.out.ext hbq)
              (try replace HLM := hide (HLM.out.ext hbq))
              (try replace HLH := hide (liE HLH.out hbq))
              clear hoq hbq
              go_wp2_with fail
              refine (HR1.out dpe Aqe cqe wqe RPe.out DQe.out (HT.out.ext HS.out.lo)).mono ?_
              rintro e w11 ⟨AX, cX, rfl, -, hb11⟩
              replace HS := hide (HS.out.ext hb11)
              (try replace HLM := hide (HLM.out.ext hb11))
              (try replace HLH := hide (liE HLH.out hb11))
              clear hb11 HR1 RPe DQe
              go_wp2_with fail
              refine (HKN.out w11 HS.out.lo).mono ?_
              rintro e wk ⟨rfl, hbk⟩
              replace HS := hide (HS.out.ext hbk)
              (try replace HLM := hide (HLM.out.ext hbk))
              (try replace HLH := hide (liE HLH.out hbk))
              clear hbk
              go_wp2_with fail
              go_ret
              exact ⟨rfl, HS.out.lo⟩
            · go_wp2_with fail
              refine (HKN.out wr HS.out.lo).mono ?_
              rintro e wk ⟨rfl, hbk⟩
              replace HS := hide (HS.out.ext hbk)
              (try replace HLM := hide (HLM.out.ext hbk))
              (try replace HLH := hide (liE HLH.out hbk))
              clear hbk
              go_wp2_with fail
              go_ret
              exact ⟨rfl, HS.out.lo⟩
end Go.Proofs.YtcgdalabenflmaaDoor
namespace Go.Proofs.YtcgdalabenflmaaDoor.riteRepaired
open Go Go.ChangeShapes Go.WideShapes Go.ChangeAt Go.RowKit
set_option maxRecDepth 100000 in
theorem lifted (os : Os) (started : os.Started) (H : Type) (enc : TypeId × Value → H) :
    ReturnsInHanded {} Tryd.checked os 5 .any (fun w args => (Rows.riteRepairedSpec.pre enc Tryd.prog Tryd.f5 Rows.riteRepairedRow.domain false w args ∧ laidMetH Tryd.prog Rows.riteRepairedRow.laid w) ∧ sizedMet enc Tryd.prog Tryd.f5 (OpenSpec.ofChange Rows.riteRepairedSpec) false w args)
      (Rows.riteRepairedSpec.post enc Tryd.prog Tryd.f5 false true false false) := by
  refine returnsInHanded_of_change_and (C := Tryd.checked) (X := fun w _ => laidMetH Tryd.prog Rows.riteRepairedRow.laid w) (fun _ _ _ hh h => h.of_heap hh) own_knob started (by kernel_rfl) Tryd.func5
    (ChangeSpec.witness_shaped (enc := enc) (C := Tryd.checked) (os := os) (X := fun w _ => laidMetH Tryd.prog Rows.riteRepairedRow.laid w) false (World.laidAll Tryd.prog os Rows.riteRepairedRow.laid) #[.agg #[.slice none 0 0, .int .i64 0, .int .i64 0], .slice none 0 0, .int .i64 0] 8 (World.laidAll_os _ _ _)
      (World.shaped_of_ZipB (by kernel_rfl) (by kernel_rfl)) (by kernel_rfl) (by kernel_rfl) (by kernel_rfl)
      (by rw [MakeChecks.laidMetH_plain _ _ _ (by kernel_rfl)]; exact laidMet_laidAll _ (by kernel_rfl) (by kernel_rfl))) ?_
  intro W base args ds gs before hval0 hW _ _ hL _
  have hval : ∀ (j : Nat) t v, Tryd.f5.params[j]? = some t → args[j]? = some v → Value.okWide Tryd.prog W .any base t v := hval0
  have hW' := hW
  have hlt : ∀ p ∈ before, p.block < W.heap.size := fun p hp => hW.lt p hp
  obtain ⟨p, q, hA0, hV, rfl, hfz, hnd⟩ := hW
  have hA : DataW.TrodAll enc Tryd.prog W 0 (fun _ => true) true Tryd.f5.params.toList args.toList ds p := hA0
  rw [Tryd.params5] at hA hval
  obtain ⟨v0, vs0, d0, ds0, p0, q0, hargs, rfl, rfl, h0, r0⟩ := trodAll_cons hA
  obtain ⟨v1, vs1, d1, ds1, p1, q1, rfl, rfl, rfl, h1, r1⟩ := trodAll_cons r0
  obtain ⟨v2, vs2, d2, ds2, p2, q2, rfl, rfl, rfl, h2, r2⟩ := trodAll_cons r1
  obtain ⟨rfl, rfl, rfl⟩ := trodAll_nil r2
  obtain rfl : args = #[v0, v1, v2] := by cases args; simp_all
  obtain ⟨rfl, rfl⟩ := trodVars_none hV
  have k0 := hval 0 24 v0 rfl rfl
  have k1 := hval 1 25 v1 rfl rfl
  have k2 := hval 2 3 v2 rfl rfl
  have hT : TB W := tb_laid hL (by kernel_rfl) (.head _) (by kernel_rfl)
  obtain ⟨e0, l0, rfl, -, s0, -, -⟩ := open_riteV k0 h0 (fun x hx => hlt x (by simp [hx]))
  obtain ⟨A1, c1, u1, rfl, -, s1, -⟩ := open_deedsV k1 h1 (fun x hx => hlt x (by simp [hx]))
  obtain ⟨a2, rfl, -, -⟩ := open_intV k2 h2
  clear hA0 hval0
  refine (repaired_any e0 l0 A1 c1 u1 a2 W s0 s1 hT).mono fun e W' ⟨he, hb⟩ => ?_
  subst he
  exact ⟨_, rfl, law_post hW' hb rfl rfl (by kernel_rfl) ⟨rfl, rfl, rfl⟩⟩
theorem over : Rows.riteRepairedRow.holds Tryd.pinned (OpenSpec.ofChange Rows.riteRepairedSpec) :=
  OpenClaim.holds_of_wide 5 Tryd.f5 rfl rfl rfl rfl rfl rfl rfl ⟨rfl, rfl, rfl, rfl, rfl⟩ rfl rfl rfl rfl rfl (by kernel_rfl) Tryd.func5 (by kernel_rfl)
    (of_decide_eq_true (by kernel_rfl)) (by unfold Func.isWrapper; first | (rw [if_pos (by decide +kernel)]; kernel_rfl) | (rw [if_neg (by decide +kernel)]; exact ⟨rfl, rfl⟩))
    (fun os started H enc _ => lifted os started H enc)
theorem proved : Rows.RiteRepairedCardSaid :=
  Claim7.holds_tied_plain_at .later [] [.data, .data, .data, .data, .pinned] true (true, "376b80f4633cca043c83d1652b79e11020b8f3081dfa86be3e3dff3f771ffefe") false over (fun _ h => by cases h) (by kernel_rfl) (fun _ h => by cases h) riteRepaired_row_tie rfl ⟨rfl, rfl⟩ (by kernel_rfl) rfl
    (fun f fn hf hfn => by
      obtain rfl : f = 5 := Option.some.inj ((show Tryd.prog.funcNamed "chiti/chitilaw09.RiteRepaired" = some 5 by kernel_rfl).symm.trans hf) |>.symm
      obtain rfl : fn = Tryd.f5 := (Option.some.inj (Tryd.func5.symm.trans hfn)).symm
      exact ⟨by kernel_rfl, fun j t ht => by
        rw [Tryd.params5] at ht
        have hm : t ∈ ([24, 25, 3] : List TypeId) := by simpa using Array.mem_of_getElem? ht
        have hall : (([24, 25, 3] : List TypeId).all fun u => !Tryd.prog.wantsStandIn u) = true := by kernel_rfl
        exact (show Tryd.prog.wantsStandIn t = false by simpa using List.all_eq_true.1 hall t hm)⟩)
    (by kernel_rfl)
#print axioms proved
end Go.Proofs.YtcgdalabenflmaaDoor.riteRepaired
