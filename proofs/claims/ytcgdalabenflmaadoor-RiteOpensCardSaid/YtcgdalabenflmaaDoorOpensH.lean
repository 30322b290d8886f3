/- Rite: the law RiteOpens: the row and the tied card. -/
import Derived.Test.YtcgdalabenflmaaDoorOpensG
import Derived.Test.YtcgdalabenflmaaDoorRows
import Derived.ProofKit
import Derived.OpenShut
import Derived.Carry
import Derived.ChangeSame
import Derived.Deep.SlicePairs
import Derived.ChangeSlices
import Derived.Deep.Fields
import Derived.Lib.LaidU8
import Derived.MakeChecks
import Derived.Test.YtcgdalabenflmaaDoorCards
import Derived.Test.YtcgdalabenflmaaDoorTie
import Derived.LaidMore
import Derived.Lay
import Derived.SevenTiedAt
import Derived.Stop.Joined
set_option linter.unusedSimpArgs false
set_option linter.unusedVariables false
set_option linter.unnecessarySimpa false
/- Rite: the laws' helpers: right, good. -/
namespace Go.Proofs.YtcgdalabenflmaaDoor
open List renaming getElem_toArray → glA, getElem_cons_zero → glB, getElem_cons_succ → glC, setIfInBounds_toArray → glD, set_cons_zero → glE, set_cons_succ → glF
open Go Go.RowKit Go.Shelf
set_option maxHeartbeats 8000000
set_option maxRecDepth 100000
theorem fol_at {r : Rit} : ∀ (l : List (Int × Int)) (m : Mom) (i : Nat), (folF r m l i).2.2 = 0 → (folF r m l i).2.1 = -1
  | [], _, _, _ => rfl
  | x :: l, m, i, h => by
    unfold folF at h ⊢
    split at h
    · cases h
    · rename_i h1
      rw [if_neg h1]
      split at h
      · rename_i h2; exact absurd h h2
      · rename_i h2
        rw [if_neg h2]
        exact fol_at l _ _ h
/-- whether a course keeps all rules -/
def rgB (r : Rit) (l : List (Int × Int)) : Bool := decide (aftC r l = 0)
theorem rg_yes {r : Rit} {l : List (Int × Int)} (h : rgB r l = true) : riB r = true ∧ (folF r m0 l 0).2.2 = 0 ∧ aftC r l = 0 :=
  have h1 : aftC r l = 0 := of_decide_eq_true h
  ⟨(aftC_ok h1).1, (aftC_ok h1).2, h1⟩
theorem right_any (d : Rad) (r : Rit) (A : Option Addr) (c : Nat) (l : List (Int × Int)) (w : World) (hd : RtR w d r) (hz : RtZ r) (hl : l.length ≤ 1000000) (hD : DsR w A l) :
    Calls Tryd.prog 28 #[.agg #[.slice d.A r.n d.c, .int .i64 r.last, .int .i64 r.toil], .slice A l.length c] w fun e w' => e = .returned (.tuple #[.bool (rgB r l), .bool (rgB r l && coB r (folF r m0 l 0).1.d)]) ∧ Below w.heap.size w w' := by
  have HB1 : Hid (Below w.heap.size w (w.alloc (.cells #[.slice d.A r.n d.c, .int .i64 r.last, .int .i64 r.toil] 24))) := hide ((Below.refl _ _).alloc (Nat.le_refl _) _)
  have G1 := hide (Blk.new w 24 #[.slice d.A r.n d.c, .int .i64 r.last, .int .i64 r.toil])
  have HCP := hide (fun W (h : RtR W d r) => copied_any d r W h hz)
  have HDE : Hid (∀ W, DsR W A l → _) := hide (fun W (h : DsR W A l) => deeds_any A c l W h hl)
  have HJU := hide (fun d' A' c' W (h : RtR W d' r) (h2 : DsR W A' l) => judge_any d' r A' c' l W h hz hl h2)
  have HCO := hide (fun d' A' c' W (h : RtR W d' r) (h2 : DsR W A' l) => complete_rite d' r A' c' l W h hz hl h2)
  have HR := hide (hd.ext HB1.out)
  have HD := hide (hD.ext HB1.out)
  unfold CpPost at HCP
  obtain ⟨n, hn⟩ : ∃ n, l.length = n := ⟨_, rfl⟩
  rw [hn] at HDE HJU HCO ⊢
  obtain ⟨g, hg⟩ : ∃ x, rgB r l = x := ⟨_, rfl⟩
  have HG := hide hg
  rw [hg]
  clear hd hz hD hl hn hg
  go_enter Tryd.func28, Tryd.ntmps28
  go_upto_region 1 with fail
  generalize w.alloc (.cells #[.slice d.A r.n d.c, .int .i64 r.last, .int .i64 r.toil] 24) = w1 at HB1 G1 HR HD ⊢
  obtain ⟨G, hG⟩ : ∃ x, w.heap.size = x := ⟨_, rfl⟩
  rw [hG] at G1 ⊢
  clear hG
  obtain ⟨g9, g0, g1, g2, -⟩ := blk3 G1.out
  go_wp2_with fail
  refine (HCP.out w1 HR.out).mono ?_
  rintro e w2 ⟨d2, rfl, hr2, hb2⟩
  have R2 := hide hr2
  have D2 := hide (HD.out.ext hb2)
  replace HR := hide (HR.out.ext hb2)
  replace G1 := hide (G1.out.ext hb2)
  replace HB1 := hide (HB1.out.trans (hb2.mono HB1.out.size))
  clear g9 g0 g1 g2 hr2 hb2 HD
  go_wp2_with fail
  refine (HDE.out w2 D2.out).mono ?_
  rintro e w3 ⟨A3, c3, rfl, ho3, hb3⟩
  have D3 : Hid (DsR w3 A3 l) := hide ho3.dsr.2
  replace R2 := hide (R2.out.ext hb3)
  replace D2 := hide (D2.out.ext hb3)
  replace HR := hide (HR.out.ext hb3)
  replace G1 := hide (G1.out.ext hb3)
  replace HB1 := hide (HB1.out.trans (hb3.mono HB1.out.size))
  clear ho3 hb3
  go_wp2_with fail
  refine (HJU.out d2 A3 c3 w3 R2.out D3.out).mono ?_
  rintro e w4 ⟨rfl, hb4⟩
  replace D2 := hide (D2.out.ext hb4)
  replace HR := hide (HR.out.ext hb4)
  replace G1 := hide (G1.out.ext hb4)
  replace HB1 := hide (HB1.out.trans (hb4.mono HB1.out.size))
  clear hb4 R2 D3 HJU
  cases g with
  | false =>
    have hno : (if riB r = true then (0 : Int) else 2) = 0 → (if riB r = true then (folF r m0 l 0).2.2 else 0) ≠ 0 := fun h1 h2 => by
      have h3 : rgB r l = true := by
        unfold rgB aftC
        by_cases hr : riB r = true
        · rw [if_pos hr] at h2 ⊢
          rw [if_pos h2]; rfl
        · rw [if_neg hr] at h1; cases h1
      rw [HG.out] at h3
      cases h3
    generalize (if riB r = true then (folF r m0 l 0).2.1 else 0) = at_
    revert hno
    generalize (if riB r = true then (folF r m0 l 0).2.2 else 0) = ru
    generalize (if riB r = true then (0 : Int) else 2) = er
    intro hno
    by_cases h1 : er = 0
    · have h2 := hno h1
      have e1 : (er != 0) = false := by rw [h1]; rfl
      have e2 : (ru != 0) = true := by rw [bne_iff_ne]; exact h2
      clear hno h1 h2
      rcases hat : (at_ != -1) with _ | _
      · go_wp2_with fail
        go_ret2
        exact ⟨rfl, HB1.out⟩
      · go_wp2_with fail
        go_ret2
        exact ⟨rfl, HB1.out⟩
    · have e1 : (er != 0) = true := by rw [bne_iff_ne]; exact h1
      clear hno h1
      go_wp2_with fail
      go_ret2
      exact ⟨rfl, HB1.out⟩
  | true =>
    obtain ⟨h1, h2, h3⟩ := rg_yes HG.out
    have h4 := fol_at l m0 0 h2
    rw [if_pos h1, if_pos h1, if_pos h1, h2, h4]
    have HA0 := hide h3
    clear h1 h2 h3 h4
    obtain ⟨g9, g0, g1, g2, -⟩ := blk3 G1.out
    go_wp2_with fail
    refine (HCP.out w4 HR.out).mono ?_
    rintro e w5 ⟨d5, rfl, hr5, hb5⟩
    have R5 := hide hr5
    replace D2 := hide (D2.out.ext hb5)
    replace HB1 := hide (HB1.out.trans (hb5.mono HB1.out.size))
    clear g9 g0 g1 g2 hr5 hb5
    go_wp2_with fail
    refine (HDE.out w5 D2.out).mono ?_
    rintro e w6 ⟨A6, c6, rfl, ho6, hb6⟩
    have D6 : Hid (DsR w6 A6 l) := hide ho6.dsr.2
    replace R5 := hide (R5.out.ext hb6)
    replace HB1 := hide (HB1.out.trans (hb6.mono HB1.out.size))
    clear ho6 hb6
    go_wp2_with fail
    refine (HCO.out d5 A6 c6 w6 R5.out D6.out).mono ?_
    rintro e w7 ⟨⟨h7, -⟩ | ⟨-, -, rfl⟩, hb7⟩
    · exact absurd HA0.out h7
    replace HB1 := hide (HB1.out.trans (hb7.mono HB1.out.size))
    clear hb7
    go_wp2_with fail
    go_ret2
    exact ⟨rfl, HB1.out⟩
theorem lo_z {r : Rit} {l : List (Int × Int)} (h : loF r l = false) : RtZ r ∧ l.length ≤ 20 := by
  unfold loF at h
  rw [Bool.or_eq_false_iff, Bool.or_eq_false_iff] at h
  obtain ⟨h1, h2, h3⟩ := h
  have hn : r.n ≤ 12 := by simpa using h2
  have hk : ∀ k, k < r.n → (r.ac k).nm.size ≤ 20 ∧ (r.ac k).nd.length ≤ 12 ∧ (r.ac k).ins.length ≤ 12 := fun k hk => by
    have h4 := List.any_eq_false.1 h1 k (List.mem_range.2 (by omega))
    unfold loA at h4
    simp at h4
    omega
  exact ⟨⟨by omega, fun k h => by have := hk k h; omega, fun k h => by have := hk k h; omega, fun k h => by have := hk k h; omega⟩, by simpa using h3⟩
/-- whether a rite is looked at -/
def gdB (r : Rit) (l : List (Int × Int)) : Bool := !loF r l && riB r
theorem gd_yes {r : Rit} {l : List (Int × Int)} (h : gdB r l = true) : RiOk r ∧ RtZ r ∧ l.length ≤ 20 ∧ riB r = true := by
  unfold gdB at h
  rw [Bool.and_eq_true] at h
  have h1 : loF r l = false := by simpa using h.1
  exact ⟨riB_ok h.2, (lo_z h1).1, (lo_z h1).2, h.2⟩
theorem good_any (d : Rad) (r : Rit) (A : Option Addr) (c : Nat) (l : List (Int × Int)) (w : World) (hd : RtR w d r) :
    Calls Tryd.prog 27 #[.agg #[.slice d.A r.n d.c, .int .i64 r.last, .int .i64 r.toil], .slice A l.length c] w fun e w' => e = .returned (.bool (gdB r l)) ∧ Below w.heap.size w w' := by
  have HB1 : Hid (Below w.heap.size w (w.alloc (.cells #[.slice d.A r.n d.c, .int .i64 r.last, .int .i64 r.toil] 24))) := hide ((Below.refl _ _).alloc (Nat.le_refl _) _)
  have G1 := hide (Blk.new w 24 #[.slice d.A r.n d.c, .int .i64 r.last, .int .i64 r.toil])
  have HR := hide (hd.ext HB1.out)
  have HLO := hide (long_any d r A c l _ HR.out)
  have HCP := hide (fun W (h : RtR W d r) (hz : RtZ r) => copied_any d r W h hz)
  have HCK := hide (fun d' W (h : RtR W d' r) (hz : RtZ r) => check_any d' r W h hz)
  unfold CpPost at HCP
  obtain ⟨gd, hgd⟩ : ∃ x, gdB r l = x := ⟨_, rfl⟩
  have HGD := hide hgd
  have hgd2 : gd = (!loF r l && riB r) := by rw [← hgd]; rfl
  rw [hgd]
  have HLZ : Hid (loF r l = false → RtZ r) := hide fun h => (lo_z h).1
  obtain ⟨lo, hlo⟩ : ∃ x, loF r l = x := ⟨_, rfl⟩
  rw [hlo] at HLO hgd2 HLZ
  obtain ⟨rb, hrb⟩ : ∃ x, riB r = x := ⟨_, rfl⟩
  have HRB := hide hrb
  rw [hrb] at HCK hgd2
  obtain ⟨n, hn⟩ : ∃ x, r.n = x := ⟨_, rfl⟩
  have HN := hide hn
  obtain ⟨m, hm⟩ : ∃ x, l.length = x := ⟨_, rfl⟩
  rw [hm] at HLO ⊢
  rw [hn] at HLO HCP HCK G1 ⊢
  clear hd hgd hlo hrb hm
  go_enter Tryd.func27, Tryd.ntmps27
  go_upto_region 1 with fail
  (try rw [hn])
  (try rw [hn] at HB1)
  (try rw [hn] at HR)
  (try rw [hn] at HLO)
  clear hn
  generalize w.alloc (.cells #[.slice d.A n d.c, .int .i64 r.last, .int .i64 r.toil] 24) = w1 at HB1 G1 HR HLO ⊢
  obtain ⟨G, hG⟩ : ∃ x, w.heap.size = x := ⟨_, rfl⟩
  rw [hG] at G1 ⊢
  clear hG
  obtain ⟨g9, g0, g1, g2, -⟩ := blk3 G1.out
  go_wp2_with fail
  refine HLO.out.mono ?_
  rintro e w2 ⟨rfl, hb2⟩
  replace HR := hide (HR.out.ext hb2)
  replace G1 := hide (G1.out.ext hb2)
  replace HB1 := hide (HB1.out.trans (hb2.mono HB1.out.size))
  clear g9 g0 g1 g2 hb2 HLO
  cases lo with
  | true =>
    obtain rfl : gd = false := by rw [hgd2]; rfl
    clear hgd2
    go_wp2_with fail
    go_ret
    exact ⟨rfl, HB1.out⟩
  | false =>
  have HZ := hide (HLZ.out rfl)
  obtain ⟨g9, g0, g1, g2, -⟩ := blk3 G1.out
  go_wp2_with fail
  refine (HCP.out w2 HR.out HZ.out).mono ?_
  rintro e w3 ⟨d3, rfl, hr3, hb3⟩
  have R3 := hide hr3
  replace HR := hide (HR.out.ext hb3)
  replace G1 := hide (G1.out.ext hb3)
  replace HB1 := hide (HB1.out.trans (hb3.mono HB1.out.size))
  clear g9 g0 g1 g2 hr3 hb3 HLZ
  go_wp2_with fail
  refine (HCK.out d3 w3 R3.out HZ.out).mono ?_
  rintro e w4 ⟨rfl, hb4⟩
  replace HR := hide (HR.out.ext hb4)
  replace G1 := hide (G1.out.ext hb4)
  replace HB1 := hide (HB1.out.trans (hb4.mono HB1.out.size))
  clear hb4 R3 HCK HCP
  cases rb with
  | false =>
    obtain rfl : gd = false := by rw [hgd2]; rfl
    rw [if_neg (by decide)]
    clear hgd2
    go_wp2_with fail
    go_ret
    exact ⟨rfl, HB1.out⟩
  | true =>
  obtain rfl : gd = true := by rw [hgd2]; rfl
  rw [if_pos rfl]
  clear hgd2
  have HRO := hide (riB_ok HRB.out)
  have hn10 := HRO.out.n10
  rw [HN.out] at hn10
  go_wp2_with fail
  go_loopw [5] (fun i wr => ∃ k : Nat, k ≤ n ∧ i = .int .i64 k ∧ Hid (Below w4.heap.size w4 wr)) (fun i _ => n - (intOf i).toNat)
  case atStart => exact ⟨0, Nat.zero_le _, rfl, hide (Below.refl _ _)⟩
  case round =>
    obtain ⟨k, hk, rfl, HB⟩ := hrel
    have hst : IntKind.i64.wrap ((k : Int) + 1) = ((k + 1 : Nat) : Int) := by rw [IntWalk.i64_in _ (by omega)]; omega
    have G5 := hide (G1.out.ext HB.out)
    obtain ⟨g9, g0, g1, g2, -⟩ := blk3 G5.out
    by_cases hlt : k < n
    · have hlt' : (k : Int) < (n : Int) := by omega
      have hkr : k < r.n := by rw [HN.out]; exact hlt
      obtain ⟨a, ha⟩ : ∃ x, r.ac k = x := ⟨_, rfl⟩
      have hac := HRO.out.at_ hkr
      have hrd := (HR.out.ext HB.out).nd k hkr
      obtain ⟨ab, ao, hra, hb, c0, c1, c2, c3, c4, c5, c6⟩ := (HR.out.ext HB.out).at_ hkr ha
      rw [hra] at g0 ⊢
      have hndx := hac.nd
      have hndl := HZ.out.nd k hkr
      rw [ha] at hndx hndl hrd
      have HG0 : Hid (∀ W, Below w4.heap.size w4 W → W.cell? ⟨G, 0, none⟩ = some (.slice (some ⟨ab, ao, none⟩) n d.c)) := hide fun W h => by have h2 := (blk3 (G1.out.ext h)).2.1; rw [hra] at h2; exact h2
      obtain ⟨nm, nd, ins, at_, fr, to_, ex⟩ := a
      dsimp only at c0 c1 c2 c3 c4 c5 c6 hndx hndl hrd
      have HNX : Hid (∀ x ∈ nd, 0 ≤ x ∧ x < n) := hide fun x hx => by have h := hndx x hx; have h2 := HN.out; omega
      have HRD := hide hrd
      obtain ⟨na, hna⟩ : ∃ x, d.na k = x := ⟨_, rfl⟩
      obtain ⟨nc, hnc⟩ : ∃ x, d.nc k = x := ⟨_, rfl⟩
      obtain ⟨nn, hnn⟩ : ∃ x, nd.length = x := ⟨_, rfl⟩
      have HNN := hide hnn
      rw [hna] at HRD
      rw [hna, hnc, hnn] at c1
      rw [hnn] at hndl
      clear hkr ha hac hrd hra hb hndx hna hnc hnn
      have hbE : Below wr.heap.size wr (wr.alloc (.cells #[.string nm, .slice na nn nc, .slice (d.ia k) ins.length (d.ic k), .int .i64 at_, .int .i64 fr, .int .i64 to_, .bool ex] 58)) := (Below.refl _ _).alloc (Nat.le_refl _) _
      have KE := hide (Blk.new wr 58 #[.string nm, .slice na nn nc, .slice (d.ia k) ins.length (d.ic k), .int .i64 at_, .int .i64 fr, .int .i64 to_, .bool ex])
      have HBE := hide (HB.out.trans (hbE.mono HB.out.size))
      have HRE : Hid (LI (wr.alloc (.cells #[.string nm, .slice na nn nc, .slice (d.ia k) ins.length (d.ic k), .int .i64 at_, .int .i64 fr, .int .i64 to_, .bool ex] 58)) _ na nd) := hide ((ER.below HRD.out hbE (Nat.le_refl _)).more hbE.size)
      clear hbE
      go_wp2_with fail
      generalize wr.alloc (.cells #[.string nm, .slice na nn nc, .slice (d.ia k) ins.length (d.ic k), .int .i64 at_, .int .i64 fr, .int .i64 to_, .bool ex] 58) = we at KE HBE HRE ⊢
      obtain ⟨E, hE⟩ : ∃ x, wr.heap.size = x := ⟨_, rfl⟩
      rw [hE] at KE ⊢
      clear hE c0 c1 c2 c3 c4 c5 c6 g9 g0 g1 g2 HB G5 HRD
      go_loopw [7] (fun i wf => ∃ t : Nat, t ≤ nn ∧ i = .int .i64 t ∧ Hid (Below we.heap.size we wf)) (fun i _ => nn - (intOf i).toNat)
      case atStart => exact ⟨0, Nat.zero_le _, rfl, hide (Below.refl _ _)⟩
      case round =>
        obtain ⟨t, ht, rfl, HBF⟩ := hrel
        have hst2 : IntKind.i64.wrap ((t : Int) + 1) = ((t + 1 : Nat) : Int) := by rw [IntWalk.i64_in _ (by omega)]; omega
        have y1 : wr.cell? ⟨E, 1, none⟩ = some (.slice na nn nc) := (KE.out.ext HBF.out).cell 1
        by_cases htl : t < nn
        · have htl' : (t : Int) < (nn : Int) := by omega
          have htn : t < nd.length := by rw [HNN.out]; exact htl
          obtain ⟨xb, xo, hxa, hxl, hxc⟩ := VR1.at_ HRE.out htn
          have hx := HNX.out (nd.getD t 0) (by rw [List.getD_eq_getElem?_getD, List.getElem?_eq_getElem htn]; exact List.getElem_mem htn)
          obtain ⟨x, hxx⟩ : ∃ z, nd.getD t 0 = z := ⟨_, rfl⟩
          rw [hxx] at hxc hx
          have hx0 : ¬ x < 0 := by omega
          have hx1 : ¬ x ≥ (n : Int) := by omega
          have HS : Hid (∀ W, Below we.heap.size we W → (W.cell? ⟨E, 1, none⟩ = some (.slice (some ⟨xb, xo, none⟩) nn nc) ∧ W.cell? ⟨G, 0, none⟩ = some (.slice (some ⟨ab, ao, none⟩) n d.c) ∧ W.cell? ⟨xb, xo + t, none⟩ = some (.int .i64 x))) := hide fun W h => ⟨by rw [← hxa]; exact (KE.out.ext h).cell 1, HG0.out W (HBE.out.trans (h.mono HBE.out.size)), (h.cell (p := ⟨xb, xo + t, none⟩) hxl).trans hxc⟩
          rw [hxa] at y1
          clear htn hxl hxc hx hxx hxa
          go_upto_region 10 with fail
          have HBG := hide (HBF.out.trans ((Below.refl wr.heap.size wr).drew.mono HBF.out.size))
          refine wp_region_J (fun W : World => (W.cell? ⟨E, 1, none⟩ = some (.slice (some ⟨xb, xo, none⟩) nn nc) ∧ W.cell? ⟨G, 0, none⟩ = some (.slice (some ⟨ab, ao, none⟩) n d.c) ∧ W.cell? ⟨xb, xo + t, none⟩ = some (.int .i64 x))) (by kernel_rfl) ?_
          generalize wr.drew = wd at HBG ⊢
          refine wpAnyJ_take 0 (v := ?_) (by first | exact hF | exact wideFn) (HS.out _ HBG.out) rfl (by kernel_rfl) (by kernel_rfl) (by kernel_rfl) (by kernel_rfl) rfl ?_ (by first | exact fun _ _ _ h => h | exact fun _ _ _ h => hQ2 _ _ _ _ _ h) ?_
          rotate_left
          · intro W hSW
            simp only [glA, glB, glC]
            (try dsimp only at hSW)
            go_simp
            with_reducible rfl
          (try simp only [glA, glB, glC, Act.put, glD, glE, glF])
          refine wpAnyJ_take 1 (v := ?_) (by first | exact hF | exact wideFn) (HS.out _ HBG.out) rfl (by kernel_rfl) (by kernel_rfl) (by kernel_rfl) (by kernel_rfl) rfl ?_ (by first | exact fun _ _ _ h => h | exact fun _ _ _ h => hQ2 _ _ _ _ _ h) ?_
          rotate_left
          · intro W hSW
            simp only [glA, glB, glC]
            (try dsimp only at hSW)
            go_simp
            with_reducible rfl
          (try simp only [glA, glB, glC, Act.put, glD, glE, glF])
          refine wpAnyJ_take 2 (v := ?_) (by first | exact hF | exact wideFn) (HS.out _ HBG.out) rfl (by kernel_rfl) (by kernel_rfl) (by kernel_rfl) (by kernel_rfl) rfl ?_ (by first | exact fun _ _ _ h => h | exact fun _ _ _ h => hQ2 _ _ _ _ _ h) ?_
          rotate_left
          · intro W hSW
            simp only [glA, glB, glC]
            (try dsimp only at hSW)
            go_simp
            with_reducible rfl
          (try simp only [glA, glB, glC, Act.put, glD, glE, glF])
          refine wpAnyJ_take 3 (v := ?_) (by first | exact hF | exact wideFn) (HS.out _ HBG.out) rfl (by kernel_rfl) (by kernel_rfl) (by kernel_rfl) (by kernel_rfl) rfl ?_ (by first | exact fun _ _ _ h => h | exact fun _ _ _ h => hQ2 _ _ _ _ _ h) ?_
          rotate_left
          · intro W hSW
            simp only [glA, glB, glC]
            (try dsimp only at hSW)
            go_simp
            with_reducible rfl
          (try simp only [glA, glB, glC, Act.put, glD, glE, glF])
          refine wpAnyJ_take 4 (v := ?_) (by first | exact hF | exact wideFn) (HS.out _ HBG.out) rfl (by kernel_rfl) (by kernel_rfl) (by kernel_rfl) (by kernel_rfl) rfl ?_ (by first | exact fun _ _ _ h => h | exact fun _ _ _ h => hQ2 _ _ _ _ _ h) ?_
          rotate_left
          · intro W hSW
            simp only [glA, glB, glC]
            (try dsimp only at hSW)
            go_simp
            with_reducible rfl
          (try simp only [glA, glB, glC, Act.put, glD, glE, glF])
          refine wpAnyJ_take 5 (v := ?_) (by first | exact hF | exact wideFn) (HS.out _ HBG.out) rfl (by kernel_rfl) (by kernel_rfl) (by kernel_rfl) (by kernel_rfl) rfl ?_ (by first | exact fun _ _ _ h => h | exact fun _ _ _ h => hQ2 _ _ _ _ _ h) ?_
          rotate_left
          · intro W hSW
            simp only [glA, glB, glC]
            (try dsimp only at hSW)
            go_simp
            with_reducible rfl
          (try simp only [glA, glB, glC, Act.put, glD, glE, glF])
          refine wpAnyJ_take 6 (v := ?_) (by first | exact hF | exact wideFn) (HS.out _ HBG.out) rfl (by kernel_rfl) (by kernel_rfl) (by kernel_rfl) (by kernel_rfl) rfl ?_ (by first | exact fun _ _ _ h => h | exact fun _ _ _ h => hQ2 _ _ _ _ _ h) ?_
          rotate_left
          · intro W hSW
            simp only [glA, glB, glC]
            (try dsimp only at hSW)
            go_simp
            with_reducible rfl
          (try simp only [glA, glB, glC, Act.put, glD, glE, glF])
          refine wpAnyJ_take 7 (v := ?_) (by first | exact hF | exact wideFn) (HS.out _ HBG.out) rfl (by kernel_rfl) (by kernel_rfl) (by kernel_rfl) (by kernel_rfl) rfl ?_ (by first | exact fun _ _ _ h => h | exact fun _ _ _ h => hQ2 _ _ _ _ _ h) ?_
          rotate_left
          · intro W hSW
            simp only [glA, glB, glC]
            (try dsimp only at hSW)
            go_simp
            with_reducible rfl
          (try simp only [glA, glB, glC, Act.put, glD, glE, glF])
          refine wpAnyJ_take 8 (v := ?_) (by first | exact hF | exact wideFn) (HS.out _ HBG.out) rfl (by kernel_rfl) (by kernel_rfl) (by kernel_rfl) (by kernel_rfl) rfl ?_ (by first | exact fun _ _ _ h => h | exact fun _ _ _ h => hQ2 _ _ _ _ _ h) ?_
          rotate_left
          · intro W hSW
            simp only [glA, glB, glC]
            (try dsimp only at hSW)
            go_simp
            with_reducible rfl
          (try simp only [glA, glB, glC, Act.put, glD, glE, glF])
          refine wpAnyJ_take 9 (v := ?_) (by first | exact hF | exact wideFn) (HS.out _ HBG.out) rfl (by kernel_rfl) (by kernel_rfl) (by kernel_rfl) (by kernel_rfl) rfl ?_ (by first | exact fun _ _ _ h => h | exact fun _ _ _ h => hQ2 _ _ _ _ _ h) ?_
          rotate_left
          · intro W hSW
            simp only [glA, glB, glC]
            (try dsimp only at hSW)
            go_simp
            with_reducible rfl
          (try simp only [glA, glB, glC, Act.put, glD, glE, glF])
          refine wpAnyJ_take 10 (v := ?_) (by first | exact hF | exact wideFn) (HS.out _ HBG.out) rfl (by kernel_rfl) (by kernel_rfl) (by kernel_rfl) (by kernel_rfl) rfl ?_ (by first | exact fun _ _ _ h => h | exact fun _ _ _ h => hQ2 _ _ _ _ _ h) ?_
          rotate_left
          · intro W hSW
            simp only [glA, glB, glC]
            (try dsimp only at hSW)
            go_simp
            with_reducible rfl
          (try simp only [glA, glB, glC, Act.put, glD, glE, glF])
          refine wpAnyJ_take 11 (v := ?_) (by first | exact hF | exact wideFn) (HS.out _ HBG.out) rfl (by kernel_rfl) (by kernel_rfl) (by kernel_rfl) (by kernel_rfl) rfl ?_ (by first | exact fun _ _ _ h => h | exact fun _ _ _ h => hQ2 _ _ _ _ _ h) ?_
          rotate_left
          · intro W hSW
            simp only [glA, glB, glC]
            (try dsimp only at hSW)
            go_simp
            with_reducible rfl
          (try simp only [glA, glB, glC, Act.put, glD, glE, glF])
          refine wpAnyJ_take 12 (v := ?_) (by first | exact hF | exact wideFn) (HS.out _ HBG.out) rfl (by kernel_rfl) (by kernel_rfl) (by kernel_rfl) (by kernel_rfl) rfl ?_ (by first | exact fun _ _ _ h => h | exact fun _ _ _ h => hQ2 _ _ _ _ _ h) ?_
          rotate_left
          · intro W hSW
            simp only [glA, glB, glC]
            (try dsimp only at hSW)
            go_simp
            with_reducible rfl
          (try simp only [glA, glB, glC, Act.put, glD, glE, glF])
          refine wpAnyJ_take 13 (v := ?_) (by first | exact hF | exact wideFn) (HS.out _ HBG.out) rfl (by kernel_rfl) (by kernel_rfl) (by kernel_rfl) (by kernel_rfl) rfl ?_ (by first | exact fun _ _ _ h => h | exact fun _ _ _ h => hQ2 _ _ _ _ _ h) ?_
          rotate_left
          · intro W hSW
            simp only [glA, glB, glC]
            (try dsimp only at hSW)
            go_simp
            with_reducible rfl
          (try simp only [glA, glB, glC, Act.put, glD, glE, glF])
          refine wpAnyJ_take 14 (v := ?_) (by first | exact hF | exact wideFn) (HS.out _ HBG.out) rfl (by kernel_rfl) (by kernel_rfl) (by kernel_rfl) (by kernel_rfl) rfl ?_ (by first | exact fun _ _ _ h => h | exact fun _ _ _ h => hQ2 _ _ _ _ _ h) ?_
          rotate_left
          · intro W hSW
            simp only [glA, glB, glC]
            (try dsimp only at hSW)
            go_simp
            with_reducible rfl
          (try simp only [glA, glB, glC, Act.put, glD, glE, glF])
          refine wpAnyJ_take 15 (v := ?_) (by first | exact hF | exact wideFn) (HS.out _ HBG.out) rfl (by kernel_rfl) (by kernel_rfl) (by kernel_rfl) (by kernel_rfl) rfl ?_ (by first | exact fun _ _ _ h => h | exact fun _ _ _ h => hQ2 _ _ _ _ _ h) ?_
          rotate_left
          · intro W hSW
            simp only [glA, glB, glC]
            (try dsimp only at hSW)
            go_simp
            with_reducible rfl
          (try simp only [glA, glB, glC, Act.put, glD, glE, glF])
          refine wpAnyJ_take 16 (v := ?_) (by first | exact hF | exact wideFn) (HS.out _ HBG.out) rfl (by kernel_rfl) (by kernel_rfl) (by kernel_rfl) (by kernel_rfl) rfl ?_ (by first | exact fun _ _ _ h => h | exact fun _ _ _ h => hQ2 _ _ _ _ _ h) ?_
          rotate_left
          · intro W hSW
            simp only [glA, glB, glC]
            (try dsimp only at hSW)
            go_simp
            with_reducible rfl
          (try simp only [glA, glB, glC, Act.put, glD, glE, glF])
          refine wpAnyJ_done (by kernel_rfl) ?_
          go_wp2_with fail
          go_roundw
          case rel => exact ⟨t + 1, by omega, by go_num, HBG⟩
          case measure => simp [intOf]; omega
        · obtain rfl : nn = t := by omega
          have hnl : ¬ (nn : Int) < (nn : Int) := by omega
          go_wp2_with fail
          go_roundw
          case rel => exact ⟨k + 1, by omega, by go_num, hide (HBE.out.trans (HBF.out.mono HBE.out.size))⟩
          case measure => simp [intOf]; omega
    · obtain rfl : n = k := by omega
      have hnl : ¬ (n : Int) < (n : Int) := by omega
      go_wp2_with fail
      go_ret
      exact ⟨rfl, HB1.out.trans (HB.out.mono HB1.out.size)⟩
end Go.Proofs.YtcgdalabenflmaaDoor
/- Rite, plain: a deed more; what is open, forgotten, hopeless. -/
namespace Go.Proofs.YtcgdalabenflmaaDoor
open Go Go.RowKit
set_option maxRecDepth 100000
theorem fol_step {r : Rit} {m : Mom} {y : Int × Int} (l : List (Int × Int)) (i : Nat) (h1 : ¬ (y.1 < m.day ∨ r.last < y.1)) (h2 : ¬ brF r (m.on y.1).d (m.on y.1).day (m.on y.1).de y.2 ≠ 0) : folF r m (y :: l) i = folF r ((m.on y.1).wi y.2.toNat) l (i + 1) := by
  show (if _ then _ else if _ then _ else _) = _
  rw [if_neg h1, if_neg h2]
theorem fol_zero {r : Rit} {m : Mom} {y : Int × Int} {l : List (Int × Int)} {i : Nat} (h : (folF r m (y :: l) i).2.2 = 0) : ¬ (y.1 < m.day ∨ r.last < y.1) ∧ ¬ brF r (m.on y.1).d (m.on y.1).day (m.on y.1).de y.2 ≠ 0 := by
  unfold folF at h
  split at h
  · cases h
  · rename_i h1
    split at h
    · rename_i h2; exact absurd h h2
    · rename_i h2; exact ⟨h1, h2⟩
theorem fol_append {r : Rit} (x : List (Int × Int)) : ∀ (l : List (Int × Int)) (m : Mom) (i : Nat), (folF r m l i).2.2 = 0 → folF r m (l ++ x) i = folF r (folF r m l i).1 x (i + l.length)
  | [], m, i, _ => rfl
  | y :: l, m, i, h => by
    obtain ⟨h1, h2⟩ := fol_zero h
    rw [fol_step _ _ h1 h2] at h ⊢
    show folF r m (y :: (l ++ x)) i = _
    rw [fol_step _ _ h1 h2, fol_append x l _ _ h, show i + 1 + l.length = i + (y :: l).length by rw [List.length_cons]; omega]
/-- a deed more -/
theorem rg_more {r : Rit} {l : List (Int × Int)} (h : rgB r l = true) (day : Int) (a : Int) (h1 : (folF r m0 l 0).1.day ≤ day) (h2 : day ≤ r.last) :
    rgB r (l ++ [(day, a)]) = decide (brF r ((folF r m0 l 0).1.on day).d ((folF r m0 l 0).1.on day).day ((folF r m0 l 0).1.on day).de a = 0) := by
  obtain ⟨hr, hf, -⟩ := rg_yes h
  unfold rgB aftC
  rw [if_pos hr, fol_append _ _ _ _ hf]
  generalize (folF r m0 l 0).1 = m at h1
  have e : (folF r m [(day, a)] (0 + l.length)).2.2 = brF r (m.on day).d (m.on day).day (m.on day).de a := by
    unfold folF
    rw [if_neg (by dsimp only; omega)]
    dsimp only
    split
    · rfl
    · rename_i hb
      have hb := Classical.not_not.1 hb
      rw [hb]
      rfl
  rw [e]
  by_cases hb : brF r (m.on day).d (m.on day).day (m.on day).de a = 0
  · rw [if_pos hb, decide_eq_true hb]; rfl
  · rw [if_neg hb, decide_eq_false hb]; rfl
theorem of_cont {s : Nat} (hs : s < 65536) (i : Nat) : (ofN (elS s)).contains (i : Int) = s.testBit i := by
  rw [Bool.eq_iff_iff, List.contains_iff_mem, ← elS_mem hs]
  unfold ofN
  rw [List.mem_map]
  constructor
  · rintro ⟨k, hk, e⟩
    rw [show i = k by omega]
    exact hk
  · exact fun h => ⟨i, h, rfl⟩
theorem ne_cont {r : Rit} (h16 : r.n ≤ 16) (m : Mom) (i : Nat) : (ofN (elS (neS r m))).contains (i : Int) = decide (brF r m.d m.day m.de i = 0) := by
  have hl : neS r m < 65536 := lt16 (mkS_lt _ r.n) h16
  rw [of_cont hl, Bool.eq_iff_iff, decide_eq_true_iff, ← neS_mem h16, elS_mem hl]
theorem se_cont {r : Rit} (hr : RiOk r) (d : Nat) {i : Nat} (hi : i < r.n) : (ofN (elS (seS r d))).contains (i : Int) = seB r d i := by
  rw [of_cont (seS_lt hr d), seS_bit, decide_eq_true hi, Bool.true_and]
theorem fo_cont {r : Rit} (h16 : r.n ≤ 16) (d : Nat) (day : Int) {i : Nat} (hi : i < r.n) : (ofN (elS (foS r d day))).contains (i : Int) = foB r d day i := by
  have hl : foS r d day < 65536 := lt16 (mkS_lt _ r.n) h16
  rw [of_cont hl, foS_bit, decide_eq_true hi, Bool.true_and]
theorem hp_cont (r : Rit) (m : Mom) (i : Nat) : (ofN (elS (hpS r m))).contains (i : Int) = (hpS r m).testBit i := of_cont (hp_lt r m) i
/-- what a deed that breaks no rule shows -/
theorem br_zero {r : Rit} {d : Nat} {day de : Int} {a : Nat} (h : brF r d day de a = 0) : (d.testBit a = false ∧ ((r.ac a).ex = true ∨ seB r d a = false)) ∧ (r.ac a).fr ≤ day ∧ day ≤ (r.ac a).to_ ∧ neB r d a = true ∧ de < r.toil := by
  unfold brF at h
  rw [Int.toNat_natCast] at h
  split at h
  · cases h
  · split at h
    · cases h
    · rename_i h2
      split at h
      · cases h
      · rename_i h3
        split at h
        · cases h
        · rename_i h4
          split at h
          · cases h
          · split at h
            · cases h
            · rename_i h6
              simp only [Bool.or_eq_true, Bool.and_eq_true, Bool.not_eq_true', not_or, not_and] at h2
              refine ⟨⟨by simpa using h2.1, ?_⟩, by omega, by omega, by simpa using h4, by omega⟩
              rcases hx : (r.ac a).ex with _ | _
              · have := h2.2 hx; exact .inr (by simpa using this)
              · exact .inl rfl
theorem fo_facts {r : Rit} {d : Nat} {day de : Int} {a : Nat} (h : foB r d day a = true) : brF r d day de a ≠ 0 ∧ seB r d a = false ∧ (r.ac a).ex = false := by
  unfold foB at h
  rw [Bool.and_eq_true, Bool.and_eq_true] at h
  obtain ⟨⟨h1, h2⟩, h3⟩ := h
  refine ⟨fun hb => ?_, by simpa using h3, by simpa using h1⟩
  have h4 := (br_zero hb).2.2.1
  have h5 := of_decide_eq_true h2
  omega
theorem hp_facts {r : Rit} (hr : RiOk r) {m : Mom} {a : Nat} (h : (hpS r m).testBit a = true) : a < r.n ∧ brF r m.d m.day m.de a ≠ 0 ∧ seB r m.d a = false := by
  have hh := hp_ho r m
  have h10 := hr.n10
  have hp : 2 ^ r.n < 65536 := Nat.lt_of_le_of_lt (Nat.pow_le_pow_right (by decide) h10) (by decide)
  have hsub : ∀ i, (hpS r m).testBit i = true → i < r.n ∧ seB r m.d i = false := fun i hi => by
    have h1 := hh.sub i hi
    rw [anN_bit _ _ _ (by omega), Bool.and_eq_true, Nat.testBit_two_pow_sub_one] at h1
    have h2 := of_decide_eq_true h1.1
    have h3 := h1.2
    rw [seS_bit, decide_eq_true h2, Bool.true_and] at h3
    exact ⟨h2, by simpa using h3⟩
  obtain ⟨ha, hs⟩ := hsub a h
  refine ⟨ha, fun hb => ?_, hs⟩
  obtain ⟨-, -, h2, h3, -⟩ := br_zero hb
  have h4 := hh.sta a h
  unfold canB at h4
  have h5 := List.any_eq_false.1 h4 a (List.mem_range.2 ha)
  refine h5 ?_
  rw [Bool.and_eq_true, Bool.and_eq_true]
  refine ⟨?_, ?_, ?_⟩
  · unfold waS
    rw [mkS_bit, decide_eq_true (by omega), decide_eq_true rfl]
    rfl
  · rw [decide_eq_false (by omega)]; rfl
  · rw [List.all_eq_true]
    intro x hx
    unfold neB at h3
    have h6 := List.all_eq_true.1 h3 x hx
    rcases hb2 : (hpS r m).testBit x.toNat with _ | _
    · rfl
    · rw [(hsub _ hb2).2] at h6; cases h6
end Go.Proofs.YtcgdalabenflmaaDoor
/- Rite: the law RiteOpens, walked. -/
namespace Go.Proofs.YtcgdalabenflmaaDoor
open List renaming getElem_toArray → glA, getElem_cons_zero → glB, getElem_cons_succ → glC, setIfInBounds_toArray → glD, set_cons_zero → glE, set_cons_succ → glF
open Go Go.RowKit Go.Shelf
set_option maxHeartbeats 8000000
set_option maxRecDepth 100000
/-- what a law's walk keeps -/
structure LwS (w W : World) (G : Nat) (d : Rad) (r : Rit) (A : Option Addr) (l : List (Int × Int)) : Prop where
  lo : Below w.heap.size w W
  kG : Blk W G 24 #[.slice d.A r.n d.c, .int .i64 r.last, .int .i64 r.toil]
  rt : RtR W d r
  ds : DsR W A l
theorem LwS.ext {w W W' : World} {G : Nat} {d : Rad} {r : Rit} {A : Option Addr} {l : List (Int × Int)} (h : LwS w W G d r A l) (hb : Below W.heap.size W W') : LwS w W' G d r A l :=
  ⟨h.lo.trans (hb.mono h.lo.size), h.kG.ext hb, h.rt.ext hb, h.ds.ext hb⟩
theorem liE {W W' : World} {A : Option Addr} {l : List Int} (h : LI W W.heap.size A l) (hb : Below W.heap.size W W') : LI W' W'.heap.size A l := (ER.below h hb (Nat.le_refl _)).more hb.size
theorem frC_three {r : Rit} {l : List (Int × Int)} {day : Int} (h : aftC r l = 0) (h2 : frC r l day ≠ 0) : frC r l day = 3 := by
  unfold frC at h2 ⊢
  rw [if_pos h] at h2 ⊢
  split at h2
  · exact absurd rfl h2
  · rename_i h3; rw [if_neg h3]
theorem frC_in {r : Rit} {l : List (Int × Int)} {day : Int} (h : frC r l day = 0) : (folF r m0 l 0).1.day ≤ day ∧ day ≤ r.last := by
  unfold frC at h
  split at h
  · split at h
    · rename_i h3; exact h3
    · cases h
  · rename_i h2; exact absurd h h2
theorem opens_any (d : Rad) (r : Rit) (A : Option Addr) (c : Nat) (l : List (Int × Int)) (day : Int) (w : World) (hd : RtR w d r) (hD : DsR w A l) (hT : TB w) :
    Calls Tryd.prog 8 #[.agg #[.slice d.A r.n d.c, .int .i64 r.last, .int .i64 r.toil], .slice A l.length c, .int .i64 day] w fun e w' => e = .returned (.bool true) ∧ Below w.heap.size w w' := by
  have HT := hide hT
  have HB1 : Hid (Below w.heap.size w (w.alloc (.cells #[.slice d.A r.n d.c, .int .i64 r.last, .int .i64 r.toil] 24))) := hide ((Below.refl _ _).alloc (Nat.le_refl _) _)
  obtain ⟨G, hG⟩ : ∃ x, w.heap.size = x := ⟨_, rfl⟩
  have HS : Hid (LwS w (w.alloc (.cells #[.slice d.A r.n d.c, .int .i64 r.last, .int .i64 r.toil] 24)) G d r A l) := hide ⟨HB1.out, by rw [← hG]; exact Blk.new w _ _, hd.ext HB1.out, hD.ext HB1.out⟩
  have HGO := hide (fun W (h : RtR W d r) => good_any d r A c l W h)
  have HKN := hide (fun W (h : Below w.heap.size w W) => known_any W (hT.ext h))
  have HRI := hide (fun (hz : RtZ r) (d' : Rad) (A' : Option Addr) (c' : Nat) (l' : List (Int × Int)) (hl : l'.length ≤ 1000000) W (h : RtR W d' r) (h2 : DsR W A' l') => right_any d' r A' c' l' W h hz hl h2)
  have HCP := hide (fun (hz : RtZ r) W (h : RtR W d r) => copied_any d r W h hz)
  have HDE := hide (fun (hl : l.length ≤ 1000000) W (h : DsR W A l) => deeds_any A c l W h hl)
  unfold CpPost at HCP
  obtain ⟨nl, hnl⟩ : ∃ n, l.length = n := ⟨_, rfl⟩
  have HNL := hide hnl
  rw [hnl] at HGO HDE ⊢
  clear hd hD hT HB1 hnl
  go_enter Tryd.func8, Tryd.ntmps8
  go_upto_region 1 with fail
  (try rw [hG])
  clear hG
  generalize w.alloc (.cells #[.slice d.A r.n d.c, .int .i64 r.last, .int .i64 r.toil] 24) = w1 at HS ⊢
  obtain ⟨g9, g0, g1, g2, -⟩ := blk3 HS.out.kG
  go_wp2_with fail
  refine (HGO.out w1 HS.out.rt).mono ?_
  rintro e w2 ⟨rfl, hb2⟩
  replace HS := hide (HS.out.ext hb2)
  (try replace HLO := hide (liE HLO.out hb2))
  (try replace HLF := hide (liE HLF.out hb2))
  (try replace HLH := hide (liE HLH.out hb2))
  (try replace HLS := hide (liE HLS.out hb2))
  clear g9 g0 g1 g2 hb2 HGO
  rcases hgd : gdB r l with _ | _
  · clear hgd
    go_wp2_with fail
    refine (HKN.out w2 HS.out.lo).mono ?_
    rintro e w3 ⟨rfl, hb3⟩
    replace HS := hide (HS.out.ext hb3)
    (try replace HLO := hide (liE HLO.out hb3))
    (try replace HLF := hide (liE HLF.out hb3))
    (try replace HLH := hide (liE HLH.out hb3))
    (try replace HLS := hide (liE HLS.out hb3))
    clear hb3
    go_wp2_with fail
    go_ret
    exact ⟨rfl, HS.out.lo⟩
  obtain ⟨hro, hz, hl20, hrb⟩ := gd_yes hgd
  have HZ := hide hz
  have HRO := hide hro
  have hnl20 : nl ≤ 20 := by rw [← HNL.out]; exact hl20
  replace HCP := hide (HCP.out hz)
  replace HDE := hide (HDE.out (by omega))
  replace HRI := hide (HRI.out hz)
  clear hgd hro hz hl20 hrb
  obtain ⟨g9, g0, g1, g2, -⟩ := blk3 HS.out.kG
  go_wp2_with fail
  have HR1 := hide (HRI.out d A c l (by rw [HNL.out]; omega) w2 HS.out.rt HS.out.ds)
  rw [HNL.out] at HR1
  refine HR1.out.mono ?_
  rintro e w3 ⟨rfl, hb3⟩
  replace HS := hide (HS.out.ext hb3)
  (try replace HLO := hide (liE HLO.out hb3))
  (try replace HLF := hide (liE HLF.out hb3))
  (try replace HLH := hide (liE HLH.out hb3))
  (try replace HLS := hide (liE HLS.out hb3))
  clear g9 g0 g1 g2 hb3 HR1
  rcases hrg : rgB r l with _ | _
  · clear hrg
    go_wp2_with fail
    refine (HKN.out w3 HS.out.lo).mono ?_
    rintro e w4 ⟨rfl, hb4⟩
    replace HS := hide (HS.out.ext hb4)
    (try replace HLO := hide (liE HLO.out hb4))
    (try replace HLF := hide (liE HLF.out hb4))
    (try replace HLH := hide (liE HLH.out hb4))
    (try replace HLS := hide (liE HLS.out hb4))
    clear hb4
    go_wp2_with fail
    go_ret
    exact ⟨rfl, HS.out.lo⟩
  obtain ⟨hrb, hf0, ha0⟩ := rg_yes hrg
  have HRG := hide hrg
  have HRB := hide hrb
  have HA0 := hide ha0
  clear hrg hf0 ha0 hrb
  generalize (true && coB r (folF r m0 l 0).1.d) = co
  have HOP := hide (fun d' A' c' W (h : RtR W d' r) (h2 : DsR W A' l) (h3 : TB W) => open_rite d' r A' c' l day W h HZ.out (by rw [HNL.out]; omega) h2 h3)
  have HFO := hide (fun d' A' c' W (h : RtR W d' r) (h2 : DsR W A' l) (h3 : TB W) => forgotten_rite d' r A' c' l day W h HZ.out (by rw [HNL.out]; omega) h2 h3)
  have HHO := hide (fun d' A' c' W (h : RtR W d' r) (h2 : DsR W A' l) (h3 : TB W) => hopeless_rite d' r A' c' l day W h HZ.out (by rw [HNL.out]; omega) h2 h3)
  have HSE := hide (fun d' A' c' W (h : RtR W d' r) (h2 : DsR W A' l) (h3 : TB W) => settled_rite d' r A' c' l W h HZ.out (by rw [HNL.out]; omega) h2 h3)
  unfold AskPost at HOP HFO HHO
  rw [if_pos HRB.out] at HOP HFO HHO
  rw [HNL.out] at HOP HFO HHO HSE
  obtain ⟨g9, g0, g1, g2, -⟩ := blk3 HS.out.kG
  go_wp2_with fail
  refine (HCP.out w3 HS.out.rt).mono ?_
  rintro e wpa ⟨dpa, rfl, hrp, hbp⟩
  have RPa := hide hrp
  replace HS := hide (HS.out.ext hbp)
  (try replace HLO := hide (liE HLO.out hbp))
  (try replace HLF := hide (liE HLF.out hbp))
  (try replace HLH := hide (liE HLH.out hbp))
  (try replace HLS := hide (liE HLS.out hbp))
  clear hrp hbp g9 g0 g1 g2
  go_wp2_with fail
  refine (HDE.out wpa HS.out.ds).mono ?_
  rintro e wqa ⟨Aqa, cqa, rfl, hoq, hbq⟩
  have DQa := hide hoq.dsr.2
  replace RPa := hide (RPa.out.ext hbq)
  replace HS := hide (HS.out.ext hbq)
  (try replace HLO := hide (liE HLO.out hbq))
  (try replace HLF := hide (liE HLF.out hbq))
  (try replace HLH := hide (liE HLH.out hbq))
  (try replace HLS := hide (liE HLS.out hbq))
  clear hoq hbq
  go_wp2_with fail
  refine (HOP.out dpa Aqa cqa wqa RPa.out DQa.out (HT.out.ext HS.out.lo)).mono ?_
  rintro e w4 ⟨⟨hc, rfl⟩ | ⟨hc, -, v, rfl, hv⟩, hb4⟩
  · replace HS := hide (HS.out.ext hb4)
    (try replace HLO := hide (liE HLO.out hb4))
    (try replace HLF := hide (liE HLF.out hb4))
    (try replace HLH := hide (liE HLH.out hb4))
    (try replace HLS := hide (liE HLS.out hb4))
    rw [frC_three HA0.out hc]
    clear hc hb4 RPa DQa HOP HFO HHO HSE
    go_wp2_with fail
    refine (HKN.out w4 HS.out.lo).mono ?_
    rintro e w5 ⟨rfl, hb5⟩
    replace HS := hide (HS.out.ext hb5)
    (try replace HLO := hide (liE HLO.out hb5))
    (try replace HLF := hide (liE HLF.out hb5))
    (try replace HLH := hide (liE HLH.out hb5))
    (try replace HLS := hide (liE HLS.out hb5))
    clear hb5
    go_wp2_with fail
    go_ret
    exact ⟨rfl, HS.out.lo⟩
  have HFR := hide (frC_in hc)
  obtain ⟨AO, cO, rfl⟩ := own_shape hv
  have HLO := hide hv.li.2
  replace HS := hide (HS.out.ext hb4)
  obtain ⟨LO, hLO⟩ : ∃ x, ofN (elS (neS r ((folF r m0 l 0).1.on day))) = x := ⟨_, rfl⟩
  have HLO0 := hide hLO
  rw [hLO] at HLO ⊢
  obtain ⟨nO, hnO⟩ : ∃ x, LO.length = x := ⟨_, rfl⟩
  have HNO := hide hnO
  rw [hnO]
  clear hc hv hb4 HOP RPa DQa hLO hnO
  obtain ⟨g9, g0, g1, g2, -⟩ := blk3 HS.out.kG
  go_wp2_with fail
  refine (HCP.out w4 HS.out.rt).mono ?_
  rintro e wpb ⟨dpb, rfl, hrp, hbp⟩
  have RPb := hide hrp
  replace HS := hide (HS.out.ext hbp)
  (try replace HLO := hide (liE HLO.out hbp))
  (try replace HLF := hide (liE HLF.out hbp))
  (try replace HLH := hide (liE HLH.out hbp))
  (try replace HLS := hide (liE HLS.out hbp))
  clear hrp hbp g9 g0 g1 g2
  go_wp2_with fail
  refine (HDE.out wpb HS.out.ds).mono ?_
  rintro e wqb ⟨Aqb, cqb, rfl, hoq, hbq⟩
  have DQb := hide hoq.dsr.2
  replace RPb := hide (RPb.out.ext hbq)
  replace HS := hide (HS.out.ext hbq)
  (try replace HLO := hide (liE HLO.out hbq))
  (try replace HLF := hide (liE HLF.out hbq))
  (try replace HLH := hide (liE HLH.out hbq))
  (try replace HLS := hide (liE HLS.out hbq))
  clear hoq hbq
  go_wp2_with fail
  refine (HFO.out dpb Aqb cqb wqb RPb.out DQb.out (HT.out.ext HS.out.lo)).mono ?_
  rintro e w5 ⟨⟨hc, -⟩ | ⟨hc, -, v, rfl, hv⟩, hb5⟩
  · exact absurd (by unfold frC; rw [if_pos HA0.out, if_pos HFR.out]) hc
  obtain ⟨AF, cF, rfl⟩ := own_shape hv
  replace HLO := hide (liE HLO.out hb5)
  have HLF := hide hv.li.2
  replace HS := hide (HS.out.ext hb5)
  obtain ⟨LF, hLF⟩ : ∃ x, ofN (elS (foS r ((folF r m0 l 0).1.on day).d ((folF r m0 l 0).1.on day).day)) = x := ⟨_, rfl⟩
  have HLF0 := hide hLF
  rw [hLF] at HLF ⊢
  obtain ⟨nF, hnF⟩ : ∃ x, LF.length = x := ⟨_, rfl⟩
  have HNF := hide hnF
  rw [hnF]
  clear hc hv hb5 HFO RPb DQb hLF hnF
  obtain ⟨g9, g0, g1, g2, -⟩ := blk3 HS.out.kG
  go_wp2_with fail
  refine (HCP.out w5 HS.out.rt).mono ?_
  rintro e wpc ⟨dpc, rfl, hrp, hbp⟩
  have RPc := hide hrp
  replace HS := hide (HS.out.ext hbp)
  (try replace HLO := hide (liE HLO.out hbp))
  (try replace HLF := hide (liE HLF.out hbp))
  (try replace HLH := hide (liE HLH.out hbp))
  (try replace HLS := hide (liE HLS.out hbp))
  clear hrp hbp g9 g0 g1 g2
  go_wp2_with fail
  refine (HDE.out wpc HS.out.ds).mono ?_
  rintro e wqc ⟨Aqc, cqc, rfl, hoq, hbq⟩
  have DQc := hide hoq.dsr.2
  replace RPc := hide (RPc.out.ext hbq)
  replace HS := hide (HS.out.ext hbq)
  (try replace HLO := hide (liE HLO.out hbq))
  (try replace HLF := hide (liE HLF.out hbq))
  (try replace HLH := hide (liE HLH.out hbq))
  (try replace HLS := hide (liE HLS.out hbq))
  clear hoq hbq
  go_wp2_with fail
  refine (HHO.out dpc Aqc cqc wqc RPc.out DQc.out (HT.out.ext HS.out.lo)).mono ?_
  rintro e w6 ⟨⟨hc, -⟩ | ⟨hc, -, v, rfl, hv⟩, hb6⟩
  · exact absurd (by unfold frC; rw [if_pos HA0.out, if_pos HFR.out]) hc
  obtain ⟨AH, cH, rfl⟩ := own_shape hv
  replace HLO := hide (liE HLO.out hb6)
  replace HLF := hide (liE HLF.out hb6)
  have HLH := hide hv.li.2
  replace HS := hide (HS.out.ext hb6)
  obtain ⟨LH, hLH⟩ : ∃ x, ofN (elS (hpS r ((folF r m0 l 0).1.on day))) = x := ⟨_, rfl⟩
  have HLH0 := hide hLH
  rw [hLH] at HLH ⊢
  obtain ⟨nH, hnH⟩ : ∃ x, LH.length = x := ⟨_, rfl⟩
  have HNH := hide hnH
  rw [hnH]
  clear hc hv hb6 HHO RPc DQc hLH hnH
  obtain ⟨g9, g0, g1, g2, -⟩ := blk3 HS.out.kG
  go_wp2_with fail
  refine (HCP.out w6 HS.out.rt).mono ?_
  rintro e wpd ⟨dpd, rfl, hrp, hbp⟩
  have RPd := hide hrp
  replace HS := hide (HS.out.ext hbp)
  (try replace HLO := hide (liE HLO.out hbp))
  (try replace HLF := hide (liE HLF.out hbp))
  (try replace HLH := hide (liE HLH.out hbp))
  (try replace HLS := hide (liE HLS.out hbp))
  clear hrp hbp g9 g0 g1 g2
  go_wp2_with fail
  refine (HDE.out wpd HS.out.ds).mono ?_
  rintro e wqd ⟨Aqd, cqd, rfl, hoq, hbq⟩
  have DQd := hide hoq.dsr.2
  replace RPd := hide (RPd.out.ext hbq)
  replace HS := hide (HS.out.ext hbq)
  (try replace HLO := hide (liE HLO.out hbq))
  (try replace HLF := hide (liE HLF.out hbq))
  (try replace HLH := hide (liE HLH.out hbq))
  (try replace HLS := hide (liE HLS.out hbq))
  clear hoq hbq
  go_wp2_with fail
  refine (HSE.out dpd Aqd cqd wqd RPd.out DQd.out (HT.out.ext HS.out.lo)).mono ?_
  rintro e w7 ⟨⟨hc, -⟩ | ⟨-, -, v, rfl, hv⟩, hb7⟩
  · exact absurd HA0.out hc
  obtain ⟨AS, cS, rfl⟩ := own_shape hv
  replace HLO := hide (liE HLO.out hb7)
  replace HLF := hide (liE HLF.out hb7)
  replace HLH := hide (liE HLH.out hb7)
  have HLS := hide hv.li.2
  replace HS := hide (HS.out.ext hb7)
  obtain ⟨LS, hLS⟩ : ∃ x, ofN (elS (seS r (folF r m0 l 0).1.d)) = x := ⟨_, rfl⟩
  have HLS0 := hide hLS
  rw [hLS] at HLS ⊢
  obtain ⟨nS, hnS⟩ : ∃ x, LS.length = x := ⟨_, rfl⟩
  have HNS := hide hnS
  rw [hnS]
  clear hv hb7 HSE RPd DQd hLS hnS
  have hl16 : ∀ S, (ofN (elS S)).length ≤ 16 := fun S => by unfold ofN; rw [List.length_map]; exact el_len S
  have HL16 : Hid (nO ≤ 16 ∧ nF ≤ 16 ∧ nH ≤ 16 ∧ nS ≤ 16) := hide ⟨by rw [← HNO.out, ← HLO0.out]; exact hl16 _, by rw [← HNF.out, ← HLF0.out]; exact hl16 _, by rw [← HNH.out, ← HLH0.out]; exact hl16 _, by rw [← HNS.out, ← HLS0.out]; exact hl16 _⟩
  clear hl16 HCP
  have hn10 := HRO.out.n10
  obtain ⟨n, hn⟩ : ∃ x, r.n = x := ⟨_, rfl⟩
  obtain ⟨la, hla⟩ : ∃ x, r.last = x := ⟨_, rfl⟩
  obtain ⟨tl, htl⟩ : ∃ x, r.toil = x := ⟨_, rfl⟩
  have HN := hide (And.intro hn (And.intro hla htl))
  have HS17 : Hid (∀ W, LwS w W G d r A l → (W.cell? ⟨G, 0, none⟩ = some (.slice d.A n d.c) ∧ W.cell? ⟨G, 1, none⟩ = some (.int .i64 la) ∧ W.cell? ⟨G, 2, none⟩ = some (.int .i64 tl))) := hide fun W h => by
    obtain ⟨-, x0, x1, x2, -⟩ := blk3 h.kG
    rw [← hn, ← hla, ← htl]
    exact ⟨x0, x1, x2⟩
  rw [hn] at hn10
  rw [hn, hla, htl]
  clear hn hla htl
  go_wp2_with fail
  go_loopw [17] (fun i wr => ∃ k : Nat, k ≤ n ∧ i = .int .i64 k ∧ Hid (Below w7.heap.size w7 wr)) (fun i _ => n - (intOf i).toNat)
  case atStart => exact ⟨0, Nat.zero_le _, rfl, hide (Below.refl _ _)⟩
  case round =>
    obtain ⟨k, hk, rfl, HB⟩ := hrel
    have hst : IntKind.i64.wrap ((k : Int) + 1) = ((k + 1 : Nat) : Int) := by rw [IntWalk.i64_in _ (by omega)]; omega
    have HSR := hide (HS.out.ext HB.out)
    obtain ⟨q0, q1, q2⟩ := HS17.out wr HSR.out
    by_cases hlt : k < n
    · have hlt' : (k : Int) < (n : Int) := by omega
      have hkr : k < r.n := by rw [HN.out.1]; exact hlt
      have h16 : r.n ≤ 16 := by have := HN.out.1; omega
      obtain ⟨o, ho⟩ : ∃ x, LO.contains (k : Int) = x := ⟨_, rfl⟩
      obtain ⟨fo, hfo⟩ : ∃ x, LF.contains (k : Int) = x := ⟨_, rfl⟩
      obtain ⟨lo, hlo⟩ : ∃ x, LH.contains (k : Int) = x := ⟨_, rfl⟩
      obtain ⟨se, hse⟩ : ∃ x, LS.contains (k : Int) = x := ⟨_, rfl⟩
      have hO : o = decide (brF r ((folF r m0 l 0).1.on day).d ((folF r m0 l 0).1.on day).day ((folF r m0 l 0).1.on day).de (k : Nat) = 0) := by rw [← ho, ← HLO0.out, ne_cont h16]
      have HRM : Hid (rgB r (l ++ [(day, (k : Int))]) = o) := hide (by rw [rg_more HRG.out day k HFR.out.1 HFR.out.2, hO])
      have hS : se = seB r (folF r m0 l 0).1.d k := by rw [← hse, ← HLS0.out, se_cont HRO.out _ hkr]
      have hF : fo = true → o = false ∧ se = false ∧ (r.ac k).ex = false := fun h => by
        rw [← hfo, ← HLF0.out, fo_cont h16 _ _ hkr] at h
        obtain ⟨h1, h2, h3⟩ := fo_facts (de := ((folF r m0 l 0).1.on day).de) h
        rw [on_d] at h2
        exact ⟨by rw [hO, decide_eq_false h1], by rw [hS, h2], h3⟩
      have hH : lo = true → o = false ∧ se = false := fun h => by
        rw [← hlo, ← HLH0.out, hp_cont] at h
        obtain ⟨-, h1, h2⟩ := hp_facts HRO.out h
        rw [on_d] at h2
        exact ⟨by rw [hO, decide_eq_false h1], by rw [hS, h2]⟩
      have hcO := hide (fun W (h : Below w7.heap.size w7 W) => hasl_any AO cO LO k W (by have := HNO.out; have := HL16.out; omega) (liE HLO.out h))
      have hcF := hide (fun W (h : Below w7.heap.size w7 W) => hasl_any AF cF LF k W (by have := HNF.out; have := HL16.out; omega) (liE HLF.out h))
      have hcH := hide (fun W (h : Below w7.heap.size w7 W) => hasl_any AH cH LH k W (by have := HNH.out; have := HL16.out; omega) (liE HLH.out h))
      have hcS := hide (fun W (h : Below w7.heap.size w7 W) => hasl_any AS cS LS k W (by have := HNS.out; have := HL16.out; omega) (liE HLS.out h))
      rw [ho, HNO.out] at hcO
      rw [hfo, HNF.out] at hcF
      rw [hlo, HNH.out] at hcH
      rw [hse, HNS.out] at hcS
      have HRX : Hid (∀ (A' : Option Addr) (c' : Nat) W, RtR W d r → DsR W A' (l ++ [(day, (k : Int))]) → ∃ cc, Calls Tryd.prog 28 #[.agg #[.slice d.A n d.c, .int .i64 la, .int .i64 tl], .slice A' (nl + 1) c'] W fun e w' => e = .returned (.tuple #[.bool o, .bool cc]) ∧ Below W.heap.size W w') := hide fun A' c' W h h2 => by
        have h3 := HRI.out d A' c' (l ++ [(day, (k : Int))]) (by simp; have := HNL.out; omega) W h h2
        rw [HN.out.1, HN.out.2.1, HN.out.2.2, HRM.out, List.length_append, HNL.out] at h3
        exact ⟨_, h3⟩
      obtain ⟨ab, ao, hra, hab, -, -, -, -, -, -, hx6⟩ := HSR.out.rt.at_ hkr rfl
      have HX6 : Hid (∀ W, Below w7.heap.size w7 W → W.cell? ⟨G, 0, none⟩ = some (.slice (some ⟨ab, ao, none⟩) n d.c) ∧ W.cell? ⟨ab, ao + k * 7 + 6, none⟩ = some (.bool (r.ac k).ex)) := hide fun W h => by
        have h2 := (HS17.out W (HS.out.ext h)).1
        rw [hra] at h2
        obtain ⟨ab2, ao2, hra2, -, -, -, -, -, -, -, hx7⟩ := (HS.out.ext h).rt.at_ hkr rfl
        rw [hra] at hra2
        injection hra2 with hra2
        injection hra2 with e1 e2
        subst e1; subst e2
        exact ⟨h2, hx7⟩
      obtain ⟨ex, hex⟩ : ∃ x, (r.ac k).ex = x := ⟨_, rfl⟩
      rw [hex] at hF HX6
      have HFH := hide (And.intro hF hH)
      clear hkr h16 ho hfo hlo hse hO hS hF hH hra hab hx6 hex
      go_wp2_with fail
      go_cut [18] (fun v w' => v = .bool o ∧ Hid (Below wr.heap.size wr w'))
      case first =>
        have HBd := hide ((Below.refl wr.heap.size wr).drew)
        replace HSR := hide (HSR.out.ext HBd.out)
        refine wp_region_J (fun W : World => (W.cell? ⟨G, 0, none⟩ = some (.slice d.A n d.c) ∧ W.cell? ⟨G, 1, none⟩ = some (.int .i64 la) ∧ W.cell? ⟨G, 2, none⟩ = some (.int .i64 tl))) (by kernel_rfl) ?_
        generalize wr.drew = wd at HBd HSR ⊢
        clear hcO hcF hcH hcS HX6 HFH
        refine wpAnyJ_take 0 (v := ?_) (by first | exact hF | exact wideFn) (HS17.out _ HSR.out) rfl (by kernel_rfl) (by kernel_rfl) (by kernel_rfl) (by kernel_rfl) rfl ?_ (by first | exact fun _ _ _ h => h | exact fun _ _ _ h => hQ2 _ _ _ _ _ h) ?_
        rotate_left
        · intro W hSW
          simp only [glA, glB, glC]
          (try dsimp only at hSW)
          go_simp
          with_reducible rfl
        (try simp only [glA, glB, glC, Act.put, glD, glE, glF])
        refine wpAnyJ_take 1 (v := ?_) (by first | exact hF | exact wideFn) (HS17.out _ HSR.out) rfl (by kernel_rfl) (by kernel_rfl) (by kernel_rfl) (by kernel_rfl) rfl ?_ (by first | exact fun _ _ _ h => h | exact fun _ _ _ h => hQ2 _ _ _ _ _ h) ?_
        rotate_left
        · intro W hSW
          simp only [glA, glB, glC]
          (try dsimp only at hSW)
          go_simp
          with_reducible rfl
        (try simp only [glA, glB, glC, Act.put, glD, glE, glF])
        refine wpAnyJ_take 3 (v := ?_) (by first | exact hF | exact wideFn) (HS17.out _ HSR.out) rfl (by kernel_rfl) (by kernel_rfl) (by kernel_rfl) (by kernel_rfl) rfl ?_ (by first | exact fun _ _ _ h => h | exact fun _ _ _ h => hQ2 _ _ _ _ _ h) ?_
        rotate_left
        · intro W hSW
          simp only [glA, glB, glC]
          (try dsimp only at hSW)
          go_simp
          with_reducible rfl
        (try simp only [glA, glB, glC, Act.put, glD, glE, glF])
        refine wpAnyJ_take 4 (v := ?_) (by first | exact hF | exact wideFn) (HS17.out _ HSR.out) rfl (by kernel_rfl) (by kernel_rfl) (by kernel_rfl) (by kernel_rfl) rfl ?_ (by first | exact fun _ _ _ h => h | exact fun _ _ _ h => hQ2 _ _ _ _ _ h) ?_
        rotate_left
        · intro W hSW
          simp only [glA, glB, glC]
          (try dsimp only at hSW)
          go_simp
          with_reducible rfl
        (try simp only [glA, glB, glC, Act.put, glD, glE, glF])
        refine wpAnyJ_take 5 (v := ?_) (by first | exact hF | exact wideFn) (HS17.out _ HSR.out) rfl (by kernel_rfl) (by kernel_rfl) (by kernel_rfl) (by kernel_rfl) rfl ?_ (by first | exact fun _ _ _ h => h | exact fun _ _ _ h => hQ2 _ _ _ _ _ h) ?_
        rotate_left
        · intro W hSW
          simp only [glA, glB, glC]
          (try dsimp only at hSW)
          go_simp
          with_reducible rfl
        (try simp only [glA, glB, glC, Act.put, glD, glE, glF])
        refine wpAnyJ_two 2 6 rfl rfl (by kernel_rfl) (fun K hK => ?_) (fun K hK => ?_)
        · simp only [glA, glB, glC]
          go_simp
          refine ⟨trivial, rfl, ?_⟩
          refine (callsIn_wide.2 (HDE.out wd HSR.out.ds)).mono ?_
          rintro e w8 ⟨A8, c8, rfl, ho8, hb8⟩
          have HS8 := hide (HSR.out.ext hb8)
          dsimp only
          refine hK.out _ _ (fun _ => HS17.out _ HS8.out) ?_
          clear hK K
          (try simp only [glA, glB, glC, Act.put, glD, glE, glF])
          have hba : Below w8.heap.size w8 (w8.alloc (.cells #[.int .i64 day, .int .i64 k] 60)) := (Below.refl _ _).alloc (Nat.le_refl _) _
          have hbb := hb8.trans (hba.mono hb8.size)
          obtain ⟨v9, w9, hrun, ho9, hg9⟩ := OwnD.pushes (ownBelow ho8 hba) (some ⟨w8.heap.size, 0, none⟩) 1 [(day, (k : Int))] (blk_ds w8 [(day, (k : Int))]) (by simp; have := HNL.out; omega) hbb.size
          have hb9 : Below wd.heap.size wd w9 := hbb.grown hg9 hbb.size (fun j e => (World.ownsRow.lt ho8 j e).1)
          refine wpAnyJ_one 6 rfl (by kernel_rfl) (fun K hK => ?_)
          simp only [glA, glB, glC]
          go_simp
          refine hK.out _ _ (fun _ => HS17.out _ (HS8.out.ext hba)) ?_
          clear hK K
          (try simp only [glA, glB, glC, Act.put, glD, glE, glF])
          obtain ⟨A9, c9, rfl⟩ := own_shape ho9
          rw [List.length_append, HNL.out] at hrun
          have D9 := hide ho9.dsr.2
          have HS9 := hide (HSR.out.ext hb9)
          have HRUN := hide hrun
          clear hrun ho9 hg9 hbb hba hb8 ho8 HS8
          refine wpAnyJ_one 7 rfl (by kernel_rfl) (fun K hK => ?_)
          rw [if_pos (by rfl)]
          refine wpIn_append_run (.tmp 101) (.tmp 105) 25 wideFn rfl rfl rfl HRUN.out ?_
          refine hK.out _ _ (fun _ => HS17.out _ HS9.out) ?_
          clear hK K
          (try simp only [glA, glB, glC, Act.put, glD, glE, glF])
          obtain ⟨cc, hcc⟩ := HRX.out A9 c9 _ HS9.out.rt D9.out
          have HCC := hide hcc
          clear hcc
          refine wpAnyJ_one 8 rfl (by kernel_rfl) (fun K hK => ?_)
          simp only [glA, glB, glC]
          go_simp
          refine ⟨trivial, rfl, ?_⟩
          refine (callsIn_wide.2 HCC.out).mono ?_
          rintro e wa ⟨rfl, hbz⟩
          have HSz := hide (HS9.out.ext hbz)
          dsimp only
          refine hK.out _ _ (fun _ => HS17.out _ HSz.out) ?_
          clear hK K
          (try simp only [glA, glB, glC, Act.put, glD, glE, glF])
          refine wpAnyJ_take 9 (v := ?_) (by first | exact hF | exact wideFn) (HS17.out _ HSz.out) rfl (by kernel_rfl) (by kernel_rfl) (by kernel_rfl) (by kernel_rfl) rfl ?_ (by first | exact fun _ _ _ h => h | exact fun _ _ _ h => hQ2 _ _ _ _ _ h) ?_
          rotate_left
          · intro W hSW
            simp only [glA, glB, glC]
            (try dsimp only at hSW)
            go_simp
            with_reducible rfl
          (try simp only [glA, glB, glC, Act.put, glD, glE, glF])
          refine wpAnyJ_take 10 (v := ?_) (by first | exact hF | exact wideFn) (HS17.out _ HSz.out) rfl (by kernel_rfl) (by kernel_rfl) (by kernel_rfl) (by kernel_rfl) rfl ?_ (by first | exact fun _ _ _ h => h | exact fun _ _ _ h => hQ2 _ _ _ _ _ h) ?_
          rotate_left
          · intro W hSW
            simp only [glA, glB, glC]
            (try dsimp only at hSW)
            go_simp
            with_reducible rfl
          (try simp only [glA, glB, glC, Act.put, glD, glE, glF])
          refine wpAnyJ_take 11 (v := ?_) (by first | exact hF | exact wideFn) (HS17.out _ HSz.out) rfl (by kernel_rfl) (by kernel_rfl) (by kernel_rfl) (by kernel_rfl) rfl ?_ (by first | exact fun _ _ _ h => h | exact fun _ _ _ h => hQ2 _ _ _ _ _ h) ?_
          rotate_left
          · intro W hSW
            simp only [glA, glB, glC]
            (try dsimp only at hSW)
            go_simp
            with_reducible rfl
          (try simp only [glA, glB, glC, Act.put, glD, glE, glF])
          refine wpAnyJ_take 12 (v := ?_) (by first | exact hF | exact wideFn) (HS17.out _ HSz.out) rfl (by kernel_rfl) (by kernel_rfl) (by kernel_rfl) (by kernel_rfl) rfl ?_ (by first | exact fun _ _ _ h => h | exact fun _ _ _ h => hQ2 _ _ _ _ _ h) ?_
          rotate_left
          · intro W hSW
            simp only [glA, glB, glC]
            (try dsimp only at hSW)
            go_simp
            with_reducible rfl
          (try simp only [glA, glB, glC, Act.put, glD, glE, glF])
          refine wpAnyJ_take 13 (v := ?_) (by first | exact hF | exact wideFn) (HS17.out _ HSz.out) rfl (by kernel_rfl) (by kernel_rfl) (by kernel_rfl) (by kernel_rfl) rfl ?_ (by first | exact fun _ _ _ h => h | exact fun _ _ _ h => hQ2 _ _ _ _ _ h) ?_
          rotate_left
          · intro W hSW
            simp only [glA, glB, glC]
            (try dsimp only at hSW)
            go_simp
            with_reducible rfl
          (try simp only [glA, glB, glC, Act.put, glD, glE, glF])
          refine wpAnyJ_done (by kernel_rfl) ?_
          go_wp2_with fail
          go_meet
          exact ⟨rfl, hide ((HBd.out.trans (hb9.mono HBd.out.size)).trans (hbz.mono (Nat.le_trans HBd.out.size hb9.size)))⟩
        · have hba : Below wd.heap.size wd (wd.alloc (.cells #[.int .i64 day, .int .i64 k] 60)) := (Below.refl _ _).alloc (Nat.le_refl _) _
          have HSb := hide (HSR.out.ext hba)
          simp only [glA, glB, glC]
          go_simp
          refine hK.out _ _ (fun _ => HS17.out _ HSb.out) ?_
          clear hK K
          (try simp only [glA, glB, glC, Act.put, glD, glE, glF])
          refine wpAnyJ_one 2 rfl (by kernel_rfl) (fun K hK => ?_)
          simp only [glA, glB, glC]
          go_simp
          refine ⟨trivial, rfl, ?_⟩
          refine (callsIn_wide.2 (HDE.out _ HSb.out.ds)).mono ?_
          rintro e w8 ⟨A8, c8, rfl, ho8, hb8⟩
          have HS8 := hide (HSb.out.ext hb8)
          dsimp only
          refine hK.out _ _ (fun _ => HS17.out _ HS8.out) ?_
          clear hK K
          (try simp only [glA, glB, glC, Act.put, glD, glE, glF])
          have hbb := hba.trans (hb8.mono hba.size)
          obtain ⟨v9, w9, hrun, ho9, hg9⟩ := OwnD.pushes ho8 (some ⟨wd.heap.size, 0, none⟩) 1 [(day, (k : Int))] ((blk_ds wd [(day, (k : Int))]).ext hb8) (by simp; have := HNL.out; omega) hb8.size
          have hb9 : Below wd.heap.size wd w9 := hbb.grown hg9 hbb.size (fun j e => Nat.le_trans hba.size (World.ownsRow.lt ho8 j e).1)
          obtain ⟨A9, c9, rfl⟩ := own_shape ho9
          rw [List.length_append, HNL.out] at hrun
          have D9 := hide ho9.dsr.2
          have HS9 := hide (HSR.out.ext hb9)
          have HRUN := hide hrun
          clear hrun ho9 hg9 hbb hba hb8 ho8 HS8
          refine wpAnyJ_one 7 rfl (by kernel_rfl) (fun K hK => ?_)
          rw [if_pos (by rfl)]
          refine wpIn_append_run (.tmp 101) (.tmp 105) 25 wideFn rfl rfl rfl HRUN.out ?_
          refine hK.out _ _ (fun _ => HS17.out _ HS9.out) ?_
          clear hK K
          (try simp only [glA, glB, glC, Act.put, glD, glE, glF])
          obtain ⟨cc, hcc⟩ := HRX.out A9 c9 _ HS9.out.rt D9.out
          have HCC := hide hcc
          clear hcc
          refine wpAnyJ_one 8 rfl (by kernel_rfl) (fun K hK => ?_)
          simp only [glA, glB, glC]
          go_simp
          refine ⟨trivial, rfl, ?_⟩
          refine (callsIn_wide.2 HCC.out).mono ?_
          rintro e wa ⟨rfl, hbz⟩
          have HSz := hide (HS9.out.ext hbz)
          dsimp only
          refine hK.out _ _ (fun _ => HS17.out _ HSz.out) ?_
          clear hK K
          (try simp only [glA, glB, glC, Act.put, glD, glE, glF])
          refine wpAnyJ_take 9 (v := ?_) (by first | exact hF | exact wideFn) (HS17.out _ HSz.out) rfl (by kernel_rfl) (by kernel_rfl) (by kernel_rfl) (by kernel_rfl) rfl ?_ (by first | exact fun _ _ _ h => h | exact fun _ _ _ h => hQ2 _ _ _ _ _ h) ?_
          rotate_left
          · intro W hSW
            simp only [glA, glB, glC]
            (try dsimp only at hSW)
            go_simp
            with_reducible rfl
          (try simp only [glA, glB, glC, Act.put, glD, glE, glF])
          refine wpAnyJ_take 10 (v := ?_) (by first | exact hF | exact wideFn) (HS17.out _ HSz.out) rfl (by kernel_rfl) (by kernel_rfl) (by kernel_rfl) (by kernel_rfl) rfl ?_ (by first | exact fun _ _ _ h => h | exact fun _ _ _ h => hQ2 _ _ _ _ _ h) ?_
          rotate_left
          · intro W hSW
            simp only [glA, glB, glC]
            (try dsimp only at hSW)
            go_simp
            with_reducible rfl
          (try simp only [glA, glB, glC, Act.put, glD, glE, glF])
          refine wpAnyJ_take 11 (v := ?_) (by first | exact hF | exact wideFn) (HS17.out _ HSz.out) rfl (by kernel_rfl) (by kernel_rfl) (by kernel_rfl) (by kernel_rfl) rfl ?_ (by first | exact fun _ _ _ h => h | exact fun _ _ _ h => hQ2 _ _ _ _ _ h) ?_
          rotate_left
          · intro W hSW
            simp only [glA, glB, glC]
            (try dsimp only at hSW)
            go_simp
            with_reducible rfl
          (try simp only [glA, glB, glC, Act.put, glD, glE, glF])
          refine wpAnyJ_take 12 (v := ?_) (by first | exact hF | exact wideFn) (HS17.out _ HSz.out) rfl (by kernel_rfl) (by kernel_rfl) (by kernel_rfl) (by kernel_rfl) rfl ?_ (by first | exact fun _ _ _ h => h | exact fun _ _ _ h => hQ2 _ _ _ _ _ h) ?_
          rotate_left
          · intro W hSW
            simp only [glA, glB, glC]
            (try dsimp only at hSW)
            go_simp
            with_reducible rfl
          (try simp only [glA, glB, glC, Act.put, glD, glE, glF])
          refine wpAnyJ_take 13 (v := ?_) (by first | exact hF | exact wideFn) (HS17.out _ HSz.out) rfl (by kernel_rfl) (by kernel_rfl) (by kernel_rfl) (by kernel_rfl) rfl ?_ (by first | exact fun _ _ _ h => h | exact fun _ _ _ h => hQ2 _ _ _ _ _ h) ?_
          rotate_left
          · intro W hSW
            simp only [glA, glB, glC]
            (try dsimp only at hSW)
            go_simp
            with_reducible rfl
          (try simp only [glA, glB, glC, Act.put, glD, glE, glF])
          refine wpAnyJ_done (by kernel_rfl) ?_
          go_wp2_with fail
          go_meet
          exact ⟨rfl, hide ((HBd.out.trans (hb9.mono HBd.out.size)).trans (hbz.mono (Nat.le_trans HBd.out.size hb9.size)))⟩
      obtain ⟨rfl, HCU⟩ := hcut
      replace HB := hide (HB.out.trans (HCU.out.mono HB.out.size))
      clear HSR q0 q1 q2 HRX HRM HCU
      have hoo : (o != o) = false := by cases o <;> rfl
      go_wp2_with fail
      refine (hcO.out wc HB.out).mono ?_
      rintro e _ ⟨rfl, rfl⟩
      go_wp2_with fail
      refine (hcF.out wc HB.out).mono ?_
      rintro e _ ⟨rfl, rfl⟩
      cases fo with
      | true =>
        obtain ⟨e1, e2, e3⟩ := HFH.out.1 rfl
        subst e1 e2 e3
        have HX := hide (HX6.out wc HB.out)
        clear HX6 HFH hoo
        go_wp2_with fail
        refine (hcS.out wc HB.out).mono ?_
        rintro e _ ⟨rfl, rfl⟩
        obtain ⟨p0, p1⟩ := HX.out
        go_wp2_with fail
        refine (hcH.out wc HB.out).mono ?_
        rintro e _ ⟨rfl, rfl⟩
        clear p0 p1
        cases lo with
        | true =>
          go_wp2_with fail
          refine (hcS.out wc HB.out).mono ?_
          rintro e _ ⟨rfl, rfl⟩
          go_wp2_with fail
          go_roundw
          case rel => exact ⟨k + 1, by omega, by go_num, HB⟩
          case measure => simp [intOf]; omega
        | false =>
          go_wp2_with fail
          go_roundw
          case rel => exact ⟨k + 1, by omega, by go_num, HB⟩
          case measure => simp [intOf]; omega
      | false =>
        go_wp2_with fail
        refine (hcH.out wc HB.out).mono ?_
        rintro e _ ⟨rfl, rfl⟩
        cases lo with
        | true =>
          obtain ⟨e1, e2⟩ := HFH.out.2 rfl
          subst e1 e2
          clear HFH HX6 hoo
          go_wp2_with fail
          refine (hcS.out wc HB.out).mono ?_
          rintro e _ ⟨rfl, rfl⟩
          go_wp2_with fail
          go_roundw
          case rel => exact ⟨k + 1, by omega, by go_num, HB⟩
          case measure => simp [intOf]; omega
        | false =>
          clear HFH HX6
          go_wp2_with fail
          go_roundw
          case rel => exact ⟨k + 1, by omega, by go_num, HB⟩
          case measure => simp [intOf]; omega
    · obtain rfl : n = k := by omega
      have hnl : ¬ (n : Int) < (n : Int) := by omega
      go_wp2_with fail
      refine (HKN.out wr HSR.out.lo).mono ?_
      rintro e wz ⟨rfl, hbz⟩
      have HZL := hide (HSR.out.lo.trans (hbz.mono HSR.out.lo.size))
      clear hbz q0 q1 q2
      go_wp2_with fail
      go_ret
      exact ⟨rfl, HZL.out⟩
end Go.Proofs.YtcgdalabenflmaaDoor
/- How a law's statement follows from its walk; arguments opened as readings. -/
namespace Go.Proofs.YtcgdalabenflmaaDoor
open Go Go.RowKit Go.ChangeShapes Go.WideShapes Go.ChangeAt
set_option maxRecDepth 100000
theorem own_knob : ownKnob Tryd.prog.godebug = none := by kernel_rfl
theorem laidOut : laidOutB Tryd.prog = true := by kernel_rfl
section
variable {H : Type} {enc : TypeId × Value → H}
/-- arguments read behind the call as before, if below the heap's old size nothing has turned -/
theorem stay_all {W W' : World} (hb : Below W.heap.size W W') {sp : Nat → Bool} : ∀ {ts : List TypeId} {vs : List Value} {ds : List (DataW H)} {ps : List MemPlace},
    (∀ t ∈ ts, Tryd.prog.readableRec t = true ∧ t < Tryd.prog.types.size) → DataW.TrodAll enc Tryd.prog W 0 (fun _ => true) true ts vs ds ps → (∀ x ∈ ps, x.block < W.heap.size) → (∀ x ∈ ps, sp x.block = true) →
    DataW.TrodAll enc Tryd.prog W' 0 sp true ts vs ds ps
  | [], _, _, _, _, h, _, _ => by
    obtain ⟨rfl, rfl, rfl⟩ := trodAll_nil h
    exact trodAll_mk0
  | t :: ts, _, _, _, hr, h, hlt, hsp => by
    obtain ⟨v, vs, d, ds, p, q, rfl, rfl, rfl, h0, r0⟩ := trodAll_cons h
    have k := hr t (by simp)
    exact trodAll_cons_mk (WideElems.Trod_stays laidOut k.1 k.2 h0 (fun x hx => hb.same (hlt x (by simp [hx]))) (fun x hx => hsp x (by simp [hx])))
      (stay_all hb (fun t ht => hr t (by simp [ht])) r0 (fun x hx => hlt x (by simp [hx])) (fun x hx => hsp x (by simp [hx])))
/-- a law that returned true and turned nothing old -/
theorem law_post {f : Func} {s : ChangeSpec} {apart fresh handsOn again : Bool} {W W' : World} {args : Array Value} {ds gs : List (DataW H)} {before : List MemPlace}
    (hW : DataW.Whole enc Tryd.prog f.params.toList s.vars apart W args.toList ds gs before) (hb : Below W.heap.size W W')
    (hvs : s.vars = []) (hr1 : f.resultTypes = #[4])
    (hpar : f.params.toList.all (fun t => Tryd.prog.readableRec t && decide (t < Tryd.prog.types.size)) = true)
    (hfn : (s.fn H ds).results = [.lit (.bool true)] ∧ (s.fn H ds).args = ds ∧ (s.fn H ds).vars = []) :
    s.post enc Tryd.prog f apart fresh handsOn again W args (.bool true) W' := by
  have hW0 := hW
  have hlt : ∀ p ∈ before, p.block < W.heap.size := fun p hp => hW.lt p hp
  have hold : ∀ p ∈ before, (fun b => decide (b < W.heap.size)) p.block = true := fun p hp => by simpa using hlt p hp
  obtain ⟨p, q, hA, hV, rfl, hz, hn⟩ := hW
  rw [hvs] at hV
  obtain ⟨rfl, rfl⟩ := trodVars_none hV
  simp only [List.append_nil] at *
  have hk : ∀ t ∈ f.params.toList, Tryd.prog.readableRec t = true ∧ t < Tryd.prog.types.size := by
    intro t ht
    have := List.all_eq_true.1 hpar t ht
    simpa using this
  have hargs : ∀ sp : Nat → Bool, (∀ x ∈ p, sp x.block = true) → DataW.TrodAll enc Tryd.prog W' 0 sp true f.params.toList args.toList (s.fn H (ds ++ [])).args p := fun sp hsp => by
    rw [List.append_nil, hfn.2.1]; exact stay_all hb hk hA hlt hsp
  have hvars : ∀ sp : Nat → Bool, DataW.TrodVars enc Tryd.prog W' sp s.vars (s.fn H (ds ++ [])).vars [] := fun sp => by
    rw [hvs, List.append_nil, hfn.2.2]; exact rfl
  have hres : ∀ (b : Nat) (sp : Nat → Bool) (hd : Bool), DataW.TrodAll enc Tryd.prog W' b sp hd f.resultTypes.toList ((Value.bool true).resultList f.resultTypes.size) (s.fn H (ds ++ [])).results [] := fun b sp hd => by
    rw [List.append_nil, hfn.1, hr1]
    exact trodAll_cons_mk (shut_bool Tryd.underlying4 _) trodAll_mk0
  refine ⟨ds, [], p, [], p, [], hW0, hres _ _ _, hargs _ hold, hvars _, World.keptBut_mono (fun x hx => ⟨hx, Or.inr (by simpa using hx)⟩) (hb.frame (· ∈ p)), fun _ => ?_⟩
  refine ⟨ok_one hr1 rfl (okWide_bool_mk Tryd.underlying4 _), _, _, ([] ++ p) ++ [], ⟨[] ++ p, [], trodAll_append (hargs _ (fun _ _ => rfl)) (hres _ _ _), hvars (fun _ => true), rfl, ?_, ?_⟩, ?_⟩
  · intro b off hp
    have hin : MemPlace.cell b off ∈ p := by simpa using hp
    rw [hb.frozen (hlt _ hin)]
    exact hz b off hin
  · intro ha
    simpa using hn ha
  · intro x hx _
    simpa using hx
/-- a slice of structs of two cells: the readings of its elements -/
theorem open_pairs_c {W : World} {t e : TypeId} {f0 f1 : Field} {v : Value} {x : DataW H × List MemPlace} {fuel : Nat} (ht : Tryd.prog.underlying t = some (.slice e)) (he : Tryd.prog.underlying e = some (.struct #[f0, f1]))
    (ce : Tryd.prog.cellsOf e = 2) (o0 : f0.offset = 0) (o1 : f1.offset = 1) (c0 : Tryd.prog.cellsOf f0.type = 1) (c1 : Tryd.prog.cellsOf f1.type = 1)
    (h : DataW.trod enc Tryd.prog W 0 (fun _ => true) true fuel t [v] = some x) (hlt : ∀ y ∈ x.2, y.block < W.heap.size) :
    ∃ A n c V0 V1, v = .slice A n c ∧ n ≤ maxLen ∧ n ≤ c ∧ P2 W W.heap.size A n V0 V1 ∧ ∀ i, i < n → ∃ m x0 x1, DataW.trod enc Tryd.prog W 0 (fun _ => true) true m f0.type [V0 i] = some x0 ∧ DataW.trod enc Tryd.prog W 0 (fun _ => true) true m f1.type [V1 i] = some x1 ∧
      (∀ y ∈ x0.2, y.block < W.heap.size) ∧ (∀ y ∈ x1.2, y.block < W.heap.size) := by
  rcases Deep.open_slice_pairs ht he ce o0 o1 c0 c1 h with ⟨h1, -⟩ | ⟨a, len, cap, m, n, V0, V1, D0, D1, P0, P1, h1, hb, hl, hm, hmm, hx, hc⟩
  · injection h1 with h1
    subst h1
    exact ⟨none, 0, 0, fun _ => .nilIface, fun _ => .nilIface, rfl, by simp [maxLen], Nat.le_refl _, ER.nil _ _ _ _ _, fun i hi => absurd hi (by omega)⟩
  · injection h1 with h1
    subst h1
    simp only [if_true] at hmm
    subst hmm
    refine ⟨some a, len, m, V0, V1, rfl, by omega, hl, fun hn => ?_, fun i hi => ?_⟩
    · have h0 := (hc 0 (by omega)).1
      obtain ⟨b, off, spot⟩ := a
      have hsp : spot = none := by simpa [Addr.add] using World.cell?_spot h0
      subst hsp
      refine ⟨b, off, rfl, ?_, fun k i hk hi => ?_⟩
      · have hb1 := hlt (.cell b (off + 0)) (by
          rw [hx]
          exact List.mem_append_left _ (MemPlace.mem_row.2 ⟨0, by omega, rfl⟩))
        exact hb1
      · have hk2 := hc k (by omega)
        have q0 := hk2.1
        have q1 := hk2.2.1
        rw [add_lit'] at q0 q1
        rcases (by omega : i = 0 ∨ i = 1) with rfl | rfl
        · simpa using q0
        · simpa [Nat.add_assoc] using q1
    · have hi2 := hc i (by omega)
      refine ⟨n, _, _, hi2.2.2.1, hi2.2.2.2, fun y hy => hlt y ?_, fun y hy => hlt y ?_⟩
      · rw [hx]; exact List.mem_append_right _ (List.mem_flatMap.2 ⟨i, by simp; omega, List.mem_append_left _ hy⟩)
      · rw [hx]; exact List.mem_append_right _ (List.mem_flatMap.2 ⟨i, by simp; omega, List.mem_append_right _ hy⟩)
/-- a slice of ints -/
theorem open_ints_c {W : World} {t : TypeId} {v : Value} {x : DataW H × List MemPlace} {fuel : Nat} (ht : Tryd.prog.underlying t = some (.slice 3))
    (h : DataW.trod enc Tryd.prog W 0 (fun _ => true) true fuel t [v] = some x) (hlt : ∀ y ∈ x.2, y.block < W.heap.size) :
    ∃ A n c z, v = .slice A n c ∧ n ≤ maxLen ∧ n ≤ c ∧ IR W W.heap.size A n z ∧ ∀ i, i < n → -9223372036854775808 ≤ z i ∧ z i ≤ 9223372036854775807 := by
  rcases open_ints ht Tryd.underlying3 (by kernel_rfl) h with ⟨h1, -⟩ | ⟨a, len, cap, zs, h1, hb, hl, hm, hz, hx, hc, hwf⟩
  · injection h1 with h1
    subst h1
    exact ⟨none, 0, 0, fun _ => 0, rfl, by simp [maxLen], Nat.le_refl _, ER.nil _ _ _ _ _, fun i hi => absurd hi (by omega)⟩
  · injection h1 with h1
    subst h1
    simp only [if_true] at hz
    refine ⟨some a, len, cap, fun i => zs.getD i 0, rfl, by omega, hl, fun hn => ?_, fun i hi => ?_⟩
    · have h0 := hc 0 (by omega)
      obtain ⟨b, off, spot⟩ := a
      have hsp : spot = none := by simpa [Addr.add] using World.cell?_spot h0
      subst hsp
      refine ⟨b, off, rfl, ?_, fun k i hk hi => ?_⟩
      · have hb1 := hlt (.cell b (off + 0)) (by
          rw [hx]
          exact MemPlace.mem_row.2 ⟨0, by omega, rfl⟩)
        exact hb1
      · obtain rfl : i = 0 := by omega
        have := hc k (by omega)
        rw [add_lit'] at this
        simpa using this
    · have h1 : zs.getD i 0 ∈ zs := by
        rw [List.getD_eq_getElem?_getD, List.getElem?_eq_getElem (by omega)]
        exact List.getElem_mem _
      have := hwf _ h1
      simp only [Lit.wf, Bool.and_eq_true, decide_eq_true_eq] at this
      simpa [IntKind.min, IntKind.max, IntKind.signed, IntKind.bits] using this
theorem int_of_trod {W : World} {t : TypeId} {v : Value} {x : DataW H × List MemPlace} {fuel : Nat} (ht : Tryd.prog.underlying t = some (.int .i64)) (h : DataW.trod enc Tryd.prog W 0 (fun _ => true) true fuel t [v] = some x) :
    v = .int .i64 (intOf v) ∧ -9223372036854775808 ≤ intOf v ∧ intOf v ≤ 9223372036854775807 := by
  obtain ⟨z, hz, -, hw⟩ := DataW.trod_int ht h
  injection hz with hz
  subst hz
  simp only [Lit.wf, Bool.and_eq_true, decide_eq_true_eq] at hw
  exact ⟨rfl, by simpa [intOf, IntKind.min, IntKind.max, IntKind.signed, IntKind.bits] using hw⟩
theorem cells_slice {A : Option Addr} {n c : Nat} : (Value.slice A n c).cells.toList = [.slice A n c] := rfl
/-- a slice of structs of two ints -/
theorem open_pairs {r : Reach} {b0 : Nat} {W : World} {t e : TypeId} {f0 f1 : Field} {v : Value} {d : DataW H} {p : List MemPlace} (ht : Tryd.prog.underlying t = some (.slice e)) (he : Tryd.prog.underlying e = some (.struct #[f0, f1]))
    (ce : Tryd.prog.cellsOf e = 2) (o0 : f0.offset = 0) (o1 : f1.offset = 1) (c0 : Tryd.prog.cellsOf f0.type = 1) (c1 : Tryd.prog.cellsOf f1.type = 1)
    (k0 : Tryd.prog.underlying f0.type = some (.int .i64)) (k1 : Tryd.prog.underlying f1.type = some (.int .i64)) (hval : Value.okWide Tryd.prog W r b0 t v)
    (h : DataW.Trod enc Tryd.prog W 0 (fun _ => true) true t v d p) (hlt : ∀ x ∈ p, x.block < W.heap.size) :
    ∃ A n c x y, v = .slice A n c ∧ n ≤ maxLen ∧ n ≤ c ∧ PI W W.heap.size A n x y := by
  obtain ⟨fuel, h⟩ := h
  obtain ⟨A, n, c, rfl⟩ := okWide_slice ht hval
  rw [cells_slice] at h
  obtain ⟨A', n', c', V0, V1, h1, hn, hnc, hP, hV⟩ := open_pairs_c ht he ce o0 o1 c0 c1 h hlt
  injection h1 with h1 h2 h3
  subst h1 h2 h3
  refine ⟨A, n, c, fun i => intOf (V0 i), fun i => intOf (V1 i), rfl, hn, hnc, fun hn0 => ?_⟩
  obtain ⟨b, off, hA, hb, hc⟩ := hP hn0
  refine ⟨b, off, hA, hb, fun k i hk hi => ?_⟩
  obtain ⟨m, x0, x1, g0, g1, -, -⟩ := hV k hk
  rw [hc k i hk hi]
  rcases (by omega : i = 0 ∨ i = 1) with rfl | rfl
  · simpa using (int_of_trod k0 g0).1
  · simpa using (int_of_trod k1 g1).1
end
end Go.Proofs.YtcgdalabenflmaaDoor
/- Rite: a law's arguments opened: rites, lists of deeds, the library's table. -/
namespace Go.Proofs.YtcgdalabenflmaaDoor
open Go Go.RowKit Go.ChangeShapes Go.WideShapes Go.ChangeAt
section
variable {H : Type} {enc : TypeId × Value → H} {r : Reach} {b0 : Nat} {W : World} {v : Value} {d : DataW H} {p : List MemPlace}
set_option maxRecDepth 100000
/-- a slice of structs of one-cell fields -/
theorem open_cellsR {t e : TypeId} {fs : Array Field} {x : DataW H × List MemPlace} {fuel : Nat} (ht : Tryd.prog.underlying t = some (.slice e)) (he : Tryd.prog.underlying e = some (.struct fs)) (hone : Deep.oneCellFields Tryd.prog fs = true)
    (ce : Tryd.prog.cellsOf e = fs.size) (hpos : 0 < fs.size) (h : DataW.trod enc Tryd.prog W 0 (fun _ => true) true fuel t [v] = some x) (hlt : ∀ y ∈ x.2, y.block < W.heap.size) :
    ∃ A n c V, v = .slice A n c ∧ n ≤ maxLen ∧ n ≤ c ∧ ER W W.heap.size fs.size A n V ∧ ∀ i k f, i < n → fs[k]? = some f → ∃ m y, DataW.trod enc Tryd.prog W 0 (fun _ => true) true m f.type [V i k] = some y ∧ (∀ z ∈ y.2, z.block < W.heap.size) := by
  rcases Deep.open_slice ht h with ⟨h1, -⟩ | ⟨a, len, cap, m, n, D, Pl, h1, hb, hl, hm, hmm, hx, hc⟩
  · injection h1 with h1
    subst h1
    exact ⟨none, 0, 0, fun _ _ => .nilIface, rfl, by simp [maxLen], Nat.le_refl _, ER.nil _ _ _ _ _, fun i k f hi => absurd hi (by omega)⟩
  · injection h1 with h1
    subst h1
    simp only [if_true] at hmm
    subst hmm
    rw [ce] at hc hx
    obtain ⟨C, hC⟩ := Deep.choose_lt hc
    refine ⟨some a, len, m, fun i k => (C i).getD k undef, rfl, by omega, hl, fun hn => ?_, fun i k f hi hf => ?_⟩
    · obtain ⟨-, hl0, hc0⟩ := World.cells?_some (hC 0 (by omega)).1
      have h0 := hc0 0 hpos
      rw [List.getElem?_eq_getElem (by omega)] at h0
      obtain ⟨b, off, spot⟩ := a
      have hsp : spot = none := by simpa [Addr.add] using World.cell?_spot h0
      subst hsp
      refine ⟨b, off, rfl, ?_, fun k i hk hi => ?_⟩
      · have hb1 := hlt (.cell b (off + 0)) (by
          rw [hx]
          exact List.mem_append_left _ (MemPlace.mem_row.2 ⟨0, Nat.mul_pos (by omega) hpos, rfl⟩))
        exact hb1
      · obtain ⟨-, hl1, hc1⟩ := World.cells?_some (hC k (by omega)).1
        have h2 := hc1 i hi
        rw [Deep.add_add, add_lit', List.getElem?_eq_getElem (by omega)] at h2
        rw [show off + k * fs.size + i = off + (k * fs.size + i) by omega, h2]
        simp [List.getD, List.getElem?_eq_getElem (show i < (C k).length by omega)]
    · obtain ⟨-, hl1, -⟩ := World.cells?_some (hC i (by omega)).1
      obtain ⟨xs, m', -, hxy, -, hxl, hf2⟩ := DataW.trod_struct he (hC i (by omega)).2
      have hk : k < fs.size := (Array.getElem?_eq_some_iff.1 hf).1
      obtain ⟨ho, hc1⟩ := Deep.hone_of hone k f hf
      have g := hf2 k f hf
      rw [ho, hc1, Deep.take1_drop (C i) k undef (by omega), List.getElem?_eq_getElem (by omega)] at g
      refine ⟨m', _, g, fun z hz => hlt z ?_⟩
      rw [hx]
      simp only [Prod.mk.injEq] at hxy
      refine List.mem_append_right _ (List.mem_flatMap.2 ⟨i, by simp; omega, ?_⟩)
      rw [hxy.2]
      exact List.mem_flatMap.2 ⟨_, List.getElem_mem _, hz⟩
theorem arr3R {cs : Array Value} (h : cs.size = 3) : ∃ a b c, cs = #[a, b, c] := by
  rcases cs with ⟨l⟩
  match l, h with
  | [a, b, c], _ => exact ⟨a, b, c, rfl⟩
/-- the table of the library, from a row's list -/
theorem tb_laid {l : List (String × DataW Unit)} {T : DataW Unit} (h : laidMetH Tryd.prog l W) (hpl : (l.all fun x => x.2.handleName?.isNone) = true) (hm : ("math/bits.deBruijn32tab", T) ∈ l)
    (hT : T = Lib.tabData .u8 ((List.range 32).map fun j => ((Lib.deBruijn32tab.getD j 0 : Nat) : Int))) : TB W := by
  rw [MakeChecks.laidMetH_plain _ _ _ hpl] at h
  obtain ⟨g, t, cs, fuel, p, hg, hty, hvar, hd⟩ := Lib.laidMet.reads h hm
  obtain rfl := Option.some.inj ((show Tryd.prog.globalNamed "math/bits.deBruijn32tab" = some 0 by kernel_rfl).symm.trans hg)
  have ht2 : (Tryd.prog.globals[0]?).map (·.type) = some 135 := by kernel_rfl
  obtain rfl := Option.some.inj (ht2.symm.trans hty)
  rw [hT] at hd
  have hcs := Lib.cells_of_tab Tryd.underlying135 Tryd.underlying5 (by kernel_rfl) (by kernel_rfl) hd
  have key : ∀ j, j < 32 → W.cell? ⟨0, j, none⟩ = some (.int .u8 (Lib.deBruijn32tab.getD j 0 : Nat)) := fun j hj => by
    have := World.var?_cell hg hvar j
    rw [this, ← Array.getElem?_toList, hcs]
    simp [hj]
  exact ⟨World.block_lt_of_cell? W ⟨0, 0, none⟩ (key 0 (by omega)), key⟩
/-- a list of deeds -/
theorem open_deeds {x : DataW H × List MemPlace} {fuel : Nat} (h : DataW.trod enc Tryd.prog W 0 (fun _ => true) true fuel 25 [v] = some x) (hlt : ∀ y ∈ x.2, y.block < W.heap.size) :
    ∃ (A : Option Addr) (c : Nat) (l : List (Int × Int)), v = .slice A l.length c ∧ l.length ≤ maxLen ∧ DsR W A l ∧ ∀ t ∈ l, (-9223372036854775808 ≤ t.1 ∧ t.1 ≤ 9223372036854775807) ∧ -9223372036854775808 ≤ t.2 ∧ t.2 ≤ 9223372036854775807 := by
  obtain ⟨A, n, c, V, rfl, hn, hnc, hE, hV⟩ := open_cellsR Tryd.underlying25 Tryd.underlying60 (by kernel_rfl) (by kernel_rfl) (by decide) h hlt
  have k0 : ∀ k, k < n → V k 0 = .int .i64 (intOf (V k 0)) ∧ -9223372036854775808 ≤ intOf (V k 0) ∧ intOf (V k 0) ≤ 9223372036854775807 := fun k hk => by
    obtain ⟨m, y, g, -⟩ := hV k 0 _ hk rfl
    exact int_of_trod Tryd.underlying3 g
  have k1 : ∀ k, k < n → V k 1 = .int .i64 (intOf (V k 1)) ∧ -9223372036854775808 ≤ intOf (V k 1) ∧ intOf (V k 1) ≤ 9223372036854775807 := fun k hk => by
    obtain ⟨m, y, g, -⟩ := hV k 1 _ hk rfl
    exact int_of_trod Tryd.underlying3 g
  obtain ⟨f, hf⟩ : ∃ f : Nat → Int × Int, f = fun k => (intOf (V k 0), intOf (V k 1)) := ⟨_, rfl⟩
  have hl : ((List.range n).map f).length = n := by simp
  have hg : ∀ k, k < n → ((List.range n).map f).getD k (0, 0) = f k := fun k hk => by
    rw [List.getD_eq_getElem?_getD, List.getElem?_map, List.getElem?_range hk]; rfl
  refine ⟨A, c, (List.range n).map f, by rw [hl], by rw [hl]; exact hn, ?_, fun t ht => by
    obtain ⟨k, hk, rfl⟩ := List.mem_map.1 ht
    rw [hf]
    exact ⟨(k0 k (List.mem_range.1 hk)).2, (k1 k (List.mem_range.1 hk)).2⟩⟩
  unfold DsR
  rw [hl]
  refine fun hn0 => ?_
  obtain ⟨b, off, hA, hb, hc⟩ := hE hn0
  refine ⟨b, off, hA, hb, fun k i hk hi => ?_⟩
  refine (hc k i hk hi).trans ?_
  show _ = some (dsV (((List.range n).map f).getD k (0, 0)) i)
  rw [hg k hk, hf]
  rcases (by omega : i = 0 ∨ i = 1) with rfl | rfl
  · rw [(k0 k hk).1]; rfl
  · rw [(k1 k hk).1]; rfl
/-- a list of acts -/
theorem open_acts {x : DataW H × List MemPlace} {fuel : Nat} (h : DataW.trod enc Tryd.prog W 0 (fun _ => true) true fuel 22 [v] = some x) (hlt : ∀ y ∈ x.2, y.block < W.heap.size) (last toil : Int) :
    ∃ (d : Rad) (l : List Rac), v = .slice d.A l.length d.c ∧ l.length ≤ maxLen ∧ RtR W d ⟨l, last, toil⟩ := by
  obtain ⟨A, n, c, V, rfl, hn, hnc, hE, hV⟩ := open_cellsR Tryd.underlying22 Tryd.underlying58 (by kernel_rfl) (by kernel_rfl) (by decide) h hlt
  have key : ∀ i, i < n → ∃ q : Option Addr × Nat × Option Addr × Nat × Rac, (∀ k, k < 7 → V i k = acV q.2.2.2.2 q.1 q.2.1 q.2.2.1 q.2.2.2.1 k) ∧ LI W W.heap.size q.1 q.2.2.2.2.nd ∧ LI W W.heap.size q.2.2.1 q.2.2.2.2.ins := fun i hi => by
    obtain ⟨m0, y0, g0, l0⟩ := hV i 0 _ hi rfl
    obtain ⟨m1, y1, g1, l1⟩ := hV i 1 _ hi rfl
    obtain ⟨m2, y2, g2, l2⟩ := hV i 2 _ hi rfl
    obtain ⟨m3, y3, g3, l3⟩ := hV i 3 _ hi rfl
    obtain ⟨m4, y4, g4, l4⟩ := hV i 4 _ hi rfl
    obtain ⟨m5, y5, g5, l5⟩ := hV i 5 _ hi rfl
    obtain ⟨m6, y6, g6, l6⟩ := hV i 6 _ hi rfl
    obtain ⟨s, hs, -, -⟩ := DataW.trod_string Tryd.underlying9 g0
    obtain ⟨bo, hbo, -⟩ := DataW.trod_bool Tryd.underlying4 g6
    obtain ⟨A1, n1, c1, z1, e1, -, -, r1, -⟩ := open_ints_c Tryd.underlying48 g1 l1
    obtain ⟨A2, n2, c2, z2, e2, -, -, r2, -⟩ := open_ints_c Tryd.underlying48 g2 l2
    have e3 := (int_of_trod Tryd.underlying3 g3).1
    have e4 := (int_of_trod Tryd.underlying3 g4).1
    have e5 := (int_of_trod Tryd.underlying3 g5).1
    injection hs with e0
    injection hbo with e6
    have li : ∀ (A : Option Addr) (n : Nat) (z : Nat → Int), IR W W.heap.size A n z → LI W W.heap.size A ((List.range n).map z) := fun A n z hz => by
      have hl : ((List.range n).map z).length = n := by simp
      unfold LI
      rw [hl]
      refine fun hn => ?_
      obtain ⟨b', off, hA, hb, hc⟩ := hz hn
      refine ⟨b', off, hA, hb, fun k i hk hi => ?_⟩
      rw [hc k i hk hi]
      have e : ((List.range n).map z).getD k 0 = z k := by
        rw [List.getD_eq_getElem?_getD, List.getElem?_map, List.getElem?_range hk]; rfl
      show some (Value.int .i64 (z k)) = some (Value.int .i64 (((List.range n).map z).getD k 0))
      rw [e]
    refine ⟨(A1, c1, A2, c2, ⟨s, (List.range n1).map z1, (List.range n2).map z2, intOf (V i 3), intOf (V i 4), intOf (V i 5), bo⟩), fun k hk => ?_, li _ _ _ r1, li _ _ _ r2⟩
    have hl1 : ((List.range n1).map z1).length = n1 := by simp
    have hl2 : ((List.range n2).map z2).length = n2 := by simp
    rcases (by omega : k = 0 ∨ k = 1 ∨ k = 2 ∨ k = 3 ∨ k = 4 ∨ k = 5 ∨ k = 6) with rfl | rfl | rfl | rfl | rfl | rfl | rfl
    · exact e0
    · rw [e1]; show Value.slice A1 n1 c1 = Value.slice A1 ((List.range n1).map z1).length c1; rw [hl1]
    · rw [e2]; show Value.slice A2 n2 c2 = Value.slice A2 ((List.range n2).map z2).length c2; rw [hl2]
    · exact e3
    · exact e4
    · exact e5
    · exact e6
  haveI : Inhabited Rac := ⟨ra0⟩
  obtain ⟨q, hq⟩ := Deep.choose_lt key
  obtain ⟨f, hf⟩ : ∃ f : Nat → Rac, f = fun k => (q k).2.2.2.2 := ⟨_, rfl⟩
  have hl : ((List.range n).map f).length = n := by simp
  have hg : ∀ k, k < n → (⟨(List.range n).map f, last, toil⟩ : Rit).ac k = f k := fun k hk => by
    unfold Rit.ac
    show ((List.range n).map f).getD k ra0 = f k
    rw [List.getD_eq_getElem?_getD, List.getElem?_map, List.getElem?_range hk]; rfl
  have hn2 : (⟨(List.range n).map f, last, toil⟩ : Rit).n = n := hl
  refine ⟨⟨A, c, fun k => (q k).1, fun k => (q k).2.1, fun k => (q k).2.2.1, fun k => (q k).2.2.2.1⟩, (List.range n).map f, by rw [hl], by rw [hl]; exact hn, ⟨?_, fun k hk => ?_, fun k hk => ?_⟩⟩
  · rw [hn2]
    refine fun hn0 => ?_
    obtain ⟨b, off, hA, hb, hc⟩ := hE hn0
    refine ⟨b, off, hA, hb, fun k i hk hi => ?_⟩
    refine (hc k i hk hi).trans ?_
    show _ = some (acV (Rit.ac _ k) (q k).1 (q k).2.1 (q k).2.2.1 (q k).2.2.2.1 i)
    rw [hg k hk, hf, (hq k hk).1 i hi]
  · rw [hn2] at hk
    rw [hg k hk, hf]
    exact (hq k hk).2.1
  · rw [hn2] at hk
    rw [hg k hk, hf]
    exact (hq k hk).2.2
/-- a rite -/
theorem open_riteV (hval : Value.okWide Tryd.prog W r b0 24 v) (h : DataW.Trod enc Tryd.prog W 0 (fun _ => true) true 24 v d p) (hlt : ∀ x ∈ p, x.block < W.heap.size) :
    ∃ (dd : Rad) (s : Rit), v = .agg #[.slice dd.A s.n dd.c, .int .i64 s.last, .int .i64 s.toil] ∧ s.n ≤ maxLen ∧ RtR W dd s ∧ (-9223372036854775808 ≤ s.last ∧ s.last ≤ 9223372036854775807) ∧ -9223372036854775808 ≤ s.toil ∧ s.toil ≤ 9223372036854775807 := by
  obtain ⟨cs, rfl, hsz⟩ := okWide_struct Tryd.underlying24 hval
  obtain ⟨a, b, c, rfl⟩ : ∃ a b c, cs = #[a, b, c] := by
    have hsz := hsz.trans (show _ = 3 by kernel_rfl)
    rcases cs with ⟨l⟩
    match l, hsz with
    | [a, b, c], _ => exact ⟨a, b, c, rfl⟩
  obtain ⟨fuel, h⟩ := h
  have h' : DataW.trod enc Tryd.prog W 0 (fun _ => true) true fuel 24 [a, b, c] = some (d, p) := h
  obtain ⟨xs, m, -, hxy, -, hxl, hf⟩ := DataW.trod_struct Tryd.underlying24 h'
  have g0 := hf 0 _ rfl
  have g1 := hf 1 _ rfl
  have g2 := hf 2 _ rfl
  rw [List.getElem?_eq_getElem (by rw [hxl]; decide)] at g0 g1 g2
  have k0 : DataW.trod enc Tryd.prog W 0 (fun _ => true) true m 22 [a] = _ := g0
  have k1 : DataW.trod enc Tryd.prog W 0 (fun _ => true) true m 3 [b] = _ := g1
  have k2 : DataW.trod enc Tryd.prog W 0 (fun _ => true) true m 3 [c] = _ := g2
  obtain ⟨e1, b1⟩ := int_of_trod Tryd.underlying3 k1
  obtain ⟨e2, b2⟩ := int_of_trod Tryd.underlying3 k2
  simp only [Prod.mk.injEq] at hxy
  obtain ⟨dd, l, e0, l0, r0⟩ := open_acts k0 (fun y hy => hlt y (by
    rw [hxy.2]
    exact List.mem_flatMap.2 ⟨_, List.getElem_mem _, hy⟩)) (intOf b) (intOf c)
  refine ⟨dd, ⟨l, intOf b, intOf c⟩, ?_, l0, r0, b1, b2⟩
  show _ = Value.agg #[.slice dd.A l.length dd.c, .int .i64 (intOf b), .int .i64 (intOf c)]
  rw [← e0, ← e1, ← e2]
theorem open_deedsV (hval : Value.okWide Tryd.prog W r b0 25 v) (h : DataW.Trod enc Tryd.prog W 0 (fun _ => true) true 25 v d p) (hlt : ∀ x ∈ p, x.block < W.heap.size) :
    ∃ (A : Option Addr) (c : Nat) (l : List (Int × Int)), v = .slice A l.length c ∧ l.length ≤ maxLen ∧ DsR W A l ∧ ∀ t ∈ l, (-9223372036854775808 ≤ t.1 ∧ t.1 ≤ 9223372036854775807) ∧ -9223372036854775808 ≤ t.2 ∧ t.2 ≤ 9223372036854775807 := by
  obtain ⟨fuel, h⟩ := h
  obtain ⟨A, n, c, rfl⟩ := okWide_slice Tryd.underlying25 hval
  rw [cells_slice] at h
  exact open_deeds h hlt
theorem open_intV (hval : Value.okWide Tryd.prog W r b0 3 v) (h : DataW.Trod enc Tryd.prog W 0 (fun _ => true) true 3 v d p) : ∃ x, v = .int .i64 x ∧ -9223372036854775808 ≤ x ∧ x ≤ 9223372036854775807 := by
  obtain ⟨z, rfl, rfl, rfl, -⟩ := open_int Tryd.underlying3 hval h
  obtain ⟨fuel, h⟩ := h
  have e := int_of_trod Tryd.underlying3 h
  exact ⟨z, rfl, e.2⟩
end
end Go.Proofs.YtcgdalabenflmaaDoor
namespace Go.Proofs.YtcgdalabenflmaaDoor.riteOpens
open Go Go.ChangeShapes Go.WideShapes Go.ChangeAt Go.RowKit
set_option maxRecDepth 100000 in
theorem lifted (os : Os) (started : os.Started) (H : Type) (enc : TypeId × Value → H) :
    ReturnsInHanded {} Tryd.checked os 8 .any (fun w args => (Rows.riteOpensSpec.pre enc Tryd.prog Tryd.f8 Rows.riteOpensRow.domain false w args ∧ laidMetH Tryd.prog Rows.riteOpensRow.laid w) ∧ sizedMet enc Tryd.prog Tryd.f8 (OpenSpec.ofChange Rows.riteOpensSpec) false w args)
      (Rows.riteOpensSpec.post enc Tryd.prog Tryd.f8 false true false false) := by
  refine returnsInHanded_of_change_and (C := Tryd.checked) (X := fun w _ => laidMetH Tryd.prog Rows.riteOpensRow.laid w) (fun _ _ _ hh h => h.of_heap hh) own_knob started (by kernel_rfl) Tryd.func8
    (ChangeSpec.witness_shaped (enc := enc) (C := Tryd.checked) (os := os) (X := fun w _ => laidMetH Tryd.prog Rows.riteOpensRow.laid w) false (World.laidAll Tryd.prog os Rows.riteOpensRow.laid) #[.agg #[.slice none 0 0, .int .i64 0, .int .i64 0], .slice none 0 0, .int .i64 0] 8 (World.laidAll_os _ _ _)
      (World.shaped_of_ZipB (by kernel_rfl) (by kernel_rfl)) (by kernel_rfl) (by kernel_rfl) (by kernel_rfl)
      (by rw [MakeChecks.laidMetH_plain _ _ _ (by kernel_rfl)]; exact laidMet_laidAll _ (by kernel_rfl) (by kernel_rfl))) ?_
  intro W base args ds gs before hval0 hW _ _ hL _
  have hval : ∀ (j : Nat) t v, Tryd.f8.params[j]? = some t → args[j]? = some v → Value.okWide Tryd.prog W .any base t v := hval0
  have hW' := hW
  have hlt : ∀ p ∈ before, p.block < W.heap.size := fun p hp => hW.lt p hp
  obtain ⟨p, q, hA0, hV, rfl, hfz, hnd⟩ := hW
  have hA : DataW.TrodAll enc Tryd.prog W 0 (fun _ => true) true Tryd.f8.params.toList args.toList ds p := hA0
  rw [Tryd.params8] at hA hval
  obtain ⟨v0, vs0, d0, ds0, p0, q0, hargs, rfl, rfl, h0, r0⟩ := trodAll_cons hA
  obtain ⟨v1, vs1, d1, ds1, p1, q1, rfl, rfl, rfl, h1, r1⟩ := trodAll_cons r0
  obtain ⟨v2, vs2, d2, ds2, p2, q2, rfl, rfl, rfl, h2, r2⟩ := trodAll_cons r1
  obtain ⟨rfl, rfl, rfl⟩ := trodAll_nil r2
  obtain rfl : args = #[v0, v1, v2] := by cases args; simp_all
  obtain ⟨rfl, rfl⟩ := trodVars_none hV
  have k0 := hval 0 24 v0 rfl rfl
  have k1 := hval 1 25 v1 rfl rfl
  have k2 := hval 2 3 v2 rfl rfl
  have hT : TB W := tb_laid hL (by kernel_rfl) (.head _) (by kernel_rfl)
  obtain ⟨e0, l0, rfl, -, s0, -, -⟩ := open_riteV k0 h0 (fun x hx => hlt x (by simp [hx]))
  obtain ⟨A1, c1, u1, rfl, -, s1, -⟩ := open_deedsV k1 h1 (fun x hx => hlt x (by simp [hx]))
  obtain ⟨a2, rfl, -, -⟩ := open_intV k2 h2
  clear hA0 hval0
  refine (opens_any e0 l0 A1 c1 u1 a2 W s0 s1 hT).mono fun e W' ⟨he, hb⟩ => ?_
  subst he
  exact ⟨_, rfl, law_post hW' hb rfl rfl (by kernel_rfl) ⟨rfl, rfl, rfl⟩⟩
theorem over : Rows.riteOpensRow.holds Tryd.pinned (OpenSpec.ofChange Rows.riteOpensSpec) :=
  OpenClaim.holds_of_wide 8 Tryd.f8 rfl rfl rfl rfl rfl rfl rfl ⟨rfl, rfl, rfl, rfl, rfl⟩ rfl rfl rfl rfl rfl (by kernel_rfl) Tryd.func8 (by kernel_rfl)
    (of_decide_eq_true (by kernel_rfl)) (by unfold Func.isWrapper; first | (rw [if_pos (by decide +kernel)]; kernel_rfl) | (rw [if_neg (by decide +kernel)]; exact ⟨rfl, rfl⟩))
    (fun os started H enc _ => lifted os started H enc)
theorem proved : Rows.RiteOpensCardSaid :=
  Claim7.holds_tied_plain_at .later [] [.data, .data, .data, .data, .pinned] true (true, "376b80f4633cca043c83d1652b79e11020b8f3081dfa86be3e3dff3f771ffefe") false over (fun _ h => by cases h) (by kernel_rfl) (fun _ h => by cases h) riteOpens_row_tie rfl ⟨rfl, rfl⟩ (by kernel_rfl) rfl
    (fun f fn hf hfn => by
      obtain rfl : f = 8 := Option.some.inj ((show Tryd.prog.funcNamed "chiti/chitilaw09.RiteOpens" = some 8 by kernel_rfl).symm.trans hf) |>.symm
      obtain rfl : fn = Tryd.f8 := (Option.some.inj (Tryd.func8.symm.trans hfn)).symm
      exact ⟨by kernel_rfl, fun j t ht => by
        rw [Tryd.params8] at ht
        have hm : t ∈ ([24, 25, 3] : List TypeId) := by simpa using Array.mem_of_getElem? ht
        have hall : (([24, 25, 3] : List TypeId).all fun u => !Tryd.prog.wantsStandIn u) = true := by kernel_rfl
        exact (show Tryd.prog.wantsStandIn t = false by simpa using List.all_eq_true.1 hall t hm)⟩)
    (by kernel_rfl)
#print axioms proved
end Go.Proofs.YtcgdalabenflmaaDoor.riteOpens
