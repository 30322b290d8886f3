/- Rite: the laws' helpers: right, good. -/
import Derived.Test.YtcgdalabenflmaaDoorOpensG
set_option linter.unusedSimpArgs false
set_option linter.unusedVariables false
set_option linter.unnecessarySimpa false
namespace Go.Proofs.YtcgdalabenflmaaDoor
open List renaming getElem_toArray → glA, getElem_cons_zero → glB, getElem_cons_succ → glC, setIfInBounds_toArray → glD, set_cons_zero → glE, set_cons_succ → glF
open Go Go.RowKit Go.Shelf
set_option maxHeartbeats 8000000
set_option maxRecDepth 100000
theorem fol_at {r : Rit} : ∀ (l : List (Int × Int)) (m : Mom) (i : Nat), (folF r m l i).2.2 = 0 → (folF r m l i).2.1 = -1
  | [], _, _, _ => rfl
  | x :: l, m, i, h => by
    unfold folF at h ⊢
    split at h
    · cases h
    · rename_i h1
      rw [if_neg h1]
      split at h
      · rename_i h2; exact absurd h h2
      · rename_i h2
        rw [if_neg h2]
        exact fol_at l _ _ h
/-- whether a course keeps all rules -/
def rgB (r : Rit) (l : List (Int × Int)) : Bool := decide (aftC r l = 0)
theorem rg_yes {r : Rit} {l : List (Int × Int)} (h : rgB r l = true) : riB r = true ∧ (folF r m0 l 0).2.2 = 0 ∧ aftC r l = 0 :=
  have h1 : aftC r l = 0 := of_decide_eq_true h
  ⟨(aftC_ok h1).1, (aftC_ok h1).2, h1⟩
theorem right_any (d : Rad) (r : Rit) (A : Option Addr) (c : Nat) (l : List (Int × Int)) (w : World) (hd : RtR w d r) (hz : RtZ r) (hl : l.length ≤ 1000000) (hD : DsR w A l) :
    Calls Tryd.prog 28 #[.agg #[.slice d.A r.n d.c, .int .i64 r.last, .int .i64 r.toil], .slice A l.length c] w fun e w' => e = .returned (.tuple #[.bool (rgB r l), .bool (rgB r l && coB r (folF r m0 l 0).1.d)]) ∧ Below w.heap.size w w' := by
  have HB1 : Hid (Below w.heap.size w (w.alloc (.cells #[.slice d.A r.n d.c, .int .i64 r.last, .int .i64 r.toil] 24))) := hide ((Below.refl _ _).alloc (Nat.le_refl _) _)
  have G1 := hide (Blk.new w 24 #[.slice d.A r.n d.c, .int .i64 r.last, .int .i64 r.toil])
  have HCP := hide (fun W (h : RtR W d r) => copied_any d r W h hz)
  have HDE : Hid (∀ W, DsR W A l → _) := hide (fun W (h : DsR W A l) => deeds_any A c l W h hl)
  have HJU := hide (fun d' A' c' W (h : RtR W d' r) (h2 : DsR W A' l) => judge_any d' r A' c' l W h hz hl h2)
  have HCO := hide (fun d' A' c' W (h : RtR W d' r) (h2 : DsR W A' l) => complete_rite d' r A' c' l W h hz hl h2)
  have HR := hide (hd.ext HB1.out)
  have HD := hide (hD.ext HB1.out)
  unfold CpPost at HCP
  obtain ⟨n, hn⟩ : ∃ n, l.length = n := ⟨_, rfl⟩
  rw [hn] at HDE HJU HCO ⊢
  obtain ⟨g, hg⟩ : ∃ x, rgB r l = x := ⟨_, rfl⟩
  have HG := hide hg
  rw [hg]
  clear hd hz hD hl hn hg
  go_enter Tryd.func28, Tryd.ntmps28
  go_upto_region 1 with fail
  generalize w.alloc (.cells #[.slice d.A r.n d.c, .int .i64 r.last, .int .i64 r.toil] 24) = w1 at HB1 G1 HR HD ⊢
  obtain ⟨G, hG⟩ : ∃ x, w.heap.size = x := ⟨_, rfl⟩
  rw [hG] at G1 ⊢
  clear hG
  obtain ⟨g9, g0, g1, g2, -⟩ := blk3 G1.out
  go_wp2_with fail
  refine (HCP.out w1 HR.out).mono ?_
  rintro e w2 ⟨d2, rfl, hr2, hb2⟩
  have R2 := hide hr2
  have D2 := hide (HD.out.ext hb2)
  replace HR := hide (HR.out.ext hb2)
  replace G1 := hide (G1.out.ext hb2)
  replace HB1 := hide (HB1.out.trans (hb2.mono HB1.out.size))
  clear g9 g0 g1 g2 hr2 hb2 HD
  go_wp2_with fail
  refine (HDE.out w2 D2.out).mono ?_
  rintro e w3 ⟨A3, c3, rfl, ho3, hb3⟩
  have D3 : Hid (DsR w3 A3 l) := hide ho3.dsr.2
  replace R2 := hide (R2.out.ext hb3)
  replace D2 := hide (D2.out.ext hb3)
  replace HR := hide (HR.out.ext hb3)
  replace G1 := hide (G1.out.ext hb3)
  replace HB1 := hide (HB1.out.trans (hb3.mono HB1.out.size))
  clear ho3 hb3
  go_wp2_with fail
  refine (HJU.out d2 A3 c3 w3 R2.out D3.out).mono ?_
  rintro e w4 ⟨rfl, hb4⟩
  replace D2 := hide (D2.out.ext hb4)
  replace HR := hide (HR.out.ext hb4)
  replace G1 := hide (G1.out.ext hb4)
  replace HB1 := hide (HB1.out.trans (hb4.mono HB1.out.size))
  clear hb4 R2 D3 HJU
  cases g with
  | false =>
    have hno : (if riB r = true then (0 : Int) else 2) = 0 → (if riB r = true then (folF r m0 l 0).2.2 else 0) ≠ 0 := fun h1 h2 => by
      have h3 : rgB r l = true := by
        unfold rgB aftC
        by_cases hr : riB r = true
        · rw [if_pos hr] at h2 ⊢
          rw [if_pos h2]; rfl
        · rw [if_neg hr] at h1; cases h1
      rw [HG.out] at h3
      cases h3
    generalize (if riB r = true then (folF r m0 l 0).2.1 else 0) = at_
    revert hno
    generalize (if riB r = true then (folF r m0 l 0).2.2 else 0) = ru
    generalize (if riB r = true then (0 : Int) else 2) = er
    intro hno
    by_cases h1 : er = 0
    · have h2 := hno h1
      have e1 : (er != 0) = false := by rw [h1]; rfl
      have e2 : (ru != 0) = true := by rw [bne_iff_ne]; exact h2
      clear hno h1 h2
      rcases hat : (at_ != -1) with _ | _
      · go_wp2_with fail
        go_ret2
        exact ⟨rfl, HB1.out⟩
      · go_wp2_with fail
        go_ret2
        exact ⟨rfl, HB1.out⟩
    · have e1 : (er != 0) = true := by rw [bne_iff_ne]; exact h1
      clear hno h1
      go_wp2_with fail
      go_ret2
      exact ⟨rfl, HB1.out⟩
  | true =>
    obtain ⟨h1, h2, h3⟩ := rg_yes HG.out
    have h4 := fol_at l m0 0 h2
    rw [if_pos h1, if_pos h1, if_pos h1, h2, h4]
    have HA0 := hide h3
    clear h1 h2 h3 h4
    obtain ⟨g9, g0, g1, g2, -⟩ := blk3 G1.out
    go_wp2_with fail
    refine (HCP.out w4 HR.out).mono ?_
    rintro e w5 ⟨d5, rfl, hr5, hb5⟩
    have R5 := hide hr5
    replace D2 := hide (D2.out.ext hb5)
    replace HB1 := hide (HB1.out.trans (hb5.mono HB1.out.size))
    clear g9 g0 g1 g2 hr5 hb5
    go_wp2_with fail
    refine (HDE.out w5 D2.out).mono ?_
    rintro e w6 ⟨A6, c6, rfl, ho6, hb6⟩
    have D6 : Hid (DsR w6 A6 l) := hide ho6.dsr.2
    replace R5 := hide (R5.out.ext hb6)
    replace HB1 := hide (HB1.out.trans (hb6.mono HB1.out.size))
    clear ho6 hb6
    go_wp2_with fail
    refine (HCO.out d5 A6 c6 w6 R5.out D6.out).mono ?_
    rintro e w7 ⟨⟨h7, -⟩ | ⟨-, -, rfl⟩, hb7⟩
    · exact absurd HA0.out h7
    replace HB1 := hide (HB1.out.trans (hb7.mono HB1.out.size))
    clear hb7
    go_wp2_with fail
    go_ret2
    exact ⟨rfl, HB1.out⟩
theorem lo_z {r : Rit} {l : List (Int × Int)} (h : loF r l = false) : RtZ r ∧ l.length ≤ 20 := by
  unfold loF at h
  rw [Bool.or_eq_false_iff, Bool.or_eq_false_iff] at h
  obtain ⟨h1, h2, h3⟩ := h
  have hn : r.n ≤ 12 := by simpa using h2
  have hk : ∀ k, k < r.n → (r.ac k).nm.size ≤ 20 ∧ (r.ac k).nd.length ≤ 12 ∧ (r.ac k).ins.length ≤ 12 := fun k hk => by
    have h4 := List.any_eq_false.1 h1 k (List.mem_range.2 (by omega))
    unfold loA at h4
    simp at h4
    omega
  exact ⟨⟨by omega, fun k h => by have := hk k h; omega, fun k h => by have := hk k h; omega, fun k h => by have := hk k h; omega⟩, by simpa using h3⟩
/-- whether a rite is looked at -/
def gdB (r : Rit) (l : List (Int × Int)) : Bool := !loF r l && riB r
theorem gd_yes {r : Rit} {l : List (Int × Int)} (h : gdB r l = true) : RiOk r ∧ RtZ r ∧ l.length ≤ 20 ∧ riB r = true := by
  unfold gdB at h
  rw [Bool.and_eq_true] at h
  have h1 : loF r l = false := by simpa using h.1
  exact ⟨riB_ok h.2, (lo_z h1).1, (lo_z h1).2, h.2⟩
theorem good_any (d : Rad) (r : Rit) (A : Option Addr) (c : Nat) (l : List (Int × Int)) (w : World) (hd : RtR w d r) :
    Calls Tryd.prog 27 #[.agg #[.slice d.A r.n d.c, .int .i64 r.last, .int .i64 r.toil], .slice A l.length c] w fun e w' => e = .returned (.bool (gdB r l)) ∧ Below w.heap.size w w' := by
  have HB1 : Hid (Below w.heap.size w (w.alloc (.cells #[.slice d.A r.n d.c, .int .i64 r.last, .int .i64 r.toil] 24))) := hide ((Below.refl _ _).alloc (Nat.le_refl _) _)
  have G1 := hide (Blk.new w 24 #[.slice d.A r.n d.c, .int .i64 r.last, .int .i64 r.toil])
  have HR := hide (hd.ext HB1.out)
  have HLO := hide (long_any d r A c l _ HR.out)
  have HCP := hide (fun W (h : RtR W d r) (hz : RtZ r) => copied_any d r W h hz)
  have HCK := hide (fun d' W (h : RtR W d' r) (hz : RtZ r) => check_any d' r W h hz)
  unfold CpPost at HCP
  obtain ⟨gd, hgd⟩ : ∃ x, gdB r l = x := ⟨_, rfl⟩
  have HGD := hide hgd
  have hgd2 : gd = (!loF r l && riB r) := by rw [← hgd]; rfl
  rw [hgd]
  have HLZ : Hid (loF r l = false → RtZ r) := hide fun h => (lo_z h).1
  obtain ⟨lo, hlo⟩ : ∃ x, loF r l = x := ⟨_, rfl⟩
  rw [hlo] at HLO hgd2 HLZ
  obtain ⟨rb, hrb⟩ : ∃ x, riB r = x := ⟨_, rfl⟩
  have HRB := hide hrb
  rw [hrb] at HCK hgd2
  obtain ⟨n, hn⟩ : ∃ x, r.n = x := ⟨_, rfl⟩
  have HN := hide hn
  obtain ⟨m, hm⟩ : ∃ x, l.length = x := ⟨_, rfl⟩
  rw [hm] at HLO ⊢
  rw [hn] at HLO HCP HCK G1 ⊢
  clear hd hgd hlo hrb hm
  go_enter Tryd.func27, Tryd.ntmps27
  go_upto_region 1 with fail
  (try rw [hn])
  (try rw [hn] at HB1)
  (try rw [hn] at HR)
  (try rw [hn] at HLO)
  clear hn
  generalize w.alloc (.cells #[.slice d.A n d.c, .int .i64 r.last, .int .i64 r.toil] 24) = w1 at HB1 G1 HR HLO ⊢
  obtain ⟨G, hG⟩ : ∃ x, w.heap.size = x := ⟨_, rfl⟩
  rw [hG] at G1 ⊢
  clear hG
  obtain ⟨g9, g0, g1, g2, -⟩ := blk3 G1.out
  go_wp2_with fail
  refine HLO.out.mono ?_
  rintro e w2 ⟨rfl, hb2⟩
  replace HR := hide (HR.out.ext hb2)
  replace G1 := hide (G1.out.ext hb2)
  replace HB1 := hide (HB1.out.trans (hb2.mono HB1.out.size))
  clear g9 g0 g1 g2 hb2 HLO
  cases lo with
  | true =>
    obtain rfl : gd = false := by rw [hgd2]; rfl
    clear hgd2
    go_wp2_with fail
    go_ret
    exact ⟨rfl, HB1.out⟩
  | false =>
  have HZ := hide (HLZ.out rfl)
  obtain ⟨g9, g0, g1, g2, -⟩ := blk3 G1.out
  go_wp2_with fail
  refine (HCP.out w2 HR.out HZ.out).mono ?_
  rintro e w3 ⟨d3, rfl, hr3, hb3⟩
  have R3 := hide hr3
  replace HR := hide (HR.out.ext hb3)
  replace G1 := hide (G1.out.ext hb3)
  replace HB1 := hide (HB1.out.trans (hb3.mono HB1.out.size))
  clear g9 g0 g1 g2 hr3 hb3 HLZ
  go_wp2_with fail
  refine (HCK.out d3 w3 R3.out HZ.out).mono ?_
  rintro e w4 ⟨rfl, hb4⟩
  replace HR := hide (HR.out.ext hb4)
  replace G1 := hide (G1.out.ext hb4)
  replace HB1 := hide (HB1.out.trans (hb4.mono HB1.out.size))
  clear hb4 R3 HCK HCP
  cases rb with
  | false =>
    obtain rfl : gd = false := by rw [hgd2]; rfl
    rw [if_neg (by decide)]
    clear hgd2
    go_wp2_with fail
    go_ret
    exact ⟨rfl, HB1.out⟩
  | true =>
  obtain rfl : gd = true := by rw [hgd2]; rfl
  rw [if_pos rfl]
  clear hgd2
  have HRO := hide (riB_ok HRB.out)
  have hn10 := HRO.out.n10
  rw [HN.out] at hn10
  go_wp2_with fail
  go_loopw [5] (fun i wr => ∃ k : Nat, k ≤ n ∧ i = .int .i64 k ∧ Hid (Below w4.heap.size w4 wr)) (fun i _ => n - (intOf i).toNat)
  case atStart => exact ⟨0, Nat.zero_le _, rfl, hide (Below.refl _ _)⟩
  case round =>
    obtain ⟨k, hk, rfl, HB⟩ := hrel
    have hst : IntKind.i64.wrap ((k : Int) + 1) = ((k + 1 : Nat) : Int) := by rw [IntWalk.i64_in _ (by omega)]; omega
    have G5 := hide (G1.out.ext HB.out)
    obtain ⟨g9, g0, g1, g2, -⟩ := blk3 G5.out
    by_cases hlt : k < n
    · have hlt' : (k : Int) < (n : Int) := by omega
      have hkr : k < r.n := by rw [HN.out]; exact hlt
      obtain ⟨a, ha⟩ : ∃ x, r.ac k = x := ⟨_, rfl⟩
      have hac := HRO.out.at_ hkr
      have hrd := (HR.out.ext HB.out).nd k hkr
      obtain ⟨ab, ao, hra, hb, c0, c1, c2, c3, c4, c5, c6⟩ := (HR.out.ext HB.out).at_ hkr ha
      rw [hra] at g0 ⊢
      have hndx := hac.nd
      have hndl := HZ.out.nd k hkr
      rw [ha] at hndx hndl hrd
      have HG0 : Hid (∀ W, Below w4.heap.size w4 W → W.cell? ⟨G, 0, none⟩ = some (.slice (some ⟨ab, ao, none⟩) n d.c)) := hide fun W h => by have h2 := (blk3 (G1.out.ext h)).2.1; rw [hra] at h2; exact h2
      obtain ⟨nm, nd, ins, at_, fr, to_, ex⟩ := a
      dsimp only at c0 c1 c2 c3 c4 c5 c6 hndx hndl hrd
      have HNX : Hid (∀ x ∈ nd, 0 ≤ x ∧ x < n) := hide fun x hx => by have h := hndx x hx; have h2 := HN.out; omega
      have HRD := hide hrd
      obtain ⟨na, hna⟩ : ∃ x, d.na k = x := ⟨_, rfl⟩
      obtain ⟨nc, hnc⟩ : ∃ x, d.nc k = x := ⟨_, rfl⟩
      obtain ⟨nn, hnn⟩ : ∃ x, nd.length = x := ⟨_, rfl⟩
      have HNN := hide hnn
      rw [hna] at HRD
      rw [hna, hnc, hnn] at c1
      rw [hnn] at hndl
      clear hkr ha hac hrd hra hb hndx hna hnc hnn
      have hbE : Below wr.heap.size wr (wr.alloc (.cells #[.string nm, .slice na nn nc, .slice (d.ia k) ins.length (d.ic k), .int .i64 at_, .int .i64 fr, .int .i64 to_, .bool ex] 58)) := (Below.refl _ _).alloc (Nat.le_refl _) _
      have KE := hide (Blk.new wr 58 #[.string nm, .slice na nn nc, .slice (d.ia k) ins.length (d.ic k), .int .i64 at_, .int .i64 fr, .int .i64 to_, .bool ex])
      have HBE := hide (HB.out.trans (hbE.mono HB.out.size))
      have HRE : Hid (LI (wr.alloc (.cells #[.string nm, .slice na nn nc, .slice (d.ia k) ins.length (d.ic k), .int .i64 at_, .int .i64 fr, .int .i64 to_, .bool ex] 58)) _ na nd) := hide ((ER.below HRD.out hbE (Nat.le_refl _)).more hbE.size)
      clear hbE
      go_wp2_with fail
      generalize wr.alloc (.cells #[.string nm, .slice na nn nc, .slice (d.ia k) ins.length (d.ic k), .int .i64 at_, .int .i64 fr, .int .i64 to_, .bool ex] 58) = we at KE HBE HRE ⊢
      obtain ⟨E, hE⟩ : ∃ x, wr.heap.size = x := ⟨_, rfl⟩
      rw [hE] at KE ⊢
      clear hE c0 c1 c2 c3 c4 c5 c6 g9 g0 g1 g2 HB G5 HRD
      go_loopw [7] (fun i wf => ∃ t : Nat, t ≤ nn ∧ i = .int .i64 t ∧ Hid (Below we.heap.size we wf)) (fun i _ => nn - (intOf i).toNat)
      case atStart => exact ⟨0, Nat.zero_le _, rfl, hide (Below.refl _ _)⟩
      case round =>
        obtain ⟨t, ht, rfl, HBF⟩ := hrel
        have hst2 : IntKind.i64.wrap ((t : Int) + 1) = ((t + 1 : Nat) : Int) := by rw [IntWalk.i64_in _ (by omega)]; omega
        have y1 : wr.cell? ⟨E, 1, none⟩ = some (.slice na nn nc) := (KE.out.ext HBF.out).cell 1
        by_cases htl : t < nn
        · have htl' : (t : Int) < (nn : Int) := by omega
          have htn : t < nd.length := by rw [HNN.out]; exact htl
          obtain ⟨xb, xo, hxa, hxl, hxc⟩ := VR1.at_ HRE.out htn
          have hx := HNX.out (nd.getD t 0) (by rw [List.getD_eq_getElem?_getD, List.getElem?_eq_getElem htn]; exact List.getElem_mem htn)
          obtain ⟨x, hxx⟩ : ∃ z, nd.getD t 0 = z := ⟨_, rfl⟩
          rw [hxx] at hxc hx
          have hx0 : ¬ x < 0 := by omega
          have hx1 : ¬ x ≥ (n : Int) := by omega
          have HS : Hid (∀ W, Below we.heap.size we W → (W.cell? ⟨E, 1, none⟩ = some (.slice (some ⟨xb, xo, none⟩) nn nc) ∧ W.cell? ⟨G, 0, none⟩ = some (.slice (some ⟨ab, ao, none⟩) n d.c) ∧ W.cell? ⟨xb, xo + t, none⟩ = some (.int .i64 x))) := hide fun W h => ⟨by rw [← hxa]; exact (KE.out.ext h).cell 1, HG0.out W (HBE.out.trans (h.mono HBE.out.size)), (h.cell (p := ⟨xb, xo + t, none⟩) hxl).trans hxc⟩
          rw [hxa] at y1
          clear htn hxl hxc hx hxx hxa
          go_upto_region 10 with fail
          have HBG := hide (HBF.out.trans ((Below.refl wr.heap.size wr).drew.mono HBF.out.size))
          refine wp_region_J (fun W : World => (W.cell? ⟨E, 1, none⟩ = some (.slice (some ⟨xb, xo, none⟩) nn nc) ∧ W.cell? ⟨G, 0, none⟩ = some (.slice (some ⟨ab, ao, none⟩) n d.c) ∧ W.cell? ⟨xb, xo + t, none⟩ = some (.int .i64 x))) (by kernel_rfl) ?_
          generalize wr.drew = wd at HBG ⊢
          refine wpAnyJ_take 0 (v := ?_) (by first | exact hF | exact wideFn) (HS.out _ HBG.out) rfl (by kernel_rfl) (by kernel_rfl) (by kernel_rfl) (by kernel_rfl) rfl ?_ (by first | exact fun _ _ _ h => h | exact fun _ _ _ h => hQ2 _ _ _ _ _ h) ?_
          rotate_left
          · intro W hSW
            simp only [glA, glB, glC]
            (try dsimp only at hSW)
            go_simp
            with_reducible rfl
          (try simp only [glA, glB, glC, Act.put, glD, glE, glF])
          refine wpAnyJ_take 1 (v := ?_) (by first | exact hF | exact wideFn) (HS.out _ HBG.out) rfl (by kernel_rfl) (by kernel_rfl) (by kernel_rfl) (by kernel_rfl) rfl ?_ (by first | exact fun _ _ _ h => h | exact fun _ _ _ h => hQ2 _ _ _ _ _ h) ?_
          rotate_left
          · intro W hSW
            simp only [glA, glB, glC]
            (try dsimp only at hSW)
            go_simp
            with_reducible rfl
          (try simp only [glA, glB, glC, Act.put, glD, glE, glF])
          refine wpAnyJ_take 2 (v := ?_) (by first | exact hF | exact wideFn) (HS.out _ HBG.out) rfl (by kernel_rfl) (by kernel_rfl) (by kernel_rfl) (by kernel_rfl) rfl ?_ (by first | exact fun _ _ _ h => h | exact fun _ _ _ h => hQ2 _ _ _ _ _ h) ?_
          rotate_left
          · intro W hSW
            simp only [glA, glB, glC]
            (try dsimp only at hSW)
            go_simp
            with_reducible rfl
          (try simp only [glA, glB, glC, Act.put, glD, glE, glF])
          refine wpAnyJ_take 3 (v := ?_) (by first | exact hF | exact wideFn) (HS.out _ HBG.out) rfl (by kernel_rfl) (by kernel_rfl) (by kernel_rfl) (by kernel_rfl) rfl ?_ (by first | exact fun _ _ _ h => h | exact fun _ _ _ h => hQ2 _ _ _ _ _ h) ?_
          rotate_left
          · intro W hSW
            simp only [glA, glB, glC]
            (try dsimp only at hSW)
            go_simp
            with_reducible rfl
          (try simp only [glA, glB, glC, Act.put, glD, glE, glF])
          refine wpAnyJ_take 4 (v := ?_) (by first | exact hF | exact wideFn) (HS.out _ HBG.out) rfl (by kernel_rfl) (by kernel_rfl) (by kernel_rfl) (by kernel_rfl) rfl ?_ (by first | exact fun _ _ _ h => h | exact fun _ _ _ h => hQ2 _ _ _ _ _ h) ?_
          rotate_left
          · intro W hSW
            simp only [glA, glB, glC]
            (try dsimp only at hSW)
            go_simp
            with_reducible rfl
          (try simp only [glA, glB, glC, Act.put, glD, glE, glF])
          refine wpAnyJ_take 5 (v := ?_) (by first | exact hF | exact wideFn) (HS.out _ HBG.out) rfl (by kernel_rfl) (by kernel_rfl) (by kernel_rfl) (by kernel_rfl) rfl ?_ (by first | exact fun _ _ _ h => h | exact fun _ _ _ h => hQ2 _ _ _ _ _ h) ?_
          rotate_left
          · intro W hSW
            simp only [glA, glB, glC]
            (try dsimp only at hSW)
            go_simp
            with_reducible rfl
          (try simp only [glA, glB, glC, Act.put, glD, glE, glF])
          refine wpAnyJ_take 6 (v := ?_) (by first | exact hF | exact wideFn) (HS.out _ HBG.out) rfl (by kernel_rfl) (by kernel_rfl) (by kernel_rfl) (by kernel_rfl) rfl ?_ (by first | exact fun _ _ _ h => h | exact fun _ _ _ h => hQ2 _ _ _ _ _ h) ?_
          rotate_left
          · intro W hSW
            simp only [glA, glB, glC]
            (try dsimp only at hSW)
            go_simp
            with_reducible rfl
          (try simp only [glA, glB, glC, Act.put, glD, glE, glF])
          refine wpAnyJ_take 7 (v := ?_) (by first | exact hF | exact wideFn) (HS.out _ HBG.out) rfl (by kernel_rfl) (by kernel_rfl) (by kernel_rfl) (by kernel_rfl) rfl ?_ (by first | exact fun _ _ _ h => h | exact fun _ _ _ h => hQ2 _ _ _ _ _ h) ?_
          rotate_left
          · intro W hSW
            simp only [glA, glB, glC]
            (try dsimp only at hSW)
            go_simp
            with_reducible rfl
          (try simp only [glA, glB, glC, Act.put, glD, glE, glF])
          refine wpAnyJ_take 8 (v := ?_) (by first | exact hF | exact wideFn) (HS.out _ HBG.out) rfl (by kernel_rfl) (by kernel_rfl) (by kernel_rfl) (by kernel_rfl) rfl ?_ (by first | exact fun _ _ _ h => h | exact fun _ _ _ h => hQ2 _ _ _ _ _ h) ?_
          rotate_left
          · intro W hSW
            simp only [glA, glB, glC]
            (try dsimp only at hSW)
            go_simp
            with_reducible rfl
          (try simp only [glA, glB, glC, Act.put, glD, glE, glF])
          refine wpAnyJ_take 9 (v := ?_) (by first | exact hF | exact wideFn) (HS.out _ HBG.out) rfl (by kernel_rfl) (by kernel_rfl) (by kernel_rfl) (by kernel_rfl) rfl ?_ (by first | exact fun _ _ _ h => h | exact fun _ _ _ h => hQ2 _ _ _ _ _ h) ?_
          rotate_left
          · intro W hSW
            simp only [glA, glB, glC]
            (try dsimp only at hSW)
            go_simp
            with_reducible rfl
          (try simp only [glA, glB, glC, Act.put, glD, glE, glF])
          refine wpAnyJ_take 10 (v := ?_) (by first | exact hF | exact wideFn) (HS.out _ HBG.out) rfl (by kernel_rfl) (by kernel_rfl) (by kernel_rfl) (by kernel_rfl) rfl ?_ (by first | exact fun _ _ _ h => h | exact fun _ _ _ h => hQ2 _ _ _ _ _ h) ?_
          rotate_left
          · intro W hSW
            simp only [glA, glB, glC]
            (try dsimp only at hSW)
            go_simp
            with_reducible rfl
          (try simp only [glA, glB, glC, Act.put, glD, glE, glF])
          refine wpAnyJ_take 11 (v := ?_) (by first | exact hF | exact wideFn) (HS.out _ HBG.out) rfl (by kernel_rfl) (by kernel_rfl) (by kernel_rfl) (by kernel_rfl) rfl ?_ (by first | exact fun _ _ _ h => h | exact fun _ _ _ h => hQ2 _ _ _ _ _ h) ?_
          rotate_left
          · intro W hSW
            simp only [glA, glB, glC]
            (try dsimp only at hSW)
            go_simp
            with_reducible rfl
          (try simp only [glA, glB, glC, Act.put, glD, glE, glF])
          refine wpAnyJ_take 12 (v := ?_) (by first | exact hF | exact wideFn) (HS.out _ HBG.out) rfl (by kernel_rfl) (by kernel_rfl) (by kernel_rfl) (by kernel_rfl) rfl ?_ (by first | exact fun _ _ _ h => h | exact fun _ _ _ h => hQ2 _ _ _ _ _ h) ?_
          rotate_left
          · intro W hSW
            simp only [glA, glB, glC]
            (try dsimp only at hSW)
            go_simp
            with_reducible rfl
          (try simp only [glA, glB, glC, Act.put, glD, glE, glF])
          refine wpAnyJ_take 13 (v := ?_) (by first | exact hF | exact wideFn) (HS.out _ HBG.out) rfl (by kernel_rfl) (by kernel_rfl) (by kernel_rfl) (by kernel_rfl) rfl ?_ (by first | exact fun _ _ _ h => h | exact fun _ _ _ h => hQ2 _ _ _ _ _ h) ?_
          rotate_left
          · intro W hSW
            simp only [glA, glB, glC]
            (try dsimp only at hSW)
            go_simp
            with_reducible rfl
          (try simp only [glA, glB, glC, Act.put, glD, glE, glF])
          refine wpAnyJ_take 14 (v := ?_) (by first | exact hF | exact wideFn) (HS.out _ HBG.out) rfl (by kernel_rfl) (by kernel_rfl) (by kernel_rfl) (by kernel_rfl) rfl ?_ (by first | exact fun _ _ _ h => h | exact fun _ _ _ h => hQ2 _ _ _ _ _ h) ?_
          rotate_left
          · intro W hSW
            simp only [glA, glB, glC]
            (try dsimp only at hSW)
            go_simp
            with_reducible rfl
          (try simp only [glA, glB, glC, Act.put, glD, glE, glF])
          refine wpAnyJ_take 15 (v := ?_) (by first | exact hF | exact wideFn) (HS.out _ HBG.out) rfl (by kernel_rfl) (by kernel_rfl) (by kernel_rfl) (by kernel_rfl) rfl ?_ (by first | exact fun _ _ _ h => h | exact fun _ _ _ h => hQ2 _ _ _ _ _ h) ?_
          rotate_left
          · intro W hSW
            simp only [glA, glB, glC]
            (try dsimp only at hSW)
            go_simp
            with_reducible rfl
          (try simp only [glA, glB, glC, Act.put, glD, glE, glF])
          refine wpAnyJ_take 16 (v := ?_) (by first | exact hF | exact wideFn) (HS.out _ HBG.out) rfl (by kernel_rfl) (by kernel_rfl) (by kernel_rfl) (by kernel_rfl) rfl ?_ (by first | exact fun _ _ _ h => h | exact fun _ _ _ h => hQ2 _ _ _ _ _ h) ?_
          rotate_left
          · intro W hSW
            simp only [glA, glB, glC]
            (try dsimp only at hSW)
            go_simp
            with_reducible rfl
          (try simp only [glA, glB, glC, Act.put, glD, glE, glF])
          refine wpAnyJ_done (by kernel_rfl) ?_
          go_wp2_with fail
          go_roundw
          case rel => exact ⟨t + 1, by omega, by go_num, HBG⟩
          case measure => simp [intOf]; omega
        · obtain rfl : nn = t := by omega
          have hnl : ¬ (nn : Int) < (nn : Int) := by omega
          go_wp2_with fail
          go_roundw
          case rel => exact ⟨k + 1, by omega, by go_num, hide (HBE.out.trans (HBF.out.mono HBE.out.size))⟩
          case measure => simp [intOf]; omega
    · obtain rfl : n = k := by omega
      have hnl : ¬ (n : Int) < (n : Int) := by omega
      go_wp2_with fail
      go_ret
      exact ⟨rfl, HB1.out.trans (HB.out.mono HB1.out.size)⟩
end Go.Proofs.YtcgdalabenflmaaDoor
/- Rite, plain: a deed more; what is open, forgotten, hopeless. -/
namespace Go.Proofs.YtcgdalabenflmaaDoor
open Go Go.RowKit
set_option maxRecDepth 100000
theorem fol_step {r : Rit} {m : Mom} {y : Int × Int} (l : List (Int × Int)) (i : Nat) (h1 : ¬ (y.1 < m.day ∨ r.last < y.1)) (h2 : ¬ brF r (m.on y.1).d (m.on y.1).day (m.on y.1).de y.2 ≠ 0) : folF r m (y :: l) i = folF r ((m.on y.1).wi y.2.toNat) l (i + 1) := by
  show (if _ then _ else if _ then _ else _) = _
  rw [if_neg h1, if_neg h2]
theorem fol_zero {r : Rit} {m : Mom} {y : Int × Int} {l : List (Int × Int)} {i : Nat} (h : (folF r m (y :: l) i).2.2 = 0) : ¬ (y.1 < m.day ∨ r.last < y.1) ∧ ¬ brF r (m.on y.1).d (m.on y.1).day (m.on y.1).de y.2 ≠ 0 := by
  unfold folF at h
  split at h
  · cases h
  · rename_i h1
    split at h
    · rename_i h2; exact absurd h h2
    · rename_i h2; exact ⟨h1, h2⟩
theorem fol_append {r : Rit} (x : List (Int × Int)) : ∀ (l : List (Int × Int)) (m : Mom) (i : Nat), (folF r m l i).2.2 = 0 → folF r m (l ++ x) i = folF r (folF r m l i).1 x (i + l.length)
  | [], m, i, _ => rfl
  | y :: l, m, i, h => by
    obtain ⟨h1, h2⟩ := fol_zero h
    rw [fol_step _ _ h1 h2] at h ⊢
    show folF r m (y :: (l ++ x)) i = _
    rw [fol_step _ _ h1 h2, fol_append x l _ _ h, show i + 1 + l.length = i + (y :: l).length by rw [List.length_cons]; omega]
/-- a deed more -/
theorem rg_more {r : Rit} {l : List (Int × Int)} (h : rgB r l = true) (day : Int) (a : Int) (h1 : (folF r m0 l 0).1.day ≤ day) (h2 : day ≤ r.last) :
    rgB r (l ++ [(day, a)]) = decide (brF r ((folF r m0 l 0).1.on day).d ((folF r m0 l 0).1.on day).day ((folF r m0 l 0).1.on day).de a = 0) := by
  obtain ⟨hr, hf, -⟩ := rg_yes h
  unfold rgB aftC
  rw [if_pos hr, fol_append _ _ _ _ hf]
  generalize (folF r m0 l 0).1 = m at h1
  have e : (folF r m [(day, a)] (0 + l.length)).2.2 = brF r (m.on day).d (m.on day).day (m.on day).de a := by
    unfold folF
    rw [if_neg (by dsimp only; omega)]
    dsimp only
    split
    · rfl
    · rename_i hb
      have hb := Classical.not_not.1 hb
      rw [hb]
      rfl
  rw [e]
  by_cases hb : brF r (m.on day).d (m.on day).day (m.on day).de a = 0
  · rw [if_pos hb, decide_eq_true hb]; rfl
  · rw [if_neg hb, decide_eq_false hb]; rfl
theorem of_cont {s : Nat} (hs : s < 65536) (i : Nat) : (ofN (elS s)).contains (i : Int) = s.testBit i := by
  rw [Bool.eq_iff_iff, List.contains_iff_mem, ← elS_mem hs]
  unfold ofN
  rw [List.mem_map]
  constructor
  · rintro ⟨k, hk, e⟩
    rw [show i = k by omega]
    exact hk
  · exact fun h => ⟨i, h, rfl⟩
theorem ne_cont {r : Rit} (h16 : r.n ≤ 16) (m : Mom) (i : Nat) : (ofN (elS (neS r m))).contains (i : Int) = decide (brF r m.d m.day m.de i = 0) := by
  have hl : neS r m < 65536 := lt16 (mkS_lt _ r.n) h16
  rw [of_cont hl, Bool.eq_iff_iff, decide_eq_true_iff, ← neS_mem h16, elS_mem hl]
theorem se_cont {r : Rit} (hr : RiOk r) (d : Nat) {i : Nat} (hi : i < r.n) : (ofN (elS (seS r d))).contains (i : Int) = seB r d i := by
  rw [of_cont (seS_lt hr d), seS_bit, decide_eq_true hi, Bool.true_and]
theorem fo_cont {r : Rit} (h16 : r.n ≤ 16) (d : Nat) (day : Int) {i : Nat} (hi : i < r.n) : (ofN (elS (foS r d day))).contains (i : Int) = foB r d day i := by
  have hl : foS r d day < 65536 := lt16 (mkS_lt _ r.n) h16
  rw [of_cont hl, foS_bit, decide_eq_true hi, Bool.true_and]
theorem hp_cont (r : Rit) (m : Mom) (i : Nat) : (ofN (elS (hpS r m))).contains (i : Int) = (hpS r m).testBit i := of_cont (hp_lt r m) i
/-- what a deed that breaks no rule shows -/
theorem br_zero {r : Rit} {d : Nat} {day de : Int} {a : Nat} (h : brF r d day de a = 0) : (d.testBit a = false ∧ ((r.ac a).ex = true ∨ seB r d a = false)) ∧ (r.ac a).fr ≤ day ∧ day ≤ (r.ac a).to_ ∧ neB r d a = true ∧ de < r.toil := by
  unfold brF at h
  rw [Int.toNat_natCast] at h
  split at h
  · cases h
  · split at h
    · cases h
    · rename_i h2
      split at h
      · cases h
      · rename_i h3
        split at h
        · cases h
        · rename_i h4
          split at h
          · cases h
          · split at h
            · cases h
            · rename_i h6
              simp only [Bool.or_eq_true, Bool.and_eq_true, Bool.not_eq_true', not_or, not_and] at h2
              refine ⟨⟨by simpa using h2.1, ?_⟩, by omega, by omega, by simpa using h4, by omega⟩
              rcases hx : (r.ac a).ex with _ | _
              · have := h2.2 hx; exact .inr (by simpa using this)
              · exact .inl rfl
theorem fo_facts {r : Rit} {d : Nat} {day de : Int} {a : Nat} (h : foB r d day a = true) : brF r d day de a ≠ 0 ∧ seB r d a = false ∧ (r.ac a).ex = false := by
  unfold foB at h
  rw [Bool.and_eq_true, Bool.and_eq_true] at h
  obtain ⟨⟨h1, h2⟩, h3⟩ := h
  refine ⟨fun hb => ?_, by simpa using h3, by simpa using h1⟩
  have h4 := (br_zero hb).2.2.1
  have h5 := of_decide_eq_true h2
  omega
theorem hp_facts {r : Rit} (hr : RiOk r) {m : Mom} {a : Nat} (h : (hpS r m).testBit a = true) : a < r.n ∧ brF r m.d m.day m.de a ≠ 0 ∧ seB r m.d a = false := by
  have hh := hp_ho r m
  have h10 := hr.n10
  have hp : 2 ^ r.n < 65536 := Nat.lt_of_le_of_lt (Nat.pow_le_pow_right (by decide) h10) (by decide)
  have hsub : ∀ i, (hpS r m).testBit i = true → i < r.n ∧ seB r m.d i = false := fun i hi => by
    have h1 := hh.sub i hi
    rw [anN_bit _ _ _ (by omega), Bool.and_eq_true, Nat.testBit_two_pow_sub_one] at h1
    have h2 := of_decide_eq_true h1.1
    have h3 := h1.2
    rw [seS_bit, decide_eq_true h2, Bool.true_and] at h3
    exact ⟨h2, by simpa using h3⟩
  obtain ⟨ha, hs⟩ := hsub a h
  refine ⟨ha, fun hb => ?_, hs⟩
  obtain ⟨-, -, h2, h3, -⟩ := br_zero hb
  have h4 := hh.sta a h
  unfold canB at h4
  have h5 := List.any_eq_false.1 h4 a (List.mem_range.2 ha)
  refine h5 ?_
  rw [Bool.and_eq_true, Bool.and_eq_true]
  refine ⟨?_, ?_, ?_⟩
  · unfold waS
    rw [mkS_bit, decide_eq_true (by omega), decide_eq_true rfl]
    rfl
  · rw [decide_eq_false (by omega)]; rfl
  · rw [List.all_eq_true]
    intro x hx
    unfold neB at h3
    have h6 := List.all_eq_true.1 h3 x hx
    rcases hb2 : (hpS r m).testBit x.toNat with _ | _
    · rfl
    · rw [(hsub _ hb2).2] at h6; cases h6
end Go.Proofs.YtcgdalabenflmaaDoor
/- Rite, plain: the steps of a right course. -/
namespace Go.Proofs.YtcgdalabenflmaaDoor
open Go Go.RowKit
set_option maxRecDepth 100000
theorem fol_pre {r : Rit} {b : List (Int × Int)} : ∀ (a : List (Int × Int)) (m : Mom) (i : Nat), (folF r m (a ++ b) i).2.2 = 0 → (folF r m a i).2.2 = 0
  | [], _, _, _ => rfl
  | y :: a, m, i, h => by
    obtain ⟨h1, h2⟩ := fol_zero (l := a ++ b) h
    rw [List.cons_append, fol_step _ _ h1 h2] at h
    rw [fol_step _ _ h1 h2]
    exact fol_pre a _ _ h
/-- a beginning of a right course -/
theorem rg_take {r : Rit} {l : List (Int × Int)} (h : rgB r l = true) (k : Nat) : rgB r (l.take k) = true := by
  obtain ⟨hr, hf, -⟩ := rg_yes h
  have h2 : (folF r m0 (l.take k) 0).2.2 = 0 := fol_pre (b := l.drop k) _ _ _ (by rw [List.take_append_drop]; exact hf)
  unfold rgB aftC
  rw [if_pos hr, if_pos h2]
  rfl
theorem rg_nil {r : Rit} (h : riB r = true) : rgB r [] = true := by
  unfold rgB aftC
  rw [if_pos h]
  rfl
/-- the moment before a deed -/
def moK (r : Rit) (l : List (Int × Int)) (k : Nat) : Mom := (folF r m0 (l.take k) 0).1
theorem mo_step {r : Rit} {l : List (Int × Int)} (h : rgB r l = true) {k : Nat} (hk : k < l.length) :
    ((moK r l k).day ≤ (l.getD k (0, 0)).1 ∧ (l.getD k (0, 0)).1 ≤ r.last) ∧ brF r (moK r l k).d (l.getD k (0, 0)).1 ((moK r l k).on (l.getD k (0, 0)).1).de (l.getD k (0, 0)).2 = 0 ∧ moK r l (k + 1) = ((moK r l k).on (l.getD k (0, 0)).1).wi (l.getD k (0, 0)).2.toNat := by
  obtain ⟨hr, hf, -⟩ := rg_yes (rg_take h (k + 1))
  obtain ⟨-, hf0, -⟩ := rg_yes (rg_take h k)
  have e : l.take (k + 1) = l.take k ++ [l.getD k (0, 0)] := by
    rw [List.take_add_one, List.getElem?_eq_getElem hk, List.getD_eq_getElem?_getD, List.getElem?_eq_getElem hk]; rfl
  rw [e, fol_append _ _ _ _ hf0] at hf
  obtain ⟨h1, h2⟩ := fol_zero hf
  have hday : ∀ (m : Mom) x, (m.on x).day = x := fun m x => by unfold Mom.on; split <;> simp_all
  refine ⟨by show (folF r m0 (l.take k) 0).1.day ≤ _ ∧ _; omega, ?_, ?_⟩
  · have h3 := Classical.not_not.1 h2
    rw [on_d, hday] at h3
    exact h3
  · unfold moK
    rw [e, fol_append _ _ _ _ hf0, fol_step _ _ h1 h2]
    rfl
theorem mo_done {r : Rit} {l : List (Int × Int)} (h : rgB r l = true) : ∀ (k : Nat), k ≤ l.length → (0 < k → (moK r l k).day = (l.getD (k - 1) (0, 0)).1) ∧ ∀ j, j < k → (moK r l k).d.testBit (l.getD j (0, 0)).2.toNat = true
  | 0, _ => ⟨fun h => absurd h (by omega), fun j hj => absurd hj (by omega)⟩
  | k + 1, hk => by
    obtain ⟨-, -, e⟩ := mo_step h (show k < l.length by omega)
    obtain ⟨-, ih⟩ := mo_done h k (by omega)
    have hday : ∀ (m : Mom) x, (m.on x).day = x := fun m x => by unfold Mom.on; split <;> simp_all
    rw [e]
    refine ⟨fun _ => hday _ _, fun j hj => ?_⟩
    show (((moK r l k).on _).d ||| _).testBit _ = true
    rw [on_d, Nat.testBit_or, Nat.testBit_two_pow]
    by_cases hj2 : j = k
    · subst hj2
      simp
    · rw [ih j (by omega)]; rfl
/-- what is settled before a deed -/
def LBk (r : Rit) (l : List (Int × Int)) (k : Nat) : List Int := ofN (elS (seS r (moK r l k).d))
theorem seB_mono {r : Rit} {d d2 : Nat} (h : ∀ i, d.testBit i = true → d2.testBit i = true) {i : Nat} (hi : seB r d i = true) : seB r d2 i = true := by
  unfold seB at hi ⊢
  simp only [Bool.or_eq_true, Bool.and_eq_true, List.any_eq_true] at hi ⊢
  rcases hi with (h1 | ⟨h1, h2⟩) | ⟨x, hx, h1⟩
  · exact .inl (.inl (h _ h1))
  · exact .inl (.inr ⟨h1, h _ h2⟩)
  · exact .inr ⟨x, hx, h _ h1⟩
theorem lb_mem {r : Rit} (hr : RiOk r) {d : Nat} {x : Int} (h : x ∈ ofN (elS (seS r d))) : ∃ i : Nat, x = i ∧ i < r.n ∧ seB r d i = true := by
  unfold ofN at h
  obtain ⟨i, hi, rfl⟩ := List.mem_map.1 h
  have h2 := (elS_mem (seS_lt hr d)).1 hi
  rw [seS_bit, Bool.and_eq_true] at h2
  exact ⟨i, rfl, of_decide_eq_true h2.1, h2.2⟩
theorem sp_step {r : Rit} {l : List (Int × Int)} (hr : RiOk r) (h : rgB r l = true) {k : Nat} (hk : k < l.length) :
    (0 ≤ (l.getD k (0, 0)).2 ∧ (l.getD k (0, 0)).2 < r.n) ∧ ((r.ac (l.getD k (0, 0)).2.toNat).fr ≤ (l.getD k (0, 0)).1 ∧ (l.getD k (0, 0)).1 ≤ (r.ac (l.getD k (0, 0)).2.toNat).to_) ∧ (0 < k → (l.getD (k - 1) (0, 0)).1 ≤ (l.getD k (0, 0)).1) ∧
      (∀ x ∈ (r.ac (l.getD k (0, 0)).2.toNat).nd, (LBk r l k).contains x = true) ∧ (∀ j, j < k → (l.getD j (0, 0)).2 ≠ (l.getD k (0, 0)).2) ∧ (LBk r l (k + 1)).contains (l.getD k (0, 0)).2 = true ∧ ∀ x ∈ LBk r l k, (LBk r l (k + 1)).contains x = true := by
  obtain ⟨h1, h2, h3⟩ := mo_step h hk
  obtain ⟨h4, h5⟩ := mo_done h k (by omega)
  obtain ⟨y, hy⟩ : ∃ y, l.getD k (0, 0) = y := ⟨_, rfl⟩
  rw [hy] at h1 h2 h3 ⊢
  have h6 := br_range h2
  obtain ⟨a, ha⟩ : ∃ a : Nat, y.2 = a := ⟨y.2.toNat, by omega⟩
  rw [ha] at h2 h3 h6 ⊢
  rw [Int.toNat_natCast] at h3 ⊢
  have han : a < r.n := by omega
  obtain ⟨⟨g1, -⟩, g2, g3, g4, -⟩ := br_zero h2
  have hm : ∀ i, (moK r l k).d.testBit i = true → (moK r l (k + 1)).d.testBit i = true := fun i hi => by
    rw [h3]
    show (((moK r l k).on _).d ||| _).testBit _ = true
    rw [on_d, Nat.testBit_or, hi]; rfl
  refine ⟨⟨by omega, by omega⟩, ⟨g2, g3⟩, fun h0 => by rw [← h4 h0]; exact h1.1, fun x hx => ?_, fun j hj e => ?_, ?_, fun x hx => ?_⟩
  · have hx2 := (hr.at_ han).nd x hx
    obtain ⟨i, hi⟩ : ∃ i : Nat, x = i := ⟨x.toNat, by omega⟩
    unfold neB at g4
    have g5 := List.all_eq_true.1 g4 x hx
    rw [hi] at g5 ⊢
    unfold LBk
    rw [se_cont hr _ (by omega)]
    simpa using g5
  · have g5 := h5 j hj
    rw [e, Int.toNat_natCast, g1] at g5
    cases g5
  · unfold LBk
    rw [se_cont hr _ han]
    unfold seB
    have g5 : (moK r l (k + 1)).d.testBit a = true := by
      rw [h3]
      show (((moK r l k).on _).d ||| _).testBit _ = true
      rw [Nat.testBit_or, Nat.testBit_two_pow]; simp
    rw [g5]; rfl
  · obtain ⟨i, rfl, hi, hs⟩ := lb_mem hr hx
    unfold LBk
    rw [se_cont hr _ hi]
    exact seB_mono hm hs
end Go.Proofs.YtcgdalabenflmaaDoor
/- Rite: what a law's walk keeps. -/
namespace Go.Proofs.YtcgdalabenflmaaDoor
open Go Go.RowKit Go.Shelf
set_option maxHeartbeats 8000000
set_option maxRecDepth 100000
/-- what a law's walk keeps -/
structure LwS (w W : World) (G : Nat) (d : Rad) (r : Rit) (A : Option Addr) (l : List (Int × Int)) : Prop where
  lo : Below w.heap.size w W
  kG : Blk W G 24 #[.slice d.A r.n d.c, .int .i64 r.last, .int .i64 r.toil]
  rt : RtR W d r
  ds : DsR W A l
theorem LwS.ext {w W W' : World} {G : Nat} {d : Rad} {r : Rit} {A : Option Addr} {l : List (Int × Int)} (h : LwS w W G d r A l) (hb : Below W.heap.size W W') : LwS w W' G d r A l :=
  ⟨h.lo.trans (hb.mono h.lo.size), h.kG.ext hb, h.rt.ext hb, h.ds.ext hb⟩
theorem liE {W W' : World} {A : Option Addr} {l : List Int} (h : LI W W.heap.size A l) (hb : Below W.heap.size W W') : LI W' W'.heap.size A l := (ER.below h hb (Nat.le_refl _)).more hb.size
theorem frC_three {r : Rit} {l : List (Int × Int)} {day : Int} (h : aftC r l = 0) (h2 : frC r l day ≠ 0) : frC r l day = 3 := by
  unfold frC at h2 ⊢
  rw [if_pos h] at h2 ⊢
  split at h2
  · exact absurd rfl h2
  · rename_i h3; rw [if_neg h3]
theorem frC_in {r : Rit} {l : List (Int × Int)} {day : Int} (h : frC r l day = 0) : (folF r m0 l 0).1.day ≤ day ∧ day ≤ r.last := by
  unfold frC at h
  split at h
  · split at h
    · rename_i h3; exact h3
    · cases h
  · rename_i h2; exact absurd h h2
end Go.Proofs.YtcgdalabenflmaaDoor
/- Rite: the law RiteSpans, walked. -/
namespace Go.Proofs.YtcgdalabenflmaaDoor
open List renaming getElem_toArray → glA, getElem_cons_zero → glB, getElem_cons_succ → glC, setIfInBounds_toArray → glD, set_cons_zero → glE, set_cons_succ → glF
open Go Go.RowKit Go.Shelf
set_option maxHeartbeats 8000000
set_option maxRecDepth 100000
theorem DsR.take {w : World} {A : Option Addr} {l : List (Int × Int)} (h : DsR w A l) (k : Nat) : DsR w A (l.take k) := by
  unfold DsR at h ⊢
  intro hn
  rw [List.length_take] at hn
  obtain ⟨b, off, hA, hb, hc⟩ := h (by omega)
  refine ⟨b, off, hA, hb, fun j i hj hi => ?_⟩
  rw [List.length_take] at hj
  rw [hc j i (by omega) hi]
  have e : (l.take k).getD j (0, 0) = l.getD j (0, 0) := by
    rw [List.getD_eq_getElem?_getD, List.getD_eq_getElem?_getD, List.getElem?_take, if_pos (by omega)]
  show some (dsV (l.getD j (0, 0)) i) = some (dsV ((l.take k).getD j (0, 0)) i)
  rw [e]
theorem lb_zero {r : Rit} {l : List (Int × Int)} (hr : RiOk r) : LBk r l 0 = [] := by
  cases h : LBk r l 0 with
  | nil => rfl
  | cons x t =>
    have hx : x ∈ LBk r l 0 := by rw [h]; exact .head _
    obtain ⟨i, -, -, hs⟩ := lb_mem hr hx
    have e : (moK r l 0).d = 0 := by unfold moK; rw [List.take_zero]; rfl
    rw [e] at hs
    unfold seB at hs
    simp at hs
/-- the settled acts behind a beginning of a right course -/
theorem settled_pre (d : Rad) (r : Rit) (A : Option Addr) (c : Nat) (l : List (Int × Int)) (k : Nat) (w : World) (hd : RtR w d r) (hz : RtZ r) (hl : l.length ≤ 1000000) (hD : DsR w A (l.take k)) (hT : TB w) (hg : rgB r l = true) :
    Calls Tryd.prog 31 #[.agg #[.slice d.A r.n d.c, .int .i64 r.last, .int .i64 r.toil], .slice A (l.take k).length c] w fun e w' =>
      ∃ B bc, e = .returned (.tuple #[.slice B (LBk r l k).length bc, .int .i64 0]) ∧ LI w' w'.heap.size B (LBk r l k) ∧ Below w.heap.size w w' := by
  refine (settled_rite d r A c (l.take k) w hd hz (by rw [List.length_take]; omega) hD hT).mono ?_
  rintro e w2 ⟨⟨hc, -⟩ | ⟨-, -, v, rfl, hv⟩, hb⟩
  · exact absurd (rg_yes (rg_take hg k)).2.2 hc
  · obtain ⟨B, bc, rfl⟩ := own_shape hv
    exact ⟨B, bc, rfl, hv.li.2, hb⟩
theorem lb_len (r : Rit) (l : List (Int × Int)) (k : Nat) : (LBk r l k).length ≤ 1000000 := by
  unfold LBk ofN
  rw [List.length_map]
  have := el_len (seS r (moK r l k).d)
  omega
theorem spans_any (d : Rad) (r : Rit) (A : Option Addr) (c : Nat) (l : List (Int × Int)) (w : World) (hd : RtR w d r) (hc : l.length ≤ c) (hD : DsR w A l) (hT : TB w) :
    Calls Tryd.prog 7 #[.agg #[.slice d.A r.n d.c, .int .i64 r.last, .int .i64 r.toil], .slice A l.length c] w fun e w' => e = .returned (.bool true) ∧ Below w.heap.size w w' := by
  have HT := hide hT
  have HB1 : Hid (Below w.heap.size w (w.alloc (.cells #[.slice d.A r.n d.c, .int .i64 r.last, .int .i64 r.toil] 24))) := hide ((Below.refl _ _).alloc (Nat.le_refl _) _)
  obtain ⟨G, hG⟩ : ∃ x, w.heap.size = x := ⟨_, rfl⟩
  have HS : Hid (LwS w (w.alloc (.cells #[.slice d.A r.n d.c, .int .i64 r.last, .int .i64 r.toil] 24)) G d r A l) := hide ⟨HB1.out, by rw [← hG]; exact Blk.new w _ _, hd.ext HB1.out, hD.ext HB1.out⟩
  have HGO := hide (fun W (h : RtR W d r) => good_any d r A c l W h)
  have HKN := hide (fun W (h : Below w.heap.size w W) => known_any W (hT.ext h))
  have HRI := hide (fun (hz : RtZ r) (hl : l.length ≤ 1000000) W (h : RtR W d r) (h2 : DsR W A l) => right_any d r A c l W h hz hl h2)
  have HCP := hide (fun (hz : RtZ r) W (h : RtR W d r) => copied_any d r W h hz)
  unfold CpPost at HCP
  obtain ⟨nl, hnl⟩ : ∃ n, l.length = n := ⟨_, rfl⟩
  have HNL := hide hnl
  rw [hnl] at HGO HRI hc ⊢
  clear hd hD hT HB1 hnl
  go_enter Tryd.func7, Tryd.ntmps7
  go_upto_region 1 with fail
  (try rw [hG])
  clear hG
  generalize w.alloc (.cells #[.slice d.A r.n d.c, .int .i64 r.last, .int .i64 r.toil] 24) = w1 at HS ⊢
  obtain ⟨g9, g0, g1, g2, -⟩ := blk3 HS.out.kG
  go_wp2_with fail
  refine (HGO.out w1 HS.out.rt).mono ?_
  rintro e w2 ⟨rfl, hb2⟩
  replace HS := hide (HS.out.ext hb2)
  clear g9 g0 g1 g2 hb2 HGO
  rcases hgd : gdB r l with _ | _
  · clear hgd
    go_wp2_with fail
    refine (HKN.out w2 HS.out.lo).mono ?_
    rintro e w3 ⟨rfl, hb3⟩
    replace HS := hide (HS.out.ext hb3)
    clear hb3
    go_wp2_with fail
    go_ret
    exact ⟨rfl, HS.out.lo⟩
  obtain ⟨hro, hz, hl20, hrb⟩ := gd_yes hgd
  have HZ := hide hz
  have HRO := hide hro
  have hnl20 : nl ≤ 20 := by rw [← HNL.out]; exact hl20
  replace HCP := hide (HCP.out hz)
  replace HRI := hide (HRI.out hz (by omega))
  clear hgd hro hz hl20 hrb
  obtain ⟨g9, g0, g1, g2, -⟩ := blk3 HS.out.kG
  go_wp2_with fail
  refine (HRI.out w2 HS.out.rt HS.out.ds).mono ?_
  rintro e w3 ⟨rfl, hb3⟩
  replace HS := hide (HS.out.ext hb3)
  clear g9 g0 g1 g2 hb3 HRI
  rcases hrg : rgB r l with _ | _
  · clear hrg
    go_wp2_with fail
    refine (HKN.out w3 HS.out.lo).mono ?_
    rintro e w4 ⟨rfl, hb4⟩
    replace HS := hide (HS.out.ext hb4)
    clear hb4
    go_wp2_with fail
    go_ret
    exact ⟨rfl, HS.out.lo⟩
  have HRG := hide hrg
  generalize (true && coB r (folF r m0 l 0).1.d) = co
  have HSE := hide (fun k d' A' c' W (h : RtR W d' r) (h2 : DsR W A' (l.take k)) (h3 : TB W) => settled_pre d' r A' c' l k W h HZ.out (by rw [HNL.out]; omega) h2 h3 hrg)
  clear hrg
  obtain ⟨g9, g0, g1, g2, -⟩ := blk3 HS.out.kG
  go_wp2_with fail
  refine (HCP.out w3 HS.out.rt).mono ?_
  rintro e w4 ⟨d4, rfl, hr4, hb4⟩
  have R4 := hide hr4
  replace HS := hide (HS.out.ext hb4)
  clear g9 g0 g1 g2 hr4 hb4
  have H0 := hide (HSE.out 0 d4 none 0 w4 R4.out (by rw [List.take_zero]; exact ER.nil _ _ _ _ _) (HT.out.ext HS.out.lo))
  rw [lb_zero HRO.out] at H0
  go_wp2_with fail
  refine H0.out.mono ?_
  rintro e w5 ⟨B0, c0, rfl, -, hb5⟩
  replace HS := hide (HS.out.ext hb5)
  clear hb5 H0 R4
  have hn10 := HRO.out.n10
  obtain ⟨n, hn⟩ : ∃ x, r.n = x := ⟨_, rfl⟩
  obtain ⟨la, hla⟩ : ∃ x, r.last = x := ⟨_, rfl⟩
  obtain ⟨tl, htl⟩ : ∃ x, r.toil = x := ⟨_, rfl⟩
  have HN := hide (And.intro hn (And.intro hla htl))
  have HS17 : Hid (∀ W, LwS w W G d r A l → (W.cell? ⟨G, 0, none⟩ = some (.slice d.A n d.c) ∧ W.cell? ⟨G, 1, none⟩ = some (.int .i64 la) ∧ W.cell? ⟨G, 2, none⟩ = some (.int .i64 tl))) := hide fun W h => by
    obtain ⟨-, x0, x1, x2, -⟩ := blk3 h.kG
    rw [← hn, ← hla, ← htl]
    exact ⟨x0, x1, x2⟩
  rw [hn] at hn10
  rw [hn, hla, htl] at HCP HSE
  rw [hn, hla, htl]
  clear hn hla htl
  go_wp2_with fail
  go_loopw [7, 9] (fun v i wr => ∃ (k : Nat) (B : Option Addr) (bc : Nat), k ≤ nl ∧ i = .int .i64 k ∧ v = .slice B (LBk r l k).length bc ∧ Hid (LI wr wr.heap.size B (LBk r l k)) ∧ Hid (Below w5.heap.size w5 wr)) (fun _ i _ => nl - (intOf i).toNat)
  case atStart => exact ⟨0, B0, c0, Nat.zero_le _, rfl, by rw [lb_zero HRO.out]; rfl, hide (by rw [lb_zero HRO.out]; exact ER.nil _ _ _ _ _), hide (Below.refl _ _)⟩
  case round =>
    obtain ⟨k, B, bc, hk, rfl, rfl, HLR, HB⟩ := hrel
    have hst : IntKind.i64.wrap ((k : Int) + 1) = ((k + 1 : Nat) : Int) := by rw [IntWalk.i64_in _ (by omega)]; omega
    have HSR := hide (HS.out.ext HB.out)
    by_cases hlt : k < nl
    · have hlt' : (k : Int) < (nl : Int) := by omega
      obtain ⟨f1, f2, f3, f4, f5, f6, f7⟩ := sp_step HRO.out HRG.out (k := k) (by rw [HNL.out]; exact hlt)
      obtain ⟨b, off, hA, hbl, hcl⟩ := HS.out.ds (by rw [HNL.out]; omega)
      have HCL : Hid (∀ W, Below w5.heap.size w5 W → ∀ j, j < nl → W.cell? ⟨b, off + j * 2, none⟩ = some (.int .i64 (l.getD j (0, 0)).1) ∧ W.cell? ⟨b, off + j * 2 + 1, none⟩ = some (.int .i64 (l.getD j (0, 0)).2)) := hide fun W h j hj =>
        ⟨(h.cell (p := ⟨b, off + j * 2, none⟩) hbl).trans (hcl j 0 (by rw [HNL.out]; exact hj) (by omega)), (h.cell (p := ⟨b, off + j * 2 + 1, none⟩) hbl).trans (hcl j 1 (by rw [HNL.out]; exact hj) (by omega))⟩
      subst hA
      clear hcl
      obtain ⟨yd, hyd⟩ : ∃ x, (l.getD k (0, 0)).1 = x := ⟨_, rfl⟩
      obtain ⟨yp, hyp⟩ : ∃ x, (l.getD (k - 1) (0, 0)).1 = x := ⟨_, rfl⟩
      obtain ⟨a, ha⟩ : ∃ a : Nat, (l.getD k (0, 0)).2 = a := ⟨(l.getD k (0, 0)).2.toNat, by omega⟩
      rw [hyd, ha, Int.toNat_natCast] at f2
      rw [hyd, hyp] at f3
      rw [ha, Int.toNat_natCast] at f4
      rw [ha] at f1 f5 f6
      have hkr : a < r.n := by omega
      have han : (a : Int) < (n : Int) := by have := HN.out.1; omega
      obtain ⟨ac, hac⟩ : ∃ x, r.ac a = x := ⟨_, rfl⟩
      obtain ⟨ab, ao, hra, hal, c0, c1, c2, c3, c4, c5, c6⟩ := HS.out.rt.at_ hkr hac
      have hrd := HS.out.rt.nd a hkr
      rw [hac] at f2 f4 hrd
      obtain ⟨nm, nd, ins, at_, fr, to_, ex⟩ := ac
      dsimp only at f2 f4 c0 c1 c2 c3 c4 c5 c6 hrd
      obtain ⟨na, hna⟩ : ∃ x, d.na a = x := ⟨_, rfl⟩
      obtain ⟨nc, hnc⟩ : ∃ x, d.nc a = x := ⟨_, rfl⟩
      obtain ⟨ia, hia⟩ : ∃ x, d.ia a = x := ⟨_, rfl⟩
      obtain ⟨ic, hic⟩ : ∃ x, d.ic a = x := ⟨_, rfl⟩
      obtain ⟨nn, hnn⟩ : ∃ x, nd.length = x := ⟨_, rfl⟩
      obtain ⟨ni, hni⟩ : ∃ x, ins.length = x := ⟨_, rfl⟩
      have hnl12 := HZ.out.nd a hkr
      rw [hac] at hnl12
      dsimp only at hnl12
      rw [hnn] at hnl12
      rw [hna, hnc, hnn] at c1
      rw [hia, hic, hni] at c2
      rw [hna] at hrd
      have HNN := hide hnn
      have HLN := hide (liE hrd HB.out)
      have H14 : Hid (∀ W, Below w5.heap.size w5 W → ((W.cell? ⟨b, off + k * 2, none⟩ = some (.int .i64 yd) ∧ W.cell? ⟨b, off + k * 2 + 1, none⟩ = some (.int .i64 (a : Nat)) ∧ W.cell? ⟨G, 0, none⟩ = some (.slice (some ⟨ab, ao, none⟩) n d.c)) ∧ W.cell? ⟨ab, ao + a * 7, none⟩ = some (.string nm) ∧ W.cell? ⟨ab, ao + a * 7 + 1, none⟩ = some (.slice na nn nc) ∧ W.cell? ⟨ab, ao + a * 7 + 2, none⟩ = some (.slice ia ni ic) ∧ W.cell? ⟨ab, ao + a * 7 + 3, none⟩ = some (.int .i64 at_) ∧ W.cell? ⟨ab, ao + a * 7 + 4, none⟩ = some (.int .i64 fr) ∧ W.cell? ⟨ab, ao + a * 7 + 5, none⟩ = some (.int .i64 to_) ∧ W.cell? ⟨ab, ao + a * 7 + 6, none⟩ = some (.bool ex))) := hide fun W h => by
        have q := HCL.out W h k hlt
        rw [hyd, ha] at q
        have q2 := (HS17.out W (HS.out.ext h)).1
        rw [hra] at q2
        exact ⟨⟨q.1, q.2, q2⟩, (h.cell (p := ⟨ab, ao + a * 7, none⟩) hal).trans c0, (h.cell (p := ⟨ab, ao + a * 7 + 1, none⟩) hal).trans c1, (h.cell (p := ⟨ab, ao + a * 7 + 2, none⟩) hal).trans c2, (h.cell (p := ⟨ab, ao + a * 7 + 3, none⟩) hal).trans c3, (h.cell (p := ⟨ab, ao + a * 7 + 4, none⟩) hal).trans c4, (h.cell (p := ⟨ab, ao + a * 7 + 5, none⟩) hal).trans c5, (h.cell (p := ⟨ab, ao + a * 7 + 6, none⟩) hal).trans c6⟩
      have HYP : Hid (∀ W, Below w5.heap.size w5 W → 0 < k → W.cell? ⟨b, off + (k - 1) * 2, none⟩ = some (.int .i64 yp)) := hide fun W h _ => by
        have q := (HCL.out W h (k - 1) (by omega)).1
        rw [hyp] at q
        exact q
      have x0 : ¬ (a : Int) < 0 := by omega
      have x1 : ¬ (a : Int) ≥ (n : Int) := by omega
      have x2 : ¬ yd < fr := by omega
      have x3 : ¬ yd > to_ := by omega
      have HF := hide (And.intro f4 (And.intro f5 (And.intro f6 f7)))
      have HAK := hide ha
      clear hbl hyd hyp ha hkr hac hra hal hrd c0 c1 c2 c3 c4 c5 c6 hna hnc hia hic hnn hni f1 f2 f4 f5 f6 f7
      have hd1 := (Below.refl wr.heap.size wr).drew
      replace HSR := hide (HSR.out.ext hd1)
      replace HLR := hide (liE HLR.out hd1)
      (try replace KE := hide (KE.out.ext hd1))
      (try replace HLN := hide (liE HLN.out hd1))
      (try replace HL3 := hide (liE HL3.out hd1))
      replace HB := hide (HB.out.trans ((hd1).mono HB.out.size))
      clear hd1
      go_upto_region 12 with fail
      refine wp_region_J (fun W : World => ((W.cell? ⟨b, off + k * 2, none⟩ = some (.int .i64 yd) ∧ W.cell? ⟨b, off + k * 2 + 1, none⟩ = some (.int .i64 (a : Nat)) ∧ W.cell? ⟨G, 0, none⟩ = some (.slice (some ⟨ab, ao, none⟩) n d.c)) ∧ W.cell? ⟨ab, ao + a * 7, none⟩ = some (.string nm) ∧ W.cell? ⟨ab, ao + a * 7 + 1, none⟩ = some (.slice na nn nc) ∧ W.cell? ⟨ab, ao + a * 7 + 2, none⟩ = some (.slice ia ni ic) ∧ W.cell? ⟨ab, ao + a * 7 + 3, none⟩ = some (.int .i64 at_) ∧ W.cell? ⟨ab, ao + a * 7 + 4, none⟩ = some (.int .i64 fr) ∧ W.cell? ⟨ab, ao + a * 7 + 5, none⟩ = some (.int .i64 to_) ∧ W.cell? ⟨ab, ao + a * 7 + 6, none⟩ = some (.bool ex))) (by kernel_rfl) ?_
      generalize wr.drew = wa at HSR HLR HLN HB ⊢
      refine wpAnyJ_take 0 (v := ?_) (by first | exact hF | exact wideFn) (H14.out _ HB.out) rfl (by kernel_rfl) (by kernel_rfl) (by kernel_rfl) (by kernel_rfl) rfl ?_ (by first | exact fun _ _ _ h => h | exact fun _ _ _ h => hQ2 _ _ _ _ _ h) ?_
      rotate_left
      · intro W hSW
        simp only [glA, glB, glC]
        (try dsimp only at hSW)
        go_simp
        with_reducible rfl
      (try simp only [glA, glB, glC, Act.put, glD, glE, glF])
      refine wpAnyJ_take 1 (v := ?_) (by first | exact hF | exact wideFn) (H14.out _ HB.out) rfl (by kernel_rfl) (by kernel_rfl) (by kernel_rfl) (by kernel_rfl) rfl ?_ (by first | exact fun _ _ _ h => h | exact fun _ _ _ h => hQ2 _ _ _ _ _ h) ?_
      rotate_left
      · intro W hSW
        simp only [glA, glB, glC]
        (try dsimp only at hSW)
        go_simp
        with_reducible rfl
      (try simp only [glA, glB, glC, Act.put, glD, glE, glF])
      refine wpAnyJ_take 2 (v := ?_) (by first | exact hF | exact wideFn) (H14.out _ HB.out) rfl (by kernel_rfl) (by kernel_rfl) (by kernel_rfl) (by kernel_rfl) rfl ?_ (by first | exact fun _ _ _ h => h | exact fun _ _ _ h => hQ2 _ _ _ _ _ h) ?_
      rotate_left
      · intro W hSW
        simp only [glA, glB, glC]
        (try dsimp only at hSW)
        go_simp
        with_reducible rfl
      (try simp only [glA, glB, glC, Act.put, glD, glE, glF])
      refine wpAnyJ_take 3 (v := ?_) (by first | exact hF | exact wideFn) (H14.out _ HB.out) rfl (by kernel_rfl) (by kernel_rfl) (by kernel_rfl) (by kernel_rfl) rfl ?_ (by first | exact fun _ _ _ h => h | exact fun _ _ _ h => hQ2 _ _ _ _ _ h) ?_
      rotate_left
      · intro W hSW
        simp only [glA, glB, glC]
        (try dsimp only at hSW)
        go_simp
        with_reducible rfl
      (try simp only [glA, glB, glC, Act.put, glD, glE, glF])
      refine wpAnyJ_take 4 (v := ?_) (by first | exact hF | exact wideFn) (H14.out _ HB.out) rfl (by kernel_rfl) (by kernel_rfl) (by kernel_rfl) (by kernel_rfl) rfl ?_ (by first | exact fun _ _ _ h => h | exact fun _ _ _ h => hQ2 _ _ _ _ _ h) ?_
      rotate_left
      · intro W hSW
        simp only [glA, glB, glC]
        (try dsimp only at hSW)
        go_simp
        with_reducible rfl
      (try simp only [glA, glB, glC, Act.put, glD, glE, glF])
      refine wpAnyJ_take 5 (v := ?_) (by first | exact hF | exact wideFn) (H14.out _ HB.out) rfl (by kernel_rfl) (by kernel_rfl) (by kernel_rfl) (by kernel_rfl) rfl ?_ (by first | exact fun _ _ _ h => h | exact fun _ _ _ h => hQ2 _ _ _ _ _ h) ?_
      rotate_left
      · intro W hSW
        simp only [glA, glB, glC]
        (try dsimp only at hSW)
        go_simp
        with_reducible rfl
      (try simp only [glA, glB, glC, Act.put, glD, glE, glF])
      refine wpAnyJ_take 6 (v := ?_) (by first | exact hF | exact wideFn) (H14.out _ HB.out) rfl (by kernel_rfl) (by kernel_rfl) (by kernel_rfl) (by kernel_rfl) rfl ?_ (by first | exact fun _ _ _ h => h | exact fun _ _ _ h => hQ2 _ _ _ _ _ h) ?_
      rotate_left
      · intro W hSW
        simp only [glA, glB, glC]
        (try dsimp only at hSW)
        go_simp
        with_reducible rfl
      (try simp only [glA, glB, glC, Act.put, glD, glE, glF])
      refine wpAnyJ_take 7 (v := ?_) (by first | exact hF | exact wideFn) (H14.out _ HB.out) rfl (by kernel_rfl) (by kernel_rfl) (by kernel_rfl) (by kernel_rfl) rfl ?_ (by first | exact fun _ _ _ h => h | exact fun _ _ _ h => hQ2 _ _ _ _ _ h) ?_
      rotate_left
      · intro W hSW
        simp only [glA, glB, glC]
        (try dsimp only at hSW)
        go_simp
        with_reducible rfl
      (try simp only [glA, glB, glC, Act.put, glD, glE, glF])
      refine wpAnyJ_take 8 (v := ?_) (by first | exact hF | exact wideFn) (H14.out _ HB.out) rfl (by kernel_rfl) (by kernel_rfl) (by kernel_rfl) (by kernel_rfl) rfl ?_ (by first | exact fun _ _ _ h => h | exact fun _ _ _ h => hQ2 _ _ _ _ _ h) ?_
      rotate_left
      · intro W hSW
        simp only [glA, glB, glC]
        (try dsimp only at hSW)
        go_simp
        with_reducible rfl
      (try simp only [glA, glB, glC, Act.put, glD, glE, glF])
      refine wpAnyJ_take 9 (v := ?_) (by first | exact hF | exact wideFn) (H14.out _ HB.out) rfl (by kernel_rfl) (by kernel_rfl) (by kernel_rfl) (by kernel_rfl) rfl ?_ (by first | exact fun _ _ _ h => h | exact fun _ _ _ h => hQ2 _ _ _ _ _ h) ?_
      rotate_left
      · intro W hSW
        simp only [glA, glB, glC]
        (try dsimp only at hSW)
        go_simp
        with_reducible rfl
      (try simp only [glA, glB, glC, Act.put, glD, glE, glF])
      refine wpAnyJ_take 10 (v := ?_) (by first | exact hF | exact wideFn) (H14.out _ HB.out) rfl (by kernel_rfl) (by kernel_rfl) (by kernel_rfl) (by kernel_rfl) rfl ?_ (by first | exact fun _ _ _ h => h | exact fun _ _ _ h => hQ2 _ _ _ _ _ h) ?_
      rotate_left
      · intro W hSW
        simp only [glA, glB, glC]
        (try dsimp only at hSW)
        go_simp
        with_reducible rfl
      (try simp only [glA, glB, glC, Act.put, glD, glE, glF])
      refine wpAnyJ_take 11 (v := ?_) (by first | exact hF | exact wideFn) (H14.out _ HB.out) rfl (by kernel_rfl) (by kernel_rfl) (by kernel_rfl) (by kernel_rfl) rfl ?_ (by first | exact fun _ _ _ h => h | exact fun _ _ _ h => hQ2 _ _ _ _ _ h) ?_
      rotate_left
      · intro W hSW
        simp only [glA, glB, glC]
        (try dsimp only at hSW)
        go_simp
        with_reducible rfl
      (try simp only [glA, glB, glC, Act.put, glD, glE, glF])
      refine wpAnyJ_take 12 (v := ?_) (by first | exact hF | exact wideFn) (H14.out _ HB.out) rfl (by kernel_rfl) (by kernel_rfl) (by kernel_rfl) (by kernel_rfl) rfl ?_ (by first | exact fun _ _ _ h => h | exact fun _ _ _ h => hQ2 _ _ _ _ _ h) ?_
      rotate_left
      · intro W hSW
        simp only [glA, glB, glC]
        (try dsimp only at hSW)
        go_simp
        with_reducible rfl
      (try simp only [glA, glB, glC, Act.put, glD, glE, glF])
      refine wpAnyJ_take 13 (v := ?_) (by first | exact hF | exact wideFn) (H14.out _ HB.out) rfl (by kernel_rfl) (by kernel_rfl) (by kernel_rfl) (by kernel_rfl) rfl ?_ (by first | exact fun _ _ _ h => h | exact fun _ _ _ h => hQ2 _ _ _ _ _ h) ?_
      rotate_left
      · intro W hSW
        simp only [glA, glB, glC]
        (try dsimp only at hSW)
        go_simp
        with_reducible rfl
      (try simp only [glA, glB, glC, Act.put, glD, glE, glF])
      refine wpAnyJ_take 14 (v := ?_) (by first | exact hF | exact wideFn) (H14.out _ HB.out) rfl (by kernel_rfl) (by kernel_rfl) (by kernel_rfl) (by kernel_rfl) rfl ?_ (by first | exact fun _ _ _ h => h | exact fun _ _ _ h => hQ2 _ _ _ _ _ h) ?_
      rotate_left
      · intro W hSW
        simp only [glA, glB, glC]
        (try dsimp only at hSW)
        go_simp
        with_reducible rfl
      (try simp only [glA, glB, glC, Act.put, glD, glE, glF])
      refine wpAnyJ_take 15 (v := ?_) (by first | exact hF | exact wideFn) (H14.out _ HB.out) rfl (by kernel_rfl) (by kernel_rfl) (by kernel_rfl) (by kernel_rfl) rfl ?_ (by first | exact fun _ _ _ h => h | exact fun _ _ _ h => hQ2 _ _ _ _ _ h) ?_
      rotate_left
      · intro W hSW
        simp only [glA, glB, glC]
        (try dsimp only at hSW)
        go_simp
        with_reducible rfl
      (try simp only [glA, glB, glC, Act.put, glD, glE, glF])
      refine wpAnyJ_take 16 (v := ?_) (by first | exact hF | exact wideFn) (H14.out _ HB.out) rfl (by kernel_rfl) (by kernel_rfl) (by kernel_rfl) (by kernel_rfl) rfl ?_ (by first | exact fun _ _ _ h => h | exact fun _ _ _ h => hQ2 _ _ _ _ _ h) ?_
      rotate_left
      · intro W hSW
        simp only [glA, glB, glC]
        (try dsimp only at hSW)
        go_simp
        with_reducible rfl
      (try simp only [glA, glB, glC, Act.put, glD, glE, glF])
      refine wpAnyJ_done (by kernel_rfl) ?_
      go_upto_region 14 with fail
      have hd1 := (Below.refl wa.heap.size wa).drew
      replace HSR := hide (HSR.out.ext hd1)
      replace HLR := hide (liE HLR.out hd1)
      (try replace KE := hide (KE.out.ext hd1))
      (try replace HLN := hide (liE HLN.out hd1))
      (try replace HL3 := hide (liE HL3.out hd1))
      replace HB := hide (HB.out.trans ((hd1).mono HB.out.size))
      clear hd1
      refine wp_region_J (fun W : World => ((W.cell? ⟨b, off + k * 2, none⟩ = some (.int .i64 yd) ∧ W.cell? ⟨b, off + k * 2 + 1, none⟩ = some (.int .i64 (a : Nat)) ∧ W.cell? ⟨G, 0, none⟩ = some (.slice (some ⟨ab, ao, none⟩) n d.c)) ∧ W.cell? ⟨ab, ao + a * 7, none⟩ = some (.string nm) ∧ W.cell? ⟨ab, ao + a * 7 + 1, none⟩ = some (.slice na nn nc) ∧ W.cell? ⟨ab, ao + a * 7 + 2, none⟩ = some (.slice ia ni ic) ∧ W.cell? ⟨ab, ao + a * 7 + 3, none⟩ = some (.int .i64 at_) ∧ W.cell? ⟨ab, ao + a * 7 + 4, none⟩ = some (.int .i64 fr) ∧ W.cell? ⟨ab, ao + a * 7 + 5, none⟩ = some (.int .i64 to_) ∧ W.cell? ⟨ab, ao + a * 7 + 6, none⟩ = some (.bool ex))) (by kernel_rfl) ?_
      generalize wa.drew = wb at HSR HLR HLN HB ⊢
      refine wpAnyJ_take 0 (v := ?_) (by first | exact hF | exact wideFn) (H14.out _ HB.out) rfl (by kernel_rfl) (by kernel_rfl) (by kernel_rfl) (by kernel_rfl) rfl ?_ (by first | exact fun _ _ _ h => h | exact fun _ _ _ h => hQ2 _ _ _ _ _ h) ?_
      rotate_left
      · intro W hSW
        simp only [glA, glB, glC]
        (try dsimp only at hSW)
        go_simp
        with_reducible rfl
      (try simp only [glA, glB, glC, Act.put, glD, glE, glF])
      refine wpAnyJ_take 1 (v := ?_) (by first | exact hF | exact wideFn) (H14.out _ HB.out) rfl (by kernel_rfl) (by kernel_rfl) (by kernel_rfl) (by kernel_rfl) rfl ?_ (by first | exact fun _ _ _ h => h | exact fun _ _ _ h => hQ2 _ _ _ _ _ h) ?_
      rotate_left
      · intro W hSW
        simp only [glA, glB, glC]
        (try dsimp only at hSW)
        go_simp
        with_reducible rfl
      (try simp only [glA, glB, glC, Act.put, glD, glE, glF])
      refine wpAnyJ_take 2 (v := ?_) (by first | exact hF | exact wideFn) (H14.out _ HB.out) rfl (by kernel_rfl) (by kernel_rfl) (by kernel_rfl) (by kernel_rfl) rfl ?_ (by first | exact fun _ _ _ h => h | exact fun _ _ _ h => hQ2 _ _ _ _ _ h) ?_
      rotate_left
      · intro W hSW
        simp only [glA, glB, glC]
        (try dsimp only at hSW)
        go_simp
        with_reducible rfl
      (try simp only [glA, glB, glC, Act.put, glD, glE, glF])
      refine wpAnyJ_take 3 (v := ?_) (by first | exact hF | exact wideFn) (H14.out _ HB.out) rfl (by kernel_rfl) (by kernel_rfl) (by kernel_rfl) (by kernel_rfl) rfl ?_ (by first | exact fun _ _ _ h => h | exact fun _ _ _ h => hQ2 _ _ _ _ _ h) ?_
      rotate_left
      · intro W hSW
        simp only [glA, glB, glC]
        (try dsimp only at hSW)
        go_simp
        with_reducible rfl
      (try simp only [glA, glB, glC, Act.put, glD, glE, glF])
      refine wpAnyJ_take 4 (v := ?_) (by first | exact hF | exact wideFn) (H14.out _ HB.out) rfl (by kernel_rfl) (by kernel_rfl) (by kernel_rfl) (by kernel_rfl) rfl ?_ (by first | exact fun _ _ _ h => h | exact fun _ _ _ h => hQ2 _ _ _ _ _ h) ?_
      rotate_left
      · intro W hSW
        simp only [glA, glB, glC]
        (try dsimp only at hSW)
        go_simp
        with_reducible rfl
      (try simp only [glA, glB, glC, Act.put, glD, glE, glF])
      refine wpAnyJ_take 5 (v := ?_) (by first | exact hF | exact wideFn) (H14.out _ HB.out) rfl (by kernel_rfl) (by kernel_rfl) (by kernel_rfl) (by kernel_rfl) rfl ?_ (by first | exact fun _ _ _ h => h | exact fun _ _ _ h => hQ2 _ _ _ _ _ h) ?_
      rotate_left
      · intro W hSW
        simp only [glA, glB, glC]
        (try dsimp only at hSW)
        go_simp
        with_reducible rfl
      (try simp only [glA, glB, glC, Act.put, glD, glE, glF])
      refine wpAnyJ_take 6 (v := ?_) (by first | exact hF | exact wideFn) (H14.out _ HB.out) rfl (by kernel_rfl) (by kernel_rfl) (by kernel_rfl) (by kernel_rfl) rfl ?_ (by first | exact fun _ _ _ h => h | exact fun _ _ _ h => hQ2 _ _ _ _ _ h) ?_
      rotate_left
      · intro W hSW
        simp only [glA, glB, glC]
        (try dsimp only at hSW)
        go_simp
        with_reducible rfl
      (try simp only [glA, glB, glC, Act.put, glD, glE, glF])
      refine wpAnyJ_take 7 (v := ?_) (by first | exact hF | exact wideFn) (H14.out _ HB.out) rfl (by kernel_rfl) (by kernel_rfl) (by kernel_rfl) (by kernel_rfl) rfl ?_ (by first | exact fun _ _ _ h => h | exact fun _ _ _ h => hQ2 _ _ _ _ _ h) ?_
      rotate_left
      · intro W hSW
        simp only [glA, glB, glC]
        (try dsimp only at hSW)
        go_simp
        with_reducible rfl
      (try simp only [glA, glB, glC, Act.put, glD, glE, glF])
      refine wpAnyJ_take 8 (v := ?_) (by first | exact hF | exact wideFn) (H14.out _ HB.out) rfl (by kernel_rfl) (by kernel_rfl) (by kernel_rfl) (by kernel_rfl) rfl ?_ (by first | exact fun _ _ _ h => h | exact fun _ _ _ h => hQ2 _ _ _ _ _ h) ?_
      rotate_left
      · intro W hSW
        simp only [glA, glB, glC]
        (try dsimp only at hSW)
        go_simp
        with_reducible rfl
      (try simp only [glA, glB, glC, Act.put, glD, glE, glF])
      have hba : Below wb.heap.size wb (wb.alloc (.cells #[.string ⟨#[]⟩, .slice none 0 0, .slice none 0 0, .int .i64 0, .int .i64 0, .int .i64 0, .bool false] 58)) := (Below.refl _ _).alloc (Nat.le_refl _) _
      obtain ⟨wS, hrun, hKS, hBS, -⟩ := store_blk (P := Tryd.prog) (ty := 58) (cells := #[.string nm, .slice na nn nc, .slice ia ni ic, .int .i64 at_, .int .i64 fr, .int .i64 to_, .bool ex]) (Blk.new wb 58 #[.string ⟨#[]⟩, .slice none 0 0, .slice none 0 0, .int .i64 0, .int .i64 0, .int .i64 0, .bool false]) rfl (by kernel_rfl) (by simp [Value.oneCell'])
      have hb5 := hBS _ _ hba (Nat.le_refl _)
      have KE := hide hKS
      have HRUN := hide hrun
      have HBA := hide (H14.out _ (HB.out.trans (hba.mono HB.out.size)))
      replace HSR := hide (HSR.out.ext hb5)
      replace HLR := hide (liE HLR.out hb5)
      (try replace KE := hide (KE.out.ext hb5))
      (try replace HLN := hide (liE HLN.out hb5))
      (try replace HL3 := hide (liE HL3.out hb5))
      replace HB := hide (HB.out.trans ((hb5).mono HB.out.size))
      obtain ⟨E, hE⟩ : ∃ x, wb.heap.size = x := ⟨_, rfl⟩
      rw [hE] at KE HRUN
      clear hrun hKS hBS hb5 hba
      refine wpAnyJ_one 9 rfl (by kernel_rfl) (fun K hK => ?_)
      simp only [glA, glB, glC]
      go_simp
      refine hK.out _ _ (fun _ => HBA.out) ?_
      clear hK K
      (try simp only [glA, glB, glC, Act.put, glD, glE, glF])
      refine wpAnyJ_one 10 rfl (by kernel_rfl) (fun K hK => ?_)
      rw [if_pos (by rfl)]
      refine wpIn_store_run 58 (.tmp 10) (.tmp 74) wideFn rfl rfl rfl HRUN.out ?_
      refine hK.out _ _ (fun _ => H14.out _ HB.out) ?_
      clear hK K HRUN HBA
      (try simp only [glA, glB, glC, Act.put, glD, glE, glF])
      refine wpAnyJ_done (by kernel_rfl) ?_
      (try rw [hE])
      clear hE
      have H15 : Hid (∀ W, Below wS.heap.size wS W → ((W.cell? ⟨b, off + k * 2, none⟩ = some (.int .i64 yd) ∧ (0 < k → W.cell? ⟨b, off + (k - 1) * 2, none⟩ = some (.int .i64 yp))) ∧ W.cell? ⟨E, 4, none⟩ = some (.int .i64 fr) ∧ W.cell? ⟨E, 5, none⟩ = some (.int .i64 to_))) := hide fun W h => by
        have h2 := HB.out.trans (h.mono HB.out.size)
        exact ⟨⟨(H14.out W h2).1.1, HYP.out W h2⟩, (KE.out.ext h).cell 4, (KE.out.ext h).cell 5⟩
      go_upto_region 15 with fail
      have KE0 := KE
      have HBS : Hid (Below wS.heap.size wS wS) := hide (Below.refl _ _)
      have hd1 := (Below.refl wS.heap.size wS).drew
      replace HBS := hide (HBS.out.trans hd1)
      replace HSR := hide (HSR.out.ext hd1)
      replace HLR := hide (liE HLR.out hd1)
      (try replace KE := hide (KE.out.ext hd1))
      (try replace HLN := hide (liE HLN.out hd1))
      (try replace HL3 := hide (liE HL3.out hd1))
      replace HB := hide (HB.out.trans ((hd1).mono HB.out.size))
      clear hd1 KE0
      rcases Nat.eq_zero_or_pos k with hk0 | hk0
      · have x4 : ¬ (k : Int) > 0 := by omega
        have x5 : ¬ (0 : Int) < (k : Int) := by omega
        have x6 : ¬ 0 < k := by omega
        clear hk0
        refine wp_region_J (fun W : World => ((W.cell? ⟨b, off + k * 2, none⟩ = some (.int .i64 yd) ∧ (0 < k → W.cell? ⟨b, off + (k - 1) * 2, none⟩ = some (.int .i64 yp))) ∧ W.cell? ⟨E, 4, none⟩ = some (.int .i64 fr) ∧ W.cell? ⟨E, 5, none⟩ = some (.int .i64 to_))) (by kernel_rfl) ?_
        generalize wS.drew = wc at HSR HLR HLN KE HB HBS ⊢
        refine wpAnyJ_take 0 (v := ?_) (by first | exact hF | exact wideFn) (H15.out _ HBS.out) rfl (by kernel_rfl) (by kernel_rfl) (by kernel_rfl) (by kernel_rfl) rfl ?_ (by first | exact fun _ _ _ h => h | exact fun _ _ _ h => hQ2 _ _ _ _ _ h) ?_
        rotate_left
        · intro W hSW
          simp only [glA, glB, glC]
          (try dsimp only at hSW)
          go_simp
          with_reducible rfl
        (try simp only [glA, glB, glC, Act.put, glD, glE, glF])
        refine wpAnyJ_take 1 (v := ?_) (by first | exact hF | exact wideFn) (H15.out _ HBS.out) rfl (by kernel_rfl) (by kernel_rfl) (by kernel_rfl) (by kernel_rfl) rfl ?_ (by first | exact fun _ _ _ h => h | exact fun _ _ _ h => hQ2 _ _ _ _ _ h) ?_
        rotate_left
        · intro W hSW
          simp only [glA, glB, glC]
          (try dsimp only at hSW)
          go_simp
          with_reducible rfl
        (try simp only [glA, glB, glC, Act.put, glD, glE, glF])
        refine wpAnyJ_take 2 (v := ?_) (by first | exact hF | exact wideFn) (H15.out _ HBS.out) rfl (by kernel_rfl) (by kernel_rfl) (by kernel_rfl) (by kernel_rfl) rfl ?_ (by first | exact fun _ _ _ h => h | exact fun _ _ _ h => hQ2 _ _ _ _ _ h) ?_
        rotate_left
        · intro W hSW
          simp only [glA, glB, glC]
          (try dsimp only at hSW)
          go_simp
          with_reducible rfl
        (try simp only [glA, glB, glC, Act.put, glD, glE, glF])
        refine wpAnyJ_take 3 (v := ?_) (by first | exact hF | exact wideFn) (H15.out _ HBS.out) rfl (by kernel_rfl) (by kernel_rfl) (by kernel_rfl) (by kernel_rfl) rfl ?_ (by first | exact fun _ _ _ h => h | exact fun _ _ _ h => hQ2 _ _ _ _ _ h) ?_
        rotate_left
        · intro W hSW
          simp only [glA, glB, glC]
          (try dsimp only at hSW)
          go_simp
          with_reducible rfl
        (try simp only [glA, glB, glC, Act.put, glD, glE, glF])
        refine wpAnyJ_take 4 (v := ?_) (by first | exact hF | exact wideFn) (H15.out _ HBS.out) rfl (by kernel_rfl) (by kernel_rfl) (by kernel_rfl) (by kernel_rfl) rfl ?_ (by first | exact fun _ _ _ h => h | exact fun _ _ _ h => hQ2 _ _ _ _ _ h) ?_
        rotate_left
        · intro W hSW
          simp only [glA, glB, glC]
          (try dsimp only at hSW)
          go_simp
          with_reducible rfl
        (try simp only [glA, glB, glC, Act.put, glD, glE, glF])
        refine wpAnyJ_take 5 (v := ?_) (by first | exact hF | exact wideFn) (H15.out _ HBS.out) rfl (by kernel_rfl) (by kernel_rfl) (by kernel_rfl) (by kernel_rfl) rfl ?_ (by first | exact fun _ _ _ h => h | exact fun _ _ _ h => hQ2 _ _ _ _ _ h) ?_
        rotate_left
        · intro W hSW
          simp only [glA, glB, glC]
          (try dsimp only at hSW)
          go_simp
          with_reducible rfl
        (try simp only [glA, glB, glC, Act.put, glD, glE, glF])
        refine wpAnyJ_take 6 (v := ?_) (by first | exact hF | exact wideFn) (H15.out _ HBS.out) rfl (by kernel_rfl) (by kernel_rfl) (by kernel_rfl) (by kernel_rfl) rfl ?_ (by first | exact fun _ _ _ h => h | exact fun _ _ _ h => hQ2 _ _ _ _ _ h) ?_
        rotate_left
        · intro W hSW
          simp only [glA, glB, glC]
          (try dsimp only at hSW)
          go_simp
          with_reducible rfl
        (try simp only [glA, glB, glC, Act.put, glD, glE, glF])
        refine wpAnyJ_take 7 (v := ?_) (by first | exact hF | exact wideFn) (H15.out _ HBS.out) rfl (by kernel_rfl) (by kernel_rfl) (by kernel_rfl) (by kernel_rfl) rfl ?_ (by first | exact fun _ _ _ h => h | exact fun _ _ _ h => hQ2 _ _ _ _ _ h) ?_
        rotate_left
        · intro W hSW
          simp only [glA, glB, glC]
          (try dsimp only at hSW)
          go_simp
          with_reducible rfl
        (try simp only [glA, glB, glC, Act.put, glD, glE, glF])
        refine wpAnyJ_take 8 (v := ?_) (by first | exact hF | exact wideFn) (H15.out _ HBS.out) rfl (by kernel_rfl) (by kernel_rfl) (by kernel_rfl) (by kernel_rfl) rfl ?_ (by first | exact fun _ _ _ h => h | exact fun _ _ _ h => hQ2 _ _ _ _ _ h) ?_
        rotate_left
        · intro W hSW
          simp only [glA, glB, glC]
          (try dsimp only at hSW)
          go_simp
          with_reducible rfl
        (try simp only [glA, glB, glC, Act.put, glD, glE, glF])
        refine wpAnyJ_take 9 (v := ?_) (by first | exact hF | exact wideFn) (H15.out _ HBS.out) rfl (by kernel_rfl) (by kernel_rfl) (by kernel_rfl) (by kernel_rfl) rfl ?_ (by first | exact fun _ _ _ h => h | exact fun _ _ _ h => hQ2 _ _ _ _ _ h) ?_
        rotate_left
        · intro W hSW
          simp only [glA, glB, glC]
          (try dsimp only at hSW)
          go_simp
          with_reducible rfl
        (try simp only [glA, glB, glC, Act.put, glD, glE, glF])
        refine wpAnyJ_take 10 (v := ?_) (by first | exact hF | exact wideFn) (H15.out _ HBS.out) rfl (by kernel_rfl) (by kernel_rfl) (by kernel_rfl) (by kernel_rfl) rfl ?_ (by first | exact fun _ _ _ h => h | exact fun _ _ _ h => hQ2 _ _ _ _ _ h) ?_
        rotate_left
        · intro W hSW
          simp only [glA, glB, glC]
          (try dsimp only at hSW)
          go_simp
          with_reducible rfl
        (try simp only [glA, glB, glC, Act.put, glD, glE, glF])
        refine wpAnyJ_take 11 (v := ?_) (by first | exact hF | exact wideFn) (H15.out _ HBS.out) rfl (by kernel_rfl) (by kernel_rfl) (by kernel_rfl) (by kernel_rfl) rfl ?_ (by first | exact fun _ _ _ h => h | exact fun _ _ _ h => hQ2 _ _ _ _ _ h) ?_
        rotate_left
        · intro W hSW
          simp only [glA, glB, glC]
          (try dsimp only at hSW)
          go_simp
          with_reducible rfl
        (try simp only [glA, glB, glC, Act.put, glD, glE, glF])
        refine wpAnyJ_take 12 (v := ?_) (by first | exact hF | exact wideFn) (H15.out _ HBS.out) rfl (by kernel_rfl) (by kernel_rfl) (by kernel_rfl) (by kernel_rfl) rfl ?_ (by first | exact fun _ _ _ h => h | exact fun _ _ _ h => hQ2 _ _ _ _ _ h) ?_
        rotate_left
        · intro W hSW
          simp only [glA, glB, glC]
          (try dsimp only at hSW)
          go_simp
          with_reducible rfl
        (try simp only [glA, glB, glC, Act.put, glD, glE, glF])
        refine wpAnyJ_take 13 (v := ?_) (by first | exact hF | exact wideFn) (H15.out _ HBS.out) rfl (by kernel_rfl) (by kernel_rfl) (by kernel_rfl) (by kernel_rfl) rfl ?_ (by first | exact fun _ _ _ h => h | exact fun _ _ _ h => hQ2 _ _ _ _ _ h) ?_
        rotate_left
        · intro W hSW
          simp only [glA, glB, glC]
          (try dsimp only at hSW)
          go_simp
          with_reducible rfl
        (try simp only [glA, glB, glC, Act.put, glD, glE, glF])
        refine wpAnyJ_take 14 (v := ?_) (by first | exact hF | exact wideFn) (H15.out _ HBS.out) rfl (by kernel_rfl) (by kernel_rfl) (by kernel_rfl) (by kernel_rfl) rfl ?_ (by first | exact fun _ _ _ h => h | exact fun _ _ _ h => hQ2 _ _ _ _ _ h) ?_
        rotate_left
        · intro W hSW
          simp only [glA, glB, glC]
          (try dsimp only at hSW)
          go_simp
          with_reducible rfl
        (try simp only [glA, glB, glC, Act.put, glD, glE, glF])
        refine wpAnyJ_take 15 (v := ?_) (by first | exact hF | exact wideFn) (H15.out _ HBS.out) rfl (by kernel_rfl) (by kernel_rfl) (by kernel_rfl) (by kernel_rfl) rfl ?_ (by first | exact fun _ _ _ h => h | exact fun _ _ _ h => hQ2 _ _ _ _ _ h) ?_
        rotate_left
        · intro W hSW
          simp only [glA, glB, glC]
          (try dsimp only at hSW)
          go_simp
          with_reducible rfl
        (try simp only [glA, glB, glC, Act.put, glD, glE, glF])
        refine wpAnyJ_take 16 (v := ?_) (by first | exact hF | exact wideFn) (H15.out _ HBS.out) rfl (by kernel_rfl) (by kernel_rfl) (by kernel_rfl) (by kernel_rfl) rfl ?_ (by first | exact fun _ _ _ h => h | exact fun _ _ _ h => hQ2 _ _ _ _ _ h) ?_
        rotate_left
        · intro W hSW
          simp only [glA, glB, glC]
          (try dsimp only at hSW)
          go_simp
          with_reducible rfl
        (try simp only [glA, glB, glC, Act.put, glD, glE, glF])
        refine wpAnyJ_take 17 (v := ?_) (by first | exact hF | exact wideFn) (H15.out _ HBS.out) rfl (by kernel_rfl) (by kernel_rfl) (by kernel_rfl) (by kernel_rfl) rfl ?_ (by first | exact fun _ _ _ h => h | exact fun _ _ _ h => hQ2 _ _ _ _ _ h) ?_
        rotate_left
        · intro W hSW
          simp only [glA, glB, glC]
          (try dsimp only at hSW)
          go_simp
          with_reducible rfl
        (try simp only [glA, glB, glC, Act.put, glD, glE, glF])
        refine wpAnyJ_take 18 (v := ?_) (by first | exact hF | exact wideFn) (H15.out _ HBS.out) rfl (by kernel_rfl) (by kernel_rfl) (by kernel_rfl) (by kernel_rfl) rfl ?_ (by first | exact fun _ _ _ h => h | exact fun _ _ _ h => hQ2 _ _ _ _ _ h) ?_
        rotate_left
        · intro W hSW
          simp only [glA, glB, glC]
          (try dsimp only at hSW)
          go_simp
          with_reducible rfl
        (try simp only [glA, glB, glC, Act.put, glD, glE, glF])
        refine wpAnyJ_take 19 (v := ?_) (by first | exact hF | exact wideFn) (H15.out _ HBS.out) rfl (by kernel_rfl) (by kernel_rfl) (by kernel_rfl) (by kernel_rfl) rfl ?_ (by first | exact fun _ _ _ h => h | exact fun _ _ _ h => hQ2 _ _ _ _ _ h) ?_
        rotate_left
        · intro W hSW
          simp only [glA, glB, glC]
          (try dsimp only at hSW)
          go_simp
          with_reducible rfl
        (try simp only [glA, glB, glC, Act.put, glD, glE, glF])
        refine wpAnyJ_take 20 (v := ?_) (by first | exact hF | exact wideFn) (H15.out _ HBS.out) rfl (by kernel_rfl) (by kernel_rfl) (by kernel_rfl) (by kernel_rfl) rfl ?_ (by first | exact fun _ _ _ h => h | exact fun _ _ _ h => hQ2 _ _ _ _ _ h) ?_
        rotate_left
        · intro W hSW
          simp only [glA, glB, glC]
          (try dsimp only at hSW)
          go_simp
          with_reducible rfl
        (try simp only [glA, glB, glC, Act.put, glD, glE, glF])
        refine wpAnyJ_take 21 (v := ?_) (by first | exact hF | exact wideFn) (H15.out _ HBS.out) rfl (by kernel_rfl) (by kernel_rfl) (by kernel_rfl) (by kernel_rfl) rfl ?_ (by first | exact fun _ _ _ h => h | exact fun _ _ _ h => hQ2 _ _ _ _ _ h) ?_
        rotate_left
        · intro W hSW
          simp only [glA, glB, glC]
          (try dsimp only at hSW)
          go_simp
          with_reducible rfl
        (try simp only [glA, glB, glC, Act.put, glD, glE, glF])
        refine wpAnyJ_skip 22 (by first | exact hF | exact wideFn) (H15.out _ HBS.out) rfl (by kernel_rfl) (by kernel_rfl) (by kernel_rfl) (by kernel_rfl) rfl (by first | exact fun _ _ _ h => h | exact fun _ _ _ h => hQ2 _ _ _ _ _ h) ?_
        (try simp only [glA, glB, glC, Act.put, glD, glE, glF])
        refine wpAnyJ_skip 23 (by first | exact hF | exact wideFn) (H15.out _ HBS.out) rfl (by kernel_rfl) (by kernel_rfl) (by kernel_rfl) (by kernel_rfl) rfl (by first | exact fun _ _ _ h => h | exact fun _ _ _ h => hQ2 _ _ _ _ _ h) ?_
        (try simp only [glA, glB, glC, Act.put, glD, glE, glF])
        refine wpAnyJ_skip 24 (by first | exact hF | exact wideFn) (H15.out _ HBS.out) rfl (by kernel_rfl) (by kernel_rfl) (by kernel_rfl) (by kernel_rfl) rfl (by first | exact fun _ _ _ h => h | exact fun _ _ _ h => hQ2 _ _ _ _ _ h) ?_
        (try simp only [glA, glB, glC, Act.put, glD, glE, glF])
        refine wpAnyJ_skip 25 (by first | exact hF | exact wideFn) (H15.out _ HBS.out) rfl (by kernel_rfl) (by kernel_rfl) (by kernel_rfl) (by kernel_rfl) rfl (by first | exact fun _ _ _ h => h | exact fun _ _ _ h => hQ2 _ _ _ _ _ h) ?_
        (try simp only [glA, glB, glC, Act.put, glD, glE, glF])
        refine wpAnyJ_skip 26 (by first | exact hF | exact wideFn) (H15.out _ HBS.out) rfl (by kernel_rfl) (by kernel_rfl) (by kernel_rfl) (by kernel_rfl) rfl (by first | exact fun _ _ _ h => h | exact fun _ _ _ h => hQ2 _ _ _ _ _ h) ?_
        (try simp only [glA, glB, glC, Act.put, glD, glE, glF])
        refine wpAnyJ_skip 27 (by first | exact hF | exact wideFn) (H15.out _ HBS.out) rfl (by kernel_rfl) (by kernel_rfl) (by kernel_rfl) (by kernel_rfl) rfl (by first | exact fun _ _ _ h => h | exact fun _ _ _ h => hQ2 _ _ _ _ _ h) ?_
        (try simp only [glA, glB, glC, Act.put, glD, glE, glF])
        refine wpAnyJ_skip 28 (by first | exact hF | exact wideFn) (H15.out _ HBS.out) rfl (by kernel_rfl) (by kernel_rfl) (by kernel_rfl) (by kernel_rfl) rfl (by first | exact fun _ _ _ h => h | exact fun _ _ _ h => hQ2 _ _ _ _ _ h) ?_
        (try simp only [glA, glB, glC, Act.put, glD, glE, glF])
        refine wpAnyJ_skip 29 (by first | exact hF | exact wideFn) (H15.out _ HBS.out) rfl (by kernel_rfl) (by kernel_rfl) (by kernel_rfl) (by kernel_rfl) rfl (by first | exact fun _ _ _ h => h | exact fun _ _ _ h => hQ2 _ _ _ _ _ h) ?_
        (try simp only [glA, glB, glC, Act.put, glD, glE, glF])
        refine wpAnyJ_skip 30 (by first | exact hF | exact wideFn) (H15.out _ HBS.out) rfl (by kernel_rfl) (by kernel_rfl) (by kernel_rfl) (by kernel_rfl) rfl (by first | exact fun _ _ _ h => h | exact fun _ _ _ h => hQ2 _ _ _ _ _ h) ?_
        (try simp only [glA, glB, glC, Act.put, glD, glE, glF])
        refine wpAnyJ_skip 31 (by first | exact hF | exact wideFn) (H15.out _ HBS.out) rfl (by kernel_rfl) (by kernel_rfl) (by kernel_rfl) (by kernel_rfl) rfl (by first | exact fun _ _ _ h => h | exact fun _ _ _ h => hQ2 _ _ _ _ _ h) ?_
        (try simp only [glA, glB, glC, Act.put, glD, glE, glF])
        refine wpAnyJ_skip 32 (by first | exact hF | exact wideFn) (H15.out _ HBS.out) rfl (by kernel_rfl) (by kernel_rfl) (by kernel_rfl) (by kernel_rfl) rfl (by first | exact fun _ _ _ h => h | exact fun _ _ _ h => hQ2 _ _ _ _ _ h) ?_
        (try simp only [glA, glB, glC, Act.put, glD, glE, glF])
        refine wpAnyJ_skip 33 (by first | exact hF | exact wideFn) (H15.out _ HBS.out) rfl (by kernel_rfl) (by kernel_rfl) (by kernel_rfl) (by kernel_rfl) rfl (by first | exact fun _ _ _ h => h | exact fun _ _ _ h => hQ2 _ _ _ _ _ h) ?_
        (try simp only [glA, glB, glC, Act.put, glD, glE, glF])
        refine wpAnyJ_take 34 (v := ?_) (by first | exact hF | exact wideFn) (H15.out _ HBS.out) rfl (by kernel_rfl) (by kernel_rfl) (by kernel_rfl) (by kernel_rfl) rfl ?_ (by first | exact fun _ _ _ h => h | exact fun _ _ _ h => hQ2 _ _ _ _ _ h) ?_
        rotate_left
        · intro W hSW
          simp only [glA, glB, glC]
          (try dsimp only at hSW)
          go_simp
          with_reducible rfl
        (try simp only [glA, glB, glC, Act.put, glD, glE, glF])
        refine wpAnyJ_take 35 (v := ?_) (by first | exact hF | exact wideFn) (H15.out _ HBS.out) rfl (by kernel_rfl) (by kernel_rfl) (by kernel_rfl) (by kernel_rfl) rfl ?_ (by first | exact fun _ _ _ h => h | exact fun _ _ _ h => hQ2 _ _ _ _ _ h) ?_
        rotate_left
        · intro W hSW
          simp only [glA, glB, glC]
          (try dsimp only at hSW)
          go_simp
          with_reducible rfl
        (try simp only [glA, glB, glC, Act.put, glD, glE, glF])
        refine wpAnyJ_done (by kernel_rfl) ?_
        clear x4 x5 x6
        clear H15 HBS f3 x2 x3
        go_wp2_with fail
        go_loopw [11] (fun i wf => ∃ t : Nat, t ≤ nn ∧ i = .int .i64 t ∧ Hid (Below wc.heap.size wc wf)) (fun i _ => nn - (intOf i).toNat)
        case atStart => exact ⟨0, Nat.zero_le _, rfl, hide (Below.refl _ _)⟩
        case round =>
          obtain ⟨t, ht, rfl, HBF⟩ := hrel
          have hst2 : IntKind.i64.wrap ((t : Int) + 1) = ((t + 1 : Nat) : Int) := by rw [IntWalk.i64_in _ (by omega)]; omega
          have y1 : wr.cell? ⟨E, 1, none⟩ = some (.slice na nn nc) := (KE.out.ext HBF.out).cell 1
          by_cases htl : t < nn
          · have htl' : (t : Int) < (nn : Int) := by omega
            have htn : t < nd.length := by rw [HNN.out]; exact htl
            obtain ⟨xb, xo, hxa, hxl, hxc⟩ := VR1.at_ (liE HLN.out HBF.out) htn
            have hx := HF.out.1 (nd.getD t 0) (by rw [List.getD_eq_getElem?_getD, List.getElem?_eq_getElem htn]; exact List.getElem_mem htn)
            obtain ⟨x, hxx⟩ : ∃ z, nd.getD t 0 = z := ⟨_, rfl⟩
            rw [hxx] at hxc hx
            have HH := hide (hasl_any B bc (LBk r l k) x wr (lb_len r l k) (liE HLR.out HBF.out))
            rw [hx] at HH
            rw [hxa] at y1
            clear hxl hx hxx hxa
            go_wp2_with fail
            refine HH.out.mono ?_
            rintro e _ ⟨rfl, rfl⟩
            go_wp2_with fail
            go_roundw
            case rel => exact ⟨t + 1, by omega, by go_num, HBF⟩
            case measure => simp [intOf]; omega
          · obtain rfl : nn = t := by omega
            have hnl : ¬ (nn : Int) < (nn : Int) := by omega
            go_wp2_with fail
            clear y1 hst2
            replace HSR := hide (HSR.out.ext HBF.out)
            replace HLR := hide (liE HLR.out HBF.out)
            (try replace KE := hide (KE.out.ext HBF.out))
            (try replace HLN := hide (liE HLN.out HBF.out))
            (try replace HL3 := hide (liE HL3.out HBF.out))
            replace HB := hide (HB.out.trans ((HBF.out).mono HB.out.size))
            clear HBF ht htl hnl HNN HLN
            go_loopw [12] (fun i wf => ∃ j : Nat, j ≤ k ∧ i = .int .i64 j ∧ Hid (Below wr.heap.size wr wf)) (fun i _ => k - (intOf i).toNat)
            case atStart => exact ⟨0, Nat.zero_le _, rfl, hide (Below.refl _ _)⟩
            case round =>
              obtain ⟨j, hj, rfl, HBF⟩ := hrel
              have hst2 : IntKind.i64.wrap ((j : Int) + 1) = ((j + 1 : Nat) : Int) := by rw [IntWalk.i64_in _ (by omega)]; omega
              by_cases hjl : j < k
              · have hjl' : (j : Int) < (k : Int) := by omega
                have hjn : j < nl := by omega
                have hjn' : (j : Int) < (nl : Int) := by omega
                have hne := HF.out.2.1 j hjl
                obtain ⟨z, hz⟩ : ∃ z, (l.getD j (0, 0)).2 = z := ⟨_, rfl⟩
                rw [hz] at hne
                have hne2 : (z == (a : Int)) = false := by simpa using hne
                have H25 : Hid (∀ W, Below w5.heap.size w5 W → (W.cell? ⟨b, off + j * 2 + 1, none⟩ = some (.int .i64 z) ∧ W.cell? ⟨b, off + k * 2 + 1, none⟩ = some (.int .i64 (a : Nat)))) := hide fun W h => by
                  have q := (HCL.out W h j hjn).2
                  rw [hz] at q
                  exact ⟨q, (H14.out W h).1.2.1⟩
                clear hz
                go_upto_region 25 with fail
                replace HBF := hide (HBF.out.trans ((Below.refl wr.heap.size wr).drew.mono HBF.out.size))
                have HB5 := hide (HB.out.trans (HBF.out.mono HB.out.size))
                refine wp_region_J (fun W : World => (W.cell? ⟨b, off + j * 2 + 1, none⟩ = some (.int .i64 z) ∧ W.cell? ⟨b, off + k * 2 + 1, none⟩ = some (.int .i64 (a : Nat)))) (by kernel_rfl) ?_
                generalize wr.drew = wd at HBF HB5 ⊢
                refine wpAnyJ_take 0 (v := ?_) (by first | exact hF | exact wideFn) (H25.out _ HB5.out) rfl (by kernel_rfl) (by kernel_rfl) (by kernel_rfl) (by kernel_rfl) rfl ?_ (by first | exact fun _ _ _ h => h | exact fun _ _ _ h => hQ2 _ _ _ _ _ h) ?_
                rotate_left
                · intro W hSW
                  simp only [glA, glB, glC]
                  (try dsimp only at hSW)
                  go_simp
                  with_reducible rfl
                (try simp only [glA, glB, glC, Act.put, glD, glE, glF])
                refine wpAnyJ_take 1 (v := ?_) (by first | exact hF | exact wideFn) (H25.out _ HB5.out) rfl (by kernel_rfl) (by kernel_rfl) (by kernel_rfl) (by kernel_rfl) rfl ?_ (by first | exact fun _ _ _ h => h | exact fun _ _ _ h => hQ2 _ _ _ _ _ h) ?_
                rotate_left
                · intro W hSW
                  simp only [glA, glB, glC]
                  (try dsimp only at hSW)
                  go_simp
                  with_reducible rfl
                (try simp only [glA, glB, glC, Act.put, glD, glE, glF])
                refine wpAnyJ_take 2 (v := ?_) (by first | exact hF | exact wideFn) (H25.out _ HB5.out) rfl (by kernel_rfl) (by kernel_rfl) (by kernel_rfl) (by kernel_rfl) rfl ?_ (by first | exact fun _ _ _ h => h | exact fun _ _ _ h => hQ2 _ _ _ _ _ h) ?_
                rotate_left
                · intro W hSW
                  simp only [glA, glB, glC]
                  (try dsimp only at hSW)
                  go_simp
                  with_reducible rfl
                (try simp only [glA, glB, glC, Act.put, glD, glE, glF])
                refine wpAnyJ_take 3 (v := ?_) (by first | exact hF | exact wideFn) (H25.out _ HB5.out) rfl (by kernel_rfl) (by kernel_rfl) (by kernel_rfl) (by kernel_rfl) rfl ?_ (by first | exact fun _ _ _ h => h | exact fun _ _ _ h => hQ2 _ _ _ _ _ h) ?_
                rotate_left
                · intro W hSW
                  simp only [glA, glB, glC]
                  (try dsimp only at hSW)
                  go_simp
                  with_reducible rfl
                (try simp only [glA, glB, glC, Act.put, glD, glE, glF])
                refine wpAnyJ_take 4 (v := ?_) (by first | exact hF | exact wideFn) (H25.out _ HB5.out) rfl (by kernel_rfl) (by kernel_rfl) (by kernel_rfl) (by kernel_rfl) rfl ?_ (by first | exact fun _ _ _ h => h | exact fun _ _ _ h => hQ2 _ _ _ _ _ h) ?_
                rotate_left
                · intro W hSW
                  simp only [glA, glB, glC]
                  (try dsimp only at hSW)
                  go_simp
                  with_reducible rfl
                (try simp only [glA, glB, glC, Act.put, glD, glE, glF])
                refine wpAnyJ_take 5 (v := ?_) (by first | exact hF | exact wideFn) (H25.out _ HB5.out) rfl (by kernel_rfl) (by kernel_rfl) (by kernel_rfl) (by kernel_rfl) rfl ?_ (by first | exact fun _ _ _ h => h | exact fun _ _ _ h => hQ2 _ _ _ _ _ h) ?_
                rotate_left
                · intro W hSW
                  simp only [glA, glB, glC]
                  (try dsimp only at hSW)
                  go_simp
                  with_reducible rfl
                (try simp only [glA, glB, glC, Act.put, glD, glE, glF])
                refine wpAnyJ_take 6 (v := ?_) (by first | exact hF | exact wideFn) (H25.out _ HB5.out) rfl (by kernel_rfl) (by kernel_rfl) (by kernel_rfl) (by kernel_rfl) rfl ?_ (by first | exact fun _ _ _ h => h | exact fun _ _ _ h => hQ2 _ _ _ _ _ h) ?_
                rotate_left
                · intro W hSW
                  simp only [glA, glB, glC]
                  (try dsimp only at hSW)
                  go_simp
                  with_reducible rfl
                (try simp only [glA, glB, glC, Act.put, glD, glE, glF])
                refine wpAnyJ_take 7 (v := ?_) (by first | exact hF | exact wideFn) (H25.out _ HB5.out) rfl (by kernel_rfl) (by kernel_rfl) (by kernel_rfl) (by kernel_rfl) rfl ?_ (by first | exact fun _ _ _ h => h | exact fun _ _ _ h => hQ2 _ _ _ _ _ h) ?_
                rotate_left
                · intro W hSW
                  simp only [glA, glB, glC]
                  (try dsimp only at hSW)
                  go_simp
                  with_reducible rfl
                (try simp only [glA, glB, glC, Act.put, glD, glE, glF])
                refine wpAnyJ_take 8 (v := ?_) (by first | exact hF | exact wideFn) (H25.out _ HB5.out) rfl (by kernel_rfl) (by kernel_rfl) (by kernel_rfl) (by kernel_rfl) rfl ?_ (by first | exact fun _ _ _ h => h | exact fun _ _ _ h => hQ2 _ _ _ _ _ h) ?_
                rotate_left
                · intro W hSW
                  simp only [glA, glB, glC]
                  (try dsimp only at hSW)
                  go_simp
                  with_reducible rfl
                (try simp only [glA, glB, glC, Act.put, glD, glE, glF])
                refine wpAnyJ_take 9 (v := ?_) (by first | exact hF | exact wideFn) (H25.out _ HB5.out) rfl (by kernel_rfl) (by kernel_rfl) (by kernel_rfl) (by kernel_rfl) rfl ?_ (by first | exact fun _ _ _ h => h | exact fun _ _ _ h => hQ2 _ _ _ _ _ h) ?_
                rotate_left
                · intro W hSW
                  simp only [glA, glB, glC]
                  (try dsimp only at hSW)
                  go_simp
                  with_reducible rfl
                (try simp only [glA, glB, glC, Act.put, glD, glE, glF])
                refine wpAnyJ_take 10 (v := ?_) (by first | exact hF | exact wideFn) (H25.out _ HB5.out) rfl (by kernel_rfl) (by kernel_rfl) (by kernel_rfl) (by kernel_rfl) rfl ?_ (by first | exact fun _ _ _ h => h | exact fun _ _ _ h => hQ2 _ _ _ _ _ h) ?_
                rotate_left
                · intro W hSW
                  simp only [glA, glB, glC]
                  (try dsimp only at hSW)
                  go_simp
                  with_reducible rfl
                (try simp only [glA, glB, glC, Act.put, glD, glE, glF])
                refine wpAnyJ_done (by kernel_rfl) ?_
                go_wp2_with fail
                go_roundw
                case rel => exact ⟨j + 1, by omega, by go_num, HBF⟩
                case measure => simp [intOf]; omega
              · obtain rfl : k = j := by omega
                have hnl : ¬ (k : Int) < (k : Int) := by omega
                go_upto_region 27 with fail
                clear hst2
                replace HBF := hide (HBF.out.trans ((Below.refl wr.heap.size wr).drew.mono HBF.out.size))
                replace HSR := hide (HSR.out.ext HBF.out)
                replace HLR := hide (liE HLR.out HBF.out)
                (try replace KE := hide (KE.out.ext HBF.out))
                (try replace HLN := hide (liE HLN.out HBF.out))
                (try replace HL3 := hide (liE HL3.out HBF.out))
                replace HB := hide (HB.out.trans ((HBF.out).mono HB.out.size))
                clear HBF hj hjl hnl KE
                have HTK : (l.take (k + 1)).length = k + 1 := by rw [List.length_take, HNL.out]; omega
                have HDE := hide (fun c' W (h : LwS w W G d r (some ⟨b, off, none⟩) l) => deeds_any (some ⟨b, off, none⟩) c' (l.take (k + 1)) W (h.ds.take _) (by rw [HTK]; omega))
                have HSE2 := hide (HSE.out (k + 1))
                rw [HTK] at HDE HSE2
                clear HTK
                have hcap : k + 1 ≤ c := by omega
                have hcap' : (k : Int) + 1 ≤ (c : Int) := by omega
                have hk9 : (0 : Int) ≤ (k : Int) + 1 := by omega
                have hcap2 : ((k + 1 : Nat) : Int) ≤ (c : Int) := by omega
                refine wp_region_J (fun W : World => (W.cell? ⟨G, 0, none⟩ = some (.slice d.A n d.c) ∧ W.cell? ⟨G, 1, none⟩ = some (.int .i64 la) ∧ W.cell? ⟨G, 2, none⟩ = some (.int .i64 tl))) (by kernel_rfl) ?_
                generalize wr.drew = wd at HSR HLR HB ⊢
                refine wpAnyJ_take 0 (v := ?_) (by first | exact hF | exact wideFn) (HS17.out _ HSR.out) rfl (by kernel_rfl) (by kernel_rfl) (by kernel_rfl) (by kernel_rfl) rfl ?_ (by first | exact fun _ _ _ h => h | exact fun _ _ _ h => hQ2 _ _ _ _ _ h) ?_
                rotate_left
                · intro W hSW
                  simp only [glA, glB, glC]
                  (try dsimp only at hSW)
                  go_simp
                  with_reducible rfl
                (try simp only [glA, glB, glC, Act.put, glD, glE, glF])
                refine wpAnyJ_take 2 (v := ?_) (by first | exact hF | exact wideFn) (HS17.out _ HSR.out) rfl (by kernel_rfl) (by kernel_rfl) (by kernel_rfl) (by kernel_rfl) rfl ?_ (by first | exact fun _ _ _ h => h | exact fun _ _ _ h => hQ2 _ _ _ _ _ h) ?_
                rotate_left
                · intro W hSW
                  simp only [glA, glB, glC]
                  (try dsimp only at hSW)
                  go_simp
                  with_reducible rfl
                (try simp only [glA, glB, glC, Act.put, glD, glE, glF])
                refine wpAnyJ_take 3 (v := ?_) (by first | exact hF | exact wideFn) (HS17.out _ HSR.out) rfl (by kernel_rfl) (by kernel_rfl) (by kernel_rfl) (by kernel_rfl) rfl ?_ (by first | exact fun _ _ _ h => h | exact fun _ _ _ h => hQ2 _ _ _ _ _ h) ?_
                rotate_left
                · intro W hSW
                  simp only [glA, glB, glC]
                  (try dsimp only at hSW)
                  go_simp
                  with_reducible rfl
                (try simp only [glA, glB, glC, Act.put, glD, glE, glF])
                refine wpAnyJ_take 4 (v := ?_) (by first | exact hF | exact wideFn) (HS17.out _ HSR.out) rfl (by kernel_rfl) (by kernel_rfl) (by kernel_rfl) (by kernel_rfl) rfl ?_ (by first | exact fun _ _ _ h => h | exact fun _ _ _ h => hQ2 _ _ _ _ _ h) ?_
                rotate_left
                · intro W hSW
                  simp only [glA, glB, glC]
                  (try dsimp only at hSW)
                  go_simp
                  with_reducible rfl
                (try simp only [glA, glB, glC, Act.put, glD, glE, glF])
                refine wpAnyJ_take 5 (v := ?_) (by first | exact hF | exact wideFn) (HS17.out _ HSR.out) rfl (by kernel_rfl) (by kernel_rfl) (by kernel_rfl) (by kernel_rfl) rfl ?_ (by first | exact fun _ _ _ h => h | exact fun _ _ _ h => hQ2 _ _ _ _ _ h) ?_
                rotate_left
                · intro W hSW
                  simp only [glA, glB, glC]
                  (try dsimp only at hSW)
                  go_simp
                  with_reducible rfl
                (try simp only [glA, glB, glC, Act.put, glD, glE, glF])
                refine wpAnyJ_one 1 rfl (by kernel_rfl) (fun K hK => ?_)
                simp only [glA, glB, glC]
                go_simp
                refine ⟨trivial, rfl, ?_⟩
                refine (callsIn_wide.2 (HCP.out _ HSR.out.rt)).mono ?_
                rintro e w8 ⟨d8, rfl, hr8, hb8⟩
                have HS8 := hide (HSR.out.ext hb8)
                dsimp only
                refine hK.out _ _ (fun _ => HS17.out _ HS8.out) ?_
                clear hK K
                (try simp only [glA, glB, glC, Act.put, glD, glE, glF])
                replace HSR := hide (HSR.out.ext hb8)
                replace HLR := hide (liE HLR.out hb8)
                (try replace KE := hide (KE.out.ext hb8))
                (try replace HLN := hide (liE HLN.out hb8))
                (try replace HL3 := hide (liE HL3.out hb8))
                replace HB := hide (HB.out.trans ((hb8).mono HB.out.size))
                clear HS8
                refine wpAnyJ_one 6 rfl (by kernel_rfl) (fun K hK => ?_)
                simp only [glA, glB, glC]
                go_simp
                refine ⟨trivial, rfl, ?_⟩
                refine (callsIn_wide.2 (HDE.out c _ HSR.out)).mono ?_
                rintro e w9 ⟨A9, c9, rfl, ho9, hb9⟩
                have HS9 := hide (HSR.out.ext hb9)
                dsimp only
                refine hK.out _ _ (fun _ => HS17.out _ HS9.out) ?_
                clear hK K
                (try simp only [glA, glB, glC, Act.put, glD, glE, glF])
                have R9 := hide (hr8.ext hb9)
                have D9 := hide ho9.dsr.2
                replace HSR := hide (HSR.out.ext hb9)
                replace HLR := hide (liE HLR.out hb9)
                (try replace KE := hide (KE.out.ext hb9))
                (try replace HLN := hide (liE HLN.out hb9))
                (try replace HL3 := hide (liE HL3.out hb9))
                replace HB := hide (HB.out.trans ((hb9).mono HB.out.size))
                clear HS9 hr8 ho9
                refine wpAnyJ_one 7 rfl (by kernel_rfl) (fun K hK => ?_)
                simp only [glA, glB, glC]
                go_simp
                refine ⟨trivial, rfl, ?_⟩
                refine (callsIn_wide.2 (HSE2.out d8 A9 c9 _ R9.out D9.out (HT.out.ext HSR.out.lo))).mono ?_
                rintro e wa ⟨B2, bc2, rfl, hl2, hba⟩
                have HSa := hide (HSR.out.ext hba)
                dsimp only
                refine hK.out _ _ (fun _ => HS17.out _ HSa.out) ?_
                clear hK K
                (try simp only [glA, glB, glC, Act.put, glD, glE, glF])
                have HL3 := hide hl2
                replace HSR := hide (HSR.out.ext hba)
                replace HLR := hide (liE HLR.out hba)
                (try replace KE := hide (KE.out.ext hba))
                (try replace HLN := hide (liE HLN.out hba))
                (try replace HL3 := hide (liE HL3.out hba))
                replace HB := hide (HB.out.trans ((hba).mono HB.out.size))
                clear HSa hl2 hb8 hb9 R9 D9 HSE2 HDE hk9 hcap hcap' hcap2
                refine wpAnyJ_take 8 (v := ?_) (by first | exact hF | exact wideFn) (HS17.out _ HSR.out) rfl (by kernel_rfl) (by kernel_rfl) (by kernel_rfl) (by kernel_rfl) rfl ?_ (by first | exact fun _ _ _ h => h | exact fun _ _ _ h => hQ2 _ _ _ _ _ h) ?_
                rotate_left
                · intro W hSW
                  simp only [glA, glB, glC]
                  (try dsimp only at hSW)
                  go_simp
                  with_reducible rfl
                (try simp only [glA, glB, glC, Act.put, glD, glE, glF])
                refine wpAnyJ_take 9 (v := ?_) (by first | exact hF | exact wideFn) (HS17.out _ HSR.out) rfl (by kernel_rfl) (by kernel_rfl) (by kernel_rfl) (by kernel_rfl) rfl ?_ (by first | exact fun _ _ _ h => h | exact fun _ _ _ h => hQ2 _ _ _ _ _ h) ?_
                rotate_left
                · intro W hSW
                  simp only [glA, glB, glC]
                  (try dsimp only at hSW)
                  go_simp
                  with_reducible rfl
                (try simp only [glA, glB, glC, Act.put, glD, glE, glF])
                refine wpAnyJ_take 10 (v := ?_) (by first | exact hF | exact wideFn) (HS17.out _ HSR.out) rfl (by kernel_rfl) (by kernel_rfl) (by kernel_rfl) (by kernel_rfl) rfl ?_ (by first | exact fun _ _ _ h => h | exact fun _ _ _ h => hQ2 _ _ _ _ _ h) ?_
                rotate_left
                · intro W hSW
                  simp only [glA, glB, glC]
                  (try dsimp only at hSW)
                  go_simp
                  with_reducible rfl
                (try simp only [glA, glB, glC, Act.put, glD, glE, glF])
                refine wpAnyJ_take 11 (v := ?_) (by first | exact hF | exact wideFn) (HS17.out _ HSR.out) rfl (by kernel_rfl) (by kernel_rfl) (by kernel_rfl) (by kernel_rfl) rfl ?_ (by first | exact fun _ _ _ h => h | exact fun _ _ _ h => hQ2 _ _ _ _ _ h) ?_
                rotate_left
                · intro W hSW
                  simp only [glA, glB, glC]
                  (try dsimp only at hSW)
                  go_simp
                  with_reducible rfl
                (try simp only [glA, glB, glC, Act.put, glD, glE, glF])
                refine wpAnyJ_take 12 (v := ?_) (by first | exact hF | exact wideFn) (HS17.out _ HSR.out) rfl (by kernel_rfl) (by kernel_rfl) (by kernel_rfl) (by kernel_rfl) rfl ?_ (by first | exact fun _ _ _ h => h | exact fun _ _ _ h => hQ2 _ _ _ _ _ h) ?_
                rotate_left
                · intro W hSW
                  simp only [glA, glB, glC]
                  (try dsimp only at hSW)
                  go_simp
                  with_reducible rfl
                (try simp only [glA, glB, glC, Act.put, glD, glE, glF])
                refine wpAnyJ_done (by kernel_rfl) ?_
                have y1 := (H14.out _ HB.out).1.2.1
                have HH := hide (hasl_any B2 bc2 (LBk r l (k + 1)) a wa (lb_len r l (k + 1)) HL3.out)
                rw [HF.out.2.2.1] at HH
                go_wp2_with fail
                refine HH.out.mono ?_
                rintro e _ ⟨rfl, rfl⟩
                clear HH y1
                obtain ⟨nb, hnb⟩ : ∃ x, (LBk r l k).length = x := ⟨_, rfl⟩
                have HNB := hide hnb
                have hnb2 := lb_len r l k
                rw [hnb] at hnb2
                rw [hnb]
                clear hnb
                go_wp2_with fail
                go_loopw [15] (fun i wf => ∃ t : Nat, t ≤ nb ∧ i = .int .i64 t ∧ Hid (Below wa.heap.size wa wf)) (fun i _ => nb - (intOf i).toNat)
                case atStart => exact ⟨0, Nat.zero_le _, rfl, hide (Below.refl _ _)⟩
                case round =>
                  obtain ⟨t, ht, rfl, HBF⟩ := hrel
                  have hst2 : IntKind.i64.wrap ((t : Int) + 1) = ((t + 1 : Nat) : Int) := by rw [IntWalk.i64_in _ (by omega)]; omega
                  by_cases htl : t < nb
                  · have htl' : (t : Int) < (nb : Int) := by omega
                    have htn : t < (LBk r l k).length := by rw [HNB.out]; exact htl
                    obtain ⟨xb, xo, hxa, hxl, hxc⟩ := VR1.at_ (liE HLR.out HBF.out) htn
                    have hx := HF.out.2.2.2 ((LBk r l k).getD t 0) (by rw [List.getD_eq_getElem?_getD, List.getElem?_eq_getElem htn]; exact List.getElem_mem htn)
                    obtain ⟨x, hxx⟩ : ∃ z, (LBk r l k).getD t 0 = z := ⟨_, rfl⟩
                    rw [hxx] at hxc hx
                    have HH := hide (hasl_any B2 bc2 (LBk r l (k + 1)) x wr (lb_len r l (k + 1)) (liE HL3.out HBF.out))
                    rw [hx] at HH
                    rw [hxa]
                    clear hxl hx hxx hxa
                    go_wp2_with fail
                    refine HH.out.mono ?_
                    rintro e _ ⟨rfl, rfl⟩
                    go_wp2_with fail
                    go_roundw
                    case rel => exact ⟨t + 1, by omega, by go_num, HBF⟩
                    case measure => simp [intOf]; omega
                  · obtain rfl : nb = t := by omega
                    have hnl : ¬ (nb : Int) < (nb : Int) := by omega
                    go_wp2_with fail
                    replace HSR := hide (HSR.out.ext HBF.out)
                    replace HLR := hide (liE HLR.out HBF.out)
                    (try replace KE := hide (KE.out.ext HBF.out))
                    (try replace HLN := hide (liE HLN.out HBF.out))
                    (try replace HL3 := hide (liE HL3.out HBF.out))
                    replace HB := hide (HB.out.trans ((HBF.out).mono HB.out.size))
                    go_roundw
                    case rel => exact ⟨k + 1, B2, bc2, by omega, by go_num, rfl, HL3, HB⟩
                    case measure => simp [intOf]; omega
      · have x4 : (k : Int) > 0 := by omega
        obtain ⟨kp, hkp⟩ : ∃ kp, k = kp + 1 := ⟨k - 1, by omega⟩
        have x5 : IntKind.i64.wrap ((k : Int) - 1) = ((kp : Nat) : Int) := by rw [IntWalk.i64_in _ (by omega)]; omega
        have x6 : kp < nl := by omega
        have x7 : (kp : Int) < (nl : Int) := by omega
        have x8 : ¬ yd < yp := by have := f3 hk0; omega
        have H15b : Hid (∀ W, Below wS.heap.size wS W → ((W.cell? ⟨b, off + k * 2, none⟩ = some (.int .i64 yd) ∧ W.cell? ⟨b, off + kp * 2, none⟩ = some (.int .i64 yp)) ∧ W.cell? ⟨E, 4, none⟩ = some (.int .i64 fr) ∧ W.cell? ⟨E, 5, none⟩ = some (.int .i64 to_))) := hide fun W h => by
          have q := H15.out W h
          have q2 := q.1.2 hk0
          rw [show k - 1 = kp by omega] at q2
          exact ⟨⟨q.1.1, q2⟩, q.2⟩
        have x9 : (0 : Int) < (k : Int) := by omega
        clear hkp
        refine wp_region_J (fun W : World => ((W.cell? ⟨b, off + k * 2, none⟩ = some (.int .i64 yd) ∧ W.cell? ⟨b, off + kp * 2, none⟩ = some (.int .i64 yp)) ∧ W.cell? ⟨E, 4, none⟩ = some (.int .i64 fr) ∧ W.cell? ⟨E, 5, none⟩ = some (.int .i64 to_))) (by kernel_rfl) ?_
        generalize wS.drew = wc at HSR HLR HLN KE HB HBS ⊢
        refine wpAnyJ_take 0 (v := ?_) (by first | exact hF | exact wideFn) (H15b.out _ HBS.out) rfl (by kernel_rfl) (by kernel_rfl) (by kernel_rfl) (by kernel_rfl) rfl ?_ (by first | exact fun _ _ _ h => h | exact fun _ _ _ h => hQ2 _ _ _ _ _ h) ?_
        rotate_left
        · intro W hSW
          simp only [glA, glB, glC]
          (try dsimp only at hSW)
          go_simp
          with_reducible rfl
        (try simp only [glA, glB, glC, Act.put, glD, glE, glF])
        refine wpAnyJ_take 1 (v := ?_) (by first | exact hF | exact wideFn) (H15b.out _ HBS.out) rfl (by kernel_rfl) (by kernel_rfl) (by kernel_rfl) (by kernel_rfl) rfl ?_ (by first | exact fun _ _ _ h => h | exact fun _ _ _ h => hQ2 _ _ _ _ _ h) ?_
        rotate_left
        · intro W hSW
          simp only [glA, glB, glC]
          (try dsimp only at hSW)
          go_simp
          with_reducible rfl
        (try simp only [glA, glB, glC, Act.put, glD, glE, glF])
        refine wpAnyJ_take 2 (v := ?_) (by first | exact hF | exact wideFn) (H15b.out _ HBS.out) rfl (by kernel_rfl) (by kernel_rfl) (by kernel_rfl) (by kernel_rfl) rfl ?_ (by first | exact fun _ _ _ h => h | exact fun _ _ _ h => hQ2 _ _ _ _ _ h) ?_
        rotate_left
        · intro W hSW
          simp only [glA, glB, glC]
          (try dsimp only at hSW)
          go_simp
          with_reducible rfl
        (try simp only [glA, glB, glC, Act.put, glD, glE, glF])
        refine wpAnyJ_take 3 (v := ?_) (by first | exact hF | exact wideFn) (H15b.out _ HBS.out) rfl (by kernel_rfl) (by kernel_rfl) (by kernel_rfl) (by kernel_rfl) rfl ?_ (by first | exact fun _ _ _ h => h | exact fun _ _ _ h => hQ2 _ _ _ _ _ h) ?_
        rotate_left
        · intro W hSW
          simp only [glA, glB, glC]
          (try dsimp only at hSW)
          go_simp
          with_reducible rfl
        (try simp only [glA, glB, glC, Act.put, glD, glE, glF])
        refine wpAnyJ_take 4 (v := ?_) (by first | exact hF | exact wideFn) (H15b.out _ HBS.out) rfl (by kernel_rfl) (by kernel_rfl) (by kernel_rfl) (by kernel_rfl) rfl ?_ (by first | exact fun _ _ _ h => h | exact fun _ _ _ h => hQ2 _ _ _ _ _ h) ?_
        rotate_left
        · intro W hSW
          simp only [glA, glB, glC]
          (try dsimp only at hSW)
          go_simp
          with_reducible rfl
        (try simp only [glA, glB, glC, Act.put, glD, glE, glF])
        refine wpAnyJ_take 5 (v := ?_) (by first | exact hF | exact wideFn) (H15b.out _ HBS.out) rfl (by kernel_rfl) (by kernel_rfl) (by kernel_rfl) (by kernel_rfl) rfl ?_ (by first | exact fun _ _ _ h => h | exact fun _ _ _ h => hQ2 _ _ _ _ _ h) ?_
        rotate_left
        · intro W hSW
          simp only [glA, glB, glC]
          (try dsimp only at hSW)
          go_simp
          with_reducible rfl
        (try simp only [glA, glB, glC, Act.put, glD, glE, glF])
        refine wpAnyJ_take 6 (v := ?_) (by first | exact hF | exact wideFn) (H15b.out _ HBS.out) rfl (by kernel_rfl) (by kernel_rfl) (by kernel_rfl) (by kernel_rfl) rfl ?_ (by first | exact fun _ _ _ h => h | exact fun _ _ _ h => hQ2 _ _ _ _ _ h) ?_
        rotate_left
        · intro W hSW
          simp only [glA, glB, glC]
          (try dsimp only at hSW)
          go_simp
          with_reducible rfl
        (try simp only [glA, glB, glC, Act.put, glD, glE, glF])
        refine wpAnyJ_take 7 (v := ?_) (by first | exact hF | exact wideFn) (H15b.out _ HBS.out) rfl (by kernel_rfl) (by kernel_rfl) (by kernel_rfl) (by kernel_rfl) rfl ?_ (by first | exact fun _ _ _ h => h | exact fun _ _ _ h => hQ2 _ _ _ _ _ h) ?_
        rotate_left
        · intro W hSW
          simp only [glA, glB, glC]
          (try dsimp only at hSW)
          go_simp
          with_reducible rfl
        (try simp only [glA, glB, glC, Act.put, glD, glE, glF])
        refine wpAnyJ_take 8 (v := ?_) (by first | exact hF | exact wideFn) (H15b.out _ HBS.out) rfl (by kernel_rfl) (by kernel_rfl) (by kernel_rfl) (by kernel_rfl) rfl ?_ (by first | exact fun _ _ _ h => h | exact fun _ _ _ h => hQ2 _ _ _ _ _ h) ?_
        rotate_left
        · intro W hSW
          simp only [glA, glB, glC]
          (try dsimp only at hSW)
          go_simp
          with_reducible rfl
        (try simp only [glA, glB, glC, Act.put, glD, glE, glF])
        refine wpAnyJ_take 9 (v := ?_) (by first | exact hF | exact wideFn) (H15b.out _ HBS.out) rfl (by kernel_rfl) (by kernel_rfl) (by kernel_rfl) (by kernel_rfl) rfl ?_ (by first | exact fun _ _ _ h => h | exact fun _ _ _ h => hQ2 _ _ _ _ _ h) ?_
        rotate_left
        · intro W hSW
          simp only [glA, glB, glC]
          (try dsimp only at hSW)
          go_simp
          with_reducible rfl
        (try simp only [glA, glB, glC, Act.put, glD, glE, glF])
        refine wpAnyJ_take 10 (v := ?_) (by first | exact hF | exact wideFn) (H15b.out _ HBS.out) rfl (by kernel_rfl) (by kernel_rfl) (by kernel_rfl) (by kernel_rfl) rfl ?_ (by first | exact fun _ _ _ h => h | exact fun _ _ _ h => hQ2 _ _ _ _ _ h) ?_
        rotate_left
        · intro W hSW
          simp only [glA, glB, glC]
          (try dsimp only at hSW)
          go_simp
          with_reducible rfl
        (try simp only [glA, glB, glC, Act.put, glD, glE, glF])
        refine wpAnyJ_take 11 (v := ?_) (by first | exact hF | exact wideFn) (H15b.out _ HBS.out) rfl (by kernel_rfl) (by kernel_rfl) (by kernel_rfl) (by kernel_rfl) rfl ?_ (by first | exact fun _ _ _ h => h | exact fun _ _ _ h => hQ2 _ _ _ _ _ h) ?_
        rotate_left
        · intro W hSW
          simp only [glA, glB, glC]
          (try dsimp only at hSW)
          go_simp
          with_reducible rfl
        (try simp only [glA, glB, glC, Act.put, glD, glE, glF])
        refine wpAnyJ_take 12 (v := ?_) (by first | exact hF | exact wideFn) (H15b.out _ HBS.out) rfl (by kernel_rfl) (by kernel_rfl) (by kernel_rfl) (by kernel_rfl) rfl ?_ (by first | exact fun _ _ _ h => h | exact fun _ _ _ h => hQ2 _ _ _ _ _ h) ?_
        rotate_left
        · intro W hSW
          simp only [glA, glB, glC]
          (try dsimp only at hSW)
          go_simp
          with_reducible rfl
        (try simp only [glA, glB, glC, Act.put, glD, glE, glF])
        refine wpAnyJ_take 13 (v := ?_) (by first | exact hF | exact wideFn) (H15b.out _ HBS.out) rfl (by kernel_rfl) (by kernel_rfl) (by kernel_rfl) (by kernel_rfl) rfl ?_ (by first | exact fun _ _ _ h => h | exact fun _ _ _ h => hQ2 _ _ _ _ _ h) ?_
        rotate_left
        · intro W hSW
          simp only [glA, glB, glC]
          (try dsimp only at hSW)
          go_simp
          with_reducible rfl
        (try simp only [glA, glB, glC, Act.put, glD, glE, glF])
        refine wpAnyJ_take 14 (v := ?_) (by first | exact hF | exact wideFn) (H15b.out _ HBS.out) rfl (by kernel_rfl) (by kernel_rfl) (by kernel_rfl) (by kernel_rfl) rfl ?_ (by first | exact fun _ _ _ h => h | exact fun _ _ _ h => hQ2 _ _ _ _ _ h) ?_
        rotate_left
        · intro W hSW
          simp only [glA, glB, glC]
          (try dsimp only at hSW)
          go_simp
          with_reducible rfl
        (try simp only [glA, glB, glC, Act.put, glD, glE, glF])
        refine wpAnyJ_take 15 (v := ?_) (by first | exact hF | exact wideFn) (H15b.out _ HBS.out) rfl (by kernel_rfl) (by kernel_rfl) (by kernel_rfl) (by kernel_rfl) rfl ?_ (by first | exact fun _ _ _ h => h | exact fun _ _ _ h => hQ2 _ _ _ _ _ h) ?_
        rotate_left
        · intro W hSW
          simp only [glA, glB, glC]
          (try dsimp only at hSW)
          go_simp
          with_reducible rfl
        (try simp only [glA, glB, glC, Act.put, glD, glE, glF])
        refine wpAnyJ_take 16 (v := ?_) (by first | exact hF | exact wideFn) (H15b.out _ HBS.out) rfl (by kernel_rfl) (by kernel_rfl) (by kernel_rfl) (by kernel_rfl) rfl ?_ (by first | exact fun _ _ _ h => h | exact fun _ _ _ h => hQ2 _ _ _ _ _ h) ?_
        rotate_left
        · intro W hSW
          simp only [glA, glB, glC]
          (try dsimp only at hSW)
          go_simp
          with_reducible rfl
        (try simp only [glA, glB, glC, Act.put, glD, glE, glF])
        refine wpAnyJ_take 17 (v := ?_) (by first | exact hF | exact wideFn) (H15b.out _ HBS.out) rfl (by kernel_rfl) (by kernel_rfl) (by kernel_rfl) (by kernel_rfl) rfl ?_ (by first | exact fun _ _ _ h => h | exact fun _ _ _ h => hQ2 _ _ _ _ _ h) ?_
        rotate_left
        · intro W hSW
          simp only [glA, glB, glC]
          (try dsimp only at hSW)
          go_simp
          with_reducible rfl
        (try simp only [glA, glB, glC, Act.put, glD, glE, glF])
        refine wpAnyJ_take 18 (v := ?_) (by first | exact hF | exact wideFn) (H15b.out _ HBS.out) rfl (by kernel_rfl) (by kernel_rfl) (by kernel_rfl) (by kernel_rfl) rfl ?_ (by first | exact fun _ _ _ h => h | exact fun _ _ _ h => hQ2 _ _ _ _ _ h) ?_
        rotate_left
        · intro W hSW
          simp only [glA, glB, glC]
          (try dsimp only at hSW)
          go_simp
          with_reducible rfl
        (try simp only [glA, glB, glC, Act.put, glD, glE, glF])
        refine wpAnyJ_take 19 (v := ?_) (by first | exact hF | exact wideFn) (H15b.out _ HBS.out) rfl (by kernel_rfl) (by kernel_rfl) (by kernel_rfl) (by kernel_rfl) rfl ?_ (by first | exact fun _ _ _ h => h | exact fun _ _ _ h => hQ2 _ _ _ _ _ h) ?_
        rotate_left
        · intro W hSW
          simp only [glA, glB, glC]
          (try dsimp only at hSW)
          go_simp
          with_reducible rfl
        (try simp only [glA, glB, glC, Act.put, glD, glE, glF])
        refine wpAnyJ_take 20 (v := ?_) (by first | exact hF | exact wideFn) (H15b.out _ HBS.out) rfl (by kernel_rfl) (by kernel_rfl) (by kernel_rfl) (by kernel_rfl) rfl ?_ (by first | exact fun _ _ _ h => h | exact fun _ _ _ h => hQ2 _ _ _ _ _ h) ?_
        rotate_left
        · intro W hSW
          simp only [glA, glB, glC]
          (try dsimp only at hSW)
          go_simp
          with_reducible rfl
        (try simp only [glA, glB, glC, Act.put, glD, glE, glF])
        refine wpAnyJ_take 21 (v := ?_) (by first | exact hF | exact wideFn) (H15b.out _ HBS.out) rfl (by kernel_rfl) (by kernel_rfl) (by kernel_rfl) (by kernel_rfl) rfl ?_ (by first | exact fun _ _ _ h => h | exact fun _ _ _ h => hQ2 _ _ _ _ _ h) ?_
        rotate_left
        · intro W hSW
          simp only [glA, glB, glC]
          (try dsimp only at hSW)
          go_simp
          with_reducible rfl
        (try simp only [glA, glB, glC, Act.put, glD, glE, glF])
        refine wpAnyJ_take 22 (v := ?_) (by first | exact hF | exact wideFn) (H15b.out _ HBS.out) rfl (by kernel_rfl) (by kernel_rfl) (by kernel_rfl) (by kernel_rfl) rfl ?_ (by first | exact fun _ _ _ h => h | exact fun _ _ _ h => hQ2 _ _ _ _ _ h) ?_
        rotate_left
        · intro W hSW
          simp only [glA, glB, glC]
          (try dsimp only at hSW)
          go_simp
          with_reducible rfl
        (try simp only [glA, glB, glC, Act.put, glD, glE, glF])
        refine wpAnyJ_take 23 (v := ?_) (by first | exact hF | exact wideFn) (H15b.out _ HBS.out) rfl (by kernel_rfl) (by kernel_rfl) (by kernel_rfl) (by kernel_rfl) rfl ?_ (by first | exact fun _ _ _ h => h | exact fun _ _ _ h => hQ2 _ _ _ _ _ h) ?_
        rotate_left
        · intro W hSW
          simp only [glA, glB, glC]
          (try dsimp only at hSW)
          go_simp
          with_reducible rfl
        (try simp only [glA, glB, glC, Act.put, glD, glE, glF])
        refine wpAnyJ_take 24 (v := ?_) (by first | exact hF | exact wideFn) (H15b.out _ HBS.out) rfl (by kernel_rfl) (by kernel_rfl) (by kernel_rfl) (by kernel_rfl) rfl ?_ (by first | exact fun _ _ _ h => h | exact fun _ _ _ h => hQ2 _ _ _ _ _ h) ?_
        rotate_left
        · intro W hSW
          simp only [glA, glB, glC]
          (try dsimp only at hSW)
          go_simp
          with_reducible rfl
        (try simp only [glA, glB, glC, Act.put, glD, glE, glF])
        refine wpAnyJ_take 25 (v := ?_) (by first | exact hF | exact wideFn) (H15b.out _ HBS.out) rfl (by kernel_rfl) (by kernel_rfl) (by kernel_rfl) (by kernel_rfl) rfl ?_ (by first | exact fun _ _ _ h => h | exact fun _ _ _ h => hQ2 _ _ _ _ _ h) ?_
        rotate_left
        · intro W hSW
          simp only [glA, glB, glC]
          (try dsimp only at hSW)
          go_simp
          with_reducible rfl
        (try simp only [glA, glB, glC, Act.put, glD, glE, glF])
        refine wpAnyJ_take 26 (v := ?_) (by first | exact hF | exact wideFn) (H15b.out _ HBS.out) rfl (by kernel_rfl) (by kernel_rfl) (by kernel_rfl) (by kernel_rfl) rfl ?_ (by first | exact fun _ _ _ h => h | exact fun _ _ _ h => hQ2 _ _ _ _ _ h) ?_
        rotate_left
        · intro W hSW
          simp only [glA, glB, glC]
          (try dsimp only at hSW)
          go_simp
          with_reducible rfl
        (try simp only [glA, glB, glC, Act.put, glD, glE, glF])
        refine wpAnyJ_take 27 (v := ?_) (by first | exact hF | exact wideFn) (H15b.out _ HBS.out) rfl (by kernel_rfl) (by kernel_rfl) (by kernel_rfl) (by kernel_rfl) rfl ?_ (by first | exact fun _ _ _ h => h | exact fun _ _ _ h => hQ2 _ _ _ _ _ h) ?_
        rotate_left
        · intro W hSW
          simp only [glA, glB, glC]
          (try dsimp only at hSW)
          go_simp
          with_reducible rfl
        (try simp only [glA, glB, glC, Act.put, glD, glE, glF])
        refine wpAnyJ_take 28 (v := ?_) (by first | exact hF | exact wideFn) (H15b.out _ HBS.out) rfl (by kernel_rfl) (by kernel_rfl) (by kernel_rfl) (by kernel_rfl) rfl ?_ (by first | exact fun _ _ _ h => h | exact fun _ _ _ h => hQ2 _ _ _ _ _ h) ?_
        rotate_left
        · intro W hSW
          simp only [glA, glB, glC]
          (try dsimp only at hSW)
          go_simp
          with_reducible rfl
        (try simp only [glA, glB, glC, Act.put, glD, glE, glF])
        refine wpAnyJ_take 29 (v := ?_) (by first | exact hF | exact wideFn) (H15b.out _ HBS.out) rfl (by kernel_rfl) (by kernel_rfl) (by kernel_rfl) (by kernel_rfl) rfl ?_ (by first | exact fun _ _ _ h => h | exact fun _ _ _ h => hQ2 _ _ _ _ _ h) ?_
        rotate_left
        · intro W hSW
          simp only [glA, glB, glC]
          (try dsimp only at hSW)
          go_simp
          with_reducible rfl
        (try simp only [glA, glB, glC, Act.put, glD, glE, glF])
        refine wpAnyJ_take 30 (v := ?_) (by first | exact hF | exact wideFn) (H15b.out _ HBS.out) rfl (by kernel_rfl) (by kernel_rfl) (by kernel_rfl) (by kernel_rfl) rfl ?_ (by first | exact fun _ _ _ h => h | exact fun _ _ _ h => hQ2 _ _ _ _ _ h) ?_
        rotate_left
        · intro W hSW
          simp only [glA, glB, glC]
          (try dsimp only at hSW)
          go_simp
          with_reducible rfl
        (try simp only [glA, glB, glC, Act.put, glD, glE, glF])
        refine wpAnyJ_take 31 (v := ?_) (by first | exact hF | exact wideFn) (H15b.out _ HBS.out) rfl (by kernel_rfl) (by kernel_rfl) (by kernel_rfl) (by kernel_rfl) rfl ?_ (by first | exact fun _ _ _ h => h | exact fun _ _ _ h => hQ2 _ _ _ _ _ h) ?_
        rotate_left
        · intro W hSW
          simp only [glA, glB, glC]
          (try dsimp only at hSW)
          go_simp
          with_reducible rfl
        (try simp only [glA, glB, glC, Act.put, glD, glE, glF])
        refine wpAnyJ_take 32 (v := ?_) (by first | exact hF | exact wideFn) (H15b.out _ HBS.out) rfl (by kernel_rfl) (by kernel_rfl) (by kernel_rfl) (by kernel_rfl) rfl ?_ (by first | exact fun _ _ _ h => h | exact fun _ _ _ h => hQ2 _ _ _ _ _ h) ?_
        rotate_left
        · intro W hSW
          simp only [glA, glB, glC]
          (try dsimp only at hSW)
          go_simp
          with_reducible rfl
        (try simp only [glA, glB, glC, Act.put, glD, glE, glF])
        refine wpAnyJ_take 33 (v := ?_) (by first | exact hF | exact wideFn) (H15b.out _ HBS.out) rfl (by kernel_rfl) (by kernel_rfl) (by kernel_rfl) (by kernel_rfl) rfl ?_ (by first | exact fun _ _ _ h => h | exact fun _ _ _ h => hQ2 _ _ _ _ _ h) ?_
        rotate_left
        · intro W hSW
          simp only [glA, glB, glC]
          (try dsimp only at hSW)
          go_simp
          with_reducible rfl
        (try simp only [glA, glB, glC, Act.put, glD, glE, glF])
        refine wpAnyJ_take 34 (v := ?_) (by first | exact hF | exact wideFn) (H15b.out _ HBS.out) rfl (by kernel_rfl) (by kernel_rfl) (by kernel_rfl) (by kernel_rfl) rfl ?_ (by first | exact fun _ _ _ h => h | exact fun _ _ _ h => hQ2 _ _ _ _ _ h) ?_
        rotate_left
        · intro W hSW
          simp only [glA, glB, glC]
          (try dsimp only at hSW)
          go_simp
          with_reducible rfl
        (try simp only [glA, glB, glC, Act.put, glD, glE, glF])
        refine wpAnyJ_take 35 (v := ?_) (by first | exact hF | exact wideFn) (H15b.out _ HBS.out) rfl (by kernel_rfl) (by kernel_rfl) (by kernel_rfl) (by kernel_rfl) rfl ?_ (by first | exact fun _ _ _ h => h | exact fun _ _ _ h => hQ2 _ _ _ _ _ h) ?_
        rotate_left
        · intro W hSW
          simp only [glA, glB, glC]
          (try dsimp only at hSW)
          go_simp
          with_reducible rfl
        (try simp only [glA, glB, glC, Act.put, glD, glE, glF])
        refine wpAnyJ_done (by kernel_rfl) ?_
        clear x4 x5 x6 x7 x8 x9 hk0 H15b
        clear H15 HBS f3 x2 x3
        go_wp2_with fail
        go_loopw [11] (fun i wf => ∃ t : Nat, t ≤ nn ∧ i = .int .i64 t ∧ Hid (Below wc.heap.size wc wf)) (fun i _ => nn - (intOf i).toNat)
        case atStart => exact ⟨0, Nat.zero_le _, rfl, hide (Below.refl _ _)⟩
        case round =>
          obtain ⟨t, ht, rfl, HBF⟩ := hrel
          have hst2 : IntKind.i64.wrap ((t : Int) + 1) = ((t + 1 : Nat) : Int) := by rw [IntWalk.i64_in _ (by omega)]; omega
          have y1 : wr.cell? ⟨E, 1, none⟩ = some (.slice na nn nc) := (KE.out.ext HBF.out).cell 1
          by_cases htl : t < nn
          · have htl' : (t : Int) < (nn : Int) := by omega
            have htn : t < nd.length := by rw [HNN.out]; exact htl
            obtain ⟨xb, xo, hxa, hxl, hxc⟩ := VR1.at_ (liE HLN.out HBF.out) htn
            have hx := HF.out.1 (nd.getD t 0) (by rw [List.getD_eq_getElem?_getD, List.getElem?_eq_getElem htn]; exact List.getElem_mem htn)
            obtain ⟨x, hxx⟩ : ∃ z, nd.getD t 0 = z := ⟨_, rfl⟩
            rw [hxx] at hxc hx
            have HH := hide (hasl_any B bc (LBk r l k) x wr (lb_len r l k) (liE HLR.out HBF.out))
            rw [hx] at HH
            rw [hxa] at y1
            clear hxl hx hxx hxa
            go_wp2_with fail
            refine HH.out.mono ?_
            rintro e _ ⟨rfl, rfl⟩
            go_wp2_with fail
            go_roundw
            case rel => exact ⟨t + 1, by omega, by go_num, HBF⟩
            case measure => simp [intOf]; omega
          · obtain rfl : nn = t := by omega
            have hnl : ¬ (nn : Int) < (nn : Int) := by omega
            go_wp2_with fail
            clear y1 hst2
            replace HSR := hide (HSR.out.ext HBF.out)
            replace HLR := hide (liE HLR.out HBF.out)
            (try replace KE := hide (KE.out.ext HBF.out))
            (try replace HLN := hide (liE HLN.out HBF.out))
            (try replace HL3 := hide (liE HL3.out HBF.out))
            replace HB := hide (HB.out.trans ((HBF.out).mono HB.out.size))
            clear HBF ht htl hnl HNN HLN
            go_loopw [12] (fun i wf => ∃ j : Nat, j ≤ k ∧ i = .int .i64 j ∧ Hid (Below wr.heap.size wr wf)) (fun i _ => k - (intOf i).toNat)
            case atStart => exact ⟨0, Nat.zero_le _, rfl, hide (Below.refl _ _)⟩
            case round =>
              obtain ⟨j, hj, rfl, HBF⟩ := hrel
              have hst2 : IntKind.i64.wrap ((j : Int) + 1) = ((j + 1 : Nat) : Int) := by rw [IntWalk.i64_in _ (by omega)]; omega
              by_cases hjl : j < k
              · have hjl' : (j : Int) < (k : Int) := by omega
                have hjn : j < nl := by omega
                have hjn' : (j : Int) < (nl : Int) := by omega
                have hne := HF.out.2.1 j hjl
                obtain ⟨z, hz⟩ : ∃ z, (l.getD j (0, 0)).2 = z := ⟨_, rfl⟩
                rw [hz] at hne
                have hne2 : (z == (a : Int)) = false := by simpa using hne
                have H25 : Hid (∀ W, Below w5.heap.size w5 W → (W.cell? ⟨b, off + j * 2 + 1, none⟩ = some (.int .i64 z) ∧ W.cell? ⟨b, off + k * 2 + 1, none⟩ = some (.int .i64 (a : Nat)))) := hide fun W h => by
                  have q := (HCL.out W h j hjn).2
                  rw [hz] at q
                  exact ⟨q, (H14.out W h).1.2.1⟩
                clear hz
                go_upto_region 25 with fail
                replace HBF := hide (HBF.out.trans ((Below.refl wr.heap.size wr).drew.mono HBF.out.size))
                have HB5 := hide (HB.out.trans (HBF.out.mono HB.out.size))
                refine wp_region_J (fun W : World => (W.cell? ⟨b, off + j * 2 + 1, none⟩ = some (.int .i64 z) ∧ W.cell? ⟨b, off + k * 2 + 1, none⟩ = some (.int .i64 (a : Nat)))) (by kernel_rfl) ?_
                generalize wr.drew = wd at HBF HB5 ⊢
                refine wpAnyJ_take 0 (v := ?_) (by first | exact hF | exact wideFn) (H25.out _ HB5.out) rfl (by kernel_rfl) (by kernel_rfl) (by kernel_rfl) (by kernel_rfl) rfl ?_ (by first | exact fun _ _ _ h => h | exact fun _ _ _ h => hQ2 _ _ _ _ _ h) ?_
                rotate_left
                · intro W hSW
                  simp only [glA, glB, glC]
                  (try dsimp only at hSW)
                  go_simp
                  with_reducible rfl
                (try simp only [glA, glB, glC, Act.put, glD, glE, glF])
                refine wpAnyJ_take 1 (v := ?_) (by first | exact hF | exact wideFn) (H25.out _ HB5.out) rfl (by kernel_rfl) (by kernel_rfl) (by kernel_rfl) (by kernel_rfl) rfl ?_ (by first | exact fun _ _ _ h => h | exact fun _ _ _ h => hQ2 _ _ _ _ _ h) ?_
                rotate_left
                · intro W hSW
                  simp only [glA, glB, glC]
                  (try dsimp only at hSW)
                  go_simp
                  with_reducible rfl
                (try simp only [glA, glB, glC, Act.put, glD, glE, glF])
                refine wpAnyJ_take 2 (v := ?_) (by first | exact hF | exact wideFn) (H25.out _ HB5.out) rfl (by kernel_rfl) (by kernel_rfl) (by kernel_rfl) (by kernel_rfl) rfl ?_ (by first | exact fun _ _ _ h => h | exact fun _ _ _ h => hQ2 _ _ _ _ _ h) ?_
                rotate_left
                · intro W hSW
                  simp only [glA, glB, glC]
                  (try dsimp only at hSW)
                  go_simp
                  with_reducible rfl
                (try simp only [glA, glB, glC, Act.put, glD, glE, glF])
                refine wpAnyJ_take 3 (v := ?_) (by first | exact hF | exact wideFn) (H25.out _ HB5.out) rfl (by kernel_rfl) (by kernel_rfl) (by kernel_rfl) (by kernel_rfl) rfl ?_ (by first | exact fun _ _ _ h => h | exact fun _ _ _ h => hQ2 _ _ _ _ _ h) ?_
                rotate_left
                · intro W hSW
                  simp only [glA, glB, glC]
                  (try dsimp only at hSW)
                  go_simp
                  with_reducible rfl
                (try simp only [glA, glB, glC, Act.put, glD, glE, glF])
                refine wpAnyJ_take 4 (v := ?_) (by first | exact hF | exact wideFn) (H25.out _ HB5.out) rfl (by kernel_rfl) (by kernel_rfl) (by kernel_rfl) (by kernel_rfl) rfl ?_ (by first | exact fun _ _ _ h => h | exact fun _ _ _ h => hQ2 _ _ _ _ _ h) ?_
                rotate_left
                · intro W hSW
                  simp only [glA, glB, glC]
                  (try dsimp only at hSW)
                  go_simp
                  with_reducible rfl
                (try simp only [glA, glB, glC, Act.put, glD, glE, glF])
                refine wpAnyJ_take 5 (v := ?_) (by first | exact hF | exact wideFn) (H25.out _ HB5.out) rfl (by kernel_rfl) (by kernel_rfl) (by kernel_rfl) (by kernel_rfl) rfl ?_ (by first | exact fun _ _ _ h => h | exact fun _ _ _ h => hQ2 _ _ _ _ _ h) ?_
                rotate_left
                · intro W hSW
                  simp only [glA, glB, glC]
                  (try dsimp only at hSW)
                  go_simp
                  with_reducible rfl
                (try simp only [glA, glB, glC, Act.put, glD, glE, glF])
                refine wpAnyJ_take 6 (v := ?_) (by first | exact hF | exact wideFn) (H25.out _ HB5.out) rfl (by kernel_rfl) (by kernel_rfl) (by kernel_rfl) (by kernel_rfl) rfl ?_ (by first | exact fun _ _ _ h => h | exact fun _ _ _ h => hQ2 _ _ _ _ _ h) ?_
                rotate_left
                · intro W hSW
                  simp only [glA, glB, glC]
                  (try dsimp only at hSW)
                  go_simp
                  with_reducible rfl
                (try simp only [glA, glB, glC, Act.put, glD, glE, glF])
                refine wpAnyJ_take 7 (v := ?_) (by first | exact hF | exact wideFn) (H25.out _ HB5.out) rfl (by kernel_rfl) (by kernel_rfl) (by kernel_rfl) (by kernel_rfl) rfl ?_ (by first | exact fun _ _ _ h => h | exact fun _ _ _ h => hQ2 _ _ _ _ _ h) ?_
                rotate_left
                · intro W hSW
                  simp only [glA, glB, glC]
                  (try dsimp only at hSW)
                  go_simp
                  with_reducible rfl
                (try simp only [glA, glB, glC, Act.put, glD, glE, glF])
                refine wpAnyJ_take 8 (v := ?_) (by first | exact hF | exact wideFn) (H25.out _ HB5.out) rfl (by kernel_rfl) (by kernel_rfl) (by kernel_rfl) (by kernel_rfl) rfl ?_ (by first | exact fun _ _ _ h => h | exact fun _ _ _ h => hQ2 _ _ _ _ _ h) ?_
                rotate_left
                · intro W hSW
                  simp only [glA, glB, glC]
                  (try dsimp only at hSW)
                  go_simp
                  with_reducible rfl
                (try simp only [glA, glB, glC, Act.put, glD, glE, glF])
                refine wpAnyJ_take 9 (v := ?_) (by first | exact hF | exact wideFn) (H25.out _ HB5.out) rfl (by kernel_rfl) (by kernel_rfl) (by kernel_rfl) (by kernel_rfl) rfl ?_ (by first | exact fun _ _ _ h => h | exact fun _ _ _ h => hQ2 _ _ _ _ _ h) ?_
                rotate_left
                · intro W hSW
                  simp only [glA, glB, glC]
                  (try dsimp only at hSW)
                  go_simp
                  with_reducible rfl
                (try simp only [glA, glB, glC, Act.put, glD, glE, glF])
                refine wpAnyJ_take 10 (v := ?_) (by first | exact hF | exact wideFn) (H25.out _ HB5.out) rfl (by kernel_rfl) (by kernel_rfl) (by kernel_rfl) (by kernel_rfl) rfl ?_ (by first | exact fun _ _ _ h => h | exact fun _ _ _ h => hQ2 _ _ _ _ _ h) ?_
                rotate_left
                · intro W hSW
                  simp only [glA, glB, glC]
                  (try dsimp only at hSW)
                  go_simp
                  with_reducible rfl
                (try simp only [glA, glB, glC, Act.put, glD, glE, glF])
                refine wpAnyJ_done (by kernel_rfl) ?_
                go_wp2_with fail
                go_roundw
                case rel => exact ⟨j + 1, by omega, by go_num, HBF⟩
                case measure => simp [intOf]; omega
              · obtain rfl : k = j := by omega
                have hnl : ¬ (k : Int) < (k : Int) := by omega
                go_upto_region 27 with fail
                clear hst2
                replace HBF := hide (HBF.out.trans ((Below.refl wr.heap.size wr).drew.mono HBF.out.size))
                replace HSR := hide (HSR.out.ext HBF.out)
                replace HLR := hide (liE HLR.out HBF.out)
                (try replace KE := hide (KE.out.ext HBF.out))
                (try replace HLN := hide (liE HLN.out HBF.out))
                (try replace HL3 := hide (liE HL3.out HBF.out))
                replace HB := hide (HB.out.trans ((HBF.out).mono HB.out.size))
                clear HBF hj hjl hnl KE
                have HTK : (l.take (k + 1)).length = k + 1 := by rw [List.length_take, HNL.out]; omega
                have HDE := hide (fun c' W (h : LwS w W G d r (some ⟨b, off, none⟩) l) => deeds_any (some ⟨b, off, none⟩) c' (l.take (k + 1)) W (h.ds.take _) (by rw [HTK]; omega))
                have HSE2 := hide (HSE.out (k + 1))
                rw [HTK] at HDE HSE2
                clear HTK
                have hcap : k + 1 ≤ c := by omega
                have hcap' : (k : Int) + 1 ≤ (c : Int) := by omega
                have hk9 : (0 : Int) ≤ (k : Int) + 1 := by omega
                have hcap2 : ((k + 1 : Nat) : Int) ≤ (c : Int) := by omega
                refine wp_region_J (fun W : World => (W.cell? ⟨G, 0, none⟩ = some (.slice d.A n d.c) ∧ W.cell? ⟨G, 1, none⟩ = some (.int .i64 la) ∧ W.cell? ⟨G, 2, none⟩ = some (.int .i64 tl))) (by kernel_rfl) ?_
                generalize wr.drew = wd at HSR HLR HB ⊢
                refine wpAnyJ_take 0 (v := ?_) (by first | exact hF | exact wideFn) (HS17.out _ HSR.out) rfl (by kernel_rfl) (by kernel_rfl) (by kernel_rfl) (by kernel_rfl) rfl ?_ (by first | exact fun _ _ _ h => h | exact fun _ _ _ h => hQ2 _ _ _ _ _ h) ?_
                rotate_left
                · intro W hSW
                  simp only [glA, glB, glC]
                  (try dsimp only at hSW)
                  go_simp
                  with_reducible rfl
                (try simp only [glA, glB, glC, Act.put, glD, glE, glF])
                refine wpAnyJ_take 2 (v := ?_) (by first | exact hF | exact wideFn) (HS17.out _ HSR.out) rfl (by kernel_rfl) (by kernel_rfl) (by kernel_rfl) (by kernel_rfl) rfl ?_ (by first | exact fun _ _ _ h => h | exact fun _ _ _ h => hQ2 _ _ _ _ _ h) ?_
                rotate_left
                · intro W hSW
                  simp only [glA, glB, glC]
                  (try dsimp only at hSW)
                  go_simp
                  with_reducible rfl
                (try simp only [glA, glB, glC, Act.put, glD, glE, glF])
                refine wpAnyJ_take 3 (v := ?_) (by first | exact hF | exact wideFn) (HS17.out _ HSR.out) rfl (by kernel_rfl) (by kernel_rfl) (by kernel_rfl) (by kernel_rfl) rfl ?_ (by first | exact fun _ _ _ h => h | exact fun _ _ _ h => hQ2 _ _ _ _ _ h) ?_
                rotate_left
                · intro W hSW
                  simp only [glA, glB, glC]
                  (try dsimp only at hSW)
                  go_simp
                  with_reducible rfl
                (try simp only [glA, glB, glC, Act.put, glD, glE, glF])
                refine wpAnyJ_take 4 (v := ?_) (by first | exact hF | exact wideFn) (HS17.out _ HSR.out) rfl (by kernel_rfl) (by kernel_rfl) (by kernel_rfl) (by kernel_rfl) rfl ?_ (by first | exact fun _ _ _ h => h | exact fun _ _ _ h => hQ2 _ _ _ _ _ h) ?_
                rotate_left
                · intro W hSW
                  simp only [glA, glB, glC]
                  (try dsimp only at hSW)
                  go_simp
                  with_reducible rfl
                (try simp only [glA, glB, glC, Act.put, glD, glE, glF])
                refine wpAnyJ_take 5 (v := ?_) (by first | exact hF | exact wideFn) (HS17.out _ HSR.out) rfl (by kernel_rfl) (by kernel_rfl) (by kernel_rfl) (by kernel_rfl) rfl ?_ (by first | exact fun _ _ _ h => h | exact fun _ _ _ h => hQ2 _ _ _ _ _ h) ?_
                rotate_left
                · intro W hSW
                  simp only [glA, glB, glC]
                  (try dsimp only at hSW)
                  go_simp
                  with_reducible rfl
                (try simp only [glA, glB, glC, Act.put, glD, glE, glF])
                refine wpAnyJ_one 1 rfl (by kernel_rfl) (fun K hK => ?_)
                simp only [glA, glB, glC]
                go_simp
                refine ⟨trivial, rfl, ?_⟩
                refine (callsIn_wide.2 (HCP.out _ HSR.out.rt)).mono ?_
                rintro e w8 ⟨d8, rfl, hr8, hb8⟩
                have HS8 := hide (HSR.out.ext hb8)
                dsimp only
                refine hK.out _ _ (fun _ => HS17.out _ HS8.out) ?_
                clear hK K
                (try simp only [glA, glB, glC, Act.put, glD, glE, glF])
                replace HSR := hide (HSR.out.ext hb8)
                replace HLR := hide (liE HLR.out hb8)
                (try replace KE := hide (KE.out.ext hb8))
                (try replace HLN := hide (liE HLN.out hb8))
                (try replace HL3 := hide (liE HL3.out hb8))
                replace HB := hide (HB.out.trans ((hb8).mono HB.out.size))
                clear HS8
                refine wpAnyJ_one 6 rfl (by kernel_rfl) (fun K hK => ?_)
                simp only [glA, glB, glC]
                go_simp
                refine ⟨trivial, rfl, ?_⟩
                refine (callsIn_wide.2 (HDE.out c _ HSR.out)).mono ?_
                rintro e w9 ⟨A9, c9, rfl, ho9, hb9⟩
                have HS9 := hide (HSR.out.ext hb9)
                dsimp only
                refine hK.out _ _ (fun _ => HS17.out _ HS9.out) ?_
                clear hK K
                (try simp only [glA, glB, glC, Act.put, glD, glE, glF])
                have R9 := hide (hr8.ext hb9)
                have D9 := hide ho9.dsr.2
                replace HSR := hide (HSR.out.ext hb9)
                replace HLR := hide (liE HLR.out hb9)
                (try replace KE := hide (KE.out.ext hb9))
                (try replace HLN := hide (liE HLN.out hb9))
                (try replace HL3 := hide (liE HL3.out hb9))
                replace HB := hide (HB.out.trans ((hb9).mono HB.out.size))
                clear HS9 hr8 ho9
                refine wpAnyJ_one 7 rfl (by kernel_rfl) (fun K hK => ?_)
                simp only [glA, glB, glC]
                go_simp
                refine ⟨trivial, rfl, ?_⟩
                refine (callsIn_wide.2 (HSE2.out d8 A9 c9 _ R9.out D9.out (HT.out.ext HSR.out.lo))).mono ?_
                rintro e wa ⟨B2, bc2, rfl, hl2, hba⟩
                have HSa := hide (HSR.out.ext hba)
                dsimp only
                refine hK.out _ _ (fun _ => HS17.out _ HSa.out) ?_
                clear hK K
                (try simp only [glA, glB, glC, Act.put, glD, glE, glF])
                have HL3 := hide hl2
                replace HSR := hide (HSR.out.ext hba)
                replace HLR := hide (liE HLR.out hba)
                (try replace KE := hide (KE.out.ext hba))
                (try replace HLN := hide (liE HLN.out hba))
                (try replace HL3 := hide (liE HL3.out hba))
                replace HB := hide (HB.out.trans ((hba).mono HB.out.size))
                clear HSa hl2 hb8 hb9 R9 D9 HSE2 HDE hk9 hcap hcap' hcap2
                refine wpAnyJ_take 8 (v := ?_) (by first | exact hF | exact wideFn) (HS17.out _ HSR.out) rfl (by kernel_rfl) (by kernel_rfl) (by kernel_rfl) (by kernel_rfl) rfl ?_ (by first | exact fun _ _ _ h => h | exact fun _ _ _ h => hQ2 _ _ _ _ _ h) ?_
                rotate_left
                · intro W hSW
                  simp only [glA, glB, glC]
                  (try dsimp only at hSW)
                  go_simp
                  with_reducible rfl
                (try simp only [glA, glB, glC, Act.put, glD, glE, glF])
                refine wpAnyJ_take 9 (v := ?_) (by first | exact hF | exact wideFn) (HS17.out _ HSR.out) rfl (by kernel_rfl) (by kernel_rfl) (by kernel_rfl) (by kernel_rfl) rfl ?_ (by first | exact fun _ _ _ h => h | exact fun _ _ _ h => hQ2 _ _ _ _ _ h) ?_
                rotate_left
                · intro W hSW
                  simp only [glA, glB, glC]
                  (try dsimp only at hSW)
                  go_simp
                  with_reducible rfl
                (try simp only [glA, glB, glC, Act.put, glD, glE, glF])
                refine wpAnyJ_take 10 (v := ?_) (by first | exact hF | exact wideFn) (HS17.out _ HSR.out) rfl (by kernel_rfl) (by kernel_rfl) (by kernel_rfl) (by kernel_rfl) rfl ?_ (by first | exact fun _ _ _ h => h | exact fun _ _ _ h => hQ2 _ _ _ _ _ h) ?_
                rotate_left
                · intro W hSW
                  simp only [glA, glB, glC]
                  (try dsimp only at hSW)
                  go_simp
                  with_reducible rfl
                (try simp only [glA, glB, glC, Act.put, glD, glE, glF])
                refine wpAnyJ_take 11 (v := ?_) (by first | exact hF | exact wideFn) (HS17.out _ HSR.out) rfl (by kernel_rfl) (by kernel_rfl) (by kernel_rfl) (by kernel_rfl) rfl ?_ (by first | exact fun _ _ _ h => h | exact fun _ _ _ h => hQ2 _ _ _ _ _ h) ?_
                rotate_left
                · intro W hSW
                  simp only [glA, glB, glC]
                  (try dsimp only at hSW)
                  go_simp
                  with_reducible rfl
                (try simp only [glA, glB, glC, Act.put, glD, glE, glF])
                refine wpAnyJ_take 12 (v := ?_) (by first | exact hF | exact wideFn) (HS17.out _ HSR.out) rfl (by kernel_rfl) (by kernel_rfl) (by kernel_rfl) (by kernel_rfl) rfl ?_ (by first | exact fun _ _ _ h => h | exact fun _ _ _ h => hQ2 _ _ _ _ _ h) ?_
                rotate_left
                · intro W hSW
                  simp only [glA, glB, glC]
                  (try dsimp only at hSW)
                  go_simp
                  with_reducible rfl
                (try simp only [glA, glB, glC, Act.put, glD, glE, glF])
                refine wpAnyJ_done (by kernel_rfl) ?_
                have y1 := (H14.out _ HB.out).1.2.1
                have HH := hide (hasl_any B2 bc2 (LBk r l (k + 1)) a wa (lb_len r l (k + 1)) HL3.out)
                rw [HF.out.2.2.1] at HH
                go_wp2_with fail
                refine HH.out.mono ?_
                rintro e _ ⟨rfl, rfl⟩
                clear HH y1
                obtain ⟨nb, hnb⟩ : ∃ x, (LBk r l k).length = x := ⟨_, rfl⟩
                have HNB := hide hnb
                have hnb2 := lb_len r l k
                rw [hnb] at hnb2
                rw [hnb]
                clear hnb
                go_wp2_with fail
                go_loopw [15] (fun i wf => ∃ t : Nat, t ≤ nb ∧ i = .int .i64 t ∧ Hid (Below wa.heap.size wa wf)) (fun i _ => nb - (intOf i).toNat)
                case atStart => exact ⟨0, Nat.zero_le _, rfl, hide (Below.refl _ _)⟩
                case round =>
                  obtain ⟨t, ht, rfl, HBF⟩ := hrel
                  have hst2 : IntKind.i64.wrap ((t : Int) + 1) = ((t + 1 : Nat) : Int) := by rw [IntWalk.i64_in _ (by omega)]; omega
                  by_cases htl : t < nb
                  · have htl' : (t : Int) < (nb : Int) := by omega
                    have htn : t < (LBk r l k).length := by rw [HNB.out]; exact htl
                    obtain ⟨xb, xo, hxa, hxl, hxc⟩ := VR1.at_ (liE HLR.out HBF.out) htn
                    have hx := HF.out.2.2.2 ((LBk r l k).getD t 0) (by rw [List.getD_eq_getElem?_getD, List.getElem?_eq_getElem htn]; exact List.getElem_mem htn)
                    obtain ⟨x, hxx⟩ : ∃ z, (LBk r l k).getD t 0 = z := ⟨_, rfl⟩
                    rw [hxx] at hxc hx
                    have HH := hide (hasl_any B2 bc2 (LBk r l (k + 1)) x wr (lb_len r l (k + 1)) (liE HL3.out HBF.out))
                    rw [hx] at HH
                    rw [hxa]
                    clear hxl hx hxx hxa
                    go_wp2_with fail
                    refine HH.out.mono ?_
                    rintro e _ ⟨rfl, rfl⟩
                    go_wp2_with fail
                    go_roundw
                    case rel => exact ⟨t + 1, by omega, by go_num, HBF⟩
                    case measure => simp [intOf]; omega
                  · obtain rfl : nb = t := by omega
                    have hnl : ¬ (nb : Int) < (nb : Int) := by omega
                    go_wp2_with fail
                    replace HSR := hide (HSR.out.ext HBF.out)
                    replace HLR := hide (liE HLR.out HBF.out)
                    (try replace KE := hide (KE.out.ext HBF.out))
                    (try replace HLN := hide (liE HLN.out HBF.out))
                    (try replace HL3 := hide (liE HL3.out HBF.out))
                    replace HB := hide (HB.out.trans ((HBF.out).mono HB.out.size))
                    go_roundw
                    case rel => exact ⟨k + 1, B2, bc2, by omega, by go_num, rfl, HL3, HB⟩
                    case measure => simp [intOf]; omega
    · obtain rfl : nl = k := by omega
      have hnl : ¬ (nl : Int) < (nl : Int) := by omega
      go_wp2_with fail
      refine (HKN.out wr HSR.out.lo).mono ?_
      rintro e w6 ⟨rfl, hb6⟩
      replace HSR := hide (HSR.out.ext hb6)
      clear hb6
      go_wp2_with fail
      go_ret
      exact ⟨rfl, HSR.out.lo⟩
end Go.Proofs.YtcgdalabenflmaaDoor
