/- School: the law SchoolJoins: the row and the tied card. -/
import Derived.Test.YtmpegkojencbjaaDoorMergesK
import Derived.Test.YtmpegkojencbjaaDoorRows
import Derived.ProofKit
import Derived.OpenShut
import Derived.Carry
import Derived.ChangeSame
import Derived.Deep.SlicePairs
import Derived.ChangeSlices
import Derived.SliceStrings
import Derived.Test.YtmpegkojencbjaaDoorCards
import Derived.Test.YtmpegkojencbjaaDoorTie
import Derived.LaidMore
import Derived.Lay
import Derived.SevenTiedAt
import Derived.Stop.Joined
set_option linter.unusedSimpArgs false
set_option linter.unusedVariables false
set_option linter.unnecessarySimpa false
/- School: the law SchoolJoins, walked. -/
namespace Go.Proofs.YtmpegkojencbjaaDoor
open List renaming getElem_toArray → glA, getElem_cons_zero → glB, getElem_cons_succ → glC, setIfInBounds_toArray → glD, set_cons_zero → glE, set_cons_succ → glF
open Go Go.RowKit Go.Shelf
set_option maxHeartbeats 8000000
set_option maxRecDepth 100000
theorem mgR_first (a b : List Wd) : (mgR [] a b).2.1 = 0 := by
  unfold mgR
  split
  · unfold mgX
    cases hc : mgC (alL [] 0 a) (alL [] 0 b) (([] : List Wd).length + 1) with
    | some k =>
      have := mgC_lt _ hc
      have h0 : k = 0 := by simpa using this
      subst h0; rfl
    | none =>
      dsimp only
      split <;> rfl
  · rfl
/-- whether x is one of the first k -/
def fnF (J : List Wd) (x : Wd) : Nat → Bool
  | 0 => false
  | k + 1 => fnF J x k || decide (J.getD k noW = x)
theorem fnF_mem {J : List Wd} {x : Wd} (h : x ∈ J) : fnF J x J.length = true := by
  obtain ⟨k, hk, e⟩ := List.mem_iff_getElem.1 h
  have : ∀ n, k < n → fnF J x n = true := fun n => by
    induction n with
    | zero => intro h; omega
    | succ n ih =>
      intro h
      show (fnF J x n || decide (J.getD n noW = x)) = true
      by_cases e2 : k = n
      · subst e2
        rw [List.getD_eq_getElem?_getD, List.getElem?_eq_getElem hk]
        simp [e]
      · rw [ih (by omega)]; rfl
  exact this _ hk
theorem joins_any (A0 A1 A2 : Option Addr) (c d f : Nat) (o a b : List Wd) (w : World) (h0 : SzOk o) (ha : SzOk a) (hb : SzOk b) (hA : SR w w.heap.size A0 o) (hB : SR w w.heap.size A1 a) (hC : SR w w.heap.size A2 b) :
    Calls Tryd.prog 6 #[.slice A0 o.length c, .slice A1 a.length d, .slice A2 b.length f] w fun e w' => e = .returned (.bool true) ∧ Below w.heap.size w w' := by
  have HL1 := long_any A0 c o w h0 hA
  have HL2 := long_any A1 d a w ha hB
  have HL3 := long_any A2 f b w hb hC
  have HA0 := hide hA
  have HA1 := hide hB
  have HA2 := hide hC
  have HSO := hide h0
  have HSA := hide ha
  have HSB := hide hb
  obtain ⟨n, hn⟩ : ∃ n, o.length = n := ⟨_, rfl⟩
  obtain ⟨m, hm⟩ : ∃ n, a.length = n := ⟨_, rfl⟩
  obtain ⟨r, hr⟩ : ∃ n, b.length = n := ⟨_, rfl⟩
  have HN := hide (And.intro hn (And.intro hm hr))
  rw [hn] at HL1
  rw [hm] at HL2
  rw [hr] at HL3
  rw [hn, hm, hr]
  clear hA hB hC h0 ha hb hn hm hr
  rcases hl1 : lgB o with _ | _
  rotate_left
  · rw [hl1] at HL1
    have H1 := hide HL1
    have HK := hide (known_any w)
    clear hl1 HL1 HL2 HL3
    go_enter Tryd.func6, Tryd.ntmps6
    go_wp2_with fail
    refine H1.out.mono ?_
    rintro e _ ⟨rfl, rfl⟩
    go_wp2_with fail
    refine HK.out.mono ?_
    rintro e w2 ⟨rfl, hb2⟩
    go_wp2_with fail
    go_ret
    exact ⟨rfl, hb2⟩
  rw [hl1] at HL1
  have H1 := hide HL1
  rcases hl2 : lgB a with _ | _
  rotate_left
  · rw [hl2] at HL2
    have H2 := hide HL2
    have HK := hide (known_any w)
    clear hl1 hl2 HL1 HL2 HL3
    go_enter Tryd.func6, Tryd.ntmps6
    go_wp2_with fail
    refine H1.out.mono ?_
    rintro e _ ⟨rfl, rfl⟩
    go_wp2_with fail
    refine H2.out.mono ?_
    rintro e _ ⟨rfl, rfl⟩
    go_wp2_with fail
    refine HK.out.mono ?_
    rintro e w2 ⟨rfl, hb2⟩
    go_wp2_with fail
    go_ret
    exact ⟨rfl, hb2⟩
  rw [hl2] at HL2
  have H2 := hide HL2
  rcases hl3 : lgB b with _ | _
  rotate_left
  · rw [hl3] at HL3
    have H3 := hide HL3
    have HK := hide (known_any w)
    clear hl1 hl2 hl3 HL1 HL2 HL3
    go_enter Tryd.func6, Tryd.ntmps6
    go_wp2_with fail
    refine H1.out.mono ?_
    rintro e _ ⟨rfl, rfl⟩
    go_wp2_with fail
    refine H2.out.mono ?_
    rintro e _ ⟨rfl, rfl⟩
    go_wp2_with fail
    refine H3.out.mono ?_
    rintro e _ ⟨rfl, rfl⟩
    go_wp2_with fail
    refine HK.out.mono ?_
    rintro e w2 ⟨rfl, hb2⟩
    go_wp2_with fail
    go_ret
    exact ⟨rfl, hb2⟩
  rw [hl3] at HL3
  have H3 := hide HL3
  have h1 := (lgB_no hl1).1
  have h2 := (lgB_no hl2).1
  have h3 := (lgB_no hl3).1
  have HWo : Hid (∀ W, Below w.heap.size w W → Calls Tryd.prog 16 #[.slice A0 n c] W fun e w' => ∃ v, e = .returned v ∧ OwnS w' W.heap.size v o ∧ Below W.heap.size W w') := hide fun W h => by
    have := words_any A0 c o W (by omega) ((ER.below HA0.out h (Nat.le_refl _)).more h.size)
    rwa [HN.out.1] at this
  have HWa : Hid (∀ W, Below w.heap.size w W → Calls Tryd.prog 16 #[.slice A1 m d] W fun e w' => ∃ v, e = .returned v ∧ OwnS w' W.heap.size v a ∧ Below W.heap.size W w') := hide fun W h => by
    have := words_any A1 d a W (by omega) ((ER.below HA1.out h (Nat.le_refl _)).more h.size)
    rwa [HN.out.2.1] at this
  have HWb : Hid (∀ W, Below w.heap.size w W → Calls Tryd.prog 16 #[.slice A2 r f] W fun e w' => ∃ v, e = .returned v ∧ OwnS w' W.heap.size v b ∧ Below W.heap.size W w') := hide fun W h => by
    have := words_any A2 f b W (by omega) ((ER.below HA2.out h (Nat.le_refl _)).more h.size)
    rwa [HN.out.2.2] at this
  have hn25 : n ≤ 25 := by rw [← HN.out.1]; exact h1
  have hm25 : m ≤ 25 := by rw [← HN.out.2.1]; exact h2
  have hr25 : r ≤ 25 := by rw [← HN.out.2.2]; exact h3
  have H25 := hide (And.intro hn25 (And.intro hm25 hr25))
  clear hl1 hl2 hl3 HL1 HL2 HL3 h1 h2 h3 hn25 hm25 hr25
  have B0 : Hid (Below w.heap.size w w) := hide (Below.refl _ _)
  obtain ⟨q, hq⟩ : ∃ q, mgR o a b = q := ⟨_, rfl⟩
  obtain ⟨ml, me, mc⟩ := q
  have hq2 : mgR o b a = (ml, me, mc) := by rw [← mgR_comm]; exact hq
  have HC := mgR_code o a b
  have HWD := mgR_words o a b
  rw [hq] at HC HWD
  dsimp only at HC HWD
  have HWD := hide HWD
  have HQ1 := hide hq
  have HQ2 := hide hq2
  have HME : Hid (n = 0 → me = 0) := hide fun h => by
    have e : o = [] := List.eq_nil_of_length_eq_zero (by rw [HN.out.1]; exact h)
    have h1 := mgR_first a b
    rw [← e, HQ1.out] at h1
    exact h1
  have HC := hide HC
  clear hq hq2
  go_enter Tryd.func6, Tryd.ntmps6
  go_wp2_with fail
  refine H1.out.mono ?_
  rintro e _ ⟨rfl, rfl⟩
  go_wp2_with fail
  refine H2.out.mono ?_
  rintro e _ ⟨rfl, rfl⟩
  go_wp2_with fail
  refine H3.out.mono ?_
  rintro e _ ⟨rfl, rfl⟩
  go_wp2_with fail
  refine (HWo.out w B0.out).mono ?_
  rintro e w1 ⟨vp1, rfl, hop1, hbp1⟩
  obtain ⟨Ap1, cp1, rfl⟩ := own_shape hop1
  have B1 := hide (B0.out.trans (hbp1.mono B0.out.size))
  have Op1 := hide hop1
  have Gp1 := hide hbp1
  rw [HN.out.1]
  clear hbp1 hop1
  go_wp2_with fail
  refine (HWa.out w1 B1.out).mono ?_
  rintro e w2 ⟨vp2, rfl, hop2, hbp2⟩
  obtain ⟨Ap2, cp2, rfl⟩ := own_shape hop2
  have B2 := hide (B1.out.trans (hbp2.mono B1.out.size))
  have Op2 := hide hop2
  have Gp2 := hide hbp2
  rw [HN.out.2.1]
  clear hbp2 hop2
  go_wp2_with fail
  refine (HWb.out w2 B2.out).mono ?_
  rintro e w3 ⟨vp3, rfl, hop3, hbp3⟩
  obtain ⟨Ap3, cp3, rfl⟩ := own_shape hop3
  have B3 := hide (B2.out.trans (hbp3.mono B2.out.size))
  have Op3 := hide hop3
  have Gp3 := hide hbp3
  rw [HN.out.2.2]
  clear hbp3 hop3
  have hs1 := (OwnS.ext Op1.out (Gp2.out.trans (Gp3.out.mono Gp2.out.size))).sr.2
  have hs2 := (OwnS.ext Op2.out Gp3.out).sr.2
  have hs3 := Op3.out.sr.2
  have hcap := Op1.out.cap
  have HMG := Merge_any Ap1 Ap2 Ap3 cp1 cp2 cp3 o a b w3 HSO.out HSA.out HSB.out hs1 hs2 hs3 hcap.1 hcap.2
  rw [HN.out.1, HN.out.2.1, HN.out.2.2, HQ1.out] at HMG
  unfold MgPost at HMG
  dsimp only at HMG
  have HMG := hide HMG
  clear hs1 hs2 hs3 hcap Op1 Op2 Op3 Gp1 Gp2 Gp3
  go_wp2_with fail
  refine HMG.out.mono ?_
  rintro e w4 ⟨vx, rfl, hox, hbx⟩
  obtain ⟨Ax, cx, hvx⟩ := own_shape hox
  subst hvx
  have B4 := hide (B3.out.trans (hbx.mono B3.out.size))
  have Ox := hide hox
  have Gx := hide hbx
  clear hox hbx HMG
  go_wp2_with fail
  refine (HWo.out w4 B4.out).mono ?_
  rintro e w5 ⟨vq1, rfl, hoq1, hbq1⟩
  obtain ⟨Aq1, cq1, rfl⟩ := own_shape hoq1
  have B5 := hide (B4.out.trans (hbq1.mono B4.out.size))
  have Oq1 := hide hoq1
  have Gq1 := hide hbq1
  rw [HN.out.1]
  clear hbq1 hoq1
  go_wp2_with fail
  refine (HWb.out w5 B5.out).mono ?_
  rintro e w6 ⟨vq2, rfl, hoq2, hbq2⟩
  obtain ⟨Aq2, cq2, rfl⟩ := own_shape hoq2
  have B6 := hide (B5.out.trans (hbq2.mono B5.out.size))
  have Oq2 := hide hoq2
  have Gq2 := hide hbq2
  rw [HN.out.2.2]
  clear hbq2 hoq2
  go_wp2_with fail
  refine (HWa.out w6 B6.out).mono ?_
  rintro e w7 ⟨vq3, rfl, hoq3, hbq3⟩
  obtain ⟨Aq3, cq3, rfl⟩ := own_shape hoq3
  have B7 := hide (B6.out.trans (hbq3.mono B6.out.size))
  have Oq3 := hide hoq3
  have Gq3 := hide hbq3
  rw [HN.out.2.1]
  clear hbq3 hoq3
  have Ox4 := hide (OwnS.ext Ox.out (Gq1.out.trans ((Gq2.out.trans (Gq3.out.mono Gq2.out.size)).mono Gq1.out.size)))
  have hs1 := (OwnS.ext Oq1.out (Gq2.out.trans (Gq3.out.mono Gq2.out.size))).sr.2
  have hs2 := (OwnS.ext Oq2.out Gq3.out).sr.2
  have hs3 := Oq3.out.sr.2
  have hcap := Oq1.out.cap
  have HMG := Merge_any Aq1 Aq2 Aq3 cq1 cq2 cq3 o b a w7 HSO.out HSB.out HSA.out hs1 hs2 hs3 hcap.1 hcap.2
  rw [HN.out.1, HN.out.2.1, HN.out.2.2, HQ2.out] at HMG
  unfold MgPost at HMG
  dsimp only at HMG
  have HMG := hide HMG
  clear hs1 hs2 hs3 hcap Oq1 Oq2 Oq3 Gq1 Gq2 Gq3
  go_wp2_with fail
  refine HMG.out.mono ?_
  rintro e w8 ⟨vy, rfl, hoy, hby⟩
  obtain ⟨Ay, cy, hvy⟩ := own_shape hoy
  subst hvy
  have B8 := hide (B7.out.trans (hby.mono B7.out.size))
  have Oy := hide hoy
  have Gy := hide hby
  clear hoy hby HMG
  have Ox8 := hide (OwnS.ext Ox4.out Gy.out)
  obtain ⟨L, hL⟩ : ∃ L, ml.length = L := ⟨_, rfl⟩
  have HL := hide hL
  rw [hL]
  have hL2 : L ≤ maxLen := by have := Ox8.out.cap; omega
  clear hL Ox4
  have HSM := same_any Ax Ay cx cy ml ml w8 (by rw [HL.out]; exact hL2) Ox8.out.sr.2 Oy.out.sr.2
  rw [HL.out, decide_eq_true rfl] at HSM
  have HSM := hide HSM
  go_wp2_with fail
  refine HSM.out.mono ?_
  rintro e w9 ⟨rfl, hb6⟩
  have B9 := hide (B8.out.trans (hb6.mono B8.out.size))
  have Gm1 := hide hb6
  clear hb6 HSM
  have Ox9 := hide (OwnS.ext Ox8.out Gm1.out)
  clear Ox8 Oy Gy Gm1
  rcases HC.out with ⟨h, -⟩ | ⟨ht, hcd, hm0, hm1⟩
  · injection h with h1 h2
    injection h2 with h2 h3
    subst h1 h2 h3
    have HK := hide (known_any w9)
    have hL3 : L = 0 := HL.out.symm
    subst hL3
    go_wp2_with fail
    refine HK.out.mono ?_
    rintro e w6 ⟨rfl, hb6⟩
    go_wp2_with fail
    go_ret
    exact ⟨rfl, B9.out.trans (hb6.mono B9.out.size)⟩
  · rw [Bool.and_eq_true, Bool.and_eq_true] at ht
    obtain ⟨HQ3, HQ4⟩ := mgR_own o a ht.1.1 ht.1.2
    have HQ3 := hide HQ3
    have HQ4 := hide HQ4
    have hc2 : (mc == 2) = false := by rcases hcd with h | h | h <;> rw [show mc = _ from h] <;> rfl
    have HCD := hide (show mc = 0 ∨ mc = 110 ∨ mc = 5 from hcd)
    have HM0 := hide (show 0 ≤ me from hm0)
    have HM1 : Hid (me ≤ (n : Int)) := hide (by rw [← HN.out.1]; exact hm1)
    clear ht hcd hm0 hm1 HC HQ1 HQ2
    go_wp2_with fail
    refine (HWo.out w9 B9.out).mono ?_
    rintro e wa ⟨vr1, rfl, hor1, hbr1⟩
    obtain ⟨Ar1, cr1, rfl⟩ := own_shape hor1
    have Ba := hide (B9.out.trans (hbr1.mono B9.out.size))
    have Or1 := hide hor1
    have Gr1 := hide hbr1
    rw [HN.out.1]
    clear hbr1 hor1
    go_wp2_with fail
    refine (HWa.out wa Ba.out).mono ?_
    rintro e wb ⟨vr2, rfl, hor2, hbr2⟩
    obtain ⟨Ar2, cr2, rfl⟩ := own_shape hor2
    have Bb := hide (Ba.out.trans (hbr2.mono Ba.out.size))
    have Or2 := hide hor2
    have Gr2 := hide hbr2
    rw [HN.out.2.1]
    clear hbr2 hor2
    go_wp2_with fail
    refine (HWo.out wb Bb.out).mono ?_
    rintro e wc ⟨vr3, rfl, hor3, hbr3⟩
    obtain ⟨Ar3, cr3, rfl⟩ := own_shape hor3
    have Bc := hide (Bb.out.trans (hbr3.mono Bb.out.size))
    have Or3 := hide hor3
    have Gr3 := hide hbr3
    rw [HN.out.1]
    clear hbr3 hor3
    have Oxc := hide (OwnS.ext Ox9.out (Gr1.out.trans ((Gr2.out.trans (Gr3.out.mono Gr2.out.size)).mono Gr1.out.size)))
    clear Ox9
    have hs1 := (OwnS.ext Or1.out (Gr2.out.trans (Gr3.out.mono Gr2.out.size))).sr.2
    have hs2 := (OwnS.ext Or2.out Gr3.out).sr.2
    have hs3 := Or3.out.sr.2
    have hcap := Or1.out.cap
    have HMG := Merge_any Ar1 Ar2 Ar3 cr1 cr2 cr3 o a o wc HSO.out HSA.out HSO.out hs1 hs2 hs3 hcap.1 hcap.2
    rw [HN.out.1, HN.out.2.1, HQ3.out] at HMG
    unfold MgPost at HMG
    dsimp only at HMG
    have HMG := hide HMG
    clear hs1 hs2 hs3 hcap Or1 Or2 Or3 Gr1 Gr2 Gr3
    go_wp2_with fail
    refine HMG.out.mono ?_
    rintro e wd ⟨vz, rfl, hoz, hbz⟩
    obtain ⟨Az, cz, hvz⟩ := own_shape hoz
    subst hvz
    have Bd := hide (Bc.out.trans (hbz.mono Bc.out.size))
    have Oz := hide hoz
    have Gz := hide hbz
    clear hoz hbz HMG
    rw [HN.out.2.1]
    have Oxd := hide (OwnS.ext Oxc.out Gz.out)
    clear Oxc Gz HQ3
    go_wp2_with fail
    refine (HWo.out wd Bd.out).mono ?_
    rintro e we ⟨vt1, rfl, hot1, hbt1⟩
    obtain ⟨At1, ct1, rfl⟩ := own_shape hot1
    have Be := hide (Bd.out.trans (hbt1.mono Bd.out.size))
    have Ot1 := hide hot1
    have Gt1 := hide hbt1
    rw [HN.out.1]
    clear hbt1 hot1
    go_wp2_with fail
    refine (HWa.out we Be.out).mono ?_
    rintro e wf ⟨vt2, rfl, hot2, hbt2⟩
    obtain ⟨At2, ct2, rfl⟩ := own_shape hot2
    have Bf := hide (Be.out.trans (hbt2.mono Be.out.size))
    have Ot2 := hide hot2
    have Gt2 := hide hbt2
    rw [HN.out.2.1]
    clear hbt2 hot2
    go_wp2_with fail
    refine (HWa.out wf Bf.out).mono ?_
    rintro e wg ⟨vt3, rfl, hot3, hbt3⟩
    obtain ⟨At3, ct3, rfl⟩ := own_shape hot3
    have Bg := hide (Bf.out.trans (hbt3.mono Bf.out.size))
    have Ot3 := hide hot3
    have Gt3 := hide hbt3
    rw [HN.out.2.1]
    clear hbt3 hot3
    have Oxg := hide (OwnS.ext Oxd.out (Gt1.out.trans ((Gt2.out.trans (Gt3.out.mono Gt2.out.size)).mono Gt1.out.size)))
    have Ozg := hide (OwnS.ext Oz.out (Gt1.out.trans ((Gt2.out.trans (Gt3.out.mono Gt2.out.size)).mono Gt1.out.size)))
    clear Oxd Oz
    have hs1 := (OwnS.ext Ot1.out (Gt2.out.trans (Gt3.out.mono Gt2.out.size))).sr.2
    have hs2 := (OwnS.ext Ot2.out Gt3.out).sr.2
    have hs3 := Ot3.out.sr.2
    have hcap := Ot1.out.cap
    have HMG := Merge_any At1 At2 At3 ct1 ct2 ct3 o a a wg HSO.out HSA.out HSA.out hs1 hs2 hs3 hcap.1 hcap.2
    rw [HN.out.1, HN.out.2.1, HQ4.out] at HMG
    unfold MgPost at HMG
    dsimp only at HMG
    have HMG := hide HMG
    clear hs1 hs2 hs3 hcap Ot1 Ot2 Ot3 Gt1 Gt2 Gt3
    go_wp2_with fail
    refine HMG.out.mono ?_
    rintro e wh ⟨vu, rfl, hou, hbu⟩
    obtain ⟨Au, cu, hvu⟩ := own_shape hou
    subst hvu
    have Bh := hide (Bg.out.trans (hbu.mono Bg.out.size))
    have Ou := hide hou
    have Gu := hide hbu
    clear hou hbu HMG
    rw [HN.out.2.1]
    have Oxh := hide (OwnS.ext Oxg.out Gu.out)
    have Ozh := hide (OwnS.ext Ozg.out Gu.out)
    clear Oxg Ozg Gu HQ4
    have HSM := same_any Az A1 cz d a a wh (by rw [HN.out.2.1]; unfold maxLen; have := H25.out; omega) Ozh.out.sr.2 ((ER.below HA1.out Bh.out (Nat.le_refl _)).more Bh.out.size)
    rw [HN.out.2.1, decide_eq_true rfl] at HSM
    have HSM := hide HSM
    go_wp2_with fail
    refine HSM.out.mono ?_
    rintro e wi ⟨rfl, hb6⟩
    have Bi := hide (Bh.out.trans (hb6.mono Bh.out.size))
    have Gm2 := hide hb6
    clear hb6 HSM
    have Oxi := hide (OwnS.ext Oxh.out Gm2.out)
    have Oui := hide (OwnS.ext Ou.out Gm2.out)
    clear Oxh Ou Ozh Gm2
    have HSM := same_any Au A1 cu d a a wi (by rw [HN.out.2.1]; unfold maxLen; have := H25.out; omega) Oui.out.sr.2 ((ER.below HA1.out Bi.out (Nat.le_refl _)).more Bi.out.size)
    rw [HN.out.2.1, decide_eq_true rfl] at HSM
    have HSM := hide HSM
    go_wp2_with fail
    refine HSM.out.mono ?_
    rintro e w10 ⟨rfl, hb6⟩
    have B10 := hide (Bi.out.trans (hb6.mono Bi.out.size))
    have Gm3 := hide hb6
    clear hb6 HSM
    have Ox := hide (OwnS.ext Oxi.out Gm3.out)
    clear Oxi Oui Gm3
    have hm0 := HM0.out
    have hm1 := HM1.out
    have m0 : ¬ me < 0 := by omega
    have m1 : ¬ (n : Int) < me := by omega
    rcases Nat.eq_zero_or_pos n with hn0 | hn0
    · have hme := HME.out hn0
      subst hme hn0
      rcases HCD.out with h | h | h <;> subst h
      all_goals
        go_wp2_with fail
        refine (HWo.out w10 B10.out).mono ?_
        rintro e w11 ⟨vs1, rfl, hos1, hbs1⟩
        obtain ⟨As1, cs1, rfl⟩ := own_shape hos1
        have B11 := hide (B10.out.trans (hbs1.mono B10.out.size))
        have Os1 := hide hos1
        have Gs1 := hide hbs1
        rw [HN.out.1]
        clear hbs1 hos1
        obtain ⟨v', wj1, hrun, ho1, hg, -⟩ := OwnS.pushes Os1.out A1 d a ((ER.below HA1.out B11.out (Nat.le_refl _)).more B11.out.size) (by rw [HN.out.1, HN.out.2.1]; have := H25.out; omega) (Gs1.out.size)
        have hbj1 := Gs1.out.grown hg Gs1.out.size (fun k hk => (World.ownsRow.lt Os1.out k hk).1)
        have Bj1 := hide (B10.out.trans (hbj1.mono B10.out.size))
        obtain ⟨v2, wj2, hrun2, ho2, hg2, -⟩ := OwnS.pushes ho1 A2 f b ((ER.below HA2.out Bj1.out (Nat.le_refl _)).more Bj1.out.size) (by rw [List.length_append, HN.out.1, HN.out.2.1, HN.out.2.2]; have := H25.out; omega) hbj1.size
        have hbj2 := hbj1.grown hg2 hbj1.size (fun k hk => (World.ownsRow.lt ho1 k hk).1)
        obtain ⟨Aj1, cj1, hv1⟩ := own_shape ho1
        obtain ⟨nn, hnn⟩ : ∃ x, (o ++ a).length = x := ⟨_, rfl⟩
        rw [hnn] at hv1
        subst hv1
        rw [HN.out.1, HN.out.2.1] at hrun
        rw [HN.out.2.2] at hrun2
        have R1 := hide hrun
        have R2 := hide hrun2
        have Bj2 := hide (B10.out.trans (hbj2.mono B10.out.size))
        have hsx := (OwnS.ext Ox.out hbj2).sr
        obtain ⟨J, hJ⟩ : ∃ J, o ++ a ++ b = J := ⟨_, rfl⟩
        rw [hJ] at ho2
        obtain ⟨AJ, cJ, hv2⟩ := own_shape ho2
        obtain ⟨nj, hnj⟩ : ∃ n, J.length = n := ⟨_, rfl⟩
        have hnj2 : nj ≤ 100000 := by
          rw [← hnj, ← hJ, List.length_append, List.length_append, HN.out.1, HN.out.2.1, HN.out.2.2]
          have := H25.out
          omega
        rw [hnj] at hv2
        subst hv2
        have hsj := ho2.sr.2
        have HX := hide hsx.2
        have HJ := hide hsj
        have HNJ := hide hnj
        have HW' : Hid (∀ x ∈ ml, x ∈ J) := hide (by rw [← hJ]; exact HWD.out)
        clear hrun hrun2 ho1 ho2 hg hg2 hbj1 hbj2 hsx hsj hJ hnj Os1 Gs1 hnn
        go_wp2_with (at_builtin; first | refine wpList_append_run rfl (.tmp 150) (.tmp 151) 22 rfl rfl rfl R1.out ?_ | refine wpList_append_run rfl (.tmp 152) (.tmp 153) 22 rfl rfl rfl R2.out ?_)
        unfold maxLen at hL2
        go_loopw [20] (fun i wr => ∃ k : Nat, k ≤ L ∧ i = .int .i64 k ∧ Hid (Below wj2.heap.size wj2 wr)) (fun i _ => L - (intOf i).toNat)
        case atStart => exact ⟨0, Nat.zero_le _, rfl, hide (Below.refl _ _)⟩
        case round =>
          obtain ⟨k, hk, rfl, HBW⟩ := hrel
          by_cases hlt : k < L
          · have hlt' : (k : Int) < (L : Int) := by omega
            have k0 : (0 : Int) ≤ (k : Int) := by omega
            have hst : IntKind.i64.wrap ((k : Int) + 1) = ((k + 1 : Nat) : Int) := by rw [IntWalk.i64_in _ (by omega)]; omega
            obtain ⟨xb, xo, hAx, hxb, cx0⟩ := HX.out.at_ (k := k) (by rw [HL.out]; exact hlt)
            subst hAx
            obtain ⟨xw, hxw⟩ : ∃ x, ml.getD k noW = x := ⟨_, rfl⟩
            rw [hxw] at cx0
            have hmem : fnF J xw nj = true := by
              rw [← HNJ.out]
              refine fnF_mem (HW'.out xw ?_)
              rw [← hxw, List.getD_eq_getElem?_getD, List.getElem?_eq_getElem (by rw [HL.out]; exact hlt)]
              exact List.getElem_mem _
            have HMEM := hide hmem
            clear hxw hmem
            go_wp2_with fail
            go_loopw [21, 22] (fun fl x wq => ∃ q : Nat, q ≤ nj ∧ x = .int .i64 q ∧ fl = .bool (fnF J xw q) ∧ Hid (Below wj2.heap.size wj2 wq)) (fun _ x _ => nj - (intOf x).toNat)
            case atStart => exact ⟨0, Nat.zero_le _, rfl, rfl, HBW⟩
            case round =>
              obtain ⟨q, hq, rfl, rfl, HBQ⟩ := hrel
              by_cases hqt : q < nj
              · have hqt' : (q : Int) < (nj : Int) := by omega
                have q0 : (0 : Int) ≤ (q : Int) := by omega
                have qst : IntKind.i64.wrap ((q : Int) + 1) = ((q + 1 : Nat) : Int) := by rw [IntWalk.i64_in _ (by omega)]; omega
                obtain ⟨jb, jo, hAj, hjb, cj0⟩ := HJ.out.at_ (k := q) (by rw [HNJ.out]; exact hqt)
                subst hAj
                obtain ⟨yw, hyw⟩ : ∃ x, J.getD q noW = x := ⟨_, rfl⟩
                rw [hyw] at cj0
                have HYW := hide hyw
                have HS : Hid (∀ W, Below wj2.heap.size wj2 W → (W.cell? ⟨xb, xo + k, none⟩ = some (.string xw) ∧ W.cell? ⟨jb, jo + q, none⟩ = some (.string yw))) := hide fun W h => ⟨(h.cell (p := ⟨xb, xo + k, none⟩) hxb).trans cx0, (h.cell (p := ⟨jb, jo + q, none⟩) hjb).trans cj0⟩
                clear cx0 cj0 hyw HBW
                go_upto_region 21 with fail
                have Bd := hide (HBQ.out.trans ((Below.refl wr.heap.size wr).drew.mono HBQ.out.size))
                refine wp_region_J (fun W : World => (W.cell? ⟨xb, xo + k, none⟩ = some (.string xw) ∧ W.cell? ⟨jb, jo + q, none⟩ = some (.string yw))) (by kernel_rfl) ?_
                generalize wr.drew = wz at Bd ⊢
                rcases hf : fnF J xw q with _ | _
                · by_cases hyx : yw = xw
                  · subst hyx
                    have HF : Hid (fnF J yw (q + 1) = true) := hide (by
                      show (fnF J yw q || decide (J.getD q noW = yw)) = true
                      rw [HYW.out]; simp)
                    refine wpAnyJ_take 0 (v := ?_) (by first | exact hF | exact wideFn) (HS.out _ Bd.out) rfl (by kernel_rfl) (by kernel_rfl) (by kernel_rfl) (by kernel_rfl) rfl ?_ (by first | exact fun _ _ _ h => h | exact fun _ _ _ h => hQ2 _ _ _ _ _ h) ?_
                    rotate_left
                    · intro W hSW
                      simp only [glA, glB, glC]
                      (try dsimp only at hSW)
                      go_simp
                      with_reducible rfl
                    (try simp only [glA, glB, glC, Act.put, glD, glE, glF])
                    refine wpAnyJ_take 1 (v := ?_) (by first | exact hF | exact wideFn) (HS.out _ Bd.out) rfl (by kernel_rfl) (by kernel_rfl) (by kernel_rfl) (by kernel_rfl) rfl ?_ (by first | exact fun _ _ _ h => h | exact fun _ _ _ h => hQ2 _ _ _ _ _ h) ?_
                    rotate_left
                    · intro W hSW
                      simp only [glA, glB, glC]
                      (try dsimp only at hSW)
                      go_simp
                      with_reducible rfl
                    (try simp only [glA, glB, glC, Act.put, glD, glE, glF])
                    refine wpAnyJ_take 2 (v := ?_) (by first | exact hF | exact wideFn) (HS.out _ Bd.out) rfl (by kernel_rfl) (by kernel_rfl) (by kernel_rfl) (by kernel_rfl) rfl ?_ (by first | exact fun _ _ _ h => h | exact fun _ _ _ h => hQ2 _ _ _ _ _ h) ?_
                    rotate_left
                    · intro W hSW
                      simp only [glA, glB, glC]
                      (try dsimp only at hSW)
                      go_simp
                      with_reducible rfl
                    (try simp only [glA, glB, glC, Act.put, glD, glE, glF])
                    refine wpAnyJ_take 3 (v := ?_) (by first | exact hF | exact wideFn) (HS.out _ Bd.out) rfl (by kernel_rfl) (by kernel_rfl) (by kernel_rfl) (by kernel_rfl) rfl ?_ (by first | exact fun _ _ _ h => h | exact fun _ _ _ h => hQ2 _ _ _ _ _ h) ?_
                    rotate_left
                    · intro W hSW
                      simp only [glA, glB, glC]
                      (try dsimp only at hSW)
                      go_simp
                      with_reducible rfl
                    (try simp only [glA, glB, glC, Act.put, glD, glE, glF])
                    refine wpAnyJ_take 4 (v := ?_) (by first | exact hF | exact wideFn) (HS.out _ Bd.out) rfl (by kernel_rfl) (by kernel_rfl) (by kernel_rfl) (by kernel_rfl) rfl ?_ (by first | exact fun _ _ _ h => h | exact fun _ _ _ h => hQ2 _ _ _ _ _ h) ?_
                    rotate_left
                    · intro W hSW
                      simp only [glA, glB, glC]
                      (try dsimp only at hSW)
                      go_simp
                      with_reducible rfl
                    (try simp only [glA, glB, glC, Act.put, glD, glE, glF])
                    refine wpAnyJ_take 5 (v := ?_) (by first | exact hF | exact wideFn) (HS.out _ Bd.out) rfl (by kernel_rfl) (by kernel_rfl) (by kernel_rfl) (by kernel_rfl) rfl ?_ (by first | exact fun _ _ _ h => h | exact fun _ _ _ h => hQ2 _ _ _ _ _ h) ?_
                    rotate_left
                    · intro W hSW
                      simp only [glA, glB, glC]
                      (try dsimp only at hSW)
                      go_simp
                      with_reducible rfl
                    (try simp only [glA, glB, glC, Act.put, glD, glE, glF])
                    refine wpAnyJ_take 6 (v := ?_) (by first | exact hF | exact wideFn) (HS.out _ Bd.out) rfl (by kernel_rfl) (by kernel_rfl) (by kernel_rfl) (by kernel_rfl) rfl ?_ (by first | exact fun _ _ _ h => h | exact fun _ _ _ h => hQ2 _ _ _ _ _ h) ?_
                    rotate_left
                    · intro W hSW
                      simp only [glA, glB, glC]
                      (try dsimp only at hSW)
                      go_simp
                      with_reducible rfl
                    (try simp only [glA, glB, glC, Act.put, glD, glE, glF])
                    refine wpAnyJ_take 7 (v := ?_) (by first | exact hF | exact wideFn) (HS.out _ Bd.out) rfl (by kernel_rfl) (by kernel_rfl) (by kernel_rfl) (by kernel_rfl) rfl ?_ (by first | exact fun _ _ _ h => h | exact fun _ _ _ h => hQ2 _ _ _ _ _ h) ?_
                    rotate_left
                    · intro W hSW
                      simp only [glA, glB, glC]
                      (try dsimp only at hSW)
                      go_simp
                      with_reducible rfl
                    (try simp only [glA, glB, glC, Act.put, glD, glE, glF])
                    refine wpAnyJ_take 8 (v := ?_) (by first | exact hF | exact wideFn) (HS.out _ Bd.out) rfl (by kernel_rfl) (by kernel_rfl) (by kernel_rfl) (by kernel_rfl) rfl ?_ (by first | exact fun _ _ _ h => h | exact fun _ _ _ h => hQ2 _ _ _ _ _ h) ?_
                    rotate_left
                    · intro W hSW
                      simp only [glA, glB, glC]
                      (try dsimp only at hSW)
                      go_simp
                      with_reducible rfl
                    (try simp only [glA, glB, glC, Act.put, glD, glE, glF])
                    refine wpAnyJ_take 9 (v := ?_) (by first | exact hF | exact wideFn) (HS.out _ Bd.out) rfl (by kernel_rfl) (by kernel_rfl) (by kernel_rfl) (by kernel_rfl) rfl ?_ (by first | exact fun _ _ _ h => h | exact fun _ _ _ h => hQ2 _ _ _ _ _ h) ?_
                    rotate_left
                    · intro W hSW
                      simp only [glA, glB, glC]
                      (try dsimp only at hSW)
                      go_simp
                      with_reducible rfl
                    (try simp only [glA, glB, glC, Act.put, glD, glE, glF])
                    refine wpAnyJ_take 10 (v := ?_) (by first | exact hF | exact wideFn) (HS.out _ Bd.out) rfl (by kernel_rfl) (by kernel_rfl) (by kernel_rfl) (by kernel_rfl) rfl ?_ (by first | exact fun _ _ _ h => h | exact fun _ _ _ h => hQ2 _ _ _ _ _ h) ?_
                    rotate_left
                    · intro W hSW
                      simp only [glA, glB, glC]
                      (try dsimp only at hSW)
                      go_simp
                      with_reducible rfl
                    (try simp only [glA, glB, glC, Act.put, glD, glE, glF])
                    refine wpAnyJ_take 11 (v := ?_) (by first | exact hF | exact wideFn) (HS.out _ Bd.out) rfl (by kernel_rfl) (by kernel_rfl) (by kernel_rfl) (by kernel_rfl) rfl ?_ (by first | exact fun _ _ _ h => h | exact fun _ _ _ h => hQ2 _ _ _ _ _ h) ?_
                    rotate_left
                    · intro W hSW
                      simp only [glA, glB, glC]
                      (try dsimp only at hSW)
                      go_simp
                      with_reducible rfl
                    (try simp only [glA, glB, glC, Act.put, glD, glE, glF])
                    refine wpAnyJ_take 12 (v := ?_) (by first | exact hF | exact wideFn) (HS.out _ Bd.out) rfl (by kernel_rfl) (by kernel_rfl) (by kernel_rfl) (by kernel_rfl) rfl ?_ (by first | exact fun _ _ _ h => h | exact fun _ _ _ h => hQ2 _ _ _ _ _ h) ?_
                    rotate_left
                    · intro W hSW
                      simp only [glA, glB, glC]
                      (try dsimp only at hSW)
                      go_simp
                      with_reducible rfl
                    (try simp only [glA, glB, glC, Act.put, glD, glE, glF])
                    refine wpAnyJ_done (by kernel_rfl) ?_
                    go_wp2_with fail
                    go_roundw
                    case rel => exact ⟨q + 1, by omega, by go_num, by rw [HF.out], Bd⟩
                    case measure => simp [intOf]; omega
                  · have hne := str_ne hyx
                    have HF : Hid (fnF J xw (q + 1) = false) := hide (by
                      show (fnF J xw q || decide (J.getD q noW = xw)) = false
                      rw [HYW.out, hf, decide_eq_false hyx]; rfl)
                    clear hyx
                    refine wpAnyJ_take 0 (v := ?_) (by first | exact hF | exact wideFn) (HS.out _ Bd.out) rfl (by kernel_rfl) (by kernel_rfl) (by kernel_rfl) (by kernel_rfl) rfl ?_ (by first | exact fun _ _ _ h => h | exact fun _ _ _ h => hQ2 _ _ _ _ _ h) ?_
                    rotate_left
                    · intro W hSW
                      simp only [glA, glB, glC]
                      (try dsimp only at hSW)
                      go_simp
                      with_reducible rfl
                    (try simp only [glA, glB, glC, Act.put, glD, glE, glF])
                    refine wpAnyJ_take 1 (v := ?_) (by first | exact hF | exact wideFn) (HS.out _ Bd.out) rfl (by kernel_rfl) (by kernel_rfl) (by kernel_rfl) (by kernel_rfl) rfl ?_ (by first | exact fun _ _ _ h => h | exact fun _ _ _ h => hQ2 _ _ _ _ _ h) ?_
                    rotate_left
                    · intro W hSW
                      simp only [glA, glB, glC]
                      (try dsimp only at hSW)
                      go_simp
                      with_reducible rfl
                    (try simp only [glA, glB, glC, Act.put, glD, glE, glF])
                    refine wpAnyJ_take 2 (v := ?_) (by first | exact hF | exact wideFn) (HS.out _ Bd.out) rfl (by kernel_rfl) (by kernel_rfl) (by kernel_rfl) (by kernel_rfl) rfl ?_ (by first | exact fun _ _ _ h => h | exact fun _ _ _ h => hQ2 _ _ _ _ _ h) ?_
                    rotate_left
                    · intro W hSW
                      simp only [glA, glB, glC]
                      (try dsimp only at hSW)
                      go_simp
                      with_reducible rfl
                    (try simp only [glA, glB, glC, Act.put, glD, glE, glF])
                    refine wpAnyJ_take 3 (v := ?_) (by first | exact hF | exact wideFn) (HS.out _ Bd.out) rfl (by kernel_rfl) (by kernel_rfl) (by kernel_rfl) (by kernel_rfl) rfl ?_ (by first | exact fun _ _ _ h => h | exact fun _ _ _ h => hQ2 _ _ _ _ _ h) ?_
                    rotate_left
                    · intro W hSW
                      simp only [glA, glB, glC]
                      (try dsimp only at hSW)
                      go_simp
                      with_reducible rfl
                    (try simp only [glA, glB, glC, Act.put, glD, glE, glF])
                    refine wpAnyJ_take 4 (v := ?_) (by first | exact hF | exact wideFn) (HS.out _ Bd.out) rfl (by kernel_rfl) (by kernel_rfl) (by kernel_rfl) (by kernel_rfl) rfl ?_ (by first | exact fun _ _ _ h => h | exact fun _ _ _ h => hQ2 _ _ _ _ _ h) ?_
                    rotate_left
                    · intro W hSW
                      simp only [glA, glB, glC]
                      (try dsimp only at hSW)
                      go_simp
                      with_reducible rfl
                    (try simp only [glA, glB, glC, Act.put, glD, glE, glF])
                    refine wpAnyJ_take 5 (v := ?_) (by first | exact hF | exact wideFn) (HS.out _ Bd.out) rfl (by kernel_rfl) (by kernel_rfl) (by kernel_rfl) (by kernel_rfl) rfl ?_ (by first | exact fun _ _ _ h => h | exact fun _ _ _ h => hQ2 _ _ _ _ _ h) ?_
                    rotate_left
                    · intro W hSW
                      simp only [glA, glB, glC]
                      (try dsimp only at hSW)
                      go_simp
                      with_reducible rfl
                    (try simp only [glA, glB, glC, Act.put, glD, glE, glF])
                    refine wpAnyJ_take 6 (v := ?_) (by first | exact hF | exact wideFn) (HS.out _ Bd.out) rfl (by kernel_rfl) (by kernel_rfl) (by kernel_rfl) (by kernel_rfl) rfl ?_ (by first | exact fun _ _ _ h => h | exact fun _ _ _ h => hQ2 _ _ _ _ _ h) ?_
                    rotate_left
                    · intro W hSW
                      simp only [glA, glB, glC]
                      (try dsimp only at hSW)
                      go_simp
                      with_reducible rfl
                    (try simp only [glA, glB, glC, Act.put, glD, glE, glF])
                    refine wpAnyJ_take 7 (v := ?_) (by first | exact hF | exact wideFn) (HS.out _ Bd.out) rfl (by kernel_rfl) (by kernel_rfl) (by kernel_rfl) (by kernel_rfl) rfl ?_ (by first | exact fun _ _ _ h => h | exact fun _ _ _ h => hQ2 _ _ _ _ _ h) ?_
                    rotate_left
                    · intro W hSW
                      simp only [glA, glB, glC]
                      (try dsimp only at hSW)
                      go_simp
                      with_reducible rfl
                    (try simp only [glA, glB, glC, Act.put, glD, glE, glF])
                    refine wpAnyJ_take 8 (v := ?_) (by first | exact hF | exact wideFn) (HS.out _ Bd.out) rfl (by kernel_rfl) (by kernel_rfl) (by kernel_rfl) (by kernel_rfl) rfl ?_ (by first | exact fun _ _ _ h => h | exact fun _ _ _ h => hQ2 _ _ _ _ _ h) ?_
                    rotate_left
                    · intro W hSW
                      simp only [glA, glB, glC]
                      (try dsimp only at hSW)
                      go_simp
                      with_reducible rfl
                    (try simp only [glA, glB, glC, Act.put, glD, glE, glF])
                    refine wpAnyJ_take 9 (v := ?_) (by first | exact hF | exact wideFn) (HS.out _ Bd.out) rfl (by kernel_rfl) (by kernel_rfl) (by kernel_rfl) (by kernel_rfl) rfl ?_ (by first | exact fun _ _ _ h => h | exact fun _ _ _ h => hQ2 _ _ _ _ _ h) ?_
                    rotate_left
                    · intro W hSW
                      simp only [glA, glB, glC]
                      (try dsimp only at hSW)
                      go_simp
                      with_reducible rfl
                    (try simp only [glA, glB, glC, Act.put, glD, glE, glF])
                    refine wpAnyJ_take 10 (v := ?_) (by first | exact hF | exact wideFn) (HS.out _ Bd.out) rfl (by kernel_rfl) (by kernel_rfl) (by kernel_rfl) (by kernel_rfl) rfl ?_ (by first | exact fun _ _ _ h => h | exact fun _ _ _ h => hQ2 _ _ _ _ _ h) ?_
                    rotate_left
                    · intro W hSW
                      simp only [glA, glB, glC]
                      (try dsimp only at hSW)
                      go_simp
                      with_reducible rfl
                    (try simp only [glA, glB, glC, Act.put, glD, glE, glF])
                    refine wpAnyJ_take 11 (v := ?_) (by first | exact hF | exact wideFn) (HS.out _ Bd.out) rfl (by kernel_rfl) (by kernel_rfl) (by kernel_rfl) (by kernel_rfl) rfl ?_ (by first | exact fun _ _ _ h => h | exact fun _ _ _ h => hQ2 _ _ _ _ _ h) ?_
                    rotate_left
                    · intro W hSW
                      simp only [glA, glB, glC]
                      (try dsimp only at hSW)
                      go_simp
                      with_reducible rfl
                    (try simp only [glA, glB, glC, Act.put, glD, glE, glF])
                    refine wpAnyJ_take 12 (v := ?_) (by first | exact hF | exact wideFn) (HS.out _ Bd.out) rfl (by kernel_rfl) (by kernel_rfl) (by kernel_rfl) (by kernel_rfl) rfl ?_ (by first | exact fun _ _ _ h => h | exact fun _ _ _ h => hQ2 _ _ _ _ _ h) ?_
                    rotate_left
                    · intro W hSW
                      simp only [glA, glB, glC]
                      (try dsimp only at hSW)
                      go_simp
                      with_reducible rfl
                    (try simp only [glA, glB, glC, Act.put, glD, glE, glF])
                    refine wpAnyJ_done (by kernel_rfl) ?_
                    go_wp2_with fail
                    go_roundw
                    case rel => exact ⟨q + 1, by omega, by go_num, by rw [HF.out], Bd⟩
                    case measure => simp [intOf]; omega
                · have HF : Hid (fnF J xw (q + 1) = true) := hide (by
                    show (fnF J xw q || decide (J.getD q noW = xw)) = true
                    rw [hf]; rfl)
                  refine wpAnyJ_take 0 (v := ?_) (by first | exact hF | exact wideFn) (HS.out _ Bd.out) rfl (by kernel_rfl) (by kernel_rfl) (by kernel_rfl) (by kernel_rfl) rfl ?_ (by first | exact fun _ _ _ h => h | exact fun _ _ _ h => hQ2 _ _ _ _ _ h) ?_
                  rotate_left
                  · intro W hSW
                    simp only [glA, glB, glC]
                    (try dsimp only at hSW)
                    go_simp
                    with_reducible rfl
                  (try simp only [glA, glB, glC, Act.put, glD, glE, glF])
                  refine wpAnyJ_take 1 (v := ?_) (by first | exact hF | exact wideFn) (HS.out _ Bd.out) rfl (by kernel_rfl) (by kernel_rfl) (by kernel_rfl) (by kernel_rfl) rfl ?_ (by first | exact fun _ _ _ h => h | exact fun _ _ _ h => hQ2 _ _ _ _ _ h) ?_
                  rotate_left
                  · intro W hSW
                    simp only [glA, glB, glC]
                    (try dsimp only at hSW)
                    go_simp
                    with_reducible rfl
                  (try simp only [glA, glB, glC, Act.put, glD, glE, glF])
                  refine wpAnyJ_skip 2 (by first | exact hF | exact wideFn) (HS.out _ Bd.out) rfl (by kernel_rfl) (by kernel_rfl) (by kernel_rfl) (by kernel_rfl) rfl (by first | exact fun _ _ _ h => h | exact fun _ _ _ h => hQ2 _ _ _ _ _ h) ?_
                  (try simp only [glA, glB, glC, Act.put, glD, glE, glF])
                  refine wpAnyJ_skip 3 (by first | exact hF | exact wideFn) (HS.out _ Bd.out) rfl (by kernel_rfl) (by kernel_rfl) (by kernel_rfl) (by kernel_rfl) rfl (by first | exact fun _ _ _ h => h | exact fun _ _ _ h => hQ2 _ _ _ _ _ h) ?_
                  (try simp only [glA, glB, glC, Act.put, glD, glE, glF])
                  refine wpAnyJ_skip 4 (by first | exact hF | exact wideFn) (HS.out _ Bd.out) rfl (by kernel_rfl) (by kernel_rfl) (by kernel_rfl) (by kernel_rfl) rfl (by first | exact fun _ _ _ h => h | exact fun _ _ _ h => hQ2 _ _ _ _ _ h) ?_
                  (try simp only [glA, glB, glC, Act.put, glD, glE, glF])
                  refine wpAnyJ_skip 5 (by first | exact hF | exact wideFn) (HS.out _ Bd.out) rfl (by kernel_rfl) (by kernel_rfl) (by kernel_rfl) (by kernel_rfl) rfl (by first | exact fun _ _ _ h => h | exact fun _ _ _ h => hQ2 _ _ _ _ _ h) ?_
                  (try simp only [glA, glB, glC, Act.put, glD, glE, glF])
                  refine wpAnyJ_skip 6 (by first | exact hF | exact wideFn) (HS.out _ Bd.out) rfl (by kernel_rfl) (by kernel_rfl) (by kernel_rfl) (by kernel_rfl) rfl (by first | exact fun _ _ _ h => h | exact fun _ _ _ h => hQ2 _ _ _ _ _ h) ?_
                  (try simp only [glA, glB, glC, Act.put, glD, glE, glF])
                  refine wpAnyJ_skip 7 (by first | exact hF | exact wideFn) (HS.out _ Bd.out) rfl (by kernel_rfl) (by kernel_rfl) (by kernel_rfl) (by kernel_rfl) rfl (by first | exact fun _ _ _ h => h | exact fun _ _ _ h => hQ2 _ _ _ _ _ h) ?_
                  (try simp only [glA, glB, glC, Act.put, glD, glE, glF])
                  refine wpAnyJ_skip 8 (by first | exact hF | exact wideFn) (HS.out _ Bd.out) rfl (by kernel_rfl) (by kernel_rfl) (by kernel_rfl) (by kernel_rfl) rfl (by first | exact fun _ _ _ h => h | exact fun _ _ _ h => hQ2 _ _ _ _ _ h) ?_
                  (try simp only [glA, glB, glC, Act.put, glD, glE, glF])
                  refine wpAnyJ_skip 9 (by first | exact hF | exact wideFn) (HS.out _ Bd.out) rfl (by kernel_rfl) (by kernel_rfl) (by kernel_rfl) (by kernel_rfl) rfl (by first | exact fun _ _ _ h => h | exact fun _ _ _ h => hQ2 _ _ _ _ _ h) ?_
                  (try simp only [glA, glB, glC, Act.put, glD, glE, glF])
                  refine wpAnyJ_skip 10 (by first | exact hF | exact wideFn) (HS.out _ Bd.out) rfl (by kernel_rfl) (by kernel_rfl) (by kernel_rfl) (by kernel_rfl) rfl (by first | exact fun _ _ _ h => h | exact fun _ _ _ h => hQ2 _ _ _ _ _ h) ?_
                  (try simp only [glA, glB, glC, Act.put, glD, glE, glF])
                  refine wpAnyJ_take 11 (v := ?_) (by first | exact hF | exact wideFn) (HS.out _ Bd.out) rfl (by kernel_rfl) (by kernel_rfl) (by kernel_rfl) (by kernel_rfl) rfl ?_ (by first | exact fun _ _ _ h => h | exact fun _ _ _ h => hQ2 _ _ _ _ _ h) ?_
                  rotate_left
                  · intro W hSW
                    simp only [glA, glB, glC]
                    (try dsimp only at hSW)
                    go_simp
                    with_reducible rfl
                  (try simp only [glA, glB, glC, Act.put, glD, glE, glF])
                  refine wpAnyJ_take 12 (v := ?_) (by first | exact hF | exact wideFn) (HS.out _ Bd.out) rfl (by kernel_rfl) (by kernel_rfl) (by kernel_rfl) (by kernel_rfl) rfl ?_ (by first | exact fun _ _ _ h => h | exact fun _ _ _ h => hQ2 _ _ _ _ _ h) ?_
                  rotate_left
                  · intro W hSW
                    simp only [glA, glB, glC]
                    (try dsimp only at hSW)
                    go_simp
                    with_reducible rfl
                  (try simp only [glA, glB, glC, Act.put, glD, glE, glF])
                  refine wpAnyJ_done (by kernel_rfl) ?_
                  go_wp2_with fail
                  go_roundw
                  case rel => exact ⟨q + 1, by omega, by go_num, by rw [HF.out], Bd⟩
                  case measure => simp [intOf]; omega
              · obtain rfl : q = nj := by omega
                have hnq : ¬ (q : Int) < (q : Int) := by omega
                rw [HMEM.out]
                go_wp2_with fail
                go_roundw
                case rel => exact ⟨k + 1, by omega, by go_num, HBQ⟩
                case measure => simp [intOf]; omega
          · obtain rfl : k = L := by omega
            have hnk : ¬ (k : Int) < (k : Int) := by omega
            have HK := hide (known_any wr)
            go_wp2_with fail
            refine HK.out.mono ?_
            rintro e w6 ⟨rfl, hb6⟩
            go_wp2_with fail
            go_ret
            exact ⟨rfl, (Bj2.out.trans (HBW.out.mono Bj2.out.size)).trans (hb6.mono (Nat.le_trans Bj2.out.size HBW.out.size))⟩
    · have n1 : (n == 0) = false := by simp; omega
      have n2 : ((n : Int) == 0) = false := by simp; omega
      rcases HCD.out with h | h | h <;> subst h
      all_goals
        go_wp2_with fail
        refine (HWo.out w10 B10.out).mono ?_
        rintro e w11 ⟨vs1, rfl, hos1, hbs1⟩
        obtain ⟨As1, cs1, rfl⟩ := own_shape hos1
        have B11 := hide (B10.out.trans (hbs1.mono B10.out.size))
        have Os1 := hide hos1
        have Gs1 := hide hbs1
        rw [HN.out.1]
        clear hbs1 hos1
        obtain ⟨v', wj1, hrun, ho1, hg, -⟩ := OwnS.pushes Os1.out A1 d a ((ER.below HA1.out B11.out (Nat.le_refl _)).more B11.out.size) (by rw [HN.out.1, HN.out.2.1]; have := H25.out; omega) (Gs1.out.size)
        have hbj1 := Gs1.out.grown hg Gs1.out.size (fun k hk => (World.ownsRow.lt Os1.out k hk).1)
        have Bj1 := hide (B10.out.trans (hbj1.mono B10.out.size))
        obtain ⟨v2, wj2, hrun2, ho2, hg2, -⟩ := OwnS.pushes ho1 A2 f b ((ER.below HA2.out Bj1.out (Nat.le_refl _)).more Bj1.out.size) (by rw [List.length_append, HN.out.1, HN.out.2.1, HN.out.2.2]; have := H25.out; omega) hbj1.size
        have hbj2 := hbj1.grown hg2 hbj1.size (fun k hk => (World.ownsRow.lt ho1 k hk).1)
        obtain ⟨Aj1, cj1, hv1⟩ := own_shape ho1
        obtain ⟨nn, hnn⟩ : ∃ x, (o ++ a).length = x := ⟨_, rfl⟩
        rw [hnn] at hv1
        subst hv1
        rw [HN.out.1, HN.out.2.1] at hrun
        rw [HN.out.2.2] at hrun2
        have R1 := hide hrun
        have R2 := hide hrun2
        have Bj2 := hide (B10.out.trans (hbj2.mono B10.out.size))
        have hsx := (OwnS.ext Ox.out hbj2).sr
        obtain ⟨J, hJ⟩ : ∃ J, o ++ a ++ b = J := ⟨_, rfl⟩
        rw [hJ] at ho2
        obtain ⟨AJ, cJ, hv2⟩ := own_shape ho2
        obtain ⟨nj, hnj⟩ : ∃ n, J.length = n := ⟨_, rfl⟩
        have hnj2 : nj ≤ 100000 := by
          rw [← hnj, ← hJ, List.length_append, List.length_append, HN.out.1, HN.out.2.1, HN.out.2.2]
          have := H25.out
          omega
        rw [hnj] at hv2
        subst hv2
        have hsj := ho2.sr.2
        have HX := hide hsx.2
        have HJ := hide hsj
        have HNJ := hide hnj
        have HW' : Hid (∀ x ∈ ml, x ∈ J) := hide (by rw [← hJ]; exact HWD.out)
        clear hrun hrun2 ho1 ho2 hg hg2 hbj1 hbj2 hsx hsj hJ hnj Os1 Gs1 hnn
        go_wp2_with (at_builtin; first | refine wpList_append_run rfl (.tmp 150) (.tmp 151) 22 rfl rfl rfl R1.out ?_ | refine wpList_append_run rfl (.tmp 152) (.tmp 153) 22 rfl rfl rfl R2.out ?_)
        unfold maxLen at hL2
        go_loopw [20] (fun i wr => ∃ k : Nat, k ≤ L ∧ i = .int .i64 k ∧ Hid (Below wj2.heap.size wj2 wr)) (fun i _ => L - (intOf i).toNat)
        case atStart => exact ⟨0, Nat.zero_le _, rfl, hide (Below.refl _ _)⟩
        case round =>
          obtain ⟨k, hk, rfl, HBW⟩ := hrel
          by_cases hlt : k < L
          · have hlt' : (k : Int) < (L : Int) := by omega
            have k0 : (0 : Int) ≤ (k : Int) := by omega
            have hst : IntKind.i64.wrap ((k : Int) + 1) = ((k + 1 : Nat) : Int) := by rw [IntWalk.i64_in _ (by omega)]; omega
            obtain ⟨xb, xo, hAx, hxb, cx0⟩ := HX.out.at_ (k := k) (by rw [HL.out]; exact hlt)
            subst hAx
            obtain ⟨xw, hxw⟩ : ∃ x, ml.getD k noW = x := ⟨_, rfl⟩
            rw [hxw] at cx0
            have hmem : fnF J xw nj = true := by
              rw [← HNJ.out]
              refine fnF_mem (HW'.out xw ?_)
              rw [← hxw, List.getD_eq_getElem?_getD, List.getElem?_eq_getElem (by rw [HL.out]; exact hlt)]
              exact List.getElem_mem _
            have HMEM := hide hmem
            clear hxw hmem
            go_wp2_with fail
            go_loopw [21, 22] (fun fl x wq => ∃ q : Nat, q ≤ nj ∧ x = .int .i64 q ∧ fl = .bool (fnF J xw q) ∧ Hid (Below wj2.heap.size wj2 wq)) (fun _ x _ => nj - (intOf x).toNat)
            case atStart => exact ⟨0, Nat.zero_le _, rfl, rfl, HBW⟩
            case round =>
              obtain ⟨q, hq, rfl, rfl, HBQ⟩ := hrel
              by_cases hqt : q < nj
              · have hqt' : (q : Int) < (nj : Int) := by omega
                have q0 : (0 : Int) ≤ (q : Int) := by omega
                have qst : IntKind.i64.wrap ((q : Int) + 1) = ((q + 1 : Nat) : Int) := by rw [IntWalk.i64_in _ (by omega)]; omega
                obtain ⟨jb, jo, hAj, hjb, cj0⟩ := HJ.out.at_ (k := q) (by rw [HNJ.out]; exact hqt)
                subst hAj
                obtain ⟨yw, hyw⟩ : ∃ x, J.getD q noW = x := ⟨_, rfl⟩
                rw [hyw] at cj0
                have HYW := hide hyw
                have HS : Hid (∀ W, Below wj2.heap.size wj2 W → (W.cell? ⟨xb, xo + k, none⟩ = some (.string xw) ∧ W.cell? ⟨jb, jo + q, none⟩ = some (.string yw))) := hide fun W h => ⟨(h.cell (p := ⟨xb, xo + k, none⟩) hxb).trans cx0, (h.cell (p := ⟨jb, jo + q, none⟩) hjb).trans cj0⟩
                clear cx0 cj0 hyw HBW
                go_upto_region 21 with fail
                have Bd := hide (HBQ.out.trans ((Below.refl wr.heap.size wr).drew.mono HBQ.out.size))
                refine wp_region_J (fun W : World => (W.cell? ⟨xb, xo + k, none⟩ = some (.string xw) ∧ W.cell? ⟨jb, jo + q, none⟩ = some (.string yw))) (by kernel_rfl) ?_
                generalize wr.drew = wz at Bd ⊢
                rcases hf : fnF J xw q with _ | _
                · by_cases hyx : yw = xw
                  · subst hyx
                    have HF : Hid (fnF J yw (q + 1) = true) := hide (by
                      show (fnF J yw q || decide (J.getD q noW = yw)) = true
                      rw [HYW.out]; simp)
                    refine wpAnyJ_take 0 (v := ?_) (by first | exact hF | exact wideFn) (HS.out _ Bd.out) rfl (by kernel_rfl) (by kernel_rfl) (by kernel_rfl) (by kernel_rfl) rfl ?_ (by first | exact fun _ _ _ h => h | exact fun _ _ _ h => hQ2 _ _ _ _ _ h) ?_
                    rotate_left
                    · intro W hSW
                      simp only [glA, glB, glC]
                      (try dsimp only at hSW)
                      go_simp
                      with_reducible rfl
                    (try simp only [glA, glB, glC, Act.put, glD, glE, glF])
                    refine wpAnyJ_take 1 (v := ?_) (by first | exact hF | exact wideFn) (HS.out _ Bd.out) rfl (by kernel_rfl) (by kernel_rfl) (by kernel_rfl) (by kernel_rfl) rfl ?_ (by first | exact fun _ _ _ h => h | exact fun _ _ _ h => hQ2 _ _ _ _ _ h) ?_
                    rotate_left
                    · intro W hSW
                      simp only [glA, glB, glC]
                      (try dsimp only at hSW)
                      go_simp
                      with_reducible rfl
                    (try simp only [glA, glB, glC, Act.put, glD, glE, glF])
                    refine wpAnyJ_take 2 (v := ?_) (by first | exact hF | exact wideFn) (HS.out _ Bd.out) rfl (by kernel_rfl) (by kernel_rfl) (by kernel_rfl) (by kernel_rfl) rfl ?_ (by first | exact fun _ _ _ h => h | exact fun _ _ _ h => hQ2 _ _ _ _ _ h) ?_
                    rotate_left
                    · intro W hSW
                      simp only [glA, glB, glC]
                      (try dsimp only at hSW)
                      go_simp
                      with_reducible rfl
                    (try simp only [glA, glB, glC, Act.put, glD, glE, glF])
                    refine wpAnyJ_take 3 (v := ?_) (by first | exact hF | exact wideFn) (HS.out _ Bd.out) rfl (by kernel_rfl) (by kernel_rfl) (by kernel_rfl) (by kernel_rfl) rfl ?_ (by first | exact fun _ _ _ h => h | exact fun _ _ _ h => hQ2 _ _ _ _ _ h) ?_
                    rotate_left
                    · intro W hSW
                      simp only [glA, glB, glC]
                      (try dsimp only at hSW)
                      go_simp
                      with_reducible rfl
                    (try simp only [glA, glB, glC, Act.put, glD, glE, glF])
                    refine wpAnyJ_take 4 (v := ?_) (by first | exact hF | exact wideFn) (HS.out _ Bd.out) rfl (by kernel_rfl) (by kernel_rfl) (by kernel_rfl) (by kernel_rfl) rfl ?_ (by first | exact fun _ _ _ h => h | exact fun _ _ _ h => hQ2 _ _ _ _ _ h) ?_
                    rotate_left
                    · intro W hSW
                      simp only [glA, glB, glC]
                      (try dsimp only at hSW)
                      go_simp
                      with_reducible rfl
                    (try simp only [glA, glB, glC, Act.put, glD, glE, glF])
                    refine wpAnyJ_take 5 (v := ?_) (by first | exact hF | exact wideFn) (HS.out _ Bd.out) rfl (by kernel_rfl) (by kernel_rfl) (by kernel_rfl) (by kernel_rfl) rfl ?_ (by first | exact fun _ _ _ h => h | exact fun _ _ _ h => hQ2 _ _ _ _ _ h) ?_
                    rotate_left
                    · intro W hSW
                      simp only [glA, glB, glC]
                      (try dsimp only at hSW)
                      go_simp
                      with_reducible rfl
                    (try simp only [glA, glB, glC, Act.put, glD, glE, glF])
                    refine wpAnyJ_take 6 (v := ?_) (by first | exact hF | exact wideFn) (HS.out _ Bd.out) rfl (by kernel_rfl) (by kernel_rfl) (by kernel_rfl) (by kernel_rfl) rfl ?_ (by first | exact fun _ _ _ h => h | exact fun _ _ _ h => hQ2 _ _ _ _ _ h) ?_
                    rotate_left
                    · intro W hSW
                      simp only [glA, glB, glC]
                      (try dsimp only at hSW)
                      go_simp
                      with_reducible rfl
                    (try simp only [glA, glB, glC, Act.put, glD, glE, glF])
                    refine wpAnyJ_take 7 (v := ?_) (by first | exact hF | exact wideFn) (HS.out _ Bd.out) rfl (by kernel_rfl) (by kernel_rfl) (by kernel_rfl) (by kernel_rfl) rfl ?_ (by first | exact fun _ _ _ h => h | exact fun _ _ _ h => hQ2 _ _ _ _ _ h) ?_
                    rotate_left
                    · intro W hSW
                      simp only [glA, glB, glC]
                      (try dsimp only at hSW)
                      go_simp
                      with_reducible rfl
                    (try simp only [glA, glB, glC, Act.put, glD, glE, glF])
                    refine wpAnyJ_take 8 (v := ?_) (by first | exact hF | exact wideFn) (HS.out _ Bd.out) rfl (by kernel_rfl) (by kernel_rfl) (by kernel_rfl) (by kernel_rfl) rfl ?_ (by first | exact fun _ _ _ h => h | exact fun _ _ _ h => hQ2 _ _ _ _ _ h) ?_
                    rotate_left
                    · intro W hSW
                      simp only [glA, glB, glC]
                      (try dsimp only at hSW)
                      go_simp
                      with_reducible rfl
                    (try simp only [glA, glB, glC, Act.put, glD, glE, glF])
                    refine wpAnyJ_take 9 (v := ?_) (by first | exact hF | exact wideFn) (HS.out _ Bd.out) rfl (by kernel_rfl) (by kernel_rfl) (by kernel_rfl) (by kernel_rfl) rfl ?_ (by first | exact fun _ _ _ h => h | exact fun _ _ _ h => hQ2 _ _ _ _ _ h) ?_
                    rotate_left
                    · intro W hSW
                      simp only [glA, glB, glC]
                      (try dsimp only at hSW)
                      go_simp
                      with_reducible rfl
                    (try simp only [glA, glB, glC, Act.put, glD, glE, glF])
                    refine wpAnyJ_take 10 (v := ?_) (by first | exact hF | exact wideFn) (HS.out _ Bd.out) rfl (by kernel_rfl) (by kernel_rfl) (by kernel_rfl) (by kernel_rfl) rfl ?_ (by first | exact fun _ _ _ h => h | exact fun _ _ _ h => hQ2 _ _ _ _ _ h) ?_
                    rotate_left
                    · intro W hSW
                      simp only [glA, glB, glC]
                      (try dsimp only at hSW)
                      go_simp
                      with_reducible rfl
                    (try simp only [glA, glB, glC, Act.put, glD, glE, glF])
                    refine wpAnyJ_take 11 (v := ?_) (by first | exact hF | exact wideFn) (HS.out _ Bd.out) rfl (by kernel_rfl) (by kernel_rfl) (by kernel_rfl) (by kernel_rfl) rfl ?_ (by first | exact fun _ _ _ h => h | exact fun _ _ _ h => hQ2 _ _ _ _ _ h) ?_
                    rotate_left
                    · intro W hSW
                      simp only [glA, glB, glC]
                      (try dsimp only at hSW)
                      go_simp
                      with_reducible rfl
                    (try simp only [glA, glB, glC, Act.put, glD, glE, glF])
                    refine wpAnyJ_take 12 (v := ?_) (by first | exact hF | exact wideFn) (HS.out _ Bd.out) rfl (by kernel_rfl) (by kernel_rfl) (by kernel_rfl) (by kernel_rfl) rfl ?_ (by first | exact fun _ _ _ h => h | exact fun _ _ _ h => hQ2 _ _ _ _ _ h) ?_
                    rotate_left
                    · intro W hSW
                      simp only [glA, glB, glC]
                      (try dsimp only at hSW)
                      go_simp
                      with_reducible rfl
                    (try simp only [glA, glB, glC, Act.put, glD, glE, glF])
                    refine wpAnyJ_done (by kernel_rfl) ?_
                    go_wp2_with fail
                    go_roundw
                    case rel => exact ⟨q + 1, by omega, by go_num, by rw [HF.out], Bd⟩
                    case measure => simp [intOf]; omega
                  · have hne := str_ne hyx
                    have HF : Hid (fnF J xw (q + 1) = false) := hide (by
                      show (fnF J xw q || decide (J.getD q noW = xw)) = false
                      rw [HYW.out, hf, decide_eq_false hyx]; rfl)
                    clear hyx
                    refine wpAnyJ_take 0 (v := ?_) (by first | exact hF | exact wideFn) (HS.out _ Bd.out) rfl (by kernel_rfl) (by kernel_rfl) (by kernel_rfl) (by kernel_rfl) rfl ?_ (by first | exact fun _ _ _ h => h | exact fun _ _ _ h => hQ2 _ _ _ _ _ h) ?_
                    rotate_left
                    · intro W hSW
                      simp only [glA, glB, glC]
                      (try dsimp only at hSW)
                      go_simp
                      with_reducible rfl
                    (try simp only [glA, glB, glC, Act.put, glD, glE, glF])
                    refine wpAnyJ_take 1 (v := ?_) (by first | exact hF | exact wideFn) (HS.out _ Bd.out) rfl (by kernel_rfl) (by kernel_rfl) (by kernel_rfl) (by kernel_rfl) rfl ?_ (by first | exact fun _ _ _ h => h | exact fun _ _ _ h => hQ2 _ _ _ _ _ h) ?_
                    rotate_left
                    · intro W hSW
                      simp only [glA, glB, glC]
                      (try dsimp only at hSW)
                      go_simp
                      with_reducible rfl
                    (try simp only [glA, glB, glC, Act.put, glD, glE, glF])
                    refine wpAnyJ_take 2 (v := ?_) (by first | exact hF | exact wideFn) (HS.out _ Bd.out) rfl (by kernel_rfl) (by kernel_rfl) (by kernel_rfl) (by kernel_rfl) rfl ?_ (by first | exact fun _ _ _ h => h | exact fun _ _ _ h => hQ2 _ _ _ _ _ h) ?_
                    rotate_left
                    · intro W hSW
                      simp only [glA, glB, glC]
                      (try dsimp only at hSW)
                      go_simp
                      with_reducible rfl
                    (try simp only [glA, glB, glC, Act.put, glD, glE, glF])
                    refine wpAnyJ_take 3 (v := ?_) (by first | exact hF | exact wideFn) (HS.out _ Bd.out) rfl (by kernel_rfl) (by kernel_rfl) (by kernel_rfl) (by kernel_rfl) rfl ?_ (by first | exact fun _ _ _ h => h | exact fun _ _ _ h => hQ2 _ _ _ _ _ h) ?_
                    rotate_left
                    · intro W hSW
                      simp only [glA, glB, glC]
                      (try dsimp only at hSW)
                      go_simp
                      with_reducible rfl
                    (try simp only [glA, glB, glC, Act.put, glD, glE, glF])
                    refine wpAnyJ_take 4 (v := ?_) (by first | exact hF | exact wideFn) (HS.out _ Bd.out) rfl (by kernel_rfl) (by kernel_rfl) (by kernel_rfl) (by kernel_rfl) rfl ?_ (by first | exact fun _ _ _ h => h | exact fun _ _ _ h => hQ2 _ _ _ _ _ h) ?_
                    rotate_left
                    · intro W hSW
                      simp only [glA, glB, glC]
                      (try dsimp only at hSW)
                      go_simp
                      with_reducible rfl
                    (try simp only [glA, glB, glC, Act.put, glD, glE, glF])
                    refine wpAnyJ_take 5 (v := ?_) (by first | exact hF | exact wideFn) (HS.out _ Bd.out) rfl (by kernel_rfl) (by kernel_rfl) (by kernel_rfl) (by kernel_rfl) rfl ?_ (by first | exact fun _ _ _ h => h | exact fun _ _ _ h => hQ2 _ _ _ _ _ h) ?_
                    rotate_left
                    · intro W hSW
                      simp only [glA, glB, glC]
                      (try dsimp only at hSW)
                      go_simp
                      with_reducible rfl
                    (try simp only [glA, glB, glC, Act.put, glD, glE, glF])
                    refine wpAnyJ_take 6 (v := ?_) (by first | exact hF | exact wideFn) (HS.out _ Bd.out) rfl (by kernel_rfl) (by kernel_rfl) (by kernel_rfl) (by kernel_rfl) rfl ?_ (by first | exact fun _ _ _ h => h | exact fun _ _ _ h => hQ2 _ _ _ _ _ h) ?_
                    rotate_left
                    · intro W hSW
                      simp only [glA, glB, glC]
                      (try dsimp only at hSW)
                      go_simp
                      with_reducible rfl
                    (try simp only [glA, glB, glC, Act.put, glD, glE, glF])
                    refine wpAnyJ_take 7 (v := ?_) (by first | exact hF | exact wideFn) (HS.out _ Bd.out) rfl (by kernel_rfl) (by kernel_rfl) (by kernel_rfl) (by kernel_rfl) rfl ?_ (by first | exact fun _ _ _ h => h | exact fun _ _ _ h => hQ2 _ _ _ _ _ h) ?_
                    rotate_left
                    · intro W hSW
                      simp only [glA, glB, glC]
                      (try dsimp only at hSW)
                      go_simp
                      with_reducible rfl
                    (try simp only [glA, glB, glC, Act.put, glD, glE, glF])
                    refine wpAnyJ_take 8 (v := ?_) (by first | exact hF | exact wideFn) (HS.out _ Bd.out) rfl (by kernel_rfl) (by kernel_rfl) (by kernel_rfl) (by kernel_rfl) rfl ?_ (by first | exact fun _ _ _ h => h | exact fun _ _ _ h => hQ2 _ _ _ _ _ h) ?_
                    rotate_left
                    · intro W hSW
                      simp only [glA, glB, glC]
                      (try dsimp only at hSW)
                      go_simp
                      with_reducible rfl
                    (try simp only [glA, glB, glC, Act.put, glD, glE, glF])
                    refine wpAnyJ_take 9 (v := ?_) (by first | exact hF | exact wideFn) (HS.out _ Bd.out) rfl (by kernel_rfl) (by kernel_rfl) (by kernel_rfl) (by kernel_rfl) rfl ?_ (by first | exact fun _ _ _ h => h | exact fun _ _ _ h => hQ2 _ _ _ _ _ h) ?_
                    rotate_left
                    · intro W hSW
                      simp only [glA, glB, glC]
                      (try dsimp only at hSW)
                      go_simp
                      with_reducible rfl
                    (try simp only [glA, glB, glC, Act.put, glD, glE, glF])
                    refine wpAnyJ_take 10 (v := ?_) (by first | exact hF | exact wideFn) (HS.out _ Bd.out) rfl (by kernel_rfl) (by kernel_rfl) (by kernel_rfl) (by kernel_rfl) rfl ?_ (by first | exact fun _ _ _ h => h | exact fun _ _ _ h => hQ2 _ _ _ _ _ h) ?_
                    rotate_left
                    · intro W hSW
                      simp only [glA, glB, glC]
                      (try dsimp only at hSW)
                      go_simp
                      with_reducible rfl
                    (try simp only [glA, glB, glC, Act.put, glD, glE, glF])
                    refine wpAnyJ_take 11 (v := ?_) (by first | exact hF | exact wideFn) (HS.out _ Bd.out) rfl (by kernel_rfl) (by kernel_rfl) (by kernel_rfl) (by kernel_rfl) rfl ?_ (by first | exact fun _ _ _ h => h | exact fun _ _ _ h => hQ2 _ _ _ _ _ h) ?_
                    rotate_left
                    · intro W hSW
                      simp only [glA, glB, glC]
                      (try dsimp only at hSW)
                      go_simp
                      with_reducible rfl
                    (try simp only [glA, glB, glC, Act.put, glD, glE, glF])
                    refine wpAnyJ_take 12 (v := ?_) (by first | exact hF | exact wideFn) (HS.out _ Bd.out) rfl (by kernel_rfl) (by kernel_rfl) (by kernel_rfl) (by kernel_rfl) rfl ?_ (by first | exact fun _ _ _ h => h | exact fun _ _ _ h => hQ2 _ _ _ _ _ h) ?_
                    rotate_left
                    · intro W hSW
                      simp only [glA, glB, glC]
                      (try dsimp only at hSW)
                      go_simp
                      with_reducible rfl
                    (try simp only [glA, glB, glC, Act.put, glD, glE, glF])
                    refine wpAnyJ_done (by kernel_rfl) ?_
                    go_wp2_with fail
                    go_roundw
                    case rel => exact ⟨q + 1, by omega, by go_num, by rw [HF.out], Bd⟩
                    case measure => simp [intOf]; omega
                · have HF : Hid (fnF J xw (q + 1) = true) := hide (by
                    show (fnF J xw q || decide (J.getD q noW = xw)) = true
                    rw [hf]; rfl)
                  refine wpAnyJ_take 0 (v := ?_) (by first | exact hF | exact wideFn) (HS.out _ Bd.out) rfl (by kernel_rfl) (by kernel_rfl) (by kernel_rfl) (by kernel_rfl) rfl ?_ (by first | exact fun _ _ _ h => h | exact fun _ _ _ h => hQ2 _ _ _ _ _ h) ?_
                  rotate_left
                  · intro W hSW
                    simp only [glA, glB, glC]
                    (try dsimp only at hSW)
                    go_simp
                    with_reducible rfl
                  (try simp only [glA, glB, glC, Act.put, glD, glE, glF])
                  refine wpAnyJ_take 1 (v := ?_) (by first | exact hF | exact wideFn) (HS.out _ Bd.out) rfl (by kernel_rfl) (by kernel_rfl) (by kernel_rfl) (by kernel_rfl) rfl ?_ (by first | exact fun _ _ _ h => h | exact fun _ _ _ h => hQ2 _ _ _ _ _ h) ?_
                  rotate_left
                  · intro W hSW
                    simp only [glA, glB, glC]
                    (try dsimp only at hSW)
                    go_simp
                    with_reducible rfl
                  (try simp only [glA, glB, glC, Act.put, glD, glE, glF])
                  refine wpAnyJ_skip 2 (by first | exact hF | exact wideFn) (HS.out _ Bd.out) rfl (by kernel_rfl) (by kernel_rfl) (by kernel_rfl) (by kernel_rfl) rfl (by first | exact fun _ _ _ h => h | exact fun _ _ _ h => hQ2 _ _ _ _ _ h) ?_
                  (try simp only [glA, glB, glC, Act.put, glD, glE, glF])
                  refine wpAnyJ_skip 3 (by first | exact hF | exact wideFn) (HS.out _ Bd.out) rfl (by kernel_rfl) (by kernel_rfl) (by kernel_rfl) (by kernel_rfl) rfl (by first | exact fun _ _ _ h => h | exact fun _ _ _ h => hQ2 _ _ _ _ _ h) ?_
                  (try simp only [glA, glB, glC, Act.put, glD, glE, glF])
                  refine wpAnyJ_skip 4 (by first | exact hF | exact wideFn) (HS.out _ Bd.out) rfl (by kernel_rfl) (by kernel_rfl) (by kernel_rfl) (by kernel_rfl) rfl (by first | exact fun _ _ _ h => h | exact fun _ _ _ h => hQ2 _ _ _ _ _ h) ?_
                  (try simp only [glA, glB, glC, Act.put, glD, glE, glF])
                  refine wpAnyJ_skip 5 (by first | exact hF | exact wideFn) (HS.out _ Bd.out) rfl (by kernel_rfl) (by kernel_rfl) (by kernel_rfl) (by kernel_rfl) rfl (by first | exact fun _ _ _ h => h | exact fun _ _ _ h => hQ2 _ _ _ _ _ h) ?_
                  (try simp only [glA, glB, glC, Act.put, glD, glE, glF])
                  refine wpAnyJ_skip 6 (by first | exact hF | exact wideFn) (HS.out _ Bd.out) rfl (by kernel_rfl) (by kernel_rfl) (by kernel_rfl) (by kernel_rfl) rfl (by first | exact fun _ _ _ h => h | exact fun _ _ _ h => hQ2 _ _ _ _ _ h) ?_
                  (try simp only [glA, glB, glC, Act.put, glD, glE, glF])
                  refine wpAnyJ_skip 7 (by first | exact hF | exact wideFn) (HS.out _ Bd.out) rfl (by kernel_rfl) (by kernel_rfl) (by kernel_rfl) (by kernel_rfl) rfl (by first | exact fun _ _ _ h => h | exact fun _ _ _ h => hQ2 _ _ _ _ _ h) ?_
                  (try simp only [glA, glB, glC, Act.put, glD, glE, glF])
                  refine wpAnyJ_skip 8 (by first | exact hF | exact wideFn) (HS.out _ Bd.out) rfl (by kernel_rfl) (by kernel_rfl) (by kernel_rfl) (by kernel_rfl) rfl (by first | exact fun _ _ _ h => h | exact fun _ _ _ h => hQ2 _ _ _ _ _ h) ?_
                  (try simp only [glA, glB, glC, Act.put, glD, glE, glF])
                  refine wpAnyJ_skip 9 (by first | exact hF | exact wideFn) (HS.out _ Bd.out) rfl (by kernel_rfl) (by kernel_rfl) (by kernel_rfl) (by kernel_rfl) rfl (by first | exact fun _ _ _ h => h | exact fun _ _ _ h => hQ2 _ _ _ _ _ h) ?_
                  (try simp only [glA, glB, glC, Act.put, glD, glE, glF])
                  refine wpAnyJ_skip 10 (by first | exact hF | exact wideFn) (HS.out _ Bd.out) rfl (by kernel_rfl) (by kernel_rfl) (by kernel_rfl) (by kernel_rfl) rfl (by first | exact fun _ _ _ h => h | exact fun _ _ _ h => hQ2 _ _ _ _ _ h) ?_
                  (try simp only [glA, glB, glC, Act.put, glD, glE, glF])
                  refine wpAnyJ_take 11 (v := ?_) (by first | exact hF | exact wideFn) (HS.out _ Bd.out) rfl (by kernel_rfl) (by kernel_rfl) (by kernel_rfl) (by kernel_rfl) rfl ?_ (by first | exact fun _ _ _ h => h | exact fun _ _ _ h => hQ2 _ _ _ _ _ h) ?_
                  rotate_left
                  · intro W hSW
                    simp only [glA, glB, glC]
                    (try dsimp only at hSW)
                    go_simp
                    with_reducible rfl
                  (try simp only [glA, glB, glC, Act.put, glD, glE, glF])
                  refine wpAnyJ_take 12 (v := ?_) (by first | exact hF | exact wideFn) (HS.out _ Bd.out) rfl (by kernel_rfl) (by kernel_rfl) (by kernel_rfl) (by kernel_rfl) rfl ?_ (by first | exact fun _ _ _ h => h | exact fun _ _ _ h => hQ2 _ _ _ _ _ h) ?_
                  rotate_left
                  · intro W hSW
                    simp only [glA, glB, glC]
                    (try dsimp only at hSW)
                    go_simp
                    with_reducible rfl
                  (try simp only [glA, glB, glC, Act.put, glD, glE, glF])
                  refine wpAnyJ_done (by kernel_rfl) ?_
                  go_wp2_with fail
                  go_roundw
                  case rel => exact ⟨q + 1, by omega, by go_num, by rw [HF.out], Bd⟩
                  case measure => simp [intOf]; omega
              · obtain rfl : q = nj := by omega
                have hnq : ¬ (q : Int) < (q : Int) := by omega
                rw [HMEM.out]
                go_wp2_with fail
                go_roundw
                case rel => exact ⟨k + 1, by omega, by go_num, HBQ⟩
                case measure => simp [intOf]; omega
          · obtain rfl : k = L := by omega
            have hnk : ¬ (k : Int) < (k : Int) := by omega
            have HK := hide (known_any wr)
            go_wp2_with fail
            refine HK.out.mono ?_
            rintro e w6 ⟨rfl, hb6⟩
            go_wp2_with fail
            go_ret
            exact ⟨rfl, (Bj2.out.trans (HBW.out.mono Bj2.out.size)).trans (hb6.mono (Nat.le_trans Bj2.out.size HBW.out.size))⟩
end Go.Proofs.YtmpegkojencbjaaDoor
/- How a law's statement follows from its walk; arguments opened as readings. -/
namespace Go.Proofs.YtmpegkojencbjaaDoor
open Go Go.RowKit Go.ChangeShapes Go.WideShapes Go.ChangeAt
set_option maxRecDepth 100000
theorem own_knob : ownKnob Tryd.prog.godebug = none := by kernel_rfl
theorem laidOut : laidOutB Tryd.prog = true := by kernel_rfl
section
variable {H : Type} {enc : TypeId × Value → H}
/-- arguments read behind the call as before, if below the heap's old size nothing has turned -/
theorem stay_all {W W' : World} (hb : Below W.heap.size W W') {sp : Nat → Bool} : ∀ {ts : List TypeId} {vs : List Value} {ds : List (DataW H)} {ps : List MemPlace},
    (∀ t ∈ ts, Tryd.prog.readableRec t = true ∧ t < Tryd.prog.types.size) → DataW.TrodAll enc Tryd.prog W 0 (fun _ => true) true ts vs ds ps → (∀ x ∈ ps, x.block < W.heap.size) → (∀ x ∈ ps, sp x.block = true) →
    DataW.TrodAll enc Tryd.prog W' 0 sp true ts vs ds ps
  | [], _, _, _, _, h, _, _ => by
    obtain ⟨rfl, rfl, rfl⟩ := trodAll_nil h
    exact trodAll_mk0
  | t :: ts, _, _, _, hr, h, hlt, hsp => by
    obtain ⟨v, vs, d, ds, p, q, rfl, rfl, rfl, h0, r0⟩ := trodAll_cons h
    have k := hr t (by simp)
    exact trodAll_cons_mk (WideElems.Trod_stays laidOut k.1 k.2 h0 (fun x hx => hb.same (hlt x (by simp [hx]))) (fun x hx => hsp x (by simp [hx])))
      (stay_all hb (fun t ht => hr t (by simp [ht])) r0 (fun x hx => hlt x (by simp [hx])) (fun x hx => hsp x (by simp [hx])))
/-- a law that returned true and turned nothing old -/
theorem law_post {f : Func} {s : ChangeSpec} {apart fresh handsOn again : Bool} {W W' : World} {args : Array Value} {ds gs : List (DataW H)} {before : List MemPlace}
    (hW : DataW.Whole enc Tryd.prog f.params.toList s.vars apart W args.toList ds gs before) (hb : Below W.heap.size W W')
    (hvs : s.vars = []) (hr1 : f.resultTypes = #[4])
    (hpar : f.params.toList.all (fun t => Tryd.prog.readableRec t && decide (t < Tryd.prog.types.size)) = true)
    (hfn : (s.fn H ds).results = [.lit (.bool true)] ∧ (s.fn H ds).args = ds ∧ (s.fn H ds).vars = []) :
    s.post enc Tryd.prog f apart fresh handsOn again W args (.bool true) W' := by
  have hW0 := hW
  have hlt : ∀ p ∈ before, p.block < W.heap.size := fun p hp => hW.lt p hp
  have hold : ∀ p ∈ before, (fun b => decide (b < W.heap.size)) p.block = true := fun p hp => by simpa using hlt p hp
  obtain ⟨p, q, hA, hV, rfl, hz, hn⟩ := hW
  rw [hvs] at hV
  obtain ⟨rfl, rfl⟩ := trodVars_none hV
  simp only [List.append_nil] at *
  have hk : ∀ t ∈ f.params.toList, Tryd.prog.readableRec t = true ∧ t < Tryd.prog.types.size := by
    intro t ht
    have := List.all_eq_true.1 hpar t ht
    simpa using this
  have hargs : ∀ sp : Nat → Bool, (∀ x ∈ p, sp x.block = true) → DataW.TrodAll enc Tryd.prog W' 0 sp true f.params.toList args.toList (s.fn H (ds ++ [])).args p := fun sp hsp => by
    rw [List.append_nil, hfn.2.1]; exact stay_all hb hk hA hlt hsp
  have hvars : ∀ sp : Nat → Bool, DataW.TrodVars enc Tryd.prog W' sp s.vars (s.fn H (ds ++ [])).vars [] := fun sp => by
    rw [hvs, List.append_nil, hfn.2.2]; exact rfl
  have hres : ∀ (b : Nat) (sp : Nat → Bool) (hd : Bool), DataW.TrodAll enc Tryd.prog W' b sp hd f.resultTypes.toList ((Value.bool true).resultList f.resultTypes.size) (s.fn H (ds ++ [])).results [] := fun b sp hd => by
    rw [List.append_nil, hfn.1, hr1]
    exact trodAll_cons_mk (shut_bool Tryd.underlying4 _) trodAll_mk0
  refine ⟨ds, [], p, [], p, [], hW0, hres _ _ _, hargs _ hold, hvars _, World.keptBut_mono (fun x hx => ⟨hx, Or.inr (by simpa using hx)⟩) (hb.frame (· ∈ p)), fun _ => ?_⟩
  refine ⟨ok_one hr1 rfl (okWide_bool_mk Tryd.underlying4 _), _, _, ([] ++ p) ++ [], ⟨[] ++ p, [], trodAll_append (hargs _ (fun _ _ => rfl)) (hres _ _ _), hvars (fun _ => true), rfl, ?_, ?_⟩, ?_⟩
  · intro b off hp
    have hin : MemPlace.cell b off ∈ p := by simpa using hp
    rw [hb.frozen (hlt _ hin)]
    exact hz b off hin
  · intro ha
    simpa using hn ha
  · intro x hx _
    simpa using hx
/-- a slice of structs of two cells: the readings of its elements -/
theorem open_pairs_c {W : World} {t e : TypeId} {f0 f1 : Field} {v : Value} {x : DataW H × List MemPlace} {fuel : Nat} (ht : Tryd.prog.underlying t = some (.slice e)) (he : Tryd.prog.underlying e = some (.struct #[f0, f1]))
    (ce : Tryd.prog.cellsOf e = 2) (o0 : f0.offset = 0) (o1 : f1.offset = 1) (c0 : Tryd.prog.cellsOf f0.type = 1) (c1 : Tryd.prog.cellsOf f1.type = 1)
    (h : DataW.trod enc Tryd.prog W 0 (fun _ => true) true fuel t [v] = some x) (hlt : ∀ y ∈ x.2, y.block < W.heap.size) :
    ∃ A n c V0 V1, v = .slice A n c ∧ n ≤ maxLen ∧ n ≤ c ∧ P2 W W.heap.size A n V0 V1 ∧ ∀ i, i < n → ∃ m x0 x1, DataW.trod enc Tryd.prog W 0 (fun _ => true) true m f0.type [V0 i] = some x0 ∧ DataW.trod enc Tryd.prog W 0 (fun _ => true) true m f1.type [V1 i] = some x1 ∧
      (∀ y ∈ x0.2, y.block < W.heap.size) ∧ (∀ y ∈ x1.2, y.block < W.heap.size) := by
  rcases Deep.open_slice_pairs ht he ce o0 o1 c0 c1 h with ⟨h1, -⟩ | ⟨a, len, cap, m, n, V0, V1, D0, D1, P0, P1, h1, hb, hl, hm, hmm, hx, hc⟩
  · injection h1 with h1
    subst h1
    exact ⟨none, 0, 0, fun _ => .nilIface, fun _ => .nilIface, rfl, by simp [maxLen], Nat.le_refl _, ER.nil _ _ _ _ _, fun i hi => absurd hi (by omega)⟩
  · injection h1 with h1
    subst h1
    simp only [if_true] at hmm
    subst hmm
    refine ⟨some a, len, m, V0, V1, rfl, by omega, hl, fun hn => ?_, fun i hi => ?_⟩
    · have h0 := (hc 0 (by omega)).1
      obtain ⟨b, off, spot⟩ := a
      have hsp : spot = none := by simpa [Addr.add] using World.cell?_spot h0
      subst hsp
      refine ⟨b, off, rfl, ?_, fun k i hk hi => ?_⟩
      · have hb1 := hlt (.cell b (off + 0)) (by
          rw [hx]
          exact List.mem_append_left _ (MemPlace.mem_row.2 ⟨0, by omega, rfl⟩))
        exact hb1
      · have hk2 := hc k (by omega)
        have q0 := hk2.1
        have q1 := hk2.2.1
        rw [add_lit'] at q0 q1
        rcases (by omega : i = 0 ∨ i = 1) with rfl | rfl
        · simpa using q0
        · simpa [Nat.add_assoc] using q1
    · have hi2 := hc i (by omega)
      refine ⟨n, _, _, hi2.2.2.1, hi2.2.2.2, fun y hy => hlt y ?_, fun y hy => hlt y ?_⟩
      · rw [hx]; exact List.mem_append_right _ (List.mem_flatMap.2 ⟨i, by simp; omega, List.mem_append_left _ hy⟩)
      · rw [hx]; exact List.mem_append_right _ (List.mem_flatMap.2 ⟨i, by simp; omega, List.mem_append_right _ hy⟩)
/-- a slice of ints -/
theorem open_ints_c {W : World} {t : TypeId} {v : Value} {x : DataW H × List MemPlace} {fuel : Nat} (ht : Tryd.prog.underlying t = some (.slice 3))
    (h : DataW.trod enc Tryd.prog W 0 (fun _ => true) true fuel t [v] = some x) (hlt : ∀ y ∈ x.2, y.block < W.heap.size) :
    ∃ A n c z, v = .slice A n c ∧ n ≤ maxLen ∧ n ≤ c ∧ IR W W.heap.size A n z ∧ ∀ i, i < n → -9223372036854775808 ≤ z i ∧ z i ≤ 9223372036854775807 := by
  rcases open_ints ht Tryd.underlying3 (by kernel_rfl) h with ⟨h1, -⟩ | ⟨a, len, cap, zs, h1, hb, hl, hm, hz, hx, hc, hwf⟩
  · injection h1 with h1
    subst h1
    exact ⟨none, 0, 0, fun _ => 0, rfl, by simp [maxLen], Nat.le_refl _, ER.nil _ _ _ _ _, fun i hi => absurd hi (by omega)⟩
  · injection h1 with h1
    subst h1
    simp only [if_true] at hz
    refine ⟨some a, len, cap, fun i => zs.getD i 0, rfl, by omega, hl, fun hn => ?_, fun i hi => ?_⟩
    · have h0 := hc 0 (by omega)
      obtain ⟨b, off, spot⟩ := a
      have hsp : spot = none := by simpa [Addr.add] using World.cell?_spot h0
      subst hsp
      refine ⟨b, off, rfl, ?_, fun k i hk hi => ?_⟩
      · have hb1 := hlt (.cell b (off + 0)) (by
          rw [hx]
          exact MemPlace.mem_row.2 ⟨0, by omega, rfl⟩)
        exact hb1
      · obtain rfl : i = 0 := by omega
        have := hc k (by omega)
        rw [add_lit'] at this
        simpa using this
    · have h1 : zs.getD i 0 ∈ zs := by
        rw [List.getD_eq_getElem?_getD, List.getElem?_eq_getElem (by omega)]
        exact List.getElem_mem _
      have := hwf _ h1
      simp only [Lit.wf, Bool.and_eq_true, decide_eq_true_eq] at this
      simpa [IntKind.min, IntKind.max, IntKind.signed, IntKind.bits] using this
theorem int_of_trod {W : World} {t : TypeId} {v : Value} {x : DataW H × List MemPlace} {fuel : Nat} (ht : Tryd.prog.underlying t = some (.int .i64)) (h : DataW.trod enc Tryd.prog W 0 (fun _ => true) true fuel t [v] = some x) :
    v = .int .i64 (intOf v) ∧ -9223372036854775808 ≤ intOf v ∧ intOf v ≤ 9223372036854775807 := by
  obtain ⟨z, hz, -, hw⟩ := DataW.trod_int ht h
  injection hz with hz
  subst hz
  simp only [Lit.wf, Bool.and_eq_true, decide_eq_true_eq] at hw
  exact ⟨rfl, by simpa [intOf, IntKind.min, IntKind.max, IntKind.signed, IntKind.bits] using hw⟩
theorem cells_slice {A : Option Addr} {n c : Nat} : (Value.slice A n c).cells.toList = [.slice A n c] := rfl
/-- a slice of structs of two ints -/
theorem open_pairs {r : Reach} {b0 : Nat} {W : World} {t e : TypeId} {f0 f1 : Field} {v : Value} {d : DataW H} {p : List MemPlace} (ht : Tryd.prog.underlying t = some (.slice e)) (he : Tryd.prog.underlying e = some (.struct #[f0, f1]))
    (ce : Tryd.prog.cellsOf e = 2) (o0 : f0.offset = 0) (o1 : f1.offset = 1) (c0 : Tryd.prog.cellsOf f0.type = 1) (c1 : Tryd.prog.cellsOf f1.type = 1)
    (k0 : Tryd.prog.underlying f0.type = some (.int .i64)) (k1 : Tryd.prog.underlying f1.type = some (.int .i64)) (hval : Value.okWide Tryd.prog W r b0 t v)
    (h : DataW.Trod enc Tryd.prog W 0 (fun _ => true) true t v d p) (hlt : ∀ x ∈ p, x.block < W.heap.size) :
    ∃ A n c x y, v = .slice A n c ∧ n ≤ maxLen ∧ n ≤ c ∧ PI W W.heap.size A n x y := by
  obtain ⟨fuel, h⟩ := h
  obtain ⟨A, n, c, rfl⟩ := okWide_slice ht hval
  rw [cells_slice] at h
  obtain ⟨A', n', c', V0, V1, h1, hn, hnc, hP, hV⟩ := open_pairs_c ht he ce o0 o1 c0 c1 h hlt
  injection h1 with h1 h2 h3
  subst h1 h2 h3
  refine ⟨A, n, c, fun i => intOf (V0 i), fun i => intOf (V1 i), rfl, hn, hnc, fun hn0 => ?_⟩
  obtain ⟨b, off, hA, hb, hc⟩ := hP hn0
  refine ⟨b, off, hA, hb, fun k i hk hi => ?_⟩
  obtain ⟨m, x0, x1, g0, g1, -, -⟩ := hV k hk
  rw [hc k i hk hi]
  rcases (by omega : i = 0 ∨ i = 1) with rfl | rfl
  · simpa using (int_of_trod k0 g0).1
  · simpa using (int_of_trod k1 g1).1
end
end Go.Proofs.YtmpegkojencbjaaDoor
/- School: a law's arguments opened: texts. -/
namespace Go.Proofs.YtmpegkojencbjaaDoor
open Go Go.RowKit Go.ChangeShapes Go.WideShapes Go.ChangeAt
section
variable {H : Type} {enc : TypeId × Value → H} {r : Reach} {b0 : Nat} {W : World} {v : Value} {d : DataW H} {p : List MemPlace}
set_option maxRecDepth 100000
theorem open_words (hval : Value.okWide Tryd.prog W r b0 22 v) (h : DataW.Trod enc Tryd.prog W 0 (fun _ => true) true 22 v d p) (hlt : ∀ x ∈ p, x.block < W.heap.size) :
    ∃ (A : Option Addr) (c : Nat) (l : List Wd), v = .slice A l.length c ∧ SzOk l ∧ SR W W.heap.size A l := by
  obtain ⟨fuel, h⟩ := h
  obtain ⟨A, n, c, rfl⟩ := okWide_slice Tryd.underlying22 hval
  rw [cells_slice] at h
  rcases open_strings Tryd.underlying22 Tryd.underlying9 (by kernel_rfl) h with ⟨h1, -⟩ | ⟨a, len, cap, ss, h1, -, hl, hm, hz, hx, hc, hsz⟩
  · injection h1 with h1
    injection h1 with h1 h2 h3
    subst h1 h2 h3
    exact ⟨none, 0, [], rfl, ⟨Nat.zero_le _, fun x hx => absurd hx (by simp)⟩, ER.nil _ _ _ _ _⟩
  · injection h1 with h1
    injection h1 with h1 h2 h3
    subst h1 h2 h3
    simp only [if_true] at hz
    have hlen : (ss.take n).length = n := by rw [List.length_take]; omega
    refine ⟨some a, c, ss.take n, by rw [hlen], ⟨by omega, fun x hx => hsz x (List.mem_of_mem_take hx)⟩, ?_⟩
    unfold SR
    rw [hlen]
    refine fun hn => ?_
    have h0 := hc 0 (by omega)
    obtain ⟨b, off, spot⟩ := a
    have hsp : spot = none := by simpa [Addr.add] using World.cell?_spot h0
    subst hsp
    refine ⟨b, off, rfl, ?_, fun k i hk hi => ?_⟩
    · have hb1 := hlt (.cell b (off + 0)) (by
        rw [(Prod.mk.inj hx).2]
        exact MemPlace.mem_row.2 ⟨0, by omega, rfl⟩)
      exact hb1
    · obtain rfl : i = 0 := by omega
      have h2 := hc k (by omega)
      rw [add_lit'] at h2
      have h3 : (ss.take n).getD k noW = ss.getD k ByteArray.empty := by
        simp [List.getD_eq_getElem?_getD, List.getElem?_take, hk, noW]
        rfl
      show W.cell? ⟨b, off + k * 1 + 0, none⟩ = some (.string ((ss.take n).getD k noW))
      rw [h3]
      simpa using h2
end
end Go.Proofs.YtmpegkojencbjaaDoor
namespace Go.Proofs.YtmpegkojencbjaaDoor.schoolJoins
open Go Go.ChangeShapes Go.WideShapes Go.ChangeAt Go.RowKit
set_option maxRecDepth 100000 in
theorem lifted (os : Os) (started : os.Started) (H : Type) (enc : TypeId × Value → H) :
    ReturnsInHanded {} Tryd.checked os 6 .any (fun w args => (Rows.schoolJoinsSpec.pre enc Tryd.prog Tryd.f6 Rows.schoolJoinsRow.domain false w args ∧ laidMetH Tryd.prog Rows.schoolJoinsRow.laid w) ∧ sizedMet enc Tryd.prog Tryd.f6 (OpenSpec.ofChange Rows.schoolJoinsSpec) false w args)
      (Rows.schoolJoinsSpec.post enc Tryd.prog Tryd.f6 false true false false) := by
  refine returnsInHanded_of_change_and (C := Tryd.checked) (X := fun w _ => laidMetH Tryd.prog Rows.schoolJoinsRow.laid w) (fun _ _ _ hh h => h.of_heap hh) own_knob started (by kernel_rfl) Tryd.func6
    (ChangeSpec.witness_shaped (enc := enc) (C := Tryd.checked) (os := os) (X := fun w _ => laidMetH Tryd.prog Rows.schoolJoinsRow.laid w) false (World.laidAll Tryd.prog os Rows.schoolJoinsRow.laid) #[.slice none 0 0, .slice none 0 0, .slice none 0 0] 8 (World.laidAll_os _ _ _)
      (World.shaped_of_ZipB (by kernel_rfl) (by kernel_rfl)) (by kernel_rfl) (by kernel_rfl) (by kernel_rfl)
      (by rw [MakeChecks.laidMetH_plain _ _ _ (by kernel_rfl)]; exact laidMet_laidAll _ (by kernel_rfl) (by kernel_rfl))) ?_
  intro W base args ds gs before hval0 hW _ _ hL _
  have hval : ∀ (j : Nat) t v, Tryd.f6.params[j]? = some t → args[j]? = some v → Value.okWide Tryd.prog W .any base t v := hval0
  have hW' := hW
  have hlt : ∀ p ∈ before, p.block < W.heap.size := fun p hp => hW.lt p hp
  obtain ⟨p, q, hA0, hV, rfl, hfz, hnd⟩ := hW
  have hA : DataW.TrodAll enc Tryd.prog W 0 (fun _ => true) true Tryd.f6.params.toList args.toList ds p := hA0
  rw [Tryd.params6] at hA hval
  obtain ⟨v0, vs0, d0, ds0, p0, q0, hargs, rfl, rfl, h0, r0⟩ := trodAll_cons hA
  obtain ⟨v1, vs1, d1, ds1, p1, q1, rfl, rfl, rfl, h1, r1⟩ := trodAll_cons r0
  obtain ⟨v2, vs2, d2, ds2, p2, q2, rfl, rfl, rfl, h2, r2⟩ := trodAll_cons r1
  obtain ⟨rfl, rfl, rfl⟩ := trodAll_nil r2
  obtain rfl : args = #[v0, v1, v2] := by cases args; simp_all
  obtain ⟨rfl, rfl⟩ := trodVars_none hV
  have k0 := hval 0 22 v0 rfl rfl
  have k1 := hval 1 22 v1 rfl rfl
  have k2 := hval 2 22 v2 rfl rfl
  obtain ⟨A0, c0, l0, rfl, z0, s0⟩ := open_words k0 h0 (fun x hx => hlt x (by simp [hx]))
  obtain ⟨A1, c1, l1, rfl, z1, s1⟩ := open_words k1 h1 (fun x hx => hlt x (by simp [hx]))
  obtain ⟨A2, c2, l2, rfl, z2, s2⟩ := open_words k2 h2 (fun x hx => hlt x (by simp [hx]))
  clear hA0 hval0
  refine (joins_any A0 A1 A2 c0 c1 c2 l0 l1 l2 W z0 z1 z2 s0 s1 s2).mono fun e W' ⟨he, hb⟩ => ?_
  subst he
  exact ⟨_, rfl, law_post hW' hb rfl rfl (by kernel_rfl) ⟨rfl, rfl, rfl⟩⟩
theorem over : Rows.schoolJoinsRow.holds Tryd.pinned (OpenSpec.ofChange Rows.schoolJoinsSpec) :=
  OpenClaim.holds_of_wide 6 Tryd.f6 rfl rfl rfl rfl rfl rfl rfl ⟨rfl, rfl, rfl, rfl, rfl⟩ rfl rfl rfl rfl rfl (by kernel_rfl) Tryd.func6 (by kernel_rfl)
    (of_decide_eq_true (by kernel_rfl)) (by unfold Func.isWrapper; first | (rw [if_pos (by decide +kernel)]; kernel_rfl) | (rw [if_neg (by decide +kernel)]; exact ⟨rfl, rfl⟩))
    (fun os started H enc _ => lifted os started H enc)
theorem proved : Rows.SchoolJoinsCardSaid :=
  Claim7.holds_tied_plain_at .later [] [.data, .pinned] true (true, "de0e8bac062d770159938a4787e32507ef436192cdeecd4cdeadb3815a38d22b") false over (fun _ h => by cases h) (by kernel_rfl) (fun _ h => by cases h) schoolJoins_row_tie rfl ⟨rfl, rfl⟩ (by kernel_rfl) rfl
    (fun f fn hf hfn => by
      obtain rfl : f = 6 := Option.some.inj ((show Tryd.prog.funcNamed "chiti/chitilaw11.SchoolJoins" = some 6 by kernel_rfl).symm.trans hf) |>.symm
      obtain rfl : fn = Tryd.f6 := (Option.some.inj (Tryd.func6.symm.trans hfn)).symm
      exact ⟨by kernel_rfl, fun j t ht => by
        rw [Tryd.params6] at ht
        have hm : t ∈ ([22] : List TypeId) := by simpa using Array.mem_of_getElem? ht
        have hall : (([22] : List TypeId).all fun u => !Tryd.prog.wantsStandIn u) = true := by kernel_rfl
        exact (show Tryd.prog.wantsStandIn t = false by simpa using List.all_eq_true.1 hall t hm)⟩)
    (by kernel_rfl)
#print axioms proved
end Go.Proofs.YtmpegkojencbjaaDoor.schoolJoins
