/- School: isCase, Decide. -/
import Derived.Test.YtmpegkojencbjaaDoorMergesF
import Derived.RangeFuncFrom
import Derived.RangeFuncNested
import Derived.RangeFuncBound
import Derived.RangeFuncCalls
import Derived.RangeFuncLeaves
import Derived.Shelf.Abstract
import Derived.Shelf.RegionOpen
import Derived.OwnWalkIn
import Derived.TacticsInMore
import Derived.LoopNIn
import Derived.LoopIn
set_option linter.unusedSimpArgs false
set_option linter.unusedVariables false
set_option linter.unnecessarySimpa false
namespace Go.Proofs.YtmpegkojencbjaaDoor
open List renaming getElem_toArray → glA, getElem_cons_zero → glB, getElem_cons_succ → glC, setIfInBounds_toArray → glD, set_cons_zero → glE, set_cons_succ → glF
open Go Go.RowKit Go.Shelf
set_option maxHeartbeats 8000000
set_option maxRecDepth 100000
def csB (c fs : List Int) : Nat → Bool
  | 0 => true
  | n + 1 => csB c fs n && decide (0 ≤ c.getD n 0 ∧ c.getD n 0 ≤ fs.getD n 0 - 1)
/-- a case of these features -/
def icB (fs c : List Int) : Bool := decide (c.length = fs.length) && csB c fs fs.length
theorem csB_at {c fs : List Int} {n : Nat} (h : csB c fs n = true) : ∀ k, k < n → 0 ≤ c.getD k 0 ∧ c.getD k 0 ≤ fs.getD k 0 - 1 := by
  induction n with
  | zero => intro k hk; omega
  | succ n ih =>
    intro k hk
    have h2 : (csB c fs n && decide (0 ≤ c.getD n 0 ∧ c.getD n 0 ≤ fs.getD n 0 - 1)) = true := h
    rw [Bool.and_eq_true] at h2
    rcases (by omega : k < n ∨ k = n) with h1 | rfl
    · exact ih h2.1 k h1
    · exact of_decide_eq_true h2.2
theorem csB_no {c fs : List Int} {k n : Nat} (h : ¬ (0 ≤ c.getD k 0 ∧ c.getD k 0 ≤ fs.getD k 0 - 1)) (hk : k < n) : csB c fs n = false := by
  cases h1 : csB c fs n with
  | false => rfl
  | true => exact absurd (csB_at h1 k hk) h
theorem isCase_any (C : Nat) (d : Ad_) (SA : Option Addr) (sc : Nat) (s : Sch) (st : Nat → Nat → Nat) (A : Option Addr) (cc : Nat) (c : List Int) (w : World) (h : CR w w.heap.size C d SA sc s st) (hfs : ∀ k, k < s.fs.length → 1 ≤ s.fs.getD k 0 ∧ s.fs.getD k 0 ≤ 4) (hl : s.fs.length ≤ 5) (hA : LI w w.heap.size A c) :
    Calls Tryd.prog 69 #[.pointer (some ⟨C, 0, none⟩), .slice A c.length cc] w fun e w' => e = .returned (.bool (icB s.fs c)) ∧ Below w.heap.size w w' := by
  have HA := hide hA
  have HF := hide h.scr.fs
  have HFS := hide hfs
  have c0 := h.c0
  unfold icB
  obtain ⟨fs, q, rs⟩ := s
  dsimp only at c0 HF HFS hl ⊢
  obtain ⟨nf, hn⟩ : ∃ n, fs.length = n := ⟨_, rfl⟩
  obtain ⟨nc, hc⟩ : ∃ n, c.length = n := ⟨_, rfl⟩
  have HN := hide (And.intro hn hc)
  rw [hn] at c0 hl ⊢
  rw [hc]
  clear hA hfs h hn hc
  by_cases hne : nc = nf
  rotate_left
  · have e1 : ((nc : Int) != (nf : Int)) = true := by rw [bne_iff_ne]; omega
    have e2 : (nc != nf) = true := by rw [bne_iff_ne]; exact hne
    have HE := hide (decide_eq_false hne)
    clear hne
    go_enter Tryd.func69, Tryd.ntmps69
    go_wp2_with fail
    go_ret
    exact ⟨ret_bool (by rw [HE.out]; rfl), Below.refl _ _⟩
  subst hne
  have e1 : ((nc : Int) != (nc : Int)) = false := bne_self_eq_false _
  have e2 : (nc != nc) = false := bne_self_eq_false _
  have HE : Hid ((decide (nc = nc) && csB c fs nc) = csB c fs nc) := hide (by simp)
  rw [HE.out]
  clear HE
  go_enter Tryd.func69, Tryd.ntmps69
  go_upto_region 4 with fail
  clear e1 e2 c0
  go_loopw [22] (fun i wr => ∃ k : Nat, k ≤ nc ∧ i = .int .i64 k ∧ Hid (csB c fs k = true) ∧ Hid (wr = w)) (fun i _ => nc - (intOf i).toNat)
  case atStart => exact ⟨0, Nat.zero_le _, rfl, hide rfl, hide rfl⟩
  case round =>
    obtain ⟨k, hk, rfl, HK, HW⟩ := hrel
    obtain rfl := HW.out
    by_cases hlt : k < nc
    · have hlt' : (k : Int) < (nc : Int) := by omega
      have k0 : (0 : Int) ≤ (k : Int) := by omega
      have hkf : k < fs.length := by rw [HN.out.1]; exact hlt
      have hkc : k < c.length := by rw [HN.out.2]; exact hlt
      obtain ⟨fb, fo, hfa, hfb, hfc⟩ := VR1.at_ HF.out hkf
      obtain ⟨cb, co, rfl, hcb, hcc⟩ := VR1.at_ HA.out hkc
      obtain ⟨n, hn⟩ : ∃ n, fs.getD k 0 = n := ⟨_, rfl⟩
      obtain ⟨x, hx⟩ : ∃ n, c.getD k 0 = n := ⟨_, rfl⟩
      have hn14 := HFS.out k hkf
      rw [hn] at hfc hn14
      rw [hx] at hcc
      have w1 : IntKind.i64.wrap (n - 1) = n - 1 := IntWalk.i64_in _ (by omega)
      have HWT := within_any x 0 (n - 1) wr
      simp only [wb] at HWT
      rw [hfa]
      by_cases hb : 0 ≤ x ∧ x ≤ n - 1
      · rw [decide_eq_true hb] at HWT
        have HNX : Hid (csB c fs (k + 1) = true) := hide (by
          show (csB c fs k && decide (0 ≤ c.getD k 0 ∧ c.getD k 0 ≤ fs.getD k 0 - 1)) = true
          rw [HK.out, hx, hn, decide_eq_true hb]; rfl)
        have HWT := hide HWT
        clear hb hn hx
        go_wp2_with fail
        refine HWT.out.mono ?_
        rintro e _ ⟨rfl, rfl⟩
        go_wp2_with fail
        go_roundw
        case rel => exact ⟨k + 1, by omega, by go_num, HNX, by first | trivial | exact hide rfl⟩
        case measure => simp [intOf]; omega
      · rw [decide_eq_false hb] at HWT
        have HNX : Hid (csB c fs nc = false) := hide (csB_no (by rw [hx, hn]; exact hb) hlt)
        have HWT := hide HWT
        clear hb hn hx
        go_wp2_with fail
        refine HWT.out.mono ?_
        rintro e _ ⟨rfl, rfl⟩
        go_wp2_with fail
        go_ret
        exact ⟨ret_bool HNX.out.symm, Below.refl _ _⟩
    · obtain rfl : k = nc := by omega
      have hnl : ¬ (k : Int) < (k : Int) := by omega
      go_wp2_with fail
      go_ret
      exact ⟨ret_bool HK.out.symm, Below.refl _ _⟩
theorem fsB_at {fs : List Int} (h : fsB fs = true) : ∀ k, k < fs.length → 1 ≤ fs.getD k 0 ∧ fs.getD k 0 ≤ 4 := fun k hk => by
  have h := List.all_eq_true.1 h (fs.getD k 0) (by rw [List.getD_eq_getElem?_getD, List.getElem?_eq_getElem hk]; exact List.getElem_mem hk)
  exact of_decide_eq_true h
theorem evF_lt {fs : List Int} (h : fsB fs = true) (k : Nat) : evF fs k < 16 := by
  unfold evF
  split
  · rename_i hk
    have h := fsB_at h k hk
    rcases (by omega : fs.getD k 0 = 1 ∨ fs.getD k 0 = 2 ∨ fs.getD k 0 = 3 ∨ fs.getD k 0 = 4) with e | e | e | e <;> rw [e] <;> decide
  · omega
theorem stF_lt {s : Sch} (h : fsB s.fs = true) (k x : Nat) : stF s k x < 16 := by
  unfold stF setF clnF
  split
  · omega
  · exact Nat.lt_of_le_of_lt (wthL_le _ _ x) (evF_lt h x)
structure SchOk (s : Sch) : Prop where
  nf1 : 1 ≤ s.fs.length
  nf5 : s.fs.length ≤ 5
  q1 : 1 ≤ s.q
  q4 : s.q ≤ 4
  nr : s.rs.length ≤ 12
  fs : fsB s.fs = true
theorem schB_ok {s : Sch} (h : schB s = true) : SchOk s := by
  unfold schB at h
  simp only [Bool.and_eq_true, decide_eq_true_eq] at h
  exact ⟨h.1.1, h.1.2, h.2.1.1, h.2.1.2, h.2.2.1, h.2.2.2.1⟩
/-- what Decide returns: what is said, the error, by which rules -/
def decR (s : Sch) (c : List Int) (q : Int) : Int × Int × List Int :=
  if schB s then if 0 ≤ q ∧ q ≤ s.q - 1 then if icB s.fs c then dcF s (stF s) c q else (0, 4, []) else (0, 3, []) else (0, 2, [])
def DePost (w : World) (r : Int × Int × List Int) (e : Ending) (w' : World) : Prop :=
  ∃ v, e = .returned (.tuple #[.int .i64 r.1, v, .int .i64 r.2.1]) ∧ OwnJ w' w.heap.size v r.2.2 ∧ Below w.heap.size w w'
theorem Decide_any (d : Ad_) (s : Sch) (A : Option Addr) (cc : Nat) (c : List Int) (q : Int) (w : World) (hd : ScR w w.heap.size d s) (hnf : s.fs.length ≤ maxLen) (hnr : s.rs.length ≤ maxLen) (hA : LI w w.heap.size A c) :
    Calls Tryd.prog 39 #[scV d s, .slice A c.length cc, .int .i64 q] w (DePost w (decR s c q)) := by
  have HA := hide hA
  obtain ⟨nf, hf⟩ : ∃ n, s.fs.length = n := ⟨_, rfl⟩
  obtain ⟨nr, hr⟩ : ∃ n, s.rs.length = n := ⟨_, rfl⟩
  obtain ⟨nc, hc⟩ : ∃ n, c.length = n := ⟨_, rfl⟩
  obtain ⟨Q, hQ⟩ : ∃ n, s.q = n := ⟨_, rfl⟩
  have HOP : Hid (∀ W, Below w.heap.size w W → Calls Tryd.prog 62 #[.agg #[.slice d.fa nf d.fc, .int .i64 Q, .slice d.ra nr d.rc]] W (OpPost W d s)) := hide fun W hB => by
    have := open_any d s W (hd.below hB) hnf hnr
    unfold scV at this
    rw [hf, hr, hQ] at this
    exact this
  unfold scV
  have HN := hide (And.intro hf (And.intro hr (And.intro hc hQ)))
  have HD := hide hd
  rw [hf, hr, hc, hQ]
  have HB0 := hide ((Below.refl w.heap.size w).alloc (Nat.le_refl _) (.cells #[.slice d.fa nf d.fc, .int .i64 Q, .slice d.ra nr d.rc] 47))
  have G1 := Blk.new w 47 #[.slice d.fa nf d.fc, .int .i64 Q, .slice d.ra nr d.rc]
  clear hd hA hf hr hc hQ hnf hnr
  go_enter Tryd.func39, Tryd.ntmps39
  go_upto_region 1 with fail
  generalize (w.alloc (.cells #[.slice d.fa nf d.fc, .int .i64 Q, .slice d.ra nr d.rc] 47)) = w1 at HB0 G1 ⊢
  have HG1 := hide G1
  obtain ⟨G, hG⟩ : ∃ x, w.heap.size = x := ⟨_, rfl⟩
  rw [hG] at G1 HG1 ⊢
  obtain ⟨-, g0, g1, g2, -⟩ := blk3 G1
  clear G1 hG
  go_wp2_with fail
  refine (HOP.out w1 HB0.out).mono ?_
  intro e w2 hop
  unfold OpPost at hop
  by_cases hs : schB s = true
  rotate_left
  · rw [if_neg hs] at hop
    obtain ⟨rfl, hb2⟩ := hop
    have HR : Hid (decR s c q = (0, 2, [])) := hide (by unfold decR; rw [if_neg hs])
    have HB2 := hide (HB0.out.trans (hb2.mono HB0.out.size))
    clear hb2 hs g0 g1 g2
    go_wp2_with fail
    go_ret3
    rw [HR.out]
    exact ⟨_, rfl, OwnJ.nil _ _, HB2.out⟩
  rw [if_pos hs] at hop
  obtain ⟨C, SA, sc, rfl, hcode⟩ := hop
  have HB2 := hide (HB0.out.trans (hcode.below.mono HB0.out.size))
  have HCR := hide (hcode.cr (HD.out.below HB0.out))
  have HOK := hide (schB_ok hs)
  have G2 := HG1.out.ext hcode.below
  have HS := hide hs
  clear hcode g0 g1 g2 hs HG1
  obtain ⟨-, g0, g1, g2, -⟩ := blk3 G2
  have hq14 : 1 ≤ Q ∧ Q ≤ 4 := by rw [← HN.out.2.2.2]; exact ⟨HOK.out.q1, HOK.out.q4⟩
  have w5 : IntKind.i64.wrap (Q - 1) = Q - 1 := IntWalk.i64_in _ (by omega)
  have HWT := within_any q 0 (Q - 1) w2
  simp only [wb] at HWT
  by_cases hq : 0 ≤ q ∧ q ≤ Q - 1
  rotate_left
  · rw [decide_eq_false hq] at HWT
    have HWT := hide HWT
    have HR : Hid (decR s c q = (0, 3, [])) := hide (by unfold decR; rw [if_pos HS.out, HN.out.2.2.2, if_neg hq])
    clear hq
    go_wp2_with fail
    refine HWT.out.mono ?_
    rintro e _ ⟨rfl, rfl⟩
    go_wp2_with fail
    go_ret3
    rw [HR.out]
    exact ⟨_, rfl, OwnJ.nil _ _, HB2.out⟩
  rw [decide_eq_true hq] at HWT
  have HWT := hide HWT
  have hfs5 := HOK.out.nf5
  have HIC := isCase_any C d SA sc s (stF s) A cc c w2 HCR.out (fsB_at HOK.out.fs) hfs5 ((ER.below HA.out HB2.out (Nat.le_refl _)).more HB2.out.size)
  rw [HN.out.2.2.1] at HIC
  have HQ := hide hq
  clear hq hfs5
  by_cases hi : icB s.fs c = true
  rotate_left
  · have HR : Hid (decR s c q = (0, 4, [])) := hide (by unfold decR; rw [if_pos HS.out, HN.out.2.2.2, if_pos HQ.out, if_neg hi])
    rw [show icB s.fs c = false by simpa using hi] at HIC
    have HIC := hide HIC
    clear hi
    go_wp2_with fail
    refine HWT.out.mono ?_
    rintro e _ ⟨rfl, rfl⟩
    go_wp2_with fail
    refine HIC.out.mono ?_
    rintro e w3 ⟨rfl, hb3⟩
    have HB3 := hide (HB2.out.trans (hb3.mono HB2.out.size))
    clear hb3
    go_wp2_with fail
    go_ret3
    rw [HR.out]
    exact ⟨_, rfl, OwnJ.nil _ _, HB3.out⟩
  have HR : Hid (decR s c q = dcF s (stF s) c q) := hide (by unfold decR; rw [if_pos HS.out, HN.out.2.2.2, if_pos HQ.out, if_pos hi])
  have hic := hi
  unfold icB at hic
  rw [Bool.and_eq_true] at hic
  have hcl := of_decide_eq_true hic.1
  have hcs := csB_at hic.2
  rw [hi] at HIC
  have HIC := hide HIC
  have HDC : Hid (∀ W, Below w2.heap.size w2 W → Calls Tryd.prog 64 #[.pointer (some ⟨C, 0, none⟩), .slice A nc cc, .int .i64 q] W (DcPost W (dcF s (stF s) c q))) := hide fun W hB => by
    have := decide_any C d SA sc s (stF s) A cc c q W (HCR.out.below hB) (fun k x => Nat.lt_trans (stF_lt HOK.out.fs k x) (by decide)) HOK.out.nr (by rw [hcl]; exact HOK.out.nf5) (fun k hk => by
      have h1 := hcs k (by rw [← hcl]; exact hk)
      have h2 := fsB_at HOK.out.fs k (by rw [← hcl]; exact hk)
      omega) ((ER.below HA.out (HB2.out.trans (hB.mono HB2.out.size)) (Nat.le_refl _)).more (Nat.le_trans HB2.out.size hB.size))
    rw [HN.out.2.2.1] at this
    exact this
  clear hi hic hcl hcs
  generalize dcF s (stF s) c q = r at HR HDC
  go_wp2_with fail
  refine HWT.out.mono ?_
  rintro e _ ⟨rfl, rfl⟩
  go_wp2_with fail
  refine HIC.out.mono ?_
  rintro e w3 ⟨rfl, hb3⟩
  have HB3 := hide hb3
  clear hb3
  go_wp2_with fail
  refine (HDC.out w3 HB3.out).mono ?_
  rintro e w4 ⟨v, rfl, ho4, hb4⟩
  have HB4 := hide ((HB2.out.trans (HB3.out.mono HB2.out.size)).trans (hb4.mono (by have h1 := HB2.out.size; have h2 := HB3.out.size; omega)))
  have HO4 := hide (ownMono ho4 (by have h1 := HB2.out.size; have h2 := HB3.out.size; omega) : OwnJ w4 w.heap.size v r.2.2)
  obtain ⟨a1, a2, a3⟩ := r
  dsimp only at HO4 ⊢
  obtain ⟨VA, vc, hva⟩ := own_shape HO4.out
  obtain ⟨vn, hvn⟩ : ∃ n, a3.length = n := ⟨_, rfl⟩
  rw [hvn] at hva
  subst hva
  clear hb4 ho4 hvn
  go_upto_region 9 with fail
  have V1 := Blk.new w4 117 #[.int .i64 a1, .int .i64 a2]
  have HB5 := hide (HB4.out.alloc HB4.out.size (.cells #[.int .i64 a1, .int .i64 a2] 117))
  have HO5 := hide (OwnJ.ext HO4.out ((Below.refl _ _).alloc (Nat.le_refl _) (.cells #[.int .i64 a1, .int .i64 a2] 117)))
  generalize (w4.alloc (.cells #[.int .i64 a1, .int .i64 a2] 117)) = w5 at V1 HB5 HO5 ⊢
  generalize w4.heap.size = T at V1 ⊢
  have HS9 : Hid (∀ W, Below w5.heap.size w5 W → W.cell? ⟨T, 0, none⟩ = some (.int .i64 a1) ∧ W.cell? ⟨T, 1, none⟩ = some (.int .i64 a2)) := hide fun W h => ⟨(blk2 (V1.ext h)).2.1, (blk2 (V1.ext h)).2.2.1⟩
  clear V1
  have Bd := hide ((Below.refl w5.heap.size w5).drew)
  refine wp_region_J (fun W : World => W.cell? ⟨T, 0, none⟩ = some (.int .i64 a1) ∧ W.cell? ⟨T, 1, none⟩ = some (.int .i64 a2)) (by kernel_rfl) ?_
  generalize w5.drew = wd at Bd ⊢
  refine wpAnyJ_take 0 (v := ?_) (by first | exact hF | exact wideFn) (HS9.out _ Bd.out) rfl (by kernel_rfl) (by kernel_rfl) (by kernel_rfl) (by kernel_rfl) rfl ?_ (by first | exact fun _ _ _ h => h | exact fun _ _ _ h => hQ2 _ _ _ _ _ h) ?_
  rotate_left
  · intro W hSW
    simp only [glA, glB, glC]
    (try dsimp only at hSW)
    go_simp
    with_reducible rfl
  (try simp only [glA, glB, glC, Act.put, glD, glE, glF])
  refine wpAnyJ_take 1 (v := ?_) (by first | exact hF | exact wideFn) (HS9.out _ Bd.out) rfl (by kernel_rfl) (by kernel_rfl) (by kernel_rfl) (by kernel_rfl) rfl ?_ (by first | exact fun _ _ _ h => h | exact fun _ _ _ h => hQ2 _ _ _ _ _ h) ?_
  rotate_left
  · intro W hSW
    simp only [glA, glB, glC]
    (try dsimp only at hSW)
    go_simp
    with_reducible rfl
  (try simp only [glA, glB, glC, Act.put, glD, glE, glF])
  refine wpAnyJ_take 2 (v := ?_) (by first | exact hF | exact wideFn) (HS9.out _ Bd.out) rfl (by kernel_rfl) (by kernel_rfl) (by kernel_rfl) (by kernel_rfl) rfl ?_ (by first | exact fun _ _ _ h => h | exact fun _ _ _ h => hQ2 _ _ _ _ _ h) ?_
  rotate_left
  · intro W hSW
    simp only [glA, glB, glC]
    (try dsimp only at hSW)
    go_simp
    with_reducible rfl
  (try simp only [glA, glB, glC, Act.put, glD, glE, glF])
  refine wpAnyJ_take 3 (v := ?_) (by first | exact hF | exact wideFn) (HS9.out _ Bd.out) rfl (by kernel_rfl) (by kernel_rfl) (by kernel_rfl) (by kernel_rfl) rfl ?_ (by first | exact fun _ _ _ h => h | exact fun _ _ _ h => hQ2 _ _ _ _ _ h) ?_
  rotate_left
  · intro W hSW
    simp only [glA, glB, glC]
    (try dsimp only at hSW)
    go_simp
    with_reducible rfl
  (try simp only [glA, glB, glC, Act.put, glD, glE, glF])
  refine wpAnyJ_take 4 (v := ?_) (by first | exact hF | exact wideFn) (HS9.out _ Bd.out) rfl (by kernel_rfl) (by kernel_rfl) (by kernel_rfl) (by kernel_rfl) rfl ?_ (by first | exact fun _ _ _ h => h | exact fun _ _ _ h => hQ2 _ _ _ _ _ h) ?_
  rotate_left
  · intro W hSW
    simp only [glA, glB, glC]
    (try dsimp only at hSW)
    go_simp
    with_reducible rfl
  (try simp only [glA, glB, glC, Act.put, glD, glE, glF])
  refine wpAnyJ_take 5 (v := ?_) (by first | exact hF | exact wideFn) (HS9.out _ Bd.out) rfl (by kernel_rfl) (by kernel_rfl) (by kernel_rfl) (by kernel_rfl) rfl ?_ (by first | exact fun _ _ _ h => h | exact fun _ _ _ h => hQ2 _ _ _ _ _ h) ?_
  rotate_left
  · intro W hSW
    simp only [glA, glB, glC]
    (try dsimp only at hSW)
    go_simp
    with_reducible rfl
  (try simp only [glA, glB, glC, Act.put, glD, glE, glF])
  refine wpAnyJ_take 6 (v := ?_) (by first | exact hF | exact wideFn) (HS9.out _ Bd.out) rfl (by kernel_rfl) (by kernel_rfl) (by kernel_rfl) (by kernel_rfl) rfl ?_ (by first | exact fun _ _ _ h => h | exact fun _ _ _ h => hQ2 _ _ _ _ _ h) ?_
  rotate_left
  · intro W hSW
    simp only [glA, glB, glC]
    (try dsimp only at hSW)
    go_simp
    with_reducible rfl
  (try simp only [glA, glB, glC, Act.put, glD, glE, glF])
  refine wpAnyJ_take 7 (v := ?_) (by first | exact hF | exact wideFn) (HS9.out _ Bd.out) rfl (by kernel_rfl) (by kernel_rfl) (by kernel_rfl) (by kernel_rfl) rfl ?_ (by first | exact fun _ _ _ h => h | exact fun _ _ _ h => hQ2 _ _ _ _ _ h) ?_
  rotate_left
  · intro W hSW
    simp only [glA, glB, glC]
    (try dsimp only at hSW)
    go_simp
    with_reducible rfl
  (try simp only [glA, glB, glC, Act.put, glD, glE, glF])
  refine wpAnyJ_done (by kernel_rfl) ?_
  go_wp2_with fail
  go_ret3
  rw [HR.out]
  exact ⟨_, rfl, OwnJ.ext HO5.out Bd.out, HB5.out.trans (Bd.out.mono HB5.out.size)⟩
end Go.Proofs.YtmpegkojencbjaaDoor
/- School: a range over a function that writes cells of its own between two rounds (the kit's laws know iterators that turn no cells). -/
namespace Go.Proofs.YtmpegkojencbjaaDoor
open Go Go.RowKit Go.Shelf
set_option maxHeartbeats 2000000
set_option maxRecDepth 100000
/-- all cells stay as they are -/
structure KC (W W' : World) : Prop where
  size : W.heap.size ≤ W'.heap.size
  block : ∀ (k : Nat) (o : Obj), W.heap[k]? = some o → o.isCells = true → W'.heap[k]? = some o
theorem KC.refl (W : World) : KC W W := ⟨Nat.le_refl _, fun _ _ h _ => h⟩
theorem KC.trans {A B C : World} (h : KC A B) (h2 : KC B C) : KC A C := ⟨Nat.le_trans h.size h2.size, fun k o h3 h4 => h2.block k o (h.block k o h3 h4) h4⟩
theorem KC.of_below {W W' : World} (h : Below W.heap.size W W') : KC W W' := ⟨h.size, fun k o h3 _ => by
  rw [h.block k (by
    rcases Nat.lt_or_ge k W.heap.size with hl | hl
    · exact hl
    · rw [Array.getElem?_eq_none hl] at h3; cases h3)]
  exact h3⟩
theorem KC.putObj (W : World) (l : Nat) (o o' : Obj) (h : W.heap[l]? = some o) (ho : o.isCells = false) : KC W (W.putObj l o') := ⟨by simp, fun k x h3 h4 => by
  have hk : k ≠ l := fun e => by rw [e, h] at h3; cases h3; rw [ho] at h4; cases h4
  exact (World.putObj_heap_other hk).trans h3⟩
theorem KC.blk {W W' : World} (h : KC W W') {g : Nat} {t : TypeId} {cs : Array Value} (hb : Blk W g t cs) : Blk W' g t cs := h.block g _ hb rfl
theorem KC.cell {W W' : World} (h : KC W W') {p : Addr} {v : Value} (hc : W.cell? p = some v) : W'.cell? p = some v := by
  unfold World.cell? at hc ⊢
  cases ho : W.heap[p.block]? with
  | none => rw [ho] at hc; simp at hc
  | some o =>
    rw [ho] at hc
    cases o with
    | cells cs t st => rw [h.block p.block _ ho rfl]; exact hc
    | _ => simp at hc
/-- it stands where blocks from B on are written -/
def AbM {β : Type} (B : Nat) (J : β → World → Prop) : Prop :=
  ∀ s W W' row, J s W → W.grownBy W' row → (∀ r, row = some r → B ≤ r) → J s W'
theorem AbM.putObj {β : Type} {B : Nat} {I : β → World → Prop} (h : AbM B I) {s : β} {W : World} {l : Nat} (o' : Obj) (hs : I s W) (hB : B ≤ l) : I s (W.putObj l o') :=
  h s W _ (some l) hs (grownBy_putObj' W l o') (fun r e => by cases e; exact hB)
theorem AbM.alloc {β : Type} {B : Nat} {I : β → World → Prop} (h : AbM B I) {s : β} {W : World} (o : Obj) (hs : I s W) : I s (W.alloc o) :=
  h s W _ none hs (World.grownBy_alloc W o none) (fun r e => by cases e)
/-- what such an iterator's call does, at whatever yield: R holds of each x where it comes; the round leaves cells alone -/
def SeqMem {α : Type} (F : Fence) (n : Nat) (P : Program) (g : Nat) (lb : Array Value) (encs : α → Array Value) (R : α → World → Prop) (S Sp : List α → Prop) (N : Nat) (w : World) : Prop :=
  ∀ (l : Nat) (J Jx : List α → World → Prop) (W : World), Below w.heap.size w W → AbM W.heap.size J →
    (∀ pre x W1, J pre W1 → R x W1 → pre.length < N → YieldAt F (n - 1) P l (encs x) W1 fun e W' =>
      (e = .returned (.bool true) ∧ J (pre ++ [x]) W' ∧ KC W1 W') ∨ (e = .returned (.bool false) ∧ Jx (pre ++ [x]) W')) →
    J [] W →
    CallsIn F n P g (#[.func (.yield l) #[] #[]] ++ lb) W fun e W' => (∃ v, e = .returned v) ∧ ((∃ xs, S xs ∧ J xs W') ∨ (∃ pre, Sp pre ∧ Jx pre W'))
variable {F : Fence} {n : Nat} {P : Program}
theorem wpIn_rangeFunc_mem {α : Type} {g : Operand} {ps : Array Tmp} {assign body : Code} {Q : Exit → Act → World → Prop} {a : Act} {w : World}
    (hro : F.round = none) (h1 : 1 ≤ n) {gf : Nat} {lb : Array Value} (hg : a.eval g = .func (.func gf) #[] lb) (hFg : F.fn gf) (eg : ∀ args w, (callFunc gf args).run P w = .ok (.enter gf args) w)
    {encs : α → Array Value} {R : α → World → Prop} {S Sp : List α → Prop} {N : Nat} {w0 : World} (hseq : SeqMem F (n - 1) P gf lb encs R S Sp N w0) (hRK : ∀ x W W', R x W → KC W W' → R x W')
    (hb0 : Below w0.heap.size w0 w) (hps : ∀ x, (encs x).size = ps.size)
    (I : List α → World → Prop) (Ix : Code → List α → World → Prop) (hI : AbM w.heap.size I) (hIx : ∀ c, OwnFrom w.heap.size (Ix c)) (h0 : I [] w) (a₁ : α → Act)
    (hassign : ∀ (l : Nat) (x : α) (W : World) (K : Act → World → Prop), K (a₁ x) W →
      assign.wpIn (F.inRound l) (n - 1 - 1) P (Exit.then K (fun _ _ _ => False)) { tmps := (ps.zip (encs x)).foldl (fun t (p, v) => t.setIfInBounds p v) a.tmps, defers := [] } W)
    (hbody : ∀ (l : Nat) (pre : List α) (x : α) (W : World), I pre W → R x W → pre.length < N → body.wpIn (F.inRound l) (n - 1 - 1) P (ownPostK KC I Ix (pre ++ [x]) W) (a₁ x) W)
    (hdone : ∀ (D : Nat) (xs : List α) (W : World), w.heap.size ≤ D → S xs → I xs W → W.heap[D]? = some (.deferred (some [])) → Q .normal { a with defers := { target := .collected D, args := #[] } :: a.defers } W)
    (hstop : ∀ (D : Nat) (c : Code) (pre : List α) (W : World), w.heap.size ≤ D → Sp pre → Ix c pre W → W.heap[D]? = some (.deferred (some [])) → c.wpIn F n P Q { a with defers := { target := .collected D, args := #[] } :: a.defers } W) :
    (Code.rangeFunc g ps assign body).wpIn F n P Q a w := by
  refine wpIn_rangeFunc ?_
  intro fn hfn
  rw [hro]
  obtain ⟨rec, hrec⟩ : ∃ rec : LoopState → Option Code → Loop, rec = fun st pe => { state := st, pending := pe, fn, tmps := a.tmps, params := ps, assign, body, defers := w.heap.size } := ⟨_, rfl⟩
  obtain ⟨W1, hW1⟩ : ∃ W1, (w.alloc (.deferred (some []))).alloc (.loop (rec .ready none)) = W1 := ⟨_, rfl⟩
  have hsz : W1.heap.size = w.heap.size + 2 := by rw [← hW1]; simp
  have hL1 : W1.heap[w.heap.size + 1]? = some (.loop (rec .ready none)) := by
    rw [← hW1]; have := World.alloc_heap_new (w.alloc (.deferred (some []))) (.loop (rec .ready none)); rwa [World.size_alloc] at this
  have hK1 : W1.heap[w.heap.size]? = some (.deferred (some [])) := by
    rw [← hW1]; exact (Below.heap_alloc _ _ _ (by simp)).trans (World.alloc_heap_new w _)
  have hI1 : I [] W1 := by rw [← hW1]; exact hI.alloc _ (hI.alloc _ h0)
  have hb1 : Below w0.heap.size w0 W1 := by
    rw [← hW1]; exact hb0.trans ((((Below.refl _ w).alloc (Nat.le_refl _) _).alloc (by simp) _).mono hb0.size)
  have hup : ∀ {row : Option Nat}, (∀ r, row = some r → W1.heap.size ≤ r) → ∀ r, row = some r → w.heap.size ≤ r := fun hr r e => by have := hr r e; omega
  have hst : ∀ {A B : World} {row : Option Nat} {k : Nat} {o : Obj}, A.grownBy B row → (∀ r, row = some r → W1.heap.size ≤ r) → k < w.heap.size + 2 → A.heap[k]? = some o → B.heap[k]? = some o := fun {A B row k o} hg hr hk h => by
    refine (hg.block k ?_ (fun e => ?_)).trans h
    · rcases Nat.lt_or_ge k A.heap.size with hl | hl
      · exact hl
      · rw [Array.getElem?_eq_none hl] at h; cases h
    · have := hr k e.symm; omega
  refine ⟨w.heap.size + 1, [{ target := .collected w.heap.size, args := #[] }], W1, { target := .fn (.func gf) lb, args := #[.func (.yield (w.heap.size + 1)) #[] #[]] }, W1, gf,
    #[.func (.yield (w.heap.size + 1)) #[] #[]] ++ lb, W1, ?_, ?_, ?_, ?_, fun _ => h1, ?_⟩
  · rw [← hW1, hrec]; exact run_enterLoop_outer _ _ _ _ _
  · simp only [resolve, hg]
    simp [go_sem]
  · intro f' hf'; simp [Target.leads] at hf'; subst hf'; exact hFg
  · simp [invoke, go_sem, eg]
  · refine (hseq (w.heap.size + 1)
      (fun pre W => I pre W ∧ W.heap[w.heap.size + 1]? = some (.loop (rec .ready none)) ∧ W.heap[w.heap.size]? = some (.deferred (some [])))
      (fun pre W => ∃ c, Ix c pre W ∧ W.heap[w.heap.size + 1]? = some (.loop (rec .done (some c))) ∧ W.heap[w.heap.size]? = some (.deferred (some [])))
      W1 hb1
      (fun s A B row hs hg' hr => ⟨hI s A B row hs.1 hg' (hup hr), hst hg' hr (by omega) hs.2.1, hst hg' hr (by omega) hs.2.2⟩)
      ?_ ⟨hI1, hL1, hK1⟩).mono ?_
    · rintro pre x W ⟨hi, hl, hk⟩ hRx hlen
      have hlt : w.heap.size + 1 < W.heap.size := (Array.getElem?_eq_some_iff.1 hl).1
      have hy := run_yield (P := P) (args := encs x) hl (by rw [hrec]; exact hps x)
      rw [hrec] at hy
      refine ⟨fn, _, assign, body, hy, roundIn_of_wpIn hfn (hassign _ x W _ ⟨_, run_beginRound hl (by rw [hrec]), ?_⟩)⟩
      have hl2 : (W.putObj (w.heap.size + 1) (.loop { rec .ready none with state := .busy })).heap[w.heap.size + 1]? = some (.loop { rec .ready none with state := .busy }) := World.putObj_heap_same hlt
      have hk2 : (W.putObj (w.heap.size + 1) (.loop { rec .ready none with state := .busy })).heap[w.heap.size]? = some (.deferred (some [])) := (World.putObj_heap_other (by omega)).trans hk
      have hw2 : KC W (W.putObj (w.heap.size + 1) (.loop { rec .ready none with state := .busy })) := KC.putObj _ _ _ _ hl rfl
      refine wpIn_mono (hbody _ pre x _ (hI.putObj _ hi (by omega)) (hRK _ _ _ hRx hw2) hlen) ?_
      have fin : ∀ (jump : Option Code) (W3 : World), KeepsOthers (W.putObj (w.heap.size + 1) (.loop { rec .ready none with state := .busy })) W3 →
          (Instr.endRound (w.heap.size + 1) jump).run P W3 = .ok (.bool jump.isNone) (W3.putObj (w.heap.size + 1) (.loop (rec (if jump.isNone then .ready else .done) jump))) ∧
          W3.heap[w.heap.size + 1]? = some (.loop { rec .ready none with state := .busy }) ∧
          (W3.putObj (w.heap.size + 1) (.loop (rec (if jump.isNone then .ready else .done) jump))).heap[w.heap.size + 1]? = some (.loop (rec (if jump.isNone then .ready else .done) jump)) ∧
          (W3.putObj (w.heap.size + 1) (.loop (rec (if jump.isNone then .ready else .done) jump))).heap[w.heap.size]? = some (.deferred (some [])) := fun jump W3 hk3 => by
        have hl3 := hk3.same _ _ hl2 rfl
        have := run_endRound (P := P) jump hl3
        rw [hrec] at this ⊢
        exact ⟨this, by rw [hrec] at hl3; exact hl3, World.putObj_heap_same (Array.getElem?_eq_some_iff.1 hl3).1, (World.putObj_heap_other (by omega)).trans (hk3.same _ _ hk2 rfl)⟩
      rintro e a3 W3 hp
      cases e with
      | normal =>
        obtain ⟨hk3, hkp3, hi3⟩ := hp
        obtain ⟨hr, hl3, hl4, hk4⟩ := fin none W3 hk3
        exact ⟨_, _, hr, .inl ⟨rfl, ⟨hI.putObj _ hi3 (by omega), hl4, hk4⟩, (hw2.trans hkp3).trans (KC.putObj _ _ _ _ hl3 rfl)⟩⟩
      | ret =>
        obtain ⟨hk3, hi3⟩ := hp
        obtain ⟨hr, hl3, hl4, hk4⟩ := fin (some .ret) W3 hk3
        exact ⟨_, _, hr, .inr ⟨rfl, .ret, (hIx _).putObj _ hi3 (by omega) hl3 rfl, hl4, hk4⟩⟩
      | exit id =>
        obtain ⟨hk3, hi3⟩ := hp
        obtain ⟨hr, hl3, hl4, hk4⟩ := fin (some (.exit id)) W3 hk3
        exact ⟨_, _, hr, .inr ⟨rfl, .exit id, (hIx _).putObj _ hi3 (by omega) hl3 rfl, hl4, hk4⟩⟩
      | goto t =>
        obtain ⟨hk3, hi3⟩ := hp
        obtain ⟨hr, hl3, hl4, hk4⟩ := fin (some (.goto t)) W3 hk3
        exact ⟨_, _, hr, .inr ⟨rfl, .goto t, (hIx _).putObj _ hi3 (by omega) hl3 rfl, hl4, hk4⟩⟩
      | panic ch => exact hp.elim
      | outgrown => exact hp.elim
    · rintro e W2 ⟨⟨v, rfl⟩, (⟨xs, hS, hi, hl, hk⟩ | ⟨pre, hSp, c, hi, hl, hk⟩)⟩
      · exact ⟨none, _, by have := run_endLoop (P := P) hl (by rw [hrec]; simp); rw [hrec] at this; exact this, hdone _ xs _ (Nat.le_refl _) hS (hI.putObj _ hi (by omega)) ((World.putObj_heap_other (by omega)).trans hk)⟩
      · exact ⟨some c, _, by have := run_endLoop (P := P) hl (by rw [hrec]; simp); rw [hrec] at this; exact this, hstop _ c pre _ (Nat.le_refl _) hSp ((hIx c).putObj _ hi (by omega) hl rfl) ((World.putObj_heap_other (by omega)).trans hk)⟩
end Go.Proofs.YtmpegkojencbjaaDoor
/- School, plain: all cases in order, as numbers written in mixed digits. -/
namespace Go.Proofs.YtmpegkojencbjaaDoor
open Go Go.RowKit Go.Shelf
set_option maxHeartbeats 2000000
set_option maxRecDepth 100000
/-- how many choices the n-th feature has -/
def chF (fs : List Int) (n : Nat) : Nat := (fs.getD n 0).toNat
/-- how many cases there are of the first n features -/
def pr (fs : List Int) : Nat → Nat
  | 0 => 1
  | n + 1 => pr fs n * chF fs n
/-- what the k-th case has at j, of the first n features -/
def dg (fs : List Int) : Nat → Nat → Nat → Int
  | 0, _, _ => 0
  | n + 1, k, j => if j = n then ((k % chF fs n : Nat) : Int) else dg fs n (k / chF fs n) j
theorem dg_last (fs : List Int) (n k : Nat) : dg fs (n + 1) k n = ((k % chF fs n : Nat) : Int) := by
  show (if n = n then _ else _) = _; rw [if_pos rfl]
theorem dg_lo (fs : List Int) (n k : Nat) {j : Nat} (h : j ≠ n) : dg fs (n + 1) k j = dg fs n (k / chF fs n) j := by
  show (if j = n then _ else _) = _; rw [if_neg h]
theorem dg_zero (fs : List Int) : ∀ n j, dg fs n 0 j = 0
  | 0, _ => rfl
  | n + 1, j => by
    by_cases h : j = n
    · subst h; rw [dg_last]; simp
    · rw [dg_lo _ _ _ h, Nat.zero_div]; exact dg_zero fs n j
section
variable {fs : List Int}
theorem pr_pos : ∀ {n : Nat}, (∀ j, j < n → 1 ≤ chF fs j) → 1 ≤ pr fs n
  | 0, _ => Nat.le_refl _
  | n + 1, h => by
    have h1 := pr_pos (n := n) (fun j hj => h j (by omega))
    have h2 := h n (by omega)
    exact Nat.mul_pos h1 h2
theorem dg_bd : ∀ {n : Nat} (k : Nat), (∀ j, j < n → 1 ≤ chF fs j) → ∀ j, j < n → 0 ≤ dg fs n k j ∧ dg fs n k j ≤ (chF fs j : Int) - 1
  | 0, _, _, j, hj => by omega
  | n + 1, k, h, j, hj => by
    by_cases e : j = n
    · subst e
      rw [dg_last]
      have := Nat.mod_lt k (h j (by omega))
      omega
    · rw [dg_lo _ _ _ e]
      exact dg_bd (n := n) _ (fun j hj => h j (by omega)) j (by omega)
theorem succ_max {k f : Nat} (hf : 1 ≤ f) (h : k % f = f - 1) : (k + 1) / f = k / f + 1 ∧ (k + 1) % f = 0 := by
  have h1 := Nat.div_add_mod k f
  have h2 : k + 1 = f * (k / f + 1) := by rw [Nat.mul_succ]; omega
  rw [h2]
  exact ⟨by rw [Nat.mul_div_cancel_left _ (by omega)], Nat.mul_mod_right _ _⟩
theorem succ_mid {k f : Nat} (hf : 1 ≤ f) (h : k % f ≠ f - 1) : (k + 1) / f = k / f ∧ (k + 1) % f = k % f + 1 := by
  have h1 := Nat.div_add_mod k f
  have h3 := Nat.mod_lt k hf
  have h2 : k + 1 = f * (k / f) + (k % f + 1) := by omega
  have h4 : k % f + 1 < f := by omega
  have h5 : 0 < f := hf
  constructor
  · rw [h2, Nat.mul_add_div h5, Nat.div_eq_of_lt h4]; simp
  · rw [h2, Nat.mul_add_mod, Nat.mod_eq_of_lt h4]
theorem div_pr {n k : Nat} (hf : 1 ≤ chF fs n) (h : k < pr fs (n + 1)) : k / chF fs n < pr fs n := by
  rw [Nat.div_lt_iff_lt_mul (by omega)]
  exact h
theorem nxt_end : ∀ {n : Nat} {k : Nat}, (∀ j, j < n → 1 ≤ chF fs j) → k < pr fs n → (∀ j, j < n → dg fs n k j = (chF fs j : Int) - 1) → k + 1 = pr fs n
  | 0, k, _, hk, _ => by
    have : pr fs 0 = 1 := rfl
    omega
  | n + 1, k, h, hk, hd => by
    have hf := h n (by omega)
    have h0 := hd n (by omega)
    rw [dg_last] at h0
    have h1 : k % chF fs n = chF fs n - 1 := by omega
    have ih := nxt_end (n := n) (k := k / chF fs n) (fun j hj => h j (by omega)) (div_pr hf hk) (fun j hj => by
      have := hd j (by omega)
      rwa [dg_lo _ _ _ (by omega)] at this)
    have h2 := Nat.div_add_mod k (chF fs n)
    show k + 1 = pr fs n * chF fs n
    rw [← ih, Nat.succ_mul, Nat.mul_comm (k / chF fs n)]
    omega
theorem nxt_some : ∀ {n : Nat} {k i : Nat}, (∀ j, j < n → 1 ≤ chF fs j) → k < pr fs n → i < n → dg fs n k i ≠ (chF fs i : Int) - 1 → (∀ j, i < j → j < n → dg fs n k j = (chF fs j : Int) - 1) →
    k + 1 < pr fs n ∧ ∀ j, j < n → dg fs n (k + 1) j = if j < i then dg fs n k j else if j = i then dg fs n k i + 1 else 0
  | 0, k, i, _, _, hi, _, _ => by omega
  | n + 1, k, i, h, hk, hi, hne, hd => by
    have hf := h n (by omega)
    have hdv := div_pr hf hk
    by_cases e : i = n
    · subst e
      rw [dg_last] at hne
      have h1 : k % chF fs i ≠ chF fs i - 1 := by omega
      obtain ⟨h2, h3⟩ := succ_mid hf h1
      refine ⟨?_, fun j hj => ?_⟩
      · have h4 : (k + 1) / chF fs i < pr fs i := by rw [h2]; exact hdv
        rw [Nat.div_lt_iff_lt_mul (by omega)] at h4
        exact h4
      · by_cases ej : j = i
        · subst ej
          rw [if_neg (by omega), if_pos rfl, dg_last, dg_last, h3]
          simp
        · rw [if_pos (by omega), dg_lo _ _ _ ej, dg_lo _ _ _ ej, h2]
    · have h0 := hd n (by omega) (by omega)
      rw [dg_last] at h0
      have h1 : k % chF fs n = chF fs n - 1 := by omega
      obtain ⟨h2, h3⟩ := succ_max hf h1
      rw [dg_lo _ _ _ e] at hne
      obtain ⟨h4, h5⟩ := nxt_some (n := n) (k := k / chF fs n) (i := i) (fun j hj => h j (by omega)) hdv (by omega) hne (fun j h6 h7 => by
        have := hd j h6 (by omega)
        rwa [dg_lo _ _ _ (by omega)] at this)
      refine ⟨?_, fun j hj => ?_⟩
      · have h6 : (k + 1) / chF fs n < pr fs n := by rw [h2]; exact h4
        rw [Nat.div_lt_iff_lt_mul (by omega)] at h6
        exact h6
      · by_cases ej : j = n
        · subst ej
          rw [if_neg (by omega), if_neg (by omega), dg_last, h3]
          rfl
        · rw [dg_lo _ _ _ ej, h2, h5 j (by omega)]
          by_cases e1 : j < i
          · rw [if_pos e1, if_pos e1, dg_lo _ _ _ ej]
          · rw [if_neg e1, if_neg e1, dg_lo _ _ _ e]
/-- the number of a case -/
def vl (fs : List Int) (c : Nat → Int) : Nat → Nat
  | 0 => 0
  | n + 1 => vl fs c n * chF fs n + (c n).toNat
theorem vl_congr (c c' : Nat → Int) : ∀ n, (∀ j, j < n → c j = c' j) → vl fs c n = vl fs c' n
  | 0, _ => rfl
  | n + 1, h => by
    show vl fs c n * _ + (c n).toNat = vl fs c' n * _ + (c' n).toNat
    rw [vl_congr c c' n (fun j hj => h j (by omega)), h n (by omega)]
theorem vl_dg : ∀ {n k : Nat}, (∀ j, j < n → 1 ≤ chF fs j) → k < pr fs n → vl fs (dg fs n k) n = k
  | 0, k, _, hk => by
    have : pr fs 0 = 1 := rfl
    show 0 = k
    omega
  | n + 1, k, h, hk => by
    have hf := h n (by omega)
    have ih := vl_dg (n := n) (k := k / chF fs n) (fun j hj => h j (by omega)) (div_pr hf hk)
    show vl fs (dg fs (n + 1) k) n * chF fs n + (dg fs (n + 1) k n).toNat = k
    rw [vl_congr (dg fs (n + 1) k) (dg fs n (k / chF fs n)) n (fun j hj => dg_lo _ _ _ (by omega)), ih, dg_last]
    have h2 := Nat.div_add_mod k (chF fs n)
    rw [Nat.mul_comm]
    omega
end
end Go.Proofs.YtmpegkojencbjaaDoor
/- School: the iterator over all cases. -/
namespace Go.Proofs.YtmpegkojencbjaaDoor
open List renaming getElem_toArray → glA, getElem_cons_zero → glB, getElem_cons_succ → glC, setIfInBounds_toArray → glD, set_cons_zero → glE, set_cons_succ → glF
open Go Go.RowKit Go.Shelf
attribute [local go_sem] Oper.semAt_some
set_option maxHeartbeats 4000000
set_option maxRecDepth 100000
theorem cases_any (C : Nat) (w : World) :
    Calls Tryd.prog 63 #[.pointer (some ⟨C, 0, none⟩)] w fun e w' => e = .returned (.func (.func 80) #[] #[.pointer (some ⟨w.heap.size, 0, none⟩)]) ∧ w.alloc (.cells #[.pointer (some ⟨C, 0, none⟩)] 109) = w' := by
  go_enter Tryd.func63, Tryd.ntmps63
  go_wp2_with fail
  go_ret
  exact ⟨rfl, rfl⟩
/-- what the iterator reads -/
structure CiR (W : World) (P C : Nat) (A : Option Addr) (nf fc : Nat) (fs : List Int) : Prop where
  p : W.cell? ⟨P, 0, none⟩ = some (.pointer (some ⟨C, 0, none⟩))
  c : W.cell? ⟨C, 0, none⟩ = some (.slice A nf fc)
  f : ∀ k, k < nf → ∃ b off, A = some ⟨b, off, none⟩ ∧ W.cell? ⟨b, off + k, none⟩ = some (.int .i64 (fs.getD k 0))
theorem CiR.kc {W W' : World} {P C : Nat} {A : Option Addr} {nf fc : Nat} {fs : List Int} (h : CiR W P C A nf fc fs) (hk : KC W W') : CiR W' P C A nf fc fs :=
  ⟨hk.cell h.p, hk.cell h.c, fun k hk1 => by
    obtain ⟨b, off, h1, h2⟩ := h.f k hk1
    exact ⟨b, off, h1, hk.cell h2⟩⟩
/-- all cells stay but those of block g -/
structure KG (g : Nat) (W W' : World) : Prop where
  size : W.heap.size ≤ W'.heap.size
  block : ∀ (k : Nat) (o : Obj), k ≠ g → W.heap[k]? = some o → o.isCells = true → W'.heap[k]? = some o
theorem KG.refl (g : Nat) (W : World) : KG g W W := ⟨Nat.le_refl _, fun _ _ _ h _ => h⟩
theorem KG.kc {g : Nat} {A B C : World} (h : KG g A B) (h2 : KC B C) : KG g A C := ⟨Nat.le_trans h.size h2.size, fun k o h0 h3 h4 => h2.block k o (h.block k o h0 h3 h4) h4⟩
theorem KG.set {g : Nat} {A B : World} (h : KG g A B) (i : Nat) (v : Value) : KG g A (B.setCell ⟨g, i, none⟩ v) :=
  ⟨by rw [size_set]; exact h.size, fun k o h0 h3 h4 => (Below.heap_setCell _ _ _ k h0).trans (h.block k o h0 h3 h4)⟩
theorem KG.cell {g : Nat} {W W' : World} (h : KG g W W') {p : Addr} {v : Value} (hp : p.block ≠ g) (hc : W.cell? p = some v) : W'.cell? p = some v := by
  unfold World.cell? at hc ⊢
  cases ho : W.heap[p.block]? with
  | none => rw [ho] at hc; simp at hc
  | some o =>
    rw [ho] at hc
    cases o with
    | cells cs t st => rw [h.block p.block _ hp ho rfl]; exact hc
    | _ => simp at hc
theorem cell_lt {W : World} {p : Addr} {v : Value} (hc : W.cell? p = some v) : p.block < W.heap.size := by
  unfold World.cell? at hc
  rcases Nat.lt_or_ge p.block W.heap.size with h | h
  · exact h
  · rw [Array.getElem?_eq_none h] at hc; simp at hc
theorem CiR.kg {W W' : World} {P C : Nat} {A : Option Addr} {nf fc : Nat} {fs : List Int} {g : Nat} (h : CiR W P C A nf fc fs) (hg : W.heap.size ≤ g) (hk : KG g W W') : CiR W' P C A nf fc fs :=
  ⟨hk.cell (by have := cell_lt h.p; dsimp only at this ⊢; omega) h.p, hk.cell (by have := cell_lt h.c; dsimp only at this ⊢; omega) h.c, fun k hk1 => by
    obtain ⟨b, off, h1, h2⟩ := h.f k hk1
    exact ⟨b, off, h1, hk.cell (by have := cell_lt h2; dsimp only at this ⊢; omega) h2⟩⟩
/-- case k -/
def csV (fs : List Int) (nf k : Nat) : Array Value := rowV nf fun j => .int .i64 (dg fs nf k j)
/-- the number of the case that lies in block g -/
def csN (fs : List Int) (nf g : Nat) (W : World) : Nat := vl fs (fun j => intOf ((W.cell? ⟨g, j, none⟩).getD (.int .i64 0))) nf
theorem csN_of {fs : List Int} {nf g k : Nat} {W : World} (h1 : ∀ j, j < nf → 1 ≤ chF fs j) (h : Blk W g 3 (csV fs nf k)) (hk : k < pr fs nf) : csN fs nf g W = k := by
  unfold csN
  rw [vl_congr _ (dg fs nf k) nf (fun j hj => by
    rw [h.cell]
    unfold csV
    rw [rowV_get _ _ hj]
    rfl)]
  exact vl_dg h1 hk
theorem AbM.set {β : Type} {B : Nat} {J : β → World → Prop} (h : AbM B J) {s : β} {W : World} (hs : J s W) {g : Nat} (hg : B ≤ g) (i : Nat) (v : Value) : J s (W.setCell ⟨g, i, none⟩ v) :=
  h s W _ (some g) hs (grownBy_setC W g i v) (fun r e => by injection e with e; omega)
theorem cases1_in (F : Fence) (n : Nat) (hF : ∀ f, F.fn f) (hro : F.round = none) (hn : 1 ≤ n) (l P C : Nat) (A : Option Addr) (nf fc : Nat) (fs : List Int) (J Jx : List (Nat × Nat) → World → Prop) (W : World)
    (hR : CiR W P C A nf fc fs) (hfs : ∀ k, k < nf → 1 ≤ fs.getD k 0 ∧ fs.getD k 0 ≤ 4) (hnf : nf ≤ 5) (hnf0 : 1 ≤ nf) (hJ : AbM W.heap.size J)
    (hY : ∀ pre (x : Nat × Nat) W1, J pre W1 → Blk W1 x.2 3 (csV fs nf x.1) → pre.length < pr fs nf → YieldAt F (n - 1) Tryd.prog l #[.slice (some ⟨x.2, 0, none⟩) nf nf] W1 fun e W' =>
      (e = .returned (.bool true) ∧ J (pre ++ [x]) W' ∧ KC W1 W') ∨ (e = .returned (.bool false) ∧ Jx (pre ++ [x]) W')) (h0 : J [] W) :
    CallsIn F n Tryd.prog 80 #[.func (.yield l) #[] #[], .pointer (some ⟨P, 0, none⟩)] W fun e W' => (∃ v, e = .returned v) ∧
      ((∃ ys : List (Nat × Nat), ys.map (·.1) = List.range (pr fs nf) ∧ J ys W') ∨ (∃ pre : List (Nat × Nat), (∃ m, m ≤ pr fs nf ∧ pre.map (·.1) = List.range m) ∧ Jx pre W')) := by
  have g1 := hR.p
  have g2 := hR.c
  have HYY := hide hY
  have HRR := hide hR
  have HFS := hide hfs
  have HJA := hide hJ
  have H0 := hide h0
  have hch : ∀ j, j < nf → 1 ≤ chF fs j := fun j hj => by have := hfs j hj; unfold chF; omega
  have HCH := hide hch
  obtain ⟨i0, hi, hz0, hz1, hz2⟩ := info_parts info_int'
  have gl := run_make_rowN (P := Tryd.prog) 36 3 i0 _ Tryd.underlying36 hi hz0 .i64 .i64 nf nf (Nat.le_refl _) (by rw [hz2]; omega) (by omega) W
  rw [hz1, rowV_ints] at gl
  clear hY hJ h0 hR hfs hch hi hz0 hz1 hz2
  refine callsIn_of_wp Tryd.func80 rfl (hF _) ?_ hro
  simp only [Tryd.ntmps80, List.size_toArray, List.length_cons, List.length_nil, Nat.reduceAdd, Nat.reduceSub, Array.replicate_succ, Array.replicate_zero, List.push_toArray, List.append_toArray, List.nil_append, List.cons_append]
  gi_wp2_with fail
  have HKG : Hid (KG W.heap.size W (W.alloc (.cells (rowV nf fun _ => .int .i64 0) 3))) := hide ((KG.refl _ W).kc (KC.of_below ((Below.refl _ _).alloc (Nat.le_refl _) _)))
  have HB0 : Hid (Blk (W.alloc (.cells (rowV nf fun _ => .int .i64 0) 3)) W.heap.size 3 (csV fs nf 0)) := hide (by
    have h := Blk.new W 3 (rowV nf fun _ => .int .i64 0)
    have e : (rowV nf fun _ => Value.int .i64 0) = csV fs nf 0 := rowV_same _ _ _ (fun k _ => by rw [dg_zero])
    rw [← e]
    exact h)
  have HJ0 : Hid (J [] (W.alloc (.cells (rowV nf fun _ => .int .i64 0) 3))) := hide (HJA.out.alloc _ H0.out)
  generalize (W.alloc (.cells (rowV nf fun _ => .int .i64 0) 3)) = W0 at HKG HB0 HJ0 ⊢
  clear gl g1 g2
  obtain ⟨g, hg⟩ : ∃ x, W.heap.size = x := ⟨_, rfl⟩
  have HGG := hide hg
  rw [hg] at HKG HB0 HJA ⊢
  clear hg
  gi_loopw [4] (fun v4 wr => ∃ (k : Nat) (ys : List (Nat × Nat)), (v4 = undef ∨ ∃ q, v4 = .int .i64 q) ∧ k < pr fs nf ∧ Hid (ys.map (·.1) = List.range k) ∧ Hid (J ys wr) ∧ Hid (KG g W wr) ∧ Hid (Blk wr g 3 (csV fs nf k))) (fun _ wr => pr fs nf - csN fs nf g wr)
  case atStart => exact ⟨0, [], .inl rfl, pr_pos HCH.out, hide rfl, HJ0, HKG, HB0⟩
  case round =>
    obtain ⟨k, ys, -, hk, HYS, HJ, HK, HB⟩ := hrel
    clear HJ0 HKG HB0
    have hmea : csN fs nf g wr = k := csN_of HCH.out HB.out hk
    have HMEA := hide hmea
    clear hmea
    obtain ⟨fn, tmps, assign, body, hy, hR⟩ := HYY.out ys (k, g) wr HJ.out HB.out (by
      have h := congrArg List.length HYS.out
      rw [List.length_map, List.length_range] at h
      omega)
    dsimp only at hy
    have HR := hide hR
    clear hR
    gi_wp2_with fail
    refine HR.out.mono ?_
    rintro e W3 (⟨rfl, hJ3, hk3⟩ | ⟨rfl, hJx3⟩)
    · -- BEGIN1
      have HJ3 := hide hJ3
      have HK3 := hide (HK.out.kc hk3)
      have HB3 := hide (hk3.blk HB.out)
      have hm3 : csN fs nf g W3 = k := csN_of HCH.out HB3.out hk
      clear hJ3 hk3 hy HR HJ HK HB hm3
      have w1 : IntKind.i64.wrap ((nf : Int) - 1) = (nf : Int) - 1 := IntWalk.i64_in _ (by omega)
      gi_wp2_with fail
      have hmix : Tryd.prog.follows .mixedOrders = true := by kernel_rfl
      gi_loopw [4] (fun x wr => ∃ (r : Nat) (iv : Int), x = .int .i64 iv ∧ iv = (r : Int) - 1 ∧ r ≤ nf ∧ Hid (∀ j, r ≤ j → j < nf → dg fs nf k j = (chF fs j : Int) - 1) ∧ Hid (J (ys ++ [(k, g)]) wr) ∧ Hid (KG g W wr) ∧ Hid (Blk wr g 3 (rowV nf fun j => .int .i64 (if j < r then dg fs nf k j else 0)))) (fun x _ => (intOf x + 1).toNat)
      case atStart => exact ⟨nf, _, rfl, rfl, Nat.le_refl _, hide (fun j h1 h2 => by omega), HJ3, HK3, hide (by
        have e : csV fs nf k = rowV nf fun j => .int .i64 (if j < nf then dg fs nf k j else 0) := rowV_same _ _ _ (fun j hj => by rw [if_pos hj])
        rw [← e]; exact HB3.out)⟩
      case round =>
        obtain ⟨r, iv, rfl, hiv, hr, HD, HJ4, HK4, HB4⟩ := hrel
        clear HJ3 HK3 HB3
        rcases r with _ | i
        · obtain rfl : iv = -1 := by omega
          clear hiv
          have hend := nxt_end HCH.out hk (fun j hj => HD.out j (by omega) hj)
          have HEND := hide hend
          clear hend
          gi_wp2_with fail
          refine wpIn_region_J (fun _ : World => True) hmix ?_
          have HJd := hide (HJA.out _ _ _ none HJ4.out (⟨rfl, rfl, rfl, Nat.le_refl _, fun _ _ _ => rfl⟩ : wr.grownBy wr.drew none) (fun r e => by cases e))
          generalize wr.drew = wd at HJd ⊢
          refine wpAnyJ_take 0 (v := ?_) (by first | exact hF | exact wideFn) (trivial) rfl (by kernel_rfl) (by kernel_rfl) (by kernel_rfl) (by kernel_rfl) rfl ?_ (by first | exact fun _ _ _ h => h | exact fun _ _ _ h => hQ2 _ _ _ _ _ h) ?_
          rotate_left
          · intro W hSW
            simp only [glA, glB, glC]
            (try dsimp only at hSW)
            go_simp
            with_reducible rfl
          (try simp only [glA, glB, glC, Act.put, glD, glE, glF])
          refine wpAnyJ_take 1 (v := ?_) (by first | exact hF | exact wideFn) (trivial) rfl (by kernel_rfl) (by kernel_rfl) (by kernel_rfl) (by kernel_rfl) rfl ?_ (by first | exact fun _ _ _ h => h | exact fun _ _ _ h => hQ2 _ _ _ _ _ h) ?_
          rotate_left
          · intro W hSW
            simp only [glA, glB, glC]
            (try dsimp only at hSW)
            go_simp
            with_reducible rfl
          (try simp only [glA, glB, glC, Act.put, glD, glE, glF])
          refine wpAnyJ_take 2 (v := ?_) (by first | exact hF | exact wideFn) (trivial) rfl (by kernel_rfl) (by kernel_rfl) (by kernel_rfl) (by kernel_rfl) rfl ?_ (by first | exact fun _ _ _ h => h | exact fun _ _ _ h => hQ2 _ _ _ _ _ h) ?_
          rotate_left
          · intro W hSW
            simp only [glA, glB, glC]
            (try dsimp only at hSW)
            go_simp
            with_reducible rfl
          (try simp only [glA, glB, glC, Act.put, glD, glE, glF])
          refine wpAnyJ_skip 3 (by first | exact hF | exact wideFn) (trivial) rfl (by kernel_rfl) (by kernel_rfl) (by kernel_rfl) (by kernel_rfl) rfl (by first | exact fun _ _ _ h => h | exact fun _ _ _ h => hQ2 _ _ _ _ _ h) ?_
          (try simp only [glA, glB, glC, Act.put, glD, glE, glF])
          refine wpAnyJ_skip 4 (by first | exact hF | exact wideFn) (trivial) rfl (by kernel_rfl) (by kernel_rfl) (by kernel_rfl) (by kernel_rfl) rfl (by first | exact fun _ _ _ h => h | exact fun _ _ _ h => hQ2 _ _ _ _ _ h) ?_
          (try simp only [glA, glB, glC, Act.put, glD, glE, glF])
          refine wpAnyJ_skip 5 (by first | exact hF | exact wideFn) (trivial) rfl (by kernel_rfl) (by kernel_rfl) (by kernel_rfl) (by kernel_rfl) rfl (by first | exact fun _ _ _ h => h | exact fun _ _ _ h => hQ2 _ _ _ _ _ h) ?_
          (try simp only [glA, glB, glC, Act.put, glD, glE, glF])
          refine wpAnyJ_skip 6 (by first | exact hF | exact wideFn) (trivial) rfl (by kernel_rfl) (by kernel_rfl) (by kernel_rfl) (by kernel_rfl) rfl (by first | exact fun _ _ _ h => h | exact fun _ _ _ h => hQ2 _ _ _ _ _ h) ?_
          (try simp only [glA, glB, glC, Act.put, glD, glE, glF])
          refine wpAnyJ_skip 7 (by first | exact hF | exact wideFn) (trivial) rfl (by kernel_rfl) (by kernel_rfl) (by kernel_rfl) (by kernel_rfl) rfl (by first | exact fun _ _ _ h => h | exact fun _ _ _ h => hQ2 _ _ _ _ _ h) ?_
          (try simp only [glA, glB, glC, Act.put, glD, glE, glF])
          refine wpAnyJ_skip 8 (by first | exact hF | exact wideFn) (trivial) rfl (by kernel_rfl) (by kernel_rfl) (by kernel_rfl) (by kernel_rfl) rfl (by first | exact fun _ _ _ h => h | exact fun _ _ _ h => hQ2 _ _ _ _ _ h) ?_
          (try simp only [glA, glB, glC, Act.put, glD, glE, glF])
          refine wpAnyJ_skip 9 (by first | exact hF | exact wideFn) (trivial) rfl (by kernel_rfl) (by kernel_rfl) (by kernel_rfl) (by kernel_rfl) rfl (by first | exact fun _ _ _ h => h | exact fun _ _ _ h => hQ2 _ _ _ _ _ h) ?_
          (try simp only [glA, glB, glC, Act.put, glD, glE, glF])
          refine wpAnyJ_skip 10 (by first | exact hF | exact wideFn) (trivial) rfl (by kernel_rfl) (by kernel_rfl) (by kernel_rfl) (by kernel_rfl) rfl (by first | exact fun _ _ _ h => h | exact fun _ _ _ h => hQ2 _ _ _ _ _ h) ?_
          (try simp only [glA, glB, glC, Act.put, glD, glE, glF])
          refine wpAnyJ_skip 11 (by first | exact hF | exact wideFn) (trivial) rfl (by kernel_rfl) (by kernel_rfl) (by kernel_rfl) (by kernel_rfl) rfl (by first | exact fun _ _ _ h => h | exact fun _ _ _ h => hQ2 _ _ _ _ _ h) ?_
          (try simp only [glA, glB, glC, Act.put, glD, glE, glF])
          refine wpAnyJ_skip 12 (by first | exact hF | exact wideFn) (trivial) rfl (by kernel_rfl) (by kernel_rfl) (by kernel_rfl) (by kernel_rfl) rfl (by first | exact fun _ _ _ h => h | exact fun _ _ _ h => hQ2 _ _ _ _ _ h) ?_
          (try simp only [glA, glB, glC, Act.put, glD, glE, glF])
          refine wpAnyJ_skip 13 (by first | exact hF | exact wideFn) (trivial) rfl (by kernel_rfl) (by kernel_rfl) (by kernel_rfl) (by kernel_rfl) rfl (by first | exact fun _ _ _ h => h | exact fun _ _ _ h => hQ2 _ _ _ _ _ h) ?_
          (try simp only [glA, glB, glC, Act.put, glD, glE, glF])
          refine wpAnyJ_skip 14 (by first | exact hF | exact wideFn) (trivial) rfl (by kernel_rfl) (by kernel_rfl) (by kernel_rfl) (by kernel_rfl) rfl (by first | exact fun _ _ _ h => h | exact fun _ _ _ h => hQ2 _ _ _ _ _ h) ?_
          (try simp only [glA, glB, glC, Act.put, glD, glE, glF])
          refine wpAnyJ_skip 15 (by first | exact hF | exact wideFn) (trivial) rfl (by kernel_rfl) (by kernel_rfl) (by kernel_rfl) (by kernel_rfl) rfl (by first | exact fun _ _ _ h => h | exact fun _ _ _ h => hQ2 _ _ _ _ _ h) ?_
          (try simp only [glA, glB, glC, Act.put, glD, glE, glF])
          refine wpAnyJ_skip 16 (by first | exact hF | exact wideFn) (trivial) rfl (by kernel_rfl) (by kernel_rfl) (by kernel_rfl) (by kernel_rfl) rfl (by first | exact fun _ _ _ h => h | exact fun _ _ _ h => hQ2 _ _ _ _ _ h) ?_
          (try simp only [glA, glB, glC, Act.put, glD, glE, glF])
          refine wpAnyJ_take 17 (v := ?_) (by first | exact hF | exact wideFn) (trivial) rfl (by kernel_rfl) (by kernel_rfl) (by kernel_rfl) (by kernel_rfl) rfl ?_ (by first | exact fun _ _ _ h => h | exact fun _ _ _ h => hQ2 _ _ _ _ _ h) ?_
          rotate_left
          · intro W hSW
            simp only [glA, glB, glC]
            (try dsimp only at hSW)
            go_simp
            with_reducible rfl
          (try simp only [glA, glB, glC, Act.put, glD, glE, glF])
          refine wpAnyJ_done (by kernel_rfl) ?_
          gi_wp2_with fail
          refine bodyPost_ret (results_none rfl _ _ _) rfl ?_
          exact ⟨⟨_, rfl⟩, .inl ⟨_, by rw [List.map_append, HYS.out, ← HEND.out, List.range_succ]; rfl, HJd.out⟩⟩
        · obtain rfl : iv = (i : Int) := by omega
          clear hiv
          have hin : i < nf := by omega
          have hin' : (i : Int) < (nf : Int) := by omega
          have i0' : (0 : Int) ≤ (i : Int) := by omega
          have hci := HRR.out.kg (by rw [HGG.out]; exact Nat.le_refl _) HK4.out
          obtain ⟨fb, fo, rfl, hff⟩ := hci.f i hin
          have hp := hci.p
          have hc := hci.c
          have hx0 : wr.cell? ⟨g, i, none⟩ = some (.int .i64 (dg fs nf k i)) := by rw [HB4.out.cell, rowV_get _ _ hin, if_pos (by omega)]
          have hf14 := HFS.out i hin
          have hfx : fs.getD i 0 = (chF fs i : Int) := by unfold chF; omega
          have hbd := dg_bd (fs := fs) (n := nf) k HCH.out i hin
          obtain ⟨f, hf⟩ : ∃ f, fs.getD i 0 = f := ⟨_, rfl⟩
          obtain ⟨x, hx⟩ : ∃ f, dg fs nf k i = f := ⟨_, rfl⟩
          rw [hf] at hff hf14 hfx
          rw [hx] at hx0 hbd
          have w2 : IntKind.i64.wrap (f - 1) = f - 1 := IntWalk.i64_in _ (by omega)
          have w3 : IntKind.i64.wrap (x + 1) = x + 1 := IntWalk.i64_in _ (by omega)
          have w4 : IntKind.i64.wrap ((i : Int) - 1) = (i : Int) - 1 := IntWalk.i64_in _ (by omega)
          have HX := hide (And.intro hx hfx)
          have HS : Hid (∀ W', Below wr.heap.size wr W' → (W'.cell? ⟨P, 0, none⟩ = some (.pointer (some ⟨C, 0, none⟩)) ∧ W'.cell? ⟨C, 0, none⟩ = some (.slice (some ⟨fb, fo, none⟩) nf fc)) ∧ W'.cell? ⟨fb, fo + i, none⟩ = some (.int .i64 f) ∧ W'.cell? ⟨g, i, none⟩ = some (.int .i64 x)) := hide fun W' h =>
            ⟨⟨(h.cell (cell_lt hp)).trans hp, (h.cell (cell_lt hc)).trans hc⟩, (h.cell (cell_lt hff)).trans hff, (h.cell (cell_lt hx0)).trans hx0⟩
          clear hx hf hfx hci hp hc hff hx0
          gi_wp2_with fail
          have Bd := hide ((Below.refl wr.heap.size wr).drew)
          refine wpIn_region_J (fun W' : World => (W'.cell? ⟨P, 0, none⟩ = some (.pointer (some ⟨C, 0, none⟩)) ∧ W'.cell? ⟨C, 0, none⟩ = some (.slice (some ⟨fb, fo, none⟩) nf fc)) ∧ W'.cell? ⟨fb, fo + i, none⟩ = some (.int .i64 f) ∧ W'.cell? ⟨g, i, none⟩ = some (.int .i64 x)) hmix ?_
          have HJd := hide (HJA.out _ _ _ none HJ4.out (⟨rfl, rfl, rfl, Nat.le_refl _, fun _ _ _ => rfl⟩ : wr.grownBy wr.drew none) (fun r e => by cases e))
          have HKd := hide (HK4.out.kc (KC.of_below Bd.out))
          have HBd := hide (HB4.out.ext Bd.out)
          have HSd := hide (HS.out _ Bd.out)
          generalize wr.drew = wd at HJd HKd HBd HSd ⊢
          clear HJ4 HK4 HB4 HS Bd
          by_cases hxf : x = f - 1
          · have e1 : (x == f - 1) = true := by rw [hxf]; exact beq_self_eq_true _
            have HD2 : Hid (∀ j, i ≤ j → j < nf → dg fs nf k j = (chF fs j : Int) - 1) := hide (fun j h1 h2 => by
              rcases (by omega : j = i ∨ i + 1 ≤ j) with rfl | h3
              · rw [HX.out.1, hxf, HX.out.2]
              · exact HD.out j h3 h2)
            clear hxf
            refine wpAnyJ_take 0 (v := ?_) (by first | exact hF | exact wideFn) (HSd.out) rfl (by kernel_rfl) (by kernel_rfl) (by kernel_rfl) (by kernel_rfl) rfl ?_ (by first | exact fun _ _ _ h => h | exact fun _ _ _ h => hQ2 _ _ _ _ _ h) ?_
            rotate_left
            · intro W hSW
              simp only [glA, glB, glC]
              (try dsimp only at hSW)
              go_simp
              with_reducible rfl
            (try simp only [glA, glB, glC, Act.put, glD, glE, glF])
            refine wpAnyJ_take 1 (v := ?_) (by first | exact hF | exact wideFn) (HSd.out) rfl (by kernel_rfl) (by kernel_rfl) (by kernel_rfl) (by kernel_rfl) rfl ?_ (by first | exact fun _ _ _ h => h | exact fun _ _ _ h => hQ2 _ _ _ _ _ h) ?_
            rotate_left
            · intro W hSW
              simp only [glA, glB, glC]
              (try dsimp only at hSW)
              go_simp
              with_reducible rfl
            (try simp only [glA, glB, glC, Act.put, glD, glE, glF])
            refine wpAnyJ_take 2 (v := ?_) (by first | exact hF | exact wideFn) (HSd.out) rfl (by kernel_rfl) (by kernel_rfl) (by kernel_rfl) (by kernel_rfl) rfl ?_ (by first | exact fun _ _ _ h => h | exact fun _ _ _ h => hQ2 _ _ _ _ _ h) ?_
            rotate_left
            · intro W hSW
              simp only [glA, glB, glC]
              (try dsimp only at hSW)
              go_simp
              with_reducible rfl
            (try simp only [glA, glB, glC, Act.put, glD, glE, glF])
            refine wpAnyJ_take 3 (v := ?_) (by first | exact hF | exact wideFn) (HSd.out) rfl (by kernel_rfl) (by kernel_rfl) (by kernel_rfl) (by kernel_rfl) rfl ?_ (by first | exact fun _ _ _ h => h | exact fun _ _ _ h => hQ2 _ _ _ _ _ h) ?_
            rotate_left
            · intro W hSW
              simp only [glA, glB, glC]
              (try dsimp only at hSW)
              go_simp
              with_reducible rfl
            (try simp only [glA, glB, glC, Act.put, glD, glE, glF])
            refine wpAnyJ_take 4 (v := ?_) (by first | exact hF | exact wideFn) (HSd.out) rfl (by kernel_rfl) (by kernel_rfl) (by kernel_rfl) (by kernel_rfl) rfl ?_ (by first | exact fun _ _ _ h => h | exact fun _ _ _ h => hQ2 _ _ _ _ _ h) ?_
            rotate_left
            · intro W hSW
              simp only [glA, glB, glC]
              (try dsimp only at hSW)
              go_simp
              with_reducible rfl
            (try simp only [glA, glB, glC, Act.put, glD, glE, glF])
            refine wpAnyJ_take 5 (v := ?_) (by first | exact hF | exact wideFn) (HSd.out) rfl (by kernel_rfl) (by kernel_rfl) (by kernel_rfl) (by kernel_rfl) rfl ?_ (by first | exact fun _ _ _ h => h | exact fun _ _ _ h => hQ2 _ _ _ _ _ h) ?_
            rotate_left
            · intro W hSW
              simp only [glA, glB, glC]
              (try dsimp only at hSW)
              go_simp
              with_reducible rfl
            (try simp only [glA, glB, glC, Act.put, glD, glE, glF])
            refine wpAnyJ_take 6 (v := ?_) (by first | exact hF | exact wideFn) (HSd.out) rfl (by kernel_rfl) (by kernel_rfl) (by kernel_rfl) (by kernel_rfl) rfl ?_ (by first | exact fun _ _ _ h => h | exact fun _ _ _ h => hQ2 _ _ _ _ _ h) ?_
            rotate_left
            · intro W hSW
              simp only [glA, glB, glC]
              (try dsimp only at hSW)
              go_simp
              with_reducible rfl
            (try simp only [glA, glB, glC, Act.put, glD, glE, glF])
            refine wpAnyJ_take 7 (v := ?_) (by first | exact hF | exact wideFn) (HSd.out) rfl (by kernel_rfl) (by kernel_rfl) (by kernel_rfl) (by kernel_rfl) rfl ?_ (by first | exact fun _ _ _ h => h | exact fun _ _ _ h => hQ2 _ _ _ _ _ h) ?_
            rotate_left
            · intro W hSW
              simp only [glA, glB, glC]
              (try dsimp only at hSW)
              go_simp
              with_reducible rfl
            (try simp only [glA, glB, glC, Act.put, glD, glE, glF])
            refine wpAnyJ_take 8 (v := ?_) (by first | exact hF | exact wideFn) (HSd.out) rfl (by kernel_rfl) (by kernel_rfl) (by kernel_rfl) (by kernel_rfl) rfl ?_ (by first | exact fun _ _ _ h => h | exact fun _ _ _ h => hQ2 _ _ _ _ _ h) ?_
            rotate_left
            · intro W hSW
              simp only [glA, glB, glC]
              (try dsimp only at hSW)
              go_simp
              with_reducible rfl
            (try simp only [glA, glB, glC, Act.put, glD, glE, glF])
            refine wpAnyJ_take 9 (v := ?_) (by first | exact hF | exact wideFn) (HSd.out) rfl (by kernel_rfl) (by kernel_rfl) (by kernel_rfl) (by kernel_rfl) rfl ?_ (by first | exact fun _ _ _ h => h | exact fun _ _ _ h => hQ2 _ _ _ _ _ h) ?_
            rotate_left
            · intro W hSW
              simp only [glA, glB, glC]
              (try dsimp only at hSW)
              go_simp
              with_reducible rfl
            (try simp only [glA, glB, glC, Act.put, glD, glE, glF])
            refine wpAnyJ_take 10 (v := ?_) (by first | exact hF | exact wideFn) (HSd.out) rfl (by kernel_rfl) (by kernel_rfl) (by kernel_rfl) (by kernel_rfl) rfl ?_ (by first | exact fun _ _ _ h => h | exact fun _ _ _ h => hQ2 _ _ _ _ _ h) ?_
            rotate_left
            · intro W hSW
              simp only [glA, glB, glC]
              (try dsimp only at hSW)
              go_simp
              with_reducible rfl
            (try simp only [glA, glB, glC, Act.put, glD, glE, glF])
            refine wpAnyJ_take 11 (v := ?_) (by first | exact hF | exact wideFn) (HSd.out) rfl (by kernel_rfl) (by kernel_rfl) (by kernel_rfl) (by kernel_rfl) rfl ?_ (by first | exact fun _ _ _ h => h | exact fun _ _ _ h => hQ2 _ _ _ _ _ h) ?_
            rotate_left
            · intro W hSW
              simp only [glA, glB, glC]
              (try dsimp only at hSW)
              go_simp
              with_reducible rfl
            (try simp only [glA, glB, glC, Act.put, glD, glE, glF])
            refine wpAnyJ_take 12 (v := ?_) (by first | exact hF | exact wideFn) (HSd.out) rfl (by kernel_rfl) (by kernel_rfl) (by kernel_rfl) (by kernel_rfl) rfl ?_ (by first | exact fun _ _ _ h => h | exact fun _ _ _ h => hQ2 _ _ _ _ _ h) ?_
            rotate_left
            · intro W hSW
              simp only [glA, glB, glC]
              (try dsimp only at hSW)
              go_simp
              with_reducible rfl
            (try simp only [glA, glB, glC, Act.put, glD, glE, glF])
            refine wpAnyJ_take 13 (v := ?_) (by first | exact hF | exact wideFn) (HSd.out) rfl (by kernel_rfl) (by kernel_rfl) (by kernel_rfl) (by kernel_rfl) rfl ?_ (by first | exact fun _ _ _ h => h | exact fun _ _ _ h => hQ2 _ _ _ _ _ h) ?_
            rotate_left
            · intro W hSW
              simp only [glA, glB, glC]
              (try dsimp only at hSW)
              go_simp
              with_reducible rfl
            (try simp only [glA, glB, glC, Act.put, glD, glE, glF])
            refine wpAnyJ_take 14 (v := ?_) (by first | exact hF | exact wideFn) (HSd.out) rfl (by kernel_rfl) (by kernel_rfl) (by kernel_rfl) (by kernel_rfl) rfl ?_ (by first | exact fun _ _ _ h => h | exact fun _ _ _ h => hQ2 _ _ _ _ _ h) ?_
            rotate_left
            · intro W hSW
              simp only [glA, glB, glC]
              (try dsimp only at hSW)
              go_simp
              with_reducible rfl
            (try simp only [glA, glB, glC, Act.put, glD, glE, glF])
            refine wpAnyJ_take 15 (v := ?_) (by first | exact hF | exact wideFn) (HSd.out) rfl (by kernel_rfl) (by kernel_rfl) (by kernel_rfl) (by kernel_rfl) rfl ?_ (by first | exact fun _ _ _ h => h | exact fun _ _ _ h => hQ2 _ _ _ _ _ h) ?_
            rotate_left
            · intro W hSW
              simp only [glA, glB, glC]
              (try dsimp only at hSW)
              go_simp
              with_reducible rfl
            (try simp only [glA, glB, glC, Act.put, glD, glE, glF])
            refine wpAnyJ_take 16 (v := ?_) (by first | exact hF | exact wideFn) (HSd.out) rfl (by kernel_rfl) (by kernel_rfl) (by kernel_rfl) (by kernel_rfl) rfl ?_ (by first | exact fun _ _ _ h => h | exact fun _ _ _ h => hQ2 _ _ _ _ _ h) ?_
            rotate_left
            · intro W hSW
              simp only [glA, glB, glC]
              (try dsimp only at hSW)
              go_simp
              with_reducible rfl
            (try simp only [glA, glB, glC, Act.put, glD, glE, glF])
            refine wpAnyJ_take 17 (v := ?_) (by first | exact hF | exact wideFn) (HSd.out) rfl (by kernel_rfl) (by kernel_rfl) (by kernel_rfl) (by kernel_rfl) rfl ?_ (by first | exact fun _ _ _ h => h | exact fun _ _ _ h => hQ2 _ _ _ _ _ h) ?_
            rotate_left
            · intro W hSW
              simp only [glA, glB, glC]
              (try dsimp only at hSW)
              go_simp
              with_reducible rfl
            (try simp only [glA, glB, glC, Act.put, glD, glE, glF])
            refine wpAnyJ_done (by kernel_rfl) ?_
            have cg := HSd.out.2.2
            have fg := HBd.out.frozen i
            have lg := HBd.out.lt
            have HB5 := hide (HBd.out.set_ i (.int .i64 0))
            have HJ5 := hide (HJA.out.set HJd.out (Nat.le_refl g) i (.int .i64 0))
            have HK5 := hide (HKd.out.set i (.int .i64 0))
            gi_wp2_with fail
            go_roundw
            case rel => exact ⟨i, (i : Int) - 1, by first | rfl | rw [w4], rfl, by omega, HD2, HJ5, HK5, hide (by
              have h := HB5.out
              rw [rowV_set] at h
              rw [rowV_same nf _ (upd (fun j => Value.int .i64 (if j < i + 1 then dg fs nf k j else 0)) i (.int .i64 0)) (fun j hj => by
                unfold upd
                by_cases e : j = i
                · subst e; rw [if_pos rfl, if_neg (by omega)]
                · rw [if_neg e]
                  dsimp only
                  by_cases e2 : j < i
                  · rw [if_pos e2, if_pos (by omega)]
                  · rw [if_neg e2, if_neg (by omega)])]
              exact h)⟩
            case measure => first | (simp [intOf]; omega) | simp [intOf]
          · have e1 : (x == f - 1) = false := by rw [beq_eq_false_iff_ne]; exact hxf
            have hnx := nxt_some HCH.out hk hin (by rw [HX.out.1, ← HX.out.2]; exact hxf) (fun j h1 h2 => HD.out j (by omega) h2)
            have HNX := hide hnx
            clear hxf hnx
            refine wpAnyJ_take 0 (v := ?_) (by first | exact hF | exact wideFn) (HSd.out) rfl (by kernel_rfl) (by kernel_rfl) (by kernel_rfl) (by kernel_rfl) rfl ?_ (by first | exact fun _ _ _ h => h | exact fun _ _ _ h => hQ2 _ _ _ _ _ h) ?_
            rotate_left
            · intro W hSW
              simp only [glA, glB, glC]
              (try dsimp only at hSW)
              go_simp
              with_reducible rfl
            (try simp only [glA, glB, glC, Act.put, glD, glE, glF])
            refine wpAnyJ_take 1 (v := ?_) (by first | exact hF | exact wideFn) (HSd.out) rfl (by kernel_rfl) (by kernel_rfl) (by kernel_rfl) (by kernel_rfl) rfl ?_ (by first | exact fun _ _ _ h => h | exact fun _ _ _ h => hQ2 _ _ _ _ _ h) ?_
            rotate_left
            · intro W hSW
              simp only [glA, glB, glC]
              (try dsimp only at hSW)
              go_simp
              with_reducible rfl
            (try simp only [glA, glB, glC, Act.put, glD, glE, glF])
            refine wpAnyJ_take 2 (v := ?_) (by first | exact hF | exact wideFn) (HSd.out) rfl (by kernel_rfl) (by kernel_rfl) (by kernel_rfl) (by kernel_rfl) rfl ?_ (by first | exact fun _ _ _ h => h | exact fun _ _ _ h => hQ2 _ _ _ _ _ h) ?_
            rotate_left
            · intro W hSW
              simp only [glA, glB, glC]
              (try dsimp only at hSW)
              go_simp
              with_reducible rfl
            (try simp only [glA, glB, glC, Act.put, glD, glE, glF])
            refine wpAnyJ_take 3 (v := ?_) (by first | exact hF | exact wideFn) (HSd.out) rfl (by kernel_rfl) (by kernel_rfl) (by kernel_rfl) (by kernel_rfl) rfl ?_ (by first | exact fun _ _ _ h => h | exact fun _ _ _ h => hQ2 _ _ _ _ _ h) ?_
            rotate_left
            · intro W hSW
              simp only [glA, glB, glC]
              (try dsimp only at hSW)
              go_simp
              with_reducible rfl
            (try simp only [glA, glB, glC, Act.put, glD, glE, glF])
            refine wpAnyJ_take 4 (v := ?_) (by first | exact hF | exact wideFn) (HSd.out) rfl (by kernel_rfl) (by kernel_rfl) (by kernel_rfl) (by kernel_rfl) rfl ?_ (by first | exact fun _ _ _ h => h | exact fun _ _ _ h => hQ2 _ _ _ _ _ h) ?_
            rotate_left
            · intro W hSW
              simp only [glA, glB, glC]
              (try dsimp only at hSW)
              go_simp
              with_reducible rfl
            (try simp only [glA, glB, glC, Act.put, glD, glE, glF])
            refine wpAnyJ_take 5 (v := ?_) (by first | exact hF | exact wideFn) (HSd.out) rfl (by kernel_rfl) (by kernel_rfl) (by kernel_rfl) (by kernel_rfl) rfl ?_ (by first | exact fun _ _ _ h => h | exact fun _ _ _ h => hQ2 _ _ _ _ _ h) ?_
            rotate_left
            · intro W hSW
              simp only [glA, glB, glC]
              (try dsimp only at hSW)
              go_simp
              with_reducible rfl
            (try simp only [glA, glB, glC, Act.put, glD, glE, glF])
            refine wpAnyJ_take 6 (v := ?_) (by first | exact hF | exact wideFn) (HSd.out) rfl (by kernel_rfl) (by kernel_rfl) (by kernel_rfl) (by kernel_rfl) rfl ?_ (by first | exact fun _ _ _ h => h | exact fun _ _ _ h => hQ2 _ _ _ _ _ h) ?_
            rotate_left
            · intro W hSW
              simp only [glA, glB, glC]
              (try dsimp only at hSW)
              go_simp
              with_reducible rfl
            (try simp only [glA, glB, glC, Act.put, glD, glE, glF])
            refine wpAnyJ_take 7 (v := ?_) (by first | exact hF | exact wideFn) (HSd.out) rfl (by kernel_rfl) (by kernel_rfl) (by kernel_rfl) (by kernel_rfl) rfl ?_ (by first | exact fun _ _ _ h => h | exact fun _ _ _ h => hQ2 _ _ _ _ _ h) ?_
            rotate_left
            · intro W hSW
              simp only [glA, glB, glC]
              (try dsimp only at hSW)
              go_simp
              with_reducible rfl
            (try simp only [glA, glB, glC, Act.put, glD, glE, glF])
            refine wpAnyJ_take 8 (v := ?_) (by first | exact hF | exact wideFn) (HSd.out) rfl (by kernel_rfl) (by kernel_rfl) (by kernel_rfl) (by kernel_rfl) rfl ?_ (by first | exact fun _ _ _ h => h | exact fun _ _ _ h => hQ2 _ _ _ _ _ h) ?_
            rotate_left
            · intro W hSW
              simp only [glA, glB, glC]
              (try dsimp only at hSW)
              go_simp
              with_reducible rfl
            (try simp only [glA, glB, glC, Act.put, glD, glE, glF])
            refine wpAnyJ_take 9 (v := ?_) (by first | exact hF | exact wideFn) (HSd.out) rfl (by kernel_rfl) (by kernel_rfl) (by kernel_rfl) (by kernel_rfl) rfl ?_ (by first | exact fun _ _ _ h => h | exact fun _ _ _ h => hQ2 _ _ _ _ _ h) ?_
            rotate_left
            · intro W hSW
              simp only [glA, glB, glC]
              (try dsimp only at hSW)
              go_simp
              with_reducible rfl
            (try simp only [glA, glB, glC, Act.put, glD, glE, glF])
            refine wpAnyJ_take 10 (v := ?_) (by first | exact hF | exact wideFn) (HSd.out) rfl (by kernel_rfl) (by kernel_rfl) (by kernel_rfl) (by kernel_rfl) rfl ?_ (by first | exact fun _ _ _ h => h | exact fun _ _ _ h => hQ2 _ _ _ _ _ h) ?_
            rotate_left
            · intro W hSW
              simp only [glA, glB, glC]
              (try dsimp only at hSW)
              go_simp
              with_reducible rfl
            (try simp only [glA, glB, glC, Act.put, glD, glE, glF])
            refine wpAnyJ_take 11 (v := ?_) (by first | exact hF | exact wideFn) (HSd.out) rfl (by kernel_rfl) (by kernel_rfl) (by kernel_rfl) (by kernel_rfl) rfl ?_ (by first | exact fun _ _ _ h => h | exact fun _ _ _ h => hQ2 _ _ _ _ _ h) ?_
            rotate_left
            · intro W hSW
              simp only [glA, glB, glC]
              (try dsimp only at hSW)
              go_simp
              with_reducible rfl
            (try simp only [glA, glB, glC, Act.put, glD, glE, glF])
            refine wpAnyJ_take 12 (v := ?_) (by first | exact hF | exact wideFn) (HSd.out) rfl (by kernel_rfl) (by kernel_rfl) (by kernel_rfl) (by kernel_rfl) rfl ?_ (by first | exact fun _ _ _ h => h | exact fun _ _ _ h => hQ2 _ _ _ _ _ h) ?_
            rotate_left
            · intro W hSW
              simp only [glA, glB, glC]
              (try dsimp only at hSW)
              go_simp
              with_reducible rfl
            (try simp only [glA, glB, glC, Act.put, glD, glE, glF])
            refine wpAnyJ_take 13 (v := ?_) (by first | exact hF | exact wideFn) (HSd.out) rfl (by kernel_rfl) (by kernel_rfl) (by kernel_rfl) (by kernel_rfl) rfl ?_ (by first | exact fun _ _ _ h => h | exact fun _ _ _ h => hQ2 _ _ _ _ _ h) ?_
            rotate_left
            · intro W hSW
              simp only [glA, glB, glC]
              (try dsimp only at hSW)
              go_simp
              with_reducible rfl
            (try simp only [glA, glB, glC, Act.put, glD, glE, glF])
            refine wpAnyJ_take 14 (v := ?_) (by first | exact hF | exact wideFn) (HSd.out) rfl (by kernel_rfl) (by kernel_rfl) (by kernel_rfl) (by kernel_rfl) rfl ?_ (by first | exact fun _ _ _ h => h | exact fun _ _ _ h => hQ2 _ _ _ _ _ h) ?_
            rotate_left
            · intro W hSW
              simp only [glA, glB, glC]
              (try dsimp only at hSW)
              go_simp
              with_reducible rfl
            (try simp only [glA, glB, glC, Act.put, glD, glE, glF])
            refine wpAnyJ_take 15 (v := ?_) (by first | exact hF | exact wideFn) (HSd.out) rfl (by kernel_rfl) (by kernel_rfl) (by kernel_rfl) (by kernel_rfl) rfl ?_ (by first | exact fun _ _ _ h => h | exact fun _ _ _ h => hQ2 _ _ _ _ _ h) ?_
            rotate_left
            · intro W hSW
              simp only [glA, glB, glC]
              (try dsimp only at hSW)
              go_simp
              with_reducible rfl
            (try simp only [glA, glB, glC, Act.put, glD, glE, glF])
            refine wpAnyJ_take 16 (v := ?_) (by first | exact hF | exact wideFn) (HSd.out) rfl (by kernel_rfl) (by kernel_rfl) (by kernel_rfl) (by kernel_rfl) rfl ?_ (by first | exact fun _ _ _ h => h | exact fun _ _ _ h => hQ2 _ _ _ _ _ h) ?_
            rotate_left
            · intro W hSW
              simp only [glA, glB, glC]
              (try dsimp only at hSW)
              go_simp
              with_reducible rfl
            (try simp only [glA, glB, glC, Act.put, glD, glE, glF])
            refine wpAnyJ_take 17 (v := ?_) (by first | exact hF | exact wideFn) (HSd.out) rfl (by kernel_rfl) (by kernel_rfl) (by kernel_rfl) (by kernel_rfl) rfl ?_ (by first | exact fun _ _ _ h => h | exact fun _ _ _ h => hQ2 _ _ _ _ _ h) ?_
            rotate_left
            · intro W hSW
              simp only [glA, glB, glC]
              (try dsimp only at hSW)
              go_simp
              with_reducible rfl
            (try simp only [glA, glB, glC, Act.put, glD, glE, glF])
            refine wpAnyJ_done (by kernel_rfl) ?_
            have cg := HSd.out.2.2
            have fg := HBd.out.frozen i
            have lg := HBd.out.lt
            have HB5 := hide (HBd.out.set_ i (.int .i64 (x + 1)))
            have HJ5 := hide (HJA.out.set HJd.out (Nat.le_refl g) i (.int .i64 (x + 1)))
            have HK5 := hide (HKd.out.set i (.int .i64 (x + 1)))
            have HB6 : Hid (Blk (wd.setCell ⟨g, i, none⟩ (.int .i64 (x + 1))) g 3 (csV fs nf (k + 1))) := hide (by
              have h := HB5.out
              rw [rowV_set] at h
              unfold csV
              rw [rowV_same nf _ (upd (fun j => Value.int .i64 (if j < i + 1 then dg fs nf k j else 0)) i (.int .i64 (x + 1))) (fun j hj => by
                unfold upd
                rw [HNX.out.2 j hj]
                by_cases e : j = i
                · subst e; rw [if_pos rfl, if_neg (Nat.lt_irrefl j), if_pos rfl, HX.out.1]
                · have e3 : (if j = i then Value.int .i64 (x + 1) else (fun j => Value.int .i64 (if j < i + 1 then dg fs nf k j else 0)) j) = Value.int .i64 (if j < i + 1 then dg fs nf k j else 0) := if_neg e
                  rw [e3]
                  by_cases e2 : j < i
                  · rw [if_pos e2, if_pos (by omega)]
                  · rw [if_neg e2, if_neg e, if_neg (by omega)])]
              exact h)
            have HMN : Hid (csN fs nf g (wd.setCell ⟨g, i, none⟩ (.int .i64 (x + 1))) = k + 1) := hide (csN_of HCH.out HB6.out HNX.out.1)
            clear HB5 HBd
            gi_wp2_with fail
            go_roundw
            case rel => exact ⟨k + 1, ys ++ [(k, g)], .inr ⟨_, rfl⟩, HNX.out.1, hide (by rw [List.map_append, HYS.out, List.range_succ]; rfl), HJ5, HK5, HB6⟩
            case measure => rw [HMN.out, HMEA.out]; have := HNX.out.1; omega
      -- END1
    · -- BEGIN2
      have HJ3 := hide hJx3
      clear hJx3 HJ HK HB
      gi_wp2_with fail
      refine bodyPost_ret (results_none rfl _ _ _) rfl ?_
      exact ⟨⟨_, rfl⟩, .inr ⟨_, ⟨k + 1, hk, by rw [List.map_append, HYS.out, List.range_succ]; rfl⟩, HJ3.out⟩⟩
      -- END2
theorem cases_seq (F : Fence) (n : Nat) (hF : ∀ f, F.fn f) (hro : F.round = none) (hn : 1 ≤ n) (P C : Nat) (A : Option Addr) (nf fc : Nat) (fs : List Int) (w : World) (hR : CiR w P C A nf fc fs) (hfs : ∀ k, k < nf → 1 ≤ fs.getD k 0 ∧ fs.getD k 0 ≤ 4) (hnf : nf ≤ 5) (hnf0 : 1 ≤ nf) :
    SeqMem F n Tryd.prog 80 #[.pointer (some ⟨P, 0, none⟩)] (fun x : Nat × Nat => #[.slice (some ⟨x.2, 0, none⟩) nf nf]) (fun x W => Blk W x.2 3 (csV fs nf x.1)) (fun ys => ys.map (·.1) = List.range (pr fs nf)) (fun pre => ∃ m, m ≤ pr fs nf ∧ pre.map (·.1) = List.range m) (pr fs nf) w :=
  fun l J Jx W hW hJ hY h0 => cases1_in F n hF hro hn l P C A nf fc fs J Jx W (hR.kc (KC.of_below hW)) hfs hnf hnf0 hJ hY h0
end Go.Proofs.YtmpegkojencbjaaDoor
/- School: Differ. -/
namespace Go.Proofs.YtmpegkojencbjaaDoor
open Go Go.RowKit Go.Shelf
attribute [local go_sem] Oper.semAt_some
set_option maxHeartbeats 8000000
set_option maxRecDepth 100000
/-- case k as a list -/
def clL (fs : List Int) (k : Nat) : List Int := (List.range fs.length).map (dg fs fs.length k)
theorem clL_len (fs : List Int) (k : Nat) : (clL fs k).length = fs.length := by unfold clL; simp
theorem clL_at (fs : List Int) (k : Nat) {j : Nat} (hj : j < fs.length) : (clL fs k).getD j 0 = dg fs fs.length k j := by
  unfold clL
  rw [List.getD_eq_getElem?_getD, List.getElem?_map, List.getElem?_range hj]
  rfl
/-- what is said in case k, and the error -/
def vdF (s : Sch) (q : Int) (k : Nat) : Int × Int := ((dcF s (stF s) (clL s.fs k) q).1, (dcF s (stF s) (clL s.fs k) q).2.1)
/-- the first case of the first n in which they differ -/
def dfK (s t : Sch) (q : Int) : Nat → Option Nat
  | 0 => none
  | n + 1 => match dfK s t q n with | some k => some k | none => if vdF s q n = vdF t q n then none else some n
theorem dfK_none {s t : Sch} {q : Int} : ∀ {n : Nat}, (∀ k, k < n → vdF s q k = vdF t q k) → dfK s t q n = none
  | 0, _ => rfl
  | n + 1, h => by
    show (match dfK s t q n with | some k => some k | none => if vdF s q n = vdF t q n then none else some n) = none
    rw [dfK_none (fun k hk => h k (by omega)), h n (by omega)]
    simp
theorem dfK_some {s t : Sch} {q : Int} {m : Nat} (h : ∀ k, k < m → vdF s q k = vdF t q k) (h2 : vdF s q m ≠ vdF t q m) : ∀ {n : Nat}, m < n → dfK s t q n = some m
  | 0, hn => by omega
  | n + 1, hn => by
    show (match dfK s t q n with | some k => some k | none => if vdF s q n = vdF t q n then none else some n) = some m
    rcases (by omega : m < n ∨ n = m) with h3 | rfl
    · rw [dfK_some h h2 h3]
    · rw [dfK_none h]
      show (if vdF s q n = vdF t q n then none else some n) = some n
      rw [if_neg h2]
/-- what Differ returns -/
def dfR (s t : Sch) (q : Int) : List Int × Int :=
  if schB s && schB t then
    if 0 ≤ q ∧ q ≤ min s.q t.q - 1 then
      if s.fs = t.fs then (match dfK s t q (pr s.fs s.fs.length) with | some k => (clL s.fs k, 0) | none => ([], 7))
      else ([], 4)
    else ([], 3)
  else ([], 2)
theorem dfR_some {s t : Sch} {q : Int} {k : Nat} (h1 : (schB s && schB t) = true) (h2 : 0 ≤ q ∧ q ≤ min s.q t.q - 1) (h3 : s.fs = t.fs) (h4 : dfK s t q (pr s.fs s.fs.length) = some k) : dfR s t q = (clL s.fs k, 0) := by
  unfold dfR; rw [if_pos h1, if_pos h2, if_pos h3, h4]
theorem dfR_none {s t : Sch} {q : Int} (h1 : (schB s && schB t) = true) (h2 : 0 ≤ q ∧ q ≤ min s.q t.q - 1) (h3 : s.fs = t.fs) (h4 : dfK s t q (pr s.fs s.fs.length) = none) : dfR s t q = ([], 7) := by
  unfold dfR; rw [if_pos h1, if_pos h2, if_pos h3, h4]
def DfPost (w : World) (r : List Int × Int) (e : Ending) (w' : World) : Prop :=
  ∃ v, e = .returned (.tuple #[v, .int .i64 r.2]) ∧ OwnJ w' w.heap.size v r.1 ∧ Below w.heap.size w w'
theorem OpPost.any {w w' : World} {d : Ad_} {s : Sch} {e : Ending} (h : OpPost w d s e w') : ∃ p, e = .returned (.tuple #[.pointer p, .bool (schB s)]) ∧ Below w.heap.size w w' ∧ (schB s = true → ∃ C SA sc, p = some ⟨C, 0, none⟩ ∧ CodeB w w' C d SA sc s) := by
  unfold OpPost at h
  by_cases hs : schB s = true
  · rw [if_pos hs] at h
    obtain ⟨C, SA, sc, rfl, hc⟩ := h
    exact ⟨_, by rw [hs], hc.below, fun _ => ⟨C, SA, sc, rfl, hc⟩⟩
  · rw [if_neg hs] at h
    obtain ⟨rfl, hb⟩ := h
    exact ⟨none, by rw [show schB s = false by simpa using hs], hb, fun h => absurd h hs⟩
/-- while they do not differ -/
def DfI (s t : Sch) (q : Int) (w7 : World) (pre : List (Nat × Nat)) (W : World) : Prop := (∀ y ∈ pre, vdF s q y.1 = vdF t q y.1) ∧ Below w7.heap.size w7 W
/-- where they differ -/
def DfX (s t : Sch) (q : Int) (w : World) (c : Code) (pre : List (Nat × Nat)) (W : World) : Prop :=
  c = .ret ∧ ∃ pre' x, pre = pre' ++ [x] ∧ (∀ y ∈ pre', vdF s q y.1 = vdF t q y.1) ∧ vdF s q x.1 ≠ vdF t q x.1 ∧ ∃ v, Blk W (w.heap.size + 1 + 1 + 1) 36 #[v] ∧ Blk W (w.heap.size + 1 + 1 + 1 + 1) 27 #[.int .i64 0] ∧ OwnJ W w.heap.size v (clL s.fs x.1) ∧ Below w.heap.size w W
theorem dfK_all {s t : Sch} {q : Int} {n : Nat} {xs : List (Nat × Nat)} (h : xs.map (·.1) = List.range n) (h1 : ∀ y ∈ xs, vdF s q y.1 = vdF t q y.1) : ∀ k, k < n → vdF s q k = vdF t q k := fun k hk => by
  have hm : k ∈ xs.map (·.1) := by rw [h]; exact List.mem_range.2 hk
  obtain ⟨y, hy, rfl⟩ := List.mem_map.1 hm
  exact h1 y hy
theorem dfK_last {s t : Sch} {q : Int} {m n : Nat} {pre : List (Nat × Nat)} {x : Nat × Nat} (hm : m ≤ n) (h : (pre ++ [x]).map (·.1) = List.range m) (h1 : ∀ y ∈ pre, vdF s q y.1 = vdF t q y.1) (h2 : vdF s q x.1 ≠ vdF t q x.1) : dfK s t q n = some x.1 := by
  rw [List.map_append] at h
  rcases m with _ | m
  · simp at h
  · rw [List.range_succ] at h
    obtain ⟨h3, h4⟩ := List.append_inj' h (by simp)
    have h5 : x.1 = m := by simpa using h4
    rw [h5] at h2 ⊢
    exact dfK_some (dfK_all h3 h1) h2 hm
theorem Differ_any (d d' : Ad_) (s t : Sch) (q : Int) (w : World) (hd : ScR w w.heap.size d s) (hd' : ScR w w.heap.size d' t) (h1 : s.fs.length ≤ maxLen) (h2 : s.rs.length ≤ maxLen) (h3 : t.fs.length ≤ maxLen) (h4 : t.rs.length ≤ maxLen) :
    Calls Tryd.prog 32 #[scV d s, scV d' t, .int .i64 q] w (DfPost w (dfR s t q)) := by
  obtain ⟨nf, hf⟩ : ∃ n, s.fs.length = n := ⟨_, rfl⟩
  obtain ⟨nr, hr⟩ : ∃ n, s.rs.length = n := ⟨_, rfl⟩
  obtain ⟨Q, hQ⟩ : ∃ n, s.q = n := ⟨_, rfl⟩
  obtain ⟨nf', hf'⟩ : ∃ n, t.fs.length = n := ⟨_, rfl⟩
  obtain ⟨nr', hr'⟩ : ∃ n, t.rs.length = n := ⟨_, rfl⟩
  obtain ⟨Q', hQ'⟩ : ∃ n, t.q = n := ⟨_, rfl⟩
  have HOP : Hid (∀ W, Below w.heap.size w W → Calls Tryd.prog 62 #[.agg #[.slice d.fa nf d.fc, .int .i64 Q, .slice d.ra nr d.rc]] W (OpPost W d s)) := hide fun W hB => by
    have := open_any d s W (hd.below hB) h1 h2
    unfold scV at this
    rw [hf, hr, hQ] at this
    exact this
  have HOP' : Hid (∀ W, Below w.heap.size w W → Calls Tryd.prog 62 #[.agg #[.slice d'.fa nf' d'.fc, .int .i64 Q', .slice d'.ra nr' d'.rc]] W (OpPost W d' t)) := hide fun W hB => by
    have := open_any d' t W (hd'.below hB) h3 h4
    unfold scV at this
    rw [hf', hr', hQ'] at this
    exact this
  unfold scV
  have HN := hide (And.intro hf (And.intro hr hQ))
  have HN' := hide (And.intro hf' (And.intro hr' hQ'))
  have HD := hide hd
  have HD' := hide hd'
  rw [hf, hr, hQ, hf', hr', hQ']
  clear hd hd' hf hr hQ hf' hr' hQ' h1 h2 h3 h4
  refine (callsIn_wide (n := 9)).1 ?_
  obtain ⟨F, hFw⟩ : ∃ F : Fence, F = Fence.wide := ⟨_, rfl⟩
  rw [← hFw]
  have hF : ∀ f, F.fn f := by rw [hFw]; exact fun _ => trivial
  have hro : F.round = none := by rw [hFw]; rfl
  have hwd : ∀ {n f args w R}, Calls Tryd.prog f args w R → CallsIn F n Tryd.prog f args w R := by rw [hFw]; exact fun h => callsIn_wide.2 h
  clear hFw
  refine callsIn_of_wp_marks Tryd.func32 rfl (hF _) ?_ hro
  simp only [Tryd.ntmps32, List.size_toArray, List.length_cons, List.length_nil, Nat.reduceAdd, Nat.reduceSub, Array.replicate_succ, Array.replicate_zero, List.push_toArray, List.append_toArray, List.nil_append, List.cons_append]
  have k3 : Blk (((((w.alloc (.cells #[.slice d.fa nf d.fc, .int .i64 Q, .slice d.ra nr d.rc] 47)).alloc (.cells #[.slice d'.fa nf' d'.fc, .int .i64 Q', .slice d'.ra nr' d'.rc] 47)).alloc (.cells #[.int .i64 q] 3)).alloc (.cells #[.slice none 0 0] 36)).alloc (.cells #[.int .i64 0] 27)) w.heap.size 47 #[.slice d.fa nf d.fc, .int .i64 Q, .slice d.ra nr d.rc] := ((((Blk.new w _ _).alloc _).alloc _).alloc _).alloc _
  have k4 : Blk (((((w.alloc (.cells #[.slice d.fa nf d.fc, .int .i64 Q, .slice d.ra nr d.rc] 47)).alloc (.cells #[.slice d'.fa nf' d'.fc, .int .i64 Q', .slice d'.ra nr' d'.rc] 47)).alloc (.cells #[.int .i64 q] 3)).alloc (.cells #[.slice none 0 0] 36)).alloc (.cells #[.int .i64 0] 27)) (w.heap.size + 1) 47 #[.slice d'.fa nf' d'.fc, .int .i64 Q', .slice d'.ra nr' d'.rc] := by simpa using (((Blk.new (w.alloc (.cells #[.slice d.fa nf d.fc, .int .i64 Q, .slice d.ra nr d.rc] 47)) 47 #[.slice d'.fa nf' d'.fc, .int .i64 Q', .slice d'.ra nr' d'.rc]).alloc _).alloc _).alloc (.cells #[.int .i64 0] 27)
  have k5 : Blk (((((w.alloc (.cells #[.slice d.fa nf d.fc, .int .i64 Q, .slice d.ra nr d.rc] 47)).alloc (.cells #[.slice d'.fa nf' d'.fc, .int .i64 Q', .slice d'.ra nr' d'.rc] 47)).alloc (.cells #[.int .i64 q] 3)).alloc (.cells #[.slice none 0 0] 36)).alloc (.cells #[.int .i64 0] 27)) (w.heap.size + 1 + 1) 3 #[.int .i64 q] := by simpa using ((Blk.new ((w.alloc (.cells #[.slice d.fa nf d.fc, .int .i64 Q, .slice d.ra nr d.rc] 47)).alloc (.cells #[.slice d'.fa nf' d'.fc, .int .i64 Q', .slice d'.ra nr' d'.rc] 47)) 3 #[.int .i64 q]).alloc _).alloc (.cells #[.int .i64 0] 27)
  have k6 : Blk (((((w.alloc (.cells #[.slice d.fa nf d.fc, .int .i64 Q, .slice d.ra nr d.rc] 47)).alloc (.cells #[.slice d'.fa nf' d'.fc, .int .i64 Q', .slice d'.ra nr' d'.rc] 47)).alloc (.cells #[.int .i64 q] 3)).alloc (.cells #[.slice none 0 0] 36)).alloc (.cells #[.int .i64 0] 27)) (w.heap.size + 1 + 1 + 1) 36 #[.slice none 0 0] := by simpa using (Blk.new (((w.alloc (.cells #[.slice d.fa nf d.fc, .int .i64 Q, .slice d.ra nr d.rc] 47)).alloc (.cells #[.slice d'.fa nf' d'.fc, .int .i64 Q', .slice d'.ra nr' d'.rc] 47)).alloc (.cells #[.int .i64 q] 3)) 36 #[.slice none 0 0]).alloc (.cells #[.int .i64 0] 27)
  have k7 : Blk (((((w.alloc (.cells #[.slice d.fa nf d.fc, .int .i64 Q, .slice d.ra nr d.rc] 47)).alloc (.cells #[.slice d'.fa nf' d'.fc, .int .i64 Q', .slice d'.ra nr' d'.rc] 47)).alloc (.cells #[.int .i64 q] 3)).alloc (.cells #[.slice none 0 0] 36)).alloc (.cells #[.int .i64 0] 27)) (w.heap.size + 1 + 1 + 1 + 1) 27 #[.int .i64 0] := by simpa using Blk.new ((((w.alloc (.cells #[.slice d.fa nf d.fc, .int .i64 Q, .slice d.ra nr d.rc] 47)).alloc (.cells #[.slice d'.fa nf' d'.fc, .int .i64 Q', .slice d'.ra nr' d'.rc] 47)).alloc (.cells #[.int .i64 q] 3)).alloc (.cells #[.slice none 0 0] 36)) 27 #[.int .i64 0]
  have HB1 : Hid (Below w.heap.size w (((((w.alloc (.cells #[.slice d.fa nf d.fc, .int .i64 Q, .slice d.ra nr d.rc] 47)).alloc (.cells #[.slice d'.fa nf' d'.fc, .int .i64 Q', .slice d'.ra nr' d'.rc] 47)).alloc (.cells #[.int .i64 q] 3)).alloc (.cells #[.slice none 0 0] 36)).alloc (.cells #[.int .i64 0] 27))) := hide ((((((Below.refl _ _).alloc (Nat.le_refl _) _).alloc (by simp) _).alloc (by simp only [World.size_alloc]; omega) _).alloc (by simp only [World.size_alloc]; omega) _).alloc (by simp only [World.size_alloc]; omega) _)
  gi_wp2_with (gi_at_call 62; (with_reducible refine (hwd (HOP.out _ HB1.out)).mono ?_); intro e w2 hop; obtain ⟨p1, he, hb2, hc2⟩ := hop.any; subst he; obtain ⟨-, x0, x1, x2, -⟩ := blk3 ((k4.ext hb2).alloc (.cells #[.pointer p1] 109)))
  clear x0 x1 x2
  have HC2 := hide hc2
  have HB2 := hide (HB1.out.trans (hb2.mono HB1.out.size))
  have hbA : Below w2.heap.size w2 (w2.alloc (.cells #[.pointer p1] 109)) := (Below.refl _ _).alloc (Nat.le_refl _) _
  have HBA := hide hbA
  replace k3 := (k3.ext hb2).ext hbA
  replace k4 := (k4.ext hb2).ext hbA
  replace k5 := (k5.ext hb2).ext hbA
  replace k6 := (k6.ext hb2).ext hbA
  replace k7 := (k7.ext hb2).ext hbA
  have k8 := Blk.new w2 109 #[.pointer p1]
  have HB3 := hide (HB2.out.trans (hbA.mono HB2.out.size))
  have HD1 := hide (HD.out.below HB1.out)
  clear hbA hc2 hb2
  generalize (w2.alloc (.cells #[.pointer p1] 109)) = w3 at k3 k4 k5 k6 k7 k8 HB3 HBA ⊢
  obtain ⟨b8, hb8⟩ : ∃ x, w2.heap.size = x := ⟨_, rfl⟩
  rw [hb8] at k8 ⊢
  clear hb8
  obtain ⟨-, x0, x1, x2, -⟩ := blk3 k4
  refine (hwd (HOP'.out w3 HB3.out)).mono ?_
  intro e w4 hop
  obtain ⟨p2, he, hb4, hc4⟩ := hop.any
  subst he
  have HC4 := hide hc4
  have HB4 := hide (HB3.out.trans (hb4.mono HB3.out.size))
  have HB34 := hide hb4
  have hbA : Below w4.heap.size w4 (w4.alloc (.cells #[.pointer p2] 109)) := (Below.refl _ _).alloc (Nat.le_refl _) _
  replace k3 := (k3.ext hb4).ext hbA
  replace k4 := (k4.ext hb4).ext hbA
  replace k5 := (k5.ext hb4).ext hbA
  replace k6 := (k6.ext hb4).ext hbA
  replace k7 := (k7.ext hb4).ext hbA
  replace k8 := (k8.ext hb4).ext hbA
  have k10 := Blk.new w4 109 #[.pointer p2]
  have HB5 := hide (HB4.out.trans (hbA.mono HB4.out.size))
  have HBA4 := hide hbA
  have HD3 := hide (HD'.out.below HB3.out)
  clear hbA hc4 hb4 x0 x1 x2
  have K3 := hide k3
  have K4 := hide k4
  have K5 := hide k5
  have K8 := hide k8
  have K10 := hide k10
  obtain ⟨-, x0, x1, x2, -⟩ := blk3 k3
  obtain ⟨-, y0, y1, y2, -⟩ := blk3 k4
  obtain ⟨-, c5, -⟩ := blk1 k5
  obtain ⟨l6, c6, f6⟩ := blk1 k6
  obtain ⟨l7, c7, f7⟩ := blk1 k7
  clear k3 k4 k5 k8 k10
  rcases hvs : schB s with _ | _
  · rw [hvs] at HC2
    have HV : Hid (dfR s t q = ([], 2)) := hide (by unfold dfR; rw [hvs, Bool.false_and]; rfl)
    clear hvs
    gi_wp2_with fail
    have hR6 := (k6.set_ 0 (.slice none 0 0)).far (p := ⟨w.heap.size + 1 + 1 + 1 + 1, 0, none⟩) (by simp only []; omega) (.int .i64 2)
    have hR7 := (k7.far (p := ⟨w.heap.size + 1 + 1 + 1, 0, none⟩) (by simp only []; omega) (.slice none 0 0)).set_ 0 (.int .i64 2)
    have hbz := (HB5.out.setCell (p := ⟨w.heap.size + 1 + 1 + 1, 0, none⟩) (by simp only []; omega) (.slice none 0 0)).setCell (p := ⟨w.heap.size + 1 + 1 + 1 + 1, 0, none⟩) (by simp only []; omega) (.int .i64 2)
    generalize (((w4.alloc (.cells #[.pointer p2] 109)).setCell ⟨w.heap.size + 1 + 1 + 1, 0, none⟩ (.slice none 0 0)).setCell ⟨w.heap.size + 1 + 1 + 1 + 1, 0, none⟩ (.int .i64 2)) = wz at hR6 hR7 hbz ⊢
    have q6 : wz.cell? ⟨w.heap.size + 1 + 1 + 1, 0, none⟩ = some (.slice none 0 0) := by rw [hR6.cell]; rfl
    have q7 : wz.cell? ⟨w.heap.size + 1 + 1 + 1 + 1, 0, none⟩ = some (.int .i64 2) := by rw [hR7.cell]; rfl
    refine ⟨.tuple #[.slice none 0 0, .int .i64 2], by simp [results, Tryd.results32, go_sem, q6, q7], ?_⟩
    rw [HV.out]
    exact ⟨_, rfl, OwnJ.nil _ _, hbz⟩
  rcases hvt : schB t with _ | _
  · have HV : Hid (dfR s t q = ([], 2)) := hide (by unfold dfR; rw [hvs, hvt, Bool.and_false]; rfl)
    rw [hvt] at HC4
    clear hvs hvt
    gi_wp2_with fail
    have hR6 := (k6.set_ 0 (.slice none 0 0)).far (p := ⟨w.heap.size + 1 + 1 + 1 + 1, 0, none⟩) (by simp only []; omega) (.int .i64 2)
    have hR7 := (k7.far (p := ⟨w.heap.size + 1 + 1 + 1, 0, none⟩) (by simp only []; omega) (.slice none 0 0)).set_ 0 (.int .i64 2)
    have hbz := (HB5.out.setCell (p := ⟨w.heap.size + 1 + 1 + 1, 0, none⟩) (by simp only []; omega) (.slice none 0 0)).setCell (p := ⟨w.heap.size + 1 + 1 + 1 + 1, 0, none⟩) (by simp only []; omega) (.int .i64 2)
    generalize (((w4.alloc (.cells #[.pointer p2] 109)).setCell ⟨w.heap.size + 1 + 1 + 1, 0, none⟩ (.slice none 0 0)).setCell ⟨w.heap.size + 1 + 1 + 1 + 1, 0, none⟩ (.int .i64 2)) = wz at hR6 hR7 hbz ⊢
    have q6 : wz.cell? ⟨w.heap.size + 1 + 1 + 1, 0, none⟩ = some (.slice none 0 0) := by rw [hR6.cell]; rfl
    have q7 : wz.cell? ⟨w.heap.size + 1 + 1 + 1 + 1, 0, none⟩ = some (.int .i64 2) := by rw [hR7.cell]; rfl
    refine ⟨.tuple #[.slice none 0 0, .int .i64 2], by simp [results, Tryd.results32, go_sem, q6, q7], ?_⟩
    rw [HV.out]
    exact ⟨_, rfl, OwnJ.nil _ _, hbz⟩
  obtain ⟨C1, S1, e1, hp1, hcode1⟩ := HC2.out hvs
  obtain ⟨C2, S2, e2, hp2, hcode2⟩ := HC4.out hvt
  subst hp1
  subst hp2
  have HOK1 := hide (schB_ok hvs)
  have HOK2 := hide (schB_ok hvt)
  have HVV : Hid ((schB s && schB t) = true) := hide (by rw [hvs, hvt]; rfl)
  have HCR1 := hide ((((hcode1.cr HD1.out).below HBA.out).below HB34.out).below HBA4.out)
  have HCR2 := hide ((hcode2.cr HD3.out).below HBA4.out)
  have HFA := hide (HD.out.fs)
  have HFB := hide (HD'.out.fs)
  have K6 := hide (And.intro k6 k7)
  clear hcode1 hcode2 hvs hvt HC2 HC4 HOP HOP' HB1 HB2 HB3 HBA HB34 HBA4 HD1 HD3 HB4
  obtain ⟨M, hM⟩ : ∃ M, min Q Q' = M := ⟨_, rfl⟩
  have hM14 : 1 ≤ M ∧ M ≤ 4 := by
    have h1 := HOK1.out.q1
    have h2 := HOK1.out.q4
    have h3 := HOK2.out.q1
    have h4 := HOK2.out.q4
    rw [HN.out.2.2] at h1 h2
    rw [HN'.out.2.2] at h3 h4
    omega
  have w5 : IntKind.i64.wrap (M - 1) = M - 1 := IntWalk.i64_in _ (by omega)
  have HM := hide hM
  have HWT := within_any q 0 (M - 1) (w4.alloc (.cells #[.pointer (some ⟨C2, 0, none⟩)] 109))
  simp only [wb] at HWT
  by_cases hq : 0 ≤ q ∧ q ≤ M - 1
  rotate_left
  · rw [decide_eq_false hq] at HWT
    have HV : Hid (dfR s t q = ([], 3)) := hide (by unfold dfR; rw [if_pos HVV.out, if_neg]; rw [HN.out.2.2, HN'.out.2.2, HM.out]; exact hq)
    have HWT := hide HWT
    clear hq
    gi_wp2_with fail
    refine (hwd HWT.out).mono ?_
    rintro e _ ⟨rfl, rfl⟩
    gi_wp2_with fail
    have hR6 := (k6.set_ 0 (.slice none 0 0)).far (p := ⟨w.heap.size + 1 + 1 + 1 + 1, 0, none⟩) (by simp only []; omega) (.int .i64 3)
    have hR7 := (k7.far (p := ⟨w.heap.size + 1 + 1 + 1, 0, none⟩) (by simp only []; omega) (.slice none 0 0)).set_ 0 (.int .i64 3)
    have hbz := (HB5.out.setCell (p := ⟨w.heap.size + 1 + 1 + 1, 0, none⟩) (by simp only []; omega) (.slice none 0 0)).setCell (p := ⟨w.heap.size + 1 + 1 + 1 + 1, 0, none⟩) (by simp only []; omega) (.int .i64 3)
    generalize (((w4.alloc (.cells #[.pointer (some ⟨C2, 0, none⟩)] 109)).setCell ⟨w.heap.size + 1 + 1 + 1, 0, none⟩ (.slice none 0 0)).setCell ⟨w.heap.size + 1 + 1 + 1 + 1, 0, none⟩ (.int .i64 3)) = wz at hR6 hR7 hbz ⊢
    have q6 : wz.cell? ⟨w.heap.size + 1 + 1 + 1, 0, none⟩ = some (.slice none 0 0) := by rw [hR6.cell]; rfl
    have q7 : wz.cell? ⟨w.heap.size + 1 + 1 + 1 + 1, 0, none⟩ = some (.int .i64 3) := by rw [hR7.cell]; rfl
    refine ⟨.tuple #[.slice none 0 0, .int .i64 3], by simp [results, Tryd.results32, go_sem, q6, q7], ?_⟩
    rw [HV.out]
    exact ⟨_, rfl, OwnJ.nil _ _, hbz⟩
  rw [decide_eq_true hq] at HWT
  have HQQ := hide hq
  have HWT := hide HWT
  clear hq
  gi_wp2_with fail
  refine (hwd HWT.out).mono ?_
  rintro e _ ⟨rfl, rfl⟩
  have HEQ : Calls Tryd.prog 65 #[.slice d.fa nf d.fc, .slice d'.fa nf' d'.fc] (w4.alloc (.cells #[.pointer (some ⟨C2, 0, none⟩)] 109)) fun e w' => e = .returned (.bool (decide (s.fs = t.fs))) ∧ Below (w4.alloc (.cells #[.pointer (some ⟨C2, 0, none⟩)] 109)).heap.size (w4.alloc (.cells #[.pointer (some ⟨C2, 0, none⟩)] 109)) w' := by
    have h5 := HOK1.out.nf5
    have := equalI_any d.fa d'.fa d.fc d'.fc s.fs t.fs (w4.alloc (.cells #[.pointer (some ⟨C2, 0, none⟩)] 109)) (by unfold maxLen; omega) ((ER.below HFA.out HB5.out (Nat.le_refl _)).more HB5.out.size) ((ER.below HFB.out HB5.out (Nat.le_refl _)).more HB5.out.size)
    rw [HN.out.1, HN'.out.1] at this
    exact this
  by_cases hfe : s.fs = t.fs
  rotate_left
  · rw [decide_eq_false hfe] at HEQ
    have HV : Hid (dfR s t q = ([], 4)) := hide (by unfold dfR; rw [if_pos HVV.out, if_pos (by rw [HN.out.2.2, HN'.out.2.2, HM.out]; exact HQQ.out), if_neg hfe])
    have HEQ := hide HEQ
    clear hfe
    gi_wp2_with fail
    refine (hwd HEQ.out).mono ?_
    rintro e w6 ⟨rfl, hb6⟩
    obtain ⟨k6, k7⟩ := K6.out
    replace k6 := k6.ext hb6
    replace k7 := k7.ext hb6
    have HB6 := hide (HB5.out.trans (hb6.mono HB5.out.size))
    obtain ⟨l6, c6, f6⟩ := blk1 k6
    obtain ⟨l7, c7, f7⟩ := blk1 k7
    clear hb6
    gi_wp2_with fail
    have hR6 := (k6.set_ 0 (.slice none 0 0)).far (p := ⟨w.heap.size + 1 + 1 + 1 + 1, 0, none⟩) (by simp only []; omega) (.int .i64 4)
    have hR7 := (k7.far (p := ⟨w.heap.size + 1 + 1 + 1, 0, none⟩) (by simp only []; omega) (.slice none 0 0)).set_ 0 (.int .i64 4)
    have hbz := (HB6.out.setCell (p := ⟨w.heap.size + 1 + 1 + 1, 0, none⟩) (by simp only []; omega) (.slice none 0 0)).setCell (p := ⟨w.heap.size + 1 + 1 + 1 + 1, 0, none⟩) (by simp only []; omega) (.int .i64 4)
    generalize ((w6.setCell ⟨w.heap.size + 1 + 1 + 1, 0, none⟩ (.slice none 0 0)).setCell ⟨w.heap.size + 1 + 1 + 1 + 1, 0, none⟩ (.int .i64 4)) = wz at hR6 hR7 hbz ⊢
    have q6 : wz.cell? ⟨w.heap.size + 1 + 1 + 1, 0, none⟩ = some (.slice none 0 0) := by rw [hR6.cell]; rfl
    have q7 : wz.cell? ⟨w.heap.size + 1 + 1 + 1 + 1, 0, none⟩ = some (.int .i64 4) := by rw [hR7.cell]; rfl
    refine ⟨.tuple #[.slice none 0 0, .int .i64 4], by simp [results, Tryd.results32, go_sem, q6, q7], ?_⟩
    rw [HV.out]
    exact ⟨_, rfl, OwnJ.nil _ _, hbz⟩
  rw [decide_eq_true hfe] at HEQ
  have HEQ := hide HEQ
  have HFE := hide hfe
  clear hfe
  gi_wp2_with fail
  refine (hwd HEQ.out).mono ?_
  rintro e w6 ⟨rfl, hb6⟩
  have HB6 := hide (HB5.out.trans (hb6.mono HB5.out.size))
  have K8 := hide (K8.out.ext hb6)
  have K10 := hide (K10.out.ext hb6)
  have K5 := hide (K5.out.ext hb6)
  have K6 := hide (And.intro (K6.out.1.ext hb6) (K6.out.2.ext hb6))
  have HCR1 := hide (HCR1.out.below hb6)
  have HCR2 := hide (HCR2.out.below hb6)
  obtain ⟨b10, hb10⟩ : ∃ x, w4.heap.size = x := ⟨_, rfl⟩
  rw [hb10] at K10 ⊢
  clear hb6 k6 k7 l6 l7 c6 c7 f6 f7 x0 x1 x2 y0 y1 y2 c5 HEQ HWT HB5 hb10 K3 K4 hM w5
  obtain ⟨-, c8, -⟩ := blk1 K8.out
  obtain ⟨-, c10, -⟩ := blk1 K10.out
  gi_wp2_with fail
  refine (hwd (cases_any C1 w6)).mono ?_
  rintro e w7 ⟨rfl, rfl⟩
  gi_wp2_with fail
  have hbA : Below w6.heap.size w6 (w6.alloc (.cells #[.pointer (some ⟨C1, 0, none⟩)] 109)) := (Below.refl _ _).alloc (Nat.le_refl _) _
  have hCi : CiR (w6.alloc (.cells #[.pointer (some ⟨C1, 0, none⟩)] 109)) w6.heap.size C1 d.fa nf d.fc s.fs := by
    have hc := HCR1.out.below hbA
    have h0 := hc.c0
    rw [HN.out.1] at h0
    refine ⟨(blk1 (Blk.new w6 109 #[.pointer (some ⟨C1, 0, none⟩)])).2.1, h0, fun k hk => ?_⟩
    obtain ⟨b, off, h1, -, h2⟩ := VR1.at_ hc.scr.fs (k := k) (by rw [HN.out.1]; exact hk)
    exact ⟨b, off, h1, h2⟩
  have hB7 := HB6.out.trans (hbA.mono HB6.out.size)
  have k5 := K5.out.ext hbA
  have k6 := K6.out.1.ext hbA
  have k7 := K6.out.2.ext hbA
  have k8 := K8.out.ext hbA
  have k10 := K10.out.ext hbA
  have hcr1 := HCR1.out.below hbA
  have hcr2 := HCR2.out.below hbA
  have hnf5 : nf ≤ 5 := by have := HOK1.out.nf5; rw [HN.out.1] at this; exact this
  have hnf1 : 1 ≤ nf := by have := HOK1.out.nf1; rw [HN.out.1] at this; exact this
  clear K5 K6 K8 K10 HCR1 HCR2 HB6 c8 c10
  generalize (w6.alloc (.cells #[.pointer (some ⟨C1, 0, none⟩)] 109)) = w7 at hbA hCi hB7 k5 k6 k7 k8 k10 hcr1 hcr2 ⊢
  generalize w6.heap.size = P at hCi ⊢
  clear hbA
  have hst := cases_seq F (9 - 1) hF hro (by omega) P C1 d.fa nf d.fc s.fs w7 hCi (fun k hk => fsB_at HOK1.out.fs k (by rw [HN.out.1]; exact hk)) hnf5 hnf1
  refine wpIn_rangeFunc_mem hro (by omega) (gf := 80) (lb := #[.pointer (some ⟨P, 0, none⟩)]) rfl (hF _) (enters_of Tryd.func80 (by kernel_rfl) rfl)
    hst (fun x W W' h hk => hk.blk h) (Below.refl _ _) (fun _ => rfl)
    (DfI s t q w7)
    (DfX s t q w)
    ?hI ?hIx ⟨fun y hy => absurd hy (by simp), Below.refl _ _⟩ ?a1 ?hassign ?hbody ?hdone ?hstop
  case hI =>
    rintro pre W W' row ⟨h1, h2⟩ hg hr
    exact ⟨h1, h2.grown hg h2.size hr⟩
  case hIx =>
    rintro c pre W W' row ⟨rfl, pre', x, rfl, h1, h2, v, h3, h4, h5, h6⟩ hg hr
    have hr' := fun r e => (hr r e).2
    exact ⟨rfl, pre', x, rfl, h1, h2, v, h3.keptN hg hr', h4.keptN hg hr', ownN h5 hg hr', h6.trans ⟨hg.os, hg.tape, hg.output, hg.size, fun k hk => hg.block k (by have := h6.size; omega) (fun e => by have := (hr k e.symm).1; have := hB7.size; omega)⟩⟩
  case hassign =>
    intro l x W K hK
    gi_wp2_with fail
    exact hK
  case hbody =>
    rintro l pre x W ⟨h1, h2⟩ hR hlt
    have hlt2 := hR.lt
    have HLI : Hid (∀ W', Below W.heap.size W W' → LI W' W'.heap.size (some ⟨x.2, 0, none⟩) (clL s.fs x.1)) := hide fun W' hB => fun hn => by
      have hR' := hR.ext hB
      refine ⟨x.2, 0, rfl, hR'.lt, fun k i hk hi => ?_⟩
      rw [clL_len, HN.out.1] at hk
      obtain rfl : i = 0 := by omega
      rw [show 0 + k * 1 + 0 = k by omega, hR'.cell]
      unfold csV
      rw [rowV_get _ _ hk]
      dsimp only
      rw [clL_at s.fs x.1 (by rw [HN.out.1]; exact hk), HN.out.1]
    have hdg : ∀ k, k < nf → 0 ≤ (clL s.fs x.1).getD k 0 ∧ (clL s.fs x.1).getD k 0 ≤ 62 := fun k hk => by
      rw [clL_at s.fs x.1 (by rw [HN.out.1]; exact hk)]
      have h5 : ∀ j, j < s.fs.length → 1 ≤ s.fs.getD j 0 ∧ s.fs.getD j 0 ≤ 4 := fun j hj => fsB_at HOK1.out.fs j hj
      have h6 := dg_bd (fs := s.fs) (n := s.fs.length) x.1 (fun j hj => by have := h5 j hj; unfold chF; omega) k (by rw [HN.out.1]; exact hk)
      have h7 := h5 k (by rw [HN.out.1]; exact hk)
      have h8 : (chF s.fs k : Int) = s.fs.getD k 0 := by unfold chF; omega
      omega
    obtain ⟨⟨a1, a2, a3⟩, hr1⟩ : ∃ r, dcF s (stF s) (clL s.fs x.1) q = r := ⟨_, rfl⟩
    obtain ⟨⟨b1, b2, b3⟩, hr2⟩ : ∃ r, dcF t (stF t) (clL s.fs x.1) q = r := ⟨_, rfl⟩
    have hva : vdF s q x.1 = (a1, a2) := by unfold vdF; rw [hr1]
    have hvb : vdF t q x.1 = (b1, b2) := by unfold vdF; rw [← HFE.out, hr2]
    have HC1 : Hid (∀ W', Below W.heap.size W W' → Calls Tryd.prog 64 #[.pointer (some ⟨C1, 0, none⟩), .slice (some ⟨x.2, 0, none⟩) nf nf, .int .i64 q] W' (DcPost W' (a1, a2, a3))) := hide fun W' hB => by
      have := decide_any C1 d S1 e1 s (stF s) (some ⟨x.2, 0, none⟩) nf (clL s.fs x.1) q W' ((hcr1.below h2).below hB) (fun k y => Nat.lt_trans (stF_lt HOK1.out.fs k y) (by decide)) HOK1.out.nr (by rw [clL_len, HN.out.1]; exact hnf5) (fun k hk => hdg k (by rw [clL_len, HN.out.1] at hk; exact hk)) (HLI.out W' hB)
      rw [clL_len, HN.out.1, hr1] at this
      exact this
    have HC2 : Hid (∀ W', Below W.heap.size W W' → Calls Tryd.prog 64 #[.pointer (some ⟨C2, 0, none⟩), .slice (some ⟨x.2, 0, none⟩) nf nf, .int .i64 q] W' (DcPost W' (b1, b2, b3))) := hide fun W' hB => by
      have := decide_any C2 d' S2 e2 t (stF t) (some ⟨x.2, 0, none⟩) nf (clL s.fs x.1) q W' ((hcr2.below h2).below hB) (fun k y => Nat.lt_trans (stF_lt HOK2.out.fs k y) (by decide)) HOK2.out.nr (by rw [clL_len, HN.out.1]; exact hnf5) (fun k hk => hdg k (by rw [clL_len, HN.out.1] at hk; exact hk)) (HLI.out W' hB)
      rw [clL_len, HN.out.1, hr2] at this
      exact this
    have HV := hide (And.intro hva hvb)
    have HH1 := hide h1
    have HH2 := hide h2
    have HB7 := hide hB7
    have G5 := hide (k5.ext h2)
    have G6 := hide (k6.ext h2)
    have G7 := hide (k7.ext h2)
    have G8 := hide (k8.ext h2)
    have G10 := hide (k10.ext h2)
    clear hva hvb hr1 hr2 hdg h1 h2 hR k5 k6 k7 k8 k10 hcr1 hcr2 hCi hst hlt
    obtain ⟨-, c8, -⟩ := blk1 G8.out
    obtain ⟨-, c5, -⟩ := blk1 G5.out
    gi_wp2_with fail
    refine (CallsIn.inRound l (hwd (HC1.out W (Below.refl _ _)))).mono ?_
    rintro e w9 ⟨v9, rfl, ho9, hb9⟩
    obtain ⟨A9, n9, rfl⟩ := own_shape ho9
    dsimp only
    have B9 := hide (hb9.alloc hb9.size (.cells #[.int .i64 a1, .int .i64 a2] 117))
    obtain ⟨-, z10, -⟩ := blk1 (G10.out.ext (hb9.alloc hb9.size (.cells #[.int .i64 a1, .int .i64 a2] 117)))
    obtain ⟨-, z5, -⟩ := blk1 (G5.out.ext (hb9.alloc hb9.size (.cells #[.int .i64 a1, .int .i64 a2] 117)))
    gi_wp2_with fail
    refine (CallsIn.inRound l (hwd (HC2.out _ B9.out))).mono ?_
    rintro e w11 ⟨v11, rfl, ho11, hb11⟩
    obtain ⟨A11, n11, rfl⟩ := own_shape ho11
    dsimp only
    have V1 := (Blk.new w9 117 #[.int .i64 a1, .int .i64 a2]).ext hb11
    have hbB := hb11.alloc hb11.size (.cells #[.int .i64 b1, .int .i64 b2] 117)
    obtain ⟨-, va0, va1, -⟩ := blk2 (V1.alloc (.cells #[.int .i64 b1, .int .i64 b2] 117))
    have BE := hide (B9.out.trans (hbB.mono B9.out.size))
    have HCLN : Hid (∀ W', Below W.heap.size W W' → Calls Tryd.prog 66 #[.slice (some ⟨x.2, 0, none⟩) nf nf] W' (fun e w' => ∃ v, e = .returned v ∧ OwnJ w' W'.heap.size v (clL s.fs x.1) ∧ Below W'.heap.size W' w')) := hide fun W' hB => by
      have := cloneI_any (some ⟨x.2, 0, none⟩) nf (clL s.fs x.1) W' (by rw [clL_len, HN.out.1]; omega) (HLI.out W' hB)
      rw [clL_len, HN.out.1] at this
      exact this
    clear hbB V1 hb11 ho11 hb9 ho9 z10 z5 c8 c5 HC1 HC2 HLI hB7
    by_cases e1 : a1 = b1
    · have e1' : (a1 == b1) = true := by rw [e1]; exact beq_self_eq_true _
      by_cases e2 : a2 = b2
      · have e2' : (a2 == b2) = true := by rw [e2]; exact beq_self_eq_true _
        have HE := hide (show vdF s q x.1 = vdF t q x.1 by rw [HV.out.1, HV.out.2, e1, e2])
        clear e1 e2
        gi_wp2_with fail
        refine ⟨keepsO BE.out, KC.of_below BE.out, fun y hy => ?_, HH2.out.trans (BE.out.mono HH2.out.size)⟩
        rcases List.mem_append.1 hy with h | h
        · exact HH1.out y h
        · rw [List.mem_singleton.1 h]; exact HE.out
      · have e2' : (a2 == b2) = false := by rw [beq_eq_false_iff_ne]; exact e2
        have HE := hide (show vdF s q x.1 ≠ vdF t q x.1 by rw [HV.out.1, HV.out.2]; intro h; injection h with h1 h2; exact e2 h2)
        clear e1 e2
        gi_wp2_with fail
        refine (CallsIn.inRound l (hwd (HCLN.out _ BE.out))).mono ?_
        rintro e w12 ⟨v12, rfl, ho12, hb12⟩
        obtain ⟨A12, n12, hv12⟩ := own_shape ho12
        rw [clL_len, HN.out.1] at hv12
        subst hv12
        have BF := hide (BE.out.trans (hb12.mono BE.out.size))
        have G6' := G6.out.ext BF.out
        have G7' := G7.out.ext BF.out
        obtain ⟨l6, c6, f6⟩ := blk1 G6'
        obtain ⟨l7, c7, f7⟩ := blk1 G7'
        have hR6 := (G6'.set_ 0 (.slice A12 nf n12)).far (p := ⟨w.heap.size + 1 + 1 + 1 + 1, 0, none⟩) (by simp only []; omega) (.int .i64 0)
        have hR7 := (G7'.far (p := ⟨w.heap.size + 1 + 1 + 1, 0, none⟩) (by simp only []; omega) (.slice A12 nf n12)).set_ 0 (.int .i64 0)
        have hBF := HB7.out.trans (HH2.out.trans (BF.out.mono HH2.out.size) |>.mono HB7.out.size)
        have hbz := (hBF.setCell (p := ⟨w.heap.size + 1 + 1 + 1, 0, none⟩) (by simp only []; omega) (.slice A12 nf n12)).setCell (p := ⟨w.heap.size + 1 + 1 + 1 + 1, 0, none⟩) (by simp only []; omega) (.int .i64 0)
        have hoz := World.ownsRow.kept (World.ownsRow.kept ho12 (grownBy_setC w12 (w.heap.size + 1 + 1 + 1) 0 (.slice A12 nf n12)) (.inr (own_blk_ne ho12 G6' (by decide)))) (grownBy_setC _ (w.heap.size + 1 + 1 + 1 + 1) 0 (.int .i64 0)) (.inr (own_blk_ne ho12 G7' (by decide)))
        have hko := ((keepsO BF.out).trans (KeepsOthers.setCell w12 ⟨w.heap.size + 1 + 1 + 1, 0, none⟩ (.slice A12 nf n12))).trans (KeepsOthers.setCell _ ⟨w.heap.size + 1 + 1 + 1 + 1, 0, none⟩ (.int .i64 0))
        clear G6' G7' ho12 hb12 hBF
        gi_wp2_with fail
        refine ⟨hko, rfl, pre, x, rfl, HH1.out, ?_, _, hR6, hR7, ownMono hoz (by have h1 := HB7.out.size; have h2 := HH2.out.size; have h3 := BE.out.size; omega), hbz⟩
        exact HE.out
    · have e1' : (a1 == b1) = false := by rw [beq_eq_false_iff_ne]; exact e1
      have HE := hide (show vdF s q x.1 ≠ vdF t q x.1 by rw [HV.out.1, HV.out.2]; intro h; injection h with h1 h2; exact e1 h1)
      clear e1
      gi_wp2_with fail
      refine (CallsIn.inRound l (hwd (HCLN.out _ BE.out))).mono ?_
      rintro e w12 ⟨v12, rfl, ho12, hb12⟩
      obtain ⟨A12, n12, hv12⟩ := own_shape ho12
      rw [clL_len, HN.out.1] at hv12
      subst hv12
      have BF := hide (BE.out.trans (hb12.mono BE.out.size))
      have G6' := G6.out.ext BF.out
      have G7' := G7.out.ext BF.out
      obtain ⟨l6, c6, f6⟩ := blk1 G6'
      obtain ⟨l7, c7, f7⟩ := blk1 G7'
      have hR6 := (G6'.set_ 0 (.slice A12 nf n12)).far (p := ⟨w.heap.size + 1 + 1 + 1 + 1, 0, none⟩) (by simp only []; omega) (.int .i64 0)
      have hR7 := (G7'.far (p := ⟨w.heap.size + 1 + 1 + 1, 0, none⟩) (by simp only []; omega) (.slice A12 nf n12)).set_ 0 (.int .i64 0)
      have hBF := HB7.out.trans (HH2.out.trans (BF.out.mono HH2.out.size) |>.mono HB7.out.size)
      have hbz := (hBF.setCell (p := ⟨w.heap.size + 1 + 1 + 1, 0, none⟩) (by simp only []; omega) (.slice A12 nf n12)).setCell (p := ⟨w.heap.size + 1 + 1 + 1 + 1, 0, none⟩) (by simp only []; omega) (.int .i64 0)
      have hoz := World.ownsRow.kept (World.ownsRow.kept ho12 (grownBy_setC w12 (w.heap.size + 1 + 1 + 1) 0 (.slice A12 nf n12)) (.inr (own_blk_ne ho12 G6' (by decide)))) (grownBy_setC _ (w.heap.size + 1 + 1 + 1 + 1) 0 (.int .i64 0)) (.inr (own_blk_ne ho12 G7' (by decide)))
      have hko := ((keepsO BF.out).trans (KeepsOthers.setCell w12 ⟨w.heap.size + 1 + 1 + 1, 0, none⟩ (.slice A12 nf n12))).trans (KeepsOthers.setCell _ ⟨w.heap.size + 1 + 1 + 1 + 1, 0, none⟩ (.int .i64 0))
      clear G6' G7' ho12 hb12 hBF
      gi_wp2_with fail
      refine ⟨hko, rfl, pre, x, rfl, HH1.out, ?_, _, hR6, hR7, ownMono hoz (by have h1 := HB7.out.size; have h2 := HH2.out.size; have h3 := BE.out.size; omega), hbz⟩
      exact HE.out
  case hdone =>
    rintro D xs W hD hxs ⟨h1, h2⟩ hK
    have hv : dfR s t q = ([], 7) := dfR_none HVV.out (by rw [HN.out.2.2, HN'.out.2.2, HM.out]; exact HQQ.out) HFE.out (by rw [HN.out.1]; exact dfK_none (dfK_all hxs h1))
    have HV := hide hv
    replace k6 := k6.ext h2
    replace k7 := k7.ext h2
    obtain ⟨l6, c6, f6⟩ := blk1 k6
    obtain ⟨l7, c7, f7⟩ := blk1 k7
    have hBW := hB7.trans (h2.mono hB7.size)
    clear hv h1 h2 hst hCi k5 k8 k10 hcr1 hcr2 hxs
    gi_wp2_with fail
    have hK' := ((KeepsOthers.setCell W ⟨w.heap.size + 1 + 1 + 1, 0, none⟩ (.slice none 0 0)).trans (KeepsOthers.setCell _ ⟨w.heap.size + 1 + 1 + 1 + 1, 0, none⟩ (.int .i64 7))).same D _ hK rfl
    have hR6 := (k6.set_ 0 (.slice none 0 0)).far (p := ⟨w.heap.size + 1 + 1 + 1 + 1, 0, none⟩) (by simp only []; omega) (.int .i64 7)
    have hR7 := (k7.far (p := ⟨w.heap.size + 1 + 1 + 1, 0, none⟩) (by simp only []; omega) (.slice none 0 0)).set_ 0 (.int .i64 7)
    have hbz := (hBW.setCell (p := ⟨w.heap.size + 1 + 1 + 1, 0, none⟩) (by simp only []; omega) (.slice none 0 0)).setCell (p := ⟨w.heap.size + 1 + 1 + 1 + 1, 0, none⟩) (by simp only []; omega) (.int .i64 7)
    generalize ((W.setCell ⟨w.heap.size + 1 + 1 + 1, 0, none⟩ (.slice none 0 0)).setCell ⟨w.heap.size + 1 + 1 + 1 + 1, 0, none⟩ (.int .i64 7)) = wz at hR6 hR7 hbz hK' ⊢
    refine ⟨by simp, .inl ⟨_, _, rfl, run_takeDeferred hK', ?_⟩⟩
    have hgp := grownBy_putObj' wz D (.deferred none)
    have q6 : (wz.putObj D (.deferred none)).cell? ⟨w.heap.size + 1 + 1 + 1, 0, none⟩ = some (.slice none 0 0) := by rw [(hR6.keptN hgp (fun r e => by cases e; exact ⟨_, hK', rfl⟩)).cell]; rfl
    have q7 : (wz.putObj D (.deferred none)).cell? ⟨w.heap.size + 1 + 1 + 1 + 1, 0, none⟩ = some (.int .i64 7) := by rw [(hR7.keptN hgp (fun r e => by cases e; exact ⟨_, hK', rfl⟩)).cell]; rfl
    refine ⟨.tuple #[.slice none 0 0, .int .i64 7], by simp [results, Tryd.results32, go_sem, q6, q7], ?_⟩
    rw [HV.out]
    exact ⟨_, rfl, OwnJ.nil _ _, hbz.trans (belowK_b (w := w) (Nat.le_refl _) _ D _ _ (by have := hB7.size; omega) hK' rfl rfl)⟩
  case hstop =>
    rintro D c pre W hD ⟨m, hm, hSp⟩ ⟨rfl, pre', x, rfl, h1, h2, v, h3, h4, h5, h6⟩ hK
    have hv : dfR s t q = (clL s.fs x.1, 0) := dfR_some HVV.out (by rw [HN.out.2.2, HN'.out.2.2, HM.out]; exact HQQ.out) HFE.out (by rw [HN.out.1]; exact dfK_last hm hSp h1 h2)
    have HV := hide hv
    clear hv h1 h2 hst hCi k5 k8 k10 k6 k7 hcr1 hcr2 hSp
    gi_wp2_with fail
    refine ⟨by simp, .inl ⟨_, _, rfl, run_takeDeferred hK, ?_⟩⟩
    have hgp := grownBy_putObj' W D (.deferred none)
    have hr' : ∀ r, some D = some r → ∃ o : Obj, W.heap[r]? = some o ∧ o.isCells = false := fun r e => by cases e; exact ⟨_, hK, rfl⟩
    have q6 : (W.putObj D (.deferred none)).cell? ⟨w.heap.size + 1 + 1 + 1, 0, none⟩ = some v := by rw [(h3.keptN hgp hr').cell]; rfl
    have q7 : (W.putObj D (.deferred none)).cell? ⟨w.heap.size + 1 + 1 + 1 + 1, 0, none⟩ = some (.int .i64 0) := by rw [(h4.keptN hgp hr').cell]; rfl
    obtain ⟨AV, cv, hav⟩ := own_shape h5
    subst hav
    refine ⟨.tuple #[.slice AV (clL s.fs x.1).length cv, .int .i64 0], by simp [results, Tryd.results32, go_sem, q6, q7], ?_⟩
    rw [HV.out]
    exact ⟨_, rfl, ownN h5 hgp hr', h6.trans (belowK_b (w := w) (Nat.le_refl _) _ D _ _ (by have := hB7.size; omega) hK rfl rfl)⟩
end Go.Proofs.YtmpegkojencbjaaDoor
/- School: great, Check, Special. -/
namespace Go.Proofs.YtmpegkojencbjaaDoor
open Go Go.RowKit Go.Shelf
set_option maxHeartbeats 4000000
set_option maxRecDepth 100000
/-- lengths of a school that can be -/
structure ScZ (s : Sch) : Prop where
  nf : s.fs.length ≤ maxLen
  nr : s.rs.length ≤ maxLen
  ts : ∀ r ∈ s.rs, r.when_.length ≤ maxLen
/-- whether a school is more than is looked at -/
def grB (s : Sch) : Bool := (decide (7 < s.fs.length) || decide (15 < s.rs.length)) || s.rs.any fun r => decide (7 < r.when_.length)
theorem grB_no {s : Sch} (h : grB s = false) : s.fs.length ≤ 7 ∧ s.rs.length ≤ 15 ∧ ∀ r ∈ s.rs, r.when_.length ≤ 7 := by
  unfold grB at h
  rw [Bool.or_eq_false_iff, Bool.or_eq_false_iff] at h
  have h1 := of_decide_eq_false h.1.1
  have h2 := of_decide_eq_false h.1.2
  refine ⟨by omega, by omega, fun r hr => ?_⟩
  have h3 := List.any_eq_false.1 h.2 r hr
  simpa using h3
theorem great_any (d : Ad_) (s : Sch) (w : World) (hd : ScR w w.heap.size d s) (hz : ScZ s) :
    Calls Tryd.prog 29 #[scV d s] w fun e w' => e = .returned (.bool (grB s)) ∧ Below w.heap.size w w' := by
  have hz1 := hz.nf
  have hz2 := hz.nr
  unfold maxLen at hz1 hz2
  have HD := hide hd
  have HZ := hide hz
  obtain ⟨nf, hf⟩ : ∃ n, s.fs.length = n := ⟨_, rfl⟩
  obtain ⟨nr, hr⟩ : ∃ n, s.rs.length = n := ⟨_, rfl⟩
  obtain ⟨Q, hQ⟩ : ∃ n, s.q = n := ⟨_, rfl⟩
  have HN := hide (And.intro hf hr)
  unfold scV
  rw [hf, hr, hQ]
  rw [hf] at hz1
  rw [hr] at hz2
  have HB0 := hide ((Below.refl w.heap.size w).alloc (Nat.le_refl _) (.cells #[.slice d.fa nf d.fc, .int .i64 Q, .slice d.ra nr d.rc] 47))
  have G1 := Blk.new w 47 #[.slice d.fa nf d.fc, .int .i64 Q, .slice d.ra nr d.rc]
  clear hd hz hf hr hQ
  go_enter Tryd.func29, Tryd.ntmps29
  go_upto_region 1 with fail
  generalize (w.alloc (.cells #[.slice d.fa nf d.fc, .int .i64 Q, .slice d.ra nr d.rc] 47)) = w1 at HB0 G1 ⊢
  generalize w.heap.size = G at G1 ⊢
  obtain ⟨g9, g0, g1, g2, -⟩ := blk3 G1
  clear G1
  go_wp2_with fail
  go_loopw [3] (fun i wr => ∃ k : Nat, k ≤ nr ∧ k ≤ 16 ∧ i = .int .i64 k ∧ Hid (∀ j, j < k → (s.rs.getD j r0).when_.length ≤ 7) ∧ Hid (w1 = wr)) (fun i _ => nr - (intOf i).toNat)
  case atStart => exact ⟨0, Nat.zero_le _, by omega, rfl, hide (fun j hj => absurd hj (by omega)), hide rfl⟩
  case round =>
    obtain ⟨k, hk, hk26, rfl, HX, HW⟩ := hrel
    obtain rfl := HW.out
    have hst : IntKind.i64.wrap ((k : Int) + 1) = ((k + 1 : Nat) : Int) := by rw [IntWalk.i64_in _ (by omega)]; omega
    by_cases hlt : k < nr
    · have hlt' : (k : Int) < (nr : Int) := by omega
      by_cases h26 : k < 16
      · have h26' : (k : Int) < 16 := by omega
        have i0 : (0 : Int) ≤ (k : Int) := by omega
        have hkl : k < s.rs.length := by rw [HN.out.2]; exact hlt
        obtain ⟨x, hx⟩ : ∃ x, s.rs.getD k r0 = x := ⟨_, rfl⟩
        obtain ⟨b, off, hra, hb, a0, a1, a2⟩ := HD.out.rs.at_ hkl hx
        rw [hra] at g2 ⊢
        have c0 := (HB0.out.cell (p := ⟨b, off + k * 3, none⟩) hb).trans a0
        have hmem : x ∈ s.rs := by
          rw [← hx, List.getD_eq_getElem?_getD, List.getElem?_eq_getElem hkl]
          exact List.getElem_mem _
        have hxm := HZ.out.ts x hmem
        unfold maxLen at hxm
        have HXX := hide hx
        have HMEM := hide hmem
        obtain ⟨tn, htn⟩ : ∃ n, x.when_.length = n := ⟨_, rfl⟩
        rw [htn] at c0 hxm
        have HTN := hide htn
        clear hx hmem htn a0 a1 a2
        by_cases h20 : 7 < tn
        · have h20' : (7 : Int) < (tn : Int) := by omega
          have hg : grB s = true := by
            unfold grB
            rw [Bool.or_eq_true]
            exact .inr (List.any_eq_true.2 ⟨x, HMEM.out, by rw [HTN.out]; exact decide_eq_true h20⟩)
          have HG := hide hg
          clear hg h20
          go_wp2_with fail
          go_ret
          exact ⟨ret_bool HG.out.symm, HB0.out⟩
        · have h20' : ¬ (7 : Int) < (tn : Int) := by omega
          have HX2 : Hid (∀ j, j < k + 1 → (s.rs.getD j r0).when_.length ≤ 7) := hide (fun j hj => by
            rcases (by omega : j < k ∨ j = k) with h | rfl
            · exact HX.out j h
            · rw [HXX.out, HTN.out]; omega)
          clear h20
          go_wp2_with fail
          go_roundw
          case rel => exact ⟨k + 1, by omega, by omega, by go_num, HX2, by first | exact hide trivial | exact hide rfl⟩
          case measure => simp [intOf]; omega
      · have h26' : ¬ (k : Int) < 16 := by omega
        have h25 : (15 : Int) < (nr : Int) := by omega
        have hg : grB s = true := by
          unfold grB
          rw [Bool.or_eq_true, Bool.or_eq_true, HN.out.2]
          exact .inl (.inr (by simp; omega))
        have HG := hide hg
        clear hg
        by_cases h7 : 7 < nf
        · have h7' : (7 : Int) < (nf : Int) := by omega
          go_wp2_with fail
          go_ret
          exact ⟨ret_bool HG.out.symm, HB0.out⟩
        · have h7' : ¬ (7 : Int) < (nf : Int) := by omega
          go_wp2_with fail
          go_ret
          exact ⟨ret_bool HG.out.symm, HB0.out⟩
    · obtain rfl : k = nr := by omega
      have hnl : ¬ (k : Int) < (k : Int) := by omega
      have hg : grB s = (decide ((7 : Int) < nf) || decide ((15 : Int) < k)) := by
        unfold grB
        have h2 : (s.rs.any fun r => decide (7 < r.when_.length)) = false := by
          rw [List.any_eq_false]
          intro x hx
          obtain ⟨j, hj, rfl⟩ := List.getElem_of_mem hx
          have := HX.out j (by rw [← HN.out.2]; exact hj)
          rw [List.getD_eq_getElem?_getD, List.getElem?_eq_getElem hj] at this
          have h3 : s.rs[j].when_.length ≤ 7 := this
          simp; exact h3
        rw [h2, Bool.or_false, HN.out.1, HN.out.2]
        rw [Bool.eq_iff_iff]; simp; omega
      have HG := hide hg
      clear hg
      by_cases h7 : 7 < nf
      · have h7' : (7 : Int) < (nf : Int) := by omega
        go_wp2_with fail
        go_ret
        exact ⟨ret_bool (by rw [HG.out, decide_eq_true h7']; rfl), HB0.out⟩
      · have h7' : ¬ (7 : Int) < (nf : Int) := by omega
        by_cases h15 : 15 < k
        · have h15' : (15 : Int) < (k : Int) := by omega
          go_wp2_with fail
          go_ret
          exact ⟨ret_bool (by rw [HG.out, decide_eq_true h15', Bool.or_true]), HB0.out⟩
        · have h15' : ¬ (15 : Int) < (k : Int) := by omega
          go_wp2_with fail
          go_ret
          exact ⟨ret_bool (by rw [HG.out, decide_eq_false (show ¬ (15 : Int) < k by omega), decide_eq_false (show ¬ (7 : Int) < nf by omega)]; rfl), HB0.out⟩
theorem Check_any (d : Ad_) (s : Sch) (w : World) (hd : ScR w w.heap.size d s) (hz : ScZ s) :
    Calls Tryd.prog 37 #[scV d s] w fun e w' => e = .returned (.int .i64 (if schB s = true then 0 else 2)) ∧ Below w.heap.size w w' := by
  obtain ⟨nf, hf⟩ : ∃ n, s.fs.length = n := ⟨_, rfl⟩
  obtain ⟨nr, hr⟩ : ∃ n, s.rs.length = n := ⟨_, rfl⟩
  obtain ⟨Q, hQ⟩ : ∃ n, s.q = n := ⟨_, rfl⟩
  have HOP : Hid (∀ W, Below w.heap.size w W → Calls Tryd.prog 62 #[.agg #[.slice d.fa nf d.fc, .int .i64 Q, .slice d.ra nr d.rc]] W (OpPost W d s)) := hide fun W hB => by
    have := open_any d s W (hd.below hB) hz.nf hz.nr
    unfold scV at this
    rw [hf, hr, hQ] at this
    exact this
  unfold scV
  rw [hf, hr, hQ]
  obtain ⟨ck, hck⟩ : ∃ x : Int, (if schB s = true then (0 : Int) else 2) = x := ⟨_, rfl⟩
  rw [hck]
  have HCK := hide hck
  have HB0 := hide ((Below.refl w.heap.size w).alloc (Nat.le_refl _) (.cells #[.slice d.fa nf d.fc, .int .i64 Q, .slice d.ra nr d.rc] 47))
  have G1 := Blk.new w 47 #[.slice d.fa nf d.fc, .int .i64 Q, .slice d.ra nr d.rc]
  clear hd hf hr hQ hz hck
  go_enter Tryd.func37, Tryd.ntmps37
  go_upto_region 1 with fail
  generalize (w.alloc (.cells #[.slice d.fa nf d.fc, .int .i64 Q, .slice d.ra nr d.rc] 47)) = w1 at HB0 G1 ⊢
  generalize w.heap.size = G at G1 ⊢
  obtain ⟨-, g0, g1, g2, -⟩ := blk3 G1
  clear G1
  go_wp2_with fail
  refine (HOP.out w1 HB0.out).mono ?_
  intro e w2 hop
  obtain ⟨p, rfl, hb2, -⟩ := hop.any
  have HB2 := hide (HB0.out.trans (hb2.mono HB0.out.size))
  clear hb2 hop g0 g1 g2
  rcases hs : schB s with _ | _
  · have h : ck = 2 := by rw [← HCK.out, hs]; rfl
    subst h
    clear hs
    go_wp2_with fail
    go_ret
    exact ⟨rfl, HB2.out⟩
  · have h : ck = 0 := by rw [← HCK.out, hs]; rfl
    subst h
    clear hs
    go_wp2_with fail
    go_ret
    exact ⟨rfl, HB2.out⟩
end Go.Proofs.YtmpegkojencbjaaDoor
/- School: own lists of tests, own lists of rules. -/
namespace Go.Proofs.YtmpegkojencbjaaDoor
open Go Go.RowKit Go.Shelf
set_option maxHeartbeats 4000000
set_option maxRecDepth 100000
theorem info_test : (Tryd.prog.info? 76).map (fun i => (i.zero, i.size, i.bytes)) = some (some (.agg #[.int .i64 0, .int .i64 0]), 2, 16) := by kernel_rfl
theorem info_rule : (Tryd.prog.info? 73).map (fun i => (i.zero, i.size, i.bytes)) = some (some (.agg #[.slice none 0 0, .int .i64 0, .int .i64 0]), 3, 40) := by kernel_rfl
def tsC (t : Int × Int) : List Value := [.int .i64 t.1, .int .i64 t.2]
def cellsQ (l : List (Int × Int)) : List Value := l.flatMap tsC
theorem cellsQ_append (l m : List (Int × Int)) : cellsQ (l ++ m) = cellsQ l ++ cellsQ m := by simp [cellsQ, List.flatMap_append]
theorem cellsQ_len (l : List (Int × Int)) : (cellsQ l).length = l.length * 2 := by
  induction l with
  | nil => rfl
  | cons x l ih => show (tsC x ++ cellsQ l).length = _; rw [List.length_append, ih, List.length_cons]; show 2 + _ = _; omega
theorem cellsQ_one (l : List (Int × Int)) : ∀ u ∈ cellsQ l, u.oneCell' = true := by
  intro u hu
  unfold cellsQ at hu
  obtain ⟨e, -, he⟩ := List.mem_flatMap.1 hu
  simp only [tsC, List.mem_cons, List.not_mem_nil, or_false] at he
  rcases he with rfl | rfl <;> rfl
theorem cellsQ_at (l : List (Int × Int)) : ∀ (k i : Nat), k < l.length → i < 2 → (cellsQ l)[k * 2 + i]? = some (tsV (l.getD k (0, 0)) i) := by
  induction l with
  | nil => intro k i hk; simp at hk
  | cons x l ih =>
    intro k i hk hi
    show (tsC x ++ cellsQ l)[k * 2 + i]? = _
    cases k with
    | zero => rcases (by omega : i = 0 ∨ i = 1) with rfl | rfl <;> rfl
    | succ k =>
      rw [List.getElem?_append_right (by show 2 ≤ _; omega)]
      have : (k + 1) * 2 + i - (tsC x).length = k * 2 + i := by show _ - 2 = _; omega
      rw [this, ih k i (by simpa using hk) hi]
      rfl
/-- an own list of tests -/
def OwnQ (W : World) (n0 : Nat) (v : Value) (l : List (Int × Int)) : Prop := W.ownsRow n0 76 2 v l.length (cellsQ l)
theorem OwnQ.ext {W W' : World} {n0 : Nat} {v : Value} {l : List (Int × Int)} (h : OwnQ W n0 v l) (hb : Below W.heap.size W W') : OwnQ W' n0 v l := ownBelow h hb
theorem OwnQ.made0 (W : World) : OwnQ (W.alloc (.cells #[] 76)) W.heap.size (.slice (some ⟨W.heap.size, 0, none⟩) 0 0) [] :=
  World.ownsRow_made W #[] 0 (Nat.le_refl _) (by unfold maxLen; omega) rfl
theorem OwnQ.pushes {W : World} {base : Nat} {v : Value} {l : List (Int × Int)} (h : OwnQ W base v l) (A : Option Addr) (c : Nat) (m : List (Int × Int)) (hA : TsR W W.heap.size A m) (hl : l.length + m.length ≤ 1000000) (hb : base ≤ W.heap.size) :
    ∃ v' w', (Builtin.append_ #[71, 71] 71 #[v, .slice A m.length c]).run Tryd.prog W = .ok v' w' ∧ OwnQ w' base v' (l ++ m) ∧ W.grownBy w' v.ownBlock := by
  obtain ⟨i0, hi, hz0, hz1, hz2⟩ := info_parts info_test
  cases A with
  | none =>
    have hm : m = [] := by
      rcases hm : m with _ | ⟨x, m⟩
      · rfl
      · exfalso
        obtain ⟨b, off, hA, -⟩ := hA (by rw [hm]; simp)
        cases hA
    subst hm
    refine ⟨v, W, run_append_none0 (P := Tryd.prog) _ _ 76 i0 2 Tryd.underlying71 hi v l.length c (cellsQ l) h, by simpa using h, World.grownBy.refl _ _⟩
  | some a =>
    have hcells : ∀ j u, (cellsQ m)[j]? = some u → W.cell? (a.add j) = some u := by
      intro j u hj
      have hlt : j < m.length * 2 := by
        have := (List.getElem?_eq_some_iff.1 hj).1
        rwa [cellsQ_len] at this
      obtain ⟨b, off, hA', -, hc⟩ := hA (by omega)
      injection hA' with hA'
      subst hA'
      have hk : j / 2 < m.length := by omega
      have hi4 : j % 2 < 2 := by omega
      have e1 : j / 2 * 2 + j % 2 = j := by omega
      have e2 := cellsQ_at m (j / 2) (j % 2) hk hi4
      rw [e1, hj] at e2
      have e3 := hc (j / 2) (j % 2) hk hi4
      rw [show off + j / 2 * 2 + j % 2 = off + j by omega, ← e2] at e3
      have e4 : ((⟨b, off, none⟩ : Addr).add j) = ⟨b, off + j, none⟩ := by simp [Addr.add]
      rw [e4]
      exact e3
    obtain ⟨v', w', hr, h2, h3, -⟩ := run_append_own (P := Tryd.prog) (w := W) base 71 71 76 i0 _ 2 16 Tryd.underlying71 hi hz0 hz1 hz2 rfl (by decide) v l.length (cellsQ l) h
      a m.length c (cellsQ m) (cellsQ_len m) hcells (cellsQ_one m) (by unfold maxLen; omega) (by omega) hb
    refine ⟨v', w', hr, ?_, h3⟩
    unfold OwnQ
    rw [cellsQ_append, List.length_append]
    exact h2
/-- an own list of tests is read -/
theorem OwnQ.tsR {W : World} {n0 : Nat} {A : Option Addr} {n c : Nat} {l : List (Int × Int)} (h : OwnQ W n0 (.slice A n c) l) : n = l.length ∧ TsR W W.heap.size A l := by
  obtain ⟨A', c', e⟩ := own_shape h
  injection e with e1 e2 e3
  subst e1
  refine ⟨e2, fun hn => ?_⟩
  rcases h.2 with ⟨h1, h2⟩ | ⟨g, cap, cur, h1, h2, h3, h4, h5, h6, h7⟩
  · omega
  · injection h1 with hA
    subst hA
    have hg := (World.ownsRow.lt h g rfl).2
    refine ⟨g, 0, rfl, hg, fun k i hk hi => ?_⟩
    have hc := World.ownsRow.cells h (g := g) rfl (k * 2 + i) _ (cellsQ_at l k i hk hi)
    have e1 : ((⟨g, 0, none⟩ : Addr).add (k * 2 + i)) = ⟨g, 0 + k * 2 + i, none⟩ := by simp [Addr.add]; omega
    rw [e1] at hc
    exact hc
-- rules: the values of a rule's three cells
abbrev R3 := Value × Int × Int
def r3C (r : R3) : List Value := [r.1, .int .i64 r.2.1, .int .i64 r.2.2]
def cells3 (l : List R3) : List Value := l.flatMap r3C
theorem cells3_append (l m : List R3) : cells3 (l ++ m) = cells3 l ++ cells3 m := by simp [cells3, List.flatMap_append]
theorem cells3_one (l : List R3) (h : ∀ r ∈ l, r.1.oneCell' = true) : ∀ u ∈ cells3 l, u.oneCell' = true := by
  intro u hu
  unfold cells3 at hu
  obtain ⟨e, hm, he⟩ := List.mem_flatMap.1 hu
  simp only [r3C, List.mem_cons, List.not_mem_nil, or_false] at he
  rcases he with rfl | rfl | rfl
  · exact h e hm
  · rfl
  · rfl
def r3V (r : R3) (i : Nat) : Value := if i = 0 then r.1 else if i = 1 then .int .i64 r.2.1 else .int .i64 r.2.2
def r30 : R3 := (.slice none 0 0, 0, 0)
theorem cells3_at (l : List R3) : ∀ (k i : Nat), k < l.length → i < 3 → (cells3 l)[k * 3 + i]? = some (r3V (l.getD k r30) i) := by
  induction l with
  | nil => intro k i hk; simp at hk
  | cons x l ih =>
    intro k i hk hi
    show (r3C x ++ cells3 l)[k * 3 + i]? = _
    cases k with
    | zero => rcases (by omega : i = 0 ∨ i = 1 ∨ i = 2) with rfl | rfl | rfl <;> rfl
    | succ k =>
      rw [List.getElem?_append_right (by show 3 ≤ _; omega)]
      have : (k + 1) * 3 + i - (r3C x).length = k * 3 + i := by show _ - 3 = _; omega
      rw [this, ih k i (by simpa using hk) hi]
      rfl
/-- an own list of rules -/
def Own3 (W : World) (n0 : Nat) (v : Value) (l : List R3) : Prop := W.ownsRow n0 73 3 v l.length (cells3 l)
theorem Own3.nil (W : World) (n0 : Nat) : Own3 W n0 (.slice none 0 0) [] := ⟨rfl, .inl ⟨rfl, rfl⟩⟩
theorem Own3.ext {W W' : World} {n0 : Nat} {v : Value} {l : List R3} (h : Own3 W n0 v l) (hb : Below W.heap.size W W') : Own3 W' n0 v l := ownBelow h hb
theorem cell_three_new (w : World) (a b c : Value) (t : TypeId) : ∀ (j : Nat) (u : Value), [a, b, c][j]? = some u → (w.alloc (.cells #[a, b, c] t)).cell? ((⟨w.heap.size, 0, none⟩ : Addr).add j) = some u := by
  intro j u h
  have hB := Blk.new w t #[a, b, c]
  match j, h with
  | 0, h => simpa [Addr.add] using (show (w.alloc (.cells #[a, b, c] t)).cell? ⟨w.heap.size, 0, none⟩ = some u by rw [hB.cell]; simpa using h)
  | 1, h => simpa [Addr.add] using (show (w.alloc (.cells #[a, b, c] t)).cell? ⟨w.heap.size, 1, none⟩ = some u by rw [hB.cell]; simpa using h)
  | 2, h => simpa [Addr.add] using (show (w.alloc (.cells #[a, b, c] t)).cell? ⟨w.heap.size, 2, none⟩ = some u by rw [hB.cell]; simpa using h)
  | j + 3, h => simp at h
theorem Own3.push {W : World} {base : Nat} {v : Value} {l : List R3} (h : Own3 W base v l) (r : R3) (h1 : r.1.oneCell' = true) (hl : l.length ≤ 1000000) (hb : base ≤ W.heap.size) :
    ∃ A c w', (Builtin.append_ #[45, 45] 45 #[v, .slice (some ⟨W.heap.size, 0, none⟩) 1 1]).run Tryd.prog (W.alloc (.cells #[r.1, .int .i64 r.2.1, .int .i64 r.2.2] 73)) = .ok (.slice A (l.length + 1) c) w' ∧
      Own3 w' base (.slice A (l.length + 1) c) (l ++ [r]) ∧ (W.alloc (.cells #[r.1, .int .i64 r.2.1, .int .i64 r.2.2] 73)).grownBy w' v.ownBlock := by
  obtain ⟨i0, hi, hz0, hz1, hz2⟩ := info_parts info_rule
  obtain ⟨v', w', hr, h2, h3, -⟩ := run_append_own (P := Tryd.prog) (w := W.alloc (.cells #[r.1, .int .i64 r.2.1, .int .i64 r.2.2] 73)) base 45 45 73 i0 _ 3 40 Tryd.underlying45 hi hz0 hz1 hz2 rfl (by decide) v l.length (cells3 l) (World.ownsRow.alloc h _)
    ⟨W.heap.size, 0, none⟩ 1 1 (r3C r) rfl (cell_three_new _ _ _ _ _) (by have := cells3_one [r] (fun x hx => by rw [List.mem_singleton.1 hx]; exact h1); simpa [cells3] using this) (by unfold maxLen; omega) (by omega) (by simp; omega)
  obtain ⟨A, c, rfl⟩ := own_shape h2
  refine ⟨A, c, w', hr, ?_, h3⟩
  unfold Own3
  rw [cells3_append, List.length_append]
  simpa [cells3] using h2
theorem Own3.row {W : World} {n0 : Nat} {A : Option Addr} {n c : Nat} {l : List R3} (h : Own3 W n0 (.slice A n c) l) : n = l.length ∧ ER W W.heap.size 3 A l.length fun k i => r3V (l.getD k r30) i := by
  obtain ⟨A', c', e⟩ := own_shape h
  injection e with e1 e2 e3
  subst e1
  refine ⟨e2, fun hn => ?_⟩
  rcases h.2 with ⟨h1, h2⟩ | ⟨g, cap, cur, h1, h2, h3, h4, h5, h6, h7⟩
  · omega
  · injection h1 with hA
    subst hA
    have hg := (World.ownsRow.lt h g rfl).2
    refine ⟨g, 0, rfl, hg, fun k i hk hi => ?_⟩
    have hc := World.ownsRow.cells h (g := g) rfl (k * 3 + i) _ (cells3_at l k i hk hi)
    have e1 : ((⟨g, 0, none⟩ : Addr).add (k * 3 + i)) = ⟨g, 0 + k * 3 + i, none⟩ := by simp [Addr.add]; omega
    rw [e1] at hc
    exact hc
end Go.Proofs.YtmpegkojencbjaaDoor
