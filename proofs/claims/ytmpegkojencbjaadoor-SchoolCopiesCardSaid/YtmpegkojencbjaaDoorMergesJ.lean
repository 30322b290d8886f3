/- School: the law SchoolCopies: the row and the tied card. -/
import Derived.Test.YtmpegkojencbjaaDoorMergesI
import Derived.Deep.CutBlock
import Derived.Deep.DeepCutAuto
import Derived.IntWalk
import Derived.Deep.QuietTactic
import Derived.BigQuiet
import Derived.Test.YtmpegkojencbjaaDoorRows
import Derived.ProofKit
import Derived.OpenShut
import Derived.Carry
import Derived.ChangeSame
import Derived.Deep.SlicePairs
import Derived.ChangeSlices
import Derived.SliceStrings
import Derived.Test.YtmpegkojencbjaaDoorCards
import Derived.Test.YtmpegkojencbjaaDoorTie
import Derived.LaidMore
import Derived.Lay
import Derived.SevenTiedAt
import Derived.Stop.Joined
set_option linter.unusedSimpArgs false
set_option linter.unusedVariables false
set_option linter.unnecessarySimpa false
/- School: the law SchoolCopies, walked. -/
namespace Go.Proofs.YtmpegkojencbjaaDoor
open List renaming getElem_toArray → glA, getElem_cons_zero → glB, getElem_cons_succ → glC, setIfInBounds_toArray → glD, set_cons_zero → glE, set_cons_succ → glF
open Go Go.RowKit Go.Shelf
set_option maxHeartbeats 200000000
set_option maxRecDepth 100000
theorem VR1.all {w : World} {B n : Nat} {A : Option Addr} {u : Nat → Value} (h : ER w B 1 A n fun k _ => u k) (hn : 0 < n) :
    ∃ b off, A = some ⟨b, off, none⟩ ∧ b < B ∧ ∀ k, k < n → w.cell? ⟨b, off + k, none⟩ = some (u k) := by
  obtain ⟨b, off, rfl, hb, -⟩ := VR1.at_ h hn
  refine ⟨b, off, rfl, hb, fun k hk => ?_⟩
  obtain ⟨b2, off2, e, -, hc⟩ := VR1.at_ h hk
  injection e with e
  injection e with e1 e2
  subst e1 e2
  exact hc
/-- an array of 16 cells of one's own -/
structure AR (w W : World) (D : Nat) (t : TypeId) (f : Nat → Value) : Prop where
  below : Below w.heap.size w W
  lo : w.heap.size ≤ D
  blk : Blk W D t (rowV 16 f)
section
variable {w W W' : World} {D : Nat} {t : TypeId} {f : Nat → Value}
theorem AR.ext (h : AR w W D t f) (hb : Below W.heap.size W W') : AR w W' D t f := ⟨h.below.trans (hb.mono h.below.size), h.lo, h.blk.ext hb⟩
theorem AR.at_ (h : AR w W D t f) {v : Nat} (hv : v < 16) : W.cell? ⟨D, v, none⟩ = some (f v) := by
  rw [h.blk.cell, rowV_get _ _ hv]
theorem AR.put (h : AR w W D t f) (v : Nat) (x : Value) {g : Nat → Value} (hg : ∀ u, u < 16 → g u = if u = v then x else f u) : AR w (W.setCell ⟨D, v, none⟩ x) D t g := by
  refine ⟨h.below.setCell h.lo _, h.lo, ?_⟩
  rw [rowV_same 16 _ (upd f v x) (fun q hq => by rw [hg q hq]; rfl)]
  rw [← rowV_set]
  exact h.blk.set_ _ _
theorem AR.congr (h : AR w W D t f) {g : Nat → Value} (hg : ∀ u, u < 16 → g u = f u) : AR w W D t g := by
  refine ⟨h.below, h.lo, ?_⟩
  rw [rowV_same 16 _ f (fun q hq => hg q hq)]
  exact h.blk
end
/-- what the law's loops read -/
def RdC (w : World) (pb po rb ro xb xo n : Nat) (p r : Nat → Int) (A : Nat → Nat) : Prop :=
  ∀ W, Below w.heap.size w W → ∀ k, k < n → W.cell? ⟨pb, po + k, none⟩ = some (.int .i64 (p k)) ∧ W.cell? ⟨rb, ro + k, none⟩ = some (.int .i64 (r k)) ∧ W.cell? ⟨xb, xo + k, none⟩ = some (.int .i64 (A k))
theorem nrF_bd (p : Nat → Int) (A : Nat → Nat) (i v : Nat) : ∀ q, 0 ≤ nrF p A i q v ∧ nrF p A i q v ≤ q + 1
  | 0 => by
    show 0 ≤ (if _ then (1 : Int) else 0) ∧ (if _ then (1 : Int) else 0) ≤ _
    split <;> omega
  | q + 1 => by
    have ih := nrF_bd p A i v q
    show 0 ≤ nrF p A i q v + (if _ then (1 : Int) else 0) ∧ nrF p A i q v + (if _ then (1 : Int) else 0) ≤ _
    split <;> omega
theorem copies_any (A B : Option Addr) (c d : Nat) (P R : List Int) (w : World) (hp : P.length ≤ maxLen) (hr : R.length ≤ maxLen) (hP : LI w w.heap.size A P) (hR : LI w w.heap.size B R) :
    Calls Tryd.prog 7 #[.slice A P.length c, .slice B R.length d] w fun e w' => e = .returned (.bool true) ∧ Below w.heap.size w w' := by
  unfold maxLen at hp hr
  have HP := hide hP
  have HR := hide hR
  obtain ⟨n, hn⟩ : ∃ n, P.length = n := ⟨_, rfl⟩
  obtain ⟨m, hm⟩ : ∃ n, R.length = n := ⟨_, rfl⟩
  have HN := hide (And.intro hn hm)
  rw [hn] at hp ⊢
  rw [hm] at hr ⊢
  clear hP hR hn hm
  by_cases h1 : 25 < n
  · have h1' : (25 : Int) < (n : Int) := by omega
    have HK := hide (known_any w)
    go_enter Tryd.func7, Tryd.ntmps7
    go_wp2_with fail
    refine HK.out.mono ?_
    rintro e w6 ⟨rfl, hb6⟩
    go_wp2_with fail
    go_ret
    exact ⟨rfl, hb6⟩
  have h1' : ¬ (25 : Int) < (n : Int) := by omega
  by_cases h2 : 25 < m
  · have h2' : (25 : Int) < (m : Int) := by omega
    have HK := hide (known_any w)
    go_enter Tryd.func7, Tryd.ntmps7
    go_wp2_with fail
    refine HK.out.mono ?_
    rintro e w6 ⟨rfl, hb6⟩
    go_wp2_with fail
    go_ret
    exact ⟨rfl, hb6⟩
  have h2' : ¬ (25 : Int) < (m : Int) := by omega
  have HW1 := numbers_any A c P w (by rw [HN.out.1]; omega) HP.out
  rw [HN.out.1] at HW1
  have HW1 := hide HW1
  have HW2 : Hid (∀ W, Below w.heap.size w W → Calls Tryd.prog 24 #[.slice B m d] W fun e w' => ∃ v, e = .returned v ∧ OwnJ w' W.heap.size v R ∧ Below W.heap.size W w') := hide fun W h => by
    have := numbers_any B d R W (by rw [HN.out.2]; omega) ((ER.below HR.out h (Nat.le_refl _)).more h.size)
    rwa [HN.out.2] at this
  go_enter Tryd.func7, Tryd.ntmps7
  go_wp2_with fail
  refine HW1.out.mono ?_
  rintro e w1 ⟨v1, rfl, ho1, hb1⟩
  obtain ⟨A1, c1, rfl⟩ := own_shape ho1
  have B1 := hide hb1
  have O1 := hide ho1
  rw [HN.out.1]
  clear hb1 ho1
  go_wp2_with fail
  refine (HW2.out w1 B1.out).mono ?_
  rintro e w2 ⟨v2, rfl, ho2, hb2⟩
  obtain ⟨A2, c2, rfl⟩ := own_shape ho2
  have B2 := hide (B1.out.trans (hb2.mono B1.out.size))
  have hs1 := (OwnJ.li (OwnJ.ext O1.out hb2)).2
  have hs2 := (OwnJ.li ho2).2
  rw [HN.out.2]
  have HMG := Restore_any A1 A2 c1 c2 P R w2 hs1 hs2
  rw [HN.out.1, HN.out.2] at HMG
  obtain ⟨q, hq⟩ : ∃ q, rsR P R = q := ⟨_, rfl⟩
  rw [hq] at HMG
  obtain ⟨ml, me, mc⟩ := q
  have HRS := hide hq
  unfold RsPost at HMG
  dsimp only at HMG
  have HMG := hide HMG
  clear hb2 ho2 hs1 hs2 hq O1 B1
  go_wp2_with fail
  refine HMG.out.mono ?_
  rintro e w4 ⟨v4, rfl, ho4, hb4⟩
  obtain ⟨A4, c4, hv4⟩ := own_shape ho4
  subst hv4
  have B4 := hide (B2.out.trans (hb4.mono B2.out.size))
  have O4 := hide ho4
  clear ho4 hb4 HMG HW1 HW2 B2
  by_cases hl : 20 < P.length
  · have h := rsR_long (R := R) hl
    rw [HRS.out] at h
    injection h with h3 h4
    injection h4 with h4 h5
    subst h3 h4 h5
    have HK := hide (known_any w4)
    clear hl
    go_wp2_with fail
    refine HK.out.mono ?_
    rintro e w6 ⟨rfl, hb6⟩
    go_wp2_with fail
    go_ret
    exact ⟨rfl, B4.out.trans (hb6.mono B4.out.size)⟩
  rcases hcb : cpB P R with _ | _
  · have h := rsR_no hl hcb
    rw [HRS.out] at h
    injection h with h3 h4
    injection h4 with h4 h5
    subst h3 h4 h5
    have HK := hide (known_any w4)
    clear hl hcb
    go_wp2_with fail
    refine HK.out.mono ?_
    rintro e w6 ⟨rfl, hb6⟩
    go_wp2_with fail
    go_ret
    exact ⟨rfl, B4.out.trans (hb6.mono B4.out.size)⟩
  -- the readings are restored
  have h := rsR_yes hl hcb
  rw [HRS.out] at h
  obtain ⟨hn0, hlen, hcp⟩ := cpB_yes hcb
  injection h with h3 h4
  injection h4 with h4 h5
  subst h5
  obtain ⟨p, hpp⟩ : ∃ p, pF P = p := ⟨_, rfl⟩
  obtain ⟨r, hrr⟩ : ∃ p, pF R = p := ⟨_, rfl⟩
  have hnm : m = n := by rw [← HN.out.1, ← HN.out.2]; exact hlen
  subst hnm
  rw [HN.out.1] at hl hn0 hcp h3 h4
  rw [hpp, hrr] at hcp h3 h4
  have hml : ml.length = m := by rw [h3, allF_len]
  have hA : ∀ k, k < m → aLF p r m k = ((fun k => (aLF p r m k).toNat) k : Int) := fun k hk => by
    obtain ⟨x, -, -, hx⟩ := aLF_ok hcp (by omega) hk
    dsimp only
    omega
  obtain ⟨Af, hAf⟩ : ∃ f, (fun k => (aLF p r m k).toNat) = f := ⟨_, rfl⟩
  rw [hAf] at hA
  have hcg := cgF_is hcp (by omega) hA m (Nat.le_refl _)
  rw [hcg] at h4
  subst h4
  have hdf := diff_ok hcp (by omega) hn0 hA
  have hnb : ∀ i v, i < m → r i < 0 → v < 16 → nrF p Af i m v ≤ nrF p Af i m (Af i) := fun i v hi hri hv => near_best hcp (by omega) hA hi hri hv
  have hok : ∀ i, i < m → p i < i ∧ (0 < i → 0 ≤ p i) ∧ Af i < 16 ∧ (0 ≤ r i → r i = (Af i : Int)) := fun i hi => by
    have h1 := cpOk_p (cpAll_at hcp i hi)
    obtain ⟨x, hx, hbx, hx2⟩ := aLF_ok hcp (by omega) hi
    have h2 := hA i hi
    have h3 : Af i = x := by omega
    refine ⟨h1.1, h1.2.2.1, by omega, fun h0 => ?_⟩
    rw [h3]
    unfold barI at hbx
    rw [decide_eq_true h0, Bool.true_and] at hbx
    exact Classical.byContradiction fun h => by rw [decide_eq_true h] at hbx; cases hbx
  have hli := (OwnJ.li O4.out).2
  obtain ⟨pb, po, hA1, hpb, cP⟩ := VR1.all HP.out (by rw [HN.out.1]; exact hn0)
  obtain ⟨rb, ro, hB1, hrb, cR⟩ := VR1.all HR.out (by rw [HN.out.2]; exact hn0)
  obtain ⟨xb, xo, hX1, hxb, cX⟩ := VR1.all hli (by rw [hml]; exact hn0)
  subst hA1 hB1 hX1
  rw [hml]
  have HRD : Hid (RdC w4 pb po rb ro xb xo m p r Af) := hide fun W hW k hk => by
    refine ⟨?_, ?_, ?_⟩
    · refine (hW.cell (p := ⟨pb, po + k, none⟩) (Nat.lt_of_lt_of_le hpb B4.out.size)).trans ((B4.out.cell (p := ⟨pb, po + k, none⟩) hpb).trans ?_)
      rw [← hpp]
      exact cP k (by rw [HN.out.1]; exact hk)
    · refine (hW.cell (p := ⟨rb, ro + k, none⟩) (Nat.lt_of_lt_of_le hrb B4.out.size)).trans ((B4.out.cell (p := ⟨rb, ro + k, none⟩) hrb).trans ?_)
      rw [← hrr]
      exact cR k (by rw [HN.out.2]; exact hk)
    · refine (hW.cell (p := ⟨xb, xo + k, none⟩) hxb).trans ?_
      rw [cX k (by rw [hml]; exact hk), ← hA k hk, h3]
      rfl
  have HDF := hide hdf
  have HNB := hide hnb
  have HOK := hide hok
  have hm20 : m ≤ 20 := by omega
  have HCGN : Hid (∀ k, k ≤ m → 0 ≤ cgA p Af k ∧ cgA p Af k ≤ k) := hide fun k _ => by
    have : ∀ q, cgA p Af q ≤ q := fun q => by
      induction q with
      | zero => exact Int.le_refl _
      | succ q ih => show cgA p Af q + _ ≤ _; split <;> omega
    exact ⟨cgA_nn p Af k, this k⟩
  clear hl hcb h3 hcp hpp hrr hA hAf hcg hdf hnb hok hli cP cR cX hml HRS O4 HP HR HN hp hr hlen
  go_upto_region 9 with fail
  have HA0 : Hid (AR w4 (w4.alloc (.cells #[.bool false, .bool false, .bool false, .bool false, .bool false, .bool false, .bool false, .bool false, .bool false, .bool false, .bool false, .bool false, .bool false, .bool false, .bool false, .bool false] 43)) w4.heap.size 43 (fun v => .bool (snF r Af 0 v))) := hide ⟨(Below.refl _ _).alloc (Nat.le_refl _) _, Nat.le_refl _, Blk.new _ _ _⟩
  obtain ⟨SA, hSA⟩ : ∃ s, w4.heap.size = s := ⟨_, rfl⟩
  rw [show (AR w4 _ w4.heap.size _ _) = AR w4 _ SA _ _ from by rw [hSA]] at HA0
  rw [hSA]
  clear hSA
  generalize (w4.alloc (.cells #[.bool false, .bool false, .bool false, .bool false, .bool false, .bool false, .bool false, .bool false, .bool false, .bool false, .bool false, .bool false, .bool false, .bool false, .bool false, .bool false] 43)) = w5 at HA0 ⊢
  go_wp2_with fail
  go_loopw [9, 10, 11] (fun df mn i wr => ∃ k : Nat, k ≤ m ∧ i = .int .i64 k ∧ df = .int .i64 ((dfN r Af k : Nat) : Int) ∧ mn = .int .i64 (cgA p Af k) ∧ Hid (AR w4 wr SA 43 (fun v => .bool (snF r Af k v)))) (fun _ _ i _ => m - (intOf i).toNat)
  case atStart => exact ⟨0, Nat.zero_le _, rfl, rfl, rfl, HA0⟩
  case round =>
    obtain ⟨k, hk, rfl, rfl, rfl, HAR⟩ := hrel
    clear HA0
    by_cases hlt : k < m
    · as_aux_lemma =>
      have hlt' : (k : Int) < (m : Int) := by omega
      have k0 : (0 : Int) ≤ (k : Int) := by omega
      have hst : IntKind.i64.wrap ((k : Int) + 1) = ((k + 1 : Nat) : Int) := by rw [IntWalk.i64_in _ (by omega)]; omega
      obtain ⟨z1, z2, z3, z4⟩ := HOK.out k hlt
      obtain ⟨n1, n2⟩ := HCGN.out k (by omega)
      have hds : IntKind.i64.wrap (((dfN r Af k : Nat) : Int) + 1) = ((dfN r Af k + 1 : Nat) : Int) := by
        have : dfN r Af k ≤ k := by
          have : ∀ q, dfN r Af q ≤ q := fun q => by
            induction q with
            | zero => exact Nat.le_refl _
            | succ q ih => show dfN r Af q + _ ≤ _; split <;> omega
          exact this k
        rw [IntWalk.i64_in _ (by omega)]; omega
      have hcs : IntKind.i64.wrap (cgA p Af k + 1) = cgA p Af k + 1 := by rw [IntWalk.i64_in _ (by omega)]
      obtain ⟨x, hx⟩ : ∃ x, Af k = x := ⟨_, rfl⟩
      obtain ⟨y, hy⟩ : ∃ y, r k = y := ⟨_, rfl⟩
      obtain ⟨z, hz⟩ : ∃ z, p k = z := ⟨_, rfl⟩
      rw [hz] at z1 z2
      rw [hx] at z3 z4
      rw [hy] at z4
      have HX := hide (And.intro hx (And.intro hy hz))
      have HS : Hid (∀ W, Below w4.heap.size w4 W → (W.cell? ⟨pb, po + k, none⟩ = some (.int .i64 z) ∧ W.cell? ⟨rb, ro + k, none⟩ = some (.int .i64 y) ∧ W.cell? ⟨xb, xo + k, none⟩ = some (.int .i64 ((x : Nat) : Int)))) := hide fun W h => by
        have := HRD.out W h k hlt
        rwa [hx, hy, hz] at this
      clear hx hy hz n1 n2
      have x0 : (0 : Int) ≤ (x : Int) := by omega
      have x1 : ¬ (x : Int) < 0 := by omega
      have x2 : ¬ (15 : Int) < (x : Int) := by omega
      have x3 : (x : Int) < 16 := by omega
      obtain ⟨ch, hch⟩ : ∃ b : Bool, decide (0 < k ∧ Af (p k).toNat ≠ Af k) = b := ⟨_, rfl⟩
      have HCH := hide hch
      clear hch
      go_upto_region 13 with fail
      go_cut [118] (fun v w' => v = .bool false ∧ w' = wr.drew)
      case first =>
       as_aux_lemma =>
        -- BEGIN2
        have HA1 := hide (HAR.out.ext (Below.refl _ _).drew)
        refine wp_region_J (fun W : World => (W.cell? ⟨pb, po + k, none⟩ = some (.int .i64 z) ∧ W.cell? ⟨rb, ro + k, none⟩ = some (.int .i64 y) ∧ W.cell? ⟨xb, xo + k, none⟩ = some (.int .i64 ((x : Nat) : Int)))) (by kernel_rfl) ?_
        generalize hwd : wr.drew = wd at HA1 ⊢
        have HWD := hide hwd.symm
        clear HAR hwd
        have hk00 := hlt'
        refine wpAnyJ_take 0 (v := ?_) (by first | exact hF | exact wideFn) (HS.out _ HA1.out.below) rfl (by kernel_rfl) (by kernel_rfl) (by kernel_rfl) (by kernel_rfl) rfl ?_ (by first | exact fun _ _ _ h => h | exact fun _ _ _ h => hQ2 _ _ _ _ _ h) ?_
        rotate_left
        · intro W hSW
          simp only [glA, glB, glC]
          (try dsimp only at hSW)
          go_simp
          with_reducible rfl
        (try simp only [glA, glB, glC, Act.put, glD, glE, glF])
        refine wpAnyJ_take 1 (v := ?_) (by first | exact hF | exact wideFn) (HS.out _ HA1.out.below) rfl (by kernel_rfl) (by kernel_rfl) (by kernel_rfl) (by kernel_rfl) rfl ?_ (by first | exact fun _ _ _ h => h | exact fun _ _ _ h => hQ2 _ _ _ _ _ h) ?_
        rotate_left
        · intro W hSW
          simp only [glA, glB, glC]
          (try dsimp only at hSW)
          go_simp
          with_reducible rfl
        (try simp only [glA, glB, glC, Act.put, glD, glE, glF])
        refine wpAnyJ_take 2 (v := ?_) (by first | exact hF | exact wideFn) (HS.out _ HA1.out.below) rfl (by kernel_rfl) (by kernel_rfl) (by kernel_rfl) (by kernel_rfl) rfl ?_ (by first | exact fun _ _ _ h => h | exact fun _ _ _ h => hQ2 _ _ _ _ _ h) ?_
        rotate_left
        · intro W hSW
          simp only [glA, glB, glC]
          (try dsimp only at hSW)
          go_simp
          with_reducible rfl
        (try simp only [glA, glB, glC, Act.put, glD, glE, glF])
        refine wpAnyJ_take 3 (v := ?_) (by first | exact hF | exact wideFn) (HS.out _ HA1.out.below) rfl (by kernel_rfl) (by kernel_rfl) (by kernel_rfl) (by kernel_rfl) rfl ?_ (by first | exact fun _ _ _ h => h | exact fun _ _ _ h => hQ2 _ _ _ _ _ h) ?_
        rotate_left
        · intro W hSW
          simp only [glA, glB, glC]
          (try dsimp only at hSW)
          go_simp
          with_reducible rfl
        (try simp only [glA, glB, glC, Act.put, glD, glE, glF])
        refine wpAnyJ_take 4 (v := ?_) (by first | exact hF | exact wideFn) (HS.out _ HA1.out.below) rfl (by kernel_rfl) (by kernel_rfl) (by kernel_rfl) (by kernel_rfl) rfl ?_ (by first | exact fun _ _ _ h => h | exact fun _ _ _ h => hQ2 _ _ _ _ _ h) ?_
        rotate_left
        · intro W hSW
          simp only [glA, glB, glC]
          (try dsimp only at hSW)
          go_simp
          with_reducible rfl
        (try simp only [glA, glB, glC, Act.put, glD, glE, glF])
        refine wpAnyJ_take 5 (v := ?_) (by first | exact hF | exact wideFn) (HS.out _ HA1.out.below) rfl (by kernel_rfl) (by kernel_rfl) (by kernel_rfl) (by kernel_rfl) rfl ?_ (by first | exact fun _ _ _ h => h | exact fun _ _ _ h => hQ2 _ _ _ _ _ h) ?_
        rotate_left
        · intro W hSW
          simp only [glA, glB, glC]
          (try dsimp only at hSW)
          go_simp
          with_reducible rfl
        (try simp only [glA, glB, glC, Act.put, glD, glE, glF])
        refine wpAnyJ_take 6 (v := ?_) (by first | exact hF | exact wideFn) (HS.out _ HA1.out.below) rfl (by kernel_rfl) (by kernel_rfl) (by kernel_rfl) (by kernel_rfl) rfl ?_ (by first | exact fun _ _ _ h => h | exact fun _ _ _ h => hQ2 _ _ _ _ _ h) ?_
        rotate_left
        · intro W hSW
          simp only [glA, glB, glC]
          (try dsimp only at hSW)
          go_simp
          with_reducible rfl
        (try simp only [glA, glB, glC, Act.put, glD, glE, glF])
        refine wpAnyJ_take 7 (v := ?_) (by first | exact hF | exact wideFn) (HS.out _ HA1.out.below) rfl (by kernel_rfl) (by kernel_rfl) (by kernel_rfl) (by kernel_rfl) rfl ?_ (by first | exact fun _ _ _ h => h | exact fun _ _ _ h => hQ2 _ _ _ _ _ h) ?_
        rotate_left
        · intro W hSW
          simp only [glA, glB, glC]
          (try dsimp only at hSW)
          go_simp
          with_reducible rfl
        (try simp only [glA, glB, glC, Act.put, glD, glE, glF])
        refine wpAnyJ_take 8 (v := ?_) (by first | exact hF | exact wideFn) (HS.out _ HA1.out.below) rfl (by kernel_rfl) (by kernel_rfl) (by kernel_rfl) (by kernel_rfl) rfl ?_ (by first | exact fun _ _ _ h => h | exact fun _ _ _ h => hQ2 _ _ _ _ _ h) ?_
        rotate_left
        · intro W hSW
          simp only [glA, glB, glC]
          (try dsimp only at hSW)
          go_simp
          with_reducible rfl
        (try simp only [glA, glB, glC, Act.put, glD, glE, glF])
        refine wpAnyJ_take 9 (v := ?_) (by first | exact hF | exact wideFn) (HS.out _ HA1.out.below) rfl (by kernel_rfl) (by kernel_rfl) (by kernel_rfl) (by kernel_rfl) rfl ?_ (by first | exact fun _ _ _ h => h | exact fun _ _ _ h => hQ2 _ _ _ _ _ h) ?_
        rotate_left
        · intro W hSW
          simp only [glA, glB, glC]
          (try dsimp only at hSW)
          go_simp
          with_reducible rfl
        (try simp only [glA, glB, glC, Act.put, glD, glE, glF])
        refine wpAnyJ_take 10 (v := ?_) (by first | exact hF | exact wideFn) (HS.out _ HA1.out.below) rfl (by kernel_rfl) (by kernel_rfl) (by kernel_rfl) (by kernel_rfl) rfl ?_ (by first | exact fun _ _ _ h => h | exact fun _ _ _ h => hQ2 _ _ _ _ _ h) ?_
        rotate_left
        · intro W hSW
          simp only [glA, glB, glC]
          (try dsimp only at hSW)
          go_simp
          with_reducible rfl
        (try simp only [glA, glB, glC, Act.put, glD, glE, glF])
        refine wpAnyJ_take 11 (v := ?_) (by first | exact hF | exact wideFn) (HS.out _ HA1.out.below) rfl (by kernel_rfl) (by kernel_rfl) (by kernel_rfl) (by kernel_rfl) rfl ?_ (by first | exact fun _ _ _ h => h | exact fun _ _ _ h => hQ2 _ _ _ _ _ h) ?_
        rotate_left
        · intro W hSW
          simp only [glA, glB, glC]
          (try dsimp only at hSW)
          go_simp
          with_reducible rfl
        (try simp only [glA, glB, glC, Act.put, glD, glE, glF])
        refine wpAnyJ_take 12 (v := ?_) (by first | exact hF | exact wideFn) (HS.out _ HA1.out.below) rfl (by kernel_rfl) (by kernel_rfl) (by kernel_rfl) (by kernel_rfl) rfl ?_ (by first | exact fun _ _ _ h => h | exact fun _ _ _ h => hQ2 _ _ _ _ _ h) ?_
        rotate_left
        · intro W hSW
          simp only [glA, glB, glC]
          (try dsimp only at hSW)
          go_simp
          with_reducible rfl
        (try simp only [glA, glB, glC, Act.put, glD, glE, glF])
        refine wpAnyJ_take 13 (v := ?_) (by first | exact hF | exact wideFn) (HS.out _ HA1.out.below) rfl (by kernel_rfl) (by kernel_rfl) (by kernel_rfl) (by kernel_rfl) rfl ?_ (by first | exact fun _ _ _ h => h | exact fun _ _ _ h => hQ2 _ _ _ _ _ h) ?_
        rotate_left
        · intro W hSW
          simp only [glA, glB, glC]
          (try dsimp only at hSW)
          go_simp
          with_reducible rfl
        (try simp only [glA, glB, glC, Act.put, glD, glE, glF])
        refine wpAnyJ_take 14 (v := ?_) (by first | exact hF | exact wideFn) (HS.out _ HA1.out.below) rfl (by kernel_rfl) (by kernel_rfl) (by kernel_rfl) (by kernel_rfl) rfl ?_ (by first | exact fun _ _ _ h => h | exact fun _ _ _ h => hQ2 _ _ _ _ _ h) ?_
        rotate_left
        · intro W hSW
          simp only [glA, glB, glC]
          (try dsimp only at hSW)
          go_simp
          with_reducible rfl
        (try simp only [glA, glB, glC, Act.put, glD, glE, glF])
        refine wpAnyJ_take 15 (v := ?_) (by first | exact hF | exact wideFn) (HS.out _ HA1.out.below) rfl (by kernel_rfl) (by kernel_rfl) (by kernel_rfl) (by kernel_rfl) rfl ?_ (by first | exact fun _ _ _ h => h | exact fun _ _ _ h => hQ2 _ _ _ _ _ h) ?_
        rotate_left
        · intro W hSW
          simp only [glA, glB, glC]
          (try dsimp only at hSW)
          go_simp
          with_reducible rfl
        (try simp only [glA, glB, glC, Act.put, glD, glE, glF])
        refine wpAnyJ_take 16 (v := ?_) (by first | exact hF | exact wideFn) (HS.out _ HA1.out.below) rfl (by kernel_rfl) (by kernel_rfl) (by kernel_rfl) (by kernel_rfl) rfl ?_ (by first | exact fun _ _ _ h => h | exact fun _ _ _ h => hQ2 _ _ _ _ _ h) ?_
        rotate_left
        · intro W hSW
          simp only [glA, glB, glC]
          (try dsimp only at hSW)
          go_simp
          with_reducible rfl
        (try simp only [glA, glB, glC, Act.put, glD, glE, glF])
        by_cases hy0 : 0 ≤ y
        · have hyx : y = (x : Int) := z4 hy0
          subst hyx
          refine wpAnyJ_take 17 (v := ?_) (by first | exact hF | exact wideFn) (HS.out _ HA1.out.below) rfl (by kernel_rfl) (by kernel_rfl) (by kernel_rfl) (by kernel_rfl) rfl ?_ (by first | exact fun _ _ _ h => h | exact fun _ _ _ h => hQ2 _ _ _ _ _ h) ?_
          rotate_left
          · intro W hSW
            simp only [glA, glB, glC]
            (try dsimp only at hSW)
            go_simp
            with_reducible rfl
          (try simp only [glA, glB, glC, Act.put, glD, glE, glF])
          refine wpAnyJ_take 18 (v := ?_) (by first | exact hF | exact wideFn) (HS.out _ HA1.out.below) rfl (by kernel_rfl) (by kernel_rfl) (by kernel_rfl) (by kernel_rfl) rfl ?_ (by first | exact fun _ _ _ h => h | exact fun _ _ _ h => hQ2 _ _ _ _ _ h) ?_
          rotate_left
          · intro W hSW
            simp only [glA, glB, glC]
            (try dsimp only at hSW)
            go_simp
            with_reducible rfl
          (try simp only [glA, glB, glC, Act.put, glD, glE, glF])
          refine wpAnyJ_take 19 (v := ?_) (by first | exact hF | exact wideFn) (HS.out _ HA1.out.below) rfl (by kernel_rfl) (by kernel_rfl) (by kernel_rfl) (by kernel_rfl) rfl ?_ (by first | exact fun _ _ _ h => h | exact fun _ _ _ h => hQ2 _ _ _ _ _ h) ?_
          rotate_left
          · intro W hSW
            simp only [glA, glB, glC]
            (try dsimp only at hSW)
            go_simp
            with_reducible rfl
          (try simp only [glA, glB, glC, Act.put, glD, glE, glF])
          refine wpAnyJ_take 20 (v := ?_) (by first | exact hF | exact wideFn) (HS.out _ HA1.out.below) rfl (by kernel_rfl) (by kernel_rfl) (by kernel_rfl) (by kernel_rfl) rfl ?_ (by first | exact fun _ _ _ h => h | exact fun _ _ _ h => hQ2 _ _ _ _ _ h) ?_
          rotate_left
          · intro W hSW
            simp only [glA, glB, glC]
            (try dsimp only at hSW)
            go_simp
            with_reducible rfl
          (try simp only [glA, glB, glC, Act.put, glD, glE, glF])
          refine wpAnyJ_take 21 (v := ?_) (by first | exact hF | exact wideFn) (HS.out _ HA1.out.below) rfl (by kernel_rfl) (by kernel_rfl) (by kernel_rfl) (by kernel_rfl) rfl ?_ (by first | exact fun _ _ _ h => h | exact fun _ _ _ h => hQ2 _ _ _ _ _ h) ?_
          rotate_left
          · intro W hSW
            simp only [glA, glB, glC]
            (try dsimp only at hSW)
            go_simp
            with_reducible rfl
          (try simp only [glA, glB, glC, Act.put, glD, glE, glF])
          refine wpAnyJ_take 22 (v := ?_) (by first | exact hF | exact wideFn) (HS.out _ HA1.out.below) rfl (by kernel_rfl) (by kernel_rfl) (by kernel_rfl) (by kernel_rfl) rfl ?_ (by first | exact fun _ _ _ h => h | exact fun _ _ _ h => hQ2 _ _ _ _ _ h) ?_
          rotate_left
          · intro W hSW
            simp only [glA, glB, glC]
            (try dsimp only at hSW)
            go_simp
            with_reducible rfl
          (try simp only [glA, glB, glC, Act.put, glD, glE, glF])
          refine wpAnyJ_take 23 (v := ?_) (by first | exact hF | exact wideFn) (HS.out _ HA1.out.below) rfl (by kernel_rfl) (by kernel_rfl) (by kernel_rfl) (by kernel_rfl) rfl ?_ (by first | exact fun _ _ _ h => h | exact fun _ _ _ h => hQ2 _ _ _ _ _ h) ?_
          rotate_left
          · intro W hSW
            simp only [glA, glB, glC]
            (try dsimp only at hSW)
            go_simp
            with_reducible rfl
          (try simp only [glA, glB, glC, Act.put, glD, glE, glF])
          refine wpAnyJ_take 24 (v := ?_) (by first | exact hF | exact wideFn) (HS.out _ HA1.out.below) rfl (by kernel_rfl) (by kernel_rfl) (by kernel_rfl) (by kernel_rfl) rfl ?_ (by first | exact fun _ _ _ h => h | exact fun _ _ _ h => hQ2 _ _ _ _ _ h) ?_
          rotate_left
          · intro W hSW
            simp only [glA, glB, glC]
            (try dsimp only at hSW)
            go_simp
            with_reducible rfl
          (try simp only [glA, glB, glC, Act.put, glD, glE, glF])
          refine wpAnyJ_take 25 (v := ?_) (by first | exact hF | exact wideFn) (HS.out _ HA1.out.below) rfl (by kernel_rfl) (by kernel_rfl) (by kernel_rfl) (by kernel_rfl) rfl ?_ (by first | exact fun _ _ _ h => h | exact fun _ _ _ h => hQ2 _ _ _ _ _ h) ?_
          rotate_left
          · intro W hSW
            simp only [glA, glB, glC]
            (try dsimp only at hSW)
            go_simp
            with_reducible rfl
          (try simp only [glA, glB, glC, Act.put, glD, glE, glF])
          refine wpAnyJ_take 26 (v := ?_) (by first | exact hF | exact wideFn) (HS.out _ HA1.out.below) rfl (by kernel_rfl) (by kernel_rfl) (by kernel_rfl) (by kernel_rfl) rfl ?_ (by first | exact fun _ _ _ h => h | exact fun _ _ _ h => hQ2 _ _ _ _ _ h) ?_
          rotate_left
          · intro W hSW
            simp only [glA, glB, glC]
            (try dsimp only at hSW)
            go_simp
            with_reducible rfl
          (try simp only [glA, glB, glC, Act.put, glD, glE, glF])
          refine wpAnyJ_take 27 (v := ?_) (by first | exact hF | exact wideFn) (HS.out _ HA1.out.below) rfl (by kernel_rfl) (by kernel_rfl) (by kernel_rfl) (by kernel_rfl) rfl ?_ (by first | exact fun _ _ _ h => h | exact fun _ _ _ h => hQ2 _ _ _ _ _ h) ?_
          rotate_left
          · intro W hSW
            simp only [glA, glB, glC]
            (try dsimp only at hSW)
            go_simp
            with_reducible rfl
          (try simp only [glA, glB, glC, Act.put, glD, glE, glF])
          refine wpAnyJ_take 28 (v := ?_) (by first | exact hF | exact wideFn) (HS.out _ HA1.out.below) rfl (by kernel_rfl) (by kernel_rfl) (by kernel_rfl) (by kernel_rfl) rfl ?_ (by first | exact fun _ _ _ h => h | exact fun _ _ _ h => hQ2 _ _ _ _ _ h) ?_
          rotate_left
          · intro W hSW
            simp only [glA, glB, glC]
            (try dsimp only at hSW)
            go_simp
            with_reducible rfl
          (try simp only [glA, glB, glC, Act.put, glD, glE, glF])
          refine wpAnyJ_take 29 (v := ?_) (by first | exact hF | exact wideFn) (HS.out _ HA1.out.below) rfl (by kernel_rfl) (by kernel_rfl) (by kernel_rfl) (by kernel_rfl) rfl ?_ (by first | exact fun _ _ _ h => h | exact fun _ _ _ h => hQ2 _ _ _ _ _ h) ?_
          rotate_left
          · intro W hSW
            simp only [glA, glB, glC]
            (try dsimp only at hSW)
            go_simp
            with_reducible rfl
          (try simp only [glA, glB, glC, Act.put, glD, glE, glF])
          refine wpAnyJ_take 30 (v := ?_) (by first | exact hF | exact wideFn) (HS.out _ HA1.out.below) rfl (by kernel_rfl) (by kernel_rfl) (by kernel_rfl) (by kernel_rfl) rfl ?_ (by first | exact fun _ _ _ h => h | exact fun _ _ _ h => hQ2 _ _ _ _ _ h) ?_
          rotate_left
          · intro W hSW
            simp only [glA, glB, glC]
            (try dsimp only at hSW)
            go_simp
            with_reducible rfl
          (try simp only [glA, glB, glC, Act.put, glD, glE, glF])
          refine wpAnyJ_take 31 (v := ?_) (by first | exact hF | exact wideFn) (HS.out _ HA1.out.below) rfl (by kernel_rfl) (by kernel_rfl) (by kernel_rfl) (by kernel_rfl) rfl ?_ (by first | exact fun _ _ _ h => h | exact fun _ _ _ h => hQ2 _ _ _ _ _ h) ?_
          rotate_left
          · intro W hSW
            simp only [glA, glB, glC]
            (try dsimp only at hSW)
            go_simp
            with_reducible rfl
          (try simp only [glA, glB, glC, Act.put, glD, glE, glF])
          by_cases hk0 : k = 0
          · have kz : ¬ 0 < k := by omega
            clear hk0
            refine wpAnyJ_take 32 (v := ?_) (by first | exact hF | exact wideFn) (HS.out _ HA1.out.below) rfl (by kernel_rfl) (by kernel_rfl) (by kernel_rfl) (by kernel_rfl) rfl ?_ (by first | exact fun _ _ _ h => h | exact fun _ _ _ h => hQ2 _ _ _ _ _ h) ?_
            rotate_left
            · intro W hSW
              simp only [glA, glB, glC]
              (try dsimp only at hSW)
              go_simp
              with_reducible rfl
            (try simp only [glA, glB, glC, Act.put, glD, glE, glF])
            refine wpAnyJ_take 33 (v := ?_) (by first | exact hF | exact wideFn) (HS.out _ HA1.out.below) rfl (by kernel_rfl) (by kernel_rfl) (by kernel_rfl) (by kernel_rfl) rfl ?_ (by first | exact fun _ _ _ h => h | exact fun _ _ _ h => hQ2 _ _ _ _ _ h) ?_
            rotate_left
            · intro W hSW
              simp only [glA, glB, glC]
              (try dsimp only at hSW)
              go_simp
              with_reducible rfl
            (try simp only [glA, glB, glC, Act.put, glD, glE, glF])
            refine wpAnyJ_skip 34 (by first | exact hF | exact wideFn) (HS.out _ HA1.out.below) rfl (by kernel_rfl) (by kernel_rfl) (by kernel_rfl) (by kernel_rfl) rfl (by first | exact fun _ _ _ h => h | exact fun _ _ _ h => hQ2 _ _ _ _ _ h) ?_
            (try simp only [glA, glB, glC, Act.put, glD, glE, glF])
            refine wpAnyJ_skip 35 (by first | exact hF | exact wideFn) (HS.out _ HA1.out.below) rfl (by kernel_rfl) (by kernel_rfl) (by kernel_rfl) (by kernel_rfl) rfl (by first | exact fun _ _ _ h => h | exact fun _ _ _ h => hQ2 _ _ _ _ _ h) ?_
            (try simp only [glA, glB, glC, Act.put, glD, glE, glF])
            refine wpAnyJ_skip 36 (by first | exact hF | exact wideFn) (HS.out _ HA1.out.below) rfl (by kernel_rfl) (by kernel_rfl) (by kernel_rfl) (by kernel_rfl) rfl (by first | exact fun _ _ _ h => h | exact fun _ _ _ h => hQ2 _ _ _ _ _ h) ?_
            (try simp only [glA, glB, glC, Act.put, glD, glE, glF])
            refine wpAnyJ_skip 37 (by first | exact hF | exact wideFn) (HS.out _ HA1.out.below) rfl (by kernel_rfl) (by kernel_rfl) (by kernel_rfl) (by kernel_rfl) rfl (by first | exact fun _ _ _ h => h | exact fun _ _ _ h => hQ2 _ _ _ _ _ h) ?_
            (try simp only [glA, glB, glC, Act.put, glD, glE, glF])
            refine wpAnyJ_skip 38 (by first | exact hF | exact wideFn) (HS.out _ HA1.out.below) rfl (by kernel_rfl) (by kernel_rfl) (by kernel_rfl) (by kernel_rfl) rfl (by first | exact fun _ _ _ h => h | exact fun _ _ _ h => hQ2 _ _ _ _ _ h) ?_
            (try simp only [glA, glB, glC, Act.put, glD, glE, glF])
            refine wpAnyJ_skip 39 (by first | exact hF | exact wideFn) (HS.out _ HA1.out.below) rfl (by kernel_rfl) (by kernel_rfl) (by kernel_rfl) (by kernel_rfl) rfl (by first | exact fun _ _ _ h => h | exact fun _ _ _ h => hQ2 _ _ _ _ _ h) ?_
            (try simp only [glA, glB, glC, Act.put, glD, glE, glF])
            refine wpAnyJ_skip 40 (by first | exact hF | exact wideFn) (HS.out _ HA1.out.below) rfl (by kernel_rfl) (by kernel_rfl) (by kernel_rfl) (by kernel_rfl) rfl (by first | exact fun _ _ _ h => h | exact fun _ _ _ h => hQ2 _ _ _ _ _ h) ?_
            (try simp only [glA, glB, glC, Act.put, glD, glE, glF])
            refine wpAnyJ_skip 41 (by first | exact hF | exact wideFn) (HS.out _ HA1.out.below) rfl (by kernel_rfl) (by kernel_rfl) (by kernel_rfl) (by kernel_rfl) rfl (by first | exact fun _ _ _ h => h | exact fun _ _ _ h => hQ2 _ _ _ _ _ h) ?_
            (try simp only [glA, glB, glC, Act.put, glD, glE, glF])
            refine wpAnyJ_skip 42 (by first | exact hF | exact wideFn) (HS.out _ HA1.out.below) rfl (by kernel_rfl) (by kernel_rfl) (by kernel_rfl) (by kernel_rfl) rfl (by first | exact fun _ _ _ h => h | exact fun _ _ _ h => hQ2 _ _ _ _ _ h) ?_
            (try simp only [glA, glB, glC, Act.put, glD, glE, glF])
            refine wpAnyJ_skip 43 (by first | exact hF | exact wideFn) (HS.out _ HA1.out.below) rfl (by kernel_rfl) (by kernel_rfl) (by kernel_rfl) (by kernel_rfl) rfl (by first | exact fun _ _ _ h => h | exact fun _ _ _ h => hQ2 _ _ _ _ _ h) ?_
            (try simp only [glA, glB, glC, Act.put, glD, glE, glF])
            refine wpAnyJ_skip 44 (by first | exact hF | exact wideFn) (HS.out _ HA1.out.below) rfl (by kernel_rfl) (by kernel_rfl) (by kernel_rfl) (by kernel_rfl) rfl (by first | exact fun _ _ _ h => h | exact fun _ _ _ h => hQ2 _ _ _ _ _ h) ?_
            (try simp only [glA, glB, glC, Act.put, glD, glE, glF])
            refine wpAnyJ_skip 45 (by first | exact hF | exact wideFn) (HS.out _ HA1.out.below) rfl (by kernel_rfl) (by kernel_rfl) (by kernel_rfl) (by kernel_rfl) rfl (by first | exact fun _ _ _ h => h | exact fun _ _ _ h => hQ2 _ _ _ _ _ h) ?_
            (try simp only [glA, glB, glC, Act.put, glD, glE, glF])
            refine wpAnyJ_skip 46 (by first | exact hF | exact wideFn) (HS.out _ HA1.out.below) rfl (by kernel_rfl) (by kernel_rfl) (by kernel_rfl) (by kernel_rfl) rfl (by first | exact fun _ _ _ h => h | exact fun _ _ _ h => hQ2 _ _ _ _ _ h) ?_
            (try simp only [glA, glB, glC, Act.put, glD, glE, glF])
            refine wpAnyJ_take 47 (v := ?_) (by first | exact hF | exact wideFn) (HS.out _ HA1.out.below) rfl (by kernel_rfl) (by kernel_rfl) (by kernel_rfl) (by kernel_rfl) rfl ?_ (by first | exact fun _ _ _ h => h | exact fun _ _ _ h => hQ2 _ _ _ _ _ h) ?_
            rotate_left
            · intro W hSW
              simp only [glA, glB, glC]
              (try dsimp only at hSW)
              go_simp
              with_reducible rfl
            (try simp only [glA, glB, glC, Act.put, glD, glE, glF])
            refine wpAnyJ_take 48 (v := ?_) (by first | exact hF | exact wideFn) (HS.out _ HA1.out.below) rfl (by kernel_rfl) (by kernel_rfl) (by kernel_rfl) (by kernel_rfl) rfl ?_ (by first | exact fun _ _ _ h => h | exact fun _ _ _ h => hQ2 _ _ _ _ _ h) ?_
            rotate_left
            · intro W hSW
              simp only [glA, glB, glC]
              (try dsimp only at hSW)
              go_simp
              with_reducible rfl
            (try simp only [glA, glB, glC, Act.put, glD, glE, glF])
            refine wpAnyJ_done (by kernel_rfl) ?_
            go_wp2_with fail
            go_meet
            exact ⟨rfl, HWD.out⟩
          · have kp : 0 < k := by omega
            clear hk0
            obtain ⟨q, rfl⟩ : ∃ q : Nat, z = (q : Int) := ⟨z.toNat, by omega⟩
            have q2 : ¬ k ≤ q := by omega
            have q3 : ¬ (q : Int) < 0 := by omega
            refine wpAnyJ_take 32 (v := ?_) (by first | exact hF | exact wideFn) (HS.out _ HA1.out.below) rfl (by kernel_rfl) (by kernel_rfl) (by kernel_rfl) (by kernel_rfl) rfl ?_ (by first | exact fun _ _ _ h => h | exact fun _ _ _ h => hQ2 _ _ _ _ _ h) ?_
            rotate_left
            · intro W hSW
              simp only [glA, glB, glC]
              (try dsimp only at hSW)
              go_simp
              with_reducible rfl
            (try simp only [glA, glB, glC, Act.put, glD, glE, glF])
            refine wpAnyJ_take 33 (v := ?_) (by first | exact hF | exact wideFn) (HS.out _ HA1.out.below) rfl (by kernel_rfl) (by kernel_rfl) (by kernel_rfl) (by kernel_rfl) rfl ?_ (by first | exact fun _ _ _ h => h | exact fun _ _ _ h => hQ2 _ _ _ _ _ h) ?_
            rotate_left
            · intro W hSW
              simp only [glA, glB, glC]
              (try dsimp only at hSW)
              go_simp
              with_reducible rfl
            (try simp only [glA, glB, glC, Act.put, glD, glE, glF])
            refine wpAnyJ_take 34 (v := ?_) (by first | exact hF | exact wideFn) (HS.out _ HA1.out.below) rfl (by kernel_rfl) (by kernel_rfl) (by kernel_rfl) (by kernel_rfl) rfl ?_ (by first | exact fun _ _ _ h => h | exact fun _ _ _ h => hQ2 _ _ _ _ _ h) ?_
            rotate_left
            · intro W hSW
              simp only [glA, glB, glC]
              (try dsimp only at hSW)
              go_simp
              with_reducible rfl
            (try simp only [glA, glB, glC, Act.put, glD, glE, glF])
            refine wpAnyJ_take 35 (v := ?_) (by first | exact hF | exact wideFn) (HS.out _ HA1.out.below) rfl (by kernel_rfl) (by kernel_rfl) (by kernel_rfl) (by kernel_rfl) rfl ?_ (by first | exact fun _ _ _ h => h | exact fun _ _ _ h => hQ2 _ _ _ _ _ h) ?_
            rotate_left
            · intro W hSW
              simp only [glA, glB, glC]
              (try dsimp only at hSW)
              go_simp
              with_reducible rfl
            (try simp only [glA, glB, glC, Act.put, glD, glE, glF])
            refine wpAnyJ_take 36 (v := ?_) (by first | exact hF | exact wideFn) (HS.out _ HA1.out.below) rfl (by kernel_rfl) (by kernel_rfl) (by kernel_rfl) (by kernel_rfl) rfl ?_ (by first | exact fun _ _ _ h => h | exact fun _ _ _ h => hQ2 _ _ _ _ _ h) ?_
            rotate_left
            · intro W hSW
              simp only [glA, glB, glC]
              (try dsimp only at hSW)
              go_simp
              with_reducible rfl
            (try simp only [glA, glB, glC, Act.put, glD, glE, glF])
            refine wpAnyJ_take 37 (v := ?_) (by first | exact hF | exact wideFn) (HS.out _ HA1.out.below) rfl (by kernel_rfl) (by kernel_rfl) (by kernel_rfl) (by kernel_rfl) rfl ?_ (by first | exact fun _ _ _ h => h | exact fun _ _ _ h => hQ2 _ _ _ _ _ h) ?_
            rotate_left
            · intro W hSW
              simp only [glA, glB, glC]
              (try dsimp only at hSW)
              go_simp
              with_reducible rfl
            (try simp only [glA, glB, glC, Act.put, glD, glE, glF])
            refine wpAnyJ_take 38 (v := ?_) (by first | exact hF | exact wideFn) (HS.out _ HA1.out.below) rfl (by kernel_rfl) (by kernel_rfl) (by kernel_rfl) (by kernel_rfl) rfl ?_ (by first | exact fun _ _ _ h => h | exact fun _ _ _ h => hQ2 _ _ _ _ _ h) ?_
            rotate_left
            · intro W hSW
              simp only [glA, glB, glC]
              (try dsimp only at hSW)
              go_simp
              with_reducible rfl
            (try simp only [glA, glB, glC, Act.put, glD, glE, glF])
            refine wpAnyJ_take 39 (v := ?_) (by first | exact hF | exact wideFn) (HS.out _ HA1.out.below) rfl (by kernel_rfl) (by kernel_rfl) (by kernel_rfl) (by kernel_rfl) rfl ?_ (by first | exact fun _ _ _ h => h | exact fun _ _ _ h => hQ2 _ _ _ _ _ h) ?_
            rotate_left
            · intro W hSW
              simp only [glA, glB, glC]
              (try dsimp only at hSW)
              go_simp
              with_reducible rfl
            (try simp only [glA, glB, glC, Act.put, glD, glE, glF])
            refine wpAnyJ_take 40 (v := ?_) (by first | exact hF | exact wideFn) (HS.out _ HA1.out.below) rfl (by kernel_rfl) (by kernel_rfl) (by kernel_rfl) (by kernel_rfl) rfl ?_ (by first | exact fun _ _ _ h => h | exact fun _ _ _ h => hQ2 _ _ _ _ _ h) ?_
            rotate_left
            · intro W hSW
              simp only [glA, glB, glC]
              (try dsimp only at hSW)
              go_simp
              with_reducible rfl
            (try simp only [glA, glB, glC, Act.put, glD, glE, glF])
            refine wpAnyJ_take 41 (v := ?_) (by first | exact hF | exact wideFn) (HS.out _ HA1.out.below) rfl (by kernel_rfl) (by kernel_rfl) (by kernel_rfl) (by kernel_rfl) rfl ?_ (by first | exact fun _ _ _ h => h | exact fun _ _ _ h => hQ2 _ _ _ _ _ h) ?_
            rotate_left
            · intro W hSW
              simp only [glA, glB, glC]
              (try dsimp only at hSW)
              go_simp
              with_reducible rfl
            (try simp only [glA, glB, glC, Act.put, glD, glE, glF])
            refine wpAnyJ_take 42 (v := ?_) (by first | exact hF | exact wideFn) (HS.out _ HA1.out.below) rfl (by kernel_rfl) (by kernel_rfl) (by kernel_rfl) (by kernel_rfl) rfl ?_ (by first | exact fun _ _ _ h => h | exact fun _ _ _ h => hQ2 _ _ _ _ _ h) ?_
            rotate_left
            · intro W hSW
              simp only [glA, glB, glC]
              (try dsimp only at hSW)
              go_simp
              with_reducible rfl
            (try simp only [glA, glB, glC, Act.put, glD, glE, glF])
            refine wpAnyJ_take 43 (v := ?_) (by first | exact hF | exact wideFn) (HS.out _ HA1.out.below) rfl (by kernel_rfl) (by kernel_rfl) (by kernel_rfl) (by kernel_rfl) rfl ?_ (by first | exact fun _ _ _ h => h | exact fun _ _ _ h => hQ2 _ _ _ _ _ h) ?_
            rotate_left
            · intro W hSW
              simp only [glA, glB, glC]
              (try dsimp only at hSW)
              go_simp
              with_reducible rfl
            (try simp only [glA, glB, glC, Act.put, glD, glE, glF])
            refine wpAnyJ_take 44 (v := ?_) (by first | exact hF | exact wideFn) (HS.out _ HA1.out.below) rfl (by kernel_rfl) (by kernel_rfl) (by kernel_rfl) (by kernel_rfl) rfl ?_ (by first | exact fun _ _ _ h => h | exact fun _ _ _ h => hQ2 _ _ _ _ _ h) ?_
            rotate_left
            · intro W hSW
              simp only [glA, glB, glC]
              (try dsimp only at hSW)
              go_simp
              with_reducible rfl
            (try simp only [glA, glB, glC, Act.put, glD, glE, glF])
            refine wpAnyJ_take 45 (v := ?_) (by first | exact hF | exact wideFn) (HS.out _ HA1.out.below) rfl (by kernel_rfl) (by kernel_rfl) (by kernel_rfl) (by kernel_rfl) rfl ?_ (by first | exact fun _ _ _ h => h | exact fun _ _ _ h => hQ2 _ _ _ _ _ h) ?_
            rotate_left
            · intro W hSW
              simp only [glA, glB, glC]
              (try dsimp only at hSW)
              go_simp
              with_reducible rfl
            (try simp only [glA, glB, glC, Act.put, glD, glE, glF])
            refine wpAnyJ_take 46 (v := ?_) (by first | exact hF | exact wideFn) (HS.out _ HA1.out.below) rfl (by kernel_rfl) (by kernel_rfl) (by kernel_rfl) (by kernel_rfl) rfl ?_ (by first | exact fun _ _ _ h => h | exact fun _ _ _ h => hQ2 _ _ _ _ _ h) ?_
            rotate_left
            · intro W hSW
              simp only [glA, glB, glC]
              (try dsimp only at hSW)
              go_simp
              with_reducible rfl
            (try simp only [glA, glB, glC, Act.put, glD, glE, glF])
            refine wpAnyJ_take 47 (v := ?_) (by first | exact hF | exact wideFn) (HS.out _ HA1.out.below) rfl (by kernel_rfl) (by kernel_rfl) (by kernel_rfl) (by kernel_rfl) rfl ?_ (by first | exact fun _ _ _ h => h | exact fun _ _ _ h => hQ2 _ _ _ _ _ h) ?_
            rotate_left
            · intro W hSW
              simp only [glA, glB, glC]
              (try dsimp only at hSW)
              go_simp
              with_reducible rfl
            (try simp only [glA, glB, glC, Act.put, glD, glE, glF])
            refine wpAnyJ_take 48 (v := ?_) (by first | exact hF | exact wideFn) (HS.out _ HA1.out.below) rfl (by kernel_rfl) (by kernel_rfl) (by kernel_rfl) (by kernel_rfl) rfl ?_ (by first | exact fun _ _ _ h => h | exact fun _ _ _ h => hQ2 _ _ _ _ _ h) ?_
            rotate_left
            · intro W hSW
              simp only [glA, glB, glC]
              (try dsimp only at hSW)
              go_simp
              with_reducible rfl
            (try simp only [glA, glB, glC, Act.put, glD, glE, glF])
            refine wpAnyJ_done (by kernel_rfl) ?_
            go_wp2_with fail
            go_meet
            exact ⟨rfl, HWD.out⟩
        · have hy1 := hy0
          refine wpAnyJ_take 17 (v := ?_) (by first | exact hF | exact wideFn) (HS.out _ HA1.out.below) rfl (by kernel_rfl) (by kernel_rfl) (by kernel_rfl) (by kernel_rfl) rfl ?_ (by first | exact fun _ _ _ h => h | exact fun _ _ _ h => hQ2 _ _ _ _ _ h) ?_
          rotate_left
          · intro W hSW
            simp only [glA, glB, glC]
            (try dsimp only at hSW)
            go_simp
            with_reducible rfl
          (try simp only [glA, glB, glC, Act.put, glD, glE, glF])
          refine wpAnyJ_take 18 (v := ?_) (by first | exact hF | exact wideFn) (HS.out _ HA1.out.below) rfl (by kernel_rfl) (by kernel_rfl) (by kernel_rfl) (by kernel_rfl) rfl ?_ (by first | exact fun _ _ _ h => h | exact fun _ _ _ h => hQ2 _ _ _ _ _ h) ?_
          rotate_left
          · intro W hSW
            simp only [glA, glB, glC]
            (try dsimp only at hSW)
            go_simp
            with_reducible rfl
          (try simp only [glA, glB, glC, Act.put, glD, glE, glF])
          refine wpAnyJ_skip 19 (by first | exact hF | exact wideFn) (HS.out _ HA1.out.below) rfl (by kernel_rfl) (by kernel_rfl) (by kernel_rfl) (by kernel_rfl) rfl (by first | exact fun _ _ _ h => h | exact fun _ _ _ h => hQ2 _ _ _ _ _ h) ?_
          (try simp only [glA, glB, glC, Act.put, glD, glE, glF])
          refine wpAnyJ_skip 20 (by first | exact hF | exact wideFn) (HS.out _ HA1.out.below) rfl (by kernel_rfl) (by kernel_rfl) (by kernel_rfl) (by kernel_rfl) rfl (by first | exact fun _ _ _ h => h | exact fun _ _ _ h => hQ2 _ _ _ _ _ h) ?_
          (try simp only [glA, glB, glC, Act.put, glD, glE, glF])
          refine wpAnyJ_skip 21 (by first | exact hF | exact wideFn) (HS.out _ HA1.out.below) rfl (by kernel_rfl) (by kernel_rfl) (by kernel_rfl) (by kernel_rfl) rfl (by first | exact fun _ _ _ h => h | exact fun _ _ _ h => hQ2 _ _ _ _ _ h) ?_
          (try simp only [glA, glB, glC, Act.put, glD, glE, glF])
          refine wpAnyJ_skip 22 (by first | exact hF | exact wideFn) (HS.out _ HA1.out.below) rfl (by kernel_rfl) (by kernel_rfl) (by kernel_rfl) (by kernel_rfl) rfl (by first | exact fun _ _ _ h => h | exact fun _ _ _ h => hQ2 _ _ _ _ _ h) ?_
          (try simp only [glA, glB, glC, Act.put, glD, glE, glF])
          refine wpAnyJ_skip 23 (by first | exact hF | exact wideFn) (HS.out _ HA1.out.below) rfl (by kernel_rfl) (by kernel_rfl) (by kernel_rfl) (by kernel_rfl) rfl (by first | exact fun _ _ _ h => h | exact fun _ _ _ h => hQ2 _ _ _ _ _ h) ?_
          (try simp only [glA, glB, glC, Act.put, glD, glE, glF])
          refine wpAnyJ_skip 24 (by first | exact hF | exact wideFn) (HS.out _ HA1.out.below) rfl (by kernel_rfl) (by kernel_rfl) (by kernel_rfl) (by kernel_rfl) rfl (by first | exact fun _ _ _ h => h | exact fun _ _ _ h => hQ2 _ _ _ _ _ h) ?_
          (try simp only [glA, glB, glC, Act.put, glD, glE, glF])
          refine wpAnyJ_skip 25 (by first | exact hF | exact wideFn) (HS.out _ HA1.out.below) rfl (by kernel_rfl) (by kernel_rfl) (by kernel_rfl) (by kernel_rfl) rfl (by first | exact fun _ _ _ h => h | exact fun _ _ _ h => hQ2 _ _ _ _ _ h) ?_
          (try simp only [glA, glB, glC, Act.put, glD, glE, glF])
          refine wpAnyJ_skip 26 (by first | exact hF | exact wideFn) (HS.out _ HA1.out.below) rfl (by kernel_rfl) (by kernel_rfl) (by kernel_rfl) (by kernel_rfl) rfl (by first | exact fun _ _ _ h => h | exact fun _ _ _ h => hQ2 _ _ _ _ _ h) ?_
          (try simp only [glA, glB, glC, Act.put, glD, glE, glF])
          refine wpAnyJ_skip 27 (by first | exact hF | exact wideFn) (HS.out _ HA1.out.below) rfl (by kernel_rfl) (by kernel_rfl) (by kernel_rfl) (by kernel_rfl) rfl (by first | exact fun _ _ _ h => h | exact fun _ _ _ h => hQ2 _ _ _ _ _ h) ?_
          (try simp only [glA, glB, glC, Act.put, glD, glE, glF])
          refine wpAnyJ_take 28 (v := ?_) (by first | exact hF | exact wideFn) (HS.out _ HA1.out.below) rfl (by kernel_rfl) (by kernel_rfl) (by kernel_rfl) (by kernel_rfl) rfl ?_ (by first | exact fun _ _ _ h => h | exact fun _ _ _ h => hQ2 _ _ _ _ _ h) ?_
          rotate_left
          · intro W hSW
            simp only [glA, glB, glC]
            (try dsimp only at hSW)
            go_simp
            with_reducible rfl
          (try simp only [glA, glB, glC, Act.put, glD, glE, glF])
          refine wpAnyJ_take 29 (v := ?_) (by first | exact hF | exact wideFn) (HS.out _ HA1.out.below) rfl (by kernel_rfl) (by kernel_rfl) (by kernel_rfl) (by kernel_rfl) rfl ?_ (by first | exact fun _ _ _ h => h | exact fun _ _ _ h => hQ2 _ _ _ _ _ h) ?_
          rotate_left
          · intro W hSW
            simp only [glA, glB, glC]
            (try dsimp only at hSW)
            go_simp
            with_reducible rfl
          (try simp only [glA, glB, glC, Act.put, glD, glE, glF])
          refine wpAnyJ_take 30 (v := ?_) (by first | exact hF | exact wideFn) (HS.out _ HA1.out.below) rfl (by kernel_rfl) (by kernel_rfl) (by kernel_rfl) (by kernel_rfl) rfl ?_ (by first | exact fun _ _ _ h => h | exact fun _ _ _ h => hQ2 _ _ _ _ _ h) ?_
          rotate_left
          · intro W hSW
            simp only [glA, glB, glC]
            (try dsimp only at hSW)
            go_simp
            with_reducible rfl
          (try simp only [glA, glB, glC, Act.put, glD, glE, glF])
          refine wpAnyJ_take 31 (v := ?_) (by first | exact hF | exact wideFn) (HS.out _ HA1.out.below) rfl (by kernel_rfl) (by kernel_rfl) (by kernel_rfl) (by kernel_rfl) rfl ?_ (by first | exact fun _ _ _ h => h | exact fun _ _ _ h => hQ2 _ _ _ _ _ h) ?_
          rotate_left
          · intro W hSW
            simp only [glA, glB, glC]
            (try dsimp only at hSW)
            go_simp
            with_reducible rfl
          (try simp only [glA, glB, glC, Act.put, glD, glE, glF])
          by_cases hk0 : k = 0
          · have kz : ¬ 0 < k := by omega
            clear hk0
            refine wpAnyJ_take 32 (v := ?_) (by first | exact hF | exact wideFn) (HS.out _ HA1.out.below) rfl (by kernel_rfl) (by kernel_rfl) (by kernel_rfl) (by kernel_rfl) rfl ?_ (by first | exact fun _ _ _ h => h | exact fun _ _ _ h => hQ2 _ _ _ _ _ h) ?_
            rotate_left
            · intro W hSW
              simp only [glA, glB, glC]
              (try dsimp only at hSW)
              go_simp
              with_reducible rfl
            (try simp only [glA, glB, glC, Act.put, glD, glE, glF])
            refine wpAnyJ_take 33 (v := ?_) (by first | exact hF | exact wideFn) (HS.out _ HA1.out.below) rfl (by kernel_rfl) (by kernel_rfl) (by kernel_rfl) (by kernel_rfl) rfl ?_ (by first | exact fun _ _ _ h => h | exact fun _ _ _ h => hQ2 _ _ _ _ _ h) ?_
            rotate_left
            · intro W hSW
              simp only [glA, glB, glC]
              (try dsimp only at hSW)
              go_simp
              with_reducible rfl
            (try simp only [glA, glB, glC, Act.put, glD, glE, glF])
            refine wpAnyJ_skip 34 (by first | exact hF | exact wideFn) (HS.out _ HA1.out.below) rfl (by kernel_rfl) (by kernel_rfl) (by kernel_rfl) (by kernel_rfl) rfl (by first | exact fun _ _ _ h => h | exact fun _ _ _ h => hQ2 _ _ _ _ _ h) ?_
            (try simp only [glA, glB, glC, Act.put, glD, glE, glF])
            refine wpAnyJ_skip 35 (by first | exact hF | exact wideFn) (HS.out _ HA1.out.below) rfl (by kernel_rfl) (by kernel_rfl) (by kernel_rfl) (by kernel_rfl) rfl (by first | exact fun _ _ _ h => h | exact fun _ _ _ h => hQ2 _ _ _ _ _ h) ?_
            (try simp only [glA, glB, glC, Act.put, glD, glE, glF])
            refine wpAnyJ_skip 36 (by first | exact hF | exact wideFn) (HS.out _ HA1.out.below) rfl (by kernel_rfl) (by kernel_rfl) (by kernel_rfl) (by kernel_rfl) rfl (by first | exact fun _ _ _ h => h | exact fun _ _ _ h => hQ2 _ _ _ _ _ h) ?_
            (try simp only [glA, glB, glC, Act.put, glD, glE, glF])
            refine wpAnyJ_skip 37 (by first | exact hF | exact wideFn) (HS.out _ HA1.out.below) rfl (by kernel_rfl) (by kernel_rfl) (by kernel_rfl) (by kernel_rfl) rfl (by first | exact fun _ _ _ h => h | exact fun _ _ _ h => hQ2 _ _ _ _ _ h) ?_
            (try simp only [glA, glB, glC, Act.put, glD, glE, glF])
            refine wpAnyJ_skip 38 (by first | exact hF | exact wideFn) (HS.out _ HA1.out.below) rfl (by kernel_rfl) (by kernel_rfl) (by kernel_rfl) (by kernel_rfl) rfl (by first | exact fun _ _ _ h => h | exact fun _ _ _ h => hQ2 _ _ _ _ _ h) ?_
            (try simp only [glA, glB, glC, Act.put, glD, glE, glF])
            refine wpAnyJ_skip 39 (by first | exact hF | exact wideFn) (HS.out _ HA1.out.below) rfl (by kernel_rfl) (by kernel_rfl) (by kernel_rfl) (by kernel_rfl) rfl (by first | exact fun _ _ _ h => h | exact fun _ _ _ h => hQ2 _ _ _ _ _ h) ?_
            (try simp only [glA, glB, glC, Act.put, glD, glE, glF])
            refine wpAnyJ_skip 40 (by first | exact hF | exact wideFn) (HS.out _ HA1.out.below) rfl (by kernel_rfl) (by kernel_rfl) (by kernel_rfl) (by kernel_rfl) rfl (by first | exact fun _ _ _ h => h | exact fun _ _ _ h => hQ2 _ _ _ _ _ h) ?_
            (try simp only [glA, glB, glC, Act.put, glD, glE, glF])
            refine wpAnyJ_skip 41 (by first | exact hF | exact wideFn) (HS.out _ HA1.out.below) rfl (by kernel_rfl) (by kernel_rfl) (by kernel_rfl) (by kernel_rfl) rfl (by first | exact fun _ _ _ h => h | exact fun _ _ _ h => hQ2 _ _ _ _ _ h) ?_
            (try simp only [glA, glB, glC, Act.put, glD, glE, glF])
            refine wpAnyJ_skip 42 (by first | exact hF | exact wideFn) (HS.out _ HA1.out.below) rfl (by kernel_rfl) (by kernel_rfl) (by kernel_rfl) (by kernel_rfl) rfl (by first | exact fun _ _ _ h => h | exact fun _ _ _ h => hQ2 _ _ _ _ _ h) ?_
            (try simp only [glA, glB, glC, Act.put, glD, glE, glF])
            refine wpAnyJ_skip 43 (by first | exact hF | exact wideFn) (HS.out _ HA1.out.below) rfl (by kernel_rfl) (by kernel_rfl) (by kernel_rfl) (by kernel_rfl) rfl (by first | exact fun _ _ _ h => h | exact fun _ _ _ h => hQ2 _ _ _ _ _ h) ?_
            (try simp only [glA, glB, glC, Act.put, glD, glE, glF])
            refine wpAnyJ_skip 44 (by first | exact hF | exact wideFn) (HS.out _ HA1.out.below) rfl (by kernel_rfl) (by kernel_rfl) (by kernel_rfl) (by kernel_rfl) rfl (by first | exact fun _ _ _ h => h | exact fun _ _ _ h => hQ2 _ _ _ _ _ h) ?_
            (try simp only [glA, glB, glC, Act.put, glD, glE, glF])
            refine wpAnyJ_skip 45 (by first | exact hF | exact wideFn) (HS.out _ HA1.out.below) rfl (by kernel_rfl) (by kernel_rfl) (by kernel_rfl) (by kernel_rfl) rfl (by first | exact fun _ _ _ h => h | exact fun _ _ _ h => hQ2 _ _ _ _ _ h) ?_
            (try simp only [glA, glB, glC, Act.put, glD, glE, glF])
            refine wpAnyJ_skip 46 (by first | exact hF | exact wideFn) (HS.out _ HA1.out.below) rfl (by kernel_rfl) (by kernel_rfl) (by kernel_rfl) (by kernel_rfl) rfl (by first | exact fun _ _ _ h => h | exact fun _ _ _ h => hQ2 _ _ _ _ _ h) ?_
            (try simp only [glA, glB, glC, Act.put, glD, glE, glF])
            refine wpAnyJ_take 47 (v := ?_) (by first | exact hF | exact wideFn) (HS.out _ HA1.out.below) rfl (by kernel_rfl) (by kernel_rfl) (by kernel_rfl) (by kernel_rfl) rfl ?_ (by first | exact fun _ _ _ h => h | exact fun _ _ _ h => hQ2 _ _ _ _ _ h) ?_
            rotate_left
            · intro W hSW
              simp only [glA, glB, glC]
              (try dsimp only at hSW)
              go_simp
              with_reducible rfl
            (try simp only [glA, glB, glC, Act.put, glD, glE, glF])
            refine wpAnyJ_take 48 (v := ?_) (by first | exact hF | exact wideFn) (HS.out _ HA1.out.below) rfl (by kernel_rfl) (by kernel_rfl) (by kernel_rfl) (by kernel_rfl) rfl ?_ (by first | exact fun _ _ _ h => h | exact fun _ _ _ h => hQ2 _ _ _ _ _ h) ?_
            rotate_left
            · intro W hSW
              simp only [glA, glB, glC]
              (try dsimp only at hSW)
              go_simp
              with_reducible rfl
            (try simp only [glA, glB, glC, Act.put, glD, glE, glF])
            refine wpAnyJ_done (by kernel_rfl) ?_
            go_wp2_with fail
            go_meet
            exact ⟨rfl, HWD.out⟩
          · have kp : 0 < k := by omega
            clear hk0
            obtain ⟨q, rfl⟩ : ∃ q : Nat, z = (q : Int) := ⟨z.toNat, by omega⟩
            have q2 : ¬ k ≤ q := by omega
            have q3 : ¬ (q : Int) < 0 := by omega
            refine wpAnyJ_take 32 (v := ?_) (by first | exact hF | exact wideFn) (HS.out _ HA1.out.below) rfl (by kernel_rfl) (by kernel_rfl) (by kernel_rfl) (by kernel_rfl) rfl ?_ (by first | exact fun _ _ _ h => h | exact fun _ _ _ h => hQ2 _ _ _ _ _ h) ?_
            rotate_left
            · intro W hSW
              simp only [glA, glB, glC]
              (try dsimp only at hSW)
              go_simp
              with_reducible rfl
            (try simp only [glA, glB, glC, Act.put, glD, glE, glF])
            refine wpAnyJ_take 33 (v := ?_) (by first | exact hF | exact wideFn) (HS.out _ HA1.out.below) rfl (by kernel_rfl) (by kernel_rfl) (by kernel_rfl) (by kernel_rfl) rfl ?_ (by first | exact fun _ _ _ h => h | exact fun _ _ _ h => hQ2 _ _ _ _ _ h) ?_
            rotate_left
            · intro W hSW
              simp only [glA, glB, glC]
              (try dsimp only at hSW)
              go_simp
              with_reducible rfl
            (try simp only [glA, glB, glC, Act.put, glD, glE, glF])
            refine wpAnyJ_take 34 (v := ?_) (by first | exact hF | exact wideFn) (HS.out _ HA1.out.below) rfl (by kernel_rfl) (by kernel_rfl) (by kernel_rfl) (by kernel_rfl) rfl ?_ (by first | exact fun _ _ _ h => h | exact fun _ _ _ h => hQ2 _ _ _ _ _ h) ?_
            rotate_left
            · intro W hSW
              simp only [glA, glB, glC]
              (try dsimp only at hSW)
              go_simp
              with_reducible rfl
            (try simp only [glA, glB, glC, Act.put, glD, glE, glF])
            refine wpAnyJ_take 35 (v := ?_) (by first | exact hF | exact wideFn) (HS.out _ HA1.out.below) rfl (by kernel_rfl) (by kernel_rfl) (by kernel_rfl) (by kernel_rfl) rfl ?_ (by first | exact fun _ _ _ h => h | exact fun _ _ _ h => hQ2 _ _ _ _ _ h) ?_
            rotate_left
            · intro W hSW
              simp only [glA, glB, glC]
              (try dsimp only at hSW)
              go_simp
              with_reducible rfl
            (try simp only [glA, glB, glC, Act.put, glD, glE, glF])
            refine wpAnyJ_take 36 (v := ?_) (by first | exact hF | exact wideFn) (HS.out _ HA1.out.below) rfl (by kernel_rfl) (by kernel_rfl) (by kernel_rfl) (by kernel_rfl) rfl ?_ (by first | exact fun _ _ _ h => h | exact fun _ _ _ h => hQ2 _ _ _ _ _ h) ?_
            rotate_left
            · intro W hSW
              simp only [glA, glB, glC]
              (try dsimp only at hSW)
              go_simp
              with_reducible rfl
            (try simp only [glA, glB, glC, Act.put, glD, glE, glF])
            refine wpAnyJ_take 37 (v := ?_) (by first | exact hF | exact wideFn) (HS.out _ HA1.out.below) rfl (by kernel_rfl) (by kernel_rfl) (by kernel_rfl) (by kernel_rfl) rfl ?_ (by first | exact fun _ _ _ h => h | exact fun _ _ _ h => hQ2 _ _ _ _ _ h) ?_
            rotate_left
            · intro W hSW
              simp only [glA, glB, glC]
              (try dsimp only at hSW)
              go_simp
              with_reducible rfl
            (try simp only [glA, glB, glC, Act.put, glD, glE, glF])
            refine wpAnyJ_take 38 (v := ?_) (by first | exact hF | exact wideFn) (HS.out _ HA1.out.below) rfl (by kernel_rfl) (by kernel_rfl) (by kernel_rfl) (by kernel_rfl) rfl ?_ (by first | exact fun _ _ _ h => h | exact fun _ _ _ h => hQ2 _ _ _ _ _ h) ?_
            rotate_left
            · intro W hSW
              simp only [glA, glB, glC]
              (try dsimp only at hSW)
              go_simp
              with_reducible rfl
            (try simp only [glA, glB, glC, Act.put, glD, glE, glF])
            refine wpAnyJ_take 39 (v := ?_) (by first | exact hF | exact wideFn) (HS.out _ HA1.out.below) rfl (by kernel_rfl) (by kernel_rfl) (by kernel_rfl) (by kernel_rfl) rfl ?_ (by first | exact fun _ _ _ h => h | exact fun _ _ _ h => hQ2 _ _ _ _ _ h) ?_
            rotate_left
            · intro W hSW
              simp only [glA, glB, glC]
              (try dsimp only at hSW)
              go_simp
              with_reducible rfl
            (try simp only [glA, glB, glC, Act.put, glD, glE, glF])
            refine wpAnyJ_take 40 (v := ?_) (by first | exact hF | exact wideFn) (HS.out _ HA1.out.below) rfl (by kernel_rfl) (by kernel_rfl) (by kernel_rfl) (by kernel_rfl) rfl ?_ (by first | exact fun _ _ _ h => h | exact fun _ _ _ h => hQ2 _ _ _ _ _ h) ?_
            rotate_left
            · intro W hSW
              simp only [glA, glB, glC]
              (try dsimp only at hSW)
              go_simp
              with_reducible rfl
            (try simp only [glA, glB, glC, Act.put, glD, glE, glF])
            refine wpAnyJ_take 41 (v := ?_) (by first | exact hF | exact wideFn) (HS.out _ HA1.out.below) rfl (by kernel_rfl) (by kernel_rfl) (by kernel_rfl) (by kernel_rfl) rfl ?_ (by first | exact fun _ _ _ h => h | exact fun _ _ _ h => hQ2 _ _ _ _ _ h) ?_
            rotate_left
            · intro W hSW
              simp only [glA, glB, glC]
              (try dsimp only at hSW)
              go_simp
              with_reducible rfl
            (try simp only [glA, glB, glC, Act.put, glD, glE, glF])
            refine wpAnyJ_take 42 (v := ?_) (by first | exact hF | exact wideFn) (HS.out _ HA1.out.below) rfl (by kernel_rfl) (by kernel_rfl) (by kernel_rfl) (by kernel_rfl) rfl ?_ (by first | exact fun _ _ _ h => h | exact fun _ _ _ h => hQ2 _ _ _ _ _ h) ?_
            rotate_left
            · intro W hSW
              simp only [glA, glB, glC]
              (try dsimp only at hSW)
              go_simp
              with_reducible rfl
            (try simp only [glA, glB, glC, Act.put, glD, glE, glF])
            refine wpAnyJ_take 43 (v := ?_) (by first | exact hF | exact wideFn) (HS.out _ HA1.out.below) rfl (by kernel_rfl) (by kernel_rfl) (by kernel_rfl) (by kernel_rfl) rfl ?_ (by first | exact fun _ _ _ h => h | exact fun _ _ _ h => hQ2 _ _ _ _ _ h) ?_
            rotate_left
            · intro W hSW
              simp only [glA, glB, glC]
              (try dsimp only at hSW)
              go_simp
              with_reducible rfl
            (try simp only [glA, glB, glC, Act.put, glD, glE, glF])
            refine wpAnyJ_take 44 (v := ?_) (by first | exact hF | exact wideFn) (HS.out _ HA1.out.below) rfl (by kernel_rfl) (by kernel_rfl) (by kernel_rfl) (by kernel_rfl) rfl ?_ (by first | exact fun _ _ _ h => h | exact fun _ _ _ h => hQ2 _ _ _ _ _ h) ?_
            rotate_left
            · intro W hSW
              simp only [glA, glB, glC]
              (try dsimp only at hSW)
              go_simp
              with_reducible rfl
            (try simp only [glA, glB, glC, Act.put, glD, glE, glF])
            refine wpAnyJ_take 45 (v := ?_) (by first | exact hF | exact wideFn) (HS.out _ HA1.out.below) rfl (by kernel_rfl) (by kernel_rfl) (by kernel_rfl) (by kernel_rfl) rfl ?_ (by first | exact fun _ _ _ h => h | exact fun _ _ _ h => hQ2 _ _ _ _ _ h) ?_
            rotate_left
            · intro W hSW
              simp only [glA, glB, glC]
              (try dsimp only at hSW)
              go_simp
              with_reducible rfl
            (try simp only [glA, glB, glC, Act.put, glD, glE, glF])
            refine wpAnyJ_take 46 (v := ?_) (by first | exact hF | exact wideFn) (HS.out _ HA1.out.below) rfl (by kernel_rfl) (by kernel_rfl) (by kernel_rfl) (by kernel_rfl) rfl ?_ (by first | exact fun _ _ _ h => h | exact fun _ _ _ h => hQ2 _ _ _ _ _ h) ?_
            rotate_left
            · intro W hSW
              simp only [glA, glB, glC]
              (try dsimp only at hSW)
              go_simp
              with_reducible rfl
            (try simp only [glA, glB, glC, Act.put, glD, glE, glF])
            refine wpAnyJ_take 47 (v := ?_) (by first | exact hF | exact wideFn) (HS.out _ HA1.out.below) rfl (by kernel_rfl) (by kernel_rfl) (by kernel_rfl) (by kernel_rfl) rfl ?_ (by first | exact fun _ _ _ h => h | exact fun _ _ _ h => hQ2 _ _ _ _ _ h) ?_
            rotate_left
            · intro W hSW
              simp only [glA, glB, glC]
              (try dsimp only at hSW)
              go_simp
              with_reducible rfl
            (try simp only [glA, glB, glC, Act.put, glD, glE, glF])
            refine wpAnyJ_take 48 (v := ?_) (by first | exact hF | exact wideFn) (HS.out _ HA1.out.below) rfl (by kernel_rfl) (by kernel_rfl) (by kernel_rfl) (by kernel_rfl) rfl ?_ (by first | exact fun _ _ _ h => h | exact fun _ _ _ h => hQ2 _ _ _ _ _ h) ?_
            rotate_left
            · intro W hSW
              simp only [glA, glB, glC]
              (try dsimp only at hSW)
              go_simp
              with_reducible rfl
            (try simp only [glA, glB, glC, Act.put, glD, glE, glF])
            refine wpAnyJ_done (by kernel_rfl) ?_
            go_wp2_with fail
            go_meet
            exact ⟨rfl, HWD.out⟩
        -- END2
      obtain ⟨rfl, rfl⟩ := hcut
      have HA1 := hide (HAR.out.ext (Below.refl _ _).drew)
      generalize wr.drew = wd at HA1 ⊢
      clear HAR
      go_upto_region 15 with fail
      go_cut [134] (fun v w' => v = .bool ch ∧ w' = wd.drew)
      case first =>
       as_aux_lemma =>
        -- BEGIN3
        have HB2 := hide (HA1.out.ext (Below.refl _ _).drew)
        by_cases hk0 : k = 0
        · have kz : ¬ 0 < k := by omega
          have hch : ch = false := by rw [← HCH.out]; exact decide_eq_false (by omega)
          subst hch
          clear hk0
          refine wp_region_J (fun W : World => (W.cell? ⟨pb, po + k, none⟩ = some (.int .i64 z) ∧ W.cell? ⟨rb, ro + k, none⟩ = some (.int .i64 y) ∧ W.cell? ⟨xb, xo + k, none⟩ = some (.int .i64 ((x : Nat) : Int)))) (by kernel_rfl) ?_
          generalize hwd : wd.drew = we at HB2 ⊢
          have HWD := hide hwd.symm
          clear HA1 hwd
          refine wpAnyJ_take 0 (v := ?_) (by first | exact hF | exact wideFn) (HS.out _ HB2.out.below) rfl (by kernel_rfl) (by kernel_rfl) (by kernel_rfl) (by kernel_rfl) rfl ?_ (by first | exact fun _ _ _ h => h | exact fun _ _ _ h => hQ2 _ _ _ _ _ h) ?_
          rotate_left
          · intro W hSW
            simp only [glA, glB, glC]
            (try dsimp only at hSW)
            go_simp
            with_reducible rfl
          (try simp only [glA, glB, glC, Act.put, glD, glE, glF])
          refine wpAnyJ_take 1 (v := ?_) (by first | exact hF | exact wideFn) (HS.out _ HB2.out.below) rfl (by kernel_rfl) (by kernel_rfl) (by kernel_rfl) (by kernel_rfl) rfl ?_ (by first | exact fun _ _ _ h => h | exact fun _ _ _ h => hQ2 _ _ _ _ _ h) ?_
          rotate_left
          · intro W hSW
            simp only [glA, glB, glC]
            (try dsimp only at hSW)
            go_simp
            with_reducible rfl
          (try simp only [glA, glB, glC, Act.put, glD, glE, glF])
          refine wpAnyJ_take 2 (v := ?_) (by first | exact hF | exact wideFn) (HS.out _ HB2.out.below) rfl (by kernel_rfl) (by kernel_rfl) (by kernel_rfl) (by kernel_rfl) rfl ?_ (by first | exact fun _ _ _ h => h | exact fun _ _ _ h => hQ2 _ _ _ _ _ h) ?_
          rotate_left
          · intro W hSW
            simp only [glA, glB, glC]
            (try dsimp only at hSW)
            go_simp
            with_reducible rfl
          (try simp only [glA, glB, glC, Act.put, glD, glE, glF])
          refine wpAnyJ_skip 3 (by first | exact hF | exact wideFn) (HS.out _ HB2.out.below) rfl (by kernel_rfl) (by kernel_rfl) (by kernel_rfl) (by kernel_rfl) rfl (by first | exact fun _ _ _ h => h | exact fun _ _ _ h => hQ2 _ _ _ _ _ h) ?_
          (try simp only [glA, glB, glC, Act.put, glD, glE, glF])
          refine wpAnyJ_skip 4 (by first | exact hF | exact wideFn) (HS.out _ HB2.out.below) rfl (by kernel_rfl) (by kernel_rfl) (by kernel_rfl) (by kernel_rfl) rfl (by first | exact fun _ _ _ h => h | exact fun _ _ _ h => hQ2 _ _ _ _ _ h) ?_
          (try simp only [glA, glB, glC, Act.put, glD, glE, glF])
          refine wpAnyJ_skip 5 (by first | exact hF | exact wideFn) (HS.out _ HB2.out.below) rfl (by kernel_rfl) (by kernel_rfl) (by kernel_rfl) (by kernel_rfl) rfl (by first | exact fun _ _ _ h => h | exact fun _ _ _ h => hQ2 _ _ _ _ _ h) ?_
          (try simp only [glA, glB, glC, Act.put, glD, glE, glF])
          refine wpAnyJ_skip 6 (by first | exact hF | exact wideFn) (HS.out _ HB2.out.below) rfl (by kernel_rfl) (by kernel_rfl) (by kernel_rfl) (by kernel_rfl) rfl (by first | exact fun _ _ _ h => h | exact fun _ _ _ h => hQ2 _ _ _ _ _ h) ?_
          (try simp only [glA, glB, glC, Act.put, glD, glE, glF])
          refine wpAnyJ_skip 7 (by first | exact hF | exact wideFn) (HS.out _ HB2.out.below) rfl (by kernel_rfl) (by kernel_rfl) (by kernel_rfl) (by kernel_rfl) rfl (by first | exact fun _ _ _ h => h | exact fun _ _ _ h => hQ2 _ _ _ _ _ h) ?_
          (try simp only [glA, glB, glC, Act.put, glD, glE, glF])
          refine wpAnyJ_skip 8 (by first | exact hF | exact wideFn) (HS.out _ HB2.out.below) rfl (by kernel_rfl) (by kernel_rfl) (by kernel_rfl) (by kernel_rfl) rfl (by first | exact fun _ _ _ h => h | exact fun _ _ _ h => hQ2 _ _ _ _ _ h) ?_
          (try simp only [glA, glB, glC, Act.put, glD, glE, glF])
          refine wpAnyJ_skip 9 (by first | exact hF | exact wideFn) (HS.out _ HB2.out.below) rfl (by kernel_rfl) (by kernel_rfl) (by kernel_rfl) (by kernel_rfl) rfl (by first | exact fun _ _ _ h => h | exact fun _ _ _ h => hQ2 _ _ _ _ _ h) ?_
          (try simp only [glA, glB, glC, Act.put, glD, glE, glF])
          refine wpAnyJ_skip 10 (by first | exact hF | exact wideFn) (HS.out _ HB2.out.below) rfl (by kernel_rfl) (by kernel_rfl) (by kernel_rfl) (by kernel_rfl) rfl (by first | exact fun _ _ _ h => h | exact fun _ _ _ h => hQ2 _ _ _ _ _ h) ?_
          (try simp only [glA, glB, glC, Act.put, glD, glE, glF])
          refine wpAnyJ_skip 11 (by first | exact hF | exact wideFn) (HS.out _ HB2.out.below) rfl (by kernel_rfl) (by kernel_rfl) (by kernel_rfl) (by kernel_rfl) rfl (by first | exact fun _ _ _ h => h | exact fun _ _ _ h => hQ2 _ _ _ _ _ h) ?_
          (try simp only [glA, glB, glC, Act.put, glD, glE, glF])
          refine wpAnyJ_skip 12 (by first | exact hF | exact wideFn) (HS.out _ HB2.out.below) rfl (by kernel_rfl) (by kernel_rfl) (by kernel_rfl) (by kernel_rfl) rfl (by first | exact fun _ _ _ h => h | exact fun _ _ _ h => hQ2 _ _ _ _ _ h) ?_
          (try simp only [glA, glB, glC, Act.put, glD, glE, glF])
          refine wpAnyJ_skip 13 (by first | exact hF | exact wideFn) (HS.out _ HB2.out.below) rfl (by kernel_rfl) (by kernel_rfl) (by kernel_rfl) (by kernel_rfl) rfl (by first | exact fun _ _ _ h => h | exact fun _ _ _ h => hQ2 _ _ _ _ _ h) ?_
          (try simp only [glA, glB, glC, Act.put, glD, glE, glF])
          refine wpAnyJ_skip 14 (by first | exact hF | exact wideFn) (HS.out _ HB2.out.below) rfl (by kernel_rfl) (by kernel_rfl) (by kernel_rfl) (by kernel_rfl) rfl (by first | exact fun _ _ _ h => h | exact fun _ _ _ h => hQ2 _ _ _ _ _ h) ?_
          (try simp only [glA, glB, glC, Act.put, glD, glE, glF])
          refine wpAnyJ_take 15 (v := ?_) (by first | exact hF | exact wideFn) (HS.out _ HB2.out.below) rfl (by kernel_rfl) (by kernel_rfl) (by kernel_rfl) (by kernel_rfl) rfl ?_ (by first | exact fun _ _ _ h => h | exact fun _ _ _ h => hQ2 _ _ _ _ _ h) ?_
          rotate_left
          · intro W hSW
            simp only [glA, glB, glC]
            (try dsimp only at hSW)
            go_simp
            with_reducible rfl
          (try simp only [glA, glB, glC, Act.put, glD, glE, glF])
          refine wpAnyJ_done (by kernel_rfl) ?_
          go_wp2_with fail
          go_meet
          exact ⟨rfl, HWD.out⟩
        · have kp : 0 < k := by omega
          clear hk0
          obtain ⟨q, rfl⟩ : ∃ q : Nat, z = (q : Int) := ⟨z.toNat, by omega⟩
          have q1 : q < k := by omega
          have q4 : (0 : Int) ≤ (q : Int) := by omega
          have q5 : (q : Int) < (m : Int) := by omega
          obtain ⟨u, hu⟩ : ∃ u, Af q = u := ⟨_, rfl⟩
          have HS4 : Hid (∀ W, Below w4.heap.size w4 W → ((W.cell? ⟨pb, po + k, none⟩ = some (.int .i64 ((q : Nat) : Int)) ∧ W.cell? ⟨rb, ro + k, none⟩ = some (.int .i64 y) ∧ W.cell? ⟨xb, xo + k, none⟩ = some (.int .i64 ((x : Nat) : Int))) ∧ W.cell? ⟨xb, xo + q, none⟩ = some (.int .i64 ((u : Nat) : Int)))) := hide fun W h => by
            have := HRD.out W h q (by omega)
            rw [hu] at this
            exact ⟨HS.out W h, this.2.2⟩
          have HU : Hid (Af (p k).toNat = u) := hide (by rw [HX.out.2.2]; exact hu)
          clear hu
          refine wp_region_J (fun W : World => ((W.cell? ⟨pb, po + k, none⟩ = some (.int .i64 ((q : Nat) : Int)) ∧ W.cell? ⟨rb, ro + k, none⟩ = some (.int .i64 y) ∧ W.cell? ⟨xb, xo + k, none⟩ = some (.int .i64 ((x : Nat) : Int))) ∧ W.cell? ⟨xb, xo + q, none⟩ = some (.int .i64 ((u : Nat) : Int)))) (by kernel_rfl) ?_
          generalize hwd : wd.drew = we at HB2 ⊢
          have HWD := hide hwd.symm
          clear HA1 hwd
          have hch : ch = (x != u) := by
            rw [← HCH.out, HU.out, HX.out.1]
            by_cases e : x = u
            · rw [decide_eq_false (fun h => h.2 e.symm)]; simp [e]
            · rw [decide_eq_true ⟨kp, fun h => e h.symm⟩]; simp [e]
          by_cases hxu : x = u
          · subst hxu
            have : ch = false := by rw [hch]; simp
            subst this
            clear hch
            refine wpAnyJ_take 0 (v := ?_) (by first | exact hF | exact wideFn) (HS4.out _ HB2.out.below) rfl (by kernel_rfl) (by kernel_rfl) (by kernel_rfl) (by kernel_rfl) rfl ?_ (by first | exact fun _ _ _ h => h | exact fun _ _ _ h => hQ2 _ _ _ _ _ h) ?_
            rotate_left
            · intro W hSW
              simp only [glA, glB, glC]
              (try dsimp only at hSW)
              go_simp
              with_reducible rfl
            (try simp only [glA, glB, glC, Act.put, glD, glE, glF])
            refine wpAnyJ_take 1 (v := ?_) (by first | exact hF | exact wideFn) (HS4.out _ HB2.out.below) rfl (by kernel_rfl) (by kernel_rfl) (by kernel_rfl) (by kernel_rfl) rfl ?_ (by first | exact fun _ _ _ h => h | exact fun _ _ _ h => hQ2 _ _ _ _ _ h) ?_
            rotate_left
            · intro W hSW
              simp only [glA, glB, glC]
              (try dsimp only at hSW)
              go_simp
              with_reducible rfl
            (try simp only [glA, glB, glC, Act.put, glD, glE, glF])
            refine wpAnyJ_take 2 (v := ?_) (by first | exact hF | exact wideFn) (HS4.out _ HB2.out.below) rfl (by kernel_rfl) (by kernel_rfl) (by kernel_rfl) (by kernel_rfl) rfl ?_ (by first | exact fun _ _ _ h => h | exact fun _ _ _ h => hQ2 _ _ _ _ _ h) ?_
            rotate_left
            · intro W hSW
              simp only [glA, glB, glC]
              (try dsimp only at hSW)
              go_simp
              with_reducible rfl
            (try simp only [glA, glB, glC, Act.put, glD, glE, glF])
            refine wpAnyJ_take 3 (v := ?_) (by first | exact hF | exact wideFn) (HS4.out _ HB2.out.below) rfl (by kernel_rfl) (by kernel_rfl) (by kernel_rfl) (by kernel_rfl) rfl ?_ (by first | exact fun _ _ _ h => h | exact fun _ _ _ h => hQ2 _ _ _ _ _ h) ?_
            rotate_left
            · intro W hSW
              simp only [glA, glB, glC]
              (try dsimp only at hSW)
              go_simp
              with_reducible rfl
            (try simp only [glA, glB, glC, Act.put, glD, glE, glF])
            refine wpAnyJ_take 4 (v := ?_) (by first | exact hF | exact wideFn) (HS4.out _ HB2.out.below) rfl (by kernel_rfl) (by kernel_rfl) (by kernel_rfl) (by kernel_rfl) rfl ?_ (by first | exact fun _ _ _ h => h | exact fun _ _ _ h => hQ2 _ _ _ _ _ h) ?_
            rotate_left
            · intro W hSW
              simp only [glA, glB, glC]
              (try dsimp only at hSW)
              go_simp
              with_reducible rfl
            (try simp only [glA, glB, glC, Act.put, glD, glE, glF])
            refine wpAnyJ_take 5 (v := ?_) (by first | exact hF | exact wideFn) (HS4.out _ HB2.out.below) rfl (by kernel_rfl) (by kernel_rfl) (by kernel_rfl) (by kernel_rfl) rfl ?_ (by first | exact fun _ _ _ h => h | exact fun _ _ _ h => hQ2 _ _ _ _ _ h) ?_
            rotate_left
            · intro W hSW
              simp only [glA, glB, glC]
              (try dsimp only at hSW)
              go_simp
              with_reducible rfl
            (try simp only [glA, glB, glC, Act.put, glD, glE, glF])
            refine wpAnyJ_take 6 (v := ?_) (by first | exact hF | exact wideFn) (HS4.out _ HB2.out.below) rfl (by kernel_rfl) (by kernel_rfl) (by kernel_rfl) (by kernel_rfl) rfl ?_ (by first | exact fun _ _ _ h => h | exact fun _ _ _ h => hQ2 _ _ _ _ _ h) ?_
            rotate_left
            · intro W hSW
              simp only [glA, glB, glC]
              (try dsimp only at hSW)
              go_simp
              with_reducible rfl
            (try simp only [glA, glB, glC, Act.put, glD, glE, glF])
            refine wpAnyJ_take 7 (v := ?_) (by first | exact hF | exact wideFn) (HS4.out _ HB2.out.below) rfl (by kernel_rfl) (by kernel_rfl) (by kernel_rfl) (by kernel_rfl) rfl ?_ (by first | exact fun _ _ _ h => h | exact fun _ _ _ h => hQ2 _ _ _ _ _ h) ?_
            rotate_left
            · intro W hSW
              simp only [glA, glB, glC]
              (try dsimp only at hSW)
              go_simp
              with_reducible rfl
            (try simp only [glA, glB, glC, Act.put, glD, glE, glF])
            refine wpAnyJ_take 8 (v := ?_) (by first | exact hF | exact wideFn) (HS4.out _ HB2.out.below) rfl (by kernel_rfl) (by kernel_rfl) (by kernel_rfl) (by kernel_rfl) rfl ?_ (by first | exact fun _ _ _ h => h | exact fun _ _ _ h => hQ2 _ _ _ _ _ h) ?_
            rotate_left
            · intro W hSW
              simp only [glA, glB, glC]
              (try dsimp only at hSW)
              go_simp
              with_reducible rfl
            (try simp only [glA, glB, glC, Act.put, glD, glE, glF])
            refine wpAnyJ_take 9 (v := ?_) (by first | exact hF | exact wideFn) (HS4.out _ HB2.out.below) rfl (by kernel_rfl) (by kernel_rfl) (by kernel_rfl) (by kernel_rfl) rfl ?_ (by first | exact fun _ _ _ h => h | exact fun _ _ _ h => hQ2 _ _ _ _ _ h) ?_
            rotate_left
            · intro W hSW
              simp only [glA, glB, glC]
              (try dsimp only at hSW)
              go_simp
              with_reducible rfl
            (try simp only [glA, glB, glC, Act.put, glD, glE, glF])
            refine wpAnyJ_take 10 (v := ?_) (by first | exact hF | exact wideFn) (HS4.out _ HB2.out.below) rfl (by kernel_rfl) (by kernel_rfl) (by kernel_rfl) (by kernel_rfl) rfl ?_ (by first | exact fun _ _ _ h => h | exact fun _ _ _ h => hQ2 _ _ _ _ _ h) ?_
            rotate_left
            · intro W hSW
              simp only [glA, glB, glC]
              (try dsimp only at hSW)
              go_simp
              with_reducible rfl
            (try simp only [glA, glB, glC, Act.put, glD, glE, glF])
            refine wpAnyJ_take 11 (v := ?_) (by first | exact hF | exact wideFn) (HS4.out _ HB2.out.below) rfl (by kernel_rfl) (by kernel_rfl) (by kernel_rfl) (by kernel_rfl) rfl ?_ (by first | exact fun _ _ _ h => h | exact fun _ _ _ h => hQ2 _ _ _ _ _ h) ?_
            rotate_left
            · intro W hSW
              simp only [glA, glB, glC]
              (try dsimp only at hSW)
              go_simp
              with_reducible rfl
            (try simp only [glA, glB, glC, Act.put, glD, glE, glF])
            refine wpAnyJ_take 12 (v := ?_) (by first | exact hF | exact wideFn) (HS4.out _ HB2.out.below) rfl (by kernel_rfl) (by kernel_rfl) (by kernel_rfl) (by kernel_rfl) rfl ?_ (by first | exact fun _ _ _ h => h | exact fun _ _ _ h => hQ2 _ _ _ _ _ h) ?_
            rotate_left
            · intro W hSW
              simp only [glA, glB, glC]
              (try dsimp only at hSW)
              go_simp
              with_reducible rfl
            (try simp only [glA, glB, glC, Act.put, glD, glE, glF])
            refine wpAnyJ_take 13 (v := ?_) (by first | exact hF | exact wideFn) (HS4.out _ HB2.out.below) rfl (by kernel_rfl) (by kernel_rfl) (by kernel_rfl) (by kernel_rfl) rfl ?_ (by first | exact fun _ _ _ h => h | exact fun _ _ _ h => hQ2 _ _ _ _ _ h) ?_
            rotate_left
            · intro W hSW
              simp only [glA, glB, glC]
              (try dsimp only at hSW)
              go_simp
              with_reducible rfl
            (try simp only [glA, glB, glC, Act.put, glD, glE, glF])
            refine wpAnyJ_take 14 (v := ?_) (by first | exact hF | exact wideFn) (HS4.out _ HB2.out.below) rfl (by kernel_rfl) (by kernel_rfl) (by kernel_rfl) (by kernel_rfl) rfl ?_ (by first | exact fun _ _ _ h => h | exact fun _ _ _ h => hQ2 _ _ _ _ _ h) ?_
            rotate_left
            · intro W hSW
              simp only [glA, glB, glC]
              (try dsimp only at hSW)
              go_simp
              with_reducible rfl
            (try simp only [glA, glB, glC, Act.put, glD, glE, glF])
            refine wpAnyJ_take 15 (v := ?_) (by first | exact hF | exact wideFn) (HS4.out _ HB2.out.below) rfl (by kernel_rfl) (by kernel_rfl) (by kernel_rfl) (by kernel_rfl) rfl ?_ (by first | exact fun _ _ _ h => h | exact fun _ _ _ h => hQ2 _ _ _ _ _ h) ?_
            rotate_left
            · intro W hSW
              simp only [glA, glB, glC]
              (try dsimp only at hSW)
              go_simp
              with_reducible rfl
            (try simp only [glA, glB, glC, Act.put, glD, glE, glF])
            refine wpAnyJ_done (by kernel_rfl) ?_
            go_wp2_with fail
            go_meet
            exact ⟨rfl, HWD.out⟩
          · have xu1 : (x != u) = true := by simp [hxu]
            have xu2 : ((x : Int) != (u : Int)) = true := by simp; omega
            have : ch = true := by rw [hch]; exact xu1
            subst this
            clear hch hxu
            refine wpAnyJ_take 0 (v := ?_) (by first | exact hF | exact wideFn) (HS4.out _ HB2.out.below) rfl (by kernel_rfl) (by kernel_rfl) (by kernel_rfl) (by kernel_rfl) rfl ?_ (by first | exact fun _ _ _ h => h | exact fun _ _ _ h => hQ2 _ _ _ _ _ h) ?_
            rotate_left
            · intro W hSW
              simp only [glA, glB, glC]
              (try dsimp only at hSW)
              go_simp
              with_reducible rfl
            (try simp only [glA, glB, glC, Act.put, glD, glE, glF])
            refine wpAnyJ_take 1 (v := ?_) (by first | exact hF | exact wideFn) (HS4.out _ HB2.out.below) rfl (by kernel_rfl) (by kernel_rfl) (by kernel_rfl) (by kernel_rfl) rfl ?_ (by first | exact fun _ _ _ h => h | exact fun _ _ _ h => hQ2 _ _ _ _ _ h) ?_
            rotate_left
            · intro W hSW
              simp only [glA, glB, glC]
              (try dsimp only at hSW)
              go_simp
              with_reducible rfl
            (try simp only [glA, glB, glC, Act.put, glD, glE, glF])
            refine wpAnyJ_take 2 (v := ?_) (by first | exact hF | exact wideFn) (HS4.out _ HB2.out.below) rfl (by kernel_rfl) (by kernel_rfl) (by kernel_rfl) (by kernel_rfl) rfl ?_ (by first | exact fun _ _ _ h => h | exact fun _ _ _ h => hQ2 _ _ _ _ _ h) ?_
            rotate_left
            · intro W hSW
              simp only [glA, glB, glC]
              (try dsimp only at hSW)
              go_simp
              with_reducible rfl
            (try simp only [glA, glB, glC, Act.put, glD, glE, glF])
            refine wpAnyJ_take 3 (v := ?_) (by first | exact hF | exact wideFn) (HS4.out _ HB2.out.below) rfl (by kernel_rfl) (by kernel_rfl) (by kernel_rfl) (by kernel_rfl) rfl ?_ (by first | exact fun _ _ _ h => h | exact fun _ _ _ h => hQ2 _ _ _ _ _ h) ?_
            rotate_left
            · intro W hSW
              simp only [glA, glB, glC]
              (try dsimp only at hSW)
              go_simp
              with_reducible rfl
            (try simp only [glA, glB, glC, Act.put, glD, glE, glF])
            refine wpAnyJ_take 4 (v := ?_) (by first | exact hF | exact wideFn) (HS4.out _ HB2.out.below) rfl (by kernel_rfl) (by kernel_rfl) (by kernel_rfl) (by kernel_rfl) rfl ?_ (by first | exact fun _ _ _ h => h | exact fun _ _ _ h => hQ2 _ _ _ _ _ h) ?_
            rotate_left
            · intro W hSW
              simp only [glA, glB, glC]
              (try dsimp only at hSW)
              go_simp
              with_reducible rfl
            (try simp only [glA, glB, glC, Act.put, glD, glE, glF])
            refine wpAnyJ_take 5 (v := ?_) (by first | exact hF | exact wideFn) (HS4.out _ HB2.out.below) rfl (by kernel_rfl) (by kernel_rfl) (by kernel_rfl) (by kernel_rfl) rfl ?_ (by first | exact fun _ _ _ h => h | exact fun _ _ _ h => hQ2 _ _ _ _ _ h) ?_
            rotate_left
            · intro W hSW
              simp only [glA, glB, glC]
              (try dsimp only at hSW)
              go_simp
              with_reducible rfl
            (try simp only [glA, glB, glC, Act.put, glD, glE, glF])
            refine wpAnyJ_take 6 (v := ?_) (by first | exact hF | exact wideFn) (HS4.out _ HB2.out.below) rfl (by kernel_rfl) (by kernel_rfl) (by kernel_rfl) (by kernel_rfl) rfl ?_ (by first | exact fun _ _ _ h => h | exact fun _ _ _ h => hQ2 _ _ _ _ _ h) ?_
            rotate_left
            · intro W hSW
              simp only [glA, glB, glC]
              (try dsimp only at hSW)
              go_simp
              with_reducible rfl
            (try simp only [glA, glB, glC, Act.put, glD, glE, glF])
            refine wpAnyJ_take 7 (v := ?_) (by first | exact hF | exact wideFn) (HS4.out _ HB2.out.below) rfl (by kernel_rfl) (by kernel_rfl) (by kernel_rfl) (by kernel_rfl) rfl ?_ (by first | exact fun _ _ _ h => h | exact fun _ _ _ h => hQ2 _ _ _ _ _ h) ?_
            rotate_left
            · intro W hSW
              simp only [glA, glB, glC]
              (try dsimp only at hSW)
              go_simp
              with_reducible rfl
            (try simp only [glA, glB, glC, Act.put, glD, glE, glF])
            refine wpAnyJ_take 8 (v := ?_) (by first | exact hF | exact wideFn) (HS4.out _ HB2.out.below) rfl (by kernel_rfl) (by kernel_rfl) (by kernel_rfl) (by kernel_rfl) rfl ?_ (by first | exact fun _ _ _ h => h | exact fun _ _ _ h => hQ2 _ _ _ _ _ h) ?_
            rotate_left
            · intro W hSW
              simp only [glA, glB, glC]
              (try dsimp only at hSW)
              go_simp
              with_reducible rfl
            (try simp only [glA, glB, glC, Act.put, glD, glE, glF])
            refine wpAnyJ_take 9 (v := ?_) (by first | exact hF | exact wideFn) (HS4.out _ HB2.out.below) rfl (by kernel_rfl) (by kernel_rfl) (by kernel_rfl) (by kernel_rfl) rfl ?_ (by first | exact fun _ _ _ h => h | exact fun _ _ _ h => hQ2 _ _ _ _ _ h) ?_
            rotate_left
            · intro W hSW
              simp only [glA, glB, glC]
              (try dsimp only at hSW)
              go_simp
              with_reducible rfl
            (try simp only [glA, glB, glC, Act.put, glD, glE, glF])
            refine wpAnyJ_take 10 (v := ?_) (by first | exact hF | exact wideFn) (HS4.out _ HB2.out.below) rfl (by kernel_rfl) (by kernel_rfl) (by kernel_rfl) (by kernel_rfl) rfl ?_ (by first | exact fun _ _ _ h => h | exact fun _ _ _ h => hQ2 _ _ _ _ _ h) ?_
            rotate_left
            · intro W hSW
              simp only [glA, glB, glC]
              (try dsimp only at hSW)
              go_simp
              with_reducible rfl
            (try simp only [glA, glB, glC, Act.put, glD, glE, glF])
            refine wpAnyJ_take 11 (v := ?_) (by first | exact hF | exact wideFn) (HS4.out _ HB2.out.below) rfl (by kernel_rfl) (by kernel_rfl) (by kernel_rfl) (by kernel_rfl) rfl ?_ (by first | exact fun _ _ _ h => h | exact fun _ _ _ h => hQ2 _ _ _ _ _ h) ?_
            rotate_left
            · intro W hSW
              simp only [glA, glB, glC]
              (try dsimp only at hSW)
              go_simp
              with_reducible rfl
            (try simp only [glA, glB, glC, Act.put, glD, glE, glF])
            refine wpAnyJ_take 12 (v := ?_) (by first | exact hF | exact wideFn) (HS4.out _ HB2.out.below) rfl (by kernel_rfl) (by kernel_rfl) (by kernel_rfl) (by kernel_rfl) rfl ?_ (by first | exact fun _ _ _ h => h | exact fun _ _ _ h => hQ2 _ _ _ _ _ h) ?_
            rotate_left
            · intro W hSW
              simp only [glA, glB, glC]
              (try dsimp only at hSW)
              go_simp
              with_reducible rfl
            (try simp only [glA, glB, glC, Act.put, glD, glE, glF])
            refine wpAnyJ_take 13 (v := ?_) (by first | exact hF | exact wideFn) (HS4.out _ HB2.out.below) rfl (by kernel_rfl) (by kernel_rfl) (by kernel_rfl) (by kernel_rfl) rfl ?_ (by first | exact fun _ _ _ h => h | exact fun _ _ _ h => hQ2 _ _ _ _ _ h) ?_
            rotate_left
            · intro W hSW
              simp only [glA, glB, glC]
              (try dsimp only at hSW)
              go_simp
              with_reducible rfl
            (try simp only [glA, glB, glC, Act.put, glD, glE, glF])
            refine wpAnyJ_take 14 (v := ?_) (by first | exact hF | exact wideFn) (HS4.out _ HB2.out.below) rfl (by kernel_rfl) (by kernel_rfl) (by kernel_rfl) (by kernel_rfl) rfl ?_ (by first | exact fun _ _ _ h => h | exact fun _ _ _ h => hQ2 _ _ _ _ _ h) ?_
            rotate_left
            · intro W hSW
              simp only [glA, glB, glC]
              (try dsimp only at hSW)
              go_simp
              with_reducible rfl
            (try simp only [glA, glB, glC, Act.put, glD, glE, glF])
            refine wpAnyJ_take 15 (v := ?_) (by first | exact hF | exact wideFn) (HS4.out _ HB2.out.below) rfl (by kernel_rfl) (by kernel_rfl) (by kernel_rfl) (by kernel_rfl) rfl ?_ (by first | exact fun _ _ _ h => h | exact fun _ _ _ h => hQ2 _ _ _ _ _ h) ?_
            rotate_left
            · intro W hSW
              simp only [glA, glB, glC]
              (try dsimp only at hSW)
              go_simp
              with_reducible rfl
            (try simp only [glA, glB, glC, Act.put, glD, glE, glF])
            refine wpAnyJ_done (by kernel_rfl) ?_
            go_wp2_with fail
            go_meet
            exact ⟨rfl, HWD.out⟩
        -- END3
      obtain ⟨rfl, rfl⟩ := hcut
      have HB2 := hide (HA1.out.ext (Below.refl _ _).drew)
      generalize wd.drew = we at HB2 ⊢
      clear HA1
      rcases ch with _ | _
      · as_aux_lemma =>
        have HCG : Hid (cgA p Af (k + 1) = cgA p Af k) := hide (by
          show cgA p Af k + _ = _
          rw [if_neg (of_decide_eq_false HCH.out)]; omega)
        obtain ⟨s1, s2, s3⟩ := HS.out _ HB2.out.below
        by_cases hy0 : 0 ≤ y
        · have hyx : y = (x : Int) := z4 hy0
          subst hyx
          have s4 := HB2.out.at_ (v := x) z3
          have s5 := HB2.out.blk.frozen x
          have s6 := HB2.out.blk.lt
          rcases hsn : snF r Af k x with _ | _
          · rw [hsn] at s4
            have HDFE : Hid (dfN r Af (k + 1) = dfN r Af k + 1) := hide (by
              show dfN r Af k + _ = _
              rw [if_pos ⟨by rw [HX.out.2.1]; exact x0, by rw [HX.out.1]; exact hsn⟩])
            have HAE : Hid (AR w4 (we.setCell ⟨SA, x, none⟩ (.bool true)) SA 43 (fun v => .bool (snF r Af (k + 1) v))) := hide (HB2.out.put x (.bool true) (fun v _ => by
              show Value.bool (snF r Af k v || (decide (0 ≤ r k) && decide (v = Af k))) = _
              rw [HX.out.1, HX.out.2.1, decide_eq_true x0]
              by_cases e : v = x
              · rw [if_pos e, decide_eq_true e]; simp
              · rw [if_neg e, decide_eq_false e]; simp))
            clear hsn
            go_wp2_with fail
            go_roundw
            case rel => exact ⟨k + 1, by omega, by go_num, by rw [HDFE.out]; try rfl, by rw [HCG.out], HAE⟩
            case measure => simp [intOf]; omega
          · rw [hsn] at s4
            have HDFE : Hid (dfN r Af (k + 1) = dfN r Af k) := hide (by
              show dfN r Af k + _ = _
              rw [if_neg (by rintro ⟨-, h⟩; rw [HX.out.1, hsn] at h; cases h)]; rfl)
            have HAE : Hid (AR w4 we SA 43 (fun v => .bool (snF r Af (k + 1) v))) := hide (HB2.out.congr (fun v _ => by
              show Value.bool (snF r Af k v || (decide (0 ≤ r k) && decide (v = Af k))) = _
              rw [HX.out.1]
              by_cases e : v = x
              · rw [e, hsn]; rfl
              · rw [decide_eq_false e]; simp))
            clear hsn
            go_wp2_with fail
            go_roundw
            case rel => exact ⟨k + 1, by omega, by go_num, by rw [HDFE.out]; try rfl, by rw [HCG.out], HAE⟩
            case measure => simp [intOf]; omega
        · have HDFE : Hid (dfN r Af (k + 1) = dfN r Af k) := hide (by
            show dfN r Af k + _ = _
            rw [if_neg (by rintro ⟨h, -⟩; rw [HX.out.2.1] at h; exact hy0 h)]; rfl)
          have HAE : Hid (AR w4 we SA 43 (fun v => .bool (snF r Af (k + 1) v))) := hide (HB2.out.congr (fun v _ => by
            show Value.bool (snF r Af k v || (decide (0 ≤ r k) && decide (v = Af k))) = _
            rw [HX.out.2.1, decide_eq_false hy0]; simp))
          go_wp2_with fail
          go_roundw
          case rel => exact ⟨k + 1, by omega, by go_num, by rw [HDFE.out]; try rfl, by rw [HCG.out], HAE⟩
          case measure => simp [intOf]; omega
      · as_aux_lemma =>
        have HCG : Hid (cgA p Af (k + 1) = cgA p Af k + 1) := hide (by
          show cgA p Af k + _ = _
          rw [if_pos (of_decide_eq_true HCH.out)])
        obtain ⟨s1, s2, s3⟩ := HS.out _ HB2.out.below
        by_cases hy0 : 0 ≤ y
        · have hyx : y = (x : Int) := z4 hy0
          subst hyx
          have s4 := HB2.out.at_ (v := x) z3
          have s5 := HB2.out.blk.frozen x
          have s6 := HB2.out.blk.lt
          rcases hsn : snF r Af k x with _ | _
          · rw [hsn] at s4
            have HDFE : Hid (dfN r Af (k + 1) = dfN r Af k + 1) := hide (by
              show dfN r Af k + _ = _
              rw [if_pos ⟨by rw [HX.out.2.1]; exact x0, by rw [HX.out.1]; exact hsn⟩])
            have HAE : Hid (AR w4 (we.setCell ⟨SA, x, none⟩ (.bool true)) SA 43 (fun v => .bool (snF r Af (k + 1) v))) := hide (HB2.out.put x (.bool true) (fun v _ => by
              show Value.bool (snF r Af k v || (decide (0 ≤ r k) && decide (v = Af k))) = _
              rw [HX.out.1, HX.out.2.1, decide_eq_true x0]
              by_cases e : v = x
              · rw [if_pos e, decide_eq_true e]; simp
              · rw [if_neg e, decide_eq_false e]; simp))
            clear hsn
            go_wp2_with fail
            go_roundw
            case rel => exact ⟨k + 1, by omega, by go_num, by rw [HDFE.out]; try rfl, by rw [HCG.out], HAE⟩
            case measure => simp [intOf]; omega
          · rw [hsn] at s4
            have HDFE : Hid (dfN r Af (k + 1) = dfN r Af k) := hide (by
              show dfN r Af k + _ = _
              rw [if_neg (by rintro ⟨-, h⟩; rw [HX.out.1, hsn] at h; cases h)]; rfl)
            have HAE : Hid (AR w4 we SA 43 (fun v => .bool (snF r Af (k + 1) v))) := hide (HB2.out.congr (fun v _ => by
              show Value.bool (snF r Af k v || (decide (0 ≤ r k) && decide (v = Af k))) = _
              rw [HX.out.1]
              by_cases e : v = x
              · rw [e, hsn]; rfl
              · rw [decide_eq_false e]; simp))
            clear hsn
            go_wp2_with fail
            go_roundw
            case rel => exact ⟨k + 1, by omega, by go_num, by rw [HDFE.out]; try rfl, by rw [HCG.out], HAE⟩
            case measure => simp [intOf]; omega
        · have HDFE : Hid (dfN r Af (k + 1) = dfN r Af k) := hide (by
            show dfN r Af k + _ = _
            rw [if_neg (by rintro ⟨h, -⟩; rw [HX.out.2.1] at h; exact hy0 h)]; rfl)
          have HAE : Hid (AR w4 we SA 43 (fun v => .bool (snF r Af (k + 1) v))) := hide (HB2.out.congr (fun v _ => by
            show Value.bool (snF r Af k v || (decide (0 ≤ r k) && decide (v = Af k))) = _
            rw [HX.out.2.1, decide_eq_false hy0]; simp))
          go_wp2_with fail
          go_roundw
          case rel => exact ⟨k + 1, by omega, by go_num, by rw [HDFE.out]; try rfl, by rw [HCG.out], HAE⟩
          case measure => simp [intOf]; omega
      -- END1
    · as_aux_lemma =>
      obtain rfl : k = m := by omega
      have hnl : ¬ (k : Int) < (k : Int) := by omega
      obtain ⟨D, hD⟩ : ∃ D, dfN r Af k = D := ⟨_, rfl⟩
      obtain ⟨C, hC⟩ : ∃ D, cgA p Af k = D := ⟨_, rfl⟩
      have hdf := HDF.out
      obtain ⟨n1, n2⟩ := HCGN.out k (Nat.le_refl _)
      rw [hD, hC] at hdf
      rw [hC] at n1 n2
      rw [hD, hC]
      obtain ⟨hdf1, hdf2⟩ := hdf
      have HBW := hide HAR.out.below
      clear HAR hD hC
      have d1 : IntKind.i64.wrap ((D : Int) - 1) = (D : Int) - 1 := by rw [IntWalk.i64_in _ (by omega)]
      have d2 : ¬ C < (D : Int) - 1 := by omega
      go_upto_region 20 with fail
      go_cut [174] (fun v w' => v = .bool false ∧ w' = wr)
      case first =>
        by_cases hD1 : D ≤ 1
        · have hc0 := hdf2 hD1
          subst hc0
          clear hdf2
          have hD2 : (D : Int) ≤ 1 := by omega
          have hD3 : ¬ (1 : Int) < (D : Int) := by omega
          have hD4 : ¬ 1 < D := by omega
          go_wp2_with fail
          go_meet
          exact ⟨rfl, rfl⟩
        · have hD2 : ¬ (D : Int) ≤ 1 := by omega
          clear hdf2
          go_wp2_with fail
          go_meet
          exact ⟨rfl, rfl⟩
      obtain ⟨rfl, rfl⟩ := hcut
      clear hdf1 hdf2 d1 d2 n1 n2
      go_wp2_with fail
      go_loopw [12] (fun i wr => ∃ i0 : Nat, i0 ≤ k ∧ i = .int .i64 i0 ∧ Hid (Below w4.heap.size w4 wr)) (fun i _ => k - (intOf i).toNat)
      case atStart => exact ⟨0, Nat.zero_le _, rfl, HBW⟩
      case round =>
        obtain ⟨i, hi, rfl, HB⟩ := hrel
        clear HBW
        by_cases hit : i < k
        · as_aux_lemma =>
          have hit' : (i : Int) < (k : Int) := by omega
          have i0 : (0 : Int) ≤ (i : Int) := by omega
          have ist : IntKind.i64.wrap ((i : Int) + 1) = ((i + 1 : Nat) : Int) := by rw [IntWalk.i64_in _ (by omega)]; omega
          obtain ⟨z1, z2, z3, z4⟩ := HOK.out i hit
          obtain ⟨x, hx⟩ : ∃ x, Af i = x := ⟨_, rfl⟩
          obtain ⟨y, hy⟩ : ∃ y, r i = y := ⟨_, rfl⟩
          obtain ⟨z, hz⟩ : ∃ z, p i = z := ⟨_, rfl⟩
          have HCL : Hid (∀ W, Below w4.heap.size w4 W → W.cell? ⟨pb, po + i, none⟩ = some (.int .i64 z) ∧ W.cell? ⟨rb, ro + i, none⟩ = some (.int .i64 y) ∧ W.cell? ⟨xb, xo + i, none⟩ = some (.int .i64 ((x : Nat) : Int))) := hide fun W h => by
            have := HRD.out W h i hit
            rwa [hx, hy, hz] at this
          have HNR : Hid (y < 0 → ∀ v, v < 16 → nrF p Af i k v ≤ nrF p Af i k x) := hide fun h v hv => by
            have := HNB.out i v hit (by rw [hy]; exact h) hv
            rwa [hx] at this
          rw [hz] at z1 z2
          rw [hx] at z3
          have HX := hide (And.intro hx (And.intro hy hz))
          clear hx hy hz z4
          have x0 : (0 : Int) ≤ (x : Int) := by omega
          have x3 : (x : Int) < 16 := by omega
          obtain ⟨c1', c2', c3'⟩ := HCL.out _ HB.out
          by_cases hy0 : 0 ≤ y
          · go_wp2_with fail
            go_roundw
            case rel => exact ⟨i + 1, by omega, by go_num, HB⟩
            case measure => simp [intOf]; omega
          · as_aux_lemma =>
            have HY0 := hide (show y < 0 by omega)
            go_upto_region 26 with fail
            clear c1' c2' c3'
            have HBd := hide (HB.out.trans ((Below.refl wr.heap.size wr).drew.mono HB.out.size))
            have HS2 : Hid (∀ W, Below w4.heap.size w4 W → W.cell? ⟨xb, xo + i, none⟩ = some (.int .i64 ((x : Nat) : Int))) := hide fun W h => (HCL.out W h).2.2
            refine wp_region_J (fun W : World => W.cell? ⟨xb, xo + i, none⟩ = some (.int .i64 ((x : Nat) : Int))) (by kernel_rfl) ?_
            generalize wr.drew = wd at HBd ⊢
            clear HB
            refine wpAnyJ_take 0 (v := ?_) (by first | exact hF | exact wideFn) (HS2.out _ HBd.out) rfl (by kernel_rfl) (by kernel_rfl) (by kernel_rfl) (by kernel_rfl) rfl ?_ (by first | exact fun _ _ _ h => h | exact fun _ _ _ h => hQ2 _ _ _ _ _ h) ?_
            rotate_left
            · intro W hSW
              simp only [glA, glB, glC]
              (try dsimp only at hSW)
              go_simp
              with_reducible rfl
            (try simp only [glA, glB, glC, Act.put, glD, glE, glF])
            refine wpAnyJ_take 1 (v := ?_) (by first | exact hF | exact wideFn) (HS2.out _ HBd.out) rfl (by kernel_rfl) (by kernel_rfl) (by kernel_rfl) (by kernel_rfl) rfl ?_ (by first | exact fun _ _ _ h => h | exact fun _ _ _ h => hQ2 _ _ _ _ _ h) ?_
            rotate_left
            · intro W hSW
              simp only [glA, glB, glC]
              (try dsimp only at hSW)
              go_simp
              with_reducible rfl
            (try simp only [glA, glB, glC, Act.put, glD, glE, glF])
            refine wpAnyJ_take 2 (v := ?_) (by first | exact hF | exact wideFn) (HS2.out _ HBd.out) rfl (by kernel_rfl) (by kernel_rfl) (by kernel_rfl) (by kernel_rfl) rfl ?_ (by first | exact fun _ _ _ h => h | exact fun _ _ _ h => hQ2 _ _ _ _ _ h) ?_
            rotate_left
            · intro W hSW
              simp only [glA, glB, glC]
              (try dsimp only at hSW)
              go_simp
              with_reducible rfl
            (try simp only [glA, glB, glC, Act.put, glD, glE, glF])
            refine wpAnyJ_take 3 (v := ?_) (by first | exact hF | exact wideFn) (HS2.out _ HBd.out) rfl (by kernel_rfl) (by kernel_rfl) (by kernel_rfl) (by kernel_rfl) rfl ?_ (by first | exact fun _ _ _ h => h | exact fun _ _ _ h => hQ2 _ _ _ _ _ h) ?_
            rotate_left
            · intro W hSW
              simp only [glA, glB, glC]
              (try dsimp only at hSW)
              go_simp
              with_reducible rfl
            (try simp only [glA, glB, glC, Act.put, glD, glE, glF])
            refine wpAnyJ_take 4 (v := ?_) (by first | exact hF | exact wideFn) (HS2.out _ HBd.out) rfl (by kernel_rfl) (by kernel_rfl) (by kernel_rfl) (by kernel_rfl) rfl ?_ (by first | exact fun _ _ _ h => h | exact fun _ _ _ h => hQ2 _ _ _ _ _ h) ?_
            rotate_left
            · intro W hSW
              simp only [glA, glB, glC]
              (try dsimp only at hSW)
              go_simp
              with_reducible rfl
            (try simp only [glA, glB, glC, Act.put, glD, glE, glF])
            refine wpAnyJ_one 5 rfl (by kernel_rfl) (fun K hK => ?_)
            simp only [glA, glB, glC]
            go_simp
            refine hK.out _ _ (fun _ => HS2.out _ (HBd.out.trans (((Below.refl _ _).alloc (Nat.le_refl _) _).mono HBd.out.size))) ?_
            clear hK K
            (try simp only [glA, glB, glC, Act.put, glD, glE, glF])
            refine wpAnyJ_one 6 rfl (by kernel_rfl) (fun K hK => ?_)
            simp only [glA, glB, glC]
            go_simp
            refine hK.out _ _ (fun _ => HS2.out _ (HBd.out.trans (((Below.refl _ _).alloc (Nat.le_refl _) _).mono HBd.out.size))) ?_
            clear hK K
            (try simp only [glA, glB, glC, Act.put, glD, glE, glF])
            refine wpAnyJ_take 7 (v := ?_) (by first | exact hF | exact wideFn) (HS2.out _ (HBd.out.trans (((Below.refl _ _).alloc (Nat.le_refl _) _).mono HBd.out.size))) rfl (by kernel_rfl) (by kernel_rfl) (by kernel_rfl) (by kernel_rfl) rfl ?_ (by first | exact fun _ _ _ h => h | exact fun _ _ _ h => hQ2 _ _ _ _ _ h) ?_
            rotate_left
            · intro W hSW
              simp only [glA, glB, glC]
              (try dsimp only at hSW)
              go_simp
              with_reducible rfl
            (try simp only [glA, glB, glC, Act.put, glD, glE, glF])
            refine wpAnyJ_done (by kernel_rfl) ?_
            have HG0 : Hid (AR w4 (wd.alloc (.cells #[.int .i64 0, .int .i64 0, .int .i64 0, .int .i64 0, .int .i64 0, .int .i64 0, .int .i64 0, .int .i64 0, .int .i64 0, .int .i64 0, .int .i64 0, .int .i64 0, .int .i64 0, .int .i64 0, .int .i64 0, .int .i64 0] 44)) wd.heap.size 44 (fun _ => .int .i64 0)) := hide ⟨HBd.out.trans (((Below.refl _ _).alloc (Nat.le_refl _) _).mono HBd.out.size), HBd.out.size, Blk.new _ _ _⟩
            obtain ⟨G, hG⟩ : ∃ s, wd.heap.size = s := ⟨_, rfl⟩
            rw [show (AR w4 _ wd.heap.size _ _) = AR w4 _ G _ _ from by rw [hG]] at HG0
            rw [hG]
            clear hG HBd HS2
            generalize (wd.alloc (.cells #[.int .i64 0, .int .i64 0, .int .i64 0, .int .i64 0, .int .i64 0, .int .i64 0, .int .i64 0, .int .i64 0, .int .i64 0, .int .i64 0, .int .i64 0, .int .i64 0, .int .i64 0, .int .i64 0, .int .i64 0, .int .i64 0] 44)) = wg at HG0 ⊢
            by_cases hi0 : i = 0
            · as_aux_lemma =>
              have iz : ¬ 0 < i := by omega
              have HG1 : Hid (AR w4 wg G 44 (fun v => .int .i64 (nrF p Af i (i + 1) v))) := hide (HG0.out.congr (fun v _ => by
                rw [nrF_low p Af i v (i + 1) (Nat.le_refl _), if_neg (by omega)]))
              clear HG0 hi0
              go_wp2_with fail
              go_loopw [15] (fun kk wr => ∃ q : Nat, i + 1 ≤ q ∧ q ≤ k ∧ kk = .int .i64 q ∧ Hid (AR w4 wr G 44 (fun v => .int .i64 (nrF p Af i q v)))) (fun kk _ => k - (intOf kk).toNat)
              case atStart => exact ⟨i + 1, Nat.le_refl _, by omega, by go_num, HG1⟩
              case round =>
                obtain ⟨e, he1, he2, rfl, HE⟩ := hrel
                clear HG1
                by_cases hek : e < k
                · as_aux_lemma =>
                  have hek' : (e : Int) < (k : Int) := by omega
                  have e0 : (0 : Int) ≤ (e : Int) := by omega
                  have est : IntKind.i64.wrap ((e : Int) + 1) = ((e + 1 : Nat) : Int) := by rw [IntWalk.i64_in _ (by omega)]; omega
                  obtain ⟨a, ha⟩ : ∃ u, Af e = u := ⟨_, rfl⟩
                  obtain ⟨b, hb⟩ : ∃ u, p e = u := ⟨_, rfl⟩
                  obtain ⟨-, -, a3, -⟩ := HOK.out e hek
                  obtain ⟨k1, -, k3⟩ := HRD.out _ HE.out.below e hek
                  rw [ha] at a3 k3
                  rw [hb] at k1
                  have a0 : (0 : Int) ≤ (a : Int) := by omega
                  have a4 : (a : Int) < 16 := by omega
                  obtain ⟨nv, hnv⟩ : ∃ v, nrF p Af i e a = v := ⟨_, rfl⟩
                  have hbd := nrF_bd p Af i a e
                  have ga := HE.out.at_ (v := a) a3
                  rw [hnv] at ga hbd
                  have gf := HE.out.blk.frozen a
                  have gl := HE.out.blk.lt
                  have gw : IntKind.i64.wrap (nv + 1) = nv + 1 := by rw [IntWalk.i64_in _ (by omega)]
                  clear hbd
                  by_cases hbi : b = (i : Int)
                  · subst hbi
                    have HE1 : Hid (AR w4 (wr.setCell ⟨G, a, none⟩ (.int .i64 (nv + 1))) G 44 (fun v => .int .i64 (nrF p Af i (e + 1) v))) := hide (HE.out.put a (.int .i64 (nv + 1)) (fun v _ => by
                      have h : nrF p Af i (e + 1) v = nrF p Af i e v + if i < e ∧ p e = (i : Int) ∧ v = Af e then 1 else 0 := rfl
                      rw [h, ha]
                      by_cases q : v = a
                      · rw [if_pos ⟨by omega, hb, q⟩, if_pos q, q, hnv]
                      · rw [if_neg (fun h => q h.2.2), if_neg q, Int.add_zero]))
                    clear ha hb hnv
                    go_wp2_with fail
                    go_roundw
                    case rel => exact ⟨e + 1, by omega, by omega, by go_num, HE1⟩
                    case measure => simp [intOf]; omega
                  · have hb1 : (b == (i : Int)) = false := by simp [hbi]
                    have HE1 : Hid (AR w4 wr G 44 (fun v => .int .i64 (nrF p Af i (e + 1) v))) := hide (HE.out.congr (fun v _ => by
                      have h : nrF p Af i (e + 1) v = nrF p Af i e v + if i < e ∧ p e = (i : Int) ∧ v = Af e then 1 else 0 := rfl
                      rw [h, if_neg (fun h => hbi (by rw [← hb]; exact h.2.1)), Int.add_zero]))
                    clear ha hb hnv hbi
                    go_wp2_with fail
                    go_roundw
                    case rel => exact ⟨e + 1, by omega, by omega, by go_num, HE1⟩
                    case measure => simp [intOf]; omega
                · as_aux_lemma =>
                  obtain rfl : e = k := by omega
                  have hne : ¬ (e : Int) < (e : Int) := by omega
                  go_wp2_with fail
                  go_loopw [16] (fun vv wr => ∃ v : Nat, v ≤ 16 ∧ vv = .int .i64 v ∧ Hid (AR w4 wr G 44 (fun v => .int .i64 (nrF p Af i e v)))) (fun vv _ => 16 - (intOf vv).toNat)
                  case atStart => exact ⟨0, by omega, rfl, HE⟩
                  case round =>
                    obtain ⟨v, hv, rfl, HV⟩ := hrel
                    by_cases hv16 : v < 16
                    · have v1 : (v : Int) ≤ 15 := by omega
                      have v0 : (0 : Int) ≤ (v : Int) := by omega
                      have v2 : (v : Int) < 16 := by omega
                      have vst : IntKind.i64.wrap ((v : Int) + 1) = ((v + 1 : Nat) : Int) := by rw [IntWalk.i64_in _ (by omega)]; omega
                      have hle := HNR.out HY0.out v hv16
                      have HV1 := hide (HV.out.ext (Below.refl _ _).drew)
                      go_upto_region 37 with fail
                      have g1 := HV1.out.at_ (v := v) hv16
                      have g2 := HV1.out.at_ (v := x) z3
                      obtain ⟨nv, hnv⟩ : ∃ y, nrF p Af i e v = y := ⟨_, rfl⟩
                      obtain ⟨nx, hnx⟩ : ∃ y, nrF p Af i e x = y := ⟨_, rfl⟩
                      rw [hnv] at g1 hle
                      rw [hnx] at g2 hle
                      clear hnv hnx
                      have hlt3 : ¬ nx < nv := by omega
                      refine wp_region_J (fun W : World => (W.cell? ⟨G, v, none⟩ = some (.int .i64 nv) ∧ W.cell? ⟨G, x, none⟩ = some (.int .i64 nx))) (by kernel_rfl) ?_
                      generalize wr.drew = wv at HV1 g1 g2 ⊢
                      have hh := And.intro g1 g2
                      refine wpAnyJ_take 0 (v := ?_) (by first | exact hF | exact wideFn) hh rfl (by kernel_rfl) (by kernel_rfl) (by kernel_rfl) (by kernel_rfl) rfl ?_ (by first | exact fun _ _ _ h => h | exact fun _ _ _ h => hQ2 _ _ _ _ _ h) ?_
                      rotate_left
                      · intro W hSW
                        simp only [glA, glB, glC]
                        (try dsimp only at hSW)
                        go_simp
                        with_reducible rfl
                      (try simp only [glA, glB, glC, Act.put, glD, glE, glF])
                      refine wpAnyJ_take 1 (v := ?_) (by first | exact hF | exact wideFn) hh rfl (by kernel_rfl) (by kernel_rfl) (by kernel_rfl) (by kernel_rfl) rfl ?_ (by first | exact fun _ _ _ h => h | exact fun _ _ _ h => hQ2 _ _ _ _ _ h) ?_
                      rotate_left
                      · intro W hSW
                        simp only [glA, glB, glC]
                        (try dsimp only at hSW)
                        go_simp
                        with_reducible rfl
                      (try simp only [glA, glB, glC, Act.put, glD, glE, glF])
                      refine wpAnyJ_take 2 (v := ?_) (by first | exact hF | exact wideFn) hh rfl (by kernel_rfl) (by kernel_rfl) (by kernel_rfl) (by kernel_rfl) rfl ?_ (by first | exact fun _ _ _ h => h | exact fun _ _ _ h => hQ2 _ _ _ _ _ h) ?_
                      rotate_left
                      · intro W hSW
                        simp only [glA, glB, glC]
                        (try dsimp only at hSW)
                        go_simp
                        with_reducible rfl
                      (try simp only [glA, glB, glC, Act.put, glD, glE, glF])
                      refine wpAnyJ_take 3 (v := ?_) (by first | exact hF | exact wideFn) hh rfl (by kernel_rfl) (by kernel_rfl) (by kernel_rfl) (by kernel_rfl) rfl ?_ (by first | exact fun _ _ _ h => h | exact fun _ _ _ h => hQ2 _ _ _ _ _ h) ?_
                      rotate_left
                      · intro W hSW
                        simp only [glA, glB, glC]
                        (try dsimp only at hSW)
                        go_simp
                        with_reducible rfl
                      (try simp only [glA, glB, glC, Act.put, glD, glE, glF])
                      refine wpAnyJ_take 4 (v := ?_) (by first | exact hF | exact wideFn) hh rfl (by kernel_rfl) (by kernel_rfl) (by kernel_rfl) (by kernel_rfl) rfl ?_ (by first | exact fun _ _ _ h => h | exact fun _ _ _ h => hQ2 _ _ _ _ _ h) ?_
                      rotate_left
                      · intro W hSW
                        simp only [glA, glB, glC]
                        (try dsimp only at hSW)
                        go_simp
                        with_reducible rfl
                      (try simp only [glA, glB, glC, Act.put, glD, glE, glF])
                      refine wpAnyJ_take 5 (v := ?_) (by first | exact hF | exact wideFn) hh rfl (by kernel_rfl) (by kernel_rfl) (by kernel_rfl) (by kernel_rfl) rfl ?_ (by first | exact fun _ _ _ h => h | exact fun _ _ _ h => hQ2 _ _ _ _ _ h) ?_
                      rotate_left
                      · intro W hSW
                        simp only [glA, glB, glC]
                        (try dsimp only at hSW)
                        go_simp
                        with_reducible rfl
                      (try simp only [glA, glB, glC, Act.put, glD, glE, glF])
                      refine wpAnyJ_take 6 (v := ?_) (by first | exact hF | exact wideFn) hh rfl (by kernel_rfl) (by kernel_rfl) (by kernel_rfl) (by kernel_rfl) rfl ?_ (by first | exact fun _ _ _ h => h | exact fun _ _ _ h => hQ2 _ _ _ _ _ h) ?_
                      rotate_left
                      · intro W hSW
                        simp only [glA, glB, glC]
                        (try dsimp only at hSW)
                        go_simp
                        with_reducible rfl
                      (try simp only [glA, glB, glC, Act.put, glD, glE, glF])
                      refine wpAnyJ_done (by kernel_rfl) ?_
                      go_wp2_with fail
                      go_roundw
                      case rel => exact ⟨v + 1, by omega, by go_num, HV1⟩
                      case measure => simp [intOf]; omega
                    · obtain rfl : v = 16 := by omega
                      have v1 : ¬ ((16 : Nat) : Int) ≤ 15 := by omega
                      go_wp2_with fail
                      go_roundw
                      case rel => exact ⟨i + 1, by omega, by go_num, hide HV.out.below⟩
                      case measure => simp [intOf]; omega
            · as_aux_lemma =>
              have ip : 0 < i := by omega
              obtain ⟨q, rfl⟩ : ∃ q : Nat, z = (q : Int) := ⟨z.toNat, by omega⟩
              have q1 : q < i := by omega
              have q4 : (0 : Int) ≤ (q : Int) := by omega
              have q5 : (q : Int) < (k : Int) := by omega
              obtain ⟨u, hu⟩ : ∃ u, Af q = u := ⟨_, rfl⟩
              obtain ⟨-, -, u3, -⟩ := HOK.out q (by omega)
              have cu := (HRD.out _ HG0.out.below q (by omega)).2.2
              rw [hu] at u3 cu
              have u0 : (0 : Int) ≤ (u : Int) := by omega
              have u4' : (u : Int) < 16 := by omega
              have hu2 : Af (p i).toNat = u := by rw [HX.out.2.2]; exact hu
              have gu := HG0.out.at_ (v := u) u3
              have gf := HG0.out.blk.frozen u
              have gl := HG0.out.blk.lt
              have HG1 : Hid (AR w4 (wg.setCell ⟨G, u, none⟩ (.int .i64 1)) G 44 (fun v => .int .i64 (nrF p Af i (i + 1) v))) := hide (HG0.out.put u (.int .i64 1) (fun v _ => by
                rw [nrF_low p Af i v (i + 1) (Nat.le_refl _), hu2]
                by_cases e : v = u
                · rw [if_pos ⟨ip, e⟩, if_pos e]
                · rw [if_neg (fun h => e h.2), if_neg e]))
              obtain ⟨c1', c2', c3'⟩ := HCL.out _ HG0.out.below
              clear hu hu2 HG0
              go_upto_region 29 with fail
              clear c1' c2' c3' cu gu gf gl
              generalize (wg.setCell ⟨G, u, none⟩ (.int .i64 1)) = wg at HG1 ⊢
              go_wp2_with fail
              go_loopw [15] (fun kk wr => ∃ q : Nat, i + 1 ≤ q ∧ q ≤ k ∧ kk = .int .i64 q ∧ Hid (AR w4 wr G 44 (fun v => .int .i64 (nrF p Af i q v)))) (fun kk _ => k - (intOf kk).toNat)
              case atStart => exact ⟨i + 1, Nat.le_refl _, by omega, by go_num, HG1⟩
              case round =>
                obtain ⟨e, he1, he2, rfl, HE⟩ := hrel
                clear HG1
                by_cases hek : e < k
                · as_aux_lemma =>
                  have hek' : (e : Int) < (k : Int) := by omega
                  have e0 : (0 : Int) ≤ (e : Int) := by omega
                  have est : IntKind.i64.wrap ((e : Int) + 1) = ((e + 1 : Nat) : Int) := by rw [IntWalk.i64_in _ (by omega)]; omega
                  obtain ⟨a, ha⟩ : ∃ u, Af e = u := ⟨_, rfl⟩
                  obtain ⟨b, hb⟩ : ∃ u, p e = u := ⟨_, rfl⟩
                  obtain ⟨-, -, a3, -⟩ := HOK.out e hek
                  obtain ⟨k1, -, k3⟩ := HRD.out _ HE.out.below e hek
                  rw [ha] at a3 k3
                  rw [hb] at k1
                  have a0 : (0 : Int) ≤ (a : Int) := by omega
                  have a4 : (a : Int) < 16 := by omega
                  obtain ⟨nv, hnv⟩ : ∃ v, nrF p Af i e a = v := ⟨_, rfl⟩
                  have hbd := nrF_bd p Af i a e
                  have ga := HE.out.at_ (v := a) a3
                  rw [hnv] at ga hbd
                  have gf := HE.out.blk.frozen a
                  have gl := HE.out.blk.lt
                  have gw : IntKind.i64.wrap (nv + 1) = nv + 1 := by rw [IntWalk.i64_in _ (by omega)]
                  clear hbd
                  by_cases hbi : b = (i : Int)
                  · subst hbi
                    have HE1 : Hid (AR w4 (wr.setCell ⟨G, a, none⟩ (.int .i64 (nv + 1))) G 44 (fun v => .int .i64 (nrF p Af i (e + 1) v))) := hide (HE.out.put a (.int .i64 (nv + 1)) (fun v _ => by
                      have h : nrF p Af i (e + 1) v = nrF p Af i e v + if i < e ∧ p e = (i : Int) ∧ v = Af e then 1 else 0 := rfl
                      rw [h, ha]
                      by_cases q : v = a
                      · rw [if_pos ⟨by omega, hb, q⟩, if_pos q, q, hnv]
                      · rw [if_neg (fun h => q h.2.2), if_neg q, Int.add_zero]))
                    clear ha hb hnv
                    go_wp2_with fail
                    go_roundw
                    case rel => exact ⟨e + 1, by omega, by omega, by go_num, HE1⟩
                    case measure => simp [intOf]; omega
                  · have hb1 : (b == (i : Int)) = false := by simp [hbi]
                    have HE1 : Hid (AR w4 wr G 44 (fun v => .int .i64 (nrF p Af i (e + 1) v))) := hide (HE.out.congr (fun v _ => by
                      have h : nrF p Af i (e + 1) v = nrF p Af i e v + if i < e ∧ p e = (i : Int) ∧ v = Af e then 1 else 0 := rfl
                      rw [h, if_neg (fun h => hbi (by rw [← hb]; exact h.2.1)), Int.add_zero]))
                    clear ha hb hnv hbi
                    go_wp2_with fail
                    go_roundw
                    case rel => exact ⟨e + 1, by omega, by omega, by go_num, HE1⟩
                    case measure => simp [intOf]; omega
                · as_aux_lemma =>
                  obtain rfl : e = k := by omega
                  have hne : ¬ (e : Int) < (e : Int) := by omega
                  go_wp2_with fail
                  go_loopw [16] (fun vv wr => ∃ v : Nat, v ≤ 16 ∧ vv = .int .i64 v ∧ Hid (AR w4 wr G 44 (fun v => .int .i64 (nrF p Af i e v)))) (fun vv _ => 16 - (intOf vv).toNat)
                  case atStart => exact ⟨0, by omega, rfl, HE⟩
                  case round =>
                    obtain ⟨v, hv, rfl, HV⟩ := hrel
                    by_cases hv16 : v < 16
                    · have v1 : (v : Int) ≤ 15 := by omega
                      have v0 : (0 : Int) ≤ (v : Int) := by omega
                      have v2 : (v : Int) < 16 := by omega
                      have vst : IntKind.i64.wrap ((v : Int) + 1) = ((v + 1 : Nat) : Int) := by rw [IntWalk.i64_in _ (by omega)]; omega
                      have hle := HNR.out HY0.out v hv16
                      have HV1 := hide (HV.out.ext (Below.refl _ _).drew)
                      go_upto_region 37 with fail
                      have g1 := HV1.out.at_ (v := v) hv16
                      have g2 := HV1.out.at_ (v := x) z3
                      obtain ⟨nv, hnv⟩ : ∃ y, nrF p Af i e v = y := ⟨_, rfl⟩
                      obtain ⟨nx, hnx⟩ : ∃ y, nrF p Af i e x = y := ⟨_, rfl⟩
                      rw [hnv] at g1 hle
                      rw [hnx] at g2 hle
                      clear hnv hnx
                      have hlt3 : ¬ nx < nv := by omega
                      refine wp_region_J (fun W : World => (W.cell? ⟨G, v, none⟩ = some (.int .i64 nv) ∧ W.cell? ⟨G, x, none⟩ = some (.int .i64 nx))) (by kernel_rfl) ?_
                      generalize wr.drew = wv at HV1 g1 g2 ⊢
                      have hh := And.intro g1 g2
                      refine wpAnyJ_take 0 (v := ?_) (by first | exact hF | exact wideFn) hh rfl (by kernel_rfl) (by kernel_rfl) (by kernel_rfl) (by kernel_rfl) rfl ?_ (by first | exact fun _ _ _ h => h | exact fun _ _ _ h => hQ2 _ _ _ _ _ h) ?_
                      rotate_left
                      · intro W hSW
                        simp only [glA, glB, glC]
                        (try dsimp only at hSW)
                        go_simp
                        with_reducible rfl
                      (try simp only [glA, glB, glC, Act.put, glD, glE, glF])
                      refine wpAnyJ_take 1 (v := ?_) (by first | exact hF | exact wideFn) hh rfl (by kernel_rfl) (by kernel_rfl) (by kernel_rfl) (by kernel_rfl) rfl ?_ (by first | exact fun _ _ _ h => h | exact fun _ _ _ h => hQ2 _ _ _ _ _ h) ?_
                      rotate_left
                      · intro W hSW
                        simp only [glA, glB, glC]
                        (try dsimp only at hSW)
                        go_simp
                        with_reducible rfl
                      (try simp only [glA, glB, glC, Act.put, glD, glE, glF])
                      refine wpAnyJ_take 2 (v := ?_) (by first | exact hF | exact wideFn) hh rfl (by kernel_rfl) (by kernel_rfl) (by kernel_rfl) (by kernel_rfl) rfl ?_ (by first | exact fun _ _ _ h => h | exact fun _ _ _ h => hQ2 _ _ _ _ _ h) ?_
                      rotate_left
                      · intro W hSW
                        simp only [glA, glB, glC]
                        (try dsimp only at hSW)
                        go_simp
                        with_reducible rfl
                      (try simp only [glA, glB, glC, Act.put, glD, glE, glF])
                      refine wpAnyJ_take 3 (v := ?_) (by first | exact hF | exact wideFn) hh rfl (by kernel_rfl) (by kernel_rfl) (by kernel_rfl) (by kernel_rfl) rfl ?_ (by first | exact fun _ _ _ h => h | exact fun _ _ _ h => hQ2 _ _ _ _ _ h) ?_
                      rotate_left
                      · intro W hSW
                        simp only [glA, glB, glC]
                        (try dsimp only at hSW)
                        go_simp
                        with_reducible rfl
                      (try simp only [glA, glB, glC, Act.put, glD, glE, glF])
                      refine wpAnyJ_take 4 (v := ?_) (by first | exact hF | exact wideFn) hh rfl (by kernel_rfl) (by kernel_rfl) (by kernel_rfl) (by kernel_rfl) rfl ?_ (by first | exact fun _ _ _ h => h | exact fun _ _ _ h => hQ2 _ _ _ _ _ h) ?_
                      rotate_left
                      · intro W hSW
                        simp only [glA, glB, glC]
                        (try dsimp only at hSW)
                        go_simp
                        with_reducible rfl
                      (try simp only [glA, glB, glC, Act.put, glD, glE, glF])
                      refine wpAnyJ_take 5 (v := ?_) (by first | exact hF | exact wideFn) hh rfl (by kernel_rfl) (by kernel_rfl) (by kernel_rfl) (by kernel_rfl) rfl ?_ (by first | exact fun _ _ _ h => h | exact fun _ _ _ h => hQ2 _ _ _ _ _ h) ?_
                      rotate_left
                      · intro W hSW
                        simp only [glA, glB, glC]
                        (try dsimp only at hSW)
                        go_simp
                        with_reducible rfl
                      (try simp only [glA, glB, glC, Act.put, glD, glE, glF])
                      refine wpAnyJ_take 6 (v := ?_) (by first | exact hF | exact wideFn) hh rfl (by kernel_rfl) (by kernel_rfl) (by kernel_rfl) (by kernel_rfl) rfl ?_ (by first | exact fun _ _ _ h => h | exact fun _ _ _ h => hQ2 _ _ _ _ _ h) ?_
                      rotate_left
                      · intro W hSW
                        simp only [glA, glB, glC]
                        (try dsimp only at hSW)
                        go_simp
                        with_reducible rfl
                      (try simp only [glA, glB, glC, Act.put, glD, glE, glF])
                      refine wpAnyJ_done (by kernel_rfl) ?_
                      go_wp2_with fail
                      go_roundw
                      case rel => exact ⟨v + 1, by omega, by go_num, HV1⟩
                      case measure => simp [intOf]; omega
                    · obtain rfl : v = 16 := by omega
                      have v1 : ¬ ((16 : Nat) : Int) ≤ 15 := by omega
                      go_wp2_with fail
                      go_roundw
                      case rel => exact ⟨i + 1, by omega, by go_num, hide HV.out.below⟩
                      case measure => simp [intOf]; omega
        · obtain rfl : i = k := by omega
          have hnl2 : ¬ (i : Int) < (i : Int) := by omega
          have HK := hide (known_any wr)
          go_wp2_with fail
          refine HK.out.mono ?_
          rintro e w6 ⟨rfl, hb6⟩
          go_wp2_with fail
          go_ret
          exact ⟨rfl, (B4.out.trans (HB.out.mono B4.out.size)).trans (hb6.mono (Nat.le_trans B4.out.size HB.out.size))⟩
end Go.Proofs.YtmpegkojencbjaaDoor
/- How a law's statement follows from its walk; arguments opened as readings. -/
namespace Go.Proofs.YtmpegkojencbjaaDoor
open Go Go.RowKit Go.ChangeShapes Go.WideShapes Go.ChangeAt
set_option maxRecDepth 100000
theorem own_knob : ownKnob Tryd.prog.godebug = none := by kernel_rfl
theorem laidOut : laidOutB Tryd.prog = true := by kernel_rfl
section
variable {H : Type} {enc : TypeId × Value → H}
/-- arguments read behind the call as before, if below the heap's old size nothing has turned -/
theorem stay_all {W W' : World} (hb : Below W.heap.size W W') {sp : Nat → Bool} : ∀ {ts : List TypeId} {vs : List Value} {ds : List (DataW H)} {ps : List MemPlace},
    (∀ t ∈ ts, Tryd.prog.readableRec t = true ∧ t < Tryd.prog.types.size) → DataW.TrodAll enc Tryd.prog W 0 (fun _ => true) true ts vs ds ps → (∀ x ∈ ps, x.block < W.heap.size) → (∀ x ∈ ps, sp x.block = true) →
    DataW.TrodAll enc Tryd.prog W' 0 sp true ts vs ds ps
  | [], _, _, _, _, h, _, _ => by
    obtain ⟨rfl, rfl, rfl⟩ := trodAll_nil h
    exact trodAll_mk0
  | t :: ts, _, _, _, hr, h, hlt, hsp => by
    obtain ⟨v, vs, d, ds, p, q, rfl, rfl, rfl, h0, r0⟩ := trodAll_cons h
    have k := hr t (by simp)
    exact trodAll_cons_mk (WideElems.Trod_stays laidOut k.1 k.2 h0 (fun x hx => hb.same (hlt x (by simp [hx]))) (fun x hx => hsp x (by simp [hx])))
      (stay_all hb (fun t ht => hr t (by simp [ht])) r0 (fun x hx => hlt x (by simp [hx])) (fun x hx => hsp x (by simp [hx])))
/-- a law that returned true and turned nothing old -/
theorem law_post {f : Func} {s : ChangeSpec} {apart fresh handsOn again : Bool} {W W' : World} {args : Array Value} {ds gs : List (DataW H)} {before : List MemPlace}
    (hW : DataW.Whole enc Tryd.prog f.params.toList s.vars apart W args.toList ds gs before) (hb : Below W.heap.size W W')
    (hvs : s.vars = []) (hr1 : f.resultTypes = #[4])
    (hpar : f.params.toList.all (fun t => Tryd.prog.readableRec t && decide (t < Tryd.prog.types.size)) = true)
    (hfn : (s.fn H ds).results = [.lit (.bool true)] ∧ (s.fn H ds).args = ds ∧ (s.fn H ds).vars = []) :
    s.post enc Tryd.prog f apart fresh handsOn again W args (.bool true) W' := by
  have hW0 := hW
  have hlt : ∀ p ∈ before, p.block < W.heap.size := fun p hp => hW.lt p hp
  have hold : ∀ p ∈ before, (fun b => decide (b < W.heap.size)) p.block = true := fun p hp => by simpa using hlt p hp
  obtain ⟨p, q, hA, hV, rfl, hz, hn⟩ := hW
  rw [hvs] at hV
  obtain ⟨rfl, rfl⟩ := trodVars_none hV
  simp only [List.append_nil] at *
  have hk : ∀ t ∈ f.params.toList, Tryd.prog.readableRec t = true ∧ t < Tryd.prog.types.size := by
    intro t ht
    have := List.all_eq_true.1 hpar t ht
    simpa using this
  have hargs : ∀ sp : Nat → Bool, (∀ x ∈ p, sp x.block = true) → DataW.TrodAll enc Tryd.prog W' 0 sp true f.params.toList args.toList (s.fn H (ds ++ [])).args p := fun sp hsp => by
    rw [List.append_nil, hfn.2.1]; exact stay_all hb hk hA hlt hsp
  have hvars : ∀ sp : Nat → Bool, DataW.TrodVars enc Tryd.prog W' sp s.vars (s.fn H (ds ++ [])).vars [] := fun sp => by
    rw [hvs, List.append_nil, hfn.2.2]; exact rfl
  have hres : ∀ (b : Nat) (sp : Nat → Bool) (hd : Bool), DataW.TrodAll enc Tryd.prog W' b sp hd f.resultTypes.toList ((Value.bool true).resultList f.resultTypes.size) (s.fn H (ds ++ [])).results [] := fun b sp hd => by
    rw [List.append_nil, hfn.1, hr1]
    exact trodAll_cons_mk (shut_bool Tryd.underlying4 _) trodAll_mk0
  refine ⟨ds, [], p, [], p, [], hW0, hres _ _ _, hargs _ hold, hvars _, World.keptBut_mono (fun x hx => ⟨hx, Or.inr (by simpa using hx)⟩) (hb.frame (· ∈ p)), fun _ => ?_⟩
  refine ⟨ok_one hr1 rfl (okWide_bool_mk Tryd.underlying4 _), _, _, ([] ++ p) ++ [], ⟨[] ++ p, [], trodAll_append (hargs _ (fun _ _ => rfl)) (hres _ _ _), hvars (fun _ => true), rfl, ?_, ?_⟩, ?_⟩
  · intro b off hp
    have hin : MemPlace.cell b off ∈ p := by simpa using hp
    rw [hb.frozen (hlt _ hin)]
    exact hz b off hin
  · intro ha
    simpa using hn ha
  · intro x hx _
    simpa using hx
/-- a slice of structs of two cells: the readings of its elements -/
theorem open_pairs_c {W : World} {t e : TypeId} {f0 f1 : Field} {v : Value} {x : DataW H × List MemPlace} {fuel : Nat} (ht : Tryd.prog.underlying t = some (.slice e)) (he : Tryd.prog.underlying e = some (.struct #[f0, f1]))
    (ce : Tryd.prog.cellsOf e = 2) (o0 : f0.offset = 0) (o1 : f1.offset = 1) (c0 : Tryd.prog.cellsOf f0.type = 1) (c1 : Tryd.prog.cellsOf f1.type = 1)
    (h : DataW.trod enc Tryd.prog W 0 (fun _ => true) true fuel t [v] = some x) (hlt : ∀ y ∈ x.2, y.block < W.heap.size) :
    ∃ A n c V0 V1, v = .slice A n c ∧ n ≤ maxLen ∧ n ≤ c ∧ P2 W W.heap.size A n V0 V1 ∧ ∀ i, i < n → ∃ m x0 x1, DataW.trod enc Tryd.prog W 0 (fun _ => true) true m f0.type [V0 i] = some x0 ∧ DataW.trod enc Tryd.prog W 0 (fun _ => true) true m f1.type [V1 i] = some x1 ∧
      (∀ y ∈ x0.2, y.block < W.heap.size) ∧ (∀ y ∈ x1.2, y.block < W.heap.size) := by
  rcases Deep.open_slice_pairs ht he ce o0 o1 c0 c1 h with ⟨h1, -⟩ | ⟨a, len, cap, m, n, V0, V1, D0, D1, P0, P1, h1, hb, hl, hm, hmm, hx, hc⟩
  · injection h1 with h1
    subst h1
    exact ⟨none, 0, 0, fun _ => .nilIface, fun _ => .nilIface, rfl, by simp [maxLen], Nat.le_refl _, ER.nil _ _ _ _ _, fun i hi => absurd hi (by omega)⟩
  · injection h1 with h1
    subst h1
    simp only [if_true] at hmm
    subst hmm
    refine ⟨some a, len, m, V0, V1, rfl, by omega, hl, fun hn => ?_, fun i hi => ?_⟩
    · have h0 := (hc 0 (by omega)).1
      obtain ⟨b, off, spot⟩ := a
      have hsp : spot = none := by simpa [Addr.add] using World.cell?_spot h0
      subst hsp
      refine ⟨b, off, rfl, ?_, fun k i hk hi => ?_⟩
      · have hb1 := hlt (.cell b (off + 0)) (by
          rw [hx]
          exact List.mem_append_left _ (MemPlace.mem_row.2 ⟨0, by omega, rfl⟩))
        exact hb1
      · have hk2 := hc k (by omega)
        have q0 := hk2.1
        have q1 := hk2.2.1
        rw [add_lit'] at q0 q1
        rcases (by omega : i = 0 ∨ i = 1) with rfl | rfl
        · simpa using q0
        · simpa [Nat.add_assoc] using q1
    · have hi2 := hc i (by omega)
      refine ⟨n, _, _, hi2.2.2.1, hi2.2.2.2, fun y hy => hlt y ?_, fun y hy => hlt y ?_⟩
      · rw [hx]; exact List.mem_append_right _ (List.mem_flatMap.2 ⟨i, by simp; omega, List.mem_append_left _ hy⟩)
      · rw [hx]; exact List.mem_append_right _ (List.mem_flatMap.2 ⟨i, by simp; omega, List.mem_append_right _ hy⟩)
/-- a slice of ints -/
theorem open_ints_c {W : World} {t : TypeId} {v : Value} {x : DataW H × List MemPlace} {fuel : Nat} (ht : Tryd.prog.underlying t = some (.slice 3))
    (h : DataW.trod enc Tryd.prog W 0 (fun _ => true) true fuel t [v] = some x) (hlt : ∀ y ∈ x.2, y.block < W.heap.size) :
    ∃ A n c z, v = .slice A n c ∧ n ≤ maxLen ∧ n ≤ c ∧ IR W W.heap.size A n z ∧ ∀ i, i < n → -9223372036854775808 ≤ z i ∧ z i ≤ 9223372036854775807 := by
  rcases open_ints ht Tryd.underlying3 (by kernel_rfl) h with ⟨h1, -⟩ | ⟨a, len, cap, zs, h1, hb, hl, hm, hz, hx, hc, hwf⟩
  · injection h1 with h1
    subst h1
    exact ⟨none, 0, 0, fun _ => 0, rfl, by simp [maxLen], Nat.le_refl _, ER.nil _ _ _ _ _, fun i hi => absurd hi (by omega)⟩
  · injection h1 with h1
    subst h1
    simp only [if_true] at hz
    refine ⟨some a, len, cap, fun i => zs.getD i 0, rfl, by omega, hl, fun hn => ?_, fun i hi => ?_⟩
    · have h0 := hc 0 (by omega)
      obtain ⟨b, off, spot⟩ := a
      have hsp : spot = none := by simpa [Addr.add] using World.cell?_spot h0
      subst hsp
      refine ⟨b, off, rfl, ?_, fun k i hk hi => ?_⟩
      · have hb1 := hlt (.cell b (off + 0)) (by
          rw [hx]
          exact MemPlace.mem_row.2 ⟨0, by omega, rfl⟩)
        exact hb1
      · obtain rfl : i = 0 := by omega
        have := hc k (by omega)
        rw [add_lit'] at this
        simpa using this
    · have h1 : zs.getD i 0 ∈ zs := by
        rw [List.getD_eq_getElem?_getD, List.getElem?_eq_getElem (by omega)]
        exact List.getElem_mem _
      have := hwf _ h1
      simp only [Lit.wf, Bool.and_eq_true, decide_eq_true_eq] at this
      simpa [IntKind.min, IntKind.max, IntKind.signed, IntKind.bits] using this
theorem int_of_trod {W : World} {t : TypeId} {v : Value} {x : DataW H × List MemPlace} {fuel : Nat} (ht : Tryd.prog.underlying t = some (.int .i64)) (h : DataW.trod enc Tryd.prog W 0 (fun _ => true) true fuel t [v] = some x) :
    v = .int .i64 (intOf v) ∧ -9223372036854775808 ≤ intOf v ∧ intOf v ≤ 9223372036854775807 := by
  obtain ⟨z, hz, -, hw⟩ := DataW.trod_int ht h
  injection hz with hz
  subst hz
  simp only [Lit.wf, Bool.and_eq_true, decide_eq_true_eq] at hw
  exact ⟨rfl, by simpa [intOf, IntKind.min, IntKind.max, IntKind.signed, IntKind.bits] using hw⟩
theorem cells_slice {A : Option Addr} {n c : Nat} : (Value.slice A n c).cells.toList = [.slice A n c] := rfl
/-- a slice of structs of two ints -/
theorem open_pairs {r : Reach} {b0 : Nat} {W : World} {t e : TypeId} {f0 f1 : Field} {v : Value} {d : DataW H} {p : List MemPlace} (ht : Tryd.prog.underlying t = some (.slice e)) (he : Tryd.prog.underlying e = some (.struct #[f0, f1]))
    (ce : Tryd.prog.cellsOf e = 2) (o0 : f0.offset = 0) (o1 : f1.offset = 1) (c0 : Tryd.prog.cellsOf f0.type = 1) (c1 : Tryd.prog.cellsOf f1.type = 1)
    (k0 : Tryd.prog.underlying f0.type = some (.int .i64)) (k1 : Tryd.prog.underlying f1.type = some (.int .i64)) (hval : Value.okWide Tryd.prog W r b0 t v)
    (h : DataW.Trod enc Tryd.prog W 0 (fun _ => true) true t v d p) (hlt : ∀ x ∈ p, x.block < W.heap.size) :
    ∃ A n c x y, v = .slice A n c ∧ n ≤ maxLen ∧ n ≤ c ∧ PI W W.heap.size A n x y := by
  obtain ⟨fuel, h⟩ := h
  obtain ⟨A, n, c, rfl⟩ := okWide_slice ht hval
  rw [cells_slice] at h
  obtain ⟨A', n', c', V0, V1, h1, hn, hnc, hP, hV⟩ := open_pairs_c ht he ce o0 o1 c0 c1 h hlt
  injection h1 with h1 h2 h3
  subst h1 h2 h3
  refine ⟨A, n, c, fun i => intOf (V0 i), fun i => intOf (V1 i), rfl, hn, hnc, fun hn0 => ?_⟩
  obtain ⟨b, off, hA, hb, hc⟩ := hP hn0
  refine ⟨b, off, hA, hb, fun k i hk hi => ?_⟩
  obtain ⟨m, x0, x1, g0, g1, -, -⟩ := hV k hk
  rw [hc k i hk hi]
  rcases (by omega : i = 0 ∨ i = 1) with rfl | rfl
  · simpa using (int_of_trod k0 g0).1
  · simpa using (int_of_trod k1 g1).1
end
end Go.Proofs.YtmpegkojencbjaaDoor
/- School: a law's arguments opened: texts. -/
namespace Go.Proofs.YtmpegkojencbjaaDoor
open Go Go.RowKit Go.ChangeShapes Go.WideShapes Go.ChangeAt
section
variable {H : Type} {enc : TypeId × Value → H} {r : Reach} {b0 : Nat} {W : World} {v : Value} {d : DataW H} {p : List MemPlace}
set_option maxRecDepth 100000
theorem open_words (hval : Value.okWide Tryd.prog W r b0 22 v) (h : DataW.Trod enc Tryd.prog W 0 (fun _ => true) true 22 v d p) (hlt : ∀ x ∈ p, x.block < W.heap.size) :
    ∃ (A : Option Addr) (c : Nat) (l : List Wd), v = .slice A l.length c ∧ SzOk l ∧ SR W W.heap.size A l := by
  obtain ⟨fuel, h⟩ := h
  obtain ⟨A, n, c, rfl⟩ := okWide_slice Tryd.underlying22 hval
  rw [cells_slice] at h
  rcases open_strings Tryd.underlying22 Tryd.underlying9 (by kernel_rfl) h with ⟨h1, -⟩ | ⟨a, len, cap, ss, h1, -, hl, hm, hz, hx, hc, hsz⟩
  · injection h1 with h1
    injection h1 with h1 h2 h3
    subst h1 h2 h3
    exact ⟨none, 0, [], rfl, ⟨Nat.zero_le _, fun x hx => absurd hx (by simp)⟩, ER.nil _ _ _ _ _⟩
  · injection h1 with h1
    injection h1 with h1 h2 h3
    subst h1 h2 h3
    simp only [if_true] at hz
    have hlen : (ss.take n).length = n := by rw [List.length_take]; omega
    refine ⟨some a, c, ss.take n, by rw [hlen], ⟨by omega, fun x hx => hsz x (List.mem_of_mem_take hx)⟩, ?_⟩
    unfold SR
    rw [hlen]
    refine fun hn => ?_
    have h0 := hc 0 (by omega)
    obtain ⟨b, off, spot⟩ := a
    have hsp : spot = none := by simpa [Addr.add] using World.cell?_spot h0
    subst hsp
    refine ⟨b, off, rfl, ?_, fun k i hk hi => ?_⟩
    · have hb1 := hlt (.cell b (off + 0)) (by
        rw [(Prod.mk.inj hx).2]
        exact MemPlace.mem_row.2 ⟨0, by omega, rfl⟩)
      exact hb1
    · obtain rfl : i = 0 := by omega
      have h2 := hc k (by omega)
      rw [add_lit'] at h2
      have h3 : (ss.take n).getD k noW = ss.getD k ByteArray.empty := by
        simp [List.getD_eq_getElem?_getD, List.getElem?_take, hk, noW]
        rfl
      show W.cell? ⟨b, off + k * 1 + 0, none⟩ = some (.string ((ss.take n).getD k noW))
      rw [h3]
      simpa using h2
end
end Go.Proofs.YtmpegkojencbjaaDoor
/- School: a law's arguments opened: lists of ints. -/
namespace Go.Proofs.YtmpegkojencbjaaDoor
open Go Go.RowKit Go.ChangeShapes Go.WideShapes Go.ChangeAt
section
variable {H : Type} {enc : TypeId × Value → H} {r : Reach} {b0 : Nat} {W : World} {v : Value} {d : DataW H} {p : List MemPlace}
set_option maxRecDepth 100000
theorem open_ints_l (hval : Value.okWide Tryd.prog W r b0 36 v) (h : DataW.Trod enc Tryd.prog W 0 (fun _ => true) true 36 v d p) (hlt : ∀ x ∈ p, x.block < W.heap.size) :
    ∃ (A : Option Addr) (c : Nat) (l : List Int), v = .slice A l.length c ∧ l.length ≤ maxLen ∧ LI W W.heap.size A l := by
  obtain ⟨fuel, h⟩ := h
  obtain ⟨A, n, c, rfl⟩ := okWide_slice Tryd.underlying36 hval
  rw [cells_slice] at h
  obtain ⟨A', n', c', z, h1, h2, -, h3, -⟩ := open_ints_c Tryd.underlying36 h hlt
  injection h1 with h1 h4 h5
  subst h1 h4 h5
  have hl : ((List.range n).map z).length = n := by simp
  refine ⟨A, c, (List.range n).map z, by rw [hl], by rw [hl]; exact h2, ?_⟩
  unfold LI
  rw [hl]
  refine fun hn => ?_
  obtain ⟨b, off, hA, hb, hc⟩ := h3 hn
  refine ⟨b, off, hA, hb, fun k i hk hi => ?_⟩
  rw [hc k i hk hi]
  have e : ((List.range n).map z).getD k 0 = z k := by
    rw [List.getD_eq_getElem?_getD, List.getElem?_map, List.getElem?_range hk]; rfl
  show some (Value.int .i64 (z k)) = some (Value.int .i64 (((List.range n).map z).getD k 0))
  rw [e]
end
end Go.Proofs.YtmpegkojencbjaaDoor
namespace Go.Proofs.YtmpegkojencbjaaDoor.schoolCopies
open Go Go.ChangeShapes Go.WideShapes Go.ChangeAt Go.RowKit
set_option maxRecDepth 100000 in
theorem lifted (os : Os) (started : os.Started) (H : Type) (enc : TypeId × Value → H) :
    ReturnsInHanded {} Tryd.checked os 7 .any (fun w args => (Rows.schoolCopiesSpec.pre enc Tryd.prog Tryd.f7 Rows.schoolCopiesRow.domain false w args ∧ laidMetH Tryd.prog Rows.schoolCopiesRow.laid w) ∧ sizedMet enc Tryd.prog Tryd.f7 (OpenSpec.ofChange Rows.schoolCopiesSpec) false w args)
      (Rows.schoolCopiesSpec.post enc Tryd.prog Tryd.f7 false true false false) := by
  refine returnsInHanded_of_change_and (C := Tryd.checked) (X := fun w _ => laidMetH Tryd.prog Rows.schoolCopiesRow.laid w) (fun _ _ _ hh h => h.of_heap hh) own_knob started (by kernel_rfl) Tryd.func7
    (ChangeSpec.witness_shaped (enc := enc) (C := Tryd.checked) (os := os) (X := fun w _ => laidMetH Tryd.prog Rows.schoolCopiesRow.laid w) false (World.laidAll Tryd.prog os Rows.schoolCopiesRow.laid) #[.slice none 0 0, .slice none 0 0] 8 (World.laidAll_os _ _ _)
      (World.shaped_of_ZipB (by kernel_rfl) (by kernel_rfl)) (by kernel_rfl) (by kernel_rfl) (by kernel_rfl)
      (by rw [MakeChecks.laidMetH_plain _ _ _ (by kernel_rfl)]; exact laidMet_laidAll _ (by kernel_rfl) (by kernel_rfl))) ?_
  intro W base args ds gs before hval0 hW _ _ hL _
  have hval : ∀ (j : Nat) t v, Tryd.f7.params[j]? = some t → args[j]? = some v → Value.okWide Tryd.prog W .any base t v := hval0
  have hW' := hW
  have hlt : ∀ p ∈ before, p.block < W.heap.size := fun p hp => hW.lt p hp
  obtain ⟨p, q, hA0, hV, rfl, hfz, hnd⟩ := hW
  have hA : DataW.TrodAll enc Tryd.prog W 0 (fun _ => true) true Tryd.f7.params.toList args.toList ds p := hA0
  rw [Tryd.params7] at hA hval
  obtain ⟨v0, vs0, d0, ds0, p0, q0, hargs, rfl, rfl, h0, r0⟩ := trodAll_cons hA
  obtain ⟨v1, vs1, d1, ds1, p1, q1, rfl, rfl, rfl, h1, r1⟩ := trodAll_cons r0
  obtain ⟨rfl, rfl, rfl⟩ := trodAll_nil r1
  obtain rfl : args = #[v0, v1] := by cases args; simp_all
  obtain ⟨rfl, rfl⟩ := trodVars_none hV
  have k0 := hval 0 36 v0 rfl rfl
  have k1 := hval 1 36 v1 rfl rfl
  obtain ⟨A0, c0, l0, rfl, z0, s0⟩ := open_ints_l k0 h0 (fun x hx => hlt x (by simp [hx]))
  obtain ⟨A1, c1, l1, rfl, z1, s1⟩ := open_ints_l k1 h1 (fun x hx => hlt x (by simp [hx]))
  clear hA0 hval0
  refine (copies_any A0 A1 c0 c1 l0 l1 W z0 z1 s0 s1).mono fun e W' ⟨he, hb⟩ => ?_
  subst he
  exact ⟨_, rfl, law_post hW' hb rfl rfl (by kernel_rfl) ⟨rfl, rfl, rfl⟩⟩
theorem over : Rows.schoolCopiesRow.holds Tryd.pinned (OpenSpec.ofChange Rows.schoolCopiesSpec) :=
  OpenClaim.holds_of_wide 7 Tryd.f7 rfl rfl rfl rfl rfl rfl rfl ⟨rfl, rfl, rfl, rfl, rfl⟩ rfl rfl rfl rfl rfl (by kernel_rfl) Tryd.func7 (by kernel_rfl)
    (of_decide_eq_true (by kernel_rfl)) (by unfold Func.isWrapper; first | (rw [if_pos (by decide +kernel)]; kernel_rfl) | (rw [if_neg (by decide +kernel)]; exact ⟨rfl, rfl⟩))
    (fun os started H enc _ => lifted os started H enc)
theorem proved : Rows.SchoolCopiesCardSaid :=
  Claim7.holds_tied_plain_at .later [] [.data, .pinned] true (true, "de0e8bac062d770159938a4787e32507ef436192cdeecd4cdeadb3815a38d22b") false over (fun _ h => by cases h) (by kernel_rfl) (fun _ h => by cases h) schoolCopies_row_tie rfl ⟨rfl, rfl⟩ (by kernel_rfl) rfl
    (fun f fn hf hfn => by
      obtain rfl : f = 7 := Option.some.inj ((show Tryd.prog.funcNamed "chiti/chitilaw11.SchoolCopies" = some 7 by kernel_rfl).symm.trans hf) |>.symm
      obtain rfl : fn = Tryd.f7 := (Option.some.inj (Tryd.func7.symm.trans hfn)).symm
      exact ⟨by kernel_rfl, fun j t ht => by
        rw [Tryd.params7] at ht
        have hm : t ∈ ([36] : List TypeId) := by simpa using Array.mem_of_getElem? ht
        have hall : (([36] : List TypeId).all fun u => !Tryd.prog.wantsStandIn u) = true := by kernel_rfl
        exact (show Tryd.prog.wantsStandIn t = false by simpa using List.all_eq_true.1 hall t hm)⟩)
    (by kernel_rfl)
#print axioms proved
end Go.Proofs.YtmpegkojencbjaaDoor.schoolCopies
