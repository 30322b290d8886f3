/- Split off XUq: words that hang on less of the program. -/
import Derived.Test.YtagjeeimglecnaaDoorFiringsE
set_option linter.unusedSimpArgs false
set_option linter.unusedVariables false
set_option linter.unnecessarySimpa false
namespace Go.Proofs.YtagjeeimglecnaaDoor
open Go Go.RowKit Go.Shelf
set_option maxHeartbeats 8000000
set_option maxRecDepth 100000
theorem judge_any (d : Rad) (r : Rit) (A : Option Addr) (c : Nat) (l : List (Int × Int)) (w : World) (hd : RtR w d r) (hz : RtZ r) (hl : l.length ≤ 1000000) (hD : DsR w A l) :
    Calls Tryd.prog 8 #[.agg #[.slice d.A r.n d.c, .int .i64 r.last, .int .i64 r.toil], .slice A l.length c] w fun e w' =>
      e = .returned (.tuple #[.int .i64 (if riB r = true then (folF r m0 l 0).2.1 else 0), .int .i64 (if riB r = true then (folF r m0 l 0).2.2 else 0), .int .i64 (if riB r = true then 0 else 2)]) ∧ Below w.heap.size w w' := by
  have HB1 : Hid (Below w.heap.size w (w.alloc (.cells #[.slice d.A r.n d.c, .int .i64 r.last, .int .i64 r.toil] 28))) := hide ((Below.refl _ _).alloc (Nat.le_refl _) _)
  have G1 := hide (Blk.new w 28 #[.slice d.A r.n d.c, .int .i64 r.last, .int .i64 r.toil])
  have HRT := hide (hd.ext HB1.out)
  have HO := hide (open_any d r _ (hd.ext HB1.out) hz)
  have HD := hide (hD.ext HB1.out)
  have HL := hide hl
  obtain ⟨c1, hc1⟩ : ∃ c : Int, (if riB r = true then (folF r m0 l 0).2.1 else 0) = c := ⟨_, rfl⟩
  obtain ⟨c2, hc2⟩ : ∃ c : Int, (if riB r = true then (folF r m0 l 0).2.2 else 0) = c := ⟨_, rfl⟩
  obtain ⟨c3, hc3⟩ : ∃ c : Int, (if riB r = true then 0 else 2) = c := ⟨_, rfl⟩
  have HC1 := hide hc1
  have HC2 := hide hc2
  have HC3 := hide hc3
  rw [hc1, hc2, hc3]
  clear hd hz hD hl hc1 hc2 hc3
  go_enter Tryd.func8, Tryd.ntmps8
  go_upto_region 1 with fail
  generalize w.alloc (.cells #[.slice d.A r.n d.c, .int .i64 r.last, .int .i64 r.toil] 28) = w1 at HB1 G1 HO HD HRT ⊢
  generalize w.heap.size = G at G1 ⊢
  obtain ⟨g9, g0, g1, g2, -⟩ := blk3 G1.out
  go_wp2_with fail
  refine HO.out.mono ?_
  rintro e w2 ⟨⟨hb, rfl⟩ | ⟨hb, b, ad, rfl, hB⟩, hbl⟩
  · have HBL := hide (HB1.out.trans (hbl.mono HB1.out.size))
    have HR := hide hb
    clear hb hbl g9 g0 g1 g2
    go_wp2_with fail
    refine bodyPost_ret (v := .tuple #[.int .i64 0, .int .i64 0, .int .i64 2]) (by simp [results, Tryd.results8, go_sem]) rfl ⟨by rw [← HC1.out, ← HC2.out, ← HC3.out, HR.out]; rfl, HBL.out⟩
  · have HBL := hide (HB1.out.trans (hbl.mono HB1.out.size))
    have HF := hide (follow_any b d _ r A c l w2 (riB_ok hb) HL.out (HD.out.ext hbl) (hB.book HRT.out))
    have HR := hide hb
    clear hb hbl hB g9 g0 g1 g2
    generalize folF r m0 l 0 = ff at HF HC1 HC2
    obtain ⟨⟨mD, mday, mde⟩, ln, br⟩ := ff
    unfold momV at HF
    dsimp only at HF HC1 HC2
    go_wp2_with fail
    refine HF.out.mono ?_
    rintro e w3 ⟨rfl, h3⟩
    have HBM := hide (HBL.out.trans (h3.mono HBL.out.size))
    clear h3
    go_wp2_with fail
    refine bodyPost_ret (v := .tuple #[.int .i64 ln, .int .i64 br, .int .i64 0]) (by simp [results, Tryd.results8, go_sem]) rfl ⟨by rw [← HC1.out, ← HC2.out, ← HC3.out, HR.out]; rfl, HBM.out⟩
end Go.Proofs.YtagjeeimglecnaaDoor
/- Rite: after, walked. -/
namespace Go.Proofs.YtagjeeimglecnaaDoor
open Go Go.RowKit Go.Shelf
set_option maxHeartbeats 8000000
set_option maxRecDepth 100000
/-- the errno behind a course -/
def aftC (r : Rit) (l : List (Int × Int)) : Int := if riB r = true then (if (folF r m0 l 0).2.2 = 0 then 0 else 9) else 2
def AfterPost (w : World) (d : Rad) (r : Rit) (l : List (Int × Int)) (e : Ending) (w' : World) : Prop :=
  (aftC r l ≠ 0 ∧ e = .returned (.tuple #[.pointer none, momV m0, .int .i64 (aftC r l)]) ∨ aftC r l = 0 ∧ riB r = true ∧ ∃ b ad, e = .returned (.tuple #[.pointer (some ⟨b, 0, none⟩), momV (folF r m0 l 0).1, .int .i64 0]) ∧ OpI w w' d r b ad (opF r r.n) (opM r r.n)) ∧ Below w.heap.size w w'
theorem after_any (d : Rad) (r : Rit) (A : Option Addr) (c : Nat) (l : List (Int × Int)) (w : World) (hd : RtR w d r) (hz : RtZ r) (hl : l.length ≤ 1000000) (hD : DsR w A l) :
    Calls Tryd.prog 32 #[.agg #[.slice d.A r.n d.c, .int .i64 r.last, .int .i64 r.toil], .slice A l.length c] w (AfterPost w d r l) := by
  have HB1 : Hid (Below w.heap.size w ((w.alloc (.cells #[.slice d.A r.n d.c, .int .i64 r.last, .int .i64 r.toil] 28)).alloc (.cells #[.int .u16 0, .int .i64 0, .int .i64 0] 88))) := hide (((Below.refl _ _).alloc (Nat.le_refl _) _).alloc (by simp) _)
  have G1 : Hid (Blk ((w.alloc (.cells #[.slice d.A r.n d.c, .int .i64 r.last, .int .i64 r.toil] 28)).alloc (.cells #[.int .u16 0, .int .i64 0, .int .i64 0] 88)) w.heap.size 28 #[.slice d.A r.n d.c, .int .i64 r.last, .int .i64 r.toil]) := hide ((Blk.new w _ _).alloc _)
  have Q1 : Hid (Blk ((w.alloc (.cells #[.slice d.A r.n d.c, .int .i64 r.last, .int .i64 r.toil] 28)).alloc (.cells #[.int .u16 0, .int .i64 0, .int .i64 0] 88)) (w.heap.size + 1) 88 #[.int .u16 0, .int .i64 0, .int .i64 0]) := hide (by simpa using Blk.new (w.alloc (.cells #[.slice d.A r.n d.c, .int .i64 r.last, .int .i64 r.toil] 28)) 88 #[.int .u16 0, .int .i64 0, .int .i64 0])
  have HO := hide (open_any d r _ (hd.ext HB1.out) hz)
  have HRT := hide (hd.ext HB1.out)
  have HD := hide (hD.ext HB1.out)
  have HL := hide hl
  obtain ⟨M, hM⟩ : ∃ M, w.heap.size + 1 = M := ⟨_, rfl⟩
  have HMM := hide hM
  rw [hM] at Q1
  clear hd hz hD hl
  go_enter Tryd.func32, Tryd.ntmps32
  go_upto_region 1 with fail
  (try rw [hM])
  clear hM
  generalize (w.alloc (.cells #[.slice d.A r.n d.c, .int .i64 r.last, .int .i64 r.toil] 28)).alloc (.cells #[.int .u16 0, .int .i64 0, .int .i64 0] 88) = w1 at HB1 G1 Q1 HO HD HRT ⊢
  have HLM : Hid (w.heap.size ≤ M) := hide (by rw [← HMM.out]; exact Nat.le_succ _)
  obtain ⟨G, hG⟩ : ∃ x, w.heap.size = x := ⟨_, rfl⟩
  rw [hG] at G1 ⊢
  clear hG
  have HQ0 := hide Q1.out.lt
  obtain ⟨g9, g0, g1, g2, -⟩ := blk3 G1.out
  go_wp2_with fail
  refine HO.out.mono ?_
  rintro e w2 ⟨⟨hb, rfl⟩ | ⟨hb, b, ad, rfl, hB⟩, hbl⟩
  · have HBL := hide (HB1.out.trans (hbl.mono HB1.out.size))
    have HCH : Hid (aftC r l = 2) := hide (by unfold aftC; rw [hb]; rfl)
    replace Q1 := hide (Q1.out.ext hbl)
    clear hb hbl g9 g0 g1 g2 HO HD
    obtain ⟨a9, a0, a1, a2, a3, a4, a5⟩ := blk3 Q1.out
    go_wp2_with fail
    have h3 := Q1.out.set3 (.int .u16 0) (.int .i64 0) (.int .i64 0)
    obtain ⟨-, z0, z1, z2, -⟩ := blk3 h3
    refine bodyPost_ret (v := .tuple #[.pointer none, .agg #[.int .u16 0, .int .i64 0, .int .i64 0], .int .i64 2]) (by
      simp [results, Tryd.results32, go_sem, z0, z1, z2]) rfl ⟨.inl ⟨by rw [HCH.out]; decide, by rw [HCH.out]; rfl⟩, set3B HBL.out (by rw [← HMM.out]; exact Nat.le_succ _) _ _ _⟩
  · have HBL := hide (HB1.out.trans (hbl.mono HB1.out.size))
    have HF := hide (follow_any b d _ r A c l w2 (riB_ok hb) HL.out (HD.out.ext hbl) (hB.book HRT.out))
    have HR := hide hb
    have HB := hide (hB.rebase HB1.out)
    have HNB : Hid (b ≠ M ∧ ∀ j, j < 4 → ad j ≠ M) := hide ⟨by have := hB.lob; have := HQ0.out; omega, fun j hj => by have := hB.lo j hj; have := HQ0.out; omega⟩
    replace Q1 := hide (Q1.out.ext hbl)
    clear hb hbl hB g9 g0 g1 g2 HO HD
    obtain ⟨ff, hff⟩ : ∃ x, folF r m0 l 0 = x := ⟨_, rfl⟩
    have HFF := hide hff
    rw [hff] at HF
    clear hff
    obtain ⟨⟨mD, mday, mde⟩, ln, br⟩ := ff
    unfold momV at HF
    dsimp only at HF
    go_wp2_with fail
    refine HF.out.mono ?_
    rintro e w3 ⟨rfl, h3⟩
    have HQL := hide (Nat.lt_of_lt_of_le Q1.out.lt h3.size)
    have hb4 : Below w3.heap.size w3 (w3.alloc (.cells #[.int .u16 (mD : Nat), .int .i64 mday, .int .i64 mde] 88)) := (Below.refl _ _).alloc (Nat.le_refl _) _
    have Q3 := hide (Blk.new w3 88 #[.int .u16 (mD : Nat), .int .i64 mday, .int .i64 mde])
    replace Q1 := hide ((Q1.out.ext h3).ext hb4)
    have h4 := h3.trans (hb4.mono h3.size)
    have HNE : Hid (w3.heap.size ≠ M) := hide (Nat.ne_of_gt HQL.out)
    replace HBL := hide (HBL.out.trans (h4.mono HBL.out.size))
    replace HB := hide (HB.out.ext h4)
    clear h3 h4 hb4
    go_upto_region 5 with fail
    generalize w3.alloc (.cells #[.int .u16 (mD : Nat), .int .i64 mday, .int .i64 mde] 88) = w4 at Q1 Q3 HBL HB ⊢
    clear HQL
    generalize w3.heap.size = H at Q3 HNE ⊢
    obtain ⟨a9, a0, a1, a2, a3, a4, a5⟩ := blk3 Q1.out
    by_cases hbr : br = 0
    · have b1 : (br == 0) = true := by rw [hbr]; rfl
      have b2 : (br != 0) = false := by rw [hbr]; rfl
      have HCH : Hid (aftC r l = 0) := hide (by unfold aftC; rw [HR.out, HFF.out, if_pos rfl, if_pos hbr])
      clear hbr
      go_upto_region 7 with fail
      clear a9 a0 a1 a2 a3 a4 a5
      have HS7 : Hid (∀ W, Below w4.heap.size w4 W → (W.cell? ⟨H, 0, none⟩ = some (.int .u16 (mD : Nat)) ∧ W.cell? ⟨H, 1, none⟩ = some (.int .i64 mday) ∧ W.cell? ⟨H, 2, none⟩ = some (.int .i64 mde))) := hide fun W h => ⟨(blk3 (Q3.out.ext h)).2.1, (blk3 (Q3.out.ext h)).2.2.1, (blk3 (Q3.out.ext h)).2.2.2.1⟩
      have Bd := hide (Below.refl w4.heap.size w4).drew
      replace Q1 := hide (Q1.out.ext Bd.out)
      replace HB := hide (HB.out.ext Bd.out)
      replace HBL := hide (HBL.out.trans (Bd.out.mono HBL.out.size))
      refine wp_region_J (fun W : World => (W.cell? ⟨H, 0, none⟩ = some (.int .u16 (mD : Nat)) ∧ W.cell? ⟨H, 1, none⟩ = some (.int .i64 mday) ∧ W.cell? ⟨H, 2, none⟩ = some (.int .i64 mde))) (by kernel_rfl) ?_
      generalize w4.drew = wd at Bd Q1 HB HBL ⊢
      refine tk_start [0, 1, 2] ?_
      iterate 3
        refine tk_one (v := ?_) (by first | exact hF | exact wideFn) (HS7.out _ Bd.out) rfl (by kernel_rfl) (by kernel_rfl) (by kernel_rfl) (by kernel_rfl) rfl ?_ (by first | exact fun _ _ _ h => h | exact fun _ _ _ h => hQ2 _ _ _ _ _ h) ?_
        rotate_left
        · intro W hSW
          simp only [List.getElem_toArray, List.getElem_cons_zero, List.getElem_cons_succ]
          (try dsimp only at hSW)
          go_simp
          with_reducible rfl
        (try simp only [List.getElem_toArray, List.getElem_cons_zero, List.getElem_cons_succ, Act.put, List.setIfInBounds_toArray, List.set_cons_zero, List.set_cons_succ])
      refine tk_end ?_
      obtain ⟨a9, a0, a1, a2, a3, a4, a5⟩ := blk3 Q1.out
      refine wpAnyJ_one 3 rfl (by kernel_rfl) (fun K hK => ?_)
      simp only [List.getElem_toArray, List.getElem_cons_zero, List.getElem_cons_succ]
      go_simp
      refine hK.out _ _ (fun h => absurd h (by rw [show lastOp _ _ _ = true from by kernel_rfl]; simp)) ?_
      clear hK K
      (try simp only [List.getElem_toArray, List.getElem_cons_zero, List.getElem_cons_succ, Act.put, List.setIfInBounds_toArray, List.set_cons_zero, List.set_cons_succ])
      have hS : ((((wd.setCell ⟨M, 0, none⟩ (.int .u16 (mD : Nat))).setCell ⟨M, 1, none⟩ (.int .i64 mday)).setCell ⟨M, 2, none⟩ (.int .i64 mde)).cell? ⟨H, 0, none⟩ = some (.int .u16 (mD : Nat)) ∧ (((wd.setCell ⟨M, 0, none⟩ (.int .u16 (mD : Nat))).setCell ⟨M, 1, none⟩ (.int .i64 mday)).setCell ⟨M, 2, none⟩ (.int .i64 mde)).cell? ⟨H, 1, none⟩ = some (.int .i64 mday) ∧ (((wd.setCell ⟨M, 0, none⟩ (.int .u16 (mD : Nat))).setCell ⟨M, 1, none⟩ (.int .i64 mday)).setCell ⟨M, 2, none⟩ (.int .i64 mde)).cell? ⟨H, 2, none⟩ = some (.int .i64 mde)) := by
        have h := blk3 ((((Q3.out.ext Bd.out).far (p := ⟨M, 0, none⟩) HNE.out (.int .u16 (mD : Nat))).far (p := ⟨M, 1, none⟩) HNE.out (.int .i64 mday)).far (p := ⟨M, 2, none⟩) HNE.out (.int .i64 mde))
        exact ⟨h.2.1, h.2.2.1, h.2.2.2.1⟩
      refine wpAnyJ_take 4 (v := ?_) (by first | exact hF | exact wideFn) hS rfl (by kernel_rfl) (by kernel_rfl) (by kernel_rfl) (by kernel_rfl) rfl ?_ (by first | exact fun _ _ _ h => h | exact fun _ _ _ h => hQ2 _ _ _ _ _ h) ?_
      rotate_left
      · intro W hSW
        simp only [List.getElem_toArray, List.getElem_cons_zero, List.getElem_cons_succ]
        (try dsimp only at hSW)
        go_simp
        with_reducible rfl
      (try simp only [List.getElem_toArray, List.getElem_cons_zero, List.getElem_cons_succ, Act.put, List.setIfInBounds_toArray, List.set_cons_zero, List.set_cons_succ])
      refine wpAnyJ_done (by kernel_rfl) ?_
      clear hS a9 a0 a1 a2 a3 a4 a5
      go_wp2_with fail
      have h3 := Q1.out.set3 (.int .u16 (mD : Nat)) (.int .i64 mday) (.int .i64 mde)
      obtain ⟨-, z0, z1, z2, -⟩ := blk3 h3
      refine bodyPost_ret (v := .tuple #[.pointer (some ⟨b, 0, none⟩), .agg #[.int .u16 (mD : Nat), .int .i64 mday, .int .i64 mde], .int .i64 0]) (by
        simp [results, Tryd.results32, go_sem, z0, z1, z2]) rfl ⟨.inr ⟨HCH.out, HR.out, b, ad, by rw [HFF.out]; rfl, ((HB.out.far HLM.out HNB.out.1 HNB.out.2 0 _).far HLM.out HNB.out.1 HNB.out.2 1 _).far HLM.out HNB.out.1 HNB.out.2 2 _⟩, set3B HBL.out HLM.out _ _ _⟩
    · have b1 : (br == 0) = false := by rw [beq_eq_false_iff_ne]; exact hbr
      have b2 : (br != 0) = true := by rw [bne, b1]; rfl
      have HCH : Hid (aftC r l = 9) := hide (by unfold aftC; rw [HR.out, HFF.out, if_pos rfl, if_neg hbr])
      clear hbr
      go_wp2_with fail
      have h3 := Q1.out.set3 (.int .u16 0) (.int .i64 0) (.int .i64 0)
      obtain ⟨-, z0, z1, z2, -⟩ := blk3 h3
      refine bodyPost_ret (v := .tuple #[.pointer none, .agg #[.int .u16 0, .int .i64 0, .int .i64 0], .int .i64 9]) (by
        simp [results, Tryd.results32, go_sem, z0, z1, z2]) rfl ⟨.inl ⟨by rw [HCH.out]; decide, by rw [HCH.out]; rfl⟩, set3B HBL.out (by rw [← HMM.out]; exact Nat.le_succ _) _ _ _⟩
end Go.Proofs.YtagjeeimglecnaaDoor
/- Split off XVk: words that hang on less of the program. -/
namespace Go.Proofs.YtagjeeimglecnaaDoor
open Go Go.RowKit Go.Shelf
set_option maxHeartbeats 8000000
set_option maxRecDepth 100000
theorem aftC_ok {r : Rit} {l : List (Int × Int)} (h : aftC r l = 0) : riB r = true ∧ (folF r m0 l 0).2.2 = 0 := by
  unfold aftC at h
  split at h
  · split at h
    · rename_i h1 h2; exact ⟨h1, h2⟩
    · cases h
  · cases h
end Go.Proofs.YtagjeeimglecnaaDoor
/- Split off XVp: words that hang on less of the program. -/
namespace Go.Proofs.YtagjeeimglecnaaDoor
open Go Go.RowKit Go.Shelf
set_option maxHeartbeats 8000000
set_option maxRecDepth 100000
theorem fol_at {r : Rit} : ∀ (l : List (Int × Int)) (m : Mom) (i : Nat), (folF r m l i).2.2 = 0 → (folF r m l i).2.1 = -1
  | [], _, _, _ => rfl
  | x :: l, m, i, h => by
    unfold folF at h ⊢
    split at h
    · cases h
    · rename_i h1
      rw [if_neg h1]
      split at h
      · rename_i h2; exact absurd h h2
      · rename_i h2
        rw [if_neg h2]
        exact fol_at l _ _ h
/-- whether a course keeps all rules -/
def rgB (r : Rit) (l : List (Int × Int)) : Bool := decide (aftC r l = 0)
theorem rg_yes {r : Rit} {l : List (Int × Int)} (h : rgB r l = true) : riB r = true ∧ (folF r m0 l 0).2.2 = 0 ∧ aftC r l = 0 :=
  have h1 : aftC r l = 0 := of_decide_eq_true h
  ⟨(aftC_ok h1).1, (aftC_ok h1).2, h1⟩
end Go.Proofs.YtagjeeimglecnaaDoor
/- Rite, plain: how the acts that can never be settled are reckoned. -/
namespace Go.Proofs.YtagjeeimglecnaaDoor
open Go Go.RowKit
set_option maxRecDepth 100000
/-- whether a way can still be gone -/
def cwB (r : Rit) (day : Int) (X k : Nat) : Bool := !decide ((r.ac k).to_ < day) && (r.ac k).nd.all fun x => !X.testBit x.toNat
/-- what is left behind some acts -/
def lfN (r : Rit) (day : Int) (X : Nat) (pre : List Nat) : Nat := mkS (fun i => X.testBit i && !(pre.contains i && canB r day X i)) 16
theorem lf_bit {r : Rit} {day : Int} {X : Nat} (hX : X < 65536) (pre : List Nat) (i : Nat) : (lfN r day X pre).testBit i = (X.testBit i && !(pre.contains i && canB r day X i)) := by
  unfold lfN
  rw [mkS_bit]
  by_cases h : i < 16
  · simp [h]
  · rw [bit_ge (n := 16) hX (by omega)]; simp
theorem lf_lt (r : Rit) (day : Int) (X : Nat) (pre : List Nat) : lfN r day X pre < 65536 := mkS_lt _ 16
theorem lf_nil {r : Rit} {day : Int} {X : Nat} (hX : X < 65536) : lfN r day X [] = X := by
  refine Nat.eq_of_testBit_eq fun i => ?_
  rw [lf_bit hX]
  simp
theorem lf_all {r : Rit} {day : Int} {X : Nat} (hX : X < 65536) : lfN r day X (elS X) = hoS r day X := by
  refine Nat.eq_of_testBit_eq fun i => ?_
  rw [lf_bit hX, hoS_bit hX]
  rcases hb : X.testBit i with _ | _
  · rfl
  · rw [List.contains_iff_mem.2 ((elS_mem hX).2 hb)]
    rfl
theorem an_one {s x i : Nat} (hs : s < 65536) : (anN s (2 ^ x)).testBit i = (s.testBit i && !decide (x = i)) := by
  rw [anN_bit _ _ _ hs, Nat.testBit_two_pow]
theorem lf_yes {r : Rit} {day : Int} {X x : Nat} (hX : X < 65536) (pre : List Nat) (h : canB r day X x = true) : lfN r day X (pre ++ [x]) = anN (lfN r day X pre) (2 ^ x) := by
  refine Nat.eq_of_testBit_eq fun i => ?_
  rw [an_one (lf_lt _ _ _ _), lf_bit hX, lf_bit hX]
  by_cases e : x = i
  · subst e
    simp [h]
  · have e2 : (pre ++ [x]).contains i = pre.contains i := by
      rw [Bool.eq_iff_iff, List.contains_iff_mem, List.contains_iff_mem]
      simp [show ¬ i = x from fun h => e h.symm]
    rw [e2]
    simp [e]
theorem lf_no {r : Rit} {day : Int} {X x : Nat} (hX : X < 65536) (pre : List Nat) (h : canB r day X x = false) : lfN r day X (pre ++ [x]) = lfN r day X pre := by
  refine Nat.eq_of_testBit_eq fun i => ?_
  rw [lf_bit hX, lf_bit hX]
  by_cases e : x = i
  · subst e
    simp [h]
  · have e2 : (pre ++ [x]).contains i = pre.contains i := by
      rw [Bool.eq_iff_iff, List.contains_iff_mem, List.contains_iff_mem]
      simp [show ¬ i = x from fun h => e h.symm]
    rw [e2]
/-- the same, behind some ways of an act -/
def liN (r : Rit) (day : Int) (X L x : Nat) (pre : List Nat) : Nat := if pre.any (cwB r day X) = true then anN L (2 ^ x) else L
theorem li_lt {r : Rit} {day : Int} {X L x : Nat} (hL : L < 65536) (pre : List Nat) : liN r day X L x pre < 65536 := by
  unfold liN
  split
  · exact anN_lt _ _
  · exact hL
theorem li_no {r : Rit} {day : Int} {X L x y : Nat} (pre : List Nat) (h : cwB r day X y = false) : liN r day X L x (pre ++ [y]) = liN r day X L x pre := by
  unfold liN
  rw [List.any_append, List.any_cons, List.any_nil, h, Bool.or_false, Bool.or_false]
theorem li_yes {r : Rit} {day : Int} {X L x y : Nat} (hL : L < 65536) (pre : List Nat) (h : cwB r day X y = true) : liN r day X L x (pre ++ [y]) = anN (liN r day X L x pre) (2 ^ x) := by
  unfold liN
  rw [List.any_append, List.any_cons, List.any_nil, h, Bool.true_or, Bool.or_true, if_pos rfl]
  split
  · refine Nat.eq_of_testBit_eq fun i => ?_
    rw [an_one (anN_lt _ _), an_one hL]
    by_cases e : x = i
    · simp [e]
    · simp [e]
  · rfl
theorem wa_lt {r : Rit} (hr : RiOk r) {i k : Nat} (hi : i < r.n) (h : (waS r i).testBit k = true) : k < r.n := by
  unfold waS at h
  rw [mkS_bit, Bool.and_eq_true, Bool.or_eq_true, Bool.or_eq_true] at h
  obtain ⟨-, (h | h) | h⟩ := h
  · have := of_decide_eq_true h; omega
  · have := (hr.at_ hi).ins _ (List.contains_iff_mem.1 h); omega
  · have h1 := of_decide_eq_true h; have := (hr.at_ hi).at1; omega
theorem can_ways {r : Rit} (hr : RiOk r) {day : Int} {X i : Nat} (hi : i < r.n) : canB r day X i = (elS (waS r i)).any (cwB r day X) := by
  rw [Bool.eq_iff_iff]
  unfold canB
  rw [List.any_eq_true, List.any_eq_true]
  constructor
  · rintro ⟨k, hk, h⟩
    rw [Bool.and_eq_true] at h
    exact ⟨k, (elS_mem (mkS_lt _ 16)).2 h.1, h.2⟩
  · rintro ⟨k, hk, h⟩
    have h1 := (elS_mem (mkS_lt _ 16)).1 hk
    exact ⟨k, List.mem_range.2 (wa_lt hr hi h1), by rw [Bool.and_eq_true]; exact ⟨h1, h⟩⟩
/-- behind all ways -/
theorem li_all {r : Rit} (hr : RiOk r) {day : Int} {X x : Nat} (hX : X < 65536) (hx : x < r.n) (pre : List Nat) : liN r day X (lfN r day X pre) x (elS (waS r x)) = lfN r day X (pre ++ [x]) := by
  unfold liN
  rw [← can_ways hr hx]
  split
  · rename_i h; exact (lf_yes hX pre h).symm
  · rename_i h; exact (lf_no hX pre (by simpa using h)).symm
/-- what an act needs, not lost -/
theorem nd_and {r : Rit} (hr : RiOk r) {k : Nat} (hk : k < r.n) (X : Nat) : (seL (r.ac k).nd &&& X = 0) ↔ ((r.ac k).nd.all fun x => !X.testBit x.toNat) = true := by
  have ha := hr.at_ hk
  have h10 := hr.n10
  rw [and_zero, List.all_eq_true]
  constructor
  · intro h x hx
    have h0 := ha.nd x hx
    have h1 := h x.toNat (by rw [seL_bit _ _ (by omega), Int.toNat_of_nonneg h0.1, mem_at hx])
    rw [h1]
    rfl
  · intro h i hi
    have hk16 : i < 16 := by
      rcases Nat.lt_or_ge i 16 with h2 | h2
      · exact h2
      · rw [bit_ge (n := 16) (seL_lt _) h2] at hi; cases hi
    rw [seL_bit _ _ hk16] at hi
    have h1 := h _ (List.contains_iff_mem.1 hi)
    rw [Int.toNat_natCast] at h1
    simpa using h1
theorem ou_bit (r : Rit) (day : Int) (i : Nat) : (ouS r day).testBit i = (decide (i < r.n) && decide ((r.ac i).to_ < day)) := mkS_bit _ _ _
/-- the rounds, by fuel -/
def hpF (r : Rit) (day : Int) : Nat → Nat → Nat
  | 0, X => X
  | k + 1, X => if hoS r day X = X then X else hpF r day k (hoS r day X)
def hpB (r : Rit) (d : Nat) : Nat := anN (2 ^ r.n - 1) (seS r d)
/-- the acts that can never be settled -/
def hpS (r : Rit) (m : Mom) : Nat := hpF r m.day 65536 (hpB r m.d)
/-- what the rounds keep -/
structure HoI (r : Rit) (d : Nat) (day : Int) (X : Nat) : Prop where
  lt : X < 65536
  sub : SubS X (hpB r d)
  top : ∀ Y, SubS Y (hpB r d) → StaS r day Y → SubS Y X
theorem HoI.init (r : Rit) (d : Nat) (day : Int) : HoI r d day (hpB r d) := ⟨anN_lt _ _, fun _ h => h, fun _ h _ => h⟩
theorem HoI.next {r : Rit} {d : Nat} {day : Int} {X : Nat} (h : HoI r d day X) : HoI r d day (hoS r day X) :=
  ⟨mkS_lt _ 16, fun i hi => h.sub i (hoS_sub h.lt i hi), fun Y h1 h2 => hoS_top h.lt (h.top Y h1 h2) h2⟩
theorem HoI.done {r : Rit} {d : Nat} {day : Int} {X : Nat} (h : HoI r d day X) (hf : hoS r day X = X) : HoS r d day X := ⟨h.sub, hoS_fix h.lt hf, h.top⟩
theorem hpF_ho {r : Rit} {d : Nat} {day : Int} : ∀ (k X : Nat), X < k → HoI r d day X → HoS r d day (hpF r day k X)
  | 0, _, h, _ => absurd h (by omega)
  | k + 1, X, hk, h => by
    unfold hpF
    split
    · rename_i hf; exact h.done hf
    · rename_i hf
      exact hpF_ho k _ (by have := hoS_less h.lt hf; omega) h.next
theorem hp_ho (r : Rit) (m : Mom) : HoS r m.d m.day (hpS r m) := hpF_ho 65536 _ (anN_lt _ _) (HoI.init r m.d m.day)
theorem hp_lt (r : Rit) (m : Mom) : hpS r m < 65536 := Nat.lt_of_le_of_lt (subS_le (hp_ho r m).sub) (anN_lt _ _)
theorem hp_eq {r : Rit} {m : Mom} {X : Nat} (h : HoI r m.d m.day X) (hf : hoS r m.day X = X) : X = hpS r m := (h.done hf).uniq (hp_ho r m)
theorem HoI.n {r : Rit} {d : Nat} {day : Int} {X i : Nat} (h : HoI r d day X) (hr : RiOk r) (hi : X.testBit i = true) : i < r.n := by
  have h1 := h.sub i hi
  have h10 := hr.n10
  have hp : 2 ^ r.n < 65536 := Nat.lt_of_le_of_lt (Nat.pow_le_pow_right (by decide) h10) (by decide)
  unfold hpB at h1
  rw [anN_bit _ _ _ (by omega), Bool.and_eq_true, Nat.testBit_two_pow_sub_one] at h1
  exact of_decide_eq_true h1.1
end Go.Proofs.YtagjeeimglecnaaDoor
/- Rite, plain: a deed more; what is open, forgotten, hopeless. -/
namespace Go.Proofs.YtagjeeimglecnaaDoor
open Go Go.RowKit
set_option maxRecDepth 100000
theorem fol_step {r : Rit} {m : Mom} {y : Int × Int} (l : List (Int × Int)) (i : Nat) (h1 : ¬ (y.1 < m.day ∨ r.last < y.1)) (h2 : ¬ brF r (m.on y.1).d (m.on y.1).day (m.on y.1).de y.2 ≠ 0) : folF r m (y :: l) i = folF r ((m.on y.1).wi y.2.toNat) l (i + 1) := by
  show (if _ then _ else if _ then _ else _) = _
  rw [if_neg h1, if_neg h2]
theorem fol_zero {r : Rit} {m : Mom} {y : Int × Int} {l : List (Int × Int)} {i : Nat} (h : (folF r m (y :: l) i).2.2 = 0) : ¬ (y.1 < m.day ∨ r.last < y.1) ∧ ¬ brF r (m.on y.1).d (m.on y.1).day (m.on y.1).de y.2 ≠ 0 := by
  unfold folF at h
  split at h
  · cases h
  · rename_i h1
    split at h
    · rename_i h2; exact absurd h h2
    · rename_i h2; exact ⟨h1, h2⟩
theorem fol_append {r : Rit} (x : List (Int × Int)) : ∀ (l : List (Int × Int)) (m : Mom) (i : Nat), (folF r m l i).2.2 = 0 → folF r m (l ++ x) i = folF r (folF r m l i).1 x (i + l.length)
  | [], m, i, _ => rfl
  | y :: l, m, i, h => by
    obtain ⟨h1, h2⟩ := fol_zero h
    rw [fol_step _ _ h1 h2] at h ⊢
    show folF r m (y :: (l ++ x)) i = _
    rw [fol_step _ _ h1 h2, fol_append x l _ _ h, show i + 1 + l.length = i + (y :: l).length by rw [List.length_cons]; omega]
/-- a deed more -/
theorem rg_more {r : Rit} {l : List (Int × Int)} (h : rgB r l = true) (day : Int) (a : Int) (h1 : (folF r m0 l 0).1.day ≤ day) (h2 : day ≤ r.last) :
    rgB r (l ++ [(day, a)]) = decide (brF r ((folF r m0 l 0).1.on day).d ((folF r m0 l 0).1.on day).day ((folF r m0 l 0).1.on day).de a = 0) := by
  obtain ⟨hr, hf, -⟩ := rg_yes h
  unfold rgB aftC
  rw [if_pos hr, fol_append _ _ _ _ hf]
  generalize (folF r m0 l 0).1 = m at h1
  have e : (folF r m [(day, a)] (0 + l.length)).2.2 = brF r (m.on day).d (m.on day).day (m.on day).de a := by
    unfold folF
    rw [if_neg (by dsimp only; omega)]
    dsimp only
    split
    · rfl
    · rename_i hb
      have hb := Classical.not_not.1 hb
      rw [hb]
      rfl
  rw [e]
  by_cases hb : brF r (m.on day).d (m.on day).day (m.on day).de a = 0
  · rw [if_pos hb, decide_eq_true hb]; rfl
  · rw [if_neg hb, decide_eq_false hb]; rfl
theorem of_cont {s : Nat} (hs : s < 65536) (i : Nat) : (ofN (elS s)).contains (i : Int) = s.testBit i := by
  rw [Bool.eq_iff_iff, List.contains_iff_mem, ← elS_mem hs]
  unfold ofN
  rw [List.mem_map]
  constructor
  · rintro ⟨k, hk, e⟩
    rw [show i = k by omega]
    exact hk
  · exact fun h => ⟨i, h, rfl⟩
theorem ne_cont {r : Rit} (h16 : r.n ≤ 16) (m : Mom) (i : Nat) : (ofN (elS (neS r m))).contains (i : Int) = decide (brF r m.d m.day m.de i = 0) := by
  have hl : neS r m < 65536 := lt16 (mkS_lt _ r.n) h16
  rw [of_cont hl, Bool.eq_iff_iff, decide_eq_true_iff, ← neS_mem h16, elS_mem hl]
theorem se_cont {r : Rit} (hr : RiOk r) (d : Nat) {i : Nat} (hi : i < r.n) : (ofN (elS (seS r d))).contains (i : Int) = seB r d i := by
  rw [of_cont (seS_lt hr d), seS_bit, decide_eq_true hi, Bool.true_and]
theorem fo_cont {r : Rit} (h16 : r.n ≤ 16) (d : Nat) (day : Int) {i : Nat} (hi : i < r.n) : (ofN (elS (foS r d day))).contains (i : Int) = foB r d day i := by
  have hl : foS r d day < 65536 := lt16 (mkS_lt _ r.n) h16
  rw [of_cont hl, foS_bit, decide_eq_true hi, Bool.true_and]
theorem hp_cont (r : Rit) (m : Mom) (i : Nat) : (ofN (elS (hpS r m))).contains (i : Int) = (hpS r m).testBit i := of_cont (hp_lt r m) i
/-- what a deed that breaks no rule shows -/
theorem br_zero {r : Rit} {d : Nat} {day de : Int} {a : Nat} (h : brF r d day de a = 0) : (d.testBit a = false ∧ ((r.ac a).ex = true ∨ seB r d a = false)) ∧ (r.ac a).fr ≤ day ∧ day ≤ (r.ac a).to_ ∧ neB r d a = true ∧ de < r.toil := by
  unfold brF at h
  rw [Int.toNat_natCast] at h
  split at h
  · cases h
  · split at h
    · cases h
    · rename_i h2
      split at h
      · cases h
      · rename_i h3
        split at h
        · cases h
        · rename_i h4
          split at h
          · cases h
          · split at h
            · cases h
            · rename_i h6
              simp only [Bool.or_eq_true, Bool.and_eq_true, Bool.not_eq_true', not_or, not_and] at h2
              refine ⟨⟨by simpa using h2.1, ?_⟩, by omega, by omega, by simpa using h4, by omega⟩
              rcases hx : (r.ac a).ex with _ | _
              · have := h2.2 hx; exact .inr (by simpa using this)
              · exact .inl rfl
theorem fo_facts {r : Rit} {d : Nat} {day de : Int} {a : Nat} (h : foB r d day a = true) : brF r d day de a ≠ 0 ∧ seB r d a = false ∧ (r.ac a).ex = false := by
  unfold foB at h
  rw [Bool.and_eq_true, Bool.and_eq_true] at h
  obtain ⟨⟨h1, h2⟩, h3⟩ := h
  refine ⟨fun hb => ?_, by simpa using h3, by simpa using h1⟩
  have h4 := (br_zero hb).2.2.1
  have h5 := of_decide_eq_true h2
  omega
theorem hp_facts {r : Rit} (hr : RiOk r) {m : Mom} {a : Nat} (h : (hpS r m).testBit a = true) : a < r.n ∧ brF r m.d m.day m.de a ≠ 0 ∧ seB r m.d a = false := by
  have hh := hp_ho r m
  have h10 := hr.n10
  have hp : 2 ^ r.n < 65536 := Nat.lt_of_le_of_lt (Nat.pow_le_pow_right (by decide) h10) (by decide)
  have hsub : ∀ i, (hpS r m).testBit i = true → i < r.n ∧ seB r m.d i = false := fun i hi => by
    have h1 := hh.sub i hi
    rw [anN_bit _ _ _ (by omega), Bool.and_eq_true, Nat.testBit_two_pow_sub_one] at h1
    have h2 := of_decide_eq_true h1.1
    have h3 := h1.2
    rw [seS_bit, decide_eq_true h2, Bool.true_and] at h3
    exact ⟨h2, by simpa using h3⟩
  obtain ⟨ha, hs⟩ := hsub a h
  refine ⟨ha, fun hb => ?_, hs⟩
  obtain ⟨-, -, h2, h3, -⟩ := br_zero hb
  have h4 := hh.sta a h
  unfold canB at h4
  have h5 := List.any_eq_false.1 h4 a (List.mem_range.2 ha)
  refine h5 ?_
  rw [Bool.and_eq_true, Bool.and_eq_true]
  refine ⟨?_, ?_, ?_⟩
  · unfold waS
    rw [mkS_bit, decide_eq_true (by omega), decide_eq_true rfl]
    rfl
  · rw [decide_eq_false (by omega)]; rfl
  · rw [List.all_eq_true]
    intro x hx
    unfold neB at h3
    have h6 := List.all_eq_true.1 h3 x hx
    rcases hb2 : (hpS r m).testBit x.toNat with _ | _
    · rfl
    · rw [(hsub _ hb2).2] at h6; cases h6
end Go.Proofs.YtagjeeimglecnaaDoor
/- Top, plain: the rite of a yard's works, each after the one before. -/
namespace Go.Proofs.YtagjeeimglecnaaDoor
open Go Go.RowKit
set_option maxRecDepth 100000
/-- the name of a work -/
def wkN (i : Nat) : Wd := ⟨#[UInt8.ofNat (97 + i)]⟩
def wkA (f : Nat → Int) (lg : Int) (i : Nat) : Rac := ⟨wkN i, if i = 0 then [] else [(i : Int) - 1], [], -1, f i, min 12 (f i + lg), false⟩
/-- the rite of five works -/
def wkR (f : Nat → Int) (lg : Int) : Rit := ⟨[wkA f lg 0, wkA f lg 1, wkA f lg 2, wkA f lg 3, wkA f lg 4], 12, 4⟩
theorem wk_ac (f : Nat → Int) (lg : Int) {i : Nat} (hi : i < 5) : (wkR f lg).ac i = wkA f lg i := by
  rcases (by omega : i = 0 ∨ i = 1 ∨ i = 2 ∨ i = 3 ∨ i = 4) with rfl | rfl | rfl | rfl | rfl <;> rfl
theorem wk_valid {f : Nat → Int} {lg : Int} (hf : ∀ i, 0 ≤ f i ∧ f i ≤ 9) (hl : 0 ≤ lg ∧ lg ≤ 7) : riB (wkR f lg) = true := by
  have hn : (wkR f lg).n = 5 := rfl
  unfold riB
  rw [Bool.and_eq_true, Bool.and_eq_true, List.all_eq_true, List.all_eq_true]
  refine ⟨⟨by rfl, fun i hi => ?_⟩, fun i hi => ?_⟩
  · rw [hn] at hi
    have hi := List.mem_range.1 hi
    have h1 := hf i
    have h2 : decide (0 ≤ ((wkR f lg).ac i).fr ∧ ((wkR f lg).ac i).fr ≤ ((wkR f lg).ac i).to_ ∧ ((wkR f lg).ac i).to_ ≤ (wkR f lg).last) = true := by
      rw [wk_ac f lg hi, decide_eq_true_iff]
      show 0 ≤ f i ∧ f i ≤ min 12 (f i + lg) ∧ min 12 (f i + lg) ≤ 12
      omega
    unfold acB
    rw [h2, Bool.and_true]
    rcases (by omega : i = 0 ∨ i = 1 ∨ i = 2 ∨ i = 3 ∨ i = 4) with rfl | rfl | rfl | rfl | rfl <;> rfl
  · rw [hn] at hi
    have hi := List.mem_range.1 hi
    rcases (by omega : i = 0 ∨ i = 1 ∨ i = 2 ∨ i = 3 ∨ i = 4) with rfl | rfl | rfl | rfl | rfl <;> rfl
theorem wk_se (f : Nat → Int) (lg : Int) (d : Nat) {i : Nat} (hi : i < 5) : seB (wkR f lg) d i = d.testBit i := by
  unfold seB
  rw [wk_ac f lg hi]
  simp [wkA]
theorem wk_bit (k i : Nat) : (2 ^ k - 1).testBit i = decide (i < k) := Nat.testBit_two_pow_sub_one k i
theorem wk_br {f : Nat → Int} {lg : Int} {k : Nat} (hk : k ≤ 5) (day de act : Int) : brF (wkR f lg) (2 ^ k - 1) day de act =
    if act < 0 ∨ 5 ≤ act ∨ act < k then 2 else if day < f act.toNat ∨ min 12 (f act.toNat + lg) < day then 3 else if act ≠ k then 4 else if 4 ≤ de then 6 else 0 := by
  unfold brF
  have hn : ((wkR f lg).n : Int) = 5 := rfl
  rw [hn]
  by_cases h1 : act < 0 ∨ 5 ≤ act
  · rw [if_pos h1, if_pos (by omega)]
  rw [if_neg h1]
  have hi : act.toNat < 5 := by omega
  rw [wk_ac f lg hi, wk_bit, wk_se f lg _ hi, wk_bit]
  by_cases h2 : act < k
  · rw [if_pos (by rw [decide_eq_true (by omega)]; rfl), if_pos (by omega)]
  have hb2 : (decide (act.toNat < k) || !(wkA f lg act.toNat).ex && decide (act.toNat < k)) = false := by rw [decide_eq_false (show ¬ act.toNat < k by omega)]; simp
  rw [hb2, if_neg (show ¬ (false = true) by decide), if_neg (show ¬ (act < 0 ∨ 5 ≤ act ∨ act < (k : Int)) by omega)]
  show (if day < f act.toNat ∨ min 12 (f act.toNat + lg) < day then 3 else _) = _
  by_cases h3 : day < f act.toNat ∨ min 12 (f act.toNat + lg) < day
  · rw [if_pos h3, if_pos h3]
  rw [if_neg h3, if_neg h3]
  have hne : neB (wkR f lg) (2 ^ k - 1) act.toNat = decide (act = k) := by
    unfold neB
    rw [wk_ac f lg hi]
    show (if act.toNat = 0 then [] else [(act.toNat : Int) - 1]).all (fun x => seB (wkR f lg) (2 ^ k - 1) x.toNat) = _
    by_cases h0 : act.toNat = 0
    · rw [if_pos h0]
      have : act = k := by omega
      rw [decide_eq_true this]
      rfl
    · rw [if_neg h0, List.all_cons, List.all_nil, Bool.and_true, wk_se f lg _ (by omega), wk_bit]
      exact decide_eq_decide.2 (by omega)
  rw [hne]
  by_cases h4 : act = k
  · rw [if_neg (by rw [decide_eq_true h4]; simp), if_neg (show ¬ act ≠ (k : Int) from fun h => h h4)]
    show (if (false && !usB _ _ _ _) = true then _ else _) = _
    rw [if_neg (by simp)]
    rfl
  · rw [if_pos (by rw [decide_eq_false h4]; rfl), if_pos h4]
theorem wk_co (f : Nat → Int) (lg : Int) {k : Nat} (hk : k ≤ 5) : coB (wkR f lg) (2 ^ k - 1) = decide (k = 5) := by
  unfold coB
  have hn : (wkR f lg).n = 5 := rfl
  rw [hn, Bool.eq_iff_iff, List.all_eq_true, decide_eq_true_iff]
  constructor
  · intro h
    have h4 := h 4 (List.mem_range.2 (by omega))
    rw [wk_se f lg _ (by omega), wk_bit, wk_ac f lg (by omega)] at h4
    simp [wkA] at h4
    omega
  · rintro rfl i hi
    have hi := List.mem_range.1 hi
    rw [wk_se f lg _ hi, wk_bit, decide_eq_true hi, Bool.or_true]
/-- a right course of k works -/
structure WkI (f : Nat → Int) (lg : Int) (l : List (Int × Int)) (k : Nat) : Prop where
  rg : rgB (wkR f lg) l = true
  len : l.length = k
  d : (folF (wkR f lg) m0 l 0).1.d = 2 ^ k - 1
  k5 : k ≤ 5
theorem WkI.nil {f : Nat → Int} {lg : Int} (hf : ∀ i, 0 ≤ f i ∧ f i ≤ 9) (hl : 0 ≤ lg ∧ lg ≤ 7) : WkI f lg [] 0 :=
  ⟨by unfold rgB aftC; rw [if_pos (wk_valid hf hl)]; rfl, rfl, rfl, by omega⟩
/-- the rule that a deed more breaks -/
def wkQ (f : Nat → Int) (lg : Int) (l : List (Int × Int)) (x : Int × Int) : Int := (folF (wkR f lg) m0 (l ++ [x]) 0).2.2
theorem wkQ_eq {f : Nat → Int} {lg : Int} {l : List (Int × Int)} {k : Nat} (h : WkI f lg l k) (x : Int × Int) : wkQ f lg l x =
    if x.1 < (folF (wkR f lg) m0 l 0).1.day ∨ 12 < x.1 then 1 else
      brF (wkR f lg) (2 ^ k - 1) x.1 ((folF (wkR f lg) m0 l 0).1.on x.1).de x.2 := by
  obtain ⟨hr, hf, -⟩ := rg_yes h.rg
  unfold wkQ
  rw [fol_append _ _ _ _ hf, folF]
  have hl : (wkR f lg).last = 12 := rfl
  rw [hl]
  by_cases h1 : x.1 < (folF (wkR f lg) m0 l 0).1.day ∨ 12 < x.1
  · rw [if_pos h1, if_pos h1]
  · rw [if_neg h1, if_neg h1]
    have hd : ((folF (wkR f lg) m0 l 0).1.on x.1).d = 2 ^ k - 1 := by rw [on_d]; exact h.d
    have hy : ((folF (wkR f lg) m0 l 0).1.on x.1).day = x.1 := by
      unfold Mom.on
      split
      · rename_i e; exact e.symm
      · rfl
    rw [hd, hy]
    by_cases hb : brF (wkR f lg) (2 ^ k - 1) x.1 ((folF (wkR f lg) m0 l 0).1.on x.1).de x.2 = 0
    · rw [if_neg (fun h => h hb), hb]; rfl
    · rw [if_pos hb]
/-- what a rule tells of the deed -/
theorem wkQ_facts {f : Nat → Int} {lg : Int} {l : List (Int × Int)} {k : Nat} (h : WkI f lg l k) (x : Int × Int) :
    ((x.2 < 0 ∨ 4 < x.2) → wkQ f lg l x = 1 ∨ wkQ f lg l x = 2) ∧ (wkQ f lg l x = 0 → x.2 = k ∧ k < 5 ∧ WkI f lg (l ++ [x]) (k + 1)) ∧ (wkQ f lg l x = 4 → (k : Int) < x.2) := by
  have hk := h.k5
  rw [wkQ_eq h x]
  refine ⟨fun h1 => ?_, fun h1 => ?_, fun h1 => ?_⟩
  · split
    · exact .inl rfl
    · rw [wk_br hk, if_pos (by omega)]; exact .inr rfl
  · split at h1
    · cases h1
    · rename_i hx
      have h2 := h1
      rw [wk_br hk] at h2
      split at h2
      · cases h2
      · split at h2
        · cases h2
        · split at h2
          · cases h2
          · rename_i h3 _ h4
            have h5 : x.2 = k := Classical.not_not.1 h4
            refine ⟨h5, by omega, ?_⟩
            obtain ⟨hr, hf, -⟩ := rg_yes h.rg
            have hd : ((folF (wkR f lg) m0 l 0).1.on x.1).d = 2 ^ k - 1 := by rw [on_d]; exact h.d
            have hy : ((folF (wkR f lg) m0 l 0).1.on x.1).day = x.1 := by
              unfold Mom.on
              split
              · rename_i e; exact e.symm
              · rfl
            have hl : (wkR f lg).last = 12 := rfl
            have hs := fol_step (r := wkR f lg) (m := (folF (wkR f lg) m0 l 0).1) (y := x) [] (0 + l.length) (by rw [hl]; exact hx) (by rw [hd, hy]; exact fun h => h h1)
            refine ⟨?_, by simp [h.len], ?_, by omega⟩
            · unfold rgB aftC
              rw [if_pos hr, fol_append _ _ _ _ hf, hs]
              rfl
            · rw [fol_append _ _ _ _ hf, hs]
              show ((folF (wkR f lg) m0 l 0).1.on x.1).d ||| 2 ^ x.2.toNat = _
              rw [hd, h5, Int.toNat_natCast]
              refine Nat.eq_of_testBit_eq fun i => ?_
              rw [Nat.testBit_or, wk_bit, wk_bit, Nat.testBit_two_pow, Bool.eq_iff_iff]
              simp
              omega
  · split at h1
    · cases h1
    · rw [wk_br hk] at h1
      split at h1
      · cases h1
      · split at h1
        · cases h1
        · split at h1
          · omega
          · split at h1 <;> cases h1
end Go.Proofs.YtagjeeimglecnaaDoor
/- Top: a rite in the making; the rite of the yard's works. -/
namespace Go.Proofs.YtagjeeimglecnaaDoor
open List renaming getElem_toArray → glA, getElem_cons_zero → glB, getElem_cons_succ → glC, setIfInBounds_toArray → glD, set_cons_zero → glE, set_cons_succ → glF
open Go Go.RowKit Go.Shelf
set_option maxHeartbeats 2000000
set_option maxRecDepth 100000
/-- a rite in the making: the result's box, the box that grows, the own list of acts, and their own lists -/
structure RmI (w W : World) (O R : Nat) (r : Rit) (la tl : Int) (k : Nat) (v : Value) (e : Rad) : Prop where
  lo : Below w.heap.size w W
  kO : Blk W O 28 #[.slice none 0 0, .int .i64 0, .int .i64 0]
  kR : Blk W R 28 #[v, .int .i64 la, .int .i64 tl]
  ow : OwnA W w.heap.size v r e k
  nd : ∀ j, j < k → OwnJ W w.heap.size (.slice (e.na j) (r.ac j).nd.length (e.nc j)) (r.ac j).nd
  ins : ∀ j, j < k → OwnJ W w.heap.size (.slice (e.ia j) (r.ac j).ins.length (e.ic j)) (r.ac j).ins
  hR : w.heap.size ≤ R
  ne : O ≠ R
theorem RmI.ext {w W W' : World} {O R : Nat} {r : Rit} {la tl : Int} {k : Nat} {v : Value} {e : Rad} (h : RmI w W O R r la tl k v e) (hb : Below W.heap.size W W') : RmI w W' O R r la tl k v e :=
  ⟨h.lo.trans (hb.mono h.lo.size), h.kO.ext hb, h.kR.ext hb, ownBelow h.ow hb, fun j hj => (h.nd j hj).ext hb, fun j hj => (h.ins j hj).ext hb, h.hR, h.ne⟩
/-- another act is put behind -/
theorem RmI.push {w W W' : World} {O R : Nat} {r : Rit} {la tl : Int} {k : Nat} {v v' : Value} {e : Rad} (h : RmI w W O R r la tl k v e) (na : Option Addr) (nc : Nat) (ia : Option Addr) (ic : Nat)
    (hn : OwnJ W w.heap.size (.slice na (r.ac k).nd.length nc) (r.ac k).nd) (hi : OwnJ W w.heap.size (.slice ia (r.ac k).ins.length ic) (r.ac k).ins) (hg : W.grownBy W' v.ownBlock) (ho : OwnA W' w.heap.size v' r (e.up k na nc ia ic) (k + 1)) :
    RmI w (W'.setCell ⟨R, 0, none⟩ v') O R r la tl (k + 1) v' (e.up k na nc ia ic) := by
  have hne : ∀ {x : Value} {l : List Int}, OwnJ W w.heap.size x l → OwnJ W' w.heap.size x l := fun {x l} hx => World.ownsRow.kept hx hg (by
    rcases hb : x.ownBlock with _ | p
    · exact .inl rfl
    · refine .inr fun e => ?_
      obtain ⟨A, c, rfl⟩ := own_shape hx
      rcases hx.2 with ⟨h1, -⟩ | ⟨g', cap, cur, h1, -, hh, -⟩
      · rw [h1] at hb; cases hb
      · rw [h1] at hb
        have hgp : g' = p := by simpa [Value.ownBlock] using hb
        subst hgp
        exact own_blk_ne h.ow (t := 3) hh (by decide) e.symm)
  have kR' : Blk W' R 28 #[v, .int .i64 la, .int .i64 tl] := h.kR.grown hg (fun e => own_blk_ne h.ow h.kR (by decide) e.symm)
  have hst : ∀ {x : Value} {l : List Int}, OwnJ W' w.heap.size x l → OwnJ (W'.setCell ⟨R, 0, none⟩ v') w.heap.size x l := fun hx => ownsRow_setCell_other hx (own_blk_ne hx kR' (by decide)) _
  refine ⟨(h.lo.grown hg h.lo.size (fun k e => (World.ownsRow.lt h.ow k e).1)).setCell (p := ⟨R, 0, none⟩) h.hR v', ?_, ?_, ownsRow_setCell_other ho (own_blk_ne ho kR' (by decide)) _, fun j hj => ?_, fun j hj => ?_, h.hR, h.ne⟩
  · exact (h.kO.grown hg (fun e => own_blk_ne h.ow h.kO (by decide) e.symm)).far (p := ⟨R, 0, none⟩) h.ne v'
  · simpa using kR'.set_ 0 v'
  · unfold Rad.up
    dsimp only
    by_cases hjk : j = k
    · subst hjk; rw [if_pos rfl, if_pos rfl]; exact hst (hne hn)
    · rw [if_neg hjk, if_neg hjk]; exact hst (hne (h.nd j (by omega)))
  · unfold Rad.up
    dsimp only
    by_cases hjk : j = k
    · subst hjk; rw [if_pos rfl, if_pos rfl]; exact hst (hne hi)
    · rw [if_neg hjk, if_neg hjk]; exact hst (hne (h.ins j (by omega)))
theorem own_turned {W W' : World} {base : Nat} {t : TypeId} {sz : Nat} {v : Value} {n : Nat} {xs : List Value} (h : W.ownsRow base t sz v n xs) (ha : ∀ k, base ≤ k → k < W.heap.size → W'.heap[k]? = W.heap[k]?) : W'.ownsRow base t sz v n xs :=
  ⟨h.1, h.2.imp id fun ⟨g, cap, cur, h1, h2, h3, h4⟩ => ⟨g, cap, cur, h1, h2, (ha g h2 ((Array.getElem?_eq_some_iff.1 h3).1)).trans h3, h4⟩⟩
/-- the rite that was made -/
theorem RmI.rtR {w W W' : World} {O R : Nat} {r : Rit} {la tl : Int} {A : Option Addr} {c k : Nat} {e : Rad} (hn : r.n = k) (h : RmI w W O R r la tl k (.slice A k c) e) (hk : ∀ {x : Value} {l : List Int}, OwnJ W w.heap.size x l → OwnJ W' w.heap.size x l) (ho : OwnA W' w.heap.size (.slice A k c) r e k) :
    RtR W' ⟨A, c, e.na, e.nc, e.ia, e.ic⟩ r := by
  subst hn
  obtain ⟨A', c', hA', hER, -⟩ := ER.of_own ho (by decide)
  injection hA' with hA1 hA2 hA3
  subst hA1
  exact ⟨hER, fun j hj => (hk (h.nd j hj)).li.2, fun j hj => (hk (h.ins j hj)).li.2⟩
theorem OwnJ.one (W : World) (x : Int) : OwnJ (W.alloc (.cells #[.int .i64 x] 3)) W.heap.size (.slice (some ⟨W.heap.size, 0, none⟩) 1 1) [x] :=
  ⟨by simp [intJ], .inr ⟨W.heap.size, 1, #[.int .i64 x], rfl, Nat.le_refl _, heap_alloc_new W _, Nat.le_refl _, by unfold maxLen; omega, rfl, by simp [intJ]⟩⟩
theorem built_rite2 (la tl : Int) : Tryd.prog.built 28 [(1, .int .i64 la), (2, .int .i64 tl)] = some #[.slice none 0 0, .int .i64 la, .int .i64 tl] := by kernel_rfl
theorem built_act4 (s : Wd) (f : Int) : Tryd.prog.built 71 [(0, .string s), (3, .int .i64 (-1)), (4, .int .i64 f)] = some #[.string s, .slice none 0 0, .slice none 0 0, .int .i64 (-1), .int .i64 f, .int .i64 0, .bool false] := by kernel_rfl
def wkF (b : Nat → Nat) (i : Nat) : Int := ((b i % 10 : Nat) : Int)
def WkPost (w : World) (r : Rit) (e : Ending) (w' : World) : Prop :=
  ∃ d', e = .returned (.agg #[.slice d'.A r.n d'.c, .int .i64 r.last, .int .i64 r.toil]) ∧ (∀ W, w'.heap.size ≤ W.heap.size → (∀ k, w.heap.size ≤ k → k < w'.heap.size → W.heap[k]? = w'.heap[k]?) → RtR W d' r) ∧ Below w.heap.size w w'
theorem linkWork_any (b : Nat → Nat) (c : Nat) (w : World) (hb : ∀ i, b i < 256) (hc : c < 256) :
    Calls Tryd.prog 6 #[.agg #[.int .u8 (b 0 : Nat), .int .u8 (b 1 : Nat), .int .u8 (b 2 : Nat), .int .u8 (b 3 : Nat), .int .u8 (b 4 : Nat)], .int .u8 (c : Nat)] w (WkPost w (wkR (wkF b) ((c % 8 : Nat) : Int))) := by
  have hb0 := built_rite2 12 4
  obtain ⟨r, hr⟩ : ∃ r, wkR (wkF b) ((c % 8 : Nat) : Int) = r := ⟨_, rfl⟩
  have HR := hide hr
  unfold WkPost
  rw [hr]
  have hn : r.n = 5 := by rw [← hr]; rfl
  have hl : r.last = 12 := by rw [← hr]; rfl
  have ht : r.toil = 4 := by rw [← hr]; rfl
  rw [hn, hl, ht]
  have HN := hide hn
  have HBL := hide hb
  clear hr hn hl ht hb
  go_enter Tryd.func6, Tryd.ntmps6
  go_upto_region 2 with fail
  clear hb0
  have hI : RmI w (((w.alloc (.cells #[.int .u8 (b 0 : Nat), .int .u8 (b 1 : Nat), .int .u8 (b 2 : Nat), .int .u8 (b 3 : Nat), .int .u8 (b 4 : Nat)] 22)).alloc (.cells #[.slice none 0 0, .int .i64 0, .int .i64 0] 28)).alloc (.cells #[.slice none 0 0, .int .i64 12, .int .i64 4] 28)) (w.heap.size + 1) (w.heap.size + 1 + 1) r 12 4 0 (.slice none 0 0) ⟨none, 0, fun _ => none, fun _ => 0, fun _ => none, fun _ => 0⟩ ∧ Blk (((w.alloc (.cells #[.int .u8 (b 0 : Nat), .int .u8 (b 1 : Nat), .int .u8 (b 2 : Nat), .int .u8 (b 3 : Nat), .int .u8 (b 4 : Nat)] 22)).alloc (.cells #[.slice none 0 0, .int .i64 0, .int .i64 0] 28)).alloc (.cells #[.slice none 0 0, .int .i64 12, .int .i64 4] 28)) w.heap.size 22 #[.int .u8 (b 0 : Nat), .int .u8 (b 1 : Nat), .int .u8 (b 2 : Nat), .int .u8 (b 3 : Nat), .int .u8 (b 4 : Nat)] := by
    have b1 : Below w.heap.size w (w.alloc (.cells #[.int .u8 (b 0 : Nat), .int .u8 (b 1 : Nat), .int .u8 (b 2 : Nat), .int .u8 (b 3 : Nat), .int .u8 (b 4 : Nat)] 22)) := (Below.refl _ _).alloc (Nat.le_refl _) _
    have s1 : (w.alloc (.cells #[.int .u8 (b 0 : Nat), .int .u8 (b 1 : Nat), .int .u8 (b 2 : Nat), .int .u8 (b 3 : Nat), .int .u8 (b 4 : Nat)] 22)).heap.size = w.heap.size + 1 := by simp
    have k1 := Blk.new (w.alloc (.cells #[.int .u8 (b 0 : Nat), .int .u8 (b 1 : Nat), .int .u8 (b 2 : Nat), .int .u8 (b 3 : Nat), .int .u8 (b 4 : Nat)] 22)) 28 #[.slice none 0 0, .int .i64 0, .int .i64 0]
    rw [s1] at k1
    have s2 : ((w.alloc (.cells #[.int .u8 (b 0 : Nat), .int .u8 (b 1 : Nat), .int .u8 (b 2 : Nat), .int .u8 (b 3 : Nat), .int .u8 (b 4 : Nat)] 22)).alloc (.cells #[.slice none 0 0, .int .i64 0, .int .i64 0] 28)).heap.size = w.heap.size + 1 + 1 := by rw [World.size_alloc, s1]
    have k2 := Blk.new ((w.alloc (.cells #[.int .u8 (b 0 : Nat), .int .u8 (b 1 : Nat), .int .u8 (b 2 : Nat), .int .u8 (b 3 : Nat), .int .u8 (b 4 : Nat)] 22)).alloc (.cells #[.slice none 0 0, .int .i64 0, .int .i64 0] 28)) 28 #[.slice none 0 0, .int .i64 12, .int .i64 4]
    rw [s2] at k2
    exact ⟨⟨(b1.alloc b1.size _).alloc (by rw [s2]; omega) _, k1.alloc _, k2, ⟨rfl, .inl ⟨rfl, rfl⟩⟩, fun j hj => absurd hj (by omega), fun j hj => absurd hj (by omega), by omega, by omega⟩, ((Blk.new w 22 #[.int .u8 (b 0 : Nat), .int .u8 (b 1 : Nat), .int .u8 (b 2 : Nat), .int .u8 (b 3 : Nat), .int .u8 (b 4 : Nat)]).alloc _).alloc _⟩
  have HI := hide hI.1
  have KB := hide hI.2
  have HW0 : Hid (w.heap.size ≤ w.heap.size + 1) := hide (Nat.le_succ _)
  clear hI
  generalize (((w.alloc (.cells #[.int .u8 (b 0 : Nat), .int .u8 (b 1 : Nat), .int .u8 (b 2 : Nat), .int .u8 (b 3 : Nat), .int .u8 (b 4 : Nat)] 22)).alloc (.cells #[.slice none 0 0, .int .i64 0, .int .i64 0] 28)).alloc (.cells #[.slice none 0 0, .int .i64 12, .int .i64 4] 28)) = w3 at HI KB ⊢
  obtain ⟨B, hB⟩ : ∃ x, w.heap.size = x := ⟨_, rfl⟩
  obtain ⟨O, hO⟩ : ∃ x, w.heap.size + 1 = x := ⟨_, rfl⟩
  obtain ⟨R, hR⟩ : ∃ x, w.heap.size + 1 + 1 = x := ⟨_, rfl⟩
  have HBO : Hid (w.heap.size ≤ B ∧ w.heap.size ≤ O ∧ B ≠ R) := hide (by omega)
  rw [hR, hO] at HI
  rw [hB] at KB
  rw [hR, hO, hB]
  clear hB hO hR HW0
  go_wp2_with fail
  go_loopw [6] (fun i wr => ∃ (k : Nat) (v : Value) (e : Rad), k ≤ 5 ∧ i = .int .i64 k ∧ Hid (RmI w wr O R r 12 4 k v e) ∧ Hid (Blk wr B 22 #[.int .u8 (b 0 : Nat), .int .u8 (b 1 : Nat), .int .u8 (b 2 : Nat), .int .u8 (b 3 : Nat), .int .u8 (b 4 : Nat)])) (fun i _ => 5 - (intOf i).toNat)
  case atStart => exact ⟨0, _, _, Nat.zero_le _, rfl, HI, KB⟩
  clear HI KB
  case round =>
    obtain ⟨k, v, e, hk, rfl, HI, KB⟩ := hrel
    have hst : IntKind.i64.wrap ((k : Int) + 1) = ((k + 1 : Nat) : Int) := by rw [IntWalk.i64_in _ (by omega)]; omega
    by_cases hlt : k < 5
    · have hlt' : (k : Int) < 5 := by omega
      have hbk := HBL.out k
      have hkB : ∀ W, Blk W B 22 #[.int .u8 (b 0 : Nat), .int .u8 (b 1 : Nat), .int .u8 (b 2 : Nat), .int .u8 (b 3 : Nat), .int .u8 (b 4 : Nat)] → W.cell? ⟨B, k, none⟩ = some (.int .u8 (b k : Nat)) := fun W h => by
        rw [h.cell]
        rcases (by omega : k = 0 ∨ k = 1 ∨ k = 2 ∨ k = 3 ∨ k = 4) with rfl | rfl | rfl | rfl | rfl <;> rfl
      have HKB := hide hkB
      obtain ⟨nm, hnm⟩ : ∃ s : Wd, (⟨#[UInt8.ofNat (97 + k)]⟩ : ByteArray) = s := ⟨_, rfl⟩
      have HLK := hide (fun W => linkName_any k W (by omega))
      rw [hnm] at HLK
      have HNM := hide hnm
      obtain ⟨y, hy⟩ : ∃ y, b k = y := ⟨_, rfl⟩
      rw [hy] at HKB hbk
      have HY := hide hy
      obtain ⟨f, hf⟩ : ∃ f : Int, ((y % 10 : Nat) : Int) = f := ⟨_, rfl⟩
      have HF := hide hf
      clear hkB hnm hy hf
      have hb4 := built_act4 nm ((y : Int) % 10)
      have ht1 : (y : Int).tmod 10 = (y : Int) % 10 := Int.tmod_eq_emod_of_nonneg (by omega)
      have ht2 : IntKind.i64.wrap ((y : Int) % 10) = (y : Int) % 10 := by rw [IntWalk.i64_in _ (by omega)]
      go_upto_region 5 with fail
      go_cut [7] (fun v w' => Hid (∃ E, v = .pointer (some ⟨E, 0, none⟩) ∧ Blk w' E 71 #[.string nm, .slice none 0 0, .slice none 0 0, .int .i64 (-1), .int .i64 f, .int .i64 0, .bool false] ∧ Below wr.heap.size wr w' ∧ wr.heap.size ≤ E))
      case first =>
        have HBD := hide ((Below.refl wr.heap.size wr).drew)
        have HS5 : Hid (∀ W, Below wr.heap.size wr W → (W.cell? ⟨B, k, none⟩ = some (.int .u8 (y : Nat)))) := hide fun W h => HKB.out W (KB.out.ext h)
        refine wp_region_J (fun W : World => (W.cell? ⟨B, k, none⟩ = some (.int .u8 (y : Nat)))) (by kernel_rfl) ?_
        generalize wr.drew = wd at HBD ⊢
        refine tk_start [0, 2, 3, 4, 5, 6] ?_
        iterate 6
          refine tk_one (v := ?_) (by first | exact hF | exact wideFn) (HS5.out _ HBD.out) rfl (by kernel_rfl) (by kernel_rfl) (by kernel_rfl) (by kernel_rfl) rfl ?_ (by first | exact fun _ _ _ h => h | exact fun _ _ _ h => hQ2 _ _ _ _ _ h) ?_
          rotate_left
          · intro W hSW
            simp only [glA, glB, glC]
            (try dsimp only at hSW)
            go_simp
            with_reducible rfl
          (try simp only [glA, glB, glC, Act.put, glD, glE, glF])
        refine tk_end ?_
        refine wpAnyJ_two 1 8 rfl rfl (by kernel_rfl) (fun K hK => ?_) (fun K hK => ?_)
        · simp only [glA, glB, glC]
          go_simp
          refine ⟨trivial, rfl, ?_⟩
          refine (callsIn_wide.2 (HLK.out wd)).mono ?_
          rintro e wa ⟨rfl, hba⟩
          have HBa := hide (HBD.out.trans (hba.mono HBD.out.size))
          dsimp only
          refine hK.out _ _ (fun _ => HS5.out _ HBa.out) ?_
          clear hK K
          (try simp only [glA, glB, glC, Act.put, glD, glE, glF])
          refine wpAnyJ_take 7 (v := ?_) (by first | exact hF | exact wideFn) (HS5.out _ HBa.out) rfl (by kernel_rfl) (by kernel_rfl) (by kernel_rfl) (by kernel_rfl) rfl ?_ (by first | exact fun _ _ _ h => h | exact fun _ _ _ h => hQ2 _ _ _ _ _ h) ?_
          rotate_left
          · intro W hSW
            simp only [glA, glB, glC]
            (try dsimp only at hSW)
            go_simp
            with_reducible rfl
          (try simp only [glA, glB, glC, Act.put, glD, glE, glF])
          have hb2 : Below wa.heap.size wa (wa.alloc (.cells #[.string ⟨#[]⟩, .slice none 0 0, .slice none 0 0, .int .i64 0, .int .i64 0, .int .i64 0, .bool false] 71)) := (Below.refl _ _).alloc (Nat.le_refl _) _
          obtain ⟨wS, hrun, hKS, hBS, -⟩ := store_blk (P := Tryd.prog) (ty := 71) (cells := #[.string nm, .slice none 0 0, .slice none 0 0, .int .i64 (-1), .int .i64 ((y : Int) % 10), .int .i64 0, .bool false]) (Blk.new wa 71 #[.string ⟨#[]⟩, .slice none 0 0, .slice none 0 0, .int .i64 0, .int .i64 0, .int .i64 0, .bool false]) rfl (by kernel_rfl) (by simp [Value.oneCell'])
          have hb5 := hBS _ _ hb2 (Nat.le_refl _)
          have HBs := hide (HBa.out.trans (hb5.mono HBa.out.size))
          refine wpAnyJ_one 8 rfl (by kernel_rfl) (fun K hK => ?_)
          simp only [glA, glB, glC]
          go_simp
          refine hK.out _ _ (fun _ => HS5.out _ (HBa.out.trans (hb2.mono HBa.out.size))) ?_
          clear hK K
          (try simp only [glA, glB, glC, Act.put, glD, glE, glF])
          refine wpAnyJ_one 9 rfl (by kernel_rfl) (fun K hK => ?_)
          rw [if_pos (by rfl)]
          refine wpIn_store_run 71 (.tmp 7) (.tmp 20) wideFn rfl rfl rfl hrun ?_
          refine hK.out _ _ (fun _ => HS5.out _ HBs.out) ?_
          clear hK K
          (try simp only [glA, glB, glC, Act.put, glD, glE, glF])
          refine wpAnyJ_done (by kernel_rfl) ?_
          go_wp2_with fail
          go_meet
          exact hide ⟨_, rfl, by rw [← HF.out]; exact hKS, HBs.out, HBa.out.size⟩
        · have hb2 : Below wd.heap.size wd (wd.alloc (.cells #[.string ⟨#[]⟩, .slice none 0 0, .slice none 0 0, .int .i64 0, .int .i64 0, .int .i64 0, .bool false] 71)) := (Below.refl _ _).alloc (Nat.le_refl _) _
          have KZ := Blk.new wd 71 #[.string ⟨#[]⟩, .slice none 0 0, .slice none 0 0, .int .i64 0, .int .i64 0, .int .i64 0, .bool false]
          have HBa := hide (HBD.out.trans (hb2.mono HBD.out.size))
          simp only [glA, glB, glC]
          go_simp
          refine hK.out _ _ (fun _ => HS5.out _ HBa.out) ?_
          clear hK K
          (try simp only [glA, glB, glC, Act.put, glD, glE, glF])
          generalize wd.alloc (.cells #[.string ⟨#[]⟩, .slice none 0 0, .slice none 0 0, .int .i64 0, .int .i64 0, .int .i64 0, .bool false] 71) = we at HBa KZ ⊢
          refine wpAnyJ_one 1 rfl (by kernel_rfl) (fun K hK => ?_)
          simp only [glA, glB, glC]
          go_simp
          refine ⟨trivial, rfl, ?_⟩
          refine (callsIn_wide.2 (HLK.out we)).mono ?_
          rintro e wa ⟨rfl, hba⟩
          have HBb := hide (HBa.out.trans (hba.mono HBa.out.size))
          dsimp only
          refine hK.out _ _ (fun _ => HS5.out _ HBb.out) ?_
          clear hK K
          (try simp only [glA, glB, glC, Act.put, glD, glE, glF])
          refine wpAnyJ_take 7 (v := ?_) (by first | exact hF | exact wideFn) (HS5.out _ HBb.out) rfl (by kernel_rfl) (by kernel_rfl) (by kernel_rfl) (by kernel_rfl) rfl ?_ (by first | exact fun _ _ _ h => h | exact fun _ _ _ h => hQ2 _ _ _ _ _ h) ?_
          rotate_left
          · intro W hSW
            simp only [glA, glB, glC]
            (try dsimp only at hSW)
            go_simp
            with_reducible rfl
          (try simp only [glA, glB, glC, Act.put, glD, glE, glF])
          obtain ⟨wS, hrun, hKS, hBS, -⟩ := store_blk (P := Tryd.prog) (ty := 71) (cells := #[.string nm, .slice none 0 0, .slice none 0 0, .int .i64 (-1), .int .i64 ((y : Int) % 10), .int .i64 0, .bool false]) (KZ.ext hba) rfl (by kernel_rfl) (by simp [Value.oneCell'])
          have HBs := hide (hBS _ _ HBb.out HBD.out.size)
          refine wpAnyJ_one 9 rfl (by kernel_rfl) (fun K hK => ?_)
          rw [if_pos (by rfl)]
          refine wpIn_store_run 71 (.tmp 7) (.tmp 20) wideFn rfl rfl rfl hrun ?_
          refine hK.out _ _ (fun _ => HS5.out _ HBs.out) ?_
          clear hK K
          (try simp only [glA, glB, glC, Act.put, glD, glE, glF])
          refine wpAnyJ_done (by kernel_rfl) ?_
          go_wp2_with fail
          go_meet
          exact hide ⟨_, rfl, by rw [← HF.out]; exact hKS, HBs.out, HBD.out.size⟩
      obtain ⟨E, rfl, hKE, hbc, hEs⟩ := hcut.out
      have KE := hide hKE
      have HB := hide (And.intro hbc hEs)
      clear hKE hbc hEs hb4 ht1 ht2
      have hf9 : 0 ≤ f ∧ f ≤ 9 := by rw [← HF.out]; omega
      obtain ⟨lg, hlg⟩ : ∃ lg : Int, ((c % 8 : Nat) : Int) = lg := ⟨_, rfl⟩
      have hl7 : 0 ≤ lg ∧ lg ≤ 7 := by rw [← hlg]; omega
      have HLG := hide hlg
      have ht1 : (c : Int).tmod 8 = lg := by rw [Int.tmod_eq_emod_of_nonneg (by omega), ← hlg]; omega
      have ht2 : IntKind.i64.wrap lg = lg := by rw [IntWalk.i64_in _ (by omega)]
      have ht3 : IntKind.i64.wrap (f + lg) = f + lg := by rw [IntWalk.i64_in _ (by omega)]
      clear hlg
      have c4 := KE.out.cell 4
      replace c4 : wc.cell? ⟨E, 4, none⟩ = some (.int .i64 f) := c4
      have c5 := KE.out.cell 5
      replace c5 : wc.cell? ⟨E, 5, none⟩ = some (.int .i64 0) := c5
      have f5 := KE.out.frozen 5
      go_upto_if 30 with fail
      have hK5 := KE.out.set_ 5 (.int .i64 (min 12 (f + lg)))
      obtain ⟨to_, hto⟩ : ∃ t : Int, min 12 (f + lg) = t := ⟨_, rfl⟩
      rw [hto] at hK5 ⊢
      have HTO := hide hto
      have KE5 : Hid (Blk (wc.setCell ⟨E, 5, none⟩ (.int .i64 to_)) E 71 #[.string nm, .slice none 0 0, .slice none 0 0, .int .i64 (-1), .int .i64 f, .int .i64 to_, .bool false]) := hide (by simpa using hK5)
      have HB5 : Hid (Below wr.heap.size wr (wc.setCell ⟨E, 5, none⟩ (.int .i64 to_))) := hide (HB.out.1.setCell (p := ⟨E, 5, none⟩) HB.out.2 _)
      obtain ⟨nd, hnd⟩ : ∃ nd : List Int, (if k = 0 then [] else [(k : Int) - 1]) = nd := ⟨_, rfl⟩
      have HND := hide hnd
      clear hK5 hto hnd c4 c5 f5 KE ht1 ht2 ht3
      generalize wc.setCell ⟨E, 5, none⟩ (.int .i64 to_) = w6 at KE5 HB5 ⊢
      go_cut [7] (fun v w' => v = .pointer (some ⟨E, 0, none⟩) ∧ Hid (∃ na nc, Blk w' E 71 #[.string nm, .slice na nd.length nc, .slice none 0 0, .int .i64 (-1), .int .i64 f, .int .i64 to_, .bool false] ∧ OwnJ w' w.heap.size (.slice na nd.length nc) nd ∧ Below wr.heap.size wr w'))
      case first =>
        by_cases hk0 : k = 0
        · have hnd := HND.out
          rw [if_pos hk0] at hnd
          have hk1 : ¬ 0 < k := by omega
          subst hnd
          go_wp2_with fail
          go_meet
          exact ⟨rfl, hide ⟨none, 0, KE5.out, ⟨rfl, .inl ⟨rfl, rfl⟩⟩, HB5.out⟩⟩
        · have hnd := HND.out
          rw [if_neg hk0] at hnd
          have hk1 : 0 < k := by omega
          have hkm : IntKind.i64.wrap ((k : Int) - 1) = (k : Int) - 1 := by rw [IntWalk.i64_in _ (by omega)]
          obtain ⟨wA, hwA⟩ : ∃ x, w6.alloc (.cells #[.int .i64 ((k : Int) - 1)] 3) = x := ⟨_, rfl⟩
          have hba : Below w6.heap.size w6 wA := by rw [← hwA]; exact (Below.refl _ _).alloc (Nat.le_refl _) _
          have hoj : OwnJ wA w6.heap.size (.slice (some ⟨w6.heap.size, 0, none⟩) 1 1) [(k : Int) - 1] := by rw [← hwA]; exact OwnJ.one w6 _
          have KA := KE5.out.ext hba
          have hEd := HB.out.2
          have KA2 := KA.set_ 1 (.slice (some ⟨w6.heap.size, 0, none⟩) 1 1)
          have c1 := KA.cell 1
          replace c1 : wA.cell? ⟨E, 1, none⟩ = some (.slice none 0 0) := c1
          have f1 := KA.frozen 1
          have HBA : Hid (Below wr.heap.size wr (wA.setCell ⟨E, 1, none⟩ (.slice (some ⟨w6.heap.size, 0, none⟩) 1 1))) := hide ((HB5.out.trans (hba.mono HB5.out.size)).setCell (p := ⟨E, 1, none⟩) hEd _)
          have HON : Hid (OwnJ (wA.setCell ⟨E, 1, none⟩ (.slice (some ⟨w6.heap.size, 0, none⟩) 1 1)) w.heap.size (.slice (some ⟨w6.heap.size, 0, none⟩) 1 1) [(k : Int) - 1]) := hide (ownMono (ownsRow_setCell_other hoj (own_blk_ne hoj KA (by decide)) _) (Nat.le_trans HI.out.lo.size HB5.out.size))
          have KA3 := hide KA2
          clear hba hoj KA KA2 hEd
          subst hnd
          go_wp2_with (first | rw [hwA] | fail)
          go_meet
          exact ⟨rfl, hide ⟨_, 1, by simpa using KA3.out, HON.out, HBA.out⟩⟩
      obtain ⟨rfl, HC⟩ := hcut
      obtain ⟨na, nc, hke, hon, hbc⟩ := HC.out
      have HRA : Hid (r.ac k = ⟨nm, nd, [], -1, f, to_, false⟩) := hide (by
        rw [← HR.out, wk_ac _ _ hlt]
        unfold wkA wkN wkF
        rw [HNM.out, HY.out, HF.out, HND.out, HLG.out, HTO.out])
      have HKc := hide (HI.out.ext hbc)
      have KBc := hide (KB.out.ext hbc)
      have KE := hide hke
      obtain ⟨A', c', wf, hrun, hoa, hga⟩ := HKc.out.ow.push na nc none 0 (by omega) HKc.out.lo.size
      rw [HRA.out] at hrun hga
      unfold acL at hrun hga
      dsimp only at hrun hga
      have hbA : Below wc.heap.size wc (wc.alloc (.cells [Value.string nm, Value.slice na nd.length nc, Value.slice none ([] : List Int).length 0, Value.int .i64 (-1), Value.int .i64 f, Value.int .i64 to_, Value.bool false].toArray 71)) := (Below.refl _ _).alloc (Nat.le_refl _) _
      have HKd := hide ((HKc.out.ext hbA).push na nc none 0 (by rw [HRA.out]; exact ownBelow hon hbA) (by rw [HRA.out]; exact ⟨rfl, .inl ⟨rfl, rfl⟩⟩) hga hoa)
      have HKB : Hid (Blk (wf.setCell ⟨R, 0, none⟩ (.slice A' (k + 1) c')) B 22 #[.int .u8 (b 0 : Nat), .int .u8 (b 1 : Nat), .int .u8 (b 2 : Nat), .int .u8 (b 3 : Nat), .int .u8 (b 4 : Nat)]) := hide (((KBc.out.ext hbA).grown hga (fun e => own_blk_ne (HKc.out.ext hbA).ow (KBc.out.ext hbA) (by decide) e.symm)).far (p := ⟨R, 0, none⟩) HBO.out.2.2 _)
      have kRf : Blk wf R 28 #[v, .int .i64 12, .int .i64 4] := ((HKc.out.ext hbA).kR).grown hga (fun e => own_blk_ne (HKc.out.ext hbA).ow (HKc.out.ext hbA).kR (by decide) e.symm)
      obtain ⟨VA, VC, rfl⟩ := own_shape HKc.out.ow
      have HRUN := hide hrun
      obtain ⟨p9, p0, p1, p2, -⟩ := blk3 HKc.out.kR
      obtain ⟨nn, hnn⟩ : ∃ x, nd.length = x := ⟨_, rfl⟩
      rw [hnn] at KE HRUN
      have k0 := KE.out.cell 0
      have k1 := KE.out.cell 1
      have k2 := KE.out.cell 2
      have k3 := KE.out.cell 3
      have k4 := KE.out.cell 4
      have k5 := KE.out.cell 5
      have k6 := KE.out.cell 6
      replace k0 : wc.cell? ⟨E, 0, none⟩ = some (.string nm) := k0
      replace k1 : wc.cell? ⟨E, 1, none⟩ = some (.slice na nn nc) := k1
      replace k2 : wc.cell? ⟨E, 2, none⟩ = some (.slice none 0 0) := k2
      replace k3 : wc.cell? ⟨E, 3, none⟩ = some (.int .i64 (-1)) := k3
      replace k4 : wc.cell? ⟨E, 4, none⟩ = some (.int .i64 f) := k4
      replace k5 : wc.cell? ⟨E, 5, none⟩ = some (.int .i64 to_) := k5
      replace k6 : wc.cell? ⟨E, 6, none⟩ = some (.bool false) := k6
      obtain ⟨r9, r0, r1, r2, r3, r4, r5⟩ := blk3 kRf
      clear hrun hoa hga hbA hke hon hbc HC HKc KBc kRf hnn HND HTO HB5 KE5 HB
      go_wp2_with (at_builtin; refine wpList_append_run rfl (.tmp 36) (.tmp 38) 26 rfl rfl rfl HRUN.out ?_)
      go_roundw
      case rel => exact ⟨k + 1, _, _, by omega, by go_num, HKd, HKB⟩
      case measure => simp [intOf]; omega
    · obtain rfl : k = 5 := by omega
      obtain ⟨VA, VC, rfl⟩ := own_shape HI.out.ow
      obtain ⟨p9, p0, p1, p2, -⟩ := blk3 HI.out.kR
      obtain ⟨u9, u0, u1, u2, u3, u4, u5⟩ := blk3 HI.out.kO
      go_wp2_with fail
      have h3 := HI.out.kO.set3 (.slice VA 5 VC) (.int .i64 12) (.int .i64 4)
      obtain ⟨-, z0, z1, z2, -⟩ := blk3 h3
      have hgs := gr_trans (gr_trans (grownBy_setC wr O 0 (.slice VA 5 VC)) (grownBy_setC _ O 1 (.int .i64 12))) (grownBy_setC _ O 2 (.int .i64 4))
      have hst : ∀ {x : Value} {l : List Int}, OwnJ wr w.heap.size x l → OwnJ (((wr.setCell ⟨O, 0, none⟩ (.slice VA 5 VC)).setCell ⟨O, 1, none⟩ (.int .i64 12)).setCell ⟨O, 2, none⟩ (.int .i64 4)) w.heap.size x l := fun hx => World.ownsRow.kept hx hgs (.inr (own_blk_ne hx HI.out.kO (by decide)))
      have hoa := World.ownsRow.kept HI.out.ow hgs (.inr (own_blk_ne HI.out.ow HI.out.kO (by decide)))
      have hlo := set3B HI.out.lo HBO.out.2.1 (.slice VA 5 VC) (.int .i64 12) (.int .i64 4)
      refine bodyPost_ret (v := .agg #[.slice VA 5 VC, .int .i64 12, .int .i64 4]) (by
        simp [results, Tryd.results6, go_sem, z0, z1, z2]) rfl ⟨⟨VA, VC, e.na, e.nc, e.ia, e.ic⟩, rfl, fun W _ ha => RmI.rtR HN.out HI.out (fun hx => own_turned (hst hx) ha) (own_turned hoa ha), hlo⟩
end Go.Proofs.YtagjeeimglecnaaDoor
/- Top: the bricks of the yard's works; what lies at the head of a round of TopFirings. -/
namespace Go.Proofs.YtagjeeimglecnaaDoor
open Go Go.RowKit Go.Shelf
set_option maxHeartbeats 2000000
set_option maxRecDepth 100000
/-- the bricks behind k works -/
def kwW (n lo : Int) (k : Nat) : Wa := if k = 0 then Wa.zero else if k = 1 then ⟨n, 0, 0, 0, 0, 0, 0⟩ else if k = 2 then ⟨0, n, 0, 0, 0, 0, 0⟩ else if k = 3 then ⟨0, 0, n, 0, 0, 0, 0⟩ else if k = 4 then ⟨0, 0, 0, n - lo, 0, lo, 0⟩ else ⟨0, 0, 0, 0, n - lo, lo, 0⟩
section
variable {n lo : Int} (hn : 1 ≤ n ∧ n ≤ 50) (hl : 0 ≤ lo ∧ lo < n)
include hn hl
theorem kw_ok (k : Nat) : OkW (kwW n lo k) := by
  unfold kwW
  split
  · exact ⟨by decide, by decide, by decide, by decide, by decide, by decide, by decide, by decide, by decide⟩
  · repeat' split
    all_goals exact ⟨by dsimp only; omega, by dsimp only; omega, by dsimp only; omega, by dsimp only; omega, by dsimp only; omega, by dsimp only; omega, by dsimp only; omega, by dsimp only; omega, by dsimp only; omega⟩
omit hl in
theorem kw_mould : mouldE (kwW n lo 0) n = 0 ∧ mouldX (kwW n lo 0) n = kwW n lo 1 := by
  unfold mouldE mouldX
  simp [kwW, Wa.zero, Wa.put, show ¬ 1000000000 < n by omega]
theorem kw_dry {k : Nat} (hk : k ≤ 1) : dryE (kwW n lo k) n 0 = (if k = 1 then 0 else 9) ∧ dryX (kwW n lo k) n 0 = (if k = 1 then kwW n lo 2 else kwW n lo k) := by
  have := hn
  have := hl
  unfold dryE dryX
  rcases (by omega : k = 0 ∨ k = 1) with rfl | rfl <;> simp [kwW, Wa.zero, Wa.put, show (0 : Int) ≤ n by omega, show (0 : Int) < n by omega]
theorem kw_fire {k : Nat} (hk : k ≤ 2) : fireE (kwW n lo k) n 2 1000 = (if k = 2 then 0 else 9) ∧ fireX (kwW n lo 2) n = kwW n lo 3 := by
  have := hn
  have := hl
  unfold fireE fireX
  rcases (by omega : k = 0 ∨ k = 1 ∨ k = 2) with rfl | rfl | rfl <;> simp [kwW, Wa.zero, Wa.put, show ¬ n < 1 by omega, show (0 : Int) < n by omega, show ¬ 1000 < n * 2 by omega]
theorem kw_draw : drawE (kwW n lo 3) lo = 0 ∧ drawn (kwW n lo 3) lo = kwW n lo 4 := by
  have := hn
  have := hl
  unfold drawE drawn
  simp [kwW, Wa.put]
  omega
theorem kw_lay {k : Nat} (hk : k ≤ 4) : layE (kwW n lo k) (n - lo) = (if k = 4 then 0 else 9) ∧ layX (kwW n lo k) (n - lo) = (if k = 4 then kwW n lo 5 else kwW n lo k) := by
  have := hn
  have := hl
  unfold layE layX
  rcases (by omega : k = 0 ∨ k = 1 ∨ k = 2 ∨ k = 3 ∨ k = 4) with rfl | rfl | rfl | rfl | rfl <;> simp [kwW, Wa.zero, Wa.put, show 0 < n - lo by omega, show lo < n by omega]
end
theorem own_blk1 {w : World} {base n : Nat} {e : TypeId} {g cap : Nat} {xs : List Value} (h : w.ownsRow base e 1 (.slice (some ⟨g, 0, none⟩) n cap) n xs) : base ≤ g ∧ ∃ cur, Blk w g e cur := by
  rcases h.2 with ⟨h1, -⟩ | ⟨b, cap', cur, hv, hb, hh, -⟩
  · cases h1
  · injection hv with h1
    injection h1 with h1
    injection h1 with h1
    subst h1
    exact ⟨hb, cur, hh⟩
/-- what lies at the head of a round -/
structure FrI (w0 W : World) (b S sb sc : Nat) (ov : Value) (x : Wa) (hot : Bool) (RV : Value) (l : List (Int × Int)) : Prop where
  lo : Below w0.heap.size w0 W
  book : Blk W b 81 #[.slice (some ⟨sb, 0, none⟩) 1 sc, .int .i64 1000, .slice (some ⟨S, 0, none⟩) 1 1, ov]
  st : Stores W S 1 (fun _ => x)
  sp : ∃ cs : Array Value, Blk W sb 3 cs ∧ cs[0]? = some (.int .i64 2)
  rt : OwnD W w0.heap.size RV l
  low : w0.heap.size ≤ b ∧ w0.heap.size ≤ S ∧ w0.heap.size ≤ sb
  burn : (hot = false ∧ ov = .slice none 0 0) ∨ (hot = true ∧ ∃ g oc : Nat, ov = .slice (some ⟨g, 0, none⟩) 1 oc ∧ w0.heap.size ≤ g ∧ ∃ cs : Array Value, Blk W g 3 cs ∧ cs[0]? = some (.int .i64 0))
theorem FrI.ext {w0 W W' : World} {b S sb sc : Nat} {ov : Value} {x : Wa} {hot : Bool} {RV : Value} {l : List (Int × Int)} (h : FrI w0 W b S sb sc ov x hot RV l) (hb : Below W.heap.size W W') : FrI w0 W' b S sb sc ov x hot RV l := by
  obtain ⟨cs, h1, h2⟩ := h.sp
  refine ⟨h.lo.trans (hb.mono h.lo.size), h.book.ext hb, h.st.below hb h.st.lt, ⟨cs, h1.ext hb, h2⟩, h.rt.ext hb, h.low, ?_⟩
  rcases h.burn with h | ⟨h3, g, oc, h4, h5, cs, h6, h7⟩
  · exact .inl h
  · exact .inr ⟨h3, g, oc, h4, h5, cs, h6.ext hb, h7⟩
theorem FrI.bS {w0 W : World} {b S sb sc : Nat} {ov : Value} {x : Wa} {hot : Bool} {RV : Value} {l : List (Int × Int)} (h : FrI w0 W b S sb sc ov x hot RV l) : b ≠ S := book_ne h.book h.st
theorem int_ir {W : World} {g : Nat} {cs : Array Value} {y : Int} (h : Blk W g 3 cs) (h0 : cs[0]? = some (.int .i64 y)) : IR W W.heap.size (some ⟨g, 0, none⟩) 1 (fun _ => y) := fun _ => ⟨g, 0, rfl, h.lt, fun i j hi hj => by
  obtain rfl : i = 0 := by omega
  obtain rfl : j = 0 := by omega
  rw [h.cell]; exact h0⟩
/-- behind a call that turns the bricks into X, and no more -/
theorem FrI.step {w0 W W' : World} {b S sb sc : Nat} {ov : Value} {x X : Wa} {hot : Bool} {RV : Value} {l : List (Int × Int)} {E : Int} {e : Ending} (h : FrI w0 W b S sb sc ov x hot RV l)
    (hs : StepPost b S 1 (.slice (some ⟨sb, 0, none⟩) 1 sc) ov 1000 (fun _ => x) 0 E X W e W') : FrI w0 W' b S sb sc ov X hot RV l := by
  obtain ⟨-, hbk, hst, hg⟩ := hs
  obtain ⟨cs, h1, h2⟩ := h.sp
  obtain ⟨ct, hct⟩ := h.st.1
  have hS : ∀ {g : Nat} {cs : Array Value}, Blk W g 3 cs → Blk W' g 3 cs := fun h => h.grown hg (fun e => by injection e with e; exact (h.ne_ hct (by decide)) e)
  refine ⟨h.lo.grown hg h.lo.size (fun j hj => by injection hj with hj; have := h.low; omega), hbk, ⟨hst.1, fun k hk => ?_⟩, ⟨cs, hS h1, h2⟩, World.ownsRow.kept h.rt hg (.inr (own_blk_ne h.rt hct (by decide))), h.low, ?_⟩
  · have h3 := hst.2 k hk
    obtain rfl : k = 0 := by omega
    rw [upd_same] at h3
    exact h3
  · rcases h.burn with h | ⟨h3, g, oc, h4, h5, cs, h6, h7⟩
    · exact .inl h
    · exact .inr ⟨h3, g, oc, h4, h5, cs, hS h6, h7⟩
theorem OwnD.turned {W W' : World} {base : Nat} {v : Value} {l : List (Int × Int)} (h : OwnD W base v l) (ha : ∀ g, v.ownBlock = some g → W'.heap[g]? = W.heap[g]?) : OwnD W' base v l :=
  ⟨h.1, h.2.imp id fun ⟨g, cap, cur, h1, h2, h3, h4⟩ => ⟨g, cap, cur, h1, h2, (ha g (by rw [h1]; rfl)).trans h3, h4⟩⟩
theorem FrI.apart {w0 W W' : World} {b S sb sc : Nat} {ov ov' : Value} {x X : Wa} {hot hot' : Bool} {RV : Value} {l : List (Int × Int)} (h : FrI w0 W b S sb sc ov x hot RV l) (ha : Apart W W' S b)
    (hbk : Blk W' b 81 #[.slice (some ⟨sb, 0, none⟩) 1 sc, .int .i64 1000, .slice (some ⟨S, 0, none⟩) 1 1, ov']) (hst : Stores W' S 1 (upd (fun _ => x) 0 X))
    (hbu : (hot' = false ∧ ov' = .slice none 0 0) ∨ (hot' = true ∧ ∃ g oc : Nat, ov' = .slice (some ⟨g, 0, none⟩) 1 oc ∧ w0.heap.size ≤ g ∧ ∃ cs : Array Value, Blk W' g 3 cs ∧ cs[0]? = some (.int .i64 0))) : FrI w0 W' b S sb sc ov' X hot' RV l := by
  obtain ⟨cs, h1, h2⟩ := h.sp
  obtain ⟨ct, hct⟩ := h.st.1
  obtain ⟨a1, a2, a3, a4, a5⟩ := ha
  have hlow := h.low
  have z := h.lo.size
  refine ⟨h.lo.trans ⟨a1, a2, a3, a4, fun j hj => a5 j (by omega) (by omega) (by omega)⟩, hbk, ⟨hst.1, fun k hk => ?_⟩, ⟨cs, (a5 sb h1.lt (h1.ne_ hct (by decide)) (h1.ne_ h.book (by decide))).trans h1, h2⟩, ?_, h.low, hbu⟩
  · have h3 := hst.2 k hk
    obtain rfl : k = 0 := by omega
    rw [upd_same] at h3
    exact h3
  · have hrt := h.rt
    refine OwnD.turned hrt fun g hg => a5 g (World.ownsRow.lt hrt g hg).2 (fun e => ?_) (fun e => ?_)
    · exact own_blk_ne hrt hct (by decide) (e ▸ hg)
    · exact own_blk_ne hrt h.book (by decide) (e ▸ hg)
/-- a deed more -/
theorem FrI.push {w0 W W' : World} {b S sb sc : Nat} {ov : Value} {x : Wa} {hot : Bool} {RV RV' : Value} {l l' : List (Int × Int)} (h : FrI w0 W b S sb sc ov x hot RV l) (hg : W.grownBy W' RV.ownBlock) (ho : OwnD W' w0.heap.size RV' l') : FrI w0 W' b S sb sc ov x hot RV' l' := by
  obtain ⟨cs, h1, h2⟩ := h.sp
  obtain ⟨ct, hct⟩ := h.st.1
  have hK : ∀ {g : Nat} {t : TypeId} {cs : Array Value}, Blk W g t cs → 38 ≠ t → Blk W' g t cs := fun hB ht => hB.grown hg (fun e => own_blk_ne h.rt hB ht e.symm)
  refine ⟨h.lo.grown hg h.lo.size (fun j hj => (World.ownsRow.lt h.rt j hj).1), hK h.book (by decide), h.st.grown hg (fun e => own_blk_ne h.rt hct (by decide) e.symm), ⟨cs, hK h1 (by decide), h2⟩, ho, h.low, ?_⟩
  rcases h.burn with h | ⟨h3, g, oc, h4, h5, cs, h6, h7⟩
  · exact .inl h
  · exact .inr ⟨h3, g, oc, h4, h5, cs, hK h6 (by decide), h7⟩
theorem FrI.init {w0 w4 : World} {base b S : Nat} (hbook : BookAt w4 base b S 1 (fun _ => 2) 1000 (fun _ => Wa.zero) (.slice none 0 0)) (hbase : w0.heap.size ≤ base) (hb : Below w0.heap.size w0 w4) :
    ∃ sb sc, FrI w0 (w4.alloc (.cells #[] 38)) b S sb sc (.slice none 0 0) Wa.zero false (.slice (some ⟨w4.heap.size, 0, none⟩) 0 0) [] := by
  obtain ⟨A, c, h1, h2, h3, h4, h5⟩ := hbook
  obtain ⟨g, oc, h6, h7, h8⟩ := own_addr h2 (by omega)
  injection h6 with h6 h9 h10
  subst h6 h10
  obtain ⟨hg, cur, hcur⟩ := own_blk1 h2
  have hb2 : Below w4.heap.size w4 (w4.alloc (.cells #[] 38)) := (Below.refl _ _).alloc (Nat.le_refl _) _
  obtain ⟨g', o', e1, e2, e3⟩ := h8 (by omega)
  injection e1 with e1
  injection e1 with e4 e5
  subst e4 e5
  have e6 := e3 0 0 (by omega) (by omega)
  rw [hcur.cell] at e6
  exact ⟨g, c, hb.trans (hb2.mono hb.size), h1.ext hb2, h3.below hb2 h3.lt, ⟨cur, hcur.ext hb2, e6⟩, ownMono (OwnD.made0 w4) hb.size, ⟨Nat.le_trans hbase h5, Nat.le_trans hbase h4, Nat.le_trans hbase hg⟩, .inl ⟨rfl, rfl⟩⟩
theorem wk_z (f : Nat → Int) (lg : Int) : RtZ (wkR f lg) := by
  have hn : (wkR f lg).n = 5 := rfl
  refine ⟨by rw [hn]; omega, fun k hk => ?_, fun k hk => ?_, fun k hk => ?_⟩ <;> (rw [hn] at hk; rw [wk_ac f lg hk])
  · show (wkN k).size ≤ 1000
    exact Nat.le_trans (show (1 : Nat) ≤ 1 from Nat.le_refl _) (by decide)
  · show (if k = 0 then [] else [(k : Int) - 1]).length ≤ 1000
    split <;> simp
  · show ([] : List Int).length ≤ 1000
    simp
theorem blk_dsr {W : World} {g : Nat} {x : Int × Int} (h : Blk W g 38 #[.int .i64 x.1, .int .i64 x.2]) : DsR W (some ⟨g, 0, none⟩) [x] := fun _ => by
  refine ⟨g, 0, rfl, h.lt, fun k i hk hi => ?_⟩
  obtain rfl : k = 0 := by simpa using hk
  rw [h.cell]
  rcases (by omega : i = 0 ∨ i = 1) with rfl | rfl <;> rfl
end Go.Proofs.YtagjeeimglecnaaDoor
/- Split off XUx: words that hang on less of the program. -/
namespace Go.Proofs.YtagjeeimglecnaaDoor
open Go Go.RowKit Go.Shelf
set_option maxHeartbeats 8000000
set_option maxRecDepth 100000
theorem built_act0 : Tryd.prog.built 71 [(0, .string ⟨#[107, 105, 110, 100, 108, 101]⟩), (5, .int .i64 2), (3, .int .i64 2)] = some #[.string ⟨#[107, 105, 110, 100, 108, 101]⟩, .slice none 0 0, .slice none 0 0, .int .i64 2, .int .i64 0, .int .i64 2, .bool false] := by kernel_rfl
theorem built_act1 (A : Option Addr) : Tryd.prog.built 71 [(0, .string ⟨#[111, 102, 102, 101, 114]⟩), (1, .slice A 1 1), (4, .int .i64 1), (5, .int .i64 3), (3, .int .i64 (-1))] = some #[.string ⟨#[111, 102, 102, 101, 114]⟩, .slice A 1 1, .slice none 0 0, .int .i64 (-1), .int .i64 1, .int .i64 3, .bool false] := by kernel_rfl
theorem built_act2 : Tryd.prog.built 71 [(0, .string ⟨#[97, 109, 101, 110, 100]⟩), (5, .int .i64 5), (3, .int .i64 (-1)), (6, .bool true)] = some #[.string ⟨#[97, 109, 101, 110, 100]⟩, .slice none 0 0, .slice none 0 0, .int .i64 (-1), .int .i64 0, .int .i64 5, .bool true] := by kernel_rfl
def fiA0 : Rac := ⟨⟨#[107, 105, 110, 100, 108, 101]⟩, [], [], 2, 0, 2, false⟩
def fiA1 : Rac := ⟨⟨#[111, 102, 102, 101, 114]⟩, [0], [], -1, 1, 3, false⟩
def fiA2 : Rac := ⟨⟨#[97, 109, 101, 110, 100]⟩, [], [], -1, 0, 5, true⟩
def fiR (tl : Int) : Rit := ⟨[fiA0, fiA1, fiA2], 5, tl⟩
def fiD (p : Nat) : Rad := ⟨some ⟨p + 1, 0, none⟩, 3, fun k => if k = 1 then some ⟨p, 0, none⟩ else none, fun k => if k = 1 then 1 else 0, fun _ => none, fun _ => 0⟩
theorem fire_lies {W : World} {p : Nat} (tl : Int) (h0 : Blk W p 3 #[.int .i64 0]) (h1 : Blk W (p + 1) 71 #[.string ⟨#[107, 105, 110, 100, 108, 101]⟩, .slice none 0 0, .slice none 0 0, .int .i64 2, .int .i64 0, .int .i64 2, .bool false, .string ⟨#[111, 102, 102, 101, 114]⟩, .slice (some ⟨p, 0, none⟩) 1 1, .slice none 0 0, .int .i64 (-1), .int .i64 1, .int .i64 3, .bool false, .string ⟨#[97, 109, 101, 110, 100]⟩, .slice none 0 0, .slice none 0 0, .int .i64 (-1), .int .i64 0, .int .i64 5, .bool true]) : RtR W (fiD p) (fiR tl) := by
  refine ⟨fun _ => ⟨p + 1, 0, rfl, h1.lt, fun k i hk hi => ?_⟩, fun k hk => ?_, fun k hk => ?_⟩
  · rw [h1.cell]
    have hk3 : k < 3 := hk
    rcases (by omega : k = 0 ∨ k = 1 ∨ k = 2) with rfl | rfl | rfl <;> rcases (by omega : i = 0 ∨ i = 1 ∨ i = 2 ∨ i = 3 ∨ i = 4 ∨ i = 5 ∨ i = 6) with rfl | rfl | rfl | rfl | rfl | rfl | rfl <;> rfl
  · have hk3 : k < 3 := hk
    rcases (by omega : k = 0 ∨ k = 1 ∨ k = 2) with rfl | rfl | rfl
    · exact ER.nil _ _ _ _ _
    · intro _
      refine ⟨p, 0, rfl, h0.lt, fun j i hj hi => ?_⟩
      have hj1 : j < 1 := hj
      obtain rfl : j = 0 := by omega
      obtain rfl : i = 0 := by omega
      rw [h0.cell]; rfl
    · exact ER.nil _ _ _ _ _
  · have hk3 : k < 3 := hk
    rcases (by omega : k = 0 ∨ k = 1 ∨ k = 2) with rfl | rfl | rfl <;> exact ER.nil _ _ _ _ _
end Go.Proofs.YtagjeeimglecnaaDoor
/- Split off XUs: words that hang on less of the program. -/
namespace Go.Proofs.YtagjeeimglecnaaDoor
open Go Go.RowKit Go.Shelf
set_option maxHeartbeats 8000000
set_option maxRecDepth 100000
theorem fol_dlt {r : Rit} (hr : r.n ≤ 10) : ∀ (l : List (Int × Int)) (m : Mom) (k : Nat), m.d < 65536 → (folF r m l k).1.d < 65536
  | [], _, _, h => h
  | x :: l, m, k, h => by
    unfold folF
    split
    · exact h
    · split
      · rw [on_d]; exact h
      · rename_i h1 h2
        have h3 := br_range (Classical.not_not.1 h2)
        refine fol_dlt hr l _ _ ?_
        show (m.on x.1).d ||| 2 ^ x.2.toNat < 65536
        rw [on_d]
        exact Nat.or_lt_two_pow (n := 16) h (p2_lt (by omega))
theorem complete_rite (d : Rad) (r : Rit) (A : Option Addr) (c : Nat) (l : List (Int × Int)) (w : World) (hd : RtR w d r) (hz : RtZ r) (hl : l.length ≤ 1000000) (hD : DsR w A l) :
    Calls Tryd.prog 15 #[.agg #[.slice d.A r.n d.c, .int .i64 r.last, .int .i64 r.toil], .slice A l.length c] w fun e w' =>
      (aftC r l ≠ 0 ∧ e = .returned (.tuple #[.bool false, .int .i64 (aftC r l)]) ∨ aftC r l = 0 ∧ riB r = true ∧ e = .returned (.tuple #[.bool (coB r (folF r m0 l 0).1.d), .int .i64 0])) ∧ Below w.heap.size w w' := by
  have HB1 : Hid (Below w.heap.size w (w.alloc (.cells #[.slice d.A r.n d.c, .int .i64 r.last, .int .i64 r.toil] 28))) := hide ((Below.refl _ _).alloc (Nat.le_refl _) _)
  have G1 := hide (Blk.new w 28 #[.slice d.A r.n d.c, .int .i64 r.last, .int .i64 r.toil])
  have HRT := hide (hd.ext HB1.out)
  have HD := hide (hD.ext HB1.out)
  have HO := hide (after_any d r A c l _ HRT.out hz hl HD.out)
  have HL := hide hl
  clear hd hz hD hl
  obtain ⟨ec, hec⟩ : ∃ x, aftC r l = x := ⟨_, rfl⟩
  have HEC := hide hec
  rw [hec]
  clear hec
  go_enter Tryd.func15, Tryd.ntmps15
  go_upto_region 1 with fail
  generalize w.alloc (.cells #[.slice d.A r.n d.c, .int .i64 r.last, .int .i64 r.toil] 28) = w1 at HB1 G1 HO HD HRT ⊢
  generalize w.heap.size = G at G1 ⊢
  obtain ⟨g9, g0, g1, g2, -⟩ := blk3 G1.out
  go_wp2_with fail
  refine HO.out.mono ?_
  rintro e w2 ⟨⟨hc, rfl⟩ | ⟨hc, hb, b, ad, rfl, hB⟩, hbl⟩
  · have HBL := hide (HB1.out.trans (hbl.mono HB1.out.size))
    rw [HEC.out] at hc ⊢
    have HCH := hide hc
    have hb4 : Below w2.heap.size w2 (w2.alloc (.cells #[.int .u16 0, .int .i64 0, .int .i64 0] 88)) := (Below.refl _ _).alloc (Nat.le_refl _) _
    replace HBL := hide (HBL.out.trans (hb4.mono HBL.out.size))
    have e1 : (ec == 0) = false := by rw [beq_eq_false_iff_ne]; exact HCH.out
    have e2 : (ec != 0) = true := by rw [bne, e1]; rfl
    unfold momV m0
    dsimp only
    clear hc hbl g9 g0 g1 g2 HO HD hb4
    go_wp2_with fail
    go_ret2
    exact ⟨.inl ⟨HCH.out, rfl⟩, HBL.out⟩
  · have HBL := hide (HB1.out.trans (hbl.mono HB1.out.size))
    rw [HEC.out] at hc
    have HCH := hide hc
    have HR := hide hb
    have hDD := fol_dlt (riB_ok hb).n10 l m0 0 (by decide)
    have HFF : Hid (folF r m0 l 0 = folF r m0 l 0) := hide rfl
    obtain ⟨D, hD⟩ : ∃ x, (folF r m0 l 0).1.d = x := ⟨_, rfl⟩
    obtain ⟨mday, hday⟩ : ∃ x, (folF r m0 l 0).1.day = x := ⟨_, rfl⟩
    obtain ⟨mde, hde⟩ : ∃ x, (folF r m0 l 0).1.de = x := ⟨_, rfl⟩
    unfold momV
    rw [hD] at hDD
    have HDD := hide hD
    rw [hD, hday, hde]
    have hb4 : Below w2.heap.size w2 (w2.alloc (.cells #[.int .u16 (D : Nat), .int .i64 mday, .int .i64 mde] 88)) := (Below.refl _ _).alloc (Nat.le_refl _) _
    have Q3 := hide (Blk.new w2 88 #[.int .u16 (D : Nat), .int .i64 mday, .int .i64 mde])
    replace HBL := hide (HBL.out.trans (hb4.mono HBL.out.size))
    have HC := hide (complete_any b d _ r D _ (riB_ok hb) hDD ((hB.ext hb4).book HRT.out))
    clear hc hbl hb hB g9 g0 g1 g2 HO HD hD hday hde HFF
    go_upto_region 2 with fail
    generalize w2.alloc (.cells #[.int .u16 (D : Nat), .int .i64 mday, .int .i64 mde] 88) = w4 at Q3 HBL HC hb4 ⊢
    generalize w2.heap.size = H at Q3 ⊢
    obtain ⟨a9, a0, a1, a2, -⟩ := blk3 Q3.out
    go_wp2_with fail
    refine HC.out.mono ?_
    rintro e w5 ⟨rfl, h5⟩
    replace HBL := hide (HBL.out.trans (h5.mono HBL.out.size))
    clear h5
    go_wp2_with fail
    go_ret2
    exact ⟨.inr ⟨HCH.out, HR.out, by rw [HDD.out]; rfl⟩, HBL.out⟩
theorem OwnJ.low3 {W : World} {n0 n1 : Nat} {v : Value} {l : List Int} (h : OwnJ W n0 v l) (hb : n1 ≤ n0) : OwnJ W n1 v l := ownMono h hb
end Go.Proofs.YtagjeeimglecnaaDoor
/- Rite: from, walked. -/
namespace Go.Proofs.YtagjeeimglecnaaDoor
open List renaming getElem_toArray → glA, getElem_cons_zero → glB, getElem_cons_succ → glC, setIfInBounds_toArray → glD, set_cons_zero → glE, set_cons_succ → glF
open Go Go.RowKit Go.Shelf
set_option maxHeartbeats 8000000
set_option maxRecDepth 100000
/-- the errno behind a course, asked of a day -/
def frC (r : Rit) (l : List (Int × Int)) (day : Int) : Int := if aftC r l = 0 then (if (folF r m0 l 0).1.day ≤ day ∧ day ≤ r.last then 0 else 3) else aftC r l
def FromPost (w : World) (d : Rad) (r : Rit) (l : List (Int × Int)) (day : Int) (e : Ending) (w' : World) : Prop :=
  (frC r l day ≠ 0 ∧ (∃ (v : Option Addr) (m : Mom), e = .returned (.tuple #[.pointer v, momV m, .int .i64 (frC r l day)])) ∨ frC r l day = 0 ∧ riB r = true ∧ ∃ b ad, e = .returned (.tuple #[.pointer (some ⟨b, 0, none⟩), momV ((folF r m0 l 0).1.on day), .int .i64 0]) ∧ OpI w w' d r b ad (opF r r.n) (opM r r.n)) ∧ Below w.heap.size w w'
theorem from_any (d : Rad) (r : Rit) (A : Option Addr) (c : Nat) (l : List (Int × Int)) (day : Int) (w : World) (hd : RtR w d r) (hz : RtZ r) (hl : l.length ≤ 1000000) (hD : DsR w A l) :
    Calls Tryd.prog 40 #[.agg #[.slice d.A r.n d.c, .int .i64 r.last, .int .i64 r.toil], .slice A l.length c, .int .i64 day] w (FromPost w d r l day) := by
  have HB1 : Hid (Below w.heap.size w ((w.alloc (.cells #[.slice d.A r.n d.c, .int .i64 r.last, .int .i64 r.toil] 28)).alloc (.cells #[.int .u16 0, .int .i64 0, .int .i64 0] 88))) := hide (((Below.refl _ _).alloc (Nat.le_refl _) _).alloc (by simp) _)
  have G1 : Hid (Blk ((w.alloc (.cells #[.slice d.A r.n d.c, .int .i64 r.last, .int .i64 r.toil] 28)).alloc (.cells #[.int .u16 0, .int .i64 0, .int .i64 0] 88)) w.heap.size 28 #[.slice d.A r.n d.c, .int .i64 r.last, .int .i64 r.toil]) := hide ((Blk.new w _ _).alloc _)
  have Q1 : Hid (Blk ((w.alloc (.cells #[.slice d.A r.n d.c, .int .i64 r.last, .int .i64 r.toil] 28)).alloc (.cells #[.int .u16 0, .int .i64 0, .int .i64 0] 88)) (w.heap.size + 1) 88 #[.int .u16 0, .int .i64 0, .int .i64 0]) := hide (by simpa using Blk.new (w.alloc (.cells #[.slice d.A r.n d.c, .int .i64 r.last, .int .i64 r.toil] 28)) 88 #[.int .u16 0, .int .i64 0, .int .i64 0])
  have HRT := hide (hd.ext HB1.out)
  have HD := hide (hD.ext HB1.out)
  have HO := hide (after_any d r A c l _ HRT.out hz hl HD.out)
  have HW := hide (fun (a x y : Int) W => rwithin_any a x y W)
  have HON : Hid (∀ (m : Mom) (W : World), Calls Tryd.prog 48 #[.agg #[.int .u16 (m.d : Nat), .int .i64 m.day, .int .i64 m.de], .int .i64 day] W fun e w' => e = .returned (.agg #[.int .u16 ((m.on day).d : Nat), .int .i64 (m.on day).day, .int .i64 (m.on day).de]) ∧ Below W.heap.size W w') := hide (fun m W => on_any m day W)
  obtain ⟨M, hM⟩ : ∃ M, w.heap.size + 1 = M := ⟨_, rfl⟩
  have HMM := hide hM
  rw [hM] at Q1
  clear hd hz hD hl
  go_enter Tryd.func40, Tryd.ntmps40
  go_upto_region 1 with fail
  (try rw [hM])
  clear hM
  generalize (w.alloc (.cells #[.slice d.A r.n d.c, .int .i64 r.last, .int .i64 r.toil] 28)).alloc (.cells #[.int .u16 0, .int .i64 0, .int .i64 0] 88) = w1 at HB1 G1 Q1 HO HD HRT ⊢
  have HLM : Hid (w.heap.size ≤ M) := hide (by rw [← HMM.out]; exact Nat.le_succ _)
  obtain ⟨G, hG⟩ : ∃ x, w.heap.size = x := ⟨_, rfl⟩
  rw [hG] at G1 ⊢
  clear hG
  have HQ0 := hide Q1.out.lt
  obtain ⟨g9, g0, g1, g2, -⟩ := blk3 G1.out
  go_wp2_with fail
  refine HO.out.mono ?_
  rintro e w2 ⟨⟨hc, rfl⟩ | ⟨hc, hb, b, ad, rfl, hB⟩, hbl⟩
  · have HBL := hide (HB1.out.trans (hbl.mono HB1.out.size))
    have HCH : Hid (frC r l day = aftC r l) := hide (by unfold frC; rw [if_neg hc])
    have HC0 := hide hc
    obtain ⟨ec, hec⟩ : ∃ x, aftC r l = x := ⟨_, rfl⟩
    rw [hec] at HCH HC0 ⊢
    have hb4 : Below w2.heap.size w2 (w2.alloc (.cells #[.int .u16 0, .int .i64 0, .int .i64 0] 88)) := (Below.refl _ _).alloc (Nat.le_refl _) _
    have Q3 := hide (Blk.new w2 88 #[.int .u16 0, .int .i64 0, .int .i64 0])
    replace Q1 := hide ((Q1.out.ext hbl).ext hb4)
    replace HBL := hide (HBL.out.trans (hb4.mono HBL.out.size))
    have e1 : (ec == 0) = false := by rw [beq_eq_false_iff_ne]; exact HC0.out
    have HON0 := hide (HON.out m0)
    unfold momV m0
    unfold m0 at HON0
    dsimp only at HON0 ⊢
    clear hc hbl g9 g0 g1 g2 HO HD hec hb4
    go_upto_region 2 with fail
    have Bd := hide (Below.refl (w2.alloc (.cells #[.int .u16 0, .int .i64 0, .int .i64 0] 88)).heap.size (w2.alloc (.cells #[.int .u16 0, .int .i64 0, .int .i64 0] 88))).drew
    replace Q1 := hide (Q1.out.ext Bd.out)
    replace Q3 := hide (Q3.out.ext Bd.out)
    replace HBL := hide (HBL.out.trans (Bd.out.mono HBL.out.size))
    refine wp_region_J (fun W : World => True) (by kernel_rfl) ?_
    generalize (w2.alloc (.cells #[.int .u16 0, .int .i64 0, .int .i64 0] 88)).drew = wd at Bd Q1 Q3 HBL ⊢
    refine tk_start [0, 1, 2] ?_
    iterate 3
      refine tk_one (v := ?_) (by first | exact hF | exact wideFn) trivial rfl (by kernel_rfl) (by kernel_rfl) (by kernel_rfl) (by kernel_rfl) rfl ?_ (by first | exact fun _ _ _ h => h | exact fun _ _ _ h => hQ2 _ _ _ _ _ h) ?_
      rotate_left
      · intro W hSW
        simp only [glA, glB, glC]
        (try dsimp only at hSW)
        go_simp
        with_reducible rfl
      (try simp only [glA, glB, glC, Act.put, glD, glE, glF])
    refine tk_end ?_
    refine tk_start [3, 4, 5, 6, 7, 8, 9, 10, 11, 12] ?_
    iterate 10
      refine tk_skip (by first | exact hF | exact wideFn) trivial rfl (by kernel_rfl) (by kernel_rfl) (by kernel_rfl) (by kernel_rfl) rfl (by first | exact fun _ _ _ h => h | exact fun _ _ _ h => hQ2 _ _ _ _ _ h) ?_
      (try simp only [glA, glB, glC, Act.put, glD, glE, glF])
    refine tk_end ?_
    refine wpAnyJ_take 13 (v := ?_) (by first | exact hF | exact wideFn) trivial rfl (by kernel_rfl) (by kernel_rfl) (by kernel_rfl) (by kernel_rfl) rfl ?_ (by first | exact fun _ _ _ h => h | exact fun _ _ _ h => hQ2 _ _ _ _ _ h) ?_
    rotate_left
    · intro W hSW
      simp only [glA, glB, glC]
      (try dsimp only at hSW)
      go_simp
      with_reducible rfl
    (try simp only [glA, glB, glC, Act.put, glD, glE, glF])
    refine wpAnyJ_done (by kernel_rfl) ?_
    obtain ⟨x9, x0, x1, x2, -⟩ := blk3 Q3.out
    go_wp2_with fail
    refine (HON0.out _).mono ?_
    rintro e w5 ⟨rfl, h5⟩
    replace Q1 := hide (Q1.out.ext h5)
    replace HBL := hide (HBL.out.trans (h5.mono HBL.out.size))
    clear h5 x9 x0 x1 x2
    generalize (Mom.on ⟨0, 0, 0⟩ day) = mo
    obtain ⟨oD, oday, ode⟩ := mo
    dsimp only
    obtain ⟨a9, a0, a1, a2, a3, a4, a5⟩ := blk3 Q1.out
    go_wp2_with fail
    have h3 := Q1.out.set3 (.int .u16 (oD : Nat)) (.int .i64 oday) (.int .i64 ode)
    obtain ⟨-, z0, z1, z2, -⟩ := blk3 h3
    refine bodyPost_ret (v := .tuple #[.pointer none, .agg #[.int .u16 (oD : Nat), .int .i64 oday, .int .i64 ode], .int .i64 ec]) (by
      simp [results, Tryd.results40, go_sem, z0, z1, z2]) rfl ⟨?_, set3B HBL.out HLM.out _ _ _⟩
    exact .inl ⟨by rw [HCH.out]; exact HC0.out, none, ⟨oD, oday, ode⟩, by rw [HCH.out]; rfl⟩
  · have HBL := hide (HB1.out.trans (hbl.mono HB1.out.size))
    have HR := hide hb
    have HB := hide (hB.rebase HB1.out)
    have HNB : Hid (b ≠ M ∧ ∀ j, j < 4 → ad j ≠ M) := hide ⟨by have := hB.lob; have := HQ0.out; omega, fun j hj => by have := hB.lo j hj; have := HQ0.out; omega⟩
    replace Q1 := hide (Q1.out.ext hbl)
    obtain ⟨ff, hff⟩ : ∃ x, (folF r m0 l 0).1 = x := ⟨_, rfl⟩
    have HFF := hide hff
    rw [hff]
    have HC0 := hide hc
    clear hc hff hB
    obtain ⟨mD, mday, mde⟩ := ff
    have hb4 : Below w2.heap.size w2 (w2.alloc (.cells #[.int .u16 (mD : Nat), .int .i64 mday, .int .i64 mde] 88)) := (Below.refl _ _).alloc (Nat.le_refl _) _
    have Q3 := hide (Blk.new w2 88 #[.int .u16 (mD : Nat), .int .i64 mday, .int .i64 mde])
    replace Q1 := hide (Q1.out.ext hb4)
    replace HB := hide (HB.out.ext hb4)
    replace HBL := hide (HBL.out.trans (hb4.mono HBL.out.size))
    have HON0 := hide (HON.out ⟨mD, mday, mde⟩)
    unfold momV
    dsimp only at HON0 ⊢
    have HMO : Hid ((folF r m0 l 0).1.on day = Mom.on ⟨mD, mday, mde⟩ day) := hide (by rw [HFF.out])
    obtain ⟨la, hla⟩ : ∃ x, r.last = x := ⟨_, rfl⟩
    have HLA := hide hla
    clear hb hbl g9 g0 g1 g2 HO HD hb4 hla
    go_upto_region 2 with fail
    have HS2 : Hid (∀ W, Below (w2.alloc (.cells #[.int .u16 (mD : Nat), .int .i64 mday, .int .i64 mde] 88)).heap.size (w2.alloc (.cells #[.int .u16 (mD : Nat), .int .i64 mday, .int .i64 mde] 88)) W → ∀ H, H = w2.heap.size → (W.cell? ⟨H, 1, none⟩ = some (.int .i64 mday) ∧ W.cell? ⟨b, 1, none⟩ = some (.int .i64 la))) := hide fun W h H hH => by
      subst hH
      have h1 := (bx8 (HB.out.ext h).blk).2.2.1
      rw [HLA.out] at h1
      exact ⟨(blk3 (Q3.out.ext h)).2.2.1, h1⟩
    have Bd := hide (Below.refl (w2.alloc (.cells #[.int .u16 (mD : Nat), .int .i64 mday, .int .i64 mde] 88)).heap.size (w2.alloc (.cells #[.int .u16 (mD : Nat), .int .i64 mday, .int .i64 mde] 88))).drew
    replace Q1 := hide (Q1.out.ext Bd.out)
    replace Q3 := hide (Q3.out.ext Bd.out)
    replace HB := hide (HB.out.ext Bd.out)
    replace HBL := hide (HBL.out.trans (Bd.out.mono HBL.out.size))
    obtain ⟨H, hH⟩ : ∃ x, w2.heap.size = x := ⟨_, rfl⟩
    have hs := HS2.out _ Bd.out H hH.symm
    rw [hH] at Q3 ⊢
    have HS3 := hide hs
    clear hs HS2 hH
    refine wp_region_J (fun W : World => (W.cell? ⟨H, 1, none⟩ = some (.int .i64 mday) ∧ W.cell? ⟨b, 1, none⟩ = some (.int .i64 la))) (by kernel_rfl) ?_
    generalize (w2.alloc (.cells #[.int .u16 (mD : Nat), .int .i64 mday, .int .i64 mde] 88)).drew = wd at Bd Q1 Q3 HB HBL HS3 ⊢
    by_cases hin : mday ≤ day ∧ day ≤ la
    · have HCH : Hid (frC r l day = 0) := hide (by unfold frC; rw [if_pos HC0.out, HFF.out, HLA.out, if_pos hin])
      have HW2 := hide (HW.out day mday la)
      rw [wth_yes hin] at HW2
      clear hin
      refine tk_start [0, 1, 2, 3, 4, 5, 6, 7, 8, 9, 10] ?_
      iterate 11
        refine tk_one (v := ?_) (by first | exact hF | exact wideFn) HS3.out rfl (by kernel_rfl) (by kernel_rfl) (by kernel_rfl) (by kernel_rfl) rfl ?_ (by first | exact fun _ _ _ h => h | exact fun _ _ _ h => hQ2 _ _ _ _ _ h) ?_
        rotate_left
        · intro W hSW
          simp only [glA, glB, glC]
          (try dsimp only at hSW)
          go_simp
          with_reducible rfl
        (try simp only [glA, glB, glC, Act.put, glD, glE, glF])
      refine tk_end ?_
      refine wpAnyJ_one 11 rfl (by kernel_rfl) (fun K hK => ?_)
      simp only [glA, glB, glC]
      go_simp
      refine ⟨trivial, rfl, ?_⟩
      refine (callsIn_wide.2 (HW2.out _)).mono ?_
      rintro e w5 ⟨rfl, rfl⟩
      skip
      dsimp only
      refine hK.out _ _ (fun _ => HS3.out) ?_
      clear hK K
      (try simp only [glA, glB, glC, Act.put, glD, glE, glF])
      refine wpAnyJ_take 12 (v := ?_) (by first | exact hF | exact wideFn) HS3.out rfl (by kernel_rfl) (by kernel_rfl) (by kernel_rfl) (by kernel_rfl) rfl ?_ (by first | exact fun _ _ _ h => h | exact fun _ _ _ h => hQ2 _ _ _ _ _ h) ?_
      rotate_left
      · intro W hSW
        simp only [glA, glB, glC]
        (try dsimp only at hSW)
        go_simp
        with_reducible rfl
      (try simp only [glA, glB, glC, Act.put, glD, glE, glF])
      refine wpAnyJ_take 13 (v := ?_) (by first | exact hF | exact wideFn) HS3.out rfl (by kernel_rfl) (by kernel_rfl) (by kernel_rfl) (by kernel_rfl) rfl ?_ (by first | exact fun _ _ _ h => h | exact fun _ _ _ h => hQ2 _ _ _ _ _ h) ?_
      rotate_left
      · intro W hSW
        simp only [glA, glB, glC]
        (try dsimp only at hSW)
        go_simp
        with_reducible rfl
      (try simp only [glA, glB, glC, Act.put, glD, glE, glF])
      refine wpAnyJ_done (by kernel_rfl) ?_
      obtain ⟨x9, x0, x1, x2, -⟩ := blk3 Q3.out
      go_wp2_with fail
      refine (HON0.out _).mono ?_
      rintro e w5 ⟨rfl, h5⟩
      replace Q1 := hide (Q1.out.ext h5)
      replace HB := hide (HB.out.ext h5)
      replace HBL := hide (HBL.out.trans (h5.mono HBL.out.size))
      clear h5 x9 x0 x1 x2
      obtain ⟨mo, hmo⟩ : ∃ x, Mom.on ⟨mD, mday, mde⟩ day = x := ⟨_, rfl⟩
      rw [hmo] at HMO ⊢
      clear hmo
      obtain ⟨oD, oday, ode⟩ := mo
      dsimp only
      obtain ⟨a9, a0, a1, a2, a3, a4, a5⟩ := blk3 Q1.out
      go_wp2_with fail
      have h3 := Q1.out.set3 (.int .u16 (oD : Nat)) (.int .i64 oday) (.int .i64 ode)
      obtain ⟨-, z0, z1, z2, -⟩ := blk3 h3
      refine bodyPost_ret (v := .tuple #[.pointer (some ⟨b, 0, none⟩), .agg #[.int .u16 (oD : Nat), .int .i64 oday, .int .i64 ode], .int .i64 0]) (by
        simp [results, Tryd.results40, go_sem, z0, z1, z2]) rfl ⟨?_, set3B HBL.out HLM.out _ _ _⟩
      exact .inr ⟨HCH.out, HR.out, b, ad, by rw [HMO.out]; rfl, ((HB.out.far HLM.out HNB.out.1 HNB.out.2 0 _).far HLM.out HNB.out.1 HNB.out.2 1 _).far HLM.out HNB.out.1 HNB.out.2 2 _⟩
    · have HCH : Hid (frC r l day = 3) := hide (by unfold frC; rw [if_pos HC0.out, HFF.out, HLA.out, if_neg hin])
      have HW2 := hide (HW.out day mday la)
      rw [wth_no hin] at HW2
      clear hin
      refine tk_start [0, 1, 2, 3, 4, 5, 6, 7, 8, 9, 10] ?_
      iterate 11
        refine tk_one (v := ?_) (by first | exact hF | exact wideFn) HS3.out rfl (by kernel_rfl) (by kernel_rfl) (by kernel_rfl) (by kernel_rfl) rfl ?_ (by first | exact fun _ _ _ h => h | exact fun _ _ _ h => hQ2 _ _ _ _ _ h) ?_
        rotate_left
        · intro W hSW
          simp only [glA, glB, glC]
          (try dsimp only at hSW)
          go_simp
          with_reducible rfl
        (try simp only [glA, glB, glC, Act.put, glD, glE, glF])
      refine tk_end ?_
      refine wpAnyJ_one 11 rfl (by kernel_rfl) (fun K hK => ?_)
      simp only [glA, glB, glC]
      go_simp
      refine ⟨trivial, rfl, ?_⟩
      refine (callsIn_wide.2 (HW2.out _)).mono ?_
      rintro e w5 ⟨rfl, rfl⟩
      skip
      dsimp only
      refine hK.out _ _ (fun _ => HS3.out) ?_
      clear hK K
      (try simp only [glA, glB, glC, Act.put, glD, glE, glF])
      refine wpAnyJ_take 12 (v := ?_) (by first | exact hF | exact wideFn) HS3.out rfl (by kernel_rfl) (by kernel_rfl) (by kernel_rfl) (by kernel_rfl) rfl ?_ (by first | exact fun _ _ _ h => h | exact fun _ _ _ h => hQ2 _ _ _ _ _ h) ?_
      rotate_left
      · intro W hSW
        simp only [glA, glB, glC]
        (try dsimp only at hSW)
        go_simp
        with_reducible rfl
      (try simp only [glA, glB, glC, Act.put, glD, glE, glF])
      refine wpAnyJ_take 13 (v := ?_) (by first | exact hF | exact wideFn) HS3.out rfl (by kernel_rfl) (by kernel_rfl) (by kernel_rfl) (by kernel_rfl) rfl ?_ (by first | exact fun _ _ _ h => h | exact fun _ _ _ h => hQ2 _ _ _ _ _ h) ?_
      rotate_left
      · intro W hSW
        simp only [glA, glB, glC]
        (try dsimp only at hSW)
        go_simp
        with_reducible rfl
      (try simp only [glA, glB, glC, Act.put, glD, glE, glF])
      refine wpAnyJ_done (by kernel_rfl) ?_
      obtain ⟨x9, x0, x1, x2, -⟩ := blk3 Q3.out
      go_wp2_with fail
      refine (HON0.out _).mono ?_
      rintro e w5 ⟨rfl, h5⟩
      replace Q1 := hide (Q1.out.ext h5)
      replace HBL := hide (HBL.out.trans (h5.mono HBL.out.size))
      clear h5 x9 x0 x1 x2
      generalize (Mom.on ⟨mD, mday, mde⟩ day) = mo
      obtain ⟨oD, oday, ode⟩ := mo
      dsimp only
      obtain ⟨a9, a0, a1, a2, a3, a4, a5⟩ := blk3 Q1.out
      go_wp2_with fail
      have h3 := Q1.out.set3 (.int .u16 (oD : Nat)) (.int .i64 oday) (.int .i64 ode)
      obtain ⟨-, z0, z1, z2, -⟩ := blk3 h3
      refine bodyPost_ret (v := .tuple #[.pointer (some ⟨b, 0, none⟩), .agg #[.int .u16 (oD : Nat), .int .i64 oday, .int .i64 ode], .int .i64 3]) (by
        simp [results, Tryd.results40, go_sem, z0, z1, z2]) rfl ⟨?_, set3B HBL.out HLM.out _ _ _⟩
      exact .inl ⟨by rw [HCH.out]; decide, some ⟨b, 0, none⟩, ⟨oD, oday, ode⟩, by rw [HCH.out]; rfl⟩
end Go.Proofs.YtagjeeimglecnaaDoor
/- Rite: Repair, Latest, walked. -/
namespace Go.Proofs.YtagjeeimglecnaaDoor
open Go Go.RowKit Go.Shelf
set_option maxHeartbeats 8000000
set_option maxRecDepth 100000
theorem fol_ok {r : Rit} (hr : RiOk r) : ∀ (l : List (Int × Int)) (m : Mom) (i : Nat), MoOk r m → MoOk r (folF r m l i).1
  | [], m, _, h => h
  | x :: l, m, i, h => by
    unfold folF
    split
    · exact h
    · rename_i hx
      have h0 := h.d0
      have h1 := h.on hr (day := x.1) (by omega) (by omega)
      split
      · exact h1
      · rename_i hb
        have hb : brF r (m.on x.1).d (m.on x.1).day (m.on x.1).de x.2 = 0 := Classical.not_not.1 hb
        have h2 := br_range hb
        refine fol_ok hr l _ _ (h1.wi hr ?_)
        rw [Int.toNat_of_nonneg h2.1]
        exact hb
theorem m0_ok {r : Rit} (hr : RiOk r) : MoOk r m0 := ⟨by decide, Int.le_refl _, hr.l0, Int.le_refl _, by have := hr.t1; show (0 : Int) ≤ r.toil; omega⟩
theorem frC_mo {r : Rit} {l : List (Int × Int)} {day : Int} (hr : RiOk r) (h : frC r l day = 0) : MoOk r ((folF r m0 l 0).1.on day) := by
  have h1 := fol_ok hr l m0 0 (m0_ok hr)
  have h0 := h1.d0
  unfold frC at h
  split at h
  · split at h
    · rename_i h3; exact h1.on hr (by omega) h3.2
    · cases h
  · rename_i h2; exact absurd h h2
def RprPost (w : World) (r : Rit) (l : List (Int × Int)) (day : Int) (e : Ending) (w' : World) : Prop :=
  (frC r l day ≠ 0 ∧ e = .returned (.tuple #[.slice none 0 0, .int .i64 (frC r l day)]) ∨ frC r l day = 0 ∧ riB r = true ∧
    (fwN r ((folF r m0 l 0).1.on day) = 11 ∧ e = .returned (.tuple #[.slice none 0 0, .int .i64 7]) ∨
     fwN r ((folF r m0 l 0).1.on day) < 11 ∧ ∃ v, e = .returned (.tuple #[v, .int .i64 0]) ∧ OwnD w' w.heap.size v (rpL r ((folF r m0 l 0).1.on day) (fwN r ((folF r m0 l 0).1.on day))))) ∧ Below w.heap.size w w'
theorem repair_rite (d : Rad) (r : Rit) (A : Option Addr) (c : Nat) (l : List (Int × Int)) (day : Int) (w : World) (hd : RtR w d r) (hz : RtZ r) (hl : l.length ≤ 1000000) (hD : DsR w A l) (hT : TB w) :
    Calls Tryd.prog 19 #[.agg #[.slice d.A r.n d.c, .int .i64 r.last, .int .i64 r.toil], .slice A l.length c, .int .i64 day] w (RprPost w r l day) := by
  have HTB := hide hT
  have HB1 : Hid (Below w.heap.size w (w.alloc (.cells #[.slice d.A r.n d.c, .int .i64 r.last, .int .i64 r.toil] 28))) := hide ((Below.refl _ _).alloc (Nat.le_refl _) _)
  have G1 := hide (Blk.new w 28 #[.slice d.A r.n d.c, .int .i64 r.last, .int .i64 r.toil])
  have HRT := hide (hd.ext HB1.out)
  have HD := hide (hD.ext HB1.out)
  have HO := hide (from_any d r A c l day _ HRT.out hz hl HD.out)
  have HFM : Hid (riB r = true → frC r l day = 0 → MoOk r ((folF r m0 l 0).1.on day)) := hide fun h1 h2 => frC_mo (riB_ok h1) h2
  clear hd hz hD hl hT
  obtain ⟨ec, hec⟩ : ∃ x, frC r l day = x := ⟨_, rfl⟩
  have HEC := hide hec
  unfold RprPost
  unfold FromPost at HO
  rw [hec] at HFM HO ⊢
  clear hec
  obtain ⟨mo, hmo⟩ : ∃ x, (folF r m0 l 0).1.on day = x := ⟨_, rfl⟩
  rw [hmo] at HFM HO ⊢
  clear hmo
  have HRE := hide (fun fb b mp q W (h1 : riB r = true) (h2 : MoOk r mo) (h : FwR W fb b mp d q r) => repair_any fb b mp d q r (riB_ok h1) mo h2 W h)
  unfold RepPost at HRE
  obtain ⟨v0, hv0⟩ : ∃ x, fwN r mo = x := ⟨_, rfl⟩
  rw [hv0] at HRE ⊢
  obtain ⟨L, hL⟩ : ∃ x, rpL r mo v0 = x := ⟨_, rfl⟩
  rw [hL] at HRE ⊢
  clear hv0 hL
  obtain ⟨oD, oday, ode⟩ := mo
  unfold momV at HRE HO
  dsimp only at HRE HO
  go_enter Tryd.func19, Tryd.ntmps19
  go_upto_region 1 with fail
  generalize w.alloc (.cells #[.slice d.A r.n d.c, .int .i64 r.last, .int .i64 r.toil] 28) = w1 at HB1 G1 HO HD HRT ⊢
  have hGl := HB1.out.size
  obtain ⟨G, hG⟩ : ∃ x, w.heap.size = x := ⟨_, rfl⟩
  rw [hG] at G1 ⊢
  clear hG hGl
  obtain ⟨g9, g0, g1, g2, -⟩ := blk3 G1.out
  go_wp2_with fail
  refine HO.out.mono ?_
  rintro e w2 ⟨⟨hc, v, ⟨mD, mday, mde⟩, rfl⟩ | ⟨hc, hb, b, ad, rfl, hB⟩, hbl⟩
  · have HBL := hide (HB1.out.trans (hbl.mono HB1.out.size))
    have HCH := hide hc
    have hb4 : Below w2.heap.size w2 (w2.alloc (.cells #[.int .u16 (mD : Nat), .int .i64 mday, .int .i64 mde] 88)) := (Below.refl _ _).alloc (Nat.le_refl _) _
    replace HBL := hide (HBL.out.trans (hb4.mono HBL.out.size))
    have e2 : (ec != 0) = true := by rw [bne_iff_ne]; exact HCH.out
    clear hc hbl g9 g0 g1 g2 HO HD hb4
    go_wp2_with fail
    go_ret2
    exact ⟨.inl ⟨HCH.out, rfl⟩, HBL.out⟩
  · obtain rfl := hc
    have HBL := hide (HB1.out.trans (hbl.mono HB1.out.size))
    have HRB := hide hb
    have HMO := hide (HFM.out hb rfl)
    have HR2 := hide (fun fb mp q W h => HRE.out fb b mp q W hb HMO.out h)
    clear HFM HRE
    have hb4 : Below w2.heap.size w2 (w2.alloc (.cells #[.int .u16 (oD : Nat), .int .i64 oday, .int .i64 ode] 88)) := (Below.refl _ _).alloc (Nat.le_refl _) _
    have Q3 := hide (Blk.new w2 88 #[.int .u16 (oD : Nat), .int .i64 oday, .int .i64 ode])
    have HBK := hide ((hB.ext hb4).book HRT.out)
    replace HBL := hide (HBL.out.trans (hb4.mono HBL.out.size))
    clear hbl hb hB g9 g0 g1 g2 HO HD hb4
    have hmm := @run_makeMap Tryd.prog
    go_upto_region 5 with fail
    obtain ⟨w4, hw4⟩ : ∃ x, w2.alloc (.cells #[.int .u16 (oD : Nat), .int .i64 oday, .int .i64 ode] 88) = x := ⟨_, rfl⟩
    have hs4 : w4.heap.size = w2.heap.size + 1 := by rw [← hw4]; simp
    rw [hw4] at HBK HBL Q3 ⊢
    clear hw4 hmm
    obtain ⟨M, hM⟩ : ∃ x, w2.heap.size = x := ⟨_, rfl⟩
    rw [hM] at Q3 hs4 ⊢
    have HM := hide hM
    clear hM
    have hb5 : Below w4.heap.size w4 ((w4.alloc (.map #[] 0)).alloc (.cells #[.pointer (some ⟨b, 0, none⟩), .map (some (M + 1))] 127)) := ((Below.refl _ _).alloc (Nat.le_refl _) _).alloc (by simp) _
    have FB : Blk ((w4.alloc (.map #[] 0)).alloc (.cells #[.pointer (some ⟨b, 0, none⟩), .map (some (M + 1))] 127)) (M + 1 + 1) 127 #[.pointer (some ⟨b, 0, none⟩), .map (some (M + 1))] := by
      have h := Blk.new (w4.alloc (.map #[] 0)) 127 #[.pointer (some ⟨b, 0, none⟩), .map (some (M + 1))]
      rw [World.size_alloc, hs4] at h
      exact h
    have FM : FmAt ((w4.alloc (.map #[] 0)).alloc (.cells #[.pointer (some ⟨b, 0, none⟩), .map (some (M + 1))] 127)) (M + 1) r := by
      have h := (FmAt.made w4 r).ext ((Below.refl (w4.alloc (.map #[] 0)).heap.size _).alloc (Nat.le_refl _) (.cells #[.pointer (some ⟨b, 0, none⟩), .map (some (M + 1))] 127))
      rw [hs4] at h
      exact h
    replace HBK := hide (HBK.out.ext hb5)
    replace Q3 := hide (Q3.out.ext hb5)
    have HLO : Hid (w.heap.size ≤ M + 1) := hide (by have := HBL.out.size; omega)
    replace HBL := hide (HBL.out.trans (hb5.mono HBL.out.size))
    have HFW := hide (HR2.out (M + 1 + 1) (M + 1) _ _ ⟨HBK.out, FB, FM, HTB.out.ext HBL.out⟩)
    clear hs4 hb5 FB FM HR2
    generalize ((w4.alloc (.map #[] 0)).alloc (.cells #[.pointer (some ⟨b, 0, none⟩), .map (some (M + 1))] 127)) = w6 at HBK Q3 HBL HFW ⊢
    obtain ⟨x9, y0, y1, y2, -⟩ := blk3 Q3.out
    go_wp2_with fail
    refine HFW.out.mono ?_
    rintro e w7 ⟨⟨hv, rfl⟩ | ⟨hv, v, rfl, ho⟩, h7, g7⟩
    · have HV := hide hv
      have HBL7 := hide (gr_low HBL.out HBL.out.size g7 HLO.out)
      clear hv x9 y0 y1 y2 h7 g7
      go_wp2_with fail
      go_ret2
      exact ⟨⟨HRB.out, .inl ⟨HV.out, rfl⟩⟩, HBL7.out⟩
    · have HV := hide hv
      have HO := hide ho
      have HBL7 := hide (gr_low HBL.out HBL.out.size g7 HLO.out)
      clear hv x9 y0 y1 y2 h7 g7 ho
      go_wp2_with fail
      go_ret2
      exact ⟨⟨HRB.out, .inr ⟨HV.out, _, rfl, ownMono HO.out HBL.out.size⟩⟩, HBL7.out⟩
end Go.Proofs.YtagjeeimglecnaaDoor
/- Top: what chapter 9's example returns: knownRites. -/
namespace Go.Proofs.YtagjeeimglecnaaDoor
open Go Go.RowKit Go.Shelf
set_option maxHeartbeats 8000000
set_option maxRecDepth 100000
theorem kr_f0 : frC (fiR 1) [] 0 = 0 := by kernel_rfl
theorem kr_w0 : fwN (fiR 1) ((folF (fiR 1) m0 [] 0).1.on 0) = 2 := by kernel_rfl
theorem kr_l0 : rpL (fiR 1) ((folF (fiR 1) m0 [] 0).1.on 0) 2 = [(0, 0), (1, 1)] := by kernel_rfl
theorem built_rite3 (A : Option Addr) : Tryd.prog.built 28 [(1, .int .i64 5), (2, .int .i64 1), (0, .slice A 3 3)] = some #[.slice A 3 3, .int .i64 5, .int .i64 1] := by kernel_rfl
theorem kr_z : RtZ (fiR 1) := by
  have hn : (fiR 1).n = 3 := rfl
  refine ⟨by rw [hn]; omega, fun k hk => ?_, fun k hk => ?_, fun k hk => ?_⟩ <;> (rw [hn] at hk; rcases (by omega : k = 0 ∨ k = 1 ∨ k = 2) with rfl | rfl | rfl <;> decide)
theorem nil_ds2 (w : World) : DsR w none [] := fun h => absurd h (by simp)
theorem kr_rep (d : Rad) (w : World) (hd : RtR w d (fiR 1)) (hT : TB w) :
    Calls Tryd.prog 19 #[.agg #[.slice d.A 3 d.c, .int .i64 5, .int .i64 1], .slice none 0 0, .int .i64 0] w fun e w' => ∃ A c, e = .returned (.tuple #[.slice A 2 c, .int .i64 0]) ∧ DsR w' A [(0, 0), (1, 1)] ∧ Below w.heap.size w w' := by
  refine (repair_rite d (fiR 1) none 0 [] 0 w hd kr_z (by simp) (nil_ds2 w) hT).mono ?_
  rintro e w' ⟨⟨hc, -⟩ | ⟨-, -, ⟨hw, -⟩ | ⟨-, v, rfl, ho⟩⟩, hb⟩
  · exact absurd kr_f0 hc
  · rw [kr_w0] at hw; omega
  · rw [kr_w0, kr_l0] at ho
    obtain ⟨A, c, rfl⟩ := own_shape ho
    exact ⟨A, c, rfl, ho.dsr.2, hb⟩
theorem kr_lies (w : World) (p : Nat) (hp : w.heap.size = p) : RtR (((w.alloc (.cells #[.int .i64 0] 3)).alloc (.cells #[.string ⟨#[107, 105, 110, 100, 108, 101]⟩, .slice none 0 0, .slice none 0 0, .int .i64 2, .int .i64 0, .int .i64 2, .bool false, .string ⟨#[111, 102, 102, 101, 114]⟩, .slice (some ⟨p, 0, none⟩) 1 1, .slice none 0 0, .int .i64 (-1), .int .i64 1, .int .i64 3, .bool false, .string ⟨#[97, 109, 101, 110, 100]⟩, .slice none 0 0, .slice none 0 0, .int .i64 (-1), .int .i64 0, .int .i64 5, .bool true] 71)).alloc (.cells #[.slice (some ⟨p + 1, 0, none⟩) 3 3, .int .i64 5, .int .i64 1] 28)) (fiD p) (fiR 1) ∧
    Blk (((w.alloc (.cells #[.int .i64 0] 3)).alloc (.cells #[.string ⟨#[107, 105, 110, 100, 108, 101]⟩, .slice none 0 0, .slice none 0 0, .int .i64 2, .int .i64 0, .int .i64 2, .bool false, .string ⟨#[111, 102, 102, 101, 114]⟩, .slice (some ⟨p, 0, none⟩) 1 1, .slice none 0 0, .int .i64 (-1), .int .i64 1, .int .i64 3, .bool false, .string ⟨#[97, 109, 101, 110, 100]⟩, .slice none 0 0, .slice none 0 0, .int .i64 (-1), .int .i64 0, .int .i64 5, .bool true] 71)).alloc (.cells #[.slice (some ⟨p + 1, 0, none⟩) 3 3, .int .i64 5, .int .i64 1] 28)) (p + 2) 28 #[.slice (some ⟨p + 1, 0, none⟩) 3 3, .int .i64 5, .int .i64 1] ∧
    Below w.heap.size w (((w.alloc (.cells #[.int .i64 0] 3)).alloc (.cells #[.string ⟨#[107, 105, 110, 100, 108, 101]⟩, .slice none 0 0, .slice none 0 0, .int .i64 2, .int .i64 0, .int .i64 2, .bool false, .string ⟨#[111, 102, 102, 101, 114]⟩, .slice (some ⟨p, 0, none⟩) 1 1, .slice none 0 0, .int .i64 (-1), .int .i64 1, .int .i64 3, .bool false, .string ⟨#[97, 109, 101, 110, 100]⟩, .slice none 0 0, .slice none 0 0, .int .i64 (-1), .int .i64 0, .int .i64 5, .bool true] 71)).alloc (.cells #[.slice (some ⟨p + 1, 0, none⟩) 3 3, .int .i64 5, .int .i64 1] 28)) := by
  refine ⟨fire_lies 1 ?_ ?_, ?_, ?_⟩
  · have h := ((Blk.new w 3 #[.int .i64 0]).alloc (.cells #[.string ⟨#[107, 105, 110, 100, 108, 101]⟩, .slice none 0 0, .slice none 0 0, .int .i64 2, .int .i64 0, .int .i64 2, .bool false, .string ⟨#[111, 102, 102, 101, 114]⟩, .slice (some ⟨p, 0, none⟩) 1 1, .slice none 0 0, .int .i64 (-1), .int .i64 1, .int .i64 3, .bool false, .string ⟨#[97, 109, 101, 110, 100]⟩, .slice none 0 0, .slice none 0 0, .int .i64 (-1), .int .i64 0, .int .i64 5, .bool true] 71)).alloc (.cells #[.slice (some ⟨p + 1, 0, none⟩) 3 3, .int .i64 5, .int .i64 1] 28)
    rw [hp] at h
    exact h
  · have h := (Blk.new (w.alloc (.cells #[.int .i64 0] 3)) 71 #[.string ⟨#[107, 105, 110, 100, 108, 101]⟩, .slice none 0 0, .slice none 0 0, .int .i64 2, .int .i64 0, .int .i64 2, .bool false, .string ⟨#[111, 102, 102, 101, 114]⟩, .slice (some ⟨p, 0, none⟩) 1 1, .slice none 0 0, .int .i64 (-1), .int .i64 1, .int .i64 3, .bool false, .string ⟨#[97, 109, 101, 110, 100]⟩, .slice none 0 0, .slice none 0 0, .int .i64 (-1), .int .i64 0, .int .i64 5, .bool true]).alloc (.cells #[.slice (some ⟨p + 1, 0, none⟩) 3 3, .int .i64 5, .int .i64 1] 28)
    rw [World.size_alloc, hp] at h
    exact h
  · have h := Blk.new ((w.alloc (.cells #[.int .i64 0] 3)).alloc (.cells #[.string ⟨#[107, 105, 110, 100, 108, 101]⟩, .slice none 0 0, .slice none 0 0, .int .i64 2, .int .i64 0, .int .i64 2, .bool false, .string ⟨#[111, 102, 102, 101, 114]⟩, .slice (some ⟨p, 0, none⟩) 1 1, .slice none 0 0, .int .i64 (-1), .int .i64 1, .int .i64 3, .bool false, .string ⟨#[97, 109, 101, 110, 100]⟩, .slice none 0 0, .slice none 0 0, .int .i64 (-1), .int .i64 0, .int .i64 5, .bool true] 71)) 28 #[.slice (some ⟨p + 1, 0, none⟩) 3 3, .int .i64 5, .int .i64 1]
    rw [World.size_alloc, World.size_alloc, hp] at h
    exact h
  · exact (((Below.refl _ _).alloc (Nat.le_refl _) _).alloc (by simp) _).alloc (by simp only [World.size_alloc]; omega) _
theorem knownRites_any (w : World) (hT : TB w) : Calls Tryd.prog 5 #[] w fun e w' => e = .returned (.bool true) ∧ Below w.heap.size w w' := by
  obtain ⟨p, hp⟩ : ∃ p, w.heap.size = p := ⟨_, rfl⟩
  obtain ⟨h1, h2, h3⟩ := kr_lies w p hp
  have HL := hide h1
  have KR := hide h2
  have HB := hide h3
  have HT := hide hT
  clear h1 h2 h3 hT
  have b0 := built_act0
  have b1 := fun A => built_act1 A
  have b2 := built_act2
  have b3 := fun A => built_rite3 A
  go_enter Tryd.func5, Tryd.ntmps5
  go_upto_region 2 with fail
  clear b0 b1 b2 b3
  rw [show p + 1 + 1 = p + 2 from rfl]
  generalize ((w.alloc (.cells #[.int .i64 0] 3)).alloc (.cells #[.string ⟨#[107, 105, 110, 100, 108, 101]⟩, .slice none 0 0, .slice none 0 0, .int .i64 2, .int .i64 0, .int .i64 2, .bool false, .string ⟨#[111, 102, 102, 101, 114]⟩, .slice (some ⟨p, 0, none⟩) 1 1, .slice none 0 0, .int .i64 (-1), .int .i64 1, .int .i64 3, .bool false, .string ⟨#[97, 109, 101, 110, 100]⟩, .slice none 0 0, .slice none 0 0, .int .i64 (-1), .int .i64 0, .int .i64 5, .bool true] 71)).alloc (.cells #[.slice (some ⟨p + 1, 0, none⟩) 3 3, .int .i64 5, .int .i64 1] 28) = w1 at HL KR HB ⊢
  obtain ⟨-, z0, z1, z2, -⟩ := blk3 KR.out
  have HC := hide (kr_rep (fiD p) w1 HL.out (HT.out.ext HB.out))
  replace HC := hide (show Calls Tryd.prog 19 #[.agg #[.slice (some ⟨p + 1, 0, none⟩) 3 3, .int .i64 5, .int .i64 1], .slice none 0 0, .int .i64 0] w1 _ from HC.out)
  go_wp2_with fail
  refine HC.out.mono ?_
  rintro e w2 ⟨A, c, rfl, hD, hb2⟩
  obtain ⟨b, off, rfl, hbl, h0, h1⟩ := hD.at_ (k := 0) (by simp) rfl
  obtain ⟨b', off', hA, hbl', h2, h3⟩ := hD.at_ (k := 1) (by simp) rfl
  injection hA with hA
  injection hA with e1 e2
  subst e1; subst e2
  replace HB := hide (HB.out.trans (hb2.mono HB.out.size))
  clear HC hD hb2 hbl hbl' z0 z1 z2
  have q0 : w2.cell? ⟨b, off, none⟩ = some (.int .i64 0) := h0
  have q1 : w2.cell? ⟨b, off + 1, none⟩ = some (.int .i64 0) := h1
  have q2 : w2.cell? ⟨b, off + 2, none⟩ = some (.int .i64 1) := h2
  have q3 : w2.cell? ⟨b, off + 2 + 1, none⟩ = some (.int .i64 1) := h3
  clear h0 h1 h2 h3
  go_wp2_with fail
  go_ret
  exact ⟨rfl, HB.out⟩
end Go.Proofs.YtagjeeimglecnaaDoor
