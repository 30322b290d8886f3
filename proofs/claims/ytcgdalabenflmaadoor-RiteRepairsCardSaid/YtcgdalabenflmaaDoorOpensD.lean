/- Rite: Check, Judge, after, walked. -/
import Derived.Test.YtcgdalabenflmaaDoorOpensC
import Derived.Maps.OwnSet
import Derived.DeepKeys4
import Derived.RangeFuncNested
set_option linter.unusedSimpArgs false
set_option linter.unusedVariables false
set_option linter.unnecessarySimpa false
namespace Go.Proofs.YtcgdalabenflmaaDoor
open Go Go.RowKit Go.Shelf
set_option maxHeartbeats 8000000
set_option maxRecDepth 100000
theorem check_any (d : Rad) (r : Rit) (w : World) (hd : RtR w d r) (hz : RtZ r) :
    Calls Tryd.prog 29 #[.agg #[.slice d.A r.n d.c, .int .i64 r.last, .int .i64 r.toil]] w fun e w' => e = .returned (.int .i64 (if riB r = true then 0 else 2)) ∧ Below w.heap.size w w' := by
  have HB1 : Hid (Below w.heap.size w (w.alloc (.cells #[.slice d.A r.n d.c, .int .i64 r.last, .int .i64 r.toil] 24))) := hide ((Below.refl _ _).alloc (Nat.le_refl _) _)
  have G1 := hide (Blk.new w 24 #[.slice d.A r.n d.c, .int .i64 r.last, .int .i64 r.toil])
  have HO := hide (open_any d r _ (hd.ext HB1.out) hz)
  obtain ⟨ch, hch⟩ : ∃ c : Int, (if riB r = true then 0 else 2) = c := ⟨_, rfl⟩
  have HCH := hide hch
  rw [hch]
  clear hd hz hch
  go_enter Tryd.func29, Tryd.ntmps29
  go_upto_region 1 with fail
  generalize w.alloc (.cells #[.slice d.A r.n d.c, .int .i64 r.last, .int .i64 r.toil] 24) = w1 at HB1 G1 HO ⊢
  generalize w.heap.size = G at G1 ⊢
  obtain ⟨g9, g0, g1, g2, -⟩ := blk3 G1.out
  go_wp2_with fail
  refine HO.out.mono ?_
  rintro e w2 ⟨⟨hb, rfl⟩ | ⟨hb, b, ad, rfl, hB⟩, hbl⟩
  · have HBL := hide (HB1.out.trans (hbl.mono HB1.out.size))
    have HR := hide hb
    clear hb hbl g9 g0 g1 g2
    go_wp2_with fail
    go_ret
    exact ⟨ret_int (by rw [← HCH.out, HR.out]; rfl), HBL.out⟩
  · have HBL := hide (HB1.out.trans (hbl.mono HB1.out.size))
    have HR := hide hb
    clear hb hbl hB g9 g0 g1 g2
    go_wp2_with fail
    go_ret
    exact ⟨ret_int (by rw [← HCH.out, HR.out]; rfl), HBL.out⟩
theorem judge_any (d : Rad) (r : Rit) (A : Option Addr) (c : Nat) (l : List (Int × Int)) (w : World) (hd : RtR w d r) (hz : RtZ r) (hl : l.length ≤ 1000000) (hD : DsR w A l) :
    Calls Tryd.prog 30 #[.agg #[.slice d.A r.n d.c, .int .i64 r.last, .int .i64 r.toil], .slice A l.length c] w fun e w' =>
      e = .returned (.tuple #[.int .i64 (if riB r = true then (folF r m0 l 0).2.1 else 0), .int .i64 (if riB r = true then (folF r m0 l 0).2.2 else 0), .int .i64 (if riB r = true then 0 else 2)]) ∧ Below w.heap.size w w' := by
  have HB1 : Hid (Below w.heap.size w (w.alloc (.cells #[.slice d.A r.n d.c, .int .i64 r.last, .int .i64 r.toil] 24))) := hide ((Below.refl _ _).alloc (Nat.le_refl _) _)
  have G1 := hide (Blk.new w 24 #[.slice d.A r.n d.c, .int .i64 r.last, .int .i64 r.toil])
  have HRT := hide (hd.ext HB1.out)
  have HO := hide (open_any d r _ (hd.ext HB1.out) hz)
  have HD := hide (hD.ext HB1.out)
  have HL := hide hl
  obtain ⟨c1, hc1⟩ : ∃ c : Int, (if riB r = true then (folF r m0 l 0).2.1 else 0) = c := ⟨_, rfl⟩
  obtain ⟨c2, hc2⟩ : ∃ c : Int, (if riB r = true then (folF r m0 l 0).2.2 else 0) = c := ⟨_, rfl⟩
  obtain ⟨c3, hc3⟩ : ∃ c : Int, (if riB r = true then 0 else 2) = c := ⟨_, rfl⟩
  have HC1 := hide hc1
  have HC2 := hide hc2
  have HC3 := hide hc3
  rw [hc1, hc2, hc3]
  clear hd hz hD hl hc1 hc2 hc3
  go_enter Tryd.func30, Tryd.ntmps30
  go_upto_region 1 with fail
  generalize w.alloc (.cells #[.slice d.A r.n d.c, .int .i64 r.last, .int .i64 r.toil] 24) = w1 at HB1 G1 HO HD HRT ⊢
  generalize w.heap.size = G at G1 ⊢
  obtain ⟨g9, g0, g1, g2, -⟩ := blk3 G1.out
  go_wp2_with fail
  refine HO.out.mono ?_
  rintro e w2 ⟨⟨hb, rfl⟩ | ⟨hb, b, ad, rfl, hB⟩, hbl⟩
  · have HBL := hide (HB1.out.trans (hbl.mono HB1.out.size))
    have HR := hide hb
    clear hb hbl g9 g0 g1 g2
    go_wp2_with fail
    refine bodyPost_ret (v := .tuple #[.int .i64 0, .int .i64 0, .int .i64 2]) (by simp [results, Tryd.results30, go_sem]) rfl ⟨by rw [← HC1.out, ← HC2.out, ← HC3.out, HR.out]; rfl, HBL.out⟩
  · have HBL := hide (HB1.out.trans (hbl.mono HB1.out.size))
    have HF := hide (follow_any b d _ r A c l w2 (riB_ok hb) HL.out (HD.out.ext hbl) (hB.book HRT.out))
    have HR := hide hb
    clear hb hbl hB g9 g0 g1 g2
    generalize folF r m0 l 0 = ff at HF HC1 HC2
    obtain ⟨⟨mD, mday, mde⟩, ln, br⟩ := ff
    unfold momV at HF
    dsimp only at HF HC1 HC2
    go_wp2_with fail
    refine HF.out.mono ?_
    rintro e w3 ⟨rfl, h3⟩
    have HBM := hide (HBL.out.trans (h3.mono HBL.out.size))
    clear h3
    go_wp2_with fail
    refine bodyPost_ret (v := .tuple #[.int .i64 ln, .int .i64 br, .int .i64 0]) (by simp [results, Tryd.results30, go_sem]) rfl ⟨by rw [← HC1.out, ← HC2.out, ← HC3.out, HR.out]; rfl, HBM.out⟩
end Go.Proofs.YtcgdalabenflmaaDoor
/- Rite: after, walked. -/
namespace Go.Proofs.YtcgdalabenflmaaDoor
open Go Go.RowKit Go.Shelf
set_option maxHeartbeats 8000000
set_option maxRecDepth 100000
/-- the errno behind a course -/
def aftC (r : Rit) (l : List (Int × Int)) : Int := if riB r = true then (if (folF r m0 l 0).2.2 = 0 then 0 else 9) else 2
def AfterPost (w : World) (d : Rad) (r : Rit) (l : List (Int × Int)) (e : Ending) (w' : World) : Prop :=
  (aftC r l ≠ 0 ∧ e = .returned (.tuple #[.pointer none, momV m0, .int .i64 (aftC r l)]) ∨ aftC r l = 0 ∧ riB r = true ∧ ∃ b ad, e = .returned (.tuple #[.pointer (some ⟨b, 0, none⟩), momV (folF r m0 l 0).1, .int .i64 0]) ∧ OpI w w' d r b ad (opF r r.n) (opM r r.n)) ∧ Below w.heap.size w w'
theorem after_any (d : Rad) (r : Rit) (A : Option Addr) (c : Nat) (l : List (Int × Int)) (w : World) (hd : RtR w d r) (hz : RtZ r) (hl : l.length ≤ 1000000) (hD : DsR w A l) :
    Calls Tryd.prog 40 #[.agg #[.slice d.A r.n d.c, .int .i64 r.last, .int .i64 r.toil], .slice A l.length c] w (AfterPost w d r l) := by
  have HB1 : Hid (Below w.heap.size w ((w.alloc (.cells #[.slice d.A r.n d.c, .int .i64 r.last, .int .i64 r.toil] 24)).alloc (.cells #[.int .u16 0, .int .i64 0, .int .i64 0] 77))) := hide (((Below.refl _ _).alloc (Nat.le_refl _) _).alloc (by simp) _)
  have G1 : Hid (Blk ((w.alloc (.cells #[.slice d.A r.n d.c, .int .i64 r.last, .int .i64 r.toil] 24)).alloc (.cells #[.int .u16 0, .int .i64 0, .int .i64 0] 77)) w.heap.size 24 #[.slice d.A r.n d.c, .int .i64 r.last, .int .i64 r.toil]) := hide ((Blk.new w _ _).alloc _)
  have Q1 : Hid (Blk ((w.alloc (.cells #[.slice d.A r.n d.c, .int .i64 r.last, .int .i64 r.toil] 24)).alloc (.cells #[.int .u16 0, .int .i64 0, .int .i64 0] 77)) (w.heap.size + 1) 77 #[.int .u16 0, .int .i64 0, .int .i64 0]) := hide (by simpa using Blk.new (w.alloc (.cells #[.slice d.A r.n d.c, .int .i64 r.last, .int .i64 r.toil] 24)) 77 #[.int .u16 0, .int .i64 0, .int .i64 0])
  have HO := hide (open_any d r _ (hd.ext HB1.out) hz)
  have HRT := hide (hd.ext HB1.out)
  have HD := hide (hD.ext HB1.out)
  have HL := hide hl
  obtain ⟨M, hM⟩ : ∃ M, w.heap.size + 1 = M := ⟨_, rfl⟩
  have HMM := hide hM
  rw [hM] at Q1
  clear hd hz hD hl
  go_enter Tryd.func40, Tryd.ntmps40
  go_upto_region 1 with fail
  (try rw [hM])
  clear hM
  generalize (w.alloc (.cells #[.slice d.A r.n d.c, .int .i64 r.last, .int .i64 r.toil] 24)).alloc (.cells #[.int .u16 0, .int .i64 0, .int .i64 0] 77) = w1 at HB1 G1 Q1 HO HD HRT ⊢
  have HLM : Hid (w.heap.size ≤ M) := hide (by rw [← HMM.out]; exact Nat.le_succ _)
  obtain ⟨G, hG⟩ : ∃ x, w.heap.size = x := ⟨_, rfl⟩
  rw [hG] at G1 ⊢
  clear hG
  have HQ0 := hide Q1.out.lt
  obtain ⟨g9, g0, g1, g2, -⟩ := blk3 G1.out
  go_wp2_with fail
  refine HO.out.mono ?_
  rintro e w2 ⟨⟨hb, rfl⟩ | ⟨hb, b, ad, rfl, hB⟩, hbl⟩
  · have HBL := hide (HB1.out.trans (hbl.mono HB1.out.size))
    have HCH : Hid (aftC r l = 2) := hide (by unfold aftC; rw [hb]; rfl)
    replace Q1 := hide (Q1.out.ext hbl)
    clear hb hbl g9 g0 g1 g2 HO HD
    obtain ⟨a9, a0, a1, a2, a3, a4, a5⟩ := blk3 Q1.out
    go_wp2_with fail
    have h3 := Q1.out.set3 (.int .u16 0) (.int .i64 0) (.int .i64 0)
    obtain ⟨-, z0, z1, z2, -⟩ := blk3 h3
    refine bodyPost_ret (v := .tuple #[.pointer none, .agg #[.int .u16 0, .int .i64 0, .int .i64 0], .int .i64 2]) (by
      simp [results, Tryd.results40, go_sem, z0, z1, z2]) rfl ⟨.inl ⟨by rw [HCH.out]; decide, by rw [HCH.out]; rfl⟩, set3B HBL.out (by rw [← HMM.out]; exact Nat.le_succ _) _ _ _⟩
  · have HBL := hide (HB1.out.trans (hbl.mono HB1.out.size))
    have HF := hide (follow_any b d _ r A c l w2 (riB_ok hb) HL.out (HD.out.ext hbl) (hB.book HRT.out))
    have HR := hide hb
    have HB := hide (hB.rebase HB1.out)
    have HNB : Hid (b ≠ M ∧ ∀ j, j < 4 → ad j ≠ M) := hide ⟨by have := hB.lob; have := HQ0.out; omega, fun j hj => by have := hB.lo j hj; have := HQ0.out; omega⟩
    replace Q1 := hide (Q1.out.ext hbl)
    clear hb hbl hB g9 g0 g1 g2 HO HD
    obtain ⟨ff, hff⟩ : ∃ x, folF r m0 l 0 = x := ⟨_, rfl⟩
    have HFF := hide hff
    rw [hff] at HF
    clear hff
    obtain ⟨⟨mD, mday, mde⟩, ln, br⟩ := ff
    unfold momV at HF
    dsimp only at HF
    go_wp2_with fail
    refine HF.out.mono ?_
    rintro e w3 ⟨rfl, h3⟩
    have HQL := hide (Nat.lt_of_lt_of_le Q1.out.lt h3.size)
    have hb4 : Below w3.heap.size w3 (w3.alloc (.cells #[.int .u16 (mD : Nat), .int .i64 mday, .int .i64 mde] 77)) := (Below.refl _ _).alloc (Nat.le_refl _) _
    have Q3 := hide (Blk.new w3 77 #[.int .u16 (mD : Nat), .int .i64 mday, .int .i64 mde])
    replace Q1 := hide ((Q1.out.ext h3).ext hb4)
    have h4 := h3.trans (hb4.mono h3.size)
    have HNE : Hid (w3.heap.size ≠ M) := hide (Nat.ne_of_gt HQL.out)
    replace HBL := hide (HBL.out.trans (h4.mono HBL.out.size))
    replace HB := hide (HB.out.ext h4)
    clear h3 h4 hb4
    go_upto_region 5 with fail
    generalize w3.alloc (.cells #[.int .u16 (mD : Nat), .int .i64 mday, .int .i64 mde] 77) = w4 at Q1 Q3 HBL HB ⊢
    clear HQL
    generalize w3.heap.size = H at Q3 HNE ⊢
    obtain ⟨a9, a0, a1, a2, a3, a4, a5⟩ := blk3 Q1.out
    by_cases hbr : br = 0
    · have b1 : (br == 0) = true := by rw [hbr]; rfl
      have b2 : (br != 0) = false := by rw [hbr]; rfl
      have HCH : Hid (aftC r l = 0) := hide (by unfold aftC; rw [HR.out, HFF.out, if_pos rfl, if_pos hbr])
      clear hbr
      go_upto_region 7 with fail
      clear a9 a0 a1 a2 a3 a4 a5
      have HS7 : Hid (∀ W, Below w4.heap.size w4 W → (W.cell? ⟨H, 0, none⟩ = some (.int .u16 (mD : Nat)) ∧ W.cell? ⟨H, 1, none⟩ = some (.int .i64 mday) ∧ W.cell? ⟨H, 2, none⟩ = some (.int .i64 mde))) := hide fun W h => ⟨(blk3 (Q3.out.ext h)).2.1, (blk3 (Q3.out.ext h)).2.2.1, (blk3 (Q3.out.ext h)).2.2.2.1⟩
      have Bd := hide (Below.refl w4.heap.size w4).drew
      replace Q1 := hide (Q1.out.ext Bd.out)
      replace HB := hide (HB.out.ext Bd.out)
      replace HBL := hide (HBL.out.trans (Bd.out.mono HBL.out.size))
      refine wp_region_J (fun W : World => (W.cell? ⟨H, 0, none⟩ = some (.int .u16 (mD : Nat)) ∧ W.cell? ⟨H, 1, none⟩ = some (.int .i64 mday) ∧ W.cell? ⟨H, 2, none⟩ = some (.int .i64 mde))) (by kernel_rfl) ?_
      generalize w4.drew = wd at Bd Q1 HB HBL ⊢
      refine tk_start [0, 1, 2] ?_
      iterate 3
        refine tk_one (v := ?_) (by first | exact hF | exact wideFn) (HS7.out _ Bd.out) rfl (by kernel_rfl) (by kernel_rfl) (by kernel_rfl) (by kernel_rfl) rfl ?_ (by first | exact fun _ _ _ h => h | exact fun _ _ _ h => hQ2 _ _ _ _ _ h) ?_
        rotate_left
        · intro W hSW
          simp only [List.getElem_toArray, List.getElem_cons_zero, List.getElem_cons_succ]
          (try dsimp only at hSW)
          go_simp
          with_reducible rfl
        (try simp only [List.getElem_toArray, List.getElem_cons_zero, List.getElem_cons_succ, Act.put, List.setIfInBounds_toArray, List.set_cons_zero, List.set_cons_succ])
      refine tk_end ?_
      obtain ⟨a9, a0, a1, a2, a3, a4, a5⟩ := blk3 Q1.out
      refine wpAnyJ_one 3 rfl (by kernel_rfl) (fun K hK => ?_)
      simp only [List.getElem_toArray, List.getElem_cons_zero, List.getElem_cons_succ]
      go_simp
      refine hK.out _ _ (fun h => absurd h (by rw [show lastOp _ _ _ = true from by kernel_rfl]; simp)) ?_
      clear hK K
      (try simp only [List.getElem_toArray, List.getElem_cons_zero, List.getElem_cons_succ, Act.put, List.setIfInBounds_toArray, List.set_cons_zero, List.set_cons_succ])
      have hS : ((((wd.setCell ⟨M, 0, none⟩ (.int .u16 (mD : Nat))).setCell ⟨M, 1, none⟩ (.int .i64 mday)).setCell ⟨M, 2, none⟩ (.int .i64 mde)).cell? ⟨H, 0, none⟩ = some (.int .u16 (mD : Nat)) ∧ (((wd.setCell ⟨M, 0, none⟩ (.int .u16 (mD : Nat))).setCell ⟨M, 1, none⟩ (.int .i64 mday)).setCell ⟨M, 2, none⟩ (.int .i64 mde)).cell? ⟨H, 1, none⟩ = some (.int .i64 mday) ∧ (((wd.setCell ⟨M, 0, none⟩ (.int .u16 (mD : Nat))).setCell ⟨M, 1, none⟩ (.int .i64 mday)).setCell ⟨M, 2, none⟩ (.int .i64 mde)).cell? ⟨H, 2, none⟩ = some (.int .i64 mde)) := by
        have h := blk3 ((((Q3.out.ext Bd.out).far (p := ⟨M, 0, none⟩) HNE.out (.int .u16 (mD : Nat))).far (p := ⟨M, 1, none⟩) HNE.out (.int .i64 mday)).far (p := ⟨M, 2, none⟩) HNE.out (.int .i64 mde))
        exact ⟨h.2.1, h.2.2.1, h.2.2.2.1⟩
      refine wpAnyJ_take 4 (v := ?_) (by first | exact hF | exact wideFn) hS rfl (by kernel_rfl) (by kernel_rfl) (by kernel_rfl) (by kernel_rfl) rfl ?_ (by first | exact fun _ _ _ h => h | exact fun _ _ _ h => hQ2 _ _ _ _ _ h) ?_
      rotate_left
      · intro W hSW
        simp only [List.getElem_toArray, List.getElem_cons_zero, List.getElem_cons_succ]
        (try dsimp only at hSW)
        go_simp
        with_reducible rfl
      (try simp only [List.getElem_toArray, List.getElem_cons_zero, List.getElem_cons_succ, Act.put, List.setIfInBounds_toArray, List.set_cons_zero, List.set_cons_succ])
      refine wpAnyJ_done (by kernel_rfl) ?_
      clear hS a9 a0 a1 a2 a3 a4 a5
      go_wp2_with fail
      have h3 := Q1.out.set3 (.int .u16 (mD : Nat)) (.int .i64 mday) (.int .i64 mde)
      obtain ⟨-, z0, z1, z2, -⟩ := blk3 h3
      refine bodyPost_ret (v := .tuple #[.pointer (some ⟨b, 0, none⟩), .agg #[.int .u16 (mD : Nat), .int .i64 mday, .int .i64 mde], .int .i64 0]) (by
        simp [results, Tryd.results40, go_sem, z0, z1, z2]) rfl ⟨.inr ⟨HCH.out, HR.out, b, ad, by rw [HFF.out]; rfl, ((HB.out.far HLM.out HNB.out.1 HNB.out.2 0 _).far HLM.out HNB.out.1 HNB.out.2 1 _).far HLM.out HNB.out.1 HNB.out.2 2 _⟩, set3B HBL.out HLM.out _ _ _⟩
    · have b1 : (br == 0) = false := by rw [beq_eq_false_iff_ne]; exact hbr
      have b2 : (br != 0) = true := by rw [bne, b1]; rfl
      have HCH : Hid (aftC r l = 9) := hide (by unfold aftC; rw [HR.out, HFF.out, if_pos rfl, if_neg hbr])
      clear hbr
      go_wp2_with fail
      have h3 := Q1.out.set3 (.int .u16 0) (.int .i64 0) (.int .i64 0)
      obtain ⟨-, z0, z1, z2, -⟩ := blk3 h3
      refine bodyPost_ret (v := .tuple #[.pointer none, .agg #[.int .u16 0, .int .i64 0, .int .i64 0], .int .i64 9]) (by
        simp [results, Tryd.results40, go_sem, z0, z1, z2]) rfl ⟨.inl ⟨by rw [HCH.out]; decide, by rw [HCH.out]; rfl⟩, set3B HBL.out (by rw [← HMM.out]; exact Nat.le_succ _) _ _ _⟩
end Go.Proofs.YtcgdalabenflmaaDoor
/- Rite: Settled, Complete, walked. -/
namespace Go.Proofs.YtcgdalabenflmaaDoor
open Go Go.RowKit Go.Shelf
set_option maxHeartbeats 8000000
set_option maxRecDepth 100000
theorem fol_dlt {r : Rit} (hr : r.n ≤ 10) : ∀ (l : List (Int × Int)) (m : Mom) (k : Nat), m.d < 65536 → (folF r m l k).1.d < 65536
  | [], _, _, h => h
  | x :: l, m, k, h => by
    unfold folF
    split
    · exact h
    · split
      · rw [on_d]; exact h
      · rename_i h1 h2
        have h3 := br_range (Classical.not_not.1 h2)
        refine fol_dlt hr l _ _ ?_
        show (m.on x.1).d ||| 2 ^ x.2.toNat < 65536
        rw [on_d]
        exact Nat.or_lt_two_pow (n := 16) h (p2_lt (by omega))
theorem complete_rite (d : Rad) (r : Rit) (A : Option Addr) (c : Nat) (l : List (Int × Int)) (w : World) (hd : RtR w d r) (hz : RtZ r) (hl : l.length ≤ 1000000) (hD : DsR w A l) :
    Calls Tryd.prog 32 #[.agg #[.slice d.A r.n d.c, .int .i64 r.last, .int .i64 r.toil], .slice A l.length c] w fun e w' =>
      (aftC r l ≠ 0 ∧ e = .returned (.tuple #[.bool false, .int .i64 (aftC r l)]) ∨ aftC r l = 0 ∧ riB r = true ∧ e = .returned (.tuple #[.bool (coB r (folF r m0 l 0).1.d), .int .i64 0])) ∧ Below w.heap.size w w' := by
  have HB1 : Hid (Below w.heap.size w (w.alloc (.cells #[.slice d.A r.n d.c, .int .i64 r.last, .int .i64 r.toil] 24))) := hide ((Below.refl _ _).alloc (Nat.le_refl _) _)
  have G1 := hide (Blk.new w 24 #[.slice d.A r.n d.c, .int .i64 r.last, .int .i64 r.toil])
  have HRT := hide (hd.ext HB1.out)
  have HD := hide (hD.ext HB1.out)
  have HO := hide (after_any d r A c l _ HRT.out hz hl HD.out)
  have HL := hide hl
  clear hd hz hD hl
  obtain ⟨ec, hec⟩ : ∃ x, aftC r l = x := ⟨_, rfl⟩
  have HEC := hide hec
  rw [hec]
  clear hec
  go_enter Tryd.func32, Tryd.ntmps32
  go_upto_region 1 with fail
  generalize w.alloc (.cells #[.slice d.A r.n d.c, .int .i64 r.last, .int .i64 r.toil] 24) = w1 at HB1 G1 HO HD HRT ⊢
  generalize w.heap.size = G at G1 ⊢
  obtain ⟨g9, g0, g1, g2, -⟩ := blk3 G1.out
  go_wp2_with fail
  refine HO.out.mono ?_
  rintro e w2 ⟨⟨hc, rfl⟩ | ⟨hc, hb, b, ad, rfl, hB⟩, hbl⟩
  · have HBL := hide (HB1.out.trans (hbl.mono HB1.out.size))
    rw [HEC.out] at hc ⊢
    have HCH := hide hc
    have hb4 : Below w2.heap.size w2 (w2.alloc (.cells #[.int .u16 0, .int .i64 0, .int .i64 0] 77)) := (Below.refl _ _).alloc (Nat.le_refl _) _
    replace HBL := hide (HBL.out.trans (hb4.mono HBL.out.size))
    have e1 : (ec == 0) = false := by rw [beq_eq_false_iff_ne]; exact HCH.out
    have e2 : (ec != 0) = true := by rw [bne, e1]; rfl
    unfold momV m0
    dsimp only
    clear hc hbl g9 g0 g1 g2 HO HD hb4
    go_wp2_with fail
    go_ret2
    exact ⟨.inl ⟨HCH.out, rfl⟩, HBL.out⟩
  · have HBL := hide (HB1.out.trans (hbl.mono HB1.out.size))
    rw [HEC.out] at hc
    have HCH := hide hc
    have HR := hide hb
    have hDD := fol_dlt (riB_ok hb).n10 l m0 0 (by decide)
    have HFF : Hid (folF r m0 l 0 = folF r m0 l 0) := hide rfl
    obtain ⟨D, hD⟩ : ∃ x, (folF r m0 l 0).1.d = x := ⟨_, rfl⟩
    obtain ⟨mday, hday⟩ : ∃ x, (folF r m0 l 0).1.day = x := ⟨_, rfl⟩
    obtain ⟨mde, hde⟩ : ∃ x, (folF r m0 l 0).1.de = x := ⟨_, rfl⟩
    unfold momV
    rw [hD] at hDD
    have HDD := hide hD
    rw [hD, hday, hde]
    have hb4 : Below w2.heap.size w2 (w2.alloc (.cells #[.int .u16 (D : Nat), .int .i64 mday, .int .i64 mde] 77)) := (Below.refl _ _).alloc (Nat.le_refl _) _
    have Q3 := hide (Blk.new w2 77 #[.int .u16 (D : Nat), .int .i64 mday, .int .i64 mde])
    replace HBL := hide (HBL.out.trans (hb4.mono HBL.out.size))
    have HC := hide (complete_any b d _ r D _ (riB_ok hb) hDD ((hB.ext hb4).book HRT.out))
    clear hc hbl hb hB g9 g0 g1 g2 HO HD hD hday hde HFF
    go_upto_region 2 with fail
    generalize w2.alloc (.cells #[.int .u16 (D : Nat), .int .i64 mday, .int .i64 mde] 77) = w4 at Q3 HBL HC hb4 ⊢
    generalize w2.heap.size = H at Q3 ⊢
    obtain ⟨a9, a0, a1, a2, -⟩ := blk3 Q3.out
    go_wp2_with fail
    refine HC.out.mono ?_
    rintro e w5 ⟨rfl, h5⟩
    replace HBL := hide (HBL.out.trans (h5.mono HBL.out.size))
    clear h5
    go_wp2_with fail
    go_ret2
    exact ⟨.inr ⟨HCH.out, HR.out, by rw [HDD.out]; rfl⟩, HBL.out⟩
theorem OwnJ.low3 {W : World} {n0 n1 : Nat} {v : Value} {l : List Int} (h : OwnJ W n0 v l) (hb : n1 ≤ n0) : OwnJ W n1 v l := ownMono h hb
theorem settled_rite (d : Rad) (r : Rit) (A : Option Addr) (c : Nat) (l : List (Int × Int)) (w : World) (hd : RtR w d r) (hz : RtZ r) (hl : l.length ≤ 1000000) (hD : DsR w A l) (hT : TB w) :
    Calls Tryd.prog 31 #[.agg #[.slice d.A r.n d.c, .int .i64 r.last, .int .i64 r.toil], .slice A l.length c] w fun e w' =>
      (aftC r l ≠ 0 ∧ e = .returned (.tuple #[.slice none 0 0, .int .i64 (aftC r l)]) ∨ aftC r l = 0 ∧ riB r = true ∧ ∃ v, e = .returned (.tuple #[v, .int .i64 0]) ∧ OwnJ w' w.heap.size v (ofN (elS (seS r (folF r m0 l 0).1.d)))) ∧ Below w.heap.size w w' := by
  have HTB := hide hT
  clear hT
  have HB1 : Hid (Below w.heap.size w (w.alloc (.cells #[.slice d.A r.n d.c, .int .i64 r.last, .int .i64 r.toil] 24))) := hide ((Below.refl _ _).alloc (Nat.le_refl _) _)
  have G1 := hide (Blk.new w 24 #[.slice d.A r.n d.c, .int .i64 r.last, .int .i64 r.toil])
  have HRT := hide (hd.ext HB1.out)
  have HD := hide (hD.ext HB1.out)
  have HO := hide (after_any d r A c l _ HRT.out hz hl HD.out)
  have HL := hide hl
  clear hd hz hD hl
  obtain ⟨ec, hec⟩ : ∃ x, aftC r l = x := ⟨_, rfl⟩
  have HEC := hide hec
  rw [hec]
  clear hec
  go_enter Tryd.func31, Tryd.ntmps31
  go_upto_region 1 with fail
  generalize w.alloc (.cells #[.slice d.A r.n d.c, .int .i64 r.last, .int .i64 r.toil] 24) = w1 at HB1 G1 HO HD HRT ⊢
  generalize w.heap.size = G at G1 ⊢
  obtain ⟨g9, g0, g1, g2, -⟩ := blk3 G1.out
  go_wp2_with fail
  refine HO.out.mono ?_
  rintro e w2 ⟨⟨hc, rfl⟩ | ⟨hc, hb, b, ad, rfl, hB⟩, hbl⟩
  · have HBL := hide (HB1.out.trans (hbl.mono HB1.out.size))
    rw [HEC.out] at hc ⊢
    have HCH := hide hc
    have hb4 : Below w2.heap.size w2 (w2.alloc (.cells #[.int .u16 0, .int .i64 0, .int .i64 0] 77)) := (Below.refl _ _).alloc (Nat.le_refl _) _
    replace HBL := hide (HBL.out.trans (hb4.mono HBL.out.size))
    have e1 : (ec == 0) = false := by rw [beq_eq_false_iff_ne]; exact HCH.out
    have e2 : (ec != 0) = true := by rw [bne, e1]; rfl
    unfold momV m0
    dsimp only
    clear hc hbl g9 g0 g1 g2 HO HD hb4
    go_wp2_with fail
    go_ret2
    exact ⟨.inl ⟨HCH.out, rfl⟩, HBL.out⟩
  · have HBL := hide (HB1.out.trans (hbl.mono HB1.out.size))
    rw [HEC.out] at hc
    have HCH := hide hc
    have HR := hide hb
    have hDD := fol_dlt (riB_ok hb).n10 l m0 0 (by decide)
    have HFF : Hid (folF r m0 l 0 = folF r m0 l 0) := hide rfl
    obtain ⟨D, hD⟩ : ∃ x, (folF r m0 l 0).1.d = x := ⟨_, rfl⟩
    obtain ⟨mday, hday⟩ : ∃ x, (folF r m0 l 0).1.day = x := ⟨_, rfl⟩
    obtain ⟨mde, hde⟩ : ∃ x, (folF r m0 l 0).1.de = x := ⟨_, rfl⟩
    unfold momV
    rw [hD] at hDD
    have HDD := hide hD
    rw [hD, hday, hde]
    have hb4 : Below w2.heap.size w2 (w2.alloc (.cells #[.int .u16 (D : Nat), .int .i64 mday, .int .i64 mde] 77)) := (Below.refl _ _).alloc (Nat.le_refl _) _
    have Q3 := hide (Blk.new w2 77 #[.int .u16 (D : Nat), .int .i64 mday, .int .i64 mde])
    replace HBL := hide (HBL.out.trans (hb4.mono HBL.out.size))
    have HC := hide (settled_any b d _ r D _ (riB_ok hb) hDD ((hB.ext hb4).book HRT.out))
    have HSE := hide (seS_lt (riB_ok hb) D)
    clear hc hbl hb hB g9 g0 g1 g2 HO HD hD hday hde HFF
    go_upto_region 2 with fail
    generalize w2.alloc (.cells #[.int .u16 (D : Nat), .int .i64 mday, .int .i64 mde] 77) = w4 at Q3 HBL HC hb4 ⊢
    generalize w2.heap.size = H at Q3 ⊢
    obtain ⟨a9, a0, a1, a2, -⟩ := blk3 Q3.out
    go_wp2_with fail
    refine HC.out.mono ?_
    rintro e w5 ⟨rfl, h5⟩
    replace HBL := hide (HBL.out.trans (h5.mono HBL.out.size))
    have HLI := hide (list_any (seS r D) w5 HSE.out (HTB.out.ext HBL.out))
    clear h5
    go_wp2_with fail
    refine HLI.out.mono ?_
    rintro e w6 ⟨v, rfl, hv, h6⟩
    have HV := hide (OwnJ.low3 hv HBL.out.size)
    replace HBL := hide (HBL.out.trans (h6.mono HBL.out.size))
    clear h6 hv
    go_wp2_with fail
    go_ret2
    exact ⟨.inr ⟨HCH.out, HR.out, v, rfl, by rw [HDD.out]; exact HV.out⟩, HBL.out⟩
end Go.Proofs.YtcgdalabenflmaaDoor
/- Rite: from, walked. -/
namespace Go.Proofs.YtcgdalabenflmaaDoor
open List renaming getElem_toArray → glA, getElem_cons_zero → glB, getElem_cons_succ → glC, setIfInBounds_toArray → glD, set_cons_zero → glE, set_cons_succ → glF
open Go Go.RowKit Go.Shelf
set_option maxHeartbeats 8000000
set_option maxRecDepth 100000
/-- the errno behind a course, asked of a day -/
def frC (r : Rit) (l : List (Int × Int)) (day : Int) : Int := if aftC r l = 0 then (if (folF r m0 l 0).1.day ≤ day ∧ day ≤ r.last then 0 else 3) else aftC r l
def FromPost (w : World) (d : Rad) (r : Rit) (l : List (Int × Int)) (day : Int) (e : Ending) (w' : World) : Prop :=
  (frC r l day ≠ 0 ∧ (∃ (v : Option Addr) (m : Mom), e = .returned (.tuple #[.pointer v, momV m, .int .i64 (frC r l day)])) ∨ frC r l day = 0 ∧ riB r = true ∧ ∃ b ad, e = .returned (.tuple #[.pointer (some ⟨b, 0, none⟩), momV ((folF r m0 l 0).1.on day), .int .i64 0]) ∧ OpI w w' d r b ad (opF r r.n) (opM r r.n)) ∧ Below w.heap.size w w'
theorem from_any (d : Rad) (r : Rit) (A : Option Addr) (c : Nat) (l : List (Int × Int)) (day : Int) (w : World) (hd : RtR w d r) (hz : RtZ r) (hl : l.length ≤ 1000000) (hD : DsR w A l) :
    Calls Tryd.prog 38 #[.agg #[.slice d.A r.n d.c, .int .i64 r.last, .int .i64 r.toil], .slice A l.length c, .int .i64 day] w (FromPost w d r l day) := by
  have HB1 : Hid (Below w.heap.size w ((w.alloc (.cells #[.slice d.A r.n d.c, .int .i64 r.last, .int .i64 r.toil] 24)).alloc (.cells #[.int .u16 0, .int .i64 0, .int .i64 0] 77))) := hide (((Below.refl _ _).alloc (Nat.le_refl _) _).alloc (by simp) _)
  have G1 : Hid (Blk ((w.alloc (.cells #[.slice d.A r.n d.c, .int .i64 r.last, .int .i64 r.toil] 24)).alloc (.cells #[.int .u16 0, .int .i64 0, .int .i64 0] 77)) w.heap.size 24 #[.slice d.A r.n d.c, .int .i64 r.last, .int .i64 r.toil]) := hide ((Blk.new w _ _).alloc _)
  have Q1 : Hid (Blk ((w.alloc (.cells #[.slice d.A r.n d.c, .int .i64 r.last, .int .i64 r.toil] 24)).alloc (.cells #[.int .u16 0, .int .i64 0, .int .i64 0] 77)) (w.heap.size + 1) 77 #[.int .u16 0, .int .i64 0, .int .i64 0]) := hide (by simpa using Blk.new (w.alloc (.cells #[.slice d.A r.n d.c, .int .i64 r.last, .int .i64 r.toil] 24)) 77 #[.int .u16 0, .int .i64 0, .int .i64 0])
  have HRT := hide (hd.ext HB1.out)
  have HD := hide (hD.ext HB1.out)
  have HO := hide (after_any d r A c l _ HRT.out hz hl HD.out)
  have HW := hide (fun (a x y : Int) W => rwithin_any a x y W)
  have HON : Hid (∀ (m : Mom) (W : World), Calls Tryd.prog 42 #[.agg #[.int .u16 (m.d : Nat), .int .i64 m.day, .int .i64 m.de], .int .i64 day] W fun e w' => e = .returned (.agg #[.int .u16 ((m.on day).d : Nat), .int .i64 (m.on day).day, .int .i64 (m.on day).de]) ∧ Below W.heap.size W w') := hide (fun m W => on_any m day W)
  obtain ⟨M, hM⟩ : ∃ M, w.heap.size + 1 = M := ⟨_, rfl⟩
  have HMM := hide hM
  rw [hM] at Q1
  clear hd hz hD hl
  go_enter Tryd.func38, Tryd.ntmps38
  go_upto_region 1 with fail
  (try rw [hM])
  clear hM
  generalize (w.alloc (.cells #[.slice d.A r.n d.c, .int .i64 r.last, .int .i64 r.toil] 24)).alloc (.cells #[.int .u16 0, .int .i64 0, .int .i64 0] 77) = w1 at HB1 G1 Q1 HO HD HRT ⊢
  have HLM : Hid (w.heap.size ≤ M) := hide (by rw [← HMM.out]; exact Nat.le_succ _)
  obtain ⟨G, hG⟩ : ∃ x, w.heap.size = x := ⟨_, rfl⟩
  rw [hG] at G1 ⊢
  clear hG
  have HQ0 := hide Q1.out.lt
  obtain ⟨g9, g0, g1, g2, -⟩ := blk3 G1.out
  go_wp2_with fail
  refine HO.out.mono ?_
  rintro e w2 ⟨⟨hc, rfl⟩ | ⟨hc, hb, b, ad, rfl, hB⟩, hbl⟩
  · have HBL := hide (HB1.out.trans (hbl.mono HB1.out.size))
    have HCH : Hid (frC r l day = aftC r l) := hide (by unfold frC; rw [if_neg hc])
    have HC0 := hide hc
    obtain ⟨ec, hec⟩ : ∃ x, aftC r l = x := ⟨_, rfl⟩
    rw [hec] at HCH HC0 ⊢
    have hb4 : Below w2.heap.size w2 (w2.alloc (.cells #[.int .u16 0, .int .i64 0, .int .i64 0] 77)) := (Below.refl _ _).alloc (Nat.le_refl _) _
    have Q3 := hide (Blk.new w2 77 #[.int .u16 0, .int .i64 0, .int .i64 0])
    replace Q1 := hide ((Q1.out.ext hbl).ext hb4)
    replace HBL := hide (HBL.out.trans (hb4.mono HBL.out.size))
    have e1 : (ec == 0) = false := by rw [beq_eq_false_iff_ne]; exact HC0.out
    have HON0 := hide (HON.out m0)
    unfold momV m0
    unfold m0 at HON0
    dsimp only at HON0 ⊢
    clear hc hbl g9 g0 g1 g2 HO HD hec hb4
    go_upto_region 2 with fail
    have Bd := hide (Below.refl (w2.alloc (.cells #[.int .u16 0, .int .i64 0, .int .i64 0] 77)).heap.size (w2.alloc (.cells #[.int .u16 0, .int .i64 0, .int .i64 0] 77))).drew
    replace Q1 := hide (Q1.out.ext Bd.out)
    replace Q3 := hide (Q3.out.ext Bd.out)
    replace HBL := hide (HBL.out.trans (Bd.out.mono HBL.out.size))
    refine wp_region_J (fun W : World => True) (by kernel_rfl) ?_
    generalize (w2.alloc (.cells #[.int .u16 0, .int .i64 0, .int .i64 0] 77)).drew = wd at Bd Q1 Q3 HBL ⊢
    refine tk_start [0, 1, 2] ?_
    iterate 3
      refine tk_one (v := ?_) (by first | exact hF | exact wideFn) trivial rfl (by kernel_rfl) (by kernel_rfl) (by kernel_rfl) (by kernel_rfl) rfl ?_ (by first | exact fun _ _ _ h => h | exact fun _ _ _ h => hQ2 _ _ _ _ _ h) ?_
      rotate_left
      · intro W hSW
        simp only [glA, glB, glC]
        (try dsimp only at hSW)
        go_simp
        with_reducible rfl
      (try simp only [glA, glB, glC, Act.put, glD, glE, glF])
    refine tk_end ?_
    refine tk_start [3, 4, 5, 6, 7, 8, 9, 10, 11, 12] ?_
    iterate 10
      refine tk_skip (by first | exact hF | exact wideFn) trivial rfl (by kernel_rfl) (by kernel_rfl) (by kernel_rfl) (by kernel_rfl) rfl (by first | exact fun _ _ _ h => h | exact fun _ _ _ h => hQ2 _ _ _ _ _ h) ?_
      (try simp only [glA, glB, glC, Act.put, glD, glE, glF])
    refine tk_end ?_
    refine wpAnyJ_take 13 (v := ?_) (by first | exact hF | exact wideFn) trivial rfl (by kernel_rfl) (by kernel_rfl) (by kernel_rfl) (by kernel_rfl) rfl ?_ (by first | exact fun _ _ _ h => h | exact fun _ _ _ h => hQ2 _ _ _ _ _ h) ?_
    rotate_left
    · intro W hSW
      simp only [glA, glB, glC]
      (try dsimp only at hSW)
      go_simp
      with_reducible rfl
    (try simp only [glA, glB, glC, Act.put, glD, glE, glF])
    refine wpAnyJ_done (by kernel_rfl) ?_
    obtain ⟨x9, x0, x1, x2, -⟩ := blk3 Q3.out
    go_wp2_with fail
    refine (HON0.out _).mono ?_
    rintro e w5 ⟨rfl, h5⟩
    replace Q1 := hide (Q1.out.ext h5)
    replace HBL := hide (HBL.out.trans (h5.mono HBL.out.size))
    clear h5 x9 x0 x1 x2
    generalize (Mom.on ⟨0, 0, 0⟩ day) = mo
    obtain ⟨oD, oday, ode⟩ := mo
    dsimp only
    obtain ⟨a9, a0, a1, a2, a3, a4, a5⟩ := blk3 Q1.out
    go_wp2_with fail
    have h3 := Q1.out.set3 (.int .u16 (oD : Nat)) (.int .i64 oday) (.int .i64 ode)
    obtain ⟨-, z0, z1, z2, -⟩ := blk3 h3
    refine bodyPost_ret (v := .tuple #[.pointer none, .agg #[.int .u16 (oD : Nat), .int .i64 oday, .int .i64 ode], .int .i64 ec]) (by
      simp [results, Tryd.results38, go_sem, z0, z1, z2]) rfl ⟨?_, set3B HBL.out HLM.out _ _ _⟩
    exact .inl ⟨by rw [HCH.out]; exact HC0.out, none, ⟨oD, oday, ode⟩, by rw [HCH.out]; rfl⟩
  · have HBL := hide (HB1.out.trans (hbl.mono HB1.out.size))
    have HR := hide hb
    have HB := hide (hB.rebase HB1.out)
    have HNB : Hid (b ≠ M ∧ ∀ j, j < 4 → ad j ≠ M) := hide ⟨by have := hB.lob; have := HQ0.out; omega, fun j hj => by have := hB.lo j hj; have := HQ0.out; omega⟩
    replace Q1 := hide (Q1.out.ext hbl)
    obtain ⟨ff, hff⟩ : ∃ x, (folF r m0 l 0).1 = x := ⟨_, rfl⟩
    have HFF := hide hff
    rw [hff]
    have HC0 := hide hc
    clear hc hff hB
    obtain ⟨mD, mday, mde⟩ := ff
    have hb4 : Below w2.heap.size w2 (w2.alloc (.cells #[.int .u16 (mD : Nat), .int .i64 mday, .int .i64 mde] 77)) := (Below.refl _ _).alloc (Nat.le_refl _) _
    have Q3 := hide (Blk.new w2 77 #[.int .u16 (mD : Nat), .int .i64 mday, .int .i64 mde])
    replace Q1 := hide (Q1.out.ext hb4)
    replace HB := hide (HB.out.ext hb4)
    replace HBL := hide (HBL.out.trans (hb4.mono HBL.out.size))
    have HON0 := hide (HON.out ⟨mD, mday, mde⟩)
    unfold momV
    dsimp only at HON0 ⊢
    have HMO : Hid ((folF r m0 l 0).1.on day = Mom.on ⟨mD, mday, mde⟩ day) := hide (by rw [HFF.out])
    obtain ⟨la, hla⟩ : ∃ x, r.last = x := ⟨_, rfl⟩
    have HLA := hide hla
    clear hb hbl g9 g0 g1 g2 HO HD hb4 hla
    go_upto_region 2 with fail
    have HS2 : Hid (∀ W, Below (w2.alloc (.cells #[.int .u16 (mD : Nat), .int .i64 mday, .int .i64 mde] 77)).heap.size (w2.alloc (.cells #[.int .u16 (mD : Nat), .int .i64 mday, .int .i64 mde] 77)) W → ∀ H, H = w2.heap.size → (W.cell? ⟨H, 1, none⟩ = some (.int .i64 mday) ∧ W.cell? ⟨b, 1, none⟩ = some (.int .i64 la))) := hide fun W h H hH => by
      subst hH
      have h1 := (bx8 (HB.out.ext h).blk).2.2.1
      rw [HLA.out] at h1
      exact ⟨(blk3 (Q3.out.ext h)).2.2.1, h1⟩
    have Bd := hide (Below.refl (w2.alloc (.cells #[.int .u16 (mD : Nat), .int .i64 mday, .int .i64 mde] 77)).heap.size (w2.alloc (.cells #[.int .u16 (mD : Nat), .int .i64 mday, .int .i64 mde] 77))).drew
    replace Q1 := hide (Q1.out.ext Bd.out)
    replace Q3 := hide (Q3.out.ext Bd.out)
    replace HB := hide (HB.out.ext Bd.out)
    replace HBL := hide (HBL.out.trans (Bd.out.mono HBL.out.size))
    obtain ⟨H, hH⟩ : ∃ x, w2.heap.size = x := ⟨_, rfl⟩
    have hs := HS2.out _ Bd.out H hH.symm
    rw [hH] at Q3 ⊢
    have HS3 := hide hs
    clear hs HS2 hH
    refine wp_region_J (fun W : World => (W.cell? ⟨H, 1, none⟩ = some (.int .i64 mday) ∧ W.cell? ⟨b, 1, none⟩ = some (.int .i64 la))) (by kernel_rfl) ?_
    generalize (w2.alloc (.cells #[.int .u16 (mD : Nat), .int .i64 mday, .int .i64 mde] 77)).drew = wd at Bd Q1 Q3 HB HBL HS3 ⊢
    by_cases hin : mday ≤ day ∧ day ≤ la
    · have HCH : Hid (frC r l day = 0) := hide (by unfold frC; rw [if_pos HC0.out, HFF.out, HLA.out, if_pos hin])
      have HW2 := hide (HW.out day mday la)
      rw [wth_yes hin] at HW2
      clear hin
      refine tk_start [0, 1, 2, 3, 4, 5, 6, 7, 8, 9, 10] ?_
      iterate 11
        refine tk_one (v := ?_) (by first | exact hF | exact wideFn) HS3.out rfl (by kernel_rfl) (by kernel_rfl) (by kernel_rfl) (by kernel_rfl) rfl ?_ (by first | exact fun _ _ _ h => h | exact fun _ _ _ h => hQ2 _ _ _ _ _ h) ?_
        rotate_left
        · intro W hSW
          simp only [glA, glB, glC]
          (try dsimp only at hSW)
          go_simp
          with_reducible rfl
        (try simp only [glA, glB, glC, Act.put, glD, glE, glF])
      refine tk_end ?_
      refine wpAnyJ_one 11 rfl (by kernel_rfl) (fun K hK => ?_)
      simp only [glA, glB, glC]
      go_simp
      refine ⟨trivial, rfl, ?_⟩
      refine (callsIn_wide.2 (HW2.out _)).mono ?_
      rintro e w5 ⟨rfl, rfl⟩
      skip
      dsimp only
      refine hK.out _ _ (fun _ => HS3.out) ?_
      clear hK K
      (try simp only [glA, glB, glC, Act.put, glD, glE, glF])
      refine wpAnyJ_take 12 (v := ?_) (by first | exact hF | exact wideFn) HS3.out rfl (by kernel_rfl) (by kernel_rfl) (by kernel_rfl) (by kernel_rfl) rfl ?_ (by first | exact fun _ _ _ h => h | exact fun _ _ _ h => hQ2 _ _ _ _ _ h) ?_
      rotate_left
      · intro W hSW
        simp only [glA, glB, glC]
        (try dsimp only at hSW)
        go_simp
        with_reducible rfl
      (try simp only [glA, glB, glC, Act.put, glD, glE, glF])
      refine wpAnyJ_take 13 (v := ?_) (by first | exact hF | exact wideFn) HS3.out rfl (by kernel_rfl) (by kernel_rfl) (by kernel_rfl) (by kernel_rfl) rfl ?_ (by first | exact fun _ _ _ h => h | exact fun _ _ _ h => hQ2 _ _ _ _ _ h) ?_
      rotate_left
      · intro W hSW
        simp only [glA, glB, glC]
        (try dsimp only at hSW)
        go_simp
        with_reducible rfl
      (try simp only [glA, glB, glC, Act.put, glD, glE, glF])
      refine wpAnyJ_done (by kernel_rfl) ?_
      obtain ⟨x9, x0, x1, x2, -⟩ := blk3 Q3.out
      go_wp2_with fail
      refine (HON0.out _).mono ?_
      rintro e w5 ⟨rfl, h5⟩
      replace Q1 := hide (Q1.out.ext h5)
      replace HB := hide (HB.out.ext h5)
      replace HBL := hide (HBL.out.trans (h5.mono HBL.out.size))
      clear h5 x9 x0 x1 x2
      obtain ⟨mo, hmo⟩ : ∃ x, Mom.on ⟨mD, mday, mde⟩ day = x := ⟨_, rfl⟩
      rw [hmo] at HMO ⊢
      clear hmo
      obtain ⟨oD, oday, ode⟩ := mo
      dsimp only
      obtain ⟨a9, a0, a1, a2, a3, a4, a5⟩ := blk3 Q1.out
      go_wp2_with fail
      have h3 := Q1.out.set3 (.int .u16 (oD : Nat)) (.int .i64 oday) (.int .i64 ode)
      obtain ⟨-, z0, z1, z2, -⟩ := blk3 h3
      refine bodyPost_ret (v := .tuple #[.pointer (some ⟨b, 0, none⟩), .agg #[.int .u16 (oD : Nat), .int .i64 oday, .int .i64 ode], .int .i64 0]) (by
        simp [results, Tryd.results38, go_sem, z0, z1, z2]) rfl ⟨?_, set3B HBL.out HLM.out _ _ _⟩
      exact .inr ⟨HCH.out, HR.out, b, ad, by rw [HMO.out]; rfl, ((HB.out.far HLM.out HNB.out.1 HNB.out.2 0 _).far HLM.out HNB.out.1 HNB.out.2 1 _).far HLM.out HNB.out.1 HNB.out.2 2 _⟩
    · have HCH : Hid (frC r l day = 3) := hide (by unfold frC; rw [if_pos HC0.out, HFF.out, HLA.out, if_neg hin])
      have HW2 := hide (HW.out day mday la)
      rw [wth_no hin] at HW2
      clear hin
      refine tk_start [0, 1, 2, 3, 4, 5, 6, 7, 8, 9, 10] ?_
      iterate 11
        refine tk_one (v := ?_) (by first | exact hF | exact wideFn) HS3.out rfl (by kernel_rfl) (by kernel_rfl) (by kernel_rfl) (by kernel_rfl) rfl ?_ (by first | exact fun _ _ _ h => h | exact fun _ _ _ h => hQ2 _ _ _ _ _ h) ?_
        rotate_left
        · intro W hSW
          simp only [glA, glB, glC]
          (try dsimp only at hSW)
          go_simp
          with_reducible rfl
        (try simp only [glA, glB, glC, Act.put, glD, glE, glF])
      refine tk_end ?_
      refine wpAnyJ_one 11 rfl (by kernel_rfl) (fun K hK => ?_)
      simp only [glA, glB, glC]
      go_simp
      refine ⟨trivial, rfl, ?_⟩
      refine (callsIn_wide.2 (HW2.out _)).mono ?_
      rintro e w5 ⟨rfl, rfl⟩
      skip
      dsimp only
      refine hK.out _ _ (fun _ => HS3.out) ?_
      clear hK K
      (try simp only [glA, glB, glC, Act.put, glD, glE, glF])
      refine wpAnyJ_take 12 (v := ?_) (by first | exact hF | exact wideFn) HS3.out rfl (by kernel_rfl) (by kernel_rfl) (by kernel_rfl) (by kernel_rfl) rfl ?_ (by first | exact fun _ _ _ h => h | exact fun _ _ _ h => hQ2 _ _ _ _ _ h) ?_
      rotate_left
      · intro W hSW
        simp only [glA, glB, glC]
        (try dsimp only at hSW)
        go_simp
        with_reducible rfl
      (try simp only [glA, glB, glC, Act.put, glD, glE, glF])
      refine wpAnyJ_take 13 (v := ?_) (by first | exact hF | exact wideFn) HS3.out rfl (by kernel_rfl) (by kernel_rfl) (by kernel_rfl) (by kernel_rfl) rfl ?_ (by first | exact fun _ _ _ h => h | exact fun _ _ _ h => hQ2 _ _ _ _ _ h) ?_
      rotate_left
      · intro W hSW
        simp only [glA, glB, glC]
        (try dsimp only at hSW)
        go_simp
        with_reducible rfl
      (try simp only [glA, glB, glC, Act.put, glD, glE, glF])
      refine wpAnyJ_done (by kernel_rfl) ?_
      obtain ⟨x9, x0, x1, x2, -⟩ := blk3 Q3.out
      go_wp2_with fail
      refine (HON0.out _).mono ?_
      rintro e w5 ⟨rfl, h5⟩
      replace Q1 := hide (Q1.out.ext h5)
      replace HBL := hide (HBL.out.trans (h5.mono HBL.out.size))
      clear h5 x9 x0 x1 x2
      generalize (Mom.on ⟨mD, mday, mde⟩ day) = mo
      obtain ⟨oD, oday, ode⟩ := mo
      dsimp only
      obtain ⟨a9, a0, a1, a2, a3, a4, a5⟩ := blk3 Q1.out
      go_wp2_with fail
      have h3 := Q1.out.set3 (.int .u16 (oD : Nat)) (.int .i64 oday) (.int .i64 ode)
      obtain ⟨-, z0, z1, z2, -⟩ := blk3 h3
      refine bodyPost_ret (v := .tuple #[.pointer (some ⟨b, 0, none⟩), .agg #[.int .u16 (oD : Nat), .int .i64 oday, .int .i64 ode], .int .i64 3]) (by
        simp [results, Tryd.results38, go_sem, z0, z1, z2]) rfl ⟨?_, set3B HBL.out HLM.out _ _ _⟩
      exact .inl ⟨by rw [HCH.out]; decide, some ⟨b, 0, none⟩, ⟨oD, oday, ode⟩, by rw [HCH.out]; rfl⟩
end Go.Proofs.YtcgdalabenflmaaDoor
/- Rite: asked, Open, Forgotten, walked. -/
namespace Go.Proofs.YtcgdalabenflmaaDoor
open Go Go.RowKit Go.Shelf
set_option maxHeartbeats 8000000
set_option maxRecDepth 100000
def AskPost (w : World) (r : Rit) (l : List (Int × Int)) (day : Int) (S : Nat) (e : Ending) (w' : World) : Prop :=
  (frC r l day ≠ 0 ∧ e = .returned (.tuple #[.slice none 0 0, .int .i64 (frC r l day)]) ∨ frC r l day = 0 ∧ riB r = true ∧ ∃ v, e = .returned (.tuple #[v, .int .i64 0]) ∧ OwnJ w' w.heap.size v (ofN (elS S))) ∧ Below w.heap.size w w'
theorem asked_any (g : FuncId) (S : Nat) (hS : S < 65536) (d : Rad) (r : Rit) (A : Option Addr) (c : Nat) (l : List (Int × Int)) (day : Int) (w : World) (hd : RtR w d r) (hz : RtZ r) (hl : l.length ≤ 1000000) (hD : DsR w A l) (hT : TB w)
    (eg : ∀ args w, (callFunc g args).run Tryd.prog w = .ok (.enter g args) w)
    (hg : riB r = true → ∀ W b q, BkR W b d q r → TB W → Calls Tryd.prog g #[.pointer (some ⟨b, 0, none⟩), momV ((folF r m0 l 0).1.on day)] W fun e W' => e = .returned (.int .u16 (S : Nat)) ∧ Below W.heap.size W W') :
    Calls Tryd.prog 48 #[.agg #[.slice d.A r.n d.c, .int .i64 r.last, .int .i64 r.toil], .slice A l.length c, .int .i64 day, .func (.func g) #[] #[]] w (AskPost w r l day S) := by
  have HTB := hide hT
  have HG := hide hg
  have HSS := hide hS
  have HB1 : Hid (Below w.heap.size w (w.alloc (.cells #[.slice d.A r.n d.c, .int .i64 r.last, .int .i64 r.toil] 24))) := hide ((Below.refl _ _).alloc (Nat.le_refl _) _)
  have G1 := hide (Blk.new w 24 #[.slice d.A r.n d.c, .int .i64 r.last, .int .i64 r.toil])
  have HRT := hide (hd.ext HB1.out)
  have HD := hide (hD.ext HB1.out)
  have HO := hide (from_any d r A c l day _ HRT.out hz hl HD.out)
  clear hd hz hD hl hT hg hS
  obtain ⟨ec, hec⟩ : ∃ x, frC r l day = x := ⟨_, rfl⟩
  have HEC := hide hec
  clear hec
  go_enter Tryd.func48, Tryd.ntmps48
  go_upto_region 1 with fail
  generalize w.alloc (.cells #[.slice d.A r.n d.c, .int .i64 r.last, .int .i64 r.toil] 24) = w1 at HB1 G1 HO HD HRT ⊢
  generalize w.heap.size = G at G1 ⊢
  obtain ⟨g9, g0, g1, g2, -⟩ := blk3 G1.out
  go_wp2_with fail
  refine HO.out.mono ?_
  rintro e w2 ⟨⟨hc, v, ⟨mD, mday, mde⟩, rfl⟩ | ⟨hc, hb, b, ad, rfl, hB⟩, hbl⟩
  · have HBL := hide (HB1.out.trans (hbl.mono HB1.out.size))
    rw [HEC.out] at hc ⊢
    have HCH := hide hc
    unfold momV
    dsimp only
    have hb4 : Below w2.heap.size w2 (w2.alloc (.cells #[.int .u16 (mD : Nat), .int .i64 mday, .int .i64 mde] 77)) := (Below.refl _ _).alloc (Nat.le_refl _) _
    replace HBL := hide (HBL.out.trans (hb4.mono HBL.out.size))
    have e1 : (ec == 0) = false := by rw [beq_eq_false_iff_ne]; exact HCH.out
    have e2 : (ec != 0) = true := by rw [bne, e1]; rfl
    clear hc hbl g9 g0 g1 g2 HO HD hb4
    go_wp2_with fail
    go_ret2
    exact ⟨.inl ⟨by rw [HEC.out]; exact HCH.out, by rw [HEC.out]; rfl⟩, HBL.out⟩
  · have HBL := hide (HB1.out.trans (hbl.mono HB1.out.size))
    have HCH := hide hc
    have HR := hide hb
    obtain ⟨mo, hmo⟩ : ∃ x, (folF r m0 l 0).1.on day = x := ⟨_, rfl⟩
    have HGG := hide (HG.out hb)
    rw [hmo] at HGG ⊢
    clear hmo HG
    obtain ⟨mD, mday, mde⟩ := mo
    unfold momV at HGG ⊢
    dsimp only at HGG ⊢
    have hb4 : Below w2.heap.size w2 (w2.alloc (.cells #[.int .u16 (mD : Nat), .int .i64 mday, .int .i64 mde] 77)) := (Below.refl _ _).alloc (Nat.le_refl _) _
    have Q3 := hide (Blk.new w2 77 #[.int .u16 (mD : Nat), .int .i64 mday, .int .i64 mde])
    replace HBL := hide (HBL.out.trans (hb4.mono HBL.out.size))
    have HC := hide (HGG.out _ b _ ((hB.ext hb4).book HRT.out) (HTB.out.ext HBL.out))
    clear hc hbl hb hB g9 g0 g1 g2 HO HD hb4 HGG
    go_upto_region 2 with fail
    generalize w2.alloc (.cells #[.int .u16 (mD : Nat), .int .i64 mday, .int .i64 mde] 77) = w4 at Q3 HBL HC ⊢
    generalize w2.heap.size = H at Q3 ⊢
    obtain ⟨a9, a0, a1, a2, -⟩ := blk3 Q3.out
    go_wp2_with fail
    refine HC.out.mono ?_
    rintro e w5 ⟨rfl, h5⟩
    replace HBL := hide (HBL.out.trans (h5.mono HBL.out.size))
    have HLI := hide (list_any S w5 HSS.out (HTB.out.ext HBL.out))
    clear h5
    go_wp2_with fail
    refine HLI.out.mono ?_
    rintro e w6 ⟨v, rfl, hv, h6⟩
    have HV := hide (OwnJ.low3 hv HBL.out.size)
    replace HBL := hide (HBL.out.trans (h6.mono HBL.out.size))
    clear h6 hv
    go_wp2_with fail
    go_ret2
    exact ⟨.inr ⟨HCH.out, HR.out, v, rfl, HV.out⟩, HBL.out⟩
theorem mo_dlt {r : Rit} (h : riB r = true) (l : List (Int × Int)) (day : Int) : ((folF r m0 l 0).1.on day).d < 65536 := by
  rw [on_d]
  exact fol_dlt (riB_ok h).n10 l m0 0 (by decide)
theorem neS_lt {r : Rit} (h : riB r = true) (m : Mom) : neS r m < 65536 := by
  have := (riB_ok h).n10
  exact lt16 (mkS_lt _ r.n) (by omega)
theorem foS_lt {r : Rit} (h : riB r = true) (s : Nat) (day : Int) : foS r s day < 65536 := by
  have := (riB_ok h).n10
  exact lt16 (mkS_lt _ r.n) (by omega)
theorem open_rite (d : Rad) (r : Rit) (A : Option Addr) (c : Nat) (l : List (Int × Int)) (day : Int) (w : World) (hd : RtR w d r) (hz : RtZ r) (hl : l.length ≤ 1000000) (hD : DsR w A l) (hT : TB w) :
    Calls Tryd.prog 20 #[.agg #[.slice d.A r.n d.c, .int .i64 r.last, .int .i64 r.toil], .slice A l.length c, .int .i64 day] w (AskPost w r l day (if riB r = true then neS r ((folF r m0 l 0).1.on day) else 0)) := by
  have HAS : Hid (∀ W, RtR W d r → DsR W A l → TB W → Calls Tryd.prog 48 #[.agg #[.slice d.A r.n d.c, .int .i64 r.last, .int .i64 r.toil], .slice A l.length c, .int .i64 day, .func (.func 49) #[] #[]] W (AskPost W r l day (if riB r = true then neS r ((folF r m0 l 0).1.on day) else 0))) := hide fun W h1 h2 h3 =>
    asked_any _ _ (by split; exact neS_lt (by assumption) _; decide) d r A c l day W h1 hz hl h2 h3 (fun _ _ => rfl) (fun hr W b q hB _ => by rw [if_pos hr]; exact next_any b d q r _ W (riB_ok hr) (mo_dlt hr l day) hB)
  have HB1 : Hid (Below w.heap.size w (w.alloc (.cells #[.slice d.A r.n d.c, .int .i64 r.last, .int .i64 r.toil] 24))) := hide ((Below.refl _ _).alloc (Nat.le_refl _) _)
  have G1 := hide (Blk.new w 24 #[.slice d.A r.n d.c, .int .i64 r.last, .int .i64 r.toil])
  have HRT := hide (hd.ext HB1.out)
  have HD := hide (hD.ext HB1.out)
  have HTB := hide (hT.ext HB1.out)
  have HO := hide (HAS.out _ HRT.out HD.out HTB.out)
  clear hd hz hD hl hT HAS
  obtain ⟨S, hS⟩ : ∃ x, (if riB r = true then neS r ((folF r m0 l 0).1.on day) else 0) = x := ⟨_, rfl⟩
  rw [hS] at HO ⊢
  clear hS
  obtain ⟨ec, hec⟩ : ∃ x, frC r l day = x := ⟨_, rfl⟩
  have HEC := hide hec
  clear hec
  go_enter Tryd.func20, Tryd.ntmps20
  go_upto_region 1 with fail
  generalize w.alloc (.cells #[.slice d.A r.n d.c, .int .i64 r.last, .int .i64 r.toil] 24) = w1 at HB1 G1 HO HD HRT HTB ⊢
  generalize w.heap.size = G at G1 ⊢
  obtain ⟨g9, g0, g1, g2, -⟩ := blk3 G1.out
  go_wp2_with fail
  refine HO.out.mono ?_
  rintro e w2 ⟨⟨hc, rfl⟩ | ⟨hc, hb, v, rfl, hv⟩, hbl⟩
  · have HBL := hide (HB1.out.trans (hbl.mono HB1.out.size))
    rw [HEC.out] at hc ⊢
    have HCH := hide hc
    clear hc hbl g9 g0 g1 g2 HO HD
    go_wp2_with fail
    go_ret2
    exact ⟨.inl ⟨by rw [HEC.out]; exact HCH.out, by rw [HEC.out]; rfl⟩, HBL.out⟩
  · have HBL := hide (HB1.out.trans (hbl.mono HB1.out.size))
    have HV := hide (And.intro hc (And.intro hb (OwnJ.low3 hv HB1.out.size)))
    clear hc hb hv hbl g9 g0 g1 g2 HO HD
    go_wp2_with fail
    go_ret2
    exact ⟨.inr ⟨HV.out.1, HV.out.2.1, v, rfl, HV.out.2.2⟩, HBL.out⟩
theorem forg1_any (b : Nat) (d : Rad) (q : Bad) (r : Rit) (m : Mom) (w : World) (hr : RiOk r) (hm : m.d < 65536) (hB : BkR w b d q r) :
    Calls Tryd.prog 50 #[.pointer (some ⟨b, 0, none⟩), momV m] w fun e w' => e = .returned (.int .u16 (foS r m.d m.day : Nat)) ∧ Below w.heap.size w w' := by
  obtain ⟨mD, mday, mde⟩ := m
  unfold momV
  dsimp only at hm ⊢
  have HB1 : Hid (Below w.heap.size w (w.alloc (.cells #[.int .u16 (mD : Nat), .int .i64 mday, .int .i64 mde] 77))) := hide ((Below.refl _ _).alloc (Nat.le_refl _) _)
  have Q1 := hide (Blk.new w 77 #[.int .u16 (mD : Nat), .int .i64 mday, .int .i64 mde])
  have HF := hide (forgotten_any b d q r mD mday _ hr hm (hB.ext HB1.out))
  clear hr hB hm
  go_enter Tryd.func50, Tryd.ntmps50
  go_upto_region 1 with fail
  generalize w.alloc (.cells #[.int .u16 (mD : Nat), .int .i64 mday, .int .i64 mde] 77) = w1 at HB1 Q1 HF ⊢
  generalize w.heap.size = G at Q1 ⊢
  obtain ⟨g9, g0, g1, g2, -⟩ := blk3 Q1.out
  go_wp2_with fail
  refine HF.out.mono ?_
  rintro e w2 ⟨rfl, h2⟩
  have HBL := hide (HB1.out.trans (h2.mono HB1.out.size))
  clear h2 g9 g0 g1 g2
  go_wp2_with fail
  go_ret
  exact ⟨rfl, HBL.out⟩
theorem forgotten_rite (d : Rad) (r : Rit) (A : Option Addr) (c : Nat) (l : List (Int × Int)) (day : Int) (w : World) (hd : RtR w d r) (hz : RtZ r) (hl : l.length ≤ 1000000) (hD : DsR w A l) (hT : TB w) :
    Calls Tryd.prog 21 #[.agg #[.slice d.A r.n d.c, .int .i64 r.last, .int .i64 r.toil], .slice A l.length c, .int .i64 day] w (AskPost w r l day (if riB r = true then foS r ((folF r m0 l 0).1.on day).d ((folF r m0 l 0).1.on day).day else 0)) := by
  have HAS : Hid (∀ W, RtR W d r → DsR W A l → TB W → Calls Tryd.prog 48 #[.agg #[.slice d.A r.n d.c, .int .i64 r.last, .int .i64 r.toil], .slice A l.length c, .int .i64 day, .func (.func 50) #[] #[]] W (AskPost W r l day (if riB r = true then foS r ((folF r m0 l 0).1.on day).d ((folF r m0 l 0).1.on day).day else 0))) := hide fun W h1 h2 h3 =>
    asked_any _ _ (by split; exact foS_lt (by assumption) _ _; decide) d r A c l day W h1 hz hl h2 h3 (fun _ _ => rfl) (fun hr W b q hB _ => by rw [if_pos hr]; exact forg1_any b d q r _ W (riB_ok hr) (mo_dlt hr l day) hB)
  have HB1 : Hid (Below w.heap.size w (w.alloc (.cells #[.slice d.A r.n d.c, .int .i64 r.last, .int .i64 r.toil] 24))) := hide ((Below.refl _ _).alloc (Nat.le_refl _) _)
  have G1 := hide (Blk.new w 24 #[.slice d.A r.n d.c, .int .i64 r.last, .int .i64 r.toil])
  have HRT := hide (hd.ext HB1.out)
  have HD := hide (hD.ext HB1.out)
  have HTB := hide (hT.ext HB1.out)
  have HO := hide (HAS.out _ HRT.out HD.out HTB.out)
  clear hd hz hD hl hT HAS
  obtain ⟨S, hS⟩ : ∃ x, (if riB r = true then foS r ((folF r m0 l 0).1.on day).d ((folF r m0 l 0).1.on day).day else 0) = x := ⟨_, rfl⟩
  rw [hS] at HO ⊢
  clear hS
  obtain ⟨ec, hec⟩ : ∃ x, frC r l day = x := ⟨_, rfl⟩
  have HEC := hide hec
  clear hec
  go_enter Tryd.func21, Tryd.ntmps21
  go_upto_region 1 with fail
  generalize w.alloc (.cells #[.slice d.A r.n d.c, .int .i64 r.last, .int .i64 r.toil] 24) = w1 at HB1 G1 HO HD HRT HTB ⊢
  generalize w.heap.size = G at G1 ⊢
  obtain ⟨g9, g0, g1, g2, -⟩ := blk3 G1.out
  go_wp2_with fail
  refine HO.out.mono ?_
  rintro e w2 ⟨⟨hc, rfl⟩ | ⟨hc, hb, v, rfl, hv⟩, hbl⟩
  · have HBL := hide (HB1.out.trans (hbl.mono HB1.out.size))
    rw [HEC.out] at hc ⊢
    have HCH := hide hc
    clear hc hbl g9 g0 g1 g2 HO HD
    go_wp2_with fail
    go_ret2
    exact ⟨.inl ⟨by rw [HEC.out]; exact HCH.out, by rw [HEC.out]; rfl⟩, HBL.out⟩
  · have HBL := hide (HB1.out.trans (hbl.mono HB1.out.size))
    have HV := hide (And.intro hc (And.intro hb (OwnJ.low3 hv HB1.out.size)))
    clear hc hb hv hbl g9 g0 g1 g2 HO HD
    go_wp2_with fail
    go_ret2
    exact ⟨.inr ⟨HV.out.1, HV.out.2.1, v, rfl, HV.out.2.2⟩, HBL.out⟩
end Go.Proofs.YtcgdalabenflmaaDoor
/- Rite: the law's helpers: same lists of deeds; a list has a number. -/
namespace Go.Proofs.YtcgdalabenflmaaDoor
open Go Go.RowKit Go.Shelf
set_option maxHeartbeats 8000000
set_option maxRecDepth 100000
theorem has_cont {l : List Int} {x : Int} {k : Nat} (hk : k < l.length) (h : l.getD k 0 = x) : l.contains x = true := by
  refine List.contains_iff_mem.2 ?_
  rw [← h, List.getD_eq_getElem?_getD, List.getElem?_eq_getElem hk]
  exact List.getElem_mem hk
theorem has_not {l : List Int} {x : Int} (h : ∀ t, t < l.length → l.getD t 0 ≠ x) : l.contains x = false := by
  rw [← Bool.not_eq_true, List.contains_iff_mem]
  intro hm
  obtain ⟨i, hi, he⟩ := List.getElem_of_mem hm
  refine h i hi ?_
  rw [List.getD_eq_getElem?_getD, List.getElem?_eq_getElem hi]
  exact he
theorem hasl_any (A : Option Addr) (c : Nat) (l : List Int) (x : Int) (w : World) (hl : l.length ≤ 1000000) (hA : LI w w.heap.size A l) :
    Calls Tryd.prog 35 #[.slice A l.length c, .int .i64 x] w fun e w' => e = .returned (.bool (l.contains x)) ∧ w = w' := by
  have HA := hide hA
  obtain ⟨n, hn⟩ : ∃ n, l.length = n := ⟨_, rfl⟩
  have HN := hide hn
  rw [hn] at hl
  rw [hn]
  obtain ⟨R, hR⟩ : ∃ R, l.contains x = R := ⟨_, rfl⟩
  have HR := hide hR
  rw [hR]
  clear hA hn hR
  go_enter Tryd.func35, Tryd.ntmps35
  go_wp2_with fail
  go_loopw [5] (fun i wr => ∃ k : Nat, k ≤ n ∧ i = .int .i64 k ∧ Hid (∀ t, t < k → l.getD t 0 ≠ x) ∧ Hid (w = wr)) (fun i _ => n - (intOf i).toNat)
  case atStart => exact ⟨0, Nat.zero_le _, rfl, hide (fun t ht => absurd ht (by omega)), hide rfl⟩
  case round =>
    obtain ⟨k, hk, rfl, HK, HW⟩ := hrel
    obtain rfl := HW.out
    have hst : IntKind.i64.wrap ((k : Int) + 1) = ((k + 1 : Nat) : Int) := by rw [IntWalk.i64_in _ (by omega)]; omega
    by_cases hlt : k < n
    · have hlt' : (k : Int) < (n : Int) := by omega
      have hkl : k < l.length := by rw [HN.out]; exact hlt
      obtain ⟨b, off, rfl, hb, hc⟩ := VR1.at_ HA.out hkl
      obtain ⟨y, hy⟩ : ∃ y, l.getD k 0 = y := ⟨_, rfl⟩
      replace hc : w.cell? ⟨b, off + k, none⟩ = some (.int .i64 y) := by rw [← hy]; exact hc
      have HY := hide hy
      clear hy
      by_cases hyx : y = x
      · have h1 : (y == x) = true := by rw [hyx]; exact beq_self_eq_true _
        have HRT : Hid (R = true) := hide (by rw [← HR.out]; exact has_cont hkl (by rw [HY.out, hyx]))
        clear hyx
        go_wp2_with fail
        go_ret
        exact ⟨by rw [HRT.out]; rfl, rfl⟩
      · have h1 : (y == x) = false := by rw [beq_eq_false_iff_ne]; exact hyx
        have HYX := hide hyx
        clear hyx
        go_wp2_with fail
        go_roundw
        case rel => exact ⟨k + 1, by omega, by go_num, hide (fun t ht => by
          by_cases e : t = k
          · rw [e, HY.out]; exact HYX.out
          · exact HK.out t (by omega)), by first | exact hide rfl | exact hide trivial⟩
        case measure => simp [intOf]; omega
    · obtain rfl : n = k := by omega
      have hnl : ¬ (n : Int) < (n : Int) := by omega
      have HRF : Hid (R = false) := hide (by rw [← HR.out]; exact has_not (by rw [HN.out]; exact HK.out))
      go_wp2_with fail
      go_ret
      exact ⟨by rw [HRF.out]; rfl, rfl⟩
theorem same_yes {l m : List (Int × Int)} (hl : l.length = m.length) (h : ∀ t, t < l.length → l.getD t (0, 0) = m.getD t (0, 0)) : l = m := by
  apply List.ext_getElem hl
  intro k h1 h2
  have := h k h1
  rwa [List.getD_eq_getElem?_getD, List.getD_eq_getElem?_getD, List.getElem?_eq_getElem h1, List.getElem?_eq_getElem h2] at this
theorem same_any (A A' : Option Addr) (c c' : Nat) (l m : List (Int × Int)) (w : World) (hl : l.length ≤ 1000000) (hm : m.length ≤ 1000000) (hA : DsR w A l) (hB : DsR w A' m) :
    Calls Tryd.prog 19 #[.slice A l.length c, .slice A' m.length c'] w fun e w' => e = .returned (.bool (decide (l = m))) ∧ Below w.heap.size w w' := by
  have HA := hide hA
  have HB := hide hB
  obtain ⟨n, hn⟩ : ∃ n, l.length = n := ⟨_, rfl⟩
  obtain ⟨n', hn'⟩ : ∃ n, m.length = n := ⟨_, rfl⟩
  have HN := hide (And.intro hn hn')
  rw [hn] at hl
  rw [hn'] at hm
  rw [hn, hn']
  obtain ⟨R, hR⟩ : ∃ R, decide (l = m) = R := ⟨_, rfl⟩
  have HR := hide hR
  rw [hR]
  clear hA hB hn hn' hR
  go_enter Tryd.func19, Tryd.ntmps19
  by_cases hnn : n = n'
  · subst hnn
    go_wp2_with fail
    go_loopw [5] (fun i wr => ∃ k : Nat, k ≤ n ∧ i = .int .i64 k ∧ Hid (∀ t, t < k → l.getD t (0, 0) = m.getD t (0, 0)) ∧ Hid (Below w.heap.size w wr)) (fun i _ => n - (intOf i).toNat)
    case atStart => exact ⟨0, Nat.zero_le _, rfl, hide (fun t ht => absurd ht (by omega)), hide (Below.refl _ _)⟩
    case round =>
      obtain ⟨k, hk, rfl, HK, HW⟩ := hrel
      have hst : IntKind.i64.wrap ((k : Int) + 1) = ((k + 1 : Nat) : Int) := by rw [IntWalk.i64_in _ (by omega)]; omega
      by_cases hlt : k < n
      · have hlt' : (k : Int) < (n : Int) := by omega
        obtain ⟨⟨a1, a2⟩, hx⟩ : ∃ x, l.getD k (0, 0) = x := ⟨_, rfl⟩
        obtain ⟨⟨b1, b2⟩, hy⟩ : ∃ x, m.getD k (0, 0) = x := ⟨_, rfl⟩
        obtain ⟨b, off, rfl, hb, p1, p2⟩ := (HA.out.ext HW.out).at_ (show k < l.length by rw [HN.out.1]; exact hlt) hx
        obtain ⟨b', off', rfl, hb', q1, q2⟩ := (HB.out.ext HW.out).at_ (show k < m.length by rw [HN.out.2]; exact hlt) hy
        dsimp only at p1 p2 q1 q2
        have HX := hide (And.intro hx hy)
        have HS6 : Hid (∀ W, Below wr.heap.size wr W → ((W.cell? ⟨b, off + k * 2, none⟩ = some (.int .i64 a1) ∧ W.cell? ⟨b, off + k * 2 + 1, none⟩ = some (.int .i64 a2)) ∧ W.cell? ⟨b', off' + k * 2, none⟩ = some (.int .i64 b1) ∧ W.cell? ⟨b', off' + k * 2 + 1, none⟩ = some (.int .i64 b2))) := hide fun W h => ⟨⟨(h.cell (p := ⟨b, off + k * 2, none⟩) hb).trans p1, (h.cell (p := ⟨b, off + k * 2 + 1, none⟩) hb).trans p2⟩, (h.cell (p := ⟨b', off' + k * 2, none⟩) hb').trans q1, (h.cell (p := ⟨b', off' + k * 2 + 1, none⟩) hb').trans q2⟩
        clear hx hy p1 p2 q1 q2 hb hb'
        go_upto_region 6 with fail
        have Bd := hide (Below.refl wr.heap.size wr).drew
        replace HW := hide (HW.out.trans (Bd.out.mono HW.out.size))
        refine wp_region_J (fun W : World => ((W.cell? ⟨b, off + k * 2, none⟩ = some (.int .i64 a1) ∧ W.cell? ⟨b, off + k * 2 + 1, none⟩ = some (.int .i64 a2)) ∧ W.cell? ⟨b', off' + k * 2, none⟩ = some (.int .i64 b1) ∧ W.cell? ⟨b', off' + k * 2 + 1, none⟩ = some (.int .i64 b2))) (by kernel_rfl) ?_
        generalize wr.drew = wd at Bd HW ⊢
        by_cases e1 : a1 = b1
        · have f1 : (a1 == b1) = true := by rw [e1]; exact beq_self_eq_true _
          by_cases e2 : a2 = b2
          · have f2 : (a2 == b2) = true := by rw [e2]; exact beq_self_eq_true _
            have HE : Hid (l.getD k (0, 0) = m.getD k (0, 0)) := hide (by rw [HX.out.1, HX.out.2, e1, e2])
            clear e1 e2
            refine tk_start [0, 1, 2, 3, 4, 5, 6, 7, 8] ?_
            iterate 9
              refine tk_one (v := ?_) (by first | exact hF | exact wideFn) (HS6.out _ Bd.out) rfl (by kernel_rfl) (by kernel_rfl) (by kernel_rfl) (by kernel_rfl) rfl ?_ (by first | exact fun _ _ _ h => h | exact fun _ _ _ h => hQ2 _ _ _ _ _ h) ?_
              rotate_left
              · intro W hSW
                simp only [List.getElem_toArray, List.getElem_cons_zero, List.getElem_cons_succ]
                (try dsimp only at hSW)
                go_simp
                with_reducible rfl
              (try simp only [List.getElem_toArray, List.getElem_cons_zero, List.getElem_cons_succ, Act.put, List.setIfInBounds_toArray, List.set_cons_zero, List.set_cons_succ])
            refine tk_end ?_
            refine wpAnyJ_done (by kernel_rfl) ?_
            go_wp2_with fail
            go_roundw
            case rel => exact ⟨k + 1, by omega, by go_num, hide (fun t ht => by
              by_cases e : t = k
              · rw [e]; exact HE.out
              · exact HK.out t (by omega)), HW⟩
            case measure => simp [intOf]; omega
          · have f2 : (a2 == b2) = false := by rw [beq_eq_false_iff_ne]; exact e2
            have HE : Hid (R = false) := hide (by
              rw [← HR.out]
              refine decide_eq_false (fun h => e2 ?_)
              have h1 := HX.out.1
              rw [h, HX.out.2] at h1
              injection h1 with h1 h2
              exact h2.symm)
            clear e1 e2
            refine tk_start [0, 1, 2, 3, 4, 5, 6, 7, 8] ?_
            iterate 9
              refine tk_one (v := ?_) (by first | exact hF | exact wideFn) (HS6.out _ Bd.out) rfl (by kernel_rfl) (by kernel_rfl) (by kernel_rfl) (by kernel_rfl) rfl ?_ (by first | exact fun _ _ _ h => h | exact fun _ _ _ h => hQ2 _ _ _ _ _ h) ?_
              rotate_left
              · intro W hSW
                simp only [List.getElem_toArray, List.getElem_cons_zero, List.getElem_cons_succ]
                (try dsimp only at hSW)
                go_simp
                with_reducible rfl
              (try simp only [List.getElem_toArray, List.getElem_cons_zero, List.getElem_cons_succ, Act.put, List.setIfInBounds_toArray, List.set_cons_zero, List.set_cons_succ])
            refine tk_end ?_
            refine wpAnyJ_done (by kernel_rfl) ?_
            go_wp2_with fail
            go_ret
            exact ⟨by rw [HE.out]; rfl, HW.out⟩
        · have f1 : (a1 == b1) = false := by rw [beq_eq_false_iff_ne]; exact e1
          have HE : Hid (R = false) := hide (by
            rw [← HR.out]
            refine decide_eq_false (fun h => e1 ?_)
            have h1 := HX.out.1
            rw [h, HX.out.2] at h1
            injection h1 with h1 h2
            exact h1.symm)
          clear e1
          refine tk_start [0, 1, 2, 3, 4, 5, 6, 7, 8] ?_
          iterate 9
            refine tk_one (v := ?_) (by first | exact hF | exact wideFn) (HS6.out _ Bd.out) rfl (by kernel_rfl) (by kernel_rfl) (by kernel_rfl) (by kernel_rfl) rfl ?_ (by first | exact fun _ _ _ h => h | exact fun _ _ _ h => hQ2 _ _ _ _ _ h) ?_
            rotate_left
            · intro W hSW
              simp only [List.getElem_toArray, List.getElem_cons_zero, List.getElem_cons_succ]
              (try dsimp only at hSW)
              go_simp
              with_reducible rfl
            (try simp only [List.getElem_toArray, List.getElem_cons_zero, List.getElem_cons_succ, Act.put, List.setIfInBounds_toArray, List.set_cons_zero, List.set_cons_succ])
          refine tk_end ?_
          refine wpAnyJ_done (by kernel_rfl) ?_
          go_wp2_with fail
          go_ret
          exact ⟨by rw [HE.out]; rfl, HW.out⟩
      · obtain rfl : n = k := by omega
        have hnl : ¬ (n : Int) < (n : Int) := by omega
        have HE : Hid (R = true) := hide (by
          rw [← HR.out]
          exact decide_eq_true (same_yes (by rw [HN.out.1, HN.out.2]) (by rw [HN.out.1]; exact HK.out)))
        go_wp2_with fail
        go_ret
        exact ⟨by rw [HE.out]; rfl, HW.out⟩
  · have hni : ¬ (n : Int) = (n' : Int) := by omega
    have HE : Hid (R = false) := hide (by
      rw [← HR.out]
      refine decide_eq_false (fun h => hnn ?_)
      rw [← HN.out.1, ← HN.out.2, h])
    clear hnn
    go_wp2_with fail
    go_ret
    exact ⟨by rw [HE.out]; rfl, Below.refl _ _⟩
end Go.Proofs.YtcgdalabenflmaaDoor
/- Rite, the reference: letters, has, Replaces, Kind, others; the law's equal. -/
namespace Go.Proofs.YtcgdalabenflmaaDoor
open Go Go.RowKit Go.Shelf
set_option maxHeartbeats 8000000
set_option maxRecDepth 100000
theorem rall_no {α : Type} (p : α → Bool) (l : List α) {k : Nat} (hk : k < l.length) (d : α) (h : p (l.getD k d) = false) : l.all p = false := by
  rw [List.getD_eq_getElem?_getD, List.getElem?_eq_getElem hk] at h
  rw [← Bool.not_eq_true, List.all_eq_true]
  intro h2
  rw [show (some l[k]).getD d = l[k] from rfl, h2 _ (List.getElem_mem hk)] at h
  cases h
theorem letters_any (s : Wd) (w : World) (hs : s.size ≤ maxLen) : Calls Tryd.prog 43 #[.string s] w fun e w' => e = .returned (.bool (wordB s)) ∧ w = w' := by
  unfold maxLen at hs
  obtain ⟨n, hn⟩ : ∃ n, s.size = n := ⟨_, rfl⟩
  have HN := hide hn
  by_cases h1 : n < 1
  · have hw : wordB s = false := by unfold wordB; rw [hn, decide_eq_false (show ¬ 1 ≤ n by omega)]; rfl
    have HW := hide hw
    have h1' : (n : Int) < 1 := by omega
    have h1s : (s.size : Int) < 1 := by omega
    clear hw hn
    go_enter Tryd.func43, Tryd.ntmps43
    go_wp2_with fail
    go_ret
    exact ⟨ret_bool HW.out.symm, rfl⟩
  by_cases h2 : 12 < n
  · have hw : wordB s = false := by unfold wordB; rw [hn, decide_eq_false (show ¬ n ≤ 12 by omega), Bool.and_false, Bool.false_and]
    have HW := hide hw
    have h1s : ¬ (s.size : Int) < 1 := by omega
    have h2s : (12 : Int) < (s.size : Int) := by omega
    clear hw hn
    go_enter Tryd.func43, Tryd.ntmps43
    go_wp2_with fail
    go_ret
    exact ⟨ret_bool HW.out.symm, rfl⟩
  have h1s : ¬ (s.size : Int) < 1 := by omega
  have h2s : ¬ (12 : Int) < (s.size : Int) := by omega
  go_enter Tryd.func43, Tryd.ntmps43
  go_wp2_with fail
  clear h1s h2s
  go_loopw [3] (fun i wr => ∃ k : Nat, k ≤ n ∧ i = .int .i64 k ∧ Hid (∀ j, j < k → lowerB (s.data.toList.getD j 0) = true) ∧ Hid (w = wr)) (fun i _ => n - (intOf i).toNat)
  case atStart => exact ⟨0, Nat.zero_le _, rfl, hide (fun j hj => absurd hj (by omega)), hide rfl⟩
  case round =>
    obtain ⟨k, hk, rfl, HX, HW⟩ := hrel
    obtain rfl := HW.out
    by_cases hlt : k < n
    · have hlt' : (k : Int) < (s.size : Int) := by omega
      have k0 : (0 : Int) ≤ (k : Int) := by omega
      have hks : k < s.size := by omega
      have hcd : s.data.toList.getD k 0 = s[k]'hks := by
        have hkd : k < s.data.toList.length := hks
        rw [List.getD_eq_getElem?_getD, List.getElem?_eq_getElem hkd]
        rfl
      have hlo : lowerB (s.data.toList.getD k 0) = (decide (97 ≤ (s[k]'hks).toNat) && decide ((s[k]'hks).toNat ≤ 122)) := by rw [hcd]; rfl
      have HNO : Hid (lowerB (s.data.toList.getD k 0) = false → wordB s = false) := hide (fun h => by
        unfold wordB
        have : s.data.toList.all lowerB = false := rall_no lowerB s.data.toList (k := k) hks 0 h
        rw [this, Bool.and_false])
      have HYES : Hid (lowerB (s.data.toList.getD k 0) = true → ∀ j, j < k + 1 → lowerB (s.data.toList.getD j 0) = true) := hide (fun h j hj => by
        rcases (by omega : j < k ∨ j = k) with h2 | rfl
        · exact HX.out j h2
        · exact h)
      have HLO := hide hlo
      clear hlo hcd
      by_cases c1 : ((s[k]'hks).toNat : Int) < 97
      · have HWB := hide (HNO.out (by rw [HLO.out, decide_eq_false (by omega)]; rfl))
        go_wp2_with fail
        go_ret
        exact ⟨ret_bool HWB.out.symm, rfl⟩
      · by_cases c2 : (122 : Int) < ((s[k]'hks).toNat : Int)
        · have HWB := hide (HNO.out (by rw [HLO.out, decide_eq_false (show ¬ (s[k]'hks).toNat ≤ 122 by omega), Bool.and_false]))
          go_wp2_with fail
          go_ret
          exact ⟨ret_bool HWB.out.symm, rfl⟩
        · have HX2 := hide (HYES.out (by rw [HLO.out, decide_eq_true (by omega), decide_eq_true (by omega)]; rfl))
          go_wp2_with fail
          go_roundw
          case rel => exact ⟨k + 1, by omega, by go_num, HX2, by first | trivial | exact hide rfl⟩
          case measure => simp [intOf]; omega
    · obtain rfl : k = n := by omega
      have hnl : ¬ (k : Int) < (k : Int) := by omega
      have hw : wordB s = true := by
        unfold wordB
        rw [hn, decide_eq_true (show 1 ≤ k by omega), decide_eq_true (show k ≤ 12 by omega), Bool.true_and, Bool.true_and, List.all_eq_true]
        intro x hx
        obtain ⟨j, hj, rfl⟩ := List.getElem_of_mem hx
        have hj2 : j < k := by
          have : s.data.toList.length = s.size := rfl
          omega
        have := HX.out j hj2
        rwa [List.getD_eq_getElem?_getD, List.getElem?_eq_getElem hj] at this
      have HWB := hide hw
      clear hw
      go_wp2_with fail
      go_ret
      exact ⟨ret_bool HWB.out.symm, rfl⟩
theorem getD_allR {l m : List Int} (hl : l.length = m.length) (h : ∀ t, t < l.length → l.getD t 0 = m.getD t 0) : l = m := by
  apply List.ext_getElem hl
  intro k h1 h2
  have := h k h1
  rwa [List.getD_eq_getElem?_getD, List.getD_eq_getElem?_getD, List.getElem?_eq_getElem h1, List.getElem?_eq_getElem h2] at this
theorem requal_any (A B : Option Addr) (c d : Nat) (l m : List Int) (w : World) (hl : l.length ≤ maxLen) (hA : LI w w.heap.size A l) (hB : LI w w.heap.size B m) :
    Calls Tryd.prog 25 #[.slice A l.length c, .slice B m.length d] w fun e w' => e = .returned (.bool (decide (l = m))) ∧ Below w.heap.size w w' := by
  unfold maxLen at hl
  have HA := hide hA
  have HB := hide hB
  clear hA hB
  by_cases hlm : l.length = m.length
  · obtain ⟨n, hn⟩ : ∃ n, l.length = n := ⟨_, rfl⟩
    have hm : m.length = n := by omega
    have HN := hide (And.intro hn hm)
    rw [hn] at hl
    rw [hn, hm]
    clear hlm hn hm
    go_enter Tryd.func25, Tryd.ntmps25
    go_wp2_with fail
    go_loopw [5] (fun i wr => ∃ k : Nat, k ≤ n ∧ i = .int .i64 k ∧ (∀ j, j < k → l.getD j 0 = m.getD j 0) ∧ Below w.heap.size w wr) (fun i _ => n - (intOf i).toNat)
    case atStart => exact ⟨0, Nat.zero_le _, rfl, fun j hj => absurd hj (by omega), Below.refl _ _⟩
    case round =>
      obtain ⟨k, hk, rfl, hx, hbw⟩ := hrel
      have HX := hide hx
      have HBW := hide hbw
      clear hx
      by_cases hlt : k < n
      · have hlt' : (k : Int) < (n : Int) := by omega
        have i0 : (0 : Int) ≤ (k : Int) := by omega
        obtain ⟨x, hx⟩ : ∃ e, l.getD k 0 = e := ⟨_, rfl⟩
        obtain ⟨y, hy⟩ : ∃ f, m.getD k 0 = f := ⟨_, rfl⟩
        obtain ⟨xb, xo, rfl, hxb, a0⟩ := VR1.at_ HA.out (by rw [HN.out.1]; exact hlt)
        obtain ⟨yb, yo, rfl, hyb, b0⟩ := VR1.at_ HB.out (by rw [HN.out.2]; exact hlt)
        rw [hx] at a0
        rw [hy] at b0
        have HE := hide (And.intro hx hy)
        clear hx hy
        have HS : Hid (∀ W, Below w.heap.size w W → W.cell? ⟨xb, xo + k, none⟩ = some (.int .i64 x) ∧ W.cell? ⟨yb, yo + k, none⟩ = some (.int .i64 y)) := hide fun W h =>
          ⟨(h.cell (p := ⟨xb, xo + k, none⟩) hxb).trans a0, (h.cell (p := ⟨yb, yo + k, none⟩) hyb).trans b0⟩
        clear a0 b0 hbw
        go_upto_region 6 with fail
        have Bd := hide (HBW.out.trans ((Below.refl wr.heap.size wr).drew.mono HBW.out.size))
        refine wp_region_J (fun W : World => W.cell? ⟨xb, xo + k, none⟩ = some (.int .i64 x) ∧ W.cell? ⟨yb, yo + k, none⟩ = some (.int .i64 y)) (by kernel_rfl) ?_
        generalize wr.drew = wd at Bd ⊢
        refine tk_start [0, 1, 2, 3, 4, 5, 6, 7] ?_
        iterate 8
          refine tk_one (v := ?_) (by first | exact hF | exact wideFn) (HS.out _ Bd.out) rfl (by kernel_rfl) (by kernel_rfl) (by kernel_rfl) (by kernel_rfl) rfl ?_ (by first | exact fun _ _ _ h => h | exact fun _ _ _ h => hQ2 _ _ _ _ _ h) ?_
          rotate_left
          · intro W hSW
            simp only [List.getElem_toArray, List.getElem_cons_zero, List.getElem_cons_succ]
            (try dsimp only at hSW)
            go_simp
            with_reducible rfl
          (try simp only [List.getElem_toArray, List.getElem_cons_zero, List.getElem_cons_succ, Act.put, List.setIfInBounds_toArray, List.set_cons_zero, List.set_cons_succ])
        refine tk_end ?_
        by_cases q0 : x = y
        · subst q0
          refine wpAnyJ_take 8 (v := ?_) (by first | exact hF | exact wideFn) (HS.out _ Bd.out) rfl (by kernel_rfl) (by kernel_rfl) (by kernel_rfl) (by kernel_rfl) rfl ?_ (by first | exact fun _ _ _ h => h | exact fun _ _ _ h => hQ2 _ _ _ _ _ h) ?_
          rotate_left
          · intro W hSW
            simp only [List.getElem_toArray, List.getElem_cons_zero, List.getElem_cons_succ]
            (try dsimp only at hSW)
            go_simp
            with_reducible rfl
          (try simp only [List.getElem_toArray, List.getElem_cons_zero, List.getElem_cons_succ, Act.put, List.setIfInBounds_toArray, List.set_cons_zero, List.set_cons_succ])
          refine wpAnyJ_done (by kernel_rfl) ?_
          go_wp2_with fail
          go_roundw
          case rel => exact ⟨k + 1, by omega, by go_num, fun j hj => by
            rcases (by omega : j < k ∨ j = k) with h | h
            · exact HX.out j h
            · rw [h, HE.out.1, HE.out.2], Bd.out⟩
          case measure => simp [intOf]; omega
        · have q1 := q0
          refine wpAnyJ_take 8 (v := ?_) (by first | exact hF | exact wideFn) (HS.out _ Bd.out) rfl (by kernel_rfl) (by kernel_rfl) (by kernel_rfl) (by kernel_rfl) rfl ?_ (by first | exact fun _ _ _ h => h | exact fun _ _ _ h => hQ2 _ _ _ _ _ h) ?_
          rotate_left
          · intro W hSW
            simp only [List.getElem_toArray, List.getElem_cons_zero, List.getElem_cons_succ]
            (try dsimp only at hSW)
            go_simp
            with_reducible rfl
          (try simp only [List.getElem_toArray, List.getElem_cons_zero, List.getElem_cons_succ, Act.put, List.setIfInBounds_toArray, List.set_cons_zero, List.set_cons_succ])
          refine wpAnyJ_done (by kernel_rfl) ?_
          go_wp2_with fail
          go_ret
          refine ⟨ret_bool ?_, Bd.out⟩
          have hne : ¬ l = m := fun e => by
            have h1 := HE.out.1
            rw [e, HE.out.2] at h1
            exact q0 h1.symm
          simp [hne]
      · obtain rfl : k = n := by omega
        go_wp2_with fail
        go_ret
        refine ⟨ret_bool ?_, HBW.out⟩
        have : l = m := getD_allR (by rw [HN.out.1, HN.out.2]) (by rw [HN.out.1]; exact HX.out)
        simp [this]
  · have hne : ¬ ((l.length : Int) = (m.length : Int)) := by omega
    have hd : decide (l = m) = false := by
      rw [decide_eq_false_iff_not]; intro h; exact hlm (by rw [h])
    rw [hd]
    clear hd
    generalize l.length = n1 at *
    generalize m.length = n2 at *
    go_enter Tryd.func25, Tryd.ntmps25
    go_wp2_with fail
    go_ret
    exact ⟨rfl, Below.refl _ _⟩
theorem rhas_any (A : Option Addr) (c : Nat) (l : List Int) (x : Int) (w : World) (hl : l.length ≤ 1000000) (hA : LI w w.heap.size A l) :
    Calls Tryd.prog 71 #[.slice A l.length c, .int .i64 x] w fun e w' => e = .returned (.bool (l.contains x)) ∧ w = w' := by
  have HA := hide hA
  obtain ⟨n, hn⟩ : ∃ n, l.length = n := ⟨_, rfl⟩
  have HN := hide hn
  rw [hn] at hl
  rw [hn]
  obtain ⟨R, hR⟩ : ∃ R, l.contains x = R := ⟨_, rfl⟩
  have HR := hide hR
  rw [hR]
  clear hA hn hR
  go_enter Tryd.func71, Tryd.ntmps71
  go_wp2_with fail
  go_loopw [5] (fun i wr => ∃ k : Nat, k ≤ n ∧ i = .int .i64 k ∧ Hid (∀ t, t < k → l.getD t 0 ≠ x) ∧ Hid (w = wr)) (fun i _ => n - (intOf i).toNat)
  case atStart => exact ⟨0, Nat.zero_le _, rfl, hide (fun t ht => absurd ht (by omega)), hide rfl⟩
  case round =>
    obtain ⟨k, hk, rfl, HK, HW⟩ := hrel
    obtain rfl := HW.out
    have hst : IntKind.i64.wrap ((k : Int) + 1) = ((k + 1 : Nat) : Int) := by rw [IntWalk.i64_in _ (by omega)]; omega
    by_cases hlt : k < n
    · have hlt' : (k : Int) < (n : Int) := by omega
      have hkl : k < l.length := by rw [HN.out]; exact hlt
      obtain ⟨b, off, rfl, hb, hc⟩ := VR1.at_ HA.out hkl
      obtain ⟨y, hy⟩ : ∃ y, l.getD k 0 = y := ⟨_, rfl⟩
      replace hc : w.cell? ⟨b, off + k, none⟩ = some (.int .i64 y) := by rw [← hy]; exact hc
      have HY := hide hy
      clear hy
      by_cases hyx : y = x
      · have h1 : (y == x) = true := by rw [hyx]; exact beq_self_eq_true _
        have HRT : Hid (R = true) := hide (by rw [← HR.out]; exact has_cont hkl (by rw [HY.out, hyx]))
        clear hyx
        go_wp2_with fail
        go_ret
        exact ⟨by rw [HRT.out]; rfl, rfl⟩
      · have h1 : (y == x) = false := by rw [beq_eq_false_iff_ne]; exact hyx
        have HYX := hide hyx
        clear hyx
        go_wp2_with fail
        go_roundw
        case rel => exact ⟨k + 1, by omega, by go_num, hide (fun t ht => by
          by_cases e : t = k
          · rw [e, HY.out]; exact HYX.out
          · exact HK.out t (by omega)), by first | exact hide rfl | exact hide trivial⟩
        case measure => simp [intOf]; omega
    · obtain rfl : n = k := by omega
      have hnl : ¬ (n : Int) < (n : Int) := by omega
      have HRF : Hid (R = false) := hide (by rw [← HR.out]; exact has_not (by rw [HN.out]; exact HK.out))
      go_wp2_with fail
      go_ret
      exact ⟨by rw [HRF.out]; rfl, rfl⟩
/-- the reference: whether an act is a substitute of another one -/
theorem replaces_any (d : Rad) (r : Rit) (act : Int) (k : Nat) (w : World) (hd : RtR w d r) (hk : k < r.n) (hl : (r.ac k).ins.length ≤ 1000000) (hn : r.n ≤ 1000000) :
    Calls Tryd.prog 53 #[.agg #[.slice d.A r.n d.c, .int .i64 r.last, .int .i64 r.toil], .int .i64 act, .int .i64 k] w fun e w' => e = .returned (.bool ((r.ac k).ins.contains act)) ∧ Below w.heap.size w w' := by
  have HB1 : Hid (Below w.heap.size w (w.alloc (.cells #[.slice d.A r.n d.c, .int .i64 r.last, .int .i64 r.toil] 24))) := hide ((Below.refl _ _).alloc (Nat.le_refl _) _)
  have G1 := hide (Blk.new w 24 #[.slice d.A r.n d.c, .int .i64 r.last, .int .i64 r.toil])
  obtain ⟨G, hG⟩ : ∃ x, w.heap.size = x := ⟨_, rfl⟩
  obtain ⟨ab, ao, hra, hal, c0, c1, c2, c3, c4, c5, c6⟩ := (hd.ext HB1.out).at_ hk rfl
  have HH := hide (rhas_any (d.ia k) (d.ic k) (r.ac k).ins act (w.alloc (.cells #[.slice d.A r.n d.c, .int .i64 r.last, .int .i64 r.toil] 24)) hl ((hd.ext HB1.out).ins k hk))
  obtain ⟨n, hn2⟩ : ∃ x, r.n = x := ⟨_, rfl⟩
  obtain ⟨ll, hll⟩ : ∃ x, (r.ac k).ins.length = x := ⟨_, rfl⟩
  obtain ⟨R, hR⟩ : ∃ x, (r.ac k).ins.contains act = x := ⟨_, rfl⟩
  rw [hR] at HH ⊢
  rw [hll] at HH c2
  rw [hn2] at hk hn
  rw [hra, hn2] at HB1 G1 HH c2 ⊢
  rw [hG] at G1
  have C2 := hide c2
  clear c0 c1 c2 c3 c4 c5 c6 hd hR hll hn2 hra hal
  have hk' : (k : Int) < (n : Int) := by omega
  go_enter Tryd.func53, Tryd.ntmps53
  go_upto_region 1 with fail
  (try rw [hG])
  clear hG
  generalize w.alloc (.cells #[.slice (some ⟨ab, ao, none⟩) n d.c, .int .i64 r.last, .int .i64 r.toil] 24) = w1 at HB1 G1 HH C2 ⊢
  have c2 := C2.out
  obtain ⟨g9, g0, g1, g2, -⟩ := blk3 G1.out
  go_wp2_with fail
  refine HH.out.mono ?_
  rintro e _ ⟨rfl, rfl⟩
  clear g9 g0 g1 g2 c2
  go_wp2_with fail
  go_ret
  exact ⟨rfl, HB1.out⟩
end Go.Proofs.YtcgdalabenflmaaDoor
/- Rite, the reference: Kind, others. -/
namespace Go.Proofs.YtcgdalabenflmaaDoor
open List renaming getElem_toArray → glA, getElem_cons_zero → glB, getElem_cons_succ → glC, setIfInBounds_toArray → glD, set_cons_zero → glE, set_cons_succ → glF
open Go Go.RowKit Go.Shelf
set_option maxHeartbeats 8000000
set_option maxRecDepth 100000
theorem any_succ (n : Nat) (p : Nat → Bool) : (List.range (n + 1)).any p = ((List.range n).any p || p n) := by
  rw [List.range_succ, List.any_append]; simp
theorem kind_any (d : Rad) (r : Rit) (k : Nat) (w : World) (hd : RtR w d r) (hz : RtZ r) :
    Calls Tryd.prog 45 #[.agg #[.slice d.A r.n d.c, .int .i64 r.last, .int .i64 r.toil], .int .i64 k] w fun e w' => e = .returned (.tuple #[.bool (subB r k), .bool (atoB r k)]) ∧ Below w.heap.size w w' := by
  have HB1 : Hid (Below w.heap.size w (w.alloc (.cells #[.slice d.A r.n d.c, .int .i64 r.last, .int .i64 r.toil] 24))) := hide ((Below.refl _ _).alloc (Nat.le_refl _) _)
  have G1 := hide (Blk.new w 24 #[.slice d.A r.n d.c, .int .i64 r.last, .int .i64 r.toil])
  have HR := hide (hd.ext HB1.out)
  have HREP := hide (fun (i : Nat) (hi : i < r.n) W (h : RtR W d r) => replaces_any d r k i W h hi (by have := hz.ins i hi; omega) (by have := hz.n; omega))
  obtain ⟨n, hn⟩ : ∃ x, r.n = x := ⟨_, rfl⟩
  obtain ⟨la, hla⟩ : ∃ x, r.last = x := ⟨_, rfl⟩
  obtain ⟨tl, htl⟩ : ∃ x, r.toil = x := ⟨_, rfl⟩
  have HN := hide hn
  have hn12 := hz.n
  unfold subB atoB
  have hp1 : (fun i => (r.ac i).ins.contains (k : Int)) = (fun i => (r.ac i).ins.contains (k : Int)) := rfl
  obtain ⟨P, hP⟩ : ∃ P : Nat → Bool, (fun i => (r.ac i).ins.contains (k : Int)) = P := ⟨_, rfl⟩
  obtain ⟨Q, hQ⟩ : ∃ Q : Nat → Bool, (fun i => decide ((r.ac i).at_ = (k : Int))) = Q := ⟨_, rfl⟩
  have HP : Hid (∀ i, (r.ac i).ins.contains (k : Int) = P i) := hide fun i => by rw [← hP]
  have HQ : Hid (∀ i, decide ((r.ac i).at_ = (k : Int)) = Q i) := hide fun i => by rw [← hQ]
  rw [hP, hQ]
  rw [hn] at hn12
  rw [hn, hla, htl] at HREP HB1 G1 HR ⊢
  clear hP hQ hp1 hd hz hn hla htl
  go_enter Tryd.func45, Tryd.ntmps45
  go_upto_region 1 with fail
  generalize w.alloc (.cells #[.slice d.A n d.c, .int .i64 la, .int .i64 tl] 24) = w1 at HB1 G1 HR ⊢
  obtain ⟨G, hG⟩ : ∃ x, w.heap.size = x := ⟨_, rfl⟩
  rw [hG] at G1 ⊢
  clear hG
  go_wp2_with fail
  go_loopw [6, 7, 8] (fun a b i wr => ∃ j : Nat, j ≤ n ∧ i = .int .i64 j ∧ a = .bool ((List.range j).any P) ∧ b = .bool ((List.range j).any Q) ∧ Hid (Below w1.heap.size w1 wr)) (fun _ _ i _ => n - (intOf i).toNat)
  case atStart => exact ⟨0, Nat.zero_le _, rfl, rfl, rfl, hide (Below.refl _ _)⟩
  case round =>
    obtain ⟨j, hj, rfl, rfl, rfl, HB⟩ := hrel
    have hst : IntKind.i64.wrap ((j : Int) + 1) = ((j + 1 : Nat) : Int) := by rw [IntWalk.i64_in _ (by omega)]; omega
    obtain ⟨a, ha⟩ : ∃ x, (List.range j).any P = x := ⟨_, rfl⟩
    obtain ⟨b, hb⟩ : ∃ x, (List.range j).any Q = x := ⟨_, rfl⟩
    have HX := hide (And.intro ha hb)
    rw [ha, hb]
    clear ha hb
    by_cases hlt : j < n
    · have hlt' : (j : Int) < (n : Int) := by omega
      have hjr : j < r.n := by rw [HN.out]; exact hlt
      obtain ⟨ab, ao, hra, hal, c0, c1, c2, c3, c4, c5, c6⟩ := HR.out.at_ hjr rfl
      obtain ⟨at_, hat⟩ : ∃ x, (r.ac j).at_ = x := ⟨_, rfl⟩
      rw [hat] at c3
      have HQJ := HQ.out j
      rw [hat] at HQJ
      have HPJ := HP.out j
      have HRJ := hide (HREP.out j hlt)
      rw [HPJ] at HRJ
      obtain ⟨p, hp⟩ : ∃ x, P j = x := ⟨_, rfl⟩
      obtain ⟨q, hq⟩ : ∃ x, Q j = x := ⟨_, rfl⟩
      rw [hp] at HRJ
      rw [hq] at HQJ
      have hqq : (at_ == (k : Int)) = q := by rw [← HQJ]; rfl
      have HSX := hide (And.intro hp hq)
      have HS5 : Hid (∀ W, Below w1.heap.size w1 W → ((W.cell? ⟨G, 0, none⟩ = some (.slice (some ⟨ab, ao, none⟩) n d.c) ∧ W.cell? ⟨G, 1, none⟩ = some (.int .i64 la) ∧ W.cell? ⟨G, 2, none⟩ = some (.int .i64 tl)) ∧ W.cell? ⟨ab, ao + j * 7 + 3, none⟩ = some (.int .i64 at_))) := hide fun W h => by
        obtain ⟨-, g0, g1, g2, -⟩ := blk3 (G1.out.ext h)
        rw [hra] at g0
        exact ⟨⟨g0, g1, g2⟩, (h.cell (p := ⟨ab, ao + j * 7 + 3, none⟩) hal).trans c3⟩
      have G5 := G1.out.ext HB.out
      obtain ⟨-, g0, -⟩ := blk3 G5
      rw [hra] at HRJ
      clear hjr c0 c1 c2 c3 c4 c5 c6 hra hal hat HQJ HPJ hp hq G5
      go_upto_region 5 with fail
      clear g0
      have hd1 := (Below.refl wr.heap.size wr).drew
      replace HB := hide (HB.out.trans (hd1.mono HB.out.size))
      clear hd1
      refine wp_region_J (fun W : World => ((W.cell? ⟨G, 0, none⟩ = some (.slice (some ⟨ab, ao, none⟩) n d.c) ∧ W.cell? ⟨G, 1, none⟩ = some (.int .i64 la) ∧ W.cell? ⟨G, 2, none⟩ = some (.int .i64 tl)) ∧ W.cell? ⟨ab, ao + j * 7 + 3, none⟩ = some (.int .i64 at_))) (by kernel_rfl) ?_
      generalize wr.drew = wd at HB ⊢
      cases a with
      | true =>
        refine wpAnyJ_take 0 (v := ?_) (by first | exact hF | exact wideFn) (HS5.out _ HB.out) rfl (by kernel_rfl) (by kernel_rfl) (by kernel_rfl) (by kernel_rfl) rfl ?_ (by first | exact fun _ _ _ h => h | exact fun _ _ _ h => hQ2 _ _ _ _ _ h) ?_
        rotate_left
        · intro W hSW
          simp only [glA, glB, glC]
          (try dsimp only at hSW)
          go_simp
          with_reducible rfl
        (try simp only [glA, glB, glC, Act.put, glD, glE, glF])
        refine wpAnyJ_take 1 (v := ?_) (by first | exact hF | exact wideFn) (HS5.out _ HB.out) rfl (by kernel_rfl) (by kernel_rfl) (by kernel_rfl) (by kernel_rfl) rfl ?_ (by first | exact fun _ _ _ h => h | exact fun _ _ _ h => hQ2 _ _ _ _ _ h) ?_
        rotate_left
        · intro W hSW
          simp only [glA, glB, glC]
          (try dsimp only at hSW)
          go_simp
          with_reducible rfl
        (try simp only [glA, glB, glC, Act.put, glD, glE, glF])
        refine tk_start [2, 3, 4, 5] ?_
        iterate 4
          refine tk_skip (by first | exact hF | exact wideFn) (HS5.out _ HB.out) rfl (by kernel_rfl) (by kernel_rfl) (by kernel_rfl) (by kernel_rfl) rfl (by first | exact fun _ _ _ h => h | exact fun _ _ _ h => hQ2 _ _ _ _ _ h) ?_
          (try simp only [glA, glB, glC, Act.put, glD, glE, glF])
        refine tk_end ?_
        refine wpAnyJ_take 7 (v := ?_) (by first | exact hF | exact wideFn) (HS5.out _ HB.out) rfl (by kernel_rfl) (by kernel_rfl) (by kernel_rfl) (by kernel_rfl) rfl ?_ (by first | exact fun _ _ _ h => h | exact fun _ _ _ h => hQ2 _ _ _ _ _ h) ?_
        rotate_left
        · intro W hSW
          simp only [glA, glB, glC]
          (try dsimp only at hSW)
          go_simp
          with_reducible rfl
        (try simp only [glA, glB, glC, Act.put, glD, glE, glF])
        cases b with
        | false =>
          refine tk_start [6, 8, 9, 10, 11, 12, 13, 14, 15, 16, 17, 18, 19] ?_
          iterate 13
            refine tk_one (v := ?_) (by first | exact hF | exact wideFn) (HS5.out _ HB.out) rfl (by kernel_rfl) (by kernel_rfl) (by kernel_rfl) (by kernel_rfl) rfl ?_ (by first | exact fun _ _ _ h => h | exact fun _ _ _ h => hQ2 _ _ _ _ _ h) ?_
            rotate_left
            · intro W hSW
              simp only [glA, glB, glC]
              (try dsimp only at hSW)
              go_simp
              with_reducible rfl
            (try simp only [glA, glB, glC, Act.put, glD, glE, glF])
          refine tk_end ?_
          refine wpAnyJ_done (by kernel_rfl) ?_
          go_wp2_with fail
          go_roundw
          case rel => exact ⟨j + 1, by omega, by go_num, by rw [any_succ, HX.out.1, HSX.out.1]; rfl, by rw [any_succ, HX.out.2, HSX.out.2]; rfl, HB⟩
          case measure => simp [intOf]; omega
        | true =>
          refine wpAnyJ_take 6 (v := ?_) (by first | exact hF | exact wideFn) (HS5.out _ HB.out) rfl (by kernel_rfl) (by kernel_rfl) (by kernel_rfl) (by kernel_rfl) rfl ?_ (by first | exact fun _ _ _ h => h | exact fun _ _ _ h => hQ2 _ _ _ _ _ h) ?_
          rotate_left
          · intro W hSW
            simp only [glA, glB, glC]
            (try dsimp only at hSW)
            go_simp
            with_reducible rfl
          (try simp only [glA, glB, glC, Act.put, glD, glE, glF])
          refine wpAnyJ_take 8 (v := ?_) (by first | exact hF | exact wideFn) (HS5.out _ HB.out) rfl (by kernel_rfl) (by kernel_rfl) (by kernel_rfl) (by kernel_rfl) rfl ?_ (by first | exact fun _ _ _ h => h | exact fun _ _ _ h => hQ2 _ _ _ _ _ h) ?_
          rotate_left
          · intro W hSW
            simp only [glA, glB, glC]
            (try dsimp only at hSW)
            go_simp
            with_reducible rfl
          (try simp only [glA, glB, glC, Act.put, glD, glE, glF])
          refine tk_start [9, 10, 11, 12, 13, 14, 15, 16] ?_
          iterate 8
            refine tk_skip (by first | exact hF | exact wideFn) (HS5.out _ HB.out) rfl (by kernel_rfl) (by kernel_rfl) (by kernel_rfl) (by kernel_rfl) rfl (by first | exact fun _ _ _ h => h | exact fun _ _ _ h => hQ2 _ _ _ _ _ h) ?_
            (try simp only [glA, glB, glC, Act.put, glD, glE, glF])
          refine tk_end ?_
          refine tk_start [17, 18, 19] ?_
          iterate 3
            refine tk_one (v := ?_) (by first | exact hF | exact wideFn) (HS5.out _ HB.out) rfl (by kernel_rfl) (by kernel_rfl) (by kernel_rfl) (by kernel_rfl) rfl ?_ (by first | exact fun _ _ _ h => h | exact fun _ _ _ h => hQ2 _ _ _ _ _ h) ?_
            rotate_left
            · intro W hSW
              simp only [glA, glB, glC]
              (try dsimp only at hSW)
              go_simp
              with_reducible rfl
            (try simp only [glA, glB, glC, Act.put, glD, glE, glF])
          refine tk_end ?_
          refine wpAnyJ_done (by kernel_rfl) ?_
          go_wp2_with fail
          go_roundw
          case rel => exact ⟨j + 1, by omega, by go_num, by rw [any_succ, HX.out.1, HSX.out.1]; rfl, by rw [any_succ, HX.out.2, HSX.out.2]; rfl, HB⟩
          case measure => simp [intOf]; omega
      | false =>
        refine tk_start [0, 1, 2, 3, 4, 7] ?_
        iterate 6
          refine tk_one (v := ?_) (by first | exact hF | exact wideFn) (HS5.out _ HB.out) rfl (by kernel_rfl) (by kernel_rfl) (by kernel_rfl) (by kernel_rfl) rfl ?_ (by first | exact fun _ _ _ h => h | exact fun _ _ _ h => hQ2 _ _ _ _ _ h) ?_
          rotate_left
          · intro W hSW
            simp only [glA, glB, glC]
            (try dsimp only at hSW)
            go_simp
            with_reducible rfl
          (try simp only [glA, glB, glC, Act.put, glD, glE, glF])
        refine tk_end ?_
        refine wpAnyJ_one 5 rfl (by kernel_rfl) (fun K hK => ?_)
        simp only [glA, glB, glC]
        go_simp
        refine ⟨trivial, rfl, ?_⟩
        refine (callsIn_wide.2 (HRJ.out _ (HR.out.ext HB.out))).mono ?_
        rintro e w8 ⟨rfl, hb8⟩
        have HB8 := hide (HB.out.trans (hb8.mono HB.out.size))
        dsimp only
        refine hK.out _ _ (fun _ => HS5.out _ HB8.out) ?_
        clear hK K
        (try simp only [glA, glB, glC, Act.put, glD, glE, glF])
        clear HB hb8
        have HB := HB8
        clear HB8
        cases b with
        | false =>
          refine tk_start [6, 8, 9, 10, 11, 12, 13, 14, 15, 16, 17, 18, 19] ?_
          iterate 13
            refine tk_one (v := ?_) (by first | exact hF | exact wideFn) (HS5.out _ HB.out) rfl (by kernel_rfl) (by kernel_rfl) (by kernel_rfl) (by kernel_rfl) rfl ?_ (by first | exact fun _ _ _ h => h | exact fun _ _ _ h => hQ2 _ _ _ _ _ h) ?_
            rotate_left
            · intro W hSW
              simp only [glA, glB, glC]
              (try dsimp only at hSW)
              go_simp
              with_reducible rfl
            (try simp only [glA, glB, glC, Act.put, glD, glE, glF])
          refine tk_end ?_
          refine wpAnyJ_done (by kernel_rfl) ?_
          go_wp2_with fail
          go_roundw
          case rel => exact ⟨j + 1, by omega, by go_num, by rw [any_succ, HX.out.1, HSX.out.1]; rfl, by rw [any_succ, HX.out.2, HSX.out.2]; rfl, HB⟩
          case measure => simp [intOf]; omega
        | true =>
          refine wpAnyJ_take 6 (v := ?_) (by first | exact hF | exact wideFn) (HS5.out _ HB.out) rfl (by kernel_rfl) (by kernel_rfl) (by kernel_rfl) (by kernel_rfl) rfl ?_ (by first | exact fun _ _ _ h => h | exact fun _ _ _ h => hQ2 _ _ _ _ _ h) ?_
          rotate_left
          · intro W hSW
            simp only [glA, glB, glC]
            (try dsimp only at hSW)
            go_simp
            with_reducible rfl
          (try simp only [glA, glB, glC, Act.put, glD, glE, glF])
          refine wpAnyJ_take 8 (v := ?_) (by first | exact hF | exact wideFn) (HS5.out _ HB.out) rfl (by kernel_rfl) (by kernel_rfl) (by kernel_rfl) (by kernel_rfl) rfl ?_ (by first | exact fun _ _ _ h => h | exact fun _ _ _ h => hQ2 _ _ _ _ _ h) ?_
          rotate_left
          · intro W hSW
            simp only [glA, glB, glC]
            (try dsimp only at hSW)
            go_simp
            with_reducible rfl
          (try simp only [glA, glB, glC, Act.put, glD, glE, glF])
          refine tk_start [9, 10, 11, 12, 13, 14, 15, 16] ?_
          iterate 8
            refine tk_skip (by first | exact hF | exact wideFn) (HS5.out _ HB.out) rfl (by kernel_rfl) (by kernel_rfl) (by kernel_rfl) (by kernel_rfl) rfl (by first | exact fun _ _ _ h => h | exact fun _ _ _ h => hQ2 _ _ _ _ _ h) ?_
            (try simp only [glA, glB, glC, Act.put, glD, glE, glF])
          refine tk_end ?_
          refine tk_start [17, 18, 19] ?_
          iterate 3
            refine tk_one (v := ?_) (by first | exact hF | exact wideFn) (HS5.out _ HB.out) rfl (by kernel_rfl) (by kernel_rfl) (by kernel_rfl) (by kernel_rfl) rfl ?_ (by first | exact fun _ _ _ h => h | exact fun _ _ _ h => hQ2 _ _ _ _ _ h) ?_
            rotate_left
            · intro W hSW
              simp only [glA, glB, glC]
              (try dsimp only at hSW)
              go_simp
              with_reducible rfl
            (try simp only [glA, glB, glC, Act.put, glD, glE, glF])
          refine tk_end ?_
          refine wpAnyJ_done (by kernel_rfl) ?_
          go_wp2_with fail
          go_roundw
          case rel => exact ⟨j + 1, by omega, by go_num, by rw [any_succ, HX.out.1, HSX.out.1]; rfl, by rw [any_succ, HX.out.2, HSX.out.2]; rfl, HB⟩
          case measure => simp [intOf]; omega
    · obtain rfl : n = j := by omega
      have hnl : ¬ (n : Int) < (n : Int) := by omega
      have G5 := G1.out.ext HB.out
      obtain ⟨-, g0, -⟩ := blk3 G5
      clear G5
      go_wp2_with fail
      go_ret2
      exact ⟨by rw [HX.out.1, HX.out.2]; rfl, HB1.out.trans (HB.out.mono HB1.out.size)⟩
end Go.Proofs.YtcgdalabenflmaaDoor
/- Rite: a map of moments and numbers: what the fewest deeds are, as far as they are known. -/
namespace Go.Proofs.YtcgdalabenflmaaDoor
open Go Go.RowKit Go.Shelf
set_option maxHeartbeats 8000000
set_option maxRecDepth 100000
/-- moments that a rite can come to -/
structure MoOk (r : Rit) (m : Mom) : Prop where
  d : m.d < 65536
  d0 : 0 ≤ m.day
  d1 : m.day ≤ r.last
  e0 : 0 ≤ m.de
  e1 : m.de ≤ r.toil
theorem MoOk.on {r : Rit} {m : Mom} (h : MoOk r m) (hr : RiOk r) {day : Int} (h0 : 0 ≤ day) (h1 : day ≤ r.last) : MoOk r (m.on day) := by
  unfold Mom.on
  split
  · exact h
  · exact ⟨h.d, h0, h1, Int.le_refl _, by have := hr.t1; show (0 : Int) ≤ r.toil; omega⟩
theorem MoOk.wi {r : Rit} {m : Mom} (h : MoOk r m) (hr : RiOk r) {a : Nat} (hb : brF r m.d m.day m.de a = 0) : MoOk r (m.wi a) := by
  have h1 := br_undone hb
  have h2 : ¬ r.toil ≤ m.de := by
    intro ht
    unfold brF at hb
    rw [if_pos ht] at hb
    repeat' split at hb
    all_goals cases hb
  have := hr.n10
  have e1 : (m.wi a).d < 65536 := by
    show m.d ||| 2 ^ a < 2 ^ 16
    refine Nat.or_lt_two_pow h.d (Nat.pow_lt_pow_right (by decide) ?_)
    omega
  have e0 := h.e0
  exact ⟨e1, h.d0, h.d1, by show (0 : Int) ≤ m.de + 1; omega, by show m.de + 1 ≤ r.toil; omega⟩
theorem rt_laid : laidOutB Tryd.prog = true := by kernel_rfl
theorem mo_keyed : Maps.Keyed Tryd.prog 77 := Maps.Keyed.of_law (deep_law_laid rt_laid (m := 2) (by omega) (of_decide_eq_true (by kernel_rfl)) (by kernel_rfl) (by kernel_rfl))
theorem mo_size : Tryd.prog.types.size = (Tryd.prog.types.size - 3) + 3 := by kernel_rfl
theorem mo_keyT : Tryd.prog.keyType 77 = true := by kernel_rfl
theorem mo_formed (a b c : Value) : (Value.agg #[a, b, c]).formed Tryd.prog 77 = true := by kernel_rfl
theorem mo_lits (n : Nat) (d : Nat) (day de : Int) (hd : d < 65536) (h1 : 0 ≤ day ∧ day ≤ 1000000) (h2 : 0 ≤ de ∧ de ≤ 1000000) :
    Tryd.prog.keyLits (n + 3) 77 [.int .u16 d, .int .i64 day, .int .i64 de] = some [.int .u16 d, .int .i64 day, .int .i64 de] := by
  have w1 : (Lit.int .u16 d).wf = true := by simp [Lit.wf, IntKind.min, IntKind.max, IntKind.signed, IntKind.bits]; omega
  have w2 : (Lit.int .i64 day).wf = true := by simp [Lit.wf, IntKind.min, IntKind.max, IntKind.signed, IntKind.bits]; omega
  have w3 : (Lit.int .i64 de).wf = true := by simp [Lit.wf, IntKind.min, IntKind.max, IntKind.signed, IntKind.bits]; omega
  have c0 : Tryd.prog.cellsOf 77 = 3 := by kernel_rfl
  have c1 : Tryd.prog.cellsOf 75 = 1 := by kernel_rfl
  have c2 : Tryd.prog.cellsOf 3 = 1 := by kernel_rfl
  simp [Program.keyLits, Tryd.underlying77, Tryd.underlying75, Tryd.underlying3, c0, c1, c2, w1, w2, w3]
theorem mo_key {r : Rit} (hr : RiOk r) {m : Mom} (h : MoOk r m) : ∃ l, keyOf Tryd.prog 77 (momV m) = some l := by
  obtain ⟨d, day, de⟩ := m
  obtain ⟨h1, h2, h3, h4, h5⟩ := h
  dsimp only at h1 h2 h3 h4 h5
  have := hr.l30
  have := hr.t4
  unfold keyOf momV
  rw [Tryd.underlying77]
  dsimp only
  rw [mo_keyT, mo_formed, mo_size]
  show ∃ l, (if true = true then Option.map _ (Tryd.prog.keyLits (Tryd.prog.types.size - 3 + 1 + 3) 77 [.int .u16 d, .int .i64 day, .int .i64 de]) else none) = some l
  rw [if_pos rfl, mo_lits _ _ _ _ h1 ⟨h2, by omega⟩ ⟨h4, by omega⟩]
  exact ⟨_, rfl⟩
theorem nodup_le {α : Type} [DecidableEq α] : ∀ (l M : List α), l.Pairwise (· ≠ ·) → (∀ x ∈ l, x ∈ M) → l.length ≤ M.length
  | [], _, _, _ => Nat.zero_le _
  | x :: l, M, h, hs => by
    obtain ⟨h1, h2⟩ := List.pairwise_cons.1 h
    have hx := hs x (by simp)
    have := nodup_le l (M.erase x) h2 fun y hy => (List.mem_erase_of_ne (h1 y hy).symm).2 (hs y (by simp [hy]))
    rw [List.length_erase_of_mem hx] at this
    have := List.length_pos_of_mem hx
    simp only [List.length_cons]
    omega
/-- block b holds the numbers of some moments of rite r -/
def FmAt (w : World) (b : Nat) (r : Rit) : Prop :=
  ∃ (es : List (Lit × DataW Unit)) (n : Nat), w.ownsMap Tryd.prog 77 (plainElem Tryd.prog 3) b n (.map es) ∧ ∀ p ∈ es, ∃ m, MoOk r m ∧ keyOf Tryd.prog 77 (momV m) = some p.1 ∧ p.2 = .lit (.int .i64 (fwN r m))
theorem FmAt.lt {w : World} {b : Nat} {r : Rit} (h : FmAt w b r) : b < w.heap.size := by
  obtain ⟨es, n, h1, -⟩ := h
  exact h1.lt
theorem FmAt.made (w : World) (r : Rit) : FmAt (w.alloc (.map #[] 0)) w.heap.size r :=
  ⟨[], 0, World.ownsMap_made w _ _ _, fun p hp => by cases hp⟩
theorem FmAt.kept {w w' : World} {b : Nat} {r : Rit} (h : FmAt w b r) {row : Option Nat} (hg : w.grownBy w' row) (hne : some b ≠ row) : FmAt w' b r := by
  obtain ⟨es, n, h1, h2⟩ := h
  exact ⟨es, n, h1.kept hg hne, h2⟩
theorem FmAt.ext {w w' : World} {b : Nat} {r : Rit} (h : FmAt w b r) (hb : Below w.heap.size w w') : FmAt w' b r := h.kept (grown_no hb) (by simp)
theorem FmAt.map {w : World} {b : Nat} {r : Rit} (h : FmAt w b r) : ∃ o : Obj, w.heap[b]? = some o ∧ o.isCells = false := by
  obtain ⟨es, n, ⟨es', clock, h1, -⟩, -⟩ := h
  exact ⟨_, h1, rfl⟩
def moAt (i : Nat) : Mom := ⟨i % 65536, ((i / 65536 % 32 : Nat) : Int), ((i / 65536 / 32 : Nat) : Int)⟩
theorem moAt_ok {r : Rit} (hr : RiOk r) {m : Mom} (h : MoOk r m) : ∃ i, i < 65536 * 32 * 8 ∧ moAt i = m := by
  obtain ⟨d, day, de⟩ := m
  obtain ⟨h1, h2, h3, h4, h5⟩ := h
  dsimp only at h1 h2 h3 h4 h5
  have := hr.l30
  have := hr.t4
  refine ⟨d + 65536 * (day.toNat + 32 * de.toNat), by omega, ?_⟩
  unfold moAt
  have e1 : (d + 65536 * (day.toNat + 32 * de.toNat)) % 65536 = d := by omega
  have e2 : (d + 65536 * (day.toNat + 32 * de.toNat)) / 65536 = day.toNat + 32 * de.toNat := by omega
  rw [e1, e2]
  have e3 : (day.toNat + 32 * de.toNat) % 32 = day.toNat := by omega
  have e4 : (day.toNat + 32 * de.toNat) / 32 = de.toNat := by omega
  rw [e3, e4]
  congr 1 <;> omega
theorem fm_size {w : World} {b : Nat} {r : Rit} (hr : RiOk r) {es : List (Lit × DataW Unit)} {n : Nat} (h1 : w.ownsMap Tryd.prog 77 (plainElem Tryd.prog 3) b n (.map es))
    (h2 : ∀ p ∈ es, ∃ m, MoOk r m ∧ keyOf Tryd.prog 77 (momV m) = some p.1 ∧ p.2 = .lit (.int .i64 (fwN r m))) : es.length ≤ 65536 * 32 * 8 := by
  classical
  obtain ⟨es', e, hd⟩ := h1.tidy mo_keyed
  injection e with e
  subst e
  have h3 := nodup_le (es.map (·.1)) ((List.range (65536 * 32 * 8)).map fun i => (keyOf Tryd.prog 77 (momV (moAt i))).getD (.bool true)) (List.pairwise_map.2 hd) (fun x hx => by
    obtain ⟨p, hp, rfl⟩ := List.mem_map.1 hx
    obtain ⟨m, hm, hk, -⟩ := h2 p hp
    obtain ⟨i, hi, rfl⟩ := moAt_ok hr hm
    exact List.mem_map.2 ⟨i, List.mem_range.2 hi, by rw [hk]; rfl⟩)
  rw [List.length_map, List.length_map, List.length_range] at h3
  exact h3
theorem fm_look {w : World} {b : Nat} {r : Rit} (hr : RiOk r) (h : FmAt w b r) {m : Mom} (hm : MoOk r m) :
    ∃ (c : Int) (y : Bool), (Instr.lookup 81 (.map (some b)) (momV m) true).run Tryd.prog w = .ok (.tuple #[.int .i64 c, .bool y]) w ∧ (y = true → c = fwN r m) := by
  obtain ⟨es, n, h1, h2⟩ := h
  obtain ⟨l, hl⟩ := mo_key hr hm
  obtain ⟨v, ps, hrun, hv⟩ := h1.look_ok (t := 81) (e := 3) (z := .int .i64 0) (zd := .lit (.int .i64 0)) (zp := []) mo_keyed Tryd.underlying81 (by kernel_rfl) (plainElem_int Tryd.underlying3 (by decide)) hl
  obtain ⟨c, rfl, hc, -⟩ := plainElem_int_inv Tryd.underlying3 hv
  simp only [Prod.mk.injEq] at hc
  refine ⟨c, _, hrun, fun hy => ?_⟩
  obtain ⟨hc, -⟩ := hc
  unfold Maps.has at hy
  obtain ⟨p, hp, hs⟩ := List.any_eq_true.1 hy
  unfold DataW.atKey at hc
  dsimp only at hc
  cases hf : es.find? (fun p => p.1.sameKey l) with
  | none => exact absurd hs (by have := List.find?_eq_none.1 hf p hp; exact this)
  | some q =>
    rw [hf] at hc
    dsimp only at hc
    obtain ⟨m', hm', hk, he⟩ := h2 q (List.mem_of_find?_eq_some hf)
    have e1 : q.1 = l := WideAt.sameKey_eq (List.find?_some (p := fun p : Lit × DataW Unit => p.1.sameKey l) hf)
    rw [e1] at hk
    have e2 := mo_keyed.inj hk hl
    have e3 : m' = m := by
      obtain ⟨a, b, c⟩ := m'
      obtain ⟨a', b', c'⟩ := m
      unfold momV at e2
      simp at e2
      obtain ⟨e4, rfl, rfl⟩ := e2
      congr 1
      first | exact e4 | omega
    subst e3
    rw [he] at hc
    simpa using hc.symm
theorem fm_put {w : World} {b : Nat} {r : Rit} (hr : RiOk r) (h : FmAt w b r) {m : Mom} (hm : MoOk r m) :
    ∃ w', (Instr.mapUpdate 81 (.map (some b)) (momV m) (.int .i64 (fwN r m))).run Tryd.prog w = .ok () w' ∧ FmAt w' b r ∧ w.grownBy w' (some b) := by
  obtain ⟨es, n, h1, h2⟩ := h
  obtain ⟨l, hl⟩ := mo_key hr hm
  have hs := fm_size hr h1 h2
  have h3 : w.ownsMap Tryd.prog 77 (plainElem Tryd.prog 3) b (65536 * 32 * 8) (.map es) := by
    obtain ⟨es', clock, hb, F, -, hD⟩ := h1
    refine ⟨es', clock, hb, F, ?_, hD⟩
    injection hD with hD
    have e := congrArg List.length hD
    rw [length_sorted] at e
    simp at e
    omega
  have hw : (Lit.int .i64 (fwN r m)).wf = true := by
    have := fwN_le r m
    simp [Lit.wf, IntKind.min, IntKind.max, IntKind.signed, IntKind.bits]
    omega
  obtain ⟨w', hrun, hown, hg⟩ := h3.update (t := 81) (e := 3) (val := .int .i64 (fwN r m)) mo_keyed Tryd.underlying81 (by decide) hl (plainElem_int Tryd.underlying3 hw)
  refine ⟨w', hrun, ⟨_, _, hown, fun p hp => ?_⟩, hg⟩
  rcases ChangeMaps.mem_insert_iff.1 hp with rfl | hp
  · exact ⟨m, hm, hl, rfl⟩
  · exact h2 p (List.mem_filter.1 hp).1
end Go.Proofs.YtcgdalabenflmaaDoor
/- Rite: what stays where a map is written. -/
namespace Go.Proofs.YtcgdalabenflmaaDoor
open Go Go.RowKit Go.Shelf
set_option maxHeartbeats 8000000
set_option maxRecDepth 100000
/-- all cells stay -/
def KC (w w' : World) : Prop := w.heap.size ≤ w'.heap.size ∧ ∀ (k : Nat) (o : Obj), w.heap[k]? = some o → o.isCells = true → w'.heap[k]? = some o
theorem KC.refl (w : World) : KC w w := ⟨Nat.le_refl _, fun _ _ h _ => h⟩
theorem KC.trans {a b c : World} (h : KC a b) (k : KC b c) : KC a c := ⟨Nat.le_trans h.1 k.1, fun i o hi ho => k.2 i o (h.2 i o hi ho) ho⟩
theorem KC.of_grown {w w' : World} {row : Option Nat} (hg : w.grownBy w' row) (hr : ∀ r, row = some r → ∃ o : Obj, w.heap[r]? = some o ∧ o.isCells = false) : KC w w' :=
  ⟨hg.size, fun k o hk ho => (hg.block k (Array.getElem?_eq_some_iff.1 hk).1 (fun e => by
    obtain ⟨o', h1, h2⟩ := hr k e.symm
    rw [hk] at h1
    injection h1 with h1
    rw [h1, h2] at ho
    cases ho)).trans hk⟩
theorem KC.below {w w' : World} (hb : Below w.heap.size w w') : KC w w' := ⟨hb.size, fun k o hk _ => (hb.block k (Array.getElem?_eq_some_iff.1 hk).1).trans hk⟩
theorem KC.cell {w w' : World} (h : KC w w') {a : Addr} {v : Value} (hc : w.cell? a = some v) : w'.cell? a = some v := by
  obtain ⟨o, h1, h2⟩ := cells_of_cell hc
  have h3 := h.2 _ _ h1 h2
  rw [← hc]
  unfold World.cell?
  rw [h1, h3]
theorem KC.blk {w w' : World} (h : KC w w') {g : Nat} {t : TypeId} {cs : Array Value} (hB : Blk w g t cs) : Blk w' g t cs := h.2 g _ hB rfl
theorem KC.er {w w' : World} (h : KC w w') {sz n : Nat} {A : Option Addr} {f : Nat → Nat → Value} (hE : ER w w.heap.size sz A n f) : ER w' w'.heap.size sz A n f := fun hm => by
  obtain ⟨b, off, hA, hlt, hc⟩ := hE hm
  exact ⟨b, off, hA, Nat.lt_of_lt_of_le hlt h.1, fun k i hk hi => h.cell (hc k i hk hi)⟩
theorem KC.tb {w w' : World} (h : KC w w') (hT : TB w) : TB w' := ⟨Nat.lt_of_lt_of_le hT.1 h.1, fun j hj => h.cell (hT.2 j hj)⟩
theorem KC.rt {w w' : World} (h : KC w w') {d : Rad} {r : Rit} (hR : RtR w d r) : RtR w' d r :=
  ⟨h.er hR.row, fun k hk => h.er (hR.nd k hk), fun k hk => h.er (hR.ins k hk)⟩
theorem KC.bk {w w' : World} (h : KC w w') {b : Nat} {d : Rad} {q : Bad} {r : Rit} (hB : BkR w b d q r) : BkR w' b d q r :=
  ⟨h.blk hB.blk, h.rt hB.rt, h.er hB.sn, h.er hB.sw, h.er hB.sr, h.er hB.sa⟩
theorem KC.map {w w' : World} {b : Nat} {r : Rit} (hF : FmAt w b r) (hg : w.grownBy w' (some b)) : KC w w' :=
  KC.of_grown hg fun k e => by obtain ⟨o, h1, h2⟩ := hF.map; cases e; exact ⟨o, h1, h2⟩
theorem gr_trans {a b c : World} {p : Nat} (h : a.grownBy b (some p)) (k : b.grownBy c (some p)) : a.grownBy c (some p) :=
  ⟨k.os.trans h.os, k.tape.trans h.tape, k.output.trans h.output, Nat.le_trans h.size k.size, fun i hi e => (k.block i (Nat.lt_of_lt_of_le hi h.size) e).trans (h.block i hi e)⟩
theorem gr_below {a b : World} (h : Below a.heap.size a b) (p : Nat) : a.grownBy b (some p) := ⟨h.os, h.tape, h.output, h.size, fun i hi _ => h.block i hi⟩
/-- the call's own word: nothing but the map turned -/
theorem gr_low {n0 : Nat} {w a b : World} (h : Below n0 w a) (hn : n0 ≤ a.heap.size) {p : Nat} (hg : a.grownBy b (some p)) (hp : n0 ≤ p) : Below n0 w b :=
  h.grown hg hn fun k e => by cases e; exact hp
end Go.Proofs.YtcgdalabenflmaaDoor
/- Words that hang on no chapter: ranges over an iterator that yields the values of a list, one within the other's body. -/
namespace Go.Proofs.YtcgdalabenflmaaDoor
open Go Go.RowKit
set_option maxHeartbeats 4000000
set_option maxRecDepth 100000
variable {F : Fence} {n : Nat} {P : Program}
theorem SeqL.inRound {α : Type} {g : Nat} {fs lb : Array Value} {encs : α → Array Value} {R : World → Prop} {L : List α} {w : World} (l : Nat) (h : SeqL F n P g fs lb encs R L w) : SeqL (F.inRound l) n P g fs lb encs R L w := h
theorem wpIn_rangeFunc_listH {α : Type} {g : Operand} {ps : Array Tmp} {assign body : Code} {Q : Exit → Act → World → Prop} {a : Act} {w : World}
    (hro : F.round = none) (h1 : 1 ≤ n) {gf : Nat} {fs lb : Array Value} (hg : a.eval g = .func (.func gf) fs lb) (hFg : F.fn gf) (eg : ∀ args w, (callFunc gf args).run P w = .ok (.enter gf args) w)
    {encs : α → Array Value} {R : World → Prop} {L : List α} {w0 : World} (hseq : SeqL F (n - 1) P gf fs lb encs R L w0)
    (hb0 : Below w0.heap.size w0 w) (hps : ∀ x, (encs x).size = ps.size)
    (I : List α → World → Prop) (Ix : Code → List α → World → Prop) (hI : OwnFrom w.heap.size I) (hIR : ∀ pre W, I pre W → R W) (hIx : ∀ c, OwnFrom w.heap.size (Ix c)) (h0 : I [] w) (Ax : α → Act → World → Prop) (hAx : ∀ x a', OwnFrom w.heap.size (fun (_ : Unit) W => Ax x a' W))
    (hassign : ∀ (l : Nat) (pre : List α) (x : α) (W : World) (K : Act → World → Prop), I pre W → (∀ a' W', KeepsFrom w.heap.size W W' → I pre W' → Ax x a' W' → K a' W') →
      assign.wpIn (F.inRound l) (n - 1 - 1) P (Exit.then K (fun _ _ _ => False)) { tmps := (ps.zip (encs x)).foldl (fun t (p, v) => t.setIfInBounds p v) a.tmps, defers := [] } W)
    (hbody : ∀ (l : Nat) (pre : List α) (x : α) (a' : Act) (W : World), w.heap.size ≤ l → (∃ r, W.heap[l]? = some (.loop r)) → pre ++ [x] <+: L → I pre W → Ax x a' W → body.wpIn (F.inRound l) (n - 1 - 1) P (ownPostG w.heap.size (fun _ _ => True) I Ix (pre ++ [x]) W) a' W)
    (hdone : ∀ (D : Nat) (W : World), w.heap.size ≤ D → I L W → W.heap[D]? = some (.deferred (some [])) → Q .normal { a with defers := { target := .collected D, args := #[] } :: a.defers } W)
    (hstop : ∀ (D : Nat) (c : Code) (pre : List α) (W : World), w.heap.size ≤ D → pre <+: L → Ix c pre W → W.heap[D]? = some (.deferred (some [])) → c.wpIn F n P Q { a with defers := { target := .collected D, args := #[] } :: a.defers } W) :
    (Code.rangeFunc g ps assign body).wpIn F n P Q a w := by
  refine wpIn_rangeFunc ?_
  intro fn hfn
  rw [hro]
  obtain ⟨rec, hrec⟩ : ∃ rec : LoopState → Option Code → Loop, rec = fun st pe => { state := st, pending := pe, fn, tmps := a.tmps, params := ps, assign, body, defers := w.heap.size } := ⟨_, rfl⟩
  obtain ⟨W1, hW1⟩ : ∃ W1, (w.alloc (.deferred (some []))).alloc (.loop (rec .ready none)) = W1 := ⟨_, rfl⟩
  have hsz : W1.heap.size = w.heap.size + 2 := by rw [← hW1]; simp
  have hL1 : W1.heap[w.heap.size + 1]? = some (.loop (rec .ready none)) := by
    rw [← hW1]; have := World.alloc_heap_new (w.alloc (.deferred (some []))) (.loop (rec .ready none)); rwa [World.size_alloc] at this
  have hK1 : W1.heap[w.heap.size]? = some (.deferred (some [])) := by
    rw [← hW1]; exact (Below.heap_alloc _ _ _ (by simp)).trans (World.alloc_heap_new w _)
  have hI1 : I [] W1 := by rw [← hW1]; exact hI.alloc _ (hI.alloc _ h0)
  have hb1 : Below w0.heap.size w0 W1 := by
    rw [← hW1]; exact hb0.trans ((((Below.refl _ w).alloc (Nat.le_refl _) _).alloc (by simp) _).mono hb0.size)
  have hup : ∀ {row : Option Nat}, (∀ r, row = some r → W1.heap.size ≤ r) → ∀ r, row = some r → w.heap.size ≤ r := fun hr r e => by have := hr r e; omega
  have hst : ∀ {A B : World} {row : Option Nat} {k : Nat} {o : Obj}, A.grownBy B row → (∀ r, row = some r → W1.heap.size ≤ r) → k < w.heap.size + 2 → A.heap[k]? = some o → B.heap[k]? = some o := fun {A B row k o} hg hr hk h => by
    refine (hg.block k ?_ (fun e => ?_)).trans h
    · rcases Nat.lt_or_ge k A.heap.size with hl | hl
      · exact hl
      · rw [Array.getElem?_eq_none hl] at h; cases h
    · have := hr k e.symm; omega
  refine ⟨w.heap.size + 1, [{ target := .collected w.heap.size, args := #[] }], W1, { target := .fn (.func gf) lb, args := fs ++ #[.func (.yield (w.heap.size + 1)) #[] #[]] }, W1, gf,
    fs ++ #[.func (.yield (w.heap.size + 1)) #[] #[]] ++ lb, W1, ?_, ?_, ?_, ?_, fun _ => h1, ?_⟩
  · rw [← hW1, hrec]; exact run_enterLoop_outer _ _ _ _ _
  · simp only [resolve, hg]
    simp [go_sem]
  · intro f' hf'; simp [Target.leads] at hf'; subst hf'; exact hFg
  · simp [invoke, go_sem, eg]
  · refine (hseq (w.heap.size + 1)
      (fun pre W => I pre W ∧ W.heap[w.heap.size + 1]? = some (.loop (rec .ready none)) ∧ W.heap[w.heap.size]? = some (.deferred (some [])))
      (fun pre W => ∃ c, Ix c pre W ∧ W.heap[w.heap.size + 1]? = some (.loop (rec .done (some c))) ∧ W.heap[w.heap.size]? = some (.deferred (some [])))
      W1 hb1
      (fun pre W h => hIR pre W h.1) ?_ ⟨hI1, hL1, hK1⟩).mono ?_
    · rintro pre x W hlen ⟨hi, hl, hk⟩
      have hlt : w.heap.size + 1 < W.heap.size := (Array.getElem?_eq_some_iff.1 hl).1
      have hy := run_yield (P := P) (args := encs x) hl (by rw [hrec]; exact hps x)
      rw [hrec] at hy
      refine ⟨fn, _, assign, body, hy, roundIn_of_wpIn hfn (hassign _ pre x W _ hi ?_)⟩
      clear hy
      intro a' Wa hkfa hia hax
      replace hl := hkfa.same _ _ (by omega) hl rfl
      replace hk := hkfa.same _ _ (Nat.le_refl _) hk rfl
      replace hlt : w.heap.size + 1 < Wa.heap.size := (Array.getElem?_eq_some_iff.1 hl).1
      replace hi := hia
      clear hia
      revert hkfa
      generalize W = Wb
      intro hkfa
      obtain ⟨W, rfl⟩ : ∃ W, W = Wa := ⟨_, rfl⟩
      refine ⟨_, run_beginRound hl (by rw [hrec]), ?_⟩
      have hl2 : (W.putObj (w.heap.size + 1) (.loop { rec .ready none with state := .busy })).heap[w.heap.size + 1]? = some (.loop { rec .ready none with state := .busy }) := World.putObj_heap_same hlt
      have hk2 : (W.putObj (w.heap.size + 1) (.loop { rec .ready none with state := .busy })).heap[w.heap.size]? = some (.deferred (some [])) := (World.putObj_heap_other (by omega)).trans hk
      refine wpIn_mono (hbody _ pre x a' _ (by omega) ⟨_, hl2⟩ hlen (hI.putObj _ hi (by omega) hl rfl) ((hAx x a').putObj (s := ()) _ hax (by omega) hl rfl)) ?_
      have fin : ∀ (jump : Option Code) (W3 : World), KeepsFrom w.heap.size (W.putObj (w.heap.size + 1) (.loop { rec .ready none with state := .busy })) W3 →
          (Instr.endRound (w.heap.size + 1) jump).run P W3 = .ok (.bool jump.isNone) (W3.putObj (w.heap.size + 1) (.loop (rec (if jump.isNone then .ready else .done) jump))) ∧
          W3.heap[w.heap.size + 1]? = some (.loop { rec .ready none with state := .busy }) ∧
          (W3.putObj (w.heap.size + 1) (.loop (rec (if jump.isNone then .ready else .done) jump))).heap[w.heap.size + 1]? = some (.loop (rec (if jump.isNone then .ready else .done) jump)) ∧
          (W3.putObj (w.heap.size + 1) (.loop (rec (if jump.isNone then .ready else .done) jump))).heap[w.heap.size]? = some (.deferred (some [])) := fun jump W3 hk3 => by
        have hl3 := hk3.same _ _ (by omega) hl2 rfl
        have := run_endRound (P := P) jump hl3
        rw [hrec] at this ⊢
        exact ⟨this, by rw [hrec] at hl3; exact hl3, World.putObj_heap_same (Array.getElem?_eq_some_iff.1 hl3).1, (World.putObj_heap_other (by omega)).trans (hk3.same _ _ (Nat.le_refl _) hk2 rfl)⟩
      rintro e a3 W3 hp
      cases e with
      | normal =>
        obtain ⟨hk3, hkp3, hi3⟩ := hp
        obtain ⟨hr, hl3, hl4, hk4⟩ := fin none W3 hk3
        exact ⟨_, _, hr, .inl ⟨rfl, hI.putObj _ hi3 (by omega) hl3 rfl, hl4, hk4⟩⟩
      | ret =>
        obtain ⟨hk3, hi3⟩ := hp
        obtain ⟨hr, hl3, hl4, hk4⟩ := fin (some .ret) W3 hk3
        exact ⟨_, _, hr, .inr ⟨rfl, .ret, (hIx _).putObj _ hi3 (by omega) hl3 rfl, hl4, hk4⟩⟩
      | exit id =>
        obtain ⟨hk3, hi3⟩ := hp
        obtain ⟨hr, hl3, hl4, hk4⟩ := fin (some (.exit id)) W3 hk3
        exact ⟨_, _, hr, .inr ⟨rfl, .exit id, (hIx _).putObj _ hi3 (by omega) hl3 rfl, hl4, hk4⟩⟩
      | goto t =>
        obtain ⟨hk3, hi3⟩ := hp
        obtain ⟨hr, hl3, hl4, hk4⟩ := fin (some (.goto t)) W3 hk3
        exact ⟨_, _, hr, .inr ⟨rfl, .goto t, (hIx _).putObj _ hi3 (by omega) hl3 rfl, hl4, hk4⟩⟩
      | panic ch => exact hp.elim
      | outgrown => exact hp.elim
    · rintro e W2 ⟨⟨v, rfl⟩, (⟨hi, hl, hk⟩ | ⟨pre, hSp, c, hi, hl, hk⟩)⟩
      · exact ⟨none, _, by have := run_endLoop (P := P) hl (by rw [hrec]; simp); rw [hrec] at this; exact this, hdone _ _ (Nat.le_refl _) (hI.putObj _ hi (by omega) hl rfl) ((World.putObj_heap_other (by omega)).trans hk)⟩
      · exact ⟨some c, _, by have := run_endLoop (P := P) hl (by rw [hrec]; simp); rw [hrec] at this; exact this, hstop _ c pre _ (Nat.le_refl _) hSp ((hIx c).putObj _ hi (by omega) hl rfl) ((World.putObj_heap_other (by omega)).trans hk)⟩
theorem wpIn_rangeFunc_listN {α : Type} {g : Operand} {ps : Array Tmp} {assign body : Code} {Q : Exit → Act → World → Prop} {a : Act} {w : World}
    {l₀ : Nat} {r₀ : Loop} (hro : F.round = some l₀) (hl₀ : w.heap[l₀]? = some (.loop r₀)) (h1 : 1 ≤ n) {gf : Nat} {fs lb : Array Value} (hg : a.eval g = .func (.func gf) fs lb) (hFg : F.fn gf) (eg : ∀ args w, (callFunc gf args).run P w = .ok (.enter gf args) w)
    {encs : α → Array Value} {R : World → Prop} {L : List α} {w0 : World} (hseq : SeqL F (n - 1) P gf fs lb encs R L w0)
    (hb0 : Below w0.heap.size w0 w) (hps : ∀ x, (encs x).size = ps.size)
    (I : List α → World → Prop) (Ix : Code → List α → World → Prop) (hI : OwnFrom w.heap.size I) (hIR : ∀ pre W, I pre W → R W) (hIx : ∀ c, OwnFrom w.heap.size (Ix c)) (h0 : I [] w) (Ax : α → Act → World → Prop) (hAx : ∀ x a', OwnFrom w.heap.size (fun (_ : Unit) W => Ax x a' W))
    (hassign : ∀ (l : Nat) (pre : List α) (x : α) (W : World) (K : Act → World → Prop), I pre W → (∀ a' W', KeepsFrom w.heap.size W W' → I pre W' → Ax x a' W' → K a' W') →
      assign.wpIn (F.inRound l) (n - 1 - 1) P (Exit.then K (fun _ _ _ => False)) { tmps := (ps.zip (encs x)).foldl (fun t (p, v) => t.setIfInBounds p v) a.tmps, defers := [] } W)
    (hbody : ∀ (l : Nat) (pre : List α) (x : α) (a' : Act) (W : World), w.heap.size ≤ l → (∃ r, W.heap[l]? = some (.loop r)) → pre ++ [x] <+: L → I pre W → Ax x a' W → body.wpIn (F.inRound l) (n - 1 - 1) P (ownPostG w.heap.size (fun _ _ => True) I Ix (pre ++ [x]) W) a' W)
    (hdone : ∀ (W : World), I L W → Q .normal a W)
    (hstop : ∀ (c : Code) (pre : List α) (W : World), pre <+: L → Ix c pre W → c.wpIn F n P Q a W) :
    (Code.rangeFunc g ps assign body).wpIn F n P Q a w := by
  refine wpIn_rangeFunc ?_
  intro fn hfn
  rw [hro]
  obtain ⟨rec, hrec⟩ : ∃ rec : LoopState → Option Code → Loop, rec = fun st pe => { state := st, pending := pe, fn, tmps := a.tmps, params := ps, assign, body, defers := r₀.defers } := ⟨_, rfl⟩
  obtain ⟨W1, hW1⟩ : ∃ W1, w.alloc (.loop (rec .ready none)) = W1 := ⟨_, rfl⟩
  have hL1 : W1.heap[w.heap.size]? = some (.loop (rec .ready none)) := by rw [← hW1]; exact World.alloc_heap_new w _
  have hI1 : I [] W1 := by rw [← hW1]; exact hI.alloc _ h0
  have hb1 : Below w0.heap.size w0 W1 := by
    rw [← hW1]; exact hb0.trans (((Below.refl _ w).alloc (Nat.le_refl _) _).mono hb0.size)
  refine ⟨w.heap.size, [], W1, { target := .fn (.func gf) lb, args := fs ++ #[.func (.yield w.heap.size) #[] #[]] }, W1, gf,
    fs ++ #[.func (.yield w.heap.size) #[] #[]] ++ lb, W1, ?_, ?_, ?_, ?_, fun _ => h1, ?_⟩
  · rw [← hW1, hrec]; exact run_enterLoop_inner hl₀ _ _ _ _ _
  · simp only [resolve, hg]
    simp [go_sem]
  · intro f' hf'; simp [Target.leads] at hf'; subst hf'; exact hFg
  · simp [invoke, go_sem, eg]
  · refine (hseq w.heap.size
      (fun pre W => I pre W ∧ W.heap[w.heap.size]? = some (.loop (rec .ready none)))
      (fun pre W => ∃ c, Ix c pre W ∧ W.heap[w.heap.size]? = some (.loop (rec .done (some c))))
      W1 hb1
      (fun pre W h => hIR pre W h.1) ?_ ⟨hI1, hL1⟩).mono ?_
    · rintro pre x W hlen ⟨hi, hl⟩
      have hlt : w.heap.size < W.heap.size := (Array.getElem?_eq_some_iff.1 hl).1
      have hy := run_yield (P := P) (args := encs x) hl (by rw [hrec]; exact hps x)
      rw [hrec] at hy
      refine ⟨fn, _, assign, body, hy, roundIn_of_wpIn hfn (hassign _ pre x W _ hi ?_)⟩
      clear hy
      intro a' Wa hkfa hia hax
      replace hl := hkfa.same _ _ (Nat.le_refl _) hl rfl
      replace hlt : w.heap.size < Wa.heap.size := (Array.getElem?_eq_some_iff.1 hl).1
      replace hi := hia
      clear hia
      revert hkfa
      generalize W = Wb
      intro hkfa
      obtain ⟨W, rfl⟩ : ∃ W, W = Wa := ⟨_, rfl⟩
      refine ⟨_, run_beginRound hl (by rw [hrec]), ?_⟩
      have hl2 : (W.putObj w.heap.size (.loop { rec .ready none with state := .busy })).heap[w.heap.size]? = some (.loop { rec .ready none with state := .busy }) := World.putObj_heap_same hlt
      refine wpIn_mono (hbody _ pre x a' _ (by omega) ⟨_, hl2⟩ hlen (hI.putObj _ hi (by omega) hl rfl) ((hAx x a').putObj (s := ()) _ hax (by omega) hl rfl)) ?_
      have fin : ∀ (jump : Option Code) (W3 : World), KeepsFrom w.heap.size (W.putObj w.heap.size (.loop { rec .ready none with state := .busy })) W3 →
          (Instr.endRound w.heap.size jump).run P W3 = .ok (.bool jump.isNone) (W3.putObj w.heap.size (.loop (rec (if jump.isNone then .ready else .done) jump))) ∧
          W3.heap[w.heap.size]? = some (.loop { rec .ready none with state := .busy }) ∧
          (W3.putObj w.heap.size (.loop (rec (if jump.isNone then .ready else .done) jump))).heap[w.heap.size]? = some (.loop (rec (if jump.isNone then .ready else .done) jump)) := fun jump W3 hk3 => by
        have hl3 := hk3.same _ _ (by omega) hl2 rfl
        have := run_endRound (P := P) jump hl3
        rw [hrec] at this ⊢
        exact ⟨this, by rw [hrec] at hl3; exact hl3, World.putObj_heap_same (Array.getElem?_eq_some_iff.1 hl3).1⟩
      rintro e a3 W3 hp
      cases e with
      | normal =>
        obtain ⟨hk3, hkp3, hi3⟩ := hp
        obtain ⟨hr, hl3, hl4⟩ := fin none W3 hk3
        exact ⟨_, _, hr, .inl ⟨rfl, hI.putObj _ hi3 (by omega) hl3 rfl, hl4⟩⟩
      | ret =>
        obtain ⟨hk3, hi3⟩ := hp
        obtain ⟨hr, hl3, hl4⟩ := fin (some .ret) W3 hk3
        exact ⟨_, _, hr, .inr ⟨rfl, .ret, (hIx _).putObj _ hi3 (by omega) hl3 rfl, hl4⟩⟩
      | exit id =>
        obtain ⟨hk3, hi3⟩ := hp
        obtain ⟨hr, hl3, hl4⟩ := fin (some (.exit id)) W3 hk3
        exact ⟨_, _, hr, .inr ⟨rfl, .exit id, (hIx _).putObj _ hi3 (by omega) hl3 rfl, hl4⟩⟩
      | goto t =>
        obtain ⟨hk3, hi3⟩ := hp
        obtain ⟨hr, hl3, hl4⟩ := fin (some (.goto t)) W3 hk3
        exact ⟨_, _, hr, .inr ⟨rfl, .goto t, (hIx _).putObj _ hi3 (by omega) hl3 rfl, hl4⟩⟩
      | panic ch => exact hp.elim
      | outgrown => exact hp.elim
    · rintro e W2 ⟨⟨v, rfl⟩, (⟨hi, hl⟩ | ⟨pre, hSp, c, hi, hl⟩)⟩
      · exact ⟨none, _, by have := run_endLoop (P := P) hl (by rw [hrec]; simp); rw [hrec] at this; exact this, hdone _ (hI.putObj _ hi (by omega) hl rfl)⟩
      · exact ⟨some c, _, by have := run_endLoop (P := P) hl (by rw [hrec]; simp); rw [hrec] at this; exact this, hstop c pre _ hSp ((hIx c).putObj _ hi (by omega) hl rfl)⟩
end Go.Proofs.YtcgdalabenflmaaDoor
