/- Rite: Check, Judge, after, walked. -/
import Derived.Test.YtcgdalabenflmaaDoorOpensC
import Derived.Maps.OwnSet
import Derived.DeepKeys4
import Derived.RangeFuncNested
import Derived.RangeFuncBox
set_option linter.unusedSimpArgs false
set_option linter.unusedVariables false
set_option linter.unnecessarySimpa false
namespace Go.Proofs.YtcgdalabenflmaaDoor
open Go Go.RowKit Go.Shelf
set_option maxHeartbeats 8000000
set_option maxRecDepth 100000
theorem check_any (d : Rad) (r : Rit) (w : World) (hd : RtR w d r) (hz : RtZ r) :
    Calls Tryd.prog 29 #[.agg #[.slice d.A r.n d.c, .int .i64 r.last, .int .i64 r.toil]] w fun e w' => e = .returned (.int .i64 (if riB r = true then 0 else 2)) ∧ Below w.heap.size w w' := by
  have HB1 : Hid (Below w.heap.size w (w.alloc (.cells #[.slice d.A r.n d.c, .int .i64 r.last, .int .i64 r.toil] 24))) := hide ((Below.refl _ _).alloc (Nat.le_refl _) _)
  have G1 := hide (Blk.new w 24 #[.slice d.A r.n d.c, .int .i64 r.last, .int .i64 r.toil])
  have HO := hide (open_any d r _ (hd.ext HB1.out) hz)
  obtain ⟨ch, hch⟩ : ∃ c : Int, (if riB r = true then 0 else 2) = c := ⟨_, rfl⟩
  have HCH := hide hch
  rw [hch]
  clear hd hz hch
  go_enter Tryd.func29, Tryd.ntmps29
  go_upto_region 1 with fail
  generalize w.alloc (.cells #[.slice d.A r.n d.c, .int .i64 r.last, .int .i64 r.toil] 24) = w1 at HB1 G1 HO ⊢
  generalize w.heap.size = G at G1 ⊢
  obtain ⟨g9, g0, g1, g2, -⟩ := blk3 G1.out
  go_wp2_with fail
  refine HO.out.mono ?_
  rintro e w2 ⟨⟨hb, rfl⟩ | ⟨hb, b, ad, rfl, hB⟩, hbl⟩
  · have HBL := hide (HB1.out.trans (hbl.mono HB1.out.size))
    have HR := hide hb
    clear hb hbl g9 g0 g1 g2
    go_wp2_with fail
    go_ret
    exact ⟨ret_int (by rw [← HCH.out, HR.out]; rfl), HBL.out⟩
  · have HBL := hide (HB1.out.trans (hbl.mono HB1.out.size))
    have HR := hide hb
    clear hb hbl hB g9 g0 g1 g2
    go_wp2_with fail
    go_ret
    exact ⟨ret_int (by rw [← HCH.out, HR.out]; rfl), HBL.out⟩
theorem judge_any (d : Rad) (r : Rit) (A : Option Addr) (c : Nat) (l : List (Int × Int)) (w : World) (hd : RtR w d r) (hz : RtZ r) (hl : l.length ≤ 1000000) (hD : DsR w A l) :
    Calls Tryd.prog 30 #[.agg #[.slice d.A r.n d.c, .int .i64 r.last, .int .i64 r.toil], .slice A l.length c] w fun e w' =>
      e = .returned (.tuple #[.int .i64 (if riB r = true then (folF r m0 l 0).2.1 else 0), .int .i64 (if riB r = true then (folF r m0 l 0).2.2 else 0), .int .i64 (if riB r = true then 0 else 2)]) ∧ Below w.heap.size w w' := by
  have HB1 : Hid (Below w.heap.size w (w.alloc (.cells #[.slice d.A r.n d.c, .int .i64 r.last, .int .i64 r.toil] 24))) := hide ((Below.refl _ _).alloc (Nat.le_refl _) _)
  have G1 := hide (Blk.new w 24 #[.slice d.A r.n d.c, .int .i64 r.last, .int .i64 r.toil])
  have HRT := hide (hd.ext HB1.out)
  have HO := hide (open_any d r _ (hd.ext HB1.out) hz)
  have HD := hide (hD.ext HB1.out)
  have HL := hide hl
  obtain ⟨c1, hc1⟩ : ∃ c : Int, (if riB r = true then (folF r m0 l 0).2.1 else 0) = c := ⟨_, rfl⟩
  obtain ⟨c2, hc2⟩ : ∃ c : Int, (if riB r = true then (folF r m0 l 0).2.2 else 0) = c := ⟨_, rfl⟩
  obtain ⟨c3, hc3⟩ : ∃ c : Int, (if riB r = true then 0 else 2) = c := ⟨_, rfl⟩
  have HC1 := hide hc1
  have HC2 := hide hc2
  have HC3 := hide hc3
  rw [hc1, hc2, hc3]
  clear hd hz hD hl hc1 hc2 hc3
  go_enter Tryd.func30, Tryd.ntmps30
  go_upto_region 1 with fail
  generalize w.alloc (.cells #[.slice d.A r.n d.c, .int .i64 r.last, .int .i64 r.toil] 24) = w1 at HB1 G1 HO HD HRT ⊢
  generalize w.heap.size = G at G1 ⊢
  obtain ⟨g9, g0, g1, g2, -⟩ := blk3 G1.out
  go_wp2_with fail
  refine HO.out.mono ?_
  rintro e w2 ⟨⟨hb, rfl⟩ | ⟨hb, b, ad, rfl, hB⟩, hbl⟩
  · have HBL := hide (HB1.out.trans (hbl.mono HB1.out.size))
    have HR := hide hb
    clear hb hbl g9 g0 g1 g2
    go_wp2_with fail
    refine bodyPost_ret (v := .tuple #[.int .i64 0, .int .i64 0, .int .i64 2]) (by simp [results, Tryd.results30, go_sem]) rfl ⟨by rw [← HC1.out, ← HC2.out, ← HC3.out, HR.out]; rfl, HBL.out⟩
  · have HBL := hide (HB1.out.trans (hbl.mono HB1.out.size))
    have HF := hide (follow_any b d _ r A c l w2 (riB_ok hb) HL.out (HD.out.ext hbl) (hB.book HRT.out))
    have HR := hide hb
    clear hb hbl hB g9 g0 g1 g2
    generalize folF r m0 l 0 = ff at HF HC1 HC2
    obtain ⟨⟨mD, mday, mde⟩, ln, br⟩ := ff
    unfold momV at HF
    dsimp only at HF HC1 HC2
    go_wp2_with fail
    refine HF.out.mono ?_
    rintro e w3 ⟨rfl, h3⟩
    have HBM := hide (HBL.out.trans (h3.mono HBL.out.size))
    clear h3
    go_wp2_with fail
    refine bodyPost_ret (v := .tuple #[.int .i64 ln, .int .i64 br, .int .i64 0]) (by simp [results, Tryd.results30, go_sem]) rfl ⟨by rw [← HC1.out, ← HC2.out, ← HC3.out, HR.out]; rfl, HBM.out⟩
end Go.Proofs.YtcgdalabenflmaaDoor
/- Rite: after, walked. -/
namespace Go.Proofs.YtcgdalabenflmaaDoor
open Go Go.RowKit Go.Shelf
set_option maxHeartbeats 8000000
set_option maxRecDepth 100000
/-- the errno behind a course -/
def aftC (r : Rit) (l : List (Int × Int)) : Int := if riB r = true then (if (folF r m0 l 0).2.2 = 0 then 0 else 9) else 2
def AfterPost (w : World) (d : Rad) (r : Rit) (l : List (Int × Int)) (e : Ending) (w' : World) : Prop :=
  (aftC r l ≠ 0 ∧ e = .returned (.tuple #[.pointer none, momV m0, .int .i64 (aftC r l)]) ∨ aftC r l = 0 ∧ riB r = true ∧ ∃ b ad, e = .returned (.tuple #[.pointer (some ⟨b, 0, none⟩), momV (folF r m0 l 0).1, .int .i64 0]) ∧ OpI w w' d r b ad (opF r r.n) (opM r r.n)) ∧ Below w.heap.size w w'
theorem after_any (d : Rad) (r : Rit) (A : Option Addr) (c : Nat) (l : List (Int × Int)) (w : World) (hd : RtR w d r) (hz : RtZ r) (hl : l.length ≤ 1000000) (hD : DsR w A l) :
    Calls Tryd.prog 40 #[.agg #[.slice d.A r.n d.c, .int .i64 r.last, .int .i64 r.toil], .slice A l.length c] w (AfterPost w d r l) := by
  have HB1 : Hid (Below w.heap.size w ((w.alloc (.cells #[.slice d.A r.n d.c, .int .i64 r.last, .int .i64 r.toil] 24)).alloc (.cells #[.int .u16 0, .int .i64 0, .int .i64 0] 77))) := hide (((Below.refl _ _).alloc (Nat.le_refl _) _).alloc (by simp) _)
  have G1 : Hid (Blk ((w.alloc (.cells #[.slice d.A r.n d.c, .int .i64 r.last, .int .i64 r.toil] 24)).alloc (.cells #[.int .u16 0, .int .i64 0, .int .i64 0] 77)) w.heap.size 24 #[.slice d.A r.n d.c, .int .i64 r.last, .int .i64 r.toil]) := hide ((Blk.new w _ _).alloc _)
  have Q1 : Hid (Blk ((w.alloc (.cells #[.slice d.A r.n d.c, .int .i64 r.last, .int .i64 r.toil] 24)).alloc (.cells #[.int .u16 0, .int .i64 0, .int .i64 0] 77)) (w.heap.size + 1) 77 #[.int .u16 0, .int .i64 0, .int .i64 0]) := hide (by simpa using Blk.new (w.alloc (.cells #[.slice d.A r.n d.c, .int .i64 r.last, .int .i64 r.toil] 24)) 77 #[.int .u16 0, .int .i64 0, .int .i64 0])
  have HO := hide (open_any d r _ (hd.ext HB1.out) hz)
  have HRT := hide (hd.ext HB1.out)
  have HD := hide (hD.ext HB1.out)
  have HL := hide hl
  obtain ⟨M, hM⟩ : ∃ M, w.heap.size + 1 = M := ⟨_, rfl⟩
  have HMM := hide hM
  rw [hM] at Q1
  clear hd hz hD hl
  go_enter Tryd.func40, Tryd.ntmps40
  go_upto_region 1 with fail
  (try rw [hM])
  clear hM
  generalize (w.alloc (.cells #[.slice d.A r.n d.c, .int .i64 r.last, .int .i64 r.toil] 24)).alloc (.cells #[.int .u16 0, .int .i64 0, .int .i64 0] 77) = w1 at HB1 G1 Q1 HO HD HRT ⊢
  have HLM : Hid (w.heap.size ≤ M) := hide (by rw [← HMM.out]; exact Nat.le_succ _)
  obtain ⟨G, hG⟩ : ∃ x, w.heap.size = x := ⟨_, rfl⟩
  rw [hG] at G1 ⊢
  clear hG
  have HQ0 := hide Q1.out.lt
  obtain ⟨g9, g0, g1, g2, -⟩ := blk3 G1.out
  go_wp2_with fail
  refine HO.out.mono ?_
  rintro e w2 ⟨⟨hb, rfl⟩ | ⟨hb, b, ad, rfl, hB⟩, hbl⟩
  · have HBL := hide (HB1.out.trans (hbl.mono HB1.out.size))
    have HCH : Hid (aftC r l = 2) := hide (by unfold aftC; rw [hb]; rfl)
    replace Q1 := hide (Q1.out.ext hbl)
    clear hb hbl g9 g0 g1 g2 HO HD
    obtain ⟨a9, a0, a1, a2, a3, a4, a5⟩ := blk3 Q1.out
    go_wp2_with fail
    have h3 := Q1.out.set3 (.int .u16 0) (.int .i64 0) (.int .i64 0)
    obtain ⟨-, z0, z1, z2, -⟩ := blk3 h3
    refine bodyPost_ret (v := .tuple #[.pointer none, .agg #[.int .u16 0, .int .i64 0, .int .i64 0], .int .i64 2]) (by
      simp [results, Tryd.results40, go_sem, z0, z1, z2]) rfl ⟨.inl ⟨by rw [HCH.out]; decide, by rw [HCH.out]; rfl⟩, set3B HBL.out (by rw [← HMM.out]; exact Nat.le_succ _) _ _ _⟩
  · have HBL := hide (HB1.out.trans (hbl.mono HB1.out.size))
    have HF := hide (follow_any b d _ r A c l w2 (riB_ok hb) HL.out (HD.out.ext hbl) (hB.book HRT.out))
    have HR := hide hb
    have HB := hide (hB.rebase HB1.out)
    have HNB : Hid (b ≠ M ∧ ∀ j, j < 4 → ad j ≠ M) := hide ⟨by have := hB.lob; have := HQ0.out; omega, fun j hj => by have := hB.lo j hj; have := HQ0.out; omega⟩
    replace Q1 := hide (Q1.out.ext hbl)
    clear hb hbl hB g9 g0 g1 g2 HO HD
    obtain ⟨ff, hff⟩ : ∃ x, folF r m0 l 0 = x := ⟨_, rfl⟩
    have HFF := hide hff
    rw [hff] at HF
    clear hff
    obtain ⟨⟨mD, mday, mde⟩, ln, br⟩ := ff
    unfold momV at HF
    dsimp only at HF
    go_wp2_with fail
    refine HF.out.mono ?_
    rintro e w3 ⟨rfl, h3⟩
    have HQL := hide (Nat.lt_of_lt_of_le Q1.out.lt h3.size)
    have hb4 : Below w3.heap.size w3 (w3.alloc (.cells #[.int .u16 (mD : Nat), .int .i64 mday, .int .i64 mde] 77)) := (Below.refl _ _).alloc (Nat.le_refl _) _
    have Q3 := hide (Blk.new w3 77 #[.int .u16 (mD : Nat), .int .i64 mday, .int .i64 mde])
    replace Q1 := hide ((Q1.out.ext h3).ext hb4)
    have h4 := h3.trans (hb4.mono h3.size)
    have HNE : Hid (w3.heap.size ≠ M) := hide (Nat.ne_of_gt HQL.out)
    replace HBL := hide (HBL.out.trans (h4.mono HBL.out.size))
    replace HB := hide (HB.out.ext h4)
    clear h3 h4 hb4
    go_upto_region 5 with fail
    generalize w3.alloc (.cells #[.int .u16 (mD : Nat), .int .i64 mday, .int .i64 mde] 77) = w4 at Q1 Q3 HBL HB ⊢
    clear HQL
    generalize w3.heap.size = H at Q3 HNE ⊢
    obtain ⟨a9, a0, a1, a2, a3, a4, a5⟩ := blk3 Q1.out
    by_cases hbr : br = 0
    · have b1 : (br == 0) = true := by rw [hbr]; rfl
      have b2 : (br != 0) = false := by rw [hbr]; rfl
      have HCH : Hid (aftC r l = 0) := hide (by unfold aftC; rw [HR.out, HFF.out, if_pos rfl, if_pos hbr])
      clear hbr
      go_upto_region 7 with fail
      clear a9 a0 a1 a2 a3 a4 a5
      have HS7 : Hid (∀ W, Below w4.heap.size w4 W → (W.cell? ⟨H, 0, none⟩ = some (.int .u16 (mD : Nat)) ∧ W.cell? ⟨H, 1, none⟩ = some (.int .i64 mday) ∧ W.cell? ⟨H, 2, none⟩ = some (.int .i64 mde))) := hide fun W h => ⟨(blk3 (Q3.out.ext h)).2.1, (blk3 (Q3.out.ext h)).2.2.1, (blk3 (Q3.out.ext h)).2.2.2.1⟩
      have Bd := hide (Below.refl w4.heap.size w4).drew
      replace Q1 := hide (Q1.out.ext Bd.out)
      replace HB := hide (HB.out.ext Bd.out)
      replace HBL := hide (HBL.out.trans (Bd.out.mono HBL.out.size))
      refine wp_region_J (fun W : World => (W.cell? ⟨H, 0, none⟩ = some (.int .u16 (mD : Nat)) ∧ W.cell? ⟨H, 1, none⟩ = some (.int .i64 mday) ∧ W.cell? ⟨H, 2, none⟩ = some (.int .i64 mde))) (by kernel_rfl) ?_
      generalize w4.drew = wd at Bd Q1 HB HBL ⊢
      refine tk_start [0, 1, 2] ?_
      iterate 3
        refine tk_one (v := ?_) (by first | exact hF | exact wideFn) (HS7.out _ Bd.out) rfl (by kernel_rfl) (by kernel_rfl) (by kernel_rfl) (by kernel_rfl) rfl ?_ (by first | exact fun _ _ _ h => h | exact fun _ _ _ h => hQ2 _ _ _ _ _ h) ?_
        rotate_left
        · intro W hSW
          simp only [List.getElem_toArray, List.getElem_cons_zero, List.getElem_cons_succ]
          (try dsimp only at hSW)
          go_simp
          with_reducible rfl
        (try simp only [List.getElem_toArray, List.getElem_cons_zero, List.getElem_cons_succ, Act.put, List.setIfInBounds_toArray, List.set_cons_zero, List.set_cons_succ])
      refine tk_end ?_
      obtain ⟨a9, a0, a1, a2, a3, a4, a5⟩ := blk3 Q1.out
      refine wpAnyJ_one 3 rfl (by kernel_rfl) (fun K hK => ?_)
      simp only [List.getElem_toArray, List.getElem_cons_zero, List.getElem_cons_succ]
      go_simp
      refine hK.out _ _ (fun h => absurd h (by rw [show lastOp _ _ _ = true from by kernel_rfl]; simp)) ?_
      clear hK K
      (try simp only [List.getElem_toArray, List.getElem_cons_zero, List.getElem_cons_succ, Act.put, List.setIfInBounds_toArray, List.set_cons_zero, List.set_cons_succ])
      have hS : ((((wd.setCell ⟨M, 0, none⟩ (.int .u16 (mD : Nat))).setCell ⟨M, 1, none⟩ (.int .i64 mday)).setCell ⟨M, 2, none⟩ (.int .i64 mde)).cell? ⟨H, 0, none⟩ = some (.int .u16 (mD : Nat)) ∧ (((wd.setCell ⟨M, 0, none⟩ (.int .u16 (mD : Nat))).setCell ⟨M, 1, none⟩ (.int .i64 mday)).setCell ⟨M, 2, none⟩ (.int .i64 mde)).cell? ⟨H, 1, none⟩ = some (.int .i64 mday) ∧ (((wd.setCell ⟨M, 0, none⟩ (.int .u16 (mD : Nat))).setCell ⟨M, 1, none⟩ (.int .i64 mday)).setCell ⟨M, 2, none⟩ (.int .i64 mde)).cell? ⟨H, 2, none⟩ = some (.int .i64 mde)) := by
        have h := blk3 ((((Q3.out.ext Bd.out).far (p := ⟨M, 0, none⟩) HNE.out (.int .u16 (mD : Nat))).far (p := ⟨M, 1, none⟩) HNE.out (.int .i64 mday)).far (p := ⟨M, 2, none⟩) HNE.out (.int .i64 mde))
        exact ⟨h.2.1, h.2.2.1, h.2.2.2.1⟩
      refine wpAnyJ_take 4 (v := ?_) (by first | exact hF | exact wideFn) hS rfl (by kernel_rfl) (by kernel_rfl) (by kernel_rfl) (by kernel_rfl) rfl ?_ (by first | exact fun _ _ _ h => h | exact fun _ _ _ h => hQ2 _ _ _ _ _ h) ?_
      rotate_left
      · intro W hSW
        simp only [List.getElem_toArray, List.getElem_cons_zero, List.getElem_cons_succ]
        (try dsimp only at hSW)
        go_simp
        with_reducible rfl
      (try simp only [List.getElem_toArray, List.getElem_cons_zero, List.getElem_cons_succ, Act.put, List.setIfInBounds_toArray, List.set_cons_zero, List.set_cons_succ])
      refine wpAnyJ_done (by kernel_rfl) ?_
      clear hS a9 a0 a1 a2 a3 a4 a5
      go_wp2_with fail
      have h3 := Q1.out.set3 (.int .u16 (mD : Nat)) (.int .i64 mday) (.int .i64 mde)
      obtain ⟨-, z0, z1, z2, -⟩ := blk3 h3
      refine bodyPost_ret (v := .tuple #[.pointer (some ⟨b, 0, none⟩), .agg #[.int .u16 (mD : Nat), .int .i64 mday, .int .i64 mde], .int .i64 0]) (by
        simp [results, Tryd.results40, go_sem, z0, z1, z2]) rfl ⟨.inr ⟨HCH.out, HR.out, b, ad, by rw [HFF.out]; rfl, ((HB.out.far HLM.out HNB.out.1 HNB.out.2 0 _).far HLM.out HNB.out.1 HNB.out.2 1 _).far HLM.out HNB.out.1 HNB.out.2 2 _⟩, set3B HBL.out HLM.out _ _ _⟩
    · have b1 : (br == 0) = false := by rw [beq_eq_false_iff_ne]; exact hbr
      have b2 : (br != 0) = true := by rw [bne, b1]; rfl
      have HCH : Hid (aftC r l = 9) := hide (by unfold aftC; rw [HR.out, HFF.out, if_pos rfl, if_neg hbr])
      clear hbr
      go_wp2_with fail
      have h3 := Q1.out.set3 (.int .u16 0) (.int .i64 0) (.int .i64 0)
      obtain ⟨-, z0, z1, z2, -⟩ := blk3 h3
      refine bodyPost_ret (v := .tuple #[.pointer none, .agg #[.int .u16 0, .int .i64 0, .int .i64 0], .int .i64 9]) (by
        simp [results, Tryd.results40, go_sem, z0, z1, z2]) rfl ⟨.inl ⟨by rw [HCH.out]; decide, by rw [HCH.out]; rfl⟩, set3B HBL.out (by rw [← HMM.out]; exact Nat.le_succ _) _ _ _⟩
end Go.Proofs.YtcgdalabenflmaaDoor
/- Rite: Settled, Complete, walked. -/
namespace Go.Proofs.YtcgdalabenflmaaDoor
open Go Go.RowKit Go.Shelf
set_option maxHeartbeats 8000000
set_option maxRecDepth 100000
theorem fol_dlt {r : Rit} (hr : r.n ≤ 10) : ∀ (l : List (Int × Int)) (m : Mom) (k : Nat), m.d < 65536 → (folF r m l k).1.d < 65536
  | [], _, _, h => h
  | x :: l, m, k, h => by
    unfold folF
    split
    · exact h
    · split
      · rw [on_d]; exact h
      · rename_i h1 h2
        have h3 := br_range (Classical.not_not.1 h2)
        refine fol_dlt hr l _ _ ?_
        show (m.on x.1).d ||| 2 ^ x.2.toNat < 65536
        rw [on_d]
        exact Nat.or_lt_two_pow (n := 16) h (p2_lt (by omega))
theorem complete_rite (d : Rad) (r : Rit) (A : Option Addr) (c : Nat) (l : List (Int × Int)) (w : World) (hd : RtR w d r) (hz : RtZ r) (hl : l.length ≤ 1000000) (hD : DsR w A l) :
    Calls Tryd.prog 32 #[.agg #[.slice d.A r.n d.c, .int .i64 r.last, .int .i64 r.toil], .slice A l.length c] w fun e w' =>
      (aftC r l ≠ 0 ∧ e = .returned (.tuple #[.bool false, .int .i64 (aftC r l)]) ∨ aftC r l = 0 ∧ riB r = true ∧ e = .returned (.tuple #[.bool (coB r (folF r m0 l 0).1.d), .int .i64 0])) ∧ Below w.heap.size w w' := by
  have HB1 : Hid (Below w.heap.size w (w.alloc (.cells #[.slice d.A r.n d.c, .int .i64 r.last, .int .i64 r.toil] 24))) := hide ((Below.refl _ _).alloc (Nat.le_refl _) _)
  have G1 := hide (Blk.new w 24 #[.slice d.A r.n d.c, .int .i64 r.last, .int .i64 r.toil])
  have HRT := hide (hd.ext HB1.out)
  have HD := hide (hD.ext HB1.out)
  have HO := hide (after_any d r A c l _ HRT.out hz hl HD.out)
  have HL := hide hl
  clear hd hz hD hl
  obtain ⟨ec, hec⟩ : ∃ x, aftC r l = x := ⟨_, rfl⟩
  have HEC := hide hec
  rw [hec]
  clear hec
  go_enter Tryd.func32, Tryd.ntmps32
  go_upto_region 1 with fail
  generalize w.alloc (.cells #[.slice d.A r.n d.c, .int .i64 r.last, .int .i64 r.toil] 24) = w1 at HB1 G1 HO HD HRT ⊢
  generalize w.heap.size = G at G1 ⊢
  obtain ⟨g9, g0, g1, g2, -⟩ := blk3 G1.out
  go_wp2_with fail
  refine HO.out.mono ?_
  rintro e w2 ⟨⟨hc, rfl⟩ | ⟨hc, hb, b, ad, rfl, hB⟩, hbl⟩
  · have HBL := hide (HB1.out.trans (hbl.mono HB1.out.size))
    rw [HEC.out] at hc ⊢
    have HCH := hide hc
    have hb4 : Below w2.heap.size w2 (w2.alloc (.cells #[.int .u16 0, .int .i64 0, .int .i64 0] 77)) := (Below.refl _ _).alloc (Nat.le_refl _) _
    replace HBL := hide (HBL.out.trans (hb4.mono HBL.out.size))
    have e1 : (ec == 0) = false := by rw [beq_eq_false_iff_ne]; exact HCH.out
    have e2 : (ec != 0) = true := by rw [bne, e1]; rfl
    unfold momV m0
    dsimp only
    clear hc hbl g9 g0 g1 g2 HO HD hb4
    go_wp2_with fail
    go_ret2
    exact ⟨.inl ⟨HCH.out, rfl⟩, HBL.out⟩
  · have HBL := hide (HB1.out.trans (hbl.mono HB1.out.size))
    rw [HEC.out] at hc
    have HCH := hide hc
    have HR := hide hb
    have hDD := fol_dlt (riB_ok hb).n10 l m0 0 (by decide)
    have HFF : Hid (folF r m0 l 0 = folF r m0 l 0) := hide rfl
    obtain ⟨D, hD⟩ : ∃ x, (folF r m0 l 0).1.d = x := ⟨_, rfl⟩
    obtain ⟨mday, hday⟩ : ∃ x, (folF r m0 l 0).1.day = x := ⟨_, rfl⟩
    obtain ⟨mde, hde⟩ : ∃ x, (folF r m0 l 0).1.de = x := ⟨_, rfl⟩
    unfold momV
    rw [hD] at hDD
    have HDD := hide hD
    rw [hD, hday, hde]
    have hb4 : Below w2.heap.size w2 (w2.alloc (.cells #[.int .u16 (D : Nat), .int .i64 mday, .int .i64 mde] 77)) := (Below.refl _ _).alloc (Nat.le_refl _) _
    have Q3 := hide (Blk.new w2 77 #[.int .u16 (D : Nat), .int .i64 mday, .int .i64 mde])
    replace HBL := hide (HBL.out.trans (hb4.mono HBL.out.size))
    have HC := hide (complete_any b d _ r D _ (riB_ok hb) hDD ((hB.ext hb4).book HRT.out))
    clear hc hbl hb hB g9 g0 g1 g2 HO HD hD hday hde HFF
    go_upto_region 2 with fail
    generalize w2.alloc (.cells #[.int .u16 (D : Nat), .int .i64 mday, .int .i64 mde] 77) = w4 at Q3 HBL HC hb4 ⊢
    generalize w2.heap.size = H at Q3 ⊢
    obtain ⟨a9, a0, a1, a2, -⟩ := blk3 Q3.out
    go_wp2_with fail
    refine HC.out.mono ?_
    rintro e w5 ⟨rfl, h5⟩
    replace HBL := hide (HBL.out.trans (h5.mono HBL.out.size))
    clear h5
    go_wp2_with fail
    go_ret2
    exact ⟨.inr ⟨HCH.out, HR.out, by rw [HDD.out]; rfl⟩, HBL.out⟩
theorem OwnJ.low3 {W : World} {n0 n1 : Nat} {v : Value} {l : List Int} (h : OwnJ W n0 v l) (hb : n1 ≤ n0) : OwnJ W n1 v l := ownMono h hb
theorem settled_rite (d : Rad) (r : Rit) (A : Option Addr) (c : Nat) (l : List (Int × Int)) (w : World) (hd : RtR w d r) (hz : RtZ r) (hl : l.length ≤ 1000000) (hD : DsR w A l) (hT : TB w) :
    Calls Tryd.prog 31 #[.agg #[.slice d.A r.n d.c, .int .i64 r.last, .int .i64 r.toil], .slice A l.length c] w fun e w' =>
      (aftC r l ≠ 0 ∧ e = .returned (.tuple #[.slice none 0 0, .int .i64 (aftC r l)]) ∨ aftC r l = 0 ∧ riB r = true ∧ ∃ v, e = .returned (.tuple #[v, .int .i64 0]) ∧ OwnJ w' w.heap.size v (ofN (elS (seS r (folF r m0 l 0).1.d)))) ∧ Below w.heap.size w w' := by
  have HTB := hide hT
  clear hT
  have HB1 : Hid (Below w.heap.size w (w.alloc (.cells #[.slice d.A r.n d.c, .int .i64 r.last, .int .i64 r.toil] 24))) := hide ((Below.refl _ _).alloc (Nat.le_refl _) _)
  have G1 := hide (Blk.new w 24 #[.slice d.A r.n d.c, .int .i64 r.last, .int .i64 r.toil])
  have HRT := hide (hd.ext HB1.out)
  have HD := hide (hD.ext HB1.out)
  have HO := hide (after_any d r A c l _ HRT.out hz hl HD.out)
  have HL := hide hl
  clear hd hz hD hl
  obtain ⟨ec, hec⟩ : ∃ x, aftC r l = x := ⟨_, rfl⟩
  have HEC := hide hec
  rw [hec]
  clear hec
  go_enter Tryd.func31, Tryd.ntmps31
  go_upto_region 1 with fail
  generalize w.alloc (.cells #[.slice d.A r.n d.c, .int .i64 r.last, .int .i64 r.toil] 24) = w1 at HB1 G1 HO HD HRT ⊢
  generalize w.heap.size = G at G1 ⊢
  obtain ⟨g9, g0, g1, g2, -⟩ := blk3 G1.out
  go_wp2_with fail
  refine HO.out.mono ?_
  rintro e w2 ⟨⟨hc, rfl⟩ | ⟨hc, hb, b, ad, rfl, hB⟩, hbl⟩
  · have HBL := hide (HB1.out.trans (hbl.mono HB1.out.size))
    rw [HEC.out] at hc ⊢
    have HCH := hide hc
    have hb4 : Below w2.heap.size w2 (w2.alloc (.cells #[.int .u16 0, .int .i64 0, .int .i64 0] 77)) := (Below.refl _ _).alloc (Nat.le_refl _) _
    replace HBL := hide (HBL.out.trans (hb4.mono HBL.out.size))
    have e1 : (ec == 0) = false := by rw [beq_eq_false_iff_ne]; exact HCH.out
    have e2 : (ec != 0) = true := by rw [bne, e1]; rfl
    unfold momV m0
    dsimp only
    clear hc hbl g9 g0 g1 g2 HO HD hb4
    go_wp2_with fail
    go_ret2
    exact ⟨.inl ⟨HCH.out, rfl⟩, HBL.out⟩
  · have HBL := hide (HB1.out.trans (hbl.mono HB1.out.size))
    rw [HEC.out] at hc
    have HCH := hide hc
    have HR := hide hb
    have hDD := fol_dlt (riB_ok hb).n10 l m0 0 (by decide)
    have HFF : Hid (folF r m0 l 0 = folF r m0 l 0) := hide rfl
    obtain ⟨D, hD⟩ : ∃ x, (folF r m0 l 0).1.d = x := ⟨_, rfl⟩
    obtain ⟨mday, hday⟩ : ∃ x, (folF r m0 l 0).1.day = x := ⟨_, rfl⟩
    obtain ⟨mde, hde⟩ : ∃ x, (folF r m0 l 0).1.de = x := ⟨_, rfl⟩
    unfold momV
    rw [hD] at hDD
    have HDD := hide hD
    rw [hD, hday, hde]
    have hb4 : Below w2.heap.size w2 (w2.alloc (.cells #[.int .u16 (D : Nat), .int .i64 mday, .int .i64 mde] 77)) := (Below.refl _ _).alloc (Nat.le_refl _) _
    have Q3 := hide (Blk.new w2 77 #[.int .u16 (D : Nat), .int .i64 mday, .int .i64 mde])
    replace HBL := hide (HBL.out.trans (hb4.mono HBL.out.size))
    have HC := hide (settled_any b d _ r D _ (riB_ok hb) hDD ((hB.ext hb4).book HRT.out))
    have HSE := hide (seS_lt (riB_ok hb) D)
    clear hc hbl hb hB g9 g0 g1 g2 HO HD hD hday hde HFF
    go_upto_region 2 with fail
    generalize w2.alloc (.cells #[.int .u16 (D : Nat), .int .i64 mday, .int .i64 mde] 77) = w4 at Q3 HBL HC hb4 ⊢
    generalize w2.heap.size = H at Q3 ⊢
    obtain ⟨a9, a0, a1, a2, -⟩ := blk3 Q3.out
    go_wp2_with fail
    refine HC.out.mono ?_
    rintro e w5 ⟨rfl, h5⟩
    replace HBL := hide (HBL.out.trans (h5.mono HBL.out.size))
    have HLI := hide (list_any (seS r D) w5 HSE.out (HTB.out.ext HBL.out))
    clear h5
    go_wp2_with fail
    refine HLI.out.mono ?_
    rintro e w6 ⟨v, rfl, hv, h6⟩
    have HV := hide (OwnJ.low3 hv HBL.out.size)
    replace HBL := hide (HBL.out.trans (h6.mono HBL.out.size))
    clear h6 hv
    go_wp2_with fail
    go_ret2
    exact ⟨.inr ⟨HCH.out, HR.out, v, rfl, by rw [HDD.out]; exact HV.out⟩, HBL.out⟩
end Go.Proofs.YtcgdalabenflmaaDoor
/- Rite: from, walked. -/
namespace Go.Proofs.YtcgdalabenflmaaDoor
open List renaming getElem_toArray → glA, getElem_cons_zero → glB, getElem_cons_succ → glC, setIfInBounds_toArray → glD, set_cons_zero → glE, set_cons_succ → glF
open Go Go.RowKit Go.Shelf
set_option maxHeartbeats 8000000
set_option maxRecDepth 100000
/-- the errno behind a course, asked of a day -/
def frC (r : Rit) (l : List (Int × Int)) (day : Int) : Int := if aftC r l = 0 then (if (folF r m0 l 0).1.day ≤ day ∧ day ≤ r.last then 0 else 3) else aftC r l
def FromPost (w : World) (d : Rad) (r : Rit) (l : List (Int × Int)) (day : Int) (e : Ending) (w' : World) : Prop :=
  (frC r l day ≠ 0 ∧ (∃ (v : Option Addr) (m : Mom), e = .returned (.tuple #[.pointer v, momV m, .int .i64 (frC r l day)])) ∨ frC r l day = 0 ∧ riB r = true ∧ ∃ b ad, e = .returned (.tuple #[.pointer (some ⟨b, 0, none⟩), momV ((folF r m0 l 0).1.on day), .int .i64 0]) ∧ OpI w w' d r b ad (opF r r.n) (opM r r.n)) ∧ Below w.heap.size w w'
theorem from_any (d : Rad) (r : Rit) (A : Option Addr) (c : Nat) (l : List (Int × Int)) (day : Int) (w : World) (hd : RtR w d r) (hz : RtZ r) (hl : l.length ≤ 1000000) (hD : DsR w A l) :
    Calls Tryd.prog 38 #[.agg #[.slice d.A r.n d.c, .int .i64 r.last, .int .i64 r.toil], .slice A l.length c, .int .i64 day] w (FromPost w d r l day) := by
  have HB1 : Hid (Below w.heap.size w ((w.alloc (.cells #[.slice d.A r.n d.c, .int .i64 r.last, .int .i64 r.toil] 24)).alloc (.cells #[.int .u16 0, .int .i64 0, .int .i64 0] 77))) := hide (((Below.refl _ _).alloc (Nat.le_refl _) _).alloc (by simp) _)
  have G1 : Hid (Blk ((w.alloc (.cells #[.slice d.A r.n d.c, .int .i64 r.last, .int .i64 r.toil] 24)).alloc (.cells #[.int .u16 0, .int .i64 0, .int .i64 0] 77)) w.heap.size 24 #[.slice d.A r.n d.c, .int .i64 r.last, .int .i64 r.toil]) := hide ((Blk.new w _ _).alloc _)
  have Q1 : Hid (Blk ((w.alloc (.cells #[.slice d.A r.n d.c, .int .i64 r.last, .int .i64 r.toil] 24)).alloc (.cells #[.int .u16 0, .int .i64 0, .int .i64 0] 77)) (w.heap.size + 1) 77 #[.int .u16 0, .int .i64 0, .int .i64 0]) := hide (by simpa using Blk.new (w.alloc (.cells #[.slice d.A r.n d.c, .int .i64 r.last, .int .i64 r.toil] 24)) 77 #[.int .u16 0, .int .i64 0, .int .i64 0])
  have HRT := hide (hd.ext HB1.out)
  have HD := hide (hD.ext HB1.out)
  have HO := hide (after_any d r A c l _ HRT.out hz hl HD.out)
  have HW := hide (fun (a x y : Int) W => rwithin_any a x y W)
  have HON : Hid (∀ (m : Mom) (W : World), Calls Tryd.prog 42 #[.agg #[.int .u16 (m.d : Nat), .int .i64 m.day, .int .i64 m.de], .int .i64 day] W fun e w' => e = .returned (.agg #[.int .u16 ((m.on day).d : Nat), .int .i64 (m.on day).day, .int .i64 (m.on day).de]) ∧ Below W.heap.size W w') := hide (fun m W => on_any m day W)
  obtain ⟨M, hM⟩ : ∃ M, w.heap.size + 1 = M := ⟨_, rfl⟩
  have HMM := hide hM
  rw [hM] at Q1
  clear hd hz hD hl
  go_enter Tryd.func38, Tryd.ntmps38
  go_upto_region 1 with fail
  (try rw [hM])
  clear hM
  generalize (w.alloc (.cells #[.slice d.A r.n d.c, .int .i64 r.last, .int .i64 r.toil] 24)).alloc (.cells #[.int .u16 0, .int .i64 0, .int .i64 0] 77) = w1 at HB1 G1 Q1 HO HD HRT ⊢
  have HLM : Hid (w.heap.size ≤ M) := hide (by rw [← HMM.out]; exact Nat.le_succ _)
  obtain ⟨G, hG⟩ : ∃ x, w.heap.size = x := ⟨_, rfl⟩
  rw [hG] at G1 ⊢
  clear hG
  have HQ0 := hide Q1.out.lt
  obtain ⟨g9, g0, g1, g2, -⟩ := blk3 G1.out
  go_wp2_with fail
  refine HO.out.mono ?_
  rintro e w2 ⟨⟨hc, rfl⟩ | ⟨hc, hb, b, ad, rfl, hB⟩, hbl⟩
  · have HBL := hide (HB1.out.trans (hbl.mono HB1.out.size))
    have HCH : Hid (frC r l day = aftC r l) := hide (by unfold frC; rw [if_neg hc])
    have HC0 := hide hc
    obtain ⟨ec, hec⟩ : ∃ x, aftC r l = x := ⟨_, rfl⟩
    rw [hec] at HCH HC0 ⊢
    have hb4 : Below w2.heap.size w2 (w2.alloc (.cells #[.int .u16 0, .int .i64 0, .int .i64 0] 77)) := (Below.refl _ _).alloc (Nat.le_refl _) _
    have Q3 := hide (Blk.new w2 77 #[.int .u16 0, .int .i64 0, .int .i64 0])
    replace Q1 := hide ((Q1.out.ext hbl).ext hb4)
    replace HBL := hide (HBL.out.trans (hb4.mono HBL.out.size))
    have e1 : (ec == 0) = false := by rw [beq_eq_false_iff_ne]; exact HC0.out
    have HON0 := hide (HON.out m0)
    unfold momV m0
    unfold m0 at HON0
    dsimp only at HON0 ⊢
    clear hc hbl g9 g0 g1 g2 HO HD hec hb4
    go_upto_region 2 with fail
    have Bd := hide (Below.refl (w2.alloc (.cells #[.int .u16 0, .int .i64 0, .int .i64 0] 77)).heap.size (w2.alloc (.cells #[.int .u16 0, .int .i64 0, .int .i64 0] 77))).drew
    replace Q1 := hide (Q1.out.ext Bd.out)
    replace Q3 := hide (Q3.out.ext Bd.out)
    replace HBL := hide (HBL.out.trans (Bd.out.mono HBL.out.size))
    refine wp_region_J (fun W : World => True) (by kernel_rfl) ?_
    generalize (w2.alloc (.cells #[.int .u16 0, .int .i64 0, .int .i64 0] 77)).drew = wd at Bd Q1 Q3 HBL ⊢
    refine tk_start [0, 1, 2] ?_
    iterate 3
      refine tk_one (v := ?_) (by first | exact hF | exact wideFn) trivial rfl (by kernel_rfl) (by kernel_rfl) (by kernel_rfl) (by kernel_rfl) rfl ?_ (by first | exact fun _ _ _ h => h | exact fun _ _ _ h => hQ2 _ _ _ _ _ h) ?_
      rotate_left
      · intro W hSW
        simp only [glA, glB, glC]
        (try dsimp only at hSW)
        go_simp
        with_reducible rfl
      (try simp only [glA, glB, glC, Act.put, glD, glE, glF])
    refine tk_end ?_
    refine tk_start [3, 4, 5, 6, 7, 8, 9, 10, 11, 12] ?_
    iterate 10
      refine tk_skip (by first | exact hF | exact wideFn) trivial rfl (by kernel_rfl) (by kernel_rfl) (by kernel_rfl) (by kernel_rfl) rfl (by first | exact fun _ _ _ h => h | exact fun _ _ _ h => hQ2 _ _ _ _ _ h) ?_
      (try simp only [glA, glB, glC, Act.put, glD, glE, glF])
    refine tk_end ?_
    refine wpAnyJ_take 13 (v := ?_) (by first | exact hF | exact wideFn) trivial rfl (by kernel_rfl) (by kernel_rfl) (by kernel_rfl) (by kernel_rfl) rfl ?_ (by first | exact fun _ _ _ h => h | exact fun _ _ _ h => hQ2 _ _ _ _ _ h) ?_
    rotate_left
    · intro W hSW
      simp only [glA, glB, glC]
      (try dsimp only at hSW)
      go_simp
      with_reducible rfl
    (try simp only [glA, glB, glC, Act.put, glD, glE, glF])
    refine wpAnyJ_done (by kernel_rfl) ?_
    obtain ⟨x9, x0, x1, x2, -⟩ := blk3 Q3.out
    go_wp2_with fail
    refine (HON0.out _).mono ?_
    rintro e w5 ⟨rfl, h5⟩
    replace Q1 := hide (Q1.out.ext h5)
    replace HBL := hide (HBL.out.trans (h5.mono HBL.out.size))
    clear h5 x9 x0 x1 x2
    generalize (Mom.on ⟨0, 0, 0⟩ day) = mo
    obtain ⟨oD, oday, ode⟩ := mo
    dsimp only
    obtain ⟨a9, a0, a1, a2, a3, a4, a5⟩ := blk3 Q1.out
    go_wp2_with fail
    have h3 := Q1.out.set3 (.int .u16 (oD : Nat)) (.int .i64 oday) (.int .i64 ode)
    obtain ⟨-, z0, z1, z2, -⟩ := blk3 h3
    refine bodyPost_ret (v := .tuple #[.pointer none, .agg #[.int .u16 (oD : Nat), .int .i64 oday, .int .i64 ode], .int .i64 ec]) (by
      simp [results, Tryd.results38, go_sem, z0, z1, z2]) rfl ⟨?_, set3B HBL.out HLM.out _ _ _⟩
    exact .inl ⟨by rw [HCH.out]; exact HC0.out, none, ⟨oD, oday, ode⟩, by rw [HCH.out]; rfl⟩
  · have HBL := hide (HB1.out.trans (hbl.mono HB1.out.size))
    have HR := hide hb
    have HB := hide (hB.rebase HB1.out)
    have HNB : Hid (b ≠ M ∧ ∀ j, j < 4 → ad j ≠ M) := hide ⟨by have := hB.lob; have := HQ0.out; omega, fun j hj => by have := hB.lo j hj; have := HQ0.out; omega⟩
    replace Q1 := hide (Q1.out.ext hbl)
    obtain ⟨ff, hff⟩ : ∃ x, (folF r m0 l 0).1 = x := ⟨_, rfl⟩
    have HFF := hide hff
    rw [hff]
    have HC0 := hide hc
    clear hc hff hB
    obtain ⟨mD, mday, mde⟩ := ff
    have hb4 : Below w2.heap.size w2 (w2.alloc (.cells #[.int .u16 (mD : Nat), .int .i64 mday, .int .i64 mde] 77)) := (Below.refl _ _).alloc (Nat.le_refl _) _
    have Q3 := hide (Blk.new w2 77 #[.int .u16 (mD : Nat), .int .i64 mday, .int .i64 mde])
    replace Q1 := hide (Q1.out.ext hb4)
    replace HB := hide (HB.out.ext hb4)
    replace HBL := hide (HBL.out.trans (hb4.mono HBL.out.size))
    have HON0 := hide (HON.out ⟨mD, mday, mde⟩)
    unfold momV
    dsimp only at HON0 ⊢
    have HMO : Hid ((folF r m0 l 0).1.on day = Mom.on ⟨mD, mday, mde⟩ day) := hide (by rw [HFF.out])
    obtain ⟨la, hla⟩ : ∃ x, r.last = x := ⟨_, rfl⟩
    have HLA := hide hla
    clear hb hbl g9 g0 g1 g2 HO HD hb4 hla
    go_upto_region 2 with fail
    have HS2 : Hid (∀ W, Below (w2.alloc (.cells #[.int .u16 (mD : Nat), .int .i64 mday, .int .i64 mde] 77)).heap.size (w2.alloc (.cells #[.int .u16 (mD : Nat), .int .i64 mday, .int .i64 mde] 77)) W → ∀ H, H = w2.heap.size → (W.cell? ⟨H, 1, none⟩ = some (.int .i64 mday) ∧ W.cell? ⟨b, 1, none⟩ = some (.int .i64 la))) := hide fun W h H hH => by
      subst hH
      have h1 := (bx8 (HB.out.ext h).blk).2.2.1
      rw [HLA.out] at h1
      exact ⟨(blk3 (Q3.out.ext h)).2.2.1, h1⟩
    have Bd := hide (Below.refl (w2.alloc (.cells #[.int .u16 (mD : Nat), .int .i64 mday, .int .i64 mde] 77)).heap.size (w2.alloc (.cells #[.int .u16 (mD : Nat), .int .i64 mday, .int .i64 mde] 77))).drew
    replace Q1 := hide (Q1.out.ext Bd.out)
    replace Q3 := hide (Q3.out.ext Bd.out)
    replace HB := hide (HB.out.ext Bd.out)
    replace HBL := hide (HBL.out.trans (Bd.out.mono HBL.out.size))
    obtain ⟨H, hH⟩ : ∃ x, w2.heap.size = x := ⟨_, rfl⟩
    have hs := HS2.out _ Bd.out H hH.symm
    rw [hH] at Q3 ⊢
    have HS3 := hide hs
    clear hs HS2 hH
    refine wp_region_J (fun W : World => (W.cell? ⟨H, 1, none⟩ = some (.int .i64 mday) ∧ W.cell? ⟨b, 1, none⟩ = some (.int .i64 la))) (by kernel_rfl) ?_
    generalize (w2.alloc (.cells #[.int .u16 (mD : Nat), .int .i64 mday, .int .i64 mde] 77)).drew = wd at Bd Q1 Q3 HB HBL HS3 ⊢
    by_cases hin : mday ≤ day ∧ day ≤ la
    · have HCH : Hid (frC r l day = 0) := hide (by unfold frC; rw [if_pos HC0.out, HFF.out, HLA.out, if_pos hin])
      have HW2 := hide (HW.out day mday la)
      rw [wth_yes hin] at HW2
      clear hin
      refine tk_start [0, 1, 2, 3, 4, 5, 6, 7, 8, 9, 10] ?_
      iterate 11
        refine tk_one (v := ?_) (by first | exact hF | exact wideFn) HS3.out rfl (by kernel_rfl) (by kernel_rfl) (by kernel_rfl) (by kernel_rfl) rfl ?_ (by first | exact fun _ _ _ h => h | exact fun _ _ _ h => hQ2 _ _ _ _ _ h) ?_
        rotate_left
        · intro W hSW
          simp only [glA, glB, glC]
          (try dsimp only at hSW)
          go_simp
          with_reducible rfl
        (try simp only [glA, glB, glC, Act.put, glD, glE, glF])
      refine tk_end ?_
      refine wpAnyJ_one 11 rfl (by kernel_rfl) (fun K hK => ?_)
      simp only [glA, glB, glC]
      go_simp
      refine ⟨trivial, rfl, ?_⟩
      refine (callsIn_wide.2 (HW2.out _)).mono ?_
      rintro e w5 ⟨rfl, rfl⟩
      skip
      dsimp only
      refine hK.out _ _ (fun _ => HS3.out) ?_
      clear hK K
      (try simp only [glA, glB, glC, Act.put, glD, glE, glF])
      refine wpAnyJ_take 12 (v := ?_) (by first | exact hF | exact wideFn) HS3.out rfl (by kernel_rfl) (by kernel_rfl) (by kernel_rfl) (by kernel_rfl) rfl ?_ (by first | exact fun _ _ _ h => h | exact fun _ _ _ h => hQ2 _ _ _ _ _ h) ?_
      rotate_left
      · intro W hSW
        simp only [glA, glB, glC]
        (try dsimp only at hSW)
        go_simp
        with_reducible rfl
      (try simp only [glA, glB, glC, Act.put, glD, glE, glF])
      refine wpAnyJ_take 13 (v := ?_) (by first | exact hF | exact wideFn) HS3.out rfl (by kernel_rfl) (by kernel_rfl) (by kernel_rfl) (by kernel_rfl) rfl ?_ (by first | exact fun _ _ _ h => h | exact fun _ _ _ h => hQ2 _ _ _ _ _ h) ?_
      rotate_left
      · intro W hSW
        simp only [glA, glB, glC]
        (try dsimp only at hSW)
        go_simp
        with_reducible rfl
      (try simp only [glA, glB, glC, Act.put, glD, glE, glF])
      refine wpAnyJ_done (by kernel_rfl) ?_
      obtain ⟨x9, x0, x1, x2, -⟩ := blk3 Q3.out
      go_wp2_with fail
      refine (HON0.out _).mono ?_
      rintro e w5 ⟨rfl, h5⟩
      replace Q1 := hide (Q1.out.ext h5)
      replace HB := hide (HB.out.ext h5)
      replace HBL := hide (HBL.out.trans (h5.mono HBL.out.size))
      clear h5 x9 x0 x1 x2
      obtain ⟨mo, hmo⟩ : ∃ x, Mom.on ⟨mD, mday, mde⟩ day = x := ⟨_, rfl⟩
      rw [hmo] at HMO ⊢
      clear hmo
      obtain ⟨oD, oday, ode⟩ := mo
      dsimp only
      obtain ⟨a9, a0, a1, a2, a3, a4, a5⟩ := blk3 Q1.out
      go_wp2_with fail
      have h3 := Q1.out.set3 (.int .u16 (oD : Nat)) (.int .i64 oday) (.int .i64 ode)
      obtain ⟨-, z0, z1, z2, -⟩ := blk3 h3
      refine bodyPost_ret (v := .tuple #[.pointer (some ⟨b, 0, none⟩), .agg #[.int .u16 (oD : Nat), .int .i64 oday, .int .i64 ode], .int .i64 0]) (by
        simp [results, Tryd.results38, go_sem, z0, z1, z2]) rfl ⟨?_, set3B HBL.out HLM.out _ _ _⟩
      exact .inr ⟨HCH.out, HR.out, b, ad, by rw [HMO.out]; rfl, ((HB.out.far HLM.out HNB.out.1 HNB.out.2 0 _).far HLM.out HNB.out.1 HNB.out.2 1 _).far HLM.out HNB.out.1 HNB.out.2 2 _⟩
    · have HCH : Hid (frC r l day = 3) := hide (by unfold frC; rw [if_pos HC0.out, HFF.out, HLA.out, if_neg hin])
      have HW2 := hide (HW.out day mday la)
      rw [wth_no hin] at HW2
      clear hin
      refine tk_start [0, 1, 2, 3, 4, 5, 6, 7, 8, 9, 10] ?_
      iterate 11
        refine tk_one (v := ?_) (by first | exact hF | exact wideFn) HS3.out rfl (by kernel_rfl) (by kernel_rfl) (by kernel_rfl) (by kernel_rfl) rfl ?_ (by first | exact fun _ _ _ h => h | exact fun _ _ _ h => hQ2 _ _ _ _ _ h) ?_
        rotate_left
        · intro W hSW
          simp only [glA, glB, glC]
          (try dsimp only at hSW)
          go_simp
          with_reducible rfl
        (try simp only [glA, glB, glC, Act.put, glD, glE, glF])
      refine tk_end ?_
      refine wpAnyJ_one 11 rfl (by kernel_rfl) (fun K hK => ?_)
      simp only [glA, glB, glC]
      go_simp
      refine ⟨trivial, rfl, ?_⟩
      refine (callsIn_wide.2 (HW2.out _)).mono ?_
      rintro e w5 ⟨rfl, rfl⟩
      skip
      dsimp only
      refine hK.out _ _ (fun _ => HS3.out) ?_
      clear hK K
      (try simp only [glA, glB, glC, Act.put, glD, glE, glF])
      refine wpAnyJ_take 12 (v := ?_) (by first | exact hF | exact wideFn) HS3.out rfl (by kernel_rfl) (by kernel_rfl) (by kernel_rfl) (by kernel_rfl) rfl ?_ (by first | exact fun _ _ _ h => h | exact fun _ _ _ h => hQ2 _ _ _ _ _ h) ?_
      rotate_left
      · intro W hSW
        simp only [glA, glB, glC]
        (try dsimp only at hSW)
        go_simp
        with_reducible rfl
      (try simp only [glA, glB, glC, Act.put, glD, glE, glF])
      refine wpAnyJ_take 13 (v := ?_) (by first | exact hF | exact wideFn) HS3.out rfl (by kernel_rfl) (by kernel_rfl) (by kernel_rfl) (by kernel_rfl) rfl ?_ (by first | exact fun _ _ _ h => h | exact fun _ _ _ h => hQ2 _ _ _ _ _ h) ?_
      rotate_left
      · intro W hSW
        simp only [glA, glB, glC]
        (try dsimp only at hSW)
        go_simp
        with_reducible rfl
      (try simp only [glA, glB, glC, Act.put, glD, glE, glF])
      refine wpAnyJ_done (by kernel_rfl) ?_
      obtain ⟨x9, x0, x1, x2, -⟩ := blk3 Q3.out
      go_wp2_with fail
      refine (HON0.out _).mono ?_
      rintro e w5 ⟨rfl, h5⟩
      replace Q1 := hide (Q1.out.ext h5)
      replace HBL := hide (HBL.out.trans (h5.mono HBL.out.size))
      clear h5 x9 x0 x1 x2
      generalize (Mom.on ⟨mD, mday, mde⟩ day) = mo
      obtain ⟨oD, oday, ode⟩ := mo
      dsimp only
      obtain ⟨a9, a0, a1, a2, a3, a4, a5⟩ := blk3 Q1.out
      go_wp2_with fail
      have h3 := Q1.out.set3 (.int .u16 (oD : Nat)) (.int .i64 oday) (.int .i64 ode)
      obtain ⟨-, z0, z1, z2, -⟩ := blk3 h3
      refine bodyPost_ret (v := .tuple #[.pointer (some ⟨b, 0, none⟩), .agg #[.int .u16 (oD : Nat), .int .i64 oday, .int .i64 ode], .int .i64 3]) (by
        simp [results, Tryd.results38, go_sem, z0, z1, z2]) rfl ⟨?_, set3B HBL.out HLM.out _ _ _⟩
      exact .inl ⟨by rw [HCH.out]; decide, some ⟨b, 0, none⟩, ⟨oD, oday, ode⟩, by rw [HCH.out]; rfl⟩
end Go.Proofs.YtcgdalabenflmaaDoor
/- Rite: asked, Open, Forgotten, walked. -/
namespace Go.Proofs.YtcgdalabenflmaaDoor
open Go Go.RowKit Go.Shelf
set_option maxHeartbeats 8000000
set_option maxRecDepth 100000
def AskPost (w : World) (r : Rit) (l : List (Int × Int)) (day : Int) (S : Nat) (e : Ending) (w' : World) : Prop :=
  (frC r l day ≠ 0 ∧ e = .returned (.tuple #[.slice none 0 0, .int .i64 (frC r l day)]) ∨ frC r l day = 0 ∧ riB r = true ∧ ∃ v, e = .returned (.tuple #[v, .int .i64 0]) ∧ OwnJ w' w.heap.size v (ofN (elS S))) ∧ Below w.heap.size w w'
theorem asked_any (g : FuncId) (S : Nat) (hS : S < 65536) (d : Rad) (r : Rit) (A : Option Addr) (c : Nat) (l : List (Int × Int)) (day : Int) (w : World) (hd : RtR w d r) (hz : RtZ r) (hl : l.length ≤ 1000000) (hD : DsR w A l) (hT : TB w)
    (eg : ∀ args w, (callFunc g args).run Tryd.prog w = .ok (.enter g args) w)
    (hg : riB r = true → ∀ W b q, BkR W b d q r → TB W → Calls Tryd.prog g #[.pointer (some ⟨b, 0, none⟩), momV ((folF r m0 l 0).1.on day)] W fun e W' => e = .returned (.int .u16 (S : Nat)) ∧ Below W.heap.size W W') :
    Calls Tryd.prog 48 #[.agg #[.slice d.A r.n d.c, .int .i64 r.last, .int .i64 r.toil], .slice A l.length c, .int .i64 day, .func (.func g) #[] #[]] w (AskPost w r l day S) := by
  have HTB := hide hT
  have HG := hide hg
  have HSS := hide hS
  have HB1 : Hid (Below w.heap.size w (w.alloc (.cells #[.slice d.A r.n d.c, .int .i64 r.last, .int .i64 r.toil] 24))) := hide ((Below.refl _ _).alloc (Nat.le_refl _) _)
  have G1 := hide (Blk.new w 24 #[.slice d.A r.n d.c, .int .i64 r.last, .int .i64 r.toil])
  have HRT := hide (hd.ext HB1.out)
  have HD := hide (hD.ext HB1.out)
  have HO := hide (from_any d r A c l day _ HRT.out hz hl HD.out)
  clear hd hz hD hl hT hg hS
  obtain ⟨ec, hec⟩ : ∃ x, frC r l day = x := ⟨_, rfl⟩
  have HEC := hide hec
  clear hec
  go_enter Tryd.func48, Tryd.ntmps48
  go_upto_region 1 with fail
  generalize w.alloc (.cells #[.slice d.A r.n d.c, .int .i64 r.last, .int .i64 r.toil] 24) = w1 at HB1 G1 HO HD HRT ⊢
  generalize w.heap.size = G at G1 ⊢
  obtain ⟨g9, g0, g1, g2, -⟩ := blk3 G1.out
  go_wp2_with fail
  refine HO.out.mono ?_
  rintro e w2 ⟨⟨hc, v, ⟨mD, mday, mde⟩, rfl⟩ | ⟨hc, hb, b, ad, rfl, hB⟩, hbl⟩
  · have HBL := hide (HB1.out.trans (hbl.mono HB1.out.size))
    rw [HEC.out] at hc ⊢
    have HCH := hide hc
    unfold momV
    dsimp only
    have hb4 : Below w2.heap.size w2 (w2.alloc (.cells #[.int .u16 (mD : Nat), .int .i64 mday, .int .i64 mde] 77)) := (Below.refl _ _).alloc (Nat.le_refl _) _
    replace HBL := hide (HBL.out.trans (hb4.mono HBL.out.size))
    have e1 : (ec == 0) = false := by rw [beq_eq_false_iff_ne]; exact HCH.out
    have e2 : (ec != 0) = true := by rw [bne, e1]; rfl
    clear hc hbl g9 g0 g1 g2 HO HD hb4
    go_wp2_with fail
    go_ret2
    exact ⟨.inl ⟨by rw [HEC.out]; exact HCH.out, by rw [HEC.out]; rfl⟩, HBL.out⟩
  · have HBL := hide (HB1.out.trans (hbl.mono HB1.out.size))
    have HCH := hide hc
    have HR := hide hb
    obtain ⟨mo, hmo⟩ : ∃ x, (folF r m0 l 0).1.on day = x := ⟨_, rfl⟩
    have HGG := hide (HG.out hb)
    rw [hmo] at HGG ⊢
    clear hmo HG
    obtain ⟨mD, mday, mde⟩ := mo
    unfold momV at HGG ⊢
    dsimp only at HGG ⊢
    have hb4 : Below w2.heap.size w2 (w2.alloc (.cells #[.int .u16 (mD : Nat), .int .i64 mday, .int .i64 mde] 77)) := (Below.refl _ _).alloc (Nat.le_refl _) _
    have Q3 := hide (Blk.new w2 77 #[.int .u16 (mD : Nat), .int .i64 mday, .int .i64 mde])
    replace HBL := hide (HBL.out.trans (hb4.mono HBL.out.size))
    have HC := hide (HGG.out _ b _ ((hB.ext hb4).book HRT.out) (HTB.out.ext HBL.out))
    clear hc hbl hb hB g9 g0 g1 g2 HO HD hb4 HGG
    go_upto_region 2 with fail
    generalize w2.alloc (.cells #[.int .u16 (mD : Nat), .int .i64 mday, .int .i64 mde] 77) = w4 at Q3 HBL HC ⊢
    generalize w2.heap.size = H at Q3 ⊢
    obtain ⟨a9, a0, a1, a2, -⟩ := blk3 Q3.out
    go_wp2_with fail
    refine HC.out.mono ?_
    rintro e w5 ⟨rfl, h5⟩
    replace HBL := hide (HBL.out.trans (h5.mono HBL.out.size))
    have HLI := hide (list_any S w5 HSS.out (HTB.out.ext HBL.out))
    clear h5
    go_wp2_with fail
    refine HLI.out.mono ?_
    rintro e w6 ⟨v, rfl, hv, h6⟩
    have HV := hide (OwnJ.low3 hv HBL.out.size)
    replace HBL := hide (HBL.out.trans (h6.mono HBL.out.size))
    clear h6 hv
    go_wp2_with fail
    go_ret2
    exact ⟨.inr ⟨HCH.out, HR.out, v, rfl, HV.out⟩, HBL.out⟩
theorem mo_dlt {r : Rit} (h : riB r = true) (l : List (Int × Int)) (day : Int) : ((folF r m0 l 0).1.on day).d < 65536 := by
  rw [on_d]
  exact fol_dlt (riB_ok h).n10 l m0 0 (by decide)
theorem neS_lt {r : Rit} (h : riB r = true) (m : Mom) : neS r m < 65536 := by
  have := (riB_ok h).n10
  exact lt16 (mkS_lt _ r.n) (by omega)
theorem foS_lt {r : Rit} (h : riB r = true) (s : Nat) (day : Int) : foS r s day < 65536 := by
  have := (riB_ok h).n10
  exact lt16 (mkS_lt _ r.n) (by omega)
theorem open_rite (d : Rad) (r : Rit) (A : Option Addr) (c : Nat) (l : List (Int × Int)) (day : Int) (w : World) (hd : RtR w d r) (hz : RtZ r) (hl : l.length ≤ 1000000) (hD : DsR w A l) (hT : TB w) :
    Calls Tryd.prog 20 #[.agg #[.slice d.A r.n d.c, .int .i64 r.last, .int .i64 r.toil], .slice A l.length c, .int .i64 day] w (AskPost w r l day (if riB r = true then neS r ((folF r m0 l 0).1.on day) else 0)) := by
  have HAS : Hid (∀ W, RtR W d r → DsR W A l → TB W → Calls Tryd.prog 48 #[.agg #[.slice d.A r.n d.c, .int .i64 r.last, .int .i64 r.toil], .slice A l.length c, .int .i64 day, .func (.func 49) #[] #[]] W (AskPost W r l day (if riB r = true then neS r ((folF r m0 l 0).1.on day) else 0))) := hide fun W h1 h2 h3 =>
    asked_any _ _ (by split; exact neS_lt (by assumption) _; decide) d r A c l day W h1 hz hl h2 h3 (fun _ _ => rfl) (fun hr W b q hB _ => by rw [if_pos hr]; exact next_any b d q r _ W (riB_ok hr) (mo_dlt hr l day) hB)
  have HB1 : Hid (Below w.heap.size w (w.alloc (.cells #[.slice d.A r.n d.c, .int .i64 r.last, .int .i64 r.toil] 24))) := hide ((Below.refl _ _).alloc (Nat.le_refl _) _)
  have G1 := hide (Blk.new w 24 #[.slice d.A r.n d.c, .int .i64 r.last, .int .i64 r.toil])
  have HRT := hide (hd.ext HB1.out)
  have HD := hide (hD.ext HB1.out)
  have HTB := hide (hT.ext HB1.out)
  have HO := hide (HAS.out _ HRT.out HD.out HTB.out)
  clear hd hz hD hl hT HAS
  obtain ⟨S, hS⟩ : ∃ x, (if riB r = true then neS r ((folF r m0 l 0).1.on day) else 0) = x := ⟨_, rfl⟩
  rw [hS] at HO ⊢
  clear hS
  obtain ⟨ec, hec⟩ : ∃ x, frC r l day = x := ⟨_, rfl⟩
  have HEC := hide hec
  clear hec
  go_enter Tryd.func20, Tryd.ntmps20
  go_upto_region 1 with fail
  generalize w.alloc (.cells #[.slice d.A r.n d.c, .int .i64 r.last, .int .i64 r.toil] 24) = w1 at HB1 G1 HO HD HRT HTB ⊢
  generalize w.heap.size = G at G1 ⊢
  obtain ⟨g9, g0, g1, g2, -⟩ := blk3 G1.out
  go_wp2_with fail
  refine HO.out.mono ?_
  rintro e w2 ⟨⟨hc, rfl⟩ | ⟨hc, hb, v, rfl, hv⟩, hbl⟩
  · have HBL := hide (HB1.out.trans (hbl.mono HB1.out.size))
    rw [HEC.out] at hc ⊢
    have HCH := hide hc
    clear hc hbl g9 g0 g1 g2 HO HD
    go_wp2_with fail
    go_ret2
    exact ⟨.inl ⟨by rw [HEC.out]; exact HCH.out, by rw [HEC.out]; rfl⟩, HBL.out⟩
  · have HBL := hide (HB1.out.trans (hbl.mono HB1.out.size))
    have HV := hide (And.intro hc (And.intro hb (OwnJ.low3 hv HB1.out.size)))
    clear hc hb hv hbl g9 g0 g1 g2 HO HD
    go_wp2_with fail
    go_ret2
    exact ⟨.inr ⟨HV.out.1, HV.out.2.1, v, rfl, HV.out.2.2⟩, HBL.out⟩
theorem forg1_any (b : Nat) (d : Rad) (q : Bad) (r : Rit) (m : Mom) (w : World) (hr : RiOk r) (hm : m.d < 65536) (hB : BkR w b d q r) :
    Calls Tryd.prog 50 #[.pointer (some ⟨b, 0, none⟩), momV m] w fun e w' => e = .returned (.int .u16 (foS r m.d m.day : Nat)) ∧ Below w.heap.size w w' := by
  obtain ⟨mD, mday, mde⟩ := m
  unfold momV
  dsimp only at hm ⊢
  have HB1 : Hid (Below w.heap.size w (w.alloc (.cells #[.int .u16 (mD : Nat), .int .i64 mday, .int .i64 mde] 77))) := hide ((Below.refl _ _).alloc (Nat.le_refl _) _)
  have Q1 := hide (Blk.new w 77 #[.int .u16 (mD : Nat), .int .i64 mday, .int .i64 mde])
  have HF := hide (forgotten_any b d q r mD mday _ hr hm (hB.ext HB1.out))
  clear hr hB hm
  go_enter Tryd.func50, Tryd.ntmps50
  go_upto_region 1 with fail
  generalize w.alloc (.cells #[.int .u16 (mD : Nat), .int .i64 mday, .int .i64 mde] 77) = w1 at HB1 Q1 HF ⊢
  generalize w.heap.size = G at Q1 ⊢
  obtain ⟨g9, g0, g1, g2, -⟩ := blk3 Q1.out
  go_wp2_with fail
  refine HF.out.mono ?_
  rintro e w2 ⟨rfl, h2⟩
  have HBL := hide (HB1.out.trans (h2.mono HB1.out.size))
  clear h2 g9 g0 g1 g2
  go_wp2_with fail
  go_ret
  exact ⟨rfl, HBL.out⟩
theorem forgotten_rite (d : Rad) (r : Rit) (A : Option Addr) (c : Nat) (l : List (Int × Int)) (day : Int) (w : World) (hd : RtR w d r) (hz : RtZ r) (hl : l.length ≤ 1000000) (hD : DsR w A l) (hT : TB w) :
    Calls Tryd.prog 21 #[.agg #[.slice d.A r.n d.c, .int .i64 r.last, .int .i64 r.toil], .slice A l.length c, .int .i64 day] w (AskPost w r l day (if riB r = true then foS r ((folF r m0 l 0).1.on day).d ((folF r m0 l 0).1.on day).day else 0)) := by
  have HAS : Hid (∀ W, RtR W d r → DsR W A l → TB W → Calls Tryd.prog 48 #[.agg #[.slice d.A r.n d.c, .int .i64 r.last, .int .i64 r.toil], .slice A l.length c, .int .i64 day, .func (.func 50) #[] #[]] W (AskPost W r l day (if riB r = true then foS r ((folF r m0 l 0).1.on day).d ((folF r m0 l 0).1.on day).day else 0))) := hide fun W h1 h2 h3 =>
    asked_any _ _ (by split; exact foS_lt (by assumption) _ _; decide) d r A c l day W h1 hz hl h2 h3 (fun _ _ => rfl) (fun hr W b q hB _ => by rw [if_pos hr]; exact forg1_any b d q r _ W (riB_ok hr) (mo_dlt hr l day) hB)
  have HB1 : Hid (Below w.heap.size w (w.alloc (.cells #[.slice d.A r.n d.c, .int .i64 r.last, .int .i64 r.toil] 24))) := hide ((Below.refl _ _).alloc (Nat.le_refl _) _)
  have G1 := hide (Blk.new w 24 #[.slice d.A r.n d.c, .int .i64 r.last, .int .i64 r.toil])
  have HRT := hide (hd.ext HB1.out)
  have HD := hide (hD.ext HB1.out)
  have HTB := hide (hT.ext HB1.out)
  have HO := hide (HAS.out _ HRT.out HD.out HTB.out)
  clear hd hz hD hl hT HAS
  obtain ⟨S, hS⟩ : ∃ x, (if riB r = true then foS r ((folF r m0 l 0).1.on day).d ((folF r m0 l 0).1.on day).day else 0) = x := ⟨_, rfl⟩
  rw [hS] at HO ⊢
  clear hS
  obtain ⟨ec, hec⟩ : ∃ x, frC r l day = x := ⟨_, rfl⟩
  have HEC := hide hec
  clear hec
  go_enter Tryd.func21, Tryd.ntmps21
  go_upto_region 1 with fail
  generalize w.alloc (.cells #[.slice d.A r.n d.c, .int .i64 r.last, .int .i64 r.toil] 24) = w1 at HB1 G1 HO HD HRT HTB ⊢
  generalize w.heap.size = G at G1 ⊢
  obtain ⟨g9, g0, g1, g2, -⟩ := blk3 G1.out
  go_wp2_with fail
  refine HO.out.mono ?_
  rintro e w2 ⟨⟨hc, rfl⟩ | ⟨hc, hb, v, rfl, hv⟩, hbl⟩
  · have HBL := hide (HB1.out.trans (hbl.mono HB1.out.size))
    rw [HEC.out] at hc ⊢
    have HCH := hide hc
    clear hc hbl g9 g0 g1 g2 HO HD
    go_wp2_with fail
    go_ret2
    exact ⟨.inl ⟨by rw [HEC.out]; exact HCH.out, by rw [HEC.out]; rfl⟩, HBL.out⟩
  · have HBL := hide (HB1.out.trans (hbl.mono HB1.out.size))
    have HV := hide (And.intro hc (And.intro hb (OwnJ.low3 hv HB1.out.size)))
    clear hc hb hv hbl g9 g0 g1 g2 HO HD
    go_wp2_with fail
    go_ret2
    exact ⟨.inr ⟨HV.out.1, HV.out.2.1, v, rfl, HV.out.2.2⟩, HBL.out⟩
end Go.Proofs.YtcgdalabenflmaaDoor
/- Rite: the law's helpers: same lists of deeds; a list has a number. -/
namespace Go.Proofs.YtcgdalabenflmaaDoor
open Go Go.RowKit Go.Shelf
set_option maxHeartbeats 8000000
set_option maxRecDepth 100000
theorem has_cont {l : List Int} {x : Int} {k : Nat} (hk : k < l.length) (h : l.getD k 0 = x) : l.contains x = true := by
  refine List.contains_iff_mem.2 ?_
  rw [← h, List.getD_eq_getElem?_getD, List.getElem?_eq_getElem hk]
  exact List.getElem_mem hk
theorem has_not {l : List Int} {x : Int} (h : ∀ t, t < l.length → l.getD t 0 ≠ x) : l.contains x = false := by
  rw [← Bool.not_eq_true, List.contains_iff_mem]
  intro hm
  obtain ⟨i, hi, he⟩ := List.getElem_of_mem hm
  refine h i hi ?_
  rw [List.getD_eq_getElem?_getD, List.getElem?_eq_getElem hi]
  exact he
theorem hasl_any (A : Option Addr) (c : Nat) (l : List Int) (x : Int) (w : World) (hl : l.length ≤ 1000000) (hA : LI w w.heap.size A l) :
    Calls Tryd.prog 35 #[.slice A l.length c, .int .i64 x] w fun e w' => e = .returned (.bool (l.contains x)) ∧ w = w' := by
  have HA := hide hA
  obtain ⟨n, hn⟩ : ∃ n, l.length = n := ⟨_, rfl⟩
  have HN := hide hn
  rw [hn] at hl
  rw [hn]
  obtain ⟨R, hR⟩ : ∃ R, l.contains x = R := ⟨_, rfl⟩
  have HR := hide hR
  rw [hR]
  clear hA hn hR
  go_enter Tryd.func35, Tryd.ntmps35
  go_wp2_with fail
  go_loopw [5] (fun i wr => ∃ k : Nat, k ≤ n ∧ i = .int .i64 k ∧ Hid (∀ t, t < k → l.getD t 0 ≠ x) ∧ Hid (w = wr)) (fun i _ => n - (intOf i).toNat)
  case atStart => exact ⟨0, Nat.zero_le _, rfl, hide (fun t ht => absurd ht (by omega)), hide rfl⟩
  case round =>
    obtain ⟨k, hk, rfl, HK, HW⟩ := hrel
    obtain rfl := HW.out
    have hst : IntKind.i64.wrap ((k : Int) + 1) = ((k + 1 : Nat) : Int) := by rw [IntWalk.i64_in _ (by omega)]; omega
    by_cases hlt : k < n
    · have hlt' : (k : Int) < (n : Int) := by omega
      have hkl : k < l.length := by rw [HN.out]; exact hlt
      obtain ⟨b, off, rfl, hb, hc⟩ := VR1.at_ HA.out hkl
      obtain ⟨y, hy⟩ : ∃ y, l.getD k 0 = y := ⟨_, rfl⟩
      replace hc : w.cell? ⟨b, off + k, none⟩ = some (.int .i64 y) := by rw [← hy]; exact hc
      have HY := hide hy
      clear hy
      by_cases hyx : y = x
      · have h1 : (y == x) = true := by rw [hyx]; exact beq_self_eq_true _
        have HRT : Hid (R = true) := hide (by rw [← HR.out]; exact has_cont hkl (by rw [HY.out, hyx]))
        clear hyx
        go_wp2_with fail
        go_ret
        exact ⟨by rw [HRT.out]; rfl, rfl⟩
      · have h1 : (y == x) = false := by rw [beq_eq_false_iff_ne]; exact hyx
        have HYX := hide hyx
        clear hyx
        go_wp2_with fail
        go_roundw
        case rel => exact ⟨k + 1, by omega, by go_num, hide (fun t ht => by
          by_cases e : t = k
          · rw [e, HY.out]; exact HYX.out
          · exact HK.out t (by omega)), by first | exact hide rfl | exact hide trivial⟩
        case measure => simp [intOf]; omega
    · obtain rfl : n = k := by omega
      have hnl : ¬ (n : Int) < (n : Int) := by omega
      have HRF : Hid (R = false) := hide (by rw [← HR.out]; exact has_not (by rw [HN.out]; exact HK.out))
      go_wp2_with fail
      go_ret
      exact ⟨by rw [HRF.out]; rfl, rfl⟩
theorem same_yes {l m : List (Int × Int)} (hl : l.length = m.length) (h : ∀ t, t < l.length → l.getD t (0, 0) = m.getD t (0, 0)) : l = m := by
  apply List.ext_getElem hl
  intro k h1 h2
  have := h k h1
  rwa [List.getD_eq_getElem?_getD, List.getD_eq_getElem?_getD, List.getElem?_eq_getElem h1, List.getElem?_eq_getElem h2] at this
theorem same_any (A A' : Option Addr) (c c' : Nat) (l m : List (Int × Int)) (w : World) (hl : l.length ≤ 1000000) (hm : m.length ≤ 1000000) (hA : DsR w A l) (hB : DsR w A' m) :
    Calls Tryd.prog 19 #[.slice A l.length c, .slice A' m.length c'] w fun e w' => e = .returned (.bool (decide (l = m))) ∧ Below w.heap.size w w' := by
  have HA := hide hA
  have HB := hide hB
  obtain ⟨n, hn⟩ : ∃ n, l.length = n := ⟨_, rfl⟩
  obtain ⟨n', hn'⟩ : ∃ n, m.length = n := ⟨_, rfl⟩
  have HN := hide (And.intro hn hn')
  rw [hn] at hl
  rw [hn'] at hm
  rw [hn, hn']
  obtain ⟨R, hR⟩ : ∃ R, decide (l = m) = R := ⟨_, rfl⟩
  have HR := hide hR
  rw [hR]
  clear hA hB hn hn' hR
  go_enter Tryd.func19, Tryd.ntmps19
  by_cases hnn : n = n'
  · subst hnn
    go_wp2_with fail
    go_loopw [5] (fun i wr => ∃ k : Nat, k ≤ n ∧ i = .int .i64 k ∧ Hid (∀ t, t < k → l.getD t (0, 0) = m.getD t (0, 0)) ∧ Hid (Below w.heap.size w wr)) (fun i _ => n - (intOf i).toNat)
    case atStart => exact ⟨0, Nat.zero_le _, rfl, hide (fun t ht => absurd ht (by omega)), hide (Below.refl _ _)⟩
    case round =>
      obtain ⟨k, hk, rfl, HK, HW⟩ := hrel
      have hst : IntKind.i64.wrap ((k : Int) + 1) = ((k + 1 : Nat) : Int) := by rw [IntWalk.i64_in _ (by omega)]; omega
      by_cases hlt : k < n
      · have hlt' : (k : Int) < (n : Int) := by omega
        obtain ⟨⟨a1, a2⟩, hx⟩ : ∃ x, l.getD k (0, 0) = x := ⟨_, rfl⟩
        obtain ⟨⟨b1, b2⟩, hy⟩ : ∃ x, m.getD k (0, 0) = x := ⟨_, rfl⟩
        obtain ⟨b, off, rfl, hb, p1, p2⟩ := (HA.out.ext HW.out).at_ (show k < l.length by rw [HN.out.1]; exact hlt) hx
        obtain ⟨b', off', rfl, hb', q1, q2⟩ := (HB.out.ext HW.out).at_ (show k < m.length by rw [HN.out.2]; exact hlt) hy
        dsimp only at p1 p2 q1 q2
        have HX := hide (And.intro hx hy)
        have HS6 : Hid (∀ W, Below wr.heap.size wr W → ((W.cell? ⟨b, off + k * 2, none⟩ = some (.int .i64 a1) ∧ W.cell? ⟨b, off + k * 2 + 1, none⟩ = some (.int .i64 a2)) ∧ W.cell? ⟨b', off' + k * 2, none⟩ = some (.int .i64 b1) ∧ W.cell? ⟨b', off' + k * 2 + 1, none⟩ = some (.int .i64 b2))) := hide fun W h => ⟨⟨(h.cell (p := ⟨b, off + k * 2, none⟩) hb).trans p1, (h.cell (p := ⟨b, off + k * 2 + 1, none⟩) hb).trans p2⟩, (h.cell (p := ⟨b', off' + k * 2, none⟩) hb').trans q1, (h.cell (p := ⟨b', off' + k * 2 + 1, none⟩) hb').trans q2⟩
        clear hx hy p1 p2 q1 q2 hb hb'
        go_upto_region 6 with fail
        have Bd := hide (Below.refl wr.heap.size wr).drew
        replace HW := hide (HW.out.trans (Bd.out.mono HW.out.size))
        refine wp_region_J (fun W : World => ((W.cell? ⟨b, off + k * 2, none⟩ = some (.int .i64 a1) ∧ W.cell? ⟨b, off + k * 2 + 1, none⟩ = some (.int .i64 a2)) ∧ W.cell? ⟨b', off' + k * 2, none⟩ = some (.int .i64 b1) ∧ W.cell? ⟨b', off' + k * 2 + 1, none⟩ = some (.int .i64 b2))) (by kernel_rfl) ?_
        generalize wr.drew = wd at Bd HW ⊢
        by_cases e1 : a1 = b1
        · have f1 : (a1 == b1) = true := by rw [e1]; exact beq_self_eq_true _
          by_cases e2 : a2 = b2
          · have f2 : (a2 == b2) = true := by rw [e2]; exact beq_self_eq_true _
            have HE : Hid (l.getD k (0, 0) = m.getD k (0, 0)) := hide (by rw [HX.out.1, HX.out.2, e1, e2])
            clear e1 e2
            refine tk_start [0, 1, 2, 3, 4, 5, 6, 7, 8] ?_
            iterate 9
              refine tk_one (v := ?_) (by first | exact hF | exact wideFn) (HS6.out _ Bd.out) rfl (by kernel_rfl) (by kernel_rfl) (by kernel_rfl) (by kernel_rfl) rfl ?_ (by first | exact fun _ _ _ h => h | exact fun _ _ _ h => hQ2 _ _ _ _ _ h) ?_
              rotate_left
              · intro W hSW
                simp only [List.getElem_toArray, List.getElem_cons_zero, List.getElem_cons_succ]
                (try dsimp only at hSW)
                go_simp
                with_reducible rfl
              (try simp only [List.getElem_toArray, List.getElem_cons_zero, List.getElem_cons_succ, Act.put, List.setIfInBounds_toArray, List.set_cons_zero, List.set_cons_succ])
            refine tk_end ?_
            refine wpAnyJ_done (by kernel_rfl) ?_
            go_wp2_with fail
            go_roundw
            case rel => exact ⟨k + 1, by omega, by go_num, hide (fun t ht => by
              by_cases e : t = k
              · rw [e]; exact HE.out
              · exact HK.out t (by omega)), HW⟩
            case measure => simp [intOf]; omega
          · have f2 : (a2 == b2) = false := by rw [beq_eq_false_iff_ne]; exact e2
            have HE : Hid (R = false) := hide (by
              rw [← HR.out]
              refine decide_eq_false (fun h => e2 ?_)
              have h1 := HX.out.1
              rw [h, HX.out.2] at h1
              injection h1 with h1 h2
              exact h2.symm)
            clear e1 e2
            refine tk_start [0, 1, 2, 3, 4, 5, 6, 7, 8] ?_
            iterate 9
              refine tk_one (v := ?_) (by first | exact hF | exact wideFn) (HS6.out _ Bd.out) rfl (by kernel_rfl) (by kernel_rfl) (by kernel_rfl) (by kernel_rfl) rfl ?_ (by first | exact fun _ _ _ h => h | exact fun _ _ _ h => hQ2 _ _ _ _ _ h) ?_
              rotate_left
              · intro W hSW
                simp only [List.getElem_toArray, List.getElem_cons_zero, List.getElem_cons_succ]
                (try dsimp only at hSW)
                go_simp
                with_reducible rfl
              (try simp only [List.getElem_toArray, List.getElem_cons_zero, List.getElem_cons_succ, Act.put, List.setIfInBounds_toArray, List.set_cons_zero, List.set_cons_succ])
            refine tk_end ?_
            refine wpAnyJ_done (by kernel_rfl) ?_
            go_wp2_with fail
            go_ret
            exact ⟨by rw [HE.out]; rfl, HW.out⟩
        · have f1 : (a1 == b1) = false := by rw [beq_eq_false_iff_ne]; exact e1
          have HE : Hid (R = false) := hide (by
            rw [← HR.out]
            refine decide_eq_false (fun h => e1 ?_)
            have h1 := HX.out.1
            rw [h, HX.out.2] at h1
            injection h1 with h1 h2
            exact h1.symm)
          clear e1
          refine tk_start [0, 1, 2, 3, 4, 5, 6, 7, 8] ?_
          iterate 9
            refine tk_one (v := ?_) (by first | exact hF | exact wideFn) (HS6.out _ Bd.out) rfl (by kernel_rfl) (by kernel_rfl) (by kernel_rfl) (by kernel_rfl) rfl ?_ (by first | exact fun _ _ _ h => h | exact fun _ _ _ h => hQ2 _ _ _ _ _ h) ?_
            rotate_left
            · intro W hSW
              simp only [List.getElem_toArray, List.getElem_cons_zero, List.getElem_cons_succ]
              (try dsimp only at hSW)
              go_simp
              with_reducible rfl
            (try simp only [List.getElem_toArray, List.getElem_cons_zero, List.getElem_cons_succ, Act.put, List.setIfInBounds_toArray, List.set_cons_zero, List.set_cons_succ])
          refine tk_end ?_
          refine wpAnyJ_done (by kernel_rfl) ?_
          go_wp2_with fail
          go_ret
          exact ⟨by rw [HE.out]; rfl, HW.out⟩
      · obtain rfl : n = k := by omega
        have hnl : ¬ (n : Int) < (n : Int) := by omega
        have HE : Hid (R = true) := hide (by
          rw [← HR.out]
          exact decide_eq_true (same_yes (by rw [HN.out.1, HN.out.2]) (by rw [HN.out.1]; exact HK.out)))
        go_wp2_with fail
        go_ret
        exact ⟨by rw [HE.out]; rfl, HW.out⟩
  · have hni : ¬ (n : Int) = (n' : Int) := by omega
    have HE : Hid (R = false) := hide (by
      rw [← HR.out]
      refine decide_eq_false (fun h => hnn ?_)
      rw [← HN.out.1, ← HN.out.2, h])
    clear hnn
    go_wp2_with fail
    go_ret
    exact ⟨by rw [HE.out]; rfl, Below.refl _ _⟩
end Go.Proofs.YtcgdalabenflmaaDoor
/- Rite: a map of moments and numbers: what the fewest deeds are, as far as they are known. -/
namespace Go.Proofs.YtcgdalabenflmaaDoor
open Go Go.RowKit Go.Shelf
set_option maxHeartbeats 8000000
set_option maxRecDepth 100000
/-- moments that a rite can come to -/
structure MoOk (r : Rit) (m : Mom) : Prop where
  d : m.d < 65536
  d0 : 0 ≤ m.day
  d1 : m.day ≤ r.last
  e0 : 0 ≤ m.de
  e1 : m.de ≤ r.toil
theorem MoOk.on {r : Rit} {m : Mom} (h : MoOk r m) (hr : RiOk r) {day : Int} (h0 : 0 ≤ day) (h1 : day ≤ r.last) : MoOk r (m.on day) := by
  unfold Mom.on
  split
  · exact h
  · exact ⟨h.d, h0, h1, Int.le_refl _, by have := hr.t1; show (0 : Int) ≤ r.toil; omega⟩
theorem MoOk.wi {r : Rit} {m : Mom} (h : MoOk r m) (hr : RiOk r) {a : Nat} (hb : brF r m.d m.day m.de a = 0) : MoOk r (m.wi a) := by
  have h1 := br_undone hb
  have h2 : ¬ r.toil ≤ m.de := by
    intro ht
    unfold brF at hb
    rw [if_pos ht] at hb
    repeat' split at hb
    all_goals cases hb
  have := hr.n10
  have e1 : (m.wi a).d < 65536 := by
    show m.d ||| 2 ^ a < 2 ^ 16
    refine Nat.or_lt_two_pow h.d (Nat.pow_lt_pow_right (by decide) ?_)
    omega
  have e0 := h.e0
  exact ⟨e1, h.d0, h.d1, by show (0 : Int) ≤ m.de + 1; omega, by show m.de + 1 ≤ r.toil; omega⟩
theorem rt_laid : laidOutB Tryd.prog = true := by kernel_rfl
theorem mo_keyed : Maps.Keyed Tryd.prog 77 := Maps.Keyed.of_law (deep_law_laid rt_laid (m := 2) (by omega) (of_decide_eq_true (by kernel_rfl)) (by kernel_rfl) (by kernel_rfl))
theorem mo_size : Tryd.prog.types.size = (Tryd.prog.types.size - 3) + 3 := by kernel_rfl
theorem mo_keyT : Tryd.prog.keyType 77 = true := by kernel_rfl
theorem mo_formed (a b c : Value) : (Value.agg #[a, b, c]).formed Tryd.prog 77 = true := by kernel_rfl
theorem mo_lits (n : Nat) (d : Nat) (day de : Int) (hd : d < 65536) (h1 : 0 ≤ day ∧ day ≤ 1000000) (h2 : 0 ≤ de ∧ de ≤ 1000000) :
    Tryd.prog.keyLits (n + 3) 77 [.int .u16 d, .int .i64 day, .int .i64 de] = some [.int .u16 d, .int .i64 day, .int .i64 de] := by
  have w1 : (Lit.int .u16 d).wf = true := by simp [Lit.wf, IntKind.min, IntKind.max, IntKind.signed, IntKind.bits]; omega
  have w2 : (Lit.int .i64 day).wf = true := by simp [Lit.wf, IntKind.min, IntKind.max, IntKind.signed, IntKind.bits]; omega
  have w3 : (Lit.int .i64 de).wf = true := by simp [Lit.wf, IntKind.min, IntKind.max, IntKind.signed, IntKind.bits]; omega
  have c0 : Tryd.prog.cellsOf 77 = 3 := by kernel_rfl
  have c1 : Tryd.prog.cellsOf 75 = 1 := by kernel_rfl
  have c2 : Tryd.prog.cellsOf 3 = 1 := by kernel_rfl
  simp [Program.keyLits, Tryd.underlying77, Tryd.underlying75, Tryd.underlying3, c0, c1, c2, w1, w2, w3]
theorem mo_key {r : Rit} (hr : RiOk r) {m : Mom} (h : MoOk r m) : ∃ l, keyOf Tryd.prog 77 (momV m) = some l := by
  obtain ⟨d, day, de⟩ := m
  obtain ⟨h1, h2, h3, h4, h5⟩ := h
  dsimp only at h1 h2 h3 h4 h5
  have := hr.l30
  have := hr.t4
  unfold keyOf momV
  rw [Tryd.underlying77]
  dsimp only
  rw [mo_keyT, mo_formed, mo_size]
  show ∃ l, (if true = true then Option.map _ (Tryd.prog.keyLits (Tryd.prog.types.size - 3 + 1 + 3) 77 [.int .u16 d, .int .i64 day, .int .i64 de]) else none) = some l
  rw [if_pos rfl, mo_lits _ _ _ _ h1 ⟨h2, by omega⟩ ⟨h4, by omega⟩]
  exact ⟨_, rfl⟩
theorem nodup_le {α : Type} [DecidableEq α] : ∀ (l M : List α), l.Pairwise (· ≠ ·) → (∀ x ∈ l, x ∈ M) → l.length ≤ M.length
  | [], _, _, _ => Nat.zero_le _
  | x :: l, M, h, hs => by
    obtain ⟨h1, h2⟩ := List.pairwise_cons.1 h
    have hx := hs x (by simp)
    have := nodup_le l (M.erase x) h2 fun y hy => (List.mem_erase_of_ne (h1 y hy).symm).2 (hs y (by simp [hy]))
    rw [List.length_erase_of_mem hx] at this
    have := List.length_pos_of_mem hx
    simp only [List.length_cons]
    omega
/-- block b holds the numbers of some moments of rite r -/
def FmAt (w : World) (b : Nat) (r : Rit) : Prop :=
  ∃ (es : List (Lit × DataW Unit)) (n : Nat), w.ownsMap Tryd.prog 77 (plainElem Tryd.prog 3) b n (.map es) ∧ ∀ p ∈ es, ∃ m, MoOk r m ∧ keyOf Tryd.prog 77 (momV m) = some p.1 ∧ p.2 = .lit (.int .i64 (fwN r m))
theorem FmAt.lt {w : World} {b : Nat} {r : Rit} (h : FmAt w b r) : b < w.heap.size := by
  obtain ⟨es, n, h1, -⟩ := h
  exact h1.lt
theorem FmAt.made (w : World) (r : Rit) : FmAt (w.alloc (.map #[] 0)) w.heap.size r :=
  ⟨[], 0, World.ownsMap_made w _ _ _, fun p hp => by cases hp⟩
theorem FmAt.kept {w w' : World} {b : Nat} {r : Rit} (h : FmAt w b r) {row : Option Nat} (hg : w.grownBy w' row) (hne : some b ≠ row) : FmAt w' b r := by
  obtain ⟨es, n, h1, h2⟩ := h
  exact ⟨es, n, h1.kept hg hne, h2⟩
theorem FmAt.ext {w w' : World} {b : Nat} {r : Rit} (h : FmAt w b r) (hb : Below w.heap.size w w') : FmAt w' b r := h.kept (grown_no hb) (by simp)
theorem FmAt.map {w : World} {b : Nat} {r : Rit} (h : FmAt w b r) : ∃ o : Obj, w.heap[b]? = some o ∧ o.isCells = false := by
  obtain ⟨es, n, ⟨es', clock, h1, -⟩, -⟩ := h
  exact ⟨_, h1, rfl⟩
def moAt (i : Nat) : Mom := ⟨i % 65536, ((i / 65536 % 32 : Nat) : Int), ((i / 65536 / 32 : Nat) : Int)⟩
theorem moAt_ok {r : Rit} (hr : RiOk r) {m : Mom} (h : MoOk r m) : ∃ i, i < 65536 * 32 * 8 ∧ moAt i = m := by
  obtain ⟨d, day, de⟩ := m
  obtain ⟨h1, h2, h3, h4, h5⟩ := h
  dsimp only at h1 h2 h3 h4 h5
  have := hr.l30
  have := hr.t4
  refine ⟨d + 65536 * (day.toNat + 32 * de.toNat), by omega, ?_⟩
  unfold moAt
  have e1 : (d + 65536 * (day.toNat + 32 * de.toNat)) % 65536 = d := by omega
  have e2 : (d + 65536 * (day.toNat + 32 * de.toNat)) / 65536 = day.toNat + 32 * de.toNat := by omega
  rw [e1, e2]
  have e3 : (day.toNat + 32 * de.toNat) % 32 = day.toNat := by omega
  have e4 : (day.toNat + 32 * de.toNat) / 32 = de.toNat := by omega
  rw [e3, e4]
  congr 1 <;> omega
theorem fm_size {w : World} {b : Nat} {r : Rit} (hr : RiOk r) {es : List (Lit × DataW Unit)} {n : Nat} (h1 : w.ownsMap Tryd.prog 77 (plainElem Tryd.prog 3) b n (.map es))
    (h2 : ∀ p ∈ es, ∃ m, MoOk r m ∧ keyOf Tryd.prog 77 (momV m) = some p.1 ∧ p.2 = .lit (.int .i64 (fwN r m))) : es.length ≤ 65536 * 32 * 8 := by
  classical
  obtain ⟨es', e, hd⟩ := h1.tidy mo_keyed
  injection e with e
  subst e
  have h3 := nodup_le (es.map (·.1)) ((List.range (65536 * 32 * 8)).map fun i => (keyOf Tryd.prog 77 (momV (moAt i))).getD (.bool true)) (List.pairwise_map.2 hd) (fun x hx => by
    obtain ⟨p, hp, rfl⟩ := List.mem_map.1 hx
    obtain ⟨m, hm, hk, -⟩ := h2 p hp
    obtain ⟨i, hi, rfl⟩ := moAt_ok hr hm
    exact List.mem_map.2 ⟨i, List.mem_range.2 hi, by rw [hk]; rfl⟩)
  rw [List.length_map, List.length_map, List.length_range] at h3
  exact h3
theorem fm_look {w : World} {b : Nat} {r : Rit} (hr : RiOk r) (h : FmAt w b r) {m : Mom} (hm : MoOk r m) :
    ∃ (c : Int) (y : Bool), (Instr.lookup 81 (.map (some b)) (momV m) true).run Tryd.prog w = .ok (.tuple #[.int .i64 c, .bool y]) w ∧ (y = true → c = fwN r m) := by
  obtain ⟨es, n, h1, h2⟩ := h
  obtain ⟨l, hl⟩ := mo_key hr hm
  obtain ⟨v, ps, hrun, hv⟩ := h1.look_ok (t := 81) (e := 3) (z := .int .i64 0) (zd := .lit (.int .i64 0)) (zp := []) mo_keyed Tryd.underlying81 (by kernel_rfl) (plainElem_int Tryd.underlying3 (by decide)) hl
  obtain ⟨c, rfl, hc, -⟩ := plainElem_int_inv Tryd.underlying3 hv
  simp only [Prod.mk.injEq] at hc
  refine ⟨c, _, hrun, fun hy => ?_⟩
  obtain ⟨hc, -⟩ := hc
  unfold Maps.has at hy
  obtain ⟨p, hp, hs⟩ := List.any_eq_true.1 hy
  unfold DataW.atKey at hc
  dsimp only at hc
  cases hf : es.find? (fun p => p.1.sameKey l) with
  | none => exact absurd hs (by have := List.find?_eq_none.1 hf p hp; exact this)
  | some q =>
    rw [hf] at hc
    dsimp only at hc
    obtain ⟨m', hm', hk, he⟩ := h2 q (List.mem_of_find?_eq_some hf)
    have e1 : q.1 = l := WideAt.sameKey_eq (List.find?_some (p := fun p : Lit × DataW Unit => p.1.sameKey l) hf)
    rw [e1] at hk
    have e2 := mo_keyed.inj hk hl
    have e3 : m' = m := by
      obtain ⟨a, b, c⟩ := m'
      obtain ⟨a', b', c'⟩ := m
      unfold momV at e2
      simp at e2
      obtain ⟨e4, rfl, rfl⟩ := e2
      congr 1
      first | exact e4 | omega
    subst e3
    rw [he] at hc
    simpa using hc.symm
theorem fm_put {w : World} {b : Nat} {r : Rit} (hr : RiOk r) (h : FmAt w b r) {m : Mom} (hm : MoOk r m) :
    ∃ w', (Instr.mapUpdate 81 (.map (some b)) (momV m) (.int .i64 (fwN r m))).run Tryd.prog w = .ok () w' ∧ FmAt w' b r ∧ w.grownBy w' (some b) := by
  obtain ⟨es, n, h1, h2⟩ := h
  obtain ⟨l, hl⟩ := mo_key hr hm
  have hs := fm_size hr h1 h2
  have h3 : w.ownsMap Tryd.prog 77 (plainElem Tryd.prog 3) b (65536 * 32 * 8) (.map es) := by
    obtain ⟨es', clock, hb, F, -, hD⟩ := h1
    refine ⟨es', clock, hb, F, ?_, hD⟩
    injection hD with hD
    have e := congrArg List.length hD
    rw [length_sorted] at e
    simp at e
    omega
  have hw : (Lit.int .i64 (fwN r m)).wf = true := by
    have := fwN_le r m
    simp [Lit.wf, IntKind.min, IntKind.max, IntKind.signed, IntKind.bits]
    omega
  obtain ⟨w', hrun, hown, hg⟩ := h3.update (t := 81) (e := 3) (val := .int .i64 (fwN r m)) mo_keyed Tryd.underlying81 (by decide) hl (plainElem_int Tryd.underlying3 hw)
  refine ⟨w', hrun, ⟨_, _, hown, fun p hp => ?_⟩, hg⟩
  rcases ChangeMaps.mem_insert_iff.1 hp with rfl | hp
  · exact ⟨m, hm, hl, rfl⟩
  · exact h2 p (List.mem_filter.1 hp).1
end Go.Proofs.YtcgdalabenflmaaDoor
/- Rite: what stays where a map is written. -/
namespace Go.Proofs.YtcgdalabenflmaaDoor
open Go Go.RowKit Go.Shelf
set_option maxHeartbeats 8000000
set_option maxRecDepth 100000
/-- all cells stay -/
def KC (w w' : World) : Prop := w.heap.size ≤ w'.heap.size ∧ ∀ (k : Nat) (o : Obj), w.heap[k]? = some o → o.isCells = true → w'.heap[k]? = some o
theorem KC.refl (w : World) : KC w w := ⟨Nat.le_refl _, fun _ _ h _ => h⟩
theorem KC.trans {a b c : World} (h : KC a b) (k : KC b c) : KC a c := ⟨Nat.le_trans h.1 k.1, fun i o hi ho => k.2 i o (h.2 i o hi ho) ho⟩
theorem KC.of_grown {w w' : World} {row : Option Nat} (hg : w.grownBy w' row) (hr : ∀ r, row = some r → ∃ o : Obj, w.heap[r]? = some o ∧ o.isCells = false) : KC w w' :=
  ⟨hg.size, fun k o hk ho => (hg.block k (Array.getElem?_eq_some_iff.1 hk).1 (fun e => by
    obtain ⟨o', h1, h2⟩ := hr k e.symm
    rw [hk] at h1
    injection h1 with h1
    rw [h1, h2] at ho
    cases ho)).trans hk⟩
theorem KC.below {w w' : World} (hb : Below w.heap.size w w') : KC w w' := ⟨hb.size, fun k o hk _ => (hb.block k (Array.getElem?_eq_some_iff.1 hk).1).trans hk⟩
theorem KC.cell {w w' : World} (h : KC w w') {a : Addr} {v : Value} (hc : w.cell? a = some v) : w'.cell? a = some v := by
  obtain ⟨o, h1, h2⟩ := cells_of_cell hc
  have h3 := h.2 _ _ h1 h2
  rw [← hc]
  unfold World.cell?
  rw [h1, h3]
theorem KC.blk {w w' : World} (h : KC w w') {g : Nat} {t : TypeId} {cs : Array Value} (hB : Blk w g t cs) : Blk w' g t cs := h.2 g _ hB rfl
theorem KC.er {w w' : World} (h : KC w w') {sz n : Nat} {A : Option Addr} {f : Nat → Nat → Value} (hE : ER w w.heap.size sz A n f) : ER w' w'.heap.size sz A n f := fun hm => by
  obtain ⟨b, off, hA, hlt, hc⟩ := hE hm
  exact ⟨b, off, hA, Nat.lt_of_lt_of_le hlt h.1, fun k i hk hi => h.cell (hc k i hk hi)⟩
theorem KC.tb {w w' : World} (h : KC w w') (hT : TB w) : TB w' := ⟨Nat.lt_of_lt_of_le hT.1 h.1, fun j hj => h.cell (hT.2 j hj)⟩
theorem KC.rt {w w' : World} (h : KC w w') {d : Rad} {r : Rit} (hR : RtR w d r) : RtR w' d r :=
  ⟨h.er hR.row, fun k hk => h.er (hR.nd k hk), fun k hk => h.er (hR.ins k hk)⟩
theorem KC.bk {w w' : World} (h : KC w w') {b : Nat} {d : Rad} {q : Bad} {r : Rit} (hB : BkR w b d q r) : BkR w' b d q r :=
  ⟨h.blk hB.blk, h.rt hB.rt, h.er hB.sn, h.er hB.sw, h.er hB.sr, h.er hB.sa⟩
theorem KC.map {w w' : World} {b : Nat} {r : Rit} (hF : FmAt w b r) (hg : w.grownBy w' (some b)) : KC w w' :=
  KC.of_grown hg fun k e => by obtain ⟨o, h1, h2⟩ := hF.map; cases e; exact ⟨o, h1, h2⟩
theorem gr_trans {a b c : World} {p : Nat} (h : a.grownBy b (some p)) (k : b.grownBy c (some p)) : a.grownBy c (some p) :=
  ⟨k.os.trans h.os, k.tape.trans h.tape, k.output.trans h.output, Nat.le_trans h.size k.size, fun i hi e => (k.block i (Nat.lt_of_lt_of_le hi h.size) e).trans (h.block i hi e)⟩
theorem gr_below {a b : World} (h : Below a.heap.size a b) (p : Nat) : a.grownBy b (some p) := ⟨h.os, h.tape, h.output, h.size, fun i hi _ => h.block i hi⟩
/-- the call's own word: nothing but the map turned -/
theorem gr_low {n0 : Nat} {w a b : World} (h : Below n0 w a) (hn : n0 ≤ a.heap.size) {p : Nat} (hg : a.grownBy b (some p)) (hp : n0 ≤ p) : Below n0 w b :=
  h.grown hg hn fun k e => by cases e; exact hp
end Go.Proofs.YtcgdalabenflmaaDoor
/- Words that hang on no chapter: ranges over an iterator that yields the values of a list, one within the other's body. -/
namespace Go.Proofs.YtcgdalabenflmaaDoor
open Go Go.RowKit
set_option maxHeartbeats 4000000
set_option maxRecDepth 100000
variable {F : Fence} {n : Nat} {P : Program}
theorem SeqL.inRound {α : Type} {g : Nat} {fs lb : Array Value} {encs : α → Array Value} {R : World → Prop} {L : List α} {w : World} (l : Nat) (h : SeqL F n P g fs lb encs R L w) : SeqL (F.inRound l) n P g fs lb encs R L w := h
theorem wpIn_rangeFunc_listH {α : Type} {g : Operand} {ps : Array Tmp} {assign body : Code} {Q : Exit → Act → World → Prop} {a : Act} {w : World}
    (hro : F.round = none) (h1 : 1 ≤ n) {gf : Nat} {fs lb : Array Value} (hg : a.eval g = .func (.func gf) fs lb) (hFg : F.fn gf) (eg : ∀ args w, (callFunc gf args).run P w = .ok (.enter gf args) w)
    {encs : α → Array Value} {R : World → Prop} {L : List α} {w0 : World} (hseq : SeqL F (n - 1) P gf fs lb encs R L w0)
    (hb0 : Below w0.heap.size w0 w) (hps : ∀ x, (encs x).size = ps.size)
    (I : List α → World → Prop) (Ix : Code → List α → World → Prop) (hI : OwnFrom w.heap.size I) (hIR : ∀ pre W, I pre W → R W) (hIx : ∀ c, OwnFrom w.heap.size (Ix c)) (h0 : I [] w) (Ax : α → Act → World → Prop) (hAx : ∀ x a', OwnFrom w.heap.size (fun (_ : Unit) W => Ax x a' W))
    (hassign : ∀ (l : Nat) (pre : List α) (x : α) (W : World) (K : Act → World → Prop), I pre W → (∀ a' W', KeepsFrom w.heap.size W W' → I pre W' → Ax x a' W' → K a' W') →
      assign.wpIn (F.inRound l) (n - 1 - 1) P (Exit.then K (fun _ _ _ => False)) { tmps := (ps.zip (encs x)).foldl (fun t (p, v) => t.setIfInBounds p v) a.tmps, defers := [] } W)
    (hbody : ∀ (l : Nat) (pre : List α) (x : α) (a' : Act) (W : World), w.heap.size ≤ l → (∃ r, W.heap[l]? = some (.loop r)) → pre ++ [x] <+: L → I pre W → Ax x a' W → body.wpIn (F.inRound l) (n - 1 - 1) P (ownPostG w.heap.size (fun _ _ => True) I Ix (pre ++ [x]) W) a' W)
    (hdone : ∀ (D : Nat) (W : World), w.heap.size ≤ D → I L W → W.heap[D]? = some (.deferred (some [])) → Q .normal { a with defers := { target := .collected D, args := #[] } :: a.defers } W)
    (hstop : ∀ (D : Nat) (c : Code) (pre : List α) (W : World), w.heap.size ≤ D → pre <+: L → Ix c pre W → W.heap[D]? = some (.deferred (some [])) → c.wpIn F n P Q { a with defers := { target := .collected D, args := #[] } :: a.defers } W) :
    (Code.rangeFunc g ps assign body).wpIn F n P Q a w := by
  refine wpIn_rangeFunc ?_
  intro fn hfn
  rw [hro]
  obtain ⟨rec, hrec⟩ : ∃ rec : LoopState → Option Code → Loop, rec = fun st pe => { state := st, pending := pe, fn, tmps := a.tmps, params := ps, assign, body, defers := w.heap.size } := ⟨_, rfl⟩
  obtain ⟨W1, hW1⟩ : ∃ W1, (w.alloc (.deferred (some []))).alloc (.loop (rec .ready none)) = W1 := ⟨_, rfl⟩
  have hsz : W1.heap.size = w.heap.size + 2 := by rw [← hW1]; simp
  have hL1 : W1.heap[w.heap.size + 1]? = some (.loop (rec .ready none)) := by
    rw [← hW1]; have := World.alloc_heap_new (w.alloc (.deferred (some []))) (.loop (rec .ready none)); rwa [World.size_alloc] at this
  have hK1 : W1.heap[w.heap.size]? = some (.deferred (some [])) := by
    rw [← hW1]; exact (Below.heap_alloc _ _ _ (by simp)).trans (World.alloc_heap_new w _)
  have hI1 : I [] W1 := by rw [← hW1]; exact hI.alloc _ (hI.alloc _ h0)
  have hb1 : Below w0.heap.size w0 W1 := by
    rw [← hW1]; exact hb0.trans ((((Below.refl _ w).alloc (Nat.le_refl _) _).alloc (by simp) _).mono hb0.size)
  have hup : ∀ {row : Option Nat}, (∀ r, row = some r → W1.heap.size ≤ r) → ∀ r, row = some r → w.heap.size ≤ r := fun hr r e => by have := hr r e; omega
  have hst : ∀ {A B : World} {row : Option Nat} {k : Nat} {o : Obj}, A.grownBy B row → (∀ r, row = some r → W1.heap.size ≤ r) → k < w.heap.size + 2 → A.heap[k]? = some o → B.heap[k]? = some o := fun {A B row k o} hg hr hk h => by
    refine (hg.block k ?_ (fun e => ?_)).trans h
    · rcases Nat.lt_or_ge k A.heap.size with hl | hl
      · exact hl
      · rw [Array.getElem?_eq_none hl] at h; cases h
    · have := hr k e.symm; omega
  refine ⟨w.heap.size + 1, [{ target := .collected w.heap.size, args := #[] }], W1, { target := .fn (.func gf) lb, args := fs ++ #[.func (.yield (w.heap.size + 1)) #[] #[]] }, W1, gf,
    fs ++ #[.func (.yield (w.heap.size + 1)) #[] #[]] ++ lb, W1, ?_, ?_, ?_, ?_, fun _ => h1, ?_⟩
  · rw [← hW1, hrec]; exact run_enterLoop_outer _ _ _ _ _
  · simp only [resolve, hg]
    simp [go_sem]
  · intro f' hf'; simp [Target.leads] at hf'; subst hf'; exact hFg
  · simp [invoke, go_sem, eg]
  · refine (hseq (w.heap.size + 1)
      (fun pre W => I pre W ∧ W.heap[w.heap.size + 1]? = some (.loop (rec .ready none)) ∧ W.heap[w.heap.size]? = some (.deferred (some [])))
      (fun pre W => ∃ c, Ix c pre W ∧ W.heap[w.heap.size + 1]? = some (.loop (rec .done (some c))) ∧ W.heap[w.heap.size]? = some (.deferred (some [])))
      W1 hb1
      (fun pre W h => hIR pre W h.1) ?_ ⟨hI1, hL1, hK1⟩).mono ?_
    · rintro pre x W hlen ⟨hi, hl, hk⟩
      have hlt : w.heap.size + 1 < W.heap.size := (Array.getElem?_eq_some_iff.1 hl).1
      have hy := run_yield (P := P) (args := encs x) hl (by rw [hrec]; exact hps x)
      rw [hrec] at hy
      refine ⟨fn, _, assign, body, hy, roundIn_of_wpIn hfn (hassign _ pre x W _ hi ?_)⟩
      clear hy
      intro a' Wa hkfa hia hax
      replace hl := hkfa.same _ _ (by omega) hl rfl
      replace hk := hkfa.same _ _ (Nat.le_refl _) hk rfl
      replace hlt : w.heap.size + 1 < Wa.heap.size := (Array.getElem?_eq_some_iff.1 hl).1
      replace hi := hia
      clear hia
      revert hkfa
      generalize W = Wb
      intro hkfa
      obtain ⟨W, rfl⟩ : ∃ W, W = Wa := ⟨_, rfl⟩
      refine ⟨_, run_beginRound hl (by rw [hrec]), ?_⟩
      have hl2 : (W.putObj (w.heap.size + 1) (.loop { rec .ready none with state := .busy })).heap[w.heap.size + 1]? = some (.loop { rec .ready none with state := .busy }) := World.putObj_heap_same hlt
      have hk2 : (W.putObj (w.heap.size + 1) (.loop { rec .ready none with state := .busy })).heap[w.heap.size]? = some (.deferred (some [])) := (World.putObj_heap_other (by omega)).trans hk
      refine wpIn_mono (hbody _ pre x a' _ (by omega) ⟨_, hl2⟩ hlen (hI.putObj _ hi (by omega) hl rfl) ((hAx x a').putObj (s := ()) _ hax (by omega) hl rfl)) ?_
      have fin : ∀ (jump : Option Code) (W3 : World), KeepsFrom w.heap.size (W.putObj (w.heap.size + 1) (.loop { rec .ready none with state := .busy })) W3 →
          (Instr.endRound (w.heap.size + 1) jump).run P W3 = .ok (.bool jump.isNone) (W3.putObj (w.heap.size + 1) (.loop (rec (if jump.isNone then .ready else .done) jump))) ∧
          W3.heap[w.heap.size + 1]? = some (.loop { rec .ready none with state := .busy }) ∧
          (W3.putObj (w.heap.size + 1) (.loop (rec (if jump.isNone then .ready else .done) jump))).heap[w.heap.size + 1]? = some (.loop (rec (if jump.isNone then .ready else .done) jump)) ∧
          (W3.putObj (w.heap.size + 1) (.loop (rec (if jump.isNone then .ready else .done) jump))).heap[w.heap.size]? = some (.deferred (some [])) := fun jump W3 hk3 => by
        have hl3 := hk3.same _ _ (by omega) hl2 rfl
        have := run_endRound (P := P) jump hl3
        rw [hrec] at this ⊢
        exact ⟨this, by rw [hrec] at hl3; exact hl3, World.putObj_heap_same (Array.getElem?_eq_some_iff.1 hl3).1, (World.putObj_heap_other (by omega)).trans (hk3.same _ _ (Nat.le_refl _) hk2 rfl)⟩
      rintro e a3 W3 hp
      cases e with
      | normal =>
        obtain ⟨hk3, hkp3, hi3⟩ := hp
        obtain ⟨hr, hl3, hl4, hk4⟩ := fin none W3 hk3
        exact ⟨_, _, hr, .inl ⟨rfl, hI.putObj _ hi3 (by omega) hl3 rfl, hl4, hk4⟩⟩
      | ret =>
        obtain ⟨hk3, hi3⟩ := hp
        obtain ⟨hr, hl3, hl4, hk4⟩ := fin (some .ret) W3 hk3
        exact ⟨_, _, hr, .inr ⟨rfl, .ret, (hIx _).putObj _ hi3 (by omega) hl3 rfl, hl4, hk4⟩⟩
      | exit id =>
        obtain ⟨hk3, hi3⟩ := hp
        obtain ⟨hr, hl3, hl4, hk4⟩ := fin (some (.exit id)) W3 hk3
        exact ⟨_, _, hr, .inr ⟨rfl, .exit id, (hIx _).putObj _ hi3 (by omega) hl3 rfl, hl4, hk4⟩⟩
      | goto t =>
        obtain ⟨hk3, hi3⟩ := hp
        obtain ⟨hr, hl3, hl4, hk4⟩ := fin (some (.goto t)) W3 hk3
        exact ⟨_, _, hr, .inr ⟨rfl, .goto t, (hIx _).putObj _ hi3 (by omega) hl3 rfl, hl4, hk4⟩⟩
      | panic ch => exact hp.elim
      | outgrown => exact hp.elim
    · rintro e W2 ⟨⟨v, rfl⟩, (⟨hi, hl, hk⟩ | ⟨pre, hSp, c, hi, hl, hk⟩)⟩
      · exact ⟨none, _, by have := run_endLoop (P := P) hl (by rw [hrec]; simp); rw [hrec] at this; exact this, hdone _ _ (Nat.le_refl _) (hI.putObj _ hi (by omega) hl rfl) ((World.putObj_heap_other (by omega)).trans hk)⟩
      · exact ⟨some c, _, by have := run_endLoop (P := P) hl (by rw [hrec]; simp); rw [hrec] at this; exact this, hstop _ c pre _ (Nat.le_refl _) hSp ((hIx c).putObj _ hi (by omega) hl rfl) ((World.putObj_heap_other (by omega)).trans hk)⟩
theorem wpIn_rangeFunc_listN {α : Type} {g : Operand} {ps : Array Tmp} {assign body : Code} {Q : Exit → Act → World → Prop} {a : Act} {w : World}
    {l₀ : Nat} {r₀ : Loop} (hro : F.round = some l₀) (hl₀ : w.heap[l₀]? = some (.loop r₀)) (h1 : 1 ≤ n) {gf : Nat} {fs lb : Array Value} (hg : a.eval g = .func (.func gf) fs lb) (hFg : F.fn gf) (eg : ∀ args w, (callFunc gf args).run P w = .ok (.enter gf args) w)
    {encs : α → Array Value} {R : World → Prop} {L : List α} {w0 : World} (hseq : SeqL F (n - 1) P gf fs lb encs R L w0)
    (hb0 : Below w0.heap.size w0 w) (hps : ∀ x, (encs x).size = ps.size)
    (I : List α → World → Prop) (Ix : Code → List α → World → Prop) (hI : OwnFrom w.heap.size I) (hIR : ∀ pre W, I pre W → R W) (hIx : ∀ c, OwnFrom w.heap.size (Ix c)) (h0 : I [] w) (Ax : α → Act → World → Prop) (hAx : ∀ x a', OwnFrom w.heap.size (fun (_ : Unit) W => Ax x a' W))
    (hassign : ∀ (l : Nat) (pre : List α) (x : α) (W : World) (K : Act → World → Prop), I pre W → (∀ a' W', KeepsFrom w.heap.size W W' → I pre W' → Ax x a' W' → K a' W') →
      assign.wpIn (F.inRound l) (n - 1 - 1) P (Exit.then K (fun _ _ _ => False)) { tmps := (ps.zip (encs x)).foldl (fun t (p, v) => t.setIfInBounds p v) a.tmps, defers := [] } W)
    (hbody : ∀ (l : Nat) (pre : List α) (x : α) (a' : Act) (W : World), w.heap.size ≤ l → (∃ r, W.heap[l]? = some (.loop r)) → pre ++ [x] <+: L → I pre W → Ax x a' W → body.wpIn (F.inRound l) (n - 1 - 1) P (ownPostG w.heap.size (fun _ _ => True) I Ix (pre ++ [x]) W) a' W)
    (hdone : ∀ (W : World), I L W → Q .normal a W)
    (hstop : ∀ (c : Code) (pre : List α) (W : World), pre <+: L → Ix c pre W → c.wpIn F n P Q a W) :
    (Code.rangeFunc g ps assign body).wpIn F n P Q a w := by
  refine wpIn_rangeFunc ?_
  intro fn hfn
  rw [hro]
  obtain ⟨rec, hrec⟩ : ∃ rec : LoopState → Option Code → Loop, rec = fun st pe => { state := st, pending := pe, fn, tmps := a.tmps, params := ps, assign, body, defers := r₀.defers } := ⟨_, rfl⟩
  obtain ⟨W1, hW1⟩ : ∃ W1, w.alloc (.loop (rec .ready none)) = W1 := ⟨_, rfl⟩
  have hL1 : W1.heap[w.heap.size]? = some (.loop (rec .ready none)) := by rw [← hW1]; exact World.alloc_heap_new w _
  have hI1 : I [] W1 := by rw [← hW1]; exact hI.alloc _ h0
  have hb1 : Below w0.heap.size w0 W1 := by
    rw [← hW1]; exact hb0.trans (((Below.refl _ w).alloc (Nat.le_refl _) _).mono hb0.size)
  refine ⟨w.heap.size, [], W1, { target := .fn (.func gf) lb, args := fs ++ #[.func (.yield w.heap.size) #[] #[]] }, W1, gf,
    fs ++ #[.func (.yield w.heap.size) #[] #[]] ++ lb, W1, ?_, ?_, ?_, ?_, fun _ => h1, ?_⟩
  · rw [← hW1, hrec]; exact run_enterLoop_inner hl₀ _ _ _ _ _
  · simp only [resolve, hg]
    simp [go_sem]
  · intro f' hf'; simp [Target.leads] at hf'; subst hf'; exact hFg
  · simp [invoke, go_sem, eg]
  · refine (hseq w.heap.size
      (fun pre W => I pre W ∧ W.heap[w.heap.size]? = some (.loop (rec .ready none)))
      (fun pre W => ∃ c, Ix c pre W ∧ W.heap[w.heap.size]? = some (.loop (rec .done (some c))))
      W1 hb1
      (fun pre W h => hIR pre W h.1) ?_ ⟨hI1, hL1⟩).mono ?_
    · rintro pre x W hlen ⟨hi, hl⟩
      have hlt : w.heap.size < W.heap.size := (Array.getElem?_eq_some_iff.1 hl).1
      have hy := run_yield (P := P) (args := encs x) hl (by rw [hrec]; exact hps x)
      rw [hrec] at hy
      refine ⟨fn, _, assign, body, hy, roundIn_of_wpIn hfn (hassign _ pre x W _ hi ?_)⟩
      clear hy
      intro a' Wa hkfa hia hax
      replace hl := hkfa.same _ _ (Nat.le_refl _) hl rfl
      replace hlt : w.heap.size < Wa.heap.size := (Array.getElem?_eq_some_iff.1 hl).1
      replace hi := hia
      clear hia
      revert hkfa
      generalize W = Wb
      intro hkfa
      obtain ⟨W, rfl⟩ : ∃ W, W = Wa := ⟨_, rfl⟩
      refine ⟨_, run_beginRound hl (by rw [hrec]), ?_⟩
      have hl2 : (W.putObj w.heap.size (.loop { rec .ready none with state := .busy })).heap[w.heap.size]? = some (.loop { rec .ready none with state := .busy }) := World.putObj_heap_same hlt
      refine wpIn_mono (hbody _ pre x a' _ (by omega) ⟨_, hl2⟩ hlen (hI.putObj _ hi (by omega) hl rfl) ((hAx x a').putObj (s := ()) _ hax (by omega) hl rfl)) ?_
      have fin : ∀ (jump : Option Code) (W3 : World), KeepsFrom w.heap.size (W.putObj w.heap.size (.loop { rec .ready none with state := .busy })) W3 →
          (Instr.endRound w.heap.size jump).run P W3 = .ok (.bool jump.isNone) (W3.putObj w.heap.size (.loop (rec (if jump.isNone then .ready else .done) jump))) ∧
          W3.heap[w.heap.size]? = some (.loop { rec .ready none with state := .busy }) ∧
          (W3.putObj w.heap.size (.loop (rec (if jump.isNone then .ready else .done) jump))).heap[w.heap.size]? = some (.loop (rec (if jump.isNone then .ready else .done) jump)) := fun jump W3 hk3 => by
        have hl3 := hk3.same _ _ (by omega) hl2 rfl
        have := run_endRound (P := P) jump hl3
        rw [hrec] at this ⊢
        exact ⟨this, by rw [hrec] at hl3; exact hl3, World.putObj_heap_same (Array.getElem?_eq_some_iff.1 hl3).1⟩
      rintro e a3 W3 hp
      cases e with
      | normal =>
        obtain ⟨hk3, hkp3, hi3⟩ := hp
        obtain ⟨hr, hl3, hl4⟩ := fin none W3 hk3
        exact ⟨_, _, hr, .inl ⟨rfl, hI.putObj _ hi3 (by omega) hl3 rfl, hl4⟩⟩
      | ret =>
        obtain ⟨hk3, hi3⟩ := hp
        obtain ⟨hr, hl3, hl4⟩ := fin (some .ret) W3 hk3
        exact ⟨_, _, hr, .inr ⟨rfl, .ret, (hIx _).putObj _ hi3 (by omega) hl3 rfl, hl4⟩⟩
      | exit id =>
        obtain ⟨hk3, hi3⟩ := hp
        obtain ⟨hr, hl3, hl4⟩ := fin (some (.exit id)) W3 hk3
        exact ⟨_, _, hr, .inr ⟨rfl, .exit id, (hIx _).putObj _ hi3 (by omega) hl3 rfl, hl4⟩⟩
      | goto t =>
        obtain ⟨hk3, hi3⟩ := hp
        obtain ⟨hr, hl3, hl4⟩ := fin (some (.goto t)) W3 hk3
        exact ⟨_, _, hr, .inr ⟨rfl, .goto t, (hIx _).putObj _ hi3 (by omega) hl3 rfl, hl4⟩⟩
      | panic ch => exact hp.elim
      | outgrown => exact hp.elim
    · rintro e W2 ⟨⟨v, rfl⟩, (⟨hi, hl⟩ | ⟨pre, hSp, c, hi, hl⟩)⟩
      · exact ⟨none, _, by have := run_endLoop (P := P) hl (by rw [hrec]; simp); rw [hrec] at this; exact this, hdone _ (hI.putObj _ hi (by omega) hl rfl)⟩
      · exact ⟨some c, _, by have := run_endLoop (P := P) hl (by rw [hrec]; simp); rw [hrec] at this; exact this, hstop c pre _ hSp ((hIx c).putObj _ hi (by omega) hl rfl)⟩
end Go.Proofs.YtcgdalabenflmaaDoor
/- Rite: the fewest deeds (fewest.from), walked. -/
namespace Go.Proofs.YtcgdalabenflmaaDoor
open List renaming getElem_toArray → glA, getElem_cons_zero → glB, getElem_cons_succ → glC, setIfInBounds_toArray → glD, set_cons_zero → glE, set_cons_succ → glF
open Go Go.RowKit Go.Shelf
attribute [local go_sem] Oper.semAt_some
set_option maxHeartbeats 8000000
set_option maxRecDepth 100000
theorem wpIn_only {F : Fence} {n : Nat} {P : Program} {c : Code} {Q : Exit → Act → World → Prop} {a : Act} {w : World} (h : c.wpIn F n P (OnlyNormal fun a' w' => Q .normal a' w') a w) : c.wpIn F n P Q a w :=
  wpIn_cut (fun _ a' w' => Q .normal a' w') h (fun _ _ h => h)
/-- a book with what is known of its moments -/
structure FwR (w : World) (fb b mp : Nat) (d : Rad) (q : Bad) (r : Rit) : Prop where
  bk : BkR w b d q r
  blk : Blk w fb 83 #[.pointer (some ⟨b, 0, none⟩), .map (some mp)]
  fm : FmAt w mp r
  tb : TB w
theorem FwR.ext {w w' : World} {fb b mp : Nat} {d : Rad} {q : Bad} {r : Rit} (h : FwR w fb b mp d q r) (hb : Below w.heap.size w w') : FwR w' fb b mp d q r :=
  ⟨h.bk.ext hb, h.blk.ext hb, h.fm.ext hb, h.tb.ext hb⟩
theorem FwR.turn {w w' : World} {fb b mp : Nat} {d : Rad} {q : Bad} {r : Rit} (h : FwR w fb b mp d q r) (hg : w.grownBy w' (some mp)) (hf : FmAt w' mp r) : FwR w' fb b mp d q r :=
  have k := KC.map h.fm hg
  ⟨k.bk h.bk, k.blk h.blk, hf, k.tb h.tb⟩
theorem FwR.keptN {w w' : World} {fb b mp : Nat} {d : Rad} {q : Bad} {r : Rit} (h : FwR w fb b mp d q r) {row : Option Nat} (hg : w.grownBy w' row) (hr : ∀ r, row = some r → ∃ o : Obj, w.heap[r]? = some o ∧ o.isCells = false) (hne : some mp ≠ row) : FwR w' fb b mp d q r :=
  have k := KC.of_grown hg hr
  ⟨k.bk h.bk, k.blk h.blk, h.fm.kept hg hne, k.tb h.tb⟩
theorem gr_more {w W W' : World} {p : Nat} {row : Option Nat} (h : w.grownBy W (some p)) (hg : W.grownBy W' row) (hr : ∀ r, row = some r → w.heap.size ≤ r) : w.grownBy W' (some p) :=
  ⟨hg.os.trans h.os, hg.tape.trans h.tape, hg.output.trans h.output, Nat.le_trans h.size hg.size, fun i hi e => (hg.block i (Nat.lt_of_lt_of_le hi h.size) (fun e2 => by have := hr i e2.symm; omega)).trans (h.block i hi e)⟩
def FewPost (w : World) (fb b mp : Nat) (d : Rad) (q : Bad) (r : Rit) (m : Mom) (e : Ending) (w' : World) : Prop :=
  e = .returned (.int .i64 (fwN r m : Nat)) ∧ FwR w' fb b mp d q r ∧ w.grownBy w' (some mp)
/-- what the call keeps: g its pointer, g + 1 its moment -/
structure FwS (w W : World) (mp : Nat) (r : Rit) (g fb D : Nat) (day de : Int) : Prop where
  gb : w.grownBy W (some mp)
  fm : FmAt W mp r
  k2 : Blk W g 80 #[.pointer (some ⟨fb, 0, none⟩)]
  k3 : Blk W (g + 1) 77 #[.int .u16 (D : Nat), .int .i64 day, .int .i64 de]
theorem FwS.ext {w W W' : World} {mp : Nat} {r : Rit} {g fb D : Nat} {day de : Int} (h : FwS w W mp r g fb D day de) (hb : Below W.heap.size W W') : FwS w W' mp r g fb D day de :=
  ⟨gr_more h.gb (grown_no hb) (fun r e => by cases e), h.fm.ext hb, h.k2.ext hb, h.k3.ext hb⟩
theorem FwS.turn {w W W' : World} {mp : Nat} {r : Rit} {g fb D : Nat} {day de : Int} (h : FwS w W mp r g fb D day de) (hg : W.grownBy W' (some mp)) (hf : FmAt W' mp r) : FwS w W' mp r g fb D day de :=
  have k := KC.map h.fm hg
  ⟨gr_trans h.gb hg, hf, k.blk h.k2, k.blk h.k3⟩
theorem FwS.keptN {w W W' : World} {mp : Nat} {r : Rit} {g fb D : Nat} {day de : Int} (h : FwS w W mp r g fb D day de) {row : Option Nat} (hg : W.grownBy W' row) (hr : ∀ r, row = some r → w.heap.size ≤ r ∧ ∃ o : Obj, W.heap[r]? = some o ∧ o.isCells = false) (hm : mp < w.heap.size) : FwS w W' mp r g fb D day de :=
  have k := KC.of_grown hg (fun r e => (hr r e).2)
  ⟨gr_more h.gb hg (fun r e => (hr r e).1), h.fm.kept hg (fun e => by have := (hr _ e.symm).1; omega), k.blk h.k2, k.blk h.k3⟩
theorem FwS.set {w W : World} {mp : Nat} {r : Rit} {g fb D : Nat} {day de : Int} (h : FwS w W mp r g fb D day de) {p : Nat} (hp : w.heap.size ≤ p) (hm : mp < w.heap.size) (h2 : p ≠ g) (h3 : p ≠ g + 1) (v : Value) : FwS w (W.setCell ⟨p, 0, none⟩ v) mp r g fb D day de :=
  have hg := grownBy_setCell' W p v
  ⟨gr_more h.gb hg (fun r e => by cases e; exact hp), h.fm.kept hg (fun e => by injection e; omega), h.k2.far (p := ⟨p, 0, none⟩) (fun e => h2 e.symm) v, h.k3.far (p := ⟨p, 0, none⟩) (fun e => h3 e.symm) v⟩
theorem few_any (fb b mp : Nat) (d : Rad) (q : Bad) (r : Rit) (hr : RiOk r) : ∀ (k : Nat) (m : Mom) (w : World), meN r m < k → MoOk r m → FwR w fb b mp d q r →
    Calls Tryd.prog 41 #[.pointer (some ⟨fb, 0, none⟩), momV m] w (FewPost w fb b mp d q r m) := by
  intro k
  induction k with
  | zero => intro m w h; omega
  | succ k ih =>
  intro m w hk hm hf0
  have h10 : r.n ≤ 16 := by have := hr.n10; omega
  have HIH := hide ih
  have HM := hide hm
  have HK := hide hk
  have HR := hide hr
  have HF0 := hide hf0
  have HEQ := hide (fwN_eq h10 m)
  have HLK := hide (fun W (h : FmAt W mp r) => fm_look hr h hm)
  have HPU := hide (fun W (h : FmAt W mp r) => fm_put hr h hm)
  have HCO := hide (fun W (h : BkR W b d q r) => complete_any b d q r m.d W hr hm.d h)
  have HNX := hide (fun W (h : BkR W b d q r) => next_any b d q r m W hr hm.d h)
  obtain ⟨D, day, de⟩ := m
  have HON : Hid (∀ W, Calls Tryd.prog 42 #[.agg #[.int .u16 (D : Nat), .int .i64 day, .int .i64 de], .int .i64 (day + 1)] W fun e w' => e = .returned (momV (Mom.on ⟨D, day, de⟩ (day + 1))) ∧ Below W.heap.size W w') := hide (fun W => on_any ⟨D, day, de⟩ (day + 1) W)
  have HWI : Hid (∀ (i : Nat) (_ : i < 16) W, Calls Tryd.prog 65 #[.agg #[.int .u16 (D : Nat), .int .i64 day, .int .i64 de], .int .i64 i] W fun e w' => e = .returned (momV (Mom.wi ⟨D, day, de⟩ i)) ∧ Below W.heap.size W w') := hide (fun i hi W => with_any ⟨D, day, de⟩ i W hm.d hi hm.e0 (by have h1 := hm.e1; have h2 := hr.t4; omega))
  obtain ⟨v, hv⟩ : ∃ x, fwN r ⟨D, day, de⟩ = x := ⟨_, rfl⟩
  have HV := hide hv
  have hday := hm.d1
  have hday0 := hm.d0
  have hl30 := hr.l30
  obtain ⟨la, hla⟩ : ∃ x, r.last = x := ⟨_, rfl⟩
  have HLA := hide hla
  unfold FewPost
  rw [hla] at hday hl30
  rw [hla, hv] at HEQ
  rw [hv] at HPU ⊢
  unfold momV at HLK HPU HNX ⊢
  dsimp only at HLK HPU HCO HNX HEQ hday hday0 ⊢
  refine (callsIn_wide (n := 9)).1 ?_
  obtain ⟨F, hFw⟩ : ∃ F : Fence, F = Fence.wide := ⟨_, rfl⟩
  rw [← hFw]
  have hF : ∀ f, F.fn f := by rw [hFw]; exact fun _ => trivial
  have hro : F.round = none := by rw [hFw]; rfl
  have hwd : ∀ {n f args w R}, Calls Tryd.prog f args w R → CallsIn F n Tryd.prog f args w R := by rw [hFw]; exact fun h => callsIn_wide.2 h
  clear hFw
  have HB1 : Hid (Below w.heap.size w ((w.alloc (.cells #[.pointer (some ⟨fb, 0, none⟩)] 80)).alloc (.cells #[.int .u16 (D : Nat), .int .i64 day, .int .i64 de] 77))) := hide (((Below.refl _ _).alloc (Nat.le_refl _) _).alloc (by simp) _)
  have G2 : Hid (Blk ((w.alloc (.cells #[.pointer (some ⟨fb, 0, none⟩)] 80)).alloc (.cells #[.int .u16 (D : Nat), .int .i64 day, .int .i64 de] 77)) w.heap.size 80 #[.pointer (some ⟨fb, 0, none⟩)]) := hide ((Blk.new w _ _).alloc _)
  have G3 : Hid (Blk ((w.alloc (.cells #[.pointer (some ⟨fb, 0, none⟩)] 80)).alloc (.cells #[.int .u16 (D : Nat), .int .i64 day, .int .i64 de] 77)) (w.heap.size + 1) 77 #[.int .u16 (D : Nat), .int .i64 day, .int .i64 de]) := hide (by simpa using Blk.new (w.alloc (.cells #[.pointer (some ⟨fb, 0, none⟩)] 80)) 77 #[.int .u16 (D : Nat), .int .i64 day, .int .i64 de])
  have HMP := hide hf0.fm.lt
  obtain ⟨g, hg⟩ : ∃ x, w.heap.size = x := ⟨_, rfl⟩
  have HG : Hid (w.heap.size = g) := hide hg
  have HS1 : Hid (FwS w ((w.alloc (.cells #[.pointer (some ⟨fb, 0, none⟩)] 80)).alloc (.cells #[.int .u16 (D : Nat), .int .i64 day, .int .i64 de] 77)) mp r g fb D day de) := hide ⟨gr_below HB1.out mp, (hf0.ext HB1.out).fm, by rw [← hg]; exact G2.out, by rw [← hg]; exact G3.out⟩
  have HSA : Hid (∀ W, FwS w W mp r g fb D day de → (W.cell? ⟨g, 0, none⟩ = some (.pointer (some ⟨fb, 0, none⟩)) ∧ (W.cell? ⟨g + 1, 0, none⟩ = some (.int .u16 (D : Nat)) ∧ W.cell? ⟨g + 1, 1, none⟩ = some (.int .i64 day) ∧ W.cell? ⟨g + 1, 2, none⟩ = some (.int .i64 de)) ∧ (W.cell? ⟨fb, 0, none⟩ = some (.pointer (some ⟨b, 0, none⟩)) ∧ W.cell? ⟨fb, 1, none⟩ = some (.map (some mp))) ∧ W.cell? ⟨b, 1, none⟩ = some (.int .i64 la))) := hide (fun W h => by
    have h1 := hf0.turn h.gb h.fm
    obtain ⟨-, x0, -⟩ := blk1 h.k2
    obtain ⟨-, y0, y1, y2, -⟩ := blk3 h.k3
    obtain ⟨-, z0, z1, -⟩ := blk2 h1.blk
    have u1 := (bx8 h1.bk.blk).2.2.1
    rw [hla] at u1
    exact ⟨x0, ⟨y0, y1, y2⟩, ⟨z0, z1⟩, u1⟩)
  refine callsIn_of_wp_marks Tryd.func41 rfl (hF _) ?_ hro
  simp only [Tryd.ntmps41, List.size_toArray, List.length_cons, List.length_nil, Nat.reduceAdd, Nat.reduceSub, Array.replicate_succ, Array.replicate_zero, List.push_toArray, List.append_toArray, List.nil_append, List.cons_append]
  clear G2 G3 HB1 ih hk hm hr hv hla hf0
  gi_wp2_with fail
  (try simp only [World.size_alloc])
  (try rw [hg])
  clear hg
  generalize ((w.alloc (.cells #[.pointer (some ⟨fb, 0, none⟩)] 80)).alloc (.cells #[.int .u16 (D : Nat), .int .i64 day, .int .i64 de] 77)) = w1 at HS1 ⊢
  refine wpIn_only ?_
  refine wpIn_region_J (fun W : World => (W.cell? ⟨g, 0, none⟩ = some (.pointer (some ⟨fb, 0, none⟩)) ∧ (W.cell? ⟨g + 1, 0, none⟩ = some (.int .u16 (D : Nat)) ∧ W.cell? ⟨g + 1, 1, none⟩ = some (.int .i64 day) ∧ W.cell? ⟨g + 1, 2, none⟩ = some (.int .i64 de)) ∧ (W.cell? ⟨fb, 0, none⟩ = some (.pointer (some ⟨b, 0, none⟩)) ∧ W.cell? ⟨fb, 1, none⟩ = some (.map (some mp))) ∧ W.cell? ⟨b, 1, none⟩ = some (.int .i64 la))) (by kernel_rfl) ?_
  replace HS1 := hide (HS1.out.ext (Below.refl w1.heap.size w1).drew)
  generalize w1.drew = wd at HS1 ⊢
  refine tk_start [0, 1, 2, 3, 4, 5] ?_
  iterate 6
    refine tk_one (v := ?_) (by first | exact hF | exact wideFn) (HSA.out _ HS1.out) rfl (by kernel_rfl) (by kernel_rfl) (by kernel_rfl) (by kernel_rfl) rfl ?_ (by first | exact fun _ _ _ h => h | exact fun _ _ _ h => hQ2 _ _ _ _ _ h) ?_
    rotate_left
    · intro W hSW
      simp only [glA, glB, glC]
      (try dsimp only at hSW)
      go_simp
      with_reducible rfl
    (try simp only [glA, glB, glC, Act.put, glD, glE, glF])
  refine tk_end ?_
  refine wpAnyJ_one 6 rfl (by kernel_rfl) (fun K hK => ?_)
  simp only [glA, glB, glC]
  go_simp
  (with_reducible refine ((hwd (HCO.out wd (HF0.out.turn HS1.out.gb HS1.out.fm).bk))).mono ?_)
  rintro e w2 ⟨rfl, h2⟩
  have HS2 := hide (HS1.out.ext h2)
  dsimp only
  refine hK.out _ _ (fun _ => HSA.out _ HS2.out) ?_
  clear hK K
  (try simp only [glA, glB, glC, Act.put, glD, glE, glF])
  refine wpAnyJ_done (by kernel_rfl) ?_
  dsimp only [OnlyNormal]
  clear h2
  rcases hco : coB r D with _ | _
  rotate_left
  · have HV0 : Hid (v = 0) := hide (by rw [HEQ.out, hco]; rfl)
    gi_wp2_with fail
    refine ⟨.int .i64 0, by simp [results, Tryd.results41, go_sem], ?_⟩
    rw [HV0.out]
    exact ⟨rfl, HF0.out.turn HS2.out.gb HS2.out.fm, HS2.out.gb⟩
  replace HEQ := hide (by have h := HEQ.out; rw [hco, if_neg (by decide)] at h; exact h)
  clear hco
  gi_wp2_with fail
  replace HS2 := hide (HS2.out.ext (Below.refl w2.heap.size w2).drew)
  obtain ⟨c, y, hlk, hcy⟩ := HLK.out _ HS2.out.fm
  have HLK2 := hide hlk
  clear hlk
  refine wpIn_only ?_
  refine wpIn_region_J (fun W : World => ((W.cell? ⟨g, 0, none⟩ = some (.pointer (some ⟨fb, 0, none⟩)) ∧ (W.cell? ⟨g + 1, 0, none⟩ = some (.int .u16 (D : Nat)) ∧ W.cell? ⟨g + 1, 1, none⟩ = some (.int .i64 day) ∧ W.cell? ⟨g + 1, 2, none⟩ = some (.int .i64 de)) ∧ (W.cell? ⟨fb, 0, none⟩ = some (.pointer (some ⟨b, 0, none⟩)) ∧ W.cell? ⟨fb, 1, none⟩ = some (.map (some mp))) ∧ W.cell? ⟨b, 1, none⟩ = some (.int .i64 la)) ∧ (Instr.lookup 81 (.map (some mp)) (.agg #[.int .u16 (D : Nat), .int .i64 day, .int .i64 de]) true).run Tryd.prog W = .ok (.tuple #[.int .i64 c, .bool y]) W)) (by kernel_rfl) ?_
  generalize w2.drew = w3 at HS2 HLK2 ⊢
  refine tk_start [0, 1, 2, 3, 4, 5, 6, 7, 8, 9, 10] ?_
  iterate 11
    refine tk_one (v := ?_) (by first | exact hF | exact wideFn) ⟨HSA.out _ HS2.out, HLK2.out⟩ rfl (by kernel_rfl) (by kernel_rfl) (by kernel_rfl) (by kernel_rfl) rfl ?_ (by first | exact fun _ _ _ h => h | exact fun _ _ _ h => hQ2 _ _ _ _ _ h) ?_
    rotate_left
    · intro W hSW
      simp only [glA, glB, glC]
      (try dsimp only at hSW)
      go_simp
      with_reducible rfl
    (try simp only [glA, glB, glC, Act.put, glD, glE, glF])
  refine tk_end ?_
  refine wpAnyJ_done (by kernel_rfl) ?_
  dsimp only [OnlyNormal]
  rw [HV.out] at hcy
  cases y with
  | true =>
    obtain rfl := hcy rfl
    gi_wp2_with fail
    refine ⟨.int .i64 v, by simp [results, Tryd.results41, go_sem], ?_⟩
    exact ⟨rfl, HF0.out.turn HS2.out.gb HS2.out.fm, HS2.out.gb⟩
  | false =>
  clear hcy HLK2
  gi_wp2_with fail
  rename_i K9 hK9 K7c hK7c
  have HK9 := hide hK9
  have k7 := Blk.new w3 3 #[.int .i64 11]
  have hb7 : Below w3.heap.size w3 (w3.alloc (.cells #[.int .i64 11] 3)) := (Below.refl _ _).alloc (Nat.le_refl _) _
  have hbd := (Below.refl (w3.alloc (.cells #[.int .i64 11] 3)).heap.size (w3.alloc (.cells #[.int .i64 11] 3))).drew
  have HLO : Hid (w.heap.size ≤ w3.heap.size ∧ g + 1 < w3.heap.size) := hide ⟨HS2.out.gb.size, HS2.out.k3.lt⟩
  replace HS2 := hide ((HS2.out.ext hb7).ext hbd)
  have K7 := hide (k7.ext hbd)
  clear k7 hb7 hbd hK9
  refine wpIn_only ?_
  refine wpIn_region_J (fun W : World => (W.cell? ⟨g, 0, none⟩ = some (.pointer (some ⟨fb, 0, none⟩)) ∧ (W.cell? ⟨g + 1, 0, none⟩ = some (.int .u16 (D : Nat)) ∧ W.cell? ⟨g + 1, 1, none⟩ = some (.int .i64 day) ∧ W.cell? ⟨g + 1, 2, none⟩ = some (.int .i64 de)) ∧ (W.cell? ⟨fb, 0, none⟩ = some (.pointer (some ⟨b, 0, none⟩)) ∧ W.cell? ⟨fb, 1, none⟩ = some (.map (some mp))) ∧ W.cell? ⟨b, 1, none⟩ = some (.int .i64 la))) (by kernel_rfl) ?_
  generalize (w3.alloc (.cells #[.int .i64 11] 3)).drew = w4 at HS2 K7 ⊢
  obtain ⟨h7, hh7⟩ : ∃ x, w3.heap.size = x := ⟨_, rfl⟩
  rw [hh7] at K7 HLO ⊢
  clear hh7
  obtain ⟨bs, hbs⟩ : ∃ x, (if day < la then fwN r (Mom.on ⟨D, day, de⟩ (day + 1)) else 11) = x := ⟨_, rfl⟩
  have HBS := hide hbs
  rw [hbs] at HEQ
  clear hbs
  have REST : Hid (∀ (u37 u38 u39 u40 u41 u42 u43 u44 : Value) (W : World), FwS w W mp r g fb D day de → Blk W h7 3 #[.int .i64 (bs : Nat)] → K9 { tmps := #[.pointer (some ⟨fb, 0, none⟩), .agg #[.int .u16 (D : Nat), .int .i64 day, .int .i64 de], .pointer (some ⟨g, 0, none⟩), .pointer (some ⟨g + 1, 0, none⟩), .int .i64 0, .int .i64 c, .bool false, .pointer (some ⟨h7, 0, none⟩), undef, .pointer (some ⟨fb, 0, none⟩), .pointer (some ⟨fb, 0, none⟩), .pointer (some ⟨fb, 0, none⟩), .pointer (some ⟨b, 0, none⟩), .pointer (some ⟨g + 1, 0, none⟩), .int .u16 (D : Nat), .bool false, .tuple #[.int .i64 c, .bool false], .pointer (some ⟨fb, 0, none⟩), .pointer (some ⟨fb, 0, none⟩), .pointer (some ⟨fb, 1, none⟩), .map (some mp), .agg #[.int .u16 (D : Nat), .int .i64 day, .int .i64 de], .tuple #[.int .i64 c, .bool false], .int .i64 c, .bool false, .bool false, undef, .pointer (some ⟨g + 1, 1, none⟩), .int .i64 day, .pointer (some ⟨fb, 0, none⟩), .pointer (some ⟨fb, 0, none⟩), .pointer (some ⟨fb, 0, none⟩), .pointer (some ⟨b, 0, none⟩), .pointer (some ⟨b, 0, none⟩), .pointer (some ⟨b, 0, none⟩), .pointer (some ⟨b, 1, none⟩), .int .i64 la, u37, u38, u39, u40, u41, u42, u43, u44, undef, undef, undef, undef, undef, undef, undef, undef, undef, undef, undef, undef, undef, undef, undef, undef, undef, undef, undef, undef, undef, undef, undef], defers := [] } W) := by
    refine hide ?_
    intro u37 u38 u39 u40 u41 u42 u43 u44 W hS h7k
    refine HK9.out _ _ ?_
    clear HK9 hK7c
    dsimp only
    have HS := hide (hS.ext (Below.refl W.heap.size W).drew)
    have HK7 := hide (h7k.ext (Below.refl W.heap.size W).drew)
    clear hS h7k HS2 K7
    gi_wp2_with fail
    refine wpIn_only ?_
    refine wpIn_region_J (fun W : World => (W.cell? ⟨g, 0, none⟩ = some (.pointer (some ⟨fb, 0, none⟩)) ∧ (W.cell? ⟨g + 1, 0, none⟩ = some (.int .u16 (D : Nat)) ∧ W.cell? ⟨g + 1, 1, none⟩ = some (.int .i64 day) ∧ W.cell? ⟨g + 1, 2, none⟩ = some (.int .i64 de)) ∧ (W.cell? ⟨fb, 0, none⟩ = some (.pointer (some ⟨b, 0, none⟩)) ∧ W.cell? ⟨fb, 1, none⟩ = some (.map (some mp))) ∧ W.cell? ⟨b, 1, none⟩ = some (.int .i64 la))) (by kernel_rfl) ?_
    generalize W.drew = w5 at HS HK7 ⊢
    refine tk_start [0, 1, 2, 3, 4] ?_
    iterate 5
      refine tk_one (v := ?_) (by first | exact hF | exact wideFn) (HSA.out _ HS.out) rfl (by kernel_rfl) (by kernel_rfl) (by kernel_rfl) (by kernel_rfl) rfl ?_ (by first | exact fun _ _ _ h => h | exact fun _ _ _ h => hQ2 _ _ _ _ _ h) ?_
      rotate_left
      · intro W hSW
        simp only [glA, glB, glC]
        (try dsimp only at hSW)
        go_simp
        with_reducible rfl
      (try simp only [glA, glB, glC, Act.put, glD, glE, glF])
    refine tk_end ?_
    refine wpAnyJ_one 5 rfl (by kernel_rfl) (fun K hK => ?_)
    simp only [glA, glB, glC]
    go_simp
    (with_reducible refine ((hwd (HNX.out w5 (HF0.out.turn HS.out.gb HS.out.fm).bk))).mono ?_)
    rintro e w6 ⟨rfl, h6⟩
    have HS6 := hide (HS.out.ext h6)
    dsimp only
    refine hK.out _ _ (fun _ => HSA.out _ HS6.out) ?_
    clear hK K
    (try simp only [glA, glB, glC, Act.put, glD, glE, glF])
    refine wpAnyJ_take 6 (v := ?_) (by first | exact hF | exact wideFn) (HSA.out _ HS6.out) rfl (by kernel_rfl) (by kernel_rfl) (by kernel_rfl) (by kernel_rfl) rfl ?_ (by first | exact fun _ _ _ h => h | exact fun _ _ _ h => hQ2 _ _ _ _ _ h) ?_
    rotate_left
    · intro W hSW
      simp only [glA, glB, glC]
      (try dsimp only at hSW)
      go_simp
      with_reducible rfl
    (try simp only [glA, glB, glC, Act.put, glD, glE, glF])
    refine wpAnyJ_done (by kernel_rfl) ?_
    dsimp only [OnlyNormal]
    gi_wp2_with fail
    have K6 := hide (HK7.out.ext h6)
    clear h6 HS HK7
    have hst := all_seq F (9 - 1) hF hro (by omega) hwd (neS r ⟨D, day, de⟩) w6 (lt16 (mkS_lt _ r.n) h10)
    refine wpIn_rangeFunc_list hro (by omega) (gf := 66) (fs := #[.int .u16 (neS r ⟨D, day, de⟩ : Nat)]) (lb := #[]) rfl (hF _) (enters_of Tryd.func66 (by kernel_rfl) rfl)
      hst (Below.refl _ _) (fun _ => rfl)
      (fun pre W => FwS w W mp r g fb D day de ∧ Blk W h7 3 #[.int .i64 (pre.foldl (fun b a => min b (1 + fwN r (Mom.wi ⟨D, day, de⟩ a))) bs : Nat)])
      (fun _ _ _ => False) ?hI (fun pre W h => (HF0.out.turn h.1.gb h.1.fm).tb) (fun _ _ _ _ _ h _ _ => h) ⟨HS6.out, K6.out⟩ ?a1 ?hassign ?hbody ?hdone ?hstop
    case hI =>
      rintro pre W W' row ⟨h1, h2⟩ hg hr
      exact ⟨h1.keptN hg (fun r e => ⟨Nat.le_trans HS6.out.gb.size (hr r e).1, (hr r e).2⟩) HMP.out, h2.keptN hg (fun r e => (hr r e).2)⟩
    case hassign =>
      intro l x W K hK
      gi_wp2_with fail
      exact hK
    case hbody =>
      rintro l pre x W hpre ⟨h1, h2⟩
      obtain ⟨bp, hbp⟩ : ∃ y, pre.foldl (fun b a => min b (1 + fwN r (Mom.wi ⟨D, day, de⟩ a))) bs = y := ⟨_, rfl⟩
      rw [hbp] at h2
      have HBP := hide hbp
      have hmem : x ∈ elS (neS r ⟨D, day, de⟩) := by
        obtain ⟨t, ht⟩ := hpre
        rw [← ht]
        simp
      have hbr := (neS_mem h10).1 hmem
      have hx16 : x < 16 := by have := (br_undone hbr).1; omega
      have hmw := me_wi (m := ⟨D, day, de⟩) hbr
      have HMO := hide (HM.out.wi HR.out hbr)
      have HME : Hid (meN r (Mom.wi ⟨D, day, de⟩ x) < k) := hide (by have := HK.out; omega)
      obtain ⟨nx, hnx⟩ : ∃ y, fwN r (Mom.wi ⟨D, day, de⟩ x) = y := ⟨_, rfl⟩
      have hn11 : nx ≤ 11 := by rw [← hnx]; exact fwN_le r _
      have HNX2 := hide hnx
      have HKF : Hid (KeepsFrom w6.heap.size W W.drew) := hide ((KeepsOthers.drew W).from _)
      have S1 := hide (h1.ext (Below.refl W.heap.size W).drew)
      have B1 := hide (h2.ext (Below.refl W.heap.size W).drew)
      clear hbp hmem hbr hmw hnx h1 h2 hpre hst
      have hw1 : IntKind.i64.wrap (1 + (nx : Int)) = ((1 + nx : Nat) : Int) := by rw [IntWalk.i64_in _ (by omega)]; omega
      gi_wp2_with fail
      refine wpIn_only ?_
      refine wpIn_region_J (fun W : World => (W.cell? ⟨g, 0, none⟩ = some (.pointer (some ⟨fb, 0, none⟩)) ∧ (W.cell? ⟨g + 1, 0, none⟩ = some (.int .u16 (D : Nat)) ∧ W.cell? ⟨g + 1, 1, none⟩ = some (.int .i64 day) ∧ W.cell? ⟨g + 1, 2, none⟩ = some (.int .i64 de)) ∧ (W.cell? ⟨fb, 0, none⟩ = some (.pointer (some ⟨b, 0, none⟩)) ∧ W.cell? ⟨fb, 1, none⟩ = some (.map (some mp))) ∧ W.cell? ⟨b, 1, none⟩ = some (.int .i64 la)) ∧ W.cell? ⟨h7, 0, none⟩ = some (.int .i64 (bp : Nat))) (by kernel_rfl) ?_
      generalize W.drew = w7 at HKF S1 B1 ⊢
      refine tk_start [0, 1, 2, 3] ?_
      iterate 4
        refine tk_one (v := ?_) (by first | exact hF | exact wideFn) ⟨HSA.out _ S1.out, (blk1 B1.out).2.1⟩ rfl (by kernel_rfl) (by kernel_rfl) (by kernel_rfl) (by kernel_rfl) rfl ?_ (by first | exact fun _ _ _ h => h | exact fun _ _ _ h => hQ2 _ _ _ _ _ h) ?_
        rotate_left
        · intro W hSW
          simp only [glA, glB, glC]
          (try dsimp only at hSW)
          go_simp
          with_reducible rfl
        (try simp only [glA, glB, glC, Act.put, glD, glE, glF])
      refine tk_end ?_
      refine wpAnyJ_one 4 rfl (by kernel_rfl) (fun K hK => ?_)
      simp only [glA, glB, glC]
      go_simp
      (with_reducible refine ((CallsIn.inRound l (hwd (HWI.out x hx16 w7)))).mono ?_)
      rintro e w8 ⟨rfl, h8⟩
      have S2 := hide (S1.out.ext h8); have B2 := hide (B1.out.ext h8)
      dsimp only
      refine hK.out _ _ (fun _ => ⟨HSA.out _ S2.out, (blk1 B2.out).2.1⟩) ?_
      clear hK K
      (try simp only [glA, glB, glC, Act.put, glD, glE, glF])
      refine wpAnyJ_one 5 rfl (by kernel_rfl) (fun K hK => ?_)
      have HI := hide (HIH.out (Mom.wi ⟨D, day, de⟩ x) w8 HME.out HMO.out (HF0.out.turn S2.out.gb S2.out.fm))
      simp only [glA, glB, glC]
      go_simp
      (with_reducible refine ((CallsIn.inRound l (hwd HI.out))).mono ?_)
      rintro e w9 ⟨rfl, h9, g9⟩
      have S3 := hide (S2.out.turn g9 h9.fm); have B3 := hide ((KC.map S2.out.fm g9).blk B2.out)
      dsimp only
      refine hK.out _ _ (fun _ => ⟨HSA.out _ S3.out, (blk1 B3.out).2.1⟩) ?_
      clear hK K
      (try simp only [glA, glB, glC, Act.put, glD, glE, glF])
      rw [HNX2.out]
      refine wpAnyJ_take 6 (v := ?_) (by first | exact hF | exact wideFn) ⟨HSA.out _ S3.out, (blk1 B3.out).2.1⟩ rfl (by kernel_rfl) (by kernel_rfl) (by kernel_rfl) (by kernel_rfl) rfl ?_ (by first | exact fun _ _ _ h => h | exact fun _ _ _ h => hQ2 _ _ _ _ _ h) ?_
      rotate_left
      · intro W hSW
        simp only [glA, glB, glC]
        (try dsimp only at hSW)
        go_simp
        with_reducible rfl
      (try simp only [glA, glB, glC, Act.put, glD, glE, glF])
      refine wpAnyJ_take 7 (v := ?_) (by first | exact hF | exact wideFn) ⟨HSA.out _ S3.out, (blk1 B3.out).2.1⟩ rfl (by kernel_rfl) (by kernel_rfl) (by kernel_rfl) (by kernel_rfl) rfl ?_ (by first | exact fun _ _ _ h => h | exact fun _ _ _ h => hQ2 _ _ _ _ _ h) ?_
      rotate_left
      · intro W hSW
        simp only [glA, glB, glC]
        (try dsimp only at hSW)
        go_simp
        with_reducible rfl
      (try simp only [glA, glB, glC, Act.put, glD, glE, glF])
      obtain ⟨f1, c1, c2⟩ := blk1 B3.out
      refine wpAnyJ_one 8 rfl (by kernel_rfl) (fun K hK => ?_)
      simp only [glA, glB, glC]
      go_simp
      refine hK.out _ _ (fun h => absurd h (by rw [show lastOp _ _ _ = true from by kernel_rfl]; simp)) ?_
      clear hK K
      (try simp only [glA, glB, glC, Act.put, glD, glE, glF])
      refine wpAnyJ_done (by kernel_rfl) ?_
      dsimp only [OnlyNormal]
      rw [show min (bp : Int) (1 + (nx : Int)) = ((min bp (1 + nx) : Nat) : Int) by omega]
      have hkeep : KeepsFrom w6.heap.size W (w9.setCell ⟨h7, 0, none⟩ (.int .i64 (min bp (1 + nx) : Nat))) :=
        ((HKF.out.trans ((keepsO h8).from _)).trans (KeepsFrom.of_grownBy g9 (fun j e => by injection e with e; have := HS6.out.fm.lt; omega))).trans ((KeepsOthers.setCell w9 _ _).from _)
      refine ⟨hkeep, trivial, S3.out.set HLO.out.1 HMP.out (by have := HLO.out.2; omega) (by have := HLO.out.2; omega) _, ?_⟩
      rw [List.foldl_append, HBP.out]
      show Blk _ h7 3 #[.int .i64 (min bp (1 + fwN r (Mom.wi ⟨D, day, de⟩ x)) : Nat)]
      rw [HNX2.out]
      simpa using B3.out.set_ 0 (.int .i64 (min bp (1 + nx) : Nat))
    case hdone =>
      rintro Dm W hD ⟨h1, h2⟩ hK
      rw [← HEQ.out] at h2
      dsimp only
      gi_wp2_with fail
      have hKd : W.drew.heap[Dm]? = some (.deferred (some [])) := hK
      have HKD := hide hKd
      have S1 := hide (h1.ext (Below.refl W.heap.size W).drew)
      have B1 := hide (h2.ext (Below.refl W.heap.size W).drew)
      obtain ⟨w9, hrun, hf9, hg9⟩ := HPU.out _ S1.out.fm
      have HRUN := hide hrun
      have S2 := hide (S1.out.turn hg9 hf9)
      have B2 := hide ((KC.map S1.out.fm hg9).blk B1.out)
      have HK9 : Hid (w9.heap[Dm]? = some (.deferred (some []))) := hide ((hg9.block Dm (Array.getElem?_eq_some_iff.1 hKd).1 (fun e => by injection e with e; have := HS6.out.fm.lt; omega)).trans hKd)
      clear h1 h2 hK hKd hrun hf9 hg9 hst
      refine wpIn_only ?_
      refine wpIn_region_J (fun W : World => (W.cell? ⟨g, 0, none⟩ = some (.pointer (some ⟨fb, 0, none⟩)) ∧ (W.cell? ⟨g + 1, 0, none⟩ = some (.int .u16 (D : Nat)) ∧ W.cell? ⟨g + 1, 1, none⟩ = some (.int .i64 day) ∧ W.cell? ⟨g + 1, 2, none⟩ = some (.int .i64 de)) ∧ (W.cell? ⟨fb, 0, none⟩ = some (.pointer (some ⟨b, 0, none⟩)) ∧ W.cell? ⟨fb, 1, none⟩ = some (.map (some mp))) ∧ W.cell? ⟨b, 1, none⟩ = some (.int .i64 la)) ∧ W.cell? ⟨h7, 0, none⟩ = some (.int .i64 (v : Nat))) (by kernel_rfl) ?_
      generalize W.drew = wd at HRUN S1 B1 HKD ⊢
      refine tk_start [0, 1, 2, 3, 4, 5] ?_
      iterate 6
        refine tk_one (v := ?_) (by first | exact hF | exact wideFn) ⟨HSA.out _ S1.out, (blk1 B1.out).2.1⟩ rfl (by kernel_rfl) (by kernel_rfl) (by kernel_rfl) (by kernel_rfl) rfl ?_ (by first | exact fun _ _ _ h => h | exact fun _ _ _ h => hQ2 _ _ _ _ _ h) ?_
        rotate_left
        · intro W hSW
          simp only [glA, glB, glC]
          (try dsimp only at hSW)
          go_simp
          with_reducible rfl
        (try simp only [glA, glB, glC, Act.put, glD, glE, glF])
      refine tk_end ?_
      have hrun := HRUN.out
      refine wpAnyJ_one 6 rfl (by kernel_rfl) (fun K hK => ?_)
      simp only [glA, glB, glC]
      go_simp
      refine hK.out _ _ (fun h => absurd h (by rw [show lastOp _ _ _ = true from by kernel_rfl]; simp)) ?_
      clear hK K
      (try simp only [glA, glB, glC, Act.put, glD, glE, glF])
      refine wpAnyJ_done (by kernel_rfl) ?_
      dsimp only [OnlyNormal]
      obtain ⟨f1, c1, c2⟩ := blk1 B2.out
      gi_wp2_with fail
      refine ⟨by simp, .inl ⟨_, _, rfl, run_takeDeferred HK9.out, ?_⟩⟩
      have hgp := grownBy_putObj' w9 Dm (.deferred none)
      have hDw : w.heap.size ≤ Dm := Nat.le_trans HS6.out.gb.size hD
      have S5 := hide (S2.out.keptN hgp (fun r e => by cases e; exact ⟨hDw, _, HK9.out, rfl⟩) HMP.out)
      refine ⟨.int .i64 v, by simp [results, Tryd.results41, go_sem], ?_⟩
      exact ⟨rfl, HF0.out.turn S5.out.gb S5.out.fm, S5.out.gb⟩
    case hstop =>
      rintro Dm c pre W hD hSp h hK
      exact h.elim
  refine tk_start [0, 1, 2, 3, 4, 5, 6, 7, 8, 9, 10] ?_
  iterate 11
    refine tk_one (v := ?_) (by first | exact hF | exact wideFn) (HSA.out _ HS2.out) rfl (by kernel_rfl) (by kernel_rfl) (by kernel_rfl) (by kernel_rfl) rfl ?_ (by first | exact fun _ _ _ h => h | exact fun _ _ _ h => hQ2 _ _ _ _ _ h) ?_
    rotate_left
    · intro W hSW
      simp only [glA, glB, glC]
      (try dsimp only at hSW)
      go_simp
      with_reducible rfl
    (try simp only [glA, glB, glC, Act.put, glD, glE, glF])
  refine tk_end ?_
  refine wpAnyJ_done (by kernel_rfl) ?_
  dsimp only [OnlyNormal]
  by_cases hlt : day < la
  · have hst : IntKind.i64.wrap (day + 1) = day + 1 := IntWalk.i64_in _ (by omega)
    gi_wp2_with fail
    have HD := hide (Below.refl w4.heap.size w4).drew
    replace HS2 := hide (HS2.out.ext HD.out)
    replace K7 := hide (K7.out.ext HD.out)
    clear HD
    refine wpIn_only ?_
    refine wpIn_region_J (fun W : World => (W.cell? ⟨g, 0, none⟩ = some (.pointer (some ⟨fb, 0, none⟩)) ∧ (W.cell? ⟨g + 1, 0, none⟩ = some (.int .u16 (D : Nat)) ∧ W.cell? ⟨g + 1, 1, none⟩ = some (.int .i64 day) ∧ W.cell? ⟨g + 1, 2, none⟩ = some (.int .i64 de)) ∧ (W.cell? ⟨fb, 0, none⟩ = some (.pointer (some ⟨b, 0, none⟩)) ∧ W.cell? ⟨fb, 1, none⟩ = some (.map (some mp))) ∧ W.cell? ⟨b, 1, none⟩ = some (.int .i64 la))) (by kernel_rfl) ?_
    generalize w4.drew = w5 at HS2 K7 ⊢
    refine tk_start [0, 1, 2, 3, 4] ?_
    iterate 5
      refine tk_one (v := ?_) (by first | exact hF | exact wideFn) (HSA.out _ HS2.out) rfl (by kernel_rfl) (by kernel_rfl) (by kernel_rfl) (by kernel_rfl) rfl ?_ (by first | exact fun _ _ _ h => h | exact fun _ _ _ h => hQ2 _ _ _ _ _ h) ?_
      rotate_left
      · intro W hSW
        simp only [glA, glB, glC]
        (try dsimp only at hSW)
        go_simp
        with_reducible rfl
      (try simp only [glA, glB, glC, Act.put, glD, glE, glF])
    refine tk_end ?_
    refine wpAnyJ_one 5 rfl (by kernel_rfl) (fun K hK => ?_)
    simp only [glA, glB, glC]
    go_simp
    (with_reducible refine ((hwd (HON.out w5))).mono ?_)
    rintro e w6 ⟨rfl, h6⟩
    have HS6 := hide (HS2.out.ext h6); have K6 := hide (K7.out.ext h6)
    dsimp only
    refine hK.out _ _ (fun _ => HSA.out _ HS6.out) ?_
    clear hK K
    (try simp only [glA, glB, glC, Act.put, glD, glE, glF])
    refine wpAnyJ_one 6 rfl (by kernel_rfl) (fun K hK => ?_)
    have HI := hide (HIH.out (Mom.on ⟨D, day, de⟩ (day + 1)) w6 (by have h := me_on (r := r) (m := ⟨D, day, de⟩) (by show day < r.last; rw [HLA.out]; exact hlt); have := HK.out; dsimp only at h; omega) (HM.out.on HR.out (by omega) (by rw [HLA.out]; omega)) (HF0.out.turn HS6.out.gb HS6.out.fm))
    simp only [glA, glB, glC]
    go_simp
    (with_reducible refine ((hwd HI.out)).mono ?_)
    rintro e w8 ⟨rfl, h8, g8⟩
    have HS8 := hide (HS6.out.turn g8 h8.fm); have K8 := hide ((KC.map HS6.out.fm g8).blk K6.out)
    dsimp only
    refine hK.out _ _ (fun _ => HSA.out _ HS8.out) ?_
    clear hK K
    (try simp only [glA, glB, glC, Act.put, glD, glE, glF])
    have hb : fwN r (Mom.on ⟨D, day, de⟩ (day + 1)) = bs := by rw [← HBS.out, if_pos hlt]
    rw [hb]
    obtain ⟨f1, c1, c2⟩ := blk1 K8.out
    refine wpAnyJ_one 7 rfl (by kernel_rfl) (fun K hK => ?_)
    simp only [glA, glB, glC]
    go_simp
    refine hK.out _ _ (fun h => absurd h (by rw [show lastOp _ _ _ = true from by kernel_rfl]; simp)) ?_
    clear hK K
    (try simp only [glA, glB, glC, Act.put, glD, glE, glF])
    refine wpAnyJ_done (by kernel_rfl) ?_
    dsimp only [OnlyNormal]
    exact REST.out _ _ _ _ _ _ _ _ _ (HS8.out.set HLO.out.1 HMP.out (by have := HLO.out.2; omega) (by have := HLO.out.2; omega) _) (by simpa using K8.out.set_ 0 (.int .i64 (bs : Nat)))
  · gi_wp2_with fail
    have hb : bs = 11 := by rw [← HBS.out, if_neg (by omega)]
    subst hb
    exact REST.out _ _ _ _ _ _ _ _ _ HS2.out K7.out
end Go.Proofs.YtcgdalabenflmaaDoor
/- Rite: the closure of repair, and IndexFunc with a closure that writes. -/
namespace Go.Proofs.YtcgdalabenflmaaDoor
open List renaming getElem_toArray → glA, getElem_cons_zero → glB, getElem_cons_succ → glC, setIfInBounds_toArray → glD, set_cons_zero → glE, set_cons_succ → glF
open Go Go.RowKit Go.Shelf
set_option maxHeartbeats 8000000
set_option maxRecDepth 100000
/-- a search with a closure that writes -/
theorem idxJ_any (g : FuncId) (lb : Array Value) (p : Nat → Bool) (A : Option Addr) (n c : Nat) (u : Nat → Value) (J : World → Prop) (w : World) (hn : n ≤ 1000000) (h0 : J w) (hR : ∀ W, J W → ER W W.heap.size 1 A n fun k _ => u k)
    (eg : ∀ args w, (callFunc g args).run Tryd.prog w = .ok (.enter g args) w)
    (hp : ∀ W k, k < n → J W → Calls Tryd.prog g (#[u k] ++ lb) W fun e W' => e = .returned (.bool (p k)) ∧ J W') :
    Calls Tryd.prog 63 #[.slice A n c, .func (.func g) #[] lb] w fun e w' => ∃ iv : Int, e = .returned (.int .i64 iv) ∧ ((∃ i : Nat, iv = i ∧ i < n ∧ p i = true ∧ ∀ j, j < i → p j = false) ∨ (iv = -1 ∧ ∀ j, j < n → p j = false)) ∧ J w' := by
  have HP := hide hp
  have HJ0 := hide h0
  have HR := hide hR
  clear hp h0 hR
  go_enter Tryd.func63, Tryd.ntmps63
  go_wp2_with fail
  go_loopw [8] (fun i wr => ∃ k : Nat, k ≤ n ∧ i = .int .i64 k ∧ Hid (∀ j, j < k → p j = false) ∧ Hid (J wr)) (fun i _ => n - (intOf i).toNat)
  case atStart => exact ⟨0, Nat.zero_le _, rfl, hide (fun j hj => by omega), HJ0⟩
  case round =>
    obtain ⟨k, hk, rfl, HX, HB⟩ := hrel
    have hst : k < n → IntKind.i64.wrap ((k : Int) + 1) = ((k + 1 : Nat) : Int) := fun _ => by rw [IntWalk.i64_in _ (by omega)]; omega
    by_cases hlt : k < n
    · have hlt' : (k : Int) < (n : Int) := by omega
      replace hst := hst hlt
      obtain ⟨b, off, rfl, hb, hc⟩ := VR1.at_ (HR.out wr HB.out) hlt
      have H := HP.out wr k hlt HB.out
      cases hpk : p k with
      | true =>
        rw [hpk] at H
        have H' := hide H
        have HPK := hide hpk
        clear H hpk
        go_wp2_with ((with_reducible refine H'.out.mono ?_); rintro e w' ⟨rfl, hb1⟩)
        go_ret
        exact ⟨_, rfl, .inl ⟨k, rfl, hlt, HPK.out, HX.out⟩, hb1⟩
      | false =>
        rw [hpk] at H
        have H' := hide H
        have HPK := hide hpk
        clear H hpk
        go_wp2_with ((with_reducible refine H'.out.mono ?_); rintro e w' ⟨rfl, hb1⟩)
        go_roundw
        case rel => exact ⟨k + 1, by omega, by go_num, hide (fun j hj => by rcases Nat.lt_or_ge j k with h | h; exact HX.out j h; rw [show j = k by omega]; exact HPK.out), hide hb1⟩
        case measure => simp [intOf]; omega
    · obtain rfl : n = k := by omega
      have hnl : ¬ (n : Int) < (n : Int) := by omega
      go_wp2_with fail
      go_ret
      exact ⟨_, rfl, .inr ⟨rfl, HX.out⟩, HB.out⟩
/-- the closure: whether a deed leaves one less -/
theorem rep1_any (fb b mp : Nat) (d : Rad) (q : Bad) (r : Rit) (hr : RiOk r) (m : Mom) (hm : MoOk r m) (g h6 left x : Nat) (w : World) (hl : 0 < left) (hl2 : left ≤ 1000) (hx : x ∈ elS (neS r m)) (hF : FwR w fb b mp d q r)
    (k2 : Blk w g 80 #[.pointer (some ⟨fb, 0, none⟩)]) (k3 : Blk w (g + 1) 77 #[.int .u16 (m.d : Nat), .int .i64 m.day, .int .i64 m.de]) (k6 : Blk w h6 3 #[.int .i64 (left : Nat)]) :
    Calls Tryd.prog 64 #[.int .i64 x, .pointer (some ⟨g, 0, none⟩), .pointer (some ⟨g + 1, 0, none⟩), .pointer (some ⟨h6, 0, none⟩)] w fun e w' => e = .returned (.bool (decide (fwN r (m.wi x) = left - 1))) ∧ FwR w' fb b mp d q r ∧ w.grownBy w' (some mp) := by
  have h10 : r.n ≤ 16 := by have := hr.n10; omega
  have hbr := (neS_mem h10).1 hx
  have hx16 : x < 16 := by have := (br_undone hbr).1; have := hr.n10; omega
  have HIH := hide (fun W (h : FwR W fb b mp d q r) => few_any fb b mp d q r hr (meN r (m.wi x) + 1) (m.wi x) W (Nat.lt_succ_self _) (hm.wi hr hbr) h)
  have HWI := hide (fun W => with_any m x W hm.d hx16 hm.e0 (by have h1 := hm.e1; have h2 := hr.t4; omega))
  obtain ⟨D, day, de⟩ := m
  replace HWI : Hid (∀ W, Calls Tryd.prog 65 #[.agg #[.int .u16 (D : Nat), .int .i64 day, .int .i64 de], .int .i64 x] W fun e w' => e = .returned (momV (Mom.wi ⟨D, day, de⟩ x)) ∧ Below W.heap.size W w') := HWI
  dsimp only at k3
  obtain ⟨nx, hnx⟩ : ∃ y, fwN r (Mom.wi ⟨D, day, de⟩ x) = y := ⟨_, rfl⟩
  have HNX := hide hnx
  rw [hnx]
  have HF0 := hide hF
  have K2 := hide k2
  have K3 := hide k3
  have K6 := hide k6
  have hw1 : IntKind.i64.wrap ((left : Int) - 1) = ((left - 1 : Nat) : Int) := by rw [IntWalk.i64_in _ (by omega)]; omega
  have hdec : (((nx : Int) == ((left - 1 : Nat) : Int)) : Bool) = decide (nx = left - 1) := by
    rw [Bool.eq_iff_iff, beq_iff_eq, decide_eq_true_iff]
    omega
  obtain ⟨l1, hl1⟩ : ∃ y, left - 1 = y := ⟨_, rfl⟩
  rw [hl1] at hw1 hdec ⊢
  obtain ⟨bb, hbb⟩ : ∃ y, decide (nx = l1) = y := ⟨_, rfl⟩
  rw [hbb] at hdec ⊢
  clear hx hbr hF k2 k3 k6 hnx hm hr hbb
  have HSA : Hid (∀ W, w.grownBy W (some mp) → (W.cell? ⟨g, 0, none⟩ = some (.pointer (some ⟨fb, 0, none⟩)) ∧ (W.cell? ⟨g + 1, 0, none⟩ = some (.int .u16 (D : Nat)) ∧ W.cell? ⟨g + 1, 1, none⟩ = some (.int .i64 day) ∧ W.cell? ⟨g + 1, 2, none⟩ = some (.int .i64 de)) ∧ W.cell? ⟨h6, 0, none⟩ = some (.int .i64 (left : Nat)))) := hide fun W h => by
    have k := KC.map HF0.out.fm h
    obtain ⟨-, x0, -⟩ := blk1 (k.blk K2.out)
    obtain ⟨-, y0, y1, y2, -⟩ := blk3 (k.blk K3.out)
    obtain ⟨-, z0, -⟩ := blk1 (k.blk K6.out)
    exact ⟨x0, ⟨y0, y1, y2⟩, z0⟩
  go_enter Tryd.func64, Tryd.ntmps64
  go_upto_region 1 with fail
  have G1 := hide (gr_below (Below.refl w.heap.size w).drew mp)
  have F1 := hide (HF0.out.ext (Below.refl w.heap.size w).drew)
  refine wp_region_J (fun W : World => (W.cell? ⟨g, 0, none⟩ = some (.pointer (some ⟨fb, 0, none⟩)) ∧ (W.cell? ⟨g + 1, 0, none⟩ = some (.int .u16 (D : Nat)) ∧ W.cell? ⟨g + 1, 1, none⟩ = some (.int .i64 day) ∧ W.cell? ⟨g + 1, 2, none⟩ = some (.int .i64 de)) ∧ W.cell? ⟨h6, 0, none⟩ = some (.int .i64 (left : Nat)))) (by kernel_rfl) ?_
  generalize w.drew = wd at G1 F1 ⊢
  refine tk_start [0, 1, 2, 5, 6] ?_
  iterate 5
    refine tk_one (v := ?_) (by first | exact hF | exact wideFn) (HSA.out _ G1.out) rfl (by kernel_rfl) (by kernel_rfl) (by kernel_rfl) (by kernel_rfl) rfl ?_ (by first | exact fun _ _ _ h => h | exact fun _ _ _ h => hQ2 _ _ _ _ _ h) ?_
    rotate_left
    · intro W hSW
      simp only [glA, glB, glC]
      (try dsimp only at hSW)
      go_simp
      with_reducible rfl
    (try simp only [glA, glB, glC, Act.put, glD, glE, glF])
  refine tk_end ?_
  refine wpAnyJ_one 3 rfl (by kernel_rfl) (fun K hK => ?_)
  simp only [glA, glB, glC]
  go_simp
  refine ⟨trivial, rfl, ?_⟩
  refine (callsIn_wide.2 (HWI.out wd)).mono ?_
  rintro e w2 ⟨rfl, h2⟩
  have G2 := hide (gr_trans G1.out (gr_below h2 mp)); have F2 := hide (F1.out.ext h2)
  dsimp only
  refine hK.out _ _ (fun _ => HSA.out _ G2.out) ?_
  clear hK K
  (try simp only [glA, glB, glC, Act.put, glD, glE, glF])
  refine wpAnyJ_one 4 rfl (by kernel_rfl) (fun K hK => ?_)
  simp only [glA, glB, glC]
  go_simp
  refine ⟨trivial, rfl, ?_⟩
  refine (callsIn_wide.2 (HIH.out w2 F2.out)).mono ?_
  rintro e w3 ⟨rfl, h3, g3⟩
  have G3 := hide (gr_trans G2.out g3)
  dsimp only
  refine hK.out _ _ (fun _ => HSA.out _ G3.out) ?_
  clear hK K
  (try simp only [glA, glB, glC, Act.put, glD, glE, glF])
  rw [HNX.out]
  refine wpAnyJ_take 7 (v := ?_) (by first | exact hF | exact wideFn) (HSA.out _ G3.out) rfl (by kernel_rfl) (by kernel_rfl) (by kernel_rfl) (by kernel_rfl) rfl ?_ (by first | exact fun _ _ _ h => h | exact fun _ _ _ h => hQ2 _ _ _ _ _ h) ?_
  rotate_left
  · intro W hSW
    simp only [glA, glB, glC]
    (try dsimp only at hSW)
    go_simp
    with_reducible rfl
  (try simp only [glA, glB, glC, Act.put, glD, glE, glF])
  refine wpAnyJ_take 8 (v := ?_) (by first | exact hF | exact wideFn) (HSA.out _ G3.out) rfl (by kernel_rfl) (by kernel_rfl) (by kernel_rfl) (by kernel_rfl) rfl ?_ (by first | exact fun _ _ _ h => h | exact fun _ _ _ h => hQ2 _ _ _ _ _ h) ?_
  rotate_left
  · intro W hSW
    simp only [glA, glB, glC]
    (try dsimp only at hSW)
    go_simp
    with_reducible rfl
  (try simp only [glA, glB, glC, Act.put, glD, glE, glF])
  refine wpAnyJ_done (by kernel_rfl) ?_
  go_wp2_with fail
  go_ret
  exact ⟨rfl, h3, G3.out⟩
end Go.Proofs.YtcgdalabenflmaaDoor
