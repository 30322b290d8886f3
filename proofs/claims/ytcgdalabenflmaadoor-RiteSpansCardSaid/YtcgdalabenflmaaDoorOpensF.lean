/- Rite: copied, walked. -/
import Derived.Test.YtcgdalabenflmaaDoorOpensE
set_option linter.unusedSimpArgs false
set_option linter.unusedVariables false
set_option linter.unnecessarySimpa false
namespace Go.Proofs.YtcgdalabenflmaaDoor
open List renaming getElem_toArray → glA, getElem_cons_zero → glB, getElem_cons_succ → glC, setIfInBounds_toArray → glD, set_cons_zero → glE, set_cons_succ → glF
open Go Go.RowKit Go.Shelf
set_option maxHeartbeats 8000000
set_option maxRecDepth 100000
/-- two lists put behind two empty ones -/
theorem lists2 {W : World} {n0 p1 p2 : Nat} (hp : p1 ≠ p2) (h1 : OwnJ W n0 (.slice (some ⟨p1, 0, none⟩) 0 0) []) (h2 : OwnJ W n0 (.slice (some ⟨p2, 0, none⟩) 0 0) []) (A c B b : _) (l m : List Int)
    (hA : ∀ W', Below n0 W W' → LI W' W'.heap.size A l) (hB : ∀ W', Below n0 W W' → LI W' W'.heap.size B m) (hl : l.length ≤ 1000000) (hm : m.length ≤ 1000000) (hn : n0 ≤ W.heap.size) :
    ∃ A1 c1 wc, (Builtin.append_ #[48, 48] 48 #[.slice (some ⟨p1, 0, none⟩) 0 0, .slice A l.length c]).run Tryd.prog W = .ok (.slice A1 l.length c1) wc ∧ Below n0 W wc ∧
      ∃ A2 c2 we, (Builtin.append_ #[48, 48] 48 #[.slice (some ⟨p2, 0, none⟩) 0 0, .slice B m.length b]).run Tryd.prog wc = .ok (.slice A2 m.length c2) we ∧ Below n0 W we ∧ OwnJ we n0 (.slice A1 l.length c1) l ∧ OwnJ we n0 (.slice A2 m.length c2) m := by
  have q1 := (World.ownsRow.lt h1 p1 rfl)
  have q2 := (World.ownsRow.lt h2 p2 rfl)
  obtain ⟨A1, c1, wc, hr1, ho1, hg1, hw1⟩ := ap_any h1 A c l (hA _ (Below.refl _ _)) hl hn
  have hb1 : Below n0 W wc := (Below.refl _ _).grown hg1 hn (fun k e => by simp [Value.ownBlock] at e; omega)
  have h2' : OwnJ wc n0 (.slice (some ⟨p2, 0, none⟩) 0 0) [] := World.ownsRow.kept h2 hg1 (.inr (by simp [Value.ownBlock]; omega))
  obtain ⟨A2, c2, we, hr2, ho2, hg2, hw2⟩ := ap_any h2' B b m (hB _ hb1) hm (Nat.le_trans hn hb1.size)
  have hb2 : Below n0 W we := hb1.grown hg2 (Nat.le_trans hn hb1.size) (fun k e => by simp [Value.ownBlock] at e; omega)
  have ho1' : OwnJ we n0 (.slice A1 l.length c1) l := World.ownsRow.kept ho1 hg2 (.inr (by
    rcases hw1 with h | h
    · rw [h]; simp [Value.ownBlock]; omega
    · rw [h]; simp [Value.ownBlock]; omega))
  exact ⟨A1, c1, wc, hr1, hb1, A2, c2, we, hr2, hb2, ho1', ho2⟩
/-- the same, with the second empty list made in between -/
theorem lists1 {W : World} {n0 p1 : Nat} (h1 : OwnJ W n0 (.slice (some ⟨p1, 0, none⟩) 0 0) []) (A c B b : _) (l m : List Int)
    (hA : ∀ W', Below n0 W W' → LI W' W'.heap.size A l) (hB : ∀ W', Below n0 W W' → LI W' W'.heap.size B m) (hl : l.length ≤ 1000000) (hm : m.length ≤ 1000000) (hn : n0 ≤ W.heap.size) :
    ∃ A1 c1 wc, (Builtin.append_ #[48, 48] 48 #[.slice (some ⟨p1, 0, none⟩) 0 0, .slice A l.length c]).run Tryd.prog W = .ok (.slice A1 l.length c1) wc ∧ Below n0 W wc ∧
      ∃ A2 c2 we, (Builtin.append_ #[48, 48] 48 #[.slice (some ⟨wc.heap.size, 0, none⟩) 0 0, .slice B m.length b]).run Tryd.prog (wc.alloc (.cells #[] 3)) = .ok (.slice A2 m.length c2) we ∧ Below n0 W (wc.alloc (.cells #[] 3)) ∧ Below n0 W we ∧ OwnJ we n0 (.slice A1 l.length c1) l ∧ OwnJ we n0 (.slice A2 m.length c2) m := by
  have q1 := (World.ownsRow.lt h1 p1 rfl)
  obtain ⟨A1, c1, wc, hr1, ho1, hg1, hw1⟩ := ap_any h1 A c l (hA _ (Below.refl _ _)) hl hn
  have hb1 : Below n0 W wc := (Below.refl _ _).grown hg1 hn (fun k e => by simp [Value.ownBlock] at e; omega)
  have hn1 := Nat.le_trans hn hb1.size
  have hba : Below n0 W (wc.alloc (.cells #[] 3)) := hb1.alloc hn1 _
  have h2 := OwnJ.made0 wc
  have ho1a : OwnJ (wc.alloc (.cells #[] 3)) n0 (.slice A1 l.length c1) l := World.ownsRow.alloc ho1 _
  obtain ⟨A2, c2, we, hr2, ho2, hg2, hw2⟩ := ap_any h2 B b m (hB _ hba) hm (by simp)
  have hb2 : Below n0 W we := hba.grown hg2 (by simp; omega) (fun k e => by simp [Value.ownBlock] at e; omega)
  have ho1' : OwnJ we n0 (.slice A1 l.length c1) l := World.ownsRow.kept ho1a hg2 (.inr (fun e => by
    have h3 : (Value.slice A1 l.length c1).ownBlock = some wc.heap.size := by rw [e]; rfl
    have := (World.ownsRow.lt ho1 _ h3).2
    omega))
  exact ⟨A1, c1, wc, hr1, hb1, A2, c2, we, hr2, hba, hb2, ho1', ownMono ho2 hn1⟩
/-- what copied keeps -/
structure CpA (w W : World) (G R n : Nat) (d : Rad) (r : Rit) (la tl : Int) (k : Nat) (v : Value) (e : Rad) : Prop where
  lo : Below w.heap.size w W
  kG : Blk W G 24 #[.slice d.A n d.c, .int .i64 la, .int .i64 tl]
  kO : Blk W (G + 1) 24 #[.slice none 0 0, .int .i64 0, .int .i64 0]
  kR : Blk W R 24 #[v, .int .i64 la, .int .i64 tl]
  ow : OwnA W w.heap.size v r e k
  nd : ∀ j, j < k → OwnJ W w.heap.size (.slice (e.na j) (r.ac j).nd.length (e.nc j)) (r.ac j).nd
  ins : ∀ j, j < k → OwnJ W w.heap.size (.slice (e.ia j) (r.ac j).ins.length (e.ic j)) (r.ac j).ins
theorem CpA.ext {w W W' : World} {G R n : Nat} {d : Rad} {r : Rit} {la tl : Int} {k : Nat} {v : Value} {e : Rad} (h : CpA w W G R n d r la tl k v e) (hb : Below W.heap.size W W') : CpA w W' G R n d r la tl k v e :=
  ⟨h.lo.trans (hb.mono h.lo.size), h.kG.ext hb, h.kO.ext hb, h.kR.ext hb, ownBelow h.ow hb, fun j hj => (h.nd j hj).ext hb, fun j hj => (h.ins j hj).ext hb⟩
/-- another act is put behind -/
theorem CpA.push {w W W' : World} {G R n : Nat} {d : Rad} {r : Rit} {la tl : Int} {k : Nat} {v v' : Value} {e : Rad} (h : CpA w W G R n d r la tl k v e) (hlo : w.heap.size ≤ R) (hGR : G + 1 < R) (na : Option Addr) (nc : Nat) (ia : Option Addr) (ic : Nat)
    (hn : OwnJ W w.heap.size (.slice na (r.ac k).nd.length nc) (r.ac k).nd) (hi : OwnJ W w.heap.size (.slice ia (r.ac k).ins.length ic) (r.ac k).ins) (hg : W.grownBy W' v.ownBlock) (ho : OwnA W' w.heap.size v' r (e.up k na nc ia ic) (k + 1)) :
    CpA w (W'.setCell ⟨R, 0, none⟩ v') G R n d r la tl (k + 1) v' (e.up k na nc ia ic) := by
  have hne : ∀ {x : Value} {l : List Int}, OwnJ W w.heap.size x l → OwnJ W' w.heap.size x l := fun {x l} hx => World.ownsRow.kept hx hg (by
    rcases hb : x.ownBlock with _ | p
    · exact .inl rfl
    · refine .inr fun e => ?_
      obtain ⟨A, c, rfl⟩ := own_shape hx
      rcases hx.2 with ⟨h1, -⟩ | ⟨g', cap, cur, h1, -, hh, -⟩
      · rw [h1] at hb; cases hb
      · rw [h1] at hb
        have hgp : g' = p := by simpa [Value.ownBlock] using hb
        subst hgp
        exact own_blk_ne h.ow (t := 3) hh (by decide) e.symm)
  have kR' : Blk W' R 24 #[v, .int .i64 la, .int .i64 tl] := h.kR.grown hg (fun e => own_blk_ne h.ow h.kR (by decide) e.symm)
  have hst : ∀ {x : Value} {l : List Int}, OwnJ W' w.heap.size x l → OwnJ (W'.setCell ⟨R, 0, none⟩ v') w.heap.size x l := fun hx => ownsRow_setCell_other hx (own_blk_ne hx kR' (by decide)) _
  refine ⟨(h.lo.grown hg h.lo.size (fun k e => (World.ownsRow.lt h.ow k e).1)).setCell (p := ⟨R, 0, none⟩) hlo v', ?_, ?_, ?_, ownsRow_setCell_other ho (own_blk_ne ho kR' (by decide)) _, fun j hj => ?_, fun j hj => ?_⟩
  · exact (h.kG.grown hg (fun e => own_blk_ne h.ow h.kG (by decide) e.symm)).far (p := ⟨R, 0, none⟩) (by show G ≠ R; omega) v'
  · exact (h.kO.grown hg (fun e => own_blk_ne h.ow h.kO (by decide) e.symm)).far (p := ⟨R, 0, none⟩) (by show G + 1 ≠ R; omega) v'
  · simpa using kR'.set_ 0 v'
  · unfold Rad.up
    dsimp only
    by_cases hjk : j = k
    · subst hjk; rw [if_pos rfl, if_pos rfl]; exact hst (hne hn)
    · rw [if_neg hjk, if_neg hjk]; exact hst (hne (h.nd j (by omega)))
  · unfold Rad.up
    dsimp only
    by_cases hjk : j = k
    · subst hjk; rw [if_pos rfl, if_pos rfl]; exact hst (hne hi)
    · rw [if_neg hjk, if_neg hjk]; exact hst (hne (h.ins j (by omega)))
def CpPost (w : World) (r : Rit) (e : Ending) (w' : World) : Prop :=
  ∃ d', e = .returned (.agg #[.slice d'.A r.n d'.c, .int .i64 r.last, .int .i64 r.toil]) ∧ RtR w' d' r ∧ Below w.heap.size w w'
theorem built_rite (la tl : Int) : Tryd.prog.built 24 [(1, .int .i64 la), (2, .int .i64 tl)] = some #[.slice none 0 0, .int .i64 la, .int .i64 tl] := by kernel_rfl
theorem copied_any (d : Rad) (r : Rit) (w : World) (hd : RtR w d r) (hz : RtZ r) :
    Calls Tryd.prog 12 #[.agg #[.slice d.A r.n d.c, .int .i64 r.last, .int .i64 r.toil]] w (CpPost w r) := by
  have HZ := hide hz
  have HD := hide hd
  have hn1 := hz.n
  obtain ⟨n, hn⟩ : ∃ n, r.n = n := ⟨_, rfl⟩
  obtain ⟨la, hla⟩ : ∃ n, r.last = n := ⟨_, rfl⟩
  obtain ⟨tl, htl⟩ : ∃ n, r.toil = n := ⟨_, rfl⟩
  have HN := hide (And.intro hn (And.intro hla htl))
  unfold CpPost
  rw [hn] at hn1
  rw [hn, hla, htl]
  have HB1 : Hid (Below w.heap.size w ((w.alloc (.cells #[.slice d.A n d.c, .int .i64 la, .int .i64 tl] 24)).alloc (.cells #[.slice none 0 0, .int .i64 0, .int .i64 0] 24))) := hide (((Below.refl _ _).alloc (Nat.le_refl _) _).alloc (by simp) _)
  have G1 : Hid (Blk ((w.alloc (.cells #[.slice d.A n d.c, .int .i64 la, .int .i64 tl] 24)).alloc (.cells #[.slice none 0 0, .int .i64 0, .int .i64 0] 24)) w.heap.size 24 #[.slice d.A n d.c, .int .i64 la, .int .i64 tl]) := hide ((Blk.new w _ _).alloc _)
  have Q1 : Hid (Blk ((w.alloc (.cells #[.slice d.A n d.c, .int .i64 la, .int .i64 tl] 24)).alloc (.cells #[.slice none 0 0, .int .i64 0, .int .i64 0] 24)) (w.heap.size + 1) 24 #[.slice none 0 0, .int .i64 0, .int .i64 0]) := hide (by simpa using Blk.new (w.alloc (.cells #[.slice d.A n d.c, .int .i64 la, .int .i64 tl] 24)) 24 #[.slice none 0 0, .int .i64 0, .int .i64 0])
  have HB0 := hide (built_rite la tl)
  clear hd hz hn hla htl
  go_enter Tryd.func12, Tryd.ntmps12
  go_upto_region 1 with fail
  have HSZ : Hid ((((w.alloc (.cells #[.slice d.A n d.c, .int .i64 la, .int .i64 tl] 24)).alloc (.cells #[.slice none 0 0, .int .i64 0, .int .i64 0] 24))).heap.size = w.heap.size + 2) := hide (by simp)
  generalize ((w.alloc (.cells #[.slice d.A n d.c, .int .i64 la, .int .i64 tl] 24)).alloc (.cells #[.slice none 0 0, .int .i64 0, .int .i64 0] 24)) = w1 at HB1 G1 Q1 HSZ ⊢
  obtain ⟨G, hG⟩ : ∃ x, w.heap.size = x := ⟨_, rfl⟩
  have HG := hide hG
  rw [hG] at G1 Q1 ⊢
  clear hG
  obtain ⟨g9, g0, g1, g2, -⟩ := blk3 G1.out
  have hb0 := HB0.out
  go_wp2_with fail
  have hb2 : Below w1.heap.size w1 (w1.alloc (.cells #[.slice none 0 0, .int .i64 la, .int .i64 tl] 24)) := (Below.refl _ _).alloc (Nat.le_refl _) _
  have HI : Hid (CpA w (w1.alloc (.cells #[.slice none 0 0, .int .i64 la, .int .i64 tl] 24)) G w1.heap.size n d r la tl 0 (.slice none 0 0) d) := hide ⟨HB1.out.trans (hb2.mono HB1.out.size), G1.out.ext hb2, Q1.out.ext hb2, Blk.new _ _ _, ⟨rfl, .inl ⟨rfl, rfl⟩⟩, fun j hj => by omega, fun j hj => by omega⟩
  have HR : Hid (G + 1 < w1.heap.size ∧ w.heap.size ≤ G) := hide ⟨by have := HSZ.out; have := HG.out; omega, Nat.le_of_eq HG.out⟩
  clear hb2 hb0 HB0 g9 g0 g1 g2 HB1 G1 Q1 HSZ HG
  generalize w1.alloc (.cells #[.slice none 0 0, .int .i64 la, .int .i64 tl] 24) = w2 at HI ⊢
  obtain ⟨R, hR⟩ : ∃ x, w1.heap.size = x := ⟨_, rfl⟩
  rw [hR] at HI HR ⊢
  clear hR
  go_loopw [4] (fun i wr => ∃ (k : Nat) (v : Value) (e : Rad), k ≤ n ∧ i = .int .i64 k ∧ Hid (CpA w wr G R n d r la tl k v e)) (fun i _ => n - (intOf i).toNat)
  case atStart => exact ⟨0, _, d, Nat.zero_le _, rfl, HI⟩
  case round =>
    obtain ⟨k, v, e, hk, rfl, HK⟩ := hrel
    clear HI
    obtain ⟨q9, q0, q1, q2, -⟩ := blk3 HK.out.kG
    have hst : IntKind.i64.wrap ((k : Int) + 1) = ((k + 1 : Nat) : Int) := by rw [IntWalk.i64_in _ (by omega)]; omega
    by_cases hlt : k < n
    · have hlt' : (k : Int) < (n : Int) := by omega
      have hkr : k < r.n := by rw [HN.out.1]; exact hlt
      obtain ⟨a, ha⟩ : ∃ x, r.ac k = x := ⟨_, rfl⟩
      have HA := hide ha
      have hnd := HZ.out.nd k hkr
      have hni := HZ.out.ins k hkr
      have HLN : Hid (∀ W, Below w.heap.size w W → LI W W.heap.size (d.na k) a.nd) := hide fun W h => by rw [← ha]; exact (ER.below (HD.out.nd k hkr) h (Nat.le_refl _)).more h.size
      have HLI : Hid (∀ W, Below w.heap.size w W → LI W W.heap.size (d.ia k) a.ins) := hide fun W h => by rw [← ha]; exact (ER.below (HD.out.ins k hkr) h (Nat.le_refl _)).more h.size
      obtain ⟨b, off, hra, hb, c0, c1, c2, c3, c4, c5, c6⟩ := HD.out.at_ hkr ha
      rw [ha] at hnd hni
      rw [hra] at q0 ⊢
      have e0 := (HK.out.lo.cell (p := ⟨b, off + k * 7, none⟩) hb).trans c0
      have e1 := (HK.out.lo.cell (p := ⟨b, off + k * 7 + 1, none⟩) hb).trans c1
      have e2 := (HK.out.lo.cell (p := ⟨b, off + k * 7 + 2, none⟩) hb).trans c2
      have e3 := (HK.out.lo.cell (p := ⟨b, off + k * 7 + 3, none⟩) hb).trans c3
      have e4 := (HK.out.lo.cell (p := ⟨b, off + k * 7 + 4, none⟩) hb).trans c4
      have e5 := (HK.out.lo.cell (p := ⟨b, off + k * 7 + 5, none⟩) hb).trans c5
      have e6 := (HK.out.lo.cell (p := ⟨b, off + k * 7 + 6, none⟩) hb).trans c6
      obtain ⟨nm, nd, ins, at_, fr, to_, ex⟩ := a
      dsimp only at e0 e1 e2 e3 e4 e5 e6 hnd hni HLN HLI
      obtain ⟨nn, hnn⟩ : ∃ x, nd.length = x := ⟨_, rfl⟩
      obtain ⟨ni, hnni⟩ : ∃ x, ins.length = x := ⟨_, rfl⟩
      have HNN := hide (And.intro hnn hnni)
      rw [hnn] at e1
      rw [hnni] at e2
      clear ha hkr hb c0 c1 c2 c3 c4 c5 c6 hnn hnni
      go_upto_region 6 with fail
      clear e0 e1 e2 e3 e4 e5 e6 q0 q1 q2 q9
      obtain ⟨na, hna⟩ : ∃ x, d.na k = x := ⟨_, rfl⟩
      obtain ⟨nc, hnc⟩ : ∃ x, d.nc k = x := ⟨_, rfl⟩
      obtain ⟨ia, hia⟩ : ∃ x, d.ia k = x := ⟨_, rfl⟩
      obtain ⟨ic, hic⟩ : ∃ x, d.ic k = x := ⟨_, rfl⟩
      rw [hna] at HLN
      rw [hia] at HLI
      rw [hna, hnc, hia, hic]
      clear hna hnc hia hic
      have KE := hide (Blk.new wr 58 #[.string nm, .slice na nn nc, .slice ia ni ic, .int .i64 at_, .int .i64 fr, .int .i64 to_, .bool ex])
      have hb1 : Below wr.heap.size wr (wr.alloc (.cells #[.string nm, .slice na nn nc, .slice ia ni ic, .int .i64 at_, .int .i64 fr, .int .i64 to_, .bool ex] 58)) := (Below.refl _ _).alloc (Nat.le_refl _) _
      have HB1 := hide hb1
      clear hb1
      obtain ⟨E, hE⟩ : ∃ x, wr.heap.size = x := ⟨_, rfl⟩
      have HE := hide hE
      rw [hE] at KE ⊢
      clear hE
      generalize wr.alloc (.cells #[.string nm, .slice na nn nc, .slice ia ni ic, .int .i64 at_, .int .i64 fr, .int .i64 to_, .bool ex] 58) = w3 at KE HB1 ⊢
      go_cut [26, 30] (fun u26 u30 w' => ∃ A1 c1 A2 c2, u26 = .slice A1 nn c1 ∧ u30 = .slice A2 ni c2 ∧ Hid (Below wr.heap.size wr w' ∧ OwnJ w' wr.heap.size (.slice A1 nn c1) nd ∧ OwnJ w' wr.heap.size (.slice A2 ni c2) ins ∧ Blk w' E 58 #[.string nm, .slice A1 nn c1, .slice A2 ni c2, .int .i64 at_, .int .i64 fr, .int .i64 to_, .bool ex]))
      case first =>
        have HBD := hide (HB1.out.trans ((Below.refl w3.heap.size w3).drew.mono HB1.out.size))
        replace KE := hide (KE.out.ext (Below.refl w3.heap.size w3).drew)
        clear HB1
        refine wp_region_K (pickS [2, 6] (fun W : World => (W.cell? ⟨E, 1, none⟩ = some (.slice na nn nc) ∧ W.cell? ⟨E, 2, none⟩ = some (.slice ia ni ic))) (fun _ => True)) (by kernel_rfl) ?_
        generalize w3.drew = wd at HBD KE ⊢
        have HC : Hid (∀ W, Below wd.heap.size wd W → (W.cell? ⟨E, 1, none⟩ = some (.slice na nn nc) ∧ W.cell? ⟨E, 2, none⟩ = some (.slice ia ni ic))) := hide fun W h => by
          have hk := KE.out.ext h
          exact ⟨by rw [hk.cell]; rfl, by rw [hk.cell]; rfl⟩
        have HLN2 : Hid (∀ W, Below wd.heap.size wd W → LI W W.heap.size na nd) := hide fun W h => HLN.out W ((HK.out.lo.trans (HBD.out.mono HK.out.lo.size)).trans (h.mono (Nat.le_trans HK.out.lo.size HBD.out.size)))
        have HLI2 : Hid (∀ W, Below wd.heap.size wd W → LI W W.heap.size ia ins) := hide fun W h => HLI.out W ((HK.out.lo.trans (HBD.out.mono HK.out.lo.size)).trans (h.mono (Nat.le_trans HK.out.lo.size HBD.out.size)))
        clear HLN HLI HK
        refine wpAnyK_take 1 (v := ?_) (by first | exact hF | exact wideFn) trivial rfl (by kernel_rfl) (by kernel_rfl) (by kernel_rfl) (by kernel_rfl) rfl ?_ (by first | exact fun _ _ _ h => h | exact fun _ _ _ h => hQ2 _ _ _ _ _ h) ?_
        rotate_left
        · intro W hSW
          replace hSW : True := hSW
          simp only [glA, glB, glC]
          (try dsimp only at hSW)
          go_simp
          with_reducible rfl
        (try simp only [glA, glB, glC, Act.put, glD, glE, glF])
        refine wpAnyK_take 2 (v := ?_) (by first | exact hF | exact wideFn) (And.intro (HC.out _ (Below.refl _ _)) trivial) rfl (by kernel_rfl) (by kernel_rfl) (by kernel_rfl) (by kernel_rfl) rfl ?_ (by first | exact fun _ _ _ h => h | exact fun _ _ _ h => hQ2 _ _ _ _ _ h) ?_
        rotate_left
        · intro W hSW
          replace hSW : (((W.cell? ⟨E, 1, none⟩ = some (.slice na nn nc) ∧ W.cell? ⟨E, 2, none⟩ = some (.slice ia ni ic))) ∧ True) := hSW
          simp only [glA, glB, glC]
          (try dsimp only at hSW)
          go_simp
          with_reducible rfl
        (try simp only [glA, glB, glC, Act.put, glD, glE, glF])
        refine wpAnyK_take 5 (v := ?_) (by first | exact hF | exact wideFn) trivial rfl (by kernel_rfl) (by kernel_rfl) (by kernel_rfl) (by kernel_rfl) rfl ?_ (by first | exact fun _ _ _ h => h | exact fun _ _ _ h => hQ2 _ _ _ _ _ h) ?_
        rotate_left
        · intro W hSW
          replace hSW : True := hSW
          simp only [glA, glB, glC]
          (try dsimp only at hSW)
          go_simp
          with_reducible rfl
        (try simp only [glA, glB, glC, Act.put, glD, glE, glF])
        refine wpAnyK_take 6 (v := ?_) (by first | exact hF | exact wideFn) (And.intro (HC.out _ (Below.refl _ _)) trivial) rfl (by kernel_rfl) (by kernel_rfl) (by kernel_rfl) (by kernel_rfl) rfl ?_ (by first | exact fun _ _ _ h => h | exact fun _ _ _ h => hQ2 _ _ _ _ _ h) ?_
        rotate_left
        · intro W hSW
          replace hSW : (((W.cell? ⟨E, 1, none⟩ = some (.slice na nn nc) ∧ W.cell? ⟨E, 2, none⟩ = some (.slice ia ni ic))) ∧ True) := hSW
          simp only [glA, glB, glC]
          (try dsimp only at hSW)
          go_simp
          with_reducible rfl
        (try simp only [glA, glB, glC, Act.put, glD, glE, glF])
        have hba : Below wd.heap.size wd (wd.alloc (.cells #[] 3)) := (Below.refl _ _).alloc (Nat.le_refl _) _
        have hl1 : nd.length ≤ 1000000 := by omega
        have hl2 : ins.length ≤ 1000000 := by omega
        refine wpAnyK_two 0 4 rfl rfl (by kernel_rfl) (fun K hK => ?_) (fun K hK => ?_)
        · simp only [glA, glB, glC]
          go_simp
          refine hK.out _ _ (.inr (pickS_all (HC.out _ hba) trivial)) ?_
          clear hK K
          (try simp only [glA, glB, glC, Act.put, glD, glE, glF])
          refine wpAnyK_two 3 4 rfl rfl (by kernel_rfl) (fun K hK => ?_) (fun K hK => ?_)
          · obtain ⟨A1, c1', wb, hr1, hb1, A2, c2', we, hr2, hb2, hbe, o1, o2⟩ := lists1 (OwnJ.made0 wd) na nc ia ic nd ins (fun W h => HLN2.out W (hba.trans h)) (fun W h => HLI2.out W (hba.trans h)) hl1 hl2 hba.size
            replace hbe := hba.trans hbe
            rw [HNN.out.1] at hr1 o1
            rw [HNN.out.2] at hr2 o2
            rw [if_pos (by rfl)]
            refine wpIn_append_run (.tmp 23) (.tmp 25) 48 wideFn rfl rfl rfl hr1 ?_
            refine hK.out _ _ (.inr (pickS_all (HC.out _ (hba.trans hb1)) trivial)) ?_
            clear hK K
            (try simp only [glA, glB, glC, Act.put, glD, glE, glF])
            refine wpAnyK_take 8 (v := ?_) (by first | exact hF | exact wideFn) trivial rfl (by kernel_rfl) (by kernel_rfl) (by kernel_rfl) (by kernel_rfl) rfl ?_ (by first | exact fun _ _ _ h => h | exact fun _ _ _ h => hQ2 _ _ _ _ _ h) ?_
            rotate_left
            · intro W hSW
              replace hSW : True := hSW
              simp only [glA, glB, glC]
              (try dsimp only at hSW)
              go_simp
              with_reducible rfl
            (try simp only [glA, glB, glC, Act.put, glD, glE, glF])
            refine wpAnyK_one 4 rfl (by kernel_rfl) (fun K hK => ?_)
            simp only [glA, glB, glC]
            go_simp
            refine hK.out _ _ (.inr (pickS_all (HC.out _ (hba.trans hb2)) trivial)) ?_
            clear hK K
            (try simp only [glA, glB, glC, Act.put, glD, glE, glF])
            refine wpAnyK_one 7 rfl (by kernel_rfl) (fun K hK => ?_)
            rw [if_pos (by rfl)]
            refine wpIn_append_run (.tmp 27) (.tmp 29) 48 wideFn rfl rfl rfl hr2 ?_
            refine hK.out _ _ (.inr (pickS_all (HC.out _ hbe) trivial)) ?_
            clear hK K
            (try simp only [glA, glB, glC, Act.put, glD, glE, glF])
            have f1 := (KE.out.ext hbe).frozen 1
            have c1 : we.cell? ⟨E, 1, none⟩ = some (.slice na nn nc) := (HC.out _ hbe).1
            refine wpAnyK_one 9 rfl (by kernel_rfl) (fun K hK => ?_)
            simp only [glA, glB, glC]
            go_simp
            refine hK.out _ _ (.inr (pickS_need (by kernel_rfl) trivial)) ?_
            clear hK K
            (try simp only [glA, glB, glC, Act.put, glD, glE, glF])
            refine wpAnyK_take 10 (v := ?_) (by first | exact hF | exact wideFn) trivial rfl (by kernel_rfl) (by kernel_rfl) (by kernel_rfl) (by kernel_rfl) rfl ?_ (by first | exact fun _ _ _ h => h | exact fun _ _ _ h => hQ2 _ _ _ _ _ h) ?_
            rotate_left
            · intro W hSW
              replace hSW : True := hSW
              simp only [glA, glB, glC]
              (try dsimp only at hSW)
              go_simp
              with_reducible rfl
            (try simp only [glA, glB, glC, Act.put, glD, glE, glF])
            clear f1 c1
            have KE2 := (KE.out.ext hbe).set_ 1 (.slice A1 nn c1')
            have f2 := KE2.frozen 2
            have c2 : (we.setCell ⟨E, 1, none⟩ (.slice A1 nn c1')).cell? ⟨E, 2, none⟩ = some (.slice ia ni ic) := by rw [KE2.cell]; rfl
            refine wpAnyK_one 11 rfl (by kernel_rfl) (fun K hK => ?_)
            simp only [glA, glB, glC]
            go_simp
            refine hK.out _ _ (.inr (pickS_need (by kernel_rfl) trivial)) ?_
            clear hK K
            (try simp only [glA, glB, glC, Act.put, glD, glE, glF])
            refine wpAnyK_done (by kernel_rfl) ?_
            clear f2 c2
            go_wp2_with fail
            go_meet
            refine ⟨A1, c1', A2, c2', rfl, rfl, hide ⟨?_, ?_, ?_, ?_⟩⟩
            · exact ((HBD.out.trans (hbe.mono HBD.out.size)).setCell (p := ⟨E, 1, none⟩) (by show wr.heap.size ≤ E; rw [HE.out]; exact Nat.le_refl _) _).setCell (p := ⟨E, 2, none⟩) (by show wr.heap.size ≤ E; rw [HE.out]; exact Nat.le_refl _) _
            · exact ownMono (ownsRow_setCell_other (ownsRow_setCell_other o1 (own_blk_ne o1 (KE.out.ext hbe) (by decide)) _) (own_blk_ne (ownsRow_setCell_other o1 (own_blk_ne o1 (KE.out.ext hbe) (by decide)) _) KE2 (by decide)) _) HBD.out.size
            · exact ownMono (ownsRow_setCell_other (ownsRow_setCell_other o2 (own_blk_ne o2 (KE.out.ext hbe) (by decide)) _) (own_blk_ne (ownsRow_setCell_other o2 (own_blk_ne o2 (KE.out.ext hbe) (by decide)) _) KE2 (by decide)) _) HBD.out.size
            · simpa using KE2.set_ 2 (.slice A2 ni c2')
          · have hbb : Below wd.heap.size wd ((wd.alloc (.cells #[] 3)).alloc (.cells #[] 3)) := hba.alloc hba.size _
            have h2 : OwnJ ((wd.alloc (.cells #[] 3)).alloc (.cells #[] 3)) wd.heap.size (.slice (some ⟨wd.heap.size + 1, 0, none⟩) 0 0) [] := by
              have h := OwnJ.made0 (wd.alloc (.cells #[] 3))
              rw [show (wd.alloc (.cells #[] 3)).heap.size = wd.heap.size + 1 by simp] at h
              exact ownMono h (Nat.le_succ _)
            obtain ⟨A1, c1', wb, hr1, hb1, A2, c2', we, hr2, hbe, o1, o2⟩ := lists2 (by omega) (World.ownsRow.alloc (OwnJ.made0 wd) (.cells #[] 3)) h2 na nc ia ic nd ins (fun W h => HLN2.out W (hbb.trans h)) (fun W h => HLI2.out W (hbb.trans h)) hl1 hl2 hbb.size
            replace hbe := hbb.trans hbe
            rw [HNN.out.1] at hr1 o1
            rw [HNN.out.2] at hr2 o2
            simp only [glA, glB, glC]
            go_simp
            refine hK.out _ _ (.inr (pickS_all (HC.out _ hbb) trivial)) ?_
            clear hK K
            (try simp only [glA, glB, glC, Act.put, glD, glE, glF])
            refine wpAnyK_one 3 rfl (by kernel_rfl) (fun K hK => ?_)
            rw [if_pos (by rfl)]
            refine wpIn_append_run (.tmp 23) (.tmp 25) 48 wideFn rfl rfl rfl hr1 ?_
            refine hK.out _ _ (.inr (pickS_all (HC.out _ (hbb.trans hb1)) trivial)) ?_
            clear hK K
            (try simp only [glA, glB, glC, Act.put, glD, glE, glF])
            refine wpAnyK_take 8 (v := ?_) (by first | exact hF | exact wideFn) trivial rfl (by kernel_rfl) (by kernel_rfl) (by kernel_rfl) (by kernel_rfl) rfl ?_ (by first | exact fun _ _ _ h => h | exact fun _ _ _ h => hQ2 _ _ _ _ _ h) ?_
            rotate_left
            · intro W hSW
              replace hSW : True := hSW
              simp only [glA, glB, glC]
              (try dsimp only at hSW)
              go_simp
              with_reducible rfl
            (try simp only [glA, glB, glC, Act.put, glD, glE, glF])
            refine wpAnyK_one 7 rfl (by kernel_rfl) (fun K hK => ?_)
            rw [if_pos (by rfl)]
            refine wpIn_append_run (.tmp 27) (.tmp 29) 48 wideFn rfl rfl rfl hr2 ?_
            refine hK.out _ _ (.inr (pickS_all (HC.out _ hbe) trivial)) ?_
            clear hK K
            (try simp only [glA, glB, glC, Act.put, glD, glE, glF])
            have f1 := (KE.out.ext hbe).frozen 1
            have c1 : we.cell? ⟨E, 1, none⟩ = some (.slice na nn nc) := (HC.out _ hbe).1
            refine wpAnyK_one 9 rfl (by kernel_rfl) (fun K hK => ?_)
            simp only [glA, glB, glC]
            go_simp
            refine hK.out _ _ (.inr (pickS_need (by kernel_rfl) trivial)) ?_
            clear hK K
            (try simp only [glA, glB, glC, Act.put, glD, glE, glF])
            refine wpAnyK_take 10 (v := ?_) (by first | exact hF | exact wideFn) trivial rfl (by kernel_rfl) (by kernel_rfl) (by kernel_rfl) (by kernel_rfl) rfl ?_ (by first | exact fun _ _ _ h => h | exact fun _ _ _ h => hQ2 _ _ _ _ _ h) ?_
            rotate_left
            · intro W hSW
              replace hSW : True := hSW
              simp only [glA, glB, glC]
              (try dsimp only at hSW)
              go_simp
              with_reducible rfl
            (try simp only [glA, glB, glC, Act.put, glD, glE, glF])
            clear f1 c1
            have KE2 := (KE.out.ext hbe).set_ 1 (.slice A1 nn c1')
            have f2 := KE2.frozen 2
            have c2 : (we.setCell ⟨E, 1, none⟩ (.slice A1 nn c1')).cell? ⟨E, 2, none⟩ = some (.slice ia ni ic) := by rw [KE2.cell]; rfl
            refine wpAnyK_one 11 rfl (by kernel_rfl) (fun K hK => ?_)
            simp only [glA, glB, glC]
            go_simp
            refine hK.out _ _ (.inr (pickS_need (by kernel_rfl) trivial)) ?_
            clear hK K
            (try simp only [glA, glB, glC, Act.put, glD, glE, glF])
            refine wpAnyK_done (by kernel_rfl) ?_
            clear f2 c2
            go_wp2_with fail
            go_meet
            refine ⟨A1, c1', A2, c2', rfl, rfl, hide ⟨?_, ?_, ?_, ?_⟩⟩
            · exact ((HBD.out.trans (hbe.mono HBD.out.size)).setCell (p := ⟨E, 1, none⟩) (by show wr.heap.size ≤ E; rw [HE.out]; exact Nat.le_refl _) _).setCell (p := ⟨E, 2, none⟩) (by show wr.heap.size ≤ E; rw [HE.out]; exact Nat.le_refl _) _
            · exact ownMono (ownsRow_setCell_other (ownsRow_setCell_other o1 (own_blk_ne o1 (KE.out.ext hbe) (by decide)) _) (own_blk_ne (ownsRow_setCell_other o1 (own_blk_ne o1 (KE.out.ext hbe) (by decide)) _) KE2 (by decide)) _) HBD.out.size
            · exact ownMono (ownsRow_setCell_other (ownsRow_setCell_other o2 (own_blk_ne o2 (KE.out.ext hbe) (by decide)) _) (own_blk_ne (ownsRow_setCell_other o2 (own_blk_ne o2 (KE.out.ext hbe) (by decide)) _) KE2 (by decide)) _) HBD.out.size
            · simpa using KE2.set_ 2 (.slice A2 ni c2')
        · have hbb : Below wd.heap.size wd ((wd.alloc (.cells #[] 3)).alloc (.cells #[] 3)) := hba.alloc hba.size _
          have h2 : OwnJ ((wd.alloc (.cells #[] 3)).alloc (.cells #[] 3)) wd.heap.size (.slice (some ⟨wd.heap.size + 1, 0, none⟩) 0 0) [] := by
              have h := OwnJ.made0 (wd.alloc (.cells #[] 3))
              rw [show (wd.alloc (.cells #[] 3)).heap.size = wd.heap.size + 1 by simp] at h
              exact ownMono h (Nat.le_succ _)
          obtain ⟨A1, c1', wb, hr1, hb1, A2, c2', we, hr2, hbe, o1, o2⟩ := lists2 (by omega) h2 (World.ownsRow.alloc (OwnJ.made0 wd) (.cells #[] 3)) na nc ia ic nd ins (fun W h => HLN2.out W (hbb.trans h)) (fun W h => HLI2.out W (hbb.trans h)) hl1 hl2 hbb.size
          replace hbe := hbb.trans hbe
          rw [HNN.out.1] at hr1 o1
          rw [HNN.out.2] at hr2 o2
          simp only [glA, glB, glC]
          go_simp
          refine hK.out _ _ (.inr (pickS_all (HC.out _ hba) trivial)) ?_
          clear hK K
          (try simp only [glA, glB, glC, Act.put, glD, glE, glF])
          refine wpAnyK_one 0 rfl (by kernel_rfl) (fun K hK => ?_)
          simp only [glA, glB, glC]
          go_simp
          refine hK.out _ _ (.inr (pickS_all (HC.out _ hbb) trivial)) ?_
          clear hK K
          (try simp only [glA, glB, glC, Act.put, glD, glE, glF])
          refine wpAnyK_one 3 rfl (by kernel_rfl) (fun K hK => ?_)
          rw [if_pos (by rfl)]
          refine wpIn_append_run (.tmp 23) (.tmp 25) 48 wideFn rfl rfl rfl hr1 ?_
          refine hK.out _ _ (.inr (pickS_all (HC.out _ (hbb.trans hb1)) trivial)) ?_
          clear hK K
          (try simp only [glA, glB, glC, Act.put, glD, glE, glF])
          refine wpAnyK_take 8 (v := ?_) (by first | exact hF | exact wideFn) trivial rfl (by kernel_rfl) (by kernel_rfl) (by kernel_rfl) (by kernel_rfl) rfl ?_ (by first | exact fun _ _ _ h => h | exact fun _ _ _ h => hQ2 _ _ _ _ _ h) ?_
          rotate_left
          · intro W hSW
            replace hSW : True := hSW
            simp only [glA, glB, glC]
            (try dsimp only at hSW)
            go_simp
            with_reducible rfl
          (try simp only [glA, glB, glC, Act.put, glD, glE, glF])
          refine wpAnyK_one 7 rfl (by kernel_rfl) (fun K hK => ?_)
          rw [if_pos (by rfl)]
          refine wpIn_append_run (.tmp 27) (.tmp 29) 48 wideFn rfl rfl rfl hr2 ?_
          refine hK.out _ _ (.inr (pickS_all (HC.out _ hbe) trivial)) ?_
          clear hK K
          (try simp only [glA, glB, glC, Act.put, glD, glE, glF])
          have f1 := (KE.out.ext hbe).frozen 1
          have c1 : we.cell? ⟨E, 1, none⟩ = some (.slice na nn nc) := (HC.out _ hbe).1
          refine wpAnyK_one 9 rfl (by kernel_rfl) (fun K hK => ?_)
          simp only [glA, glB, glC]
          go_simp
          refine hK.out _ _ (.inr (pickS_need (by kernel_rfl) trivial)) ?_
          clear hK K
          (try simp only [glA, glB, glC, Act.put, glD, glE, glF])
          refine wpAnyK_take 10 (v := ?_) (by first | exact hF | exact wideFn) trivial rfl (by kernel_rfl) (by kernel_rfl) (by kernel_rfl) (by kernel_rfl) rfl ?_ (by first | exact fun _ _ _ h => h | exact fun _ _ _ h => hQ2 _ _ _ _ _ h) ?_
          rotate_left
          · intro W hSW
            replace hSW : True := hSW
            simp only [glA, glB, glC]
            (try dsimp only at hSW)
            go_simp
            with_reducible rfl
          (try simp only [glA, glB, glC, Act.put, glD, glE, glF])
          clear f1 c1
          have KE2 := (KE.out.ext hbe).set_ 1 (.slice A1 nn c1')
          have f2 := KE2.frozen 2
          have c2 : (we.setCell ⟨E, 1, none⟩ (.slice A1 nn c1')).cell? ⟨E, 2, none⟩ = some (.slice ia ni ic) := by rw [KE2.cell]; rfl
          refine wpAnyK_one 11 rfl (by kernel_rfl) (fun K hK => ?_)
          simp only [glA, glB, glC]
          go_simp
          refine hK.out _ _ (.inr (pickS_need (by kernel_rfl) trivial)) ?_
          clear hK K
          (try simp only [glA, glB, glC, Act.put, glD, glE, glF])
          refine wpAnyK_done (by kernel_rfl) ?_
          clear f2 c2
          go_wp2_with fail
          go_meet
          refine ⟨A1, c1', A2, c2', rfl, rfl, hide ⟨?_, ?_, ?_, ?_⟩⟩
          · exact ((HBD.out.trans (hbe.mono HBD.out.size)).setCell (p := ⟨E, 1, none⟩) (by show wr.heap.size ≤ E; rw [HE.out]; exact Nat.le_refl _) _).setCell (p := ⟨E, 2, none⟩) (by show wr.heap.size ≤ E; rw [HE.out]; exact Nat.le_refl _) _
          · exact ownMono (ownsRow_setCell_other (ownsRow_setCell_other o1 (own_blk_ne o1 (KE.out.ext hbe) (by decide)) _) (own_blk_ne (ownsRow_setCell_other o1 (own_blk_ne o1 (KE.out.ext hbe) (by decide)) _) KE2 (by decide)) _) HBD.out.size
          · exact ownMono (ownsRow_setCell_other (ownsRow_setCell_other o2 (own_blk_ne o2 (KE.out.ext hbe) (by decide)) _) (own_blk_ne (ownsRow_setCell_other o2 (own_blk_ne o2 (KE.out.ext hbe) (by decide)) _) KE2 (by decide)) _) HBD.out.size
          · simpa using KE2.set_ 2 (.slice A2 ni c2')
      obtain ⟨A1, c1, A2, c2, rfl, rfl, HCU⟩ := hcut
      have HKc := hide (HK.out.ext HCU.out.1)
      obtain ⟨A', c', wf, hrun, hoa, hga⟩ := HKc.out.ow.push A1 c1 A2 c2 (by omega) HKc.out.lo.size
      rw [HA.out] at hrun hga
      unfold acL at hrun hga
      dsimp only at hrun hga
      rw [HNN.out.1, HNN.out.2] at hrun hga
      have hbc : Below wc.heap.size wc (wc.alloc (.cells #[.string nm, .slice A1 nn c1, .slice A2 ni c2, .int .i64 at_, .int .i64 fr, .int .i64 to_, .bool ex] 58)) := (Below.refl _ _).alloc (Nat.le_refl _) _
      have HKd := hide ((HKc.out.ext hbc).push (by have := HR.out; omega) HR.out.1 A1 c1 A2 c2 (by rw [HA.out]; show OwnJ _ _ (.slice A1 nd.length c1) nd; rw [HNN.out.1]; exact ownBelow (ownMono HCU.out.2.1 HK.out.lo.size) hbc) (by rw [HA.out]; show OwnJ _ _ (.slice A2 ins.length c2) ins; rw [HNN.out.2]; exact ownBelow (ownMono HCU.out.2.2.1 HK.out.lo.size) hbc) hga hoa)
      have HRUN := hide hrun
      have kRf : Blk wf R 24 #[v, .int .i64 la, .int .i64 tl] := ((HKc.out.ext hbc).kR).grown hga (fun e => own_blk_ne (HKc.out.ext hbc).ow (HKc.out.ext hbc).kR (by decide) e.symm)
      obtain ⟨VA, VC, rfl⟩ := own_shape HKc.out.ow
      obtain ⟨p9, p0, p1, p2, -⟩ := blk3 HKc.out.kR
      have k0 := HCU.out.2.2.2.cell 0
      have k1 := HCU.out.2.2.2.cell 1
      have k2 := HCU.out.2.2.2.cell 2
      have k3 := HCU.out.2.2.2.cell 3
      have k4 := HCU.out.2.2.2.cell 4
      have k5 := HCU.out.2.2.2.cell 5
      have k6 := HCU.out.2.2.2.cell 6
      replace k0 : wc.cell? ⟨E, 0, none⟩ = some (.string nm) := k0
      replace k1 : wc.cell? ⟨E, 1, none⟩ = some (.slice A1 nn c1) := k1
      replace k2 : wc.cell? ⟨E, 2, none⟩ = some (.slice A2 ni c2) := k2
      replace k3 : wc.cell? ⟨E, 3, none⟩ = some (.int .i64 at_) := k3
      replace k4 : wc.cell? ⟨E, 4, none⟩ = some (.int .i64 fr) := k4
      replace k5 : wc.cell? ⟨E, 5, none⟩ = some (.int .i64 to_) := k5
      replace k6 : wc.cell? ⟨E, 6, none⟩ = some (.bool ex) := k6
      obtain ⟨r9, r0, r1, r2, r3, r4, r5⟩ := blk3 kRf
      clear hrun hoa hga hbc HLN HLI
      go_wp2_with (at_builtin; refine wpList_append_run rfl (.tmp 34) (.tmp 36) 22 rfl rfl rfl HRUN.out ?_)
      go_roundw
      case rel => exact ⟨k + 1, _, _, by omega, by go_num, HKd⟩
      case measure => simp [intOf]; omega
    · obtain rfl : n = k := by omega
      have hnl : ¬ (n : Int) < (n : Int) := by omega
      obtain ⟨VA, VC, rfl⟩ := own_shape HK.out.ow
      obtain ⟨p9, p0, p1, p2, -⟩ := blk3 HK.out.kR
      obtain ⟨u9, u0, u1, u2, u3, u4, u5⟩ := blk3 HK.out.kO
      go_wp2_with fail
      have h3 := HK.out.kO.set3 (.slice VA n VC) (.int .i64 la) (.int .i64 tl)
      obtain ⟨-, z0, z1, z2, -⟩ := blk3 h3
      have hgs := gr_trans (gr_trans (grownBy_setC wr (G + 1) 0 (.slice VA n VC)) (grownBy_setC _ (G + 1) 1 (.int .i64 la))) (grownBy_setC _ (G + 1) 2 (.int .i64 tl))
      have hst : ∀ {x : Value} {l : List Int}, OwnJ wr w.heap.size x l → OwnJ (((wr.setCell ⟨G + 1, 0, none⟩ (.slice VA n VC)).setCell ⟨G + 1, 1, none⟩ (.int .i64 la)).setCell ⟨G + 1, 2, none⟩ (.int .i64 tl)) w.heap.size x l := fun hx => World.ownsRow.kept hx hgs (.inr (own_blk_ne hx HK.out.kO (by decide)))
      have hoa := World.ownsRow.kept HK.out.ow hgs (.inr (own_blk_ne HK.out.ow HK.out.kO (by decide)))
      obtain ⟨A', c', hA', hER, -⟩ := ER.of_own hoa (by decide)
      injection hA' with hA1 hA2 hA3
      subst hA1
      refine bodyPost_ret (v := .agg #[.slice VA n VC, .int .i64 la, .int .i64 tl]) (by
        simp [results, Tryd.results12, go_sem, z0, z1, z2]) rfl ⟨⟨VA, VC, e.na, e.nc, e.ia, e.ic⟩, rfl, ⟨?_, fun j hj => ?_, fun j hj => ?_⟩, ?_⟩
      · rw [HN.out.1]; exact hER
      · rw [HN.out.1] at hj; exact (hst (HK.out.nd j hj)).li.2
      · rw [HN.out.1] at hj; exact (hst (HK.out.ins j hj)).li.2
      · exact set3B HK.out.lo (by have := HR.out.2; omega) _ _ _
end Go.Proofs.YtcgdalabenflmaaDoor
/- Rite: Check, Judge, after, walked. -/
namespace Go.Proofs.YtcgdalabenflmaaDoor
open Go Go.RowKit Go.Shelf
set_option maxHeartbeats 8000000
set_option maxRecDepth 100000
theorem check_any (d : Rad) (r : Rit) (w : World) (hd : RtR w d r) (hz : RtZ r) :
    Calls Tryd.prog 29 #[.agg #[.slice d.A r.n d.c, .int .i64 r.last, .int .i64 r.toil]] w fun e w' => e = .returned (.int .i64 (if riB r = true then 0 else 2)) ∧ Below w.heap.size w w' := by
  have HB1 : Hid (Below w.heap.size w (w.alloc (.cells #[.slice d.A r.n d.c, .int .i64 r.last, .int .i64 r.toil] 24))) := hide ((Below.refl _ _).alloc (Nat.le_refl _) _)
  have G1 := hide (Blk.new w 24 #[.slice d.A r.n d.c, .int .i64 r.last, .int .i64 r.toil])
  have HO := hide (open_any d r _ (hd.ext HB1.out) hz)
  obtain ⟨ch, hch⟩ : ∃ c : Int, (if riB r = true then 0 else 2) = c := ⟨_, rfl⟩
  have HCH := hide hch
  rw [hch]
  clear hd hz hch
  go_enter Tryd.func29, Tryd.ntmps29
  go_upto_region 1 with fail
  generalize w.alloc (.cells #[.slice d.A r.n d.c, .int .i64 r.last, .int .i64 r.toil] 24) = w1 at HB1 G1 HO ⊢
  generalize w.heap.size = G at G1 ⊢
  obtain ⟨g9, g0, g1, g2, -⟩ := blk3 G1.out
  go_wp2_with fail
  refine HO.out.mono ?_
  rintro e w2 ⟨⟨hb, rfl⟩ | ⟨hb, b, ad, rfl, hB⟩, hbl⟩
  · have HBL := hide (HB1.out.trans (hbl.mono HB1.out.size))
    have HR := hide hb
    clear hb hbl g9 g0 g1 g2
    go_wp2_with fail
    go_ret
    exact ⟨ret_int (by rw [← HCH.out, HR.out]; rfl), HBL.out⟩
  · have HBL := hide (HB1.out.trans (hbl.mono HB1.out.size))
    have HR := hide hb
    clear hb hbl hB g9 g0 g1 g2
    go_wp2_with fail
    go_ret
    exact ⟨ret_int (by rw [← HCH.out, HR.out]; rfl), HBL.out⟩
theorem judge_any (d : Rad) (r : Rit) (A : Option Addr) (c : Nat) (l : List (Int × Int)) (w : World) (hd : RtR w d r) (hz : RtZ r) (hl : l.length ≤ 1000000) (hD : DsR w A l) :
    Calls Tryd.prog 30 #[.agg #[.slice d.A r.n d.c, .int .i64 r.last, .int .i64 r.toil], .slice A l.length c] w fun e w' =>
      e = .returned (.tuple #[.int .i64 (if riB r = true then (folF r m0 l 0).2.1 else 0), .int .i64 (if riB r = true then (folF r m0 l 0).2.2 else 0), .int .i64 (if riB r = true then 0 else 2)]) ∧ Below w.heap.size w w' := by
  have HB1 : Hid (Below w.heap.size w (w.alloc (.cells #[.slice d.A r.n d.c, .int .i64 r.last, .int .i64 r.toil] 24))) := hide ((Below.refl _ _).alloc (Nat.le_refl _) _)
  have G1 := hide (Blk.new w 24 #[.slice d.A r.n d.c, .int .i64 r.last, .int .i64 r.toil])
  have HRT := hide (hd.ext HB1.out)
  have HO := hide (open_any d r _ (hd.ext HB1.out) hz)
  have HD := hide (hD.ext HB1.out)
  have HL := hide hl
  obtain ⟨c1, hc1⟩ : ∃ c : Int, (if riB r = true then (folF r m0 l 0).2.1 else 0) = c := ⟨_, rfl⟩
  obtain ⟨c2, hc2⟩ : ∃ c : Int, (if riB r = true then (folF r m0 l 0).2.2 else 0) = c := ⟨_, rfl⟩
  obtain ⟨c3, hc3⟩ : ∃ c : Int, (if riB r = true then 0 else 2) = c := ⟨_, rfl⟩
  have HC1 := hide hc1
  have HC2 := hide hc2
  have HC3 := hide hc3
  rw [hc1, hc2, hc3]
  clear hd hz hD hl hc1 hc2 hc3
  go_enter Tryd.func30, Tryd.ntmps30
  go_upto_region 1 with fail
  generalize w.alloc (.cells #[.slice d.A r.n d.c, .int .i64 r.last, .int .i64 r.toil] 24) = w1 at HB1 G1 HO HD HRT ⊢
  generalize w.heap.size = G at G1 ⊢
  obtain ⟨g9, g0, g1, g2, -⟩ := blk3 G1.out
  go_wp2_with fail
  refine HO.out.mono ?_
  rintro e w2 ⟨⟨hb, rfl⟩ | ⟨hb, b, ad, rfl, hB⟩, hbl⟩
  · have HBL := hide (HB1.out.trans (hbl.mono HB1.out.size))
    have HR := hide hb
    clear hb hbl g9 g0 g1 g2
    go_wp2_with fail
    refine bodyPost_ret (v := .tuple #[.int .i64 0, .int .i64 0, .int .i64 2]) (by simp [results, Tryd.results30, go_sem]) rfl ⟨by rw [← HC1.out, ← HC2.out, ← HC3.out, HR.out]; rfl, HBL.out⟩
  · have HBL := hide (HB1.out.trans (hbl.mono HB1.out.size))
    have HF := hide (follow_any b d _ r A c l w2 (riB_ok hb) HL.out (HD.out.ext hbl) (hB.book HRT.out))
    have HR := hide hb
    clear hb hbl hB g9 g0 g1 g2
    generalize folF r m0 l 0 = ff at HF HC1 HC2
    obtain ⟨⟨mD, mday, mde⟩, ln, br⟩ := ff
    unfold momV at HF
    dsimp only at HF HC1 HC2
    go_wp2_with fail
    refine HF.out.mono ?_
    rintro e w3 ⟨rfl, h3⟩
    have HBM := hide (HBL.out.trans (h3.mono HBL.out.size))
    clear h3
    go_wp2_with fail
    refine bodyPost_ret (v := .tuple #[.int .i64 ln, .int .i64 br, .int .i64 0]) (by simp [results, Tryd.results30, go_sem]) rfl ⟨by rw [← HC1.out, ← HC2.out, ← HC3.out, HR.out]; rfl, HBM.out⟩
end Go.Proofs.YtcgdalabenflmaaDoor
/- Rite: after, walked. -/
namespace Go.Proofs.YtcgdalabenflmaaDoor
open List renaming getElem_toArray → glA, getElem_cons_zero → glB, getElem_cons_succ → glC, setIfInBounds_toArray → glD, set_cons_zero → glE, set_cons_succ → glF
open Go Go.RowKit Go.Shelf
set_option maxHeartbeats 8000000
set_option maxRecDepth 100000
/-- the errno behind a course -/
def aftC (r : Rit) (l : List (Int × Int)) : Int := if riB r = true then (if (folF r m0 l 0).2.2 = 0 then 0 else 9) else 2
def AfterPost (w : World) (d : Rad) (r : Rit) (l : List (Int × Int)) (e : Ending) (w' : World) : Prop :=
  (aftC r l ≠ 0 ∧ e = .returned (.tuple #[.pointer none, momV m0, .int .i64 (aftC r l)]) ∨ aftC r l = 0 ∧ riB r = true ∧ ∃ b ad, e = .returned (.tuple #[.pointer (some ⟨b, 0, none⟩), momV (folF r m0 l 0).1, .int .i64 0]) ∧ OpI w w' d r b ad (opF r r.n) (opM r r.n)) ∧ Below w.heap.size w w'
theorem after_any (d : Rad) (r : Rit) (A : Option Addr) (c : Nat) (l : List (Int × Int)) (w : World) (hd : RtR w d r) (hz : RtZ r) (hl : l.length ≤ 1000000) (hD : DsR w A l) :
    Calls Tryd.prog 40 #[.agg #[.slice d.A r.n d.c, .int .i64 r.last, .int .i64 r.toil], .slice A l.length c] w (AfterPost w d r l) := by
  have HB1 : Hid (Below w.heap.size w ((w.alloc (.cells #[.slice d.A r.n d.c, .int .i64 r.last, .int .i64 r.toil] 24)).alloc (.cells #[.int .u16 0, .int .i64 0, .int .i64 0] 77))) := hide (((Below.refl _ _).alloc (Nat.le_refl _) _).alloc (by simp) _)
  have G1 : Hid (Blk ((w.alloc (.cells #[.slice d.A r.n d.c, .int .i64 r.last, .int .i64 r.toil] 24)).alloc (.cells #[.int .u16 0, .int .i64 0, .int .i64 0] 77)) w.heap.size 24 #[.slice d.A r.n d.c, .int .i64 r.last, .int .i64 r.toil]) := hide ((Blk.new w _ _).alloc _)
  have Q1 : Hid (Blk ((w.alloc (.cells #[.slice d.A r.n d.c, .int .i64 r.last, .int .i64 r.toil] 24)).alloc (.cells #[.int .u16 0, .int .i64 0, .int .i64 0] 77)) (w.heap.size + 1) 77 #[.int .u16 0, .int .i64 0, .int .i64 0]) := hide (by simpa using Blk.new (w.alloc (.cells #[.slice d.A r.n d.c, .int .i64 r.last, .int .i64 r.toil] 24)) 77 #[.int .u16 0, .int .i64 0, .int .i64 0])
  have HO := hide (open_any d r _ (hd.ext HB1.out) hz)
  have HRT := hide (hd.ext HB1.out)
  have HD := hide (hD.ext HB1.out)
  have HL := hide hl
  obtain ⟨M, hM⟩ : ∃ M, w.heap.size + 1 = M := ⟨_, rfl⟩
  have HMM := hide hM
  rw [hM] at Q1
  clear hd hz hD hl
  go_enter Tryd.func40, Tryd.ntmps40
  go_upto_region 1 with fail
  (try rw [hM])
  clear hM
  generalize (w.alloc (.cells #[.slice d.A r.n d.c, .int .i64 r.last, .int .i64 r.toil] 24)).alloc (.cells #[.int .u16 0, .int .i64 0, .int .i64 0] 77) = w1 at HB1 G1 Q1 HO HD HRT ⊢
  have HLM : Hid (w.heap.size ≤ M) := hide (by rw [← HMM.out]; exact Nat.le_succ _)
  obtain ⟨G, hG⟩ : ∃ x, w.heap.size = x := ⟨_, rfl⟩
  rw [hG] at G1 ⊢
  clear hG
  have HQ0 := hide Q1.out.lt
  obtain ⟨g9, g0, g1, g2, -⟩ := blk3 G1.out
  go_wp2_with fail
  refine HO.out.mono ?_
  rintro e w2 ⟨⟨hb, rfl⟩ | ⟨hb, b, ad, rfl, hB⟩, hbl⟩
  · have HBL := hide (HB1.out.trans (hbl.mono HB1.out.size))
    have HCH : Hid (aftC r l = 2) := hide (by unfold aftC; rw [hb]; rfl)
    replace Q1 := hide (Q1.out.ext hbl)
    clear hb hbl g9 g0 g1 g2 HO HD
    obtain ⟨a9, a0, a1, a2, a3, a4, a5⟩ := blk3 Q1.out
    go_wp2_with fail
    have h3 := Q1.out.set3 (.int .u16 0) (.int .i64 0) (.int .i64 0)
    obtain ⟨-, z0, z1, z2, -⟩ := blk3 h3
    refine bodyPost_ret (v := .tuple #[.pointer none, .agg #[.int .u16 0, .int .i64 0, .int .i64 0], .int .i64 2]) (by
      simp [results, Tryd.results40, go_sem, z0, z1, z2]) rfl ⟨.inl ⟨by rw [HCH.out]; decide, by rw [HCH.out]; rfl⟩, set3B HBL.out (by rw [← HMM.out]; exact Nat.le_succ _) _ _ _⟩
  · have HBL := hide (HB1.out.trans (hbl.mono HB1.out.size))
    have HF := hide (follow_any b d _ r A c l w2 (riB_ok hb) HL.out (HD.out.ext hbl) (hB.book HRT.out))
    have HR := hide hb
    have HB := hide (hB.rebase HB1.out)
    have HNB : Hid (b ≠ M ∧ ∀ j, j < 4 → ad j ≠ M) := hide ⟨by have := hB.lob; have := HQ0.out; omega, fun j hj => by have := hB.lo j hj; have := HQ0.out; omega⟩
    replace Q1 := hide (Q1.out.ext hbl)
    clear hb hbl hB g9 g0 g1 g2 HO HD
    obtain ⟨ff, hff⟩ : ∃ x, folF r m0 l 0 = x := ⟨_, rfl⟩
    have HFF := hide hff
    rw [hff] at HF
    clear hff
    obtain ⟨⟨mD, mday, mde⟩, ln, br⟩ := ff
    unfold momV at HF
    dsimp only at HF
    go_wp2_with fail
    refine HF.out.mono ?_
    rintro e w3 ⟨rfl, h3⟩
    have HQL := hide (Nat.lt_of_lt_of_le Q1.out.lt h3.size)
    have hb4 : Below w3.heap.size w3 (w3.alloc (.cells #[.int .u16 (mD : Nat), .int .i64 mday, .int .i64 mde] 77)) := (Below.refl _ _).alloc (Nat.le_refl _) _
    have Q3 := hide (Blk.new w3 77 #[.int .u16 (mD : Nat), .int .i64 mday, .int .i64 mde])
    replace Q1 := hide ((Q1.out.ext h3).ext hb4)
    have h4 := h3.trans (hb4.mono h3.size)
    have HNE : Hid (w3.heap.size ≠ M) := hide (Nat.ne_of_gt HQL.out)
    replace HBL := hide (HBL.out.trans (h4.mono HBL.out.size))
    replace HB := hide (HB.out.ext h4)
    clear h3 h4 hb4
    go_upto_region 5 with fail
    generalize w3.alloc (.cells #[.int .u16 (mD : Nat), .int .i64 mday, .int .i64 mde] 77) = w4 at Q1 Q3 HBL HB ⊢
    clear HQL
    generalize w3.heap.size = H at Q3 HNE ⊢
    obtain ⟨a9, a0, a1, a2, a3, a4, a5⟩ := blk3 Q1.out
    by_cases hbr : br = 0
    · have b1 : (br == 0) = true := by rw [hbr]; rfl
      have b2 : (br != 0) = false := by rw [hbr]; rfl
      have HCH : Hid (aftC r l = 0) := hide (by unfold aftC; rw [HR.out, HFF.out, if_pos rfl, if_pos hbr])
      clear hbr
      go_upto_region 7 with fail
      clear a9 a0 a1 a2 a3 a4 a5
      have HS7 : Hid (∀ W, Below w4.heap.size w4 W → (W.cell? ⟨H, 0, none⟩ = some (.int .u16 (mD : Nat)) ∧ W.cell? ⟨H, 1, none⟩ = some (.int .i64 mday) ∧ W.cell? ⟨H, 2, none⟩ = some (.int .i64 mde))) := hide fun W h => ⟨(blk3 (Q3.out.ext h)).2.1, (blk3 (Q3.out.ext h)).2.2.1, (blk3 (Q3.out.ext h)).2.2.2.1⟩
      have Bd := hide (Below.refl w4.heap.size w4).drew
      replace Q1 := hide (Q1.out.ext Bd.out)
      replace HB := hide (HB.out.ext Bd.out)
      replace HBL := hide (HBL.out.trans (Bd.out.mono HBL.out.size))
      refine wp_region_J (fun W : World => (W.cell? ⟨H, 0, none⟩ = some (.int .u16 (mD : Nat)) ∧ W.cell? ⟨H, 1, none⟩ = some (.int .i64 mday) ∧ W.cell? ⟨H, 2, none⟩ = some (.int .i64 mde))) (by kernel_rfl) ?_
      generalize w4.drew = wd at Bd Q1 HB HBL ⊢
      refine wpAnyJ_take 0 (v := ?_) (by first | exact hF | exact wideFn) (HS7.out _ Bd.out) rfl (by kernel_rfl) (by kernel_rfl) (by kernel_rfl) (by kernel_rfl) rfl ?_ (by first | exact fun _ _ _ h => h | exact fun _ _ _ h => hQ2 _ _ _ _ _ h) ?_
      rotate_left
      · intro W hSW
        simp only [glA, glB, glC]
        (try dsimp only at hSW)
        go_simp
        with_reducible rfl
      (try simp only [glA, glB, glC, Act.put, glD, glE, glF])
      refine wpAnyJ_take 1 (v := ?_) (by first | exact hF | exact wideFn) (HS7.out _ Bd.out) rfl (by kernel_rfl) (by kernel_rfl) (by kernel_rfl) (by kernel_rfl) rfl ?_ (by first | exact fun _ _ _ h => h | exact fun _ _ _ h => hQ2 _ _ _ _ _ h) ?_
      rotate_left
      · intro W hSW
        simp only [glA, glB, glC]
        (try dsimp only at hSW)
        go_simp
        with_reducible rfl
      (try simp only [glA, glB, glC, Act.put, glD, glE, glF])
      refine wpAnyJ_take 2 (v := ?_) (by first | exact hF | exact wideFn) (HS7.out _ Bd.out) rfl (by kernel_rfl) (by kernel_rfl) (by kernel_rfl) (by kernel_rfl) rfl ?_ (by first | exact fun _ _ _ h => h | exact fun _ _ _ h => hQ2 _ _ _ _ _ h) ?_
      rotate_left
      · intro W hSW
        simp only [glA, glB, glC]
        (try dsimp only at hSW)
        go_simp
        with_reducible rfl
      (try simp only [glA, glB, glC, Act.put, glD, glE, glF])
      obtain ⟨a9, a0, a1, a2, a3, a4, a5⟩ := blk3 Q1.out
      refine wpAnyJ_one 3 rfl (by kernel_rfl) (fun K hK => ?_)
      simp only [glA, glB, glC]
      go_simp
      refine hK.out _ _ (fun h => absurd h (by rw [show lastOp _ _ _ = true from by kernel_rfl]; simp)) ?_
      clear hK K
      (try simp only [glA, glB, glC, Act.put, glD, glE, glF])
      have hS : ((((wd.setCell ⟨M, 0, none⟩ (.int .u16 (mD : Nat))).setCell ⟨M, 1, none⟩ (.int .i64 mday)).setCell ⟨M, 2, none⟩ (.int .i64 mde)).cell? ⟨H, 0, none⟩ = some (.int .u16 (mD : Nat)) ∧ (((wd.setCell ⟨M, 0, none⟩ (.int .u16 (mD : Nat))).setCell ⟨M, 1, none⟩ (.int .i64 mday)).setCell ⟨M, 2, none⟩ (.int .i64 mde)).cell? ⟨H, 1, none⟩ = some (.int .i64 mday) ∧ (((wd.setCell ⟨M, 0, none⟩ (.int .u16 (mD : Nat))).setCell ⟨M, 1, none⟩ (.int .i64 mday)).setCell ⟨M, 2, none⟩ (.int .i64 mde)).cell? ⟨H, 2, none⟩ = some (.int .i64 mde)) := by
        have h := blk3 ((((Q3.out.ext Bd.out).far (p := ⟨M, 0, none⟩) HNE.out (.int .u16 (mD : Nat))).far (p := ⟨M, 1, none⟩) HNE.out (.int .i64 mday)).far (p := ⟨M, 2, none⟩) HNE.out (.int .i64 mde))
        exact ⟨h.2.1, h.2.2.1, h.2.2.2.1⟩
      refine wpAnyJ_take 4 (v := ?_) (by first | exact hF | exact wideFn) hS rfl (by kernel_rfl) (by kernel_rfl) (by kernel_rfl) (by kernel_rfl) rfl ?_ (by first | exact fun _ _ _ h => h | exact fun _ _ _ h => hQ2 _ _ _ _ _ h) ?_
      rotate_left
      · intro W hSW
        simp only [glA, glB, glC]
        (try dsimp only at hSW)
        go_simp
        with_reducible rfl
      (try simp only [glA, glB, glC, Act.put, glD, glE, glF])
      refine wpAnyJ_done (by kernel_rfl) ?_
      clear hS a9 a0 a1 a2 a3 a4 a5
      go_wp2_with fail
      have h3 := Q1.out.set3 (.int .u16 (mD : Nat)) (.int .i64 mday) (.int .i64 mde)
      obtain ⟨-, z0, z1, z2, -⟩ := blk3 h3
      refine bodyPost_ret (v := .tuple #[.pointer (some ⟨b, 0, none⟩), .agg #[.int .u16 (mD : Nat), .int .i64 mday, .int .i64 mde], .int .i64 0]) (by
        simp [results, Tryd.results40, go_sem, z0, z1, z2]) rfl ⟨.inr ⟨HCH.out, HR.out, b, ad, by rw [HFF.out]; rfl, ((HB.out.far HLM.out HNB.out.1 HNB.out.2 0 _).far HLM.out HNB.out.1 HNB.out.2 1 _).far HLM.out HNB.out.1 HNB.out.2 2 _⟩, set3B HBL.out HLM.out _ _ _⟩
    · have b1 : (br == 0) = false := by rw [beq_eq_false_iff_ne]; exact hbr
      have b2 : (br != 0) = true := by rw [bne, b1]; rfl
      have HCH : Hid (aftC r l = 9) := hide (by unfold aftC; rw [HR.out, HFF.out, if_pos rfl, if_neg hbr])
      clear hbr
      go_wp2_with fail
      have h3 := Q1.out.set3 (.int .u16 0) (.int .i64 0) (.int .i64 0)
      obtain ⟨-, z0, z1, z2, -⟩ := blk3 h3
      refine bodyPost_ret (v := .tuple #[.pointer none, .agg #[.int .u16 0, .int .i64 0, .int .i64 0], .int .i64 9]) (by
        simp [results, Tryd.results40, go_sem, z0, z1, z2]) rfl ⟨.inl ⟨by rw [HCH.out]; decide, by rw [HCH.out]; rfl⟩, set3B HBL.out (by rw [← HMM.out]; exact Nat.le_succ _) _ _ _⟩
end Go.Proofs.YtcgdalabenflmaaDoor
/- Rite: Settled, Complete, walked. -/
namespace Go.Proofs.YtcgdalabenflmaaDoor
open Go Go.RowKit Go.Shelf
set_option maxHeartbeats 8000000
set_option maxRecDepth 100000
theorem fol_dlt {r : Rit} (hr : r.n ≤ 10) : ∀ (l : List (Int × Int)) (m : Mom) (k : Nat), m.d < 65536 → (folF r m l k).1.d < 65536
  | [], _, _, h => h
  | x :: l, m, k, h => by
    unfold folF
    split
    · exact h
    · split
      · rw [on_d]; exact h
      · rename_i h1 h2
        have h3 := br_range (Classical.not_not.1 h2)
        refine fol_dlt hr l _ _ ?_
        show (m.on x.1).d ||| 2 ^ x.2.toNat < 65536
        rw [on_d]
        exact Nat.or_lt_two_pow (n := 16) h (p2_lt (by omega))
theorem complete_rite (d : Rad) (r : Rit) (A : Option Addr) (c : Nat) (l : List (Int × Int)) (w : World) (hd : RtR w d r) (hz : RtZ r) (hl : l.length ≤ 1000000) (hD : DsR w A l) :
    Calls Tryd.prog 32 #[.agg #[.slice d.A r.n d.c, .int .i64 r.last, .int .i64 r.toil], .slice A l.length c] w fun e w' =>
      (aftC r l ≠ 0 ∧ e = .returned (.tuple #[.bool false, .int .i64 (aftC r l)]) ∨ aftC r l = 0 ∧ riB r = true ∧ e = .returned (.tuple #[.bool (coB r (folF r m0 l 0).1.d), .int .i64 0])) ∧ Below w.heap.size w w' := by
  have HB1 : Hid (Below w.heap.size w (w.alloc (.cells #[.slice d.A r.n d.c, .int .i64 r.last, .int .i64 r.toil] 24))) := hide ((Below.refl _ _).alloc (Nat.le_refl _) _)
  have G1 := hide (Blk.new w 24 #[.slice d.A r.n d.c, .int .i64 r.last, .int .i64 r.toil])
  have HRT := hide (hd.ext HB1.out)
  have HD := hide (hD.ext HB1.out)
  have HO := hide (after_any d r A c l _ HRT.out hz hl HD.out)
  have HL := hide hl
  clear hd hz hD hl
  obtain ⟨ec, hec⟩ : ∃ x, aftC r l = x := ⟨_, rfl⟩
  have HEC := hide hec
  rw [hec]
  clear hec
  go_enter Tryd.func32, Tryd.ntmps32
  go_upto_region 1 with fail
  generalize w.alloc (.cells #[.slice d.A r.n d.c, .int .i64 r.last, .int .i64 r.toil] 24) = w1 at HB1 G1 HO HD HRT ⊢
  generalize w.heap.size = G at G1 ⊢
  obtain ⟨g9, g0, g1, g2, -⟩ := blk3 G1.out
  go_wp2_with fail
  refine HO.out.mono ?_
  rintro e w2 ⟨⟨hc, rfl⟩ | ⟨hc, hb, b, ad, rfl, hB⟩, hbl⟩
  · have HBL := hide (HB1.out.trans (hbl.mono HB1.out.size))
    rw [HEC.out] at hc ⊢
    have HCH := hide hc
    have hb4 : Below w2.heap.size w2 (w2.alloc (.cells #[.int .u16 0, .int .i64 0, .int .i64 0] 77)) := (Below.refl _ _).alloc (Nat.le_refl _) _
    replace HBL := hide (HBL.out.trans (hb4.mono HBL.out.size))
    have e1 : (ec == 0) = false := by rw [beq_eq_false_iff_ne]; exact HCH.out
    have e2 : (ec != 0) = true := by rw [bne, e1]; rfl
    unfold momV m0
    dsimp only
    clear hc hbl g9 g0 g1 g2 HO HD hb4
    go_wp2_with fail
    go_ret2
    exact ⟨.inl ⟨HCH.out, rfl⟩, HBL.out⟩
  · have HBL := hide (HB1.out.trans (hbl.mono HB1.out.size))
    rw [HEC.out] at hc
    have HCH := hide hc
    have HR := hide hb
    have hDD := fol_dlt (riB_ok hb).n10 l m0 0 (by decide)
    have HFF : Hid (folF r m0 l 0 = folF r m0 l 0) := hide rfl
    obtain ⟨D, hD⟩ : ∃ x, (folF r m0 l 0).1.d = x := ⟨_, rfl⟩
    obtain ⟨mday, hday⟩ : ∃ x, (folF r m0 l 0).1.day = x := ⟨_, rfl⟩
    obtain ⟨mde, hde⟩ : ∃ x, (folF r m0 l 0).1.de = x := ⟨_, rfl⟩
    unfold momV
    rw [hD] at hDD
    have HDD := hide hD
    rw [hD, hday, hde]
    have hb4 : Below w2.heap.size w2 (w2.alloc (.cells #[.int .u16 (D : Nat), .int .i64 mday, .int .i64 mde] 77)) := (Below.refl _ _).alloc (Nat.le_refl _) _
    have Q3 := hide (Blk.new w2 77 #[.int .u16 (D : Nat), .int .i64 mday, .int .i64 mde])
    replace HBL := hide (HBL.out.trans (hb4.mono HBL.out.size))
    have HC := hide (complete_any b d _ r D _ (riB_ok hb) hDD ((hB.ext hb4).book HRT.out))
    clear hc hbl hb hB g9 g0 g1 g2 HO HD hD hday hde HFF
    go_upto_region 2 with fail
    generalize w2.alloc (.cells #[.int .u16 (D : Nat), .int .i64 mday, .int .i64 mde] 77) = w4 at Q3 HBL HC hb4 ⊢
    generalize w2.heap.size = H at Q3 ⊢
    obtain ⟨a9, a0, a1, a2, -⟩ := blk3 Q3.out
    go_wp2_with fail
    refine HC.out.mono ?_
    rintro e w5 ⟨rfl, h5⟩
    replace HBL := hide (HBL.out.trans (h5.mono HBL.out.size))
    clear h5
    go_wp2_with fail
    go_ret2
    exact ⟨.inr ⟨HCH.out, HR.out, by rw [HDD.out]; rfl⟩, HBL.out⟩
theorem OwnJ.low3 {W : World} {n0 n1 : Nat} {v : Value} {l : List Int} (h : OwnJ W n0 v l) (hb : n1 ≤ n0) : OwnJ W n1 v l := ownMono h hb
theorem settled_rite (d : Rad) (r : Rit) (A : Option Addr) (c : Nat) (l : List (Int × Int)) (w : World) (hd : RtR w d r) (hz : RtZ r) (hl : l.length ≤ 1000000) (hD : DsR w A l) (hT : TB w) :
    Calls Tryd.prog 31 #[.agg #[.slice d.A r.n d.c, .int .i64 r.last, .int .i64 r.toil], .slice A l.length c] w fun e w' =>
      (aftC r l ≠ 0 ∧ e = .returned (.tuple #[.slice none 0 0, .int .i64 (aftC r l)]) ∨ aftC r l = 0 ∧ riB r = true ∧ ∃ v, e = .returned (.tuple #[v, .int .i64 0]) ∧ OwnJ w' w.heap.size v (ofN (elS (seS r (folF r m0 l 0).1.d)))) ∧ Below w.heap.size w w' := by
  have HTB := hide hT
  clear hT
  have HB1 : Hid (Below w.heap.size w (w.alloc (.cells #[.slice d.A r.n d.c, .int .i64 r.last, .int .i64 r.toil] 24))) := hide ((Below.refl _ _).alloc (Nat.le_refl _) _)
  have G1 := hide (Blk.new w 24 #[.slice d.A r.n d.c, .int .i64 r.last, .int .i64 r.toil])
  have HRT := hide (hd.ext HB1.out)
  have HD := hide (hD.ext HB1.out)
  have HO := hide (after_any d r A c l _ HRT.out hz hl HD.out)
  have HL := hide hl
  clear hd hz hD hl
  obtain ⟨ec, hec⟩ : ∃ x, aftC r l = x := ⟨_, rfl⟩
  have HEC := hide hec
  rw [hec]
  clear hec
  go_enter Tryd.func31, Tryd.ntmps31
  go_upto_region 1 with fail
  generalize w.alloc (.cells #[.slice d.A r.n d.c, .int .i64 r.last, .int .i64 r.toil] 24) = w1 at HB1 G1 HO HD HRT ⊢
  generalize w.heap.size = G at G1 ⊢
  obtain ⟨g9, g0, g1, g2, -⟩ := blk3 G1.out
  go_wp2_with fail
  refine HO.out.mono ?_
  rintro e w2 ⟨⟨hc, rfl⟩ | ⟨hc, hb, b, ad, rfl, hB⟩, hbl⟩
  · have HBL := hide (HB1.out.trans (hbl.mono HB1.out.size))
    rw [HEC.out] at hc ⊢
    have HCH := hide hc
    have hb4 : Below w2.heap.size w2 (w2.alloc (.cells #[.int .u16 0, .int .i64 0, .int .i64 0] 77)) := (Below.refl _ _).alloc (Nat.le_refl _) _
    replace HBL := hide (HBL.out.trans (hb4.mono HBL.out.size))
    have e1 : (ec == 0) = false := by rw [beq_eq_false_iff_ne]; exact HCH.out
    have e2 : (ec != 0) = true := by rw [bne, e1]; rfl
    unfold momV m0
    dsimp only
    clear hc hbl g9 g0 g1 g2 HO HD hb4
    go_wp2_with fail
    go_ret2
    exact ⟨.inl ⟨HCH.out, rfl⟩, HBL.out⟩
  · have HBL := hide (HB1.out.trans (hbl.mono HB1.out.size))
    rw [HEC.out] at hc
    have HCH := hide hc
    have HR := hide hb
    have hDD := fol_dlt (riB_ok hb).n10 l m0 0 (by decide)
    have HFF : Hid (folF r m0 l 0 = folF r m0 l 0) := hide rfl
    obtain ⟨D, hD⟩ : ∃ x, (folF r m0 l 0).1.d = x := ⟨_, rfl⟩
    obtain ⟨mday, hday⟩ : ∃ x, (folF r m0 l 0).1.day = x := ⟨_, rfl⟩
    obtain ⟨mde, hde⟩ : ∃ x, (folF r m0 l 0).1.de = x := ⟨_, rfl⟩
    unfold momV
    rw [hD] at hDD
    have HDD := hide hD
    rw [hD, hday, hde]
    have hb4 : Below w2.heap.size w2 (w2.alloc (.cells #[.int .u16 (D : Nat), .int .i64 mday, .int .i64 mde] 77)) := (Below.refl _ _).alloc (Nat.le_refl _) _
    have Q3 := hide (Blk.new w2 77 #[.int .u16 (D : Nat), .int .i64 mday, .int .i64 mde])
    replace HBL := hide (HBL.out.trans (hb4.mono HBL.out.size))
    have HC := hide (settled_any b d _ r D _ (riB_ok hb) hDD ((hB.ext hb4).book HRT.out))
    have HSE := hide (seS_lt (riB_ok hb) D)
    clear hc hbl hb hB g9 g0 g1 g2 HO HD hD hday hde HFF
    go_upto_region 2 with fail
    generalize w2.alloc (.cells #[.int .u16 (D : Nat), .int .i64 mday, .int .i64 mde] 77) = w4 at Q3 HBL HC hb4 ⊢
    generalize w2.heap.size = H at Q3 ⊢
    obtain ⟨a9, a0, a1, a2, -⟩ := blk3 Q3.out
    go_wp2_with fail
    refine HC.out.mono ?_
    rintro e w5 ⟨rfl, h5⟩
    replace HBL := hide (HBL.out.trans (h5.mono HBL.out.size))
    have HLI := hide (list_any (seS r D) w5 HSE.out (HTB.out.ext HBL.out))
    clear h5
    go_wp2_with fail
    refine HLI.out.mono ?_
    rintro e w6 ⟨v, rfl, hv, h6⟩
    have HV := hide (OwnJ.low3 hv HBL.out.size)
    replace HBL := hide (HBL.out.trans (h6.mono HBL.out.size))
    clear h6 hv
    go_wp2_with fail
    go_ret2
    exact ⟨.inr ⟨HCH.out, HR.out, v, rfl, by rw [HDD.out]; exact HV.out⟩, HBL.out⟩
end Go.Proofs.YtcgdalabenflmaaDoor
/- Rite: from, walked. -/
namespace Go.Proofs.YtcgdalabenflmaaDoor
open List renaming getElem_toArray → glA, getElem_cons_zero → glB, getElem_cons_succ → glC, setIfInBounds_toArray → glD, set_cons_zero → glE, set_cons_succ → glF
open Go Go.RowKit Go.Shelf
set_option maxHeartbeats 8000000
set_option maxRecDepth 100000
/-- the errno behind a course, asked of a day -/
def frC (r : Rit) (l : List (Int × Int)) (day : Int) : Int := if aftC r l = 0 then (if (folF r m0 l 0).1.day ≤ day ∧ day ≤ r.last then 0 else 3) else aftC r l
def FromPost (w : World) (d : Rad) (r : Rit) (l : List (Int × Int)) (day : Int) (e : Ending) (w' : World) : Prop :=
  (frC r l day ≠ 0 ∧ (∃ (v : Option Addr) (m : Mom), e = .returned (.tuple #[.pointer v, momV m, .int .i64 (frC r l day)])) ∨ frC r l day = 0 ∧ riB r = true ∧ ∃ b ad, e = .returned (.tuple #[.pointer (some ⟨b, 0, none⟩), momV ((folF r m0 l 0).1.on day), .int .i64 0]) ∧ OpI w w' d r b ad (opF r r.n) (opM r r.n)) ∧ Below w.heap.size w w'
theorem from_any (d : Rad) (r : Rit) (A : Option Addr) (c : Nat) (l : List (Int × Int)) (day : Int) (w : World) (hd : RtR w d r) (hz : RtZ r) (hl : l.length ≤ 1000000) (hD : DsR w A l) :
    Calls Tryd.prog 38 #[.agg #[.slice d.A r.n d.c, .int .i64 r.last, .int .i64 r.toil], .slice A l.length c, .int .i64 day] w (FromPost w d r l day) := by
  have HB1 : Hid (Below w.heap.size w ((w.alloc (.cells #[.slice d.A r.n d.c, .int .i64 r.last, .int .i64 r.toil] 24)).alloc (.cells #[.int .u16 0, .int .i64 0, .int .i64 0] 77))) := hide (((Below.refl _ _).alloc (Nat.le_refl _) _).alloc (by simp) _)
  have G1 : Hid (Blk ((w.alloc (.cells #[.slice d.A r.n d.c, .int .i64 r.last, .int .i64 r.toil] 24)).alloc (.cells #[.int .u16 0, .int .i64 0, .int .i64 0] 77)) w.heap.size 24 #[.slice d.A r.n d.c, .int .i64 r.last, .int .i64 r.toil]) := hide ((Blk.new w _ _).alloc _)
  have Q1 : Hid (Blk ((w.alloc (.cells #[.slice d.A r.n d.c, .int .i64 r.last, .int .i64 r.toil] 24)).alloc (.cells #[.int .u16 0, .int .i64 0, .int .i64 0] 77)) (w.heap.size + 1) 77 #[.int .u16 0, .int .i64 0, .int .i64 0]) := hide (by simpa using Blk.new (w.alloc (.cells #[.slice d.A r.n d.c, .int .i64 r.last, .int .i64 r.toil] 24)) 77 #[.int .u16 0, .int .i64 0, .int .i64 0])
  have HRT := hide (hd.ext HB1.out)
  have HD := hide (hD.ext HB1.out)
  have HO := hide (after_any d r A c l _ HRT.out hz hl HD.out)
  have HW := hide (fun (a x y : Int) W => rwithin_any a x y W)
  have HON : Hid (∀ (m : Mom) (W : World), Calls Tryd.prog 42 #[.agg #[.int .u16 (m.d : Nat), .int .i64 m.day, .int .i64 m.de], .int .i64 day] W fun e w' => e = .returned (.agg #[.int .u16 ((m.on day).d : Nat), .int .i64 (m.on day).day, .int .i64 (m.on day).de]) ∧ Below W.heap.size W w') := hide (fun m W => on_any m day W)
  obtain ⟨M, hM⟩ : ∃ M, w.heap.size + 1 = M := ⟨_, rfl⟩
  have HMM := hide hM
  rw [hM] at Q1
  clear hd hz hD hl
  go_enter Tryd.func38, Tryd.ntmps38
  go_upto_region 1 with fail
  (try rw [hM])
  clear hM
  generalize (w.alloc (.cells #[.slice d.A r.n d.c, .int .i64 r.last, .int .i64 r.toil] 24)).alloc (.cells #[.int .u16 0, .int .i64 0, .int .i64 0] 77) = w1 at HB1 G1 Q1 HO HD HRT ⊢
  have HLM : Hid (w.heap.size ≤ M) := hide (by rw [← HMM.out]; exact Nat.le_succ _)
  obtain ⟨G, hG⟩ : ∃ x, w.heap.size = x := ⟨_, rfl⟩
  rw [hG] at G1 ⊢
  clear hG
  have HQ0 := hide Q1.out.lt
  obtain ⟨g9, g0, g1, g2, -⟩ := blk3 G1.out
  go_wp2_with fail
  refine HO.out.mono ?_
  rintro e w2 ⟨⟨hc, rfl⟩ | ⟨hc, hb, b, ad, rfl, hB⟩, hbl⟩
  · have HBL := hide (HB1.out.trans (hbl.mono HB1.out.size))
    have HCH : Hid (frC r l day = aftC r l) := hide (by unfold frC; rw [if_neg hc])
    have HC0 := hide hc
    obtain ⟨ec, hec⟩ : ∃ x, aftC r l = x := ⟨_, rfl⟩
    rw [hec] at HCH HC0 ⊢
    have hb4 : Below w2.heap.size w2 (w2.alloc (.cells #[.int .u16 0, .int .i64 0, .int .i64 0] 77)) := (Below.refl _ _).alloc (Nat.le_refl _) _
    have Q3 := hide (Blk.new w2 77 #[.int .u16 0, .int .i64 0, .int .i64 0])
    replace Q1 := hide ((Q1.out.ext hbl).ext hb4)
    replace HBL := hide (HBL.out.trans (hb4.mono HBL.out.size))
    have e1 : (ec == 0) = false := by rw [beq_eq_false_iff_ne]; exact HC0.out
    have HON0 := hide (HON.out m0)
    unfold momV m0
    unfold m0 at HON0
    dsimp only at HON0 ⊢
    clear hc hbl g9 g0 g1 g2 HO HD hec hb4
    go_upto_region 2 with fail
    have Bd := hide (Below.refl (w2.alloc (.cells #[.int .u16 0, .int .i64 0, .int .i64 0] 77)).heap.size (w2.alloc (.cells #[.int .u16 0, .int .i64 0, .int .i64 0] 77))).drew
    replace Q1 := hide (Q1.out.ext Bd.out)
    replace Q3 := hide (Q3.out.ext Bd.out)
    replace HBL := hide (HBL.out.trans (Bd.out.mono HBL.out.size))
    refine wp_region_J (fun W : World => True) (by kernel_rfl) ?_
    generalize (w2.alloc (.cells #[.int .u16 0, .int .i64 0, .int .i64 0] 77)).drew = wd at Bd Q1 Q3 HBL ⊢
    refine wpAnyJ_take 0 (v := ?_) (by first | exact hF | exact wideFn) trivial rfl (by kernel_rfl) (by kernel_rfl) (by kernel_rfl) (by kernel_rfl) rfl ?_ (by first | exact fun _ _ _ h => h | exact fun _ _ _ h => hQ2 _ _ _ _ _ h) ?_
    rotate_left
    · intro W hSW
      simp only [glA, glB, glC]
      (try dsimp only at hSW)
      go_simp
      with_reducible rfl
    (try simp only [glA, glB, glC, Act.put, glD, glE, glF])
    refine wpAnyJ_take 1 (v := ?_) (by first | exact hF | exact wideFn) trivial rfl (by kernel_rfl) (by kernel_rfl) (by kernel_rfl) (by kernel_rfl) rfl ?_ (by first | exact fun _ _ _ h => h | exact fun _ _ _ h => hQ2 _ _ _ _ _ h) ?_
    rotate_left
    · intro W hSW
      simp only [glA, glB, glC]
      (try dsimp only at hSW)
      go_simp
      with_reducible rfl
    (try simp only [glA, glB, glC, Act.put, glD, glE, glF])
    refine wpAnyJ_take 2 (v := ?_) (by first | exact hF | exact wideFn) trivial rfl (by kernel_rfl) (by kernel_rfl) (by kernel_rfl) (by kernel_rfl) rfl ?_ (by first | exact fun _ _ _ h => h | exact fun _ _ _ h => hQ2 _ _ _ _ _ h) ?_
    rotate_left
    · intro W hSW
      simp only [glA, glB, glC]
      (try dsimp only at hSW)
      go_simp
      with_reducible rfl
    (try simp only [glA, glB, glC, Act.put, glD, glE, glF])
    refine wpAnyJ_skip 3 (by first | exact hF | exact wideFn) trivial rfl (by kernel_rfl) (by kernel_rfl) (by kernel_rfl) (by kernel_rfl) rfl (by first | exact fun _ _ _ h => h | exact fun _ _ _ h => hQ2 _ _ _ _ _ h) ?_
    (try simp only [glA, glB, glC, Act.put, glD, glE, glF])
    refine wpAnyJ_skip 4 (by first | exact hF | exact wideFn) trivial rfl (by kernel_rfl) (by kernel_rfl) (by kernel_rfl) (by kernel_rfl) rfl (by first | exact fun _ _ _ h => h | exact fun _ _ _ h => hQ2 _ _ _ _ _ h) ?_
    (try simp only [glA, glB, glC, Act.put, glD, glE, glF])
    refine wpAnyJ_skip 5 (by first | exact hF | exact wideFn) trivial rfl (by kernel_rfl) (by kernel_rfl) (by kernel_rfl) (by kernel_rfl) rfl (by first | exact fun _ _ _ h => h | exact fun _ _ _ h => hQ2 _ _ _ _ _ h) ?_
    (try simp only [glA, glB, glC, Act.put, glD, glE, glF])
    refine wpAnyJ_skip 6 (by first | exact hF | exact wideFn) trivial rfl (by kernel_rfl) (by kernel_rfl) (by kernel_rfl) (by kernel_rfl) rfl (by first | exact fun _ _ _ h => h | exact fun _ _ _ h => hQ2 _ _ _ _ _ h) ?_
    (try simp only [glA, glB, glC, Act.put, glD, glE, glF])
    refine wpAnyJ_skip 7 (by first | exact hF | exact wideFn) trivial rfl (by kernel_rfl) (by kernel_rfl) (by kernel_rfl) (by kernel_rfl) rfl (by first | exact fun _ _ _ h => h | exact fun _ _ _ h => hQ2 _ _ _ _ _ h) ?_
    (try simp only [glA, glB, glC, Act.put, glD, glE, glF])
    refine wpAnyJ_skip 8 (by first | exact hF | exact wideFn) trivial rfl (by kernel_rfl) (by kernel_rfl) (by kernel_rfl) (by kernel_rfl) rfl (by first | exact fun _ _ _ h => h | exact fun _ _ _ h => hQ2 _ _ _ _ _ h) ?_
    (try simp only [glA, glB, glC, Act.put, glD, glE, glF])
    refine wpAnyJ_skip 9 (by first | exact hF | exact wideFn) trivial rfl (by kernel_rfl) (by kernel_rfl) (by kernel_rfl) (by kernel_rfl) rfl (by first | exact fun _ _ _ h => h | exact fun _ _ _ h => hQ2 _ _ _ _ _ h) ?_
    (try simp only [glA, glB, glC, Act.put, glD, glE, glF])
    refine wpAnyJ_skip 10 (by first | exact hF | exact wideFn) trivial rfl (by kernel_rfl) (by kernel_rfl) (by kernel_rfl) (by kernel_rfl) rfl (by first | exact fun _ _ _ h => h | exact fun _ _ _ h => hQ2 _ _ _ _ _ h) ?_
    (try simp only [glA, glB, glC, Act.put, glD, glE, glF])
    refine wpAnyJ_skip 11 (by first | exact hF | exact wideFn) trivial rfl (by kernel_rfl) (by kernel_rfl) (by kernel_rfl) (by kernel_rfl) rfl (by first | exact fun _ _ _ h => h | exact fun _ _ _ h => hQ2 _ _ _ _ _ h) ?_
    (try simp only [glA, glB, glC, Act.put, glD, glE, glF])
    refine wpAnyJ_skip 12 (by first | exact hF | exact wideFn) trivial rfl (by kernel_rfl) (by kernel_rfl) (by kernel_rfl) (by kernel_rfl) rfl (by first | exact fun _ _ _ h => h | exact fun _ _ _ h => hQ2 _ _ _ _ _ h) ?_
    (try simp only [glA, glB, glC, Act.put, glD, glE, glF])
    refine wpAnyJ_take 13 (v := ?_) (by first | exact hF | exact wideFn) trivial rfl (by kernel_rfl) (by kernel_rfl) (by kernel_rfl) (by kernel_rfl) rfl ?_ (by first | exact fun _ _ _ h => h | exact fun _ _ _ h => hQ2 _ _ _ _ _ h) ?_
    rotate_left
    · intro W hSW
      simp only [glA, glB, glC]
      (try dsimp only at hSW)
      go_simp
      with_reducible rfl
    (try simp only [glA, glB, glC, Act.put, glD, glE, glF])
    refine wpAnyJ_done (by kernel_rfl) ?_
    obtain ⟨x9, x0, x1, x2, -⟩ := blk3 Q3.out
    go_wp2_with fail
    refine (HON0.out _).mono ?_
    rintro e w5 ⟨rfl, h5⟩
    replace Q1 := hide (Q1.out.ext h5)
    replace HBL := hide (HBL.out.trans (h5.mono HBL.out.size))
    clear h5 x9 x0 x1 x2
    generalize (Mom.on ⟨0, 0, 0⟩ day) = mo
    obtain ⟨oD, oday, ode⟩ := mo
    dsimp only
    obtain ⟨a9, a0, a1, a2, a3, a4, a5⟩ := blk3 Q1.out
    go_wp2_with fail
    have h3 := Q1.out.set3 (.int .u16 (oD : Nat)) (.int .i64 oday) (.int .i64 ode)
    obtain ⟨-, z0, z1, z2, -⟩ := blk3 h3
    refine bodyPost_ret (v := .tuple #[.pointer none, .agg #[.int .u16 (oD : Nat), .int .i64 oday, .int .i64 ode], .int .i64 ec]) (by
      simp [results, Tryd.results38, go_sem, z0, z1, z2]) rfl ⟨?_, set3B HBL.out HLM.out _ _ _⟩
    exact .inl ⟨by rw [HCH.out]; exact HC0.out, none, ⟨oD, oday, ode⟩, by rw [HCH.out]; rfl⟩
  · have HBL := hide (HB1.out.trans (hbl.mono HB1.out.size))
    have HR := hide hb
    have HB := hide (hB.rebase HB1.out)
    have HNB : Hid (b ≠ M ∧ ∀ j, j < 4 → ad j ≠ M) := hide ⟨by have := hB.lob; have := HQ0.out; omega, fun j hj => by have := hB.lo j hj; have := HQ0.out; omega⟩
    replace Q1 := hide (Q1.out.ext hbl)
    obtain ⟨ff, hff⟩ : ∃ x, (folF r m0 l 0).1 = x := ⟨_, rfl⟩
    have HFF := hide hff
    rw [hff]
    have HC0 := hide hc
    clear hc hff hB
    obtain ⟨mD, mday, mde⟩ := ff
    have hb4 : Below w2.heap.size w2 (w2.alloc (.cells #[.int .u16 (mD : Nat), .int .i64 mday, .int .i64 mde] 77)) := (Below.refl _ _).alloc (Nat.le_refl _) _
    have Q3 := hide (Blk.new w2 77 #[.int .u16 (mD : Nat), .int .i64 mday, .int .i64 mde])
    replace Q1 := hide (Q1.out.ext hb4)
    replace HB := hide (HB.out.ext hb4)
    replace HBL := hide (HBL.out.trans (hb4.mono HBL.out.size))
    have HON0 := hide (HON.out ⟨mD, mday, mde⟩)
    unfold momV
    dsimp only at HON0 ⊢
    have HMO : Hid ((folF r m0 l 0).1.on day = Mom.on ⟨mD, mday, mde⟩ day) := hide (by rw [HFF.out])
    obtain ⟨la, hla⟩ : ∃ x, r.last = x := ⟨_, rfl⟩
    have HLA := hide hla
    clear hb hbl g9 g0 g1 g2 HO HD hb4 hla
    go_upto_region 2 with fail
    have HS2 : Hid (∀ W, Below (w2.alloc (.cells #[.int .u16 (mD : Nat), .int .i64 mday, .int .i64 mde] 77)).heap.size (w2.alloc (.cells #[.int .u16 (mD : Nat), .int .i64 mday, .int .i64 mde] 77)) W → ∀ H, H = w2.heap.size → (W.cell? ⟨H, 1, none⟩ = some (.int .i64 mday) ∧ W.cell? ⟨b, 1, none⟩ = some (.int .i64 la))) := hide fun W h H hH => by
      subst hH
      have h1 := (bx8 (HB.out.ext h).blk).2.2.1
      rw [HLA.out] at h1
      exact ⟨(blk3 (Q3.out.ext h)).2.2.1, h1⟩
    have Bd := hide (Below.refl (w2.alloc (.cells #[.int .u16 (mD : Nat), .int .i64 mday, .int .i64 mde] 77)).heap.size (w2.alloc (.cells #[.int .u16 (mD : Nat), .int .i64 mday, .int .i64 mde] 77))).drew
    replace Q1 := hide (Q1.out.ext Bd.out)
    replace Q3 := hide (Q3.out.ext Bd.out)
    replace HB := hide (HB.out.ext Bd.out)
    replace HBL := hide (HBL.out.trans (Bd.out.mono HBL.out.size))
    obtain ⟨H, hH⟩ : ∃ x, w2.heap.size = x := ⟨_, rfl⟩
    have hs := HS2.out _ Bd.out H hH.symm
    rw [hH] at Q3 ⊢
    have HS3 := hide hs
    clear hs HS2 hH
    refine wp_region_J (fun W : World => (W.cell? ⟨H, 1, none⟩ = some (.int .i64 mday) ∧ W.cell? ⟨b, 1, none⟩ = some (.int .i64 la))) (by kernel_rfl) ?_
    generalize (w2.alloc (.cells #[.int .u16 (mD : Nat), .int .i64 mday, .int .i64 mde] 77)).drew = wd at Bd Q1 Q3 HB HBL HS3 ⊢
    by_cases hin : mday ≤ day ∧ day ≤ la
    · have HCH : Hid (frC r l day = 0) := hide (by unfold frC; rw [if_pos HC0.out, HFF.out, HLA.out, if_pos hin])
      have HW2 := hide (HW.out day mday la)
      rw [wth_yes hin] at HW2
      clear hin
      refine wpAnyJ_take 0 (v := ?_) (by first | exact hF | exact wideFn) HS3.out rfl (by kernel_rfl) (by kernel_rfl) (by kernel_rfl) (by kernel_rfl) rfl ?_ (by first | exact fun _ _ _ h => h | exact fun _ _ _ h => hQ2 _ _ _ _ _ h) ?_
      rotate_left
      · intro W hSW
        simp only [glA, glB, glC]
        (try dsimp only at hSW)
        go_simp
        with_reducible rfl
      (try simp only [glA, glB, glC, Act.put, glD, glE, glF])
      refine wpAnyJ_take 1 (v := ?_) (by first | exact hF | exact wideFn) HS3.out rfl (by kernel_rfl) (by kernel_rfl) (by kernel_rfl) (by kernel_rfl) rfl ?_ (by first | exact fun _ _ _ h => h | exact fun _ _ _ h => hQ2 _ _ _ _ _ h) ?_
      rotate_left
      · intro W hSW
        simp only [glA, glB, glC]
        (try dsimp only at hSW)
        go_simp
        with_reducible rfl
      (try simp only [glA, glB, glC, Act.put, glD, glE, glF])
      refine wpAnyJ_take 2 (v := ?_) (by first | exact hF | exact wideFn) HS3.out rfl (by kernel_rfl) (by kernel_rfl) (by kernel_rfl) (by kernel_rfl) rfl ?_ (by first | exact fun _ _ _ h => h | exact fun _ _ _ h => hQ2 _ _ _ _ _ h) ?_
      rotate_left
      · intro W hSW
        simp only [glA, glB, glC]
        (try dsimp only at hSW)
        go_simp
        with_reducible rfl
      (try simp only [glA, glB, glC, Act.put, glD, glE, glF])
      refine wpAnyJ_take 3 (v := ?_) (by first | exact hF | exact wideFn) HS3.out rfl (by kernel_rfl) (by kernel_rfl) (by kernel_rfl) (by kernel_rfl) rfl ?_ (by first | exact fun _ _ _ h => h | exact fun _ _ _ h => hQ2 _ _ _ _ _ h) ?_
      rotate_left
      · intro W hSW
        simp only [glA, glB, glC]
        (try dsimp only at hSW)
        go_simp
        with_reducible rfl
      (try simp only [glA, glB, glC, Act.put, glD, glE, glF])
      refine wpAnyJ_take 4 (v := ?_) (by first | exact hF | exact wideFn) HS3.out rfl (by kernel_rfl) (by kernel_rfl) (by kernel_rfl) (by kernel_rfl) rfl ?_ (by first | exact fun _ _ _ h => h | exact fun _ _ _ h => hQ2 _ _ _ _ _ h) ?_
      rotate_left
      · intro W hSW
        simp only [glA, glB, glC]
        (try dsimp only at hSW)
        go_simp
        with_reducible rfl
      (try simp only [glA, glB, glC, Act.put, glD, glE, glF])
      refine wpAnyJ_take 5 (v := ?_) (by first | exact hF | exact wideFn) HS3.out rfl (by kernel_rfl) (by kernel_rfl) (by kernel_rfl) (by kernel_rfl) rfl ?_ (by first | exact fun _ _ _ h => h | exact fun _ _ _ h => hQ2 _ _ _ _ _ h) ?_
      rotate_left
      · intro W hSW
        simp only [glA, glB, glC]
        (try dsimp only at hSW)
        go_simp
        with_reducible rfl
      (try simp only [glA, glB, glC, Act.put, glD, glE, glF])
      refine wpAnyJ_take 6 (v := ?_) (by first | exact hF | exact wideFn) HS3.out rfl (by kernel_rfl) (by kernel_rfl) (by kernel_rfl) (by kernel_rfl) rfl ?_ (by first | exact fun _ _ _ h => h | exact fun _ _ _ h => hQ2 _ _ _ _ _ h) ?_
      rotate_left
      · intro W hSW
        simp only [glA, glB, glC]
        (try dsimp only at hSW)
        go_simp
        with_reducible rfl
      (try simp only [glA, glB, glC, Act.put, glD, glE, glF])
      refine wpAnyJ_take 7 (v := ?_) (by first | exact hF | exact wideFn) HS3.out rfl (by kernel_rfl) (by kernel_rfl) (by kernel_rfl) (by kernel_rfl) rfl ?_ (by first | exact fun _ _ _ h => h | exact fun _ _ _ h => hQ2 _ _ _ _ _ h) ?_
      rotate_left
      · intro W hSW
        simp only [glA, glB, glC]
        (try dsimp only at hSW)
        go_simp
        with_reducible rfl
      (try simp only [glA, glB, glC, Act.put, glD, glE, glF])
      refine wpAnyJ_take 8 (v := ?_) (by first | exact hF | exact wideFn) HS3.out rfl (by kernel_rfl) (by kernel_rfl) (by kernel_rfl) (by kernel_rfl) rfl ?_ (by first | exact fun _ _ _ h => h | exact fun _ _ _ h => hQ2 _ _ _ _ _ h) ?_
      rotate_left
      · intro W hSW
        simp only [glA, glB, glC]
        (try dsimp only at hSW)
        go_simp
        with_reducible rfl
      (try simp only [glA, glB, glC, Act.put, glD, glE, glF])
      refine wpAnyJ_take 9 (v := ?_) (by first | exact hF | exact wideFn) HS3.out rfl (by kernel_rfl) (by kernel_rfl) (by kernel_rfl) (by kernel_rfl) rfl ?_ (by first | exact fun _ _ _ h => h | exact fun _ _ _ h => hQ2 _ _ _ _ _ h) ?_
      rotate_left
      · intro W hSW
        simp only [glA, glB, glC]
        (try dsimp only at hSW)
        go_simp
        with_reducible rfl
      (try simp only [glA, glB, glC, Act.put, glD, glE, glF])
      refine wpAnyJ_take 10 (v := ?_) (by first | exact hF | exact wideFn) HS3.out rfl (by kernel_rfl) (by kernel_rfl) (by kernel_rfl) (by kernel_rfl) rfl ?_ (by first | exact fun _ _ _ h => h | exact fun _ _ _ h => hQ2 _ _ _ _ _ h) ?_
      rotate_left
      · intro W hSW
        simp only [glA, glB, glC]
        (try dsimp only at hSW)
        go_simp
        with_reducible rfl
      (try simp only [glA, glB, glC, Act.put, glD, glE, glF])
      refine wpAnyJ_one 11 rfl (by kernel_rfl) (fun K hK => ?_)
      simp only [glA, glB, glC]
      go_simp
      refine ⟨trivial, rfl, ?_⟩
      refine (callsIn_wide.2 (HW2.out _)).mono ?_
      rintro e w5 ⟨rfl, rfl⟩
      skip
      dsimp only
      refine hK.out _ _ (fun _ => HS3.out) ?_
      clear hK K
      (try simp only [glA, glB, glC, Act.put, glD, glE, glF])
      refine wpAnyJ_take 12 (v := ?_) (by first | exact hF | exact wideFn) HS3.out rfl (by kernel_rfl) (by kernel_rfl) (by kernel_rfl) (by kernel_rfl) rfl ?_ (by first | exact fun _ _ _ h => h | exact fun _ _ _ h => hQ2 _ _ _ _ _ h) ?_
      rotate_left
      · intro W hSW
        simp only [glA, glB, glC]
        (try dsimp only at hSW)
        go_simp
        with_reducible rfl
      (try simp only [glA, glB, glC, Act.put, glD, glE, glF])
      refine wpAnyJ_take 13 (v := ?_) (by first | exact hF | exact wideFn) HS3.out rfl (by kernel_rfl) (by kernel_rfl) (by kernel_rfl) (by kernel_rfl) rfl ?_ (by first | exact fun _ _ _ h => h | exact fun _ _ _ h => hQ2 _ _ _ _ _ h) ?_
      rotate_left
      · intro W hSW
        simp only [glA, glB, glC]
        (try dsimp only at hSW)
        go_simp
        with_reducible rfl
      (try simp only [glA, glB, glC, Act.put, glD, glE, glF])
      refine wpAnyJ_done (by kernel_rfl) ?_
      obtain ⟨x9, x0, x1, x2, -⟩ := blk3 Q3.out
      go_wp2_with fail
      refine (HON0.out _).mono ?_
      rintro e w5 ⟨rfl, h5⟩
      replace Q1 := hide (Q1.out.ext h5)
      replace HB := hide (HB.out.ext h5)
      replace HBL := hide (HBL.out.trans (h5.mono HBL.out.size))
      clear h5 x9 x0 x1 x2
      obtain ⟨mo, hmo⟩ : ∃ x, Mom.on ⟨mD, mday, mde⟩ day = x := ⟨_, rfl⟩
      rw [hmo] at HMO ⊢
      clear hmo
      obtain ⟨oD, oday, ode⟩ := mo
      dsimp only
      obtain ⟨a9, a0, a1, a2, a3, a4, a5⟩ := blk3 Q1.out
      go_wp2_with fail
      have h3 := Q1.out.set3 (.int .u16 (oD : Nat)) (.int .i64 oday) (.int .i64 ode)
      obtain ⟨-, z0, z1, z2, -⟩ := blk3 h3
      refine bodyPost_ret (v := .tuple #[.pointer (some ⟨b, 0, none⟩), .agg #[.int .u16 (oD : Nat), .int .i64 oday, .int .i64 ode], .int .i64 0]) (by
        simp [results, Tryd.results38, go_sem, z0, z1, z2]) rfl ⟨?_, set3B HBL.out HLM.out _ _ _⟩
      exact .inr ⟨HCH.out, HR.out, b, ad, by rw [HMO.out]; rfl, ((HB.out.far HLM.out HNB.out.1 HNB.out.2 0 _).far HLM.out HNB.out.1 HNB.out.2 1 _).far HLM.out HNB.out.1 HNB.out.2 2 _⟩
    · have HCH : Hid (frC r l day = 3) := hide (by unfold frC; rw [if_pos HC0.out, HFF.out, HLA.out, if_neg hin])
      have HW2 := hide (HW.out day mday la)
      rw [wth_no hin] at HW2
      clear hin
      refine wpAnyJ_take 0 (v := ?_) (by first | exact hF | exact wideFn) HS3.out rfl (by kernel_rfl) (by kernel_rfl) (by kernel_rfl) (by kernel_rfl) rfl ?_ (by first | exact fun _ _ _ h => h | exact fun _ _ _ h => hQ2 _ _ _ _ _ h) ?_
      rotate_left
      · intro W hSW
        simp only [glA, glB, glC]
        (try dsimp only at hSW)
        go_simp
        with_reducible rfl
      (try simp only [glA, glB, glC, Act.put, glD, glE, glF])
      refine wpAnyJ_take 1 (v := ?_) (by first | exact hF | exact wideFn) HS3.out rfl (by kernel_rfl) (by kernel_rfl) (by kernel_rfl) (by kernel_rfl) rfl ?_ (by first | exact fun _ _ _ h => h | exact fun _ _ _ h => hQ2 _ _ _ _ _ h) ?_
      rotate_left
      · intro W hSW
        simp only [glA, glB, glC]
        (try dsimp only at hSW)
        go_simp
        with_reducible rfl
      (try simp only [glA, glB, glC, Act.put, glD, glE, glF])
      refine wpAnyJ_take 2 (v := ?_) (by first | exact hF | exact wideFn) HS3.out rfl (by kernel_rfl) (by kernel_rfl) (by kernel_rfl) (by kernel_rfl) rfl ?_ (by first | exact fun _ _ _ h => h | exact fun _ _ _ h => hQ2 _ _ _ _ _ h) ?_
      rotate_left
      · intro W hSW
        simp only [glA, glB, glC]
        (try dsimp only at hSW)
        go_simp
        with_reducible rfl
      (try simp only [glA, glB, glC, Act.put, glD, glE, glF])
      refine wpAnyJ_take 3 (v := ?_) (by first | exact hF | exact wideFn) HS3.out rfl (by kernel_rfl) (by kernel_rfl) (by kernel_rfl) (by kernel_rfl) rfl ?_ (by first | exact fun _ _ _ h => h | exact fun _ _ _ h => hQ2 _ _ _ _ _ h) ?_
      rotate_left
      · intro W hSW
        simp only [glA, glB, glC]
        (try dsimp only at hSW)
        go_simp
        with_reducible rfl
      (try simp only [glA, glB, glC, Act.put, glD, glE, glF])
      refine wpAnyJ_take 4 (v := ?_) (by first | exact hF | exact wideFn) HS3.out rfl (by kernel_rfl) (by kernel_rfl) (by kernel_rfl) (by kernel_rfl) rfl ?_ (by first | exact fun _ _ _ h => h | exact fun _ _ _ h => hQ2 _ _ _ _ _ h) ?_
      rotate_left
      · intro W hSW
        simp only [glA, glB, glC]
        (try dsimp only at hSW)
        go_simp
        with_reducible rfl
      (try simp only [glA, glB, glC, Act.put, glD, glE, glF])
      refine wpAnyJ_take 5 (v := ?_) (by first | exact hF | exact wideFn) HS3.out rfl (by kernel_rfl) (by kernel_rfl) (by kernel_rfl) (by kernel_rfl) rfl ?_ (by first | exact fun _ _ _ h => h | exact fun _ _ _ h => hQ2 _ _ _ _ _ h) ?_
      rotate_left
      · intro W hSW
        simp only [glA, glB, glC]
        (try dsimp only at hSW)
        go_simp
        with_reducible rfl
      (try simp only [glA, glB, glC, Act.put, glD, glE, glF])
      refine wpAnyJ_take 6 (v := ?_) (by first | exact hF | exact wideFn) HS3.out rfl (by kernel_rfl) (by kernel_rfl) (by kernel_rfl) (by kernel_rfl) rfl ?_ (by first | exact fun _ _ _ h => h | exact fun _ _ _ h => hQ2 _ _ _ _ _ h) ?_
      rotate_left
      · intro W hSW
        simp only [glA, glB, glC]
        (try dsimp only at hSW)
        go_simp
        with_reducible rfl
      (try simp only [glA, glB, glC, Act.put, glD, glE, glF])
      refine wpAnyJ_take 7 (v := ?_) (by first | exact hF | exact wideFn) HS3.out rfl (by kernel_rfl) (by kernel_rfl) (by kernel_rfl) (by kernel_rfl) rfl ?_ (by first | exact fun _ _ _ h => h | exact fun _ _ _ h => hQ2 _ _ _ _ _ h) ?_
      rotate_left
      · intro W hSW
        simp only [glA, glB, glC]
        (try dsimp only at hSW)
        go_simp
        with_reducible rfl
      (try simp only [glA, glB, glC, Act.put, glD, glE, glF])
      refine wpAnyJ_take 8 (v := ?_) (by first | exact hF | exact wideFn) HS3.out rfl (by kernel_rfl) (by kernel_rfl) (by kernel_rfl) (by kernel_rfl) rfl ?_ (by first | exact fun _ _ _ h => h | exact fun _ _ _ h => hQ2 _ _ _ _ _ h) ?_
      rotate_left
      · intro W hSW
        simp only [glA, glB, glC]
        (try dsimp only at hSW)
        go_simp
        with_reducible rfl
      (try simp only [glA, glB, glC, Act.put, glD, glE, glF])
      refine wpAnyJ_take 9 (v := ?_) (by first | exact hF | exact wideFn) HS3.out rfl (by kernel_rfl) (by kernel_rfl) (by kernel_rfl) (by kernel_rfl) rfl ?_ (by first | exact fun _ _ _ h => h | exact fun _ _ _ h => hQ2 _ _ _ _ _ h) ?_
      rotate_left
      · intro W hSW
        simp only [glA, glB, glC]
        (try dsimp only at hSW)
        go_simp
        with_reducible rfl
      (try simp only [glA, glB, glC, Act.put, glD, glE, glF])
      refine wpAnyJ_take 10 (v := ?_) (by first | exact hF | exact wideFn) HS3.out rfl (by kernel_rfl) (by kernel_rfl) (by kernel_rfl) (by kernel_rfl) rfl ?_ (by first | exact fun _ _ _ h => h | exact fun _ _ _ h => hQ2 _ _ _ _ _ h) ?_
      rotate_left
      · intro W hSW
        simp only [glA, glB, glC]
        (try dsimp only at hSW)
        go_simp
        with_reducible rfl
      (try simp only [glA, glB, glC, Act.put, glD, glE, glF])
      refine wpAnyJ_one 11 rfl (by kernel_rfl) (fun K hK => ?_)
      simp only [glA, glB, glC]
      go_simp
      refine ⟨trivial, rfl, ?_⟩
      refine (callsIn_wide.2 (HW2.out _)).mono ?_
      rintro e w5 ⟨rfl, rfl⟩
      skip
      dsimp only
      refine hK.out _ _ (fun _ => HS3.out) ?_
      clear hK K
      (try simp only [glA, glB, glC, Act.put, glD, glE, glF])
      refine wpAnyJ_take 12 (v := ?_) (by first | exact hF | exact wideFn) HS3.out rfl (by kernel_rfl) (by kernel_rfl) (by kernel_rfl) (by kernel_rfl) rfl ?_ (by first | exact fun _ _ _ h => h | exact fun _ _ _ h => hQ2 _ _ _ _ _ h) ?_
      rotate_left
      · intro W hSW
        simp only [glA, glB, glC]
        (try dsimp only at hSW)
        go_simp
        with_reducible rfl
      (try simp only [glA, glB, glC, Act.put, glD, glE, glF])
      refine wpAnyJ_take 13 (v := ?_) (by first | exact hF | exact wideFn) HS3.out rfl (by kernel_rfl) (by kernel_rfl) (by kernel_rfl) (by kernel_rfl) rfl ?_ (by first | exact fun _ _ _ h => h | exact fun _ _ _ h => hQ2 _ _ _ _ _ h) ?_
      rotate_left
      · intro W hSW
        simp only [glA, glB, glC]
        (try dsimp only at hSW)
        go_simp
        with_reducible rfl
      (try simp only [glA, glB, glC, Act.put, glD, glE, glF])
      refine wpAnyJ_done (by kernel_rfl) ?_
      obtain ⟨x9, x0, x1, x2, -⟩ := blk3 Q3.out
      go_wp2_with fail
      refine (HON0.out _).mono ?_
      rintro e w5 ⟨rfl, h5⟩
      replace Q1 := hide (Q1.out.ext h5)
      replace HBL := hide (HBL.out.trans (h5.mono HBL.out.size))
      clear h5 x9 x0 x1 x2
      generalize (Mom.on ⟨mD, mday, mde⟩ day) = mo
      obtain ⟨oD, oday, ode⟩ := mo
      dsimp only
      obtain ⟨a9, a0, a1, a2, a3, a4, a5⟩ := blk3 Q1.out
      go_wp2_with fail
      have h3 := Q1.out.set3 (.int .u16 (oD : Nat)) (.int .i64 oday) (.int .i64 ode)
      obtain ⟨-, z0, z1, z2, -⟩ := blk3 h3
      refine bodyPost_ret (v := .tuple #[.pointer (some ⟨b, 0, none⟩), .agg #[.int .u16 (oD : Nat), .int .i64 oday, .int .i64 ode], .int .i64 3]) (by
        simp [results, Tryd.results38, go_sem, z0, z1, z2]) rfl ⟨?_, set3B HBL.out HLM.out _ _ _⟩
      exact .inl ⟨by rw [HCH.out]; decide, some ⟨b, 0, none⟩, ⟨oD, oday, ode⟩, by rw [HCH.out]; rfl⟩
end Go.Proofs.YtcgdalabenflmaaDoor
/- Rite: asked, Open, Forgotten, walked. -/
namespace Go.Proofs.YtcgdalabenflmaaDoor
open Go Go.RowKit Go.Shelf
set_option maxHeartbeats 8000000
set_option maxRecDepth 100000
def AskPost (w : World) (r : Rit) (l : List (Int × Int)) (day : Int) (S : Nat) (e : Ending) (w' : World) : Prop :=
  (frC r l day ≠ 0 ∧ e = .returned (.tuple #[.slice none 0 0, .int .i64 (frC r l day)]) ∨ frC r l day = 0 ∧ riB r = true ∧ ∃ v, e = .returned (.tuple #[v, .int .i64 0]) ∧ OwnJ w' w.heap.size v (ofN (elS S))) ∧ Below w.heap.size w w'
theorem asked_any (g : FuncId) (S : Nat) (hS : S < 65536) (d : Rad) (r : Rit) (A : Option Addr) (c : Nat) (l : List (Int × Int)) (day : Int) (w : World) (hd : RtR w d r) (hz : RtZ r) (hl : l.length ≤ 1000000) (hD : DsR w A l) (hT : TB w)
    (eg : ∀ args w, (callFunc g args).run Tryd.prog w = .ok (.enter g args) w)
    (hg : riB r = true → ∀ W b q, BkR W b d q r → TB W → Calls Tryd.prog g #[.pointer (some ⟨b, 0, none⟩), momV ((folF r m0 l 0).1.on day)] W fun e W' => e = .returned (.int .u16 (S : Nat)) ∧ Below W.heap.size W W') :
    Calls Tryd.prog 48 #[.agg #[.slice d.A r.n d.c, .int .i64 r.last, .int .i64 r.toil], .slice A l.length c, .int .i64 day, .func (.func g) #[] #[]] w (AskPost w r l day S) := by
  have HTB := hide hT
  have HG := hide hg
  have HSS := hide hS
  have HB1 : Hid (Below w.heap.size w (w.alloc (.cells #[.slice d.A r.n d.c, .int .i64 r.last, .int .i64 r.toil] 24))) := hide ((Below.refl _ _).alloc (Nat.le_refl _) _)
  have G1 := hide (Blk.new w 24 #[.slice d.A r.n d.c, .int .i64 r.last, .int .i64 r.toil])
  have HRT := hide (hd.ext HB1.out)
  have HD := hide (hD.ext HB1.out)
  have HO := hide (from_any d r A c l day _ HRT.out hz hl HD.out)
  clear hd hz hD hl hT hg hS
  obtain ⟨ec, hec⟩ : ∃ x, frC r l day = x := ⟨_, rfl⟩
  have HEC := hide hec
  clear hec
  go_enter Tryd.func48, Tryd.ntmps48
  go_upto_region 1 with fail
  generalize w.alloc (.cells #[.slice d.A r.n d.c, .int .i64 r.last, .int .i64 r.toil] 24) = w1 at HB1 G1 HO HD HRT ⊢
  generalize w.heap.size = G at G1 ⊢
  obtain ⟨g9, g0, g1, g2, -⟩ := blk3 G1.out
  go_wp2_with fail
  refine HO.out.mono ?_
  rintro e w2 ⟨⟨hc, v, ⟨mD, mday, mde⟩, rfl⟩ | ⟨hc, hb, b, ad, rfl, hB⟩, hbl⟩
  · have HBL := hide (HB1.out.trans (hbl.mono HB1.out.size))
    rw [HEC.out] at hc ⊢
    have HCH := hide hc
    unfold momV
    dsimp only
    have hb4 : Below w2.heap.size w2 (w2.alloc (.cells #[.int .u16 (mD : Nat), .int .i64 mday, .int .i64 mde] 77)) := (Below.refl _ _).alloc (Nat.le_refl _) _
    replace HBL := hide (HBL.out.trans (hb4.mono HBL.out.size))
    have e1 : (ec == 0) = false := by rw [beq_eq_false_iff_ne]; exact HCH.out
    have e2 : (ec != 0) = true := by rw [bne, e1]; rfl
    clear hc hbl g9 g0 g1 g2 HO HD hb4
    go_wp2_with fail
    go_ret2
    exact ⟨.inl ⟨by rw [HEC.out]; exact HCH.out, by rw [HEC.out]; rfl⟩, HBL.out⟩
  · have HBL := hide (HB1.out.trans (hbl.mono HB1.out.size))
    have HCH := hide hc
    have HR := hide hb
    obtain ⟨mo, hmo⟩ : ∃ x, (folF r m0 l 0).1.on day = x := ⟨_, rfl⟩
    have HGG := hide (HG.out hb)
    rw [hmo] at HGG ⊢
    clear hmo HG
    obtain ⟨mD, mday, mde⟩ := mo
    unfold momV at HGG ⊢
    dsimp only at HGG ⊢
    have hb4 : Below w2.heap.size w2 (w2.alloc (.cells #[.int .u16 (mD : Nat), .int .i64 mday, .int .i64 mde] 77)) := (Below.refl _ _).alloc (Nat.le_refl _) _
    have Q3 := hide (Blk.new w2 77 #[.int .u16 (mD : Nat), .int .i64 mday, .int .i64 mde])
    replace HBL := hide (HBL.out.trans (hb4.mono HBL.out.size))
    have HC := hide (HGG.out _ b _ ((hB.ext hb4).book HRT.out) (HTB.out.ext HBL.out))
    clear hc hbl hb hB g9 g0 g1 g2 HO HD hb4 HGG
    go_upto_region 2 with fail
    generalize w2.alloc (.cells #[.int .u16 (mD : Nat), .int .i64 mday, .int .i64 mde] 77) = w4 at Q3 HBL HC ⊢
    generalize w2.heap.size = H at Q3 ⊢
    obtain ⟨a9, a0, a1, a2, -⟩ := blk3 Q3.out
    go_wp2_with fail
    refine HC.out.mono ?_
    rintro e w5 ⟨rfl, h5⟩
    replace HBL := hide (HBL.out.trans (h5.mono HBL.out.size))
    have HLI := hide (list_any S w5 HSS.out (HTB.out.ext HBL.out))
    clear h5
    go_wp2_with fail
    refine HLI.out.mono ?_
    rintro e w6 ⟨v, rfl, hv, h6⟩
    have HV := hide (OwnJ.low3 hv HBL.out.size)
    replace HBL := hide (HBL.out.trans (h6.mono HBL.out.size))
    clear h6 hv
    go_wp2_with fail
    go_ret2
    exact ⟨.inr ⟨HCH.out, HR.out, v, rfl, HV.out⟩, HBL.out⟩
theorem mo_dlt {r : Rit} (h : riB r = true) (l : List (Int × Int)) (day : Int) : ((folF r m0 l 0).1.on day).d < 65536 := by
  rw [on_d]
  exact fol_dlt (riB_ok h).n10 l m0 0 (by decide)
theorem neS_lt {r : Rit} (h : riB r = true) (m : Mom) : neS r m < 65536 := by
  have := (riB_ok h).n10
  exact lt16 (mkS_lt _ r.n) (by omega)
theorem foS_lt {r : Rit} (h : riB r = true) (s : Nat) (day : Int) : foS r s day < 65536 := by
  have := (riB_ok h).n10
  exact lt16 (mkS_lt _ r.n) (by omega)
theorem open_rite (d : Rad) (r : Rit) (A : Option Addr) (c : Nat) (l : List (Int × Int)) (day : Int) (w : World) (hd : RtR w d r) (hz : RtZ r) (hl : l.length ≤ 1000000) (hD : DsR w A l) (hT : TB w) :
    Calls Tryd.prog 20 #[.agg #[.slice d.A r.n d.c, .int .i64 r.last, .int .i64 r.toil], .slice A l.length c, .int .i64 day] w (AskPost w r l day (if riB r = true then neS r ((folF r m0 l 0).1.on day) else 0)) := by
  have HAS : Hid (∀ W, RtR W d r → DsR W A l → TB W → Calls Tryd.prog 48 #[.agg #[.slice d.A r.n d.c, .int .i64 r.last, .int .i64 r.toil], .slice A l.length c, .int .i64 day, .func (.func 49) #[] #[]] W (AskPost W r l day (if riB r = true then neS r ((folF r m0 l 0).1.on day) else 0))) := hide fun W h1 h2 h3 =>
    asked_any _ _ (by split; exact neS_lt (by assumption) _; decide) d r A c l day W h1 hz hl h2 h3 (fun _ _ => rfl) (fun hr W b q hB _ => by rw [if_pos hr]; exact next_any b d q r _ W (riB_ok hr) (mo_dlt hr l day) hB)
  have HB1 : Hid (Below w.heap.size w (w.alloc (.cells #[.slice d.A r.n d.c, .int .i64 r.last, .int .i64 r.toil] 24))) := hide ((Below.refl _ _).alloc (Nat.le_refl _) _)
  have G1 := hide (Blk.new w 24 #[.slice d.A r.n d.c, .int .i64 r.last, .int .i64 r.toil])
  have HRT := hide (hd.ext HB1.out)
  have HD := hide (hD.ext HB1.out)
  have HTB := hide (hT.ext HB1.out)
  have HO := hide (HAS.out _ HRT.out HD.out HTB.out)
  clear hd hz hD hl hT HAS
  obtain ⟨S, hS⟩ : ∃ x, (if riB r = true then neS r ((folF r m0 l 0).1.on day) else 0) = x := ⟨_, rfl⟩
  rw [hS] at HO ⊢
  clear hS
  obtain ⟨ec, hec⟩ : ∃ x, frC r l day = x := ⟨_, rfl⟩
  have HEC := hide hec
  clear hec
  go_enter Tryd.func20, Tryd.ntmps20
  go_upto_region 1 with fail
  generalize w.alloc (.cells #[.slice d.A r.n d.c, .int .i64 r.last, .int .i64 r.toil] 24) = w1 at HB1 G1 HO HD HRT HTB ⊢
  generalize w.heap.size = G at G1 ⊢
  obtain ⟨g9, g0, g1, g2, -⟩ := blk3 G1.out
  go_wp2_with fail
  refine HO.out.mono ?_
  rintro e w2 ⟨⟨hc, rfl⟩ | ⟨hc, hb, v, rfl, hv⟩, hbl⟩
  · have HBL := hide (HB1.out.trans (hbl.mono HB1.out.size))
    rw [HEC.out] at hc ⊢
    have HCH := hide hc
    clear hc hbl g9 g0 g1 g2 HO HD
    go_wp2_with fail
    go_ret2
    exact ⟨.inl ⟨by rw [HEC.out]; exact HCH.out, by rw [HEC.out]; rfl⟩, HBL.out⟩
  · have HBL := hide (HB1.out.trans (hbl.mono HB1.out.size))
    have HV := hide (And.intro hc (And.intro hb (OwnJ.low3 hv HB1.out.size)))
    clear hc hb hv hbl g9 g0 g1 g2 HO HD
    go_wp2_with fail
    go_ret2
    exact ⟨.inr ⟨HV.out.1, HV.out.2.1, v, rfl, HV.out.2.2⟩, HBL.out⟩
theorem forg1_any (b : Nat) (d : Rad) (q : Bad) (r : Rit) (m : Mom) (w : World) (hr : RiOk r) (hm : m.d < 65536) (hB : BkR w b d q r) :
    Calls Tryd.prog 50 #[.pointer (some ⟨b, 0, none⟩), momV m] w fun e w' => e = .returned (.int .u16 (foS r m.d m.day : Nat)) ∧ Below w.heap.size w w' := by
  obtain ⟨mD, mday, mde⟩ := m
  unfold momV
  dsimp only at hm ⊢
  have HB1 : Hid (Below w.heap.size w (w.alloc (.cells #[.int .u16 (mD : Nat), .int .i64 mday, .int .i64 mde] 77))) := hide ((Below.refl _ _).alloc (Nat.le_refl _) _)
  have Q1 := hide (Blk.new w 77 #[.int .u16 (mD : Nat), .int .i64 mday, .int .i64 mde])
  have HF := hide (forgotten_any b d q r mD mday _ hr hm (hB.ext HB1.out))
  clear hr hB hm
  go_enter Tryd.func50, Tryd.ntmps50
  go_upto_region 1 with fail
  generalize w.alloc (.cells #[.int .u16 (mD : Nat), .int .i64 mday, .int .i64 mde] 77) = w1 at HB1 Q1 HF ⊢
  generalize w.heap.size = G at Q1 ⊢
  obtain ⟨g9, g0, g1, g2, -⟩ := blk3 Q1.out
  go_wp2_with fail
  refine HF.out.mono ?_
  rintro e w2 ⟨rfl, h2⟩
  have HBL := hide (HB1.out.trans (h2.mono HB1.out.size))
  clear h2 g9 g0 g1 g2
  go_wp2_with fail
  go_ret
  exact ⟨rfl, HBL.out⟩
theorem forgotten_rite (d : Rad) (r : Rit) (A : Option Addr) (c : Nat) (l : List (Int × Int)) (day : Int) (w : World) (hd : RtR w d r) (hz : RtZ r) (hl : l.length ≤ 1000000) (hD : DsR w A l) (hT : TB w) :
    Calls Tryd.prog 21 #[.agg #[.slice d.A r.n d.c, .int .i64 r.last, .int .i64 r.toil], .slice A l.length c, .int .i64 day] w (AskPost w r l day (if riB r = true then foS r ((folF r m0 l 0).1.on day).d ((folF r m0 l 0).1.on day).day else 0)) := by
  have HAS : Hid (∀ W, RtR W d r → DsR W A l → TB W → Calls Tryd.prog 48 #[.agg #[.slice d.A r.n d.c, .int .i64 r.last, .int .i64 r.toil], .slice A l.length c, .int .i64 day, .func (.func 50) #[] #[]] W (AskPost W r l day (if riB r = true then foS r ((folF r m0 l 0).1.on day).d ((folF r m0 l 0).1.on day).day else 0))) := hide fun W h1 h2 h3 =>
    asked_any _ _ (by split; exact foS_lt (by assumption) _ _; decide) d r A c l day W h1 hz hl h2 h3 (fun _ _ => rfl) (fun hr W b q hB _ => by rw [if_pos hr]; exact forg1_any b d q r _ W (riB_ok hr) (mo_dlt hr l day) hB)
  have HB1 : Hid (Below w.heap.size w (w.alloc (.cells #[.slice d.A r.n d.c, .int .i64 r.last, .int .i64 r.toil] 24))) := hide ((Below.refl _ _).alloc (Nat.le_refl _) _)
  have G1 := hide (Blk.new w 24 #[.slice d.A r.n d.c, .int .i64 r.last, .int .i64 r.toil])
  have HRT := hide (hd.ext HB1.out)
  have HD := hide (hD.ext HB1.out)
  have HTB := hide (hT.ext HB1.out)
  have HO := hide (HAS.out _ HRT.out HD.out HTB.out)
  clear hd hz hD hl hT HAS
  obtain ⟨S, hS⟩ : ∃ x, (if riB r = true then foS r ((folF r m0 l 0).1.on day).d ((folF r m0 l 0).1.on day).day else 0) = x := ⟨_, rfl⟩
  rw [hS] at HO ⊢
  clear hS
  obtain ⟨ec, hec⟩ : ∃ x, frC r l day = x := ⟨_, rfl⟩
  have HEC := hide hec
  clear hec
  go_enter Tryd.func21, Tryd.ntmps21
  go_upto_region 1 with fail
  generalize w.alloc (.cells #[.slice d.A r.n d.c, .int .i64 r.last, .int .i64 r.toil] 24) = w1 at HB1 G1 HO HD HRT HTB ⊢
  generalize w.heap.size = G at G1 ⊢
  obtain ⟨g9, g0, g1, g2, -⟩ := blk3 G1.out
  go_wp2_with fail
  refine HO.out.mono ?_
  rintro e w2 ⟨⟨hc, rfl⟩ | ⟨hc, hb, v, rfl, hv⟩, hbl⟩
  · have HBL := hide (HB1.out.trans (hbl.mono HB1.out.size))
    rw [HEC.out] at hc ⊢
    have HCH := hide hc
    clear hc hbl g9 g0 g1 g2 HO HD
    go_wp2_with fail
    go_ret2
    exact ⟨.inl ⟨by rw [HEC.out]; exact HCH.out, by rw [HEC.out]; rfl⟩, HBL.out⟩
  · have HBL := hide (HB1.out.trans (hbl.mono HB1.out.size))
    have HV := hide (And.intro hc (And.intro hb (OwnJ.low3 hv HB1.out.size)))
    clear hc hb hv hbl g9 g0 g1 g2 HO HD
    go_wp2_with fail
    go_ret2
    exact ⟨.inr ⟨HV.out.1, HV.out.2.1, v, rfl, HV.out.2.2⟩, HBL.out⟩
end Go.Proofs.YtcgdalabenflmaaDoor
/- Rite: the law's helpers: same lists of deeds; a list has a number. -/
namespace Go.Proofs.YtcgdalabenflmaaDoor
open List renaming getElem_toArray → glA, getElem_cons_zero → glB, getElem_cons_succ → glC, setIfInBounds_toArray → glD, set_cons_zero → glE, set_cons_succ → glF
open Go Go.RowKit Go.Shelf
set_option maxHeartbeats 8000000
set_option maxRecDepth 100000
theorem has_cont {l : List Int} {x : Int} {k : Nat} (hk : k < l.length) (h : l.getD k 0 = x) : l.contains x = true := by
  refine List.contains_iff_mem.2 ?_
  rw [← h, List.getD_eq_getElem?_getD, List.getElem?_eq_getElem hk]
  exact List.getElem_mem hk
theorem has_not {l : List Int} {x : Int} (h : ∀ t, t < l.length → l.getD t 0 ≠ x) : l.contains x = false := by
  rw [← Bool.not_eq_true, List.contains_iff_mem]
  intro hm
  obtain ⟨i, hi, he⟩ := List.getElem_of_mem hm
  refine h i hi ?_
  rw [List.getD_eq_getElem?_getD, List.getElem?_eq_getElem hi]
  exact he
theorem hasl_any (A : Option Addr) (c : Nat) (l : List Int) (x : Int) (w : World) (hl : l.length ≤ 1000000) (hA : LI w w.heap.size A l) :
    Calls Tryd.prog 35 #[.slice A l.length c, .int .i64 x] w fun e w' => e = .returned (.bool (l.contains x)) ∧ w = w' := by
  have HA := hide hA
  obtain ⟨n, hn⟩ : ∃ n, l.length = n := ⟨_, rfl⟩
  have HN := hide hn
  rw [hn] at hl
  rw [hn]
  obtain ⟨R, hR⟩ : ∃ R, l.contains x = R := ⟨_, rfl⟩
  have HR := hide hR
  rw [hR]
  clear hA hn hR
  go_enter Tryd.func35, Tryd.ntmps35
  go_wp2_with fail
  go_loopw [5] (fun i wr => ∃ k : Nat, k ≤ n ∧ i = .int .i64 k ∧ Hid (∀ t, t < k → l.getD t 0 ≠ x) ∧ Hid (w = wr)) (fun i _ => n - (intOf i).toNat)
  case atStart => exact ⟨0, Nat.zero_le _, rfl, hide (fun t ht => absurd ht (by omega)), hide rfl⟩
  case round =>
    obtain ⟨k, hk, rfl, HK, HW⟩ := hrel
    obtain rfl := HW.out
    have hst : IntKind.i64.wrap ((k : Int) + 1) = ((k + 1 : Nat) : Int) := by rw [IntWalk.i64_in _ (by omega)]; omega
    by_cases hlt : k < n
    · have hlt' : (k : Int) < (n : Int) := by omega
      have hkl : k < l.length := by rw [HN.out]; exact hlt
      obtain ⟨b, off, rfl, hb, hc⟩ := VR1.at_ HA.out hkl
      obtain ⟨y, hy⟩ : ∃ y, l.getD k 0 = y := ⟨_, rfl⟩
      replace hc : w.cell? ⟨b, off + k, none⟩ = some (.int .i64 y) := by rw [← hy]; exact hc
      have HY := hide hy
      clear hy
      by_cases hyx : y = x
      · have h1 : (y == x) = true := by rw [hyx]; exact beq_self_eq_true _
        have HRT : Hid (R = true) := hide (by rw [← HR.out]; exact has_cont hkl (by rw [HY.out, hyx]))
        clear hyx
        go_wp2_with fail
        go_ret
        exact ⟨by rw [HRT.out]; rfl, rfl⟩
      · have h1 : (y == x) = false := by rw [beq_eq_false_iff_ne]; exact hyx
        have HYX := hide hyx
        clear hyx
        go_wp2_with fail
        go_roundw
        case rel => exact ⟨k + 1, by omega, by go_num, hide (fun t ht => by
          by_cases e : t = k
          · rw [e, HY.out]; exact HYX.out
          · exact HK.out t (by omega)), by first | exact hide rfl | exact hide trivial⟩
        case measure => simp [intOf]; omega
    · obtain rfl : n = k := by omega
      have hnl : ¬ (n : Int) < (n : Int) := by omega
      have HRF : Hid (R = false) := hide (by rw [← HR.out]; exact has_not (by rw [HN.out]; exact HK.out))
      go_wp2_with fail
      go_ret
      exact ⟨by rw [HRF.out]; rfl, rfl⟩
theorem same_yes {l m : List (Int × Int)} (hl : l.length = m.length) (h : ∀ t, t < l.length → l.getD t (0, 0) = m.getD t (0, 0)) : l = m := by
  apply List.ext_getElem hl
  intro k h1 h2
  have := h k h1
  rwa [List.getD_eq_getElem?_getD, List.getD_eq_getElem?_getD, List.getElem?_eq_getElem h1, List.getElem?_eq_getElem h2] at this
theorem same_any (A A' : Option Addr) (c c' : Nat) (l m : List (Int × Int)) (w : World) (hl : l.length ≤ 1000000) (hm : m.length ≤ 1000000) (hA : DsR w A l) (hB : DsR w A' m) :
    Calls Tryd.prog 19 #[.slice A l.length c, .slice A' m.length c'] w fun e w' => e = .returned (.bool (decide (l = m))) ∧ Below w.heap.size w w' := by
  have HA := hide hA
  have HB := hide hB
  obtain ⟨n, hn⟩ : ∃ n, l.length = n := ⟨_, rfl⟩
  obtain ⟨n', hn'⟩ : ∃ n, m.length = n := ⟨_, rfl⟩
  have HN := hide (And.intro hn hn')
  rw [hn] at hl
  rw [hn'] at hm
  rw [hn, hn']
  obtain ⟨R, hR⟩ : ∃ R, decide (l = m) = R := ⟨_, rfl⟩
  have HR := hide hR
  rw [hR]
  clear hA hB hn hn' hR
  go_enter Tryd.func19, Tryd.ntmps19
  by_cases hnn : n = n'
  · subst hnn
    go_wp2_with fail
    go_loopw [5] (fun i wr => ∃ k : Nat, k ≤ n ∧ i = .int .i64 k ∧ Hid (∀ t, t < k → l.getD t (0, 0) = m.getD t (0, 0)) ∧ Hid (Below w.heap.size w wr)) (fun i _ => n - (intOf i).toNat)
    case atStart => exact ⟨0, Nat.zero_le _, rfl, hide (fun t ht => absurd ht (by omega)), hide (Below.refl _ _)⟩
    case round =>
      obtain ⟨k, hk, rfl, HK, HW⟩ := hrel
      have hst : IntKind.i64.wrap ((k : Int) + 1) = ((k + 1 : Nat) : Int) := by rw [IntWalk.i64_in _ (by omega)]; omega
      by_cases hlt : k < n
      · have hlt' : (k : Int) < (n : Int) := by omega
        obtain ⟨⟨a1, a2⟩, hx⟩ : ∃ x, l.getD k (0, 0) = x := ⟨_, rfl⟩
        obtain ⟨⟨b1, b2⟩, hy⟩ : ∃ x, m.getD k (0, 0) = x := ⟨_, rfl⟩
        obtain ⟨b, off, rfl, hb, p1, p2⟩ := (HA.out.ext HW.out).at_ (show k < l.length by rw [HN.out.1]; exact hlt) hx
        obtain ⟨b', off', rfl, hb', q1, q2⟩ := (HB.out.ext HW.out).at_ (show k < m.length by rw [HN.out.2]; exact hlt) hy
        dsimp only at p1 p2 q1 q2
        have HX := hide (And.intro hx hy)
        have HS6 : Hid (∀ W, Below wr.heap.size wr W → ((W.cell? ⟨b, off + k * 2, none⟩ = some (.int .i64 a1) ∧ W.cell? ⟨b, off + k * 2 + 1, none⟩ = some (.int .i64 a2)) ∧ W.cell? ⟨b', off' + k * 2, none⟩ = some (.int .i64 b1) ∧ W.cell? ⟨b', off' + k * 2 + 1, none⟩ = some (.int .i64 b2))) := hide fun W h => ⟨⟨(h.cell (p := ⟨b, off + k * 2, none⟩) hb).trans p1, (h.cell (p := ⟨b, off + k * 2 + 1, none⟩) hb).trans p2⟩, (h.cell (p := ⟨b', off' + k * 2, none⟩) hb').trans q1, (h.cell (p := ⟨b', off' + k * 2 + 1, none⟩) hb').trans q2⟩
        clear hx hy p1 p2 q1 q2 hb hb'
        go_upto_region 6 with fail
        have Bd := hide (Below.refl wr.heap.size wr).drew
        replace HW := hide (HW.out.trans (Bd.out.mono HW.out.size))
        refine wp_region_J (fun W : World => ((W.cell? ⟨b, off + k * 2, none⟩ = some (.int .i64 a1) ∧ W.cell? ⟨b, off + k * 2 + 1, none⟩ = some (.int .i64 a2)) ∧ W.cell? ⟨b', off' + k * 2, none⟩ = some (.int .i64 b1) ∧ W.cell? ⟨b', off' + k * 2 + 1, none⟩ = some (.int .i64 b2))) (by kernel_rfl) ?_
        generalize wr.drew = wd at Bd HW ⊢
        by_cases e1 : a1 = b1
        · have f1 : (a1 == b1) = true := by rw [e1]; exact beq_self_eq_true _
          by_cases e2 : a2 = b2
          · have f2 : (a2 == b2) = true := by rw [e2]; exact beq_self_eq_true _
            have HE : Hid (l.getD k (0, 0) = m.getD k (0, 0)) := hide (by rw [HX.out.1, HX.out.2, e1, e2])
            clear e1 e2
            refine wpAnyJ_take 0 (v := ?_) (by first | exact hF | exact wideFn) (HS6.out _ Bd.out) rfl (by kernel_rfl) (by kernel_rfl) (by kernel_rfl) (by kernel_rfl) rfl ?_ (by first | exact fun _ _ _ h => h | exact fun _ _ _ h => hQ2 _ _ _ _ _ h) ?_
            rotate_left
            · intro W hSW
              simp only [glA, glB, glC]
              (try dsimp only at hSW)
              go_simp
              with_reducible rfl
            (try simp only [glA, glB, glC, Act.put, glD, glE, glF])
            refine wpAnyJ_take 1 (v := ?_) (by first | exact hF | exact wideFn) (HS6.out _ Bd.out) rfl (by kernel_rfl) (by kernel_rfl) (by kernel_rfl) (by kernel_rfl) rfl ?_ (by first | exact fun _ _ _ h => h | exact fun _ _ _ h => hQ2 _ _ _ _ _ h) ?_
            rotate_left
            · intro W hSW
              simp only [glA, glB, glC]
              (try dsimp only at hSW)
              go_simp
              with_reducible rfl
            (try simp only [glA, glB, glC, Act.put, glD, glE, glF])
            refine wpAnyJ_take 2 (v := ?_) (by first | exact hF | exact wideFn) (HS6.out _ Bd.out) rfl (by kernel_rfl) (by kernel_rfl) (by kernel_rfl) (by kernel_rfl) rfl ?_ (by first | exact fun _ _ _ h => h | exact fun _ _ _ h => hQ2 _ _ _ _ _ h) ?_
            rotate_left
            · intro W hSW
              simp only [glA, glB, glC]
              (try dsimp only at hSW)
              go_simp
              with_reducible rfl
            (try simp only [glA, glB, glC, Act.put, glD, glE, glF])
            refine wpAnyJ_take 3 (v := ?_) (by first | exact hF | exact wideFn) (HS6.out _ Bd.out) rfl (by kernel_rfl) (by kernel_rfl) (by kernel_rfl) (by kernel_rfl) rfl ?_ (by first | exact fun _ _ _ h => h | exact fun _ _ _ h => hQ2 _ _ _ _ _ h) ?_
            rotate_left
            · intro W hSW
              simp only [glA, glB, glC]
              (try dsimp only at hSW)
              go_simp
              with_reducible rfl
            (try simp only [glA, glB, glC, Act.put, glD, glE, glF])
            refine wpAnyJ_take 4 (v := ?_) (by first | exact hF | exact wideFn) (HS6.out _ Bd.out) rfl (by kernel_rfl) (by kernel_rfl) (by kernel_rfl) (by kernel_rfl) rfl ?_ (by first | exact fun _ _ _ h => h | exact fun _ _ _ h => hQ2 _ _ _ _ _ h) ?_
            rotate_left
            · intro W hSW
              simp only [glA, glB, glC]
              (try dsimp only at hSW)
              go_simp
              with_reducible rfl
            (try simp only [glA, glB, glC, Act.put, glD, glE, glF])
            refine wpAnyJ_take 5 (v := ?_) (by first | exact hF | exact wideFn) (HS6.out _ Bd.out) rfl (by kernel_rfl) (by kernel_rfl) (by kernel_rfl) (by kernel_rfl) rfl ?_ (by first | exact fun _ _ _ h => h | exact fun _ _ _ h => hQ2 _ _ _ _ _ h) ?_
            rotate_left
            · intro W hSW
              simp only [glA, glB, glC]
              (try dsimp only at hSW)
              go_simp
              with_reducible rfl
            (try simp only [glA, glB, glC, Act.put, glD, glE, glF])
            refine wpAnyJ_take 6 (v := ?_) (by first | exact hF | exact wideFn) (HS6.out _ Bd.out) rfl (by kernel_rfl) (by kernel_rfl) (by kernel_rfl) (by kernel_rfl) rfl ?_ (by first | exact fun _ _ _ h => h | exact fun _ _ _ h => hQ2 _ _ _ _ _ h) ?_
            rotate_left
            · intro W hSW
              simp only [glA, glB, glC]
              (try dsimp only at hSW)
              go_simp
              with_reducible rfl
            (try simp only [glA, glB, glC, Act.put, glD, glE, glF])
            refine wpAnyJ_take 7 (v := ?_) (by first | exact hF | exact wideFn) (HS6.out _ Bd.out) rfl (by kernel_rfl) (by kernel_rfl) (by kernel_rfl) (by kernel_rfl) rfl ?_ (by first | exact fun _ _ _ h => h | exact fun _ _ _ h => hQ2 _ _ _ _ _ h) ?_
            rotate_left
            · intro W hSW
              simp only [glA, glB, glC]
              (try dsimp only at hSW)
              go_simp
              with_reducible rfl
            (try simp only [glA, glB, glC, Act.put, glD, glE, glF])
            refine wpAnyJ_take 8 (v := ?_) (by first | exact hF | exact wideFn) (HS6.out _ Bd.out) rfl (by kernel_rfl) (by kernel_rfl) (by kernel_rfl) (by kernel_rfl) rfl ?_ (by first | exact fun _ _ _ h => h | exact fun _ _ _ h => hQ2 _ _ _ _ _ h) ?_
            rotate_left
            · intro W hSW
              simp only [glA, glB, glC]
              (try dsimp only at hSW)
              go_simp
              with_reducible rfl
            (try simp only [glA, glB, glC, Act.put, glD, glE, glF])
            refine wpAnyJ_done (by kernel_rfl) ?_
            go_wp2_with fail
            go_roundw
            case rel => exact ⟨k + 1, by omega, by go_num, hide (fun t ht => by
              by_cases e : t = k
              · rw [e]; exact HE.out
              · exact HK.out t (by omega)), HW⟩
            case measure => simp [intOf]; omega
          · have f2 : (a2 == b2) = false := by rw [beq_eq_false_iff_ne]; exact e2
            have HE : Hid (R = false) := hide (by
              rw [← HR.out]
              refine decide_eq_false (fun h => e2 ?_)
              have h1 := HX.out.1
              rw [h, HX.out.2] at h1
              injection h1 with h1 h2
              exact h2.symm)
            clear e1 e2
            refine wpAnyJ_take 0 (v := ?_) (by first | exact hF | exact wideFn) (HS6.out _ Bd.out) rfl (by kernel_rfl) (by kernel_rfl) (by kernel_rfl) (by kernel_rfl) rfl ?_ (by first | exact fun _ _ _ h => h | exact fun _ _ _ h => hQ2 _ _ _ _ _ h) ?_
            rotate_left
            · intro W hSW
              simp only [glA, glB, glC]
              (try dsimp only at hSW)
              go_simp
              with_reducible rfl
            (try simp only [glA, glB, glC, Act.put, glD, glE, glF])
            refine wpAnyJ_take 1 (v := ?_) (by first | exact hF | exact wideFn) (HS6.out _ Bd.out) rfl (by kernel_rfl) (by kernel_rfl) (by kernel_rfl) (by kernel_rfl) rfl ?_ (by first | exact fun _ _ _ h => h | exact fun _ _ _ h => hQ2 _ _ _ _ _ h) ?_
            rotate_left
            · intro W hSW
              simp only [glA, glB, glC]
              (try dsimp only at hSW)
              go_simp
              with_reducible rfl
            (try simp only [glA, glB, glC, Act.put, glD, glE, glF])
            refine wpAnyJ_take 2 (v := ?_) (by first | exact hF | exact wideFn) (HS6.out _ Bd.out) rfl (by kernel_rfl) (by kernel_rfl) (by kernel_rfl) (by kernel_rfl) rfl ?_ (by first | exact fun _ _ _ h => h | exact fun _ _ _ h => hQ2 _ _ _ _ _ h) ?_
            rotate_left
            · intro W hSW
              simp only [glA, glB, glC]
              (try dsimp only at hSW)
              go_simp
              with_reducible rfl
            (try simp only [glA, glB, glC, Act.put, glD, glE, glF])
            refine wpAnyJ_take 3 (v := ?_) (by first | exact hF | exact wideFn) (HS6.out _ Bd.out) rfl (by kernel_rfl) (by kernel_rfl) (by kernel_rfl) (by kernel_rfl) rfl ?_ (by first | exact fun _ _ _ h => h | exact fun _ _ _ h => hQ2 _ _ _ _ _ h) ?_
            rotate_left
            · intro W hSW
              simp only [glA, glB, glC]
              (try dsimp only at hSW)
              go_simp
              with_reducible rfl
            (try simp only [glA, glB, glC, Act.put, glD, glE, glF])
            refine wpAnyJ_take 4 (v := ?_) (by first | exact hF | exact wideFn) (HS6.out _ Bd.out) rfl (by kernel_rfl) (by kernel_rfl) (by kernel_rfl) (by kernel_rfl) rfl ?_ (by first | exact fun _ _ _ h => h | exact fun _ _ _ h => hQ2 _ _ _ _ _ h) ?_
            rotate_left
            · intro W hSW
              simp only [glA, glB, glC]
              (try dsimp only at hSW)
              go_simp
              with_reducible rfl
            (try simp only [glA, glB, glC, Act.put, glD, glE, glF])
            refine wpAnyJ_take 5 (v := ?_) (by first | exact hF | exact wideFn) (HS6.out _ Bd.out) rfl (by kernel_rfl) (by kernel_rfl) (by kernel_rfl) (by kernel_rfl) rfl ?_ (by first | exact fun _ _ _ h => h | exact fun _ _ _ h => hQ2 _ _ _ _ _ h) ?_
            rotate_left
            · intro W hSW
              simp only [glA, glB, glC]
              (try dsimp only at hSW)
              go_simp
              with_reducible rfl
            (try simp only [glA, glB, glC, Act.put, glD, glE, glF])
            refine wpAnyJ_take 6 (v := ?_) (by first | exact hF | exact wideFn) (HS6.out _ Bd.out) rfl (by kernel_rfl) (by kernel_rfl) (by kernel_rfl) (by kernel_rfl) rfl ?_ (by first | exact fun _ _ _ h => h | exact fun _ _ _ h => hQ2 _ _ _ _ _ h) ?_
            rotate_left
            · intro W hSW
              simp only [glA, glB, glC]
              (try dsimp only at hSW)
              go_simp
              with_reducible rfl
            (try simp only [glA, glB, glC, Act.put, glD, glE, glF])
            refine wpAnyJ_take 7 (v := ?_) (by first | exact hF | exact wideFn) (HS6.out _ Bd.out) rfl (by kernel_rfl) (by kernel_rfl) (by kernel_rfl) (by kernel_rfl) rfl ?_ (by first | exact fun _ _ _ h => h | exact fun _ _ _ h => hQ2 _ _ _ _ _ h) ?_
            rotate_left
            · intro W hSW
              simp only [glA, glB, glC]
              (try dsimp only at hSW)
              go_simp
              with_reducible rfl
            (try simp only [glA, glB, glC, Act.put, glD, glE, glF])
            refine wpAnyJ_take 8 (v := ?_) (by first | exact hF | exact wideFn) (HS6.out _ Bd.out) rfl (by kernel_rfl) (by kernel_rfl) (by kernel_rfl) (by kernel_rfl) rfl ?_ (by first | exact fun _ _ _ h => h | exact fun _ _ _ h => hQ2 _ _ _ _ _ h) ?_
            rotate_left
            · intro W hSW
              simp only [glA, glB, glC]
              (try dsimp only at hSW)
              go_simp
              with_reducible rfl
            (try simp only [glA, glB, glC, Act.put, glD, glE, glF])
            refine wpAnyJ_done (by kernel_rfl) ?_
            go_wp2_with fail
            go_ret
            exact ⟨by rw [HE.out]; rfl, HW.out⟩
        · have f1 : (a1 == b1) = false := by rw [beq_eq_false_iff_ne]; exact e1
          have HE : Hid (R = false) := hide (by
            rw [← HR.out]
            refine decide_eq_false (fun h => e1 ?_)
            have h1 := HX.out.1
            rw [h, HX.out.2] at h1
            injection h1 with h1 h2
            exact h1.symm)
          clear e1
          refine wpAnyJ_take 0 (v := ?_) (by first | exact hF | exact wideFn) (HS6.out _ Bd.out) rfl (by kernel_rfl) (by kernel_rfl) (by kernel_rfl) (by kernel_rfl) rfl ?_ (by first | exact fun _ _ _ h => h | exact fun _ _ _ h => hQ2 _ _ _ _ _ h) ?_
          rotate_left
          · intro W hSW
            simp only [glA, glB, glC]
            (try dsimp only at hSW)
            go_simp
            with_reducible rfl
          (try simp only [glA, glB, glC, Act.put, glD, glE, glF])
          refine wpAnyJ_take 1 (v := ?_) (by first | exact hF | exact wideFn) (HS6.out _ Bd.out) rfl (by kernel_rfl) (by kernel_rfl) (by kernel_rfl) (by kernel_rfl) rfl ?_ (by first | exact fun _ _ _ h => h | exact fun _ _ _ h => hQ2 _ _ _ _ _ h) ?_
          rotate_left
          · intro W hSW
            simp only [glA, glB, glC]
            (try dsimp only at hSW)
            go_simp
            with_reducible rfl
          (try simp only [glA, glB, glC, Act.put, glD, glE, glF])
          refine wpAnyJ_take 2 (v := ?_) (by first | exact hF | exact wideFn) (HS6.out _ Bd.out) rfl (by kernel_rfl) (by kernel_rfl) (by kernel_rfl) (by kernel_rfl) rfl ?_ (by first | exact fun _ _ _ h => h | exact fun _ _ _ h => hQ2 _ _ _ _ _ h) ?_
          rotate_left
          · intro W hSW
            simp only [glA, glB, glC]
            (try dsimp only at hSW)
            go_simp
            with_reducible rfl
          (try simp only [glA, glB, glC, Act.put, glD, glE, glF])
          refine wpAnyJ_take 3 (v := ?_) (by first | exact hF | exact wideFn) (HS6.out _ Bd.out) rfl (by kernel_rfl) (by kernel_rfl) (by kernel_rfl) (by kernel_rfl) rfl ?_ (by first | exact fun _ _ _ h => h | exact fun _ _ _ h => hQ2 _ _ _ _ _ h) ?_
          rotate_left
          · intro W hSW
            simp only [glA, glB, glC]
            (try dsimp only at hSW)
            go_simp
            with_reducible rfl
          (try simp only [glA, glB, glC, Act.put, glD, glE, glF])
          refine wpAnyJ_take 4 (v := ?_) (by first | exact hF | exact wideFn) (HS6.out _ Bd.out) rfl (by kernel_rfl) (by kernel_rfl) (by kernel_rfl) (by kernel_rfl) rfl ?_ (by first | exact fun _ _ _ h => h | exact fun _ _ _ h => hQ2 _ _ _ _ _ h) ?_
          rotate_left
          · intro W hSW
            simp only [glA, glB, glC]
            (try dsimp only at hSW)
            go_simp
            with_reducible rfl
          (try simp only [glA, glB, glC, Act.put, glD, glE, glF])
          refine wpAnyJ_take 5 (v := ?_) (by first | exact hF | exact wideFn) (HS6.out _ Bd.out) rfl (by kernel_rfl) (by kernel_rfl) (by kernel_rfl) (by kernel_rfl) rfl ?_ (by first | exact fun _ _ _ h => h | exact fun _ _ _ h => hQ2 _ _ _ _ _ h) ?_
          rotate_left
          · intro W hSW
            simp only [glA, glB, glC]
            (try dsimp only at hSW)
            go_simp
            with_reducible rfl
          (try simp only [glA, glB, glC, Act.put, glD, glE, glF])
          refine wpAnyJ_take 6 (v := ?_) (by first | exact hF | exact wideFn) (HS6.out _ Bd.out) rfl (by kernel_rfl) (by kernel_rfl) (by kernel_rfl) (by kernel_rfl) rfl ?_ (by first | exact fun _ _ _ h => h | exact fun _ _ _ h => hQ2 _ _ _ _ _ h) ?_
          rotate_left
          · intro W hSW
            simp only [glA, glB, glC]
            (try dsimp only at hSW)
            go_simp
            with_reducible rfl
          (try simp only [glA, glB, glC, Act.put, glD, glE, glF])
          refine wpAnyJ_take 7 (v := ?_) (by first | exact hF | exact wideFn) (HS6.out _ Bd.out) rfl (by kernel_rfl) (by kernel_rfl) (by kernel_rfl) (by kernel_rfl) rfl ?_ (by first | exact fun _ _ _ h => h | exact fun _ _ _ h => hQ2 _ _ _ _ _ h) ?_
          rotate_left
          · intro W hSW
            simp only [glA, glB, glC]
            (try dsimp only at hSW)
            go_simp
            with_reducible rfl
          (try simp only [glA, glB, glC, Act.put, glD, glE, glF])
          refine wpAnyJ_take 8 (v := ?_) (by first | exact hF | exact wideFn) (HS6.out _ Bd.out) rfl (by kernel_rfl) (by kernel_rfl) (by kernel_rfl) (by kernel_rfl) rfl ?_ (by first | exact fun _ _ _ h => h | exact fun _ _ _ h => hQ2 _ _ _ _ _ h) ?_
          rotate_left
          · intro W hSW
            simp only [glA, glB, glC]
            (try dsimp only at hSW)
            go_simp
            with_reducible rfl
          (try simp only [glA, glB, glC, Act.put, glD, glE, glF])
          refine wpAnyJ_done (by kernel_rfl) ?_
          go_wp2_with fail
          go_ret
          exact ⟨by rw [HE.out]; rfl, HW.out⟩
      · obtain rfl : n = k := by omega
        have hnl : ¬ (n : Int) < (n : Int) := by omega
        have HE : Hid (R = true) := hide (by
          rw [← HR.out]
          exact decide_eq_true (same_yes (by rw [HN.out.1, HN.out.2]) (by rw [HN.out.1]; exact HK.out)))
        go_wp2_with fail
        go_ret
        exact ⟨by rw [HE.out]; rfl, HW.out⟩
  · have hni : ¬ (n : Int) = (n' : Int) := by omega
    have HE : Hid (R = false) := hide (by
      rw [← HR.out]
      refine decide_eq_false (fun h => hnn ?_)
      rw [← HN.out.1, ← HN.out.2, h])
    clear hnn
    go_wp2_with fail
    go_ret
    exact ⟨by rw [HE.out]; rfl, Below.refl _ _⟩
end Go.Proofs.YtcgdalabenflmaaDoor
/- Rite: the law's helper: whether what is asked is long. -/
namespace Go.Proofs.YtcgdalabenflmaaDoor
open Go Go.RowKit Go.Shelf
set_option maxHeartbeats 8000000
set_option maxRecDepth 100000
def loA (r : Rit) (k : Nat) : Bool := decide (20 < (r.ac k).nm.size) || decide (12 < (r.ac k).nd.length) || decide (12 < (r.ac k).ins.length)
def loF (r : Rit) (l : List (Int × Int)) : Bool := (List.range (min r.n 13)).any (loA r) || (decide (12 < r.n) || decide (20 < l.length))
theorem lo_yes {r : Rit} {l : List (Int × Int)} {k : Nat} (h1 : k < r.n) (h2 : k < 13) (h : loA r k = true) : loF r l = true := by
  unfold loF
  rw [List.any_eq_true.2 ⟨k, List.mem_range.2 (by omega), h⟩, Bool.true_or]
theorem lo_no {r : Rit} {l : List (Int × Int)} (h : ∀ t, t < min r.n 13 → loA r t = false) : loF r l = (decide (12 < r.n) || decide (20 < l.length)) := by
  unfold loF
  rw [show (List.range (min r.n 13)).any (loA r) = false from List.any_eq_false.2 fun t ht => by rw [h t (List.mem_range.1 ht)]; decide, Bool.false_or]
theorem long_any (d : Rad) (r : Rit) (A : Option Addr) (c : Nat) (l : List (Int × Int)) (w : World) (hd : RtR w d r) :
    Calls Tryd.prog 9 #[.agg #[.slice d.A r.n d.c, .int .i64 r.last, .int .i64 r.toil], .slice A l.length c] w fun e w' => e = .returned (.bool (loF r l)) ∧ Below w.heap.size w w' := by
  obtain ⟨n, hn⟩ : ∃ n, r.n = n := ⟨_, rfl⟩
  obtain ⟨la, hla⟩ : ∃ n, r.last = n := ⟨_, rfl⟩
  obtain ⟨tl, htl⟩ : ∃ n, r.toil = n := ⟨_, rfl⟩
  obtain ⟨ll, hll⟩ : ∃ n, l.length = n := ⟨_, rfl⟩
  obtain ⟨R, hR⟩ : ∃ R, loF r l = R := ⟨_, rfl⟩
  have HN := hide (And.intro hn hll)
  have HR := hide hR
  rw [hn, hla, htl, hll, hR]
  clear hn hla htl hll hR
  have HB1 : Hid (Below w.heap.size w (w.alloc (.cells #[.slice d.A n d.c, .int .i64 la, .int .i64 tl] 24))) := hide ((Below.refl _ _).alloc (Nat.le_refl _) _)
  have G1 := hide (Blk.new w 24 #[.slice d.A n d.c, .int .i64 la, .int .i64 tl])
  have HRT := hide (hd.ext HB1.out)
  clear hd
  go_enter Tryd.func9, Tryd.ntmps9
  go_upto_region 1 with fail
  generalize w.alloc (.cells #[.slice d.A n d.c, .int .i64 la, .int .i64 tl] 24) = w1 at HB1 G1 HRT ⊢
  generalize w.heap.size = G at G1 ⊢
  obtain ⟨g9, g0, g1, g2, -⟩ := blk3 G1.out
  go_wp2_with fail
  go_loopw [5] (fun i wr => ∃ k : Nat, k ≤ n ∧ k ≤ 13 ∧ i = .int .i64 k ∧ Hid (∀ t, t < k → loA r t = false) ∧ Hid (w1 = wr)) (fun i _ => n - (intOf i).toNat)
  case atStart => exact ⟨0, Nat.zero_le _, Nat.zero_le _, rfl, hide (fun t ht => absurd ht (by omega)), hide rfl⟩
  case round =>
    obtain ⟨k, hk, hk2, rfl, HK, HWW⟩ := hrel
    obtain rfl := HWW.out
    have hst : IntKind.i64.wrap ((k : Int) + 1) = ((k + 1 : Nat) : Int) := by rw [IntWalk.i64_in _ (by omega)]; omega
    by_cases hlt : k < n
    · have hlt' : (k : Int) < (n : Int) := by omega
      have hkn : k < r.n := by rw [HN.out.1]; exact hlt
      by_cases hk13 : k < 13
      · have hk13' : (k : Int) < 13 := by omega
        obtain ⟨a, ha⟩ : ∃ a, r.ac k = a := ⟨_, rfl⟩
        obtain ⟨nm, nd, ins, at_, fr, to_, ex⟩ := a
        have HA := hide ha
        obtain ⟨pb, po, hA, hpl, x0, x1, x2, -⟩ := HRT.out.at_ hkn ha
        dsimp only at x0 x1 x2
        rw [hA] at g0
        clear ha
        by_cases h1 : 20 < nm.size
        · have h1' : (nm.size : Int) > 20 := by omega
          rw [hA]
          have HE : Hid (R = true) := hide (by
            rw [← HR.out]
            refine lo_yes hkn hk13 ?_
            unfold loA
            rw [HA.out]
            rw [decide_eq_true h1]; rfl)
          go_wp2_with fail
          go_ret
          exact ⟨by rw [HE.out]; rfl, HB1.out⟩
        · have h1' : ¬ (nm.size : Int) > 20 := by omega
          by_cases h2 : 12 < nd.length
          · have h2' : (nd.length : Int) > 12 := by omega
            rw [hA]
            have HE : Hid (R = true) := hide (by
              rw [← HR.out]
              refine lo_yes hkn hk13 ?_
              unfold loA
              rw [HA.out]
              rw [decide_eq_true h2, Bool.or_true]; rfl)
            go_wp2_with fail
            go_ret
            exact ⟨by rw [HE.out]; rfl, HB1.out⟩
          · have h2' : ¬ (nd.length : Int) > 12 := by omega
            by_cases h3 : 12 < ins.length
            · have h3' : (ins.length : Int) > 12 := by omega
              rw [hA]
              have HE : Hid (R = true) := hide (by
                rw [← HR.out]
                refine lo_yes hkn hk13 ?_
                unfold loA
                rw [HA.out]
                rw [decide_eq_true h3, Bool.or_true])
              go_wp2_with fail
              go_ret
              exact ⟨by rw [HE.out]; rfl, HB1.out⟩
            · have h3' : ¬ (ins.length : Int) > 12 := by omega
              have HLA : Hid (loA r k = false) := hide (by
                unfold loA
                rw [HA.out, decide_eq_false h1, decide_eq_false h2, decide_eq_false h3]; rfl)
              rw [hA]
              go_wp2_with fail
              go_roundw
              case rel => exact ⟨k + 1, by omega, by omega, by go_num, hide (fun t ht => by
                by_cases e : t = k
                · rw [e]; exact HLA.out
                · exact HK.out t (by omega)), by first | exact hide rfl | exact hide trivial⟩
              case measure => simp [intOf]; omega
      · have hk13' : ¬ (k : Int) < 13 := by omega
        have hn12 : (n : Int) > 12 := by omega
        have HE : Hid (R = true) := hide (by
          rw [← HR.out]
          unfold loF
          rw [decide_eq_true (show 12 < r.n by rw [HN.out.1]; omega), Bool.true_or, Bool.or_true])
        go_wp2_with fail
        go_ret
        exact ⟨by rw [HE.out]; rfl, HB1.out⟩
    · obtain rfl : n = k := by omega
      have hnl : ¬ (n : Int) < (n : Int) := by omega
      have HLO := hide (lo_no (r := r) (l := l) (fun t ht => HK.out t (by rw [← HN.out.1]; omega)))
      by_cases h12 : 12 < n
      · have h12' : (n : Int) > 12 := by omega
        have HE : Hid (R = true) := hide (by
          rw [← HR.out, HLO.out, decide_eq_true (show 12 < r.n by rw [HN.out.1]; omega), Bool.true_or])
        go_wp2_with fail
        go_ret
        exact ⟨by rw [HE.out]; rfl, HB1.out⟩
      · have h12' : ¬ (n : Int) > 12 := by omega
        by_cases hl2 : 20 < ll
        · have hl2' : (ll : Int) > 20 := by omega
          have HE : Hid (R = true) := hide (by
            rw [← HR.out, HLO.out, decide_eq_true (show 20 < l.length by rw [HN.out.2]; omega), Bool.or_true])
          go_wp2_with fail
          go_ret
          exact ⟨by rw [HE.out]; rfl, HB1.out⟩
        · have hl2' : ¬ (ll : Int) > 20 := by omega
          have HE : Hid (R = false) := hide (by
            rw [← HR.out, HLO.out, decide_eq_false (show ¬ 12 < r.n by rw [HN.out.1]; omega), decide_eq_false (show ¬ 20 < l.length by rw [HN.out.2]; omega)]; rfl)
          go_wp2_with fail
          go_ret
          exact ⟨by rw [HE.out]; rfl, HB1.out⟩
end Go.Proofs.YtcgdalabenflmaaDoor
/- Rite: the law's helper: the fire rite. -/
namespace Go.Proofs.YtcgdalabenflmaaDoor
open Go Go.RowKit Go.Shelf
set_option maxHeartbeats 8000000
set_option maxRecDepth 100000
theorem built_act0 : Tryd.prog.built 58 [(0, .string ⟨#[107, 105, 110, 100, 108, 101]⟩), (5, .int .i64 2), (3, .int .i64 2)] = some #[.string ⟨#[107, 105, 110, 100, 108, 101]⟩, .slice none 0 0, .slice none 0 0, .int .i64 2, .int .i64 0, .int .i64 2, .bool false] := by kernel_rfl
theorem built_act1 (A : Option Addr) : Tryd.prog.built 58 [(0, .string ⟨#[111, 102, 102, 101, 114]⟩), (1, .slice A 1 1), (4, .int .i64 1), (5, .int .i64 3), (3, .int .i64 (-1))] = some #[.string ⟨#[111, 102, 102, 101, 114]⟩, .slice A 1 1, .slice none 0 0, .int .i64 (-1), .int .i64 1, .int .i64 3, .bool false] := by kernel_rfl
theorem built_act2 : Tryd.prog.built 58 [(0, .string ⟨#[97, 109, 101, 110, 100]⟩), (5, .int .i64 5), (3, .int .i64 (-1)), (6, .bool true)] = some #[.string ⟨#[97, 109, 101, 110, 100]⟩, .slice none 0 0, .slice none 0 0, .int .i64 (-1), .int .i64 0, .int .i64 5, .bool true] := by kernel_rfl
def fiA0 : Rac := ⟨⟨#[107, 105, 110, 100, 108, 101]⟩, [], [], 2, 0, 2, false⟩
def fiA1 : Rac := ⟨⟨#[111, 102, 102, 101, 114]⟩, [0], [], -1, 1, 3, false⟩
def fiA2 : Rac := ⟨⟨#[97, 109, 101, 110, 100]⟩, [], [], -1, 0, 5, true⟩
def fiR (tl : Int) : Rit := ⟨[fiA0, fiA1, fiA2], 5, tl⟩
def fiD (p : Nat) : Rad := ⟨some ⟨p + 1, 0, none⟩, 3, fun k => if k = 1 then some ⟨p, 0, none⟩ else none, fun k => if k = 1 then 1 else 0, fun _ => none, fun _ => 0⟩
theorem fire_lies {W : World} {p : Nat} (tl : Int) (h0 : Blk W p 3 #[.int .i64 0]) (h1 : Blk W (p + 1) 58 #[.string ⟨#[107, 105, 110, 100, 108, 101]⟩, .slice none 0 0, .slice none 0 0, .int .i64 2, .int .i64 0, .int .i64 2, .bool false, .string ⟨#[111, 102, 102, 101, 114]⟩, .slice (some ⟨p, 0, none⟩) 1 1, .slice none 0 0, .int .i64 (-1), .int .i64 1, .int .i64 3, .bool false, .string ⟨#[97, 109, 101, 110, 100]⟩, .slice none 0 0, .slice none 0 0, .int .i64 (-1), .int .i64 0, .int .i64 5, .bool true]) : RtR W (fiD p) (fiR tl) := by
  refine ⟨fun _ => ⟨p + 1, 0, rfl, h1.lt, fun k i hk hi => ?_⟩, fun k hk => ?_, fun k hk => ?_⟩
  · rw [h1.cell]
    have hk3 : k < 3 := hk
    rcases (by omega : k = 0 ∨ k = 1 ∨ k = 2) with rfl | rfl | rfl <;> rcases (by omega : i = 0 ∨ i = 1 ∨ i = 2 ∨ i = 3 ∨ i = 4 ∨ i = 5 ∨ i = 6) with rfl | rfl | rfl | rfl | rfl | rfl | rfl <;> rfl
  · have hk3 : k < 3 := hk
    rcases (by omega : k = 0 ∨ k = 1 ∨ k = 2) with rfl | rfl | rfl
    · exact ER.nil _ _ _ _ _
    · intro _
      refine ⟨p, 0, rfl, h0.lt, fun j i hj hi => ?_⟩
      have hj1 : j < 1 := hj
      obtain rfl : j = 0 := by omega
      obtain rfl : i = 0 := by omega
      rw [h0.cell]; rfl
    · exact ER.nil _ _ _ _ _
  · have hk3 : k < 3 := hk
    rcases (by omega : k = 0 ∨ k = 1 ∨ k = 2) with rfl | rfl | rfl <;> exact ER.nil _ _ _ _ _
theorem fire_any (tl : Int) (w : World) :
    Calls Tryd.prog 36 #[.int .i64 tl] w fun e w' => ∃ d, e = .returned (.agg #[.slice d.A (fiR tl).n d.c, .int .i64 (fiR tl).last, .int .i64 (fiR tl).toil]) ∧ RtR w' d (fiR tl) ∧ Below w.heap.size w w' := by
  have HL : ∀ p, p = w.heap.size + 1 → Hid (RtR (((w.alloc (.cells #[.slice (some ⟨w.heap.size + 1 + 1, 0, none⟩) 3 3, .int .i64 5, .int .i64 tl] 24)).alloc (.cells #[.int .i64 0] 3)).alloc (.cells #[.string ⟨#[107, 105, 110, 100, 108, 101]⟩, .slice none 0 0, .slice none 0 0, .int .i64 2, .int .i64 0, .int .i64 2, .bool false, .string ⟨#[111, 102, 102, 101, 114]⟩, .slice (some ⟨p, 0, none⟩) 1 1, .slice none 0 0, .int .i64 (-1), .int .i64 1, .int .i64 3, .bool false, .string ⟨#[97, 109, 101, 110, 100]⟩, .slice none 0 0, .slice none 0 0, .int .i64 (-1), .int .i64 0, .int .i64 5, .bool true] 58)) (fiD p) (fiR tl)) := fun p hp => hide (by
    refine fire_lies tl ?_ ?_
    · have h := (Blk.new (w.alloc (.cells #[.slice (some ⟨w.heap.size + 1 + 1, 0, none⟩) 3 3, .int .i64 5, .int .i64 tl] 24)) 3 #[.int .i64 0]).alloc (.cells #[.string ⟨#[107, 105, 110, 100, 108, 101]⟩, .slice none 0 0, .slice none 0 0, .int .i64 2, .int .i64 0, .int .i64 2, .bool false, .string ⟨#[111, 102, 102, 101, 114]⟩, .slice (some ⟨p, 0, none⟩) 1 1, .slice none 0 0, .int .i64 (-1), .int .i64 1, .int .i64 3, .bool false, .string ⟨#[97, 109, 101, 110, 100]⟩, .slice none 0 0, .slice none 0 0, .int .i64 (-1), .int .i64 0, .int .i64 5, .bool true] 58)
      rw [World.size_alloc, hp] at h
      rw [hp]
      exact h
    · have h := Blk.new ((w.alloc (.cells #[.slice (some ⟨w.heap.size + 1 + 1, 0, none⟩) 3 3, .int .i64 5, .int .i64 tl] 24)).alloc (.cells #[.int .i64 0] 3)) 58 #[.string ⟨#[107, 105, 110, 100, 108, 101]⟩, .slice none 0 0, .slice none 0 0, .int .i64 2, .int .i64 0, .int .i64 2, .bool false, .string ⟨#[111, 102, 102, 101, 114]⟩, .slice (some ⟨p, 0, none⟩) 1 1, .slice none 0 0, .int .i64 (-1), .int .i64 1, .int .i64 3, .bool false, .string ⟨#[97, 109, 101, 110, 100]⟩, .slice none 0 0, .slice none 0 0, .int .i64 (-1), .int .i64 0, .int .i64 5, .bool true]
      rw [World.size_alloc, World.size_alloc, hp] at h
      rw [hp]
      exact h)
  have HL2 := hide (HL _ rfl).out
  clear HL
  go_enter Tryd.func36, Tryd.ntmps36
  go_upto_region 1 with fail
  have b0 := built_act0
  have b1 := fun A => built_act1 A
  have b2 := built_act2
  go_wp2_with fail
  clear b0 b1 b2
  have hK := hide (((Blk.new w 24 #[.slice (some ⟨w.heap.size + 1 + 1, 0, none⟩) 3 3, .int .i64 5, .int .i64 tl]).alloc (.cells #[.int .i64 0] 3)).alloc (.cells #[.string ⟨#[107, 105, 110, 100, 108, 101]⟩, .slice none 0 0, .slice none 0 0, .int .i64 2, .int .i64 0, .int .i64 2, .bool false, .string ⟨#[111, 102, 102, 101, 114]⟩, .slice (some ⟨w.heap.size + 1, 0, none⟩) 1 1, .slice none 0 0, .int .i64 (-1), .int .i64 1, .int .i64 3, .bool false, .string ⟨#[97, 109, 101, 110, 100]⟩, .slice none 0 0, .slice none 0 0, .int .i64 (-1), .int .i64 0, .int .i64 5, .bool true] 58))
  have hb : Hid (Below w.heap.size w (((w.alloc (.cells #[.slice (some ⟨w.heap.size + 1 + 1, 0, none⟩) 3 3, .int .i64 5, .int .i64 tl] 24)).alloc (.cells #[.int .i64 0] 3)).alloc (.cells #[.string ⟨#[107, 105, 110, 100, 108, 101]⟩, .slice none 0 0, .slice none 0 0, .int .i64 2, .int .i64 0, .int .i64 2, .bool false, .string ⟨#[111, 102, 102, 101, 114]⟩, .slice (some ⟨w.heap.size + 1, 0, none⟩) 1 1, .slice none 0 0, .int .i64 (-1), .int .i64 1, .int .i64 3, .bool false, .string ⟨#[97, 109, 101, 110, 100]⟩, .slice none 0 0, .slice none 0 0, .int .i64 (-1), .int .i64 0, .int .i64 5, .bool true] 58))) := hide ((((Below.refl _ _).alloc (Nat.le_refl _) _).alloc (by simp) _).alloc (by simp only [World.size_alloc]; omega) _)
  generalize (((w.alloc (.cells #[.slice (some ⟨w.heap.size + 1 + 1, 0, none⟩) 3 3, .int .i64 5, .int .i64 tl] 24)).alloc (.cells #[.int .i64 0] 3)).alloc (.cells #[.string ⟨#[107, 105, 110, 100, 108, 101]⟩, .slice none 0 0, .slice none 0 0, .int .i64 2, .int .i64 0, .int .i64 2, .bool false, .string ⟨#[111, 102, 102, 101, 114]⟩, .slice (some ⟨w.heap.size + 1, 0, none⟩) 1 1, .slice none 0 0, .int .i64 (-1), .int .i64 1, .int .i64 3, .bool false, .string ⟨#[97, 109, 101, 110, 100]⟩, .slice none 0 0, .slice none 0 0, .int .i64 (-1), .int .i64 0, .int .i64 5, .bool true] 58)) = wz at hK hb HL2 ⊢
  obtain ⟨-, z0, z1, z2, -⟩ := blk3 hK.out
  refine bodyPost_ret (v := .agg #[.slice (some ⟨w.heap.size + 1 + 1, 0, none⟩) 3 3, .int .i64 5, .int .i64 tl]) (by simp [results, Tryd.results36, go_sem, z0, z1, z2]) rfl ⟨fiD (w.heap.size + 1), rfl, HL2.out, hb.out⟩
end Go.Proofs.YtcgdalabenflmaaDoor
/- Rite: Repair, Latest, walked. -/
namespace Go.Proofs.YtcgdalabenflmaaDoor
open Go Go.RowKit Go.Shelf
set_option maxHeartbeats 8000000
set_option maxRecDepth 100000
theorem fol_ok {r : Rit} (hr : RiOk r) : ∀ (l : List (Int × Int)) (m : Mom) (i : Nat), MoOk r m → MoOk r (folF r m l i).1
  | [], m, _, h => h
  | x :: l, m, i, h => by
    unfold folF
    split
    · exact h
    · rename_i hx
      have h0 := h.d0
      have h1 := h.on hr (day := x.1) (by omega) (by omega)
      split
      · exact h1
      · rename_i hb
        have hb : brF r (m.on x.1).d (m.on x.1).day (m.on x.1).de x.2 = 0 := Classical.not_not.1 hb
        have h2 := br_range hb
        refine fol_ok hr l _ _ (h1.wi hr ?_)
        rw [Int.toNat_of_nonneg h2.1]
        exact hb
theorem m0_ok {r : Rit} (hr : RiOk r) : MoOk r m0 := ⟨by decide, Int.le_refl _, hr.l0, Int.le_refl _, by have := hr.t1; show (0 : Int) ≤ r.toil; omega⟩
theorem frC_mo {r : Rit} {l : List (Int × Int)} {day : Int} (hr : RiOk r) (h : frC r l day = 0) : MoOk r ((folF r m0 l 0).1.on day) := by
  have h1 := fol_ok hr l m0 0 (m0_ok hr)
  have h0 := h1.d0
  unfold frC at h
  split at h
  · split at h
    · rename_i h3; exact h1.on hr (by omega) h3.2
    · cases h
  · rename_i h2; exact absurd h h2
def RprPost (w : World) (r : Rit) (l : List (Int × Int)) (day : Int) (e : Ending) (w' : World) : Prop :=
  (frC r l day ≠ 0 ∧ e = .returned (.tuple #[.slice none 0 0, .int .i64 (frC r l day)]) ∨ frC r l day = 0 ∧ riB r = true ∧
    (fwN r ((folF r m0 l 0).1.on day) = 11 ∧ e = .returned (.tuple #[.slice none 0 0, .int .i64 7]) ∨
     fwN r ((folF r m0 l 0).1.on day) < 11 ∧ ∃ v, e = .returned (.tuple #[v, .int .i64 0]) ∧ OwnD w' w.heap.size v (rpL r ((folF r m0 l 0).1.on day) (fwN r ((folF r m0 l 0).1.on day))))) ∧ Below w.heap.size w w'
theorem repair_rite (d : Rad) (r : Rit) (A : Option Addr) (c : Nat) (l : List (Int × Int)) (day : Int) (w : World) (hd : RtR w d r) (hz : RtZ r) (hl : l.length ≤ 1000000) (hD : DsR w A l) (hT : TB w) :
    Calls Tryd.prog 11 #[.agg #[.slice d.A r.n d.c, .int .i64 r.last, .int .i64 r.toil], .slice A l.length c, .int .i64 day] w (RprPost w r l day) := by
  have HTB := hide hT
  have HB1 : Hid (Below w.heap.size w (w.alloc (.cells #[.slice d.A r.n d.c, .int .i64 r.last, .int .i64 r.toil] 24))) := hide ((Below.refl _ _).alloc (Nat.le_refl _) _)
  have G1 := hide (Blk.new w 24 #[.slice d.A r.n d.c, .int .i64 r.last, .int .i64 r.toil])
  have HRT := hide (hd.ext HB1.out)
  have HD := hide (hD.ext HB1.out)
  have HO := hide (from_any d r A c l day _ HRT.out hz hl HD.out)
  have HFM : Hid (riB r = true → frC r l day = 0 → MoOk r ((folF r m0 l 0).1.on day)) := hide fun h1 h2 => frC_mo (riB_ok h1) h2
  clear hd hz hD hl hT
  obtain ⟨ec, hec⟩ : ∃ x, frC r l day = x := ⟨_, rfl⟩
  have HEC := hide hec
  unfold RprPost
  unfold FromPost at HO
  rw [hec] at HFM HO ⊢
  clear hec
  obtain ⟨mo, hmo⟩ : ∃ x, (folF r m0 l 0).1.on day = x := ⟨_, rfl⟩
  rw [hmo] at HFM HO ⊢
  clear hmo
  have HRE := hide (fun fb b mp q W (h1 : riB r = true) (h2 : MoOk r mo) (h : FwR W fb b mp d q r) => repair_any fb b mp d q r (riB_ok h1) mo h2 W h)
  unfold RepPost at HRE
  obtain ⟨v0, hv0⟩ : ∃ x, fwN r mo = x := ⟨_, rfl⟩
  rw [hv0] at HRE ⊢
  obtain ⟨L, hL⟩ : ∃ x, rpL r mo v0 = x := ⟨_, rfl⟩
  rw [hL] at HRE ⊢
  clear hv0 hL
  obtain ⟨oD, oday, ode⟩ := mo
  unfold momV at HRE HO
  dsimp only at HRE HO
  go_enter Tryd.func11, Tryd.ntmps11
  go_upto_region 1 with fail
  generalize w.alloc (.cells #[.slice d.A r.n d.c, .int .i64 r.last, .int .i64 r.toil] 24) = w1 at HB1 G1 HO HD HRT ⊢
  have hGl := HB1.out.size
  obtain ⟨G, hG⟩ : ∃ x, w.heap.size = x := ⟨_, rfl⟩
  rw [hG] at G1 ⊢
  clear hG hGl
  obtain ⟨g9, g0, g1, g2, -⟩ := blk3 G1.out
  go_wp2_with fail
  refine HO.out.mono ?_
  rintro e w2 ⟨⟨hc, v, ⟨mD, mday, mde⟩, rfl⟩ | ⟨hc, hb, b, ad, rfl, hB⟩, hbl⟩
  · have HBL := hide (HB1.out.trans (hbl.mono HB1.out.size))
    have HCH := hide hc
    have hb4 : Below w2.heap.size w2 (w2.alloc (.cells #[.int .u16 (mD : Nat), .int .i64 mday, .int .i64 mde] 77)) := (Below.refl _ _).alloc (Nat.le_refl _) _
    replace HBL := hide (HBL.out.trans (hb4.mono HBL.out.size))
    have e2 : (ec != 0) = true := by rw [bne_iff_ne]; exact HCH.out
    clear hc hbl g9 g0 g1 g2 HO HD hb4
    go_wp2_with fail
    go_ret2
    exact ⟨.inl ⟨HCH.out, rfl⟩, HBL.out⟩
  · obtain rfl := hc
    have HBL := hide (HB1.out.trans (hbl.mono HB1.out.size))
    have HRB := hide hb
    have HMO := hide (HFM.out hb rfl)
    have HR2 := hide (fun fb mp q W h => HRE.out fb b mp q W hb HMO.out h)
    clear HFM HRE
    have hb4 : Below w2.heap.size w2 (w2.alloc (.cells #[.int .u16 (oD : Nat), .int .i64 oday, .int .i64 ode] 77)) := (Below.refl _ _).alloc (Nat.le_refl _) _
    have Q3 := hide (Blk.new w2 77 #[.int .u16 (oD : Nat), .int .i64 oday, .int .i64 ode])
    have HBK := hide ((hB.ext hb4).book HRT.out)
    replace HBL := hide (HBL.out.trans (hb4.mono HBL.out.size))
    clear hbl hb hB g9 g0 g1 g2 HO HD hb4
    have hmm := @run_makeMap Tryd.prog
    go_upto_region 5 with fail
    obtain ⟨w4, hw4⟩ : ∃ x, w2.alloc (.cells #[.int .u16 (oD : Nat), .int .i64 oday, .int .i64 ode] 77) = x := ⟨_, rfl⟩
    have hs4 : w4.heap.size = w2.heap.size + 1 := by rw [← hw4]; simp
    rw [hw4] at HBK HBL Q3 ⊢
    clear hw4 hmm
    obtain ⟨M, hM⟩ : ∃ x, w2.heap.size = x := ⟨_, rfl⟩
    rw [hM] at Q3 hs4 ⊢
    have HM := hide hM
    clear hM
    have hb5 : Below w4.heap.size w4 ((w4.alloc (.map #[] 0)).alloc (.cells #[.pointer (some ⟨b, 0, none⟩), .map (some (M + 1))] 83)) := ((Below.refl _ _).alloc (Nat.le_refl _) _).alloc (by simp) _
    have FB : Blk ((w4.alloc (.map #[] 0)).alloc (.cells #[.pointer (some ⟨b, 0, none⟩), .map (some (M + 1))] 83)) (M + 1 + 1) 83 #[.pointer (some ⟨b, 0, none⟩), .map (some (M + 1))] := by
      have h := Blk.new (w4.alloc (.map #[] 0)) 83 #[.pointer (some ⟨b, 0, none⟩), .map (some (M + 1))]
      rw [World.size_alloc, hs4] at h
      exact h
    have FM : FmAt ((w4.alloc (.map #[] 0)).alloc (.cells #[.pointer (some ⟨b, 0, none⟩), .map (some (M + 1))] 83)) (M + 1) r := by
      have h := (FmAt.made w4 r).ext ((Below.refl (w4.alloc (.map #[] 0)).heap.size _).alloc (Nat.le_refl _) (.cells #[.pointer (some ⟨b, 0, none⟩), .map (some (M + 1))] 83))
      rw [hs4] at h
      exact h
    replace HBK := hide (HBK.out.ext hb5)
    replace Q3 := hide (Q3.out.ext hb5)
    have HLO : Hid (w.heap.size ≤ M + 1) := hide (by have := HBL.out.size; omega)
    replace HBL := hide (HBL.out.trans (hb5.mono HBL.out.size))
    have HFW := hide (HR2.out (M + 1 + 1) (M + 1) _ _ ⟨HBK.out, FB, FM, HTB.out.ext HBL.out⟩)
    clear hs4 hb5 FB FM HR2
    generalize ((w4.alloc (.map #[] 0)).alloc (.cells #[.pointer (some ⟨b, 0, none⟩), .map (some (M + 1))] 83)) = w6 at HBK Q3 HBL HFW ⊢
    obtain ⟨x9, y0, y1, y2, -⟩ := blk3 Q3.out
    go_wp2_with fail
    refine HFW.out.mono ?_
    rintro e w7 ⟨⟨hv, rfl⟩ | ⟨hv, v, rfl, ho⟩, h7, g7⟩
    · have HV := hide hv
      have HBL7 := hide (gr_low HBL.out HBL.out.size g7 HLO.out)
      clear hv x9 y0 y1 y2 h7 g7
      go_wp2_with fail
      go_ret2
      exact ⟨⟨HRB.out, .inl ⟨HV.out, rfl⟩⟩, HBL7.out⟩
    · have HV := hide hv
      have HO := hide ho
      have HBL7 := hide (gr_low HBL.out HBL.out.size g7 HLO.out)
      clear hv x9 y0 y1 y2 h7 g7 ho
      go_wp2_with fail
      go_ret2
      exact ⟨⟨HRB.out, .inr ⟨HV.out, _, rfl, ownMono HO.out HBL.out.size⟩⟩, HBL7.out⟩
end Go.Proofs.YtcgdalabenflmaaDoor
