/- School: open, walked. -/
import Derived.Test.YtfbnpiafoaoddaaDoorMergesD
set_option linter.unusedSimpArgs false
set_option linter.unusedVariables false
set_option linter.unnecessarySimpa false
namespace Go.Proofs.YtfbnpiafoaoddaaDoor
open List renaming getElem_toArray → glA, getElem_cons_zero → glB, getElem_cons_succ → glC, setIfInBounds_toArray → glD, set_cons_zero → glE, set_cons_succ → glF
open Go Go.RowKit Go.Shelf
set_option maxHeartbeats 8000000
set_option maxRecDepth 100000
/-- the code of a school -/
structure CodeB (w W : World) (C : Nat) (d : Ad_) (SA : Option Addr) (sc : Nat) (s : Sch) : Prop where
  below : Below w.heap.size w W
  lo : w.heap.size ≤ C
  blk : Blk W C 93 #[.slice d.fa s.fs.length d.fc, .int .i64 s.q, .slice d.ra s.rs.length d.rc, .slice SA s.rs.length sc]
  own : OwnT W w.heap.size (.slice SA s.rs.length sc) (s.rs.map (setF s))
def OpPost (w : World) (d : Ad_) (s : Sch) (e : Ending) (w' : World) : Prop :=
  if schB s then ∃ C SA sc, e = .returned (.tuple #[.pointer (some ⟨C, 0, none⟩), .bool true]) ∧ CodeB w w' C d SA sc s
  else e = .returned (.tuple #[.pointer none, .bool false]) ∧ Below w.heap.size w w'
theorem OpPost.no {w w' : World} {d : Ad_} {s : Sch} (h : schB s = false) (hb : Below w.heap.size w w') : OpPost w d s (.returned (.tuple #[.pointer none, .bool false])) w' := by
  unfold OpPost; rw [h]; exact ⟨rfl, hb⟩
theorem wb (n a b : Int) : (decide (a ≤ n) && decide (n ≤ b)) = decide (a ≤ n ∧ n ≤ b) := by rw [Bool.decide_and]
theorem set5_set (s : Nat → Nat) {k : Nat} (hk : k < 5) (v : Nat) : (#[.int .i64 (s 0 : Nat), .int .i64 (s 1 : Nat), .int .i64 (s 2 : Nat), .int .i64 (s 3 : Nat), .int .i64 (s 4 : Nat)] : Array Value).setIfInBounds k (.int .i64 (v : Nat)) = #[.int .i64 (upd s k v 0 : Nat), .int .i64 (upd s k v 1 : Nat), .int .i64 (upd s k v 2 : Nat), .int .i64 (upd s k v 3 : Nat), .int .i64 (upd s k v 4 : Nat)] := by
  rcases (by omega : k = 0 ∨ k = 1 ∨ k = 2 ∨ k = 3 ∨ k = 4) with rfl | rfl | rfl | rfl | rfl <;> rfl
/-- in the midst of open -/
structure OI (w W : World) (G E C : Nat) (d : Ad_) (nf nr : Nat) (q : Int) (ev : Nat → Nat) (SV : Value) (l : List (Nat → Nat)) : Prop where
  below : Below w.heap.size w W
  lo : w.heap.size ≤ E
  loC : w.heap.size ≤ C
  g : Blk W G 29 #[.slice d.fa nf d.fc, .int .i64 q, .slice d.ra nr d.rc]
  e : Blk W E 90 #[.int .i64 (ev 0 : Nat), .int .i64 (ev 1 : Nat), .int .i64 (ev 2 : Nat), .int .i64 (ev 3 : Nat), .int .i64 (ev 4 : Nat)]
  c : Blk W C 93 #[.slice d.fa nf d.fc, .int .i64 q, .slice d.ra nr d.rc, SV]
  own : OwnT W (E + 1) SV l
section
variable {w W W' : World} {G E C : Nat} {d : Ad_} {nf nr : Nat} {q : Int} {ev : Nat → Nat} {SV : Value} {l : List (Nat → Nat)}
theorem OI.ext (h : OI w W G E C d nf nr q ev SV l) (hb : Below W.heap.size W W') : OI w W' G E C d nf nr q ev SV l :=
  ⟨h.below.trans (hb.mono h.below.size), h.lo, h.loC, h.g.ext hb, h.e.ext hb, h.c.ext hb, h.own.ext hb⟩
theorem OI.put (h : OI w W G E C d nf nr q ev SV l) (s : Nat → Nat) (hl : l.length ≤ 100) :
    ∃ A c w', (Builtin.append_ #[91, 91] 91 #[SV, .slice (some ⟨W.heap.size, 0, none⟩) 1 1]).run Tryd.prog (W.alloc (.cells #[.int .i64 (s 0 : Nat), .int .i64 (s 1 : Nat), .int .i64 (s 2 : Nat), .int .i64 (s 3 : Nat), .int .i64 (s 4 : Nat)] 90)) = .ok (.slice A (l.length + 1) c) w' ∧
      OI w (w'.setCell ⟨C, 3, none⟩ (.slice A (l.length + 1) c)) G E C d nf nr q ev (.slice A (l.length + 1) c) (l ++ [s]) ∧
      (∀ g t cs, Blk W g t cs → SV.ownBlock ≠ some g → Blk w' g t cs) ∧ Blk w' C 93 #[.slice d.fa nf d.fc, .int .i64 q, .slice d.ra nr d.rc, SV] ∧ Blk w' G 29 #[.slice d.fa nf d.fc, .int .i64 q, .slice d.ra nr d.rc] := by
  have hE := h.e.lt
  obtain ⟨A, c, w', hr, ho, hg⟩ := h.own.push s (by omega) (by omega)
  have hBA : Below W.heap.size W (W.alloc (.cells #[.int .i64 (s 0 : Nat), .int .i64 (s 1 : Nat), .int .i64 (s 2 : Nat), .int .i64 (s 3 : Nat), .int .i64 (s 4 : Nat)] 90)) := (Below.refl _ _).alloc (Nat.le_refl _) _
  have hk : ∀ g t cs, Blk W g t cs → SV.ownBlock ≠ some g → Blk w' g t cs := fun g t cs hb hne => (hb.ext hBA).grown hg (fun e => hne e.symm)
  have hlt := World.ownsRow.lt h.own
  have hC' := hk _ _ _ h.c (own_blk_ne h.own h.c (by decide))
  have hG' := hk _ _ _ h.g (own_blk_ne h.own h.g (by decide))
  have hE' := hk _ _ _ h.e (fun e => by have := (hlt E e).1; omega)
  have hB' : Below w.heap.size w w' := ((h.ext hBA).below).grown hg ((h.ext hBA).below.size) (fun k hk => by have := (hlt k hk).1; have := h.lo; omega)
  have hCG : C ≠ G := h.c.ne_ h.g (by decide)
  have hCE : C ≠ E := h.c.ne_ h.e (by decide)
  refine ⟨A, c, w', hr, ⟨hB'.setCell h.loC _, h.lo, h.loC, hG'.far (p := ⟨C, 3, none⟩) (Ne.symm hCG) _, hE'.far (p := ⟨C, 3, none⟩) (Ne.symm hCE) _, ?_, ?_⟩, hk, hC', hG'⟩
  · exact hC'.set_ 3 _
  · exact World.ownsRow.kept ho (grownBy_setC w' C 3 _) (.inr (own_blk_ne ho hC' (by decide)))
end
def evK (fs : List Int) (k j : Nat) : Nat := if j < k then 2 ^ (fs.getD j 0).toNat - 1 else 0
theorem evK_succ (fs : List Int) (k v : Nat) (h : 2 ^ (fs.getD k 0).toNat - 1 = v) (j : Nat) : upd (evK fs k) k v j = evK fs (k + 1) j := by
  unfold upd evK
  by_cases e : j = k
  · subst e; rw [if_pos rfl, if_pos (Nat.lt_succ_self _), h]
  · rw [if_neg e]
    by_cases h2 : j < k
    · rw [if_pos h2, if_pos (by omega)]
    · rw [if_neg h2, if_neg (by omega)]
theorem open_any (d : Ad_) (s : Sch) (w : World) (hd : ScR w w.heap.size d s) (hnf : s.fs.length ≤ maxLen) (hnr : s.rs.length ≤ maxLen) :
    Calls Tryd.prog 14 #[scV d s] w (OpPost w d s) := by
  obtain ⟨fs, q, rs⟩ := s
  obtain ⟨nf, hf⟩ : ∃ n, fs.length = n := ⟨_, rfl⟩
  obtain ⟨nr, hr⟩ : ∃ n, rs.length = n := ⟨_, rfl⟩
  have HD := hide hd
  have HN := hide (And.intro hf hr)
  unfold scV
  dsimp only at hnf hnr ⊢
  rw [hf] at hnf
  rw [hr] at hnr
  unfold maxLen at hnf hnr
  rw [hf, hr]
  have HB0 := hide ((Below.refl w.heap.size w).alloc (Nat.le_refl _) (.cells #[.slice d.fa nf d.fc, .int .i64 q, .slice d.ra nr d.rc] 29))
  have G1 := Blk.new w 29 #[.slice d.fa nf d.fc, .int .i64 q, .slice d.ra nr d.rc]
  have hsch : schB ⟨fs, q, rs⟩ = (decide ((1 : Int) ≤ nf ∧ (nf : Int) ≤ 5) && (decide (1 ≤ q ∧ q ≤ 4) && (decide (nr ≤ 12) && (fsB fs && rs.all (rlB nf q (evF fs)))))) := by
    unfold schB
    dsimp only
    rw [hf, hr]
    congr 1
    rw [Bool.eq_iff_iff]; simp; omega
  have HS := hide hsch
  have HW1 : Hid (∀ W, Calls Tryd.prog 15 #[.int .i64 nf, .int .i64 1, .int .i64 5] W fun e w' => e = .returned (.bool (decide ((1 : Int) ≤ nf ∧ (nf : Int) ≤ 5))) ∧ W = w') := hide fun W => by rw [← wb]; exact within_any nf 1 5 W
  have HW2 : Hid (∀ W, Calls Tryd.prog 15 #[.int .i64 q, .int .i64 1, .int .i64 4] W fun e w' => e = .returned (.bool (decide (1 ≤ q ∧ q ≤ 4))) ∧ W = w') := hide fun W => by rw [← wb]; exact within_any q 1 4 W
  clear hd hf hr hsch
  go_enter Tryd.func14, Tryd.ntmps14
  go_upto_region 1 with fail
  generalize (w.alloc (.cells #[.slice d.fa nf d.fc, .int .i64 q, .slice d.ra nr d.rc] 29)) = w1 at HB0 G1 ⊢
  generalize w.heap.size = G at G1 ⊢
  have HG1 := hide G1
  obtain ⟨-, g0, g1, g2, -⟩ := blk3 G1
  clear G1
  by_cases b1 : (1 : Int) ≤ nf ∧ (nf : Int) ≤ 5
  rotate_left
  · rw [decide_eq_false b1, Bool.false_and] at HS
    have hw1 := HW1.out
    rw [decide_eq_false b1] at hw1
    have HW := hide hw1
    clear b1 hw1 HW1 HW2
    go_wp2_with fail
    refine (HW.out _).mono ?_
    rintro e _ ⟨rfl, rfl⟩
    go_wp2_with fail
    go_ret2
    exact OpPost.no HS.out HB0.out
  rw [decide_eq_true b1, Bool.true_and] at HS
  have hw1 := HW1.out
  rw [decide_eq_true b1] at hw1
  by_cases b2 : 1 ≤ q ∧ q ≤ 4
  rotate_left
  · rw [decide_eq_false b2, Bool.false_and] at HS
    have hw2 := HW2.out
    rw [decide_eq_false b2] at hw2
    have HW := hide hw1
    have HX := hide hw2
    clear b1 b2 hw1 hw2 HW1 HW2
    go_wp2_with fail
    refine (HW.out _).mono ?_
    rintro e _ ⟨rfl, rfl⟩
    go_wp2_with fail
    refine (HX.out _).mono ?_
    rintro e _ ⟨rfl, rfl⟩
    go_wp2_with fail
    go_ret2
    exact OpPost.no HS.out HB0.out
  rw [decide_eq_true b2, Bool.true_and] at HS
  have hw2 := HW2.out
  rw [decide_eq_true b2] at hw2
  have HW := hide hw1
  have HX := hide hw2
  have BB := hide (And.intro b1 b2)
  clear b1 b2 hw1 hw2 HW1 HW2
  by_cases b3 : nr ≤ 12
  rotate_left
  · rw [decide_eq_false b3, Bool.false_and] at HS
    have b4 : (12 : Int) < (nr : Int) := by omega
    clear b3
    go_wp2_with fail
    refine (HW.out _).mono ?_
    rintro e _ ⟨rfl, rfl⟩
    go_wp2_with fail
    refine (HX.out _).mono ?_
    rintro e _ ⟨rfl, rfl⟩
    go_wp2_with fail
    go_ret2
    exact OpPost.no HS.out HB0.out
  rw [decide_eq_true b3, Bool.true_and] at HS
  have b4 : ¬ (12 : Int) < (nr : Int) := by omega
  go_wp2_with fail
  refine (HW.out _).mono ?_
  rintro e _ ⟨rfl, rfl⟩
  go_wp2_with fail
  refine (HX.out _).mono ?_
  rintro e _ ⟨rfl, rfl⟩
  go_upto_region 4 with fail
  have HBE : Hid (Below w1.heap.size w1 (w1.alloc (.cells #[.int .i64 0, .int .i64 0, .int .i64 0, .int .i64 0, .int .i64 0] 90))) := hide ((Below.refl _ _).alloc (Nat.le_refl _) _)
  have HE0 : Hid (Blk (w1.alloc (.cells #[.int .i64 0, .int .i64 0, .int .i64 0, .int .i64 0, .int .i64 0] 90)) w1.heap.size 90 #[.int .i64 ((evK fs 0) 0 : Nat), .int .i64 ((evK fs 0) 1 : Nat), .int .i64 ((evK fs 0) 2 : Nat), .int .i64 ((evK fs 0) 3 : Nat), .int .i64 ((evK fs 0) 4 : Nat)]) := hide (Blk.new _ _ _)
  have HB2 := hide (HB0.out.trans (HBE.out.mono HB0.out.size))
  have HLE := hide (HB0.out.size)
  have HG2 := hide (HG1.out.ext HBE.out)
  clear g0 g1 g2
  generalize (w1.alloc (.cells #[.int .i64 0, .int .i64 0, .int .i64 0, .int .i64 0, .int .i64 0] 90)) = w2 at HE0 HB2 HG2 HBE ⊢
  generalize w1.heap.size = E at HE0 HLE HBE ⊢
  clear HG1 HBE HB0 HW HX
  obtain ⟨-, g0, g1, g2, -⟩ := blk3 HG2.out
  have HFS := hide (HD.out.fs)
  go_upto_region 5 with fail
  clear g0 g1 g2
  go_loopw [33] (fun i wr => ∃ k : Nat, k ≤ nf ∧ i = .int .i64 k ∧ Hid (fsB (fs.take k) = true) ∧ Hid (Below w.heap.size w wr) ∧ Hid (Blk wr G 29 #[.slice d.fa nf d.fc, .int .i64 q, .slice d.ra nr d.rc]) ∧ Hid (Blk wr E 90 #[.int .i64 ((evK fs k) 0 : Nat), .int .i64 ((evK fs k) 1 : Nat), .int .i64 ((evK fs k) 2 : Nat), .int .i64 ((evK fs k) 3 : Nat), .int .i64 ((evK fs k) 4 : Nat)])) (fun i _ => nf - (intOf i).toNat)
  case atStart => exact ⟨0, Nat.zero_le _, rfl, hide rfl, HB2, HG2, HE0⟩
  case round =>
    obtain ⟨k, hk, rfl, HF, HB, HG, HE⟩ := hrel
    clear HB2 HG2 HE0
    have hnf5 := BB.out.1.2
    by_cases hlt : k < nf
    · -- BEGIN1
      have hlt' : (k : Int) < (nf : Int) := by omega
      have k0 : (0 : Int) ≤ (k : Int) := by omega
      have k5 : (k : Int) < 5 := by omega
      have hkn : k < fs.length := by rw [HN.out.1]; exact hlt
      obtain ⟨fb, fo, hfa, hfb, hfc⟩ := VR1.at_ (ER.below HFS.out HB.out (Nat.le_refl _)) hkn
      obtain ⟨n, hn⟩ : ∃ n, fs.getD k 0 = n := ⟨_, rfl⟩
      rw [hn] at hfc
      have HWN := within_any n 1 4
      simp only [wb] at HWN
      by_cases hb : 1 ≤ n ∧ n ≤ 4
      · rw [decide_eq_true hb] at HWN
        have HWN := hide HWN
        obtain ⟨P, hP⟩ : ∃ P : Nat, 2 ^ n.toNat = P := ⟨_, rfl⟩
        have hPP : 1 ≤ P ∧ P ≤ 16 := by
          rcases (by omega : n = 1 ∨ n = 2 ∨ n = 3 ∨ n = 4) with rfl | rfl | rfl | rfl <;> (subst hP; decide)
        have hPi : (2 : Int) ^ n.toNat = (P : Int) := by rw [← hP]; simp
        have n0 : 0 ≤ n := by omega
        have n1 : n ≤ 64 := by omega
        have w3 : IntKind.i64.wrap (1 * 2 ^ n.toNat) = (P : Int) := by rw [Int.one_mul, hPi]; exact IntWalk.i64_in _ (by omega)
        have w3' : IntKind.i64.wrap (2 ^ n.toNat) = (P : Int) := by rw [hPi]; exact IntWalk.i64_in _ (by omega)
        have w4 : IntKind.i64.wrap ((P : Int) - 1) = ((P - 1 : Nat) : Int) := by rw [IntWalk.i64_in _ (by omega)]; omega
        have HNX := hide (evK_succ fs k (P - 1) (by rw [hn, hP]))
        have HF2 : Hid (fsB (fs.take (k + 1)) = true) := hide (all_take_succ _ fs hkn 0 (by rw [hn]; exact decide_eq_true hb) HF.out)
        have cE := set5_at HE.out (k := k) (by omega)
        have fE := HE.out.frozen k
        have lE := HE.out.lt
        have HE2 := hide (HE.out.set_ k (.int .i64 ((P - 1 : Nat) : Int)))
        have HG2 := hide (HG.out.far (p := ⟨E, k, none⟩) (HG.out.ne_ HE.out (by decide)) (.int .i64 ((P - 1 : Nat) : Int)))
        have HB2 := hide (HB.out.setCell (p := ⟨E, k, none⟩) HLE.out (.int .i64 ((P - 1 : Nat) : Int)))
        clear hb hn hP hPi hPP
        rw [hfa]
        generalize P - 1 = P1 at *
        go_wp2_with fail
        refine (HWN.out _).mono ?_
        rintro e _ ⟨rfl, rfl⟩
        go_wp2_with fail
        go_roundw
        case rel => exact ⟨k + 1, by omega, by go_num, HF2, HB2, by rw [← hfa]; exact HG2, hide (by
          have h := HE2.out
          rw [set5_set (evK fs k) (by omega) P1, HNX.out, HNX.out, HNX.out, HNX.out, HNX.out] at h
          exact h)⟩
        case measure => simp [intOf]; omega
      · rw [decide_eq_false hb] at HWN
        have HWN := hide HWN
        have hno : fsB fs = false := all_take_no _ fs hkn 0 (by rw [hn]; exact decide_eq_false hb)
        have HNO := hide hno
        rw [hfa]
        clear hno hb hn
        go_wp2_with fail
        refine (HWN.out _).mono ?_
        rintro e _ ⟨rfl, rfl⟩
        go_wp2_with fail
        go_ret2
        exact OpPost.no (by rw [HS.out, HNO.out]; rfl) HB.out
      -- END1
    · -- BEGIN2
      obtain rfl : nf = k := by omega
      have hnl : ¬ (nf : Int) < (nf : Int) := by omega
      have hall : fsB fs = true := by
        have h := HF.out
        rwa [List.take_of_length_le (by rw [HN.out.1]; exact Nat.le_refl _)] at h
      rw [hall, Bool.true_and] at HS
      have hev : ∀ j, evK fs nf j = evF fs j := fun j => by unfold evK evF; rw [HN.out.1]
      rw [hev, hev, hev, hev, hev] at HE
      have HEV16 : Hid (∀ j, evF fs j < 16) := hide (fun j => by
        unfold evF
        split
        · rename_i hj
          have h := List.all_eq_true.1 hall (fs.getD j 0) (by rw [List.getD_eq_getElem?_getD, List.getElem?_eq_getElem hj]; exact List.getElem_mem hj)
          have h := of_decide_eq_true h
          rcases (by omega : fs.getD j 0 = 1 ∨ fs.getD j 0 = 2 ∨ fs.getD j 0 = 3 ∨ fs.getD j 0 = 4) with e | e | e | e <;> rw [e] <;> decide
        · omega)
      clear hall hev HF
      obtain ⟨-, g0, g1, g2, -⟩ := blk3 HG.out
      go_upto_region 12 with fail
      have HOI : Hid (OI w (wr.alloc (.cells #[.slice d.fa nf d.fc, .int .i64 q, .slice d.ra nr d.rc, .slice none 0 0] 93)) G E wr.heap.size d nf nr q (evF fs) (.slice none 0 0) ((rs.take 0).map (setF ⟨fs, q, rs⟩))) := hide ⟨HB.out.alloc HB.out.size _, HLE.out, HB.out.size, HG.out.alloc _, HE.out.alloc _, Blk.new _ _ _, OwnT.nil _ _⟩
      generalize (wr.alloc (.cells #[.slice d.fa nf d.fc, .int .i64 q, .slice d.ra nr d.rc, .slice none 0 0] 93)) = w3 at HOI ⊢
      generalize wr.heap.size = C at HOI ⊢
      clear HB HG HE g0 g1 g2 HFS
      obtain ⟨-, g0, g1, g2, -⟩ := blk3 HOI.out.g
      go_upto_region 13 with fail
      clear g0 g1 g2
      go_loopw [53] (fun i wr => ∃ (k : Nat) (SV : Value), k ≤ nr ∧ i = .int .i64 k ∧ Hid ((rs.take k).all (rlB nf q (evF fs)) = true) ∧ Hid (OI w wr G E C d nf nr q (evF fs) SV ((rs.take k).map (setF ⟨fs, q, rs⟩)))) (fun i _ => nr - (intOf i).toNat)
      case atStart => exact ⟨0, _, Nat.zero_le _, rfl, hide rfl, HOI⟩
      case round =>
        obtain ⟨k, SV, hk, rfl, HR, HO⟩ := hrel
        clear HOI
        by_cases hlt : k < nr
        · -- BEGIN3
          have hlt' : (k : Int) < (nr : Int) := by omega
          have k0 : (0 : Int) ≤ (k : Int) := by omega
          have hkr : k < rs.length := by rw [HN.out.2]; exact hlt
          obtain ⟨r, hr⟩ : ∃ r, rs.getD k r0 = r := ⟨_, rfl⟩
          obtain ⟨rb, ro, hra, hrb, c0, c1, c2⟩ := (HD.out.rs).at_ hkr hr
          replace c0 := (HO.out.below.cell (p := ⟨rb, ro + k * 3, none⟩) hrb).trans c0
          replace c1 := (HO.out.below.cell (p := ⟨rb, ro + k * 3 + 1, none⟩) hrb).trans c1
          replace c2 := (HO.out.below.cell (p := ⟨rb, ro + k * 3 + 2, none⟩) hrb).trans c2
          have HTS := HD.out.rs.tests k hkr
          rw [hr] at HTS
          obtain ⟨ts, ask, say⟩ := r
          dsimp only at c0 c1 c2 HTS
          obtain ⟨nt, hnt⟩ : ∃ n, ts.length = n := ⟨_, rfl⟩
          rw [hnt] at c0
          obtain ⟨ta, hta⟩ : ∃ x, d.ta k = x := ⟨_, rfl⟩
          obtain ⟨tc, htc⟩ : ∃ x, d.tc k = x := ⟨_, rfl⟩
          rw [hta, htc] at c0
          rw [hta] at HTS
          have HTS := hide HTS
          have HKR := hide (And.intro hkr hr)
          have hrl : rlB nf q (evF fs) ⟨ts, ask, say⟩ = (decide (nt ≤ 5) && (decide (0 ≤ ask ∧ ask ≤ q - 1) && (decide (0 ≤ say ∧ say ≤ 999) && ts.all (tstB nf (evF fs))))) := by
            unfold rlB; rw [hnt]
          have HRL := hide hrl
          have HNT := hide hnt
          clear hkr hr hnt hta htc hrl
          rw [hra]
          go_upto_region 15 with fail
          have HB1 : Hid (Below wr.heap.size wr (wr.alloc (.cells #[.slice ta nt tc, .int .i64 ask, .int .i64 say] 56))) := hide ((Below.refl _ _).alloc (Nat.le_refl _) _)
          have HR1 : Hid (Blk (wr.alloc (.cells #[.slice ta nt tc, .int .i64 ask, .int .i64 say] 56)) wr.heap.size 56 #[.slice ta nt tc, .int .i64 ask, .int .i64 say]) := hide (Blk.new _ _ _)
          generalize (wr.alloc (.cells #[.slice ta nt tc, .int .i64 ask, .int .i64 say] 56)) = w1 at HB1 HR1 ⊢
          have HLT := hide (World.ownsRow.lt HO.out.own)
          have HO1 := hide (HO.out.ext HB1.out)
          obtain ⟨rg, hrg⟩ : ∃ x, wr.heap.size = x := ⟨_, rfl⟩
          rw [hrg] at HR1 ⊢
          obtain ⟨-, g0, g1, g2, -⟩ := blk3 HO1.out.g
          obtain ⟨-, y0, y1, y2, -⟩ := blk3 HR1.out
          clear c0 c1 c2 HO hrg
          have w5 : IntKind.i64.wrap (q - 1) = q - 1 := IntWalk.i64_in _ (by have := BB.out.2; omega)
          have HWA := within_any ask 0 (q - 1)
          have HWB := within_any say 0 999
          simp only [wb] at HWA HWB
          have HWA := hide HWA
          have HWB := hide HWB
          rw [← hra]
          by_cases b5 : nt ≤ 5
          rotate_left
          · rw [decide_eq_false b5, Bool.false_and] at HRL
            have b5' : (5 : Int) < (nt : Int) := by omega
            clear b5
            go_wp2_with fail
            go_ret2
            exact OpPost.no (HS.out.trans (all_take_no _ rs HKR.out.1 r0 (by rw [HKR.out.2]; exact HRL.out))) HO1.out.below
          rw [decide_eq_true b5, Bool.true_and] at HRL
          have b5' : ¬ (5 : Int) < (nt : Int) := by omega
          by_cases b6 : 0 ≤ ask ∧ ask ≤ q - 1
          rotate_left
          · rw [decide_eq_false b6, Bool.false_and] at HRL
            rw [decide_eq_false b6] at HWA
            clear b5 b6
            go_wp2_with fail
            refine (HWA.out _).mono ?_
            rintro e _ ⟨rfl, rfl⟩
            go_wp2_with fail
            go_ret2
            exact OpPost.no (HS.out.trans (all_take_no _ rs HKR.out.1 r0 (by rw [HKR.out.2]; exact HRL.out))) HO1.out.below
          rw [decide_eq_true b6, Bool.true_and] at HRL
          rw [decide_eq_true b6] at HWA
          clear b6
          by_cases b7 : 0 ≤ say ∧ say ≤ 999
          rotate_left
          · rw [decide_eq_false b7, Bool.false_and] at HRL
            rw [decide_eq_false b7] at HWB
            clear b5 b7
            go_wp2_with fail
            refine (HWA.out _).mono ?_
            rintro e _ ⟨rfl, rfl⟩
            go_wp2_with fail
            refine (HWB.out _).mono ?_
            rintro e _ ⟨rfl, rfl⟩
            go_wp2_with fail
            go_ret2
            exact OpPost.no (HS.out.trans (all_take_no _ rs HKR.out.1 r0 (by rw [HKR.out.2]; exact HRL.out))) HO1.out.below
          rw [decide_eq_true b7, Bool.true_and] at HRL
          rw [decide_eq_true b7] at HWB
          clear b7
          go_wp2_with fail
          refine (HWA.out _).mono ?_
          rintro e _ ⟨rfl, rfl⟩
          go_wp2_with fail
          refine (HWB.out _).mono ?_
          rintro e _ ⟨rfl, rfl⟩
          clear HWA HWB
          go_upto_region 17 with fail
          have e0 := set5_at HO1.out.e (k := 0) (by omega)
          have e1 := set5_at HO1.out.e (k := 1) (by omega)
          have e2 := set5_at HO1.out.e (k := 2) (by omega)
          have e3 := set5_at HO1.out.e (k := 3) (by omega)
          have e4 := set5_at HO1.out.e (k := 4) (by omega)
          clear g0 g1 g2 y0 y1 y2
          go_upto_region 18 with fail
          have HV0 : Hid (Blk (w1.alloc (.cells #[.int .i64 ((evF fs) 0 : Nat), .int .i64 ((evF fs) 1 : Nat), .int .i64 ((evF fs) 2 : Nat), .int .i64 ((evF fs) 3 : Nat), .int .i64 ((evF fs) 4 : Nat)] 90)) w1.heap.size 90 #[.int .i64 ((wthL (evF fs) (ts.take 0)) 0 : Nat), .int .i64 ((wthL (evF fs) (ts.take 0)) 1 : Nat), .int .i64 ((wthL (evF fs) (ts.take 0)) 2 : Nat), .int .i64 ((wthL (evF fs) (ts.take 0)) 3 : Nat), .int .i64 ((wthL (evF fs) (ts.take 0)) 4 : Nat)]) := hide (Blk.new _ _ _)
          have HBV : Hid (Below w1.heap.size w1 (w1.alloc (.cells #[.int .i64 ((evF fs) 0 : Nat), .int .i64 ((evF fs) 1 : Nat), .int .i64 ((evF fs) 2 : Nat), .int .i64 ((evF fs) 3 : Nat), .int .i64 ((evF fs) 4 : Nat)] 90))) := hide ((Below.refl _ _).alloc (Nat.le_refl _) _)
          clear e0 e1 e2 e3 e4
          generalize (w1.alloc (.cells #[.int .i64 ((evF fs) 0 : Nat), .int .i64 ((evF fs) 1 : Nat), .int .i64 ((evF fs) 2 : Nat), .int .i64 ((evF fs) 3 : Nat), .int .i64 ((evF fs) 4 : Nat)] 90)) = wv at HV0 HBV ⊢
          have HVS : Hid (SV.ownBlock ≠ some w1.heap.size) := hide (fun e => by
            have := (HLT.out _ e).2
            have := HB1.out.size
            omega)
          have HV1 := hide (show w1.heap.size ≤ w1.heap.size from Nat.le_refl _)
          obtain ⟨V, hV⟩ : ∃ x, w1.heap.size = x := ⟨_, rfl⟩
          rw [hV] at HV0 HVS HBV ⊢
          have HVV := hide hV
          clear hV HV1
          obtain ⟨-, y0, y1, y2, -⟩ := blk3 (HR1.out.ext (HVV.out ▸ HBV.out))
          go_upto_region 19 with fail
          clear y0 y1 y2
          go_loopw [80] (fun i wr => ∃ j : Nat, j ≤ nt ∧ i = .int .i64 j ∧ Hid ((ts.take j).all (tstB nf (evF fs)) = true) ∧ Hid (Below V w1 wr) ∧ Hid (Blk wr V 90 #[.int .i64 ((wthL (evF fs) (ts.take j)) 0 : Nat), .int .i64 ((wthL (evF fs) (ts.take j)) 1 : Nat), .int .i64 ((wthL (evF fs) (ts.take j)) 2 : Nat), .int .i64 ((wthL (evF fs) (ts.take j)) 3 : Nat), .int .i64 ((wthL (evF fs) (ts.take j)) 4 : Nat)])) (fun i _ => nt - (intOf i).toNat)
          case atStart => exact ⟨0, Nat.zero_le _, rfl, hide rfl, HBV, HV0⟩
          case round =>
            obtain ⟨j, hj, rfl, HTR, HBW, HV⟩ := hrel
            clear HV0 HBV
            by_cases hltj : j < nt
            · -- BEGIN5
              have hltj' : (j : Int) < (nt : Int) := by omega
              have j0 : (0 : Int) ≤ (j : Int) := by omega
              have hjt : j < ts.length := by rw [HNT.out]; exact hltj
              obtain ⟨t, ht⟩ : ∃ t, ts.getD j (0, 0) = t := ⟨_, rfl⟩
              obtain ⟨tb, to_, hta, htb, c0, c1⟩ := HTS.out.at_ hjt ht
              have HBX : Hid (Below w1.heap.size w1 wr) := hide (by rw [HVV.out]; exact HBW.out)
              have HO := hide (HO1.out.ext HBX.out)
              replace c0 := (HO.out.below.cell (p := ⟨tb, to_ + j * 2, none⟩) htb).trans c0
              replace c1 := (HO.out.below.cell (p := ⟨tb, to_ + j * 2 + 1, none⟩) htb).trans c1
              obtain ⟨f, tq⟩ := t
              dsimp only at c0 c1
              have HJT := hide (And.intro hjt ht)
              have hnx := wthL_take (evF fs) ts hjt ht
              obtain ⟨m, hm⟩ : ∃ m, wthL (evF fs) (ts.take j) = m := ⟨_, rfl⟩
              have hm16 : ∀ k, m k < 16 := fun k => by
                rw [← hm]
                exact Nat.lt_of_le_of_lt (wthL_le _ _ k) (HEV16.out k)
              rw [hm] at HV hnx
              have HNX := hide hnx
              have HM16 := hide hm16
              clear hjt ht hnx hm hm16
              rw [hta]
              go_upto_region 21 with fail
              have HB4 : Hid (Below wr.heap.size wr (wr.alloc (.cells #[.int .i64 f, .int .i64 tq] 59))) := hide ((Below.refl _ _).alloc (Nat.le_refl _) _)
              have hT : Blk (wr.alloc (.cells #[.int .i64 f, .int .i64 tq] 59)) wr.heap.size 59 #[.int .i64 f, .int .i64 tq] := Blk.new _ _ _
              generalize (wr.alloc (.cells #[.int .i64 f, .int .i64 tq] 59)) = w4 at HB4 hT ⊢
              have HO4 := hide (HO.out.ext HB4.out)
              have HV4 := hide (HV.out.ext HB4.out)
              have HBW4 : Hid (Below V w1 w4) := hide (HBW.out.trans (HB4.out.mono (by rw [← HVV.out]; exact HBX.out.size)))
              obtain ⟨T, hTT⟩ : ∃ x, wr.heap.size = x := ⟨_, rfl⟩
              rw [hTT] at hT ⊢
              clear c0 c1 HO HV HBW HB4 hTT
              have w6 : IntKind.i64.wrap ((nf : Int) - 1) = (nf : Int) - 1 := IntWalk.i64_in _ (by omega)
              have HWT := within_any f 0 ((nf : Int) - 1)
              simp only [wb] at HWT
              rw [← hta]
              by_cases b8 : 0 ≤ f ∧ f ≤ (nf : Int) - 1
              · rw [decide_eq_true b8] at HWT
                have HWT := hide HWT
                obtain ⟨tf, rfl⟩ : ∃ n : Nat, f = (n : Int) := ⟨f.toNat, by omega⟩
                have tf0 : (0 : Int) ≤ (tf : Int) := by omega
                have tf5 : (tf : Int) < 5 := by omega
                have htf : tf < 5 := by omega
                have htst : tstB nf (evF fs) ((tf : Int), tq) = (bits BinOp.andNot IntKind.i64 tq (evF fs tf : Nat) == 0) := by
                  unfold tstB
                  dsimp only
                  rw [decide_eq_true b8, Bool.true_and, show ((tf : Int)).toNat = tf by omega]
                have HS21 : Hid (∀ W, Below w4.heap.size w4 W → ((W.cell? ⟨T, 0, none⟩ = some (.int .i64 (tf : Nat)) ∧ W.cell? ⟨T, 1, none⟩ = some (.int .i64 tq)) ∧ W.cell? ⟨G, 0, none⟩ = some (.slice d.fa nf d.fc)) ∧ W.cell? ⟨E, tf, none⟩ = some (.int .i64 (evF fs tf : Nat))) := hide fun W h =>
                  ⟨⟨⟨(blk2 (hT.ext h)).2.1, (blk2 (hT.ext h)).2.2.1⟩, (blk3 (HO4.out.g.ext h)).2.1⟩, set5_at (HO4.out.e.ext h) htf⟩
                have HT4 := hide hT
                clear hT b8
                have Bd := hide ((Below.refl w4.heap.size w4).drew)
                refine wp_region_J (fun W : World => ((W.cell? ⟨T, 0, none⟩ = some (.int .i64 (tf : Nat)) ∧ W.cell? ⟨T, 1, none⟩ = some (.int .i64 tq)) ∧ W.cell? ⟨G, 0, none⟩ = some (.slice d.fa nf d.fc)) ∧ W.cell? ⟨E, tf, none⟩ = some (.int .i64 (evF fs tf : Nat))) (by kernel_rfl) ?_
                generalize w4.drew = wd at Bd ⊢
                refine wpAnyJ_take 0 (v := ?_) (by first | exact hF | exact wideFn) (HS21.out _ Bd.out) rfl (by kernel_rfl) (by kernel_rfl) (by kernel_rfl) (by kernel_rfl) rfl ?_ (by first | exact fun _ _ _ h => h | exact fun _ _ _ h => hQ2 _ _ _ _ _ h) ?_
                rotate_left
                · intro W hSW
                  simp only [glA, glB, glC]
                  (try dsimp only at hSW)
                  go_simp
                  with_reducible rfl
                (try simp only [glA, glB, glC, Act.put, glD, glE, glF])
                refine wpAnyJ_take 1 (v := ?_) (by first | exact hF | exact wideFn) (HS21.out _ Bd.out) rfl (by kernel_rfl) (by kernel_rfl) (by kernel_rfl) (by kernel_rfl) rfl ?_ (by first | exact fun _ _ _ h => h | exact fun _ _ _ h => hQ2 _ _ _ _ _ h) ?_
                rotate_left
                · intro W hSW
                  simp only [glA, glB, glC]
                  (try dsimp only at hSW)
                  go_simp
                  with_reducible rfl
                (try simp only [glA, glB, glC, Act.put, glD, glE, glF])
                refine wpAnyJ_take 2 (v := ?_) (by first | exact hF | exact wideFn) (HS21.out _ Bd.out) rfl (by kernel_rfl) (by kernel_rfl) (by kernel_rfl) (by kernel_rfl) rfl ?_ (by first | exact fun _ _ _ h => h | exact fun _ _ _ h => hQ2 _ _ _ _ _ h) ?_
                rotate_left
                · intro W hSW
                  simp only [glA, glB, glC]
                  (try dsimp only at hSW)
                  go_simp
                  with_reducible rfl
                (try simp only [glA, glB, glC, Act.put, glD, glE, glF])
                refine wpAnyJ_take 3 (v := ?_) (by first | exact hF | exact wideFn) (HS21.out _ Bd.out) rfl (by kernel_rfl) (by kernel_rfl) (by kernel_rfl) (by kernel_rfl) rfl ?_ (by first | exact fun _ _ _ h => h | exact fun _ _ _ h => hQ2 _ _ _ _ _ h) ?_
                rotate_left
                · intro W hSW
                  simp only [glA, glB, glC]
                  (try dsimp only at hSW)
                  go_simp
                  with_reducible rfl
                (try simp only [glA, glB, glC, Act.put, glD, glE, glF])
                refine wpAnyJ_take 4 (v := ?_) (by first | exact hF | exact wideFn) (HS21.out _ Bd.out) rfl (by kernel_rfl) (by kernel_rfl) (by kernel_rfl) (by kernel_rfl) rfl ?_ (by first | exact fun _ _ _ h => h | exact fun _ _ _ h => hQ2 _ _ _ _ _ h) ?_
                rotate_left
                · intro W hSW
                  simp only [glA, glB, glC]
                  (try dsimp only at hSW)
                  go_simp
                  with_reducible rfl
                (try simp only [glA, glB, glC, Act.put, glD, glE, glF])
                refine wpAnyJ_take 5 (v := ?_) (by first | exact hF | exact wideFn) (HS21.out _ Bd.out) rfl (by kernel_rfl) (by kernel_rfl) (by kernel_rfl) (by kernel_rfl) rfl ?_ (by first | exact fun _ _ _ h => h | exact fun _ _ _ h => hQ2 _ _ _ _ _ h) ?_
                rotate_left
                · intro W hSW
                  simp only [glA, glB, glC]
                  (try dsimp only at hSW)
                  go_simp
                  with_reducible rfl
                (try simp only [glA, glB, glC, Act.put, glD, glE, glF])
                refine wpAnyJ_one 6 rfl (by kernel_rfl) (fun K hK => ?_)
                simp only [glA, glB, glC]
                go_simp
                refine ⟨trivial, rfl, ?_⟩
                (with_reducible refine (callsIn_wide.2 (HWT.out _)).mono ?_)
                rintro e w5 ⟨rfl, rfl⟩
                skip
                dsimp only
                refine hK.out _ _ (fun _ => HS21.out _ Bd.out) ?_
                clear hK K
                (try simp only [glA, glB, glC, Act.put, glD, glE, glF])
                refine wpAnyJ_take 7 (v := ?_) (by first | exact hF | exact wideFn) (HS21.out _ Bd.out) rfl (by kernel_rfl) (by kernel_rfl) (by kernel_rfl) (by kernel_rfl) rfl ?_ (by first | exact fun _ _ _ h => h | exact fun _ _ _ h => hQ2 _ _ _ _ _ h) ?_
                rotate_left
                · intro W hSW
                  simp only [glA, glB, glC]
                  (try dsimp only at hSW)
                  go_simp
                  with_reducible rfl
                (try simp only [glA, glB, glC, Act.put, glD, glE, glF])
                refine wpAnyJ_take 8 (v := ?_) (by first | exact hF | exact wideFn) (HS21.out _ Bd.out) rfl (by kernel_rfl) (by kernel_rfl) (by kernel_rfl) (by kernel_rfl) rfl ?_ (by first | exact fun _ _ _ h => h | exact fun _ _ _ h => hQ2 _ _ _ _ _ h) ?_
                rotate_left
                · intro W hSW
                  simp only [glA, glB, glC]
                  (try dsimp only at hSW)
                  go_simp
                  with_reducible rfl
                (try simp only [glA, glB, glC, Act.put, glD, glE, glF])
                refine wpAnyJ_take 9 (v := ?_) (by first | exact hF | exact wideFn) (HS21.out _ Bd.out) rfl (by kernel_rfl) (by kernel_rfl) (by kernel_rfl) (by kernel_rfl) rfl ?_ (by first | exact fun _ _ _ h => h | exact fun _ _ _ h => hQ2 _ _ _ _ _ h) ?_
                rotate_left
                · intro W hSW
                  simp only [glA, glB, glC]
                  (try dsimp only at hSW)
                  go_simp
                  with_reducible rfl
                (try simp only [glA, glB, glC, Act.put, glD, glE, glF])
                refine wpAnyJ_take 10 (v := ?_) (by first | exact hF | exact wideFn) (HS21.out _ Bd.out) rfl (by kernel_rfl) (by kernel_rfl) (by kernel_rfl) (by kernel_rfl) rfl ?_ (by first | exact fun _ _ _ h => h | exact fun _ _ _ h => hQ2 _ _ _ _ _ h) ?_
                rotate_left
                · intro W hSW
                  simp only [glA, glB, glC]
                  (try dsimp only at hSW)
                  go_simp
                  with_reducible rfl
                (try simp only [glA, glB, glC, Act.put, glD, glE, glF])
                refine wpAnyJ_take 11 (v := ?_) (by first | exact hF | exact wideFn) (HS21.out _ Bd.out) rfl (by kernel_rfl) (by kernel_rfl) (by kernel_rfl) (by kernel_rfl) rfl ?_ (by first | exact fun _ _ _ h => h | exact fun _ _ _ h => hQ2 _ _ _ _ _ h) ?_
                rotate_left
                · intro W hSW
                  simp only [glA, glB, glC]
                  (try dsimp only at hSW)
                  go_simp
                  with_reducible rfl
                (try simp only [glA, glB, glC, Act.put, glD, glE, glF])
                refine wpAnyJ_take 12 (v := ?_) (by first | exact hF | exact wideFn) (HS21.out _ Bd.out) rfl (by kernel_rfl) (by kernel_rfl) (by kernel_rfl) (by kernel_rfl) rfl ?_ (by first | exact fun _ _ _ h => h | exact fun _ _ _ h => hQ2 _ _ _ _ _ h) ?_
                rotate_left
                · intro W hSW
                  simp only [glA, glB, glC]
                  (try dsimp only at hSW)
                  go_simp
                  with_reducible rfl
                (try simp only [glA, glB, glC, Act.put, glD, glE, glF])
                refine wpAnyJ_take 13 (v := ?_) (by first | exact hF | exact wideFn) (HS21.out _ Bd.out) rfl (by kernel_rfl) (by kernel_rfl) (by kernel_rfl) (by kernel_rfl) rfl ?_ (by first | exact fun _ _ _ h => h | exact fun _ _ _ h => hQ2 _ _ _ _ _ h) ?_
                rotate_left
                · intro W hSW
                  simp only [glA, glB, glC]
                  (try dsimp only at hSW)
                  go_simp
                  with_reducible rfl
                (try simp only [glA, glB, glC, Act.put, glD, glE, glF])
                refine wpAnyJ_take 14 (v := ?_) (by first | exact hF | exact wideFn) (HS21.out _ Bd.out) rfl (by kernel_rfl) (by kernel_rfl) (by kernel_rfl) (by kernel_rfl) rfl ?_ (by first | exact fun _ _ _ h => h | exact fun _ _ _ h => hQ2 _ _ _ _ _ h) ?_
                rotate_left
                · intro W hSW
                  simp only [glA, glB, glC]
                  (try dsimp only at hSW)
                  go_simp
                  with_reducible rfl
                (try simp only [glA, glB, glC, Act.put, glD, glE, glF])
                refine wpAnyJ_take 15 (v := ?_) (by first | exact hF | exact wideFn) (HS21.out _ Bd.out) rfl (by kernel_rfl) (by kernel_rfl) (by kernel_rfl) (by kernel_rfl) rfl ?_ (by first | exact fun _ _ _ h => h | exact fun _ _ _ h => hQ2 _ _ _ _ _ h) ?_
                rotate_left
                · intro W hSW
                  simp only [glA, glB, glC]
                  (try dsimp only at hSW)
                  go_simp
                  with_reducible rfl
                (try simp only [glA, glB, glC, Act.put, glD, glE, glF])
                obtain ⟨z, hz⟩ : ∃ z, bits BinOp.andNot IntKind.i64 tq (evF fs tf : Nat) = z := ⟨_, rfl⟩
                rw [hz] at htst ⊢
                clear hz
                refine wpAnyJ_take 16 (v := ?_) (by first | exact hF | exact wideFn) (HS21.out _ Bd.out) rfl (by kernel_rfl) (by kernel_rfl) (by kernel_rfl) (by kernel_rfl) rfl ?_ (by first | exact fun _ _ _ h => h | exact fun _ _ _ h => hQ2 _ _ _ _ _ h) ?_
                rotate_left
                · intro W hSW
                  simp only [glA, glB, glC]
                  (try dsimp only at hSW)
                  go_simp
                  with_reducible rfl
                (try simp only [glA, glB, glC, Act.put, glD, glE, glF])
                refine wpAnyJ_take 17 (v := ?_) (by first | exact hF | exact wideFn) (HS21.out _ Bd.out) rfl (by kernel_rfl) (by kernel_rfl) (by kernel_rfl) (by kernel_rfl) rfl ?_ (by first | exact fun _ _ _ h => h | exact fun _ _ _ h => hQ2 _ _ _ _ _ h) ?_
                rotate_left
                · intro W hSW
                  simp only [glA, glB, glC]
                  (try dsimp only at hSW)
                  go_simp
                  with_reducible rfl
                (try simp only [glA, glB, glC, Act.put, glD, glE, glF])
                refine wpAnyJ_done (by kernel_rfl) ?_
                have HBWd : Hid (Below V w1 wd) := hide (HBW4.out.trans (Bd.out.mono (by have h1 := HBX.out.size; have h2 := HBW4.out.size; rw [HVV.out] at h2; exact h2)))
                by_cases hz : z = 0
                · have z1 : (z == 0) = true := by rw [hz]; rfl
                  have z2 : (z != 0) = false := by rw [hz]; rfl
                  have HTST := hide (htst.trans z1)
                  clear htst hz
                  go_upto_region 23 with fail
                  have HT5 := hide (HT4.out.ext Bd.out)
                  have HV5 := hide (HV4.out.ext Bd.out)
                  clear HS21 HT4 HV4 HO4 HBW4
                  have Be := hide ((Below.refl wd.heap.size wd).drew)
                  refine wp_region_J (fun W : World => (W.cell? ⟨T, 0, none⟩ = some (.int .i64 (tf : Nat)) ∧ W.cell? ⟨T, 1, none⟩ = some (.int .i64 tq)) ∧ W.cell? ⟨V, tf, none⟩ = some (.int .i64 (m tf : Nat))) (by kernel_rfl) ?_
                  have hVe := HV5.out.ext Be.out
                  have hTe := HT5.out.ext Be.out
                  have HBWe : Hid (Below V w1 wd.drew) := hide (HBWd.out.trans (Be.out.mono (by have h2 := HBWd.out.size; rw [HVV.out] at h2; exact h2)))
                  generalize wd.drew = we at hVe hTe HBWe ⊢
                  have HS23 : Hid ((we.cell? ⟨T, 0, none⟩ = some (.int .i64 (tf : Nat)) ∧ we.cell? ⟨T, 1, none⟩ = some (.int .i64 tq)) ∧ we.cell? ⟨V, tf, none⟩ = some (.int .i64 (m tf : Nat))) := hide ⟨⟨(blk2 hTe).2.1, (blk2 hTe).2.2.1⟩, set5_at hVe htf⟩
                  have cV := HS23.out.2
                  have fV := hVe.frozen tf
                  have lV := hVe.lt
                  have HBA := hide (bits_and_nat (m tf) tq (by have := HM16.out tf; omega))
                  refine wpAnyJ_take 0 (v := ?_) (by first | exact hF | exact wideFn) (HS23.out) rfl (by kernel_rfl) (by kernel_rfl) (by kernel_rfl) (by kernel_rfl) rfl ?_ (by first | exact fun _ _ _ h => h | exact fun _ _ _ h => hQ2 _ _ _ _ _ h) ?_
                  rotate_left
                  · intro W hSW
                    simp only [glA, glB, glC]
                    (try dsimp only at hSW)
                    go_simp
                    with_reducible rfl
                  (try simp only [glA, glB, glC, Act.put, glD, glE, glF])
                  refine wpAnyJ_take 1 (v := ?_) (by first | exact hF | exact wideFn) (HS23.out) rfl (by kernel_rfl) (by kernel_rfl) (by kernel_rfl) (by kernel_rfl) rfl ?_ (by first | exact fun _ _ _ h => h | exact fun _ _ _ h => hQ2 _ _ _ _ _ h) ?_
                  rotate_left
                  · intro W hSW
                    simp only [glA, glB, glC]
                    (try dsimp only at hSW)
                    go_simp
                    with_reducible rfl
                  (try simp only [glA, glB, glC, Act.put, glD, glE, glF])
                  refine wpAnyJ_take 2 (v := ?_) (by first | exact hF | exact wideFn) (HS23.out) rfl (by kernel_rfl) (by kernel_rfl) (by kernel_rfl) (by kernel_rfl) rfl ?_ (by first | exact fun _ _ _ h => h | exact fun _ _ _ h => hQ2 _ _ _ _ _ h) ?_
                  rotate_left
                  · intro W hSW
                    simp only [glA, glB, glC]
                    (try dsimp only at hSW)
                    go_simp
                    with_reducible rfl
                  (try simp only [glA, glB, glC, Act.put, glD, glE, glF])
                  refine wpAnyJ_take 3 (v := ?_) (by first | exact hF | exact wideFn) (HS23.out) rfl (by kernel_rfl) (by kernel_rfl) (by kernel_rfl) (by kernel_rfl) rfl ?_ (by first | exact fun _ _ _ h => h | exact fun _ _ _ h => hQ2 _ _ _ _ _ h) ?_
                  rotate_left
                  · intro W hSW
                    simp only [glA, glB, glC]
                    (try dsimp only at hSW)
                    go_simp
                    with_reducible rfl
                  (try simp only [glA, glB, glC, Act.put, glD, glE, glF])
                  refine wpAnyJ_take 4 (v := ?_) (by first | exact hF | exact wideFn) (HS23.out) rfl (by kernel_rfl) (by kernel_rfl) (by kernel_rfl) (by kernel_rfl) rfl ?_ (by first | exact fun _ _ _ h => h | exact fun _ _ _ h => hQ2 _ _ _ _ _ h) ?_
                  rotate_left
                  · intro W hSW
                    simp only [glA, glB, glC]
                    (try dsimp only at hSW)
                    go_simp
                    with_reducible rfl
                  (try simp only [glA, glB, glC, Act.put, glD, glE, glF])
                  refine wpAnyJ_take 5 (v := ?_) (by first | exact hF | exact wideFn) (HS23.out) rfl (by kernel_rfl) (by kernel_rfl) (by kernel_rfl) (by kernel_rfl) rfl ?_ (by first | exact fun _ _ _ h => h | exact fun _ _ _ h => hQ2 _ _ _ _ _ h) ?_
                  rotate_left
                  · intro W hSW
                    simp only [glA, glB, glC]
                    (try dsimp only at hSW)
                    go_simp
                    with_reducible rfl
                  (try simp only [glA, glB, glC, Act.put, glD, glE, glF])
                  refine wpAnyJ_take 6 (v := ?_) (by first | exact hF | exact wideFn) (HS23.out) rfl (by kernel_rfl) (by kernel_rfl) (by kernel_rfl) (by kernel_rfl) rfl ?_ (by first | exact fun _ _ _ h => h | exact fun _ _ _ h => hQ2 _ _ _ _ _ h) ?_
                  rotate_left
                  · intro W hSW
                    simp only [glA, glB, glC]
                    (try dsimp only at hSW)
                    go_simp
                    with_reducible rfl
                  (try simp only [glA, glB, glC, Act.put, glD, glE, glF])
                  rw [HBA.out]
                  refine wpAnyJ_take 7 (v := ?_) (by first | exact hF | exact wideFn) (HS23.out) rfl (by kernel_rfl) (by kernel_rfl) (by kernel_rfl) (by kernel_rfl) rfl ?_ (by first | exact fun _ _ _ h => h | exact fun _ _ _ h => hQ2 _ _ _ _ _ h) ?_
                  rotate_left
                  · intro W hSW
                    simp only [glA, glB, glC]
                    (try dsimp only at hSW)
                    go_simp
                    with_reducible rfl
                  (try simp only [glA, glB, glC, Act.put, glD, glE, glF])
                  refine wpAnyJ_one 8 rfl (by kernel_rfl) (fun K hK => ?_)
                  simp only [glA, glB, glC]
                  go_simp
                  refine hK.out _ _ (fun h => absurd h (by rw [show lastOp _ _ _ = true from by kernel_rfl]; simp)) ?_
                  clear hK K
                  (try simp only [glA, glB, glC, Act.put, glD, glE, glF])
                  refine wpAnyJ_done (by kernel_rfl) ?_
                  have HV6 := hide (hVe.set_ tf (.int .i64 ((m tf &&& (BitVec.ofInt 64 tq).toNat : Nat) : Int)))
                  have HBW6 := hide (HBWe.out.setCell (p := ⟨V, tf, none⟩) (Nat.le_refl _) (.int .i64 ((m tf &&& (BitVec.ofInt 64 tq).toNat : Nat) : Int)))
                  clear cV fV lV hVe hTe HBWe HBA HS23
                  have hbt : (BitVec.ofInt 64 tq).toNat = (tq % 18446744073709551616).toNat := by simp [BitVec.toNat_ofInt]
                  rw [hbt] at HV6 HBW6
                  generalize (we.setCell ⟨V, tf, none⟩ (.int .i64 ((m tf &&& (tq % 18446744073709551616).toNat : Nat) : Int))) = wf at HV6 HBW6 ⊢
                  have HV7 : Hid (Blk wf V 90 #[.int .i64 ((wthL (evF fs) (ts.take (j + 1))) 0 : Nat), .int .i64 ((wthL (evF fs) (ts.take (j + 1))) 1 : Nat), .int .i64 ((wthL (evF fs) (ts.take (j + 1))) 2 : Nat), .int .i64 ((wthL (evF fs) (ts.take (j + 1))) 3 : Nat), .int .i64 ((wthL (evF fs) (ts.take (j + 1))) 4 : Nat)]) := hide (by
                    have h := HV6.out
                    rw [set5_set m htf] at h
                    rw [HNX.out]
                    unfold wthF
                    dsimp only
                    rw [show ((tf : Int)).toNat = tf by omega, hbt]
                    exact h)
                  have HTR2 : Hid ((ts.take (j + 1)).all (tstB nf (evF fs)) = true) := hide (all_take_succ _ ts HJT.out.1 (0, 0) (by rw [HJT.out.2]; exact HTST.out) HTR.out)
                  clear hbt HV6
                  go_wp2_with fail
                  go_roundw
                  case rel => exact ⟨j + 1, by omega, by go_num, HTR2, HBW6, HV7⟩
                  case measure => simp [intOf]; omega
                · have z1 : (z == 0) = false := by rw [beq_eq_false_iff_ne]; exact hz
                  have z2 : (z != 0) = true := by rw [bne_iff_ne]; exact hz
                  have HRL := hide (HRL.out.trans (all_take_no _ ts HJT.out.1 (0, 0) (by rw [HJT.out.2]; exact htst.trans z1)))
                  clear htst hz
                  go_wp2_with fail
                  go_ret2
                  exact OpPost.no (HS.out.trans (all_take_no _ rs HKR.out.1 r0 (by rw [HKR.out.2]; exact HRL.out))) (HO4.out.ext Bd.out).below
              · rw [decide_eq_false b8] at HWT
                have HWT := hide HWT
                have htst : tstB nf (evF fs) (f, tq) = false := by
                  unfold tstB
                  dsimp only
                  rw [decide_eq_false b8, Bool.false_and]
                have HRL := hide (HRL.out.trans (all_take_no _ ts HJT.out.1 (0, 0) (by rw [HJT.out.2]; exact htst)))
                have HS21 : Hid (∀ W, Below w4.heap.size w4 W → (W.cell? ⟨T, 0, none⟩ = some (.int .i64 f) ∧ W.cell? ⟨T, 1, none⟩ = some (.int .i64 tq)) ∧ W.cell? ⟨G, 0, none⟩ = some (.slice d.fa nf d.fc)) := hide fun W h =>
                  ⟨⟨(blk2 (hT.ext h)).2.1, (blk2 (hT.ext h)).2.2.1⟩, (blk3 (HO4.out.g.ext h)).2.1⟩
                clear hT b8 htst
                have Bd := hide ((Below.refl w4.heap.size w4).drew)
                refine wp_region_J (fun W : World => (W.cell? ⟨T, 0, none⟩ = some (.int .i64 f) ∧ W.cell? ⟨T, 1, none⟩ = some (.int .i64 tq)) ∧ W.cell? ⟨G, 0, none⟩ = some (.slice d.fa nf d.fc)) (by kernel_rfl) ?_
                generalize w4.drew = wd at Bd ⊢
                refine wpAnyJ_take 0 (v := ?_) (by first | exact hF | exact wideFn) (HS21.out _ Bd.out) rfl (by kernel_rfl) (by kernel_rfl) (by kernel_rfl) (by kernel_rfl) rfl ?_ (by first | exact fun _ _ _ h => h | exact fun _ _ _ h => hQ2 _ _ _ _ _ h) ?_
                rotate_left
                · intro W hSW
                  simp only [glA, glB, glC]
                  (try dsimp only at hSW)
                  go_simp
                  with_reducible rfl
                (try simp only [glA, glB, glC, Act.put, glD, glE, glF])
                refine wpAnyJ_take 1 (v := ?_) (by first | exact hF | exact wideFn) (HS21.out _ Bd.out) rfl (by kernel_rfl) (by kernel_rfl) (by kernel_rfl) (by kernel_rfl) rfl ?_ (by first | exact fun _ _ _ h => h | exact fun _ _ _ h => hQ2 _ _ _ _ _ h) ?_
                rotate_left
                · intro W hSW
                  simp only [glA, glB, glC]
                  (try dsimp only at hSW)
                  go_simp
                  with_reducible rfl
                (try simp only [glA, glB, glC, Act.put, glD, glE, glF])
                refine wpAnyJ_take 2 (v := ?_) (by first | exact hF | exact wideFn) (HS21.out _ Bd.out) rfl (by kernel_rfl) (by kernel_rfl) (by kernel_rfl) (by kernel_rfl) rfl ?_ (by first | exact fun _ _ _ h => h | exact fun _ _ _ h => hQ2 _ _ _ _ _ h) ?_
                rotate_left
                · intro W hSW
                  simp only [glA, glB, glC]
                  (try dsimp only at hSW)
                  go_simp
                  with_reducible rfl
                (try simp only [glA, glB, glC, Act.put, glD, glE, glF])
                refine wpAnyJ_take 3 (v := ?_) (by first | exact hF | exact wideFn) (HS21.out _ Bd.out) rfl (by kernel_rfl) (by kernel_rfl) (by kernel_rfl) (by kernel_rfl) rfl ?_ (by first | exact fun _ _ _ h => h | exact fun _ _ _ h => hQ2 _ _ _ _ _ h) ?_
                rotate_left
                · intro W hSW
                  simp only [glA, glB, glC]
                  (try dsimp only at hSW)
                  go_simp
                  with_reducible rfl
                (try simp only [glA, glB, glC, Act.put, glD, glE, glF])
                refine wpAnyJ_take 4 (v := ?_) (by first | exact hF | exact wideFn) (HS21.out _ Bd.out) rfl (by kernel_rfl) (by kernel_rfl) (by kernel_rfl) (by kernel_rfl) rfl ?_ (by first | exact fun _ _ _ h => h | exact fun _ _ _ h => hQ2 _ _ _ _ _ h) ?_
                rotate_left
                · intro W hSW
                  simp only [glA, glB, glC]
                  (try dsimp only at hSW)
                  go_simp
                  with_reducible rfl
                (try simp only [glA, glB, glC, Act.put, glD, glE, glF])
                refine wpAnyJ_take 5 (v := ?_) (by first | exact hF | exact wideFn) (HS21.out _ Bd.out) rfl (by kernel_rfl) (by kernel_rfl) (by kernel_rfl) (by kernel_rfl) rfl ?_ (by first | exact fun _ _ _ h => h | exact fun _ _ _ h => hQ2 _ _ _ _ _ h) ?_
                rotate_left
                · intro W hSW
                  simp only [glA, glB, glC]
                  (try dsimp only at hSW)
                  go_simp
                  with_reducible rfl
                (try simp only [glA, glB, glC, Act.put, glD, glE, glF])
                refine wpAnyJ_one 6 rfl (by kernel_rfl) (fun K hK => ?_)
                simp only [glA, glB, glC]
                go_simp
                refine ⟨trivial, rfl, ?_⟩
                (with_reducible refine (callsIn_wide.2 (HWT.out _)).mono ?_)
                rintro e w5 ⟨rfl, rfl⟩
                skip
                dsimp only
                refine hK.out _ _ (fun _ => HS21.out _ Bd.out) ?_
                clear hK K
                (try simp only [glA, glB, glC, Act.put, glD, glE, glF])
                refine wpAnyJ_take 7 (v := ?_) (by first | exact hF | exact wideFn) (HS21.out _ Bd.out) rfl (by kernel_rfl) (by kernel_rfl) (by kernel_rfl) (by kernel_rfl) rfl ?_ (by first | exact fun _ _ _ h => h | exact fun _ _ _ h => hQ2 _ _ _ _ _ h) ?_
                rotate_left
                · intro W hSW
                  simp only [glA, glB, glC]
                  (try dsimp only at hSW)
                  go_simp
                  with_reducible rfl
                (try simp only [glA, glB, glC, Act.put, glD, glE, glF])
                refine wpAnyJ_take 8 (v := ?_) (by first | exact hF | exact wideFn) (HS21.out _ Bd.out) rfl (by kernel_rfl) (by kernel_rfl) (by kernel_rfl) (by kernel_rfl) rfl ?_ (by first | exact fun _ _ _ h => h | exact fun _ _ _ h => hQ2 _ _ _ _ _ h) ?_
                rotate_left
                · intro W hSW
                  simp only [glA, glB, glC]
                  (try dsimp only at hSW)
                  go_simp
                  with_reducible rfl
                (try simp only [glA, glB, glC, Act.put, glD, glE, glF])
                refine wpAnyJ_skip 9 (by first | exact hF | exact wideFn) (HS21.out _ Bd.out) rfl (by kernel_rfl) (by kernel_rfl) (by kernel_rfl) (by kernel_rfl) rfl (by first | exact fun _ _ _ h => h | exact fun _ _ _ h => hQ2 _ _ _ _ _ h) ?_
                (try simp only [glA, glB, glC, Act.put, glD, glE, glF])
                refine wpAnyJ_skip 10 (by first | exact hF | exact wideFn) (HS21.out _ Bd.out) rfl (by kernel_rfl) (by kernel_rfl) (by kernel_rfl) (by kernel_rfl) rfl (by first | exact fun _ _ _ h => h | exact fun _ _ _ h => hQ2 _ _ _ _ _ h) ?_
                (try simp only [glA, glB, glC, Act.put, glD, glE, glF])
                refine wpAnyJ_skip 11 (by first | exact hF | exact wideFn) (HS21.out _ Bd.out) rfl (by kernel_rfl) (by kernel_rfl) (by kernel_rfl) (by kernel_rfl) rfl (by first | exact fun _ _ _ h => h | exact fun _ _ _ h => hQ2 _ _ _ _ _ h) ?_
                (try simp only [glA, glB, glC, Act.put, glD, glE, glF])
                refine wpAnyJ_skip 12 (by first | exact hF | exact wideFn) (HS21.out _ Bd.out) rfl (by kernel_rfl) (by kernel_rfl) (by kernel_rfl) (by kernel_rfl) rfl (by first | exact fun _ _ _ h => h | exact fun _ _ _ h => hQ2 _ _ _ _ _ h) ?_
                (try simp only [glA, glB, glC, Act.put, glD, glE, glF])
                refine wpAnyJ_skip 13 (by first | exact hF | exact wideFn) (HS21.out _ Bd.out) rfl (by kernel_rfl) (by kernel_rfl) (by kernel_rfl) (by kernel_rfl) rfl (by first | exact fun _ _ _ h => h | exact fun _ _ _ h => hQ2 _ _ _ _ _ h) ?_
                (try simp only [glA, glB, glC, Act.put, glD, glE, glF])
                refine wpAnyJ_skip 14 (by first | exact hF | exact wideFn) (HS21.out _ Bd.out) rfl (by kernel_rfl) (by kernel_rfl) (by kernel_rfl) (by kernel_rfl) rfl (by first | exact fun _ _ _ h => h | exact fun _ _ _ h => hQ2 _ _ _ _ _ h) ?_
                (try simp only [glA, glB, glC, Act.put, glD, glE, glF])
                refine wpAnyJ_skip 15 (by first | exact hF | exact wideFn) (HS21.out _ Bd.out) rfl (by kernel_rfl) (by kernel_rfl) (by kernel_rfl) (by kernel_rfl) rfl (by first | exact fun _ _ _ h => h | exact fun _ _ _ h => hQ2 _ _ _ _ _ h) ?_
                (try simp only [glA, glB, glC, Act.put, glD, glE, glF])
                refine wpAnyJ_skip 16 (by first | exact hF | exact wideFn) (HS21.out _ Bd.out) rfl (by kernel_rfl) (by kernel_rfl) (by kernel_rfl) (by kernel_rfl) rfl (by first | exact fun _ _ _ h => h | exact fun _ _ _ h => hQ2 _ _ _ _ _ h) ?_
                (try simp only [glA, glB, glC, Act.put, glD, glE, glF])
                refine wpAnyJ_take 17 (v := ?_) (by first | exact hF | exact wideFn) (HS21.out _ Bd.out) rfl (by kernel_rfl) (by kernel_rfl) (by kernel_rfl) (by kernel_rfl) rfl ?_ (by first | exact fun _ _ _ h => h | exact fun _ _ _ h => hQ2 _ _ _ _ _ h) ?_
                rotate_left
                · intro W hSW
                  simp only [glA, glB, glC]
                  (try dsimp only at hSW)
                  go_simp
                  with_reducible rfl
                (try simp only [glA, glB, glC, Act.put, glD, glE, glF])
                refine wpAnyJ_done (by kernel_rfl) ?_
                go_wp2_with fail
                go_ret2
                exact OpPost.no (HS.out.trans (all_take_no _ rs HKR.out.1 r0 (by rw [HKR.out.2]; exact HRL.out))) (HO4.out.ext Bd.out).below
              -- END5
            · -- BEGIN6
              obtain rfl : nt = j := by omega
              have hnlj : ¬ (nt : Int) < (nt : Int) := by omega
              have hall : ts.take nt = ts := List.take_of_length_le (by rw [HNT.out]; exact Nat.le_refl _)
              rw [hall] at HTR HV
              have HRT := hide (HRL.out.trans HTR.out)
              have HBX : Hid (Below w1.heap.size w1 wr) := hide (by rw [HVV.out]; exact HBW.out)
              have HO := hide (HO1.out.ext HBX.out)
              obtain ⟨m, hm⟩ : ∃ m, wthL (evF fs) ts = m := ⟨_, rfl⟩
              rw [hm] at HV
              have hset : setF ⟨fs, q, rs⟩ ⟨ts, ask, say⟩ = clnF m nf := by
                unfold setF
                dsimp only
                rw [hm, HN.out.1]
              have HSET := hide hset
              have hln : ((rs.take k).map (setF ⟨fs, q, rs⟩)).length = k := by
                rw [List.length_map, List.length_take, HN.out.2]; omega
              have hmp := map_take_succ (setF ⟨fs, q, rs⟩) rs HKR.out.1 r0
              rw [HKR.out.2, hset] at hmp
              have HMP := hide hmp
              obtain ⟨l, hl⟩ : ∃ l, (rs.take k).map (setF ⟨fs, q, rs⟩) = l := ⟨_, rfl⟩
              rw [hl] at HO HMP hln
              clear hall hm hset hmp hl
              go_upto_region 25 with fail
              have HOa := hide (HO.out.ext (Below.refl wr.heap.size wr).drew)
              have HVa := hide (HV.out.ext (Below.refl wr.heap.size wr).drew)
              have HBWa := hide (HBW.out.trans ((Below.refl wr.heap.size wr).drew.mono (by rw [← HVV.out]; exact HBX.out.size)))
              have hS : ∀ W, Blk W C 93 #[.slice d.fa nf d.fc, .int .i64 q, .slice d.ra nr d.rc, SV] → Blk W V 90 #[.int .i64 (m 0 : Nat), .int .i64 (m 1 : Nat), .int .i64 (m 2 : Nat), .int .i64 (m 3 : Nat), .int .i64 (m 4 : Nat)] → Blk W G 29 #[.slice d.fa nf d.fc, .int .i64 q, .slice d.ra nr d.rc] → W.cell? ⟨C, 3, none⟩ = some SV ∧ (W.cell? ⟨V, 0, none⟩ = some (.int .i64 (m 0 : Nat)) ∧ W.cell? ⟨V, 1, none⟩ = some (.int .i64 (m 1 : Nat)) ∧ W.cell? ⟨V, 2, none⟩ = some (.int .i64 (m 2 : Nat)) ∧ W.cell? ⟨V, 3, none⟩ = some (.int .i64 (m 3 : Nat)) ∧ W.cell? ⟨V, 4, none⟩ = some (.int .i64 (m 4 : Nat))) ∧ W.cell? ⟨G, 0, none⟩ = some (.slice d.fa nf d.fc) := fun W h1 h2 h3 =>
                ⟨by rw [h1.cell]; rfl, ⟨set5_at h2 (by omega), set5_at h2 (by omega), set5_at h2 (by omega), set5_at h2 (by omega), set5_at h2 (by omega)⟩, (blk3 h3).2.1⟩
              have HSF := hide hS
              clear HV HO HBW hS
              refine wp_region_K (pickS [4, 5, 7] (fun W : World => W.cell? ⟨C, 3, none⟩ = some SV ∧ (W.cell? ⟨V, 0, none⟩ = some (.int .i64 (m 0 : Nat)) ∧ W.cell? ⟨V, 1, none⟩ = some (.int .i64 (m 1 : Nat)) ∧ W.cell? ⟨V, 2, none⟩ = some (.int .i64 (m 2 : Nat)) ∧ W.cell? ⟨V, 3, none⟩ = some (.int .i64 (m 3 : Nat)) ∧ W.cell? ⟨V, 4, none⟩ = some (.int .i64 (m 4 : Nat))) ∧ W.cell? ⟨G, 0, none⟩ = some (.slice d.fa nf d.fc)) (fun _ => True)) (by kernel_rfl) ?_
              generalize wr.drew = wa at HOa HVa HBWa ⊢
              have HSA := hide (HSF.out _ HOa.out.c HVa.out HOa.out.g)
              refine wpAnyK_take 0 (v := ?_) (by first | exact hF | exact wideFn) trivial rfl (by kernel_rfl) (by kernel_rfl) (by kernel_rfl) (by kernel_rfl) rfl ?_ (by first | exact fun _ _ _ h => h | exact fun _ _ _ h => hQ2 _ _ _ _ _ h) ?_
              rotate_left
              · intro W hSW
                replace hSW : True := hSW
                simp only [glA, glB, glC]
                (try dsimp only at hSW)
                go_simp
                with_reducible rfl
              (try simp only [glA, glB, glC, Act.put, glD, glE, glF])
              refine wpAnyK_take 1 (v := ?_) (by first | exact hF | exact wideFn) trivial rfl (by kernel_rfl) (by kernel_rfl) (by kernel_rfl) (by kernel_rfl) rfl ?_ (by first | exact fun _ _ _ h => h | exact fun _ _ _ h => hQ2 _ _ _ _ _ h) ?_
              rotate_left
              · intro W hSW
                replace hSW : True := hSW
                simp only [glA, glB, glC]
                (try dsimp only at hSW)
                go_simp
                with_reducible rfl
              (try simp only [glA, glB, glC, Act.put, glD, glE, glF])
              refine wpAnyK_take 2 (v := ?_) (by first | exact hF | exact wideFn) trivial rfl (by kernel_rfl) (by kernel_rfl) (by kernel_rfl) (by kernel_rfl) rfl ?_ (by first | exact fun _ _ _ h => h | exact fun _ _ _ h => hQ2 _ _ _ _ _ h) ?_
              rotate_left
              · intro W hSW
                replace hSW : True := hSW
                simp only [glA, glB, glC]
                (try dsimp only at hSW)
                go_simp
                with_reducible rfl
              (try simp only [glA, glB, glC, Act.put, glD, glE, glF])
              refine wpAnyK_take 3 (v := ?_) (by first | exact hF | exact wideFn) trivial rfl (by kernel_rfl) (by kernel_rfl) (by kernel_rfl) (by kernel_rfl) rfl ?_ (by first | exact fun _ _ _ h => h | exact fun _ _ _ h => hQ2 _ _ _ _ _ h) ?_
              rotate_left
              · intro W hSW
                replace hSW : True := hSW
                simp only [glA, glB, glC]
                (try dsimp only at hSW)
                go_simp
                with_reducible rfl
              (try simp only [glA, glB, glC, Act.put, glD, glE, glF])
              refine wpAnyK_take 4 (v := ?_) (by first | exact hF | exact wideFn) (And.intro HSA.out trivial) rfl (by kernel_rfl) (by kernel_rfl) (by kernel_rfl) (by kernel_rfl) rfl ?_ (by first | exact fun _ _ _ h => h | exact fun _ _ _ h => hQ2 _ _ _ _ _ h) ?_
              rotate_left
              · intro W hSW
                replace hSW : ((W.cell? ⟨C, 3, none⟩ = some SV ∧ (W.cell? ⟨V, 0, none⟩ = some (.int .i64 (m 0 : Nat)) ∧ W.cell? ⟨V, 1, none⟩ = some (.int .i64 (m 1 : Nat)) ∧ W.cell? ⟨V, 2, none⟩ = some (.int .i64 (m 2 : Nat)) ∧ W.cell? ⟨V, 3, none⟩ = some (.int .i64 (m 3 : Nat)) ∧ W.cell? ⟨V, 4, none⟩ = some (.int .i64 (m 4 : Nat))) ∧ W.cell? ⟨G, 0, none⟩ = some (.slice d.fa nf d.fc)) ∧ True) := hSW
                simp only [glA, glB, glC]
                (try dsimp only at hSW)
                go_simp
                with_reducible rfl
              (try simp only [glA, glB, glC, Act.put, glD, glE, glF])
              refine wpAnyK_take 5 (v := ?_) (by first | exact hF | exact wideFn) (And.intro HSA.out trivial) rfl (by kernel_rfl) (by kernel_rfl) (by kernel_rfl) (by kernel_rfl) rfl ?_ (by first | exact fun _ _ _ h => h | exact fun _ _ _ h => hQ2 _ _ _ _ _ h) ?_
              rotate_left
              · intro W hSW
                replace hSW : ((W.cell? ⟨C, 3, none⟩ = some SV ∧ (W.cell? ⟨V, 0, none⟩ = some (.int .i64 (m 0 : Nat)) ∧ W.cell? ⟨V, 1, none⟩ = some (.int .i64 (m 1 : Nat)) ∧ W.cell? ⟨V, 2, none⟩ = some (.int .i64 (m 2 : Nat)) ∧ W.cell? ⟨V, 3, none⟩ = some (.int .i64 (m 3 : Nat)) ∧ W.cell? ⟨V, 4, none⟩ = some (.int .i64 (m 4 : Nat))) ∧ W.cell? ⟨G, 0, none⟩ = some (.slice d.fa nf d.fc)) ∧ True) := hSW
                simp only [glA, glB, glC]
                (try dsimp only at hSW)
                go_simp
                with_reducible rfl
              (try simp only [glA, glB, glC, Act.put, glD, glE, glF])
              refine wpAnyK_take 6 (v := ?_) (by first | exact hF | exact wideFn) trivial rfl (by kernel_rfl) (by kernel_rfl) (by kernel_rfl) (by kernel_rfl) rfl ?_ (by first | exact fun _ _ _ h => h | exact fun _ _ _ h => hQ2 _ _ _ _ _ h) ?_
              rotate_left
              · intro W hSW
                replace hSW : True := hSW
                simp only [glA, glB, glC]
                (try dsimp only at hSW)
                go_simp
                with_reducible rfl
              (try simp only [glA, glB, glC, Act.put, glD, glE, glF])
              refine wpAnyK_take 7 (v := ?_) (by first | exact hF | exact wideFn) (And.intro HSA.out trivial) rfl (by kernel_rfl) (by kernel_rfl) (by kernel_rfl) (by kernel_rfl) rfl ?_ (by first | exact fun _ _ _ h => h | exact fun _ _ _ h => hQ2 _ _ _ _ _ h) ?_
              rotate_left
              · intro W hSW
                replace hSW : ((W.cell? ⟨C, 3, none⟩ = some SV ∧ (W.cell? ⟨V, 0, none⟩ = some (.int .i64 (m 0 : Nat)) ∧ W.cell? ⟨V, 1, none⟩ = some (.int .i64 (m 1 : Nat)) ∧ W.cell? ⟨V, 2, none⟩ = some (.int .i64 (m 2 : Nat)) ∧ W.cell? ⟨V, 3, none⟩ = some (.int .i64 (m 3 : Nat)) ∧ W.cell? ⟨V, 4, none⟩ = some (.int .i64 (m 4 : Nat))) ∧ W.cell? ⟨G, 0, none⟩ = some (.slice d.fa nf d.fc)) ∧ True) := hSW
                simp only [glA, glB, glC]
                (try dsimp only at hSW)
                go_simp
                with_reducible rfl
              (try simp only [glA, glB, glC, Act.put, glD, glE, glF])
              refine wpAnyK_take 8 (v := ?_) (by first | exact hF | exact wideFn) trivial rfl (by kernel_rfl) (by kernel_rfl) (by kernel_rfl) (by kernel_rfl) rfl ?_ (by first | exact fun _ _ _ h => h | exact fun _ _ _ h => hQ2 _ _ _ _ _ h) ?_
              rotate_left
              · intro W hSW
                replace hSW : True := hSW
                simp only [glA, glB, glC]
                (try dsimp only at hSW)
                go_simp
                with_reducible rfl
              (try simp only [glA, glB, glC, Act.put, glD, glE, glF])
              have hnf5 : nf ≤ 5 := by omega
              have hlen := hln
              refine wpAnyK_one 9 rfl (by kernel_rfl) (fun K hK => ?_)
              simp only [glA, glB, glC]
              go_simp
              refine ⟨trivial, rfl, ?_⟩
              (with_reducible refine (callsIn_wide.2 (clean_any m nf _ hnf5)).mono ?_)
              rintro e wx ⟨rfl, hbx⟩
              (have HOx := hide (HOa.out.ext hbx); have HVx := hide (HVa.out.ext hbx); have HSB := hide (HSF.out _ HOx.out.c HVx.out HOx.out.g); have HBWx := hide (HBWa.out.trans (hbx.mono (by have h2 := HBWa.out.size; rw [HVV.out] at h2; exact h2))))
              dsimp only
              refine hK.out _ _ (.inr (pickS_all HSB.out trivial)) ?_
              clear hK K
              (try simp only [glA, glB, glC, Act.put, glD, glE, glF])
              obtain ⟨A7, c7, w7, hrun, hO7, hkk, hC7, hG7⟩ := HOx.out.put (clnF m nf) (by omega)
              have hBA : Below wx.heap.size wx (wx.alloc (.cells #[.int .i64 ((clnF m nf) 0 : Nat), .int .i64 ((clnF m nf) 1 : Nat), .int .i64 ((clnF m nf) 2 : Nat), .int .i64 ((clnF m nf) 3 : Nat), .int .i64 ((clnF m nf) 4 : Nat)] 90)) := (Below.refl _ _).alloc (Nat.le_refl _) _
              have HSC := hide (HSF.out _ (HOx.out.c.ext hBA) (HVx.out.ext hBA) (HOx.out.g.ext hBA))
              have HSD := hide (HSF.out _ hC7 (hkk _ _ _ HVx.out HVS.out) hG7)
              have HRUN := hide hrun
              have HO7 := hide hO7
              have lC := hC7.lt
              have fC := hC7.frozen 3
              clear hrun hO7 hkk hG7 hBA
              refine wpAnyK_one 10 rfl (by kernel_rfl) (fun K hK => ?_)
              simp only [glA, glB, glC]
              go_simp
              refine hK.out _ _ (.inr (pickS_all HSC.out trivial)) ?_
              clear hK K
              (try simp only [glA, glB, glC, Act.put, glD, glE, glF])
              refine wpAnyK_one 11 rfl (by kernel_rfl) (fun K hK => ?_)
              rw [if_pos (by rfl)]
              refine wpIn_append_run (.tmp 115) (.tmp 121) 91 (by first | exact hF | exact wideFn) rfl rfl rfl HRUN.out ?_
              refine hK.out _ _ (.inr (pickS_all HSD.out trivial)) ?_
              clear hK K
              (try simp only [glA, glB, glC, Act.put, glD, glE, glF])
              refine wpAnyK_take 12 (v := ?_) (by first | exact hF | exact wideFn) trivial rfl (by kernel_rfl) (by kernel_rfl) (by kernel_rfl) (by kernel_rfl) rfl ?_ (by first | exact fun _ _ _ h => h | exact fun _ _ _ h => hQ2 _ _ _ _ _ h) ?_
              rotate_left
              · intro W hSW
                replace hSW : True := hSW
                simp only [glA, glB, glC]
                (try dsimp only at hSW)
                go_simp
                with_reducible rfl
              (try simp only [glA, glB, glC, Act.put, glD, glE, glF])
              refine wpAnyK_take 13 (v := ?_) (by first | exact hF | exact wideFn) trivial rfl (by kernel_rfl) (by kernel_rfl) (by kernel_rfl) (by kernel_rfl) rfl ?_ (by first | exact fun _ _ _ h => h | exact fun _ _ _ h => hQ2 _ _ _ _ _ h) ?_
              rotate_left
              · intro W hSW
                replace hSW : True := hSW
                simp only [glA, glB, glC]
                (try dsimp only at hSW)
                go_simp
                with_reducible rfl
              (try simp only [glA, glB, glC, Act.put, glD, glE, glF])
              have cC := HSD.out.1
              refine wpAnyK_one 14 rfl (by kernel_rfl) (fun K hK => ?_)
              simp only [glA, glB, glC]
              go_simp
              refine hK.out _ _ (.inr (pickS_need (by kernel_rfl) trivial)) ?_
              clear hK K
              (try simp only [glA, glB, glC, Act.put, glD, glE, glF])
              refine wpAnyK_done (by kernel_rfl) ?_
              rw [hlen] at HO7
              clear cC lC fC hC7 hlen hln
              generalize (w7.setCell ⟨C, 3, none⟩ (.slice A7 (k + 1) c7)) = w8 at HO7 ⊢
              go_wp2_with fail
              go_roundw
              case rel => exact ⟨k + 1, _, by omega, by go_num, hide (all_take_succ _ rs HKR.out.1 r0 (by rw [HKR.out.2]; exact HRT.out) HR.out), hide (by rw [HMP.out]; exact HO7.out)⟩
              case measure => simp [intOf]; omega
              -- END6
          -- END3
        · -- BEGIN4
          obtain rfl : nr = k := by omega
          have hnlr : ¬ (nr : Int) < (nr : Int) := by omega
          have hall : rs.take nr = rs := List.take_of_length_le (by rw [HN.out.2]; exact Nat.le_refl _)
          rw [hall] at HR HO
          obtain ⟨SA, sc, hsv⟩ := own_shape HO.out.own
          rw [List.length_map, HN.out.2] at hsv
          subst hsv
          have HF := hide (HS.out.trans HR.out)
          clear hall
          go_wp2_with fail
          go_ret2
          unfold OpPost
          rw [if_pos HF.out]
          refine ⟨C, SA, sc, rfl, HO.out.below, HO.out.loC, ?_, ?_⟩
          · dsimp only
            rw [HN.out.1, HN.out.2]
            exact HO.out.c
          · dsimp only
            rw [HN.out.2]
            exact ownMono HO.out.own (Nat.le_succ_of_le HO.out.lo)
          -- END4
      -- END2
end Go.Proofs.YtfbnpiafoaoddaaDoor
/- School: the code of a school, as it is read; what decide's closures say. -/
namespace Go.Proofs.YtfbnpiafoaoddaaDoor
open List renaming getElem_toArray → glA, getElem_cons_zero → glB, getElem_cons_succ → glC, setIfInBounds_toArray → glD, set_cons_zero → glE, set_cons_succ → glF
open Go Go.RowKit Go.Shelf
set_option maxHeartbeats 2000000
set_option maxRecDepth 100000
theorem indexFunc_int (g : FuncId) (lb : Array Value) (p : Nat → Bool) (A : Option Addr) (n c : Nat) (u : Nat → Value) (w : World) (hn : n ≤ maxLen) (hR : ER w w.heap.size 1 A n fun k _ => u k)
    (eg : ∀ args w, (callFunc g args).run Tryd.prog w = .ok (.enter g args) w)
    (hp : ∀ W k, k < n → Below w.heap.size w W → Calls Tryd.prog g (#[u k] ++ lb) W fun e W' => e = .returned (.bool (p k)) ∧ Below W.heap.size W W') :
    Calls Tryd.prog 47 #[.slice A n c, .func (.func g) #[] lb] w fun e w' => e = .returned (.int .i64 (idx p n)) ∧ Below w.heap.size w w' := by
  unfold maxLen at hn
  have HP := hide hp
  clear hp
  go_enter Tryd.func47, Tryd.ntmps47
  go_wp2
  go_loopw [8] (fun i wr => ∃ k : Nat, k ≤ n ∧ i = .int .i64 k ∧ idx p k = -1 ∧ Below w.heap.size w wr) (fun i _ => n - (intOf i).toNat)
  case atStart => exact ⟨0, Nat.zero_le _, rfl, rfl, Below.refl _ _⟩
  case round =>
    obtain ⟨k, hk, rfl, hx, hB⟩ := hrel
    have HX := hide hx
    clear hx
    by_cases hlt : k < n
    · obtain ⟨b, off, rfl, hb, hc⟩ := VR1.at_ (hR.below hB (Nat.le_refl _)) hlt
      cases hpk : p k with
      | true =>
        have hpk' := hide hpk
        clear hpk
        have H := HP.out wr k hlt hB
        rw [hpk'.out] at H
        have H' := hide H
        clear H
        go_wp2_with ((with_reducible refine H'.out.mono ?_); rintro e w' ⟨rfl, hb1⟩)
        go_ret
        refine ⟨ret_int ?_, hB.trans (hb1.mono hB.size)⟩
        rw [idx_stable p (k+1) n (by simp [idx, HX.out, hpk'.out]) (by omega)]
        simp [idx, HX.out, hpk'.out]
      | false =>
        have hpk' := hide hpk
        clear hpk
        have H := HP.out wr k hlt hB
        rw [hpk'.out] at H
        have H' := hide H
        clear H
        go_wp2_with ((with_reducible refine H'.out.mono ?_); rintro e w' ⟨rfl, hb1⟩)
        go_roundw
        case rel => exact ⟨k + 1, by omega, by go_num, by simp [idx, HX.out, hpk'.out], hB.trans (hb1.mono hB.size)⟩
        case measure => simp [intOf]; omega
    · obtain rfl : k = n := by omega
      go_wp2
      go_ret
      exact ⟨ret_int HX.out.symm, hB⟩
theorem containsFunc_int (g : FuncId) (lb : Array Value) (p : Nat → Bool) (A : Option Addr) (n c : Nat) (u : Nat → Value) (w : World) (hn : n ≤ maxLen) (hR : ER w w.heap.size 1 A n fun k _ => u k)
    (eg : ∀ args w, (callFunc g args).run Tryd.prog w = .ok (.enter g args) w)
    (hp : ∀ W k, k < n → Below w.heap.size w W → Calls Tryd.prog g (#[u k] ++ lb) W fun e W' => e = .returned (.bool (p k)) ∧ Below W.heap.size W W') :
    Calls Tryd.prog 33 #[.slice A n c, .func (.func g) #[] lb] w fun e w' => e = .returned (.bool (anyTo p n)) ∧ Below w.heap.size w w' := by
  have H := hide (indexFunc_int g lb p A n c u w hn hR eg hp)
  clear hp hR hn eg
  go_enter Tryd.func33, Tryd.ntmps33
  go_wp2_with ((with_reducible refine H.out.mono ?_); rintro e w' ⟨rfl, hb1⟩)
  go_ret
  exact ⟨ret_bool (idx_any p n), hb1⟩
/-- the code of a school that is read -/
structure CR (W : World) (B : Nat) (C : Nat) (d : Ad_) (SA : Option Addr) (sc : Nat) (s : Sch) (st : Nat → Nat → Nat) : Prop where
  lt : C < B
  c0 : W.cell? ⟨C, 0, none⟩ = some (.slice d.fa s.fs.length d.fc)
  c1 : W.cell? ⟨C, 1, none⟩ = some (.int .i64 s.q)
  c2 : W.cell? ⟨C, 2, none⟩ = some (.slice d.ra s.rs.length d.rc)
  c3 : W.cell? ⟨C, 3, none⟩ = some (.slice SA s.rs.length sc)
  scr : ScR W B d s
  st : ER W B 5 SA s.rs.length fun k i => .int .i64 (st k i : Nat)
theorem CR.below {W W' : World} {C : Nat} {d : Ad_} {SA : Option Addr} {sc : Nat} {s : Sch} {st : Nat → Nat → Nat} (h : CR W W.heap.size C d SA sc s st) (hb : Below W.heap.size W W') : CR W' W'.heap.size C d SA sc s st :=
  ⟨Nat.lt_of_lt_of_le h.lt hb.size, (hb.cell (p := ⟨C, 0, none⟩) h.lt).trans h.c0, (hb.cell (p := ⟨C, 1, none⟩) h.lt).trans h.c1, (hb.cell (p := ⟨C, 2, none⟩) h.lt).trans h.c2, (hb.cell (p := ⟨C, 3, none⟩) h.lt).trans h.c3, h.scr.below hb, (ER.below h.st hb (Nat.le_refl _)).more hb.size⟩
/-- the sets of a school's rules -/
def stF (s : Sch) (k : Nat) : Nat → Nat := setF s (s.rs.getD k r0)
theorem CodeB.cr {w W : World} {C : Nat} {d : Ad_} {SA : Option Addr} {sc : Nat} {s : Sch} (h : CodeB w W C d SA sc s) (hd : ScR w w.heap.size d s) : CR W W.heap.size C d SA sc s (stF s) := by
  refine ⟨h.blk.lt, by rw [h.blk.cell]; rfl, by rw [h.blk.cell]; rfl, by rw [h.blk.cell]; rfl, by rw [h.blk.cell]; rfl, hd.below h.below, fun hn => ?_⟩
  have hl : (s.rs.map (setF s)).length = s.rs.length := List.length_map _
  obtain ⟨-, g, hA, hg, -, -⟩ := h.own.cell (k := 0) (by rw [hl]; exact hn)
  refine ⟨g, 0, hA, hg, fun k i hk hi => ?_⟩
  obtain ⟨-, g', hA', -, -, hc⟩ := h.own.cell (k := k) (by rw [hl]; exact hk)
  rw [hA] at hA'
  injection hA' with hA'
  injection hA' with hA'
  subst hA'
  rw [show 0 + k * 5 + i = k * 5 + i by omega, hc i hi]
  have e : (s.rs.map (setF s)).getD k s0 = stF s k := by
    unfold stF
    rw [List.getD_eq_getElem?_getD, List.getD_eq_getElem?_getD, List.getElem?_map, List.getElem?_eq_getElem hk]
    rfl
  rw [e]
theorem decide1_any (P I C : Nat) (d : Ad_) (SA : Option Addr) (sc : Nat) (s : Sch) (st : Nat → Nat → Nat) (i j : Nat) (w : World) (hP : P < w.heap.size) (hI : I < w.heap.size) (cP : w.cell? ⟨P, 0, none⟩ = some (.pointer (some ⟨C, 0, none⟩))) (cI : w.cell? ⟨I, 0, none⟩ = some (.int .i64 (i : Nat))) (h : CR w w.heap.size C d SA sc s st) (hst : ∀ k x, st k x < 65536) (hnr : s.rs.length ≤ maxLen) (hi : i < s.rs.length) (hj : j < s.rs.length) :
    Calls Tryd.prog 34 #[.int .i64 (j : Nat), .pointer (some ⟨P, 0, none⟩), .pointer (some ⟨I, 0, none⟩)] w fun e w' => e = .returned (.bool (spc (st j) (st i))) ∧ Below w.heap.size w w' := by
  obtain ⟨sb, so, rfl, hsb, hsc⟩ := h.st (by omega)
  unfold maxLen at hnr
  have hc3 := h.c3
  have hC := h.lt
  obtain ⟨nr, hn⟩ : ∃ n, s.rs.length = n := ⟨_, rfl⟩
  rw [hn] at hc3 hi hj hsc hnr
  obtain ⟨a, ha⟩ : ∃ a, st j = a := ⟨_, rfl⟩
  obtain ⟨b, hb⟩ : ∃ a, st i = a := ⟨_, rfl⟩
  have HSP : Hid (∀ W, Calls Tryd.prog 35 #[(.agg #[.int .i64 (a 0 : Nat), .int .i64 (a 1 : Nat), .int .i64 (a 2 : Nat), .int .i64 (a 3 : Nat), .int .i64 (a 4 : Nat)]), (.agg #[.int .i64 (b 0 : Nat), .int .i64 (b 1 : Nat), .int .i64 (b 2 : Nat), .int .i64 (b 3 : Nat), .int .i64 (b 4 : Nat)])] W fun e w' => e = .returned (.bool (spc a b)) ∧ Below W.heap.size W w') := hide fun W => special_any a b W (fun k => ha ▸ hst j k) (fun k => hb ▸ hst i k)
  have HS : Hid (∀ W, Below w.heap.size w W → (W.cell? ⟨P, 0, none⟩ = some (.pointer (some ⟨C, 0, none⟩)) ∧ W.cell? ⟨I, 0, none⟩ = some (.int .i64 (i : Nat)) ∧ W.cell? ⟨C, 3, none⟩ = some (.slice (some ⟨sb, so, none⟩) nr sc)) ∧
  (W.cell? ⟨sb, so + j * 5, none⟩ = some (.int .i64 (a 0 : Nat)) ∧ W.cell? ⟨sb, so + j * 5 + 1, none⟩ = some (.int .i64 (a 1 : Nat)) ∧ W.cell? ⟨sb, so + j * 5 + 2, none⟩ = some (.int .i64 (a 2 : Nat)) ∧ W.cell? ⟨sb, so + j * 5 + 3, none⟩ = some (.int .i64 (a 3 : Nat)) ∧ W.cell? ⟨sb, so + j * 5 + 4, none⟩ = some (.int .i64 (a 4 : Nat))) ∧
  (W.cell? ⟨sb, so + i * 5, none⟩ = some (.int .i64 (b 0 : Nat)) ∧ W.cell? ⟨sb, so + i * 5 + 1, none⟩ = some (.int .i64 (b 1 : Nat)) ∧ W.cell? ⟨sb, so + i * 5 + 2, none⟩ = some (.int .i64 (b 2 : Nat)) ∧ W.cell? ⟨sb, so + i * 5 + 3, none⟩ = some (.int .i64 (b 3 : Nat)) ∧ W.cell? ⟨sb, so + i * 5 + 4, none⟩ = some (.int .i64 (b 4 : Nat)))) := hide (fun W hB => by
    refine ⟨⟨(hB.cell (p := ⟨P, 0, none⟩) hP).trans cP, (hB.cell (p := ⟨I, 0, none⟩) hI).trans cI, (hB.cell (p := ⟨C, 3, none⟩) hC).trans hc3⟩, ?_, ?_⟩
    · subst ha
      exact ⟨(hB.cell (p := ⟨sb, so + j * 5, none⟩) hsb).trans (hsc j 0 hj (by omega)), (hB.cell (p := ⟨sb, so + j * 5 + 1, none⟩) hsb).trans (hsc j 1 hj (by omega)), (hB.cell (p := ⟨sb, so + j * 5 + 2, none⟩) hsb).trans (hsc j 2 hj (by omega)), (hB.cell (p := ⟨sb, so + j * 5 + 3, none⟩) hsb).trans (hsc j 3 hj (by omega)), (hB.cell (p := ⟨sb, so + j * 5 + 4, none⟩) hsb).trans (hsc j 4 hj (by omega))⟩
    · subst hb
      exact ⟨(hB.cell (p := ⟨sb, so + i * 5, none⟩) hsb).trans (hsc i 0 hi (by omega)), (hB.cell (p := ⟨sb, so + i * 5 + 1, none⟩) hsb).trans (hsc i 1 hi (by omega)), (hB.cell (p := ⟨sb, so + i * 5 + 2, none⟩) hsb).trans (hsc i 2 hi (by omega)), (hB.cell (p := ⟨sb, so + i * 5 + 3, none⟩) hsb).trans (hsc i 3 hi (by omega)), (hB.cell (p := ⟨sb, so + i * 5 + 4, none⟩) hsb).trans (hsc i 4 hi (by omega))⟩)
  rw [ha, hb]
  clear ha hb hst hsc h cP cI hc3 hn hP hI hsb hC
  have i0 : (0 : Int) ≤ (i : Int) := by omega
  have i1 : (i : Int) < (nr : Int) := by omega
  have j0 : (0 : Int) ≤ (j : Int) := by omega
  have j1 : (j : Int) < (nr : Int) := by omega
  go_enter Tryd.func34, Tryd.ntmps34
  go_upto_region 1 with fail
  have Bd := hide ((Below.refl w.heap.size w).drew)
  refine wp_region_J (fun W : World => (W.cell? ⟨P, 0, none⟩ = some (.pointer (some ⟨C, 0, none⟩)) ∧ W.cell? ⟨I, 0, none⟩ = some (.int .i64 (i : Nat)) ∧ W.cell? ⟨C, 3, none⟩ = some (.slice (some ⟨sb, so, none⟩) nr sc)) ∧
  (W.cell? ⟨sb, so + j * 5, none⟩ = some (.int .i64 (a 0 : Nat)) ∧ W.cell? ⟨sb, so + j * 5 + 1, none⟩ = some (.int .i64 (a 1 : Nat)) ∧ W.cell? ⟨sb, so + j * 5 + 2, none⟩ = some (.int .i64 (a 2 : Nat)) ∧ W.cell? ⟨sb, so + j * 5 + 3, none⟩ = some (.int .i64 (a 3 : Nat)) ∧ W.cell? ⟨sb, so + j * 5 + 4, none⟩ = some (.int .i64 (a 4 : Nat))) ∧
  (W.cell? ⟨sb, so + i * 5, none⟩ = some (.int .i64 (b 0 : Nat)) ∧ W.cell? ⟨sb, so + i * 5 + 1, none⟩ = some (.int .i64 (b 1 : Nat)) ∧ W.cell? ⟨sb, so + i * 5 + 2, none⟩ = some (.int .i64 (b 2 : Nat)) ∧ W.cell? ⟨sb, so + i * 5 + 3, none⟩ = some (.int .i64 (b 3 : Nat)) ∧ W.cell? ⟨sb, so + i * 5 + 4, none⟩ = some (.int .i64 (b 4 : Nat)))) (by kernel_rfl) ?_
  generalize w.drew = wd at Bd ⊢
  refine wpAnyJ_take 0 (v := ?_) (by first | exact hF | exact wideFn) (HS.out _ Bd.out) rfl (by kernel_rfl) (by kernel_rfl) (by kernel_rfl) (by kernel_rfl) rfl ?_ (by first | exact fun _ _ _ h => h | exact fun _ _ _ h => hQ2 _ _ _ _ _ h) ?_
  rotate_left
  · intro W hSW
    simp only [glA, glB, glC]
    (try dsimp only at hSW)
    go_simp
    with_reducible rfl
  (try simp only [glA, glB, glC, Act.put, glD, glE, glF])
  refine wpAnyJ_take 1 (v := ?_) (by first | exact hF | exact wideFn) (HS.out _ Bd.out) rfl (by kernel_rfl) (by kernel_rfl) (by kernel_rfl) (by kernel_rfl) rfl ?_ (by first | exact fun _ _ _ h => h | exact fun _ _ _ h => hQ2 _ _ _ _ _ h) ?_
  rotate_left
  · intro W hSW
    simp only [glA, glB, glC]
    (try dsimp only at hSW)
    go_simp
    with_reducible rfl
  (try simp only [glA, glB, glC, Act.put, glD, glE, glF])
  refine wpAnyJ_take 2 (v := ?_) (by first | exact hF | exact wideFn) (HS.out _ Bd.out) rfl (by kernel_rfl) (by kernel_rfl) (by kernel_rfl) (by kernel_rfl) rfl ?_ (by first | exact fun _ _ _ h => h | exact fun _ _ _ h => hQ2 _ _ _ _ _ h) ?_
  rotate_left
  · intro W hSW
    simp only [glA, glB, glC]
    (try dsimp only at hSW)
    go_simp
    with_reducible rfl
  (try simp only [glA, glB, glC, Act.put, glD, glE, glF])
  refine wpAnyJ_take 3 (v := ?_) (by first | exact hF | exact wideFn) (HS.out _ Bd.out) rfl (by kernel_rfl) (by kernel_rfl) (by kernel_rfl) (by kernel_rfl) rfl ?_ (by first | exact fun _ _ _ h => h | exact fun _ _ _ h => hQ2 _ _ _ _ _ h) ?_
  rotate_left
  · intro W hSW
    simp only [glA, glB, glC]
    (try dsimp only at hSW)
    go_simp
    with_reducible rfl
  (try simp only [glA, glB, glC, Act.put, glD, glE, glF])
  refine wpAnyJ_take 4 (v := ?_) (by first | exact hF | exact wideFn) (HS.out _ Bd.out) rfl (by kernel_rfl) (by kernel_rfl) (by kernel_rfl) (by kernel_rfl) rfl ?_ (by first | exact fun _ _ _ h => h | exact fun _ _ _ h => hQ2 _ _ _ _ _ h) ?_
  rotate_left
  · intro W hSW
    simp only [glA, glB, glC]
    (try dsimp only at hSW)
    go_simp
    with_reducible rfl
  (try simp only [glA, glB, glC, Act.put, glD, glE, glF])
  refine wpAnyJ_take 5 (v := ?_) (by first | exact hF | exact wideFn) (HS.out _ Bd.out) rfl (by kernel_rfl) (by kernel_rfl) (by kernel_rfl) (by kernel_rfl) rfl ?_ (by first | exact fun _ _ _ h => h | exact fun _ _ _ h => hQ2 _ _ _ _ _ h) ?_
  rotate_left
  · intro W hSW
    simp only [glA, glB, glC]
    (try dsimp only at hSW)
    go_simp
    with_reducible rfl
  (try simp only [glA, glB, glC, Act.put, glD, glE, glF])
  refine wpAnyJ_take 6 (v := ?_) (by first | exact hF | exact wideFn) (HS.out _ Bd.out) rfl (by kernel_rfl) (by kernel_rfl) (by kernel_rfl) (by kernel_rfl) rfl ?_ (by first | exact fun _ _ _ h => h | exact fun _ _ _ h => hQ2 _ _ _ _ _ h) ?_
  rotate_left
  · intro W hSW
    simp only [glA, glB, glC]
    (try dsimp only at hSW)
    go_simp
    with_reducible rfl
  (try simp only [glA, glB, glC, Act.put, glD, glE, glF])
  refine wpAnyJ_take 7 (v := ?_) (by first | exact hF | exact wideFn) (HS.out _ Bd.out) rfl (by kernel_rfl) (by kernel_rfl) (by kernel_rfl) (by kernel_rfl) rfl ?_ (by first | exact fun _ _ _ h => h | exact fun _ _ _ h => hQ2 _ _ _ _ _ h) ?_
  rotate_left
  · intro W hSW
    simp only [glA, glB, glC]
    (try dsimp only at hSW)
    go_simp
    with_reducible rfl
  (try simp only [glA, glB, glC, Act.put, glD, glE, glF])
  refine wpAnyJ_take 8 (v := ?_) (by first | exact hF | exact wideFn) (HS.out _ Bd.out) rfl (by kernel_rfl) (by kernel_rfl) (by kernel_rfl) (by kernel_rfl) rfl ?_ (by first | exact fun _ _ _ h => h | exact fun _ _ _ h => hQ2 _ _ _ _ _ h) ?_
  rotate_left
  · intro W hSW
    simp only [glA, glB, glC]
    (try dsimp only at hSW)
    go_simp
    with_reducible rfl
  (try simp only [glA, glB, glC, Act.put, glD, glE, glF])
  refine wpAnyJ_take 9 (v := ?_) (by first | exact hF | exact wideFn) (HS.out _ Bd.out) rfl (by kernel_rfl) (by kernel_rfl) (by kernel_rfl) (by kernel_rfl) rfl ?_ (by first | exact fun _ _ _ h => h | exact fun _ _ _ h => hQ2 _ _ _ _ _ h) ?_
  rotate_left
  · intro W hSW
    simp only [glA, glB, glC]
    (try dsimp only at hSW)
    go_simp
    with_reducible rfl
  (try simp only [glA, glB, glC, Act.put, glD, glE, glF])
  refine wpAnyJ_take 10 (v := ?_) (by first | exact hF | exact wideFn) (HS.out _ Bd.out) rfl (by kernel_rfl) (by kernel_rfl) (by kernel_rfl) (by kernel_rfl) rfl ?_ (by first | exact fun _ _ _ h => h | exact fun _ _ _ h => hQ2 _ _ _ _ _ h) ?_
  rotate_left
  · intro W hSW
    simp only [glA, glB, glC]
    (try dsimp only at hSW)
    go_simp
    with_reducible rfl
  (try simp only [glA, glB, glC, Act.put, glD, glE, glF])
  refine wpAnyJ_take 11 (v := ?_) (by first | exact hF | exact wideFn) (HS.out _ Bd.out) rfl (by kernel_rfl) (by kernel_rfl) (by kernel_rfl) (by kernel_rfl) rfl ?_ (by first | exact fun _ _ _ h => h | exact fun _ _ _ h => hQ2 _ _ _ _ _ h) ?_
  rotate_left
  · intro W hSW
    simp only [glA, glB, glC]
    (try dsimp only at hSW)
    go_simp
    with_reducible rfl
  (try simp only [glA, glB, glC, Act.put, glD, glE, glF])
  refine wpAnyJ_take 12 (v := ?_) (by first | exact hF | exact wideFn) (HS.out _ Bd.out) rfl (by kernel_rfl) (by kernel_rfl) (by kernel_rfl) (by kernel_rfl) rfl ?_ (by first | exact fun _ _ _ h => h | exact fun _ _ _ h => hQ2 _ _ _ _ _ h) ?_
  rotate_left
  · intro W hSW
    simp only [glA, glB, glC]
    (try dsimp only at hSW)
    go_simp
    with_reducible rfl
  (try simp only [glA, glB, glC, Act.put, glD, glE, glF])
  refine wpAnyJ_take 13 (v := ?_) (by first | exact hF | exact wideFn) (HS.out _ Bd.out) rfl (by kernel_rfl) (by kernel_rfl) (by kernel_rfl) (by kernel_rfl) rfl ?_ (by first | exact fun _ _ _ h => h | exact fun _ _ _ h => hQ2 _ _ _ _ _ h) ?_
  rotate_left
  · intro W hSW
    simp only [glA, glB, glC]
    (try dsimp only at hSW)
    go_simp
    with_reducible rfl
  (try simp only [glA, glB, glC, Act.put, glD, glE, glF])
  refine wpAnyJ_one 14 rfl (by kernel_rfl) (fun K hK => ?_)
  simp only [glA, glB, glC]
  go_simp
  refine ⟨trivial, rfl, ?_⟩
  (with_reducible refine (callsIn_wide.2 (HSP.out _)).mono ?_)
  rintro e w5 ⟨rfl, hb5⟩
  have Be := hide (Bd.out.trans (hb5.mono Bd.out.size))
  dsimp only
  refine hK.out _ _ (fun _ => HS.out _ Be.out) ?_
  clear hK K
  (try simp only [glA, glB, glC, Act.put, glD, glE, glF])
  refine wpAnyJ_take 15 (v := ?_) (by first | exact hF | exact wideFn) (HS.out _ Be.out) rfl (by kernel_rfl) (by kernel_rfl) (by kernel_rfl) (by kernel_rfl) rfl ?_ (by first | exact fun _ _ _ h => h | exact fun _ _ _ h => hQ2 _ _ _ _ _ h) ?_
  rotate_left
  · intro W hSW
    simp only [glA, glB, glC]
    (try dsimp only at hSW)
    go_simp
    with_reducible rfl
  (try simp only [glA, glB, glC, Act.put, glD, glE, glF])
  refine wpAnyJ_done (by kernel_rfl) ?_
  go_wp2_with fail
  go_ret
  exact ⟨rfl, Be.out⟩
theorem decide2_any (P I C : Nat) (d : Ad_) (SA : Option Addr) (sc : Nat) (s : Sch) (st : Nat → Nat → Nat) (say : Int) (j : Nat) (w : World) (hP : P < w.heap.size) (hI : I < w.heap.size) (cP : w.cell? ⟨P, 0, none⟩ = some (.pointer (some ⟨C, 0, none⟩))) (cI : w.cell? ⟨I, 0, none⟩ = some (.int .i64 say)) (h : CR w w.heap.size C d SA sc s st) (hnr : s.rs.length ≤ maxLen) (hj : j < s.rs.length) :
    Calls Tryd.prog 36 #[.int .i64 (j : Nat), .pointer (some ⟨P, 0, none⟩), .pointer (some ⟨I, 0, none⟩)] w fun e w' => e = .returned (.bool ((s.rs.getD j r0).say != say)) ∧ Below w.heap.size w w' := by
  obtain ⟨sb, so, hra, hsb, -, -, hsc⟩ := h.scr.rs.at_ hj rfl
  unfold maxLen at hnr
  have hc2 := h.c2
  have hC := h.lt
  rw [hra] at hc2
  obtain ⟨nr, hn⟩ : ∃ n, s.rs.length = n := ⟨_, rfl⟩
  rw [hn] at hc2 hj hnr
  obtain ⟨a, ha⟩ : ∃ a, (s.rs.getD j r0).say = a := ⟨_, rfl⟩
  rw [ha] at hsc ⊢
  have HS : Hid (∀ W, Below w.heap.size w W → (W.cell? ⟨P, 0, none⟩ = some (.pointer (some ⟨C, 0, none⟩)) ∧ W.cell? ⟨I, 0, none⟩ = some (.int .i64 say) ∧ W.cell? ⟨C, 2, none⟩ = some (.slice (some ⟨sb, so, none⟩) nr d.rc)) ∧ W.cell? ⟨sb, so + j * 3 + 2, none⟩ = some (.int .i64 a)) := hide (fun W hB => 
    ⟨⟨(hB.cell (p := ⟨P, 0, none⟩) hP).trans cP, (hB.cell (p := ⟨I, 0, none⟩) hI).trans cI, (hB.cell (p := ⟨C, 2, none⟩) hC).trans hc2⟩, (hB.cell (p := ⟨sb, so + j * 3 + 2, none⟩) hsb).trans hsc⟩)
  clear ha h cP cI hc2 hn hP hI hsb hC hra hsc
  have j0 : (0 : Int) ≤ (j : Int) := by omega
  have j1 : (j : Int) < (nr : Int) := by omega
  go_enter Tryd.func36, Tryd.ntmps36
  go_upto_region 1 with fail
  have Bd := hide ((Below.refl w.heap.size w).drew)
  refine wp_region_J (fun W : World => (W.cell? ⟨P, 0, none⟩ = some (.pointer (some ⟨C, 0, none⟩)) ∧ W.cell? ⟨I, 0, none⟩ = some (.int .i64 say) ∧ W.cell? ⟨C, 2, none⟩ = some (.slice (some ⟨sb, so, none⟩) nr d.rc)) ∧ W.cell? ⟨sb, so + j * 3 + 2, none⟩ = some (.int .i64 a)) (by kernel_rfl) ?_
  generalize w.drew = wd at Bd ⊢
  refine wpAnyJ_take 0 (v := ?_) (by first | exact hF | exact wideFn) (HS.out _ Bd.out) rfl (by kernel_rfl) (by kernel_rfl) (by kernel_rfl) (by kernel_rfl) rfl ?_ (by first | exact fun _ _ _ h => h | exact fun _ _ _ h => hQ2 _ _ _ _ _ h) ?_
  rotate_left
  · intro W hSW
    simp only [glA, glB, glC]
    (try dsimp only at hSW)
    go_simp
    with_reducible rfl
  (try simp only [glA, glB, glC, Act.put, glD, glE, glF])
  refine wpAnyJ_take 1 (v := ?_) (by first | exact hF | exact wideFn) (HS.out _ Bd.out) rfl (by kernel_rfl) (by kernel_rfl) (by kernel_rfl) (by kernel_rfl) rfl ?_ (by first | exact fun _ _ _ h => h | exact fun _ _ _ h => hQ2 _ _ _ _ _ h) ?_
  rotate_left
  · intro W hSW
    simp only [glA, glB, glC]
    (try dsimp only at hSW)
    go_simp
    with_reducible rfl
  (try simp only [glA, glB, glC, Act.put, glD, glE, glF])
  refine wpAnyJ_take 2 (v := ?_) (by first | exact hF | exact wideFn) (HS.out _ Bd.out) rfl (by kernel_rfl) (by kernel_rfl) (by kernel_rfl) (by kernel_rfl) rfl ?_ (by first | exact fun _ _ _ h => h | exact fun _ _ _ h => hQ2 _ _ _ _ _ h) ?_
  rotate_left
  · intro W hSW
    simp only [glA, glB, glC]
    (try dsimp only at hSW)
    go_simp
    with_reducible rfl
  (try simp only [glA, glB, glC, Act.put, glD, glE, glF])
  refine wpAnyJ_take 3 (v := ?_) (by first | exact hF | exact wideFn) (HS.out _ Bd.out) rfl (by kernel_rfl) (by kernel_rfl) (by kernel_rfl) (by kernel_rfl) rfl ?_ (by first | exact fun _ _ _ h => h | exact fun _ _ _ h => hQ2 _ _ _ _ _ h) ?_
  rotate_left
  · intro W hSW
    simp only [glA, glB, glC]
    (try dsimp only at hSW)
    go_simp
    with_reducible rfl
  (try simp only [glA, glB, glC, Act.put, glD, glE, glF])
  refine wpAnyJ_take 4 (v := ?_) (by first | exact hF | exact wideFn) (HS.out _ Bd.out) rfl (by kernel_rfl) (by kernel_rfl) (by kernel_rfl) (by kernel_rfl) rfl ?_ (by first | exact fun _ _ _ h => h | exact fun _ _ _ h => hQ2 _ _ _ _ _ h) ?_
  rotate_left
  · intro W hSW
    simp only [glA, glB, glC]
    (try dsimp only at hSW)
    go_simp
    with_reducible rfl
  (try simp only [glA, glB, glC, Act.put, glD, glE, glF])
  refine wpAnyJ_take 5 (v := ?_) (by first | exact hF | exact wideFn) (HS.out _ Bd.out) rfl (by kernel_rfl) (by kernel_rfl) (by kernel_rfl) (by kernel_rfl) rfl ?_ (by first | exact fun _ _ _ h => h | exact fun _ _ _ h => hQ2 _ _ _ _ _ h) ?_
  rotate_left
  · intro W hSW
    simp only [glA, glB, glC]
    (try dsimp only at hSW)
    go_simp
    with_reducible rfl
  (try simp only [glA, glB, glC, Act.put, glD, glE, glF])
  refine wpAnyJ_take 6 (v := ?_) (by first | exact hF | exact wideFn) (HS.out _ Bd.out) rfl (by kernel_rfl) (by kernel_rfl) (by kernel_rfl) (by kernel_rfl) rfl ?_ (by first | exact fun _ _ _ h => h | exact fun _ _ _ h => hQ2 _ _ _ _ _ h) ?_
  rotate_left
  · intro W hSW
    simp only [glA, glB, glC]
    (try dsimp only at hSW)
    go_simp
    with_reducible rfl
  (try simp only [glA, glB, glC, Act.put, glD, glE, glF])
  refine wpAnyJ_take 7 (v := ?_) (by first | exact hF | exact wideFn) (HS.out _ Bd.out) rfl (by kernel_rfl) (by kernel_rfl) (by kernel_rfl) (by kernel_rfl) rfl ?_ (by first | exact fun _ _ _ h => h | exact fun _ _ _ h => hQ2 _ _ _ _ _ h) ?_
  rotate_left
  · intro W hSW
    simp only [glA, glB, glC]
    (try dsimp only at hSW)
    go_simp
    with_reducible rfl
  (try simp only [glA, glB, glC, Act.put, glD, glE, glF])
  refine wpAnyJ_take 8 (v := ?_) (by first | exact hF | exact wideFn) (HS.out _ Bd.out) rfl (by kernel_rfl) (by kernel_rfl) (by kernel_rfl) (by kernel_rfl) rfl ?_ (by first | exact fun _ _ _ h => h | exact fun _ _ _ h => hQ2 _ _ _ _ _ h) ?_
  rotate_left
  · intro W hSW
    simp only [glA, glB, glC]
    (try dsimp only at hSW)
    go_simp
    with_reducible rfl
  (try simp only [glA, glB, glC, Act.put, glD, glE, glF])
  refine wpAnyJ_take 9 (v := ?_) (by first | exact hF | exact wideFn) (HS.out _ Bd.out) rfl (by kernel_rfl) (by kernel_rfl) (by kernel_rfl) (by kernel_rfl) rfl ?_ (by first | exact fun _ _ _ h => h | exact fun _ _ _ h => hQ2 _ _ _ _ _ h) ?_
  rotate_left
  · intro W hSW
    simp only [glA, glB, glC]
    (try dsimp only at hSW)
    go_simp
    with_reducible rfl
  (try simp only [glA, glB, glC, Act.put, glD, glE, glF])
  refine wpAnyJ_take 10 (v := ?_) (by first | exact hF | exact wideFn) (HS.out _ Bd.out) rfl (by kernel_rfl) (by kernel_rfl) (by kernel_rfl) (by kernel_rfl) rfl ?_ (by first | exact fun _ _ _ h => h | exact fun _ _ _ h => hQ2 _ _ _ _ _ h) ?_
  rotate_left
  · intro W hSW
    simp only [glA, glB, glC]
    (try dsimp only at hSW)
    go_simp
    with_reducible rfl
  (try simp only [glA, glB, glC, Act.put, glD, glE, glF])
  refine wpAnyJ_take 11 (v := ?_) (by first | exact hF | exact wideFn) (HS.out _ Bd.out) rfl (by kernel_rfl) (by kernel_rfl) (by kernel_rfl) (by kernel_rfl) rfl ?_ (by first | exact fun _ _ _ h => h | exact fun _ _ _ h => hQ2 _ _ _ _ _ h) ?_
  rotate_left
  · intro W hSW
    simp only [glA, glB, glC]
    (try dsimp only at hSW)
    go_simp
    with_reducible rfl
  (try simp only [glA, glB, glC, Act.put, glD, glE, glF])
  refine wpAnyJ_done (by kernel_rfl) ?_
  go_wp2_with fail
  go_ret
  exact ⟨rfl, Bd.out⟩
end Go.Proofs.YtfbnpiafoaoddaaDoor
/- School: decide, walked. -/
namespace Go.Proofs.YtfbnpiafoaoddaaDoor
open List renaming getElem_toArray → glA, getElem_cons_zero → glB, getElem_cons_succ → glC, setIfInBounds_toArray → glD, set_cons_zero → glE, set_cons_succ → glF
open Go Go.RowKit Go.Shelf
set_option maxHeartbeats 8000000
set_option maxRecDepth 100000
/-- the numbers below n of which something is true -/
def apF (Q : Nat → Bool) : Nat → List Int
  | 0 => []
  | n + 1 => if Q n then apF Q n ++ [(n : Int)] else apF Q n
theorem apF_mem (Q : Nat → Bool) : ∀ n x, x ∈ apF Q n → ∃ k : Nat, x = (k : Int) ∧ k < n ∧ Q k = true
  | 0, x, h => by simp [apF] at h
  | n + 1, x, h => by
    have ih := apF_mem Q n x
    unfold apF at h
    split at h
    · rename_i hq
      rcases List.mem_append.1 h with h | h
      · obtain ⟨k, h1, h2, h3⟩ := ih h
        exact ⟨k, h1, by omega, h3⟩
      · exact ⟨n, List.mem_singleton.1 h, by omega, hq⟩
    · obtain ⟨k, h1, h2, h3⟩ := ih h
      exact ⟨k, h1, by omega, h3⟩
theorem apF_len (Q : Nat → Bool) : ∀ n, (apF Q n).length ≤ n
  | 0 => by simp [apF]
  | n + 1 => by
    have := apF_len Q n
    unfold apF
    split
    · rw [List.length_append]; simp; omega
    · omega
def hsB (s : Nat → Nat) (c : List Int) : Bool := decide (∀ k, k < c.length → hasBit s c k ≠ 0)
/-- the rules that apply -/
def dcA (s : Sch) (st : Nat → Nat → Nat) (c : List Int) (q : Int) : List Int := apF (fun i => ((s.rs.getD i r0).ask == q) && hsB (st i) c) s.rs.length
/-- none of the rules is more special -/
def topB (st : Nat → Nat → Nat) (ap : List Int) (i : Int) : Bool := !anyTo (fun k => spc (st (ap.getD k 0).toNat) (st i.toNat)) ap.length
def dcB (s : Sch) (st : Nat → Nat → Nat) (c : List Int) (q : Int) : List Int := (dcA s st c q).filter (topB st (dcA s st c q))
/-- whether they say another thing than the first -/
def clB (s : Sch) (l : List Int) : Bool := anyTo (fun k => (s.rs.getD (l.getD k 0).toNat r0).say != (s.rs.getD (l.getD 0 0).toNat r0).say) l.length
/-- what decide returns: what is said, the error, by which rules -/
def dcF (s : Sch) (st : Nat → Nat → Nat) (c : List Int) (q : Int) : Int × Int × List Int :=
  if (dcB s st c q).length = 0 then (0, 7, []) else if clB s (dcB s st c q) then (0, 110, []) else ((s.rs.getD ((dcB s st c q).getD 0 0).toNat r0).say, 0, dcB s st c q)
theorem filter_take (R : Int → Bool) (l : List Int) {k : Nat} (hk : k < l.length) {x : Int} (hx : l.getD k 0 = x) : (l.take (k + 1)).filter R = if R x then (l.take k).filter R ++ [x] else (l.take k).filter R := by
  have h1 : l.take (k + 1) = l.take k ++ [x] := by
    rw [List.take_succ_eq_append_getElem hk]
    rw [List.getD_eq_getElem?_getD, List.getElem?_eq_getElem hk] at hx
    rw [← hx]; rfl
  rw [h1, List.filter_append]
  by_cases h : R x = true
  · rw [if_pos h]; simp [h]
  · rw [if_neg h]; simp [h]
def DcPost (w : World) (r : Int × Int × List Int) (e : Ending) (w' : World) : Prop :=
  ∃ v, e = .returned (.tuple #[.agg #[.int .i64 r.1, .int .i64 r.2.1], v]) ∧ OwnJ w' w.heap.size v r.2.2 ∧ Below w.heap.size w w'
theorem decide_any (C : Nat) (d : Ad_) (SA : Option Addr) (sc : Nat) (s : Sch) (st : Nat → Nat → Nat) (A : Option Addr) (cc : Nat) (c : List Int) (q : Int) (w : World) (h : CR w w.heap.size C d SA sc s st) (hst : ∀ k x, st k x < 65536) (hnr : s.rs.length ≤ 12) (hc : c.length ≤ 5) (hv : ∀ k, k < c.length → 0 ≤ c.getD k 0 ∧ c.getD k 0 ≤ 62) (hA : LI w w.heap.size A c) :
    Calls Tryd.prog 18 #[.pointer (some ⟨C, 0, none⟩), .slice A c.length cc, .int .i64 q] w (DcPost w (dcF s st c q)) := by
  have HB2 := hide (((Below.refl w.heap.size w).alloc (Nat.le_refl _) (.cells #[.pointer (some ⟨C, 0, none⟩)] 60)).alloc (by simp) (.cells #[.int .i64 0, .int .i64 0] 69))
  have P1 := (Blk.new w 60 #[.pointer (some ⟨C, 0, none⟩)]).alloc (.cells #[.int .i64 0, .int .i64 0] 69)
  have V1 := (show Blk _ (w.heap.size + 1) _ _ from by simpa using (Blk.new (w.alloc (.cells #[.pointer (some ⟨C, 0, none⟩)] 60)) 69 #[.int .i64 0, .int .i64 0]))
  obtain ⟨nc, hnc⟩ : ∃ n, c.length = n := ⟨_, rfl⟩
  obtain ⟨nr, hn⟩ : ∃ n, s.rs.length = n := ⟨_, rfl⟩
  have HN := hide (And.intro hnc hn)
  have H0 := hide h
  have HST := hide hst
  have HA := hide hA
  have HHAS : Hid (∀ (k : Nat) W, Below w.heap.size w W → Calls Tryd.prog 32 #[(.agg #[.int .i64 ((st k) 0 : Nat), .int .i64 ((st k) 1 : Nat), .int .i64 ((st k) 2 : Nat), .int .i64 ((st k) 3 : Nat), .int .i64 ((st k) 4 : Nat)]), .slice A nc cc] W fun e w' => e = .returned (.bool (hsB (st k) c)) ∧ Below W.heap.size W w') := hide fun k W hB => by
    have := has_any (st k) A cc c W hc hv ((ER.below hA hB (Nat.le_refl _)).more hB.size)
    rw [hnc] at this
    unfold hsB
    rw [hnc]
    exact this
  obtain ⟨ap, hap⟩ : ∃ ap, dcA s st c q = ap := ⟨_, rfl⟩
  have hapn : ∀ k, apF (fun i => ((s.rs.getD i r0).ask == q) && hsB (st i) c) (k + 1) = if ((s.rs.getD k r0).ask == q) && hsB (st k) c then apF (fun i => ((s.rs.getD i r0).ask == q) && hsB (st i) c) k ++ [(k : Int)] else apF (fun i => ((s.rs.getD i r0).ask == q) && hsB (st i) c) k := fun k => rfl
  have HAP := hide hap
  have HAN := hide hapn
  have HAL : Hid (apF (fun i => ((s.rs.getD i r0).ask == q) && hsB (st i) c) nr = ap) := hide (by rw [← hap]; unfold dcA; rw [hn])
  have HA0 : Hid (apF (fun i => ((s.rs.getD i r0).ask == q) && hsB (st i) c) 0 = []) := hide rfl
  have HME : Hid (∀ n x, x ∈ apF (fun i => ((s.rs.getD i r0).ask == q) && hsB (st i) c) n → ∃ k : Nat, x = (k : Int) ∧ k < n) := hide (fun n x hx => by
    obtain ⟨k, h1, h2, -⟩ := apF_mem _ n x hx
    exact ⟨k, h1, h2⟩)
  have HNP := hide (apF_len (fun i => ((s.rs.getD i r0).ask == q) && hsB (st i) c))
  rw [hn] at hnr
  rw [hnc] at hc
  rw [hnc]
  clear h hst hA hv hnc hn hap hapn
  generalize apF (fun i => ((s.rs.getD i r0).ask == q) && hsB (st i) c) = af at HAN HNP HAL HA0 HME
  go_enter Tryd.func18, Tryd.ntmps18
  go_upto_region 2 with fail
  obtain ⟨P, hP⟩ : ∃ x, w.heap.size = x := ⟨_, rfl⟩
  have HPB := hide hP
  rw [hP] at P1 V1 ⊢
  generalize ((w.alloc (.cells #[.pointer (some ⟨C, 0, none⟩)] 60)).alloc (.cells #[.int .i64 0, .int .i64 0] 69)) = w2 at HB2 P1 V1 ⊢
  have HP1 := hide P1
  have HV1 := hide V1
  clear P1 V1 hP
  have HC2 := hide (H0.out.below HB2.out)
  have cP := (blk1 HP1.out).2.1
  have c2 := HC2.out.c2
  rw [HN.out.2] at c2
  go_upto_region 3 with fail
  clear cP c2
  have hsz2 : P + 1 < w2.heap.size := HV1.out.lt
  go_loopw [8, 20] (fun u i wr => ∃ k : Nat, k ≤ nr ∧ i = .int .i64 k ∧ Hid (Below w2.heap.size w2 wr) ∧ Hid (OwnJ wr w2.heap.size u (af k))) (fun _ i _ => nr - (intOf i).toNat)
  case atStart => exact ⟨0, Nat.zero_le _, rfl, hide (Below.refl _ _), hide (by rw [HA0.out]; exact OwnJ.nil _ _)⟩
  case round =>
    obtain ⟨k, hk, rfl, HBW, HO⟩ := hrel
    obtain ⟨AU, cu, hAU⟩ := own_shape HO.out
    obtain ⟨nu, hnu⟩ : ∃ n, (af k).length = n := ⟨_, rfl⟩
    rw [hnu] at hAU
    subst hAU
    clear hnu
    by_cases hlt : k < nr
    · -- BEGIN1
      have hlt' : (k : Int) < (nr : Int) := by omega
      have k0 : (0 : Int) ≤ (k : Int) := by omega
      have hkr : k < s.rs.length := by rw [HN.out.2]; exact hlt
      have HCW := hide (HC2.out.below HBW.out)
      obtain ⟨r, hr⟩ : ∃ r, s.rs.getD k r0 = r := ⟨_, rfl⟩
      obtain ⟨rb, ro, hra, hrb, c0, c1, c2⟩ := (HCW.out.scr.rs).at_ hkr hr
      have hnx := HAN.out k
      rw [hr] at hnx
      obtain ⟨ts, ask, say⟩ := r
      dsimp only at c0 c1 c2 hnx
      generalize ts.length = nt at c0
      generalize d.ta k = ta at c0
      generalize d.tc k = tc at c0
      have HNX := hide hnx
      clear hr hnx hkr
      rw [hra]
      go_upto_region 5 with fail
      have HB3 : Hid (Below wr.heap.size wr (wr.alloc (.cells #[.slice ta nt tc, .int .i64 ask, .int .i64 say] 56))) := hide ((Below.refl _ _).alloc (Nat.le_refl _) _)
      have R3 : Blk (wr.alloc (.cells #[.slice ta nt tc, .int .i64 ask, .int .i64 say] 56)) wr.heap.size 56 #[.slice ta nt tc, .int .i64 ask, .int .i64 say] := Blk.new _ _ _
      generalize (wr.alloc (.cells #[.slice ta nt tc, .int .i64 ask, .int .i64 say] 56)) = w3 at HB3 R3 ⊢
      have HB4 := hide (HBW.out.trans (HB3.out.mono HBW.out.size))
      have HO3 := hide (HO.out.ext HB3.out)
      have HC3 := hide (HCW.out.below HB3.out)
      have cP := (blk1 (HP1.out.ext HB4.out)).2.1
      have c3 := HC3.out.c3
      rw [HN.out.2] at c3
      obtain ⟨sb, so, hsa, hsb, hsc⟩ := HC3.out.st (by rw [HN.out.2]; omega)
      have hkr : k < s.rs.length := by rw [HN.out.2]; exact hlt
      have t0 := hsc k 0 hkr (by omega)
      have t1 := hsc k 1 hkr (by omega)
      have t2 := hsc k 2 hkr (by omega)
      have t3 := hsc k 3 hkr (by omega)
      have t4 := hsc k 4 hkr (by omega)
      simp only [Nat.add_zero] at t0
      rw [hsa] at c3
      obtain ⟨-, y0, y1, y2, -⟩ := blk3 R3
      clear c0 c1 c2 hkr hsc HO HCW
      rw [← hra]
      have HHK := hide (HHAS.out k w3 (HB2.out.trans (HB4.out.mono HB2.out.size)))
      by_cases hq : ask = q
      · have e1 : (ask == q) = true := by rw [hq]; exact beq_self_eq_true _
        clear hq
        rw [e1, Bool.true_and] at HNX
        generalize hsB (st k) c = hb at HHK HNX
        go_wp2_with fail
        refine HHK.out.mono ?_
        rintro e w5 ⟨rfl, hb5⟩
        have HB5 := hide (HB4.out.trans (hb5.mono HB4.out.size))
        have HO5 := hide (HO3.out.ext hb5)
        clear hb5 HO3 HC3 HHK
        rcases hb with _ | _
        · rw [if_neg (by decide)] at HNX
          go_wp2_with fail
          go_roundw
          case rel => exact ⟨k + 1, by omega, by go_num, HB5, by rw [HNX.out]; exact HO5⟩
          case measure => simp [intOf]; omega
        · rw [if_pos rfl] at HNX
          obtain ⟨v6, w6, hrun, ho6, hg6⟩ := HO5.out.push (k : Int) (by have := HNP.out k; omega) HB5.out.size
          have HB6 := hide ((HB5.out.alloc HB5.out.size (.cells #[.int .i64 (k : Int)] 3)).grown hg6 (by have h1 := HB5.out.size; have h2 := World.size_alloc w5 (.cells #[.int .i64 (k : Int)] 3); omega) (fun j hj => (World.ownsRow.lt HO5.out j hj).1))
          have HO6 := hide ho6
          have HRUN := hide hrun
          clear hrun ho6 hg6
          go_wp2_with (at_builtin; refine wpList_append_run rfl (.tmp 40) (.tmp 42) 26 rfl rfl rfl HRUN.out ?_)
          go_roundw
          case rel => exact ⟨k + 1, by omega, by go_num, HB6, by rw [HNX.out]; exact HO6⟩
          case measure => simp [intOf]; omega
      · have e1 : (ask == q) = false := by rw [beq_eq_false_iff_ne]; exact hq
        clear hq
        rw [e1, Bool.false_and, if_neg (by decide)] at HNX
        go_wp2_with fail
        exact ⟨⟨.slice AU nu cu, .int .i64 k, .pointer (some ⟨wr.heap.size, 0, none⟩), .int .i64 ((k : Int) + 1), ⟨k + 1, by omega, by go_num, by rw [HNX.out]; exact HO3⟩, rfl, rfl, rfl, rfl⟩, by simp [intOf]; omega⟩
      -- END1
    · -- BEGIN2
      obtain rfl : nr = k := by omega
      have hnl : ¬ (nr : Int) < (nr : Int) := by omega
      rw [HAL.out] at HO
      obtain ⟨na, hna⟩ : ∃ n, ap.length = n := ⟨_, rfl⟩
      have hnn : nu = na := (HO.out.li).1.trans hna
      subst hnn
      generalize nu = na at *
      obtain ⟨AP, hAP⟩ : ∃ x, x = AU := ⟨_, rfl⟩
      obtain ⟨cP7, hcP⟩ : ∃ x, x = cu := ⟨_, rfl⟩
      subst hAP
      subst hcP
      have hna12 : na ≤ 12 := by
        have h := HNP.out nr
        rw [HAL.out, hna] at h
        omega
      have HNA := hide hna
      clear hna
      obtain ⟨w1, rfl⟩ : ∃ x, x = wr := ⟨_, rfl⟩
      have HLI : Hid (LI w1 w1.heap.size AP ap) := hide (HO.out.li).2
      have HB1 := HBW
      go_upto_region 9 with fail
      go_loopw [7, 47] (fun u i wr => ∃ k : Nat, k ≤ na ∧ i = .int .i64 k ∧ Hid (Below w1.heap.size w1 wr) ∧ Hid (OwnJ wr w1.heap.size u ((ap.take k).filter (topB st ap)))) (fun _ i _ => na - (intOf i).toNat)
      case atStart => exact ⟨0, Nat.zero_le _, rfl, hide (Below.refl _ _), hide (OwnJ.nil _ _)⟩
      case round =>
        obtain ⟨k, hk, rfl, HBV, HB⟩ := hrel
        obtain ⟨AU, cu, hAU⟩ := own_shape HB.out
        obtain ⟨nu, hnu⟩ : ∃ n, ((ap.take k).filter (topB st ap)).length = n := ⟨_, rfl⟩
        rw [hnu] at hAU
        subst hAU
        have HNU := hide hnu
        clear hnu
        clear HBW
        have HB2w : Hid (Below w2.heap.size w2 wr) := hide (HB1.out.trans (HBV.out.mono HB1.out.size))
        by_cases hlt : k < na
        · -- BEGIN3
          have hlt' : (k : Int) < (na : Int) := by omega
          have k0 : (0 : Int) ≤ (k : Int) := by omega
          have hka : k < ap.length := by rw [HNA.out]; exact hlt
          obtain ⟨ab, ao, hab, habl, hac⟩ := VR1.at_ (ER.below HLI.out HBV.out (Nat.le_refl _)) hka
          obtain ⟨x, hx⟩ : ∃ x, ap.getD k 0 = x := ⟨_, rfl⟩
          obtain ⟨i, hi, hin⟩ := HME.out nr x (by
            rw [HAL.out, ← hx, List.getD_eq_getElem?_getD, List.getElem?_eq_getElem hka]
            exact List.getElem_mem hka)
          subst hi
          rw [hx] at hac
          have hnx := filter_take (topB st ap) ap hka hx
          have HNX := hide hnx
          have HIN := hide hin
          clear hka hx hnx hin
          subst hab
          go_upto_region 11 with fail
          have HB4 : Hid (Below wr.heap.size wr (wr.alloc (.cells #[.int .i64 (i : Nat)] 3))) := hide ((Below.refl _ _).alloc (Nat.le_refl _) _)
          have hI : Blk (wr.alloc (.cells #[.int .i64 (i : Nat)] 3)) wr.heap.size 3 #[.int .i64 (i : Nat)] := Blk.new _ _ _
          generalize (wr.alloc (.cells #[.int .i64 (i : Nat)] 3)) = w4 at HB4 hI ⊢
          have HIB := hide hI
          have HB4o := hide (HB.out.ext HB4.out)
          have HLT := hide (World.ownsRow.lt HB.out)
          have HBV4 := hide (HBV.out.trans (HB4.out.mono HBV.out.size))
          have HB24 := hide (HB2w.out.trans (HB4.out.mono HB2w.out.size))
          obtain ⟨I, hII⟩ : ∃ x, wr.heap.size = x := ⟨_, rfl⟩
          rw [hII] at HIB HLT ⊢
          clear hI hac hII
          have hnr2 : s.rs.length ≤ maxLen := by rw [HN.out.2]; unfold maxLen; omega
          have hcf := containsFunc_int 34 #[.pointer (some ⟨P, 0, none⟩), .pointer (some ⟨I, 0, none⟩)] (fun j => spc (st (ap.getD j 0).toNat) (st i)) (some ⟨ab, ao, none⟩) na cP7 (fun j => .int .i64 (ap.getD j 0)) w4 (by unfold maxLen; omega) (by
            have h := (ER.below HLI.out HBV4.out (Nat.le_refl _)).more HBV4.out.size
            rw [HNA.out] at h
            exact h) (enters_of Tryd.func34 (by kernel_rfl) rfl) (fun W k hk hb => by
              obtain ⟨j, hj, hjn⟩ := HME.out nr (ap.getD k 0) (by
                rw [HAL.out, List.getD_eq_getElem?_getD, List.getElem?_eq_getElem (by rw [HNA.out]; exact hk)]
                exact List.getElem_mem _)
              rw [hj]
              have hP2 := (HP1.out.ext HB24.out).ext hb
              have hI2 := HIB.out.ext hb
              exact decide1_any P I C d SA sc s st i j W hP2.lt hI2.lt (blk1 hP2).2.1 (blk1 hI2).2.1 ((HC2.out.below HB24.out).below hb) HST.out hnr2 (by rw [HN.out.2]; exact HIN.out) (by rw [HN.out.2]; exact hjn))
          have HCF := hide hcf
          have htop : topB st ap (i : Nat) = !anyTo (fun j => spc (st (ap.getD j 0).toNat) (st i)) na := by
            unfold topB
            rw [HNA.out]
            rfl
          rw [htop] at HNX
          clear hcf hnr2 htop
          generalize anyTo (fun j => spc (st (ap.getD j 0).toNat) (st i)) na = tb at HCF HNX
          go_wp2_with fail
          refine HCF.out.mono ?_
          rintro e w5 ⟨rfl, hb5⟩
          have HBV5 := hide (HBV4.out.trans (hb5.mono HBV4.out.size))
          have HI5 := hide (HIB.out.ext hb5)
          have HB5 := hide (HB4o.out.ext hb5)
          clear hb5 HCF HIB HB4o HBV4 HB24
          rcases tb with _ | _
          · rw [Bool.not_false, if_pos rfl] at HNX
            obtain ⟨-, cI, -⟩ := blk1 HI5.out
            have hlen : ((ap.take k).filter (topB st ap)).length ≤ 100000 := by
              have h1 := List.length_filter_le (topB st ap) (ap.take k)
              have h2 : (ap.take k).length ≤ na := by rw [List.length_take, HNA.out]; omega
              omega
            obtain ⟨v6, w6, hrun, ho6, hg6⟩ := HB5.out.push (i : Int) hlen HBV5.out.size
            have HB6 := hide ((HBV5.out.alloc HBV5.out.size (.cells #[.int .i64 (i : Int)] 3)).grown hg6 (by have h1 := HBV5.out.size; have h2 := World.size_alloc w5 (.cells #[.int .i64 (i : Int)] 3); omega) (fun j hj => (World.ownsRow.lt HB5.out j hj).1))
            have HO6 := hide ho6
            have HRUN := hide hrun
            clear hrun ho6 hg6 hlen
            go_wp2_with (at_builtin; refine wpList_append_run rfl (.tmp 55) (.tmp 57) 26 rfl rfl rfl HRUN.out ?_)
            go_roundw
            case rel => exact ⟨k + 1, by omega, by go_num, HB6, by rw [HNX.out]; exact HO6⟩
            case measure => simp [intOf]; omega
          · rw [Bool.not_true, if_neg (by decide)] at HNX
            go_wp2_with fail
            go_roundw
            case rel => exact ⟨k + 1, by omega, by go_num, HBV5, by rw [HNX.out]; exact HB5⟩
            case measure => simp [intOf]; omega
          -- END3
        · -- BEGIN4
          obtain rfl : na = k := by omega
          have hnlk : ¬ (na : Int) < (na : Int) := by omega
          have hbl : (ap.take na).filter (topB st ap) = dcB s st c q := by
            rw [List.take_of_length_le (by rw [HNA.out]; exact Nat.le_refl _)]
            unfold dcB
            rw [HAP.out]
          obtain ⟨bl, hbb⟩ : ∃ bl, dcB s st c q = bl := ⟨_, rfl⟩
          rw [hbl, hbb] at HB
          have hnu2 : nu = bl.length := (HB.out.li).1
          have HBM : Hid (∀ x ∈ bl, ∃ k : Nat, x = (k : Int) ∧ k < nr) := hide (fun x hx => HME.out nr x (by
            rw [HAL.out]
            rw [← hbb] at hx
            unfold dcB at hx
            rw [HAP.out] at hx
            exact (List.mem_filter.1 hx).1))
          have HBB := hide hbb
          have HNL := hide hnu2
          have HVE := hide (HV1.out.ext HB2w.out)
          have HBE := hide (HB2.out.trans (HB2w.out.mono HB2.out.size))
          have HOB : Hid (OwnJ wr w.heap.size (.slice AU nu cu) bl) := hide (ownMono HB.out (by have h1 := HB2.out.size; have h2 := HB1.out.size; omega))
          have fV0 := HVE.out.frozen 0
          have fV1 := HVE.out.frozen 1
          obtain ⟨lV, cV0, cV1, -⟩ := blk2 HVE.out
          clear hbl hbb hnu2
          by_cases hn0 : nu = 0
          · subst hn0
            have HDC : Hid (dcF s st c q = (0, 7, [])) := hide (by unfold dcF; rw [HBB.out, if_pos HNL.out.symm])
            go_wp2_with fail
            have hR := (HVE.out).set2 (.int .i64 (0)) (.int .i64 (7))
            have hown : OwnJ ((wr.setCell ⟨P + 1, 0, none⟩ (.int .i64 (0))).setCell ⟨P + 1, 1, none⟩ (.int .i64 (7))) w.heap.size (.slice none 0 0) _ := World.ownsRow.kept (World.ownsRow.kept (OwnJ.nil wr w.heap.size) (grownBy_setC wr (P + 1) 0 _) (.inr (own_blk_ne (OwnJ.nil wr w.heap.size) HVE.out (by decide)))) (grownBy_setC _ (P + 1) 1 _) (.inr (own_blk_ne (OwnJ.nil wr w.heap.size) HVE.out (by decide)))
            have hbd := (HBE.out.setCell (p := ⟨P + 1, 0, none⟩) (by rw [HPB.out]; exact Nat.le_succ _) (.int .i64 (0))).setCell (p := ⟨P + 1, 1, none⟩) (by rw [HPB.out]; exact Nat.le_succ _) (.int .i64 (7))
            generalize ((wr.setCell ⟨P + 1, 0, none⟩ (.int .i64 (0))).setCell ⟨P + 1, 1, none⟩ (.int .i64 (7))) = wz at hR hown hbd ⊢
            obtain ⟨-, q0, q1, -⟩ := blk2 hR
            refine bodyPost_ret (v := .tuple #[.agg #[.int .i64 (0), .int .i64 (7)], (.slice none 0 0)]) (by simp [results, Tryd.results18, go_sem, q0, q1]) rfl ?_
            unfold DcPost
            rw [HDC.out]
            exact ⟨_, rfl, hown, hbd⟩
          · have hnz : ((nu : Int) == 0) = false := by rw [beq_eq_false_iff_ne]; omega
            have hnz' : (nu == 0) = false := by rw [beq_eq_false_iff_ne]; exact hn0
            have nu0 : (0 : Int) < (nu : Int) := by omega
            have nu0n : 0 < nu := by omega
            have hb0 : 0 < bl.length := by rw [← HNL.out]; omega
            obtain ⟨bb, bo, rfl, hbbl, hbc⟩ := VR1.at_ (HB.out.li).2 hb0
            obtain ⟨x, hx⟩ : ∃ x, bl.getD 0 0 = x := ⟨_, rfl⟩
            obtain ⟨i, hi, hin⟩ := HBM.out x (by
              rw [← hx, List.getD_eq_getElem?_getD, List.getElem?_eq_getElem hb0]
              exact List.getElem_mem hb0)
            subst hi
            rw [hx, Nat.add_zero] at hbc
            have HCE := hide (HC2.out.below HB2w.out)
            have hir : i < s.rs.length := by rw [HN.out.2]; exact hin
            obtain ⟨rb, ro, hra, hrb, -, -, r2⟩ := (HCE.out.scr.rs).at_ hir rfl
            obtain ⟨say, hsay⟩ : ∃ y, (s.rs.getD i r0).say = y := ⟨_, rfl⟩
            rw [hsay] at r2
            have hPE := HP1.out.ext HB2w.out
            have hc2 := HCE.out.c2
            rw [HN.out.2, hra] at hc2
            have hCE := HCE.out.lt
            have HS16 : Hid (∀ W, Below wr.heap.size wr W → (W.cell? ⟨P, 0, none⟩ = some (.pointer (some ⟨C, 0, none⟩)) ∧ W.cell? ⟨C, 2, none⟩ = some (.slice (some ⟨rb, ro, none⟩) nr d.rc)) ∧ W.cell? ⟨bb, bo, none⟩ = some (.int .i64 (i : Nat)) ∧ W.cell? ⟨rb, ro + i * 3 + 2, none⟩ = some (.int .i64 say)) := hide fun W h =>
              ⟨⟨(blk1 (hPE.ext h)).2.1, (h.cell (p := ⟨C, 2, none⟩) hCE).trans hc2⟩, (h.cell (p := ⟨bb, bo, none⟩) hbbl).trans hbc, (h.cell (p := ⟨rb, ro + i * 3 + 2, none⟩) hrb).trans r2⟩
            have hcl : clB s bl = anyTo (fun k => (s.rs.getD (bl.getD k 0).toNat r0).say != say) nu := by
              unfold clB
              rw [hx, HNL.out, show ((i : Int)).toNat = i by omega, hsay]
            have hdc : dcF s st c q = if clB s bl then (0, 110, []) else (say, 0, bl) := by
              unfold dcF
              rw [HBB.out, if_neg (by omega), hx, show ((i : Int)).toNat = i by omega, hsay]
            rw [hcl] at hdc
            have HDC := hide hdc
            have i0 : (0 : Int) ≤ (i : Int) := by omega
            have i1 : (i : Int) < (nr : Int) := by omega
            have HIN := hide hin
            clear hbc hx hir hra hrb r2 hsay hPE hc2 hCE hcl hdc hb0 hbbl hn0
            go_upto_region 16 with fail
            have Bd := hide ((Below.refl wr.heap.size wr).drew)
            refine wp_region_J (fun W : World => (W.cell? ⟨P, 0, none⟩ = some (.pointer (some ⟨C, 0, none⟩)) ∧ W.cell? ⟨C, 2, none⟩ = some (.slice (some ⟨rb, ro, none⟩) nr d.rc)) ∧ W.cell? ⟨bb, bo, none⟩ = some (.int .i64 (i : Nat)) ∧ W.cell? ⟨rb, ro + i * 3 + 2, none⟩ = some (.int .i64 say)) (by kernel_rfl) ?_
            have hgg : wr.drew.heap.size = wr.heap.size := rfl
            have HBd2 := hide (HB2w.out.trans (Bd.out.mono HB2w.out.size))
            have HOd := hide (HOB.out.ext Bd.out)
            generalize wr.drew = wd at Bd HBd2 HOd hgg ⊢
            have hBA : Below wd.heap.size wd (wd.alloc (.cells #[.int .i64 0] 3)) := (Below.refl _ _).alloc (Nat.le_refl _) _
            have HI0 := (Blk.new wd 3 #[.int .i64 0])
            have HLO := hide (Nat.le_of_eq hgg)
            rw [hgg] at HI0
            have HBA := hide (Bd.out.trans (hBA.mono Bd.out.size))
            refine wpAnyJ_take 0 (v := ?_) (by first | exact hF | exact wideFn) (HS16.out _ Bd.out) rfl (by kernel_rfl) (by kernel_rfl) (by kernel_rfl) (by kernel_rfl) rfl ?_ (by first | exact fun _ _ _ h => h | exact fun _ _ _ h => hQ2 _ _ _ _ _ h) ?_
            rotate_left
            · intro W hSW
              simp only [glA, glB, glC]
              (try dsimp only at hSW)
              go_simp
              with_reducible rfl
            (try simp only [glA, glB, glC, Act.put, glD, glE, glF])
            refine wpAnyJ_take 1 (v := ?_) (by first | exact hF | exact wideFn) (HS16.out _ Bd.out) rfl (by kernel_rfl) (by kernel_rfl) (by kernel_rfl) (by kernel_rfl) rfl ?_ (by first | exact fun _ _ _ h => h | exact fun _ _ _ h => hQ2 _ _ _ _ _ h) ?_
            rotate_left
            · intro W hSW
              simp only [glA, glB, glC]
              (try dsimp only at hSW)
              go_simp
              with_reducible rfl
            (try simp only [glA, glB, glC, Act.put, glD, glE, glF])
            refine wpAnyJ_take 2 (v := ?_) (by first | exact hF | exact wideFn) (HS16.out _ Bd.out) rfl (by kernel_rfl) (by kernel_rfl) (by kernel_rfl) (by kernel_rfl) rfl ?_ (by first | exact fun _ _ _ h => h | exact fun _ _ _ h => hQ2 _ _ _ _ _ h) ?_
            rotate_left
            · intro W hSW
              simp only [glA, glB, glC]
              (try dsimp only at hSW)
              go_simp
              with_reducible rfl
            (try simp only [glA, glB, glC, Act.put, glD, glE, glF])
            refine wpAnyJ_take 3 (v := ?_) (by first | exact hF | exact wideFn) (HS16.out _ Bd.out) rfl (by kernel_rfl) (by kernel_rfl) (by kernel_rfl) (by kernel_rfl) rfl ?_ (by first | exact fun _ _ _ h => h | exact fun _ _ _ h => hQ2 _ _ _ _ _ h) ?_
            rotate_left
            · intro W hSW
              simp only [glA, glB, glC]
              (try dsimp only at hSW)
              go_simp
              with_reducible rfl
            (try simp only [glA, glB, glC, Act.put, glD, glE, glF])
            refine wpAnyJ_take 4 (v := ?_) (by first | exact hF | exact wideFn) (HS16.out _ Bd.out) rfl (by kernel_rfl) (by kernel_rfl) (by kernel_rfl) (by kernel_rfl) rfl ?_ (by first | exact fun _ _ _ h => h | exact fun _ _ _ h => hQ2 _ _ _ _ _ h) ?_
            rotate_left
            · intro W hSW
              simp only [glA, glB, glC]
              (try dsimp only at hSW)
              go_simp
              with_reducible rfl
            (try simp only [glA, glB, glC, Act.put, glD, glE, glF])
            refine wpAnyJ_take 5 (v := ?_) (by first | exact hF | exact wideFn) (HS16.out _ Bd.out) rfl (by kernel_rfl) (by kernel_rfl) (by kernel_rfl) (by kernel_rfl) rfl ?_ (by first | exact fun _ _ _ h => h | exact fun _ _ _ h => hQ2 _ _ _ _ _ h) ?_
            rotate_left
            · intro W hSW
              simp only [glA, glB, glC]
              (try dsimp only at hSW)
              go_simp
              with_reducible rfl
            (try simp only [glA, glB, glC, Act.put, glD, glE, glF])
            refine wpAnyJ_take 6 (v := ?_) (by first | exact hF | exact wideFn) (HS16.out _ Bd.out) rfl (by kernel_rfl) (by kernel_rfl) (by kernel_rfl) (by kernel_rfl) rfl ?_ (by first | exact fun _ _ _ h => h | exact fun _ _ _ h => hQ2 _ _ _ _ _ h) ?_
            rotate_left
            · intro W hSW
              simp only [glA, glB, glC]
              (try dsimp only at hSW)
              go_simp
              with_reducible rfl
            (try simp only [glA, glB, glC, Act.put, glD, glE, glF])
            refine wpAnyJ_take 7 (v := ?_) (by first | exact hF | exact wideFn) (HS16.out _ Bd.out) rfl (by kernel_rfl) (by kernel_rfl) (by kernel_rfl) (by kernel_rfl) rfl ?_ (by first | exact fun _ _ _ h => h | exact fun _ _ _ h => hQ2 _ _ _ _ _ h) ?_
            rotate_left
            · intro W hSW
              simp only [glA, glB, glC]
              (try dsimp only at hSW)
              go_simp
              with_reducible rfl
            (try simp only [glA, glB, glC, Act.put, glD, glE, glF])
            refine wpAnyJ_take 8 (v := ?_) (by first | exact hF | exact wideFn) (HS16.out _ Bd.out) rfl (by kernel_rfl) (by kernel_rfl) (by kernel_rfl) (by kernel_rfl) rfl ?_ (by first | exact fun _ _ _ h => h | exact fun _ _ _ h => hQ2 _ _ _ _ _ h) ?_
            rotate_left
            · intro W hSW
              simp only [glA, glB, glC]
              (try dsimp only at hSW)
              go_simp
              with_reducible rfl
            (try simp only [glA, glB, glC, Act.put, glD, glE, glF])
            refine wpAnyJ_take 9 (v := ?_) (by first | exact hF | exact wideFn) (HS16.out _ Bd.out) rfl (by kernel_rfl) (by kernel_rfl) (by kernel_rfl) (by kernel_rfl) rfl ?_ (by first | exact fun _ _ _ h => h | exact fun _ _ _ h => hQ2 _ _ _ _ _ h) ?_
            rotate_left
            · intro W hSW
              simp only [glA, glB, glC]
              (try dsimp only at hSW)
              go_simp
              with_reducible rfl
            (try simp only [glA, glB, glC, Act.put, glD, glE, glF])
            refine wpAnyJ_take 10 (v := ?_) (by first | exact hF | exact wideFn) (HS16.out _ Bd.out) rfl (by kernel_rfl) (by kernel_rfl) (by kernel_rfl) (by kernel_rfl) rfl ?_ (by first | exact fun _ _ _ h => h | exact fun _ _ _ h => hQ2 _ _ _ _ _ h) ?_
            rotate_left
            · intro W hSW
              simp only [glA, glB, glC]
              (try dsimp only at hSW)
              go_simp
              with_reducible rfl
            (try simp only [glA, glB, glC, Act.put, glD, glE, glF])
            refine wpAnyJ_one 11 rfl (by kernel_rfl) (fun K hK => ?_)
            simp only [glA, glB, glC]
            go_simp
            refine hK.out _ _ (fun _ => (HS16.out _ HBA.out)) ?_
            clear hK K
            (try simp only [glA, glB, glC, Act.put, glD, glE, glF])
            have fI := HI0.frozen 0
            obtain ⟨lI, cI, -⟩ := blk1 HI0
            refine wpAnyJ_one 12 rfl (by kernel_rfl) (fun K hK => ?_)
            simp only [glA, glB, glC]
            go_simp
            refine hK.out _ _ (fun h => absurd h (by rw [show lastOp _ _ _ = true from by kernel_rfl]; simp)) ?_
            clear hK K
            (try simp only [glA, glB, glC, Act.put, glD, glE, glF])
            refine wpAnyJ_done (by kernel_rfl) ?_
            have hI1 := Blk.new wd 3 #[.int .i64 say]
            rw [hgg] at hI1
            have HI1 := hide hI1
            have HBS : Hid (Below wd.heap.size wd (wd.alloc (.cells #[.int .i64 say] 3))) := hide ((Below.refl _ _).alloc (Nat.le_refl _) _)
            clear fI lI cI HI0 hI1 hBA HBA HS16 fV0 fV1 lV cV0 cV1
            generalize (wd.alloc (.cells #[.int .i64 say] 3)) = w6 at HI1 HBS ⊢
            have HB26 := hide (HBd2.out.trans (HBS.out.mono HBd2.out.size))
            have HO6 := hide (HOd.out.ext HBS.out)
            clear hgg HLO
            obtain ⟨I, hII⟩ : ∃ x, wr.heap.size = x := ⟨_, rfl⟩
            rw [hII] at HI1 ⊢
            clear hII
            have hnr2 : s.rs.length ≤ maxLen := by rw [HN.out.2]; unfold maxLen; omega
            have hcf := containsFunc_int 36 #[.pointer (some ⟨P, 0, none⟩), .pointer (some ⟨I, 0, none⟩)] (fun k => (s.rs.getD (bl.getD k 0).toNat r0).say != say) (some ⟨bb, bo, none⟩) nu cu (fun j => .int .i64 (bl.getD j 0)) w6 (by have := HBE.out.size; unfold maxLen; have h1 := HNU.out; have h2 := List.length_filter_le (topB st ap) (ap.take na); have h3 := List.length_take_le na ap; omega) (by
              have h := HO6.out.li.2
              unfold LI at h
              rw [← HNL.out] at h
              exact h) (enters_of Tryd.func36 (by kernel_rfl) rfl) (fun W k hk hb => by
                obtain ⟨j, hj, hjn⟩ := HBM.out (bl.getD k 0) (by
                  rw [List.getD_eq_getElem?_getD, List.getElem?_eq_getElem (by rw [← HNL.out]; exact hk)]
                  exact List.getElem_mem _)
                rw [hj]
                have hP2 := (HP1.out.ext HB26.out).ext hb
                have hI2 := HI1.out.ext hb
                have := decide2_any P I C d SA sc s st say j W hP2.lt hI2.lt (blk1 hP2).2.1 (blk1 hI2).2.1 ((HC2.out.below HB26.out).below hb) hnr2 (by rw [HN.out.2]; exact hjn)
                rw [show ((j : Nat) : Int).toNat = j by omega]
                exact this)
            have HCF := hide hcf
            clear hcf hnr2
            generalize anyTo (fun k => (s.rs.getD (bl.getD k 0).toNat r0).say != say) nu = tb at HCF HDC
            go_wp2_with fail
            refine HCF.out.mono ?_
            rintro e w7 ⟨rfl, hb7⟩
            have HB27 := hide (HB26.out.trans (hb7.mono HB26.out.size))
            have HI7 := hide (HI1.out.ext hb7)
            have HO7 := hide (HO6.out.ext hb7)
            clear hb7 HCF HI1 HO6 HB26 HVE HBE HOB
            have HVE := hide (HV1.out.ext HB27.out)
            have HBE := hide (HB2.out.trans (HB27.out.mono HB2.out.size))
            have fV0 := HVE.out.frozen 0
            have fV1 := HVE.out.frozen 1
            obtain ⟨lV, cV0, cV1, -⟩ := blk2 HVE.out
            obtain ⟨-, cI, -⟩ := blk1 HI7.out
            rcases tb with _ | _
            · go_wp2_with fail
              have hR := (HVE.out).set2 (.int .i64 (say)) (.int .i64 (0))
              have hown : OwnJ ((w7.setCell ⟨P + 1, 0, none⟩ (.int .i64 (say))).setCell ⟨P + 1, 1, none⟩ (.int .i64 (0))) w.heap.size (.slice (some ⟨bb, bo, none⟩) nu cu) _ := World.ownsRow.kept (World.ownsRow.kept HO7.out (grownBy_setC w7 (P + 1) 0 _) (.inr (own_blk_ne HO7.out HVE.out (by decide)))) (grownBy_setC _ (P + 1) 1 _) (.inr (own_blk_ne HO7.out HVE.out (by decide)))
              have hbd := (HBE.out.setCell (p := ⟨P + 1, 0, none⟩) (by rw [HPB.out]; exact Nat.le_succ _) (.int .i64 (say))).setCell (p := ⟨P + 1, 1, none⟩) (by rw [HPB.out]; exact Nat.le_succ _) (.int .i64 (0))
              generalize ((w7.setCell ⟨P + 1, 0, none⟩ (.int .i64 (say))).setCell ⟨P + 1, 1, none⟩ (.int .i64 (0))) = wz at hR hown hbd ⊢
              obtain ⟨-, q0, q1, -⟩ := blk2 hR
              refine bodyPost_ret (v := .tuple #[.agg #[.int .i64 (say), .int .i64 (0)], (.slice (some ⟨bb, bo, none⟩) nu cu)]) (by simp [results, Tryd.results18, go_sem, q0, q1]) rfl ?_
              unfold DcPost
              rw [HDC.out]
              exact ⟨_, rfl, hown, hbd⟩
            · go_wp2_with fail
              have hR := (HVE.out).set2 (.int .i64 (0)) (.int .i64 (110))
              have hown : OwnJ ((w7.setCell ⟨P + 1, 0, none⟩ (.int .i64 (0))).setCell ⟨P + 1, 1, none⟩ (.int .i64 (110))) w.heap.size (.slice none 0 0) _ := World.ownsRow.kept (World.ownsRow.kept (OwnJ.nil w7 w.heap.size) (grownBy_setC w7 (P + 1) 0 _) (.inr (own_blk_ne (OwnJ.nil w7 w.heap.size) HVE.out (by decide)))) (grownBy_setC _ (P + 1) 1 _) (.inr (own_blk_ne (OwnJ.nil w7 w.heap.size) HVE.out (by decide)))
              have hbd := (HBE.out.setCell (p := ⟨P + 1, 0, none⟩) (by rw [HPB.out]; exact Nat.le_succ _) (.int .i64 (0))).setCell (p := ⟨P + 1, 1, none⟩) (by rw [HPB.out]; exact Nat.le_succ _) (.int .i64 (110))
              generalize ((w7.setCell ⟨P + 1, 0, none⟩ (.int .i64 (0))).setCell ⟨P + 1, 1, none⟩ (.int .i64 (110))) = wz at hR hown hbd ⊢
              obtain ⟨-, q0, q1, -⟩ := blk2 hR
              refine bodyPost_ret (v := .tuple #[.agg #[.int .i64 (0), .int .i64 (110)], (.slice none 0 0)]) (by simp [results, Tryd.results18, go_sem, q0, q1]) rfl ?_
              unfold DcPost
              rw [HDC.out]
              exact ⟨_, rfl, hown, hbd⟩
          -- END4
      -- END2
end Go.Proofs.YtfbnpiafoaoddaaDoor
/- School: isCase, Decide. -/
namespace Go.Proofs.YtfbnpiafoaoddaaDoor
open List renaming getElem_toArray → glA, getElem_cons_zero → glB, getElem_cons_succ → glC, setIfInBounds_toArray → glD, set_cons_zero → glE, set_cons_succ → glF
open Go Go.RowKit Go.Shelf
set_option maxHeartbeats 8000000
set_option maxRecDepth 100000
def csB (c fs : List Int) : Nat → Bool
  | 0 => true
  | n + 1 => csB c fs n && decide (0 ≤ c.getD n 0 ∧ c.getD n 0 ≤ fs.getD n 0 - 1)
/-- a case of these features -/
def icB (fs c : List Int) : Bool := decide (c.length = fs.length) && csB c fs fs.length
theorem csB_at {c fs : List Int} {n : Nat} (h : csB c fs n = true) : ∀ k, k < n → 0 ≤ c.getD k 0 ∧ c.getD k 0 ≤ fs.getD k 0 - 1 := by
  induction n with
  | zero => intro k hk; omega
  | succ n ih =>
    intro k hk
    have h2 : (csB c fs n && decide (0 ≤ c.getD n 0 ∧ c.getD n 0 ≤ fs.getD n 0 - 1)) = true := h
    rw [Bool.and_eq_true] at h2
    rcases (by omega : k < n ∨ k = n) with h1 | rfl
    · exact ih h2.1 k h1
    · exact of_decide_eq_true h2.2
theorem csB_no {c fs : List Int} {k n : Nat} (h : ¬ (0 ≤ c.getD k 0 ∧ c.getD k 0 ≤ fs.getD k 0 - 1)) (hk : k < n) : csB c fs n = false := by
  cases h1 : csB c fs n with
  | false => rfl
  | true => exact absurd (csB_at h1 k hk) h
theorem isCase_any (C : Nat) (d : Ad_) (SA : Option Addr) (sc : Nat) (s : Sch) (st : Nat → Nat → Nat) (A : Option Addr) (cc : Nat) (c : List Int) (w : World) (h : CR w w.heap.size C d SA sc s st) (hfs : ∀ k, k < s.fs.length → 1 ≤ s.fs.getD k 0 ∧ s.fs.getD k 0 ≤ 4) (hl : s.fs.length ≤ 5) (hA : LI w w.heap.size A c) :
    Calls Tryd.prog 20 #[.pointer (some ⟨C, 0, none⟩), .slice A c.length cc] w fun e w' => e = .returned (.bool (icB s.fs c)) ∧ Below w.heap.size w w' := by
  have HA := hide hA
  have HF := hide h.scr.fs
  have HFS := hide hfs
  have c0 := h.c0
  unfold icB
  obtain ⟨fs, q, rs⟩ := s
  dsimp only at c0 HF HFS hl ⊢
  obtain ⟨nf, hn⟩ : ∃ n, fs.length = n := ⟨_, rfl⟩
  obtain ⟨nc, hc⟩ : ∃ n, c.length = n := ⟨_, rfl⟩
  have HN := hide (And.intro hn hc)
  rw [hn] at c0 hl ⊢
  rw [hc]
  clear hA hfs h hn hc
  by_cases hne : nc = nf
  rotate_left
  · have e1 : ((nc : Int) != (nf : Int)) = true := by rw [bne_iff_ne]; omega
    have e2 : (nc != nf) = true := by rw [bne_iff_ne]; exact hne
    have HE := hide (decide_eq_false hne)
    clear hne
    go_enter Tryd.func20, Tryd.ntmps20
    go_wp2_with fail
    go_ret
    exact ⟨ret_bool (by rw [HE.out]; rfl), Below.refl _ _⟩
  subst hne
  have e1 : ((nc : Int) != (nc : Int)) = false := bne_self_eq_false _
  have e2 : (nc != nc) = false := bne_self_eq_false _
  have HE : Hid ((decide (nc = nc) && csB c fs nc) = csB c fs nc) := hide (by simp)
  rw [HE.out]
  clear HE
  go_enter Tryd.func20, Tryd.ntmps20
  go_upto_region 4 with fail
  clear e1 e2 c0
  go_loopw [22] (fun i wr => ∃ k : Nat, k ≤ nc ∧ i = .int .i64 k ∧ Hid (csB c fs k = true) ∧ Hid (wr = w)) (fun i _ => nc - (intOf i).toNat)
  case atStart => exact ⟨0, Nat.zero_le _, rfl, hide rfl, hide rfl⟩
  case round =>
    obtain ⟨k, hk, rfl, HK, HW⟩ := hrel
    obtain rfl := HW.out
    by_cases hlt : k < nc
    · have hlt' : (k : Int) < (nc : Int) := by omega
      have k0 : (0 : Int) ≤ (k : Int) := by omega
      have hkf : k < fs.length := by rw [HN.out.1]; exact hlt
      have hkc : k < c.length := by rw [HN.out.2]; exact hlt
      obtain ⟨fb, fo, hfa, hfb, hfc⟩ := VR1.at_ HF.out hkf
      obtain ⟨cb, co, rfl, hcb, hcc⟩ := VR1.at_ HA.out hkc
      obtain ⟨n, hn⟩ : ∃ n, fs.getD k 0 = n := ⟨_, rfl⟩
      obtain ⟨x, hx⟩ : ∃ n, c.getD k 0 = n := ⟨_, rfl⟩
      have hn14 := HFS.out k hkf
      rw [hn] at hfc hn14
      rw [hx] at hcc
      have w1 : IntKind.i64.wrap (n - 1) = n - 1 := IntWalk.i64_in _ (by omega)
      have HWT := within_any x 0 (n - 1) wr
      simp only [wb] at HWT
      rw [hfa]
      by_cases hb : 0 ≤ x ∧ x ≤ n - 1
      · rw [decide_eq_true hb] at HWT
        have HNX : Hid (csB c fs (k + 1) = true) := hide (by
          show (csB c fs k && decide (0 ≤ c.getD k 0 ∧ c.getD k 0 ≤ fs.getD k 0 - 1)) = true
          rw [HK.out, hx, hn, decide_eq_true hb]; rfl)
        have HWT := hide HWT
        clear hb hn hx
        go_wp2_with fail
        refine HWT.out.mono ?_
        rintro e _ ⟨rfl, rfl⟩
        go_wp2_with fail
        go_roundw
        case rel => exact ⟨k + 1, by omega, by go_num, HNX, by first | trivial | exact hide rfl⟩
        case measure => simp [intOf]; omega
      · rw [decide_eq_false hb] at HWT
        have HNX : Hid (csB c fs nc = false) := hide (csB_no (by rw [hx, hn]; exact hb) hlt)
        have HWT := hide HWT
        clear hb hn hx
        go_wp2_with fail
        refine HWT.out.mono ?_
        rintro e _ ⟨rfl, rfl⟩
        go_wp2_with fail
        go_ret
        exact ⟨ret_bool HNX.out.symm, Below.refl _ _⟩
    · obtain rfl : k = nc := by omega
      have hnl : ¬ (k : Int) < (k : Int) := by omega
      go_wp2_with fail
      go_ret
      exact ⟨ret_bool HK.out.symm, Below.refl _ _⟩
theorem fsB_at {fs : List Int} (h : fsB fs = true) : ∀ k, k < fs.length → 1 ≤ fs.getD k 0 ∧ fs.getD k 0 ≤ 4 := fun k hk => by
  have h := List.all_eq_true.1 h (fs.getD k 0) (by rw [List.getD_eq_getElem?_getD, List.getElem?_eq_getElem hk]; exact List.getElem_mem hk)
  exact of_decide_eq_true h
theorem evF_lt {fs : List Int} (h : fsB fs = true) (k : Nat) : evF fs k < 16 := by
  unfold evF
  split
  · rename_i hk
    have h := fsB_at h k hk
    rcases (by omega : fs.getD k 0 = 1 ∨ fs.getD k 0 = 2 ∨ fs.getD k 0 = 3 ∨ fs.getD k 0 = 4) with e | e | e | e <;> rw [e] <;> decide
  · omega
theorem stF_lt {s : Sch} (h : fsB s.fs = true) (k x : Nat) : stF s k x < 16 := by
  unfold stF setF clnF
  split
  · omega
  · exact Nat.lt_of_le_of_lt (wthL_le _ _ x) (evF_lt h x)
structure SchOk (s : Sch) : Prop where
  nf1 : 1 ≤ s.fs.length
  nf5 : s.fs.length ≤ 5
  q1 : 1 ≤ s.q
  q4 : s.q ≤ 4
  nr : s.rs.length ≤ 12
  fs : fsB s.fs = true
theorem schB_ok {s : Sch} (h : schB s = true) : SchOk s := by
  unfold schB at h
  simp only [Bool.and_eq_true, decide_eq_true_eq] at h
  exact ⟨h.1.1, h.1.2, h.2.1.1, h.2.1.2, h.2.2.1, h.2.2.2.1⟩
/-- what Decide returns: what is said, the error, by which rules -/
def decR (s : Sch) (c : List Int) (q : Int) : Int × Int × List Int :=
  if schB s then if 0 ≤ q ∧ q ≤ s.q - 1 then if icB s.fs c then dcF s (stF s) c q else (0, 4, []) else (0, 3, []) else (0, 2, [])
def DePost (w : World) (r : Int × Int × List Int) (e : Ending) (w' : World) : Prop :=
  ∃ v, e = .returned (.tuple #[.int .i64 r.1, v, .int .i64 r.2.1]) ∧ OwnJ w' w.heap.size v r.2.2 ∧ Below w.heap.size w w'
theorem Decide_any (d : Ad_) (s : Sch) (A : Option Addr) (cc : Nat) (c : List Int) (q : Int) (w : World) (hd : ScR w w.heap.size d s) (hnf : s.fs.length ≤ maxLen) (hnr : s.rs.length ≤ maxLen) (hA : LI w w.heap.size A c) :
    Calls Tryd.prog 7 #[scV d s, .slice A c.length cc, .int .i64 q] w (DePost w (decR s c q)) := by
  have HA := hide hA
  obtain ⟨nf, hf⟩ : ∃ n, s.fs.length = n := ⟨_, rfl⟩
  obtain ⟨nr, hr⟩ : ∃ n, s.rs.length = n := ⟨_, rfl⟩
  obtain ⟨nc, hc⟩ : ∃ n, c.length = n := ⟨_, rfl⟩
  obtain ⟨Q, hQ⟩ : ∃ n, s.q = n := ⟨_, rfl⟩
  have HOP : Hid (∀ W, Below w.heap.size w W → Calls Tryd.prog 14 #[.agg #[.slice d.fa nf d.fc, .int .i64 Q, .slice d.ra nr d.rc]] W (OpPost W d s)) := hide fun W hB => by
    have := open_any d s W (hd.below hB) hnf hnr
    unfold scV at this
    rw [hf, hr, hQ] at this
    exact this
  unfold scV
  have HN := hide (And.intro hf (And.intro hr (And.intro hc hQ)))
  have HD := hide hd
  rw [hf, hr, hc, hQ]
  have HB0 := hide ((Below.refl w.heap.size w).alloc (Nat.le_refl _) (.cells #[.slice d.fa nf d.fc, .int .i64 Q, .slice d.ra nr d.rc] 29))
  have G1 := Blk.new w 29 #[.slice d.fa nf d.fc, .int .i64 Q, .slice d.ra nr d.rc]
  clear hd hA hf hr hc hQ hnf hnr
  go_enter Tryd.func7, Tryd.ntmps7
  go_upto_region 1 with fail
  generalize (w.alloc (.cells #[.slice d.fa nf d.fc, .int .i64 Q, .slice d.ra nr d.rc] 29)) = w1 at HB0 G1 ⊢
  have HG1 := hide G1
  obtain ⟨G, hG⟩ : ∃ x, w.heap.size = x := ⟨_, rfl⟩
  rw [hG] at G1 HG1 ⊢
  obtain ⟨-, g0, g1, g2, -⟩ := blk3 G1
  clear G1 hG
  go_wp2_with fail
  refine (HOP.out w1 HB0.out).mono ?_
  intro e w2 hop
  unfold OpPost at hop
  by_cases hs : schB s = true
  rotate_left
  · rw [if_neg hs] at hop
    obtain ⟨rfl, hb2⟩ := hop
    have HR : Hid (decR s c q = (0, 2, [])) := hide (by unfold decR; rw [if_neg hs])
    have HB2 := hide (HB0.out.trans (hb2.mono HB0.out.size))
    clear hb2 hs g0 g1 g2
    go_wp2_with fail
    go_ret3
    rw [HR.out]
    exact ⟨_, rfl, OwnJ.nil _ _, HB2.out⟩
  rw [if_pos hs] at hop
  obtain ⟨C, SA, sc, rfl, hcode⟩ := hop
  have HB2 := hide (HB0.out.trans (hcode.below.mono HB0.out.size))
  have HCR := hide (hcode.cr (HD.out.below HB0.out))
  have HOK := hide (schB_ok hs)
  have G2 := HG1.out.ext hcode.below
  have HS := hide hs
  clear hcode g0 g1 g2 hs HG1
  obtain ⟨-, g0, g1, g2, -⟩ := blk3 G2
  have hq14 : 1 ≤ Q ∧ Q ≤ 4 := by rw [← HN.out.2.2.2]; exact ⟨HOK.out.q1, HOK.out.q4⟩
  have w5 : IntKind.i64.wrap (Q - 1) = Q - 1 := IntWalk.i64_in _ (by omega)
  have HWT := within_any q 0 (Q - 1) w2
  simp only [wb] at HWT
  by_cases hq : 0 ≤ q ∧ q ≤ Q - 1
  rotate_left
  · rw [decide_eq_false hq] at HWT
    have HWT := hide HWT
    have HR : Hid (decR s c q = (0, 3, [])) := hide (by unfold decR; rw [if_pos HS.out, HN.out.2.2.2, if_neg hq])
    clear hq
    go_wp2_with fail
    refine HWT.out.mono ?_
    rintro e _ ⟨rfl, rfl⟩
    go_wp2_with fail
    go_ret3
    rw [HR.out]
    exact ⟨_, rfl, OwnJ.nil _ _, HB2.out⟩
  rw [decide_eq_true hq] at HWT
  have HWT := hide HWT
  have hfs5 := HOK.out.nf5
  have HIC := isCase_any C d SA sc s (stF s) A cc c w2 HCR.out (fsB_at HOK.out.fs) hfs5 ((ER.below HA.out HB2.out (Nat.le_refl _)).more HB2.out.size)
  rw [HN.out.2.2.1] at HIC
  have HQ := hide hq
  clear hq hfs5
  by_cases hi : icB s.fs c = true
  rotate_left
  · have HR : Hid (decR s c q = (0, 4, [])) := hide (by unfold decR; rw [if_pos HS.out, HN.out.2.2.2, if_pos HQ.out, if_neg hi])
    rw [show icB s.fs c = false by simpa using hi] at HIC
    have HIC := hide HIC
    clear hi
    go_wp2_with fail
    refine HWT.out.mono ?_
    rintro e _ ⟨rfl, rfl⟩
    go_wp2_with fail
    refine HIC.out.mono ?_
    rintro e w3 ⟨rfl, hb3⟩
    have HB3 := hide (HB2.out.trans (hb3.mono HB2.out.size))
    clear hb3
    go_wp2_with fail
    go_ret3
    rw [HR.out]
    exact ⟨_, rfl, OwnJ.nil _ _, HB3.out⟩
  have HR : Hid (decR s c q = dcF s (stF s) c q) := hide (by unfold decR; rw [if_pos HS.out, HN.out.2.2.2, if_pos HQ.out, if_pos hi])
  have hic := hi
  unfold icB at hic
  rw [Bool.and_eq_true] at hic
  have hcl := of_decide_eq_true hic.1
  have hcs := csB_at hic.2
  rw [hi] at HIC
  have HIC := hide HIC
  have HDC : Hid (∀ W, Below w2.heap.size w2 W → Calls Tryd.prog 18 #[.pointer (some ⟨C, 0, none⟩), .slice A nc cc, .int .i64 q] W (DcPost W (dcF s (stF s) c q))) := hide fun W hB => by
    have := decide_any C d SA sc s (stF s) A cc c q W (HCR.out.below hB) (fun k x => Nat.lt_trans (stF_lt HOK.out.fs k x) (by decide)) HOK.out.nr (by rw [hcl]; exact HOK.out.nf5) (fun k hk => by
      have h1 := hcs k (by rw [← hcl]; exact hk)
      have h2 := fsB_at HOK.out.fs k (by rw [← hcl]; exact hk)
      omega) ((ER.below HA.out (HB2.out.trans (hB.mono HB2.out.size)) (Nat.le_refl _)).more (Nat.le_trans HB2.out.size hB.size))
    rw [HN.out.2.2.1] at this
    exact this
  clear hi hic hcl hcs
  generalize dcF s (stF s) c q = r at HR HDC
  go_wp2_with fail
  refine HWT.out.mono ?_
  rintro e _ ⟨rfl, rfl⟩
  go_wp2_with fail
  refine HIC.out.mono ?_
  rintro e w3 ⟨rfl, hb3⟩
  have HB3 := hide hb3
  clear hb3
  go_wp2_with fail
  refine (HDC.out w3 HB3.out).mono ?_
  rintro e w4 ⟨v, rfl, ho4, hb4⟩
  have HB4 := hide ((HB2.out.trans (HB3.out.mono HB2.out.size)).trans (hb4.mono (by have h1 := HB2.out.size; have h2 := HB3.out.size; omega)))
  have HO4 := hide (ownMono ho4 (by have h1 := HB2.out.size; have h2 := HB3.out.size; omega) : OwnJ w4 w.heap.size v r.2.2)
  obtain ⟨a1, a2, a3⟩ := r
  dsimp only at HO4 ⊢
  obtain ⟨VA, vc, hva⟩ := own_shape HO4.out
  obtain ⟨vn, hvn⟩ : ∃ n, a3.length = n := ⟨_, rfl⟩
  rw [hvn] at hva
  subst hva
  clear hb4 ho4 hvn
  go_upto_region 9 with fail
  have V1 := Blk.new w4 69 #[.int .i64 a1, .int .i64 a2]
  have HB5 := hide (HB4.out.alloc HB4.out.size (.cells #[.int .i64 a1, .int .i64 a2] 69))
  have HO5 := hide (OwnJ.ext HO4.out ((Below.refl _ _).alloc (Nat.le_refl _) (.cells #[.int .i64 a1, .int .i64 a2] 69)))
  generalize (w4.alloc (.cells #[.int .i64 a1, .int .i64 a2] 69)) = w5 at V1 HB5 HO5 ⊢
  generalize w4.heap.size = T at V1 ⊢
  have HS9 : Hid (∀ W, Below w5.heap.size w5 W → W.cell? ⟨T, 0, none⟩ = some (.int .i64 a1) ∧ W.cell? ⟨T, 1, none⟩ = some (.int .i64 a2)) := hide fun W h => ⟨(blk2 (V1.ext h)).2.1, (blk2 (V1.ext h)).2.2.1⟩
  clear V1
  have Bd := hide ((Below.refl w5.heap.size w5).drew)
  refine wp_region_J (fun W : World => W.cell? ⟨T, 0, none⟩ = some (.int .i64 a1) ∧ W.cell? ⟨T, 1, none⟩ = some (.int .i64 a2)) (by kernel_rfl) ?_
  generalize w5.drew = wd at Bd ⊢
  refine wpAnyJ_take 0 (v := ?_) (by first | exact hF | exact wideFn) (HS9.out _ Bd.out) rfl (by kernel_rfl) (by kernel_rfl) (by kernel_rfl) (by kernel_rfl) rfl ?_ (by first | exact fun _ _ _ h => h | exact fun _ _ _ h => hQ2 _ _ _ _ _ h) ?_
  rotate_left
  · intro W hSW
    simp only [glA, glB, glC]
    (try dsimp only at hSW)
    go_simp
    with_reducible rfl
  (try simp only [glA, glB, glC, Act.put, glD, glE, glF])
  refine wpAnyJ_take 1 (v := ?_) (by first | exact hF | exact wideFn) (HS9.out _ Bd.out) rfl (by kernel_rfl) (by kernel_rfl) (by kernel_rfl) (by kernel_rfl) rfl ?_ (by first | exact fun _ _ _ h => h | exact fun _ _ _ h => hQ2 _ _ _ _ _ h) ?_
  rotate_left
  · intro W hSW
    simp only [glA, glB, glC]
    (try dsimp only at hSW)
    go_simp
    with_reducible rfl
  (try simp only [glA, glB, glC, Act.put, glD, glE, glF])
  refine wpAnyJ_take 2 (v := ?_) (by first | exact hF | exact wideFn) (HS9.out _ Bd.out) rfl (by kernel_rfl) (by kernel_rfl) (by kernel_rfl) (by kernel_rfl) rfl ?_ (by first | exact fun _ _ _ h => h | exact fun _ _ _ h => hQ2 _ _ _ _ _ h) ?_
  rotate_left
  · intro W hSW
    simp only [glA, glB, glC]
    (try dsimp only at hSW)
    go_simp
    with_reducible rfl
  (try simp only [glA, glB, glC, Act.put, glD, glE, glF])
  refine wpAnyJ_take 3 (v := ?_) (by first | exact hF | exact wideFn) (HS9.out _ Bd.out) rfl (by kernel_rfl) (by kernel_rfl) (by kernel_rfl) (by kernel_rfl) rfl ?_ (by first | exact fun _ _ _ h => h | exact fun _ _ _ h => hQ2 _ _ _ _ _ h) ?_
  rotate_left
  · intro W hSW
    simp only [glA, glB, glC]
    (try dsimp only at hSW)
    go_simp
    with_reducible rfl
  (try simp only [glA, glB, glC, Act.put, glD, glE, glF])
  refine wpAnyJ_take 4 (v := ?_) (by first | exact hF | exact wideFn) (HS9.out _ Bd.out) rfl (by kernel_rfl) (by kernel_rfl) (by kernel_rfl) (by kernel_rfl) rfl ?_ (by first | exact fun _ _ _ h => h | exact fun _ _ _ h => hQ2 _ _ _ _ _ h) ?_
  rotate_left
  · intro W hSW
    simp only [glA, glB, glC]
    (try dsimp only at hSW)
    go_simp
    with_reducible rfl
  (try simp only [glA, glB, glC, Act.put, glD, glE, glF])
  refine wpAnyJ_take 5 (v := ?_) (by first | exact hF | exact wideFn) (HS9.out _ Bd.out) rfl (by kernel_rfl) (by kernel_rfl) (by kernel_rfl) (by kernel_rfl) rfl ?_ (by first | exact fun _ _ _ h => h | exact fun _ _ _ h => hQ2 _ _ _ _ _ h) ?_
  rotate_left
  · intro W hSW
    simp only [glA, glB, glC]
    (try dsimp only at hSW)
    go_simp
    with_reducible rfl
  (try simp only [glA, glB, glC, Act.put, glD, glE, glF])
  refine wpAnyJ_take 6 (v := ?_) (by first | exact hF | exact wideFn) (HS9.out _ Bd.out) rfl (by kernel_rfl) (by kernel_rfl) (by kernel_rfl) (by kernel_rfl) rfl ?_ (by first | exact fun _ _ _ h => h | exact fun _ _ _ h => hQ2 _ _ _ _ _ h) ?_
  rotate_left
  · intro W hSW
    simp only [glA, glB, glC]
    (try dsimp only at hSW)
    go_simp
    with_reducible rfl
  (try simp only [glA, glB, glC, Act.put, glD, glE, glF])
  refine wpAnyJ_take 7 (v := ?_) (by first | exact hF | exact wideFn) (HS9.out _ Bd.out) rfl (by kernel_rfl) (by kernel_rfl) (by kernel_rfl) (by kernel_rfl) rfl ?_ (by first | exact fun _ _ _ h => h | exact fun _ _ _ h => hQ2 _ _ _ _ _ h) ?_
  rotate_left
  · intro W hSW
    simp only [glA, glB, glC]
    (try dsimp only at hSW)
    go_simp
    with_reducible rfl
  (try simp only [glA, glB, glC, Act.put, glD, glE, glF])
  refine wpAnyJ_done (by kernel_rfl) ?_
  go_wp2_with fail
  go_ret3
  rw [HR.out]
  exact ⟨_, rfl, OwnJ.ext HO5.out Bd.out, HB5.out.trans (Bd.out.mono HB5.out.size)⟩
end Go.Proofs.YtfbnpiafoaoddaaDoor
