/- School: join. -/
import Derived.Test.YtmpegkojencbjaaDoorMergesC
import Derived.Lib.AppendZeros
import Derived.Maps.AppendAt
set_option linter.unusedSimpArgs false
set_option linter.unusedVariables false
set_option linter.unnecessarySimpa false
namespace Go.Proofs.YtmpegkojencbjaaDoor
open Go Go.RowKit Go.Shelf
set_option maxHeartbeats 2000000
set_option maxRecDepth 100000
theorem EdR.ext {w w' : World} {A : Option Addr} {l : List Ed} (h : EdR w w.heap.size A l) (hb : Below w.heap.size w w') : EdR w' w'.heap.size A l := (ER.below h hb (Nat.le_refl _)).more hb.size
/-- what both say -/
def jnL (l m : List Ed) : List Ed := if l.length = 0 then m else l
def jnB (l m : List Ed) : Bool := decide (l.length = 0) || (decide (m.length = 0) || decide (l = m))
theorem join_any (A B : Option Addr) (c d : Nat) (l m : List Ed) (w : World) (hl : l.length ≤ maxLen) (hm : m.length ≤ maxLen) (hA : EdR w w.heap.size A l) (hB : EdR w w.heap.size B m) :
    Calls Tryd.prog 54 #[.slice A l.length c, .slice B m.length d] w fun e w' => ∃ A' c', e = .returned (.tuple #[.slice A' (jnL l m).length c', .bool (jnB l m)]) ∧ EdR w' w'.heap.size A' (jnL l m) ∧ Below w.heap.size w w' := by
  have HE := hide (equalE_any A B c d l m w hl hA hB)
  have HA := hide hA
  have HB := hide hB
  unfold maxLen at hl hm
  clear hA hB
  unfold jnL jnB
  by_cases h0 : l.length = 0
  · rw [if_pos h0, decide_eq_true h0, Bool.true_or]
    rw [h0] at HE ⊢
    clear h0 hl
    go_enter Tryd.func54, Tryd.ntmps54
    go_wp2_with fail
    go_ret2
    exact ⟨B, d, rfl, HB.out, Below.refl _ _⟩
  · rw [if_neg h0, decide_eq_false h0, Bool.false_or]
    have h0' : ¬ (l.length : Int) = 0 := by omega
    generalize l.length = n at *
    by_cases h1 : m.length = 0
    · rw [decide_eq_true h1, Bool.true_or]
      rw [h1] at HE ⊢
      clear hm h1
      go_enter Tryd.func54, Tryd.ntmps54
      go_wp2_with fail
      go_ret2
      exact ⟨A, c, rfl, HA.out, Below.refl _ _⟩
    · rw [decide_eq_false h1, Bool.false_or]
      have h1' : ((m.length : Int) == 0) = false := by simpa using h1
      generalize m.length = n2 at *
      generalize decide (l = m) = bb at *
      go_enter Tryd.func54, Tryd.ntmps54
      go_wp2_with fail
      refine HE.out.mono ?_
      rintro e w2 ⟨rfl, hb2⟩
      go_wp2_with fail
      go_ret2
      exact ⟨A, c, rfl, HA.out.ext hb2, hb2⟩
end Go.Proofs.YtmpegkojencbjaaDoor
/- School: slices.Grow and slices.Concat at lists of edits. -/
namespace Go.Proofs.YtmpegkojencbjaaDoor
open Go Go.RowKit Go.Shelf
set_option maxHeartbeats 2000000
set_option maxRecDepth 100000
theorem run_append_none0 {P : Program} {w : World} {base : Nat} (t ty e : TypeId) (i : TypeInfo) (size : Nat) (ht : P.underlying t = some (.slice e)) (hi : P.info? e = some i)
    (v : Value) (n c : Nat) (xs : List Value) (hown : w.ownsRow base e size v n xs) :
    (Builtin.append_ #[t, t] ty #[v, .slice none 0 c]).run P w = .ok v w := by
  rcases hown.2 with ⟨rfl, rfl⟩ | ⟨g, cap, cur, rfl, _, _, hnc, _⟩
  · simp [Builtin.append_, run_underlying ht, sizeOf, typeInfo, hi, Builtin.lenOf, Builtin.firstCells]
  · simp [Builtin.append_, run_underlying ht, sizeOf, typeInfo, hi, Builtin.lenOf, Builtin.firstCells, hnc, storeCells]
/-- a list of edits is appended -/
theorem OwnE.pushes {W : World} {base : Nat} {v : Value} {l : List Ed} (h : OwnE W base v l) (A : Option Addr) (c : Nat) (m : List Ed) (hA : EdR W W.heap.size A m) (hl : l.length + m.length ≤ 1000000) (hb : base ≤ W.heap.size) :
    ∃ v' w', (Builtin.append_ #[26, 26] 26 #[v, .slice A m.length c]).run Tryd.prog W = .ok v' w' ∧ OwnE w' base v' (l ++ m) ∧ W.grownBy w' v.ownBlock := by
  obtain ⟨i0, hi, hz0, hz1, hz2⟩ := info_parts info_edit
  cases A with
  | none =>
    have hm : m = [] := by
      rcases hm : m with _ | ⟨x, m⟩
      · rfl
      · exfalso
        obtain ⟨b, off, hA, -⟩ := hA (by rw [hm]; simp)
        cases hA
    subst hm
    refine ⟨v, W, run_append_none0 (P := Tryd.prog) _ _ 86 i0 4 Tryd.underlying26 hi v l.length c (cellsE l) h, by simpa using h, World.grownBy.refl _ _⟩
  | some a =>
    have hcells : ∀ j u, (cellsE m)[j]? = some u → W.cell? (a.add j) = some u := by
      intro j u hj
      have hlt : j < m.length * 4 := by
        have := (List.getElem?_eq_some_iff.1 hj).1
        rwa [cellsE_len] at this
      obtain ⟨b, off, hA', -, hc⟩ := hA (by omega)
      injection hA' with hA'
      subst hA'
      have hk : j / 4 < m.length := by omega
      have hi4 : j % 4 < 4 := by omega
      have e1 : j / 4 * 4 + j % 4 = j := by omega
      have e2 := cellsE_at m (j / 4) (j % 4) hk hi4
      rw [e1, hj] at e2
      have e3 := hc (j / 4) (j % 4) hk hi4
      rw [show off + j / 4 * 4 + j % 4 = off + j by omega, ← e2] at e3
      have e4 : ((⟨b, off, none⟩ : Addr).add j) = ⟨b, off + j, none⟩ := by simp [Addr.add]
      rw [e4]
      exact e3
    obtain ⟨v', w', hr, h2, h3, -⟩ := run_append_own (P := Tryd.prog) (w := W) base 26 26 86 i0 _ 4 48 Tryd.underlying26 hi hz0 hz1 hz2 rfl (by decide) v l.length (cellsE l) h
      a m.length c (cellsE m) (cellsE_len m) hcells (cellsE_one m) (by unfold maxLen; omega) (by omega) hb
    refine ⟨v', w', hr, ?_, h3⟩
    unfold OwnE
    rw [cellsE_append, List.length_append]
    exact h2
theorem run_grow (w : World) (n : Nat) (h0 : 0 < n) (hn : n ≤ 1000000) :
    ∃ cap cur, (Builtin.append_ #[26, 3] 26 #[.slice none 0 0, .int .i64 n]).run Tryd.prog w = .ok (.slice (some ⟨w.heap.size, 0, none⟩) n cap) (w.drew.alloc (.cells cur 86)) ∧ cap ≤ maxLen ∧ cur.size = cap * 4 := by
  obtain ⟨i0, hi, hz0, hz1, hz2⟩ := info_parts info_edit
  have hle := grownCap_ge w n 0 86
  have h := Lib.run_append_nil_zeros (P := Tryd.prog) w 26 3 26 86 i0 _ .i64 .i64 Tryd.underlying26 Tryd.underlying3 hi hz0 n h0 (by rw [hz1]; decide) (by omega) (by rw [hz2]; omega)
  refine ⟨_, _, h, grownCap_le_maxLen w n 0 _ (by unfold maxLen; omega), ?_⟩
  rw [Array.size_append, size_zeroCells, size_zeroCells]
  show n * 4 + (_ - n) * 4 = _
  omega
theorem growE_any (n : Nat) (w : World) (hn : n ≤ 1000000) :
    Calls Tryd.prog 78 #[.slice none 0 0, .int .i64 n] w fun e w' => ∃ v, e = .returned v ∧ OwnE w' w.heap.size v [] ∧ Below w.heap.size w w' := by
  have h1 : ¬ ((n : Int) < 0) := by omega
  by_cases h0 : 0 < n
  · obtain ⟨cap, cur, hr, hc2, hsz⟩ := run_grow w n h0 hn
    have HR := hide hr
    have hO : OwnE (w.drew.alloc (.cells cur 86)) w.heap.size (.slice (some ⟨w.heap.size, 0, none⟩) 0 cap) [] :=
      World.ownsRow_made w.drew _ cap (Nat.le_refl _) hc2 hsz
    have hB : Below w.heap.size w (w.drew.alloc (.cells cur 86)) := (Below.refl w.heap.size w).drew.alloc (Nat.le_refl _) _
    have HO := hide (And.intro hO hB)
    unfold maxLen at hc2
    clear hr hO hB hsz
    generalize (w.drew.alloc (.cells cur 86)) = w1 at HR HO
    have h4 : (0 : Int) < (n : Int) := by omega
    have h2 : IntKind.i64.wrap ((n : Int) - 0) = (n : Int) := by rw [Int.sub_zero]; exact IntWalk.i64_in _ (by omega)
    go_enter Tryd.func78, Tryd.ntmps78
    go_wp2_with (at_builtin; refine Lib.wpList_append_run _ rfl _ _ _ _ rfl _ _ rfl rfl _ _ HR.out ?_)
    go_ret
    exact ⟨_, rfl, HO.out.1, HO.out.2⟩
  · obtain rfl : n = 0 := by omega
    go_enter Tryd.func78, Tryd.ntmps78
    go_wp2_with fail
    go_ret
    exact ⟨_, rfl, OwnE.nil _ _, Below.refl _ _⟩
/-- the first n lists, one behind another -/
def flatE (l : Nat → List Ed) : Nat → List Ed
  | 0 => []
  | n + 1 => flatE l n ++ l n
theorem flatE_len (l : Nat → List Ed) (h : ∀ k, (l k).length ≤ 100) : ∀ n, (flatE l n).length ≤ n * 100
  | 0 => by simp [flatE]
  | n + 1 => by have := flatE_len l h n; have := h n; show (flatE l n ++ l n).length ≤ _; rw [List.length_append]; omega
theorem concatE_any (A : Option Addr) (n c : Nat) (ra : Nat → Option Addr) (rc : Nat → Nat) (l : Nat → List Ed) (w : World) (hn : n ≤ 1000) (hl : ∀ k, (l k).length ≤ 100)
    (hs : ER w w.heap.size 1 A n fun k _ => .slice (ra k) (l k).length (rc k)) (hr : ∀ k, k < n → EdR w w.heap.size (ra k) (l k)) :
    Calls Tryd.prog 55 #[.slice A n c] w fun e w' => ∃ v, e = .returned v ∧ OwnE w' w.heap.size v (flatE l n) ∧ Below w.heap.size w w' := by
  have HS := hide hs
  have HR := hide hr
  have HL := hide hl
  have HFL := hide (flatE_len l hl)
  clear hs hr hl
  go_enter Tryd.func55, Tryd.ntmps55
  go_upto_region 3 with fail
  go_loopw [3, 11] (fun a i wr => ∃ k : Nat, k ≤ n ∧ i = .int .i64 k ∧ a = .int .i64 (flatE l k).length ∧ Below w.heap.size w wr) (fun _ i _ => n - (intOf i).toNat)
  case atStart => exact ⟨0, Nat.zero_le _, rfl, rfl, Below.refl _ _⟩
  case round =>
    obtain ⟨k, hk, rfl, rfl, hB⟩ := hrel
    have HBW := hide hB
    clear hB
    by_cases hlt : k < n
    · -- BEGIN1
      have hlt' : (k : Int) < (n : Int) := by omega
      obtain ⟨b, off, rfl, hb, hc⟩ := VR1.at_ (ER.below HS.out HBW.out (Nat.le_refl _)) hlt
      have f1 := HFL.out k
      have f2 := HL.out k
      have f3 : IntKind.i64.wrap (((flatE l k).length : Int) + ((l k).length : Int)) = ((flatE l k).length : Int) + ((l k).length : Int) := IntWalk.i64_in _ (by omega)
      have f4 : ¬ ((flatE l k).length : Int) + ((l k).length : Int) < 0 := by omega
      go_wp2_with fail
      go_roundw
      case rel => exact ⟨k + 1, by omega, by go_num, by simp [flatE], HBW.out⟩
      case measure => simp [intOf]; omega
      -- END1
    · -- BEGIN2
      obtain rfl : k = n := by omega
      have hnl : ¬ (k : Int) < (k : Int) := by omega
      have f1 := HFL.out k
      have HG := hide (growE_any (flatE l k).length wr (by omega))
      go_wp2_with fail
      refine HG.out.mono ?_
      rintro e w2 ⟨v2, rfl, ho2, hb2⟩
      have HO2 := hide (ho2.low HBW.out.size)
      have HB2 := hide (HBW.out.trans (hb2.mono HBW.out.size))
      clear ho2 hb2
      go_upto_region 11 with fail
      go_loopw [6, 27] (fun a i wr => ∃ (j : Nat) (v : Value), j ≤ k ∧ i = .int .i64 j ∧ a = v ∧ OwnE wr w.heap.size v (flatE l j) ∧ Below w.heap.size w wr) (fun _ i _ => k - (intOf i).toNat)
      case atStart => exact ⟨0, _, Nat.zero_le _, rfl, rfl, HO2.out, HB2.out⟩
      case round =>
        obtain ⟨j, v, hj, rfl, rfl, ho, hB⟩ := hrel
        have HO := hide ho
        have HBV := hide hB
        clear ho hB
        by_cases hlt : j < k
        · -- BEGIN3
          have hlt' : (j : Int) < (k : Int) := by omega
          obtain ⟨b, off, rfl, hb, hc⟩ := VR1.at_ (ER.below HS.out HBV.out (Nat.le_refl _)) hlt
          have f2 := HL.out j
          have f3 := HFL.out j
          obtain ⟨v3, w3, hrun, ho3, hg3⟩ := HO.out.pushes (ra j) (rc j) (l j) ((ER.below (HR.out j hlt) HBV.out (Nat.le_refl _)).more HBV.out.size) (by omega) HBV.out.size
          have HRUN := hide hrun
          have HN := hide (And.intro ho3 (HBV.out.grown hg3 HBV.out.size (fun i hi => (World.ownsRow.lt HO.out i hi).1)))
          clear hrun ho3 hg3
          go_wp2_with (at_builtin; refine wpList_append_run rfl (.tmp 31) (.tmp 32) 26 rfl rfl rfl HRUN.out ?_)
          go_roundw
          case rel => exact ⟨j + 1, v3, by omega, by go_num, rfl, HN.out.1, HN.out.2⟩
          case measure => simp [intOf]; omega
          -- END3
        · -- BEGIN4
          obtain rfl : j = k := by omega
          have hnl : ¬ (j : Int) < (j : Int) := by omega
          go_wp2_with fail
          go_ret
          exact ⟨_, rfl, HO.out, HBV.out⟩
          -- END4
      -- END2
end Go.Proofs.YtmpegkojencbjaaDoor
/- School: what edits do at each word: the lists of places, own and apart. -/
namespace Go.Proofs.YtmpegkojencbjaaDoor
open Go Go.RowKit Go.Shelf
set_option maxHeartbeats 2000000
set_option maxRecDepth 100000
/-- the list to which an edit goes -/
def plq (e : Ed) : Nat := e.at_.toNat * 2 + if e.ki = 3 then 0 else 1
def plL (l : List Ed) (q : Nat) : List Ed := l.filter fun e => decide (plq e = q)
theorem plL_take (l : List Ed) (k : Nat) (hk : k < l.length) {e : Ed} (he : l.getD k e0 = e) (q : Nat) : plL (l.take (k + 1)) q = if plq e = q then plL (l.take k) q ++ [e] else plL (l.take k) q := by
  have h1 : l.take (k + 1) = l.take k ++ [e] := by
    rw [List.take_succ_eq_append_getElem hk]
    rw [List.getD_eq_getElem?_getD, List.getElem?_eq_getElem hk] at he
    rw [← he]; rfl
  unfold plL
  rw [h1, List.filter_append]
  by_cases h : plq e = q
  · rw [if_pos h]; simp [h]
  · rw [if_neg h]; simp [h]
theorem plL_len (l : List Ed) (q : Nat) : (plL l q).length ≤ l.length := List.length_filter_le _ _
/-- the lists at each place: one's own, and apart -/
structure PL (w W : World) (D n : Nat) (v : Nat → Value) (f : Nat → List Ed) : Prop where
  below : Below w.heap.size w W
  lo : w.heap.size ≤ D
  blk : Blk W D 96 (rowV (n * 2) v)
  own : ∀ q, q < n * 2 → OwnE W (D + 1) (v q) (f q)
  ap : ∀ q r, q < n * 2 → r < n * 2 → q ≠ r → (v q).ownBlock = none ∨ (v q).ownBlock ≠ (v r).ownBlock
section
variable {w W W' : World} {D n : Nat} {v : Nat → Value} {f : Nat → List Ed}
theorem PL.ext (h : PL w W D n v f) (hb : Below W.heap.size W W') : PL w W' D n v f :=
  ⟨h.below.trans (hb.mono h.below.size), h.lo, h.blk.ext hb, fun q hq => (h.own q hq).ext hb, h.ap⟩
theorem PL.congr {f' : Nat → List Ed} (h : PL w W D n v f) (hf : ∀ q, q < n * 2 → f q = f' q) : PL w W D n v f' :=
  ⟨h.below, h.lo, h.blk, fun q hq => hf q hq ▸ h.own q hq, h.ap⟩
theorem PL.put (h : PL w W D n v f) (e : Ed) (q : Nat) (hq : q < n * 2) (hm : (f q).length ≤ 1000000) :
    ∃ v' w', (Builtin.append_ #[26, 26] 26 #[v q, .slice (some ⟨W.heap.size, 0, none⟩) 1 1]).run Tryd.prog (W.alloc (.cells #[.int .i64 e.ki, .int .i64 e.at_, .string e.old, .string e.new] 86)) = .ok v' w' ∧
      (W.alloc (.cells #[.int .i64 e.ki, .int .i64 e.at_, .string e.old, .string e.new] 86)).grownBy w' (v q).ownBlock ∧ Blk w' D 96 (rowV (n * 2) v) ∧ Below (D + 1) W w' ∧
      PL w (w'.setCell ⟨D, q, none⟩ v') D n (upd v q v') (upd f q (f q ++ [e])) := by
  obtain ⟨i0, hi, hz0, hz1, hz2⟩ := info_parts info_edit
  have hown := h.own q hq
  have hD := h.blk.lt
  obtain ⟨v', w', hr, h2, h3, -, h4⟩ := run_append_own_at (P := Tryd.prog) (w := W.alloc (.cells #[.int .i64 e.ki, .int .i64 e.at_, .string e.old, .string e.new] 86)) (D + 1) 26 26 86 i0 _ 4 48 Tryd.underlying26 hi hz0 hz1 hz2 rfl (by decide) (v q) (f q).length (cellsE (f q)) (World.ownsRow.alloc hown _)
    ⟨W.heap.size, 0, none⟩ 1 1 (edC e) rfl (cell_four_new _ _ _ _ _ _) (by have := cellsE_one [e]; simpa [cellsE] using this) (by unfold maxLen; omega) (by omega) (by simp; omega)
  have hlt := World.ownsRow.lt hown
  have hBA : Below W.heap.size W (W.alloc (.cells #[.int .i64 e.ki, .int .i64 e.at_, .string e.old, .string e.new] 86)) := (Below.refl _ _).alloc (Nat.le_refl _) _
  have hB1 : Below (D + 1) W w' := (hBA.mono (by omega)).grown h3 (by have := hBA.size; omega) (fun k hk => (hlt k hk).1)
  have hblk : Blk w' D 96 (rowV (n * 2) v) := (h.blk.ext hBA).grown h3 (fun e => by have := (hlt D e.symm).1; omega)
  refine ⟨v', w', hr, h3, hblk, hB1, ⟨h.below.trans ((hB1.mono (by have := h.lo; omega)).trans ((Below.refl _ _).setCell h.lo _)), h.lo, ?_, fun r hr' => ?_, fun r s hr' hs hne => ?_⟩⟩
  · rw [← rowV_set]; exact hblk.set_ q v'
  · by_cases e1 : r = q
    · subst e1
      rw [upd_same, upd_same]
      refine ownsRow_setCell_below (a := ⟨D, r, none⟩) ?_ (by simp) v'
      unfold OwnE at *
      rw [cellsE_append, List.length_append]
      simpa [cellsE] using h2
    · rw [upd_ne _ _ e1, upd_ne _ _ e1]
      exact ownsRow_setCell_below (a := ⟨D, q, none⟩) (((h.own r hr').ext hBA).kept h3 (h.ap r q hr' hq e1)) (by simp) v'
  · have hsz : ∀ r, r < n * 2 → ∀ k, (v r).ownBlock = some k → k < W.heap.size := fun r hr k hk => (World.ownsRow.lt (h.own r hr) k hk).2
    have hne2 : ∀ r, r < n * 2 → r ≠ q → (v'.ownBlock = none ∨ v'.ownBlock ≠ (v r).ownBlock) ∧ ((v r).ownBlock = none ∨ (v r).ownBlock ≠ v'.ownBlock) := fun r hr hrq => by
      rcases h4 with h4 | h4
      · rw [h4]; exact ⟨h.ap q r hq hr (Ne.symm hrq), h.ap r q hr hq hrq⟩
      · have hx : (v r).ownBlock ≠ v'.ownBlock := fun e => by
          rw [h4] at e
          have := hsz r hr _ e
          have := hBA.size
          omega
        exact ⟨.inr (Ne.symm hx), .inr hx⟩
    by_cases e1 : r = q
    · subst e1
      rw [upd_same, upd_ne _ _ (Ne.symm hne)]
      exact (hne2 s hs (Ne.symm hne)).1
    · rw [upd_ne _ _ e1]
      by_cases e2 : s = q
      · subst e2
        rw [upd_same]
        exact (hne2 r hr' e1).2
      · rw [upd_ne _ _ e2]
        exact h.ap r s hr' hs hne
end
end Go.Proofs.YtmpegkojencbjaaDoor
/- School: places, walked. -/
namespace Go.Proofs.YtmpegkojencbjaaDoor
open List renaming getElem_toArray → glA, getElem_cons_zero → glB, getElem_cons_succ → glC, setIfInBounds_toArray → glD, set_cons_zero → glE, set_cons_succ → glF
open Go Go.RowKit Go.Shelf
set_option maxHeartbeats 4000000
set_option maxRecDepth 100000
theorem info_place : (Tryd.prog.info? 96).map (fun i => (i.zero, i.size, i.bytes)) = some (some (.agg #[.slice none 0 0, .slice none 0 0]), 2, 48) := by kernel_rfl
theorem rowV_places (n : Nat) : madeCells (Value.agg #[.slice none 0 0, .slice none 0 0]).cells (n * 2) = rowV (n * 2) (fun _ => .slice none 0 0) := by
  apply Array.ext_getElem?
  intro j
  simp only [rowV, madeCells, Array.getElem?_map, Array.getElem?_range, List.getElem?_toArray, List.getElem?_map]
  by_cases hj : j < n * 2
  · have h2 : j % 2 = 0 ∨ j % 2 = 1 := by omega
    rcases h2 with h2 | h2 <;> simp [hj, Value.cells, h2]
  · simp [hj]
def PlPost (w : World) (n : Nat) (l : List Ed) (e : Ending) (w' : World) : Prop :=
  ∃ D v, e = .returned (.slice (some ⟨D, 0, none⟩) n n) ∧ PL w w' D n v (plL l)
theorem places_any (A : Option Addr) (c n : Nat) (l : List Ed) (w : World) (hn : n ≤ 1000) (hl : l.length ≤ 10000) (hA : EdR w w.heap.size A l) (hb : ∀ e ∈ l, 0 ≤ e.at_ ∧ e.at_ ≤ n) :
    Calls Tryd.prog 53 #[.int .i64 n, .slice A l.length c] w (PlPost w (n + 1) l) := by
  have HA := hide hA
  have HB := hide hb
  clear hA hb
  obtain ⟨L, hL⟩ : ∃ L, l.length = L := ⟨_, rfl⟩
  obtain ⟨N, hN⟩ : ∃ N, n + 1 = N := ⟨_, rfl⟩
  have HLN := hide (And.intro hL hN)
  unfold PlPost
  rw [hL] at hl ⊢
  rw [hN]
  have wn : IntKind.i64.wrap ((n : Int) + 1) = (N : Int) := by rw [IntWalk.i64_in _ (by omega)]; omega
  have N0 : (0 : Int) ≤ (N : Int) := by omega
  have N1 : N ≤ 1001 := by omega
  obtain ⟨i0, hi, hz0, hz1, hz2⟩ := info_parts info_place
  have gl := run_make_rowN (P := Tryd.prog) 93 96 i0 _ Tryd.underlying93 hi hz0 .i64 .i64 N N (Nat.le_refl _) (by rw [hz2]; omega) (by omega) w
  rw [hz1, rowV_places] at gl
  have GL := hide gl
  have hmax : N ≤ 9223372036854775807 := by omega
  clear hL hN hi hz0 hz1 hz2 gl
  have gl := GL.out
  go_enter Tryd.func53, Tryd.ntmps53
  go_wp2_with fail
  have hP0 : Hid (PL w (w.alloc (.cells (rowV (N * 2) fun _ => .slice none 0 0) 96)) w.heap.size N (fun _ => .slice none 0 0) (plL (l.take 0))) := hide ⟨(Below.refl _ _).alloc (Nat.le_refl _) _, Nat.le_refl _, Blk.new _ _ _, fun q _ => OwnE.nil _ _, fun q r _ _ _ => .inl rfl⟩
  generalize (w.alloc (.cells (rowV (N * 2) fun _ => .slice none 0 0) 96)) = W0 at hP0 ⊢
  clear gl GL
  go_loopw [14] (fun i wr => ∃ (k : Nat) (v : Nat → Value), k ≤ L ∧ i = .int .i64 k ∧ Hid (PL w wr w.heap.size N v (plL (l.take k)))) (fun i _ => L - (intOf i).toNat)
  case atStart => exact ⟨0, _, Nat.zero_le _, rfl, hP0⟩
  case round =>
    obtain ⟨k, v, hk, rfl, HP⟩ := hrel
    by_cases hlt : k < L
    · -- BEGIN1
      have hlt' : (k : Int) < (L : Int) := by omega
      have k0 : (0 : Int) ≤ (k : Int) := by omega
      obtain ⟨e, he⟩ : ∃ e, l.getD k e0 = e := ⟨_, rfl⟩
      have hmem : e ∈ l := by
        rw [← he, List.getD_eq_getElem?_getD, List.getElem?_eq_getElem (by rw [HLN.out.1]; exact hlt)]
        exact List.getElem_mem _
      obtain ⟨hat0, hat1⟩ := HB.out e hmem
      obtain ⟨ea, ho, rfl, hea, c0, c1, c2, c3⟩ := HA.out.at_ (by rw [HLN.out.1]; exact hlt) he
      have HE := hide he
      clear he hmem
      have c0' := (HP.out.below.cell (p := ⟨ea, ho + k * 4, none⟩) hea).trans c0
      have c1' := (HP.out.below.cell (p := ⟨ea, ho + k * 4 + 1, none⟩) hea).trans c1
      have c2' := (HP.out.below.cell (p := ⟨ea, ho + k * 4 + 2, none⟩) hea).trans c2
      have c3' := (HP.out.below.cell (p := ⟨ea, ho + k * 4 + 3, none⟩) hea).trans c3
      clear c0 c1 c2 c3
      obtain ⟨ki, at_, old, new⟩ := e
      dsimp only at c0' c1' c2' c3' hat0 hat1
      obtain ⟨a, rfl⟩ : ∃ a : Nat, at_ = (a : Int) := ⟨at_.toNat, by omega⟩
      have a0 : (0 : Int) ≤ (a : Int) := by omega
      have a1 : (a : Int) < (N : Int) := by have := HLN.out.2; omega
      go_upto_region 5 with fail
      have HP1 := hide (HP.out.ext ((Below.refl _ _).alloc (Nat.le_refl _) (.cells #[.int .i64 ki, .int .i64 a, .string old, .string new] 86)))
      have E1 := hide (Blk.new wr 86 #[.int .i64 ki, .int .i64 a, .string old, .string new])
      have hsz : ∀ q, q < N * 2 → ∀ j, (v q).ownBlock = some j → j < wr.heap.size := fun q hq j hj => (World.ownsRow.lt (HP.out.own q hq) j hj).2
      have HSZ := hide hsz
      obtain ⟨g, hg⟩ : ∃ g, wr.heap.size = g := ⟨_, rfl⟩
      rw [hg] at E1 HSZ ⊢
      clear hsz c0' c1' c2' c3' HP
      generalize (wr.alloc (.cells #[.int .i64 ki, .int .i64 a, .string old, .string new] 86)) = w1 at HP1 E1 ⊢
      obtain ⟨g0, g1, g2, g3, g4⟩ := blk4 E1.out
      have hst : IntKind.i64.wrap ((k : Int) + 1) = ((k + 1 : Nat) : Int) := by rw [IntWalk.i64_in _ (by omega)]; omega
      have aN : a < N := by omega
      by_cases h3 : ki = 3
      · subst h3
        have hpq : plq ⟨3, a, old, new⟩ = a * 2 := by simp [plq]
        have q2 : a * 2 < N * 2 := by omega
        go_upto_region 7 with fail
        have HP2 := hide (HP1.out.ext (Below.refl w1.heap.size w1).drew)
        have E2 := hide E1.out.drew
        have hlen : (plL (l.take k) (a * 2)).length ≤ 1000000 := by
          have h1 := plL_len (l.take k) (a * 2)
          have h2 : (l.take k).length ≤ L := by rw [List.length_take, HLN.out.1]; omega
          omega
        obtain ⟨v', w', hrun, hgr, hblk, hbd, hPL⟩ := HP2.out.put ⟨3, a, old, new⟩ (a * 2) q2 hlen
        obtain ⟨A', c', hv'⟩ := own_shape (hPL.own (a * 2) q2)
        rw [upd_same] at hv'
        subst hv'
        dsimp only at hrun hgr
        have E3 := E2.out.alloc (.cells #[.int .i64 3, .int .i64 a, .string old, .string new] 86)
        have E4 := E3.grown hgr (fun e => by have := HSZ.out (a * 2) q2 g e.symm; omega)
        have B3 := HP2.out.blk.alloc (.cells #[.int .i64 3, .int .i64 a, .string old, .string new] 86)
        have l0 := HP2.out.blk.lt
        have l1 := hblk.lt
        have fz := hblk.frozen (a * 2)
        have HS0 : Hid (w1.drew.cell? ⟨w.heap.size, a * 2, none⟩ = some (v (a * 2)) ∧ w1.drew.cell? ⟨g, 0, none⟩ = some (.int .i64 3) ∧ w1.drew.cell? ⟨g, 1, none⟩ = some (.int .i64 a) ∧ w1.drew.cell? ⟨g, 2, none⟩ = some (.string old) ∧ w1.drew.cell? ⟨g, 3, none⟩ = some (.string new)) := hide ⟨by rw [HP2.out.blk.cell, rowV_get _ _ q2], (blk4 E2.out).2⟩
        have HS1 : Hid ((w1.drew.alloc (.cells #[.int .i64 3, .int .i64 a, .string old, .string new] 86)).cell? ⟨w.heap.size, a * 2, none⟩ = some (v (a * 2)) ∧ (w1.drew.alloc (.cells #[.int .i64 3, .int .i64 a, .string old, .string new] 86)).cell? ⟨g, 0, none⟩ = some (.int .i64 3) ∧ (w1.drew.alloc (.cells #[.int .i64 3, .int .i64 a, .string old, .string new] 86)).cell? ⟨g, 1, none⟩ = some (.int .i64 a) ∧ (w1.drew.alloc (.cells #[.int .i64 3, .int .i64 a, .string old, .string new] 86)).cell? ⟨g, 2, none⟩ = some (.string old) ∧ (w1.drew.alloc (.cells #[.int .i64 3, .int .i64 a, .string old, .string new] 86)).cell? ⟨g, 3, none⟩ = some (.string new)) := hide ⟨by rw [B3.cell, rowV_get _ _ q2], (blk4 E3).2⟩
        have HS2 : Hid (w'.cell? ⟨w.heap.size, a * 2, none⟩ = some (v (a * 2)) ∧ w'.cell? ⟨g, 0, none⟩ = some (.int .i64 3) ∧ w'.cell? ⟨g, 1, none⟩ = some (.int .i64 a) ∧ w'.cell? ⟨g, 2, none⟩ = some (.string old) ∧ w'.cell? ⟨g, 3, none⟩ = some (.string new)) := hide ⟨by rw [hblk.cell, rowV_get _ _ q2], (blk4 E4).2⟩
        have HRUN := hide hrun
        have HPL := hide hPL
        clear hrun hPL E3 E4 B3 g0 g1 g2 g3 g4 hgr hblk hbd HP1 HP2 E1 E2 hlen
        refine wp_region_K (pickS [4, 5] (fun W : World => W.cell? ⟨w.heap.size, a * 2, none⟩ = some (v (a * 2)) ∧ W.cell? ⟨g, 0, none⟩ = some (.int .i64 3) ∧ W.cell? ⟨g, 1, none⟩ = some (.int .i64 a) ∧ W.cell? ⟨g, 2, none⟩ = some (.string old) ∧ W.cell? ⟨g, 3, none⟩ = some (.string new)) (fun _ => True)) (by kernel_rfl) ?_
        generalize w1.drew = wd at HS0 HS1 HRUN ⊢
        refine wpAnyK_take 0 (v := ?_) (by first | exact hF | exact wideFn) trivial rfl (by kernel_rfl) (by kernel_rfl) (by kernel_rfl) (by kernel_rfl) rfl ?_ (by first | exact fun _ _ _ h => h | exact fun _ _ _ h => hQ2 _ _ _ _ _ h) ?_
        rotate_left
        · intro W hSW
          replace hSW : True := hSW
          simp only [glA, glB, glC]
          (try dsimp only at hSW)
          go_simp
          with_reducible rfl
        (try simp only [glA, glB, glC, Act.put, glD, glE, glF])
        refine wpAnyK_take 1 (v := ?_) (by first | exact hF | exact wideFn) trivial rfl (by kernel_rfl) (by kernel_rfl) (by kernel_rfl) (by kernel_rfl) rfl ?_ (by first | exact fun _ _ _ h => h | exact fun _ _ _ h => hQ2 _ _ _ _ _ h) ?_
        rotate_left
        · intro W hSW
          replace hSW : True := hSW
          simp only [glA, glB, glC]
          (try dsimp only at hSW)
          go_simp
          with_reducible rfl
        (try simp only [glA, glB, glC, Act.put, glD, glE, glF])
        refine wpAnyK_take 2 (v := ?_) (by first | exact hF | exact wideFn) trivial rfl (by kernel_rfl) (by kernel_rfl) (by kernel_rfl) (by kernel_rfl) rfl ?_ (by first | exact fun _ _ _ h => h | exact fun _ _ _ h => hQ2 _ _ _ _ _ h) ?_
        rotate_left
        · intro W hSW
          replace hSW : True := hSW
          simp only [glA, glB, glC]
          (try dsimp only at hSW)
          go_simp
          with_reducible rfl
        (try simp only [glA, glB, glC, Act.put, glD, glE, glF])
        refine wpAnyK_take 3 (v := ?_) (by first | exact hF | exact wideFn) trivial rfl (by kernel_rfl) (by kernel_rfl) (by kernel_rfl) (by kernel_rfl) rfl ?_ (by first | exact fun _ _ _ h => h | exact fun _ _ _ h => hQ2 _ _ _ _ _ h) ?_
        rotate_left
        · intro W hSW
          replace hSW : True := hSW
          simp only [glA, glB, glC]
          (try dsimp only at hSW)
          go_simp
          with_reducible rfl
        (try simp only [glA, glB, glC, Act.put, glD, glE, glF])
        refine wpAnyK_take 4 (v := ?_) (by first | exact hF | exact wideFn) (And.intro HS0.out trivial) rfl (by kernel_rfl) (by kernel_rfl) (by kernel_rfl) (by kernel_rfl) rfl ?_ (by first | exact fun _ _ _ h => h | exact fun _ _ _ h => hQ2 _ _ _ _ _ h) ?_
        rotate_left
        · intro W hSW
          replace hSW : ((W.cell? ⟨w.heap.size, a * 2, none⟩ = some (v (a * 2)) ∧ W.cell? ⟨g, 0, none⟩ = some (.int .i64 3) ∧ W.cell? ⟨g, 1, none⟩ = some (.int .i64 a) ∧ W.cell? ⟨g, 2, none⟩ = some (.string old) ∧ W.cell? ⟨g, 3, none⟩ = some (.string new)) ∧ True) := hSW
          simp only [glA, glB, glC]
          (try dsimp only at hSW)
          go_simp
          with_reducible rfl
        (try simp only [glA, glB, glC, Act.put, glD, glE, glF])
        refine wpAnyK_take 5 (v := ?_) (by first | exact hF | exact wideFn) (And.intro HS0.out trivial) rfl (by kernel_rfl) (by kernel_rfl) (by kernel_rfl) (by kernel_rfl) rfl ?_ (by first | exact fun _ _ _ h => h | exact fun _ _ _ h => hQ2 _ _ _ _ _ h) ?_
        rotate_left
        · intro W hSW
          replace hSW : ((W.cell? ⟨w.heap.size, a * 2, none⟩ = some (v (a * 2)) ∧ W.cell? ⟨g, 0, none⟩ = some (.int .i64 3) ∧ W.cell? ⟨g, 1, none⟩ = some (.int .i64 a) ∧ W.cell? ⟨g, 2, none⟩ = some (.string old) ∧ W.cell? ⟨g, 3, none⟩ = some (.string new)) ∧ True) := hSW
          simp only [glA, glB, glC]
          (try dsimp only at hSW)
          go_simp
          with_reducible rfl
        (try simp only [glA, glB, glC, Act.put, glD, glE, glF])
        refine wpAnyK_one 6 rfl (by kernel_rfl) (fun K hK => ?_)
        simp only [glA, glB, glC]
        go_simp
        refine hK.out _ _ (.inr (pickS_all HS1.out trivial)) ?_
        clear hK K
        (try simp only [glA, glB, glC, Act.put, glD, glE, glF])
        refine wpAnyK_one 7 rfl (by kernel_rfl) (fun K hK => ?_)
        rw [if_pos (by rfl)]
        refine wpIn_append_run (.tmp 29) (.tmp 31) 26 (by first | exact hF | exact wideFn) rfl rfl rfl HRUN.out ?_
        refine hK.out _ _ (.inr (pickS_all HS2.out trivial)) ?_
        clear hK K
        (try simp only [glA, glB, glC, Act.put, glD, glE, glF])
        refine wpAnyK_take 8 (v := ?_) (by first | exact hF | exact wideFn) trivial rfl (by kernel_rfl) (by kernel_rfl) (by kernel_rfl) (by kernel_rfl) rfl ?_ (by first | exact fun _ _ _ h => h | exact fun _ _ _ h => hQ2 _ _ _ _ _ h) ?_
        rotate_left
        · intro W hSW
          replace hSW : True := hSW
          simp only [glA, glB, glC]
          (try dsimp only at hSW)
          go_simp
          with_reducible rfl
        (try simp only [glA, glB, glC, Act.put, glD, glE, glF])
        refine wpAnyK_take 9 (v := ?_) (by first | exact hF | exact wideFn) trivial rfl (by kernel_rfl) (by kernel_rfl) (by kernel_rfl) (by kernel_rfl) rfl ?_ (by first | exact fun _ _ _ h => h | exact fun _ _ _ h => hQ2 _ _ _ _ _ h) ?_
        rotate_left
        · intro W hSW
          replace hSW : True := hSW
          simp only [glA, glB, glC]
          (try dsimp only at hSW)
          go_simp
          with_reducible rfl
        (try simp only [glA, glB, glC, Act.put, glD, glE, glF])
        have cw := HS2.out.1
        refine wpAnyK_one 10 rfl (by kernel_rfl) (fun K hK => ?_)
        simp only [glA, glB, glC]
        go_simp
        refine hK.out _ _ (.inr (pickS_need (by kernel_rfl) trivial)) ?_
        clear hK K
        (try simp only [glA, glB, glC, Act.put, glD, glE, glF])
        refine wpAnyK_done (by kernel_rfl) ?_
        go_wp2_with fail
        go_roundw
        case rel => exact ⟨k + 1, _, by omega, by go_num, hide (HPL.out.congr (fun r _ => by
          rw [plL_take l k (by rw [HLN.out.1]; exact hlt) HE.out r, hpq]
          by_cases e : r = a * 2
          · rw [e, upd_same, if_pos rfl]
          · rw [upd_ne _ _ e, if_neg (Ne.symm e)]))⟩
        case measure => simp [intOf]; omega
      · have hpq : plq ⟨ki, a, old, new⟩ = a * 2 + 1 := by simp [plq, h3]
        have q2 : a * 2 + 1 < N * 2 := by omega
        go_upto_region 8 with fail
        have HP2 := hide (HP1.out.ext (Below.refl w1.heap.size w1).drew)
        have E2 := hide E1.out.drew
        have hlen : (plL (l.take k) (a * 2 + 1)).length ≤ 1000000 := by
          have h1 := plL_len (l.take k) (a * 2 + 1)
          have h2 : (l.take k).length ≤ L := by rw [List.length_take, HLN.out.1]; omega
          omega
        obtain ⟨v', w', hrun, hgr, hblk, hbd, hPL⟩ := HP2.out.put ⟨ki, a, old, new⟩ (a * 2 + 1) q2 hlen
        obtain ⟨A', c', hv'⟩ := own_shape (hPL.own (a * 2 + 1) q2)
        rw [upd_same] at hv'
        subst hv'
        dsimp only at hrun hgr
        have E3 := E2.out.alloc (.cells #[.int .i64 ki, .int .i64 a, .string old, .string new] 86)
        have E4 := E3.grown hgr (fun e => by have := HSZ.out (a * 2 + 1) q2 g e.symm; omega)
        have B3 := HP2.out.blk.alloc (.cells #[.int .i64 ki, .int .i64 a, .string old, .string new] 86)
        have l0 := HP2.out.blk.lt
        have l1 := hblk.lt
        have fz := hblk.frozen (a * 2 + 1)
        have HS0 : Hid (w1.drew.cell? ⟨w.heap.size, a * 2 + 1, none⟩ = some (v (a * 2 + 1)) ∧ w1.drew.cell? ⟨g, 0, none⟩ = some (.int .i64 ki) ∧ w1.drew.cell? ⟨g, 1, none⟩ = some (.int .i64 a) ∧ w1.drew.cell? ⟨g, 2, none⟩ = some (.string old) ∧ w1.drew.cell? ⟨g, 3, none⟩ = some (.string new)) := hide ⟨by rw [HP2.out.blk.cell, rowV_get _ _ q2], (blk4 E2.out).2⟩
        have HS1 : Hid ((w1.drew.alloc (.cells #[.int .i64 ki, .int .i64 a, .string old, .string new] 86)).cell? ⟨w.heap.size, a * 2 + 1, none⟩ = some (v (a * 2 + 1)) ∧ (w1.drew.alloc (.cells #[.int .i64 ki, .int .i64 a, .string old, .string new] 86)).cell? ⟨g, 0, none⟩ = some (.int .i64 ki) ∧ (w1.drew.alloc (.cells #[.int .i64 ki, .int .i64 a, .string old, .string new] 86)).cell? ⟨g, 1, none⟩ = some (.int .i64 a) ∧ (w1.drew.alloc (.cells #[.int .i64 ki, .int .i64 a, .string old, .string new] 86)).cell? ⟨g, 2, none⟩ = some (.string old) ∧ (w1.drew.alloc (.cells #[.int .i64 ki, .int .i64 a, .string old, .string new] 86)).cell? ⟨g, 3, none⟩ = some (.string new)) := hide ⟨by rw [B3.cell, rowV_get _ _ q2], (blk4 E3).2⟩
        have HS2 : Hid (w'.cell? ⟨w.heap.size, a * 2 + 1, none⟩ = some (v (a * 2 + 1)) ∧ w'.cell? ⟨g, 0, none⟩ = some (.int .i64 ki) ∧ w'.cell? ⟨g, 1, none⟩ = some (.int .i64 a) ∧ w'.cell? ⟨g, 2, none⟩ = some (.string old) ∧ w'.cell? ⟨g, 3, none⟩ = some (.string new)) := hide ⟨by rw [hblk.cell, rowV_get _ _ q2], (blk4 E4).2⟩
        have HRUN := hide hrun
        have HPL := hide hPL
        clear hrun hPL E3 E4 B3 g0 g1 g2 g3 g4 hgr hblk hbd HP1 HP2 E1 E2 hlen
        refine wp_region_K (pickS [4, 5] (fun W : World => W.cell? ⟨w.heap.size, a * 2 + 1, none⟩ = some (v (a * 2 + 1)) ∧ W.cell? ⟨g, 0, none⟩ = some (.int .i64 ki) ∧ W.cell? ⟨g, 1, none⟩ = some (.int .i64 a) ∧ W.cell? ⟨g, 2, none⟩ = some (.string old) ∧ W.cell? ⟨g, 3, none⟩ = some (.string new)) (fun _ => True)) (by kernel_rfl) ?_
        generalize w1.drew = wd at HS0 HS1 HRUN ⊢
        refine wpAnyK_take 0 (v := ?_) (by first | exact hF | exact wideFn) trivial rfl (by kernel_rfl) (by kernel_rfl) (by kernel_rfl) (by kernel_rfl) rfl ?_ (by first | exact fun _ _ _ h => h | exact fun _ _ _ h => hQ2 _ _ _ _ _ h) ?_
        rotate_left
        · intro W hSW
          replace hSW : True := hSW
          simp only [glA, glB, glC]
          (try dsimp only at hSW)
          go_simp
          with_reducible rfl
        (try simp only [glA, glB, glC, Act.put, glD, glE, glF])
        refine wpAnyK_take 1 (v := ?_) (by first | exact hF | exact wideFn) trivial rfl (by kernel_rfl) (by kernel_rfl) (by kernel_rfl) (by kernel_rfl) rfl ?_ (by first | exact fun _ _ _ h => h | exact fun _ _ _ h => hQ2 _ _ _ _ _ h) ?_
        rotate_left
        · intro W hSW
          replace hSW : True := hSW
          simp only [glA, glB, glC]
          (try dsimp only at hSW)
          go_simp
          with_reducible rfl
        (try simp only [glA, glB, glC, Act.put, glD, glE, glF])
        refine wpAnyK_take 2 (v := ?_) (by first | exact hF | exact wideFn) trivial rfl (by kernel_rfl) (by kernel_rfl) (by kernel_rfl) (by kernel_rfl) rfl ?_ (by first | exact fun _ _ _ h => h | exact fun _ _ _ h => hQ2 _ _ _ _ _ h) ?_
        rotate_left
        · intro W hSW
          replace hSW : True := hSW
          simp only [glA, glB, glC]
          (try dsimp only at hSW)
          go_simp
          with_reducible rfl
        (try simp only [glA, glB, glC, Act.put, glD, glE, glF])
        refine wpAnyK_take 3 (v := ?_) (by first | exact hF | exact wideFn) trivial rfl (by kernel_rfl) (by kernel_rfl) (by kernel_rfl) (by kernel_rfl) rfl ?_ (by first | exact fun _ _ _ h => h | exact fun _ _ _ h => hQ2 _ _ _ _ _ h) ?_
        rotate_left
        · intro W hSW
          replace hSW : True := hSW
          simp only [glA, glB, glC]
          (try dsimp only at hSW)
          go_simp
          with_reducible rfl
        (try simp only [glA, glB, glC, Act.put, glD, glE, glF])
        refine wpAnyK_take 4 (v := ?_) (by first | exact hF | exact wideFn) (And.intro HS0.out trivial) rfl (by kernel_rfl) (by kernel_rfl) (by kernel_rfl) (by kernel_rfl) rfl ?_ (by first | exact fun _ _ _ h => h | exact fun _ _ _ h => hQ2 _ _ _ _ _ h) ?_
        rotate_left
        · intro W hSW
          replace hSW : ((W.cell? ⟨w.heap.size, a * 2 + 1, none⟩ = some (v (a * 2 + 1)) ∧ W.cell? ⟨g, 0, none⟩ = some (.int .i64 ki) ∧ W.cell? ⟨g, 1, none⟩ = some (.int .i64 a) ∧ W.cell? ⟨g, 2, none⟩ = some (.string old) ∧ W.cell? ⟨g, 3, none⟩ = some (.string new)) ∧ True) := hSW
          simp only [glA, glB, glC]
          (try dsimp only at hSW)
          go_simp
          with_reducible rfl
        (try simp only [glA, glB, glC, Act.put, glD, glE, glF])
        refine wpAnyK_take 5 (v := ?_) (by first | exact hF | exact wideFn) (And.intro HS0.out trivial) rfl (by kernel_rfl) (by kernel_rfl) (by kernel_rfl) (by kernel_rfl) rfl ?_ (by first | exact fun _ _ _ h => h | exact fun _ _ _ h => hQ2 _ _ _ _ _ h) ?_
        rotate_left
        · intro W hSW
          replace hSW : ((W.cell? ⟨w.heap.size, a * 2 + 1, none⟩ = some (v (a * 2 + 1)) ∧ W.cell? ⟨g, 0, none⟩ = some (.int .i64 ki) ∧ W.cell? ⟨g, 1, none⟩ = some (.int .i64 a) ∧ W.cell? ⟨g, 2, none⟩ = some (.string old) ∧ W.cell? ⟨g, 3, none⟩ = some (.string new)) ∧ True) := hSW
          simp only [glA, glB, glC]
          (try dsimp only at hSW)
          go_simp
          with_reducible rfl
        (try simp only [glA, glB, glC, Act.put, glD, glE, glF])
        refine wpAnyK_one 6 rfl (by kernel_rfl) (fun K hK => ?_)
        simp only [glA, glB, glC]
        go_simp
        refine hK.out _ _ (.inr (pickS_all HS1.out trivial)) ?_
        clear hK K
        (try simp only [glA, glB, glC, Act.put, glD, glE, glF])
        refine wpAnyK_one 7 rfl (by kernel_rfl) (fun K hK => ?_)
        rw [if_pos (by rfl)]
        refine wpIn_append_run (.tmp 39) (.tmp 41) 26 (by first | exact hF | exact wideFn) rfl rfl rfl HRUN.out ?_
        refine hK.out _ _ (.inr (pickS_all HS2.out trivial)) ?_
        clear hK K
        (try simp only [glA, glB, glC, Act.put, glD, glE, glF])
        refine wpAnyK_take 8 (v := ?_) (by first | exact hF | exact wideFn) trivial rfl (by kernel_rfl) (by kernel_rfl) (by kernel_rfl) (by kernel_rfl) rfl ?_ (by first | exact fun _ _ _ h => h | exact fun _ _ _ h => hQ2 _ _ _ _ _ h) ?_
        rotate_left
        · intro W hSW
          replace hSW : True := hSW
          simp only [glA, glB, glC]
          (try dsimp only at hSW)
          go_simp
          with_reducible rfl
        (try simp only [glA, glB, glC, Act.put, glD, glE, glF])
        refine wpAnyK_take 9 (v := ?_) (by first | exact hF | exact wideFn) trivial rfl (by kernel_rfl) (by kernel_rfl) (by kernel_rfl) (by kernel_rfl) rfl ?_ (by first | exact fun _ _ _ h => h | exact fun _ _ _ h => hQ2 _ _ _ _ _ h) ?_
        rotate_left
        · intro W hSW
          replace hSW : True := hSW
          simp only [glA, glB, glC]
          (try dsimp only at hSW)
          go_simp
          with_reducible rfl
        (try simp only [glA, glB, glC, Act.put, glD, glE, glF])
        have cw := HS2.out.1
        refine wpAnyK_one 10 rfl (by kernel_rfl) (fun K hK => ?_)
        simp only [glA, glB, glC]
        go_simp
        refine hK.out _ _ (.inr (pickS_need (by kernel_rfl) trivial)) ?_
        clear hK K
        (try simp only [glA, glB, glC, Act.put, glD, glE, glF])
        refine wpAnyK_done (by kernel_rfl) ?_
        go_wp2_with fail
        go_roundw
        case rel => exact ⟨k + 1, _, by omega, by go_num, hide (HPL.out.congr (fun r _ => by
          rw [plL_take l k (by rw [HLN.out.1]; exact hlt) HE.out r, hpq]
          by_cases e : r = a * 2 + 1
          · rw [e, upd_same, if_pos rfl]
          · rw [upd_ne _ _ e, if_neg (Ne.symm e)]))⟩
        case measure => simp [intOf]; omega
      -- END1
    · -- BEGIN2
      obtain rfl : k = L := by omega
      have hnl : ¬ (k : Int) < (k : Int) := by omega
      go_wp2_with fail
      go_ret
      refine ⟨_, rfl, v, ?_⟩
      have hall : l.take k = l := List.take_of_length_le (by rw [HLN.out.1]; omega)
      have := HP.out
      rwa [hall] at this
      -- END2
end Go.Proofs.YtmpegkojencbjaaDoor
/- School: the editor's state: own lists of words; what stays. -/
namespace Go.Proofs.YtmpegkojencbjaaDoor
open List renaming getElem_toArray → glA, getElem_cons_zero → glB, getElem_cons_succ → glC, setIfInBounds_toArray → glD, set_cons_zero → glE, set_cons_succ → glF
open Go Go.RowKit Go.Shelf
set_option maxHeartbeats 2000000
set_option maxRecDepth 100000
theorem info_str : (Tryd.prog.info? 9).map (fun i => (i.zero, i.size, i.bytes)) = some (some (.string noW), 1, 16) := by kernel_rfl
def strs (l : List Wd) : List Value := l.map .string
theorem strs_one (l : List Wd) : ∀ u ∈ strs l, u.oneCell' = true := by
  intro u hu
  obtain ⟨x, -, rfl⟩ := List.mem_map.1 hu
  rfl
theorem strs_len (l : List Wd) : (strs l).length = l.length := by simp [strs]
theorem strs_append (l m : List Wd) : strs (l ++ m) = strs l ++ strs m := by simp [strs]
/-- an own list of words -/
def OwnS (W : World) (n0 : Nat) (v : Value) (l : List Wd) : Prop := W.ownsRow n0 9 1 v l.length (strs l)
theorem OwnS.nil (W : World) (n0 : Nat) : OwnS W n0 (.slice none 0 0) [] := ⟨rfl, .inl ⟨rfl, rfl⟩⟩
theorem OwnS.ext {W W' : World} {n0 : Nat} {v : Value} {l : List Wd} (h : OwnS W n0 v l) (hb : Below W.heap.size W W') : OwnS W' n0 v l := ownBelow h hb
theorem strs_at (l : List Wd) {k : Nat} (hk : k < l.length) : (strs l)[k]? = some (.string (l.getD k noW)) := by
  unfold strs
  rw [List.getElem?_map, List.getElem?_eq_getElem hk, List.getD_eq_getElem?_getD, List.getElem?_eq_getElem hk]; rfl
theorem OwnS.pushes {W : World} {base : Nat} {v : Value} {l : List Wd} (h : OwnS W base v l) (A : Option Addr) (c : Nat) (m : List Wd) (hA : SR W W.heap.size A m) (hl : l.length + m.length ≤ 1000000) (hb : base ≤ W.heap.size) :
    ∃ v' w', (Builtin.append_ #[22, 22] 22 #[v, .slice A m.length c]).run Tryd.prog W = .ok v' w' ∧ OwnS w' base v' (l ++ m) ∧ W.grownBy w' v.ownBlock ∧ (v'.ownBlock = v.ownBlock ∨ v'.ownBlock = some W.heap.size) := by
  obtain ⟨i0, hi, hz0, hz1, hz2⟩ := info_parts info_str
  cases A with
  | none =>
    have hm : m = [] := by
      rcases hm : m with _ | ⟨x, m⟩
      · rfl
      · exfalso
        obtain ⟨b, off, hA, -⟩ := hA (by rw [hm]; simp)
        cases hA
    subst hm
    refine ⟨v, W, run_append_none0 (P := Tryd.prog) _ _ 9 i0 1 Tryd.underlying22 hi v l.length c (strs l) h, by simpa using h, World.grownBy.refl _ _, .inl rfl⟩
  | some a =>
    have hcells : ∀ j u, (strs m)[j]? = some u → W.cell? (a.add j) = some u := by
      intro j u hj
      have hlt : j < m.length := by
        have := (List.getElem?_eq_some_iff.1 hj).1
        rwa [strs_len] at this
      obtain ⟨b, off, hA', -, hc⟩ := VR1.at_ hA hlt
      injection hA' with hA'
      subst hA'
      rw [strs_at m hlt] at hj
      have e4 : ((⟨b, off, none⟩ : Addr).add j) = ⟨b, off + j, none⟩ := by simp [Addr.add]
      rw [e4, ← hj]
      exact hc
    obtain ⟨v', w', hr, h2, h3, -, h4⟩ := run_append_own_at (P := Tryd.prog) (w := W) base 22 22 9 i0 _ 1 16 Tryd.underlying22 hi hz0 hz1 hz2 rfl (by decide) v l.length (strs l) h
      a m.length c (strs m) (by rw [strs_len]; omega) hcells (strs_one m) (by unfold maxLen; omega) (by omega) hb
    refine ⟨v', w', hr, ?_, h3, h4⟩
    unfold OwnS
    rw [strs_append, List.length_append]
    exact h2
/-- what stays where an editor writes: all but its own block and the block of its list -/
structure KX (w w' : World) (X : Nat) (row : Option Nat) : Prop where
  os : w'.os = w.os
  tape : w'.tape = w.tape
  output : w'.output = w.output
  size : w.heap.size ≤ w'.heap.size
  block : ∀ k, k < w.heap.size → k ≠ X → some k ≠ row → w'.heap[k]? = w.heap[k]?
/-- an editor -/
structure EX (w W : World) (X : Nat) (A : Option Addr) (c : Nat) (a : List Wd) (i : Nat) (v : Value) (l : List Wd) : Prop where
  below : Below w.heap.size w W
  lo : w.heap.size ≤ X
  blk : Blk W X 92 #[.slice A a.length c, .int .i64 i, v]
  own : OwnS W w.heap.size v l
theorem KX.refl (w : World) (X : Nat) (row : Option Nat) : KX w w X row := ⟨rfl, rfl, rfl, Nat.le_refl _, fun _ _ _ _ => rfl⟩
theorem KX.of_below {w w' : World} (X : Nat) (row : Option Nat) (h : Below w.heap.size w w') : KX w w' X row := ⟨h.os, h.tape, h.output, h.size, fun k hk _ _ => h.block k hk⟩
theorem KX.grown {w w1 w2 : World} {X : Nat} {row : Option Nat} (h : KX w w1 X row) (hg : w1.grownBy w2 row) : KX w w2 X row :=
  ⟨hg.os.trans h.os, hg.tape.trans h.tape, hg.output.trans h.output, Nat.le_trans h.size hg.size, fun k hk h1 h2 => (hg.block k (Nat.lt_of_lt_of_le hk h.size) h2).trans (h.block k hk h1 h2)⟩
theorem KX.set {w w1 : World} {X : Nat} {row : Option Nat} (h : KX w w1 X row) (i : Nat) (u : Value) : KX w (w1.setCell ⟨X, i, none⟩ u) X row := by
  have hb : Below X w1 (w1.setCell ⟨X, i, none⟩ u) := (Below.refl X w1).setCell (p := ⟨X, i, none⟩) (Nat.le_refl _) u
  exact ⟨hb.os.trans h.os, hb.tape.trans h.tape, hb.output.trans h.output, Nat.le_trans h.size hb.size, fun k hk h1 h2 => (Below.heap_setCell w1 ⟨X, i, none⟩ u k h1).trans (h.block k hk h1 h2)⟩
/-- one after another: the later list's block is the earlier one's, or new -/
theorem KX.trans {w w1 w2 : World} {X : Nat} {row row1 : Option Nat} (h : KX w w1 X row) (h2 : KX w1 w2 X row1) (hr : row1 = row ∨ ∀ k, row1 = some k → w.heap.size ≤ k) : KX w w2 X row :=
  ⟨h2.os.trans h.os, h2.tape.trans h.tape, h2.output.trans h.output, Nat.le_trans h.size h2.size, fun k hk h1 h3 => by
    refine (h2.block k (Nat.lt_of_lt_of_le hk h.size) h1 ?_).trans (h.block k hk h1 h3)
    rcases hr with rfl | hr
    · exact h3
    · intro e
      have := hr k e.symm
      omega⟩
theorem Blk.kx {w w' : World} {X : Nat} {row : Option Nat} {g : Nat} {t : TypeId} {cs : Array Value} (h : Blk w g t cs) (hk : KX w w' X row) (h1 : g ≠ X) (h2 : some g ≠ row) : Blk w' g t cs := (hk.block g h.lt h1 h2).trans h
theorem SR.seg {w : World} {B : Nat} {b off : Nat} {l : List Wd} (h : SR w B (some ⟨b, off, none⟩) l) (i n : Nat) (hn : i + n ≤ l.length) : SR w B (some ⟨b, off + i, none⟩) ((l.drop i).take n) := by
  intro h0
  have hlen : ((l.drop i).take n).length = n := by rw [List.length_take, List.length_drop]; omega
  obtain ⟨b', off', hA, hlt, hc⟩ := h (by omega)
  injection hA with hA
  injection hA with h1 h2
  subst h1 h2
  refine ⟨b, off + i, rfl, hlt, fun k j hk hj => ?_⟩
  rw [hlen] at hk
  have h3 := hc (i + k) j (by omega) hj
  rw [show off + i + k * 1 + j = off + (i + k) * 1 + j by omega, h3]
  have e : ((l.drop i).take n).getD k noW = l.getD (i + k) noW := by
    simp only [List.getD_eq_getElem?_getD]
    rw [List.getElem?_take_of_lt hk, List.getElem?_drop]
  exact congrArg (fun x => some (Value.string x)) e.symm
def segA (A : Option Addr) (c i : Nat) : Option Addr := match A with | none => none | some p => if c = i then some p else some (p.add i)
def takeL (a : List Wd) (i t : Nat) (l : List Wd) : List Wd := l ++ (a.drop i).take (t - i)
theorem take_any (w W : World) (X : Nat) (A : Option Addr) (c : Nat) (a : List Wd) (i t : Nat) (v : Value) (l : List Wd) (hX : EX w W X A c a i v l) (hA : SR w w.heap.size A a) (hit : i ≤ t) (hta : t ≤ a.length) (hac : a.length ≤ c) (hc : c ≤ maxLen) (hl : l.length + t ≤ 1000000) :
    Calls Tryd.prog 57 #[.pointer (some ⟨X, 0, none⟩), .int .i64 t] W fun e w' => ∃ v', e = .returned (.tuple #[]) ∧ EX w w' X A c a t v' (takeL a i t l) ∧ KX W w' X v.ownBlock ∧ (v'.ownBlock = v.ownBlock ∨ ∀ k, v'.ownBlock = some k → W.heap.size ≤ k) := by
  unfold maxLen at hc
  have HX := hide hX
  obtain ⟨n, hn⟩ : ∃ n, a.length = n := ⟨_, rfl⟩
  have HN := hide hn
  rw [hn] at hta hac
  have i0 : (0 : Int) ≤ (i : Int) := by omega
  have i1 : (i : Int) ≤ (t : Int) := by omega
  have t1 : (t : Int) ≤ (c : Int) := by omega
  have HS0 : Hid (W.drew.cell? ⟨X, 0, none⟩ = some (.slice (A) n c) ∧ W.drew.cell? ⟨X, 1, none⟩ = some (.int .i64 i) ∧ W.drew.cell? ⟨X, 2, none⟩ = some v) := hide (by
    have h := (hX.blk.drew)
    rw [hn] at h
    obtain ⟨-, h0, h1, h2, -⟩ := blk3 h
    exact ⟨h0, h1, h2⟩)
  have HA := hide hA
  clear hX hA hn
  have HSEG : Hid (∀ AS : Option Addr, AS = segA A c i → SR W.drew W.drew.heap.size AS ((a.drop i).take (t - i))) := hide (by
    intro AS hAS
    have hA : SR W.drew W.drew.heap.size A a := ER.more (ER.below HA.out HX.out.below.drew (Nat.le_refl _)) HX.out.below.size
    by_cases h0 : i < t
    · obtain ⟨b, off, hA2, -, -⟩ := hA (by rw [HN.out]; omega)
      subst hA2
      have h1 : ¬ c = i := by omega
      subst hAS
      unfold segA
      dsimp only
      rw [if_neg h1]
      have e4 : ((⟨b, off, none⟩ : Addr).add i) = ⟨b, off + i, none⟩ := by simp [Addr.add]
      rw [e4]
      exact hA.seg i (t - i) (by rw [HN.out]; omega)
    · intro h
      rw [List.length_take] at h
      omega)
  have HKD := hide (show KX W W.drew X v.ownBlock from KX.of_below X _ (Below.refl _ _).drew)
  have HXD := hide (show EX w W.drew X A c a i v l from ⟨HX.out.below.drew, HX.out.lo, HX.out.blk, HX.out.own⟩)
  have hWs : W.drew.heap.size = W.heap.size := rfl
  obtain ⟨wd, hwd⟩ : ∃ wd, W.drew = wd := ⟨_, rfl⟩
  rw [hwd] at HS0 HSEG HKD HXD hWs
  clear HX
  have hseg : ((a.drop i).take (t - i)).length = t - i := by rw [List.length_take, List.length_drop, HN.out]; omega
  have HSG := hide hseg
  clear hseg
  cases A with
  | none =>
    have hnl : n = 0 := by
      rcases Nat.eq_zero_or_pos n with h | h
      · exact h
      · obtain ⟨b, off, hA2, -, -⟩ := HA.out (by rw [HN.out]; exact h)
        cases hA2
    subst hnl
    obtain rfl : t = 0 := by omega
    obtain rfl : i = 0 := by omega
    obtain ⟨v', w', hrun, ho, hg, hrow⟩ := OwnS.pushes (W := wd) (v := v) (l := l) (base := w.heap.size) HXD.out.own none c _ (HSEG.out _ rfl) (by rw [HSG.out]; omega) HXD.out.below.size
    rw [HSG.out] at hrun
    have B1 := HXD.out.blk
    have lX := B1.lt
    have B2 := B1.grown hg (fun e => own_blk_ne HXD.out.own HXD.out.blk (by decide) e.symm)
    have HS1 : Hid (w'.cell? ⟨X, 0, none⟩ = some (.slice none 0 c) ∧ w'.cell? ⟨X, 1, none⟩ = some (.int .i64 (0 : Nat)) ∧ w'.cell? ⟨X, 2, none⟩ = some v) := hide (by
      have h := B2
      rw [HN.out] at h
      obtain ⟨-, h0, h1, h2, -⟩ := blk3 h
      exact ⟨h0, h1, h2⟩)
    obtain ⟨A', c', hv'⟩ := own_shape ho
    obtain ⟨ln, hln⟩ : ∃ ln, (l ++ (a.drop 0).take (0 - 0)).length = ln := ⟨_, rfl⟩
    rw [hln] at hv'
    subst hv'
    clear hln
    have HRUN := hide hrun
    have f1 := B2.frozen 1
    have f2 := B2.frozen 2
    have l2 := B2.lt
    have HB2 := hide (And.intro B2 (And.intro ho (And.intro hg hrow)))
    clear hrun ho hg hrow B1 B2
    go_enter Tryd.func57, Tryd.ntmps57
    go_upto_region 0 with fail
    refine wp_region_K (pickS [4, 8, 12] (fun W : World => W.cell? ⟨X, 0, none⟩ = some (.slice none 0 c) ∧ W.cell? ⟨X, 1, none⟩ = some (.int .i64 (0 : Nat)) ∧ W.cell? ⟨X, 2, none⟩ = some v) (fun _ => True)) (by kernel_rfl) ?_
    rw [hwd]
    clear hwd
    refine wpAnyK_take 0 (v := ?_) (by first | exact hF | exact wideFn) trivial rfl (by kernel_rfl) (by kernel_rfl) (by kernel_rfl) (by kernel_rfl) rfl ?_ (by first | exact fun _ _ _ h => h | exact fun _ _ _ h => hQ2 _ _ _ _ _ h) ?_
    rotate_left
    · intro W hSW
      replace hSW : True := hSW
      simp only [glA, glB, glC]
      (try dsimp only at hSW)
      go_simp
      with_reducible rfl
    (try simp only [glA, glB, glC, Act.put, glD, glE, glF])
    refine wpAnyK_take 1 (v := ?_) (by first | exact hF | exact wideFn) trivial rfl (by kernel_rfl) (by kernel_rfl) (by kernel_rfl) (by kernel_rfl) rfl ?_ (by first | exact fun _ _ _ h => h | exact fun _ _ _ h => hQ2 _ _ _ _ _ h) ?_
    rotate_left
    · intro W hSW
      replace hSW : True := hSW
      simp only [glA, glB, glC]
      (try dsimp only at hSW)
      go_simp
      with_reducible rfl
    (try simp only [glA, glB, glC, Act.put, glD, glE, glF])
    refine wpAnyK_take 2 (v := ?_) (by first | exact hF | exact wideFn) trivial rfl (by kernel_rfl) (by kernel_rfl) (by kernel_rfl) (by kernel_rfl) rfl ?_ (by first | exact fun _ _ _ h => h | exact fun _ _ _ h => hQ2 _ _ _ _ _ h) ?_
    rotate_left
    · intro W hSW
      replace hSW : True := hSW
      simp only [glA, glB, glC]
      (try dsimp only at hSW)
      go_simp
      with_reducible rfl
    (try simp only [glA, glB, glC, Act.put, glD, glE, glF])
    refine wpAnyK_take 3 (v := ?_) (by first | exact hF | exact wideFn) trivial rfl (by kernel_rfl) (by kernel_rfl) (by kernel_rfl) (by kernel_rfl) rfl ?_ (by first | exact fun _ _ _ h => h | exact fun _ _ _ h => hQ2 _ _ _ _ _ h) ?_
    rotate_left
    · intro W hSW
      replace hSW : True := hSW
      simp only [glA, glB, glC]
      (try dsimp only at hSW)
      go_simp
      with_reducible rfl
    (try simp only [glA, glB, glC, Act.put, glD, glE, glF])
    refine wpAnyK_take 4 (v := ?_) (by first | exact hF | exact wideFn) (And.intro HS0.out trivial) rfl (by kernel_rfl) (by kernel_rfl) (by kernel_rfl) (by kernel_rfl) rfl ?_ (by first | exact fun _ _ _ h => h | exact fun _ _ _ h => hQ2 _ _ _ _ _ h) ?_
    rotate_left
    · intro W hSW
      replace hSW : ((W.cell? ⟨X, 0, none⟩ = some (.slice none 0 c) ∧ W.cell? ⟨X, 1, none⟩ = some (.int .i64 (0 : Nat)) ∧ W.cell? ⟨X, 2, none⟩ = some v) ∧ True) := hSW
      simp only [glA, glB, glC]
      (try dsimp only at hSW)
      go_simp
      with_reducible rfl
    (try simp only [glA, glB, glC, Act.put, glD, glE, glF])
    refine wpAnyK_take 5 (v := ?_) (by first | exact hF | exact wideFn) trivial rfl (by kernel_rfl) (by kernel_rfl) (by kernel_rfl) (by kernel_rfl) rfl ?_ (by first | exact fun _ _ _ h => h | exact fun _ _ _ h => hQ2 _ _ _ _ _ h) ?_
    rotate_left
    · intro W hSW
      replace hSW : True := hSW
      simp only [glA, glB, glC]
      (try dsimp only at hSW)
      go_simp
      with_reducible rfl
    (try simp only [glA, glB, glC, Act.put, glD, glE, glF])
    refine wpAnyK_take 6 (v := ?_) (by first | exact hF | exact wideFn) trivial rfl (by kernel_rfl) (by kernel_rfl) (by kernel_rfl) (by kernel_rfl) rfl ?_ (by first | exact fun _ _ _ h => h | exact fun _ _ _ h => hQ2 _ _ _ _ _ h) ?_
    rotate_left
    · intro W hSW
      replace hSW : True := hSW
      simp only [glA, glB, glC]
      (try dsimp only at hSW)
      go_simp
      with_reducible rfl
    (try simp only [glA, glB, glC, Act.put, glD, glE, glF])
    refine wpAnyK_take 7 (v := ?_) (by first | exact hF | exact wideFn) trivial rfl (by kernel_rfl) (by kernel_rfl) (by kernel_rfl) (by kernel_rfl) rfl ?_ (by first | exact fun _ _ _ h => h | exact fun _ _ _ h => hQ2 _ _ _ _ _ h) ?_
    rotate_left
    · intro W hSW
      replace hSW : True := hSW
      simp only [glA, glB, glC]
      (try dsimp only at hSW)
      go_simp
      with_reducible rfl
    (try simp only [glA, glB, glC, Act.put, glD, glE, glF])
    refine wpAnyK_take 8 (v := ?_) (by first | exact hF | exact wideFn) (And.intro HS0.out trivial) rfl (by kernel_rfl) (by kernel_rfl) (by kernel_rfl) (by kernel_rfl) rfl ?_ (by first | exact fun _ _ _ h => h | exact fun _ _ _ h => hQ2 _ _ _ _ _ h) ?_
    rotate_left
    · intro W hSW
      replace hSW : ((W.cell? ⟨X, 0, none⟩ = some (.slice none 0 c) ∧ W.cell? ⟨X, 1, none⟩ = some (.int .i64 (0 : Nat)) ∧ W.cell? ⟨X, 2, none⟩ = some v) ∧ True) := hSW
      simp only [glA, glB, glC]
      (try dsimp only at hSW)
      go_simp
      with_reducible rfl
    (try simp only [glA, glB, glC, Act.put, glD, glE, glF])
    refine wpAnyK_take 9 (v := ?_) (by first | exact hF | exact wideFn) trivial rfl (by kernel_rfl) (by kernel_rfl) (by kernel_rfl) (by kernel_rfl) rfl ?_ (by first | exact fun _ _ _ h => h | exact fun _ _ _ h => hQ2 _ _ _ _ _ h) ?_
    rotate_left
    · intro W hSW
      replace hSW : True := hSW
      simp only [glA, glB, glC]
      (try dsimp only at hSW)
      go_simp
      with_reducible rfl
    (try simp only [glA, glB, glC, Act.put, glD, glE, glF])
    refine wpAnyK_take 10 (v := ?_) (by first | exact hF | exact wideFn) trivial rfl (by kernel_rfl) (by kernel_rfl) (by kernel_rfl) (by kernel_rfl) rfl ?_ (by first | exact fun _ _ _ h => h | exact fun _ _ _ h => hQ2 _ _ _ _ _ h) ?_
    rotate_left
    · intro W hSW
      replace hSW : True := hSW
      simp only [glA, glB, glC]
      (try dsimp only at hSW)
      go_simp
      with_reducible rfl
    (try simp only [glA, glB, glC, Act.put, glD, glE, glF])
    refine wpAnyK_take 11 (v := ?_) (by first | exact hF | exact wideFn) trivial rfl (by kernel_rfl) (by kernel_rfl) (by kernel_rfl) (by kernel_rfl) rfl ?_ (by first | exact fun _ _ _ h => h | exact fun _ _ _ h => hQ2 _ _ _ _ _ h) ?_
    rotate_left
    · intro W hSW
      replace hSW : True := hSW
      simp only [glA, glB, glC]
      (try dsimp only at hSW)
      go_simp
      with_reducible rfl
    (try simp only [glA, glB, glC, Act.put, glD, glE, glF])
    refine wpAnyK_take 12 (v := ?_) (by first | exact hF | exact wideFn) (And.intro HS0.out trivial) rfl (by kernel_rfl) (by kernel_rfl) (by kernel_rfl) (by kernel_rfl) rfl ?_ (by first | exact fun _ _ _ h => h | exact fun _ _ _ h => hQ2 _ _ _ _ _ h) ?_
    rotate_left
    · intro W hSW
      replace hSW : ((W.cell? ⟨X, 0, none⟩ = some (.slice none 0 c) ∧ W.cell? ⟨X, 1, none⟩ = some (.int .i64 (0 : Nat)) ∧ W.cell? ⟨X, 2, none⟩ = some v) ∧ True) := hSW
      simp only [glA, glB, glC]
      (try dsimp only at hSW)
      go_simp
      with_reducible rfl
    (try simp only [glA, glB, glC, Act.put, glD, glE, glF])
    refine wpAnyK_take 13 (v := ?_) (by first | exact hF | exact wideFn) trivial rfl (by kernel_rfl) (by kernel_rfl) (by kernel_rfl) (by kernel_rfl) rfl ?_ (by first | exact fun _ _ _ h => h | exact fun _ _ _ h => hQ2 _ _ _ _ _ h) ?_
    rotate_left
    · intro W hSW
      replace hSW : True := hSW
      simp only [glA, glB, glC]
      (try dsimp only at hSW)
      go_simp
      with_reducible rfl
    (try simp only [glA, glB, glC, Act.put, glD, glE, glF])
    refine wpAnyK_take 14 (v := ?_) (by first | exact hF | exact wideFn) trivial rfl (by kernel_rfl) (by kernel_rfl) (by kernel_rfl) (by kernel_rfl) rfl ?_ (by first | exact fun _ _ _ h => h | exact fun _ _ _ h => hQ2 _ _ _ _ _ h) ?_
    rotate_left
    · intro W hSW
      replace hSW : True := hSW
      simp only [glA, glB, glC]
      (try dsimp only at hSW)
      go_simp
      with_reducible rfl
    (try simp only [glA, glB, glC, Act.put, glD, glE, glF])
    refine wpAnyK_one 15 rfl (by kernel_rfl) (fun K hK => ?_)
    rw [if_pos (by rfl)]
    refine wpIn_append_run (.tmp 8) (.tmp 18) 22 (by first | exact hF | exact wideFn) rfl rfl rfl HRUN.out ?_
    refine hK.out _ _ (.inr (pickS_all HS1.out trivial)) ?_
    clear hK K
    (try simp only [glA, glB, glC, Act.put, glD, glE, glF])
    refine wpAnyK_take 16 (v := ?_) (by first | exact hF | exact wideFn) trivial rfl (by kernel_rfl) (by kernel_rfl) (by kernel_rfl) (by kernel_rfl) rfl ?_ (by first | exact fun _ _ _ h => h | exact fun _ _ _ h => hQ2 _ _ _ _ _ h) ?_
    rotate_left
    · intro W hSW
      replace hSW : True := hSW
      simp only [glA, glB, glC]
      (try dsimp only at hSW)
      go_simp
      with_reducible rfl
    (try simp only [glA, glB, glC, Act.put, glD, glE, glF])
    refine wpAnyK_take 17 (v := ?_) (by first | exact hF | exact wideFn) trivial rfl (by kernel_rfl) (by kernel_rfl) (by kernel_rfl) (by kernel_rfl) rfl ?_ (by first | exact fun _ _ _ h => h | exact fun _ _ _ h => hQ2 _ _ _ _ _ h) ?_
    rotate_left
    · intro W hSW
      replace hSW : True := hSW
      simp only [glA, glB, glC]
      (try dsimp only at hSW)
      go_simp
      with_reducible rfl
    (try simp only [glA, glB, glC, Act.put, glD, glE, glF])
    have c1 := HS1.out.2.1
    have c2 := HS1.out.2.2
    refine wpAnyK_one 18 rfl (by kernel_rfl) (fun K hK => ?_)
    simp only [glA, glB, glC]
    go_simp
    refine hK.out _ _ (.inr (pickS_need (by kernel_rfl) trivial)) ?_
    clear hK K
    (try simp only [glA, glB, glC, Act.put, glD, glE, glF])
    refine wpAnyK_done (by kernel_rfl) ?_
    go_wp2_with fail
    go_end0
    obtain ⟨B2, ho, hg, hrow⟩ := HB2.out
    refine ⟨.slice A' ln c', rfl, ⟨((HXD.out.below.grown hg HXD.out.below.size (fun k hk => (World.ownsRow.lt HXD.out.own k hk).1)).setCell HXD.out.lo _).setCell HXD.out.lo _, HXD.out.lo, ?_, ?_⟩, ((HKD.out.grown hg).set 2 _).set 1 _, hrow.imp id (fun h k hk => ?_)⟩
    · have h := (B2.set_ 2 (.slice A' ln c')).set_ 1 (.int .i64 (0 : Nat))
      exact h
    · have h1 := World.ownsRow.kept ho (grownBy_setC w' X 2 (.slice A' ln c')) (.inr (own_blk_ne ho B2 (by decide)))
      exact World.ownsRow.kept h1 (grownBy_setC _ X 1 (.int .i64 (0 : Nat))) (.inr (own_blk_ne h1 (B2.set_ 2 _) (by decide)))
    · rw [h] at hk
      injection hk with hk
      omega
  | some p =>
    obtain ⟨b, off, o⟩ := p
    obtain ⟨v', w', hrun, ho, hg, hrow⟩ := OwnS.pushes (W := wd) (v := v) (l := l) (base := w.heap.size) HXD.out.own (if c = i then some ⟨b, off, o⟩ else some ((⟨b, off, o⟩ : Addr).add i)) (c - i) _ (HSEG.out _ rfl) (by rw [HSG.out]; omega) HXD.out.below.size
    rw [HSG.out] at hrun
    have B1 := HXD.out.blk
    have lX := B1.lt
    have B2 := B1.grown hg (fun e => own_blk_ne HXD.out.own HXD.out.blk (by decide) e.symm)
    have HS1 : Hid (w'.cell? ⟨X, 0, none⟩ = some (.slice (some ⟨b, off, o⟩) n c) ∧ w'.cell? ⟨X, 1, none⟩ = some (.int .i64 i) ∧ w'.cell? ⟨X, 2, none⟩ = some v) := hide (by
      have h := B2
      rw [HN.out] at h
      obtain ⟨-, h0, h1, h2, -⟩ := blk3 h
      exact ⟨h0, h1, h2⟩)
    obtain ⟨A', c', hv'⟩ := own_shape ho
    obtain ⟨ln, hln⟩ : ∃ ln, (l ++ (a.drop i).take (t - i)).length = ln := ⟨_, rfl⟩
    rw [hln] at hv'
    subst hv'
    clear hln
    obtain ⟨AS, hAS⟩ : ∃ AS, (if c = i then some (⟨b, off, o⟩ : Addr) else some ((⟨b, off, o⟩ : Addr).add i)) = AS := ⟨_, rfl⟩
    rw [hAS] at hrun
    have HAS := hide hAS
    clear hAS
    have HRUN := hide hrun
    have f1 := B2.frozen 1
    have f2 := B2.frozen 2
    have l2 := B2.lt
    have HB2 := hide (And.intro B2 (And.intro ho (And.intro hg hrow)))
    clear hrun ho hg hrow B1 B2
    go_enter Tryd.func57, Tryd.ntmps57
    go_upto_region 0 with fail
    refine wp_region_K (pickS [4, 8, 12] (fun W : World => W.cell? ⟨X, 0, none⟩ = some (.slice (some ⟨b, off, o⟩) n c) ∧ W.cell? ⟨X, 1, none⟩ = some (.int .i64 i) ∧ W.cell? ⟨X, 2, none⟩ = some v) (fun _ => True)) (by kernel_rfl) ?_
    rw [hwd]
    clear hwd
    refine wpAnyK_take 0 (v := ?_) (by first | exact hF | exact wideFn) trivial rfl (by kernel_rfl) (by kernel_rfl) (by kernel_rfl) (by kernel_rfl) rfl ?_ (by first | exact fun _ _ _ h => h | exact fun _ _ _ h => hQ2 _ _ _ _ _ h) ?_
    rotate_left
    · intro W hSW
      replace hSW : True := hSW
      simp only [glA, glB, glC]
      (try dsimp only at hSW)
      go_simp
      with_reducible rfl
    (try simp only [glA, glB, glC, Act.put, glD, glE, glF])
    refine wpAnyK_take 1 (v := ?_) (by first | exact hF | exact wideFn) trivial rfl (by kernel_rfl) (by kernel_rfl) (by kernel_rfl) (by kernel_rfl) rfl ?_ (by first | exact fun _ _ _ h => h | exact fun _ _ _ h => hQ2 _ _ _ _ _ h) ?_
    rotate_left
    · intro W hSW
      replace hSW : True := hSW
      simp only [glA, glB, glC]
      (try dsimp only at hSW)
      go_simp
      with_reducible rfl
    (try simp only [glA, glB, glC, Act.put, glD, glE, glF])
    refine wpAnyK_take 2 (v := ?_) (by first | exact hF | exact wideFn) trivial rfl (by kernel_rfl) (by kernel_rfl) (by kernel_rfl) (by kernel_rfl) rfl ?_ (by first | exact fun _ _ _ h => h | exact fun _ _ _ h => hQ2 _ _ _ _ _ h) ?_
    rotate_left
    · intro W hSW
      replace hSW : True := hSW
      simp only [glA, glB, glC]
      (try dsimp only at hSW)
      go_simp
      with_reducible rfl
    (try simp only [glA, glB, glC, Act.put, glD, glE, glF])
    refine wpAnyK_take 3 (v := ?_) (by first | exact hF | exact wideFn) trivial rfl (by kernel_rfl) (by kernel_rfl) (by kernel_rfl) (by kernel_rfl) rfl ?_ (by first | exact fun _ _ _ h => h | exact fun _ _ _ h => hQ2 _ _ _ _ _ h) ?_
    rotate_left
    · intro W hSW
      replace hSW : True := hSW
      simp only [glA, glB, glC]
      (try dsimp only at hSW)
      go_simp
      with_reducible rfl
    (try simp only [glA, glB, glC, Act.put, glD, glE, glF])
    refine wpAnyK_take 4 (v := ?_) (by first | exact hF | exact wideFn) (And.intro HS0.out trivial) rfl (by kernel_rfl) (by kernel_rfl) (by kernel_rfl) (by kernel_rfl) rfl ?_ (by first | exact fun _ _ _ h => h | exact fun _ _ _ h => hQ2 _ _ _ _ _ h) ?_
    rotate_left
    · intro W hSW
      replace hSW : ((W.cell? ⟨X, 0, none⟩ = some (.slice (some ⟨b, off, o⟩) n c) ∧ W.cell? ⟨X, 1, none⟩ = some (.int .i64 i) ∧ W.cell? ⟨X, 2, none⟩ = some v) ∧ True) := hSW
      simp only [glA, glB, glC]
      (try dsimp only at hSW)
      go_simp
      with_reducible rfl
    (try simp only [glA, glB, glC, Act.put, glD, glE, glF])
    refine wpAnyK_take 5 (v := ?_) (by first | exact hF | exact wideFn) trivial rfl (by kernel_rfl) (by kernel_rfl) (by kernel_rfl) (by kernel_rfl) rfl ?_ (by first | exact fun _ _ _ h => h | exact fun _ _ _ h => hQ2 _ _ _ _ _ h) ?_
    rotate_left
    · intro W hSW
      replace hSW : True := hSW
      simp only [glA, glB, glC]
      (try dsimp only at hSW)
      go_simp
      with_reducible rfl
    (try simp only [glA, glB, glC, Act.put, glD, glE, glF])
    refine wpAnyK_take 6 (v := ?_) (by first | exact hF | exact wideFn) trivial rfl (by kernel_rfl) (by kernel_rfl) (by kernel_rfl) (by kernel_rfl) rfl ?_ (by first | exact fun _ _ _ h => h | exact fun _ _ _ h => hQ2 _ _ _ _ _ h) ?_
    rotate_left
    · intro W hSW
      replace hSW : True := hSW
      simp only [glA, glB, glC]
      (try dsimp only at hSW)
      go_simp
      with_reducible rfl
    (try simp only [glA, glB, glC, Act.put, glD, glE, glF])
    refine wpAnyK_take 7 (v := ?_) (by first | exact hF | exact wideFn) trivial rfl (by kernel_rfl) (by kernel_rfl) (by kernel_rfl) (by kernel_rfl) rfl ?_ (by first | exact fun _ _ _ h => h | exact fun _ _ _ h => hQ2 _ _ _ _ _ h) ?_
    rotate_left
    · intro W hSW
      replace hSW : True := hSW
      simp only [glA, glB, glC]
      (try dsimp only at hSW)
      go_simp
      with_reducible rfl
    (try simp only [glA, glB, glC, Act.put, glD, glE, glF])
    refine wpAnyK_take 8 (v := ?_) (by first | exact hF | exact wideFn) (And.intro HS0.out trivial) rfl (by kernel_rfl) (by kernel_rfl) (by kernel_rfl) (by kernel_rfl) rfl ?_ (by first | exact fun _ _ _ h => h | exact fun _ _ _ h => hQ2 _ _ _ _ _ h) ?_
    rotate_left
    · intro W hSW
      replace hSW : ((W.cell? ⟨X, 0, none⟩ = some (.slice (some ⟨b, off, o⟩) n c) ∧ W.cell? ⟨X, 1, none⟩ = some (.int .i64 i) ∧ W.cell? ⟨X, 2, none⟩ = some v) ∧ True) := hSW
      simp only [glA, glB, glC]
      (try dsimp only at hSW)
      go_simp
      with_reducible rfl
    (try simp only [glA, glB, glC, Act.put, glD, glE, glF])
    refine wpAnyK_take 9 (v := ?_) (by first | exact hF | exact wideFn) trivial rfl (by kernel_rfl) (by kernel_rfl) (by kernel_rfl) (by kernel_rfl) rfl ?_ (by first | exact fun _ _ _ h => h | exact fun _ _ _ h => hQ2 _ _ _ _ _ h) ?_
    rotate_left
    · intro W hSW
      replace hSW : True := hSW
      simp only [glA, glB, glC]
      (try dsimp only at hSW)
      go_simp
      with_reducible rfl
    (try simp only [glA, glB, glC, Act.put, glD, glE, glF])
    refine wpAnyK_take 10 (v := ?_) (by first | exact hF | exact wideFn) trivial rfl (by kernel_rfl) (by kernel_rfl) (by kernel_rfl) (by kernel_rfl) rfl ?_ (by first | exact fun _ _ _ h => h | exact fun _ _ _ h => hQ2 _ _ _ _ _ h) ?_
    rotate_left
    · intro W hSW
      replace hSW : True := hSW
      simp only [glA, glB, glC]
      (try dsimp only at hSW)
      go_simp
      with_reducible rfl
    (try simp only [glA, glB, glC, Act.put, glD, glE, glF])
    refine wpAnyK_take 11 (v := ?_) (by first | exact hF | exact wideFn) trivial rfl (by kernel_rfl) (by kernel_rfl) (by kernel_rfl) (by kernel_rfl) rfl ?_ (by first | exact fun _ _ _ h => h | exact fun _ _ _ h => hQ2 _ _ _ _ _ h) ?_
    rotate_left
    · intro W hSW
      replace hSW : True := hSW
      simp only [glA, glB, glC]
      (try dsimp only at hSW)
      go_simp
      with_reducible rfl
    (try simp only [glA, glB, glC, Act.put, glD, glE, glF])
    refine wpAnyK_take 12 (v := ?_) (by first | exact hF | exact wideFn) (And.intro HS0.out trivial) rfl (by kernel_rfl) (by kernel_rfl) (by kernel_rfl) (by kernel_rfl) rfl ?_ (by first | exact fun _ _ _ h => h | exact fun _ _ _ h => hQ2 _ _ _ _ _ h) ?_
    rotate_left
    · intro W hSW
      replace hSW : ((W.cell? ⟨X, 0, none⟩ = some (.slice (some ⟨b, off, o⟩) n c) ∧ W.cell? ⟨X, 1, none⟩ = some (.int .i64 i) ∧ W.cell? ⟨X, 2, none⟩ = some v) ∧ True) := hSW
      simp only [glA, glB, glC]
      (try dsimp only at hSW)
      go_simp
      with_reducible rfl
    (try simp only [glA, glB, glC, Act.put, glD, glE, glF])
    refine wpAnyK_take 13 (v := ?_) (by first | exact hF | exact wideFn) trivial rfl (by kernel_rfl) (by kernel_rfl) (by kernel_rfl) (by kernel_rfl) rfl ?_ (by first | exact fun _ _ _ h => h | exact fun _ _ _ h => hQ2 _ _ _ _ _ h) ?_
    rotate_left
    · intro W hSW
      replace hSW : True := hSW
      simp only [glA, glB, glC]
      (try dsimp only at hSW)
      go_simp
      with_reducible rfl
    (try simp only [glA, glB, glC, Act.put, glD, glE, glF])
    refine wpAnyK_take 14 (v := ?_) (by first | exact hF | exact wideFn) trivial rfl (by kernel_rfl) (by kernel_rfl) (by kernel_rfl) (by kernel_rfl) rfl ?_ (by first | exact fun _ _ _ h => h | exact fun _ _ _ h => hQ2 _ _ _ _ _ h) ?_
    rotate_left
    · intro W hSW
      replace hSW : True := hSW
      simp only [glA, glB, glC]
      (try dsimp only at hSW)
      go_simp
      with_reducible rfl
    (try simp only [glA, glB, glC, Act.put, glD, glE, glF])
    rw [HAS.out]
    refine wpAnyK_one 15 rfl (by kernel_rfl) (fun K hK => ?_)
    rw [if_pos (by rfl)]
    refine wpIn_append_run (.tmp 8) (.tmp 18) 22 (by first | exact hF | exact wideFn) rfl rfl rfl HRUN.out ?_
    refine hK.out _ _ (.inr (pickS_all HS1.out trivial)) ?_
    clear hK K
    (try simp only [glA, glB, glC, Act.put, glD, glE, glF])
    refine wpAnyK_take 16 (v := ?_) (by first | exact hF | exact wideFn) trivial rfl (by kernel_rfl) (by kernel_rfl) (by kernel_rfl) (by kernel_rfl) rfl ?_ (by first | exact fun _ _ _ h => h | exact fun _ _ _ h => hQ2 _ _ _ _ _ h) ?_
    rotate_left
    · intro W hSW
      replace hSW : True := hSW
      simp only [glA, glB, glC]
      (try dsimp only at hSW)
      go_simp
      with_reducible rfl
    (try simp only [glA, glB, glC, Act.put, glD, glE, glF])
    refine wpAnyK_take 17 (v := ?_) (by first | exact hF | exact wideFn) trivial rfl (by kernel_rfl) (by kernel_rfl) (by kernel_rfl) (by kernel_rfl) rfl ?_ (by first | exact fun _ _ _ h => h | exact fun _ _ _ h => hQ2 _ _ _ _ _ h) ?_
    rotate_left
    · intro W hSW
      replace hSW : True := hSW
      simp only [glA, glB, glC]
      (try dsimp only at hSW)
      go_simp
      with_reducible rfl
    (try simp only [glA, glB, glC, Act.put, glD, glE, glF])
    have c1 := HS1.out.2.1
    have c2 := HS1.out.2.2
    refine wpAnyK_one 18 rfl (by kernel_rfl) (fun K hK => ?_)
    simp only [glA, glB, glC]
    go_simp
    refine hK.out _ _ (.inr (pickS_need (by kernel_rfl) trivial)) ?_
    clear hK K
    (try simp only [glA, glB, glC, Act.put, glD, glE, glF])
    refine wpAnyK_done (by kernel_rfl) ?_
    go_wp2_with fail
    go_end0
    obtain ⟨B2, ho, hg, hrow⟩ := HB2.out
    refine ⟨.slice A' ln c', rfl, ⟨((HXD.out.below.grown hg HXD.out.below.size (fun k hk => (World.ownsRow.lt HXD.out.own k hk).1)).setCell HXD.out.lo _).setCell HXD.out.lo _, HXD.out.lo, ?_, ?_⟩, ((HKD.out.grown hg).set 2 _).set 1 _, hrow.imp id (fun h k hk => ?_)⟩
    · have h := (B2.set_ 2 (.slice A' ln c')).set_ 1 (.int .i64 t)
      exact h
    · have h1 := World.ownsRow.kept ho (grownBy_setC w' X 2 (.slice A' ln c')) (.inr (own_blk_ne ho B2 (by decide)))
      exact World.ownsRow.kept h1 (grownBy_setC _ X 1 (.int .i64 t)) (.inr (own_blk_ne h1 (B2.set_ 2 _) (by decide)))
    · rw [h] at hk
      injection hk with hk
      omega
end Go.Proofs.YtmpegkojencbjaaDoor
/- School: the editor's edit, walked. -/
namespace Go.Proofs.YtmpegkojencbjaaDoor
open List renaming getElem_toArray → glA, getElem_cons_zero → glB, getElem_cons_succ → glC, setIfInBounds_toArray → glD, set_cons_zero → glE, set_cons_succ → glF
open Go Go.RowKit Go.Shelf
set_option maxHeartbeats 4000000
set_option maxRecDepth 100000
def edE (a : List Wd) (e : Ed) : Int := if (a.length : Int) < e.at_ ∨ (e.at_ = a.length ∧ e.ki ≠ 3) then 3 else if e.ki ≠ 3 ∧ a.getD e.at_.toNat noW ≠ e.old then 111 else 0
def edI (i : Nat) (e : Ed) : Nat := if e.ki = 3 then e.at_.toNat else e.at_.toNat + 1
def edL (a : List Wd) (i : Nat) (e : Ed) (l : List Wd) : List Wd := takeL a i e.at_.toNat l ++ if e.ki = 2 then [] else [e.new]
theorem edit_no (W : World) (X : Nat) (A : Option Addr) (c : Nat) (a : List Wd) (u v : Value) (ki : Int) (t : Nat) (old new : Wd) (hX : Blk W X 92 #[.slice A a.length c, u, v]) (hc : (a.length : Int) < t ∨ ((t : Int) = a.length ∧ ki ≠ 3)) :
    Calls Tryd.prog 56 #[.pointer (some ⟨X, 0, none⟩), .agg #[.int .i64 ki, .int .i64 (t : Nat), .string old, .string new]] W fun e w' => e = .returned (.int .i64 3) ∧ Below W.heap.size W w' := by
  have HB0 := hide ((Below.refl W.heap.size W).alloc (Nat.le_refl _) (.cells #[.int .i64 ki, .int .i64 (t : Nat), .string old, .string new] 86))
  have E1 := Blk.new W 86 #[.int .i64 ki, .int .i64 (t : Nat), .string old, .string new]
  have X1 := hX.alloc (.cells #[.int .i64 ki, .int .i64 (t : Nat), .string old, .string new] 86)
  obtain ⟨n, hn⟩ : ∃ n, a.length = n := ⟨_, rfl⟩
  rw [hn] at hc X1
  obtain ⟨g, hg⟩ : ∃ g, W.heap.size = g := ⟨_, rfl⟩
  rw [hg] at E1 HB0 ⊢
  obtain ⟨w1, hw1⟩ : ∃ w1, W.alloc (.cells #[.int .i64 ki, .int .i64 (t : Nat), .string old, .string new] 86) = w1 := ⟨_, rfl⟩
  rw [hw1] at E1 X1 HB0
  have HS1 : Hid (∀ V, Below w1.heap.size w1 V → V.cell? ⟨X, 0, none⟩ = some (.slice A n c) ∧ V.cell? ⟨g, 0, none⟩ = some (.int .i64 ki) ∧ V.cell? ⟨g, 1, none⟩ = some (.int .i64 (t : Nat)) ∧ V.cell? ⟨g, 2, none⟩ = some (.string old) ∧ V.cell? ⟨g, 3, none⟩ = some (.string new)) := hide (fun V h => ⟨(blk3 (X1.ext h)).2.1, (blk4 (E1.ext h)).2⟩)
  clear E1 X1 hX
  by_cases h1 : (n : Int) < (t : Int)
  · go_enter Tryd.func56, Tryd.ntmps56
    go_upto_region 1 with fail
    have HBD := hide ((Below.refl w1.heap.size w1).drew)
    refine wp_region_J (fun W : World => W.cell? ⟨X, 0, none⟩ = some (.slice A n c) ∧ W.cell? ⟨g, 0, none⟩ = some (.int .i64 ki) ∧ W.cell? ⟨g, 1, none⟩ = some (.int .i64 (t : Nat)) ∧ W.cell? ⟨g, 2, none⟩ = some (.string old) ∧ W.cell? ⟨g, 3, none⟩ = some (.string new)) (by kernel_rfl) ?_
    generalize w1.drew = wd at HBD ⊢
    have hs1 := HS1.out _ HBD.out
    refine wpAnyJ_take 0 (v := ?_) (by first | exact hF | exact wideFn) (hs1) rfl (by kernel_rfl) (by kernel_rfl) (by kernel_rfl) (by kernel_rfl) rfl ?_ (by first | exact fun _ _ _ h => h | exact fun _ _ _ h => hQ2 _ _ _ _ _ h) ?_
    rotate_left
    · intro W hSW
      simp only [glA, glB, glC]
      (try dsimp only at hSW)
      go_simp
      with_reducible rfl
    (try simp only [glA, glB, glC, Act.put, glD, glE, glF])
    refine wpAnyJ_take 1 (v := ?_) (by first | exact hF | exact wideFn) (hs1) rfl (by kernel_rfl) (by kernel_rfl) (by kernel_rfl) (by kernel_rfl) rfl ?_ (by first | exact fun _ _ _ h => h | exact fun _ _ _ h => hQ2 _ _ _ _ _ h) ?_
    rotate_left
    · intro W hSW
      simp only [glA, glB, glC]
      (try dsimp only at hSW)
      go_simp
      with_reducible rfl
    (try simp only [glA, glB, glC, Act.put, glD, glE, glF])
    refine wpAnyJ_take 2 (v := ?_) (by first | exact hF | exact wideFn) (hs1) rfl (by kernel_rfl) (by kernel_rfl) (by kernel_rfl) (by kernel_rfl) rfl ?_ (by first | exact fun _ _ _ h => h | exact fun _ _ _ h => hQ2 _ _ _ _ _ h) ?_
    rotate_left
    · intro W hSW
      simp only [glA, glB, glC]
      (try dsimp only at hSW)
      go_simp
      with_reducible rfl
    (try simp only [glA, glB, glC, Act.put, glD, glE, glF])
    refine wpAnyJ_take 3 (v := ?_) (by first | exact hF | exact wideFn) (hs1) rfl (by kernel_rfl) (by kernel_rfl) (by kernel_rfl) (by kernel_rfl) rfl ?_ (by first | exact fun _ _ _ h => h | exact fun _ _ _ h => hQ2 _ _ _ _ _ h) ?_
    rotate_left
    · intro W hSW
      simp only [glA, glB, glC]
      (try dsimp only at hSW)
      go_simp
      with_reducible rfl
    (try simp only [glA, glB, glC, Act.put, glD, glE, glF])
    refine wpAnyJ_take 4 (v := ?_) (by first | exact hF | exact wideFn) (hs1) rfl (by kernel_rfl) (by kernel_rfl) (by kernel_rfl) (by kernel_rfl) rfl ?_ (by first | exact fun _ _ _ h => h | exact fun _ _ _ h => hQ2 _ _ _ _ _ h) ?_
    rotate_left
    · intro W hSW
      simp only [glA, glB, glC]
      (try dsimp only at hSW)
      go_simp
      with_reducible rfl
    (try simp only [glA, glB, glC, Act.put, glD, glE, glF])
    refine wpAnyJ_take 5 (v := ?_) (by first | exact hF | exact wideFn) (hs1) rfl (by kernel_rfl) (by kernel_rfl) (by kernel_rfl) (by kernel_rfl) rfl ?_ (by first | exact fun _ _ _ h => h | exact fun _ _ _ h => hQ2 _ _ _ _ _ h) ?_
    rotate_left
    · intro W hSW
      simp only [glA, glB, glC]
      (try dsimp only at hSW)
      go_simp
      with_reducible rfl
    (try simp only [glA, glB, glC, Act.put, glD, glE, glF])
    refine wpAnyJ_take 6 (v := ?_) (by first | exact hF | exact wideFn) (hs1) rfl (by kernel_rfl) (by kernel_rfl) (by kernel_rfl) (by kernel_rfl) rfl ?_ (by first | exact fun _ _ _ h => h | exact fun _ _ _ h => hQ2 _ _ _ _ _ h) ?_
    rotate_left
    · intro W hSW
      simp only [glA, glB, glC]
      (try dsimp only at hSW)
      go_simp
      with_reducible rfl
    (try simp only [glA, glB, glC, Act.put, glD, glE, glF])
    refine wpAnyJ_take 7 (v := ?_) (by first | exact hF | exact wideFn) (hs1) rfl (by kernel_rfl) (by kernel_rfl) (by kernel_rfl) (by kernel_rfl) rfl ?_ (by first | exact fun _ _ _ h => h | exact fun _ _ _ h => hQ2 _ _ _ _ _ h) ?_
    rotate_left
    · intro W hSW
      simp only [glA, glB, glC]
      (try dsimp only at hSW)
      go_simp
      with_reducible rfl
    (try simp only [glA, glB, glC, Act.put, glD, glE, glF])
    refine wpAnyJ_take 8 (v := ?_) (by first | exact hF | exact wideFn) (hs1) rfl (by kernel_rfl) (by kernel_rfl) (by kernel_rfl) (by kernel_rfl) rfl ?_ (by first | exact fun _ _ _ h => h | exact fun _ _ _ h => hQ2 _ _ _ _ _ h) ?_
    rotate_left
    · intro W hSW
      simp only [glA, glB, glC]
      (try dsimp only at hSW)
      go_simp
      with_reducible rfl
    (try simp only [glA, glB, glC, Act.put, glD, glE, glF])
    refine wpAnyJ_skip 9 (by first | exact hF | exact wideFn) (hs1) rfl (by kernel_rfl) (by kernel_rfl) (by kernel_rfl) (by kernel_rfl) rfl (by first | exact fun _ _ _ h => h | exact fun _ _ _ h => hQ2 _ _ _ _ _ h) ?_
    (try simp only [glA, glB, glC, Act.put, glD, glE, glF])
    refine wpAnyJ_skip 10 (by first | exact hF | exact wideFn) (hs1) rfl (by kernel_rfl) (by kernel_rfl) (by kernel_rfl) (by kernel_rfl) rfl (by first | exact fun _ _ _ h => h | exact fun _ _ _ h => hQ2 _ _ _ _ _ h) ?_
    (try simp only [glA, glB, glC, Act.put, glD, glE, glF])
    refine wpAnyJ_skip 11 (by first | exact hF | exact wideFn) (hs1) rfl (by kernel_rfl) (by kernel_rfl) (by kernel_rfl) (by kernel_rfl) rfl (by first | exact fun _ _ _ h => h | exact fun _ _ _ h => hQ2 _ _ _ _ _ h) ?_
    (try simp only [glA, glB, glC, Act.put, glD, glE, glF])
    refine wpAnyJ_skip 12 (by first | exact hF | exact wideFn) (hs1) rfl (by kernel_rfl) (by kernel_rfl) (by kernel_rfl) (by kernel_rfl) rfl (by first | exact fun _ _ _ h => h | exact fun _ _ _ h => hQ2 _ _ _ _ _ h) ?_
    (try simp only [glA, glB, glC, Act.put, glD, glE, glF])
    refine wpAnyJ_skip 13 (by first | exact hF | exact wideFn) (hs1) rfl (by kernel_rfl) (by kernel_rfl) (by kernel_rfl) (by kernel_rfl) rfl (by first | exact fun _ _ _ h => h | exact fun _ _ _ h => hQ2 _ _ _ _ _ h) ?_
    (try simp only [glA, glB, glC, Act.put, glD, glE, glF])
    refine wpAnyJ_skip 14 (by first | exact hF | exact wideFn) (hs1) rfl (by kernel_rfl) (by kernel_rfl) (by kernel_rfl) (by kernel_rfl) rfl (by first | exact fun _ _ _ h => h | exact fun _ _ _ h => hQ2 _ _ _ _ _ h) ?_
    (try simp only [glA, glB, glC, Act.put, glD, glE, glF])
    refine wpAnyJ_skip 15 (by first | exact hF | exact wideFn) (hs1) rfl (by kernel_rfl) (by kernel_rfl) (by kernel_rfl) (by kernel_rfl) rfl (by first | exact fun _ _ _ h => h | exact fun _ _ _ h => hQ2 _ _ _ _ _ h) ?_
    (try simp only [glA, glB, glC, Act.put, glD, glE, glF])
    refine wpAnyJ_skip 16 (by first | exact hF | exact wideFn) (hs1) rfl (by kernel_rfl) (by kernel_rfl) (by kernel_rfl) (by kernel_rfl) rfl (by first | exact fun _ _ _ h => h | exact fun _ _ _ h => hQ2 _ _ _ _ _ h) ?_
    (try simp only [glA, glB, glC, Act.put, glD, glE, glF])
    refine wpAnyJ_skip 17 (by first | exact hF | exact wideFn) (hs1) rfl (by kernel_rfl) (by kernel_rfl) (by kernel_rfl) (by kernel_rfl) rfl (by first | exact fun _ _ _ h => h | exact fun _ _ _ h => hQ2 _ _ _ _ _ h) ?_
    (try simp only [glA, glB, glC, Act.put, glD, glE, glF])
    refine wpAnyJ_skip 18 (by first | exact hF | exact wideFn) (hs1) rfl (by kernel_rfl) (by kernel_rfl) (by kernel_rfl) (by kernel_rfl) rfl (by first | exact fun _ _ _ h => h | exact fun _ _ _ h => hQ2 _ _ _ _ _ h) ?_
    (try simp only [glA, glB, glC, Act.put, glD, glE, glF])
    refine wpAnyJ_skip 19 (by first | exact hF | exact wideFn) (hs1) rfl (by kernel_rfl) (by kernel_rfl) (by kernel_rfl) (by kernel_rfl) rfl (by first | exact fun _ _ _ h => h | exact fun _ _ _ h => hQ2 _ _ _ _ _ h) ?_
    (try simp only [glA, glB, glC, Act.put, glD, glE, glF])
    refine wpAnyJ_skip 20 (by first | exact hF | exact wideFn) (hs1) rfl (by kernel_rfl) (by kernel_rfl) (by kernel_rfl) (by kernel_rfl) rfl (by first | exact fun _ _ _ h => h | exact fun _ _ _ h => hQ2 _ _ _ _ _ h) ?_
    (try simp only [glA, glB, glC, Act.put, glD, glE, glF])
    refine wpAnyJ_skip 21 (by first | exact hF | exact wideFn) (hs1) rfl (by kernel_rfl) (by kernel_rfl) (by kernel_rfl) (by kernel_rfl) rfl (by first | exact fun _ _ _ h => h | exact fun _ _ _ h => hQ2 _ _ _ _ _ h) ?_
    (try simp only [glA, glB, glC, Act.put, glD, glE, glF])
    refine wpAnyJ_take 22 (v := ?_) (by first | exact hF | exact wideFn) (hs1) rfl (by kernel_rfl) (by kernel_rfl) (by kernel_rfl) (by kernel_rfl) rfl ?_ (by first | exact fun _ _ _ h => h | exact fun _ _ _ h => hQ2 _ _ _ _ _ h) ?_
    rotate_left
    · intro W hSW
      simp only [glA, glB, glC]
      (try dsimp only at hSW)
      go_simp
      with_reducible rfl
    (try simp only [glA, glB, glC, Act.put, glD, glE, glF])
    refine wpAnyJ_done (by kernel_rfl) ?_
    go_wp2_with fail
    go_ret
    exact ⟨rfl, HB0.out.trans (HBD.out.mono (by have := HB0.out.size; rw [hg] at this; exact this))⟩
  · have h2 : (t : Int) = n := by omega
    have h3 : ¬ ki = 3 := by omega
    have h2' : ((t : Int) == (n : Int)) = true := by rw [h2]; exact beq_self_eq_true _
    have h4 : t = n := by omega
    have h2'' : (t == n) = true := by rw [h4]; exact beq_self_eq_true _
    clear hc h4 h2
    go_enter Tryd.func56, Tryd.ntmps56
    go_upto_region 1 with fail
    have HBD := hide ((Below.refl w1.heap.size w1).drew)
    refine wp_region_J (fun W : World => W.cell? ⟨X, 0, none⟩ = some (.slice A n c) ∧ W.cell? ⟨g, 0, none⟩ = some (.int .i64 ki) ∧ W.cell? ⟨g, 1, none⟩ = some (.int .i64 (t : Nat)) ∧ W.cell? ⟨g, 2, none⟩ = some (.string old) ∧ W.cell? ⟨g, 3, none⟩ = some (.string new)) (by kernel_rfl) ?_
    generalize w1.drew = wd at HBD ⊢
    have hs1 := HS1.out _ HBD.out
    refine wpAnyJ_take 0 (v := ?_) (by first | exact hF | exact wideFn) (hs1) rfl (by kernel_rfl) (by kernel_rfl) (by kernel_rfl) (by kernel_rfl) rfl ?_ (by first | exact fun _ _ _ h => h | exact fun _ _ _ h => hQ2 _ _ _ _ _ h) ?_
    rotate_left
    · intro W hSW
      simp only [glA, glB, glC]
      (try dsimp only at hSW)
      go_simp
      with_reducible rfl
    (try simp only [glA, glB, glC, Act.put, glD, glE, glF])
    refine wpAnyJ_take 1 (v := ?_) (by first | exact hF | exact wideFn) (hs1) rfl (by kernel_rfl) (by kernel_rfl) (by kernel_rfl) (by kernel_rfl) rfl ?_ (by first | exact fun _ _ _ h => h | exact fun _ _ _ h => hQ2 _ _ _ _ _ h) ?_
    rotate_left
    · intro W hSW
      simp only [glA, glB, glC]
      (try dsimp only at hSW)
      go_simp
      with_reducible rfl
    (try simp only [glA, glB, glC, Act.put, glD, glE, glF])
    refine wpAnyJ_take 2 (v := ?_) (by first | exact hF | exact wideFn) (hs1) rfl (by kernel_rfl) (by kernel_rfl) (by kernel_rfl) (by kernel_rfl) rfl ?_ (by first | exact fun _ _ _ h => h | exact fun _ _ _ h => hQ2 _ _ _ _ _ h) ?_
    rotate_left
    · intro W hSW
      simp only [glA, glB, glC]
      (try dsimp only at hSW)
      go_simp
      with_reducible rfl
    (try simp only [glA, glB, glC, Act.put, glD, glE, glF])
    refine wpAnyJ_take 3 (v := ?_) (by first | exact hF | exact wideFn) (hs1) rfl (by kernel_rfl) (by kernel_rfl) (by kernel_rfl) (by kernel_rfl) rfl ?_ (by first | exact fun _ _ _ h => h | exact fun _ _ _ h => hQ2 _ _ _ _ _ h) ?_
    rotate_left
    · intro W hSW
      simp only [glA, glB, glC]
      (try dsimp only at hSW)
      go_simp
      with_reducible rfl
    (try simp only [glA, glB, glC, Act.put, glD, glE, glF])
    refine wpAnyJ_take 4 (v := ?_) (by first | exact hF | exact wideFn) (hs1) rfl (by kernel_rfl) (by kernel_rfl) (by kernel_rfl) (by kernel_rfl) rfl ?_ (by first | exact fun _ _ _ h => h | exact fun _ _ _ h => hQ2 _ _ _ _ _ h) ?_
    rotate_left
    · intro W hSW
      simp only [glA, glB, glC]
      (try dsimp only at hSW)
      go_simp
      with_reducible rfl
    (try simp only [glA, glB, glC, Act.put, glD, glE, glF])
    refine wpAnyJ_take 5 (v := ?_) (by first | exact hF | exact wideFn) (hs1) rfl (by kernel_rfl) (by kernel_rfl) (by kernel_rfl) (by kernel_rfl) rfl ?_ (by first | exact fun _ _ _ h => h | exact fun _ _ _ h => hQ2 _ _ _ _ _ h) ?_
    rotate_left
    · intro W hSW
      simp only [glA, glB, glC]
      (try dsimp only at hSW)
      go_simp
      with_reducible rfl
    (try simp only [glA, glB, glC, Act.put, glD, glE, glF])
    refine wpAnyJ_take 6 (v := ?_) (by first | exact hF | exact wideFn) (hs1) rfl (by kernel_rfl) (by kernel_rfl) (by kernel_rfl) (by kernel_rfl) rfl ?_ (by first | exact fun _ _ _ h => h | exact fun _ _ _ h => hQ2 _ _ _ _ _ h) ?_
    rotate_left
    · intro W hSW
      simp only [glA, glB, glC]
      (try dsimp only at hSW)
      go_simp
      with_reducible rfl
    (try simp only [glA, glB, glC, Act.put, glD, glE, glF])
    refine wpAnyJ_take 7 (v := ?_) (by first | exact hF | exact wideFn) (hs1) rfl (by kernel_rfl) (by kernel_rfl) (by kernel_rfl) (by kernel_rfl) rfl ?_ (by first | exact fun _ _ _ h => h | exact fun _ _ _ h => hQ2 _ _ _ _ _ h) ?_
    rotate_left
    · intro W hSW
      simp only [glA, glB, glC]
      (try dsimp only at hSW)
      go_simp
      with_reducible rfl
    (try simp only [glA, glB, glC, Act.put, glD, glE, glF])
    refine wpAnyJ_take 8 (v := ?_) (by first | exact hF | exact wideFn) (hs1) rfl (by kernel_rfl) (by kernel_rfl) (by kernel_rfl) (by kernel_rfl) rfl ?_ (by first | exact fun _ _ _ h => h | exact fun _ _ _ h => hQ2 _ _ _ _ _ h) ?_
    rotate_left
    · intro W hSW
      simp only [glA, glB, glC]
      (try dsimp only at hSW)
      go_simp
      with_reducible rfl
    (try simp only [glA, glB, glC, Act.put, glD, glE, glF])
    refine wpAnyJ_take 9 (v := ?_) (by first | exact hF | exact wideFn) (hs1) rfl (by kernel_rfl) (by kernel_rfl) (by kernel_rfl) (by kernel_rfl) rfl ?_ (by first | exact fun _ _ _ h => h | exact fun _ _ _ h => hQ2 _ _ _ _ _ h) ?_
    rotate_left
    · intro W hSW
      simp only [glA, glB, glC]
      (try dsimp only at hSW)
      go_simp
      with_reducible rfl
    (try simp only [glA, glB, glC, Act.put, glD, glE, glF])
    refine wpAnyJ_take 10 (v := ?_) (by first | exact hF | exact wideFn) (hs1) rfl (by kernel_rfl) (by kernel_rfl) (by kernel_rfl) (by kernel_rfl) rfl ?_ (by first | exact fun _ _ _ h => h | exact fun _ _ _ h => hQ2 _ _ _ _ _ h) ?_
    rotate_left
    · intro W hSW
      simp only [glA, glB, glC]
      (try dsimp only at hSW)
      go_simp
      with_reducible rfl
    (try simp only [glA, glB, glC, Act.put, glD, glE, glF])
    refine wpAnyJ_take 11 (v := ?_) (by first | exact hF | exact wideFn) (hs1) rfl (by kernel_rfl) (by kernel_rfl) (by kernel_rfl) (by kernel_rfl) rfl ?_ (by first | exact fun _ _ _ h => h | exact fun _ _ _ h => hQ2 _ _ _ _ _ h) ?_
    rotate_left
    · intro W hSW
      simp only [glA, glB, glC]
      (try dsimp only at hSW)
      go_simp
      with_reducible rfl
    (try simp only [glA, glB, glC, Act.put, glD, glE, glF])
    refine wpAnyJ_take 12 (v := ?_) (by first | exact hF | exact wideFn) (hs1) rfl (by kernel_rfl) (by kernel_rfl) (by kernel_rfl) (by kernel_rfl) rfl ?_ (by first | exact fun _ _ _ h => h | exact fun _ _ _ h => hQ2 _ _ _ _ _ h) ?_
    rotate_left
    · intro W hSW
      simp only [glA, glB, glC]
      (try dsimp only at hSW)
      go_simp
      with_reducible rfl
    (try simp only [glA, glB, glC, Act.put, glD, glE, glF])
    refine wpAnyJ_take 13 (v := ?_) (by first | exact hF | exact wideFn) (hs1) rfl (by kernel_rfl) (by kernel_rfl) (by kernel_rfl) (by kernel_rfl) rfl ?_ (by first | exact fun _ _ _ h => h | exact fun _ _ _ h => hQ2 _ _ _ _ _ h) ?_
    rotate_left
    · intro W hSW
      simp only [glA, glB, glC]
      (try dsimp only at hSW)
      go_simp
      with_reducible rfl
    (try simp only [glA, glB, glC, Act.put, glD, glE, glF])
    refine wpAnyJ_take 14 (v := ?_) (by first | exact hF | exact wideFn) (hs1) rfl (by kernel_rfl) (by kernel_rfl) (by kernel_rfl) (by kernel_rfl) rfl ?_ (by first | exact fun _ _ _ h => h | exact fun _ _ _ h => hQ2 _ _ _ _ _ h) ?_
    rotate_left
    · intro W hSW
      simp only [glA, glB, glC]
      (try dsimp only at hSW)
      go_simp
      with_reducible rfl
    (try simp only [glA, glB, glC, Act.put, glD, glE, glF])
    refine wpAnyJ_take 15 (v := ?_) (by first | exact hF | exact wideFn) (hs1) rfl (by kernel_rfl) (by kernel_rfl) (by kernel_rfl) (by kernel_rfl) rfl ?_ (by first | exact fun _ _ _ h => h | exact fun _ _ _ h => hQ2 _ _ _ _ _ h) ?_
    rotate_left
    · intro W hSW
      simp only [glA, glB, glC]
      (try dsimp only at hSW)
      go_simp
      with_reducible rfl
    (try simp only [glA, glB, glC, Act.put, glD, glE, glF])
    refine wpAnyJ_take 16 (v := ?_) (by first | exact hF | exact wideFn) (hs1) rfl (by kernel_rfl) (by kernel_rfl) (by kernel_rfl) (by kernel_rfl) rfl ?_ (by first | exact fun _ _ _ h => h | exact fun _ _ _ h => hQ2 _ _ _ _ _ h) ?_
    rotate_left
    · intro W hSW
      simp only [glA, glB, glC]
      (try dsimp only at hSW)
      go_simp
      with_reducible rfl
    (try simp only [glA, glB, glC, Act.put, glD, glE, glF])
    refine wpAnyJ_take 17 (v := ?_) (by first | exact hF | exact wideFn) (hs1) rfl (by kernel_rfl) (by kernel_rfl) (by kernel_rfl) (by kernel_rfl) rfl ?_ (by first | exact fun _ _ _ h => h | exact fun _ _ _ h => hQ2 _ _ _ _ _ h) ?_
    rotate_left
    · intro W hSW
      simp only [glA, glB, glC]
      (try dsimp only at hSW)
      go_simp
      with_reducible rfl
    (try simp only [glA, glB, glC, Act.put, glD, glE, glF])
    refine wpAnyJ_take 18 (v := ?_) (by first | exact hF | exact wideFn) (hs1) rfl (by kernel_rfl) (by kernel_rfl) (by kernel_rfl) (by kernel_rfl) rfl ?_ (by first | exact fun _ _ _ h => h | exact fun _ _ _ h => hQ2 _ _ _ _ _ h) ?_
    rotate_left
    · intro W hSW
      simp only [glA, glB, glC]
      (try dsimp only at hSW)
      go_simp
      with_reducible rfl
    (try simp only [glA, glB, glC, Act.put, glD, glE, glF])
    refine wpAnyJ_take 19 (v := ?_) (by first | exact hF | exact wideFn) (hs1) rfl (by kernel_rfl) (by kernel_rfl) (by kernel_rfl) (by kernel_rfl) rfl ?_ (by first | exact fun _ _ _ h => h | exact fun _ _ _ h => hQ2 _ _ _ _ _ h) ?_
    rotate_left
    · intro W hSW
      simp only [glA, glB, glC]
      (try dsimp only at hSW)
      go_simp
      with_reducible rfl
    (try simp only [glA, glB, glC, Act.put, glD, glE, glF])
    refine wpAnyJ_take 20 (v := ?_) (by first | exact hF | exact wideFn) (hs1) rfl (by kernel_rfl) (by kernel_rfl) (by kernel_rfl) (by kernel_rfl) rfl ?_ (by first | exact fun _ _ _ h => h | exact fun _ _ _ h => hQ2 _ _ _ _ _ h) ?_
    rotate_left
    · intro W hSW
      simp only [glA, glB, glC]
      (try dsimp only at hSW)
      go_simp
      with_reducible rfl
    (try simp only [glA, glB, glC, Act.put, glD, glE, glF])
    refine wpAnyJ_take 21 (v := ?_) (by first | exact hF | exact wideFn) (hs1) rfl (by kernel_rfl) (by kernel_rfl) (by kernel_rfl) (by kernel_rfl) rfl ?_ (by first | exact fun _ _ _ h => h | exact fun _ _ _ h => hQ2 _ _ _ _ _ h) ?_
    rotate_left
    · intro W hSW
      simp only [glA, glB, glC]
      (try dsimp only at hSW)
      go_simp
      with_reducible rfl
    (try simp only [glA, glB, glC, Act.put, glD, glE, glF])
    refine wpAnyJ_take 22 (v := ?_) (by first | exact hF | exact wideFn) (hs1) rfl (by kernel_rfl) (by kernel_rfl) (by kernel_rfl) (by kernel_rfl) rfl ?_ (by first | exact fun _ _ _ h => h | exact fun _ _ _ h => hQ2 _ _ _ _ _ h) ?_
    rotate_left
    · intro W hSW
      simp only [glA, glB, glC]
      (try dsimp only at hSW)
      go_simp
      with_reducible rfl
    (try simp only [glA, glB, glC, Act.put, glD, glE, glF])
    refine wpAnyJ_done (by kernel_rfl) ?_
    go_wp2_with fail
    go_ret
    exact ⟨rfl, HB0.out.trans (HBD.out.mono (by have := HB0.out.size; rw [hg] at this; exact this))⟩
theorem edit_old (w W : World) (X : Nat) (A : Option Addr) (c : Nat) (a : List Wd) (u v : Value) (ki : Int) (t : Nat) (old new : Wd) (hX : Blk W X 92 #[.slice A a.length c, u, v]) (hB : Below w.heap.size w W) (hA : SR w w.heap.size A a) (hc : a.length ≤ maxLen) (ht : t < a.length) (h3 : ki ≠ 3) (ho : a.getD t noW ≠ old) :
    Calls Tryd.prog 56 #[.pointer (some ⟨X, 0, none⟩), .agg #[.int .i64 ki, .int .i64 (t : Nat), .string old, .string new]] W fun e w' => e = .returned (.int .i64 111) ∧ Below W.heap.size W w' := by
  have HB0 := hide ((Below.refl W.heap.size W).alloc (Nat.le_refl _) (.cells #[.int .i64 ki, .int .i64 (t : Nat), .string old, .string new] 86))
  have E1 := Blk.new W 86 #[.int .i64 ki, .int .i64 (t : Nat), .string old, .string new]
  have X1 := hX.alloc (.cells #[.int .i64 ki, .int .i64 (t : Nat), .string old, .string new] 86)
  obtain ⟨n, hn⟩ : ∃ n, a.length = n := ⟨_, rfl⟩
  obtain ⟨b, off, rfl, hb, hx⟩ := VR1.at_ hA ht
  obtain ⟨x, hxx⟩ : ∃ x, a.getD t noW = x := ⟨_, rfl⟩
  rw [hxx] at hx ho
  rw [hn] at ht X1 hc
  unfold maxLen at hc
  obtain ⟨g, hg⟩ : ∃ g, W.heap.size = g := ⟨_, rfl⟩
  have hx1 := (hB.cell (p := ⟨b, off + t, none⟩) hb).trans hx
  have hb1 : b < W.heap.size := by have := hB.size; omega
  have hx2 := (HB0.out.cell (p := ⟨b, off + t, none⟩) hb1).trans hx1
  have hb2 : b < (W.alloc (.cells #[.int .i64 ki, .int .i64 (t : Nat), .string old, .string new] 86)).heap.size := by have := HB0.out.size; omega
  rw [hg] at E1 HB0 ⊢
  obtain ⟨w1, hw1⟩ : ∃ w1, W.alloc (.cells #[.int .i64 ki, .int .i64 (t : Nat), .string old, .string new] 86) = w1 := ⟨_, rfl⟩
  rw [hw1] at E1 X1 HB0 hx2 hb2
  have HS1 : Hid (∀ V, Below w1.heap.size w1 V → V.cell? ⟨X, 0, none⟩ = some (.slice (some ⟨b, off, none⟩) n c) ∧ V.cell? ⟨g, 0, none⟩ = some (.int .i64 ki) ∧ V.cell? ⟨g, 1, none⟩ = some (.int .i64 (t : Nat)) ∧ V.cell? ⟨g, 2, none⟩ = some (.string old) ∧ V.cell? ⟨g, 3, none⟩ = some (.string new) ∧ V.cell? ⟨b, off + t, none⟩ = some (.string x)) := hide (fun V h => by
    obtain ⟨e1, e2, e3, e4⟩ := (blk4 (E1.ext h)).2
    exact ⟨(blk3 (X1.ext h)).2.1, e1, e2, e3, e4, (h.cell (p := ⟨b, off + t, none⟩) hb2).trans hx2⟩)
  clear E1 X1 hX hx hx1 hx2 hA hB hb hb1 hb2
  have k1 : ¬ (n : Int) < (t : Int) := by omega
  have k2 : ((t : Int) == (n : Int)) = false := by rw [beq_eq_false_iff_ne]; omega
  have k3 : (t == n) = false := by rw [beq_eq_false_iff_ne]; omega
  have k4 : (0 : Int) ≤ (t : Int) := by omega
  have k5 : (t : Int) < (n : Int) := by omega
  have k6 : ¬ t = n := by omega
  have q := str_ne ho
  have h3' : (ki == 3) = false := by rw [beq_eq_false_iff_ne]; exact h3
  have h3'' : (ki != 3) = true := by simp [h3]
  go_enter Tryd.func56, Tryd.ntmps56
  go_upto_region 1 with fail
  have HBD := hide ((Below.refl w1.heap.size w1).drew)
  refine wp_region_J (fun W : World => W.cell? ⟨X, 0, none⟩ = some (.slice (some ⟨b, off, none⟩) n c) ∧ W.cell? ⟨g, 0, none⟩ = some (.int .i64 ki) ∧ W.cell? ⟨g, 1, none⟩ = some (.int .i64 (t : Nat)) ∧ W.cell? ⟨g, 2, none⟩ = some (.string old) ∧ W.cell? ⟨g, 3, none⟩ = some (.string new) ∧ W.cell? ⟨b, off + t, none⟩ = some (.string x)) (by kernel_rfl) ?_
  generalize w1.drew = wd at HBD ⊢
  have hs1 := HS1.out _ HBD.out
  refine wpAnyJ_take 0 (v := ?_) (by first | exact hF | exact wideFn) (hs1) rfl (by kernel_rfl) (by kernel_rfl) (by kernel_rfl) (by kernel_rfl) rfl ?_ (by first | exact fun _ _ _ h => h | exact fun _ _ _ h => hQ2 _ _ _ _ _ h) ?_
  rotate_left
  · intro W hSW
    simp only [glA, glB, glC]
    (try dsimp only at hSW)
    go_simp
    with_reducible rfl
  (try simp only [glA, glB, glC, Act.put, glD, glE, glF])
  refine wpAnyJ_take 1 (v := ?_) (by first | exact hF | exact wideFn) (hs1) rfl (by kernel_rfl) (by kernel_rfl) (by kernel_rfl) (by kernel_rfl) rfl ?_ (by first | exact fun _ _ _ h => h | exact fun _ _ _ h => hQ2 _ _ _ _ _ h) ?_
  rotate_left
  · intro W hSW
    simp only [glA, glB, glC]
    (try dsimp only at hSW)
    go_simp
    with_reducible rfl
  (try simp only [glA, glB, glC, Act.put, glD, glE, glF])
  refine wpAnyJ_take 2 (v := ?_) (by first | exact hF | exact wideFn) (hs1) rfl (by kernel_rfl) (by kernel_rfl) (by kernel_rfl) (by kernel_rfl) rfl ?_ (by first | exact fun _ _ _ h => h | exact fun _ _ _ h => hQ2 _ _ _ _ _ h) ?_
  rotate_left
  · intro W hSW
    simp only [glA, glB, glC]
    (try dsimp only at hSW)
    go_simp
    with_reducible rfl
  (try simp only [glA, glB, glC, Act.put, glD, glE, glF])
  refine wpAnyJ_take 3 (v := ?_) (by first | exact hF | exact wideFn) (hs1) rfl (by kernel_rfl) (by kernel_rfl) (by kernel_rfl) (by kernel_rfl) rfl ?_ (by first | exact fun _ _ _ h => h | exact fun _ _ _ h => hQ2 _ _ _ _ _ h) ?_
  rotate_left
  · intro W hSW
    simp only [glA, glB, glC]
    (try dsimp only at hSW)
    go_simp
    with_reducible rfl
  (try simp only [glA, glB, glC, Act.put, glD, glE, glF])
  refine wpAnyJ_take 4 (v := ?_) (by first | exact hF | exact wideFn) (hs1) rfl (by kernel_rfl) (by kernel_rfl) (by kernel_rfl) (by kernel_rfl) rfl ?_ (by first | exact fun _ _ _ h => h | exact fun _ _ _ h => hQ2 _ _ _ _ _ h) ?_
  rotate_left
  · intro W hSW
    simp only [glA, glB, glC]
    (try dsimp only at hSW)
    go_simp
    with_reducible rfl
  (try simp only [glA, glB, glC, Act.put, glD, glE, glF])
  refine wpAnyJ_take 5 (v := ?_) (by first | exact hF | exact wideFn) (hs1) rfl (by kernel_rfl) (by kernel_rfl) (by kernel_rfl) (by kernel_rfl) rfl ?_ (by first | exact fun _ _ _ h => h | exact fun _ _ _ h => hQ2 _ _ _ _ _ h) ?_
  rotate_left
  · intro W hSW
    simp only [glA, glB, glC]
    (try dsimp only at hSW)
    go_simp
    with_reducible rfl
  (try simp only [glA, glB, glC, Act.put, glD, glE, glF])
  refine wpAnyJ_take 6 (v := ?_) (by first | exact hF | exact wideFn) (hs1) rfl (by kernel_rfl) (by kernel_rfl) (by kernel_rfl) (by kernel_rfl) rfl ?_ (by first | exact fun _ _ _ h => h | exact fun _ _ _ h => hQ2 _ _ _ _ _ h) ?_
  rotate_left
  · intro W hSW
    simp only [glA, glB, glC]
    (try dsimp only at hSW)
    go_simp
    with_reducible rfl
  (try simp only [glA, glB, glC, Act.put, glD, glE, glF])
  refine wpAnyJ_take 7 (v := ?_) (by first | exact hF | exact wideFn) (hs1) rfl (by kernel_rfl) (by kernel_rfl) (by kernel_rfl) (by kernel_rfl) rfl ?_ (by first | exact fun _ _ _ h => h | exact fun _ _ _ h => hQ2 _ _ _ _ _ h) ?_
  rotate_left
  · intro W hSW
    simp only [glA, glB, glC]
    (try dsimp only at hSW)
    go_simp
    with_reducible rfl
  (try simp only [glA, glB, glC, Act.put, glD, glE, glF])
  refine wpAnyJ_take 8 (v := ?_) (by first | exact hF | exact wideFn) (hs1) rfl (by kernel_rfl) (by kernel_rfl) (by kernel_rfl) (by kernel_rfl) rfl ?_ (by first | exact fun _ _ _ h => h | exact fun _ _ _ h => hQ2 _ _ _ _ _ h) ?_
  rotate_left
  · intro W hSW
    simp only [glA, glB, glC]
    (try dsimp only at hSW)
    go_simp
    with_reducible rfl
  (try simp only [glA, glB, glC, Act.put, glD, glE, glF])
  refine wpAnyJ_take 9 (v := ?_) (by first | exact hF | exact wideFn) (hs1) rfl (by kernel_rfl) (by kernel_rfl) (by kernel_rfl) (by kernel_rfl) rfl ?_ (by first | exact fun _ _ _ h => h | exact fun _ _ _ h => hQ2 _ _ _ _ _ h) ?_
  rotate_left
  · intro W hSW
    simp only [glA, glB, glC]
    (try dsimp only at hSW)
    go_simp
    with_reducible rfl
  (try simp only [glA, glB, glC, Act.put, glD, glE, glF])
  refine wpAnyJ_take 10 (v := ?_) (by first | exact hF | exact wideFn) (hs1) rfl (by kernel_rfl) (by kernel_rfl) (by kernel_rfl) (by kernel_rfl) rfl ?_ (by first | exact fun _ _ _ h => h | exact fun _ _ _ h => hQ2 _ _ _ _ _ h) ?_
  rotate_left
  · intro W hSW
    simp only [glA, glB, glC]
    (try dsimp only at hSW)
    go_simp
    with_reducible rfl
  (try simp only [glA, glB, glC, Act.put, glD, glE, glF])
  refine wpAnyJ_take 11 (v := ?_) (by first | exact hF | exact wideFn) (hs1) rfl (by kernel_rfl) (by kernel_rfl) (by kernel_rfl) (by kernel_rfl) rfl ?_ (by first | exact fun _ _ _ h => h | exact fun _ _ _ h => hQ2 _ _ _ _ _ h) ?_
  rotate_left
  · intro W hSW
    simp only [glA, glB, glC]
    (try dsimp only at hSW)
    go_simp
    with_reducible rfl
  (try simp only [glA, glB, glC, Act.put, glD, glE, glF])
  refine wpAnyJ_take 12 (v := ?_) (by first | exact hF | exact wideFn) (hs1) rfl (by kernel_rfl) (by kernel_rfl) (by kernel_rfl) (by kernel_rfl) rfl ?_ (by first | exact fun _ _ _ h => h | exact fun _ _ _ h => hQ2 _ _ _ _ _ h) ?_
  rotate_left
  · intro W hSW
    simp only [glA, glB, glC]
    (try dsimp only at hSW)
    go_simp
    with_reducible rfl
  (try simp only [glA, glB, glC, Act.put, glD, glE, glF])
  refine wpAnyJ_take 13 (v := ?_) (by first | exact hF | exact wideFn) (hs1) rfl (by kernel_rfl) (by kernel_rfl) (by kernel_rfl) (by kernel_rfl) rfl ?_ (by first | exact fun _ _ _ h => h | exact fun _ _ _ h => hQ2 _ _ _ _ _ h) ?_
  rotate_left
  · intro W hSW
    simp only [glA, glB, glC]
    (try dsimp only at hSW)
    go_simp
    with_reducible rfl
  (try simp only [glA, glB, glC, Act.put, glD, glE, glF])
  refine wpAnyJ_take 14 (v := ?_) (by first | exact hF | exact wideFn) (hs1) rfl (by kernel_rfl) (by kernel_rfl) (by kernel_rfl) (by kernel_rfl) rfl ?_ (by first | exact fun _ _ _ h => h | exact fun _ _ _ h => hQ2 _ _ _ _ _ h) ?_
  rotate_left
  · intro W hSW
    simp only [glA, glB, glC]
    (try dsimp only at hSW)
    go_simp
    with_reducible rfl
  (try simp only [glA, glB, glC, Act.put, glD, glE, glF])
  refine wpAnyJ_take 15 (v := ?_) (by first | exact hF | exact wideFn) (hs1) rfl (by kernel_rfl) (by kernel_rfl) (by kernel_rfl) (by kernel_rfl) rfl ?_ (by first | exact fun _ _ _ h => h | exact fun _ _ _ h => hQ2 _ _ _ _ _ h) ?_
  rotate_left
  · intro W hSW
    simp only [glA, glB, glC]
    (try dsimp only at hSW)
    go_simp
    with_reducible rfl
  (try simp only [glA, glB, glC, Act.put, glD, glE, glF])
  refine wpAnyJ_take 16 (v := ?_) (by first | exact hF | exact wideFn) (hs1) rfl (by kernel_rfl) (by kernel_rfl) (by kernel_rfl) (by kernel_rfl) rfl ?_ (by first | exact fun _ _ _ h => h | exact fun _ _ _ h => hQ2 _ _ _ _ _ h) ?_
  rotate_left
  · intro W hSW
    simp only [glA, glB, glC]
    (try dsimp only at hSW)
    go_simp
    with_reducible rfl
  (try simp only [glA, glB, glC, Act.put, glD, glE, glF])
  refine wpAnyJ_take 17 (v := ?_) (by first | exact hF | exact wideFn) (hs1) rfl (by kernel_rfl) (by kernel_rfl) (by kernel_rfl) (by kernel_rfl) rfl ?_ (by first | exact fun _ _ _ h => h | exact fun _ _ _ h => hQ2 _ _ _ _ _ h) ?_
  rotate_left
  · intro W hSW
    simp only [glA, glB, glC]
    (try dsimp only at hSW)
    go_simp
    with_reducible rfl
  (try simp only [glA, glB, glC, Act.put, glD, glE, glF])
  refine wpAnyJ_skip 18 (by first | exact hF | exact wideFn) (hs1) rfl (by kernel_rfl) (by kernel_rfl) (by kernel_rfl) (by kernel_rfl) rfl (by first | exact fun _ _ _ h => h | exact fun _ _ _ h => hQ2 _ _ _ _ _ h) ?_
  (try simp only [glA, glB, glC, Act.put, glD, glE, glF])
  refine wpAnyJ_skip 19 (by first | exact hF | exact wideFn) (hs1) rfl (by kernel_rfl) (by kernel_rfl) (by kernel_rfl) (by kernel_rfl) rfl (by first | exact fun _ _ _ h => h | exact fun _ _ _ h => hQ2 _ _ _ _ _ h) ?_
  (try simp only [glA, glB, glC, Act.put, glD, glE, glF])
  refine wpAnyJ_skip 20 (by first | exact hF | exact wideFn) (hs1) rfl (by kernel_rfl) (by kernel_rfl) (by kernel_rfl) (by kernel_rfl) rfl (by first | exact fun _ _ _ h => h | exact fun _ _ _ h => hQ2 _ _ _ _ _ h) ?_
  (try simp only [glA, glB, glC, Act.put, glD, glE, glF])
  refine wpAnyJ_take 21 (v := ?_) (by first | exact hF | exact wideFn) (hs1) rfl (by kernel_rfl) (by kernel_rfl) (by kernel_rfl) (by kernel_rfl) rfl ?_ (by first | exact fun _ _ _ h => h | exact fun _ _ _ h => hQ2 _ _ _ _ _ h) ?_
  rotate_left
  · intro W hSW
    simp only [glA, glB, glC]
    (try dsimp only at hSW)
    go_simp
    with_reducible rfl
  (try simp only [glA, glB, glC, Act.put, glD, glE, glF])
  refine wpAnyJ_take 22 (v := ?_) (by first | exact hF | exact wideFn) (hs1) rfl (by kernel_rfl) (by kernel_rfl) (by kernel_rfl) (by kernel_rfl) rfl ?_ (by first | exact fun _ _ _ h => h | exact fun _ _ _ h => hQ2 _ _ _ _ _ h) ?_
  rotate_left
  · intro W hSW
    simp only [glA, glB, glC]
    (try dsimp only at hSW)
    go_simp
    with_reducible rfl
  (try simp only [glA, glB, glC, Act.put, glD, glE, glF])
  refine wpAnyJ_done (by kernel_rfl) ?_
  go_upto_region 3 with fail
  have HBE := hide (HBD.out.trans ((Below.refl wd.heap.size wd).drew.mono HBD.out.size))
  refine wp_region_J (fun W : World => W.cell? ⟨X, 0, none⟩ = some (.slice (some ⟨b, off, none⟩) n c) ∧ W.cell? ⟨g, 0, none⟩ = some (.int .i64 ki) ∧ W.cell? ⟨g, 1, none⟩ = some (.int .i64 (t : Nat)) ∧ W.cell? ⟨g, 2, none⟩ = some (.string old) ∧ W.cell? ⟨g, 3, none⟩ = some (.string new) ∧ W.cell? ⟨b, off + t, none⟩ = some (.string x)) (by kernel_rfl) ?_
  generalize wd.drew = we at HBE ⊢
  have hs3 := HS1.out _ HBE.out
  refine wpAnyJ_take 0 (v := ?_) (by first | exact hF | exact wideFn) (hs3) rfl (by kernel_rfl) (by kernel_rfl) (by kernel_rfl) (by kernel_rfl) rfl ?_ (by first | exact fun _ _ _ h => h | exact fun _ _ _ h => hQ2 _ _ _ _ _ h) ?_
  rotate_left
  · intro W hSW
    simp only [glA, glB, glC]
    (try dsimp only at hSW)
    go_simp
    with_reducible rfl
  (try simp only [glA, glB, glC, Act.put, glD, glE, glF])
  refine wpAnyJ_take 1 (v := ?_) (by first | exact hF | exact wideFn) (hs3) rfl (by kernel_rfl) (by kernel_rfl) (by kernel_rfl) (by kernel_rfl) rfl ?_ (by first | exact fun _ _ _ h => h | exact fun _ _ _ h => hQ2 _ _ _ _ _ h) ?_
  rotate_left
  · intro W hSW
    simp only [glA, glB, glC]
    (try dsimp only at hSW)
    go_simp
    with_reducible rfl
  (try simp only [glA, glB, glC, Act.put, glD, glE, glF])
  refine wpAnyJ_take 2 (v := ?_) (by first | exact hF | exact wideFn) (hs3) rfl (by kernel_rfl) (by kernel_rfl) (by kernel_rfl) (by kernel_rfl) rfl ?_ (by first | exact fun _ _ _ h => h | exact fun _ _ _ h => hQ2 _ _ _ _ _ h) ?_
  rotate_left
  · intro W hSW
    simp only [glA, glB, glC]
    (try dsimp only at hSW)
    go_simp
    with_reducible rfl
  (try simp only [glA, glB, glC, Act.put, glD, glE, glF])
  refine wpAnyJ_take 3 (v := ?_) (by first | exact hF | exact wideFn) (hs3) rfl (by kernel_rfl) (by kernel_rfl) (by kernel_rfl) (by kernel_rfl) rfl ?_ (by first | exact fun _ _ _ h => h | exact fun _ _ _ h => hQ2 _ _ _ _ _ h) ?_
  rotate_left
  · intro W hSW
    simp only [glA, glB, glC]
    (try dsimp only at hSW)
    go_simp
    with_reducible rfl
  (try simp only [glA, glB, glC, Act.put, glD, glE, glF])
  refine wpAnyJ_take 4 (v := ?_) (by first | exact hF | exact wideFn) (hs3) rfl (by kernel_rfl) (by kernel_rfl) (by kernel_rfl) (by kernel_rfl) rfl ?_ (by first | exact fun _ _ _ h => h | exact fun _ _ _ h => hQ2 _ _ _ _ _ h) ?_
  rotate_left
  · intro W hSW
    simp only [glA, glB, glC]
    (try dsimp only at hSW)
    go_simp
    with_reducible rfl
  (try simp only [glA, glB, glC, Act.put, glD, glE, glF])
  refine wpAnyJ_take 5 (v := ?_) (by first | exact hF | exact wideFn) (hs3) rfl (by kernel_rfl) (by kernel_rfl) (by kernel_rfl) (by kernel_rfl) rfl ?_ (by first | exact fun _ _ _ h => h | exact fun _ _ _ h => hQ2 _ _ _ _ _ h) ?_
  rotate_left
  · intro W hSW
    simp only [glA, glB, glC]
    (try dsimp only at hSW)
    go_simp
    with_reducible rfl
  (try simp only [glA, glB, glC, Act.put, glD, glE, glF])
  refine wpAnyJ_take 6 (v := ?_) (by first | exact hF | exact wideFn) (hs3) rfl (by kernel_rfl) (by kernel_rfl) (by kernel_rfl) (by kernel_rfl) rfl ?_ (by first | exact fun _ _ _ h => h | exact fun _ _ _ h => hQ2 _ _ _ _ _ h) ?_
  rotate_left
  · intro W hSW
    simp only [glA, glB, glC]
    (try dsimp only at hSW)
    go_simp
    with_reducible rfl
  (try simp only [glA, glB, glC, Act.put, glD, glE, glF])
  refine wpAnyJ_take 7 (v := ?_) (by first | exact hF | exact wideFn) (hs3) rfl (by kernel_rfl) (by kernel_rfl) (by kernel_rfl) (by kernel_rfl) rfl ?_ (by first | exact fun _ _ _ h => h | exact fun _ _ _ h => hQ2 _ _ _ _ _ h) ?_
  rotate_left
  · intro W hSW
    simp only [glA, glB, glC]
    (try dsimp only at hSW)
    go_simp
    with_reducible rfl
  (try simp only [glA, glB, glC, Act.put, glD, glE, glF])
  refine wpAnyJ_take 8 (v := ?_) (by first | exact hF | exact wideFn) (hs3) rfl (by kernel_rfl) (by kernel_rfl) (by kernel_rfl) (by kernel_rfl) rfl ?_ (by first | exact fun _ _ _ h => h | exact fun _ _ _ h => hQ2 _ _ _ _ _ h) ?_
  rotate_left
  · intro W hSW
    simp only [glA, glB, glC]
    (try dsimp only at hSW)
    go_simp
    with_reducible rfl
  (try simp only [glA, glB, glC, Act.put, glD, glE, glF])
  refine wpAnyJ_take 9 (v := ?_) (by first | exact hF | exact wideFn) (hs3) rfl (by kernel_rfl) (by kernel_rfl) (by kernel_rfl) (by kernel_rfl) rfl ?_ (by first | exact fun _ _ _ h => h | exact fun _ _ _ h => hQ2 _ _ _ _ _ h) ?_
  rotate_left
  · intro W hSW
    simp only [glA, glB, glC]
    (try dsimp only at hSW)
    go_simp
    with_reducible rfl
  (try simp only [glA, glB, glC, Act.put, glD, glE, glF])
  refine wpAnyJ_take 10 (v := ?_) (by first | exact hF | exact wideFn) (hs3) rfl (by kernel_rfl) (by kernel_rfl) (by kernel_rfl) (by kernel_rfl) rfl ?_ (by first | exact fun _ _ _ h => h | exact fun _ _ _ h => hQ2 _ _ _ _ _ h) ?_
  rotate_left
  · intro W hSW
    simp only [glA, glB, glC]
    (try dsimp only at hSW)
    go_simp
    with_reducible rfl
  (try simp only [glA, glB, glC, Act.put, glD, glE, glF])
  refine wpAnyJ_take 11 (v := ?_) (by first | exact hF | exact wideFn) (hs3) rfl (by kernel_rfl) (by kernel_rfl) (by kernel_rfl) (by kernel_rfl) rfl ?_ (by first | exact fun _ _ _ h => h | exact fun _ _ _ h => hQ2 _ _ _ _ _ h) ?_
  rotate_left
  · intro W hSW
    simp only [glA, glB, glC]
    (try dsimp only at hSW)
    go_simp
    with_reducible rfl
  (try simp only [glA, glB, glC, Act.put, glD, glE, glF])
  refine wpAnyJ_take 12 (v := ?_) (by first | exact hF | exact wideFn) (hs3) rfl (by kernel_rfl) (by kernel_rfl) (by kernel_rfl) (by kernel_rfl) rfl ?_ (by first | exact fun _ _ _ h => h | exact fun _ _ _ h => hQ2 _ _ _ _ _ h) ?_
  rotate_left
  · intro W hSW
    simp only [glA, glB, glC]
    (try dsimp only at hSW)
    go_simp
    with_reducible rfl
  (try simp only [glA, glB, glC, Act.put, glD, glE, glF])
  refine wpAnyJ_take 13 (v := ?_) (by first | exact hF | exact wideFn) (hs3) rfl (by kernel_rfl) (by kernel_rfl) (by kernel_rfl) (by kernel_rfl) rfl ?_ (by first | exact fun _ _ _ h => h | exact fun _ _ _ h => hQ2 _ _ _ _ _ h) ?_
  rotate_left
  · intro W hSW
    simp only [glA, glB, glC]
    (try dsimp only at hSW)
    go_simp
    with_reducible rfl
  (try simp only [glA, glB, glC, Act.put, glD, glE, glF])
  refine wpAnyJ_take 14 (v := ?_) (by first | exact hF | exact wideFn) (hs3) rfl (by kernel_rfl) (by kernel_rfl) (by kernel_rfl) (by kernel_rfl) rfl ?_ (by first | exact fun _ _ _ h => h | exact fun _ _ _ h => hQ2 _ _ _ _ _ h) ?_
  rotate_left
  · intro W hSW
    simp only [glA, glB, glC]
    (try dsimp only at hSW)
    go_simp
    with_reducible rfl
  (try simp only [glA, glB, glC, Act.put, glD, glE, glF])
  refine wpAnyJ_take 15 (v := ?_) (by first | exact hF | exact wideFn) (hs3) rfl (by kernel_rfl) (by kernel_rfl) (by kernel_rfl) (by kernel_rfl) rfl ?_ (by first | exact fun _ _ _ h => h | exact fun _ _ _ h => hQ2 _ _ _ _ _ h) ?_
  rotate_left
  · intro W hSW
    simp only [glA, glB, glC]
    (try dsimp only at hSW)
    go_simp
    with_reducible rfl
  (try simp only [glA, glB, glC, Act.put, glD, glE, glF])
  refine wpAnyJ_done (by kernel_rfl) ?_
  go_wp2_with fail
  go_ret
  exact ⟨rfl, HB0.out.trans (HBE.out.mono (by have := HB0.out.size; rw [hg] at this; exact this))⟩
end Go.Proofs.YtmpegkojencbjaaDoor
