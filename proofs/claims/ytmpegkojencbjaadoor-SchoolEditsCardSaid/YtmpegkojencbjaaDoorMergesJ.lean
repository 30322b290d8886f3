/- School: isForm, whether a list of edits has the right form. -/
import Derived.Test.YtmpegkojencbjaaDoorMergesI
import Derived.Deep.CutBlock
import Derived.Deep.DeepCutAuto
import Derived.IntWalk
import Derived.Deep.QuietTactic
import Derived.BigQuiet
set_option linter.unusedSimpArgs false
set_option linter.unusedVariables false
set_option linter.unnecessarySimpa false
namespace Go.Proofs.YtmpegkojencbjaaDoor
open Go Go.RowKit Go.Shelf
set_option maxHeartbeats 4000000
set_option maxRecDepth 100000
/-- an edit by itself -/
def fmK (e : Ed) : Bool := if e.ki = 1 then wordB e.old && (wordB e.new && decide (e.old ≠ e.new)) else if e.ki = 2 then wordB e.old && decide (e.new = noW) else if e.ki = 3 then wordB e.new && decide (e.old = noW) else false
def fmE (e : Ed) : Bool := (decide (0 ≤ e.at_) && decide (e.at_ ≤ 20)) && fmK e
/-- an edit behind the one ahead of it -/
def fmO (l : List Ed) : Nat → Bool
  | 0 => true
  | k + 1 => decide ((l.getD k e0).at_ < (l.getD (k + 1) e0).at_ ∨ ((l.getD (k + 1) e0).at_ = (l.getD k e0).at_ ∧ (l.getD k e0).ki = 3))
def fmF (l : List Ed) : Nat → Bool
  | 0 => true
  | k + 1 => fmF l k && (fmE (l.getD k e0) && fmO l k)
def formB (l : List Ed) : Bool := decide (l.length ≤ 40) && fmF l l.length
theorem fmO_succ (l : List Ed) (k : Nat) : fmO l (k + 1) = decide ((l.getD k e0).at_ < (l.getD (k + 1) e0).at_ ∨ ((l.getD (k + 1) e0).at_ = (l.getD k e0).at_ ∧ (l.getD k e0).ki = 3)) := rfl
theorem fmF_no {l : List Ed} {k : Nat} (h : (fmE (l.getD k e0) && fmO l k) = false) : ∀ n, k < n → fmF l n = false
  | 0, h => absurd h (by omega)
  | n + 1, hn => by
    show (fmF l n && (fmE (l.getD n e0) && fmO l n)) = false
    by_cases e : k = n
    · subst e; rw [h, Bool.and_false]
    · rw [fmF_no h n (by omega)]; rfl
theorem formB_no {l : List Ed} {k : Nat} (hk : k < l.length) (h : (fmE (l.getD k e0) && fmO l k) = false) : formB l = false := by
  unfold formB
  rw [fmF_no h l.length hk, Bool.and_false]
theorem form_at {l : List Ed} : ∀ n, fmF l n = true → ∀ k, k < n → fmE (l.getD k e0) = true ∧ fmO l k = true
  | 0, _, k, hk => absurd hk (by omega)
  | n + 1, h, k, hk => by
    have h : (fmF l n && (fmE (l.getD n e0) && fmO l n)) = true := h
    rw [Bool.and_eq_true, Bool.and_eq_true] at h
    by_cases e : k = n
    · subst e; exact h.2
    · exact form_at n h.1 k (by omega)
theorem noW_list : ByteArray.toList noW = [] := by kernel_rfl
theorem str_some {x : Wd} (h : x ≠ noW) : (ByteArray.toList x).isEmpty = false := by
  have h2 := str_ne h
  rw [noW_list] at h2
  cases hl : ByteArray.toList x with
  | nil => rw [hl] at h2; cases h2
  | cons a l => rfl
theorem isForm_any (A : Option Addr) (c : Nat) (l : List Ed) (w : World) (hl : l.length ≤ 100000) (hA : EdR w w.heap.size A l) (hz : ∀ e ∈ l, e.old.size ≤ maxLen ∧ e.new.size ≤ maxLen) :
    Calls Tryd.prog 70 #[.slice A l.length c] w fun e w' => e = .returned (.bool (formB l)) ∧ Below w.heap.size w w' := by
  have HA := hide hA
  have HZ := hide hz
  obtain ⟨n, hn⟩ : ∃ n, l.length = n := ⟨_, rfl⟩
  have HN := hide hn
  rw [hn] at hl ⊢
  clear hA hz hn
  by_cases h40 : 40 < n
  · have h40' : (40 : Int) < (n : Int) := by omega
    go_enter Tryd.func70, Tryd.ntmps70
    go_wp2_with fail
    go_ret
    refine ⟨ret_bool ?_, Below.refl _ _⟩
    unfold formB
    rw [HN.out, decide_eq_false (by omega)]; rfl
  have h40' : ¬ (40 : Int) < (n : Int) := by omega
  go_enter Tryd.func70, Tryd.ntmps70
  go_wp2_with fail
  go_loopw [12] (fun i wr => ∃ k : Nat, k ≤ n ∧ i = .int .i64 k ∧ Hid (fmF l k = true) ∧ Hid (Below w.heap.size w wr)) (fun i _ => n - (intOf i).toNat)
  case atStart => exact ⟨0, Nat.zero_le _, rfl, hide rfl, hide (Below.refl _ _)⟩
  case round =>
    obtain ⟨k, hk, rfl, HF, HBW⟩ := hrel
    by_cases hlt : k < n
    · have hlt' : (k : Int) < (n : Int) := by omega
      have k0 : (0 : Int) ≤ (k : Int) := by omega
      have hst : IntKind.i64.wrap ((k : Int) + 1) = ((k + 1 : Nat) : Int) := by rw [IntWalk.i64_in _ (by omega)]; omega
      obtain ⟨e, he⟩ : ∃ e, l.getD k e0 = e := ⟨_, rfl⟩
      have hmem : e ∈ l := by
        rw [← he, List.getD_eq_getElem?_getD, List.getElem?_eq_getElem (by rw [HN.out]; exact hlt)]
        exact List.getElem_mem _
      obtain ⟨z1, z2⟩ := HZ.out e hmem
      obtain ⟨xb, xo, rfl, hxb, a0, a1, a2, a3⟩ := HA.out.at_ (by rw [HN.out]; exact hlt) he
      have HE := hide he
      have c0 := (HBW.out.cell (p := ⟨xb, xo + k * 4, none⟩) hxb).trans a0
      have c1 := (HBW.out.cell (p := ⟨xb, xo + k * 4 + 1, none⟩) hxb).trans a1
      have c2 := (HBW.out.cell (p := ⟨xb, xo + k * 4 + 2, none⟩) hxb).trans a2
      have c3 := (HBW.out.cell (p := ⟨xb, xo + k * 4 + 3, none⟩) hxb).trans a3
      clear he hmem a0 a1 a2 a3
      obtain ⟨ki, at_, old, new⟩ := e
      dsimp only at c0 c1 c2 c3 z1 z2
      have HZ1 := hide z1
      have HZ2 := hide z2
      clear z1 z2
      by_cases hk0 : k = 0
      · -- BEGIN1
        have kz : ¬ 0 < k := by omega
        have HO : Hid (fmO l k = true) := hide (by rw [hk0]; rfl)
        clear hk0
        go_upto_region 6 with fail
        have E1 := hide (Blk.new wr 86 #[.int .i64 ki, .int .i64 at_, .string old, .string new])
        have B1 := hide (HBW.out.trans (((Below.refl wr.heap.size wr).alloc (Nat.le_refl _) (.cells #[.int .i64 ki, .int .i64 at_, .string old, .string new] 86)).mono HBW.out.size))
        obtain ⟨g, hg⟩ : ∃ g, wr.heap.size = g := ⟨_, rfl⟩
        rw [hg] at E1 ⊢
        clear c0 c1 c2 c3 HBW
        generalize (wr.alloc (.cells #[.int .i64 ki, .int .i64 at_, .string old, .string new] 86)) = w1 at E1 B1 ⊢
        obtain ⟨g0, g1, g2, g3, g4⟩ := blk4 E1.out
        go_wp2_with fail
        refine (within_any at_ 0 20 w1).mono ?_
        rintro e _ ⟨rfl, rfl⟩
        obtain ⟨b1, hb1⟩ : ∃ b, (decide (0 ≤ at_) && decide (at_ ≤ 20)) = b := ⟨_, rfl⟩
        rw [hb1]
        have HB1 := hide hb1
        clear hb1
        rcases b1 with _ | _
        · by_cases h1 : ki = 1
          · subst h1
            go_wp2_with fail
            go_ret
            refine ⟨ret_bool ?_, ?_⟩
            · rw [formB_no (by rw [HN.out]; exact hlt) (by rw [HE.out, show fmE _ = false from (by unfold fmE; rw [show (decide _ && decide _) = false from HB1.out]; rfl)]; rfl)]
            · first | exact B1.out | exact B2.out | exact B3.out | exact B1.out.trans (((Below.refl _ _).alloc (Nat.le_refl _) _).mono B1.out.size) | exact B2.out.trans (((Below.refl _ _).alloc (Nat.le_refl _) _).mono B2.out.size) | exact B3.out.trans (((Below.refl _ _).alloc (Nat.le_refl _) _).mono B3.out.size)
          · by_cases h2 : ki = 2
            · subst h2
              go_wp2_with fail
              go_ret
              refine ⟨ret_bool ?_, ?_⟩
              · rw [formB_no (by rw [HN.out]; exact hlt) (by rw [HE.out, show fmE _ = false from (by unfold fmE; rw [show (decide _ && decide _) = false from HB1.out]; rfl)]; rfl)]
              · first | exact B1.out | exact B2.out | exact B3.out | exact B1.out.trans (((Below.refl _ _).alloc (Nat.le_refl _) _).mono B1.out.size) | exact B2.out.trans (((Below.refl _ _).alloc (Nat.le_refl _) _).mono B2.out.size) | exact B3.out.trans (((Below.refl _ _).alloc (Nat.le_refl _) _).mono B3.out.size)
            · by_cases h3 : ki = 3
              · subst h3
                go_wp2_with fail
                go_ret
                refine ⟨ret_bool ?_, ?_⟩
                · rw [formB_no (by rw [HN.out]; exact hlt) (by rw [HE.out, show fmE _ = false from (by unfold fmE; rw [show (decide _ && decide _) = false from HB1.out]; rfl)]; rfl)]
                · first | exact B1.out | exact B2.out | exact B3.out | exact B1.out.trans (((Below.refl _ _).alloc (Nat.le_refl _) _).mono B1.out.size) | exact B2.out.trans (((Below.refl _ _).alloc (Nat.le_refl _) _).mono B2.out.size) | exact B3.out.trans (((Below.refl _ _).alloc (Nat.le_refl _) _).mono B3.out.size)
              · have t1 : (ki == 1) = false := by simp [h1]
                have t2 : (ki == 2) = false := by simp [h2]
                have t3 : (ki == 3) = false := by simp [h3]
                go_wp2_with fail
                go_ret
                refine ⟨ret_bool ?_, ?_⟩
                · rw [formB_no (by rw [HN.out]; exact hlt) (by rw [HE.out, show fmE _ = false from (by unfold fmE; rw [show (decide _ && decide _) = false from HB1.out]; rfl)]; rfl)]
                · first | exact B1.out | exact B2.out | exact B3.out | exact B1.out.trans (((Below.refl _ _).alloc (Nat.le_refl _) _).mono B1.out.size) | exact B2.out.trans (((Below.refl _ _).alloc (Nat.le_refl _) _).mono B2.out.size) | exact B3.out.trans (((Below.refl _ _).alloc (Nat.le_refl _) _).mono B3.out.size)
        · by_cases h1 : ki = 1
          · subst h1
            rcases u1 : wordB old with _ | _
            · have HU := hide u1
              go_wp2_with fail
              refine (isWord_any old w1 HZ1.out).mono ?_
              rintro e w2 ⟨rfl, hbw⟩
              have B2 := hide (B1.out.trans (hbw.mono B1.out.size))
              have E2 := hide (E1.out.ext hbw)
              clear hbw g0 g1 g2 g3 g4
              obtain ⟨g0, g1, g2, g3, g4⟩ := blk4 E2.out
              rw [HU.out]
              go_wp2_with fail
              go_ret
              refine ⟨ret_bool ?_, ?_⟩
              · rw [formB_no (by rw [HN.out]; exact hlt) (by rw [HE.out, show fmE _ = false from (by unfold fmE fmK; simp [HU.out])]; rfl)]
              · first | exact B1.out | exact B2.out | exact B3.out | exact B1.out.trans (((Below.refl _ _).alloc (Nat.le_refl _) _).mono B1.out.size) | exact B2.out.trans (((Below.refl _ _).alloc (Nat.le_refl _) _).mono B2.out.size) | exact B3.out.trans (((Below.refl _ _).alloc (Nat.le_refl _) _).mono B3.out.size)
            · have HU := hide u1
              clear u1
              rcases u2 : wordB new with _ | _
              · have HU2 := hide u2
                clear u2
                go_wp2_with fail
                refine (isWord_any old w1 HZ1.out).mono ?_
                rintro e w2 ⟨rfl, hbw⟩
                have B2 := hide (B1.out.trans (hbw.mono B1.out.size))
                have E2 := hide (E1.out.ext hbw)
                clear hbw g0 g1 g2 g3 g4
                obtain ⟨g0, g1, g2, g3, g4⟩ := blk4 E2.out
                rw [HU.out]
                go_wp2_with fail
                refine (isWord_any new w2 HZ2.out).mono ?_
                rintro e w3 ⟨rfl, hbw⟩
                have B3 := hide (B2.out.trans (hbw.mono B2.out.size))
                have E3 := hide (E2.out.ext hbw)
                clear hbw g0 g1 g2 g3 g4
                obtain ⟨g0, g1, g2, g3, g4⟩ := blk4 E3.out
                rw [HU2.out]
                go_wp2_with fail
                go_ret
                refine ⟨ret_bool ?_, ?_⟩
                · rw [formB_no (by rw [HN.out]; exact hlt) (by rw [HE.out, show fmE _ = false from (by unfold fmE fmK; simp [HU2.out])]; rfl)]
                · first | exact B1.out | exact B2.out | exact B3.out | exact B1.out.trans (((Below.refl _ _).alloc (Nat.le_refl _) _).mono B1.out.size) | exact B2.out.trans (((Below.refl _ _).alloc (Nat.le_refl _) _).mono B2.out.size) | exact B3.out.trans (((Below.refl _ _).alloc (Nat.le_refl _) _).mono B3.out.size)
              · have HU2 := hide u2
                clear u2
                go_wp2_with fail
                refine (isWord_any old w1 HZ1.out).mono ?_
                rintro e w2 ⟨rfl, hbw⟩
                have B2 := hide (B1.out.trans (hbw.mono B1.out.size))
                have E2 := hide (E1.out.ext hbw)
                clear hbw g0 g1 g2 g3 g4
                obtain ⟨g0, g1, g2, g3, g4⟩ := blk4 E2.out
                rw [HU.out]
                go_wp2_with fail
                refine (isWord_any new w2 HZ2.out).mono ?_
                rintro e w3 ⟨rfl, hbw⟩
                have B3 := hide (B2.out.trans (hbw.mono B2.out.size))
                have E3 := hide (E2.out.ext hbw)
                clear hbw g0 g1 g2 g3 g4
                obtain ⟨g0, g1, g2, g3, g4⟩ := blk4 E3.out
                rw [HU2.out]
                by_cases hon : old = new
                · subst hon
                  go_wp2_with fail
                  go_ret
                  refine ⟨ret_bool ?_, ?_⟩
                  · rw [formB_no (by rw [HN.out]; exact hlt) (by rw [HE.out, show fmE _ = false from (by unfold fmE fmK; simp)]; rfl)]
                  · first | exact B1.out | exact B2.out | exact B3.out | exact B1.out.trans (((Below.refl _ _).alloc (Nat.le_refl _) _).mono B1.out.size) | exact B2.out.trans (((Below.refl _ _).alloc (Nat.le_refl _) _).mono B2.out.size) | exact B3.out.trans (((Below.refl _ _).alloc (Nat.le_refl _) _).mono B3.out.size)
                · have q := str_ne hon
                  have HON := hide hon
                  clear hon
                  go_wp2_with fail
                  go_roundw
                  case rel => exact ⟨k + 1, by omega, by go_num, hide (by
                    show (fmF l k && (fmE (l.getD k e0) && fmO l k)) = true
                    rw [HF.out, HE.out, show fmE _ = true from (by unfold fmE fmK; rw [show (decide _ && decide _) = true from HB1.out]; simp [HU.out, HU2.out, HON.out]), show fmO l k = true from HO.out]; rfl), by
                    first | exact B1 | exact B2 | exact B3 | exact hide (B1.out.trans (((Below.refl _ _).alloc (Nat.le_refl _) _).mono B1.out.size)) | exact hide (B2.out.trans (((Below.refl _ _).alloc (Nat.le_refl _) _).mono B2.out.size)) | exact hide (B3.out.trans (((Below.refl _ _).alloc (Nat.le_refl _) _).mono B3.out.size))⟩
                  case measure => simp [intOf]; omega
          · have t1 : (ki == 1) = false := by simp [h1]
            by_cases h2 : ki = 2
            · subst h2
              clear h1 t1
              rcases u1 : wordB old with _ | _
              · have HU := hide u1
                clear u1
                go_wp2_with fail
                refine (isWord_any old w1 HZ1.out).mono ?_
                rintro e w2 ⟨rfl, hbw⟩
                have B2 := hide (B1.out.trans (hbw.mono B1.out.size))
                have E2 := hide (E1.out.ext hbw)
                clear hbw g0 g1 g2 g3 g4
                obtain ⟨g0, g1, g2, g3, g4⟩ := blk4 E2.out
                rw [HU.out]
                go_wp2_with fail
                go_ret
                refine ⟨ret_bool ?_, ?_⟩
                · rw [formB_no (by rw [HN.out]; exact hlt) (by rw [HE.out, show fmE _ = false from (by unfold fmE fmK; simp [HU.out])]; rfl)]
                · first | exact B1.out | exact B2.out | exact B3.out | exact B1.out.trans (((Below.refl _ _).alloc (Nat.le_refl _) _).mono B1.out.size) | exact B2.out.trans (((Below.refl _ _).alloc (Nat.le_refl _) _).mono B2.out.size) | exact B3.out.trans (((Below.refl _ _).alloc (Nat.le_refl _) _).mono B3.out.size)
              · have HU := hide u1
                clear u1
                go_wp2_with fail
                refine (isWord_any old w1 HZ1.out).mono ?_
                rintro e w2 ⟨rfl, hbw⟩
                have B2 := hide (B1.out.trans (hbw.mono B1.out.size))
                have E2 := hide (E1.out.ext hbw)
                clear hbw g0 g1 g2 g3 g4
                obtain ⟨g0, g1, g2, g3, g4⟩ := blk4 E2.out
                rw [HU.out]
                by_cases hon : new = noW
                · subst hon
                  have e1 : (ByteArray.toList noW).isEmpty = true := by rw [noW_list]; rfl
                  have e2 := noW_list
                  go_wp2_with fail
                  go_roundw
                  case rel => exact ⟨k + 1, by omega, by go_num, hide (by
                    show (fmF l k && (fmE (l.getD k e0) && fmO l k)) = true
                    rw [HF.out, HE.out, show fmE _ = true from (by unfold fmE fmK; rw [show (decide _ && decide _) = true from HB1.out]; simp [HU.out]), show fmO l k = true from HO.out]; rfl), by
                    first | exact B1 | exact B2 | exact B3 | exact hide (B1.out.trans (((Below.refl _ _).alloc (Nat.le_refl _) _).mono B1.out.size)) | exact hide (B2.out.trans (((Below.refl _ _).alloc (Nat.le_refl _) _).mono B2.out.size)) | exact hide (B3.out.trans (((Below.refl _ _).alloc (Nat.le_refl _) _).mono B3.out.size))⟩
                  case measure => simp [intOf]; omega
                · have q := str_some hon
                  have HON := hide hon
                  clear hon
                  go_wp2_with fail
                  go_ret
                  refine ⟨ret_bool ?_, ?_⟩
                  · rw [formB_no (by rw [HN.out]; exact hlt) (by rw [HE.out, show fmE _ = false from (by unfold fmE fmK; simp [HON.out])]; rfl)]
                  · first | exact B1.out | exact B2.out | exact B3.out | exact B1.out.trans (((Below.refl _ _).alloc (Nat.le_refl _) _).mono B1.out.size) | exact B2.out.trans (((Below.refl _ _).alloc (Nat.le_refl _) _).mono B2.out.size) | exact B3.out.trans (((Below.refl _ _).alloc (Nat.le_refl _) _).mono B3.out.size)
            · have t2 : (ki == 2) = false := by simp [h2]
              by_cases h3 : ki = 3
              · subst h3
                clear h1 t1 h2 t2
                rcases u1 : wordB new with _ | _
                · have HU := hide u1
                  clear u1
                  go_wp2_with fail
                  refine (isWord_any new w1 HZ2.out).mono ?_
                  rintro e w2 ⟨rfl, hbw⟩
                  have B2 := hide (B1.out.trans (hbw.mono B1.out.size))
                  have E2 := hide (E1.out.ext hbw)
                  clear hbw g0 g1 g2 g3 g4
                  obtain ⟨g0, g1, g2, g3, g4⟩ := blk4 E2.out
                  rw [HU.out]
                  go_wp2_with fail
                  go_ret
                  refine ⟨ret_bool ?_, ?_⟩
                  · rw [formB_no (by rw [HN.out]; exact hlt) (by rw [HE.out, show fmE _ = false from (by unfold fmE fmK; simp [HU.out])]; rfl)]
                  · first | exact B1.out | exact B2.out | exact B3.out | exact B1.out.trans (((Below.refl _ _).alloc (Nat.le_refl _) _).mono B1.out.size) | exact B2.out.trans (((Below.refl _ _).alloc (Nat.le_refl _) _).mono B2.out.size) | exact B3.out.trans (((Below.refl _ _).alloc (Nat.le_refl _) _).mono B3.out.size)
                · have HU := hide u1
                  clear u1
                  go_wp2_with fail
                  refine (isWord_any new w1 HZ2.out).mono ?_
                  rintro e w2 ⟨rfl, hbw⟩
                  have B2 := hide (B1.out.trans (hbw.mono B1.out.size))
                  have E2 := hide (E1.out.ext hbw)
                  clear hbw g0 g1 g2 g3 g4
                  obtain ⟨g0, g1, g2, g3, g4⟩ := blk4 E2.out
                  rw [HU.out]
                  by_cases hon : old = noW
                  · subst hon
                    have e1 : (ByteArray.toList noW).isEmpty = true := by rw [noW_list]; rfl
                    have e2 := noW_list
                    go_wp2_with fail
                    go_roundw
                    case rel => exact ⟨k + 1, by omega, by go_num, hide (by
                      show (fmF l k && (fmE (l.getD k e0) && fmO l k)) = true
                      rw [HF.out, HE.out, show fmE _ = true from (by unfold fmE fmK; rw [show (decide _ && decide _) = true from HB1.out]; simp [HU.out]), show fmO l k = true from HO.out]; rfl), by
                      first | exact B1 | exact B2 | exact B3 | exact hide (B1.out.trans (((Below.refl _ _).alloc (Nat.le_refl _) _).mono B1.out.size)) | exact hide (B2.out.trans (((Below.refl _ _).alloc (Nat.le_refl _) _).mono B2.out.size)) | exact hide (B3.out.trans (((Below.refl _ _).alloc (Nat.le_refl _) _).mono B3.out.size))⟩
                    case measure => simp [intOf]; omega
                  · have q := str_some hon
                    have HON := hide hon
                    clear hon
                    go_wp2_with fail
                    go_ret
                    refine ⟨ret_bool ?_, ?_⟩
                    · rw [formB_no (by rw [HN.out]; exact hlt) (by rw [HE.out, show fmE _ = false from (by unfold fmE fmK; simp [HON.out])]; rfl)]
                    · first | exact B1.out | exact B2.out | exact B3.out | exact B1.out.trans (((Below.refl _ _).alloc (Nat.le_refl _) _).mono B1.out.size) | exact B2.out.trans (((Below.refl _ _).alloc (Nat.le_refl _) _).mono B2.out.size) | exact B3.out.trans (((Below.refl _ _).alloc (Nat.le_refl _) _).mono B3.out.size)
              · have t3 : (ki == 3) = false := by simp [h3]
                have HK3 := hide (And.intro h1 (And.intro h2 h3))
                clear h1 h2 h3
                go_wp2_with fail
                go_ret
                refine ⟨ret_bool ?_, ?_⟩
                · rw [formB_no (by rw [HN.out]; exact hlt) (by rw [HE.out, show fmE _ = false from (by unfold fmE fmK; simp [HK3.out.1, HK3.out.2.1, HK3.out.2.2])]; rfl)]
                · first | exact B1.out | exact B2.out | exact B3.out | exact B1.out.trans (((Below.refl _ _).alloc (Nat.le_refl _) _).mono B1.out.size) | exact B2.out.trans (((Below.refl _ _).alloc (Nat.le_refl _) _).mono B2.out.size) | exact B3.out.trans (((Below.refl _ _).alloc (Nat.le_refl _) _).mono B3.out.size)
        -- END1
      · -- BEGIN2
        obtain ⟨j, hj⟩ : ∃ j, k = j + 1 := ⟨k - 1, by omega⟩
        have kp : 0 < k := by omega
        have jm : IntKind.i64.wrap ((k : Int) - 1) = (j : Int) := by rw [IntWalk.i64_in _ (by omega)]; omega
        have jn : (j : Int) < (n : Int) := by omega
        have jz : (0 : Int) ≤ (j : Int) := by omega
        have HJ := hide hj
        obtain ⟨y, hy⟩ : ∃ e, l.getD j e0 = e := ⟨_, rfl⟩
        obtain ⟨yb, yo, hA2, hyb, a0, a1, a2, a3⟩ := HA.out.at_ (k := j) (by rw [HN.out]; omega) hy
        clear hj hk0
        injection hA2 with hA2
        injection hA2 with e1 e2
        subst e1 e2
        have HY := hide hy
        obtain ⟨y0, y1, y2, y3⟩ := y
        dsimp only at a0 a1 a2 a3
        have HD : Hid (∀ W, Below w.heap.size w W → W.cell? ⟨xb, xo + j * 4, none⟩ = some (.int .i64 y0) ∧ W.cell? ⟨xb, xo + j * 4 + 1, none⟩ = some (.int .i64 y1) ∧ W.cell? ⟨xb, xo + j * 4 + 2, none⟩ = some (.string y2) ∧ W.cell? ⟨xb, xo + j * 4 + 3, none⟩ = some (.string y3)) := hide fun W h =>
          ⟨(h.cell (p := ⟨xb, xo + j * 4, none⟩) hyb).trans a0, (h.cell (p := ⟨xb, xo + j * 4 + 1, none⟩) hyb).trans a1, (h.cell (p := ⟨xb, xo + j * 4 + 2, none⟩) hyb).trans a2, (h.cell (p := ⟨xb, xo + j * 4 + 3, none⟩) hyb).trans a3⟩
        clear a0 a1 a2 a3 hy
        go_upto_region 6 with fail
        have E1 := hide (Blk.new wr 86 #[.int .i64 ki, .int .i64 at_, .string old, .string new])
        have B1 := hide (HBW.out.trans (((Below.refl wr.heap.size wr).alloc (Nat.le_refl _) (.cells #[.int .i64 ki, .int .i64 at_, .string old, .string new] 86)).mono HBW.out.size))
        obtain ⟨g, hg⟩ : ∃ g, wr.heap.size = g := ⟨_, rfl⟩
        rw [hg] at E1 ⊢
        clear c0 c1 c2 c3 HBW
        generalize (wr.alloc (.cells #[.int .i64 ki, .int .i64 at_, .string old, .string new] 86)) = w1 at E1 B1 ⊢
        obtain ⟨g0, g1, g2, g3, g4⟩ := blk4 E1.out
        obtain ⟨d0, d1, d2, d3⟩ := HD.out _ B1.out
        go_wp2_with fail
        refine (within_any at_ 0 20 w1).mono ?_
        rintro e _ ⟨rfl, rfl⟩
        obtain ⟨b1, hb1⟩ : ∃ b, (decide (0 ≤ at_) && decide (at_ ≤ 20)) = b := ⟨_, rfl⟩
        rw [hb1]
        have HB1 := hide hb1
        clear hb1
        rcases b1 with _ | _
        · by_cases h1 : ki = 1
          · subst h1
            go_wp2_with fail
            go_ret
            refine ⟨ret_bool ?_, ?_⟩
            · rw [formB_no (by rw [HN.out]; exact hlt) (by rw [HE.out, show fmE _ = false from (by unfold fmE; rw [show (decide _ && decide _) = false from HB1.out]; rfl)]; rfl)]
            · first | exact B1.out | exact B2.out | exact B3.out | exact B1.out.trans (((Below.refl _ _).alloc (Nat.le_refl _) _).mono B1.out.size) | exact B2.out.trans (((Below.refl _ _).alloc (Nat.le_refl _) _).mono B2.out.size) | exact B3.out.trans (((Below.refl _ _).alloc (Nat.le_refl _) _).mono B3.out.size)
          · by_cases h2 : ki = 2
            · subst h2
              go_wp2_with fail
              go_ret
              refine ⟨ret_bool ?_, ?_⟩
              · rw [formB_no (by rw [HN.out]; exact hlt) (by rw [HE.out, show fmE _ = false from (by unfold fmE; rw [show (decide _ && decide _) = false from HB1.out]; rfl)]; rfl)]
              · first | exact B1.out | exact B2.out | exact B3.out | exact B1.out.trans (((Below.refl _ _).alloc (Nat.le_refl _) _).mono B1.out.size) | exact B2.out.trans (((Below.refl _ _).alloc (Nat.le_refl _) _).mono B2.out.size) | exact B3.out.trans (((Below.refl _ _).alloc (Nat.le_refl _) _).mono B3.out.size)
            · by_cases h3 : ki = 3
              · subst h3
                go_wp2_with fail
                go_ret
                refine ⟨ret_bool ?_, ?_⟩
                · rw [formB_no (by rw [HN.out]; exact hlt) (by rw [HE.out, show fmE _ = false from (by unfold fmE; rw [show (decide _ && decide _) = false from HB1.out]; rfl)]; rfl)]
                · first | exact B1.out | exact B2.out | exact B3.out | exact B1.out.trans (((Below.refl _ _).alloc (Nat.le_refl _) _).mono B1.out.size) | exact B2.out.trans (((Below.refl _ _).alloc (Nat.le_refl _) _).mono B2.out.size) | exact B3.out.trans (((Below.refl _ _).alloc (Nat.le_refl _) _).mono B3.out.size)
              · have t1 : (ki == 1) = false := by simp [h1]
                have t2 : (ki == 2) = false := by simp [h2]
                have t3 : (ki == 3) = false := by simp [h3]
                go_wp2_with fail
                go_ret
                refine ⟨ret_bool ?_, ?_⟩
                · rw [formB_no (by rw [HN.out]; exact hlt) (by rw [HE.out, show fmE _ = false from (by unfold fmE; rw [show (decide _ && decide _) = false from HB1.out]; rfl)]; rfl)]
                · first | exact B1.out | exact B2.out | exact B3.out | exact B1.out.trans (((Below.refl _ _).alloc (Nat.le_refl _) _).mono B1.out.size) | exact B2.out.trans (((Below.refl _ _).alloc (Nat.le_refl _) _).mono B2.out.size) | exact B3.out.trans (((Below.refl _ _).alloc (Nat.le_refl _) _).mono B3.out.size)
        · by_cases h1 : ki = 1
          · subst h1
            rcases u1 : wordB old with _ | _
            · have HU := hide u1
              go_wp2_with fail
              refine (isWord_any old w1 HZ1.out).mono ?_
              rintro e w2 ⟨rfl, hbw⟩
              have B2 := hide (B1.out.trans (hbw.mono B1.out.size))
              have E2 := hide (E1.out.ext hbw)
              clear hbw g0 g1 g2 g3 g4
              obtain ⟨g0, g1, g2, g3, g4⟩ := blk4 E2.out
              clear d0 d1 d2 d3
              obtain ⟨d0, d1, d2, d3⟩ := HD.out _ B2.out
              rw [HU.out]
              go_wp2_with fail
              go_ret
              refine ⟨ret_bool ?_, ?_⟩
              · rw [formB_no (by rw [HN.out]; exact hlt) (by rw [HE.out, show fmE _ = false from (by unfold fmE fmK; simp [HU.out])]; rfl)]
              · first | exact B1.out | exact B2.out | exact B3.out | exact B1.out.trans (((Below.refl _ _).alloc (Nat.le_refl _) _).mono B1.out.size) | exact B2.out.trans (((Below.refl _ _).alloc (Nat.le_refl _) _).mono B2.out.size) | exact B3.out.trans (((Below.refl _ _).alloc (Nat.le_refl _) _).mono B3.out.size)
            · have HU := hide u1
              clear u1
              rcases u2 : wordB new with _ | _
              · have HU2 := hide u2
                clear u2
                go_wp2_with fail
                refine (isWord_any old w1 HZ1.out).mono ?_
                rintro e w2 ⟨rfl, hbw⟩
                have B2 := hide (B1.out.trans (hbw.mono B1.out.size))
                have E2 := hide (E1.out.ext hbw)
                clear hbw g0 g1 g2 g3 g4
                obtain ⟨g0, g1, g2, g3, g4⟩ := blk4 E2.out
                clear d0 d1 d2 d3
                obtain ⟨d0, d1, d2, d3⟩ := HD.out _ B2.out
                rw [HU.out]
                go_wp2_with fail
                refine (isWord_any new w2 HZ2.out).mono ?_
                rintro e w3 ⟨rfl, hbw⟩
                have B3 := hide (B2.out.trans (hbw.mono B2.out.size))
                have E3 := hide (E2.out.ext hbw)
                clear hbw g0 g1 g2 g3 g4
                obtain ⟨g0, g1, g2, g3, g4⟩ := blk4 E3.out
                clear d0 d1 d2 d3
                obtain ⟨d0, d1, d2, d3⟩ := HD.out _ B3.out
                rw [HU2.out]
                go_wp2_with fail
                go_ret
                refine ⟨ret_bool ?_, ?_⟩
                · rw [formB_no (by rw [HN.out]; exact hlt) (by rw [HE.out, show fmE _ = false from (by unfold fmE fmK; simp [HU2.out])]; rfl)]
                · first | exact B1.out | exact B2.out | exact B3.out | exact B1.out.trans (((Below.refl _ _).alloc (Nat.le_refl _) _).mono B1.out.size) | exact B2.out.trans (((Below.refl _ _).alloc (Nat.le_refl _) _).mono B2.out.size) | exact B3.out.trans (((Below.refl _ _).alloc (Nat.le_refl _) _).mono B3.out.size)
              · have HU2 := hide u2
                clear u2
                go_wp2_with fail
                refine (isWord_any old w1 HZ1.out).mono ?_
                rintro e w2 ⟨rfl, hbw⟩
                have B2 := hide (B1.out.trans (hbw.mono B1.out.size))
                have E2 := hide (E1.out.ext hbw)
                clear hbw g0 g1 g2 g3 g4
                obtain ⟨g0, g1, g2, g3, g4⟩ := blk4 E2.out
                clear d0 d1 d2 d3
                obtain ⟨d0, d1, d2, d3⟩ := HD.out _ B2.out
                rw [HU.out]
                go_wp2_with fail
                refine (isWord_any new w2 HZ2.out).mono ?_
                rintro e w3 ⟨rfl, hbw⟩
                have B3 := hide (B2.out.trans (hbw.mono B2.out.size))
                have E3 := hide (E2.out.ext hbw)
                clear hbw g0 g1 g2 g3 g4
                obtain ⟨g0, g1, g2, g3, g4⟩ := blk4 E3.out
                clear d0 d1 d2 d3
                obtain ⟨d0, d1, d2, d3⟩ := HD.out _ B3.out
                rw [HU2.out]
                by_cases hon : old = new
                · subst hon
                  go_wp2_with fail
                  go_ret
                  refine ⟨ret_bool ?_, ?_⟩
                  · rw [formB_no (by rw [HN.out]; exact hlt) (by rw [HE.out, show fmE _ = false from (by unfold fmE fmK; simp)]; rfl)]
                  · first | exact B1.out | exact B2.out | exact B3.out | exact B1.out.trans (((Below.refl _ _).alloc (Nat.le_refl _) _).mono B1.out.size) | exact B2.out.trans (((Below.refl _ _).alloc (Nat.le_refl _) _).mono B2.out.size) | exact B3.out.trans (((Below.refl _ _).alloc (Nat.le_refl _) _).mono B3.out.size)
                · have q := str_ne hon
                  have HON := hide hon
                  clear hon
                  by_cases q1 : y1 < at_
                  · have q1' : decide (y1 < at_) = true := decide_eq_true q1
                    go_wp2_with fail
                    go_roundw
                    case rel => exact ⟨k + 1, by omega, by go_num, hide (by
                      show (fmF l k && (fmE (l.getD k e0) && fmO l k)) = true
                      rw [HF.out, HE.out, show fmE _ = true from (by unfold fmE fmK; rw [show (decide _ && decide _) = true from HB1.out]; simp [HU.out, HU2.out, HON.out]), show fmO l k = true from by rw [HJ.out, fmO_succ, ← HJ.out, HE.out, HY.out]; exact decide_eq_true (.inl q1)]; rfl), by
                      first | exact B1 | exact B2 | exact B3 | exact hide (B1.out.trans (((Below.refl _ _).alloc (Nat.le_refl _) _).mono B1.out.size)) | exact hide (B2.out.trans (((Below.refl _ _).alloc (Nat.le_refl _) _).mono B2.out.size)) | exact hide (B3.out.trans (((Below.refl _ _).alloc (Nat.le_refl _) _).mono B3.out.size))⟩
                    case measure => simp [intOf]; omega
                  · have q1' : decide (y1 < at_) = false := decide_eq_false q1
                    have Q1 := hide q1
                    clear q1
                    rcases q2 : (at_ == y1) with _ | _
                    · go_wp2_with fail
                      go_ret
                      refine ⟨ret_bool ?_, ?_⟩
                      · rw [formB_no (by rw [HN.out]; exact hlt) (by
                          rw [show fmO l k = false from by
                            rw [HJ.out, fmO_succ, ← HJ.out, HE.out, HY.out]
                            dsimp only
                            refine decide_eq_false ?_
                            rintro (h | ⟨h, h2⟩)
                            · have := Q1.out; omega
                            · simp_all, Bool.and_false])]
                      · first | exact B1.out | exact B2.out | exact B3.out | exact B1.out.trans (((Below.refl _ _).alloc (Nat.le_refl _) _).mono B1.out.size) | exact B2.out.trans (((Below.refl _ _).alloc (Nat.le_refl _) _).mono B2.out.size) | exact B3.out.trans (((Below.refl _ _).alloc (Nat.le_refl _) _).mono B3.out.size)
                    · rcases q3 : (y0 == 3) with _ | _
                      · go_wp2_with fail
                        go_ret
                        refine ⟨ret_bool ?_, ?_⟩
                        · rw [formB_no (by rw [HN.out]; exact hlt) (by
                            rw [show fmO l k = false from by
                              rw [HJ.out, fmO_succ, ← HJ.out, HE.out, HY.out]
                              dsimp only
                              refine decide_eq_false ?_
                              rintro (h | ⟨h, h2⟩)
                              · have := Q1.out; omega
                              · simp_all, Bool.and_false])]
                        · first | exact B1.out | exact B2.out | exact B3.out | exact B1.out.trans (((Below.refl _ _).alloc (Nat.le_refl _) _).mono B1.out.size) | exact B2.out.trans (((Below.refl _ _).alloc (Nat.le_refl _) _).mono B2.out.size) | exact B3.out.trans (((Below.refl _ _).alloc (Nat.le_refl _) _).mono B3.out.size)
                      · go_wp2_with fail
                        go_roundw
                        case rel => exact ⟨k + 1, by omega, by go_num, hide (by
                          show (fmF l k && (fmE (l.getD k e0) && fmO l k)) = true
                          rw [HF.out, HE.out, show fmE _ = true from (by unfold fmE fmK; rw [show (decide _ && decide _) = true from HB1.out]; simp [HU.out, HU2.out, HON.out]), show fmO l k = true from by rw [HJ.out, fmO_succ, ← HJ.out, HE.out, HY.out]; exact decide_eq_true (.inr ⟨by simpa using q2, by simpa using q3⟩)]; rfl), by
                          first | exact B1 | exact B2 | exact B3 | exact hide (B1.out.trans (((Below.refl _ _).alloc (Nat.le_refl _) _).mono B1.out.size)) | exact hide (B2.out.trans (((Below.refl _ _).alloc (Nat.le_refl _) _).mono B2.out.size)) | exact hide (B3.out.trans (((Below.refl _ _).alloc (Nat.le_refl _) _).mono B3.out.size))⟩
                        case measure => simp [intOf]; omega
          · have t1 : (ki == 1) = false := by simp [h1]
            by_cases h2 : ki = 2
            · subst h2
              clear h1 t1
              rcases u1 : wordB old with _ | _
              · have HU := hide u1
                clear u1
                go_wp2_with fail
                refine (isWord_any old w1 HZ1.out).mono ?_
                rintro e w2 ⟨rfl, hbw⟩
                have B2 := hide (B1.out.trans (hbw.mono B1.out.size))
                have E2 := hide (E1.out.ext hbw)
                clear hbw g0 g1 g2 g3 g4
                obtain ⟨g0, g1, g2, g3, g4⟩ := blk4 E2.out
                clear d0 d1 d2 d3
                obtain ⟨d0, d1, d2, d3⟩ := HD.out _ B2.out
                rw [HU.out]
                go_wp2_with fail
                go_ret
                refine ⟨ret_bool ?_, ?_⟩
                · rw [formB_no (by rw [HN.out]; exact hlt) (by rw [HE.out, show fmE _ = false from (by unfold fmE fmK; simp [HU.out])]; rfl)]
                · first | exact B1.out | exact B2.out | exact B3.out | exact B1.out.trans (((Below.refl _ _).alloc (Nat.le_refl _) _).mono B1.out.size) | exact B2.out.trans (((Below.refl _ _).alloc (Nat.le_refl _) _).mono B2.out.size) | exact B3.out.trans (((Below.refl _ _).alloc (Nat.le_refl _) _).mono B3.out.size)
              · have HU := hide u1
                clear u1
                go_wp2_with fail
                refine (isWord_any old w1 HZ1.out).mono ?_
                rintro e w2 ⟨rfl, hbw⟩
                have B2 := hide (B1.out.trans (hbw.mono B1.out.size))
                have E2 := hide (E1.out.ext hbw)
                clear hbw g0 g1 g2 g3 g4
                obtain ⟨g0, g1, g2, g3, g4⟩ := blk4 E2.out
                clear d0 d1 d2 d3
                obtain ⟨d0, d1, d2, d3⟩ := HD.out _ B2.out
                rw [HU.out]
                by_cases hon : new = noW
                · subst hon
                  have e1 : (ByteArray.toList noW).isEmpty = true := by rw [noW_list]; rfl
                  have e2 := noW_list
                  by_cases q1 : y1 < at_
                  · have q1' : decide (y1 < at_) = true := decide_eq_true q1
                    go_wp2_with fail
                    go_roundw
                    case rel => exact ⟨k + 1, by omega, by go_num, hide (by
                      show (fmF l k && (fmE (l.getD k e0) && fmO l k)) = true
                      rw [HF.out, HE.out, show fmE _ = true from (by unfold fmE fmK; rw [show (decide _ && decide _) = true from HB1.out]; simp [HU.out]), show fmO l k = true from by rw [HJ.out, fmO_succ, ← HJ.out, HE.out, HY.out]; exact decide_eq_true (.inl q1)]; rfl), by
                      first | exact B1 | exact B2 | exact B3 | exact hide (B1.out.trans (((Below.refl _ _).alloc (Nat.le_refl _) _).mono B1.out.size)) | exact hide (B2.out.trans (((Below.refl _ _).alloc (Nat.le_refl _) _).mono B2.out.size)) | exact hide (B3.out.trans (((Below.refl _ _).alloc (Nat.le_refl _) _).mono B3.out.size))⟩
                    case measure => simp [intOf]; omega
                  · have q1' : decide (y1 < at_) = false := decide_eq_false q1
                    have Q1 := hide q1
                    clear q1
                    rcases q2 : (at_ == y1) with _ | _
                    · go_wp2_with fail
                      go_ret
                      refine ⟨ret_bool ?_, ?_⟩
                      · rw [formB_no (by rw [HN.out]; exact hlt) (by
                          rw [show fmO l k = false from by
                            rw [HJ.out, fmO_succ, ← HJ.out, HE.out, HY.out]
                            dsimp only
                            refine decide_eq_false ?_
                            rintro (h | ⟨h, h2⟩)
                            · have := Q1.out; omega
                            · simp_all, Bool.and_false])]
                      · first | exact B1.out | exact B2.out | exact B3.out | exact B1.out.trans (((Below.refl _ _).alloc (Nat.le_refl _) _).mono B1.out.size) | exact B2.out.trans (((Below.refl _ _).alloc (Nat.le_refl _) _).mono B2.out.size) | exact B3.out.trans (((Below.refl _ _).alloc (Nat.le_refl _) _).mono B3.out.size)
                    · rcases q3 : (y0 == 3) with _ | _
                      · go_wp2_with fail
                        go_ret
                        refine ⟨ret_bool ?_, ?_⟩
                        · rw [formB_no (by rw [HN.out]; exact hlt) (by
                            rw [show fmO l k = false from by
                              rw [HJ.out, fmO_succ, ← HJ.out, HE.out, HY.out]
                              dsimp only
                              refine decide_eq_false ?_
                              rintro (h | ⟨h, h2⟩)
                              · have := Q1.out; omega
                              · simp_all, Bool.and_false])]
                        · first | exact B1.out | exact B2.out | exact B3.out | exact B1.out.trans (((Below.refl _ _).alloc (Nat.le_refl _) _).mono B1.out.size) | exact B2.out.trans (((Below.refl _ _).alloc (Nat.le_refl _) _).mono B2.out.size) | exact B3.out.trans (((Below.refl _ _).alloc (Nat.le_refl _) _).mono B3.out.size)
                      · go_wp2_with fail
                        go_roundw
                        case rel => exact ⟨k + 1, by omega, by go_num, hide (by
                          show (fmF l k && (fmE (l.getD k e0) && fmO l k)) = true
                          rw [HF.out, HE.out, show fmE _ = true from (by unfold fmE fmK; rw [show (decide _ && decide _) = true from HB1.out]; simp [HU.out]), show fmO l k = true from by rw [HJ.out, fmO_succ, ← HJ.out, HE.out, HY.out]; exact decide_eq_true (.inr ⟨by simpa using q2, by simpa using q3⟩)]; rfl), by
                          first | exact B1 | exact B2 | exact B3 | exact hide (B1.out.trans (((Below.refl _ _).alloc (Nat.le_refl _) _).mono B1.out.size)) | exact hide (B2.out.trans (((Below.refl _ _).alloc (Nat.le_refl _) _).mono B2.out.size)) | exact hide (B3.out.trans (((Below.refl _ _).alloc (Nat.le_refl _) _).mono B3.out.size))⟩
                        case measure => simp [intOf]; omega
                · have q := str_some hon
                  have HON := hide hon
                  clear hon
                  go_wp2_with fail
                  go_ret
                  refine ⟨ret_bool ?_, ?_⟩
                  · rw [formB_no (by rw [HN.out]; exact hlt) (by rw [HE.out, show fmE _ = false from (by unfold fmE fmK; simp [HON.out])]; rfl)]
                  · first | exact B1.out | exact B2.out | exact B3.out | exact B1.out.trans (((Below.refl _ _).alloc (Nat.le_refl _) _).mono B1.out.size) | exact B2.out.trans (((Below.refl _ _).alloc (Nat.le_refl _) _).mono B2.out.size) | exact B3.out.trans (((Below.refl _ _).alloc (Nat.le_refl _) _).mono B3.out.size)
            · have t2 : (ki == 2) = false := by simp [h2]
              by_cases h3 : ki = 3
              · subst h3
                clear h1 t1 h2 t2
                rcases u1 : wordB new with _ | _
                · have HU := hide u1
                  clear u1
                  go_wp2_with fail
                  refine (isWord_any new w1 HZ2.out).mono ?_
                  rintro e w2 ⟨rfl, hbw⟩
                  have B2 := hide (B1.out.trans (hbw.mono B1.out.size))
                  have E2 := hide (E1.out.ext hbw)
                  clear hbw g0 g1 g2 g3 g4
                  obtain ⟨g0, g1, g2, g3, g4⟩ := blk4 E2.out
                  clear d0 d1 d2 d3
                  obtain ⟨d0, d1, d2, d3⟩ := HD.out _ B2.out
                  rw [HU.out]
                  go_wp2_with fail
                  go_ret
                  refine ⟨ret_bool ?_, ?_⟩
                  · rw [formB_no (by rw [HN.out]; exact hlt) (by rw [HE.out, show fmE _ = false from (by unfold fmE fmK; simp [HU.out])]; rfl)]
                  · first | exact B1.out | exact B2.out | exact B3.out | exact B1.out.trans (((Below.refl _ _).alloc (Nat.le_refl _) _).mono B1.out.size) | exact B2.out.trans (((Below.refl _ _).alloc (Nat.le_refl _) _).mono B2.out.size) | exact B3.out.trans (((Below.refl _ _).alloc (Nat.le_refl _) _).mono B3.out.size)
                · have HU := hide u1
                  clear u1
                  go_wp2_with fail
                  refine (isWord_any new w1 HZ2.out).mono ?_
                  rintro e w2 ⟨rfl, hbw⟩
                  have B2 := hide (B1.out.trans (hbw.mono B1.out.size))
                  have E2 := hide (E1.out.ext hbw)
                  clear hbw g0 g1 g2 g3 g4
                  obtain ⟨g0, g1, g2, g3, g4⟩ := blk4 E2.out
                  clear d0 d1 d2 d3
                  obtain ⟨d0, d1, d2, d3⟩ := HD.out _ B2.out
                  rw [HU.out]
                  by_cases hon : old = noW
                  · subst hon
                    have e1 : (ByteArray.toList noW).isEmpty = true := by rw [noW_list]; rfl
                    have e2 := noW_list
                    by_cases q1 : y1 < at_
                    · have q1' : decide (y1 < at_) = true := decide_eq_true q1
                      go_wp2_with fail
                      go_roundw
                      case rel => exact ⟨k + 1, by omega, by go_num, hide (by
                        show (fmF l k && (fmE (l.getD k e0) && fmO l k)) = true
                        rw [HF.out, HE.out, show fmE _ = true from (by unfold fmE fmK; rw [show (decide _ && decide _) = true from HB1.out]; simp [HU.out]), show fmO l k = true from by rw [HJ.out, fmO_succ, ← HJ.out, HE.out, HY.out]; exact decide_eq_true (.inl q1)]; rfl), by
                        first | exact B1 | exact B2 | exact B3 | exact hide (B1.out.trans (((Below.refl _ _).alloc (Nat.le_refl _) _).mono B1.out.size)) | exact hide (B2.out.trans (((Below.refl _ _).alloc (Nat.le_refl _) _).mono B2.out.size)) | exact hide (B3.out.trans (((Below.refl _ _).alloc (Nat.le_refl _) _).mono B3.out.size))⟩
                      case measure => simp [intOf]; omega
                    · have q1' : decide (y1 < at_) = false := decide_eq_false q1
                      have Q1 := hide q1
                      clear q1
                      rcases q2 : (at_ == y1) with _ | _
                      · go_wp2_with fail
                        go_ret
                        refine ⟨ret_bool ?_, ?_⟩
                        · rw [formB_no (by rw [HN.out]; exact hlt) (by
                            rw [show fmO l k = false from by
                              rw [HJ.out, fmO_succ, ← HJ.out, HE.out, HY.out]
                              dsimp only
                              refine decide_eq_false ?_
                              rintro (h | ⟨h, h2⟩)
                              · have := Q1.out; omega
                              · simp_all, Bool.and_false])]
                        · first | exact B1.out | exact B2.out | exact B3.out | exact B1.out.trans (((Below.refl _ _).alloc (Nat.le_refl _) _).mono B1.out.size) | exact B2.out.trans (((Below.refl _ _).alloc (Nat.le_refl _) _).mono B2.out.size) | exact B3.out.trans (((Below.refl _ _).alloc (Nat.le_refl _) _).mono B3.out.size)
                      · rcases q3 : (y0 == 3) with _ | _
                        · go_wp2_with fail
                          go_ret
                          refine ⟨ret_bool ?_, ?_⟩
                          · rw [formB_no (by rw [HN.out]; exact hlt) (by
                              rw [show fmO l k = false from by
                                rw [HJ.out, fmO_succ, ← HJ.out, HE.out, HY.out]
                                dsimp only
                                refine decide_eq_false ?_
                                rintro (h | ⟨h, h2⟩)
                                · have := Q1.out; omega
                                · simp_all, Bool.and_false])]
                          · first | exact B1.out | exact B2.out | exact B3.out | exact B1.out.trans (((Below.refl _ _).alloc (Nat.le_refl _) _).mono B1.out.size) | exact B2.out.trans (((Below.refl _ _).alloc (Nat.le_refl _) _).mono B2.out.size) | exact B3.out.trans (((Below.refl _ _).alloc (Nat.le_refl _) _).mono B3.out.size)
                        · go_wp2_with fail
                          go_roundw
                          case rel => exact ⟨k + 1, by omega, by go_num, hide (by
                            show (fmF l k && (fmE (l.getD k e0) && fmO l k)) = true
                            rw [HF.out, HE.out, show fmE _ = true from (by unfold fmE fmK; rw [show (decide _ && decide _) = true from HB1.out]; simp [HU.out]), show fmO l k = true from by rw [HJ.out, fmO_succ, ← HJ.out, HE.out, HY.out]; exact decide_eq_true (.inr ⟨by simpa using q2, by simpa using q3⟩)]; rfl), by
                            first | exact B1 | exact B2 | exact B3 | exact hide (B1.out.trans (((Below.refl _ _).alloc (Nat.le_refl _) _).mono B1.out.size)) | exact hide (B2.out.trans (((Below.refl _ _).alloc (Nat.le_refl _) _).mono B2.out.size)) | exact hide (B3.out.trans (((Below.refl _ _).alloc (Nat.le_refl _) _).mono B3.out.size))⟩
                          case measure => simp [intOf]; omega
                  · have q := str_some hon
                    have HON := hide hon
                    clear hon
                    go_wp2_with fail
                    go_ret
                    refine ⟨ret_bool ?_, ?_⟩
                    · rw [formB_no (by rw [HN.out]; exact hlt) (by rw [HE.out, show fmE _ = false from (by unfold fmE fmK; simp [HON.out])]; rfl)]
                    · first | exact B1.out | exact B2.out | exact B3.out | exact B1.out.trans (((Below.refl _ _).alloc (Nat.le_refl _) _).mono B1.out.size) | exact B2.out.trans (((Below.refl _ _).alloc (Nat.le_refl _) _).mono B2.out.size) | exact B3.out.trans (((Below.refl _ _).alloc (Nat.le_refl _) _).mono B3.out.size)
              · have t3 : (ki == 3) = false := by simp [h3]
                have HK3 := hide (And.intro h1 (And.intro h2 h3))
                clear h1 h2 h3
                go_wp2_with fail
                go_ret
                refine ⟨ret_bool ?_, ?_⟩
                · rw [formB_no (by rw [HN.out]; exact hlt) (by rw [HE.out, show fmE _ = false from (by unfold fmE fmK; simp [HK3.out.1, HK3.out.2.1, HK3.out.2.2])]; rfl)]
                · first | exact B1.out | exact B2.out | exact B3.out | exact B1.out.trans (((Below.refl _ _).alloc (Nat.le_refl _) _).mono B1.out.size) | exact B2.out.trans (((Below.refl _ _).alloc (Nat.le_refl _) _).mono B2.out.size) | exact B3.out.trans (((Below.refl _ _).alloc (Nat.le_refl _) _).mono B3.out.size)
        -- END2
    · -- BEGIN3
      obtain rfl : k = n := by omega
      have hnl : ¬ (k : Int) < (k : Int) := by omega
      go_wp2_with fail
      go_ret
      refine ⟨ret_bool ?_, HBW.out⟩
      unfold formB
      rw [HN.out, HF.out, decide_eq_true (by omega)]; rfl
      -- END3
end Go.Proofs.YtmpegkojencbjaaDoor
/- School: Apply. -/
namespace Go.Proofs.YtmpegkojencbjaaDoor
open Go Go.RowKit Go.Shelf
set_option maxHeartbeats 8000000
set_option maxRecDepth 100000
theorem OwnS.cap2 {W : World} {n0 : Nat} {A : Option Addr} {n c : Nat} {l : List Wd} (h : OwnS W n0 (.slice A n c) l) : n ≤ c ∧ c ≤ maxLen := by
  rcases h.2 with ⟨h1, -⟩ | ⟨g, cap, cur, h1, -, -, h2, h3, -⟩
  · injection h1 with h1 h2 h3
    subst h2 h3
    exact ⟨Nat.le_refl _, by unfold maxLen; omega⟩
  · injection h1 with h1 h4 h5
    subst h5
    exact ⟨by omega, h3⟩
/-- what Apply returns -/
def apR (a : List Wd) (es : List Ed) : List Wd × Int × Int := if textB a = false then ([], 0, 2) else if formB es = false then ([], 0, 4) else apX a es
section
variable {es : List Ed} (hf : formB es = true)
include hf
theorem form_get {k : Nat} (hk : k < es.length) : fmE (es.getD k e0) = true ∧ fmO es k = true := by
  unfold formB at hf
  rw [Bool.and_eq_true] at hf
  exact form_at _ hf.2 k hk
theorem form_len : es.length ≤ 40 := by
  unfold formB at hf
  rw [Bool.and_eq_true] at hf
  exact of_decide_eq_true hf.1
theorem form_lo {k : Nat} (hk : k < es.length) : 0 ≤ (es.getD k e0).at_ ∧ (es.getD k e0).at_ ≤ 20 ∧ ((es.getD k e0).ki = 1 ∨ (es.getD k e0).ki = 2 ∨ (es.getD k e0).ki = 3) := by
  have h := (form_get hf hk).1
  unfold fmE at h
  rw [Bool.and_eq_true, Bool.and_eq_true] at h
  refine ⟨of_decide_eq_true h.1.1, of_decide_eq_true h.1.2, ?_⟩
  have h2 := h.2
  unfold fmK at h2
  by_cases h1 : (es.getD k e0).ki = 1
  · exact .inl h1
  · rw [if_neg h1] at h2
    by_cases h3 : (es.getD k e0).ki = 2
    · exact .inr (.inl h3)
    · rw [if_neg h3] at h2
      by_cases h4 : (es.getD k e0).ki = 3
      · exact .inr (.inr h4)
      · rw [if_neg h4] at h2; cases h2
/-- the editor stands ahead of the next edit -/
theorem place_le (a : List Wd) : ∀ {j : Nat}, j < es.length → (edsF a (0, []) (es.take j)).1 ≤ (es.getD j e0).at_.toNat
  | 0, _ => Nat.zero_le _
  | j + 1, hj => by
    have h1 := (form_get hf hj).2
    have h2 := form_lo hf (k := j) (by omega)
    have h3 := form_lo hf hj
    rw [edsF_take a (0, []) es (k := j) (by omega) rfl]
    rw [fmO_succ] at h1
    have h1 := of_decide_eq_true h1
    show edI (edsF a (0, []) (es.take j)).1 (es.getD j e0) ≤ _
    unfold edI
    split <;> omega
end
theorem getD_mem {es : List Ed} {k : Nat} (hk : k < es.length) : es.getD k e0 ∈ es := by
  rw [List.getD_eq_getElem?_getD, List.getElem?_eq_getElem hk]
  exact List.getElem_mem _
theorem mem_getD {es : List Ed} {e : Ed} (h : e ∈ es) : ∃ k, k < es.length ∧ es.getD k e0 = e := by
  obtain ⟨k, hk, e2⟩ := List.mem_iff_getElem.1 h
  exact ⟨k, hk, by rw [List.getD_eq_getElem?_getD, List.getElem?_eq_getElem hk]; exact e2⟩
/-- an edit of the right form that is carried out fits -/
theorem ok_of {a : List Wd} {e : Ed} (h0 : 0 ≤ e.at_) (hk : e.ki = 1 ∨ e.ki = 2 ∨ e.ki = 3) (h : edE a e = 0) : EdOk a e := by
  unfold edE at h
  by_cases h1 : (a.length : Int) < e.at_ ∨ (e.at_ = a.length ∧ e.ki ≠ 3)
  · rw [if_pos h1] at h; cases h
  · rw [if_neg h1] at h
    by_cases h2 : e.ki ≠ 3 ∧ a.getD e.at_.toNat noW ≠ e.old
    · rw [if_pos h2] at h; cases h
    · refine ⟨h0, by omega, ?_⟩
      by_cases h3 : e.ki = 3
      · exact .inl h3
      · refine .inr ⟨by omega, by omega, ?_⟩
        exact Classical.byContradiction fun h4 => h2 ⟨h3, h4⟩
theorem apC_all {a : List Wd} {es : List Ed} : ∀ n, apC a es n = none → ∀ k, k < n → edE a (es.getD k e0) = 0
  | 0, _, k, hk => absurd hk (by omega)
  | n + 1, h, k, hk => by
    cases h1 : apC a es n with
    | some j => rw [apC_some a es n (n + 1) (by omega) h1] at h; cases h
    | none =>
      rw [apC_succ a es n h1] at h
      by_cases e : k = n
      · subst e
        by_cases h2 : edE a (es.getD k e0) = 0
        · exact h2
        · rw [if_neg h2] at h; cases h
      · exact apC_all n h1 k (by omega)
theorem ord_of : ∀ {es : List Ed} {i : Nat}, (∀ k, k < es.length → 0 ≤ (es.getD k e0).at_) → (0 < es.length → (i : Int) ≤ (es.getD 0 e0).at_) → (∀ k, k + 1 < es.length → fmO es (k + 1) = true) → OrdE i es
  | [], _, _, _, _ => trivial
  | e :: es, i, h0, h1, h2 => by
    refine ⟨h1 (by simp), ord_of (es := es) (fun k hk => h0 (k + 1) (by simpa using hk)) (fun h => ?_) (fun k hk => ?_)⟩
    · have h3 := h2 0 (by simpa using h)
      rw [fmO_succ] at h3
      have h3 := of_decide_eq_true h3
      have h4 := h0 0 (by simp)
      have e1 : (e :: es).getD 0 e0 = e := rfl
      have e2 : (e :: es).getD (0 + 1) e0 = es.getD 0 e0 := rfl
      rw [e1, e2] at h3
      rw [e1] at h4
      split <;> omega
    · have h3 := h2 (k + 1) (by simpa using hk)
      rw [fmO_succ] at h3 ⊢
      exact h3
/-- what is carried out in order is what Apply returns -/
theorem app_all {a : List Wd} {es : List Ed} (hf : formB es = true) (hc : apC a es es.length = none) :
    takeL a (edsF a (0, []) es).1 a.length (edsF a (0, []) es).2 = apI a es (a.length + 1) ∧ (edsF a (0, []) es).1 ≤ a.length := by
  have hall : ∀ e ∈ es, EdOk a e := fun e he => by
    obtain ⟨k, hk, e2⟩ := mem_getD he
    have h1 := form_lo hf hk
    have h2 := apC_all _ hc k hk
    rw [e2] at h1 h2
    exact ok_of h1.1 h1.2.2 h2
  constructor
  · have h := ord_res a es (0, []) (Nat.zero_le _) (ord_of (fun k hk => (form_lo hf hk).1) (fun h => by have := (form_lo hf h).1; dsimp only; omega) (fun k hk => (form_get hf hk).2)) hall
    rw [h, apI_all]
    rfl
  · rcases Nat.eq_zero_or_pos es.length with h | h
    · have : es = [] := List.eq_nil_of_length_eq_zero h
      subst this
      exact Nat.zero_le _
    · have h2 : es = es.take (es.length - 1 + 1) := by rw [List.take_of_length_le (by omega)]
      have h5 := edsF_take a (0, []) es (k := es.length - 1) (by omega) rfl
      rw [← h2] at h5
      rw [h5]
      show edI (edsF a (0, []) (es.take (es.length - 1))).1 (es.getD (es.length - 1) e0) ≤ _
      have h3 := hall _ (getD_mem (es := es) (k := es.length - 1) (by omega))
      obtain ⟨q0, q1, q2⟩ := h3
      unfold edI
      split
      · omega
      · rcases q2 with q2 | q2
        · contradiction
        · omega
theorem one_text (A : Option Addr) (c : Nat) (a : List Wd) (w : World) (ha : SzOk a) (hA : SR w w.heap.size A a) :
    TxR (w.alloc (.cells #[.slice A a.length c] 22)) (w.alloc (.cells #[.slice A a.length c] 22)).heap.size (some ⟨w.heap.size, 0, none⟩) 1 (fun _ => A) (fun _ => c) (fun _ => a) := by
  have hB0 : Below w.heap.size w (w.alloc (.cells #[.slice A a.length c] 22)) := (Below.refl _ _).alloc (Nat.le_refl _) (.cells #[.slice A a.length c] 22)
  have hN := Blk.new w 22 #[.slice A a.length c]
  have hsz := hB0.size
  refine ⟨fun _ => ⟨w.heap.size, 0, rfl, by simp, fun k i hk hi => ?_⟩, fun k hk => ?_⟩
  · obtain rfl : k = 0 := by omega
    obtain rfl : i = 0 := by omega
    rw [hN.cell]; rfl
  · exact ⟨ha, (hA.below hB0 (Nat.le_refl _)).more hsz⟩
theorem Apply_any (A B : Option Addr) (c d : Nat) (a : List Wd) (es : List Ed) (w : World) (ha : SzOk a) (he : es.length ≤ 100000) (hz : ∀ e ∈ es, e.old.size ≤ maxLen ∧ e.new.size ≤ maxLen) (hA : SR w w.heap.size A a) (hB : EdR w w.heap.size B es) (hac : a.length ≤ c) (hc : c ≤ maxLen) :
    Calls Tryd.prog 43 #[.slice A a.length c, .slice B es.length d] w (MgPost w (apR a es)) := by
  have hB0 : Below w.heap.size w (w.alloc (.cells #[.slice A a.length c] 22)) := (Below.refl _ _).alloc (Nat.le_refl _) (.cells #[.slice A a.length c] 22)
  have HT := isText_any (some ⟨w.heap.size, 0, none⟩) 1 1 _ _ _ (w.alloc (.cells #[.slice A a.length c] 22)) (by unfold maxLen; omega) (one_text A c a w ha hA)
  have e0' : (!anyTo (fun _ => !textB a) 1) = textB a := by
    show (!(false || !textB a)) = _
    cases textB a <;> rfl
  rw [e0'] at HT
  have HB0 := hide hB0
  have HFM : Hid (∀ W, Below w.heap.size w W → Calls Tryd.prog 70 #[.slice B es.length d] W fun e w' => e = .returned (.bool (formB es)) ∧ Below W.heap.size W w') := hide fun W h => isForm_any B d es W he ((ER.below hB h (Nat.le_refl _)).more h.size) hz
  have HA := hide hA
  have HB := hide hB
  have HAC := hide (And.intro hac hc)
  obtain ⟨n, hn⟩ : ∃ n, a.length = n := ⟨_, rfl⟩
  obtain ⟨m, hm⟩ : ∃ n, es.length = n := ⟨_, rfl⟩
  have HNM := hide (And.intro hn hm)
  rw [hn] at HT HB0 ⊢
  rw [hm] at HFM ⊢
  clear ha he hz hA hB hac hc hB0 e0' hn hm
  have HT := hide HT
  unfold apR
  rcases ht : textB a with _ | _
  · rw [ht] at HT
    rw [if_pos rfl]
    clear ht HFM
    unfold MgPost
    go_enter Tryd.func43, Tryd.ntmps43
    go_wp2_with fail
    refine HT.out.mono ?_
    rintro e w2 ⟨rfl, hb2⟩
    go_wp2_with fail
    go_ret3
    exact ⟨_, rfl, OwnS.nil _ _, HB0.out.trans (hb2.mono HB0.out.size)⟩
  rw [ht] at HT
  rw [if_neg (by decide)]
  rcases hf : formB es with _ | _
  · rw [hf] at HFM
    rw [if_pos rfl]
    clear ht
    unfold MgPost
    go_enter Tryd.func43, Tryd.ntmps43
    go_wp2_with fail
    refine HT.out.mono ?_
    rintro e w2 ⟨rfl, hb2⟩
    have H2 := hide (HB0.out.trans (hb2.mono HB0.out.size))
    go_wp2_with fail
    refine (HFM.out w2 H2.out).mono ?_
    rintro e w3 ⟨rfl, hb3⟩
    go_wp2_with fail
    go_ret3
    exact ⟨_, rfl, OwnS.nil _ _, H2.out.trans (hb3.mono H2.out.size)⟩
  rw [hf] at HFM
  rw [if_neg (by decide)]
  have HFO := hide hf
  have hn20 : n ≤ 20 := by rw [← HNM.out.1]; exact textB_len ht
  have hm40 : m ≤ 40 := by rw [← HNM.out.2]; exact form_len hf
  clear ht hf
  go_enter Tryd.func43, Tryd.ntmps43
  go_wp2_with fail
  refine HT.out.mono ?_
  rintro e w2 ⟨rfl, hb2⟩
  have H2 := hide (HB0.out.trans (hb2.mono HB0.out.size))
  clear hb2
  go_wp2_with fail
  refine (HFM.out w2 H2.out).mono ?_
  rintro e w3 ⟨rfl, hb3⟩
  have H3 := hide (H2.out.trans (hb3.mono H2.out.size))
  clear hb3
  go_upto_region 6 with fail
  have HX : Hid (EX w (w3.alloc (.cells #[.slice A n c, .int .i64 0, .slice none 0 0] 92)) w3.heap.size A c a 0 (.slice none 0 0) []) := hide ⟨H3.out.alloc H3.out.size _, H3.out.size, by rw [HNM.out.1]; exact Blk.new _ _ _, OwnS.nil _ _⟩
  generalize (w3.alloc (.cells #[.slice A n c, .int .i64 0, .slice none 0 0] 92)) = w4 at HX ⊢
  generalize w3.heap.size = X at HX ⊢
  clear H2 H3 HT HFM HB0
  go_wp2_with fail
  go_loopw [25] (fun i wr => ∃ (j : Nat) (v : Value), j ≤ m ∧ i = .int .i64 j ∧ Hid (apC a es j = none) ∧ Hid (EX w wr X A c a (edsF a (0, []) (es.take j)).1 v (edsF a (0, []) (es.take j)).2)) (fun i _ => m - (intOf i).toNat)
  case atStart => exact ⟨0, _, Nat.zero_le _, rfl, hide rfl, HX⟩
  case round =>
    obtain ⟨j, v, hj, rfl, HC, HXj⟩ := hrel
    clear HX
    by_cases hltj : j < m
    · -- BEGIN1
      have hltj' : (j : Int) < (m : Int) := by omega
      have j0 : (0 : Int) ≤ (j : Int) := by omega
      obtain ⟨e, he⟩ : ∃ e, es.getD j e0 = e := ⟨_, rfl⟩
      obtain ⟨ea, eo, rfl, hea, g0, g1, g2, g3⟩ := HB.out.at_ (by rw [HNM.out.2]; exact hltj) he
      have q0 := (HXj.out.below.cell (p := ⟨ea, eo + j * 4, none⟩) hea).trans g0
      have q1 := (HXj.out.below.cell (p := ⟨ea, eo + j * 4 + 1, none⟩) hea).trans g1
      have q2 := (HXj.out.below.cell (p := ⟨ea, eo + j * 4 + 2, none⟩) hea).trans g2
      have q3 := (HXj.out.below.cell (p := ⟨ea, eo + j * 4 + 3, none⟩) hea).trans g3
      have hfl := form_lo HFO.out (k := j) (by rw [HNM.out.2]; exact hltj)
      have hpl := place_le HFO.out a (j := j) (by rw [HNM.out.2]; exact hltj)
      have hnx := edsF_take a (0, []) es (k := j) (by rw [HNM.out.2]; exact hltj) he
      have hln := edsF_len a (es.take j) (0, [])
      have hl40 : (es.take j).length ≤ 40 := by rw [List.length_take]; omega
      rw [he] at hfl hpl
      have hln2 : (edsF a (0, []) (es.take j)).2.length ≤ 840 := by
        have h21 : a.length + 1 ≤ 21 := by rw [HNM.out.1]; omega
        have := Nat.mul_le_mul hl40 h21
        dsimp only [List.length_nil] at hln
        omega
      have HE := hide he
      have HNX := hide hnx
      have HFL := hide (And.intro hfl (And.intro hpl hln2))
      clear g0 g1 g2 g3 hfl hpl hnx hln hln2 he hl40
      generalize edsF a (0, []) (es.take j) = s at HXj HFL HNX
      obtain ⟨ki, at_, old, new⟩ := e
      dsimp only at q0 q1 q2 q3
      obtain ⟨t, ht⟩ : ∃ t : Nat, at_ = (t : Int) := ⟨at_.toNat, by have := HFL.out.1.1; dsimp only at this; omega⟩
      subst ht
      go_upto_region 9 with fail
      have HB2 : Hid (Below wr.heap.size wr (wr.alloc (.cells #[.int .i64 ki, .int .i64 t, .string old, .string new] 86))) := hide ((Below.refl _ _).alloc (Nat.le_refl _) _)
      have E2 := Blk.new wr 86 #[.int .i64 ki, .int .i64 t, .string old, .string new]
      generalize (wr.alloc (.cells #[.int .i64 ki, .int .i64 t, .string old, .string new] 86)) = w11 at HB2 E2 ⊢
      obtain ⟨f0, f1, f2, f3, f4⟩ := blk4 E2
      have HX11 := hide (HXj.out.ext HB2.out)
      clear E2 HXj q0 q1 q2 q3
      by_cases hb1 : (a.length : Int) < t ∨ ((t : Int) = a.length ∧ ki ≠ 3)
      · have HER : Hid (edE a ⟨ki, t, old, new⟩ = 3) := hide (by unfold edE; rw [if_pos hb1])
        have HCL := hide (edit_no w11 X A c a _ _ ki t old new HX11.out.blk hb1)
        clear hb1
        go_wp2_with fail
        refine HCL.out.mono ?_
        rintro e2 w12 ⟨rfl, hb12⟩
        go_wp2_with fail
        go_ret3
        unfold MgPost
        rw [apX_bad (by rw [HNM.out.2]; exact hltj) HC.out HE.out (r := 3) HER.out (by decide)]
        exact ⟨_, rfl, OwnS.nil _ _, HX11.out.below.trans (hb12.mono HX11.out.below.size)⟩
      · by_cases hb2 : ki ≠ 3 ∧ a.getD t noW ≠ old
        · have HER : Hid (edE a ⟨ki, t, old, new⟩ = 111) := hide (by unfold edE; rw [if_neg hb1]; exact if_pos hb2)
          have HCL := hide (edit_old w w11 X A c a _ _ ki t old new HX11.out.blk HX11.out.below HA.out (by rw [HNM.out.1]; unfold maxLen; omega) (by rcases Nat.lt_trichotomy t a.length with h | h | h; exact h; exact absurd (Or.inr ⟨by omega, hb2.1⟩) hb1; exact absurd (Or.inl (by omega)) hb1) hb2.1 hb2.2)
          clear hb1 hb2
          go_wp2_with fail
          refine HCL.out.mono ?_
          rintro e2 w12 ⟨rfl, hb12⟩
          go_wp2_with fail
          go_ret3
          unfold MgPost
          rw [apX_bad (by rw [HNM.out.2]; exact hltj) HC.out HE.out (r := 111) HER.out (by decide)]
          exact ⟨_, rfl, OwnS.nil _ _, HX11.out.below.trans (hb12.mono HX11.out.below.size)⟩
        · have hok : EdOk a ⟨ki, t, old, new⟩ := ok_of HFL.out.1.1 HFL.out.1.2.2 (by unfold edE; rw [if_neg hb1]; exact if_neg hb2)
          have HER : Hid (edE a ⟨ki, t, old, new⟩ = 0) := hide (edE_ok hok)
          have HCL := hide (edit_fits w w11 X A c a s.1 v s.2 ⟨ki, t, old, new⟩ HX11.out HA.out hok HFL.out.2.1 HAC.out.1 HAC.out.2 (by have := HFL.out.2.2; rw [HNM.out.1]; omega))
          clear hb1 hb2 hok
          go_wp2_with fail
          refine HCL.out.mono ?_
          rintro e2 w12 ⟨v12, rfl, hX12, -, -⟩
          have HX12 : Hid (EX w w12 X A c a (edsF a (0, []) (es.take (j + 1))).1 v12 (edsF a (0, []) (es.take (j + 1))).2) := hide (by rw [HNX.out]; exact hX12)
          clear hX12 HX11
          go_wp2_with fail
          go_roundw
          case rel => exact ⟨j + 1, v12, by omega, by go_num, hide (by rw [apC_succ a es j HC.out, HE.out]; exact if_pos HER.out), HX12⟩
          case measure => simp [intOf]; omega
      -- END1
    · -- BEGIN2
      obtain rfl : j = m := by omega
      have hnl : ¬ (j : Int) < (j : Int) := by omega
      have hcn : apC a es es.length = none := by rw [HNM.out.2]; exact HC.out
      obtain ⟨hal, hpl⟩ := app_all HFO.out hcn
      have htk : es.take j = es := List.take_of_length_le (by rw [HNM.out.2]; omega)
      have hln := edsF_len a es (0, [])
      have hln2 : (edsF a (0, []) es).2.length ≤ 840 := by
        have h21 : a.length + 1 ≤ 21 := by rw [HNM.out.1]; omega
        have h40 : es.length ≤ 40 := by rw [HNM.out.2]; exact hm40
        have := Nat.mul_le_mul h40 h21
        dsimp only [List.length_nil] at hln
        omega
      rw [htk] at HXj
      have hx : apX a es = if (apI a es (a.length + 1)).length ≤ 20 then (apI a es (a.length + 1), 0, 0) else ([], 0, 5) := by unfold apX; rw [hcn]
      obtain ⟨s, hs⟩ : ∃ s, edsF a (0, []) es = s := ⟨_, rfl⟩
      rw [hs] at HXj hal hpl hln2
      have HX0 := hide hx
      have HPL := hide (And.intro hpl hln2)
      rw [HNM.out.1] at hal
      clear hcn hpl htk hln hln2 hs hx
      go_wp2_with fail
      refine (take_any w wr X A c a s.1 n v s.2 HXj.out HA.out (by have := HPL.out.1; rwa [HNM.out.1] at this) (by rw [HNM.out.1]; exact Nat.le_refl _) HAC.out.1 HAC.out.2 (by have := HPL.out.2; omega)).mono ?_
      rintro e w8 ⟨v8, rfl, hX8, -, -⟩
      obtain ⟨A8, c8, hv8⟩ := own_shape hX8.own
      obtain ⟨r, hr⟩ : ∃ r, apI a es (n + 1) = r := ⟨_, rfl⟩
      rw [HNM.out.1, hr] at HX0
      rw [hal, hr] at hX8 hv8
      subst hv8
      have hb8 := (blk3 hX8.blk).2.2.2.1
      have HX8 := hide hX8
      clear hal hr hX8
      by_cases hl20 : r.length ≤ 20
      · have HX1 : Hid (apX a es = (r, 0, 0)) := hide (by rw [HX0.out, if_pos hl20])
        have hl' : ¬ (20 : Int) < (r.length : Int) := by omega
        clear HX0
        generalize r.length = rn at *
        go_wp2_with fail
        go_ret3
        unfold MgPost
        rw [HX1.out]
        exact ⟨_, rfl, HX8.out.own, HX8.out.below⟩
      · have HX1 : Hid (apX a es = ([], 0, 5)) := hide (by rw [HX0.out, if_neg hl20])
        have hl' : (20 : Int) < (r.length : Int) := by omega
        clear HX0
        generalize r.length = rn at *
        go_wp2_with fail
        go_ret3
        unfold MgPost
        rw [HX1.out]
        exact ⟨_, rfl, OwnS.nil _ _, HX8.out.below⟩
      -- END2
end Go.Proofs.YtmpegkojencbjaaDoor
/- School: Invert. -/
namespace Go.Proofs.YtmpegkojencbjaaDoor
open Go Go.RowKit Go.Shelf
set_option maxHeartbeats 8000000
set_option maxRecDepth 100000
/-- by how much the first k edits move what stands behind them -/
def mvN (es : List Ed) : Nat → Int
  | 0 => 0
  | k + 1 => mvF (mvN es k) (es.getD k e0)
/-- what undoes the first k edits -/
def ivP (es : List Ed) : Nat → List Ed
  | 0 => []
  | k + 1 => ivP es k ++ [invE (mvN es k) (es.getD k e0)]
/-- whether none of them stands behind word 20 -/
def ivC (es : List Ed) : Nat → Bool
  | 0 => true
  | k + 1 => ivC es k && decide ((es.getD k e0).at_ + mvN es k ≤ 20)
/-- what Invert returns of a list of the right form, and for any list -/
def ivX (es : List Ed) : List Ed × Int := if ivC es es.length = true then (ivP es es.length, 0) else ([], 5)
def ivR (es : List Ed) : List Ed × Int := if formB es = false then ([], 4) else ivX es
def IvPost (w : World) (r : List Ed × Int) (e : Ending) (w' : World) : Prop :=
  ∃ v, e = .returned (.tuple #[v, .int .i64 r.2]) ∧ OwnE w' w.heap.size v r.1 ∧ Below w.heap.size w w'
theorem ivC_no {es : List Ed} {k : Nat} (h : ¬ (es.getD k e0).at_ + mvN es k ≤ 20) : ∀ n, k < n → ivC es n = false
  | 0, hn => absurd hn (by omega)
  | n + 1, hn => by
    show (ivC es n && decide ((es.getD n e0).at_ + mvN es n ≤ 20)) = false
    by_cases e : k = n
    · subst e; rw [decide_eq_false h, Bool.and_false]
    · rw [ivC_no h n (by omega)]; rfl
theorem mvN_bd (es : List Ed) : ∀ k : Nat, -(k : Int) ≤ mvN es k ∧ mvN es k ≤ k
  | 0 => by show -((0 : Nat) : Int) ≤ 0 ∧ (0 : Int) ≤ _; omega
  | k + 1 => by
    have ih := mvN_bd es k
    show -((k + 1 : Nat) : Int) ≤ mvF _ _ ∧ mvF _ _ ≤ ((k + 1 : Nat) : Int)
    unfold mvF
    split
    · omega
    · split <;> omega
theorem ivP_len (es : List Ed) : ∀ k, (ivP es k).length = k
  | 0 => rfl
  | k + 1 => by show (ivP es k ++ [_]).length = _; rw [List.length_append, ivP_len es k]; rfl
/-- what is done behind the load of the edit, and of what undoes it -/
theorem Invert_any (B : Option Addr) (d : Nat) (es : List Ed) (w : World) (he : es.length ≤ 100000) (hz : ∀ e ∈ es, e.old.size ≤ maxLen ∧ e.new.size ≤ maxLen) (hB : EdR w w.heap.size B es) :
    Calls Tryd.prog 44 #[.slice B es.length d] w (IvPost w (ivR es)) := by
  have HFM := isForm_any B d es w he hB hz
  have HB := hide hB
  obtain ⟨n, hn⟩ : ∃ n, es.length = n := ⟨_, rfl⟩
  have HN := hide hn
  rw [hn] at HFM ⊢
  clear he hz hB hn
  unfold ivR
  rcases hf : formB es with _ | _
  · rw [hf] at HFM
    have HFM := hide HFM
    rw [if_pos rfl]
    unfold IvPost
    go_enter Tryd.func44, Tryd.ntmps44
    go_wp2_with fail
    refine HFM.out.mono ?_
    rintro e w3 ⟨rfl, hb3⟩
    go_wp2_with fail
    go_ret2
    exact ⟨_, rfl, OwnE.nil _ _, hb3⟩
  rw [hf] at HFM
  have HFM := hide HFM
  rw [if_neg (by decide)]
  have HFO := hide hf
  have hm40 : n ≤ 40 := by rw [← HN.out]; exact form_len hf
  clear hf
  go_enter Tryd.func44, Tryd.ntmps44
  go_wp2_with fail
  refine HFM.out.mono ?_
  rintro e w3 ⟨rfl, hb3⟩
  have H3 := hide hb3
  clear hb3 HFM
  go_wp2_with fail
  go_loopw [2, 4, 13] (fun v mv i wr => ∃ (k : Nat) (vl : Value), k ≤ n ∧ i = .int .i64 k ∧ mv = .int .i64 (mvN es k) ∧ v = vl ∧ Hid (ivC es k = true) ∧ Hid (OwnE wr w.heap.size vl (ivP es k)) ∧ Hid (Below w.heap.size w wr)) (fun _ _ i _ => n - (intOf i).toNat)
  case atStart => exact ⟨0, _, Nat.zero_le _, rfl, rfl, rfl, hide rfl, hide (OwnE.nil _ _), H3⟩
  case round =>
    obtain ⟨k, vl, hk, rfl, rfl, rfl, HC, HO, HBW⟩ := hrel
    clear H3
    by_cases hlt : k < n
    · -- BEGIN1
      have hlt' : (k : Int) < (n : Int) := by omega
      have k0 : (0 : Int) ≤ (k : Int) := by omega
      obtain ⟨vA, vc, hv⟩ := own_shape HO.out
      subst hv
      rw [ivP_len] at HO ⊢
      obtain ⟨e, he⟩ : ∃ e, es.getD k e0 = e := ⟨_, rfl⟩
      obtain ⟨xb, xo, rfl, hxb, a0, a1, a2, a3⟩ := HB.out.at_ (by rw [HN.out]; exact hlt) he
      have hfl := form_lo HFO.out (k := k) (by rw [HN.out]; exact hlt)
      rw [he] at hfl
      have HE := hide he
      clear he
      obtain ⟨x0, x1, x2, x3⟩ := e
      dsimp only at a0 a1 a2 a3 hfl
      have c0 := (HBW.out.cell (p := ⟨xb, xo + k * 4, none⟩) hxb).trans a0
      have c1 := (HBW.out.cell (p := ⟨xb, xo + k * 4 + 1, none⟩) hxb).trans a1
      have c2 := (HBW.out.cell (p := ⟨xb, xo + k * 4 + 2, none⟩) hxb).trans a2
      have c3 := (HBW.out.cell (p := ⟨xb, xo + k * 4 + 3, none⟩) hxb).trans a3
      clear a0 a1 a2 a3
      obtain ⟨mv, hmv⟩ : ∃ v, mvN es k = v := ⟨_, rfl⟩
      have hbd := mvN_bd es k
      rw [hmv] at hbd ⊢
      have HMV := hide hmv
      obtain ⟨hx1, hx2, hx3⟩ := hfl
      have wm : IntKind.i64.wrap (x1 + mv) = x1 + mv := IntWalk.i64_in _ (by omega)
      have wp : IntKind.i64.wrap (mv + 1) = mv + 1 := IntWalk.i64_in _ (by omega)
      have wn : IntKind.i64.wrap (mv - 1) = mv - 1 := IntWalk.i64_in _ (by omega)
      clear hmv hbd hx1 hx2
      go_upto_region 8 with fail
      have B1 : Hid (Below wr.heap.size wr ((wr.alloc (.cells #[.int .i64 x0, .int .i64 x1, .string x2, .string x3] 86)).alloc (.cells #[.int .i64 x0, .int .i64 (x1 + mv), .string x3, .string x2] 86))) := hide (((Below.refl _ _).alloc (Nat.le_refl _) _).alloc (by simp) _)
      have E1 := hide ((Blk.new wr 86 #[.int .i64 x0, .int .i64 x1, .string x2, .string x3]).alloc (.cells #[.int .i64 x0, .int .i64 (x1 + mv), .string x3, .string x2] 86))
      have Y1 := hide (Blk.new (wr.alloc (.cells #[.int .i64 x0, .int .i64 x1, .string x2, .string x3] 86)) 86 #[.int .i64 x0, .int .i64 (x1 + mv), .string x3, .string x2])
      have hsz : (wr.alloc (.cells #[.int .i64 x0, .int .i64 x1, .string x2, .string x3] 86)).heap.size = wr.heap.size + 1 := by simp
      rw [hsz] at Y1
      have HSZ := hide (Nat.le_refl wr.heap.size)
      obtain ⟨g, hg⟩ : ∃ g, wr.heap.size = g := ⟨_, rfl⟩
      have HG := hide hg
      rw [hg] at Y1 E1 ⊢
      clear hsz hg c0 c1 c2 c3
      generalize ((wr.alloc (.cells #[.int .i64 x0, .int .i64 x1, .string x2, .string x3] 86)).alloc (.cells #[.int .i64 x0, .int .i64 (x1 + mv), .string x3, .string x2] 86)) = w1 at B1 E1 Y1 ⊢
      obtain ⟨f0, f1, f2, f3, f4⟩ := blk4 E1.out
      rcases hx3 with rfl | rfl | rfl
      · have B2 := B1
        have Y2 := Y1
        obtain ⟨y0, y1, y2, y3, y4⟩ := blk4 Y2.out
        by_cases h20 : x1 + mv ≤ 20
        · have h20' : ¬ 20 < x1 + mv := by omega
          have HC2 : Hid (ivC es (k + 1) = true) := hide (by
            show (ivC es k && decide ((es.getD k e0).at_ + mvN es k ≤ 20)) = true
            rw [HC.out, HE.out, HMV.out, decide_eq_true h20]; rfl)
          obtain ⟨A2, c2', w9, hrun, ho, hg⟩ := (HO.out.ext B2.out).push ⟨1, x1 + mv, x3, x2⟩ (by rw [ivP_len]; omega) (Nat.le_trans HBW.out.size B2.out.size)
          have HB9 : Hid (Below w.heap.size w w9) := hide (((HBW.out.trans ((B2.out.trans ((Below.refl _ _).alloc (Nat.le_refl _) _ |>.mono B2.out.size)).mono HBW.out.size))).grown hg (Nat.le_trans HBW.out.size (Nat.le_trans B2.out.size (by simp))) (fun k hk => (World.ownsRow.lt HO.out k hk).1))
          have HO9 : Hid (OwnE w9 w.heap.size (.slice A2 ((ivP es k).length + 1) c2') (ivP es (k + 1))) := hide (by
            show OwnE _ _ _ (ivP es k ++ [invE (mvN es k) (es.getD k e0)])
            rw [HE.out, HMV.out]
            exact ho)
          dsimp only at hrun
          have HRUN := hide hrun
          clear hrun ho hg h20
          rw [ivP_len] at HRUN HO9
          go_wp2_with (at_builtin; refine wpList_append_run rfl (.tmp 43) (.tmp 45) 26 rfl rfl rfl HRUN.out ?_)
          go_roundw
          case rel => exact ⟨k + 1, _, by omega, by go_num, by rw [show mvN es (k + 1) = mvF (mvN es k) (es.getD k e0) from rfl, HE.out, HMV.out]; rfl, rfl, HC2, HO9, HB9⟩
          case measure => simp [intOf]; omega
        · have h20' : 20 < x1 + mv := by omega
          go_wp2_with fail
          go_ret2
          unfold IvPost ivX
          rw [if_neg (by rw [ivC_no (k := k) (by rw [HE.out, HMV.out]; dsimp only; omega) _ (by rw [HN.out]; exact hlt)]; decide)]
          exact ⟨_, rfl, OwnE.nil _ _, HBW.out.trans (B2.out.mono HBW.out.size)⟩
      · have Y2 : Hid (Blk (w1.setCell ⟨g + 1, 0, none⟩ (.int .i64 3)) (g + 1) 86 #[.int .i64 3, .int .i64 (x1 + mv), .string x3, .string x2]) := hide (Y1.out.set_ 0 (.int .i64 3))
        have B2 : Hid (Below wr.heap.size wr (w1.setCell ⟨g + 1, 0, none⟩ (.int .i64 3))) := hide (B1.out.setCell (p := ⟨g + 1, 0, none⟩) (by rw [HG.out]; exact Nat.le_succ _) _)
        obtain ⟨z0, z1, z2, z3, z4⟩ := blk4 Y1.out
        have zf := Y1.out.frozen 0
        go_upto_region 14 with fail
        clear f0 f1 f2 f3 f4 z0 z1 z2 z3 z4 zf
        generalize (w1.setCell ⟨g + 1, 0, none⟩ (.int .i64 3)) = w2 at Y2 B2 ⊢
        obtain ⟨y0, y1, y2, y3, y4⟩ := blk4 Y2.out
        by_cases h20 : x1 + mv ≤ 20
        · have h20' : ¬ 20 < x1 + mv := by omega
          have HC2 : Hid (ivC es (k + 1) = true) := hide (by
            show (ivC es k && decide ((es.getD k e0).at_ + mvN es k ≤ 20)) = true
            rw [HC.out, HE.out, HMV.out, decide_eq_true h20]; rfl)
          obtain ⟨A2, c2', w9, hrun, ho, hg⟩ := (HO.out.ext B2.out).push ⟨3, x1 + mv, x3, x2⟩ (by rw [ivP_len]; omega) (Nat.le_trans HBW.out.size B2.out.size)
          have HB9 : Hid (Below w.heap.size w w9) := hide (((HBW.out.trans ((B2.out.trans ((Below.refl _ _).alloc (Nat.le_refl _) _ |>.mono B2.out.size)).mono HBW.out.size))).grown hg (Nat.le_trans HBW.out.size (Nat.le_trans B2.out.size (by simp))) (fun k hk => (World.ownsRow.lt HO.out k hk).1))
          have HO9 : Hid (OwnE w9 w.heap.size (.slice A2 ((ivP es k).length + 1) c2') (ivP es (k + 1))) := hide (by
            show OwnE _ _ _ (ivP es k ++ [invE (mvN es k) (es.getD k e0)])
            rw [HE.out, HMV.out]
            exact ho)
          dsimp only at hrun
          have HRUN := hide hrun
          clear hrun ho hg h20
          rw [ivP_len] at HRUN HO9
          go_wp2_with (at_builtin; refine wpList_append_run rfl (.tmp 43) (.tmp 45) 26 rfl rfl rfl HRUN.out ?_)
          go_roundw
          case rel => exact ⟨k + 1, _, by omega, by go_num, by rw [show mvN es (k + 1) = mvF (mvN es k) (es.getD k e0) from rfl, HE.out, HMV.out]; rfl, rfl, HC2, HO9, HB9⟩
          case measure => simp [intOf]; omega
        · have h20' : 20 < x1 + mv := by omega
          go_wp2_with fail
          go_ret2
          unfold IvPost ivX
          rw [if_neg (by rw [ivC_no (k := k) (by rw [HE.out, HMV.out]; dsimp only; omega) _ (by rw [HN.out]; exact hlt)]; decide)]
          exact ⟨_, rfl, OwnE.nil _ _, HBW.out.trans (B2.out.mono HBW.out.size)⟩
      · have Y2 : Hid (Blk (w1.setCell ⟨g + 1, 0, none⟩ (.int .i64 2)) (g + 1) 86 #[.int .i64 2, .int .i64 (x1 + mv), .string x3, .string x2]) := hide (Y1.out.set_ 0 (.int .i64 2))
        have B2 : Hid (Below wr.heap.size wr (w1.setCell ⟨g + 1, 0, none⟩ (.int .i64 2))) := hide (B1.out.setCell (p := ⟨g + 1, 0, none⟩) (by rw [HG.out]; exact Nat.le_succ _) _)
        obtain ⟨z0, z1, z2, z3, z4⟩ := blk4 Y1.out
        have zf := Y1.out.frozen 0
        go_upto_region 11 with fail
        clear f0 f1 f2 f3 f4 z0 z1 z2 z3 z4 zf
        generalize (w1.setCell ⟨g + 1, 0, none⟩ (.int .i64 2)) = w2 at Y2 B2 ⊢
        obtain ⟨y0, y1, y2, y3, y4⟩ := blk4 Y2.out
        by_cases h20 : x1 + mv ≤ 20
        · have h20' : ¬ 20 < x1 + mv := by omega
          have HC2 : Hid (ivC es (k + 1) = true) := hide (by
            show (ivC es k && decide ((es.getD k e0).at_ + mvN es k ≤ 20)) = true
            rw [HC.out, HE.out, HMV.out, decide_eq_true h20]; rfl)
          obtain ⟨A2, c2', w9, hrun, ho, hg⟩ := (HO.out.ext B2.out).push ⟨2, x1 + mv, x3, x2⟩ (by rw [ivP_len]; omega) (Nat.le_trans HBW.out.size B2.out.size)
          have HB9 : Hid (Below w.heap.size w w9) := hide (((HBW.out.trans ((B2.out.trans ((Below.refl _ _).alloc (Nat.le_refl _) _ |>.mono B2.out.size)).mono HBW.out.size))).grown hg (Nat.le_trans HBW.out.size (Nat.le_trans B2.out.size (by simp))) (fun k hk => (World.ownsRow.lt HO.out k hk).1))
          have HO9 : Hid (OwnE w9 w.heap.size (.slice A2 ((ivP es k).length + 1) c2') (ivP es (k + 1))) := hide (by
            show OwnE _ _ _ (ivP es k ++ [invE (mvN es k) (es.getD k e0)])
            rw [HE.out, HMV.out]
            exact ho)
          dsimp only at hrun
          have HRUN := hide hrun
          clear hrun ho hg h20
          rw [ivP_len] at HRUN HO9
          go_wp2_with (at_builtin; refine wpList_append_run rfl (.tmp 43) (.tmp 45) 26 rfl rfl rfl HRUN.out ?_)
          go_roundw
          case rel => exact ⟨k + 1, _, by omega, by go_num, by rw [show mvN es (k + 1) = mvF (mvN es k) (es.getD k e0) from rfl, HE.out, HMV.out]; rfl, rfl, HC2, HO9, HB9⟩
          case measure => simp [intOf]; omega
        · have h20' : 20 < x1 + mv := by omega
          go_wp2_with fail
          go_ret2
          unfold IvPost ivX
          rw [if_neg (by rw [ivC_no (k := k) (by rw [HE.out, HMV.out]; dsimp only; omega) _ (by rw [HN.out]; exact hlt)]; decide)]
          exact ⟨_, rfl, OwnE.nil _ _, HBW.out.trans (B2.out.mono HBW.out.size)⟩
      -- END1
    · -- BEGIN2
      obtain rfl : k = n := by omega
      have hnl : ¬ (k : Int) < (k : Int) := by omega
      go_wp2_with fail
      go_ret2
      unfold IvPost ivX
      rw [HN.out, if_pos HC.out]
      exact ⟨_, rfl, HO.out, HBW.out⟩
      -- END2
end Go.Proofs.YtmpegkojencbjaaDoor
/- School, plain: the edits between two texts have the right form, make the other text, and are undone by what Invert returns. -/
namespace Go.Proofs.YtmpegkojencbjaaDoor
open Go Go.RowKit Go.Shelf
set_option maxHeartbeats 4000000
set_option maxRecDepth 100000
/-- edits in order, of the right form each: the right form -/
theorem ord_fmO : ∀ {l : List Ed} {i : Nat}, OrdE i l → (∀ e ∈ l, 0 ≤ e.at_) → ∀ k, k + 1 < l.length → fmO l (k + 1) = true
  | [], _, _, _, k, hk => absurd hk (by simp)
  | e :: es, i, h, h0, k, hk => by
    cases k with
    | succ k =>
      have ih := ord_fmO h.2 (fun f hf => h0 f (List.mem_cons_of_mem _ hf)) k (by simpa using hk)
      rw [fmO_succ] at ih ⊢
      exact ih
    | zero =>
      cases es with
      | nil => simp at hk
      | cons f es =>
        rw [fmO_succ]
        have h1 := h.2.1
        have h2 := h0 e List.mem_cons_self
        refine decide_eq_true ?_
        show e.at_ < f.at_ ∨ (f.at_ = e.at_ ∧ e.ki = 3)
        by_cases h3 : e.ki = 3
        · rw [if_pos h3] at h1
          by_cases h4 : e.at_ < f.at_
          · exact .inl h4
          · exact .inr ⟨by omega, h3⟩
        · rw [if_neg h3] at h1
          exact .inl (by omega)
theorem form_of {l : List Ed} (hl : l.length ≤ 40) (ho : OrdE 0 l) (h : ∀ e ∈ l, fmE e = true) : formB l = true := by
  have h0 : ∀ e ∈ l, 0 ≤ e.at_ := fun e he => by
    have := h e he
    unfold fmE at this
    rw [Bool.and_eq_true, Bool.and_eq_true] at this
    exact of_decide_eq_true this.1.1
  have key : ∀ n, n ≤ l.length → fmF l n = true := fun n => by
    induction n with
    | zero => intro _; rfl
    | succ n ih =>
      intro hn
      show (fmF l n && (fmE (l.getD n e0) && fmO l n)) = true
      rw [ih (by omega), h _ (by rw [List.getD_eq_getElem?_getD, List.getElem?_eq_getElem (by omega)]; exact List.getElem_mem _)]
      have : fmO l n = true := by
        cases n with
        | zero => rfl
        | succ n => exact ord_fmO ho h0 n (by omega)
      rw [this]; rfl
  unfold formB
  rw [decide_eq_true hl, key _ (Nat.le_refl _)]; rfl
theorem alL_ord : ∀ (a : List Wd) (i : Nat) (b : List Wd), OrdE i (alL a i b)
  | [], i, b => by
    rw [alL_nil]
    induction b with
    | nil => trivial
    | cons y b ih => exact ⟨Int.le_refl _, by show OrdE (if (3 : Int) = 3 then ((i : Int)).toNat else _) _; rw [if_pos rfl]; exact ih⟩
  | x :: a, i, [] => by
    rw [alL_end]
    exact ⟨Int.le_refl _, by show OrdE (if (2 : Int) = 3 then _ else ((i : Int)).toNat + 1) _; rw [if_neg (by decide)]; exact alL_ord a (i + 1) []⟩
  | x :: a, i, y :: b => by
    rw [alL_cons]
    by_cases e0 : x = y
    · rw [if_pos e0]; exact (alL_ord a (i + 1) b).less (by omega)
    · rw [if_neg e0]
      by_cases e1 : dsL (x :: a) (y :: b) = 1 + dsL a b
      · rw [if_pos e1]
        exact ⟨Int.le_refl _, by show OrdE (if (1 : Int) = 3 then _ else ((i : Int)).toNat + 1) _; rw [if_neg (by decide)]; exact alL_ord a (i + 1) b⟩
      · rw [if_neg e1]
        by_cases e2 : dsL (x :: a) (y :: b) = 1 + dsL a (y :: b)
        · rw [if_pos e2]
          exact ⟨Int.le_refl _, by show OrdE (if (2 : Int) = 3 then _ else ((i : Int)).toNat + 1) _; rw [if_neg (by decide)]; exact alL_ord a (i + 1) (y :: b)⟩
        · rw [if_neg e2]
          exact ⟨Int.le_refl _, by show OrdE (if (3 : Int) = 3 then ((i : Int)).toNat else _) _; rw [if_pos rfl]; exact alL_ord (x :: a) i b⟩
theorem inv_ord : ∀ (a : List Wd) (i : Nat) (b : List Wd) (j : Nat) (d : Int), (j : Int) = i + d → OrdE j (invL d (alL a i b))
  | [], i, b, j, d => by
    rw [alL_nil]
    induction b generalizing j d with
    | nil => intro _; trivial
    | cons y b ih =>
      intro h
      refine ⟨by show (j : Int) ≤ (i : Int) + d; omega, ?_⟩
      show OrdE (if bkF 3 = 3 then _ else ((i : Int) + d).toNat + 1) _
      rw [if_neg (by decide), show ((i : Int) + d).toNat + 1 = j + 1 by omega]
      exact ih (j + 1) (d + 1) (by omega)
  | x :: a, i, [], j, d => by
    intro h
    rw [alL_end]
    refine ⟨by show (j : Int) ≤ (i : Int) + d; omega, ?_⟩
    show OrdE (if bkF 2 = 3 then ((i : Int) + d).toNat else _) (invL (d - 1) (alL a (i + 1) []))
    rw [if_pos (by decide), show ((i : Int) + d).toNat = j by omega]
    exact inv_ord a (i + 1) [] j (d - 1) (by omega)
  | x :: a, i, y :: b, j, d => by
    intro h
    rw [alL_cons]
    by_cases e0 : x = y
    · rw [if_pos e0]; exact (inv_ord a (i + 1) b (j + 1) d (by omega)).less (by omega)
    · rw [if_neg e0]
      by_cases e1 : dsL (x :: a) (y :: b) = 1 + dsL a b
      · rw [if_pos e1]
        refine ⟨by show (j : Int) ≤ (i : Int) + d; omega, ?_⟩
        show OrdE (if bkF 1 = 3 then _ else ((i : Int) + d).toNat + 1) (invL d (alL a (i + 1) b))
        rw [if_neg (by decide), show ((i : Int) + d).toNat + 1 = j + 1 by omega]
        exact inv_ord a (i + 1) b (j + 1) d (by omega)
      · rw [if_neg e1]
        by_cases e2 : dsL (x :: a) (y :: b) = 1 + dsL a (y :: b)
        · rw [if_pos e2]
          refine ⟨by show (j : Int) ≤ (i : Int) + d; omega, ?_⟩
          show OrdE (if bkF 2 = 3 then ((i : Int) + d).toNat else _) (invL (d - 1) (alL a (i + 1) (y :: b)))
          rw [if_pos (by decide), show ((i : Int) + d).toNat = j by omega]
          exact inv_ord a (i + 1) (y :: b) j (d - 1) (by omega)
        · rw [if_neg e2]
          refine ⟨by show (j : Int) ≤ (i : Int) + d; omega, ?_⟩
          show OrdE (if bkF 3 = 3 then _ else ((i : Int) + d).toNat + 1) (invL (d + 1) (alL (x :: a) i b))
          rw [if_neg (by decide), show ((i : Int) + d).toNat + 1 = j + 1 by omega]
          exact inv_ord (x :: a) i b (j + 1) (d + 1) (by omega)
theorem inv_fit : ∀ (a : List Wd) (i : Nat) (b : List Wd) (j : Nat) (d : Int), (j : Int) = i + d → ∀ e ∈ invL d (alL a i b), EdFit b j e
  | [], i, b, j, d => by
    rw [alL_nil]
    induction b generalizing j d with
    | nil => intro _ e he; cases he
    | cons y b ih =>
      intro h e he
      rcases List.mem_cons.1 he with rfl | he
      · have := fit_here y b j 2 (.inr rfl) noW
        show EdFit (y :: b) j ⟨2, (i : Int) + d, y, noW⟩
        rw [← h]; exact this
      · exact (ih (j + 1) (d + 1) (by omega) e he).next
  | x :: a, i, [], j, d => by
    intro h e he
    rw [alL_end] at he
    rcases List.mem_cons.1 he with rfl | he
    · exact ⟨by show (j : Int) ≤ (i : Int) + d; omega, by show (i : Int) + d ≤ ((j + 0 : Nat) : Int); omega, .inl rfl⟩
    · exact inv_fit a (i + 1) [] j (d - 1) (by omega) e he
  | x :: a, i, y :: b, j, d => by
    intro h e he
    rw [alL_cons] at he
    by_cases e0 : x = y
    · rw [if_pos e0] at he; exact (inv_fit a (i + 1) b (j + 1) d (by omega) e he).next
    · rw [if_neg e0] at he
      by_cases e1 : dsL (x :: a) (y :: b) = 1 + dsL a b
      · rw [if_pos e1] at he
        rcases List.mem_cons.1 he with rfl | he
        · have := fit_here y b j 1 (.inl rfl) x
          show EdFit (y :: b) j ⟨1, (i : Int) + d, y, x⟩
          rw [← h]; exact this
        · exact (inv_fit a (i + 1) b (j + 1) d (by omega) e he).next
      · rw [if_neg e1] at he
        by_cases e2 : dsL (x :: a) (y :: b) = 1 + dsL a (y :: b)
        · rw [if_pos e2] at he
          rcases List.mem_cons.1 he with rfl | he
          · exact ⟨by show (j : Int) ≤ (i : Int) + d; omega, by show (i : Int) + d ≤ _; omega, .inl rfl⟩
          · exact inv_fit a (i + 1) (y :: b) j (d - 1) (by omega) e he
        · rw [if_neg e2] at he
          rcases List.mem_cons.1 he with rfl | he
          · have := fit_here y b j 2 (.inr rfl) noW
            show EdFit (y :: b) j ⟨2, (i : Int) + d, y, noW⟩
            rw [← h]; exact this
          · exact (inv_fit (x :: a) i b (j + 1) (d + 1) (by omega) e he).next
/-- what the edits hold -/
def KdE (a b : List Wd) (e : Ed) : Prop := (e.ki = 1 ∧ e.old ∈ a ∧ e.new ∈ b ∧ e.old ≠ e.new) ∨ (e.ki = 2 ∧ e.old ∈ a ∧ e.new = noW) ∨ (e.ki = 3 ∧ e.new ∈ b ∧ e.old = noW)
theorem KdE.more {a b a' b' : List Wd} {e : Ed} (h : KdE a b e) (ha : ∀ x ∈ a, x ∈ a') (hb : ∀ x ∈ b, x ∈ b') : KdE a' b' e := by
  rcases h with ⟨h1, h2, h3, h4⟩ | ⟨h1, h2, h3⟩ | ⟨h1, h2, h3⟩
  · exact .inl ⟨h1, ha _ h2, hb _ h3, h4⟩
  · exact .inr (.inl ⟨h1, ha _ h2, h3⟩)
  · exact .inr (.inr ⟨h1, hb _ h2, h3⟩)
theorem alL_kind : ∀ (a : List Wd) (i : Nat) (b : List Wd), ∀ e ∈ alL a i b, KdE a b e
  | [], i, b => by
    intro e he
    rw [alL_nil] at he
    obtain ⟨y, hy, rfl⟩ := List.mem_map.1 he
    exact .inr (.inr ⟨rfl, hy, rfl⟩)
  | x :: a, i, [] => by
    intro e he
    rw [alL_end] at he
    rcases List.mem_cons.1 he with rfl | he
    · exact .inr (.inl ⟨rfl, List.mem_cons_self, rfl⟩)
    · exact (alL_kind a (i + 1) [] e he).more (fun _ h => List.mem_cons_of_mem _ h) (fun _ h => h)
  | x :: a, i, y :: b => by
    intro e he
    rw [alL_cons] at he
    have ca : ∀ z ∈ a, z ∈ x :: a := fun _ h => List.mem_cons_of_mem _ h
    have cb : ∀ z ∈ b, z ∈ y :: b := fun _ h => List.mem_cons_of_mem _ h
    by_cases e0 : x = y
    · rw [if_pos e0] at he; exact (alL_kind a (i + 1) b e he).more ca cb
    · rw [if_neg e0] at he
      by_cases e1 : dsL (x :: a) (y :: b) = 1 + dsL a b
      · rw [if_pos e1] at he
        rcases List.mem_cons.1 he with rfl | he
        · exact .inl ⟨rfl, List.mem_cons_self, List.mem_cons_self, e0⟩
        · exact (alL_kind a (i + 1) b e he).more ca cb
      · rw [if_neg e1] at he
        by_cases e2 : dsL (x :: a) (y :: b) = 1 + dsL a (y :: b)
        · rw [if_pos e2] at he
          rcases List.mem_cons.1 he with rfl | he
          · exact .inr (.inl ⟨rfl, List.mem_cons_self, rfl⟩)
          · exact (alL_kind a (i + 1) (y :: b) e he).more ca (fun _ h => h)
        · rw [if_neg e2] at he
          rcases List.mem_cons.1 he with rfl | he
          · exact .inr (.inr ⟨rfl, List.mem_cons_self, rfl⟩)
          · exact (alL_kind (x :: a) i b e he).more (fun _ h => h) cb
theorem inv_kind {a b : List Wd} : ∀ (es : List Ed) (d : Int), (∀ e ∈ es, KdE a b e) → ∀ e ∈ invL d es, KdE b a e
  | [], _, _, e, he => by cases he
  | f :: es, d, h, e, he => by
    rcases List.mem_cons.1 he with rfl | he
    · rcases h f List.mem_cons_self with ⟨h1, h2, h3, h4⟩ | ⟨h1, h2, h3⟩ | ⟨h1, h2, h3⟩
      · exact .inl ⟨by show bkF f.ki = 1; rw [h1]; rfl, h3, h2, fun e => h4 e.symm⟩
      · exact .inr (.inr ⟨by show bkF f.ki = 3; rw [h1]; rfl, h2, h3⟩)
      · exact .inr (.inl ⟨by show bkF f.ki = 2; rw [h1]; rfl, h2, h3⟩)
    · exact inv_kind es _ (fun g hg => h g (List.mem_cons_of_mem _ hg)) e he
theorem text_word {a : List Wd} (h : textB a = true) : ∀ x ∈ a, wordB x = true := by
  unfold textB at h
  rw [Bool.and_eq_true] at h
  exact fun x hx => List.all_eq_true.1 h.2 x hx
theorem kind_fmE {a b : List Wd} (ha : textB a = true) (hb : textB b = true) {e : Ed} (h : KdE a b e) (hf : EdFit a 0 e) : fmE e = true := by
  have hl := textB_len ha
  have h1 := hf.1
  have h2 := hf.2.1
  unfold fmE
  rw [decide_eq_true (show 0 ≤ e.at_ by omega), decide_eq_true (show e.at_ ≤ 20 by omega)]
  show fmK e = true
  unfold fmK
  rcases h with ⟨h1, h2, h3, h4⟩ | ⟨h1, h2, h3⟩ | ⟨h1, h2, h3⟩
  · rw [if_pos h1, text_word ha _ h2, text_word hb _ h3, decide_eq_true h4]; rfl
  · rw [if_neg (by omega), if_pos h1, text_word ha _ h2, decide_eq_true h3]; rfl
  · rw [if_neg (by omega), if_neg (by omega), if_pos h1, text_word hb _ h2, decide_eq_true h3]; rfl
theorem al_form {a b : List Wd} (ha : textB a = true) (hb : textB b = true) : formB (alL a 0 b) = true := by
  refine form_of ?_ (alL_ord a 0 b) (fun e he => kind_fmE ha hb (alL_kind a 0 b e he) (alL_fit a 0 b e he))
  have := dsL_le a b
  have := textB_len ha
  have := textB_len hb
  rw [alL_len]; omega
theorem inv_form {a b : List Wd} (ha : textB a = true) (hb : textB b = true) : formB (invL 0 (alL a 0 b)) = true := by
  refine form_of ?_ (inv_ord a 0 b 0 0 rfl) (fun e he => kind_fmE hb ha (inv_kind _ 0 (alL_kind a 0 b) e he) (inv_fit a 0 b 0 0 rfl e he))
  have := dsL_le a b
  have := textB_len ha
  have := textB_len hb
  rw [invL_len, alL_len]; omega
theorem apR_fit {a b : List Wd} {es : List Ed} (ha : textB a = true) (hb : textB b = true) (hf : formB es = true) (h : ∀ e ∈ es, EdFit a 0 e) (hr : resF es a 0 = b) : apR a es = (b, 0, 0) := by
  unfold apR
  rw [if_neg (by rw [ha]; decide), if_neg (by rw [hf]; decide)]
  unfold apX
  rw [apC_none (fun e he => edE_ok (h e he).ok) _ (Nat.le_refl _), apI_all, hr]
  exact if_pos (textB_len hb)
/-- **Align's edits make the other text** -/
theorem al_apR {a b : List Wd} (ha : textB a = true) (hb : textB b = true) : apR a (alL a 0 b) = (b, 0, 0) :=
  apR_fit ha hb (al_form ha hb) (alL_fit a 0 b) (alL_res a 0 b)
/-- **what Invert returns undoes them** -/
theorem inv_apR {a b : List Wd} (ha : textB a = true) (hb : textB b = true) : apR b (invL 0 (alL a 0 b)) = (a, 0, 0) :=
  apR_fit hb ha (inv_form ha hb) (inv_fit a 0 b 0 0 rfl) (inv_res a 0 b 0 0 rfl)
def mvD (d : Int) (l : List Ed) : Nat → Int
  | 0 => d
  | k + 1 => mvF (mvD d l k) (l.getD k e0)
theorem mvD_cons (d : Int) (e : Ed) (l : List Ed) : ∀ k, mvD d (e :: l) (k + 1) = mvD (mvF d e) l k
  | 0 => rfl
  | k + 1 => by
    show mvF (mvD d (e :: l) (k + 1)) (l.getD k e0) = mvF (mvD (mvF d e) l k) (l.getD k e0)
    rw [mvD_cons d e l k]
theorem mvD_N (l : List Ed) : ∀ k, mvD 0 l k = mvN l k
  | 0 => rfl
  | k + 1 => by show mvF (mvD 0 l k) _ = mvF (mvN l k) _; rw [mvD_N l k]
theorem inv_get : ∀ (l : List Ed) (d : Int) (k : Nat), k < l.length → (invL d l).getD k e0 = invE (mvD d l k) (l.getD k e0)
  | [], _, _, h => absurd h (by simp)
  | e :: l, d, 0, _ => rfl
  | e :: l, d, k + 1, h => by
    show (invL (mvF d e) l).getD k e0 = invE (mvD d (e :: l) (k + 1)) (l.getD k e0)
    rw [inv_get l _ k (by simpa using h), mvD_cons]
theorem ivP_take (l : List Ed) : ∀ n, n ≤ l.length → ivP l n = (invL 0 l).take n
  | 0, _ => rfl
  | n + 1, h => by
    have h2 : n < (invL 0 l).length := by rw [invL_len]; omega
    show ivP l n ++ [_] = _
    rw [ivP_take l n (by omega), List.take_succ_eq_append_getElem h2]
    have h3 := inv_get l 0 n (by omega)
    rw [mvD_N, List.getD_eq_getElem?_getD, List.getElem?_eq_getElem h2] at h3
    rw [← h3]; rfl
/-- **Invert of Align's edits** -/
theorem al_ivR {a b : List Wd} (ha : textB a = true) (hb : textB b = true) : ivR (alL a 0 b) = (invL 0 (alL a 0 b), 0) := by
  unfold ivR
  rw [if_neg (by rw [al_form ha hb]; decide)]
  unfold ivX
  have hall : ∀ n, n ≤ (alL a 0 b).length → ivC (alL a 0 b) n = true := fun n => by
    induction n with
    | zero => intro _; rfl
    | succ n ih =>
      intro hn
      show (ivC _ n && decide _) = true
      rw [ih (by omega)]
      have h1 := inv_get (alL a 0 b) 0 n (by omega)
      have h2 := inv_fit a 0 b 0 0 rfl _ (getD_mem (es := invL 0 (alL a 0 b)) (k := n) (by rw [invL_len]; omega))
      rw [h1, mvD_N] at h2
      have h3 := h2.2.1
      have h4 := textB_len hb
      have h5 : (invE (mvN (alL a 0 b) n) ((alL a 0 b).getD n e0)).at_ = ((alL a 0 b).getD n e0).at_ + mvN (alL a 0 b) n := rfl
      rw [h5] at h3
      exact decide_eq_true (by omega)
  rw [if_pos (hall _ (Nat.le_refl _)), ivP_take _ _ (Nat.le_refl _), List.take_of_length_le (by rw [invL_len]; exact Nat.le_refl _)]
theorem kind_size {a b : List Wd} (ha : SzOk a) (hb : SzOk b) {e : Ed} (h : KdE a b e) : e.old.size ≤ maxLen ∧ e.new.size ≤ maxLen := by
  rcases h with ⟨h1, h2, h3, h4⟩ | ⟨h1, h2, h3⟩ | ⟨h1, h2, h3⟩
  · exact ⟨ha.2 _ h2, hb.2 _ h3⟩
  · exact ⟨ha.2 _ h2, by rw [h3]; exact Nat.zero_le _⟩
  · exact ⟨by rw [h3]; exact Nat.zero_le _, hb.2 _ h2⟩
end Go.Proofs.YtmpegkojencbjaaDoor
/- School: the reference's Form. -/
namespace Go.Proofs.YtmpegkojencbjaaDoor
open List renaming getElem_toArray → glA, getElem_cons_zero → glB, getElem_cons_succ → glC, setIfInBounds_toArray → glD, set_cons_zero → glE, set_cons_succ → glF
open Go Go.RowKit Go.Shelf
set_option maxHeartbeats 8000000
set_option maxRecDepth 100000
theorem refForm_any (A : Option Addr) (c : Nat) (l : List Ed) (w : World) (hl : l.length ≤ 100000) (hA : EdR w w.heap.size A l) (hz : ∀ e ∈ l, e.old.size ≤ maxLen ∧ e.new.size ≤ maxLen) :
    Calls Tryd.prog 45 #[.slice A l.length c] w fun e w' => e = .returned (.bool (formB l)) ∧ Below w.heap.size w w' := by
  have HA := hide hA
  have HZ := hide hz
  obtain ⟨n, hn⟩ : ∃ n, l.length = n := ⟨_, rfl⟩
  have HN := hide hn
  rw [hn] at hl ⊢
  clear hA hz hn
  by_cases h40 : 40 < n
  · have h40' : (40 : Int) < (n : Int) := by omega
    go_enter Tryd.func45, Tryd.ntmps45
    go_wp2_with fail
    go_ret
    refine ⟨ret_bool ?_, Below.refl _ _⟩
    unfold formB
    rw [HN.out, decide_eq_false (by omega)]; rfl
  have h40' : ¬ (40 : Int) < (n : Int) := by omega
  go_enter Tryd.func45, Tryd.ntmps45
  go_wp2_with fail
  go_loopw [3] (fun i wr => ∃ k : Nat, k ≤ n ∧ i = .int .i64 k ∧ Hid (fmF l k = true) ∧ Hid (Below w.heap.size w wr)) (fun i _ => n - (intOf i).toNat)
  case atStart => exact ⟨0, Nat.zero_le _, rfl, hide rfl, hide (Below.refl _ _)⟩
  case round =>
    obtain ⟨k, hk, rfl, HF, HBW⟩ := hrel
    by_cases hlt : k < n
    · have hlt' : (k : Int) < (n : Int) := by omega
      have k0 : (0 : Int) ≤ (k : Int) := by omega
      have hst : IntKind.i64.wrap ((k : Int) + 1) = ((k + 1 : Nat) : Int) := by rw [IntWalk.i64_in _ (by omega)]; omega
      obtain ⟨e, he⟩ : ∃ e, l.getD k e0 = e := ⟨_, rfl⟩
      obtain ⟨z1, z2⟩ := HZ.out e (by rw [← he]; exact getD_mem (by rw [HN.out]; exact hlt))
      obtain ⟨xb, xo, rfl, hxb, a0, a1, a2, a3⟩ := HA.out.at_ (by rw [HN.out]; exact hlt) he
      have HE := hide he
      have c0 := (HBW.out.cell (p := ⟨xb, xo + k * 4, none⟩) hxb).trans a0
      have c1 := (HBW.out.cell (p := ⟨xb, xo + k * 4 + 1, none⟩) hxb).trans a1
      have c2 := (HBW.out.cell (p := ⟨xb, xo + k * 4 + 2, none⟩) hxb).trans a2
      have c3 := (HBW.out.cell (p := ⟨xb, xo + k * 4 + 3, none⟩) hxb).trans a3
      clear he a0 a1 a2 a3
      obtain ⟨ki, at_, old, new⟩ := e
      dsimp only at c0 c1 c2 c3 z1 z2
      have HZ1 := hide z1
      have HZ2 := hide z2
      clear z1 z2
      go_upto_region 7 with fail
      have E1 := hide (Blk.new wr 86 #[.int .i64 ki, .int .i64 at_, .string old, .string new])
      have B1 := hide (HBW.out.trans (((Below.refl wr.heap.size wr).alloc (Nat.le_refl _) (.cells #[.int .i64 ki, .int .i64 at_, .string old, .string new] 86)).mono HBW.out.size))
      obtain ⟨g, hg⟩ : ∃ g, wr.heap.size = g := ⟨_, rfl⟩
      rw [hg] at E1 ⊢
      clear c0 c1 c2 c3 HBW hg
      generalize (wr.alloc (.cells #[.int .i64 ki, .int .i64 at_, .string old, .string new] 86)) = w1 at E1 B1 ⊢
      obtain ⟨g0, g1, g2, g3, g4⟩ := blk4 E1.out
      obtain ⟨f7, hf7⟩ : ∃ b, decide (ki < 1 ∨ 3 < ki ∨ at_ < 0 ∨ 20 < at_) = b := ⟨_, rfl⟩
      have HF7 := hide hf7
      clear hf7
      go_cut [35] (fun v w' => v = .bool f7 ∧ w' = w1)
      case first =>
        by_cases q1 : ki < 1
        · have hb : f7 = true := by rw [← HF7.out]; simp; omega
          subst hb
          go_wp2_with fail
          go_meet
          exact ⟨rfl, rfl⟩
        · by_cases q2 : 3 < ki
          · have hb : f7 = true := by rw [← HF7.out]; simp; omega
            subst hb
            go_wp2_with fail
            go_meet
            exact ⟨rfl, rfl⟩
          · by_cases q3 : at_ < 0
            · have hb : f7 = true := by rw [← HF7.out]; simp; omega
              subst hb
              go_wp2_with fail
              go_meet
              exact ⟨rfl, rfl⟩
            · by_cases q4 : 20 < at_
              · have hb : f7 = true := by rw [← HF7.out]; simp; omega
                subst hb
                go_wp2_with fail
                go_meet
                exact ⟨rfl, rfl⟩
              · have hb : f7 = false := by rw [← HF7.out]; simp; omega
                subst hb
                go_wp2_with fail
                go_meet
                exact ⟨rfl, rfl⟩
      obtain ⟨rfl, hw⟩ := hcut
      have hw := hw.symm
      subst hw
      rcases f7 with _ | _
      rotate_left
      · go_wp2_with fail
        go_ret
        refine ⟨ret_bool ?_, B1.out⟩
        rw [formB_no (by rw [HN.out]; exact hlt) (by
          have h := of_decide_eq_true HF7.out
          rw [HE.out, show fmE ⟨ki, at_, old, new⟩ = false from ?_]
          · rfl
          · unfold fmE
            dsimp only
            rcases h with h | h | h | h
            · rw [show fmK ⟨ki, at_, old, new⟩ = false from by unfold fmK; dsimp only; rw [if_neg (by omega), if_neg (by omega), if_neg (by omega)], Bool.and_false]
            · rw [show fmK ⟨ki, at_, old, new⟩ = false from by unfold fmK; dsimp only; rw [if_neg (by omega), if_neg (by omega), if_neg (by omega)], Bool.and_false]
            · rw [decide_eq_false (by omega)]; rfl
            · rw [decide_eq_false (show ¬ at_ ≤ 20 by omega), Bool.and_false]; rfl)]
      have hb7 : ¬ (ki < 1 ∨ 3 < ki ∨ at_ < 0 ∨ 20 < at_) := of_decide_eq_false HF7.out
      obtain ⟨fk, hfk⟩ : ∃ b, fmK ⟨ki, at_, old, new⟩ = b := ⟨_, rfl⟩
      have HFK := hide hfk
      have HFE : Hid (fmE ⟨ki, at_, old, new⟩ = fk) := hide (by
        unfold fmE
        dsimp only
        rw [decide_eq_true (show 0 ≤ at_ by omega), decide_eq_true (show at_ ≤ 20 by omega), hfk]; rfl)
      clear hfk
      go_upto_region 9 with fail
      go_cut [87] (fun v w' => v = .bool (!fk) ∧ w' = w1)
      case first =>
        -- BEGIN2
        rcases (by omega : ki = 1 ∨ ki = 2 ∨ ki = 3) with rfl | rfl | rfl
        · clear hb7
          rcases u1 : wordB old with _ | _
          · go_wp2_with fail
            refine (refWord_any old w1 HZ1.out).mono ?_
            rintro e _ ⟨rfl, rfl⟩
            rw [u1]
            have hb : fk = false := by rw [← HFK.out]; unfold fmK; simp [*]
            subst hb
            go_wp2_with fail
            go_meet
            exact ⟨rfl, rfl⟩
          · rcases u2 : wordB new with _ | _
            · go_wp2_with fail
              refine (refWord_any old w1 HZ1.out).mono ?_
              rintro e _ ⟨rfl, rfl⟩
              rw [u1]
              go_wp2_with fail
              refine (refWord_any new w1 HZ2.out).mono ?_
              rintro e _ ⟨rfl, rfl⟩
              rw [u2]
              have hb : fk = false := by rw [← HFK.out]; unfold fmK; simp [*]
              subst hb
              go_wp2_with fail
              go_meet
              exact ⟨rfl, rfl⟩
            · by_cases hon : old = new
              · subst hon
                go_wp2_with fail
                refine (refWord_any old w1 HZ1.out).mono ?_
                rintro e _ ⟨rfl, rfl⟩
                rw [u1]
                go_wp2_with fail
                refine (refWord_any old w1 HZ2.out).mono ?_
                rintro e _ ⟨rfl, rfl⟩
                rw [u2]
                have hb : fk = false := by rw [← HFK.out]; unfold fmK; simp [*]
                subst hb
                go_wp2_with fail
                go_meet
                exact ⟨rfl, rfl⟩
              · have q := str_ne hon
                go_wp2_with fail
                refine (refWord_any old w1 HZ1.out).mono ?_
                rintro e _ ⟨rfl, rfl⟩
                rw [u1]
                go_wp2_with fail
                refine (refWord_any new w1 HZ2.out).mono ?_
                rintro e _ ⟨rfl, rfl⟩
                rw [u2]
                have hb : fk = true := by rw [← HFK.out]; unfold fmK; simp [*]
                subst hb
                go_wp2_with fail
                go_meet
                exact ⟨rfl, rfl⟩
        · clear hb7
          rcases u1 : wordB old with _ | _
          · go_wp2_with fail
            refine (refWord_any old w1 HZ1.out).mono ?_
            rintro e _ ⟨rfl, rfl⟩
            rw [u1]
            have hb : fk = false := by rw [← HFK.out]; unfold fmK; simp [*]
            subst hb
            go_wp2_with fail
            go_meet
            exact ⟨rfl, rfl⟩
          · by_cases hon : new = noW
            · subst hon
              have e1 : (ByteArray.toList noW).isEmpty = true := by rw [noW_list]; rfl
              have e2 := noW_list
              go_wp2_with fail
              refine (refWord_any old w1 HZ1.out).mono ?_
              rintro e _ ⟨rfl, rfl⟩
              rw [u1]
              have hb : fk = true := by rw [← HFK.out]; unfold fmK; simp [*]
              subst hb
              go_wp2_with fail
              go_meet
              exact ⟨rfl, rfl⟩
            · have q := str_some hon
              go_wp2_with fail
              refine (refWord_any old w1 HZ1.out).mono ?_
              rintro e _ ⟨rfl, rfl⟩
              rw [u1]
              have hb : fk = false := by rw [← HFK.out]; unfold fmK; simp [*]
              subst hb
              go_wp2_with fail
              go_meet
              exact ⟨rfl, rfl⟩
        · clear hb7
          by_cases hon : old = noW
          · subst hon
            have e1 : (ByteArray.toList noW).isEmpty = true := by rw [noW_list]; rfl
            have e2 := noW_list
            rcases u1 : wordB new with _ | _
            · go_wp2_with fail
              refine (refWord_any new w1 HZ2.out).mono ?_
              rintro e _ ⟨rfl, rfl⟩
              rw [u1]
              have hb : fk = false := by rw [← HFK.out]; unfold fmK; simp [*]
              subst hb
              go_wp2_with fail
              go_meet
              exact ⟨rfl, rfl⟩
            · go_wp2_with fail
              refine (refWord_any new w1 HZ2.out).mono ?_
              rintro e _ ⟨rfl, rfl⟩
              rw [u1]
              have hb : fk = true := by rw [← HFK.out]; unfold fmK; simp [*]
              subst hb
              go_wp2_with fail
              go_meet
              exact ⟨rfl, rfl⟩
          · have q := str_some hon
            have hb : fk = false := by rw [← HFK.out]; unfold fmK; simp [*]
            subst hb
            go_wp2_with fail
            go_meet
            exact ⟨rfl, rfl⟩
        -- END2
      obtain ⟨rfl, hw⟩ := hcut
      have hw := hw.symm
      subst hw
      rcases fk with _ | _
      · go_wp2_with fail
        go_ret
        refine ⟨ret_bool ?_, B1.out⟩
        rw [formB_no (by rw [HN.out]; exact hlt) (by rw [HE.out, HFE.out]; rfl)]
      -- BEGIN3
      have HBd := hide (B1.out.trans ((Below.refl w1.heap.size w1).drew.mono B1.out.size))
      clear g0 g1 g3 g4
      by_cases hk0 : k = 0
      · have kz : ¬ 0 < k := by omega
        have HO : Hid (fmO l k = true) := hide (by rw [hk0]; rfl)
        clear hk0
        go_upto_region 11 with fail
        refine wp_region_J (fun W : World => W.cell? ⟨g, 1, none⟩ = some (.int .i64 at_)) (by kernel_rfl) ?_
        have hh : w1.drew.cell? ⟨g, 1, none⟩ = some (.int .i64 at_) := g2
        generalize w1.drew = wd at HBd hh ⊢
        refine wpAnyJ_take 0 (v := ?_) (by first | exact hF | exact wideFn) hh rfl (by kernel_rfl) (by kernel_rfl) (by kernel_rfl) (by kernel_rfl) rfl ?_ (by first | exact fun _ _ _ h => h | exact fun _ _ _ h => hQ2 _ _ _ _ _ h) ?_
        rotate_left
        · intro W hSW
          simp only [glA, glB, glC]
          (try dsimp only at hSW)
          go_simp
          with_reducible rfl
        (try simp only [glA, glB, glC, Act.put, glD, glE, glF])
        refine wpAnyJ_take 1 (v := ?_) (by first | exact hF | exact wideFn) hh rfl (by kernel_rfl) (by kernel_rfl) (by kernel_rfl) (by kernel_rfl) rfl ?_ (by first | exact fun _ _ _ h => h | exact fun _ _ _ h => hQ2 _ _ _ _ _ h) ?_
        rotate_left
        · intro W hSW
          simp only [glA, glB, glC]
          (try dsimp only at hSW)
          go_simp
          with_reducible rfl
        (try simp only [glA, glB, glC, Act.put, glD, glE, glF])
        refine wpAnyJ_take 2 (v := ?_) (by first | exact hF | exact wideFn) hh rfl (by kernel_rfl) (by kernel_rfl) (by kernel_rfl) (by kernel_rfl) rfl ?_ (by first | exact fun _ _ _ h => h | exact fun _ _ _ h => hQ2 _ _ _ _ _ h) ?_
        rotate_left
        · intro W hSW
          simp only [glA, glB, glC]
          (try dsimp only at hSW)
          go_simp
          with_reducible rfl
        (try simp only [glA, glB, glC, Act.put, glD, glE, glF])
        refine wpAnyJ_skip 3 (by first | exact hF | exact wideFn) hh rfl (by kernel_rfl) (by kernel_rfl) (by kernel_rfl) (by kernel_rfl) rfl (by first | exact fun _ _ _ h => h | exact fun _ _ _ h => hQ2 _ _ _ _ _ h) ?_
        (try simp only [glA, glB, glC, Act.put, glD, glE, glF])
        refine wpAnyJ_skip 4 (by first | exact hF | exact wideFn) hh rfl (by kernel_rfl) (by kernel_rfl) (by kernel_rfl) (by kernel_rfl) rfl (by first | exact fun _ _ _ h => h | exact fun _ _ _ h => hQ2 _ _ _ _ _ h) ?_
        (try simp only [glA, glB, glC, Act.put, glD, glE, glF])
        refine wpAnyJ_skip 5 (by first | exact hF | exact wideFn) hh rfl (by kernel_rfl) (by kernel_rfl) (by kernel_rfl) (by kernel_rfl) rfl (by first | exact fun _ _ _ h => h | exact fun _ _ _ h => hQ2 _ _ _ _ _ h) ?_
        (try simp only [glA, glB, glC, Act.put, glD, glE, glF])
        refine wpAnyJ_skip 6 (by first | exact hF | exact wideFn) hh rfl (by kernel_rfl) (by kernel_rfl) (by kernel_rfl) (by kernel_rfl) rfl (by first | exact fun _ _ _ h => h | exact fun _ _ _ h => hQ2 _ _ _ _ _ h) ?_
        (try simp only [glA, glB, glC, Act.put, glD, glE, glF])
        refine wpAnyJ_skip 7 (by first | exact hF | exact wideFn) hh rfl (by kernel_rfl) (by kernel_rfl) (by kernel_rfl) (by kernel_rfl) rfl (by first | exact fun _ _ _ h => h | exact fun _ _ _ h => hQ2 _ _ _ _ _ h) ?_
        (try simp only [glA, glB, glC, Act.put, glD, glE, glF])
        refine wpAnyJ_skip 8 (by first | exact hF | exact wideFn) hh rfl (by kernel_rfl) (by kernel_rfl) (by kernel_rfl) (by kernel_rfl) rfl (by first | exact fun _ _ _ h => h | exact fun _ _ _ h => hQ2 _ _ _ _ _ h) ?_
        (try simp only [glA, glB, glC, Act.put, glD, glE, glF])
        refine wpAnyJ_skip 9 (by first | exact hF | exact wideFn) hh rfl (by kernel_rfl) (by kernel_rfl) (by kernel_rfl) (by kernel_rfl) rfl (by first | exact fun _ _ _ h => h | exact fun _ _ _ h => hQ2 _ _ _ _ _ h) ?_
        (try simp only [glA, glB, glC, Act.put, glD, glE, glF])
        refine wpAnyJ_skip 10 (by first | exact hF | exact wideFn) hh rfl (by kernel_rfl) (by kernel_rfl) (by kernel_rfl) (by kernel_rfl) rfl (by first | exact fun _ _ _ h => h | exact fun _ _ _ h => hQ2 _ _ _ _ _ h) ?_
        (try simp only [glA, glB, glC, Act.put, glD, glE, glF])
        refine wpAnyJ_skip 11 (by first | exact hF | exact wideFn) hh rfl (by kernel_rfl) (by kernel_rfl) (by kernel_rfl) (by kernel_rfl) rfl (by first | exact fun _ _ _ h => h | exact fun _ _ _ h => hQ2 _ _ _ _ _ h) ?_
        (try simp only [glA, glB, glC, Act.put, glD, glE, glF])
        refine wpAnyJ_take 12 (v := ?_) (by first | exact hF | exact wideFn) hh rfl (by kernel_rfl) (by kernel_rfl) (by kernel_rfl) (by kernel_rfl) rfl ?_ (by first | exact fun _ _ _ h => h | exact fun _ _ _ h => hQ2 _ _ _ _ _ h) ?_
        rotate_left
        · intro W hSW
          simp only [glA, glB, glC]
          (try dsimp only at hSW)
          go_simp
          with_reducible rfl
        (try simp only [glA, glB, glC, Act.put, glD, glE, glF])
        refine wpAnyJ_take 13 (v := ?_) (by first | exact hF | exact wideFn) hh rfl (by kernel_rfl) (by kernel_rfl) (by kernel_rfl) (by kernel_rfl) rfl ?_ (by first | exact fun _ _ _ h => h | exact fun _ _ _ h => hQ2 _ _ _ _ _ h) ?_
        rotate_left
        · intro W hSW
          simp only [glA, glB, glC]
          (try dsimp only at hSW)
          go_simp
          with_reducible rfl
        (try simp only [glA, glB, glC, Act.put, glD, glE, glF])
        refine wpAnyJ_skip 14 (by first | exact hF | exact wideFn) hh rfl (by kernel_rfl) (by kernel_rfl) (by kernel_rfl) (by kernel_rfl) rfl (by first | exact fun _ _ _ h => h | exact fun _ _ _ h => hQ2 _ _ _ _ _ h) ?_
        (try simp only [glA, glB, glC, Act.put, glD, glE, glF])
        refine wpAnyJ_skip 15 (by first | exact hF | exact wideFn) hh rfl (by kernel_rfl) (by kernel_rfl) (by kernel_rfl) (by kernel_rfl) rfl (by first | exact fun _ _ _ h => h | exact fun _ _ _ h => hQ2 _ _ _ _ _ h) ?_
        (try simp only [glA, glB, glC, Act.put, glD, glE, glF])
        refine wpAnyJ_skip 16 (by first | exact hF | exact wideFn) hh rfl (by kernel_rfl) (by kernel_rfl) (by kernel_rfl) (by kernel_rfl) rfl (by first | exact fun _ _ _ h => h | exact fun _ _ _ h => hQ2 _ _ _ _ _ h) ?_
        (try simp only [glA, glB, glC, Act.put, glD, glE, glF])
        refine wpAnyJ_skip 17 (by first | exact hF | exact wideFn) hh rfl (by kernel_rfl) (by kernel_rfl) (by kernel_rfl) (by kernel_rfl) rfl (by first | exact fun _ _ _ h => h | exact fun _ _ _ h => hQ2 _ _ _ _ _ h) ?_
        (try simp only [glA, glB, glC, Act.put, glD, glE, glF])
        refine wpAnyJ_skip 18 (by first | exact hF | exact wideFn) hh rfl (by kernel_rfl) (by kernel_rfl) (by kernel_rfl) (by kernel_rfl) rfl (by first | exact fun _ _ _ h => h | exact fun _ _ _ h => hQ2 _ _ _ _ _ h) ?_
        (try simp only [glA, glB, glC, Act.put, glD, glE, glF])
        refine wpAnyJ_skip 19 (by first | exact hF | exact wideFn) hh rfl (by kernel_rfl) (by kernel_rfl) (by kernel_rfl) (by kernel_rfl) rfl (by first | exact fun _ _ _ h => h | exact fun _ _ _ h => hQ2 _ _ _ _ _ h) ?_
        (try simp only [glA, glB, glC, Act.put, glD, glE, glF])
        refine wpAnyJ_skip 20 (by first | exact hF | exact wideFn) hh rfl (by kernel_rfl) (by kernel_rfl) (by kernel_rfl) (by kernel_rfl) rfl (by first | exact fun _ _ _ h => h | exact fun _ _ _ h => hQ2 _ _ _ _ _ h) ?_
        (try simp only [glA, glB, glC, Act.put, glD, glE, glF])
        refine wpAnyJ_skip 21 (by first | exact hF | exact wideFn) hh rfl (by kernel_rfl) (by kernel_rfl) (by kernel_rfl) (by kernel_rfl) rfl (by first | exact fun _ _ _ h => h | exact fun _ _ _ h => hQ2 _ _ _ _ _ h) ?_
        (try simp only [glA, glB, glC, Act.put, glD, glE, glF])
        refine wpAnyJ_skip 22 (by first | exact hF | exact wideFn) hh rfl (by kernel_rfl) (by kernel_rfl) (by kernel_rfl) (by kernel_rfl) rfl (by first | exact fun _ _ _ h => h | exact fun _ _ _ h => hQ2 _ _ _ _ _ h) ?_
        (try simp only [glA, glB, glC, Act.put, glD, glE, glF])
        refine wpAnyJ_skip 23 (by first | exact hF | exact wideFn) hh rfl (by kernel_rfl) (by kernel_rfl) (by kernel_rfl) (by kernel_rfl) rfl (by first | exact fun _ _ _ h => h | exact fun _ _ _ h => hQ2 _ _ _ _ _ h) ?_
        (try simp only [glA, glB, glC, Act.put, glD, glE, glF])
        refine wpAnyJ_skip 24 (by first | exact hF | exact wideFn) hh rfl (by kernel_rfl) (by kernel_rfl) (by kernel_rfl) (by kernel_rfl) rfl (by first | exact fun _ _ _ h => h | exact fun _ _ _ h => hQ2 _ _ _ _ _ h) ?_
        (try simp only [glA, glB, glC, Act.put, glD, glE, glF])
        refine wpAnyJ_skip 25 (by first | exact hF | exact wideFn) hh rfl (by kernel_rfl) (by kernel_rfl) (by kernel_rfl) (by kernel_rfl) rfl (by first | exact fun _ _ _ h => h | exact fun _ _ _ h => hQ2 _ _ _ _ _ h) ?_
        (try simp only [glA, glB, glC, Act.put, glD, glE, glF])
        refine wpAnyJ_skip 26 (by first | exact hF | exact wideFn) hh rfl (by kernel_rfl) (by kernel_rfl) (by kernel_rfl) (by kernel_rfl) rfl (by first | exact fun _ _ _ h => h | exact fun _ _ _ h => hQ2 _ _ _ _ _ h) ?_
        (try simp only [glA, glB, glC, Act.put, glD, glE, glF])
        refine wpAnyJ_skip 27 (by first | exact hF | exact wideFn) hh rfl (by kernel_rfl) (by kernel_rfl) (by kernel_rfl) (by kernel_rfl) rfl (by first | exact fun _ _ _ h => h | exact fun _ _ _ h => hQ2 _ _ _ _ _ h) ?_
        (try simp only [glA, glB, glC, Act.put, glD, glE, glF])
        refine wpAnyJ_skip 28 (by first | exact hF | exact wideFn) hh rfl (by kernel_rfl) (by kernel_rfl) (by kernel_rfl) (by kernel_rfl) rfl (by first | exact fun _ _ _ h => h | exact fun _ _ _ h => hQ2 _ _ _ _ _ h) ?_
        (try simp only [glA, glB, glC, Act.put, glD, glE, glF])
        refine wpAnyJ_skip 29 (by first | exact hF | exact wideFn) hh rfl (by kernel_rfl) (by kernel_rfl) (by kernel_rfl) (by kernel_rfl) rfl (by first | exact fun _ _ _ h => h | exact fun _ _ _ h => hQ2 _ _ _ _ _ h) ?_
        (try simp only [glA, glB, glC, Act.put, glD, glE, glF])
        refine wpAnyJ_skip 30 (by first | exact hF | exact wideFn) hh rfl (by kernel_rfl) (by kernel_rfl) (by kernel_rfl) (by kernel_rfl) rfl (by first | exact fun _ _ _ h => h | exact fun _ _ _ h => hQ2 _ _ _ _ _ h) ?_
        (try simp only [glA, glB, glC, Act.put, glD, glE, glF])
        refine wpAnyJ_skip 31 (by first | exact hF | exact wideFn) hh rfl (by kernel_rfl) (by kernel_rfl) (by kernel_rfl) (by kernel_rfl) rfl (by first | exact fun _ _ _ h => h | exact fun _ _ _ h => hQ2 _ _ _ _ _ h) ?_
        (try simp only [glA, glB, glC, Act.put, glD, glE, glF])
        refine wpAnyJ_take 32 (v := ?_) (by first | exact hF | exact wideFn) hh rfl (by kernel_rfl) (by kernel_rfl) (by kernel_rfl) (by kernel_rfl) rfl ?_ (by first | exact fun _ _ _ h => h | exact fun _ _ _ h => hQ2 _ _ _ _ _ h) ?_
        rotate_left
        · intro W hSW
          simp only [glA, glB, glC]
          (try dsimp only at hSW)
          go_simp
          with_reducible rfl
        (try simp only [glA, glB, glC, Act.put, glD, glE, glF])
        refine wpAnyJ_done (by kernel_rfl) ?_
        go_wp2_with fail
        go_roundw
        case rel => exact ⟨k + 1, by omega, by go_num, hide (by
          show (fmF l k && (fmE (l.getD k e0) && fmO l k)) = true
          rw [HF.out, HE.out, HFE.out, HO.out]; rfl), HBd⟩
        case measure => simp [intOf]; omega
      · obtain ⟨j, hj⟩ : ∃ j, k = j + 1 := ⟨k - 1, by omega⟩
        have kp : 0 < k := by omega
        have jm : IntKind.i64.wrap ((k : Int) - 1) = (j : Int) := by rw [IntWalk.i64_in _ (by omega)]; omega
        have jn : (j : Int) < (n : Int) := by omega
        have jz : (0 : Int) ≤ (j : Int) := by omega
        have HJ := hide hj
        obtain ⟨y, hy⟩ : ∃ e, l.getD j e0 = e := ⟨_, rfl⟩
        obtain ⟨yb, yo, hA2, hyb, a0, a1, a2, a3⟩ := HA.out.at_ (k := j) (by rw [HN.out]; omega) hy
        clear hj hk0
        injection hA2 with hA2
        injection hA2 with e1 e2
        subst e1 e2
        have HY := hide hy
        obtain ⟨y0, y1, y2, y3⟩ := y
        dsimp only at a0 a1 a2 a3
        have hh : (w1.drew.cell? ⟨g, 1, none⟩ = some (.int .i64 at_) ∧ w1.drew.cell? ⟨xb, xo + j * 4, none⟩ = some (.int .i64 y0) ∧ w1.drew.cell? ⟨xb, xo + j * 4 + 1, none⟩ = some (.int .i64 y1)) := ⟨g2, (HBd.out.cell (p := ⟨xb, xo + j * 4, none⟩) hyb).trans a0, (HBd.out.cell (p := ⟨xb, xo + j * 4 + 1, none⟩) hyb).trans a1⟩
        clear a0 a1 a2 a3 hy g2
        go_upto_region 11 with fail
        refine wp_region_J (fun W : World => (W.cell? ⟨g, 1, none⟩ = some (.int .i64 at_) ∧ W.cell? ⟨xb, xo + j * 4, none⟩ = some (.int .i64 y0) ∧ W.cell? ⟨xb, xo + j * 4 + 1, none⟩ = some (.int .i64 y1))) (by kernel_rfl) ?_
        generalize w1.drew = wd at HBd hh ⊢
        have hOF : fmO l k = decide (y1 < at_ ∨ (at_ = y1 ∧ y0 = 3)) := by rw [HJ.out, fmO_succ, ← HJ.out, HE.out, HY.out]
        have HOF := hide hOF
        clear hOF
        refine wpAnyJ_take 0 (v := ?_) (by first | exact hF | exact wideFn) hh rfl (by kernel_rfl) (by kernel_rfl) (by kernel_rfl) (by kernel_rfl) rfl ?_ (by first | exact fun _ _ _ h => h | exact fun _ _ _ h => hQ2 _ _ _ _ _ h) ?_
        rotate_left
        · intro W hSW
          simp only [glA, glB, glC]
          (try dsimp only at hSW)
          go_simp
          with_reducible rfl
        (try simp only [glA, glB, glC, Act.put, glD, glE, glF])
        refine wpAnyJ_take 1 (v := ?_) (by first | exact hF | exact wideFn) hh rfl (by kernel_rfl) (by kernel_rfl) (by kernel_rfl) (by kernel_rfl) rfl ?_ (by first | exact fun _ _ _ h => h | exact fun _ _ _ h => hQ2 _ _ _ _ _ h) ?_
        rotate_left
        · intro W hSW
          simp only [glA, glB, glC]
          (try dsimp only at hSW)
          go_simp
          with_reducible rfl
        (try simp only [glA, glB, glC, Act.put, glD, glE, glF])
        refine wpAnyJ_take 2 (v := ?_) (by first | exact hF | exact wideFn) hh rfl (by kernel_rfl) (by kernel_rfl) (by kernel_rfl) (by kernel_rfl) rfl ?_ (by first | exact fun _ _ _ h => h | exact fun _ _ _ h => hQ2 _ _ _ _ _ h) ?_
        rotate_left
        · intro W hSW
          simp only [glA, glB, glC]
          (try dsimp only at hSW)
          go_simp
          with_reducible rfl
        (try simp only [glA, glB, glC, Act.put, glD, glE, glF])
        refine wpAnyJ_take 3 (v := ?_) (by first | exact hF | exact wideFn) hh rfl (by kernel_rfl) (by kernel_rfl) (by kernel_rfl) (by kernel_rfl) rfl ?_ (by first | exact fun _ _ _ h => h | exact fun _ _ _ h => hQ2 _ _ _ _ _ h) ?_
        rotate_left
        · intro W hSW
          simp only [glA, glB, glC]
          (try dsimp only at hSW)
          go_simp
          with_reducible rfl
        (try simp only [glA, glB, glC, Act.put, glD, glE, glF])
        refine wpAnyJ_take 4 (v := ?_) (by first | exact hF | exact wideFn) hh rfl (by kernel_rfl) (by kernel_rfl) (by kernel_rfl) (by kernel_rfl) rfl ?_ (by first | exact fun _ _ _ h => h | exact fun _ _ _ h => hQ2 _ _ _ _ _ h) ?_
        rotate_left
        · intro W hSW
          simp only [glA, glB, glC]
          (try dsimp only at hSW)
          go_simp
          with_reducible rfl
        (try simp only [glA, glB, glC, Act.put, glD, glE, glF])
        refine wpAnyJ_take 5 (v := ?_) (by first | exact hF | exact wideFn) hh rfl (by kernel_rfl) (by kernel_rfl) (by kernel_rfl) (by kernel_rfl) rfl ?_ (by first | exact fun _ _ _ h => h | exact fun _ _ _ h => hQ2 _ _ _ _ _ h) ?_
        rotate_left
        · intro W hSW
          simp only [glA, glB, glC]
          (try dsimp only at hSW)
          go_simp
          with_reducible rfl
        (try simp only [glA, glB, glC, Act.put, glD, glE, glF])
        refine wpAnyJ_take 6 (v := ?_) (by first | exact hF | exact wideFn) hh rfl (by kernel_rfl) (by kernel_rfl) (by kernel_rfl) (by kernel_rfl) rfl ?_ (by first | exact fun _ _ _ h => h | exact fun _ _ _ h => hQ2 _ _ _ _ _ h) ?_
        rotate_left
        · intro W hSW
          simp only [glA, glB, glC]
          (try dsimp only at hSW)
          go_simp
          with_reducible rfl
        (try simp only [glA, glB, glC, Act.put, glD, glE, glF])
        refine wpAnyJ_take 7 (v := ?_) (by first | exact hF | exact wideFn) hh rfl (by kernel_rfl) (by kernel_rfl) (by kernel_rfl) (by kernel_rfl) rfl ?_ (by first | exact fun _ _ _ h => h | exact fun _ _ _ h => hQ2 _ _ _ _ _ h) ?_
        rotate_left
        · intro W hSW
          simp only [glA, glB, glC]
          (try dsimp only at hSW)
          go_simp
          with_reducible rfl
        (try simp only [glA, glB, glC, Act.put, glD, glE, glF])
        refine wpAnyJ_take 8 (v := ?_) (by first | exact hF | exact wideFn) hh rfl (by kernel_rfl) (by kernel_rfl) (by kernel_rfl) (by kernel_rfl) rfl ?_ (by first | exact fun _ _ _ h => h | exact fun _ _ _ h => hQ2 _ _ _ _ _ h) ?_
        rotate_left
        · intro W hSW
          simp only [glA, glB, glC]
          (try dsimp only at hSW)
          go_simp
          with_reducible rfl
        (try simp only [glA, glB, glC, Act.put, glD, glE, glF])
        refine wpAnyJ_take 9 (v := ?_) (by first | exact hF | exact wideFn) hh rfl (by kernel_rfl) (by kernel_rfl) (by kernel_rfl) (by kernel_rfl) rfl ?_ (by first | exact fun _ _ _ h => h | exact fun _ _ _ h => hQ2 _ _ _ _ _ h) ?_
        rotate_left
        · intro W hSW
          simp only [glA, glB, glC]
          (try dsimp only at hSW)
          go_simp
          with_reducible rfl
        (try simp only [glA, glB, glC, Act.put, glD, glE, glF])
        refine wpAnyJ_take 10 (v := ?_) (by first | exact hF | exact wideFn) hh rfl (by kernel_rfl) (by kernel_rfl) (by kernel_rfl) (by kernel_rfl) rfl ?_ (by first | exact fun _ _ _ h => h | exact fun _ _ _ h => hQ2 _ _ _ _ _ h) ?_
        rotate_left
        · intro W hSW
          simp only [glA, glB, glC]
          (try dsimp only at hSW)
          go_simp
          with_reducible rfl
        (try simp only [glA, glB, glC, Act.put, glD, glE, glF])
        by_cases q1 : at_ ≤ y1
        · have q1' := q1
          refine wpAnyJ_take 11 (v := ?_) (by first | exact hF | exact wideFn) hh rfl (by kernel_rfl) (by kernel_rfl) (by kernel_rfl) (by kernel_rfl) rfl ?_ (by first | exact fun _ _ _ h => h | exact fun _ _ _ h => hQ2 _ _ _ _ _ h) ?_
          rotate_left
          · intro W hSW
            simp only [glA, glB, glC]
            (try dsimp only at hSW)
            go_simp
            with_reducible rfl
          (try simp only [glA, glB, glC, Act.put, glD, glE, glF])
          refine wpAnyJ_take 12 (v := ?_) (by first | exact hF | exact wideFn) hh rfl (by kernel_rfl) (by kernel_rfl) (by kernel_rfl) (by kernel_rfl) rfl ?_ (by first | exact fun _ _ _ h => h | exact fun _ _ _ h => hQ2 _ _ _ _ _ h) ?_
          rotate_left
          · intro W hSW
            simp only [glA, glB, glC]
            (try dsimp only at hSW)
            go_simp
            with_reducible rfl
          (try simp only [glA, glB, glC, Act.put, glD, glE, glF])
          refine wpAnyJ_take 13 (v := ?_) (by first | exact hF | exact wideFn) hh rfl (by kernel_rfl) (by kernel_rfl) (by kernel_rfl) (by kernel_rfl) rfl ?_ (by first | exact fun _ _ _ h => h | exact fun _ _ _ h => hQ2 _ _ _ _ _ h) ?_
          rotate_left
          · intro W hSW
            simp only [glA, glB, glC]
            (try dsimp only at hSW)
            go_simp
            with_reducible rfl
          (try simp only [glA, glB, glC, Act.put, glD, glE, glF])
          refine wpAnyJ_take 14 (v := ?_) (by first | exact hF | exact wideFn) hh rfl (by kernel_rfl) (by kernel_rfl) (by kernel_rfl) (by kernel_rfl) rfl ?_ (by first | exact fun _ _ _ h => h | exact fun _ _ _ h => hQ2 _ _ _ _ _ h) ?_
          rotate_left
          · intro W hSW
            simp only [glA, glB, glC]
            (try dsimp only at hSW)
            go_simp
            with_reducible rfl
          (try simp only [glA, glB, glC, Act.put, glD, glE, glF])
          refine wpAnyJ_take 15 (v := ?_) (by first | exact hF | exact wideFn) hh rfl (by kernel_rfl) (by kernel_rfl) (by kernel_rfl) (by kernel_rfl) rfl ?_ (by first | exact fun _ _ _ h => h | exact fun _ _ _ h => hQ2 _ _ _ _ _ h) ?_
          rotate_left
          · intro W hSW
            simp only [glA, glB, glC]
            (try dsimp only at hSW)
            go_simp
            with_reducible rfl
          (try simp only [glA, glB, glC, Act.put, glD, glE, glF])
          refine wpAnyJ_take 16 (v := ?_) (by first | exact hF | exact wideFn) hh rfl (by kernel_rfl) (by kernel_rfl) (by kernel_rfl) (by kernel_rfl) rfl ?_ (by first | exact fun _ _ _ h => h | exact fun _ _ _ h => hQ2 _ _ _ _ _ h) ?_
          rotate_left
          · intro W hSW
            simp only [glA, glB, glC]
            (try dsimp only at hSW)
            go_simp
            with_reducible rfl
          (try simp only [glA, glB, glC, Act.put, glD, glE, glF])
          refine wpAnyJ_take 17 (v := ?_) (by first | exact hF | exact wideFn) hh rfl (by kernel_rfl) (by kernel_rfl) (by kernel_rfl) (by kernel_rfl) rfl ?_ (by first | exact fun _ _ _ h => h | exact fun _ _ _ h => hQ2 _ _ _ _ _ h) ?_
          rotate_left
          · intro W hSW
            simp only [glA, glB, glC]
            (try dsimp only at hSW)
            go_simp
            with_reducible rfl
          (try simp only [glA, glB, glC, Act.put, glD, glE, glF])
          refine wpAnyJ_take 18 (v := ?_) (by first | exact hF | exact wideFn) hh rfl (by kernel_rfl) (by kernel_rfl) (by kernel_rfl) (by kernel_rfl) rfl ?_ (by first | exact fun _ _ _ h => h | exact fun _ _ _ h => hQ2 _ _ _ _ _ h) ?_
          rotate_left
          · intro W hSW
            simp only [glA, glB, glC]
            (try dsimp only at hSW)
            go_simp
            with_reducible rfl
          (try simp only [glA, glB, glC, Act.put, glD, glE, glF])
          refine wpAnyJ_take 19 (v := ?_) (by first | exact hF | exact wideFn) hh rfl (by kernel_rfl) (by kernel_rfl) (by kernel_rfl) (by kernel_rfl) rfl ?_ (by first | exact fun _ _ _ h => h | exact fun _ _ _ h => hQ2 _ _ _ _ _ h) ?_
          rotate_left
          · intro W hSW
            simp only [glA, glB, glC]
            (try dsimp only at hSW)
            go_simp
            with_reducible rfl
          (try simp only [glA, glB, glC, Act.put, glD, glE, glF])
          refine wpAnyJ_take 20 (v := ?_) (by first | exact hF | exact wideFn) hh rfl (by kernel_rfl) (by kernel_rfl) (by kernel_rfl) (by kernel_rfl) rfl ?_ (by first | exact fun _ _ _ h => h | exact fun _ _ _ h => hQ2 _ _ _ _ _ h) ?_
          rotate_left
          · intro W hSW
            simp only [glA, glB, glC]
            (try dsimp only at hSW)
            go_simp
            with_reducible rfl
          (try simp only [glA, glB, glC, Act.put, glD, glE, glF])
          refine wpAnyJ_take 21 (v := ?_) (by first | exact hF | exact wideFn) hh rfl (by kernel_rfl) (by kernel_rfl) (by kernel_rfl) (by kernel_rfl) rfl ?_ (by first | exact fun _ _ _ h => h | exact fun _ _ _ h => hQ2 _ _ _ _ _ h) ?_
          rotate_left
          · intro W hSW
            simp only [glA, glB, glC]
            (try dsimp only at hSW)
            go_simp
            with_reducible rfl
          (try simp only [glA, glB, glC, Act.put, glD, glE, glF])
          by_cases q2 : at_ < y1
          · have q2' := q2
            refine wpAnyJ_take 22 (v := ?_) (by first | exact hF | exact wideFn) hh rfl (by kernel_rfl) (by kernel_rfl) (by kernel_rfl) (by kernel_rfl) rfl ?_ (by first | exact fun _ _ _ h => h | exact fun _ _ _ h => hQ2 _ _ _ _ _ h) ?_
            rotate_left
            · intro W hSW
              simp only [glA, glB, glC]
              (try dsimp only at hSW)
              go_simp
              with_reducible rfl
            (try simp only [glA, glB, glC, Act.put, glD, glE, glF])
            refine wpAnyJ_take 23 (v := ?_) (by first | exact hF | exact wideFn) hh rfl (by kernel_rfl) (by kernel_rfl) (by kernel_rfl) (by kernel_rfl) rfl ?_ (by first | exact fun _ _ _ h => h | exact fun _ _ _ h => hQ2 _ _ _ _ _ h) ?_
            rotate_left
            · intro W hSW
              simp only [glA, glB, glC]
              (try dsimp only at hSW)
              go_simp
              with_reducible rfl
            (try simp only [glA, glB, glC, Act.put, glD, glE, glF])
            refine wpAnyJ_skip 24 (by first | exact hF | exact wideFn) hh rfl (by kernel_rfl) (by kernel_rfl) (by kernel_rfl) (by kernel_rfl) rfl (by first | exact fun _ _ _ h => h | exact fun _ _ _ h => hQ2 _ _ _ _ _ h) ?_
            (try simp only [glA, glB, glC, Act.put, glD, glE, glF])
            refine wpAnyJ_skip 25 (by first | exact hF | exact wideFn) hh rfl (by kernel_rfl) (by kernel_rfl) (by kernel_rfl) (by kernel_rfl) rfl (by first | exact fun _ _ _ h => h | exact fun _ _ _ h => hQ2 _ _ _ _ _ h) ?_
            (try simp only [glA, glB, glC, Act.put, glD, glE, glF])
            refine wpAnyJ_skip 26 (by first | exact hF | exact wideFn) hh rfl (by kernel_rfl) (by kernel_rfl) (by kernel_rfl) (by kernel_rfl) rfl (by first | exact fun _ _ _ h => h | exact fun _ _ _ h => hQ2 _ _ _ _ _ h) ?_
            (try simp only [glA, glB, glC, Act.put, glD, glE, glF])
            refine wpAnyJ_skip 27 (by first | exact hF | exact wideFn) hh rfl (by kernel_rfl) (by kernel_rfl) (by kernel_rfl) (by kernel_rfl) rfl (by first | exact fun _ _ _ h => h | exact fun _ _ _ h => hQ2 _ _ _ _ _ h) ?_
            (try simp only [glA, glB, glC, Act.put, glD, glE, glF])
            refine wpAnyJ_skip 28 (by first | exact hF | exact wideFn) hh rfl (by kernel_rfl) (by kernel_rfl) (by kernel_rfl) (by kernel_rfl) rfl (by first | exact fun _ _ _ h => h | exact fun _ _ _ h => hQ2 _ _ _ _ _ h) ?_
            (try simp only [glA, glB, glC, Act.put, glD, glE, glF])
            refine wpAnyJ_skip 29 (by first | exact hF | exact wideFn) hh rfl (by kernel_rfl) (by kernel_rfl) (by kernel_rfl) (by kernel_rfl) rfl (by first | exact fun _ _ _ h => h | exact fun _ _ _ h => hQ2 _ _ _ _ _ h) ?_
            (try simp only [glA, glB, glC, Act.put, glD, glE, glF])
            refine wpAnyJ_skip 30 (by first | exact hF | exact wideFn) hh rfl (by kernel_rfl) (by kernel_rfl) (by kernel_rfl) (by kernel_rfl) rfl (by first | exact fun _ _ _ h => h | exact fun _ _ _ h => hQ2 _ _ _ _ _ h) ?_
            (try simp only [glA, glB, glC, Act.put, glD, glE, glF])
            refine wpAnyJ_take 31 (v := ?_) (by first | exact hF | exact wideFn) hh rfl (by kernel_rfl) (by kernel_rfl) (by kernel_rfl) (by kernel_rfl) rfl ?_ (by first | exact fun _ _ _ h => h | exact fun _ _ _ h => hQ2 _ _ _ _ _ h) ?_
            rotate_left
            · intro W hSW
              simp only [glA, glB, glC]
              (try dsimp only at hSW)
              go_simp
              with_reducible rfl
            (try simp only [glA, glB, glC, Act.put, glD, glE, glF])
            refine wpAnyJ_take 32 (v := ?_) (by first | exact hF | exact wideFn) hh rfl (by kernel_rfl) (by kernel_rfl) (by kernel_rfl) (by kernel_rfl) rfl ?_ (by first | exact fun _ _ _ h => h | exact fun _ _ _ h => hQ2 _ _ _ _ _ h) ?_
            rotate_left
            · intro W hSW
              simp only [glA, glB, glC]
              (try dsimp only at hSW)
              go_simp
              with_reducible rfl
            (try simp only [glA, glB, glC, Act.put, glD, glE, glF])
            refine wpAnyJ_done (by kernel_rfl) ?_
            go_wp2_with fail
            go_ret
            refine ⟨ret_bool ?_, HBd.out⟩
            rw [formB_no (by rw [HN.out]; exact hlt) (by rw [HOF.out, decide_eq_false (by omega), Bool.and_false])]
          · have q2' := q2
            refine wpAnyJ_take 22 (v := ?_) (by first | exact hF | exact wideFn) hh rfl (by kernel_rfl) (by kernel_rfl) (by kernel_rfl) (by kernel_rfl) rfl ?_ (by first | exact fun _ _ _ h => h | exact fun _ _ _ h => hQ2 _ _ _ _ _ h) ?_
            rotate_left
            · intro W hSW
              simp only [glA, glB, glC]
              (try dsimp only at hSW)
              go_simp
              with_reducible rfl
            (try simp only [glA, glB, glC, Act.put, glD, glE, glF])
            refine wpAnyJ_take 23 (v := ?_) (by first | exact hF | exact wideFn) hh rfl (by kernel_rfl) (by kernel_rfl) (by kernel_rfl) (by kernel_rfl) rfl ?_ (by first | exact fun _ _ _ h => h | exact fun _ _ _ h => hQ2 _ _ _ _ _ h) ?_
            rotate_left
            · intro W hSW
              simp only [glA, glB, glC]
              (try dsimp only at hSW)
              go_simp
              with_reducible rfl
            (try simp only [glA, glB, glC, Act.put, glD, glE, glF])
            refine wpAnyJ_take 24 (v := ?_) (by first | exact hF | exact wideFn) hh rfl (by kernel_rfl) (by kernel_rfl) (by kernel_rfl) (by kernel_rfl) rfl ?_ (by first | exact fun _ _ _ h => h | exact fun _ _ _ h => hQ2 _ _ _ _ _ h) ?_
            rotate_left
            · intro W hSW
              simp only [glA, glB, glC]
              (try dsimp only at hSW)
              go_simp
              with_reducible rfl
            (try simp only [glA, glB, glC, Act.put, glD, glE, glF])
            refine wpAnyJ_take 25 (v := ?_) (by first | exact hF | exact wideFn) hh rfl (by kernel_rfl) (by kernel_rfl) (by kernel_rfl) (by kernel_rfl) rfl ?_ (by first | exact fun _ _ _ h => h | exact fun _ _ _ h => hQ2 _ _ _ _ _ h) ?_
            rotate_left
            · intro W hSW
              simp only [glA, glB, glC]
              (try dsimp only at hSW)
              go_simp
              with_reducible rfl
            (try simp only [glA, glB, glC, Act.put, glD, glE, glF])
            refine wpAnyJ_take 26 (v := ?_) (by first | exact hF | exact wideFn) hh rfl (by kernel_rfl) (by kernel_rfl) (by kernel_rfl) (by kernel_rfl) rfl ?_ (by first | exact fun _ _ _ h => h | exact fun _ _ _ h => hQ2 _ _ _ _ _ h) ?_
            rotate_left
            · intro W hSW
              simp only [glA, glB, glC]
              (try dsimp only at hSW)
              go_simp
              with_reducible rfl
            (try simp only [glA, glB, glC, Act.put, glD, glE, glF])
            refine wpAnyJ_take 27 (v := ?_) (by first | exact hF | exact wideFn) hh rfl (by kernel_rfl) (by kernel_rfl) (by kernel_rfl) (by kernel_rfl) rfl ?_ (by first | exact fun _ _ _ h => h | exact fun _ _ _ h => hQ2 _ _ _ _ _ h) ?_
            rotate_left
            · intro W hSW
              simp only [glA, glB, glC]
              (try dsimp only at hSW)
              go_simp
              with_reducible rfl
            (try simp only [glA, glB, glC, Act.put, glD, glE, glF])
            refine wpAnyJ_take 28 (v := ?_) (by first | exact hF | exact wideFn) hh rfl (by kernel_rfl) (by kernel_rfl) (by kernel_rfl) (by kernel_rfl) rfl ?_ (by first | exact fun _ _ _ h => h | exact fun _ _ _ h => hQ2 _ _ _ _ _ h) ?_
            rotate_left
            · intro W hSW
              simp only [glA, glB, glC]
              (try dsimp only at hSW)
              go_simp
              with_reducible rfl
            (try simp only [glA, glB, glC, Act.put, glD, glE, glF])
            refine wpAnyJ_take 29 (v := ?_) (by first | exact hF | exact wideFn) hh rfl (by kernel_rfl) (by kernel_rfl) (by kernel_rfl) (by kernel_rfl) rfl ?_ (by first | exact fun _ _ _ h => h | exact fun _ _ _ h => hQ2 _ _ _ _ _ h) ?_
            rotate_left
            · intro W hSW
              simp only [glA, glB, glC]
              (try dsimp only at hSW)
              go_simp
              with_reducible rfl
            (try simp only [glA, glB, glC, Act.put, glD, glE, glF])
            by_cases q3 : y0 = 3
            · subst q3
              have HO : Hid (fmO l k = true) := hide (by rw [HOF.out]; exact decide_eq_true (.inr ⟨by omega, rfl⟩))
              refine wpAnyJ_take 30 (v := ?_) (by first | exact hF | exact wideFn) hh rfl (by kernel_rfl) (by kernel_rfl) (by kernel_rfl) (by kernel_rfl) rfl ?_ (by first | exact fun _ _ _ h => h | exact fun _ _ _ h => hQ2 _ _ _ _ _ h) ?_
              rotate_left
              · intro W hSW
                simp only [glA, glB, glC]
                (try dsimp only at hSW)
                go_simp
                with_reducible rfl
              (try simp only [glA, glB, glC, Act.put, glD, glE, glF])
              refine wpAnyJ_take 31 (v := ?_) (by first | exact hF | exact wideFn) hh rfl (by kernel_rfl) (by kernel_rfl) (by kernel_rfl) (by kernel_rfl) rfl ?_ (by first | exact fun _ _ _ h => h | exact fun _ _ _ h => hQ2 _ _ _ _ _ h) ?_
              rotate_left
              · intro W hSW
                simp only [glA, glB, glC]
                (try dsimp only at hSW)
                go_simp
                with_reducible rfl
              (try simp only [glA, glB, glC, Act.put, glD, glE, glF])
              refine wpAnyJ_take 32 (v := ?_) (by first | exact hF | exact wideFn) hh rfl (by kernel_rfl) (by kernel_rfl) (by kernel_rfl) (by kernel_rfl) rfl ?_ (by first | exact fun _ _ _ h => h | exact fun _ _ _ h => hQ2 _ _ _ _ _ h) ?_
              rotate_left
              · intro W hSW
                simp only [glA, glB, glC]
                (try dsimp only at hSW)
                go_simp
                with_reducible rfl
              (try simp only [glA, glB, glC, Act.put, glD, glE, glF])
              refine wpAnyJ_done (by kernel_rfl) ?_
              go_wp2_with fail
              go_roundw
              case rel => exact ⟨k + 1, by omega, by go_num, hide (by
                show (fmF l k && (fmE (l.getD k e0) && fmO l k)) = true
                rw [HF.out, HE.out, HFE.out, HO.out]; rfl), HBd⟩
              case measure => simp [intOf]; omega
            · have q4 : (y0 != 3) = true := by simp [q3]
              refine wpAnyJ_take 30 (v := ?_) (by first | exact hF | exact wideFn) hh rfl (by kernel_rfl) (by kernel_rfl) (by kernel_rfl) (by kernel_rfl) rfl ?_ (by first | exact fun _ _ _ h => h | exact fun _ _ _ h => hQ2 _ _ _ _ _ h) ?_
              rotate_left
              · intro W hSW
                simp only [glA, glB, glC]
                (try dsimp only at hSW)
                go_simp
                with_reducible rfl
              (try simp only [glA, glB, glC, Act.put, glD, glE, glF])
              refine wpAnyJ_take 31 (v := ?_) (by first | exact hF | exact wideFn) hh rfl (by kernel_rfl) (by kernel_rfl) (by kernel_rfl) (by kernel_rfl) rfl ?_ (by first | exact fun _ _ _ h => h | exact fun _ _ _ h => hQ2 _ _ _ _ _ h) ?_
              rotate_left
              · intro W hSW
                simp only [glA, glB, glC]
                (try dsimp only at hSW)
                go_simp
                with_reducible rfl
              (try simp only [glA, glB, glC, Act.put, glD, glE, glF])
              refine wpAnyJ_take 32 (v := ?_) (by first | exact hF | exact wideFn) hh rfl (by kernel_rfl) (by kernel_rfl) (by kernel_rfl) (by kernel_rfl) rfl ?_ (by first | exact fun _ _ _ h => h | exact fun _ _ _ h => hQ2 _ _ _ _ _ h) ?_
              rotate_left
              · intro W hSW
                simp only [glA, glB, glC]
                (try dsimp only at hSW)
                go_simp
                with_reducible rfl
              (try simp only [glA, glB, glC, Act.put, glD, glE, glF])
              refine wpAnyJ_done (by kernel_rfl) ?_
              go_wp2_with fail
              go_ret
              refine ⟨ret_bool ?_, HBd.out⟩
              rw [formB_no (by rw [HN.out]; exact hlt) (by rw [HOF.out, decide_eq_false (by omega), Bool.and_false])]
        · have HO : Hid (fmO l k = true) := hide (by rw [HOF.out]; exact decide_eq_true (.inl (by omega)))
          refine wpAnyJ_take 11 (v := ?_) (by first | exact hF | exact wideFn) hh rfl (by kernel_rfl) (by kernel_rfl) (by kernel_rfl) (by kernel_rfl) rfl ?_ (by first | exact fun _ _ _ h => h | exact fun _ _ _ h => hQ2 _ _ _ _ _ h) ?_
          rotate_left
          · intro W hSW
            simp only [glA, glB, glC]
            (try dsimp only at hSW)
            go_simp
            with_reducible rfl
          (try simp only [glA, glB, glC, Act.put, glD, glE, glF])
          refine wpAnyJ_take 12 (v := ?_) (by first | exact hF | exact wideFn) hh rfl (by kernel_rfl) (by kernel_rfl) (by kernel_rfl) (by kernel_rfl) rfl ?_ (by first | exact fun _ _ _ h => h | exact fun _ _ _ h => hQ2 _ _ _ _ _ h) ?_
          rotate_left
          · intro W hSW
            simp only [glA, glB, glC]
            (try dsimp only at hSW)
            go_simp
            with_reducible rfl
          (try simp only [glA, glB, glC, Act.put, glD, glE, glF])
          refine wpAnyJ_take 13 (v := ?_) (by first | exact hF | exact wideFn) hh rfl (by kernel_rfl) (by kernel_rfl) (by kernel_rfl) (by kernel_rfl) rfl ?_ (by first | exact fun _ _ _ h => h | exact fun _ _ _ h => hQ2 _ _ _ _ _ h) ?_
          rotate_left
          · intro W hSW
            simp only [glA, glB, glC]
            (try dsimp only at hSW)
            go_simp
            with_reducible rfl
          (try simp only [glA, glB, glC, Act.put, glD, glE, glF])
          refine wpAnyJ_skip 14 (by first | exact hF | exact wideFn) hh rfl (by kernel_rfl) (by kernel_rfl) (by kernel_rfl) (by kernel_rfl) rfl (by first | exact fun _ _ _ h => h | exact fun _ _ _ h => hQ2 _ _ _ _ _ h) ?_
          (try simp only [glA, glB, glC, Act.put, glD, glE, glF])
          refine wpAnyJ_skip 15 (by first | exact hF | exact wideFn) hh rfl (by kernel_rfl) (by kernel_rfl) (by kernel_rfl) (by kernel_rfl) rfl (by first | exact fun _ _ _ h => h | exact fun _ _ _ h => hQ2 _ _ _ _ _ h) ?_
          (try simp only [glA, glB, glC, Act.put, glD, glE, glF])
          refine wpAnyJ_skip 16 (by first | exact hF | exact wideFn) hh rfl (by kernel_rfl) (by kernel_rfl) (by kernel_rfl) (by kernel_rfl) rfl (by first | exact fun _ _ _ h => h | exact fun _ _ _ h => hQ2 _ _ _ _ _ h) ?_
          (try simp only [glA, glB, glC, Act.put, glD, glE, glF])
          refine wpAnyJ_skip 17 (by first | exact hF | exact wideFn) hh rfl (by kernel_rfl) (by kernel_rfl) (by kernel_rfl) (by kernel_rfl) rfl (by first | exact fun _ _ _ h => h | exact fun _ _ _ h => hQ2 _ _ _ _ _ h) ?_
          (try simp only [glA, glB, glC, Act.put, glD, glE, glF])
          refine wpAnyJ_skip 18 (by first | exact hF | exact wideFn) hh rfl (by kernel_rfl) (by kernel_rfl) (by kernel_rfl) (by kernel_rfl) rfl (by first | exact fun _ _ _ h => h | exact fun _ _ _ h => hQ2 _ _ _ _ _ h) ?_
          (try simp only [glA, glB, glC, Act.put, glD, glE, glF])
          refine wpAnyJ_skip 19 (by first | exact hF | exact wideFn) hh rfl (by kernel_rfl) (by kernel_rfl) (by kernel_rfl) (by kernel_rfl) rfl (by first | exact fun _ _ _ h => h | exact fun _ _ _ h => hQ2 _ _ _ _ _ h) ?_
          (try simp only [glA, glB, glC, Act.put, glD, glE, glF])
          refine wpAnyJ_skip 20 (by first | exact hF | exact wideFn) hh rfl (by kernel_rfl) (by kernel_rfl) (by kernel_rfl) (by kernel_rfl) rfl (by first | exact fun _ _ _ h => h | exact fun _ _ _ h => hQ2 _ _ _ _ _ h) ?_
          (try simp only [glA, glB, glC, Act.put, glD, glE, glF])
          refine wpAnyJ_skip 21 (by first | exact hF | exact wideFn) hh rfl (by kernel_rfl) (by kernel_rfl) (by kernel_rfl) (by kernel_rfl) rfl (by first | exact fun _ _ _ h => h | exact fun _ _ _ h => hQ2 _ _ _ _ _ h) ?_
          (try simp only [glA, glB, glC, Act.put, glD, glE, glF])
          refine wpAnyJ_skip 22 (by first | exact hF | exact wideFn) hh rfl (by kernel_rfl) (by kernel_rfl) (by kernel_rfl) (by kernel_rfl) rfl (by first | exact fun _ _ _ h => h | exact fun _ _ _ h => hQ2 _ _ _ _ _ h) ?_
          (try simp only [glA, glB, glC, Act.put, glD, glE, glF])
          refine wpAnyJ_skip 23 (by first | exact hF | exact wideFn) hh rfl (by kernel_rfl) (by kernel_rfl) (by kernel_rfl) (by kernel_rfl) rfl (by first | exact fun _ _ _ h => h | exact fun _ _ _ h => hQ2 _ _ _ _ _ h) ?_
          (try simp only [glA, glB, glC, Act.put, glD, glE, glF])
          refine wpAnyJ_skip 24 (by first | exact hF | exact wideFn) hh rfl (by kernel_rfl) (by kernel_rfl) (by kernel_rfl) (by kernel_rfl) rfl (by first | exact fun _ _ _ h => h | exact fun _ _ _ h => hQ2 _ _ _ _ _ h) ?_
          (try simp only [glA, glB, glC, Act.put, glD, glE, glF])
          refine wpAnyJ_skip 25 (by first | exact hF | exact wideFn) hh rfl (by kernel_rfl) (by kernel_rfl) (by kernel_rfl) (by kernel_rfl) rfl (by first | exact fun _ _ _ h => h | exact fun _ _ _ h => hQ2 _ _ _ _ _ h) ?_
          (try simp only [glA, glB, glC, Act.put, glD, glE, glF])
          refine wpAnyJ_skip 26 (by first | exact hF | exact wideFn) hh rfl (by kernel_rfl) (by kernel_rfl) (by kernel_rfl) (by kernel_rfl) rfl (by first | exact fun _ _ _ h => h | exact fun _ _ _ h => hQ2 _ _ _ _ _ h) ?_
          (try simp only [glA, glB, glC, Act.put, glD, glE, glF])
          refine wpAnyJ_skip 27 (by first | exact hF | exact wideFn) hh rfl (by kernel_rfl) (by kernel_rfl) (by kernel_rfl) (by kernel_rfl) rfl (by first | exact fun _ _ _ h => h | exact fun _ _ _ h => hQ2 _ _ _ _ _ h) ?_
          (try simp only [glA, glB, glC, Act.put, glD, glE, glF])
          refine wpAnyJ_skip 28 (by first | exact hF | exact wideFn) hh rfl (by kernel_rfl) (by kernel_rfl) (by kernel_rfl) (by kernel_rfl) rfl (by first | exact fun _ _ _ h => h | exact fun _ _ _ h => hQ2 _ _ _ _ _ h) ?_
          (try simp only [glA, glB, glC, Act.put, glD, glE, glF])
          refine wpAnyJ_skip 29 (by first | exact hF | exact wideFn) hh rfl (by kernel_rfl) (by kernel_rfl) (by kernel_rfl) (by kernel_rfl) rfl (by first | exact fun _ _ _ h => h | exact fun _ _ _ h => hQ2 _ _ _ _ _ h) ?_
          (try simp only [glA, glB, glC, Act.put, glD, glE, glF])
          refine wpAnyJ_skip 30 (by first | exact hF | exact wideFn) hh rfl (by kernel_rfl) (by kernel_rfl) (by kernel_rfl) (by kernel_rfl) rfl (by first | exact fun _ _ _ h => h | exact fun _ _ _ h => hQ2 _ _ _ _ _ h) ?_
          (try simp only [glA, glB, glC, Act.put, glD, glE, glF])
          refine wpAnyJ_skip 31 (by first | exact hF | exact wideFn) hh rfl (by kernel_rfl) (by kernel_rfl) (by kernel_rfl) (by kernel_rfl) rfl (by first | exact fun _ _ _ h => h | exact fun _ _ _ h => hQ2 _ _ _ _ _ h) ?_
          (try simp only [glA, glB, glC, Act.put, glD, glE, glF])
          refine wpAnyJ_take 32 (v := ?_) (by first | exact hF | exact wideFn) hh rfl (by kernel_rfl) (by kernel_rfl) (by kernel_rfl) (by kernel_rfl) rfl ?_ (by first | exact fun _ _ _ h => h | exact fun _ _ _ h => hQ2 _ _ _ _ _ h) ?_
          rotate_left
          · intro W hSW
            simp only [glA, glB, glC]
            (try dsimp only at hSW)
            go_simp
            with_reducible rfl
          (try simp only [glA, glB, glC, Act.put, glD, glE, glF])
          refine wpAnyJ_done (by kernel_rfl) ?_
          go_wp2_with fail
          go_roundw
          case rel => exact ⟨k + 1, by omega, by go_num, hide (by
            show (fmF l k && (fmE (l.getD k e0) && fmO l k)) = true
            rw [HF.out, HE.out, HFE.out, HO.out]; rfl), HBd⟩
          case measure => simp [intOf]; omega
      -- END3
    · -- BEGIN4
      obtain rfl : k = n := by omega
      have hnl : ¬ (k : Int) < (k : Int) := by omega
      go_wp2_with fail
      go_ret
      refine ⟨ret_bool ?_, HBW.out⟩
      unfold formB
      rw [HN.out, HF.out, decide_eq_true (by omega)]; rfl
      -- END4
end Go.Proofs.YtmpegkojencbjaaDoor
