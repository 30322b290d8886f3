/- Chapter 8, the reference: Do. -/
import Derived.Test.YtlhekifmkkgjlaaBooksH
set_option linter.unusedSimpArgs false
set_option linter.unusedVariables false
set_option linter.unnecessarySimpa false
namespace Go.Proofs.Ytlhekifmkkgjlaa
open Go Go.RowKit Go.Shelf
set_option maxHeartbeats 2000000
set_option maxRecDepth 100000
/-- a call of a method of a book -/
structure Call8 where
  (me ki nn br : Int)
  bA : Option Addr
  (bm bc : Nat)
  (bx bv : Nat → Int)
  lA : Option Addr
  (lm lc : Nat)
  lz : Nat → Int
def Call8.val (c : Call8) : Value := .agg #[.int .i64 c.me, .int .i64 c.ki, .int .i64 c.nn, .int .i64 c.br, .slice c.bA c.bm c.bc, .slice c.lA c.lm c.lc]
def CallR (W : World) (B : Nat) (c : Call8) : Prop := PI W B c.bA c.bm c.bx c.bv ∧ IR W B c.lA c.lm c.lz ∧ c.bm ≤ 25 ∧ c.lm ≤ 25
theorem CallR.below {W W' : World} {B B' : Nat} {c : Call8} (h : CallR W B c) (hb : Below B' W W') (hB : B ≤ B') : CallR W' B c := ⟨h.1.below hb hB, h.2.1.below hb hB, h.2.2⟩
theorem CallR.more {W : World} {B B' : Nat} {c : Call8} (h : CallR W B c) (hB : B ≤ B') : CallR W B' c := ⟨h.1.more hB, h.2.1.more hB, h.2.2⟩
def kindE (c : Call8) (x : Wa) : Int := if c.me = 1 then mouldE x c.nn else if c.me = 2 then dryE x c.nn c.br else if c.me = 5 then layE x c.nn else if c.me = 6 then breakE x c.nn else replE x c.nn
def kindX (c : Call8) (x : Wa) : Wa := if c.me = 1 then mouldX x c.nn else if c.me = 2 then dryX x c.nn c.br else if c.me = 5 then layX x c.nn else if c.me = 6 then breakX x c.nn else replX x c.nn
def doEE (n m : Nat) (room : Int) (sp : Nat → Int) (ws : Nat → Wa) (od : Nat → Int) (c : Call8) : Int :=
  if c.me = 3 then fireEE n m c.bm room sp ws c.bx c.bv else if c.me = 4 then drawEE m c.lm ws od c.lz else
  if ¬ (0 ≤ c.ki ∧ c.ki ≤ (n : Int) - 1) then 7 else if ¬ (0 ≤ c.nn ∧ c.nn ≤ 1000000000) then 3 else kindE c (ws c.ki.toNat)
def doW (m : Nat) (ws : Nat → Wa) (od : Nat → Int) (c : Call8) : Nat → Wa :=
  if c.me = 3 then fireW ws c.bx c.bv c.bm else if c.me = 4 then drawW ws od c.lz m else upd ws c.ki.toNat (kindX c (ws c.ki.toNat))
def doM (m : Nat) (c : Call8) : Nat := if c.me = 3 then c.bm else if c.me = 4 then 0 else m
def doOd (od : Nat → Int) (c : Call8) : Nat → Int := if c.me = 3 then c.bx else od
def doAm (am : Nat → Int) (c : Call8) : Nat → Int := if c.me = 3 then c.bv else am
def RDoPost (SA : Option Addr) (n sc : Nat) (room : Int) (g wc : Nat) (BA : Option Addr) (m bc : Nat) (sp : Nat → Int) (ws : Nat → Wa) (od am : Nat → Int) (c : Call8) (w : World) (e : Ending) (w' : World) : Prop :=
  (doEE n m room sp ws od c ≠ 0 ∧ e = .returned (.tuple #[bkV SA n sc room (some ⟨g, 0, none⟩) wc BA m bc, .int .i64 (doEE n m room sp ws od c)]) ∧ Below w.heap.size w w') ∨
  (doEE n m room sp ws od c = 0 ∧ ∃ g' c' BA' bc', e = .returned (.tuple #[bkV SA n sc room (some ⟨g', 0, none⟩) c' BA' (doM m c) bc', .int .i64 0]) ∧ WL w' g' n (doW m ws od c) ∧ PI w' w'.heap.size BA' (doM m c) (doOd od c) (doAm am c) ∧ w.heap.size ≤ g' ∧ (∀ p, BA' = some p → (BA = some p ∧ doM m c = m) ∨ w.heap.size ≤ p.block) ∧ Below w.heap.size w w')
theorem bx6 {w : World} {p : Nat} {t : TypeId} {a b c d e f : Value} (h : Blk w p t #[a, b, c, d, e, f]) : p < w.heap.size ∧ w.cell? ⟨p, 0, none⟩ = some a ∧ w.cell? ⟨p, 1, none⟩ = some b ∧ w.cell? ⟨p, 2, none⟩ = some c ∧ w.cell? ⟨p, 3, none⟩ = some d ∧ w.cell? ⟨p, 4, none⟩ = some e ∧ w.cell? ⟨p, 5, none⟩ = some f :=
  ⟨h.lt, by rw [h.cell]; rfl, by rw [h.cell]; rfl, by rw [h.cell]; rfl, by rw [h.cell]; rfl, by rw [h.cell]; rfl, by rw [h.cell]; rfl⟩
/-- the boxes of Do -/
structure DB (w : World) (SA : Option Addr) (n sc : Nat) (room : Int) (g wc : Nat) (BA : Option Addr) (m bc : Nat) (ws : Nat → Wa) (c : Call8) (wr : World) : Prop where
  below : Below w.heap.size w wr
  b2 : Blk wr w.heap.size 87 #[.bool false, .slice SA n sc, .int .i64 room, .slice (some ⟨g, 0, none⟩) n wc, .slice BA m bc]
  b3 : Blk wr (w.heap.size + 1) 81 #[.int .i64 c.me, .int .i64 c.ki, .int .i64 c.nn, .int .i64 c.br, .slice c.bA c.bm c.bc, .slice c.lA c.lm c.lc]
  b4 : Blk wr (w.heap.size + 1 + 1) 87 #[.bool false, .slice none 0 0, .int .i64 0, .slice none 0 0, .slice none 0 0]
  wl : WL wr g n ws
  lo : g < w.heap.size
section
variable {w wr w' : World} {SA : Option Addr} {n sc : Nat} {room : Int} {g wc : Nat} {BA : Option Addr} {m bc : Nat} {ws : Nat → Wa} {c : Call8}
theorem DB.ext (h : DB w SA n sc room g wc BA m bc ws c wr) (hb : Below wr.heap.size wr w') : DB w SA n sc room g wc BA m bc ws c w' :=
  ⟨h.below.trans (hb.mono h.below.size), h.b2.ext hb, h.b3.ext hb, h.b4.ext hb, h.wl.ext hb, h.lo⟩
theorem DB.set (h : DB w SA n sc room g wc BA m bc ws c wr) {q : Nat} (hg : wr.grownBy w' (some q)) (hq : w.heap.size + 1 + 1 < q) : DB w SA n sc room g wc BA m bc ws c w' :=
  ⟨h.below.grown hg h.below.size (fun j hj => by injection hj with hj; omega), h.b2.grown hg (fun e => by injection e; omega), h.b3.grown hg (fun e => by injection e; omega), h.b4.grown hg (fun e => by injection e; omega), h.wl.grown hg (fun e => by have := h.lo; injection e; omega), h.lo⟩
end
theorem er_grown {w w' : World} {sz n g off : Nat} {f : Nat → Nat → Value} {row : Option Nat} (h : ER w w.heap.size sz (some ⟨g, off, none⟩) n f) (hg : w.grownBy w' row) (hr : some g ≠ row) : ER w' w'.heap.size sz (some ⟨g, off, none⟩) n f := fun hn => by
  obtain ⟨b, o, h1, h2, h3⟩ := h hn
  injection h1 with h1
  injection h1 with e1 e2
  subst e1 e2
  exact ⟨g, off, rfl, Nat.lt_of_lt_of_le h2 hg.size, fun k i hk hi => (World.cell?_of_block (hg.block g h2 hr)).trans (h3 k i hk hi)⟩
theorem refDo_any (SA : Option Addr) (n sc : Nat) (room : Int) (g wc : Nat) (BA : Option Addr) (m bc : Nat) (sp : Nat → Int) (ws : Nat → Wa) (od am : Nat → Int) (c : Call8) (w : World) (hW : WL w g n ws) (hn1 : 1 ≤ n) (hn : n ≤ 20) (hm20 : m ≤ 20)
    (hb : PI w w.heap.size BA m od am) (hcr : CallR w w.heap.size c) (hsp : IR w w.heap.size SA n sp) (hspb : ∀ k, k < n → 1 ≤ sp k ∧ sp k ≤ 1000) (hok : ∀ k, k < n → OkW (ws k)) (hr0 : 0 ≤ room) (hr1 : room ≤ 1000000000)
    (hod : ∀ i, i < m → 0 ≤ od i ∧ od i ≤ (n : Int) - 1) (hdis : ∀ i j, i < j → j < m → od i ≠ od j) (ham : ∀ i, i < m → (ws (od i).toNat).burning = am i) :
    Calls Try.prog 35 #[bkV SA n sc room (some ⟨g, 0, none⟩) wc BA m bc, c.val] w (RDoPost SA n sc room g wc BA m bc sp ws od am c w) := by
  have HF : Hid (DB w SA n sc room g wc BA m bc ws c (((w.alloc (.cells #[.bool false, .slice SA n sc, .int .i64 room, .slice (some ⟨g, 0, none⟩) n wc, .slice BA m bc] 87)).alloc (.cells #[.int .i64 c.me, .int .i64 c.ki, .int .i64 c.nn, .int .i64 c.br, .slice c.bA c.bm c.bc, .slice c.lA c.lm c.lc] 81)).alloc (.cells #[.bool false, .slice none 0 0, .int .i64 0, .slice none 0 0, .slice none 0 0] 87))) := hide (by
    have hb : Below w.heap.size w (((w.alloc (.cells #[.bool false, .slice SA n sc, .int .i64 room, .slice (some ⟨g, 0, none⟩) n wc, .slice BA m bc] 87)).alloc (.cells #[.int .i64 c.me, .int .i64 c.ki, .int .i64 c.nn, .int .i64 c.br, .slice c.bA c.bm c.bc, .slice c.lA c.lm c.lc] 81)).alloc (.cells #[.bool false, .slice none 0 0, .int .i64 0, .slice none 0 0, .slice none 0 0] 87)) := (((Below.refl _ _).alloc (Nat.le_refl _) _).alloc (by simp) _).alloc (by simp only [World.size_alloc]; omega) _
    exact ⟨hb, ((Blk.new w _ _).alloc _).alloc _, by simpa using (Blk.new (w.alloc (.cells #[.bool false, .slice SA n sc, .int .i64 room, .slice (some ⟨g, 0, none⟩) n wc, .slice BA m bc] 87)) 81 #[.int .i64 c.me, .int .i64 c.ki, .int .i64 c.nn, .int .i64 c.br, .slice c.bA c.bm c.bc, .slice c.lA c.lm c.lc]).alloc (.cells #[.bool false, .slice none 0 0, .int .i64 0, .slice none 0 0, .slice none 0 0] 87), by simpa using Blk.new ((w.alloc (.cells #[.bool false, .slice SA n sc, .int .i64 room, .slice (some ⟨g, 0, none⟩) n wc, .slice BA m bc] 87)).alloc (.cells #[.int .i64 c.me, .int .i64 c.ki, .int .i64 c.nn, .int .i64 c.br, .slice c.bA c.bm c.bc, .slice c.lA c.lm c.lc] 81)) 87 #[.bool false, .slice none 0 0, .int .i64 0, .slice none 0 0, .slice none 0 0], hW.ext hb, hW.lt⟩)
  have HBR := hide hb
  have HCR := hide hcr
  have HSP := hide hsp
  have HSB := hide hspb
  have HOK := hide hok
  have HOD := hide hod
  have HDIS := hide hdis
  have HAM := hide ham
  clear hb hcr hsp hspb hok hW hod hdis ham
  unfold bkV Call8.val
  go_enter Try.func35, Try.ntmps35
  go_upto_region 1 with fail
  generalize (((w.alloc (.cells #[.bool false, .slice SA n sc, .int .i64 room, .slice (some ⟨g, 0, none⟩) n wc, .slice BA m bc] 87)).alloc (.cells #[.int .i64 c.me, .int .i64 c.ki, .int .i64 c.nn, .int .i64 c.br, .slice c.bA c.bm c.bc, .slice c.lA c.lm c.lc] 81)).alloc (.cells #[.bool false, .slice none 0 0, .int .i64 0, .slice none 0 0, .slice none 0 0] 87)) = W0 at HF ⊢
  obtain ⟨a0, a1, a2, a3, a4, a5, f1, f2, f3, f4, f5⟩ := bx5' HF.out.b2
  obtain ⟨d0, d1, d2, d3, d4, d5, d6⟩ := bx6 HF.out.b3
  by_cases m3 : c.me = 3
  · have b3 : (c.me == 3) = true := by simp [m3]
    have HM := hide m3
    clear m3
    have HFI := hide (refFire_any SA n sc room g wc BA m bc c.bA c.bm c.bc sp ws c.bx c.bv W0 HF.out.wl hn1 hn hm20 ((HCR.out.1.below HF.out.below (Nat.le_refl _)).more HF.out.below.size) (by have := HCR.out.2.2.1; omega) ((HSP.out.below HF.out.below (Nat.le_refl _)).more HF.out.below.size) HSB.out HOK.out hr0 hr1)
    unfold bkV at HFI
    have hd : doEE n m room sp ws od c = fireEE n m c.bm room sp ws c.bx c.bv := by unfold doEE; rw [if_pos HM.out]
    have hdw : doW m ws od c = fireW ws c.bx c.bv c.bm := by unfold doW; rw [if_pos HM.out]
    have hdm : doM m c = c.bm := by unfold doM; rw [if_pos HM.out]
    have hdo : doOd od c = c.bx := by unfold doOd; rw [if_pos HM.out]
    have hda : doAm am c = c.bv := by unfold doAm; rw [if_pos HM.out]
    have HX := hide (And.intro hd (And.intro hdw (And.intro hdm (And.intro hdo hda))))
    clear hd hdw hdm hdo hda
    go_wp2_with fail
    refine HFI.out.mono ?_
    rintro e w1 hp
    clear a0 a1 a2 a3 a4 a5 f1 f2 f3 f4 f5 d0 d1 d2 d3 d4 d5 d6
    rcases hp with ⟨hE, rfl, hb1⟩ | ⟨hE, g', c', h', hc', rfl, hw, hp, hg, hh, hb1⟩
    · have HD := hide (HF.out.ext hb1)
      have HEN := hide hE
      obtain ⟨c0, c1, c2, c3, c4, c5, h1, h2, h3, h4, h5⟩ := bx5' HD.out.b4
      have HEX := hide HX.out.1
      clear hE hb1 HX
      generalize fireEE n m c.bm room sp ws c.bx c.bv = E at HEN HEX
      unfold bkV
      go_wp2_with fail
      exact bodyPost_ret (v := .tuple #[bkV SA n sc room (some ⟨g, 0, none⟩) wc BA m bc, .int .i64 E]) (by simp [results, Try.results35, go_sem, bkV, *]) rfl (.inl ⟨by rw [HEX.out]; exact HEN.out, by rw [HEX.out], set5_B HD.out.below (by omega) _ _ _ _ _⟩)
    · have HD := hide (HF.out.ext hb1)
      have HEN := hide hE
      obtain ⟨c0, c1, c2, c3, c4, c5, h1, h2, h3, h4, h5⟩ := bx5' HD.out.b4
      have h4z := HF.out.b4.lt
      have hwz := HF.out.below.size
      have hg5 := grown_set5 w1 (w.heap.size + 1 + 1) (.bool false) (.slice SA n sc) (.int .i64 room) (.slice (some ⟨g', 0, none⟩) n c') (.slice (some ⟨h', 0, none⟩) c.bm hc')
      have HW9 := hide (hw.grown hg5 (fun e => by injection e; omega))
      have HP9 := hide (er_grown hp hg5 (fun e => by injection e; omega))
      have HGH := hide (And.intro hg hh)
      clear hE hw hp hg5 hg hh hb1
      unfold bkV
      go_wp2_with fail
      refine bodyPost_ret (v := .tuple #[bkV SA n sc room (some ⟨g', 0, none⟩) c' (some ⟨h', 0, none⟩) c.bm hc', .int .i64 0]) (by simp [results, Try.results35, go_sem, bkV, *]) rfl (.inr ⟨HX.out.1.trans HEN.out, g', c', some ⟨h', 0, none⟩, hc', by rw [HX.out.2.2.1], by rw [HX.out.2.1]; exact HW9.out, by rw [HX.out.2.2.1, HX.out.2.2.2.1, HX.out.2.2.2.2]; exact HP9.out, by have := HGH.out.1; omega, fun p hp => .inr (by injection hp with hp; subst hp; have := HGH.out.2; show w.heap.size ≤ h'; omega), set5_B HD.out.below (by omega) _ _ _ _ _⟩)
  · have b3 : (c.me == 3) = false := by simp [m3]
    by_cases m4 : c.me = 4
    · have b4 : (c.me == 4) = true := by simp [m4]
      have hd : doEE n m room sp ws od c = drawEE m c.lm ws od c.lz := by unfold doEE; rw [if_neg m3, if_pos m4]
      have hdw : doW m ws od c = drawW ws od c.lz m := by unfold doW; rw [if_neg m3, if_pos m4]
      have hdm : doM m c = 0 := by unfold doM; rw [if_neg m3, if_pos m4]
      have HX := hide (And.intro hd (And.intro hdw hdm))
      have HFI := hide (refDraw_any SA n sc room g wc BA m bc c.lA c.lm c.lc ws od am c.lz W0 HF.out.wl hn1 hn hm20 ((HBR.out.below HF.out.below (Nat.le_refl _)).more HF.out.below.size) ((HCR.out.2.1.below HF.out.below (Nat.le_refl _)).more HF.out.below.size) (by have := HCR.out.2.2.2; omega) HOK.out HOD.out HDIS.out HAM.out)
      unfold bkV at HFI
      clear hd hdw hdm m3 m4
      go_wp2_with fail
      refine HFI.out.mono ?_
      rintro e w1 hp
      clear a0 a1 a2 a3 a4 a5 f1 f2 f3 f4 f5 d0 d1 d2 d3 d4 d5 d6
      rcases hp with ⟨hE, rfl, hb1⟩ | ⟨hE, g', c', rfl, hw, hg, hb1⟩
      · have HD := hide (HF.out.ext hb1)
        have HEN := hide hE
        obtain ⟨c0, c1, c2, c3, c4, c5, h1, h2, h3, h4, h5⟩ := bx5' HD.out.b4
        have HEX := hide HX.out.1
        clear hE hb1 HX
        generalize drawEE m c.lm ws od c.lz = E at HEN HEX
        unfold bkV
        go_wp2_with fail
        exact bodyPost_ret (v := .tuple #[bkV SA n sc room (some ⟨g, 0, none⟩) wc BA m bc, .int .i64 E]) (by simp [results, Try.results35, go_sem, bkV, *]) rfl (.inl ⟨by rw [HEX.out]; exact HEN.out, by rw [HEX.out], set5_B HD.out.below (by omega) _ _ _ _ _⟩)
      · have HD := hide (HF.out.ext hb1)
        have HEN := hide hE
        obtain ⟨c0, c1, c2, c3, c4, c5, h1, h2, h3, h4, h5⟩ := bx5' HD.out.b4
        have h4z := HF.out.b4.lt
        have hwz := HF.out.below.size
        have hg5 := grown_set5 w1 (w.heap.size + 1 + 1) (.bool false) (.slice SA n sc) (.int .i64 room) (.slice (some ⟨g', 0, none⟩) n c') (.slice none 0 0)
        have HW9 := hide (hw.grown hg5 (fun e => by injection e; omega))
        have HGH := hide hg
        clear hE hw hg5 hg hb1
        unfold bkV
        go_wp2_with fail
        refine bodyPost_ret (v := .tuple #[bkV SA n sc room (some ⟨g', 0, none⟩) c' none 0 0, .int .i64 0]) (by simp [results, Try.results35, go_sem, bkV, *]) rfl (.inr ⟨HX.out.1.trans HEN.out, g', c', none, 0, by rw [HX.out.2.2], by rw [HX.out.2.1]; exact HW9.out, by rw [HX.out.2.2]; exact ER.nil _ _ _ _ _, by have := HGH.out; omega, fun p hp => (by cases hp), set5_B HD.out.below (by omega) _ _ _ _ _⟩)
    · have b4 : (c.me == 4) = false := by simp [m4]
      have HWN := hide (show IntKind.i64.wrap ((n : Int) - 1) = (n : Int) - 1 from IntWalk.i64_in _ (by omega))
      have HI1 := refIn_any c.ki 0 ((n : Int) - 1) W0
      have HI2 := refIn_any c.nn 0 1000000000 W0
      have hdd : doEE n m room sp ws od c = (if ¬ (0 ≤ c.ki ∧ c.ki ≤ (n : Int) - 1) then 7 else if ¬ (0 ≤ c.nn ∧ c.nn ≤ 1000000000) then 3 else kindE c (ws c.ki.toNat)) := by unfold doEE; rw [if_neg m3, if_neg m4]
      have hdw : doW m ws od c = upd ws c.ki.toNat (kindX c (ws c.ki.toNat)) := by unfold doW; rw [if_neg m3, if_neg m4]
      have hdm : doM m c = m := by unfold doM; rw [if_neg m3, if_neg m4]
      have hdo : doOd od c = od := by unfold doOd; rw [if_neg m3]
      have hda : doAm am c = am := by unfold doAm; rw [if_neg m3]
      have HX := hide (And.intro hdd (And.intro hdw (And.intro hdm (And.intro hdo hda))))
      clear hdd hdw hdm hdo hda m3 m4
      rcases hk : inB c.ki 0 ((n : Int) - 1) with _ | _
      · have HEE := hide (show doEE n m room sp ws od c = 7 by rw [HX.out.1, if_pos (inB_no hk)])
        rw [hk] at HI1
        have HIH := hide HI1
        clear hk HI1 HI2 HX
        obtain ⟨c0, c1, c2, c3, c4, c5, h1, h2, h3, h4, h5⟩ := bx5' HF.out.b4
        go_wp2_with (go_at_call 70; refine HIH.out.mono ?_; rintro e w1 ⟨rfl, rfl⟩)
        exact bodyPost_ret (v := .tuple #[bkV SA n sc room (some ⟨g, 0, none⟩) wc BA m bc, .int .i64 7]) (by simp [results, Try.results35, go_sem, bkV, *]) rfl (.inl ⟨by rw [HEE.out]; decide, by rw [HEE.out], set5_B HF.out.below (by omega) _ _ _ _ _⟩)
      · have hk0 := (inB_iff _ _ _).1 hk
        obtain ⟨KK, hKK⟩ : ∃ KK : Nat, c.ki = KK := Int.eq_ofNat_of_zero_le hk0.1
        have hKn : KK < n := by omega
        rw [hk] at HI1
        have HIH := hide HI1
        rcases hn2 : inB c.nn 0 1000000000 with _ | _
        · have HEE := hide (show doEE n m room sp ws od c = 3 by rw [HX.out.1, if_neg (fun h => h hk0), if_pos (inB_no hn2)])
          rw [hn2] at HI2
          have HJH := hide HI2
          clear hk HI1 HI2 HX hn2 hKK
          obtain ⟨c0, c1, c2, c3, c4, c5, h1, h2, h3, h4, h5⟩ := bx5' HF.out.b4
          go_wp2_with (first | (go_at_call 70; (with_reducible refine HIH.out.mono ?_); rintro e w1 ⟨rfl, rfl⟩) | (go_at_call 70; refine HJH.out.mono ?_; rintro e w1 ⟨rfl, rfl⟩))
          exact bodyPost_ret (v := .tuple #[bkV SA n sc room (some ⟨g, 0, none⟩) wc BA m bc, .int .i64 3]) (by simp [results, Try.results35, go_sem, bkV, *]) rfl (.inl ⟨by rw [HEE.out]; decide, by rw [HEE.out], set5_B HF.out.below (by omega) _ _ _ _ _⟩)
        · obtain ⟨q0, q1⟩ := (inB_iff _ _ _).1 hn2
          rw [hn2] at HI2
          have HJH := hide HI2
          have HKE := hide hKK
          have HEK : Hid (doEE n m room sp ws od c = kindE c (ws KK)) := hide (by rw [HX.out.1, if_neg (fun h => h hk0), if_neg (fun h => h ⟨q0, q1⟩), hKK]; rfl)
          have HWK : Hid (doW m ws od c = upd ws KK (kindX c (ws KK))) := hide (by rw [HX.out.2.1, hKK]; rfl)
          have k1 : (0 : Int) ≤ (KK : Int) := by omega
          have k2 : (KK : Int) < (n : Int) := by omega
          rw [hKK] at d2 HIH
          clear hk HI1 HI2 hn2 hKK hk0
          obtain ⟨e0, -, e1, e2, e3, e4, e5, e6, e7⟩ := HF.out.wl.2 KK hKn
          go_upto_region 13 with (first | (go_at_call 70; (with_reducible refine HIH.out.mono ?_); rintro e w1 ⟨rfl, rfl⟩) | (go_at_call 70; refine HJH.out.mono ?_; rintro e w1 ⟨rfl, rfl⟩))
          have HD := hide (HF.out.ext ((Below.refl W0.heap.size W0).alloc (Nat.le_refl _) (.cells #[.int .i64 (ws KK).wet, .int .i64 (ws KK).dry, .int .i64 (ws KK).burning, .int .i64 (ws KK).fired, .int .i64 (ws KK).laid, .int .i64 (ws KK).broken, .int .i64 (ws KK).missing] 94)))
          have HT := hide (Blk.new W0 94 #[.int .i64 (ws KK).wet, .int .i64 (ws KK).dry, .int .i64 (ws KK).burning, .int .i64 (ws KK).fired, .int .i64 (ws KK).laid, .int .i64 (ws KK).broken, .int .i64 (ws KK).missing])
          have h6 : w.heap.size + 1 + 1 < W0.heap.size := HF.out.b4.lt
          have HO := hide (HOK.out KK hKn)
          clear a0 a1 a2 a3 a4 a5 f1 f2 f3 f4 f5 d0 d1 d2 d3 d4 d5 d6 e0 e1 e2 e3 e4 e5 e6 e7 HF b3 b4
          generalize (W0.alloc (.cells #[.int .i64 (ws KK).wet, .int .i64 (ws KK).dry, .int .i64 (ws KK).burning, .int .i64 (ws KK).fired, .int .i64 (ws KK).laid, .int .i64 (ws KK).broken, .int .i64 (ws KK).missing] 94)) = W1 at HD HT ⊢
          generalize W0.heap.size = g6 at HT h6 ⊢
          obtain ⟨o1, o2, o3, o4, o5, o6, o7, o8, o9⟩ := HO.out
          have HSBW : Hid (∀ W, DB w SA n sc room g wc BA m bc ws c W → W.cell? ⟨w.heap.size + 1, 2, none⟩ = some (.int .i64 c.nn) ∧ W.cell? ⟨w.heap.size + 1, 3, none⟩ = some (.int .i64 c.br)) := hide (fun W h => ⟨(bx6 h.b3).2.2.2.1, (bx6 h.b3).2.2.2.2.1⟩)
          obtain ⟨d0, d1, d2, d3, d4, d5, d6⟩ := bx6 HD.out.b3
          obtain ⟨c0, c1, c2, c3, c4, c5, c6, c7⟩ := bx7 HT.out
          by_cases m1 : c.me = 1
          · have b1 : (c.me == 1) = true := by simp [m1]
            have HKX : Hid (kindE c (ws KK) = mouldE (ws KK) c.nn ∧ kindX c (ws KK) = mouldX (ws KK) c.nn) := hide ⟨by unfold kindE; rw [if_pos m1], by unfold kindX; rw [if_pos m1]⟩
            clear m1
            go_upto_region 18 with fail
            have HTd := hide HT.out.drew
            have HDd := hide (HD.out.ext (Below.refl _ _).drew)
            have hw1 : IntKind.i64.wrap ((ws KK).sum + c.nn) = (ws KK).sum + c.nn := IntWalk.i64_in _ (by unfold Wa.sum; omega)
            clear c0 c1 c2 c3 c4 c5 c6 c7 d0 d1 d2 d3 d4 d5 d6
            have HS6 : Hid (∀ W, DB w SA n sc room g wc BA m bc ws c W → Blk W g6 94 #[.int .i64 (ws KK).wet, .int .i64 (ws KK).dry, .int .i64 (ws KK).burning, .int .i64 (ws KK).fired, .int .i64 (ws KK).laid, .int .i64 (ws KK).broken, .int .i64 (ws KK).missing] → (W.cell? ⟨g6, 0, none⟩ = some (.int .i64 (ws KK).wet) ∧ W.cell? ⟨g6, 1, none⟩ = some (.int .i64 (ws KK).dry) ∧ W.cell? ⟨g6, 2, none⟩ = some (.int .i64 (ws KK).burning) ∧ W.cell? ⟨g6, 3, none⟩ = some (.int .i64 (ws KK).fired) ∧ W.cell? ⟨g6, 4, none⟩ = some (.int .i64 (ws KK).laid) ∧ W.cell? ⟨g6, 5, none⟩ = some (.int .i64 (ws KK).broken) ∧ W.cell? ⟨g6, 6, none⟩ = some (.int .i64 (ws KK).missing)) ∧ W.cell? ⟨w.heap.size + 1, 2, none⟩ = some (.int .i64 c.nn) ∧ W.cell? ⟨w.heap.size + 1, 3, none⟩ = some (.int .i64 c.br)) := hide (fun W h1 h2 => ⟨(bx7 h2).2, HSBW.out W h1⟩)
            refine wp_region_J (fun W : World => (W.cell? ⟨g6, 0, none⟩ = some (.int .i64 (ws KK).wet) ∧ W.cell? ⟨g6, 1, none⟩ = some (.int .i64 (ws KK).dry) ∧ W.cell? ⟨g6, 2, none⟩ = some (.int .i64 (ws KK).burning) ∧ W.cell? ⟨g6, 3, none⟩ = some (.int .i64 (ws KK).fired) ∧ W.cell? ⟨g6, 4, none⟩ = some (.int .i64 (ws KK).laid) ∧ W.cell? ⟨g6, 5, none⟩ = some (.int .i64 (ws KK).broken) ∧ W.cell? ⟨g6, 6, none⟩ = some (.int .i64 (ws KK).missing)) ∧ W.cell? ⟨w.heap.size + 1, 2, none⟩ = some (.int .i64 c.nn) ∧ W.cell? ⟨w.heap.size + 1, 3, none⟩ = some (.int .i64 c.br)) (by kernel_rfl) ?_
            generalize W1.drew = wd at HTd HDd ⊢
            have HAL := hide (refAll_any (ws KK) wd HO.out)
            unfold agg7 at HAL
            by_cases hfull : 1000000000 < (ws KK).sum + c.nn
            · have HEE := hide (show doEE n m room sp ws od c = 8 by
                rw [HEK.out, HKX.out.1]; unfold mouldE; unfold Wa.sum at hfull; rw [if_pos hfull])
              refine wpAnyJ_take 0 (v := ?_) (by first | exact hF | exact wideFn) (HS6.out _ HDd.out HTd.out) rfl (by kernel_rfl) (by kernel_rfl) (by kernel_rfl) (by kernel_rfl) rfl ?_ (by first | exact fun _ _ _ h => h | exact fun _ _ _ h => hQ2 _ _ _ _ _ h) ?_
              rotate_left
              · intro W hSW
                simp only [List.getElem_toArray, List.getElem_cons_zero, List.getElem_cons_succ]
                (try dsimp only at hSW)
                go_simp
                with_reducible rfl
              (try simp only [List.getElem_toArray, List.getElem_cons_zero, List.getElem_cons_succ, Act.put, List.setIfInBounds_toArray, List.set_cons_zero, List.set_cons_succ])
              refine wpAnyJ_take 2 (v := ?_) (by first | exact hF | exact wideFn) (HS6.out _ HDd.out HTd.out) rfl (by kernel_rfl) (by kernel_rfl) (by kernel_rfl) (by kernel_rfl) rfl ?_ (by first | exact fun _ _ _ h => h | exact fun _ _ _ h => hQ2 _ _ _ _ _ h) ?_
              rotate_left
              · intro W hSW
                simp only [List.getElem_toArray, List.getElem_cons_zero, List.getElem_cons_succ]
                (try dsimp only at hSW)
                go_simp
                with_reducible rfl
              (try simp only [List.getElem_toArray, List.getElem_cons_zero, List.getElem_cons_succ, Act.put, List.setIfInBounds_toArray, List.set_cons_zero, List.set_cons_succ])
              refine wpAnyJ_take 3 (v := ?_) (by first | exact hF | exact wideFn) (HS6.out _ HDd.out HTd.out) rfl (by kernel_rfl) (by kernel_rfl) (by kernel_rfl) (by kernel_rfl) rfl ?_ (by first | exact fun _ _ _ h => h | exact fun _ _ _ h => hQ2 _ _ _ _ _ h) ?_
              rotate_left
              · intro W hSW
                simp only [List.getElem_toArray, List.getElem_cons_zero, List.getElem_cons_succ]
                (try dsimp only at hSW)
                go_simp
                with_reducible rfl
              (try simp only [List.getElem_toArray, List.getElem_cons_zero, List.getElem_cons_succ, Act.put, List.setIfInBounds_toArray, List.set_cons_zero, List.set_cons_succ])
              refine wpAnyJ_one 1 rfl (by kernel_rfl) (fun K hK => ?_)
              simp only [List.getElem_toArray, List.getElem_cons_zero, List.getElem_cons_succ]
              go_simp
              refine ⟨trivial, rfl, ?_⟩
              (with_reducible refine (callsIn_wide.2 HAL.out).mono ?_)
              rintro e w1 ⟨rfl, hb1⟩
              have HDe := hide (HDd.out.ext hb1); have HTe := hide (HTd.out.ext hb1)
              dsimp only
              refine hK.out _ _ (fun _ => (HS6.out _ HDe.out HTe.out)) ?_
              clear hK K
              (try simp only [List.getElem_toArray, List.getElem_cons_zero, List.getElem_cons_succ, Act.put, List.setIfInBounds_toArray, List.set_cons_zero, List.set_cons_succ])
              refine wpAnyJ_take 4 (v := ?_) (by first | exact hF | exact wideFn) (HS6.out _ HDe.out HTe.out) rfl (by kernel_rfl) (by kernel_rfl) (by kernel_rfl) (by kernel_rfl) rfl ?_ (by first | exact fun _ _ _ h => h | exact fun _ _ _ h => hQ2 _ _ _ _ _ h) ?_
              rotate_left
              · intro W hSW
                simp only [List.getElem_toArray, List.getElem_cons_zero, List.getElem_cons_succ]
                (try dsimp only at hSW)
                go_simp
                with_reducible rfl
              (try simp only [List.getElem_toArray, List.getElem_cons_zero, List.getElem_cons_succ, Act.put, List.setIfInBounds_toArray, List.set_cons_zero, List.set_cons_succ])
              refine wpAnyJ_take 5 (v := ?_) (by first | exact hF | exact wideFn) (HS6.out _ HDe.out HTe.out) rfl (by kernel_rfl) (by kernel_rfl) (by kernel_rfl) (by kernel_rfl) rfl ?_ (by first | exact fun _ _ _ h => h | exact fun _ _ _ h => hQ2 _ _ _ _ _ h) ?_
              rotate_left
              · intro W hSW
                simp only [List.getElem_toArray, List.getElem_cons_zero, List.getElem_cons_succ]
                (try dsimp only at hSW)
                go_simp
                with_reducible rfl
              (try simp only [List.getElem_toArray, List.getElem_cons_zero, List.getElem_cons_succ, Act.put, List.setIfInBounds_toArray, List.set_cons_zero, List.set_cons_succ])
              refine wpAnyJ_done (by kernel_rfl) ?_
              clear hw1 hfull o1 o2 o3 o4 o5 o6 o7 o8 o9
              obtain ⟨a0, a1, a2, a3, a4, a5, f1, f2, f3, f4, f5⟩ := bx5' HDe.out.b2
              obtain ⟨c0, c1, c2, c3, c4, c5, h1, h2, h3, h4, h5⟩ := bx5' HDe.out.b4
              obtain ⟨d0, d1, d2, d3, d4, d5, d6⟩ := bx6 HDe.out.b3
              go_wp2_with fail
              refine bodyPost_ret (v := .tuple #[bkV SA n sc room (some ⟨g, 0, none⟩) wc BA m bc, .int .i64 8]) (by simp [results, Try.results35, go_sem, bkV, *]) rfl (.inl ⟨by rw [HEE.out]; decide, by rw [HEE.out], set5_B HDe.out.below (by omega) _ _ _ _ _⟩)
            · have hno : ¬ 1000000000 < (ws KK).wet + (ws KK).dry + (ws KK).burning + (ws KK).fired + (ws KK).laid + (ws KK).broken + c.nn := hfull
              have HE0 := hide (show doEE n m room sp ws od c = 0 by rw [HEK.out, HKX.out.1]; unfold mouldE; rw [if_neg hno])
              have HXX := hide (show kindX c (ws KK) = ⟨(ws KK).wet + c.nn, (ws KK).dry, (ws KK).burning, (ws KK).fired, (ws KK).laid, (ws KK).broken, (ws KK).missing⟩ by rw [HKX.out.2]; unfold mouldX; rw [if_neg hno]; rfl)
              clear hno
              refine wpAnyJ_take 0 (v := ?_) (by first | exact hF | exact wideFn) (HS6.out _ HDd.out HTd.out) rfl (by kernel_rfl) (by kernel_rfl) (by kernel_rfl) (by kernel_rfl) rfl ?_ (by first | exact fun _ _ _ h => h | exact fun _ _ _ h => hQ2 _ _ _ _ _ h) ?_
              rotate_left
              · intro W hSW
                simp only [List.getElem_toArray, List.getElem_cons_zero, List.getElem_cons_succ]
                (try dsimp only at hSW)
                go_simp
                with_reducible rfl
              (try simp only [List.getElem_toArray, List.getElem_cons_zero, List.getElem_cons_succ, Act.put, List.setIfInBounds_toArray, List.set_cons_zero, List.set_cons_succ])
              refine wpAnyJ_take 2 (v := ?_) (by first | exact hF | exact wideFn) (HS6.out _ HDd.out HTd.out) rfl (by kernel_rfl) (by kernel_rfl) (by kernel_rfl) (by kernel_rfl) rfl ?_ (by first | exact fun _ _ _ h => h | exact fun _ _ _ h => hQ2 _ _ _ _ _ h) ?_
              rotate_left
              · intro W hSW
                simp only [List.getElem_toArray, List.getElem_cons_zero, List.getElem_cons_succ]
                (try dsimp only at hSW)
                go_simp
                with_reducible rfl
              (try simp only [List.getElem_toArray, List.getElem_cons_zero, List.getElem_cons_succ, Act.put, List.setIfInBounds_toArray, List.set_cons_zero, List.set_cons_succ])
              refine wpAnyJ_take 3 (v := ?_) (by first | exact hF | exact wideFn) (HS6.out _ HDd.out HTd.out) rfl (by kernel_rfl) (by kernel_rfl) (by kernel_rfl) (by kernel_rfl) rfl ?_ (by first | exact fun _ _ _ h => h | exact fun _ _ _ h => hQ2 _ _ _ _ _ h) ?_
              rotate_left
              · intro W hSW
                simp only [List.getElem_toArray, List.getElem_cons_zero, List.getElem_cons_succ]
                (try dsimp only at hSW)
                go_simp
                with_reducible rfl
              (try simp only [List.getElem_toArray, List.getElem_cons_zero, List.getElem_cons_succ, Act.put, List.setIfInBounds_toArray, List.set_cons_zero, List.set_cons_succ])
              refine wpAnyJ_one 1 rfl (by kernel_rfl) (fun K hK => ?_)
              simp only [List.getElem_toArray, List.getElem_cons_zero, List.getElem_cons_succ]
              go_simp
              refine ⟨trivial, rfl, ?_⟩
              (with_reducible refine (callsIn_wide.2 HAL.out).mono ?_)
              rintro e w1 ⟨rfl, hb1⟩
              have HDe := hide (HDd.out.ext hb1); have HTe := hide (HTd.out.ext hb1)
              dsimp only
              refine hK.out _ _ (fun _ => (HS6.out _ HDe.out HTe.out)) ?_
              clear hK K
              (try simp only [List.getElem_toArray, List.getElem_cons_zero, List.getElem_cons_succ, Act.put, List.setIfInBounds_toArray, List.set_cons_zero, List.set_cons_succ])
              refine wpAnyJ_take 4 (v := ?_) (by first | exact hF | exact wideFn) (HS6.out _ HDe.out HTe.out) rfl (by kernel_rfl) (by kernel_rfl) (by kernel_rfl) (by kernel_rfl) rfl ?_ (by first | exact fun _ _ _ h => h | exact fun _ _ _ h => hQ2 _ _ _ _ _ h) ?_
              rotate_left
              · intro W hSW
                simp only [List.getElem_toArray, List.getElem_cons_zero, List.getElem_cons_succ]
                (try dsimp only at hSW)
                go_simp
                with_reducible rfl
              (try simp only [List.getElem_toArray, List.getElem_cons_zero, List.getElem_cons_succ, Act.put, List.setIfInBounds_toArray, List.set_cons_zero, List.set_cons_succ])
              refine wpAnyJ_take 5 (v := ?_) (by first | exact hF | exact wideFn) (HS6.out _ HDe.out HTe.out) rfl (by kernel_rfl) (by kernel_rfl) (by kernel_rfl) (by kernel_rfl) rfl ?_ (by first | exact fun _ _ _ h => h | exact fun _ _ _ h => hQ2 _ _ _ _ _ h) ?_
              rotate_left
              · intro W hSW
                simp only [List.getElem_toArray, List.getElem_cons_zero, List.getElem_cons_succ]
                (try dsimp only at hSW)
                go_simp
                with_reducible rfl
              (try simp only [List.getElem_toArray, List.getElem_cons_zero, List.getElem_cons_succ, Act.put, List.setIfInBounds_toArray, List.set_cons_zero, List.set_cons_succ])
              refine wpAnyJ_done (by kernel_rfl) ?_
              clear hw1
              obtain ⟨d0, d1, d2, d3, d4, d5, d6⟩ := bx6 HDe.out.b3
              obtain ⟨c0, c1, c2, c3, c4, c5, c6, c7⟩ := bx7 HTe.out
              have f0 := HTe.out.frozen 0
              have hfl : (ws KK).wet + c.nn ≤ 1000000000 := by unfold Wa.sum at hfull; omega
              go_upto_region 35 with fail
              have HT2 : Hid (Blk (w1.setCell ⟨g6, 0, none⟩ (.int .i64 ((ws KK).wet + c.nn))) g6 94 #[.int .i64 ((ws KK).wet + c.nn), .int .i64 (ws KK).dry, .int .i64 (ws KK).burning, .int .i64 (ws KK).fired, .int .i64 (ws KK).laid, .int .i64 (ws KK).broken, .int .i64 (ws KK).missing]) := hide (by simpa using HTe.out.set_ 0 (.int .i64 ((ws KK).wet + c.nn)))
              have HD2 := hide (HDe.out.set (grownBy_setS (World.grownBy.refl w1 (some g6)) 0 (.int .i64 ((ws KK).wet + c.nn))) h6)
              clear c0 c1 c2 c3 c4 c5 c6 c7 d0 d1 d2 d3 d4 d5 d6 f0 hfl hfull o1 o2 o3 o4 o5 o6 o7 o8 o9
              generalize (w1.setCell ⟨g6, 0, none⟩ (.int .i64 ((ws KK).wet + c.nn))) = w2 at HT2 HD2 ⊢
              obtain ⟨a0, a1, a2, a3, a4, a5, f1, f2, f3, f4, f5⟩ := bx5' HD2.out.b2
              obtain ⟨d0, d1, d2, d3, d4, d5, d6⟩ := bx6 HD2.out.b3
              rw [HKE.out] at d2
              obtain ⟨c0, c1, c2, c3, c4, c5, c6, c7⟩ := bx7 HT2.out
              have HWI := hide (refWith_any SA n sc room g wc BA m bc KK ⟨((ws KK).wet + c.nn), (ws KK).dry, (ws KK).burning, (ws KK).fired, (ws KK).laid, (ws KK).broken, (ws KK).missing⟩ ws _ HD2.out.wl hn hKn)
              unfold bkV agg7 at HWI
              dsimp only at HWI
              go_wp2_with (go_at_call 79; refine HWI.out.mono ?_; rintro e w5 ⟨g5, c5n, rfl, hw5, hg5, hb5⟩; have HD5 := hide (HD2.out.ext hb5); have HW5 := hide hw5; have hg5w := HD2.out.below.size; have hg54 := HD2.out.b4.lt; have HG5 := hide hg5; clear hw5 hg5 hb5 a0 a1 a2 a3 a4 a5 f1 f2 f3 f4 f5 c0 c1 c2 c3 c4 c5 c6 c7 d0 d1 d2 d3 d4 d5 d6; unfold bkV; obtain ⟨a0, a1, a2, a3, a4, a5, f1, f2, f3, f4, f5⟩ := bx5' HD5.out.b4)
              have hg9 := HG5.out
              have hgr := grown_set5 w5 (w.heap.size + 1 + 1) (.bool false) (.slice SA n sc) (.int .i64 room) (.slice (some ⟨g5, 0, none⟩) n c5n) (.slice BA m bc)
              have HW9 := hide (HW5.out.grown hgr (fun e => by injection e; omega))
              have HB9 := hide (set5_B HD5.out.below (by omega : w.heap.size ≤ w.heap.size + 1 + 1) (.bool false) (.slice SA n sc) (.int .i64 room) (.slice (some ⟨g5, 0, none⟩) n c5n) (.slice BA m bc))
              refine bodyPost_ret (v := .tuple #[bkV SA n sc room (some ⟨g5, 0, none⟩) c5n BA m bc, .int .i64 0]) (by simp [results, Try.results35, go_sem, bkV, *]) rfl (.inr ⟨HE0.out, g5, c5n, BA, bc, by rw [HX.out.2.2.1], ?_, ?_, by omega, fun p hp => .inl ⟨hp, HX.out.2.2.1⟩, HB9.out⟩)
              · rw [HWK.out, HXX.out]; exact HW9.out
              · rw [HX.out.2.2.1, HX.out.2.2.2.1, HX.out.2.2.2.2]; exact (HBR.out.below HB9.out (Nat.le_refl _)).more HB9.out.size
          · have b1 : (c.me == 1) = false := by simp [m1]
            by_cases m2 : c.me = 2
            · have b2 : (c.me == 2) = true := by simp [m2]
              have HKX : Hid (kindE c (ws KK) = dryE (ws KK) c.nn c.br ∧ kindX c (ws KK) = dryX (ws KK) c.nn c.br) := hide ⟨by unfold kindE; rw [if_neg m1, if_pos m2], by unfold kindX; rw [if_neg m1, if_pos m2]⟩
              clear m1 m2
              have HI3 := refIn_any c.br 0 c.nn W1
              rcases hbr : inB c.br 0 c.nn with _ | _
              · have HEE := hide (show doEE n m room sp ws od c = 2 by rw [HEK.out, HKX.out.1]; unfold dryE; rw [if_pos (inB_no hbr)])
                rw [hbr] at HI3
                have HIK := hide HI3
                clear hbr HI3
                go_upto_region 23 with (go_at_call 70; refine HIK.out.mono ?_; rintro e w1 ⟨rfl, rfl⟩)
                clear c0 c1 c2 c3 c4 c5 c6 c7 d0 d1 d2 d3 d4 d5 d6 o1 o2 o3 o4 o5 o6 o7 o8 o9
                obtain ⟨a0, a1, a2, a3, a4, a5, f1, f2, f3, f4, f5⟩ := bx5' HD.out.b2
                obtain ⟨c0, c1, c2, c3, c4, c5, h1, h2, h3, h4, h5⟩ := bx5' HD.out.b4
                obtain ⟨d0, d1, d2, d3, d4, d5, d6⟩ := bx6 HD.out.b3
                go_wp2_with fail
                refine bodyPost_ret (v := .tuple #[bkV SA n sc room (some ⟨g, 0, none⟩) wc BA m bc, .int .i64 2]) (by simp [results, Try.results35, go_sem, bkV, *]) rfl (.inl ⟨by rw [HEE.out]; decide, by rw [HEE.out], set5_B HD.out.below (by omega) _ _ _ _ _⟩)
              · obtain ⟨r0, r1⟩ := (inB_iff _ _ _).1 hbr
                rw [hbr] at HI3
                have HIK := hide HI3
                clear hbr HI3
                by_cases hlt : (ws KK).wet < c.nn
                · have HEE := hide (show doEE n m room sp ws od c = 9 by rw [HEK.out, HKX.out.1]; unfold dryE; rw [if_neg (fun h => h ⟨r0, r1⟩), if_pos hlt])
                  go_upto_region 25 with (go_at_call 70; refine HIK.out.mono ?_; rintro e w1 ⟨rfl, rfl⟩)
                  clear c0 c1 c2 c3 c4 c5 c6 c7 d0 d1 d2 d3 d4 d5 d6 o1 o2 o3 o4 o5 o6 o7 o8 o9 hlt r0 r1
                  obtain ⟨a0, a1, a2, a3, a4, a5, f1, f2, f3, f4, f5⟩ := bx5' HD.out.b2
                  obtain ⟨c0, c1, c2, c3, c4, c5, h1, h2, h3, h4, h5⟩ := bx5' HD.out.b4
                  obtain ⟨d0, d1, d2, d3, d4, d5, d6⟩ := bx6 HD.out.b3
                  go_wp2_with fail
                  refine bodyPost_ret (v := .tuple #[bkV SA n sc room (some ⟨g, 0, none⟩) wc BA m bc, .int .i64 9]) (by simp [results, Try.results35, go_sem, bkV, *]) rfl (.inl ⟨by rw [HEE.out]; decide, by rw [HEE.out], set5_B HD.out.below (by omega) _ _ _ _ _⟩)
                · have HE0 := hide (show doEE n m room sp ws od c = 0 by rw [HEK.out, HKX.out.1]; unfold dryE; rw [if_neg (fun h => h ⟨r0, r1⟩), if_neg hlt])
                  have HXX := hide (show kindX c (ws KK) = ⟨(ws KK).wet - c.nn, (ws KK).dry + c.nn - c.br, (ws KK).burning, (ws KK).fired, (ws KK).laid, (ws KK).broken + c.br, (ws KK).missing⟩ by rw [HKX.out.2]; unfold dryX; rw [if_neg (fun h => h ⟨r0, r1⟩), if_neg hlt]; rfl)
                  have hw1 : IntKind.i64.wrap ((ws KK).wet - c.nn) = (ws KK).wet - c.nn := IntWalk.i64_in _ (by omega)
                  have hw2 : IntKind.i64.wrap ((ws KK).dry + c.nn) = (ws KK).dry + c.nn := IntWalk.i64_in _ (by omega)
                  have hw3 : IntKind.i64.wrap ((ws KK).dry + c.nn - c.br) = (ws KK).dry + c.nn - c.br := IntWalk.i64_in _ (by omega)
                  have hw4 : IntKind.i64.wrap ((ws KK).broken + c.br) = (ws KK).broken + c.br := IntWalk.i64_in _ (by omega)
                  go_upto_region 26 with (go_at_call 70; refine HIK.out.mono ?_; rintro e w1 ⟨rfl, rfl⟩)
                  clear hlt r0 r1
                  have HTd := hide HT.out.drew
                  have HDd := hide (HD.out.ext (Below.refl _ _).drew)
                  clear c0 c1 c2 c3 c4 c5 c6 c7 d0 d1 d2 d3 d4 d5 d6
                  refine wp_region_K (pickS [1, 6, 14] (fun W => W.cell? ⟨g6, 0, none⟩ = some (.int .i64 (ws KK).wet) ∧ W.cell? ⟨g6, 1, none⟩ = some (.int .i64 (ws KK).dry) ∧ W.cell? ⟨g6, 2, none⟩ = some (.int .i64 (ws KK).burning) ∧ W.cell? ⟨g6, 3, none⟩ = some (.int .i64 (ws KK).fired) ∧ W.cell? ⟨g6, 4, none⟩ = some (.int .i64 (ws KK).laid) ∧ W.cell? ⟨g6, 5, none⟩ = some (.int .i64 (ws KK).broken) ∧ W.cell? ⟨g6, 6, none⟩ = some (.int .i64 (ws KK).missing)) (fun W => W.cell? ⟨w.heap.size + 1, 2, none⟩ = some (.int .i64 c.nn) ∧ W.cell? ⟨w.heap.size + 1, 3, none⟩ = some (.int .i64 c.br))) (by kernel_rfl) ?_
                  generalize W1.drew = wd at HTd HDd ⊢
                  have HA := hide (bx7 HTd.out).2
                  have HSB := hide (HSBW.out _ HDd.out)
                  obtain ⟨c0, c1, c2, c3, c4, c5, c6, c7⟩ := bx7 HTd.out
                  have f0 := HTd.out.frozen 0
                  have f1 := HTd.out.frozen 1
                  have f5 := HTd.out.frozen 5
                  refine wpAnyK_take 0 (v := ?_) (by first | exact hF | exact wideFn) HSB.out rfl (by kernel_rfl) (by kernel_rfl) (by kernel_rfl) (by kernel_rfl) rfl ?_ (by first | exact fun _ _ _ h => h | exact fun _ _ _ h => hQ2 _ _ _ _ _ h) ?_
                  rotate_left
                  · intro W hSW
                    replace hSW : (W.cell? ⟨w.heap.size + 1, 2, none⟩ = some (.int .i64 c.nn) ∧ W.cell? ⟨w.heap.size + 1, 3, none⟩ = some (.int .i64 c.br)) := hSW
                    simp only [List.getElem_toArray, List.getElem_cons_zero, List.getElem_cons_succ]
                    (try dsimp only at hSW)
                    go_simp
                    with_reducible rfl
                  (try simp only [List.getElem_toArray, List.getElem_cons_zero, List.getElem_cons_succ, Act.put, List.setIfInBounds_toArray, List.set_cons_zero, List.set_cons_succ])
                  refine wpAnyK_take 1 (v := ?_) (by first | exact hF | exact wideFn) (And.intro HA.out HSB.out) rfl (by kernel_rfl) (by kernel_rfl) (by kernel_rfl) (by kernel_rfl) rfl ?_ (by first | exact fun _ _ _ h => h | exact fun _ _ _ h => hQ2 _ _ _ _ _ h) ?_
                  rotate_left
                  · intro W hSW
                    replace hSW : ((W.cell? ⟨g6, 0, none⟩ = some (.int .i64 (ws KK).wet) ∧ W.cell? ⟨g6, 1, none⟩ = some (.int .i64 (ws KK).dry) ∧ W.cell? ⟨g6, 2, none⟩ = some (.int .i64 (ws KK).burning) ∧ W.cell? ⟨g6, 3, none⟩ = some (.int .i64 (ws KK).fired) ∧ W.cell? ⟨g6, 4, none⟩ = some (.int .i64 (ws KK).laid) ∧ W.cell? ⟨g6, 5, none⟩ = some (.int .i64 (ws KK).broken) ∧ W.cell? ⟨g6, 6, none⟩ = some (.int .i64 (ws KK).missing)) ∧ W.cell? ⟨w.heap.size + 1, 2, none⟩ = some (.int .i64 c.nn) ∧ W.cell? ⟨w.heap.size + 1, 3, none⟩ = some (.int .i64 c.br)) := hSW
                    simp only [List.getElem_toArray, List.getElem_cons_zero, List.getElem_cons_succ]
                    (try dsimp only at hSW)
                    go_simp
                    with_reducible rfl
                  (try simp only [List.getElem_toArray, List.getElem_cons_zero, List.getElem_cons_succ, Act.put, List.setIfInBounds_toArray, List.set_cons_zero, List.set_cons_succ])
                  refine wpAnyK_take 2 (v := ?_) (by first | exact hF | exact wideFn) HSB.out rfl (by kernel_rfl) (by kernel_rfl) (by kernel_rfl) (by kernel_rfl) rfl ?_ (by first | exact fun _ _ _ h => h | exact fun _ _ _ h => hQ2 _ _ _ _ _ h) ?_
                  rotate_left
                  · intro W hSW
                    replace hSW : (W.cell? ⟨w.heap.size + 1, 2, none⟩ = some (.int .i64 c.nn) ∧ W.cell? ⟨w.heap.size + 1, 3, none⟩ = some (.int .i64 c.br)) := hSW
                    simp only [List.getElem_toArray, List.getElem_cons_zero, List.getElem_cons_succ]
                    (try dsimp only at hSW)
                    go_simp
                    with_reducible rfl
                  (try simp only [List.getElem_toArray, List.getElem_cons_zero, List.getElem_cons_succ, Act.put, List.setIfInBounds_toArray, List.set_cons_zero, List.set_cons_succ])
                  refine wpAnyK_take 3 (v := ?_) (by first | exact hF | exact wideFn) HSB.out rfl (by kernel_rfl) (by kernel_rfl) (by kernel_rfl) (by kernel_rfl) rfl ?_ (by first | exact fun _ _ _ h => h | exact fun _ _ _ h => hQ2 _ _ _ _ _ h) ?_
                  rotate_left
                  · intro W hSW
                    replace hSW : (W.cell? ⟨w.heap.size + 1, 2, none⟩ = some (.int .i64 c.nn) ∧ W.cell? ⟨w.heap.size + 1, 3, none⟩ = some (.int .i64 c.br)) := hSW
                    simp only [List.getElem_toArray, List.getElem_cons_zero, List.getElem_cons_succ]
                    (try dsimp only at hSW)
                    go_simp
                    with_reducible rfl
                  (try simp only [List.getElem_toArray, List.getElem_cons_zero, List.getElem_cons_succ, Act.put, List.setIfInBounds_toArray, List.set_cons_zero, List.set_cons_succ])
                  refine wpAnyK_take 4 (v := ?_) (by first | exact hF | exact wideFn) HSB.out rfl (by kernel_rfl) (by kernel_rfl) (by kernel_rfl) (by kernel_rfl) rfl ?_ (by first | exact fun _ _ _ h => h | exact fun _ _ _ h => hQ2 _ _ _ _ _ h) ?_
                  rotate_left
                  · intro W hSW
                    replace hSW : (W.cell? ⟨w.heap.size + 1, 2, none⟩ = some (.int .i64 c.nn) ∧ W.cell? ⟨w.heap.size + 1, 3, none⟩ = some (.int .i64 c.br)) := hSW
                    simp only [List.getElem_toArray, List.getElem_cons_zero, List.getElem_cons_succ]
                    (try dsimp only at hSW)
                    go_simp
                    with_reducible rfl
                  (try simp only [List.getElem_toArray, List.getElem_cons_zero, List.getElem_cons_succ, Act.put, List.setIfInBounds_toArray, List.set_cons_zero, List.set_cons_succ])
                  refine wpAnyK_take 5 (v := ?_) (by first | exact hF | exact wideFn) HSB.out rfl (by kernel_rfl) (by kernel_rfl) (by kernel_rfl) (by kernel_rfl) rfl ?_ (by first | exact fun _ _ _ h => h | exact fun _ _ _ h => hQ2 _ _ _ _ _ h) ?_
                  rotate_left
                  · intro W hSW
                    replace hSW : (W.cell? ⟨w.heap.size + 1, 2, none⟩ = some (.int .i64 c.nn) ∧ W.cell? ⟨w.heap.size + 1, 3, none⟩ = some (.int .i64 c.br)) := hSW
                    simp only [List.getElem_toArray, List.getElem_cons_zero, List.getElem_cons_succ]
                    (try dsimp only at hSW)
                    go_simp
                    with_reducible rfl
                  (try simp only [List.getElem_toArray, List.getElem_cons_zero, List.getElem_cons_succ, Act.put, List.setIfInBounds_toArray, List.set_cons_zero, List.set_cons_succ])
                  refine wpAnyK_take 6 (v := ?_) (by first | exact hF | exact wideFn) (And.intro HA.out HSB.out) rfl (by kernel_rfl) (by kernel_rfl) (by kernel_rfl) (by kernel_rfl) rfl ?_ (by first | exact fun _ _ _ h => h | exact fun _ _ _ h => hQ2 _ _ _ _ _ h) ?_
                  rotate_left
                  · intro W hSW
                    replace hSW : ((W.cell? ⟨g6, 0, none⟩ = some (.int .i64 (ws KK).wet) ∧ W.cell? ⟨g6, 1, none⟩ = some (.int .i64 (ws KK).dry) ∧ W.cell? ⟨g6, 2, none⟩ = some (.int .i64 (ws KK).burning) ∧ W.cell? ⟨g6, 3, none⟩ = some (.int .i64 (ws KK).fired) ∧ W.cell? ⟨g6, 4, none⟩ = some (.int .i64 (ws KK).laid) ∧ W.cell? ⟨g6, 5, none⟩ = some (.int .i64 (ws KK).broken) ∧ W.cell? ⟨g6, 6, none⟩ = some (.int .i64 (ws KK).missing)) ∧ W.cell? ⟨w.heap.size + 1, 2, none⟩ = some (.int .i64 c.nn) ∧ W.cell? ⟨w.heap.size + 1, 3, none⟩ = some (.int .i64 c.br)) := hSW
                    simp only [List.getElem_toArray, List.getElem_cons_zero, List.getElem_cons_succ]
                    (try dsimp only at hSW)
                    go_simp
                    with_reducible rfl
                  (try simp only [List.getElem_toArray, List.getElem_cons_zero, List.getElem_cons_succ, Act.put, List.setIfInBounds_toArray, List.set_cons_zero, List.set_cons_succ])
                  refine wpAnyK_take 7 (v := ?_) (by first | exact hF | exact wideFn) HSB.out rfl (by kernel_rfl) (by kernel_rfl) (by kernel_rfl) (by kernel_rfl) rfl ?_ (by first | exact fun _ _ _ h => h | exact fun _ _ _ h => hQ2 _ _ _ _ _ h) ?_
                  rotate_left
                  · intro W hSW
                    replace hSW : (W.cell? ⟨w.heap.size + 1, 2, none⟩ = some (.int .i64 c.nn) ∧ W.cell? ⟨w.heap.size + 1, 3, none⟩ = some (.int .i64 c.br)) := hSW
                    simp only [List.getElem_toArray, List.getElem_cons_zero, List.getElem_cons_succ]
                    (try dsimp only at hSW)
                    go_simp
                    with_reducible rfl
                  (try simp only [List.getElem_toArray, List.getElem_cons_zero, List.getElem_cons_succ, Act.put, List.setIfInBounds_toArray, List.set_cons_zero, List.set_cons_succ])
                  refine wpAnyK_take 8 (v := ?_) (by first | exact hF | exact wideFn) HSB.out rfl (by kernel_rfl) (by kernel_rfl) (by kernel_rfl) (by kernel_rfl) rfl ?_ (by first | exact fun _ _ _ h => h | exact fun _ _ _ h => hQ2 _ _ _ _ _ h) ?_
                  rotate_left
                  · intro W hSW
                    replace hSW : (W.cell? ⟨w.heap.size + 1, 2, none⟩ = some (.int .i64 c.nn) ∧ W.cell? ⟨w.heap.size + 1, 3, none⟩ = some (.int .i64 c.br)) := hSW
                    simp only [List.getElem_toArray, List.getElem_cons_zero, List.getElem_cons_succ]
                    (try dsimp only at hSW)
                    go_simp
                    with_reducible rfl
                  (try simp only [List.getElem_toArray, List.getElem_cons_zero, List.getElem_cons_succ, Act.put, List.setIfInBounds_toArray, List.set_cons_zero, List.set_cons_succ])
                  refine wpAnyK_take 9 (v := ?_) (by first | exact hF | exact wideFn) HSB.out rfl (by kernel_rfl) (by kernel_rfl) (by kernel_rfl) (by kernel_rfl) rfl ?_ (by first | exact fun _ _ _ h => h | exact fun _ _ _ h => hQ2 _ _ _ _ _ h) ?_
                  rotate_left
                  · intro W hSW
                    replace hSW : (W.cell? ⟨w.heap.size + 1, 2, none⟩ = some (.int .i64 c.nn) ∧ W.cell? ⟨w.heap.size + 1, 3, none⟩ = some (.int .i64 c.br)) := hSW
                    simp only [List.getElem_toArray, List.getElem_cons_zero, List.getElem_cons_succ]
                    (try dsimp only at hSW)
                    go_simp
                    with_reducible rfl
                  (try simp only [List.getElem_toArray, List.getElem_cons_zero, List.getElem_cons_succ, Act.put, List.setIfInBounds_toArray, List.set_cons_zero, List.set_cons_succ])
                  refine wpAnyK_take 10 (v := ?_) (by first | exact hF | exact wideFn) HSB.out rfl (by kernel_rfl) (by kernel_rfl) (by kernel_rfl) (by kernel_rfl) rfl ?_ (by first | exact fun _ _ _ h => h | exact fun _ _ _ h => hQ2 _ _ _ _ _ h) ?_
                  rotate_left
                  · intro W hSW
                    replace hSW : (W.cell? ⟨w.heap.size + 1, 2, none⟩ = some (.int .i64 c.nn) ∧ W.cell? ⟨w.heap.size + 1, 3, none⟩ = some (.int .i64 c.br)) := hSW
                    simp only [List.getElem_toArray, List.getElem_cons_zero, List.getElem_cons_succ]
                    (try dsimp only at hSW)
                    go_simp
                    with_reducible rfl
                  (try simp only [List.getElem_toArray, List.getElem_cons_zero, List.getElem_cons_succ, Act.put, List.setIfInBounds_toArray, List.set_cons_zero, List.set_cons_succ])
                  refine wpAnyK_take 11 (v := ?_) (by first | exact hF | exact wideFn) HSB.out rfl (by kernel_rfl) (by kernel_rfl) (by kernel_rfl) (by kernel_rfl) rfl ?_ (by first | exact fun _ _ _ h => h | exact fun _ _ _ h => hQ2 _ _ _ _ _ h) ?_
                  rotate_left
                  · intro W hSW
                    replace hSW : (W.cell? ⟨w.heap.size + 1, 2, none⟩ = some (.int .i64 c.nn) ∧ W.cell? ⟨w.heap.size + 1, 3, none⟩ = some (.int .i64 c.br)) := hSW
                    simp only [List.getElem_toArray, List.getElem_cons_zero, List.getElem_cons_succ]
                    (try dsimp only at hSW)
                    go_simp
                    with_reducible rfl
                  (try simp only [List.getElem_toArray, List.getElem_cons_zero, List.getElem_cons_succ, Act.put, List.setIfInBounds_toArray, List.set_cons_zero, List.set_cons_succ])
                  refine wpAnyK_take 12 (v := ?_) (by first | exact hF | exact wideFn) HSB.out rfl (by kernel_rfl) (by kernel_rfl) (by kernel_rfl) (by kernel_rfl) rfl ?_ (by first | exact fun _ _ _ h => h | exact fun _ _ _ h => hQ2 _ _ _ _ _ h) ?_
                  rotate_left
                  · intro W hSW
                    replace hSW : (W.cell? ⟨w.heap.size + 1, 2, none⟩ = some (.int .i64 c.nn) ∧ W.cell? ⟨w.heap.size + 1, 3, none⟩ = some (.int .i64 c.br)) := hSW
                    simp only [List.getElem_toArray, List.getElem_cons_zero, List.getElem_cons_succ]
                    (try dsimp only at hSW)
                    go_simp
                    with_reducible rfl
                  (try simp only [List.getElem_toArray, List.getElem_cons_zero, List.getElem_cons_succ, Act.put, List.setIfInBounds_toArray, List.set_cons_zero, List.set_cons_succ])
                  refine wpAnyK_take 13 (v := ?_) (by first | exact hF | exact wideFn) HSB.out rfl (by kernel_rfl) (by kernel_rfl) (by kernel_rfl) (by kernel_rfl) rfl ?_ (by first | exact fun _ _ _ h => h | exact fun _ _ _ h => hQ2 _ _ _ _ _ h) ?_
                  rotate_left
                  · intro W hSW
                    replace hSW : (W.cell? ⟨w.heap.size + 1, 2, none⟩ = some (.int .i64 c.nn) ∧ W.cell? ⟨w.heap.size + 1, 3, none⟩ = some (.int .i64 c.br)) := hSW
                    simp only [List.getElem_toArray, List.getElem_cons_zero, List.getElem_cons_succ]
                    (try dsimp only at hSW)
                    go_simp
                    with_reducible rfl
                  (try simp only [List.getElem_toArray, List.getElem_cons_zero, List.getElem_cons_succ, Act.put, List.setIfInBounds_toArray, List.set_cons_zero, List.set_cons_succ])
                  refine wpAnyK_take 14 (v := ?_) (by first | exact hF | exact wideFn) (And.intro HA.out HSB.out) rfl (by kernel_rfl) (by kernel_rfl) (by kernel_rfl) (by kernel_rfl) rfl ?_ (by first | exact fun _ _ _ h => h | exact fun _ _ _ h => hQ2 _ _ _ _ _ h) ?_
                  rotate_left
                  · intro W hSW
                    replace hSW : ((W.cell? ⟨g6, 0, none⟩ = some (.int .i64 (ws KK).wet) ∧ W.cell? ⟨g6, 1, none⟩ = some (.int .i64 (ws KK).dry) ∧ W.cell? ⟨g6, 2, none⟩ = some (.int .i64 (ws KK).burning) ∧ W.cell? ⟨g6, 3, none⟩ = some (.int .i64 (ws KK).fired) ∧ W.cell? ⟨g6, 4, none⟩ = some (.int .i64 (ws KK).laid) ∧ W.cell? ⟨g6, 5, none⟩ = some (.int .i64 (ws KK).broken) ∧ W.cell? ⟨g6, 6, none⟩ = some (.int .i64 (ws KK).missing)) ∧ W.cell? ⟨w.heap.size + 1, 2, none⟩ = some (.int .i64 c.nn) ∧ W.cell? ⟨w.heap.size + 1, 3, none⟩ = some (.int .i64 c.br)) := hSW
                    simp only [List.getElem_toArray, List.getElem_cons_zero, List.getElem_cons_succ]
                    (try dsimp only at hSW)
                    go_simp
                    with_reducible rfl
                  (try simp only [List.getElem_toArray, List.getElem_cons_zero, List.getElem_cons_succ, Act.put, List.setIfInBounds_toArray, List.set_cons_zero, List.set_cons_succ])
                  refine wpAnyK_take 15 (v := ?_) (by first | exact hF | exact wideFn) HSB.out rfl (by kernel_rfl) (by kernel_rfl) (by kernel_rfl) (by kernel_rfl) rfl ?_ (by first | exact fun _ _ _ h => h | exact fun _ _ _ h => hQ2 _ _ _ _ _ h) ?_
                  rotate_left
                  · intro W hSW
                    replace hSW : (W.cell? ⟨w.heap.size + 1, 2, none⟩ = some (.int .i64 c.nn) ∧ W.cell? ⟨w.heap.size + 1, 3, none⟩ = some (.int .i64 c.br)) := hSW
                    simp only [List.getElem_toArray, List.getElem_cons_zero, List.getElem_cons_succ]
                    (try dsimp only at hSW)
                    go_simp
                    with_reducible rfl
                  (try simp only [List.getElem_toArray, List.getElem_cons_zero, List.getElem_cons_succ, Act.put, List.setIfInBounds_toArray, List.set_cons_zero, List.set_cons_succ])
                  refine wpAnyK_take 16 (v := ?_) (by first | exact hF | exact wideFn) HSB.out rfl (by kernel_rfl) (by kernel_rfl) (by kernel_rfl) (by kernel_rfl) rfl ?_ (by first | exact fun _ _ _ h => h | exact fun _ _ _ h => hQ2 _ _ _ _ _ h) ?_
                  rotate_left
                  · intro W hSW
                    replace hSW : (W.cell? ⟨w.heap.size + 1, 2, none⟩ = some (.int .i64 c.nn) ∧ W.cell? ⟨w.heap.size + 1, 3, none⟩ = some (.int .i64 c.br)) := hSW
                    simp only [List.getElem_toArray, List.getElem_cons_zero, List.getElem_cons_succ]
                    (try dsimp only at hSW)
                    go_simp
                    with_reducible rfl
                  (try simp only [List.getElem_toArray, List.getElem_cons_zero, List.getElem_cons_succ, Act.put, List.setIfInBounds_toArray, List.set_cons_zero, List.set_cons_succ])
                  refine wpAnyK_take 17 (v := ?_) (by first | exact hF | exact wideFn) HSB.out rfl (by kernel_rfl) (by kernel_rfl) (by kernel_rfl) (by kernel_rfl) rfl ?_ (by first | exact fun _ _ _ h => h | exact fun _ _ _ h => hQ2 _ _ _ _ _ h) ?_
                  rotate_left
                  · intro W hSW
                    replace hSW : (W.cell? ⟨w.heap.size + 1, 2, none⟩ = some (.int .i64 c.nn) ∧ W.cell? ⟨w.heap.size + 1, 3, none⟩ = some (.int .i64 c.br)) := hSW
                    simp only [List.getElem_toArray, List.getElem_cons_zero, List.getElem_cons_succ]
                    (try dsimp only at hSW)
                    go_simp
                    with_reducible rfl
                  (try simp only [List.getElem_toArray, List.getElem_cons_zero, List.getElem_cons_succ, Act.put, List.setIfInBounds_toArray, List.set_cons_zero, List.set_cons_succ])
                  refine wpAnyK_take 18 (v := ?_) (by first | exact hF | exact wideFn) HSB.out rfl (by kernel_rfl) (by kernel_rfl) (by kernel_rfl) (by kernel_rfl) rfl ?_ (by first | exact fun _ _ _ h => h | exact fun _ _ _ h => hQ2 _ _ _ _ _ h) ?_
                  rotate_left
                  · intro W hSW
                    replace hSW : (W.cell? ⟨w.heap.size + 1, 2, none⟩ = some (.int .i64 c.nn) ∧ W.cell? ⟨w.heap.size + 1, 3, none⟩ = some (.int .i64 c.br)) := hSW
                    simp only [List.getElem_toArray, List.getElem_cons_zero, List.getElem_cons_succ]
                    (try dsimp only at hSW)
                    go_simp
                    with_reducible rfl
                  (try simp only [List.getElem_toArray, List.getElem_cons_zero, List.getElem_cons_succ, Act.put, List.setIfInBounds_toArray, List.set_cons_zero, List.set_cons_succ])
                  have HD1 := hide (HDd.out.set (grownBy_setS (World.grownBy.refl wd (some g6)) 0 (.int .i64 ((ws KK).wet - c.nn))) h6)
                  refine wpAnyK_one 19 rfl (by kernel_rfl) (fun K hK => ?_)
                  simp only [List.getElem_toArray, List.getElem_cons_zero, List.getElem_cons_succ]
                  go_simp
                  refine hK.out _ _ (.inr (pickS_need (by kernel_rfl) (HSBW.out _ HD1.out))) ?_
                  clear hK K
                  (try simp only [List.getElem_toArray, List.getElem_cons_zero, List.getElem_cons_succ, Act.put, List.setIfInBounds_toArray, List.set_cons_zero, List.set_cons_succ])
                  refine wpAnyK_take 20 (v := ?_) (by first | exact hF | exact wideFn) (HSBW.out _ HD1.out) rfl (by kernel_rfl) (by kernel_rfl) (by kernel_rfl) (by kernel_rfl) rfl ?_ (by first | exact fun _ _ _ h => h | exact fun _ _ _ h => hQ2 _ _ _ _ _ h) ?_
                  rotate_left
                  · intro W hSW
                    replace hSW : (W.cell? ⟨w.heap.size + 1, 2, none⟩ = some (.int .i64 c.nn) ∧ W.cell? ⟨w.heap.size + 1, 3, none⟩ = some (.int .i64 c.br)) := hSW
                    simp only [List.getElem_toArray, List.getElem_cons_zero, List.getElem_cons_succ]
                    (try dsimp only at hSW)
                    go_simp
                    with_reducible rfl
                  (try simp only [List.getElem_toArray, List.getElem_cons_zero, List.getElem_cons_succ, Act.put, List.setIfInBounds_toArray, List.set_cons_zero, List.set_cons_succ])
                  have HD2 := hide (HDd.out.set (grownBy_setS ((grownBy_setS (World.grownBy.refl wd (some g6)) 0 (.int .i64 ((ws KK).wet - c.nn)))) 1 (.int .i64 ((ws KK).dry + c.nn - c.br))) h6)
                  refine wpAnyK_one 21 rfl (by kernel_rfl) (fun K hK => ?_)
                  simp only [List.getElem_toArray, List.getElem_cons_zero, List.getElem_cons_succ]
                  go_simp
                  refine hK.out _ _ (.inr (pickS_need (by kernel_rfl) (HSBW.out _ HD2.out))) ?_
                  clear hK K
                  (try simp only [List.getElem_toArray, List.getElem_cons_zero, List.getElem_cons_succ, Act.put, List.setIfInBounds_toArray, List.set_cons_zero, List.set_cons_succ])
                  refine wpAnyK_take 22 (v := ?_) (by first | exact hF | exact wideFn) (HSBW.out _ HD2.out) rfl (by kernel_rfl) (by kernel_rfl) (by kernel_rfl) (by kernel_rfl) rfl ?_ (by first | exact fun _ _ _ h => h | exact fun _ _ _ h => hQ2 _ _ _ _ _ h) ?_
                  rotate_left
                  · intro W hSW
                    replace hSW : (W.cell? ⟨w.heap.size + 1, 2, none⟩ = some (.int .i64 c.nn) ∧ W.cell? ⟨w.heap.size + 1, 3, none⟩ = some (.int .i64 c.br)) := hSW
                    simp only [List.getElem_toArray, List.getElem_cons_zero, List.getElem_cons_succ]
                    (try dsimp only at hSW)
                    go_simp
                    with_reducible rfl
                  (try simp only [List.getElem_toArray, List.getElem_cons_zero, List.getElem_cons_succ, Act.put, List.setIfInBounds_toArray, List.set_cons_zero, List.set_cons_succ])
                  have HD3 := hide (HDd.out.set (grownBy_setS ((grownBy_setS ((grownBy_setS (World.grownBy.refl wd (some g6)) 0 (.int .i64 ((ws KK).wet - c.nn)))) 1 (.int .i64 ((ws KK).dry + c.nn - c.br)))) 5 (.int .i64 ((ws KK).broken + c.br))) h6)
                  refine wpAnyK_one 23 rfl (by kernel_rfl) (fun K hK => ?_)
                  simp only [List.getElem_toArray, List.getElem_cons_zero, List.getElem_cons_succ]
                  go_simp
                  refine hK.out _ _ (.inr (pickS_no (by kernel_rfl))) ?_
                  clear hK K
                  (try simp only [List.getElem_toArray, List.getElem_cons_zero, List.getElem_cons_succ, Act.put, List.setIfInBounds_toArray, List.set_cons_zero, List.set_cons_succ])
                  refine wpAnyK_done (by kernel_rfl) ?_
                  have HT2 : Hid (Blk (((wd.setCell ⟨g6, 0, none⟩ (.int .i64 ((ws KK).wet - c.nn))).setCell ⟨g6, 1, none⟩ (.int .i64 ((ws KK).dry + c.nn - c.br))).setCell ⟨g6, 5, none⟩ (.int .i64 ((ws KK).broken + c.br))) g6 94 #[.int .i64 ((ws KK).wet - c.nn), .int .i64 ((ws KK).dry + c.nn - c.br), .int .i64 ((ws KK).burning), .int .i64 ((ws KK).fired), .int .i64 ((ws KK).laid), .int .i64 ((ws KK).broken + c.br), .int .i64 ((ws KK).missing)]) := hide (by simpa using (((HTd.out.set_ 0 (.int .i64 ((ws KK).wet - c.nn))).set_ 1 (.int .i64 ((ws KK).dry + c.nn - c.br))).set_ 5 (.int .i64 ((ws KK).broken + c.br))))
                  clear c0 c1 c2 c3 c4 c5 c6 c7 f0 f1 f5 HA HSB HTd HDd hw1 hw2 hw3 hw4 o1 o2 o3 o4 o5 o6 o7 o8 o9 HD1 HD2
                  generalize (((wd.setCell ⟨g6, 0, none⟩ (.int .i64 ((ws KK).wet - c.nn))).setCell ⟨g6, 1, none⟩ (.int .i64 ((ws KK).dry + c.nn - c.br))).setCell ⟨g6, 5, none⟩ (.int .i64 ((ws KK).broken + c.br))) = w2 at HT2 HD3 ⊢
                  go_upto_region 35 with fail
                  obtain ⟨a0, a1, a2, a3, a4, a5, f1, f2, f3, f4, f5⟩ := bx5' HD3.out.b2
                  obtain ⟨d0, d1, d2, d3, d4, d5, d6⟩ := bx6 HD3.out.b3
                  rw [HKE.out] at d2
                  obtain ⟨c0, c1, c2, c3, c4, c5, c6, c7⟩ := bx7 HT2.out
                  have HWI := hide (refWith_any SA n sc room g wc BA m bc KK ⟨((ws KK).wet - c.nn), ((ws KK).dry + c.nn - c.br), ((ws KK).burning), ((ws KK).fired), ((ws KK).laid), ((ws KK).broken + c.br), ((ws KK).missing)⟩ ws _ HD3.out.wl hn hKn)
                  unfold bkV agg7 at HWI
                  dsimp only at HWI
                  go_wp2_with (go_at_call 79; refine HWI.out.mono ?_; rintro e w5 ⟨g5, c5n, rfl, hw5, hg5, hb5⟩; have HD5 := hide (HD3.out.ext hb5); have HW5 := hide hw5; have hg5w := HD3.out.below.size; have hg54 := HD3.out.b4.lt; have HG5 := hide hg5; clear hw5 hg5 hb5 a0 a1 a2 a3 a4 a5 f1 f2 f3 f4 f5 c0 c1 c2 c3 c4 c5 c6 c7 d0 d1 d2 d3 d4 d5 d6; unfold bkV; obtain ⟨a0, a1, a2, a3, a4, a5, f1, f2, f3, f4, f5⟩ := bx5' HD5.out.b4)
                  have hg9 := HG5.out
                  have hgr := grown_set5 w5 (w.heap.size + 1 + 1) (.bool false) (.slice SA n sc) (.int .i64 room) (.slice (some ⟨g5, 0, none⟩) n c5n) (.slice BA m bc)
                  have HW9 := hide (HW5.out.grown hgr (fun e => by injection e; omega))
                  have HB9 := hide (set5_B HD5.out.below (by omega : w.heap.size ≤ w.heap.size + 1 + 1) (.bool false) (.slice SA n sc) (.int .i64 room) (.slice (some ⟨g5, 0, none⟩) n c5n) (.slice BA m bc))
                  refine bodyPost_ret (v := .tuple #[bkV SA n sc room (some ⟨g5, 0, none⟩) c5n BA m bc, .int .i64 0]) (by simp [results, Try.results35, go_sem, bkV, *]) rfl (.inr ⟨HE0.out, g5, c5n, BA, bc, by rw [HX.out.2.2.1], ?_, ?_, by omega, fun p hp => .inl ⟨hp, HX.out.2.2.1⟩, HB9.out⟩)
                  · rw [HWK.out, HXX.out]; exact HW9.out
                  · rw [HX.out.2.2.1, HX.out.2.2.2.1, HX.out.2.2.2.2]; exact (HBR.out.below HB9.out (Nat.le_refl _)).more HB9.out.size
            · have b2 : (c.me == 2) = false := by simp [m2]
              by_cases m5 : c.me = 5
              · have b5 : (c.me == 5) = true := by simp [m5]
                have HKX : Hid (kindE c (ws KK) = layE (ws KK) c.nn ∧ kindX c (ws KK) = layX (ws KK) c.nn) := hide ⟨by unfold kindE; rw [if_neg m1, if_neg m2, if_pos m5], by unfold kindX; rw [if_neg m1, if_neg m2, if_pos m5]⟩
                clear m1 m2 m5
                by_cases hlt : (ws KK).fired < c.nn
                · have HEE := hide (show doEE n m room sp ws od c = 9 by rw [HEK.out, HKX.out.1]; unfold layE; rw [if_pos hlt])
                  go_upto_region 29 with fail
                  clear c0 c1 c2 c3 c4 c5 c6 c7 d0 d1 d2 d3 d4 d5 d6 o1 o2 o3 o4 o5 o6 o7 o8 o9 hlt
                  obtain ⟨a0, a1, a2, a3, a4, a5, f1, f2, f3, f4, f5⟩ := bx5' HD.out.b2
                  obtain ⟨c0, c1, c2, c3, c4, c5, h1, h2, h3, h4, h5⟩ := bx5' HD.out.b4
                  obtain ⟨d0, d1, d2, d3, d4, d5, d6⟩ := bx6 HD.out.b3
                  go_wp2_with fail
                  refine bodyPost_ret (v := .tuple #[bkV SA n sc room (some ⟨g, 0, none⟩) wc BA m bc, .int .i64 9]) (by simp [results, Try.results35, go_sem, bkV, *]) rfl (.inl ⟨by rw [HEE.out]; decide, by rw [HEE.out], set5_B HD.out.below (by omega) _ _ _ _ _⟩)
                · have HE0 := hide (show doEE n m room sp ws od c = 0 by rw [HEK.out, HKX.out.1]; unfold layE; rw [if_neg hlt])
                  have HXX := hide (show kindX c (ws KK) = ⟨(ws KK).wet, (ws KK).dry, (ws KK).burning, (ws KK).fired - c.nn, (ws KK).laid + c.nn, (ws KK).broken, (ws KK).missing⟩ by rw [HKX.out.2]; unfold layX; rw [if_neg hlt]; rfl)
                  have hw1 : IntKind.i64.wrap ((ws KK).fired - c.nn) = (ws KK).fired - c.nn := IntWalk.i64_in _ (by omega)
                  have hw2 : IntKind.i64.wrap ((ws KK).laid + c.nn) = (ws KK).laid + c.nn := IntWalk.i64_in _ (by omega)
                  have hw3 : True := trivial
                  have hw4 : True := trivial
                  go_upto_region 30 with fail
                  clear hlt
                  have HTd := hide HT.out.drew
                  have HDd := hide (HD.out.ext (Below.refl _ _).drew)
                  clear c0 c1 c2 c3 c4 c5 c6 c7 d0 d1 d2 d3 d4 d5 d6
                  refine wp_region_K (pickS [1, 6] (fun W => W.cell? ⟨g6, 0, none⟩ = some (.int .i64 (ws KK).wet) ∧ W.cell? ⟨g6, 1, none⟩ = some (.int .i64 (ws KK).dry) ∧ W.cell? ⟨g6, 2, none⟩ = some (.int .i64 (ws KK).burning) ∧ W.cell? ⟨g6, 3, none⟩ = some (.int .i64 (ws KK).fired) ∧ W.cell? ⟨g6, 4, none⟩ = some (.int .i64 (ws KK).laid) ∧ W.cell? ⟨g6, 5, none⟩ = some (.int .i64 (ws KK).broken) ∧ W.cell? ⟨g6, 6, none⟩ = some (.int .i64 (ws KK).missing)) (fun W => W.cell? ⟨w.heap.size + 1, 2, none⟩ = some (.int .i64 c.nn) ∧ W.cell? ⟨w.heap.size + 1, 3, none⟩ = some (.int .i64 c.br))) (by kernel_rfl) ?_
                  generalize W1.drew = wd at HTd HDd ⊢
                  have HA := hide (bx7 HTd.out).2
                  have HSB := hide (HSBW.out _ HDd.out)
                  obtain ⟨c0, c1, c2, c3, c4, c5, c6, c7⟩ := bx7 HTd.out
                  have f3 := HTd.out.frozen 3
                  have f4 := HTd.out.frozen 4
                  refine wpAnyK_take 0 (v := ?_) (by first | exact hF | exact wideFn) HSB.out rfl (by kernel_rfl) (by kernel_rfl) (by kernel_rfl) (by kernel_rfl) rfl ?_ (by first | exact fun _ _ _ h => h | exact fun _ _ _ h => hQ2 _ _ _ _ _ h) ?_
                  rotate_left
                  · intro W hSW
                    replace hSW : (W.cell? ⟨w.heap.size + 1, 2, none⟩ = some (.int .i64 c.nn) ∧ W.cell? ⟨w.heap.size + 1, 3, none⟩ = some (.int .i64 c.br)) := hSW
                    simp only [List.getElem_toArray, List.getElem_cons_zero, List.getElem_cons_succ]
                    (try dsimp only at hSW)
                    go_simp
                    with_reducible rfl
                  (try simp only [List.getElem_toArray, List.getElem_cons_zero, List.getElem_cons_succ, Act.put, List.setIfInBounds_toArray, List.set_cons_zero, List.set_cons_succ])
                  refine wpAnyK_take 1 (v := ?_) (by first | exact hF | exact wideFn) (And.intro HA.out HSB.out) rfl (by kernel_rfl) (by kernel_rfl) (by kernel_rfl) (by kernel_rfl) rfl ?_ (by first | exact fun _ _ _ h => h | exact fun _ _ _ h => hQ2 _ _ _ _ _ h) ?_
                  rotate_left
                  · intro W hSW
                    replace hSW : ((W.cell? ⟨g6, 0, none⟩ = some (.int .i64 (ws KK).wet) ∧ W.cell? ⟨g6, 1, none⟩ = some (.int .i64 (ws KK).dry) ∧ W.cell? ⟨g6, 2, none⟩ = some (.int .i64 (ws KK).burning) ∧ W.cell? ⟨g6, 3, none⟩ = some (.int .i64 (ws KK).fired) ∧ W.cell? ⟨g6, 4, none⟩ = some (.int .i64 (ws KK).laid) ∧ W.cell? ⟨g6, 5, none⟩ = some (.int .i64 (ws KK).broken) ∧ W.cell? ⟨g6, 6, none⟩ = some (.int .i64 (ws KK).missing)) ∧ W.cell? ⟨w.heap.size + 1, 2, none⟩ = some (.int .i64 c.nn) ∧ W.cell? ⟨w.heap.size + 1, 3, none⟩ = some (.int .i64 c.br)) := hSW
                    simp only [List.getElem_toArray, List.getElem_cons_zero, List.getElem_cons_succ]
                    (try dsimp only at hSW)
                    go_simp
                    with_reducible rfl
                  (try simp only [List.getElem_toArray, List.getElem_cons_zero, List.getElem_cons_succ, Act.put, List.setIfInBounds_toArray, List.set_cons_zero, List.set_cons_succ])
                  refine wpAnyK_take 2 (v := ?_) (by first | exact hF | exact wideFn) HSB.out rfl (by kernel_rfl) (by kernel_rfl) (by kernel_rfl) (by kernel_rfl) rfl ?_ (by first | exact fun _ _ _ h => h | exact fun _ _ _ h => hQ2 _ _ _ _ _ h) ?_
                  rotate_left
                  · intro W hSW
                    replace hSW : (W.cell? ⟨w.heap.size + 1, 2, none⟩ = some (.int .i64 c.nn) ∧ W.cell? ⟨w.heap.size + 1, 3, none⟩ = some (.int .i64 c.br)) := hSW
                    simp only [List.getElem_toArray, List.getElem_cons_zero, List.getElem_cons_succ]
                    (try dsimp only at hSW)
                    go_simp
                    with_reducible rfl
                  (try simp only [List.getElem_toArray, List.getElem_cons_zero, List.getElem_cons_succ, Act.put, List.setIfInBounds_toArray, List.set_cons_zero, List.set_cons_succ])
                  refine wpAnyK_take 3 (v := ?_) (by first | exact hF | exact wideFn) HSB.out rfl (by kernel_rfl) (by kernel_rfl) (by kernel_rfl) (by kernel_rfl) rfl ?_ (by first | exact fun _ _ _ h => h | exact fun _ _ _ h => hQ2 _ _ _ _ _ h) ?_
                  rotate_left
                  · intro W hSW
                    replace hSW : (W.cell? ⟨w.heap.size + 1, 2, none⟩ = some (.int .i64 c.nn) ∧ W.cell? ⟨w.heap.size + 1, 3, none⟩ = some (.int .i64 c.br)) := hSW
                    simp only [List.getElem_toArray, List.getElem_cons_zero, List.getElem_cons_succ]
                    (try dsimp only at hSW)
                    go_simp
                    with_reducible rfl
                  (try simp only [List.getElem_toArray, List.getElem_cons_zero, List.getElem_cons_succ, Act.put, List.setIfInBounds_toArray, List.set_cons_zero, List.set_cons_succ])
                  refine wpAnyK_take 4 (v := ?_) (by first | exact hF | exact wideFn) HSB.out rfl (by kernel_rfl) (by kernel_rfl) (by kernel_rfl) (by kernel_rfl) rfl ?_ (by first | exact fun _ _ _ h => h | exact fun _ _ _ h => hQ2 _ _ _ _ _ h) ?_
                  rotate_left
                  · intro W hSW
                    replace hSW : (W.cell? ⟨w.heap.size + 1, 2, none⟩ = some (.int .i64 c.nn) ∧ W.cell? ⟨w.heap.size + 1, 3, none⟩ = some (.int .i64 c.br)) := hSW
                    simp only [List.getElem_toArray, List.getElem_cons_zero, List.getElem_cons_succ]
                    (try dsimp only at hSW)
                    go_simp
                    with_reducible rfl
                  (try simp only [List.getElem_toArray, List.getElem_cons_zero, List.getElem_cons_succ, Act.put, List.setIfInBounds_toArray, List.set_cons_zero, List.set_cons_succ])
                  refine wpAnyK_take 5 (v := ?_) (by first | exact hF | exact wideFn) HSB.out rfl (by kernel_rfl) (by kernel_rfl) (by kernel_rfl) (by kernel_rfl) rfl ?_ (by first | exact fun _ _ _ h => h | exact fun _ _ _ h => hQ2 _ _ _ _ _ h) ?_
                  rotate_left
                  · intro W hSW
                    replace hSW : (W.cell? ⟨w.heap.size + 1, 2, none⟩ = some (.int .i64 c.nn) ∧ W.cell? ⟨w.heap.size + 1, 3, none⟩ = some (.int .i64 c.br)) := hSW
                    simp only [List.getElem_toArray, List.getElem_cons_zero, List.getElem_cons_succ]
                    (try dsimp only at hSW)
                    go_simp
                    with_reducible rfl
                  (try simp only [List.getElem_toArray, List.getElem_cons_zero, List.getElem_cons_succ, Act.put, List.setIfInBounds_toArray, List.set_cons_zero, List.set_cons_succ])
                  refine wpAnyK_take 6 (v := ?_) (by first | exact hF | exact wideFn) (And.intro HA.out HSB.out) rfl (by kernel_rfl) (by kernel_rfl) (by kernel_rfl) (by kernel_rfl) rfl ?_ (by first | exact fun _ _ _ h => h | exact fun _ _ _ h => hQ2 _ _ _ _ _ h) ?_
                  rotate_left
                  · intro W hSW
                    replace hSW : ((W.cell? ⟨g6, 0, none⟩ = some (.int .i64 (ws KK).wet) ∧ W.cell? ⟨g6, 1, none⟩ = some (.int .i64 (ws KK).dry) ∧ W.cell? ⟨g6, 2, none⟩ = some (.int .i64 (ws KK).burning) ∧ W.cell? ⟨g6, 3, none⟩ = some (.int .i64 (ws KK).fired) ∧ W.cell? ⟨g6, 4, none⟩ = some (.int .i64 (ws KK).laid) ∧ W.cell? ⟨g6, 5, none⟩ = some (.int .i64 (ws KK).broken) ∧ W.cell? ⟨g6, 6, none⟩ = some (.int .i64 (ws KK).missing)) ∧ W.cell? ⟨w.heap.size + 1, 2, none⟩ = some (.int .i64 c.nn) ∧ W.cell? ⟨w.heap.size + 1, 3, none⟩ = some (.int .i64 c.br)) := hSW
                    simp only [List.getElem_toArray, List.getElem_cons_zero, List.getElem_cons_succ]
                    (try dsimp only at hSW)
                    go_simp
                    with_reducible rfl
                  (try simp only [List.getElem_toArray, List.getElem_cons_zero, List.getElem_cons_succ, Act.put, List.setIfInBounds_toArray, List.set_cons_zero, List.set_cons_succ])
                  refine wpAnyK_take 7 (v := ?_) (by first | exact hF | exact wideFn) HSB.out rfl (by kernel_rfl) (by kernel_rfl) (by kernel_rfl) (by kernel_rfl) rfl ?_ (by first | exact fun _ _ _ h => h | exact fun _ _ _ h => hQ2 _ _ _ _ _ h) ?_
                  rotate_left
                  · intro W hSW
                    replace hSW : (W.cell? ⟨w.heap.size + 1, 2, none⟩ = some (.int .i64 c.nn) ∧ W.cell? ⟨w.heap.size + 1, 3, none⟩ = some (.int .i64 c.br)) := hSW
                    simp only [List.getElem_toArray, List.getElem_cons_zero, List.getElem_cons_succ]
                    (try dsimp only at hSW)
                    go_simp
                    with_reducible rfl
                  (try simp only [List.getElem_toArray, List.getElem_cons_zero, List.getElem_cons_succ, Act.put, List.setIfInBounds_toArray, List.set_cons_zero, List.set_cons_succ])
                  refine wpAnyK_take 8 (v := ?_) (by first | exact hF | exact wideFn) HSB.out rfl (by kernel_rfl) (by kernel_rfl) (by kernel_rfl) (by kernel_rfl) rfl ?_ (by first | exact fun _ _ _ h => h | exact fun _ _ _ h => hQ2 _ _ _ _ _ h) ?_
                  rotate_left
                  · intro W hSW
                    replace hSW : (W.cell? ⟨w.heap.size + 1, 2, none⟩ = some (.int .i64 c.nn) ∧ W.cell? ⟨w.heap.size + 1, 3, none⟩ = some (.int .i64 c.br)) := hSW
                    simp only [List.getElem_toArray, List.getElem_cons_zero, List.getElem_cons_succ]
                    (try dsimp only at hSW)
                    go_simp
                    with_reducible rfl
                  (try simp only [List.getElem_toArray, List.getElem_cons_zero, List.getElem_cons_succ, Act.put, List.setIfInBounds_toArray, List.set_cons_zero, List.set_cons_succ])
                  refine wpAnyK_take 9 (v := ?_) (by first | exact hF | exact wideFn) HSB.out rfl (by kernel_rfl) (by kernel_rfl) (by kernel_rfl) (by kernel_rfl) rfl ?_ (by first | exact fun _ _ _ h => h | exact fun _ _ _ h => hQ2 _ _ _ _ _ h) ?_
                  rotate_left
                  · intro W hSW
                    replace hSW : (W.cell? ⟨w.heap.size + 1, 2, none⟩ = some (.int .i64 c.nn) ∧ W.cell? ⟨w.heap.size + 1, 3, none⟩ = some (.int .i64 c.br)) := hSW
                    simp only [List.getElem_toArray, List.getElem_cons_zero, List.getElem_cons_succ]
                    (try dsimp only at hSW)
                    go_simp
                    with_reducible rfl
                  (try simp only [List.getElem_toArray, List.getElem_cons_zero, List.getElem_cons_succ, Act.put, List.setIfInBounds_toArray, List.set_cons_zero, List.set_cons_succ])
                  refine wpAnyK_take 10 (v := ?_) (by first | exact hF | exact wideFn) HSB.out rfl (by kernel_rfl) (by kernel_rfl) (by kernel_rfl) (by kernel_rfl) rfl ?_ (by first | exact fun _ _ _ h => h | exact fun _ _ _ h => hQ2 _ _ _ _ _ h) ?_
                  rotate_left
                  · intro W hSW
                    replace hSW : (W.cell? ⟨w.heap.size + 1, 2, none⟩ = some (.int .i64 c.nn) ∧ W.cell? ⟨w.heap.size + 1, 3, none⟩ = some (.int .i64 c.br)) := hSW
                    simp only [List.getElem_toArray, List.getElem_cons_zero, List.getElem_cons_succ]
                    (try dsimp only at hSW)
                    go_simp
                    with_reducible rfl
                  (try simp only [List.getElem_toArray, List.getElem_cons_zero, List.getElem_cons_succ, Act.put, List.setIfInBounds_toArray, List.set_cons_zero, List.set_cons_succ])
                  have HD1 := hide (HDd.out.set (grownBy_setS (World.grownBy.refl wd (some g6)) 3 (.int .i64 ((ws KK).fired - c.nn))) h6)
                  refine wpAnyK_one 11 rfl (by kernel_rfl) (fun K hK => ?_)
                  simp only [List.getElem_toArray, List.getElem_cons_zero, List.getElem_cons_succ]
                  go_simp
                  refine hK.out _ _ (.inr (pickS_need (by kernel_rfl) (HSBW.out _ HD1.out))) ?_
                  clear hK K
                  (try simp only [List.getElem_toArray, List.getElem_cons_zero, List.getElem_cons_succ, Act.put, List.setIfInBounds_toArray, List.set_cons_zero, List.set_cons_succ])
                  refine wpAnyK_take 12 (v := ?_) (by first | exact hF | exact wideFn) (HSBW.out _ HD1.out) rfl (by kernel_rfl) (by kernel_rfl) (by kernel_rfl) (by kernel_rfl) rfl ?_ (by first | exact fun _ _ _ h => h | exact fun _ _ _ h => hQ2 _ _ _ _ _ h) ?_
                  rotate_left
                  · intro W hSW
                    replace hSW : (W.cell? ⟨w.heap.size + 1, 2, none⟩ = some (.int .i64 c.nn) ∧ W.cell? ⟨w.heap.size + 1, 3, none⟩ = some (.int .i64 c.br)) := hSW
                    simp only [List.getElem_toArray, List.getElem_cons_zero, List.getElem_cons_succ]
                    (try dsimp only at hSW)
                    go_simp
                    with_reducible rfl
                  (try simp only [List.getElem_toArray, List.getElem_cons_zero, List.getElem_cons_succ, Act.put, List.setIfInBounds_toArray, List.set_cons_zero, List.set_cons_succ])
                  have HD2 := hide (HDd.out.set (grownBy_setS ((grownBy_setS (World.grownBy.refl wd (some g6)) 3 (.int .i64 ((ws KK).fired - c.nn)))) 4 (.int .i64 ((ws KK).laid + c.nn))) h6)
                  refine wpAnyK_one 13 rfl (by kernel_rfl) (fun K hK => ?_)
                  simp only [List.getElem_toArray, List.getElem_cons_zero, List.getElem_cons_succ]
                  go_simp
                  refine hK.out _ _ (.inr (pickS_no (by kernel_rfl))) ?_
                  clear hK K
                  (try simp only [List.getElem_toArray, List.getElem_cons_zero, List.getElem_cons_succ, Act.put, List.setIfInBounds_toArray, List.set_cons_zero, List.set_cons_succ])
                  refine wpAnyK_done (by kernel_rfl) ?_
                  have HT2 : Hid (Blk ((wd.setCell ⟨g6, 3, none⟩ (.int .i64 ((ws KK).fired - c.nn))).setCell ⟨g6, 4, none⟩ (.int .i64 ((ws KK).laid + c.nn))) g6 94 #[.int .i64 ((ws KK).wet), .int .i64 ((ws KK).dry), .int .i64 ((ws KK).burning), .int .i64 ((ws KK).fired - c.nn), .int .i64 ((ws KK).laid + c.nn), .int .i64 ((ws KK).broken), .int .i64 ((ws KK).missing)]) := hide (by simpa using ((HTd.out.set_ 3 (.int .i64 ((ws KK).fired - c.nn))).set_ 4 (.int .i64 ((ws KK).laid + c.nn))))
                  clear c0 c1 c2 c3 c4 c5 c6 c7 f3 f4 HA HSB HTd HDd hw1 hw2 hw3 hw4 o1 o2 o3 o4 o5 o6 o7 o8 o9 HD1
                  generalize ((wd.setCell ⟨g6, 3, none⟩ (.int .i64 ((ws KK).fired - c.nn))).setCell ⟨g6, 4, none⟩ (.int .i64 ((ws KK).laid + c.nn))) = w2 at HT2 HD2 ⊢
                  go_upto_region 35 with fail
                  obtain ⟨a0, a1, a2, a3, a4, a5, f1, f2, f3, f4, f5⟩ := bx5' HD2.out.b2
                  obtain ⟨d0, d1, d2, d3, d4, d5, d6⟩ := bx6 HD2.out.b3
                  rw [HKE.out] at d2
                  obtain ⟨c0, c1, c2, c3, c4, c5, c6, c7⟩ := bx7 HT2.out
                  have HWI := hide (refWith_any SA n sc room g wc BA m bc KK ⟨((ws KK).wet), ((ws KK).dry), ((ws KK).burning), ((ws KK).fired - c.nn), ((ws KK).laid + c.nn), ((ws KK).broken), ((ws KK).missing)⟩ ws _ HD2.out.wl hn hKn)
                  unfold bkV agg7 at HWI
                  dsimp only at HWI
                  go_wp2_with (go_at_call 79; refine HWI.out.mono ?_; rintro e w5 ⟨g5, c5n, rfl, hw5, hg5, hb5⟩; have HD5 := hide (HD2.out.ext hb5); have HW5 := hide hw5; have hg5w := HD2.out.below.size; have hg54 := HD2.out.b4.lt; have HG5 := hide hg5; clear hw5 hg5 hb5 a0 a1 a2 a3 a4 a5 f1 f2 f3 f4 f5 c0 c1 c2 c3 c4 c5 c6 c7 d0 d1 d2 d3 d4 d5 d6; unfold bkV; obtain ⟨a0, a1, a2, a3, a4, a5, f1, f2, f3, f4, f5⟩ := bx5' HD5.out.b4)
                  have hg9 := HG5.out
                  have hgr := grown_set5 w5 (w.heap.size + 1 + 1) (.bool false) (.slice SA n sc) (.int .i64 room) (.slice (some ⟨g5, 0, none⟩) n c5n) (.slice BA m bc)
                  have HW9 := hide (HW5.out.grown hgr (fun e => by injection e; omega))
                  have HB9 := hide (set5_B HD5.out.below (by omega : w.heap.size ≤ w.heap.size + 1 + 1) (.bool false) (.slice SA n sc) (.int .i64 room) (.slice (some ⟨g5, 0, none⟩) n c5n) (.slice BA m bc))
                  refine bodyPost_ret (v := .tuple #[bkV SA n sc room (some ⟨g5, 0, none⟩) c5n BA m bc, .int .i64 0]) (by simp [results, Try.results35, go_sem, bkV, *]) rfl (.inr ⟨HE0.out, g5, c5n, BA, bc, by rw [HX.out.2.2.1], ?_, ?_, by omega, fun p hp => .inl ⟨hp, HX.out.2.2.1⟩, HB9.out⟩)
                  · rw [HWK.out, HXX.out]; exact HW9.out
                  · rw [HX.out.2.2.1, HX.out.2.2.2.1, HX.out.2.2.2.2]; exact (HBR.out.below HB9.out (Nat.le_refl _)).more HB9.out.size
              · have b5 : (c.me == 5) = false := by simp [m5]
                by_cases m6 : c.me = 6
                · have b6 : (c.me == 6) = true := by simp [m6]
                  have HKX : Hid (kindE c (ws KK) = breakE (ws KK) c.nn ∧ kindX c (ws KK) = breakX (ws KK) c.nn) := hide ⟨by unfold kindE; rw [if_neg m1, if_neg m2, if_neg m5, if_pos m6], by unfold kindX; rw [if_neg m1, if_neg m2, if_neg m5, if_pos m6]⟩
                  clear m1 m2 m5 m6
                  by_cases hlt : (ws KK).laid < c.nn
                  · have HEE := hide (show doEE n m room sp ws od c = 9 by rw [HEK.out, HKX.out.1]; unfold breakE; rw [if_pos hlt])
                    go_upto_region 33 with fail
                    clear c0 c1 c2 c3 c4 c5 c6 c7 d0 d1 d2 d3 d4 d5 d6 o1 o2 o3 o4 o5 o6 o7 o8 o9 hlt
                    obtain ⟨a0, a1, a2, a3, a4, a5, f1, f2, f3, f4, f5⟩ := bx5' HD.out.b2
                    obtain ⟨c0, c1, c2, c3, c4, c5, h1, h2, h3, h4, h5⟩ := bx5' HD.out.b4
                    obtain ⟨d0, d1, d2, d3, d4, d5, d6⟩ := bx6 HD.out.b3
                    go_wp2_with fail
                    refine bodyPost_ret (v := .tuple #[bkV SA n sc room (some ⟨g, 0, none⟩) wc BA m bc, .int .i64 9]) (by simp [results, Try.results35, go_sem, bkV, *]) rfl (.inl ⟨by rw [HEE.out]; decide, by rw [HEE.out], set5_B HD.out.below (by omega) _ _ _ _ _⟩)
                  · have HE0 := hide (show doEE n m room sp ws od c = 0 by rw [HEK.out, HKX.out.1]; unfold breakE; rw [if_neg hlt])
                    have HXX := hide (show kindX c (ws KK) = ⟨(ws KK).wet, (ws KK).dry, (ws KK).burning, (ws KK).fired, (ws KK).laid - c.nn, (ws KK).broken + c.nn, (ws KK).missing + c.nn⟩ by rw [HKX.out.2]; unfold breakX; rw [if_neg hlt]; rfl)
                    have hw1 : IntKind.i64.wrap ((ws KK).laid - c.nn) = (ws KK).laid - c.nn := IntWalk.i64_in _ (by omega)
                    have hw2 : IntKind.i64.wrap ((ws KK).broken + c.nn) = (ws KK).broken + c.nn := IntWalk.i64_in _ (by omega)
                    have hw3 : IntKind.i64.wrap ((ws KK).missing + c.nn) = (ws KK).missing + c.nn := IntWalk.i64_in _ (by omega)
                    have hw4 : True := trivial
                    go_upto_region 34 with fail
                    clear hlt
                    have HTd := hide HT.out.drew
                    have HDd := hide (HD.out.ext (Below.refl _ _).drew)
                    clear c0 c1 c2 c3 c4 c5 c6 c7 d0 d1 d2 d3 d4 d5 d6
                    refine wp_region_K (pickS [1, 6, 11] (fun W => W.cell? ⟨g6, 0, none⟩ = some (.int .i64 (ws KK).wet) ∧ W.cell? ⟨g6, 1, none⟩ = some (.int .i64 (ws KK).dry) ∧ W.cell? ⟨g6, 2, none⟩ = some (.int .i64 (ws KK).burning) ∧ W.cell? ⟨g6, 3, none⟩ = some (.int .i64 (ws KK).fired) ∧ W.cell? ⟨g6, 4, none⟩ = some (.int .i64 (ws KK).laid) ∧ W.cell? ⟨g6, 5, none⟩ = some (.int .i64 (ws KK).broken) ∧ W.cell? ⟨g6, 6, none⟩ = some (.int .i64 (ws KK).missing)) (fun W => W.cell? ⟨w.heap.size + 1, 2, none⟩ = some (.int .i64 c.nn) ∧ W.cell? ⟨w.heap.size + 1, 3, none⟩ = some (.int .i64 c.br))) (by kernel_rfl) ?_
                    generalize W1.drew = wd at HTd HDd ⊢
                    have HA := hide (bx7 HTd.out).2
                    have HSB := hide (HSBW.out _ HDd.out)
                    obtain ⟨c0, c1, c2, c3, c4, c5, c6, c7⟩ := bx7 HTd.out
                    have f4 := HTd.out.frozen 4
                    have f5 := HTd.out.frozen 5
                    have f6 := HTd.out.frozen 6
                    refine wpAnyK_take 0 (v := ?_) (by first | exact hF | exact wideFn) HSB.out rfl (by kernel_rfl) (by kernel_rfl) (by kernel_rfl) (by kernel_rfl) rfl ?_ (by first | exact fun _ _ _ h => h | exact fun _ _ _ h => hQ2 _ _ _ _ _ h) ?_
                    rotate_left
                    · intro W hSW
                      replace hSW : (W.cell? ⟨w.heap.size + 1, 2, none⟩ = some (.int .i64 c.nn) ∧ W.cell? ⟨w.heap.size + 1, 3, none⟩ = some (.int .i64 c.br)) := hSW
                      simp only [List.getElem_toArray, List.getElem_cons_zero, List.getElem_cons_succ]
                      (try dsimp only at hSW)
                      go_simp
                      with_reducible rfl
                    (try simp only [List.getElem_toArray, List.getElem_cons_zero, List.getElem_cons_succ, Act.put, List.setIfInBounds_toArray, List.set_cons_zero, List.set_cons_succ])
                    refine wpAnyK_take 1 (v := ?_) (by first | exact hF | exact wideFn) (And.intro HA.out HSB.out) rfl (by kernel_rfl) (by kernel_rfl) (by kernel_rfl) (by kernel_rfl) rfl ?_ (by first | exact fun _ _ _ h => h | exact fun _ _ _ h => hQ2 _ _ _ _ _ h) ?_
                    rotate_left
                    · intro W hSW
                      replace hSW : ((W.cell? ⟨g6, 0, none⟩ = some (.int .i64 (ws KK).wet) ∧ W.cell? ⟨g6, 1, none⟩ = some (.int .i64 (ws KK).dry) ∧ W.cell? ⟨g6, 2, none⟩ = some (.int .i64 (ws KK).burning) ∧ W.cell? ⟨g6, 3, none⟩ = some (.int .i64 (ws KK).fired) ∧ W.cell? ⟨g6, 4, none⟩ = some (.int .i64 (ws KK).laid) ∧ W.cell? ⟨g6, 5, none⟩ = some (.int .i64 (ws KK).broken) ∧ W.cell? ⟨g6, 6, none⟩ = some (.int .i64 (ws KK).missing)) ∧ W.cell? ⟨w.heap.size + 1, 2, none⟩ = some (.int .i64 c.nn) ∧ W.cell? ⟨w.heap.size + 1, 3, none⟩ = some (.int .i64 c.br)) := hSW
                      simp only [List.getElem_toArray, List.getElem_cons_zero, List.getElem_cons_succ]
                      (try dsimp only at hSW)
                      go_simp
                      with_reducible rfl
                    (try simp only [List.getElem_toArray, List.getElem_cons_zero, List.getElem_cons_succ, Act.put, List.setIfInBounds_toArray, List.set_cons_zero, List.set_cons_succ])
                    refine wpAnyK_take 2 (v := ?_) (by first | exact hF | exact wideFn) HSB.out rfl (by kernel_rfl) (by kernel_rfl) (by kernel_rfl) (by kernel_rfl) rfl ?_ (by first | exact fun _ _ _ h => h | exact fun _ _ _ h => hQ2 _ _ _ _ _ h) ?_
                    rotate_left
                    · intro W hSW
                      replace hSW : (W.cell? ⟨w.heap.size + 1, 2, none⟩ = some (.int .i64 c.nn) ∧ W.cell? ⟨w.heap.size + 1, 3, none⟩ = some (.int .i64 c.br)) := hSW
                      simp only [List.getElem_toArray, List.getElem_cons_zero, List.getElem_cons_succ]
                      (try dsimp only at hSW)
                      go_simp
                      with_reducible rfl
                    (try simp only [List.getElem_toArray, List.getElem_cons_zero, List.getElem_cons_succ, Act.put, List.setIfInBounds_toArray, List.set_cons_zero, List.set_cons_succ])
                    refine wpAnyK_take 3 (v := ?_) (by first | exact hF | exact wideFn) HSB.out rfl (by kernel_rfl) (by kernel_rfl) (by kernel_rfl) (by kernel_rfl) rfl ?_ (by first | exact fun _ _ _ h => h | exact fun _ _ _ h => hQ2 _ _ _ _ _ h) ?_
                    rotate_left
                    · intro W hSW
                      replace hSW : (W.cell? ⟨w.heap.size + 1, 2, none⟩ = some (.int .i64 c.nn) ∧ W.cell? ⟨w.heap.size + 1, 3, none⟩ = some (.int .i64 c.br)) := hSW
                      simp only [List.getElem_toArray, List.getElem_cons_zero, List.getElem_cons_succ]
                      (try dsimp only at hSW)
                      go_simp
                      with_reducible rfl
                    (try simp only [List.getElem_toArray, List.getElem_cons_zero, List.getElem_cons_succ, Act.put, List.setIfInBounds_toArray, List.set_cons_zero, List.set_cons_succ])
                    refine wpAnyK_take 4 (v := ?_) (by first | exact hF | exact wideFn) HSB.out rfl (by kernel_rfl) (by kernel_rfl) (by kernel_rfl) (by kernel_rfl) rfl ?_ (by first | exact fun _ _ _ h => h | exact fun _ _ _ h => hQ2 _ _ _ _ _ h) ?_
                    rotate_left
                    · intro W hSW
                      replace hSW : (W.cell? ⟨w.heap.size + 1, 2, none⟩ = some (.int .i64 c.nn) ∧ W.cell? ⟨w.heap.size + 1, 3, none⟩ = some (.int .i64 c.br)) := hSW
                      simp only [List.getElem_toArray, List.getElem_cons_zero, List.getElem_cons_succ]
                      (try dsimp only at hSW)
                      go_simp
                      with_reducible rfl
                    (try simp only [List.getElem_toArray, List.getElem_cons_zero, List.getElem_cons_succ, Act.put, List.setIfInBounds_toArray, List.set_cons_zero, List.set_cons_succ])
                    refine wpAnyK_take 5 (v := ?_) (by first | exact hF | exact wideFn) HSB.out rfl (by kernel_rfl) (by kernel_rfl) (by kernel_rfl) (by kernel_rfl) rfl ?_ (by first | exact fun _ _ _ h => h | exact fun _ _ _ h => hQ2 _ _ _ _ _ h) ?_
                    rotate_left
                    · intro W hSW
                      replace hSW : (W.cell? ⟨w.heap.size + 1, 2, none⟩ = some (.int .i64 c.nn) ∧ W.cell? ⟨w.heap.size + 1, 3, none⟩ = some (.int .i64 c.br)) := hSW
                      simp only [List.getElem_toArray, List.getElem_cons_zero, List.getElem_cons_succ]
                      (try dsimp only at hSW)
                      go_simp
                      with_reducible rfl
                    (try simp only [List.getElem_toArray, List.getElem_cons_zero, List.getElem_cons_succ, Act.put, List.setIfInBounds_toArray, List.set_cons_zero, List.set_cons_succ])
                    refine wpAnyK_take 6 (v := ?_) (by first | exact hF | exact wideFn) (And.intro HA.out HSB.out) rfl (by kernel_rfl) (by kernel_rfl) (by kernel_rfl) (by kernel_rfl) rfl ?_ (by first | exact fun _ _ _ h => h | exact fun _ _ _ h => hQ2 _ _ _ _ _ h) ?_
                    rotate_left
                    · intro W hSW
                      replace hSW : ((W.cell? ⟨g6, 0, none⟩ = some (.int .i64 (ws KK).wet) ∧ W.cell? ⟨g6, 1, none⟩ = some (.int .i64 (ws KK).dry) ∧ W.cell? ⟨g6, 2, none⟩ = some (.int .i64 (ws KK).burning) ∧ W.cell? ⟨g6, 3, none⟩ = some (.int .i64 (ws KK).fired) ∧ W.cell? ⟨g6, 4, none⟩ = some (.int .i64 (ws KK).laid) ∧ W.cell? ⟨g6, 5, none⟩ = some (.int .i64 (ws KK).broken) ∧ W.cell? ⟨g6, 6, none⟩ = some (.int .i64 (ws KK).missing)) ∧ W.cell? ⟨w.heap.size + 1, 2, none⟩ = some (.int .i64 c.nn) ∧ W.cell? ⟨w.heap.size + 1, 3, none⟩ = some (.int .i64 c.br)) := hSW
                      simp only [List.getElem_toArray, List.getElem_cons_zero, List.getElem_cons_succ]
                      (try dsimp only at hSW)
                      go_simp
                      with_reducible rfl
                    (try simp only [List.getElem_toArray, List.getElem_cons_zero, List.getElem_cons_succ, Act.put, List.setIfInBounds_toArray, List.set_cons_zero, List.set_cons_succ])
                    refine wpAnyK_take 7 (v := ?_) (by first | exact hF | exact wideFn) HSB.out rfl (by kernel_rfl) (by kernel_rfl) (by kernel_rfl) (by kernel_rfl) rfl ?_ (by first | exact fun _ _ _ h => h | exact fun _ _ _ h => hQ2 _ _ _ _ _ h) ?_
                    rotate_left
                    · intro W hSW
                      replace hSW : (W.cell? ⟨w.heap.size + 1, 2, none⟩ = some (.int .i64 c.nn) ∧ W.cell? ⟨w.heap.size + 1, 3, none⟩ = some (.int .i64 c.br)) := hSW
                      simp only [List.getElem_toArray, List.getElem_cons_zero, List.getElem_cons_succ]
                      (try dsimp only at hSW)
                      go_simp
                      with_reducible rfl
                    (try simp only [List.getElem_toArray, List.getElem_cons_zero, List.getElem_cons_succ, Act.put, List.setIfInBounds_toArray, List.set_cons_zero, List.set_cons_succ])
                    refine wpAnyK_take 8 (v := ?_) (by first | exact hF | exact wideFn) HSB.out rfl (by kernel_rfl) (by kernel_rfl) (by kernel_rfl) (by kernel_rfl) rfl ?_ (by first | exact fun _ _ _ h => h | exact fun _ _ _ h => hQ2 _ _ _ _ _ h) ?_
                    rotate_left
                    · intro W hSW
                      replace hSW : (W.cell? ⟨w.heap.size + 1, 2, none⟩ = some (.int .i64 c.nn) ∧ W.cell? ⟨w.heap.size + 1, 3, none⟩ = some (.int .i64 c.br)) := hSW
                      simp only [List.getElem_toArray, List.getElem_cons_zero, List.getElem_cons_succ]
                      (try dsimp only at hSW)
                      go_simp
                      with_reducible rfl
                    (try simp only [List.getElem_toArray, List.getElem_cons_zero, List.getElem_cons_succ, Act.put, List.setIfInBounds_toArray, List.set_cons_zero, List.set_cons_succ])
                    refine wpAnyK_take 9 (v := ?_) (by first | exact hF | exact wideFn) HSB.out rfl (by kernel_rfl) (by kernel_rfl) (by kernel_rfl) (by kernel_rfl) rfl ?_ (by first | exact fun _ _ _ h => h | exact fun _ _ _ h => hQ2 _ _ _ _ _ h) ?_
                    rotate_left
                    · intro W hSW
                      replace hSW : (W.cell? ⟨w.heap.size + 1, 2, none⟩ = some (.int .i64 c.nn) ∧ W.cell? ⟨w.heap.size + 1, 3, none⟩ = some (.int .i64 c.br)) := hSW
                      simp only [List.getElem_toArray, List.getElem_cons_zero, List.getElem_cons_succ]
                      (try dsimp only at hSW)
                      go_simp
                      with_reducible rfl
                    (try simp only [List.getElem_toArray, List.getElem_cons_zero, List.getElem_cons_succ, Act.put, List.setIfInBounds_toArray, List.set_cons_zero, List.set_cons_succ])
                    refine wpAnyK_take 10 (v := ?_) (by first | exact hF | exact wideFn) HSB.out rfl (by kernel_rfl) (by kernel_rfl) (by kernel_rfl) (by kernel_rfl) rfl ?_ (by first | exact fun _ _ _ h => h | exact fun _ _ _ h => hQ2 _ _ _ _ _ h) ?_
                    rotate_left
                    · intro W hSW
                      replace hSW : (W.cell? ⟨w.heap.size + 1, 2, none⟩ = some (.int .i64 c.nn) ∧ W.cell? ⟨w.heap.size + 1, 3, none⟩ = some (.int .i64 c.br)) := hSW
                      simp only [List.getElem_toArray, List.getElem_cons_zero, List.getElem_cons_succ]
                      (try dsimp only at hSW)
                      go_simp
                      with_reducible rfl
                    (try simp only [List.getElem_toArray, List.getElem_cons_zero, List.getElem_cons_succ, Act.put, List.setIfInBounds_toArray, List.set_cons_zero, List.set_cons_succ])
                    refine wpAnyK_take 11 (v := ?_) (by first | exact hF | exact wideFn) (And.intro HA.out HSB.out) rfl (by kernel_rfl) (by kernel_rfl) (by kernel_rfl) (by kernel_rfl) rfl ?_ (by first | exact fun _ _ _ h => h | exact fun _ _ _ h => hQ2 _ _ _ _ _ h) ?_
                    rotate_left
                    · intro W hSW
                      replace hSW : ((W.cell? ⟨g6, 0, none⟩ = some (.int .i64 (ws KK).wet) ∧ W.cell? ⟨g6, 1, none⟩ = some (.int .i64 (ws KK).dry) ∧ W.cell? ⟨g6, 2, none⟩ = some (.int .i64 (ws KK).burning) ∧ W.cell? ⟨g6, 3, none⟩ = some (.int .i64 (ws KK).fired) ∧ W.cell? ⟨g6, 4, none⟩ = some (.int .i64 (ws KK).laid) ∧ W.cell? ⟨g6, 5, none⟩ = some (.int .i64 (ws KK).broken) ∧ W.cell? ⟨g6, 6, none⟩ = some (.int .i64 (ws KK).missing)) ∧ W.cell? ⟨w.heap.size + 1, 2, none⟩ = some (.int .i64 c.nn) ∧ W.cell? ⟨w.heap.size + 1, 3, none⟩ = some (.int .i64 c.br)) := hSW
                      simp only [List.getElem_toArray, List.getElem_cons_zero, List.getElem_cons_succ]
                      (try dsimp only at hSW)
                      go_simp
                      with_reducible rfl
                    (try simp only [List.getElem_toArray, List.getElem_cons_zero, List.getElem_cons_succ, Act.put, List.setIfInBounds_toArray, List.set_cons_zero, List.set_cons_succ])
                    refine wpAnyK_take 12 (v := ?_) (by first | exact hF | exact wideFn) HSB.out rfl (by kernel_rfl) (by kernel_rfl) (by kernel_rfl) (by kernel_rfl) rfl ?_ (by first | exact fun _ _ _ h => h | exact fun _ _ _ h => hQ2 _ _ _ _ _ h) ?_
                    rotate_left
                    · intro W hSW
                      replace hSW : (W.cell? ⟨w.heap.size + 1, 2, none⟩ = some (.int .i64 c.nn) ∧ W.cell? ⟨w.heap.size + 1, 3, none⟩ = some (.int .i64 c.br)) := hSW
                      simp only [List.getElem_toArray, List.getElem_cons_zero, List.getElem_cons_succ]
                      (try dsimp only at hSW)
                      go_simp
                      with_reducible rfl
                    (try simp only [List.getElem_toArray, List.getElem_cons_zero, List.getElem_cons_succ, Act.put, List.setIfInBounds_toArray, List.set_cons_zero, List.set_cons_succ])
                    refine wpAnyK_take 13 (v := ?_) (by first | exact hF | exact wideFn) HSB.out rfl (by kernel_rfl) (by kernel_rfl) (by kernel_rfl) (by kernel_rfl) rfl ?_ (by first | exact fun _ _ _ h => h | exact fun _ _ _ h => hQ2 _ _ _ _ _ h) ?_
                    rotate_left
                    · intro W hSW
                      replace hSW : (W.cell? ⟨w.heap.size + 1, 2, none⟩ = some (.int .i64 c.nn) ∧ W.cell? ⟨w.heap.size + 1, 3, none⟩ = some (.int .i64 c.br)) := hSW
                      simp only [List.getElem_toArray, List.getElem_cons_zero, List.getElem_cons_succ]
                      (try dsimp only at hSW)
                      go_simp
                      with_reducible rfl
                    (try simp only [List.getElem_toArray, List.getElem_cons_zero, List.getElem_cons_succ, Act.put, List.setIfInBounds_toArray, List.set_cons_zero, List.set_cons_succ])
                    refine wpAnyK_take 14 (v := ?_) (by first | exact hF | exact wideFn) HSB.out rfl (by kernel_rfl) (by kernel_rfl) (by kernel_rfl) (by kernel_rfl) rfl ?_ (by first | exact fun _ _ _ h => h | exact fun _ _ _ h => hQ2 _ _ _ _ _ h) ?_
                    rotate_left
                    · intro W hSW
                      replace hSW : (W.cell? ⟨w.heap.size + 1, 2, none⟩ = some (.int .i64 c.nn) ∧ W.cell? ⟨w.heap.size + 1, 3, none⟩ = some (.int .i64 c.br)) := hSW
                      simp only [List.getElem_toArray, List.getElem_cons_zero, List.getElem_cons_succ]
                      (try dsimp only at hSW)
                      go_simp
                      with_reducible rfl
                    (try simp only [List.getElem_toArray, List.getElem_cons_zero, List.getElem_cons_succ, Act.put, List.setIfInBounds_toArray, List.set_cons_zero, List.set_cons_succ])
                    refine wpAnyK_take 15 (v := ?_) (by first | exact hF | exact wideFn) HSB.out rfl (by kernel_rfl) (by kernel_rfl) (by kernel_rfl) (by kernel_rfl) rfl ?_ (by first | exact fun _ _ _ h => h | exact fun _ _ _ h => hQ2 _ _ _ _ _ h) ?_
                    rotate_left
                    · intro W hSW
                      replace hSW : (W.cell? ⟨w.heap.size + 1, 2, none⟩ = some (.int .i64 c.nn) ∧ W.cell? ⟨w.heap.size + 1, 3, none⟩ = some (.int .i64 c.br)) := hSW
                      simp only [List.getElem_toArray, List.getElem_cons_zero, List.getElem_cons_succ]
                      (try dsimp only at hSW)
                      go_simp
                      with_reducible rfl
                    (try simp only [List.getElem_toArray, List.getElem_cons_zero, List.getElem_cons_succ, Act.put, List.setIfInBounds_toArray, List.set_cons_zero, List.set_cons_succ])
                    have HD1 := hide (HDd.out.set (grownBy_setS (World.grownBy.refl wd (some g6)) 4 (.int .i64 ((ws KK).laid - c.nn))) h6)
                    refine wpAnyK_one 16 rfl (by kernel_rfl) (fun K hK => ?_)
                    simp only [List.getElem_toArray, List.getElem_cons_zero, List.getElem_cons_succ]
                    go_simp
                    refine hK.out _ _ (.inr (pickS_need (by kernel_rfl) (HSBW.out _ HD1.out))) ?_
                    clear hK K
                    (try simp only [List.getElem_toArray, List.getElem_cons_zero, List.getElem_cons_succ, Act.put, List.setIfInBounds_toArray, List.set_cons_zero, List.set_cons_succ])
                    refine wpAnyK_take 17 (v := ?_) (by first | exact hF | exact wideFn) (HSBW.out _ HD1.out) rfl (by kernel_rfl) (by kernel_rfl) (by kernel_rfl) (by kernel_rfl) rfl ?_ (by first | exact fun _ _ _ h => h | exact fun _ _ _ h => hQ2 _ _ _ _ _ h) ?_
                    rotate_left
                    · intro W hSW
                      replace hSW : (W.cell? ⟨w.heap.size + 1, 2, none⟩ = some (.int .i64 c.nn) ∧ W.cell? ⟨w.heap.size + 1, 3, none⟩ = some (.int .i64 c.br)) := hSW
                      simp only [List.getElem_toArray, List.getElem_cons_zero, List.getElem_cons_succ]
                      (try dsimp only at hSW)
                      go_simp
                      with_reducible rfl
                    (try simp only [List.getElem_toArray, List.getElem_cons_zero, List.getElem_cons_succ, Act.put, List.setIfInBounds_toArray, List.set_cons_zero, List.set_cons_succ])
                    have HD2 := hide (HDd.out.set (grownBy_setS ((grownBy_setS (World.grownBy.refl wd (some g6)) 4 (.int .i64 ((ws KK).laid - c.nn)))) 5 (.int .i64 ((ws KK).broken + c.nn))) h6)
                    refine wpAnyK_one 18 rfl (by kernel_rfl) (fun K hK => ?_)
                    simp only [List.getElem_toArray, List.getElem_cons_zero, List.getElem_cons_succ]
                    go_simp
                    refine hK.out _ _ (.inr (pickS_need (by kernel_rfl) (HSBW.out _ HD2.out))) ?_
                    clear hK K
                    (try simp only [List.getElem_toArray, List.getElem_cons_zero, List.getElem_cons_succ, Act.put, List.setIfInBounds_toArray, List.set_cons_zero, List.set_cons_succ])
                    refine wpAnyK_take 19 (v := ?_) (by first | exact hF | exact wideFn) (HSBW.out _ HD2.out) rfl (by kernel_rfl) (by kernel_rfl) (by kernel_rfl) (by kernel_rfl) rfl ?_ (by first | exact fun _ _ _ h => h | exact fun _ _ _ h => hQ2 _ _ _ _ _ h) ?_
                    rotate_left
                    · intro W hSW
                      replace hSW : (W.cell? ⟨w.heap.size + 1, 2, none⟩ = some (.int .i64 c.nn) ∧ W.cell? ⟨w.heap.size + 1, 3, none⟩ = some (.int .i64 c.br)) := hSW
                      simp only [List.getElem_toArray, List.getElem_cons_zero, List.getElem_cons_succ]
                      (try dsimp only at hSW)
                      go_simp
                      with_reducible rfl
                    (try simp only [List.getElem_toArray, List.getElem_cons_zero, List.getElem_cons_succ, Act.put, List.setIfInBounds_toArray, List.set_cons_zero, List.set_cons_succ])
                    have HD3 := hide (HDd.out.set (grownBy_setS ((grownBy_setS ((grownBy_setS (World.grownBy.refl wd (some g6)) 4 (.int .i64 ((ws KK).laid - c.nn)))) 5 (.int .i64 ((ws KK).broken + c.nn)))) 6 (.int .i64 ((ws KK).missing + c.nn))) h6)
                    refine wpAnyK_one 20 rfl (by kernel_rfl) (fun K hK => ?_)
                    simp only [List.getElem_toArray, List.getElem_cons_zero, List.getElem_cons_succ]
                    go_simp
                    refine hK.out _ _ (.inr (pickS_no (by kernel_rfl))) ?_
                    clear hK K
                    (try simp only [List.getElem_toArray, List.getElem_cons_zero, List.getElem_cons_succ, Act.put, List.setIfInBounds_toArray, List.set_cons_zero, List.set_cons_succ])
                    refine wpAnyK_done (by kernel_rfl) ?_
                    have HT2 : Hid (Blk (((wd.setCell ⟨g6, 4, none⟩ (.int .i64 ((ws KK).laid - c.nn))).setCell ⟨g6, 5, none⟩ (.int .i64 ((ws KK).broken + c.nn))).setCell ⟨g6, 6, none⟩ (.int .i64 ((ws KK).missing + c.nn))) g6 94 #[.int .i64 ((ws KK).wet), .int .i64 ((ws KK).dry), .int .i64 ((ws KK).burning), .int .i64 ((ws KK).fired), .int .i64 ((ws KK).laid - c.nn), .int .i64 ((ws KK).broken + c.nn), .int .i64 ((ws KK).missing + c.nn)]) := hide (by simpa using (((HTd.out.set_ 4 (.int .i64 ((ws KK).laid - c.nn))).set_ 5 (.int .i64 ((ws KK).broken + c.nn))).set_ 6 (.int .i64 ((ws KK).missing + c.nn))))
                    clear c0 c1 c2 c3 c4 c5 c6 c7 f4 f5 f6 HA HSB HTd HDd hw1 hw2 hw3 hw4 o1 o2 o3 o4 o5 o6 o7 o8 o9 HD1 HD2
                    generalize (((wd.setCell ⟨g6, 4, none⟩ (.int .i64 ((ws KK).laid - c.nn))).setCell ⟨g6, 5, none⟩ (.int .i64 ((ws KK).broken + c.nn))).setCell ⟨g6, 6, none⟩ (.int .i64 ((ws KK).missing + c.nn))) = w2 at HT2 HD3 ⊢
                    go_upto_region 35 with fail
                    obtain ⟨a0, a1, a2, a3, a4, a5, f1, f2, f3, f4, f5⟩ := bx5' HD3.out.b2
                    obtain ⟨d0, d1, d2, d3, d4, d5, d6⟩ := bx6 HD3.out.b3
                    rw [HKE.out] at d2
                    obtain ⟨c0, c1, c2, c3, c4, c5, c6, c7⟩ := bx7 HT2.out
                    have HWI := hide (refWith_any SA n sc room g wc BA m bc KK ⟨((ws KK).wet), ((ws KK).dry), ((ws KK).burning), ((ws KK).fired), ((ws KK).laid - c.nn), ((ws KK).broken + c.nn), ((ws KK).missing + c.nn)⟩ ws _ HD3.out.wl hn hKn)
                    unfold bkV agg7 at HWI
                    dsimp only at HWI
                    go_wp2_with (go_at_call 79; refine HWI.out.mono ?_; rintro e w5 ⟨g5, c5n, rfl, hw5, hg5, hb5⟩; have HD5 := hide (HD3.out.ext hb5); have HW5 := hide hw5; have hg5w := HD3.out.below.size; have hg54 := HD3.out.b4.lt; have HG5 := hide hg5; clear hw5 hg5 hb5 a0 a1 a2 a3 a4 a5 f1 f2 f3 f4 f5 c0 c1 c2 c3 c4 c5 c6 c7 d0 d1 d2 d3 d4 d5 d6; unfold bkV; obtain ⟨a0, a1, a2, a3, a4, a5, f1, f2, f3, f4, f5⟩ := bx5' HD5.out.b4)
                    have hg9 := HG5.out
                    have hgr := grown_set5 w5 (w.heap.size + 1 + 1) (.bool false) (.slice SA n sc) (.int .i64 room) (.slice (some ⟨g5, 0, none⟩) n c5n) (.slice BA m bc)
                    have HW9 := hide (HW5.out.grown hgr (fun e => by injection e; omega))
                    have HB9 := hide (set5_B HD5.out.below (by omega : w.heap.size ≤ w.heap.size + 1 + 1) (.bool false) (.slice SA n sc) (.int .i64 room) (.slice (some ⟨g5, 0, none⟩) n c5n) (.slice BA m bc))
                    refine bodyPost_ret (v := .tuple #[bkV SA n sc room (some ⟨g5, 0, none⟩) c5n BA m bc, .int .i64 0]) (by simp [results, Try.results35, go_sem, bkV, *]) rfl (.inr ⟨HE0.out, g5, c5n, BA, bc, by rw [HX.out.2.2.1], ?_, ?_, by omega, fun p hp => .inl ⟨hp, HX.out.2.2.1⟩, HB9.out⟩)
                    · rw [HWK.out, HXX.out]; exact HW9.out
                    · rw [HX.out.2.2.1, HX.out.2.2.2.1, HX.out.2.2.2.2]; exact (HBR.out.below HB9.out (Nat.le_refl _)).more HB9.out.size
                · have b6 : (c.me == 6) = false := by simp [m6]
                  have HKX : Hid (kindE c (ws KK) = replE (ws KK) c.nn ∧ kindX c (ws KK) = replX (ws KK) c.nn) := hide ⟨by unfold kindE; rw [if_neg m1, if_neg m2, if_neg m5, if_neg m6], by unfold kindX; rw [if_neg m1, if_neg m2, if_neg m5, if_neg m6]⟩
                  clear m1 m2 m5 m6
                  by_cases hlt : (ws KK).fired < c.nn
                  · have HEE := hide (show doEE n m room sp ws od c = 9 by rw [HEK.out, HKX.out.1]; unfold replE; rw [if_pos (.inr hlt)])
                    go_upto_region 15 with fail
                    clear c0 c1 c2 c3 c4 c5 c6 c7 d0 d1 d2 d3 d4 d5 d6 o1 o2 o3 o4 o5 o6 o7 o8 o9 hlt
                    obtain ⟨a0, a1, a2, a3, a4, a5, f1, f2, f3, f4, f5⟩ := bx5' HD.out.b2
                    obtain ⟨c0, c1, c2, c3, c4, c5, h1, h2, h3, h4, h5⟩ := bx5' HD.out.b4
                    obtain ⟨d0, d1, d2, d3, d4, d5, d6⟩ := bx6 HD.out.b3
                    go_wp2_with fail
                    refine bodyPost_ret (v := .tuple #[bkV SA n sc room (some ⟨g, 0, none⟩) wc BA m bc, .int .i64 9]) (by simp [results, Try.results35, go_sem, bkV, *]) rfl (.inl ⟨by rw [HEE.out]; decide, by rw [HEE.out], set5_B HD.out.below (by omega) _ _ _ _ _⟩)
                  · by_cases hms : (ws KK).missing < c.nn
                    · have HEE := hide (show doEE n m room sp ws od c = 9 by rw [HEK.out, HKX.out.1]; unfold replE; rw [if_pos (.inl hms)])
                      go_upto_region 15 with fail
                      clear c0 c1 c2 c3 c4 c5 c6 c7 d0 d1 d2 d3 d4 d5 d6 o1 o2 o3 o4 o5 o6 o7 o8 o9 hlt hms
                      obtain ⟨a0, a1, a2, a3, a4, a5, f1, f2, f3, f4, f5⟩ := bx5' HD.out.b2
                      obtain ⟨c0, c1, c2, c3, c4, c5, h1, h2, h3, h4, h5⟩ := bx5' HD.out.b4
                      obtain ⟨d0, d1, d2, d3, d4, d5, d6⟩ := bx6 HD.out.b3
                      go_wp2_with fail
                      refine bodyPost_ret (v := .tuple #[bkV SA n sc room (some ⟨g, 0, none⟩) wc BA m bc, .int .i64 9]) (by simp [results, Try.results35, go_sem, bkV, *]) rfl (.inl ⟨by rw [HEE.out]; decide, by rw [HEE.out], set5_B HD.out.below (by omega) _ _ _ _ _⟩)
                    · have HE0 := hide (show doEE n m room sp ws od c = 0 by rw [HEK.out, HKX.out.1]; unfold replE; rw [if_neg (fun h => h.elim hms hlt)])
                      have HXX := hide (show kindX c (ws KK) = ⟨(ws KK).wet, (ws KK).dry, (ws KK).burning, (ws KK).fired - c.nn, (ws KK).laid + c.nn, (ws KK).broken, (ws KK).missing - c.nn⟩ by rw [HKX.out.2]; unfold replX; rw [if_neg (fun h => h.elim hms hlt)]; rfl)
                      have hw1 : IntKind.i64.wrap ((ws KK).fired - c.nn) = (ws KK).fired - c.nn := IntWalk.i64_in _ (by omega)
                      have hw2 : IntKind.i64.wrap ((ws KK).laid + c.nn) = (ws KK).laid + c.nn := IntWalk.i64_in _ (by omega)
                      have hw3 : IntKind.i64.wrap ((ws KK).missing - c.nn) = (ws KK).missing - c.nn := IntWalk.i64_in _ (by omega)
                      have hw4 : True := trivial
                      go_upto_region 16 with fail
                      clear hlt hms
                      have HTd := hide HT.out.drew
                      have HDd := hide (HD.out.ext (Below.refl _ _).drew)
                      clear c0 c1 c2 c3 c4 c5 c6 c7 d0 d1 d2 d3 d4 d5 d6
                      refine wp_region_K (pickS [1, 6, 11] (fun W => W.cell? ⟨g6, 0, none⟩ = some (.int .i64 (ws KK).wet) ∧ W.cell? ⟨g6, 1, none⟩ = some (.int .i64 (ws KK).dry) ∧ W.cell? ⟨g6, 2, none⟩ = some (.int .i64 (ws KK).burning) ∧ W.cell? ⟨g6, 3, none⟩ = some (.int .i64 (ws KK).fired) ∧ W.cell? ⟨g6, 4, none⟩ = some (.int .i64 (ws KK).laid) ∧ W.cell? ⟨g6, 5, none⟩ = some (.int .i64 (ws KK).broken) ∧ W.cell? ⟨g6, 6, none⟩ = some (.int .i64 (ws KK).missing)) (fun W => W.cell? ⟨w.heap.size + 1, 2, none⟩ = some (.int .i64 c.nn) ∧ W.cell? ⟨w.heap.size + 1, 3, none⟩ = some (.int .i64 c.br))) (by kernel_rfl) ?_
                      generalize W1.drew = wd at HTd HDd ⊢
                      have HA := hide (bx7 HTd.out).2
                      have HSB := hide (HSBW.out _ HDd.out)
                      obtain ⟨c0, c1, c2, c3, c4, c5, c6, c7⟩ := bx7 HTd.out
                      have f3 := HTd.out.frozen 3
                      have f4 := HTd.out.frozen 4
                      have f6 := HTd.out.frozen 6
                      refine wpAnyK_take 0 (v := ?_) (by first | exact hF | exact wideFn) HSB.out rfl (by kernel_rfl) (by kernel_rfl) (by kernel_rfl) (by kernel_rfl) rfl ?_ (by first | exact fun _ _ _ h => h | exact fun _ _ _ h => hQ2 _ _ _ _ _ h) ?_
                      rotate_left
                      · intro W hSW
                        replace hSW : (W.cell? ⟨w.heap.size + 1, 2, none⟩ = some (.int .i64 c.nn) ∧ W.cell? ⟨w.heap.size + 1, 3, none⟩ = some (.int .i64 c.br)) := hSW
                        simp only [List.getElem_toArray, List.getElem_cons_zero, List.getElem_cons_succ]
                        (try dsimp only at hSW)
                        go_simp
                        with_reducible rfl
                      (try simp only [List.getElem_toArray, List.getElem_cons_zero, List.getElem_cons_succ, Act.put, List.setIfInBounds_toArray, List.set_cons_zero, List.set_cons_succ])
                      refine wpAnyK_take 1 (v := ?_) (by first | exact hF | exact wideFn) (And.intro HA.out HSB.out) rfl (by kernel_rfl) (by kernel_rfl) (by kernel_rfl) (by kernel_rfl) rfl ?_ (by first | exact fun _ _ _ h => h | exact fun _ _ _ h => hQ2 _ _ _ _ _ h) ?_
                      rotate_left
                      · intro W hSW
                        replace hSW : ((W.cell? ⟨g6, 0, none⟩ = some (.int .i64 (ws KK).wet) ∧ W.cell? ⟨g6, 1, none⟩ = some (.int .i64 (ws KK).dry) ∧ W.cell? ⟨g6, 2, none⟩ = some (.int .i64 (ws KK).burning) ∧ W.cell? ⟨g6, 3, none⟩ = some (.int .i64 (ws KK).fired) ∧ W.cell? ⟨g6, 4, none⟩ = some (.int .i64 (ws KK).laid) ∧ W.cell? ⟨g6, 5, none⟩ = some (.int .i64 (ws KK).broken) ∧ W.cell? ⟨g6, 6, none⟩ = some (.int .i64 (ws KK).missing)) ∧ W.cell? ⟨w.heap.size + 1, 2, none⟩ = some (.int .i64 c.nn) ∧ W.cell? ⟨w.heap.size + 1, 3, none⟩ = some (.int .i64 c.br)) := hSW
                        simp only [List.getElem_toArray, List.getElem_cons_zero, List.getElem_cons_succ]
                        (try dsimp only at hSW)
                        go_simp
                        with_reducible rfl
                      (try simp only [List.getElem_toArray, List.getElem_cons_zero, List.getElem_cons_succ, Act.put, List.setIfInBounds_toArray, List.set_cons_zero, List.set_cons_succ])
                      refine wpAnyK_take 2 (v := ?_) (by first | exact hF | exact wideFn) HSB.out rfl (by kernel_rfl) (by kernel_rfl) (by kernel_rfl) (by kernel_rfl) rfl ?_ (by first | exact fun _ _ _ h => h | exact fun _ _ _ h => hQ2 _ _ _ _ _ h) ?_
                      rotate_left
                      · intro W hSW
                        replace hSW : (W.cell? ⟨w.heap.size + 1, 2, none⟩ = some (.int .i64 c.nn) ∧ W.cell? ⟨w.heap.size + 1, 3, none⟩ = some (.int .i64 c.br)) := hSW
                        simp only [List.getElem_toArray, List.getElem_cons_zero, List.getElem_cons_succ]
                        (try dsimp only at hSW)
                        go_simp
                        with_reducible rfl
                      (try simp only [List.getElem_toArray, List.getElem_cons_zero, List.getElem_cons_succ, Act.put, List.setIfInBounds_toArray, List.set_cons_zero, List.set_cons_succ])
                      refine wpAnyK_take 3 (v := ?_) (by first | exact hF | exact wideFn) HSB.out rfl (by kernel_rfl) (by kernel_rfl) (by kernel_rfl) (by kernel_rfl) rfl ?_ (by first | exact fun _ _ _ h => h | exact fun _ _ _ h => hQ2 _ _ _ _ _ h) ?_
                      rotate_left
                      · intro W hSW
                        replace hSW : (W.cell? ⟨w.heap.size + 1, 2, none⟩ = some (.int .i64 c.nn) ∧ W.cell? ⟨w.heap.size + 1, 3, none⟩ = some (.int .i64 c.br)) := hSW
                        simp only [List.getElem_toArray, List.getElem_cons_zero, List.getElem_cons_succ]
                        (try dsimp only at hSW)
                        go_simp
                        with_reducible rfl
                      (try simp only [List.getElem_toArray, List.getElem_cons_zero, List.getElem_cons_succ, Act.put, List.setIfInBounds_toArray, List.set_cons_zero, List.set_cons_succ])
                      refine wpAnyK_take 4 (v := ?_) (by first | exact hF | exact wideFn) HSB.out rfl (by kernel_rfl) (by kernel_rfl) (by kernel_rfl) (by kernel_rfl) rfl ?_ (by first | exact fun _ _ _ h => h | exact fun _ _ _ h => hQ2 _ _ _ _ _ h) ?_
                      rotate_left
                      · intro W hSW
                        replace hSW : (W.cell? ⟨w.heap.size + 1, 2, none⟩ = some (.int .i64 c.nn) ∧ W.cell? ⟨w.heap.size + 1, 3, none⟩ = some (.int .i64 c.br)) := hSW
                        simp only [List.getElem_toArray, List.getElem_cons_zero, List.getElem_cons_succ]
                        (try dsimp only at hSW)
                        go_simp
                        with_reducible rfl
                      (try simp only [List.getElem_toArray, List.getElem_cons_zero, List.getElem_cons_succ, Act.put, List.setIfInBounds_toArray, List.set_cons_zero, List.set_cons_succ])
                      refine wpAnyK_take 5 (v := ?_) (by first | exact hF | exact wideFn) HSB.out rfl (by kernel_rfl) (by kernel_rfl) (by kernel_rfl) (by kernel_rfl) rfl ?_ (by first | exact fun _ _ _ h => h | exact fun _ _ _ h => hQ2 _ _ _ _ _ h) ?_
                      rotate_left
                      · intro W hSW
                        replace hSW : (W.cell? ⟨w.heap.size + 1, 2, none⟩ = some (.int .i64 c.nn) ∧ W.cell? ⟨w.heap.size + 1, 3, none⟩ = some (.int .i64 c.br)) := hSW
                        simp only [List.getElem_toArray, List.getElem_cons_zero, List.getElem_cons_succ]
                        (try dsimp only at hSW)
                        go_simp
                        with_reducible rfl
                      (try simp only [List.getElem_toArray, List.getElem_cons_zero, List.getElem_cons_succ, Act.put, List.setIfInBounds_toArray, List.set_cons_zero, List.set_cons_succ])
                      refine wpAnyK_take 6 (v := ?_) (by first | exact hF | exact wideFn) (And.intro HA.out HSB.out) rfl (by kernel_rfl) (by kernel_rfl) (by kernel_rfl) (by kernel_rfl) rfl ?_ (by first | exact fun _ _ _ h => h | exact fun _ _ _ h => hQ2 _ _ _ _ _ h) ?_
                      rotate_left
                      · intro W hSW
                        replace hSW : ((W.cell? ⟨g6, 0, none⟩ = some (.int .i64 (ws KK).wet) ∧ W.cell? ⟨g6, 1, none⟩ = some (.int .i64 (ws KK).dry) ∧ W.cell? ⟨g6, 2, none⟩ = some (.int .i64 (ws KK).burning) ∧ W.cell? ⟨g6, 3, none⟩ = some (.int .i64 (ws KK).fired) ∧ W.cell? ⟨g6, 4, none⟩ = some (.int .i64 (ws KK).laid) ∧ W.cell? ⟨g6, 5, none⟩ = some (.int .i64 (ws KK).broken) ∧ W.cell? ⟨g6, 6, none⟩ = some (.int .i64 (ws KK).missing)) ∧ W.cell? ⟨w.heap.size + 1, 2, none⟩ = some (.int .i64 c.nn) ∧ W.cell? ⟨w.heap.size + 1, 3, none⟩ = some (.int .i64 c.br)) := hSW
                        simp only [List.getElem_toArray, List.getElem_cons_zero, List.getElem_cons_succ]
                        (try dsimp only at hSW)
                        go_simp
                        with_reducible rfl
                      (try simp only [List.getElem_toArray, List.getElem_cons_zero, List.getElem_cons_succ, Act.put, List.setIfInBounds_toArray, List.set_cons_zero, List.set_cons_succ])
                      refine wpAnyK_take 7 (v := ?_) (by first | exact hF | exact wideFn) HSB.out rfl (by kernel_rfl) (by kernel_rfl) (by kernel_rfl) (by kernel_rfl) rfl ?_ (by first | exact fun _ _ _ h => h | exact fun _ _ _ h => hQ2 _ _ _ _ _ h) ?_
                      rotate_left
                      · intro W hSW
                        replace hSW : (W.cell? ⟨w.heap.size + 1, 2, none⟩ = some (.int .i64 c.nn) ∧ W.cell? ⟨w.heap.size + 1, 3, none⟩ = some (.int .i64 c.br)) := hSW
                        simp only [List.getElem_toArray, List.getElem_cons_zero, List.getElem_cons_succ]
                        (try dsimp only at hSW)
                        go_simp
                        with_reducible rfl
                      (try simp only [List.getElem_toArray, List.getElem_cons_zero, List.getElem_cons_succ, Act.put, List.setIfInBounds_toArray, List.set_cons_zero, List.set_cons_succ])
                      refine wpAnyK_take 8 (v := ?_) (by first | exact hF | exact wideFn) HSB.out rfl (by kernel_rfl) (by kernel_rfl) (by kernel_rfl) (by kernel_rfl) rfl ?_ (by first | exact fun _ _ _ h => h | exact fun _ _ _ h => hQ2 _ _ _ _ _ h) ?_
                      rotate_left
                      · intro W hSW
                        replace hSW : (W.cell? ⟨w.heap.size + 1, 2, none⟩ = some (.int .i64 c.nn) ∧ W.cell? ⟨w.heap.size + 1, 3, none⟩ = some (.int .i64 c.br)) := hSW
                        simp only [List.getElem_toArray, List.getElem_cons_zero, List.getElem_cons_succ]
                        (try dsimp only at hSW)
                        go_simp
                        with_reducible rfl
                      (try simp only [List.getElem_toArray, List.getElem_cons_zero, List.getElem_cons_succ, Act.put, List.setIfInBounds_toArray, List.set_cons_zero, List.set_cons_succ])
                      refine wpAnyK_take 9 (v := ?_) (by first | exact hF | exact wideFn) HSB.out rfl (by kernel_rfl) (by kernel_rfl) (by kernel_rfl) (by kernel_rfl) rfl ?_ (by first | exact fun _ _ _ h => h | exact fun _ _ _ h => hQ2 _ _ _ _ _ h) ?_
                      rotate_left
                      · intro W hSW
                        replace hSW : (W.cell? ⟨w.heap.size + 1, 2, none⟩ = some (.int .i64 c.nn) ∧ W.cell? ⟨w.heap.size + 1, 3, none⟩ = some (.int .i64 c.br)) := hSW
                        simp only [List.getElem_toArray, List.getElem_cons_zero, List.getElem_cons_succ]
                        (try dsimp only at hSW)
                        go_simp
                        with_reducible rfl
                      (try simp only [List.getElem_toArray, List.getElem_cons_zero, List.getElem_cons_succ, Act.put, List.setIfInBounds_toArray, List.set_cons_zero, List.set_cons_succ])
                      refine wpAnyK_take 10 (v := ?_) (by first | exact hF | exact wideFn) HSB.out rfl (by kernel_rfl) (by kernel_rfl) (by kernel_rfl) (by kernel_rfl) rfl ?_ (by first | exact fun _ _ _ h => h | exact fun _ _ _ h => hQ2 _ _ _ _ _ h) ?_
                      rotate_left
                      · intro W hSW
                        replace hSW : (W.cell? ⟨w.heap.size + 1, 2, none⟩ = some (.int .i64 c.nn) ∧ W.cell? ⟨w.heap.size + 1, 3, none⟩ = some (.int .i64 c.br)) := hSW
                        simp only [List.getElem_toArray, List.getElem_cons_zero, List.getElem_cons_succ]
                        (try dsimp only at hSW)
                        go_simp
                        with_reducible rfl
                      (try simp only [List.getElem_toArray, List.getElem_cons_zero, List.getElem_cons_succ, Act.put, List.setIfInBounds_toArray, List.set_cons_zero, List.set_cons_succ])
                      refine wpAnyK_take 11 (v := ?_) (by first | exact hF | exact wideFn) (And.intro HA.out HSB.out) rfl (by kernel_rfl) (by kernel_rfl) (by kernel_rfl) (by kernel_rfl) rfl ?_ (by first | exact fun _ _ _ h => h | exact fun _ _ _ h => hQ2 _ _ _ _ _ h) ?_
                      rotate_left
                      · intro W hSW
                        replace hSW : ((W.cell? ⟨g6, 0, none⟩ = some (.int .i64 (ws KK).wet) ∧ W.cell? ⟨g6, 1, none⟩ = some (.int .i64 (ws KK).dry) ∧ W.cell? ⟨g6, 2, none⟩ = some (.int .i64 (ws KK).burning) ∧ W.cell? ⟨g6, 3, none⟩ = some (.int .i64 (ws KK).fired) ∧ W.cell? ⟨g6, 4, none⟩ = some (.int .i64 (ws KK).laid) ∧ W.cell? ⟨g6, 5, none⟩ = some (.int .i64 (ws KK).broken) ∧ W.cell? ⟨g6, 6, none⟩ = some (.int .i64 (ws KK).missing)) ∧ W.cell? ⟨w.heap.size + 1, 2, none⟩ = some (.int .i64 c.nn) ∧ W.cell? ⟨w.heap.size + 1, 3, none⟩ = some (.int .i64 c.br)) := hSW
                        simp only [List.getElem_toArray, List.getElem_cons_zero, List.getElem_cons_succ]
                        (try dsimp only at hSW)
                        go_simp
                        with_reducible rfl
                      (try simp only [List.getElem_toArray, List.getElem_cons_zero, List.getElem_cons_succ, Act.put, List.setIfInBounds_toArray, List.set_cons_zero, List.set_cons_succ])
                      refine wpAnyK_take 12 (v := ?_) (by first | exact hF | exact wideFn) HSB.out rfl (by kernel_rfl) (by kernel_rfl) (by kernel_rfl) (by kernel_rfl) rfl ?_ (by first | exact fun _ _ _ h => h | exact fun _ _ _ h => hQ2 _ _ _ _ _ h) ?_
                      rotate_left
                      · intro W hSW
                        replace hSW : (W.cell? ⟨w.heap.size + 1, 2, none⟩ = some (.int .i64 c.nn) ∧ W.cell? ⟨w.heap.size + 1, 3, none⟩ = some (.int .i64 c.br)) := hSW
                        simp only [List.getElem_toArray, List.getElem_cons_zero, List.getElem_cons_succ]
                        (try dsimp only at hSW)
                        go_simp
                        with_reducible rfl
                      (try simp only [List.getElem_toArray, List.getElem_cons_zero, List.getElem_cons_succ, Act.put, List.setIfInBounds_toArray, List.set_cons_zero, List.set_cons_succ])
                      refine wpAnyK_take 13 (v := ?_) (by first | exact hF | exact wideFn) HSB.out rfl (by kernel_rfl) (by kernel_rfl) (by kernel_rfl) (by kernel_rfl) rfl ?_ (by first | exact fun _ _ _ h => h | exact fun _ _ _ h => hQ2 _ _ _ _ _ h) ?_
                      rotate_left
                      · intro W hSW
                        replace hSW : (W.cell? ⟨w.heap.size + 1, 2, none⟩ = some (.int .i64 c.nn) ∧ W.cell? ⟨w.heap.size + 1, 3, none⟩ = some (.int .i64 c.br)) := hSW
                        simp only [List.getElem_toArray, List.getElem_cons_zero, List.getElem_cons_succ]
                        (try dsimp only at hSW)
                        go_simp
                        with_reducible rfl
                      (try simp only [List.getElem_toArray, List.getElem_cons_zero, List.getElem_cons_succ, Act.put, List.setIfInBounds_toArray, List.set_cons_zero, List.set_cons_succ])
                      refine wpAnyK_take 14 (v := ?_) (by first | exact hF | exact wideFn) HSB.out rfl (by kernel_rfl) (by kernel_rfl) (by kernel_rfl) (by kernel_rfl) rfl ?_ (by first | exact fun _ _ _ h => h | exact fun _ _ _ h => hQ2 _ _ _ _ _ h) ?_
                      rotate_left
                      · intro W hSW
                        replace hSW : (W.cell? ⟨w.heap.size + 1, 2, none⟩ = some (.int .i64 c.nn) ∧ W.cell? ⟨w.heap.size + 1, 3, none⟩ = some (.int .i64 c.br)) := hSW
                        simp only [List.getElem_toArray, List.getElem_cons_zero, List.getElem_cons_succ]
                        (try dsimp only at hSW)
                        go_simp
                        with_reducible rfl
                      (try simp only [List.getElem_toArray, List.getElem_cons_zero, List.getElem_cons_succ, Act.put, List.setIfInBounds_toArray, List.set_cons_zero, List.set_cons_succ])
                      refine wpAnyK_take 15 (v := ?_) (by first | exact hF | exact wideFn) HSB.out rfl (by kernel_rfl) (by kernel_rfl) (by kernel_rfl) (by kernel_rfl) rfl ?_ (by first | exact fun _ _ _ h => h | exact fun _ _ _ h => hQ2 _ _ _ _ _ h) ?_
                      rotate_left
                      · intro W hSW
                        replace hSW : (W.cell? ⟨w.heap.size + 1, 2, none⟩ = some (.int .i64 c.nn) ∧ W.cell? ⟨w.heap.size + 1, 3, none⟩ = some (.int .i64 c.br)) := hSW
                        simp only [List.getElem_toArray, List.getElem_cons_zero, List.getElem_cons_succ]
                        (try dsimp only at hSW)
                        go_simp
                        with_reducible rfl
                      (try simp only [List.getElem_toArray, List.getElem_cons_zero, List.getElem_cons_succ, Act.put, List.setIfInBounds_toArray, List.set_cons_zero, List.set_cons_succ])
                      have HD1 := hide (HDd.out.set (grownBy_setS (World.grownBy.refl wd (some g6)) 3 (.int .i64 ((ws KK).fired - c.nn))) h6)
                      refine wpAnyK_one 16 rfl (by kernel_rfl) (fun K hK => ?_)
                      simp only [List.getElem_toArray, List.getElem_cons_zero, List.getElem_cons_succ]
                      go_simp
                      refine hK.out _ _ (.inr (pickS_need (by kernel_rfl) (HSBW.out _ HD1.out))) ?_
                      clear hK K
                      (try simp only [List.getElem_toArray, List.getElem_cons_zero, List.getElem_cons_succ, Act.put, List.setIfInBounds_toArray, List.set_cons_zero, List.set_cons_succ])
                      refine wpAnyK_take 17 (v := ?_) (by first | exact hF | exact wideFn) (HSBW.out _ HD1.out) rfl (by kernel_rfl) (by kernel_rfl) (by kernel_rfl) (by kernel_rfl) rfl ?_ (by first | exact fun _ _ _ h => h | exact fun _ _ _ h => hQ2 _ _ _ _ _ h) ?_
                      rotate_left
                      · intro W hSW
                        replace hSW : (W.cell? ⟨w.heap.size + 1, 2, none⟩ = some (.int .i64 c.nn) ∧ W.cell? ⟨w.heap.size + 1, 3, none⟩ = some (.int .i64 c.br)) := hSW
                        simp only [List.getElem_toArray, List.getElem_cons_zero, List.getElem_cons_succ]
                        (try dsimp only at hSW)
                        go_simp
                        with_reducible rfl
                      (try simp only [List.getElem_toArray, List.getElem_cons_zero, List.getElem_cons_succ, Act.put, List.setIfInBounds_toArray, List.set_cons_zero, List.set_cons_succ])
                      have HD2 := hide (HDd.out.set (grownBy_setS ((grownBy_setS (World.grownBy.refl wd (some g6)) 3 (.int .i64 ((ws KK).fired - c.nn)))) 4 (.int .i64 ((ws KK).laid + c.nn))) h6)
                      refine wpAnyK_one 18 rfl (by kernel_rfl) (fun K hK => ?_)
                      simp only [List.getElem_toArray, List.getElem_cons_zero, List.getElem_cons_succ]
                      go_simp
                      refine hK.out _ _ (.inr (pickS_need (by kernel_rfl) (HSBW.out _ HD2.out))) ?_
                      clear hK K
                      (try simp only [List.getElem_toArray, List.getElem_cons_zero, List.getElem_cons_succ, Act.put, List.setIfInBounds_toArray, List.set_cons_zero, List.set_cons_succ])
                      refine wpAnyK_take 19 (v := ?_) (by first | exact hF | exact wideFn) (HSBW.out _ HD2.out) rfl (by kernel_rfl) (by kernel_rfl) (by kernel_rfl) (by kernel_rfl) rfl ?_ (by first | exact fun _ _ _ h => h | exact fun _ _ _ h => hQ2 _ _ _ _ _ h) ?_
                      rotate_left
                      · intro W hSW
                        replace hSW : (W.cell? ⟨w.heap.size + 1, 2, none⟩ = some (.int .i64 c.nn) ∧ W.cell? ⟨w.heap.size + 1, 3, none⟩ = some (.int .i64 c.br)) := hSW
                        simp only [List.getElem_toArray, List.getElem_cons_zero, List.getElem_cons_succ]
                        (try dsimp only at hSW)
                        go_simp
                        with_reducible rfl
                      (try simp only [List.getElem_toArray, List.getElem_cons_zero, List.getElem_cons_succ, Act.put, List.setIfInBounds_toArray, List.set_cons_zero, List.set_cons_succ])
                      have HD3 := hide (HDd.out.set (grownBy_setS ((grownBy_setS ((grownBy_setS (World.grownBy.refl wd (some g6)) 3 (.int .i64 ((ws KK).fired - c.nn)))) 4 (.int .i64 ((ws KK).laid + c.nn)))) 6 (.int .i64 ((ws KK).missing - c.nn))) h6)
                      refine wpAnyK_one 20 rfl (by kernel_rfl) (fun K hK => ?_)
                      simp only [List.getElem_toArray, List.getElem_cons_zero, List.getElem_cons_succ]
                      go_simp
                      refine hK.out _ _ (.inr (pickS_no (by kernel_rfl))) ?_
                      clear hK K
                      (try simp only [List.getElem_toArray, List.getElem_cons_zero, List.getElem_cons_succ, Act.put, List.setIfInBounds_toArray, List.set_cons_zero, List.set_cons_succ])
                      refine wpAnyK_done (by kernel_rfl) ?_
                      have HT2 : Hid (Blk (((wd.setCell ⟨g6, 3, none⟩ (.int .i64 ((ws KK).fired - c.nn))).setCell ⟨g6, 4, none⟩ (.int .i64 ((ws KK).laid + c.nn))).setCell ⟨g6, 6, none⟩ (.int .i64 ((ws KK).missing - c.nn))) g6 94 #[.int .i64 ((ws KK).wet), .int .i64 ((ws KK).dry), .int .i64 ((ws KK).burning), .int .i64 ((ws KK).fired - c.nn), .int .i64 ((ws KK).laid + c.nn), .int .i64 ((ws KK).broken), .int .i64 ((ws KK).missing - c.nn)]) := hide (by simpa using (((HTd.out.set_ 3 (.int .i64 ((ws KK).fired - c.nn))).set_ 4 (.int .i64 ((ws KK).laid + c.nn))).set_ 6 (.int .i64 ((ws KK).missing - c.nn))))
                      clear c0 c1 c2 c3 c4 c5 c6 c7 f3 f4 f6 HA HSB HTd HDd hw1 hw2 hw3 hw4 o1 o2 o3 o4 o5 o6 o7 o8 o9 HD1 HD2
                      generalize (((wd.setCell ⟨g6, 3, none⟩ (.int .i64 ((ws KK).fired - c.nn))).setCell ⟨g6, 4, none⟩ (.int .i64 ((ws KK).laid + c.nn))).setCell ⟨g6, 6, none⟩ (.int .i64 ((ws KK).missing - c.nn))) = w2 at HT2 HD3 ⊢
                      go_upto_region 35 with fail
                      obtain ⟨a0, a1, a2, a3, a4, a5, f1, f2, f3, f4, f5⟩ := bx5' HD3.out.b2
                      obtain ⟨d0, d1, d2, d3, d4, d5, d6⟩ := bx6 HD3.out.b3
                      rw [HKE.out] at d2
                      obtain ⟨c0, c1, c2, c3, c4, c5, c6, c7⟩ := bx7 HT2.out
                      have HWI := hide (refWith_any SA n sc room g wc BA m bc KK ⟨((ws KK).wet), ((ws KK).dry), ((ws KK).burning), ((ws KK).fired - c.nn), ((ws KK).laid + c.nn), ((ws KK).broken), ((ws KK).missing - c.nn)⟩ ws _ HD3.out.wl hn hKn)
                      unfold bkV agg7 at HWI
                      dsimp only at HWI
                      go_wp2_with (go_at_call 79; refine HWI.out.mono ?_; rintro e w5 ⟨g5, c5n, rfl, hw5, hg5, hb5⟩; have HD5 := hide (HD3.out.ext hb5); have HW5 := hide hw5; have hg5w := HD3.out.below.size; have hg54 := HD3.out.b4.lt; have HG5 := hide hg5; clear hw5 hg5 hb5 a0 a1 a2 a3 a4 a5 f1 f2 f3 f4 f5 c0 c1 c2 c3 c4 c5 c6 c7 d0 d1 d2 d3 d4 d5 d6; unfold bkV; obtain ⟨a0, a1, a2, a3, a4, a5, f1, f2, f3, f4, f5⟩ := bx5' HD5.out.b4)
                      have hg9 := HG5.out
                      have hgr := grown_set5 w5 (w.heap.size + 1 + 1) (.bool false) (.slice SA n sc) (.int .i64 room) (.slice (some ⟨g5, 0, none⟩) n c5n) (.slice BA m bc)
                      have HW9 := hide (HW5.out.grown hgr (fun e => by injection e; omega))
                      have HB9 := hide (set5_B HD5.out.below (by omega : w.heap.size ≤ w.heap.size + 1 + 1) (.bool false) (.slice SA n sc) (.int .i64 room) (.slice (some ⟨g5, 0, none⟩) n c5n) (.slice BA m bc))
                      refine bodyPost_ret (v := .tuple #[bkV SA n sc room (some ⟨g5, 0, none⟩) c5n BA m bc, .int .i64 0]) (by simp [results, Try.results35, go_sem, bkV, *]) rfl (.inr ⟨HE0.out, g5, c5n, BA, bc, by rw [HX.out.2.2.1], ?_, ?_, by omega, fun p hp => .inl ⟨hp, HX.out.2.2.1⟩, HB9.out⟩)
                      · rw [HWK.out, HXX.out]; exact HW9.out
                      · rw [HX.out.2.2.1, HX.out.2.2.2.1, HX.out.2.2.2.2]; exact (HBR.out.below HB9.out (Nat.le_refl _)).more HB9.out.size
end Go.Proofs.Ytlhekifmkkgjlaa
/- KilnBooks: refusals of Dry and Count; what the law's do answers. -/
namespace Go.Proofs.Ytlhekifmkkgjlaa
open Go Go.RowKit Go.Shelf
set_option maxHeartbeats 2000000
set_option maxRecDepth 100000
theorem dry_err (b S n : Nat) (spv ov : Value) (room kind m br : Int) (w : World) (hb : Blk w b 148 #[spv, .int .i64 room, .slice (some ⟨S, 0, none⟩) n n, ov]) (hn : n ≤ 20) (hn1 : 1 ≤ n) (hk : ¬ ((0 ≤ kind ∧ kind ≤ (n : Int) - 1) ∧ 0 ≤ m ∧ m ≤ 1000000000)) :
    Calls Try.prog 39 #[.pointer (some ⟨b, 0, none⟩), .int .i64 kind, .int .i64 m, .int .i64 br] w fun e w' => e = .returned (.int .i64 (if 0 ≤ kind ∧ kind ≤ (n : Int) - 1 then 3 else 7)) ∧ Below w.heap.size w w' := by
  have b0 : Below w.heap.size w ((w.alloc (.cells #[.int .i64 m] 3)).alloc (.cells #[.int .i64 br] 3)) := ((Below.refl _ _).alloc (Nat.le_refl _) _).alloc (by simp) _
  by_cases hk1 : 0 ≤ kind ∧ kind ≤ (n : Int) - 1
  · rw [if_pos hk1]
    have HC := hide (fun fv => change_range b S n spv ov room kind m fv _ (hb.ext b0) hn hn1 hk1 (fun h => hk ⟨hk1, h⟩))
    have B0 := hide b0
    clear b0 hb hk hk1
    go_enter Try.func39, Try.ntmps39
    go_wp2_with fail
    refine (HC.out _).mono ?_
    rintro e w1 ⟨rfl, hb1⟩
    go_wp2_with fail
    go_ret
    exact ⟨rfl, B0.out.trans (hb1.mono (by simp only [World.size_alloc]; omega))⟩
  · rw [if_neg hk1]
    have HC := hide (fun fv => change_none b S n spv ov room kind m fv _ (hb.ext b0) hn hn1 hk1)
    have B0 := hide b0
    clear b0 hb hk hk1
    go_enter Try.func39, Try.ntmps39
    go_wp2_with fail
    refine (HC.out _).mono ?_
    rintro e w1 ⟨rfl, hb1⟩
    go_wp2_with fail
    go_ret
    exact ⟨rfl, B0.out.trans (hb1.mono (by simp only [World.size_alloc]; omega))⟩
theorem dry_nil (kind m br : Int) (w : World) : Calls Try.prog 39 #[.pointer none, .int .i64 kind, .int .i64 m, .int .i64 br] w fun e w' => e = .returned (.int .i64 1) ∧ Below w.heap.size w w' := by
  have b0 : Below w.heap.size w ((w.alloc (.cells #[.int .i64 m] 3)).alloc (.cells #[.int .i64 br] 3)) := ((Below.refl _ _).alloc (Nat.le_refl _) _).alloc (by simp) _
  have HC := hide (fun fv => change_nil kind m fv ((w.alloc (.cells #[.int .i64 m] 3)).alloc (.cells #[.int .i64 br] 3)))
  have B0 := hide b0
  clear b0
  go_enter Try.func39, Try.ntmps39
  go_wp2_with fail
  refine (HC.out _).mono ?_
  rintro e w1 ⟨rfl, hb1⟩
  go_wp2_with fail
  go_ret
  exact ⟨rfl, B0.out.trans (hb1.mono (by simp only [World.size_alloc]; omega))⟩
theorem count_no (b S n : Nat) (spv ov : Value) (room kind : Int) (w : World) (hb : Blk w b 148 #[spv, .int .i64 room, .slice (some ⟨S, 0, none⟩) n n, ov]) (hn : n ≤ 20) (hn1 : 1 ≤ n) (hk : ¬ (0 ≤ kind ∧ kind ≤ (n : Int) - 1)) :
    Calls Try.prog 37 #[.pointer (some ⟨b, 0, none⟩), .int .i64 kind] w fun e w' => e = .returned (.tuple #[agg7 Wa.zero, .int .i64 7]) ∧ Below w.heap.size w w' := by
  have HC := hide (fun fv => change_none b S n spv ov room kind 0 fv _ (hb.ext ((Below.refl w.heap.size w).alloc (Nat.le_refl _) (.cells #[.int .i64 0, .int .i64 0, .int .i64 0, .int .i64 0, .int .i64 0, .int .i64 0, .int .i64 0] 94))) hn hn1 hk)
  clear hb hk
  have B0 := hide ((Below.refl w.heap.size w).alloc (Nat.le_refl _) (.cells #[.int .i64 0, .int .i64 0, .int .i64 0, .int .i64 0, .int .i64 0, .int .i64 0, .int .i64 0] 94))
  have K0 := hide (Blk.new w 94 #[.int .i64 0, .int .i64 0, .int .i64 0, .int .i64 0, .int .i64 0, .int .i64 0, .int .i64 0])
  go_enter Try.func37, Try.ntmps37
  go_wp2_with fail
  refine (HC.out _).mono ?_
  rintro e w1 ⟨rfl, hb1⟩
  have K1 := hide (K0.out.below hb1 (by simp))
  obtain ⟨c0, c1, c2, c3, c4, c5, c6, c7⟩ := bx7 K1.out
  have f0 := K1.out.frozen 0
  have f1 := K1.out.frozen 1
  have f2 := K1.out.frozen 2
  have f3 := K1.out.frozen 3
  have f4 := K1.out.frozen 4
  have f5 := K1.out.frozen 5
  have f6 := K1.out.frozen 6
  go_wp2_with fail
  refine bodyPost_ret (v := .tuple #[agg7 Wa.zero, .int .i64 7]) (by simp [results, Try.results37, go_sem, agg7, Wa.zero, *]) rfl ⟨rfl, ?_⟩
  exact set7_new (x := Wa.zero) (B0.out.trans (hb1.mono (by simp only [World.size_alloc]; omega))) (Nat.le_refl _)
theorem count_nil (kind : Int) (w : World) : Calls Try.prog 37 #[.pointer none, .int .i64 kind] w fun e w' => e = .returned (.tuple #[agg7 Wa.zero, .int .i64 1]) ∧ Below w.heap.size w w' := by
  have HC := hide (fun fv => change_nil kind 0 fv (w.alloc (.cells #[.int .i64 0, .int .i64 0, .int .i64 0, .int .i64 0, .int .i64 0, .int .i64 0, .int .i64 0] 94)))
  have B0 := hide ((Below.refl w.heap.size w).alloc (Nat.le_refl _) (.cells #[.int .i64 0, .int .i64 0, .int .i64 0, .int .i64 0, .int .i64 0, .int .i64 0, .int .i64 0] 94))
  have K0 := hide (Blk.new w 94 #[.int .i64 0, .int .i64 0, .int .i64 0, .int .i64 0, .int .i64 0, .int .i64 0, .int .i64 0])
  go_enter Try.func37, Try.ntmps37
  go_wp2_with fail
  refine (HC.out _).mono ?_
  rintro e w1 ⟨rfl, hb1⟩
  have K1 := hide (K0.out.below hb1 (by simp))
  obtain ⟨c0, c1, c2, c3, c4, c5, c6, c7⟩ := bx7 K1.out
  have f0 := K1.out.frozen 0
  have f1 := K1.out.frozen 1
  have f2 := K1.out.frozen 2
  have f3 := K1.out.frozen 3
  have f4 := K1.out.frozen 4
  have f5 := K1.out.frozen 5
  have f6 := K1.out.frozen 6
  go_wp2_with fail
  refine bodyPost_ret (v := .tuple #[agg7 Wa.zero, .int .i64 1]) (by simp [results, Try.results37, go_sem, agg7, Wa.zero, *]) rfl ⟨rfl, ?_⟩
  exact set7_new (x := Wa.zero) (B0.out.trans (hb1.mono (by simp only [World.size_alloc]; omega))) (Nat.le_refl _)
/-- the book of the program behind some calls -/
structure KB (W : World) (b S n sb soff sc : Nat) (room : Int) (sp : Nat → Int) (ws : Nat → Wa) (m : Nat) (od : Nat → Int) (ov : Value) : Prop where
  book : Blk W b 148 #[.slice (some ⟨sb, soff, none⟩) n sc, .int .i64 room, .slice (some ⟨S, 0, none⟩) n n, ov]
  st : Stores W S n ws
  sp : IR W W.heap.size (some ⟨sb, soff, none⟩) n sp
  burn : (m = 0 ∧ ov = .slice none 0 0) ∨ (0 < m ∧ ∃ g oc, ov = .slice (some ⟨g, 0, none⟩) m oc ∧ IR W W.heap.size (some ⟨g, 0, none⟩) m od ∧ (g ≠ S ∧ g ≠ b) ∧ ∃ cs, Blk W g 3 cs)
  ne : sb ≠ S ∧ sb ≠ b
section
variable {W W' : World} {b S n sb soff sc : Nat} {room : Int} {sp : Nat → Int} {ws : Nat → Wa} {m : Nat} {od : Nat → Int} {ov : Value}
theorem KB.ext (h : KB W b S n sb soff sc room sp ws m od ov) (hb : Below W.heap.size W W') : KB W' b S n sb soff sc room sp ws m od ov := by
  refine ⟨h.book.ext hb, h.st.below hb h.st.lt, (h.sp.below hb (Nat.le_refl _)).more hb.size, ?_, h.ne⟩
  rcases h.burn with h1 | ⟨h0, g, oc, h1, h2, h3, cs, h4⟩
  · exact .inl h1
  · exact .inr ⟨h0, g, oc, h1, (h2.below hb (Nat.le_refl _)).more hb.size, h3, cs, h4.ext hb⟩
theorem Apart.blk {W W' : World} {S b : Nat} (ha : Apart W W' S b) {g : Nat} {t : TypeId} {cs : Array Value} (h : Blk W g t cs) (h1 : g ≠ S) (h2 : g ≠ b) : Blk W' g t cs := (ha.2.2.2.2 g h.lt h1 h2).trans h
theorem ir_keep {W W' : World} {g off n : Nat} {x : Nat → Int} {S b : Nat} (h : IR W W.heap.size (some ⟨g, off, none⟩) n x) (ha : Apart W W' S b) (h1 : g ≠ S) (h2 : g ≠ b) : IR W' W'.heap.size (some ⟨g, off, none⟩) n x := fun hn => by
  obtain ⟨b', o, e1, e2, e3⟩ := h hn
  injection e1 with e1
  injection e1 with q1 q2
  subst q1 q2
  exact ⟨g, off, rfl, Nat.lt_of_lt_of_le e2 ha.2.2.2.1, fun k i hk hi => (ha.cell (p := ⟨g, off + k * 1 + i, none⟩) e2 h1 h2).trans (e3 k i hk hi)⟩
end
/-- the model's state is as it should be -/
structure WFb (n m : Nat) (room : Int) (sp : Nat → Int) (ws : Nat → Wa) (od am : Nat → Int) : Prop where
  n1 : 1 ≤ n
  n2 : n ≤ 20
  m2 : m ≤ 20
  r0 : 0 ≤ room ∧ room ≤ 1000000000
  sp : ∀ k, k < n → 1 ≤ sp k ∧ sp k ≤ 1000
  ok : ∀ k, k < n → OkW (ws k)
  kinds : ∀ i, i < m → 0 ≤ od i ∧ od i ≤ (n : Int) - 1
  dis : ∀ i j, i < j → j < m → od i ≠ od j
  am : ∀ i, i < m → (ws (od i).toNat).burning = am i
  cold : ∀ k, k < n → (∀ i, i < m → (od i).toNat ≠ k) → (ws k).burning = 0
end Go.Proofs.Ytlhekifmkkgjlaa
/- Chapter 8: one batch into the kiln, and out of it. -/
namespace Go.Proofs.Ytlhekifmkkgjlaa
open Go Go.RowKit Go.Shelf
set_option maxRecDepth 100000
def fireE (x : Wa) (N sp room : Int) : Int := if N < 1 then 2 else if x.dry < N then 9 else if room < N * sp then 8 else 0
def fireX (x : Wa) (N : Int) : Wa := (x.put 1 (x.dry - N)).put 2 (x.burning + N)
theorem fire_one (b S n k c ab aoff sb soff sc : Nat) (room N : Int) (sp : Nat → Int) (ws : Nat → Wa) (w : World) (hbk : Blk w b 148 #[.slice (some ⟨sb, soff, none⟩) n sc, .int .i64 room, .slice (some ⟨S, 0, none⟩) n n, .slice none 0 0]) (hn1 : 1 ≤ n) (hn : n ≤ 20) (hS : Stores w S n ws) (ho : ∀ k, k < n → OkW (ws k)) (hsp : IR w w.heap.size (some ⟨sb, soff, none⟩) n sp) (hspb : ∀ k, k < n → 1 ≤ sp k ∧ sp k ≤ 1000) (habS : ab ≠ S) (habb : ab ≠ b)
    (hR : PI w w.heap.size (some ⟨ab, aoff, none⟩) 1 (fun _ => (k : Int)) (fun _ => N)) (hk : k < n) (hN : N ≤ 1000000000) :
    Calls Try.prog 40 #[.pointer (some ⟨b, 0, none⟩), .slice (some ⟨ab, aoff, none⟩) 1 c] w fun e w' =>
      e = .returned (.int .i64 (fireE (ws k) N (sp k) room)) ∧ ((fireE (ws k) N (sp k) room ≠ 0 ∧ Below w.heap.size w w') ∨ (fireE (ws k) N (sp k) room = 0 ∧ ∃ ov, Blk w' b 148 #[.slice (some ⟨sb, soff, none⟩) n sc, .int .i64 room, .slice (some ⟨S, 0, none⟩) n n, ov] ∧ w'.ownsRow w.heap.size 3 1 ov 1 (cellsOf 1 1 fun _ _ => .int .i64 k) ∧ Stores w' S n (upd ws k (fireX (ws k) N)) ∧ Apart w w' S b)) := by
  refine (fire_any b S n 1 c ab aoff sb soff sc room sp ws (fun _ => (k : Int)) (fun _ => N) w hbk hn1 hn hS ho hsp hspb habS habb (Nat.le_refl _) (by omega) hR (fun _ _ => ⟨by omega, by omega⟩)).mono ?_
  have e1 : batsE n ws (fun _ => (k : Int)) (fun _ => N) 1 = if N < 1 then 2 else if (ws k).dry < N then 9 else 0 := by
    show (if (0 : Int) ≠ 0 then 0 else batE n ws (fun _ => (k : Int)) (fun _ => N) 0) = _
    rw [if_neg (by omega)]
    unfold batE
    dsimp only
    rw [if_neg (by omega), if_neg (by simp [anyTo]), Int.toNat_natCast]
    by_cases h : N < 1
    · rw [if_pos (by omega), if_pos h]
    · rw [if_neg (by omega), if_neg h]
  have e2 : spaceTo sp (fun _ => (k : Int)) (fun _ => N) 1 = N * sp k := by
    show 0 + N * sp ((k : Int)).toNat = _
    rw [Int.toNat_natCast]; omega
  have e3 : fireW ws (fun _ => (k : Int)) (fun _ => N) 1 = upd ws k (fireX (ws k) N) := by
    show upd ws ((k : Int)).toNat _ = _
    rw [Int.toNat_natCast]
    rfl
  rintro e w' h
  unfold FirePost at h
  rw [e1, e2, e3] at h
  unfold fireE
  rcases h with ⟨h1, rfl, h2⟩ | ⟨h1, h2, rfl, h3⟩ | ⟨h1, h2, rfl, h3⟩
  · by_cases a : N < 1
    · simp only [if_pos a] at h1 ⊢
      exact ⟨trivial, .inl ⟨h1, h2⟩⟩
    · simp only [if_neg a] at h1 ⊢
      by_cases a2 : (ws k).dry < N
      · simp only [if_pos a2] at h1 ⊢
        exact ⟨trivial, .inl ⟨h1, h2⟩⟩
      · simp only [if_neg a2] at h1
        exact absurd rfl h1
  · by_cases a : N < 1
    · simp only [if_pos a] at h1; omega
    by_cases a2 : (ws k).dry < N
    · simp only [if_neg a, if_pos a2] at h1; omega
    simp only [if_neg a, if_neg a2, if_pos h2]
    exact ⟨trivial, .inl ⟨by omega, h3⟩⟩
  · by_cases a : N < 1
    · simp only [if_pos a] at h1; omega
    by_cases a2 : (ws k).dry < N
    · simp only [if_neg a, if_pos a2] at h1; omega
    simp only [if_neg a, if_neg a2, if_neg (by omega : ¬ room < N * sp k)]
    exact ⟨trivial, .inr ⟨trivial, h3⟩⟩
theorem fireX_ok {x : Wa} (h : OkW x) {N : Int} (h0 : 1 ≤ N) (h1 : N ≤ x.dry) : OkW (fireX x N) ∧ (fireX x N).laid = x.laid ∧ (fireX x N).broken = x.broken ∧ (fireX x N).burning = x.burning + N ∧ (fireX x N).sum = x.sum := by
  obtain ⟨h1, h2, h3, h4, h5, h6, h7, h8, h9⟩ := h
  refine ⟨⟨h1, by show 0 ≤ x.dry - N; omega, by show 0 ≤ x.burning + N; omega, h4, h5, h6, h7, by show x.wet + (x.dry - N) + (x.burning + N) + x.fired + x.laid + x.broken ≤ _; omega, h9⟩, rfl, rfl, rfl, ?_⟩
  show x.wet + (x.dry - N) + (x.burning + N) + x.fired + x.laid + x.broken = x.wet + x.dry + x.burning + x.fired + x.laid + x.broken
  omega
theorem drawn_ok {x : Wa} (h : OkW x) {l : Int} (h0 : 0 ≤ l) (h1 : l ≤ x.burning) : OkW (drawn x l) ∧ (drawn x l).laid = x.laid ∧ x.broken ≤ (drawn x l).broken ∧ (drawn x l).burning = 0 ∧ (drawn x l).sum = x.sum := by
  obtain ⟨h1, h2, h3, h4, h5, h6, h7, h8, h9⟩ := h
  refine ⟨⟨h1, h2, by show 0 ≤ x.burning - l - (x.burning - l); omega, by show 0 ≤ x.fired + (x.burning - l); omega, h5, by show 0 ≤ x.broken + l; omega, h7, by show x.wet + x.dry + (x.burning - l - (x.burning - l)) + (x.fired + (x.burning - l)) + x.laid + (x.broken + l) ≤ _; omega, by show x.missing ≤ x.broken + l; omega⟩, rfl, by show x.broken ≤ x.broken + l; omega, by show x.burning - l - (x.burning - l) = 0; omega, ?_⟩
  show x.wet + x.dry + (x.burning - l - (x.burning - l)) + (x.fired + (x.burning - l)) + x.laid + (x.broken + l) = x.wet + x.dry + x.burning + x.fired + x.laid + x.broken
  omega
end Go.Proofs.Ytlhekifmkkgjlaa
