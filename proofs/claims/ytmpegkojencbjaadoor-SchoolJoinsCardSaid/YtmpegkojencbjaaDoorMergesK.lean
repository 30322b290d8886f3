/- School: the law SchoolAligns, walked. -/
import Derived.Test.YtmpegkojencbjaaDoorMergesJ
set_option linter.unusedSimpArgs false
set_option linter.unusedVariables false
set_option linter.unnecessarySimpa false
namespace Go.Proofs.YtmpegkojencbjaaDoor
open Go Go.RowKit Go.Shelf
set_option maxHeartbeats 4000000
set_option maxRecDepth 100000
theorem OwnE.edS' {W : World} {n0 : Nat} {A : Option Addr} {n c : Nat} {l : List Ed} (h : OwnE W n0 (.slice A n c) l) (_ : l.length = n) : EdR W W.heap.size A l := h.edS.2
theorem aligns_any (A B : Option Addr) (c d : Nat) (a b : List Wd) (w : World) (ha : SzOk a) (hb : SzOk b) (hA : SR w w.heap.size A a) (hB : SR w w.heap.size B b) :
    Calls Tryd.prog 3 #[.slice A a.length c, .slice B b.length d] w fun e w' => e = .returned (.bool true) ∧ Below w.heap.size w w' := by
  have HL1 := long_any A c a w ha hA
  have HL2 := long_any B d b w hb hB
  have HA := hide hA
  have HB := hide hB
  have HSA := hide ha
  have HSB := hide hb
  obtain ⟨n, hn⟩ : ∃ n, a.length = n := ⟨_, rfl⟩
  obtain ⟨m, hm⟩ : ∃ n, b.length = n := ⟨_, rfl⟩
  have HN := hide (And.intro hn hm)
  rw [hn] at HL1
  rw [hm] at HL2
  rw [hn, hm]
  clear hA hB ha hb hn hm
  rcases hl1 : lgB a with _ | _
  rotate_left
  · rw [hl1] at HL1
    have HL := hide HL1
    have HK := hide (known_any w)
    clear hl1 HL1 HL2
    go_enter Tryd.func3, Tryd.ntmps3
    go_wp2_with fail
    refine HL.out.mono ?_
    rintro e _ ⟨rfl, rfl⟩
    go_wp2_with fail
    refine HK.out.mono ?_
    rintro e w2 ⟨rfl, hb2⟩
    go_wp2_with fail
    go_ret
    exact ⟨rfl, hb2⟩
  rw [hl1] at HL1
  have HL := hide HL1
  rcases hl2 : lgB b with _ | _
  rotate_left
  · rw [hl2] at HL2
    have HM := hide HL2
    have HK := hide (known_any w)
    clear hl1 hl2 HL1 HL2
    go_enter Tryd.func3, Tryd.ntmps3
    go_wp2_with fail
    refine HL.out.mono ?_
    rintro e _ ⟨rfl, rfl⟩
    go_wp2_with fail
    refine HM.out.mono ?_
    rintro e _ ⟨rfl, rfl⟩
    go_wp2_with fail
    refine HK.out.mono ?_
    rintro e w2 ⟨rfl, hb2⟩
    go_wp2_with fail
    go_ret
    exact ⟨rfl, hb2⟩
  rw [hl2] at HL2
  have HM := hide HL2
  have ha25 := (lgB_no hl1).1
  have hb25 := (lgB_no hl2).1
  have HW1 := words_any A c a w (by omega) HA.out
  rw [HN.out.1] at HW1
  have HW1 := hide HW1
  have H25 := hide (And.intro ha25 hb25)
  clear hl1 hl2 HL1 HL2 ha25 hb25
  go_enter Tryd.func3, Tryd.ntmps3
  go_wp2_with fail
  refine HL.out.mono ?_
  rintro e _ ⟨rfl, rfl⟩
  go_wp2_with fail
  refine HM.out.mono ?_
  rintro e _ ⟨rfl, rfl⟩
  go_wp2_with fail
  refine HW1.out.mono ?_
  rintro e w1 ⟨v1, rfl, ho1, hb1⟩
  obtain ⟨A1, c1, rfl⟩ := own_shape ho1
  have B1 := hide hb1
  have O1 := hide ho1
  have HW2 := words_any B d b w1 (by have := H25.out; omega) ((ER.below HB.out hb1 (Nat.le_refl _)).more hb1.size)
  rw [HN.out.2] at HW2
  have HW2 := hide HW2
  clear hb1 ho1
  rw [HN.out.1]
  go_wp2_with fail
  refine HW2.out.mono ?_
  rintro e w2 ⟨v2, rfl, ho2, hb2⟩
  obtain ⟨A2, c2, rfl⟩ := own_shape ho2
  rw [HN.out.2]
  have B2 := hide (B1.out.trans (hb2.mono B1.out.size))
  have hs1 := (OwnS.ext O1.out hb2).sr.2
  have hs2 := ho2.sr.2
  have HAL := Align_any A1 A2 c1 c2 a b w2 HSA.out HSB.out hs1 hs2
  rw [HN.out.1, HN.out.2] at HAL
  have HAL := hide HAL
  have HS1 := hide hs1
  have HS2 := hide hs2
  clear hb2 ho2 hs1 hs2 O1 B1
  go_wp2_with fail
  refine HAL.out.mono ?_
  rintro e w3 ⟨v3, rfl, ho3, hb3⟩
  obtain ⟨A3, c3, hv3⟩ := own_shape ho3
  have B3 := hide (B2.out.trans (hb3.mono B2.out.size))
  have HS1 := hide ((ER.below HS1.out hb3 (Nat.le_refl _)).more hb3.size)
  have HS2 := hide ((ER.below HS2.out hb3 (Nat.le_refl _)).more hb3.size)
  have HS1' : Calls Tryd.prog 18 #[.slice A1 n c1, .slice A n c] w3 fun e w' => e = .returned (.bool true) ∧ Below w3.heap.size w3 w' := by
    have := same_any A1 A c1 c a a w3 (by have := H25.out; unfold maxLen; omega) HS1.out ((ER.below HA.out B3.out (Nat.le_refl _)).more B3.out.size)
    rw [HN.out.1, decide_eq_true rfl] at this
    exact this
  have HS2' : ∀ W, Below w3.heap.size w3 W → Calls Tryd.prog 18 #[.slice A2 m c2, .slice B m d] W fun e w' => e = .returned (.bool true) ∧ Below W.heap.size W w' := fun W hW => by
    have := same_any A2 B c2 d b b W (by have := H25.out; unfold maxLen; omega) ((ER.below HS2.out hW (Nat.le_refl _)).more hW.size) ((ER.below HB.out (B3.out.trans (hW.mono B3.out.size)) (Nat.le_refl _)).more (Nat.le_trans B3.out.size hW.size))
    rw [HN.out.2, decide_eq_true rfl] at this
    exact this
  have HE1 := hide HS1'
  have HE2 := hide HS2'
  have HO3 := hide ho3
  obtain ⟨ok, hok⟩ : ∃ ok, (textB a && textB b) = ok := ⟨_, rfl⟩
  have HOK := hide hok
  obtain ⟨l3, hl3⟩ : ∃ l, (if textB a && textB b then alL a 0 b else []) = l := ⟨_, rfl⟩
  rw [hl3] at hv3 HO3
  have HL3 := hide hl3
  obtain ⟨n3, hn3⟩ : ∃ n, l3.length = n := ⟨_, rfl⟩
  rw [hn3] at hv3
  subst hv3
  rw [hok]
  have HN3 := hide hn3
  obtain ⟨en, hen⟩ : ∃ en : Int, (if ok = true then (0 : Int) else 2) = en := ⟨_, rfl⟩
  rw [hen]
  have HEN := hide hen
  clear hok hen hb3 ho3 HS1' HS2' hl3 hn3 HS1 HS2 B2
  go_wp2_with fail
  refine HE1.out.mono ?_
  rintro e w4 ⟨rfl, hb4⟩
  have B34 := hide hb4
  clear hb4
  go_wp2_with fail
  refine (HE2.out w4 B34.out).mono ?_
  rintro e w5 ⟨rfl, hb5⟩
  have B35 := hide (B34.out.trans (hb5.mono B34.out.size))
  have B5 := hide (B3.out.trans (B35.out.mono B3.out.size))
  clear hb5 B34
  have HT1 := refText_any A c a w5 HSA.out ((ER.below HA.out B5.out (Nat.le_refl _)).more B5.out.size)
  have HT2 := refText_any B d b w5 HSB.out ((ER.below HB.out B5.out (Nat.le_refl _)).more B5.out.size)
  rw [HN.out.1] at HT1
  rw [HN.out.2] at HT2
  have HK := known_any w5
  rcases ht1 : textB a with _ | _
  · rw [ht1] at HT1
    have hokf : ok = false := by rw [← HOK.out, ht1]; rfl
    subst hokf
    obtain rfl : 2 = en := HEN.out
    have hn0 : n3 = 0 := by rw [← HN3.out, ← HL3.out, ht1]; rfl
    subst hn0
    have HT := hide HT1
    have HK := hide HK
    clear HT1 HT2 ht1
    go_wp2_with fail
    refine HT.out.mono ?_
    rintro e _ ⟨rfl, rfl⟩
    go_wp2_with fail
    refine HK.out.mono ?_
    rintro e w6 ⟨rfl, hb6⟩
    go_wp2_with fail
    go_ret
    exact ⟨rfl, B5.out.trans (hb6.mono B5.out.size)⟩
  rw [ht1] at HT1
  rcases ht2 : textB b with _ | _
  · rw [ht2] at HT2
    have hokf : ok = false := by rw [← HOK.out, ht2, Bool.and_false]
    subst hokf
    obtain rfl : 2 = en := HEN.out
    have hn0 : n3 = 0 := by rw [← HN3.out, ← HL3.out, ht2, Bool.and_false]; rfl
    subst hn0
    have HT := hide HT1
    have HU := hide HT2
    have HK := hide HK
    clear HT1 HT2 ht1 ht2
    go_wp2_with fail
    refine HT.out.mono ?_
    rintro e _ ⟨rfl, rfl⟩
    go_wp2_with fail
    refine HU.out.mono ?_
    rintro e _ ⟨rfl, rfl⟩
    go_wp2_with fail
    refine HK.out.mono ?_
    rintro e w6 ⟨rfl, hb6⟩
    go_wp2_with fail
    go_ret
    exact ⟨rfl, B5.out.trans (hb6.mono B5.out.size)⟩
  rw [ht2] at HT2
  have hokt : ok = true := by rw [← HOK.out, ht1, ht2]; rfl
  subst hokt
  obtain rfl : 0 = en := HEN.out
  have hl3 : alL a 0 b = l3 := by rw [← HL3.out, ht1, ht2]; rfl
  have HRA := refAlign_any A B c d a b w5 (textB_len ht1) (textB_len ht2) ((ER.below HA.out B5.out (Nat.le_refl _)).more B5.out.size) ((ER.below HB.out B5.out (Nat.le_refl _)).more B5.out.size)
  rw [HN.out.1, HN.out.2] at HRA
  unfold AlignPost at HRA
  rw [hl3] at HRA
  have HRA := hide HRA
  have HT := hide HT1
  have HU := hide HT2
  have hl40 : l3.length ≤ 40 := by
    rw [← hl3, alL_len]
    have h1 := dsL_le a b
    have h2 := textB_len ht1
    have h3 := textB_len ht2
    omega
  have HL40 := hide hl40
  clear HT1 HT2 ht1 ht2 hl3 HK hl40
  go_wp2_with fail
  refine HT.out.mono ?_
  rintro e _ ⟨rfl, rfl⟩
  go_wp2_with fail
  refine HU.out.mono ?_
  rintro e _ ⟨rfl, rfl⟩
  go_wp2_with fail
  refine HRA.out.mono ?_
  rintro e w6 ⟨v6, rfl, ho6, hb6⟩
  obtain ⟨A6, c6, rfl, hr6⟩ := ho6.edR
  have B56 := hide (B35.out.trans (hb6.mono B35.out.size))
  have HSM := refSame_any A3 A6 c3 c6 l3 l3 w6 (by have := HL40.out; unfold maxLen; omega) ((HO3.out.ext B56.out).edS' HN3.out) hr6
  rw [HN3.out, decide_eq_true rfl] at HSM
  have HSM := hide HSM
  have B6 := hide (B5.out.trans (hb6.mono B5.out.size))
  rw [HN3.out]
  clear ho6 hb6 hr6 B56
  go_wp2_with fail
  refine HSM.out.mono ?_
  rintro e w7 ⟨rfl, hb7⟩
  have B7 := hide (B6.out.trans (hb7.mono B6.out.size))
  clear hb7
  go_wp2_with fail
  refine (known_any w7).mono ?_
  rintro e w8 ⟨rfl, hb8⟩
  go_wp2_with fail
  go_ret
  exact ⟨rfl, B7.out.trans (hb8.mono B7.out.size)⟩
end Go.Proofs.YtmpegkojencbjaaDoor
/- School: the reference's at. -/
namespace Go.Proofs.YtmpegkojencbjaaDoor
open Go Go.RowKit Go.Shelf
set_option maxHeartbeats 4000000
set_option maxRecDepth 100000
def atB (i : Int) (wd : Bool) (e : Ed) : Bool := decide (e.at_ = i) && ((e.ki == 3) == wd)
def atL (l : List Ed) (i : Int) (wd : Bool) : List Ed := l.filter (atB i wd)
theorem atL_take (l : List Ed) (i : Int) (wd : Bool) (k : Nat) (hk : k < l.length) {e : Ed} (he : l.getD k e0 = e) : atL (l.take (k + 1)) i wd = if atB i wd e then atL (l.take k) i wd ++ [e] else atL (l.take k) i wd := by
  have h1 : l.take (k + 1) = l.take k ++ [e] := by
    rw [List.take_succ_eq_append_getElem hk]
    rw [List.getD_eq_getElem?_getD, List.getElem?_eq_getElem hk] at he
    rw [← he]; rfl
  unfold atL
  rw [h1, List.filter_append]
  cases h : atB i wd e <;> simp [h]
theorem atL_len (l : List Ed) (i : Int) (wd : Bool) : (atL l i wd).length ≤ l.length := List.length_filter_le _ _
theorem at_any (A : Option Addr) (c : Nat) (l : List Ed) (i : Int) (wd : Bool) (w : World) (hl : l.length ≤ 100000) (hA : EdR w w.heap.size A l) :
    Calls Tryd.prog 58 #[.slice A l.length c, .int .i64 i, .bool wd] w fun e w' => ∃ v, e = .returned v ∧ OwnE w' w.heap.size v (atL l i wd) ∧ Below w.heap.size w w' := by
  have HA := hide hA
  obtain ⟨n, hn⟩ : ∃ n, l.length = n := ⟨_, rfl⟩
  have HN := hide hn
  rw [hn] at hl ⊢
  clear hA hn
  go_enter Tryd.func58, Tryd.ntmps58
  have HO0 : Hid (OwnE (w.alloc (.cells #[] 86)) w.heap.size (.slice (some ⟨w.heap.size, 0, none⟩) 0 0) (atL (l.take 0) i wd)) := hide (OwnE.made0 w)
  have HB0 := hide ((Below.refl w.heap.size w).alloc (Nat.le_refl _) (.cells #[] 86))
  go_wp2_with fail
  generalize (w.alloc (.cells #[] 86)) = w1 at HO0 HB0 ⊢
  go_loopw [7, 8] (fun v x wr => ∃ (k : Nat) (vl : Value), k ≤ n ∧ x = .int .i64 k ∧ v = vl ∧ Hid (OwnE wr w.heap.size vl (atL (l.take k) i wd)) ∧ Hid (Below w.heap.size w wr)) (fun _ x _ => n - (intOf x).toNat)
  case atStart => exact ⟨0, _, Nat.zero_le _, rfl, rfl, HO0, HB0⟩
  case round =>
    obtain ⟨k, vl, hk, rfl, rfl, HO, HBW⟩ := hrel
    clear HO0 HB0
    obtain ⟨vA, vc, hv⟩ := own_shape HO.out
    subst hv
    by_cases hlt : k < n
    · have hlt' : (k : Int) < (n : Int) := by omega
      have k0 : (0 : Int) ≤ (k : Int) := by omega
      obtain ⟨e, he⟩ : ∃ e, l.getD k e0 = e := ⟨_, rfl⟩
      obtain ⟨xb, xo, rfl, hxb, a0, a1, a2, a3⟩ := HA.out.at_ (by rw [HN.out]; exact hlt) he
      have HE := hide he
      clear he
      obtain ⟨x0, x1, x2, x3⟩ := e
      dsimp only at a0 a1 a2 a3
      have hst : IntKind.i64.wrap ((k : Int) + 1) = (k : Int) + 1 := IntWalk.i64_in _ (by omega)
      have c0 := (HBW.out.cell (p := ⟨xb, xo + k * 4, none⟩) hxb).trans a0
      have c1 := (HBW.out.cell (p := ⟨xb, xo + k * 4 + 1, none⟩) hxb).trans a1
      have c2 := (HBW.out.cell (p := ⟨xb, xo + k * 4 + 2, none⟩) hxb).trans a2
      have c3 := (HBW.out.cell (p := ⟨xb, xo + k * 4 + 3, none⟩) hxb).trans a3
      clear a0 a1 a2 a3
      by_cases h1 : x1 = i
      · subst h1
        by_cases h3 : ((x0 == 3) == wd) = true
        · have hf : atB x1 wd ⟨x0, x1, x2, x3⟩ = true := by unfold atB; simp only [decide_true, Bool.true_and]; exact h3
          have hlen : (atL (l.take k) x1 wd).length ≤ 1000000 := by
            have h2 := atL_len (l.take k) x1 wd
            have h4 : (l.take k).length ≤ k := List.length_take_le _ _
            omega
          obtain ⟨A2, c2', w2, hrun, ho, hg⟩ := HO.out.push ⟨x0, x1, x2, x3⟩ hlen HBW.out.size
          have HN2 := hide ho
          have HB2 : Hid (Below w.heap.size w w2) := hide (((HBW.out.trans ((Below.refl wr.heap.size wr).alloc (Nat.le_refl _) _ |>.mono HBW.out.size))).grown hg (Nat.le_trans HBW.out.size (by simp)) (fun k hk => (World.ownsRow.lt HO.out k hk).1))
          dsimp only at hrun
          have HRUN := hide hrun
          clear hrun ho hg hlen
          have e3 : ((x0 == 3) == wd) = true := h3
          clear h3
          go_wp2_with (at_builtin; refine wpList_append_run rfl (.tmp 33) (.tmp 38) 26 rfl rfl rfl HRUN.out ?_)
          go_roundw
          case rel => exact ⟨k + 1, _, by omega, by go_num, rfl, hide (by rw [atL_take l x1 wd k (by rw [HN.out]; exact hlt) HE.out, if_pos hf]; exact HN2.out), HB2⟩
          case measure => simp [intOf]; omega
        · have hf : ¬ atB x1 wd ⟨x0, x1, x2, x3⟩ = true := by unfold atB; simp only [decide_true, Bool.true_and]; exact h3
          have e3 : ((x0 == 3) == wd) = false := by simpa using h3
          clear h3
          generalize x1 = i at *
          go_wp2_with fail
          go_roundw
          case rel => exact ⟨k + 1, _, by omega, by go_num, rfl, hide (by rw [atL_take l i wd k (by rw [HN.out]; exact hlt) HE.out, if_neg hf]; exact HO.out), HBW⟩
          case measure => simp [intOf]; omega
      · have hf : ¬ atB i wd ⟨x0, x1, x2, x3⟩ = true := by unfold atB; simp [h1]
        go_wp2_with fail
        go_roundw
        case rel => exact ⟨k + 1, _, by omega, by go_num, rfl, hide (by rw [atL_take l i wd k (by rw [HN.out]; exact hlt) HE.out, if_neg hf]; exact HO.out), HBW⟩
        case measure => simp [intOf]; omega
    · obtain rfl : n = k := by omega
      have hnl : ¬ (n : Int) < (n : Int) := by omega
      go_wp2_with fail
      go_ret
      refine ⟨_, rfl, ?_, HBW.out⟩
      have hall : l.take n = l := List.take_of_length_le (by rw [HN.out]; exact Nat.le_refl _)
      have := HO.out
      rw [hall] at this ⊢
      exact this
end Go.Proofs.YtmpegkojencbjaaDoor
/- School: the reference's Apply: what it returns, and its walk. -/
namespace Go.Proofs.YtmpegkojencbjaaDoor
open List renaming getElem_toArray → glA, getElem_cons_zero → glB, getElem_cons_succ → glC, setIfInBounds_toArray → glD, set_cons_zero → glE, set_cons_succ → glF
open Go Go.RowKit Go.Shelf
set_option maxHeartbeats 4000000
set_option maxRecDepth 100000
/-- the first edit of n that does not fit -/
def apC (a : List Wd) (es : List Ed) : Nat → Option Nat
  | 0 => none
  | n + 1 => match apC a es n with | some k => some k | none => if edE a (es.getD n e0) = 0 then none else some n
theorem apC_succ (a : List Wd) (es : List Ed) (n : Nat) (h : apC a es n = none) : apC a es (n + 1) = if edE a (es.getD n e0) = 0 then none else some n := by
  show (match apC a es n with | some k => some k | none => if edE a (es.getD n e0) = 0 then none else some n) = _
  rw [h]
theorem apC_some (a : List Wd) (es : List Ed) {k : Nat} : ∀ n m, n ≤ m → apC a es n = some k → apC a es m = some k := by
  intro n m h
  induction h with
  | refl => exact id
  | step _ ih =>
    intro h
    show (match apC a es _ with | some k => some k | none => _) = _
    rw [ih h]
/-- one place: the new words of j edits, and whether the old word is gone -/
def apJ (es : List Ed) (i : Nat) (l : List Wd) : Nat → List Wd × Bool
  | 0 => (l, false)
  | j + 1 => if (es.getD j e0).at_ = (i : Int) then ((apJ es i l j).1 ++ (if (es.getD j e0).ki = 2 then [] else [(es.getD j e0).new]), (apJ es i l j).2 || decide ((es.getD j e0).ki ≠ 3)) else apJ es i l j
def apI (a : List Wd) (es : List Ed) : Nat → List Wd
  | 0 => []
  | i + 1 => (apJ es i (apI a es i) es.length).1 ++ if (apJ es i (apI a es i) es.length).2 = false ∧ i < a.length then [a.getD i noW] else []
theorem apJ_len (es : List Ed) (i : Nat) (l : List Wd) : ∀ j, (apJ es i l j).1.length ≤ l.length + j
  | 0 => Nat.le_refl _
  | j + 1 => by
    have h := apJ_len es i l j
    unfold apJ
    split
    · simp only [List.length_append]
      split <;> simp only [List.length_nil, List.length_cons] <;> omega
    · omega
theorem apI_len (a : List Wd) (es : List Ed) : ∀ i, (apI a es i).length ≤ i * (es.length + 1)
  | 0 => Nat.zero_le _
  | i + 1 => by
    have h := apI_len a es i
    have h2 := apJ_len es i (apI a es i) es.length
    have h3 : (i + 1) * (es.length + 1) = i * (es.length + 1) + (es.length + 1) := Nat.succ_mul _ _
    unfold apI
    rw [List.length_append, h3]
    split <;> simp only [List.length_nil, List.length_cons] <;> omega
/-- what Apply returns -/
def apX (a : List Wd) (es : List Ed) : List Wd × Int × Int :=
  match apC a es es.length with
  | some k => ([], (k : Int), edE a (es.getD k e0))
  | none => if (apI a es (a.length + 1)).length ≤ 20 then (apI a es (a.length + 1), 0, 0) else ([], 0, 5)
theorem apX_bad {a : List Wd} {es : List Ed} {k : Nat} (hk : k < es.length) (h : apC a es k = none) {e : Ed} (he : es.getD k e0 = e) {r : Int} (hr : edE a e = r) (h0 : r ≠ 0) : apX a es = ([], (k : Int), r) := by
  have h1 : apC a es (k + 1) = some k := by rw [apC_succ a es k h, he, hr, if_neg h0]
  unfold apX
  rw [apC_some a es (k + 1) es.length hk h1]
  dsimp only
  rw [he, hr]
theorem OwnS.push {W : World} {base : Nat} {v : Value} {l : List Wd} (h : OwnS W base v l) (x : Wd) (hl : l.length ≤ 900000) (hb : base ≤ W.heap.size) :
    ∃ A c w', (Builtin.append_ #[22, 22] 22 #[v, .slice (some ⟨W.heap.size, 0, none⟩) 1 1]).run Tryd.prog (W.alloc (.cells #[.string x] 9)) = .ok (.slice A (l.length + 1) c) w' ∧
      OwnS w' base (.slice A (l.length + 1) c) (l ++ [x]) ∧ (∀ W0, W0.heap.size = base → Below base W0 W → Below base W0 w') := by
  have hBA : Below W.heap.size W (W.alloc (.cells #[.string x] 9)) := (Below.refl _ _).alloc (Nat.le_refl _) _
  obtain ⟨v', w', hr, ho, hg, -⟩ := (h.ext hBA).pushes (some ⟨W.heap.size, 0, none⟩) 1 [x] (SR.one W x) (by simp; omega) (Nat.le_trans hb hBA.size)
  obtain ⟨A', c', rfl⟩ := own_shape ho
  rw [List.length_append] at ho hr
  exact ⟨A', c', w', hr, ho, fun W0 _ hB => (hB.trans (hBA.mono hb)).grown hg (Nat.le_trans hb hBA.size) (fun k hk => (World.ownsRow.lt (h.ext hBA) k hk).1)⟩
theorem OwnS.low {W : World} {n0 n1 : Nat} {v : Value} {l : List Wd} (h : OwnS W n0 v l) (hb : n1 ≤ n0) : OwnS W n1 v l := ⟨h.1, h.2.imp id fun ⟨g, cap, cur, h1, h2, h3⟩ => ⟨g, cap, cur, h1, Nat.le_trans hb h2, h3⟩⟩
theorem apJ_no {es : List Ed} {i j : Nat} {l : List Wd} {e : Ed} (he : es.getD j e0 = e) (h : ¬ e.at_ = (i : Int)) : apJ es i l (j + 1) = apJ es i l j := by
  show (if _ then _ else _) = _
  rw [he, if_neg h]
theorem apJ_yes {es : List Ed} {i j : Nat} {l : List Wd} {e : Ed} (he : es.getD j e0 = e) (h : e.at_ = (i : Int)) {p : List Wd} {f : Bool} (hp : apJ es i l j = (p, f)) : apJ es i l (j + 1) = (p ++ (if e.ki = 2 then [] else [e.new]), f || decide (e.ki ≠ 3)) := by
  show (if _ then _ else _) = _
  rw [he, if_pos h, hp]
theorem apI_next {a : List Wd} {es : List Ed} {i m : Nat} (hm : es.length = m) {p : List Wd} {f : Bool} (hp : apJ es i (apI a es i) m = (p, f)) : apI a es (i + 1) = p ++ if f = false ∧ i < a.length then [a.getD i noW] else [] := by
  show (apJ es i (apI a es i) es.length).1 ++ _ = _
  rw [hm, hp]
theorem SR.at_ {w : World} {B : Nat} {A : Option Addr} {l : List Wd} (h : SR w B A l) {k : Nat} (hk : k < l.length) :
    ∃ b off, A = some ⟨b, off, none⟩ ∧ b < B ∧ w.cell? ⟨b, off + k, none⟩ = some (.string (l.getD k noW)) := VR1.at_ h hk
theorem refApply_any (A B : Option Addr) (c d : Nat) (a : List Wd) (es : List Ed) (w : World) (ha : a.length ≤ 30) (he : es.length ≤ 10000) (hA : SR w w.heap.size A a) (hB : EdR w w.heap.size B es) (hes : ∀ e ∈ es, 0 ≤ e.at_) :
    Calls Tryd.prog 47 #[.slice A a.length c, .slice B es.length d] w (MgPost w (apX a es)) := by
  have HA := hide hA
  have HB := hide hB
  have HP := hide hes
  obtain ⟨n, hn⟩ : ∃ n, a.length = n := ⟨_, rfl⟩
  obtain ⟨m, hm⟩ : ∃ n, es.length = n := ⟨_, rfl⟩
  have HN := hide (And.intro hn hm)
  rw [hn] at ha ⊢
  rw [hm] at he ⊢
  clear hA hB hes hn hm
  go_enter Tryd.func47, Tryd.ntmps47
  go_wp2_with fail
  go_loopw [7] (fun x wr => ∃ (k : Nat), k ≤ m ∧ x = .int .i64 k ∧ Hid (apC a es k = none) ∧ Hid (Below w.heap.size w wr)) (fun x _ => m - (intOf x).toNat)
  case atStart => exact ⟨0, Nat.zero_le _, rfl, hide rfl, hide (Below.refl _ _)⟩
  case round =>
    obtain ⟨k, hk, rfl, HC, HBW⟩ := hrel
    by_cases hlt : k < m
    · -- BEGIN1
      have hlt' : (k : Int) < (m : Int) := by omega
      have k0 : (0 : Int) ≤ (k : Int) := by omega
      have hst : IntKind.i64.wrap ((k : Int) + 1) = (k : Int) + 1 := IntWalk.i64_in _ (by omega)
      obtain ⟨e, he'⟩ : ∃ e, es.getD k e0 = e := ⟨_, rfl⟩
      have hmem : e ∈ es := by
        rw [← he', List.getD_eq_getElem?_getD, List.getElem?_eq_getElem (by rw [HN.out.2]; exact hlt)]
        exact List.getElem_mem _
      have hat0 := HP.out e hmem
      obtain ⟨xb, xo, rfl, hxb, a0, a1, a2, a3⟩ := HB.out.at_ (by rw [HN.out.2]; exact hlt) he'
      have HE := hide he'
      clear he' hmem
      obtain ⟨x0, x1, x2, x3⟩ := e
      dsimp only at a0 a1 a2 a3 hat0
      obtain ⟨t, rfl⟩ : ∃ t : Nat, x1 = (t : Int) := ⟨x1.toNat, by omega⟩
      have c0 := (HBW.out.cell (p := ⟨xb, xo + k * 4, none⟩) hxb).trans a0
      have c1 := (HBW.out.cell (p := ⟨xb, xo + k * 4 + 1, none⟩) hxb).trans a1
      by_cases htn : n < t
      · have htn' : (n : Int) < (t : Int) := by omega
        go_wp2_with fail
        go_ret3
        unfold MgPost
        rw [apX_bad (by rw [HN.out.2]; exact hlt) HC.out HE.out (r := 3) (by unfold edE; rw [HN.out.1]; simp; omega) (by decide)]
        exact ⟨_, rfl, OwnS.nil _ _, HBW.out⟩
      · have htn' : ¬ (n : Int) < (t : Int) := by omega
        by_cases h3 : x0 = 3
        · subst h3
          go_upto_region 6 with fail
          have Bd := hide (HBW.out.trans ((Below.refl wr.heap.size wr).drew.mono HBW.out.size))
          have HS : Hid (∀ W, Below w.heap.size w W → W.cell? ⟨xb, xo + k * 4, none⟩ = some (.int .i64 3)) := hide fun W h => (h.cell (p := ⟨xb, xo + k * 4, none⟩) hxb).trans a0
          clear a0 a1 a2 a3 c0 c1
          refine wp_region_J (fun W : World => W.cell? ⟨xb, xo + k * 4, none⟩ = some (.int .i64 3)) (by kernel_rfl) ?_
          generalize wr.drew = wd at Bd ⊢
          refine wpAnyJ_take 0 (v := ?_) (by first | exact hF | exact wideFn) (HS.out _ Bd.out) rfl (by kernel_rfl) (by kernel_rfl) (by kernel_rfl) (by kernel_rfl) rfl ?_ (by first | exact fun _ _ _ h => h | exact fun _ _ _ h => hQ2 _ _ _ _ _ h) ?_
          rotate_left
          · intro W hSW
            simp only [glA, glB, glC]
            (try dsimp only at hSW)
            go_simp
            with_reducible rfl
          (try simp only [glA, glB, glC, Act.put, glD, glE, glF])
          refine wpAnyJ_take 1 (v := ?_) (by first | exact hF | exact wideFn) (HS.out _ Bd.out) rfl (by kernel_rfl) (by kernel_rfl) (by kernel_rfl) (by kernel_rfl) rfl ?_ (by first | exact fun _ _ _ h => h | exact fun _ _ _ h => hQ2 _ _ _ _ _ h) ?_
          rotate_left
          · intro W hSW
            simp only [glA, glB, glC]
            (try dsimp only at hSW)
            go_simp
            with_reducible rfl
          (try simp only [glA, glB, glC, Act.put, glD, glE, glF])
          refine wpAnyJ_take 2 (v := ?_) (by first | exact hF | exact wideFn) (HS.out _ Bd.out) rfl (by kernel_rfl) (by kernel_rfl) (by kernel_rfl) (by kernel_rfl) rfl ?_ (by first | exact fun _ _ _ h => h | exact fun _ _ _ h => hQ2 _ _ _ _ _ h) ?_
          rotate_left
          · intro W hSW
            simp only [glA, glB, glC]
            (try dsimp only at hSW)
            go_simp
            with_reducible rfl
          (try simp only [glA, glB, glC, Act.put, glD, glE, glF])
          refine wpAnyJ_take 3 (v := ?_) (by first | exact hF | exact wideFn) (HS.out _ Bd.out) rfl (by kernel_rfl) (by kernel_rfl) (by kernel_rfl) (by kernel_rfl) rfl ?_ (by first | exact fun _ _ _ h => h | exact fun _ _ _ h => hQ2 _ _ _ _ _ h) ?_
          rotate_left
          · intro W hSW
            simp only [glA, glB, glC]
            (try dsimp only at hSW)
            go_simp
            with_reducible rfl
          (try simp only [glA, glB, glC, Act.put, glD, glE, glF])
          refine wpAnyJ_take 4 (v := ?_) (by first | exact hF | exact wideFn) (HS.out _ Bd.out) rfl (by kernel_rfl) (by kernel_rfl) (by kernel_rfl) (by kernel_rfl) rfl ?_ (by first | exact fun _ _ _ h => h | exact fun _ _ _ h => hQ2 _ _ _ _ _ h) ?_
          rotate_left
          · intro W hSW
            simp only [glA, glB, glC]
            (try dsimp only at hSW)
            go_simp
            with_reducible rfl
          (try simp only [glA, glB, glC, Act.put, glD, glE, glF])
          refine wpAnyJ_take 5 (v := ?_) (by first | exact hF | exact wideFn) (HS.out _ Bd.out) rfl (by kernel_rfl) (by kernel_rfl) (by kernel_rfl) (by kernel_rfl) rfl ?_ (by first | exact fun _ _ _ h => h | exact fun _ _ _ h => hQ2 _ _ _ _ _ h) ?_
          rotate_left
          · intro W hSW
            simp only [glA, glB, glC]
            (try dsimp only at hSW)
            go_simp
            with_reducible rfl
          (try simp only [glA, glB, glC, Act.put, glD, glE, glF])
          refine wpAnyJ_take 6 (v := ?_) (by first | exact hF | exact wideFn) (HS.out _ Bd.out) rfl (by kernel_rfl) (by kernel_rfl) (by kernel_rfl) (by kernel_rfl) rfl ?_ (by first | exact fun _ _ _ h => h | exact fun _ _ _ h => hQ2 _ _ _ _ _ h) ?_
          rotate_left
          · intro W hSW
            simp only [glA, glB, glC]
            (try dsimp only at hSW)
            go_simp
            with_reducible rfl
          (try simp only [glA, glB, glC, Act.put, glD, glE, glF])
          refine wpAnyJ_skip 7 (by first | exact hF | exact wideFn) (HS.out _ Bd.out) rfl (by kernel_rfl) (by kernel_rfl) (by kernel_rfl) (by kernel_rfl) rfl (by first | exact fun _ _ _ h => h | exact fun _ _ _ h => hQ2 _ _ _ _ _ h) ?_
          (try simp only [glA, glB, glC, Act.put, glD, glE, glF])
          refine wpAnyJ_skip 8 (by first | exact hF | exact wideFn) (HS.out _ Bd.out) rfl (by kernel_rfl) (by kernel_rfl) (by kernel_rfl) (by kernel_rfl) rfl (by first | exact fun _ _ _ h => h | exact fun _ _ _ h => hQ2 _ _ _ _ _ h) ?_
          (try simp only [glA, glB, glC, Act.put, glD, glE, glF])
          refine wpAnyJ_skip 9 (by first | exact hF | exact wideFn) (HS.out _ Bd.out) rfl (by kernel_rfl) (by kernel_rfl) (by kernel_rfl) (by kernel_rfl) rfl (by first | exact fun _ _ _ h => h | exact fun _ _ _ h => hQ2 _ _ _ _ _ h) ?_
          (try simp only [glA, glB, glC, Act.put, glD, glE, glF])
          refine wpAnyJ_skip 10 (by first | exact hF | exact wideFn) (HS.out _ Bd.out) rfl (by kernel_rfl) (by kernel_rfl) (by kernel_rfl) (by kernel_rfl) rfl (by first | exact fun _ _ _ h => h | exact fun _ _ _ h => hQ2 _ _ _ _ _ h) ?_
          (try simp only [glA, glB, glC, Act.put, glD, glE, glF])
          refine wpAnyJ_skip 11 (by first | exact hF | exact wideFn) (HS.out _ Bd.out) rfl (by kernel_rfl) (by kernel_rfl) (by kernel_rfl) (by kernel_rfl) rfl (by first | exact fun _ _ _ h => h | exact fun _ _ _ h => hQ2 _ _ _ _ _ h) ?_
          (try simp only [glA, glB, glC, Act.put, glD, glE, glF])
          refine wpAnyJ_skip 12 (by first | exact hF | exact wideFn) (HS.out _ Bd.out) rfl (by kernel_rfl) (by kernel_rfl) (by kernel_rfl) (by kernel_rfl) rfl (by first | exact fun _ _ _ h => h | exact fun _ _ _ h => hQ2 _ _ _ _ _ h) ?_
          (try simp only [glA, glB, glC, Act.put, glD, glE, glF])
          refine wpAnyJ_skip 13 (by first | exact hF | exact wideFn) (HS.out _ Bd.out) rfl (by kernel_rfl) (by kernel_rfl) (by kernel_rfl) (by kernel_rfl) rfl (by first | exact fun _ _ _ h => h | exact fun _ _ _ h => hQ2 _ _ _ _ _ h) ?_
          (try simp only [glA, glB, glC, Act.put, glD, glE, glF])
          refine wpAnyJ_skip 14 (by first | exact hF | exact wideFn) (HS.out _ Bd.out) rfl (by kernel_rfl) (by kernel_rfl) (by kernel_rfl) (by kernel_rfl) rfl (by first | exact fun _ _ _ h => h | exact fun _ _ _ h => hQ2 _ _ _ _ _ h) ?_
          (try simp only [glA, glB, glC, Act.put, glD, glE, glF])
          refine wpAnyJ_skip 15 (by first | exact hF | exact wideFn) (HS.out _ Bd.out) rfl (by kernel_rfl) (by kernel_rfl) (by kernel_rfl) (by kernel_rfl) rfl (by first | exact fun _ _ _ h => h | exact fun _ _ _ h => hQ2 _ _ _ _ _ h) ?_
          (try simp only [glA, glB, glC, Act.put, glD, glE, glF])
          refine wpAnyJ_skip 16 (by first | exact hF | exact wideFn) (HS.out _ Bd.out) rfl (by kernel_rfl) (by kernel_rfl) (by kernel_rfl) (by kernel_rfl) rfl (by first | exact fun _ _ _ h => h | exact fun _ _ _ h => hQ2 _ _ _ _ _ h) ?_
          (try simp only [glA, glB, glC, Act.put, glD, glE, glF])
          refine wpAnyJ_skip 17 (by first | exact hF | exact wideFn) (HS.out _ Bd.out) rfl (by kernel_rfl) (by kernel_rfl) (by kernel_rfl) (by kernel_rfl) rfl (by first | exact fun _ _ _ h => h | exact fun _ _ _ h => hQ2 _ _ _ _ _ h) ?_
          (try simp only [glA, glB, glC, Act.put, glD, glE, glF])
          refine wpAnyJ_skip 18 (by first | exact hF | exact wideFn) (HS.out _ Bd.out) rfl (by kernel_rfl) (by kernel_rfl) (by kernel_rfl) (by kernel_rfl) rfl (by first | exact fun _ _ _ h => h | exact fun _ _ _ h => hQ2 _ _ _ _ _ h) ?_
          (try simp only [glA, glB, glC, Act.put, glD, glE, glF])
          refine wpAnyJ_skip 19 (by first | exact hF | exact wideFn) (HS.out _ Bd.out) rfl (by kernel_rfl) (by kernel_rfl) (by kernel_rfl) (by kernel_rfl) rfl (by first | exact fun _ _ _ h => h | exact fun _ _ _ h => hQ2 _ _ _ _ _ h) ?_
          (try simp only [glA, glB, glC, Act.put, glD, glE, glF])
          refine wpAnyJ_skip 20 (by first | exact hF | exact wideFn) (HS.out _ Bd.out) rfl (by kernel_rfl) (by kernel_rfl) (by kernel_rfl) (by kernel_rfl) rfl (by first | exact fun _ _ _ h => h | exact fun _ _ _ h => hQ2 _ _ _ _ _ h) ?_
          (try simp only [glA, glB, glC, Act.put, glD, glE, glF])
          refine wpAnyJ_take 21 (v := ?_) (by first | exact hF | exact wideFn) (HS.out _ Bd.out) rfl (by kernel_rfl) (by kernel_rfl) (by kernel_rfl) (by kernel_rfl) rfl ?_ (by first | exact fun _ _ _ h => h | exact fun _ _ _ h => hQ2 _ _ _ _ _ h) ?_
          rotate_left
          · intro W hSW
            simp only [glA, glB, glC]
            (try dsimp only at hSW)
            go_simp
            with_reducible rfl
          (try simp only [glA, glB, glC, Act.put, glD, glE, glF])
          refine wpAnyJ_done (by kernel_rfl) ?_
          go_wp2_with fail
          go_roundw
          case rel => exact ⟨k + 1, by omega, by go_num, hide (by rw [apC_succ a es k HC.out, HE.out, if_pos (by unfold edE; rw [HN.out.1]; simp; omega)]), Bd⟩
          case measure => simp [intOf]; omega
        · have h3' : ¬ (x0 = 3) := h3
          by_cases htn2 : t = n
          · subst htn2
            go_wp2_with fail
            go_ret3
            unfold MgPost
            rw [apX_bad (by rw [HN.out.2]; exact hlt) HC.out HE.out (r := 3) (by unfold edE; rw [HN.out.1]; simp; omega) (by decide)]
            exact ⟨_, rfl, OwnS.nil _ _, HBW.out⟩
          · have htn3 : ¬ ((t : Int) = (n : Int)) := by omega
            have e4 : ((t : Int) == (n : Int)) = false := by simp; omega
            have t0 : (0 : Int) ≤ (t : Int) := by omega
            have t1 : (t : Int) < (n : Int) := by omega
            obtain ⟨yb, yo, rfl, hyb, b0⟩ := HA.out.at_ (k := t) (by rw [HN.out.1]; omega)
            obtain ⟨y, hy⟩ : ∃ y, a.getD t noW = y := ⟨_, rfl⟩
            rw [hy] at b0
            have HY := hide hy
            go_upto_region 6 with fail
            have Bd := hide (HBW.out.trans ((Below.refl wr.heap.size wr).drew.mono HBW.out.size))
            have HS : Hid (∀ W, Below w.heap.size w W → (W.cell? ⟨xb, xo + k * 4, none⟩ = some (.int .i64 x0) ∧ W.cell? ⟨xb, xo + k * 4 + 1, none⟩ = some (.int .i64 (t : Nat)) ∧ W.cell? ⟨xb, xo + k * 4 + 2, none⟩ = some (.string x2)) ∧ W.cell? ⟨yb, yo + t, none⟩ = some (.string y)) := hide fun W h => ⟨⟨(h.cell (p := ⟨xb, xo + k * 4, none⟩) hxb).trans a0, (h.cell (p := ⟨xb, xo + k * 4 + 1, none⟩) hxb).trans a1, (h.cell (p := ⟨xb, xo + k * 4 + 2, none⟩) hxb).trans a2⟩, (h.cell (p := ⟨yb, yo + t, none⟩) hyb).trans b0⟩
            have e5 : (x0 != 3) = true := by simp [h3]
            clear a0 a1 a2 a3 c0 c1 b0 hy e4
            refine wp_region_J (fun W : World => (W.cell? ⟨xb, xo + k * 4, none⟩ = some (.int .i64 x0) ∧ W.cell? ⟨xb, xo + k * 4 + 1, none⟩ = some (.int .i64 (t : Nat)) ∧ W.cell? ⟨xb, xo + k * 4 + 2, none⟩ = some (.string x2)) ∧ W.cell? ⟨yb, yo + t, none⟩ = some (.string y)) (by kernel_rfl) ?_
            generalize wr.drew = wd at Bd ⊢
            refine wpAnyJ_take 0 (v := ?_) (by first | exact hF | exact wideFn) (HS.out _ Bd.out) rfl (by kernel_rfl) (by kernel_rfl) (by kernel_rfl) (by kernel_rfl) rfl ?_ (by first | exact fun _ _ _ h => h | exact fun _ _ _ h => hQ2 _ _ _ _ _ h) ?_
            rotate_left
            · intro W hSW
              simp only [glA, glB, glC]
              (try dsimp only at hSW)
              go_simp
              with_reducible rfl
            (try simp only [glA, glB, glC, Act.put, glD, glE, glF])
            refine wpAnyJ_take 1 (v := ?_) (by first | exact hF | exact wideFn) (HS.out _ Bd.out) rfl (by kernel_rfl) (by kernel_rfl) (by kernel_rfl) (by kernel_rfl) rfl ?_ (by first | exact fun _ _ _ h => h | exact fun _ _ _ h => hQ2 _ _ _ _ _ h) ?_
            rotate_left
            · intro W hSW
              simp only [glA, glB, glC]
              (try dsimp only at hSW)
              go_simp
              with_reducible rfl
            (try simp only [glA, glB, glC, Act.put, glD, glE, glF])
            refine wpAnyJ_take 2 (v := ?_) (by first | exact hF | exact wideFn) (HS.out _ Bd.out) rfl (by kernel_rfl) (by kernel_rfl) (by kernel_rfl) (by kernel_rfl) rfl ?_ (by first | exact fun _ _ _ h => h | exact fun _ _ _ h => hQ2 _ _ _ _ _ h) ?_
            rotate_left
            · intro W hSW
              simp only [glA, glB, glC]
              (try dsimp only at hSW)
              go_simp
              with_reducible rfl
            (try simp only [glA, glB, glC, Act.put, glD, glE, glF])
            refine wpAnyJ_take 3 (v := ?_) (by first | exact hF | exact wideFn) (HS.out _ Bd.out) rfl (by kernel_rfl) (by kernel_rfl) (by kernel_rfl) (by kernel_rfl) rfl ?_ (by first | exact fun _ _ _ h => h | exact fun _ _ _ h => hQ2 _ _ _ _ _ h) ?_
            rotate_left
            · intro W hSW
              simp only [glA, glB, glC]
              (try dsimp only at hSW)
              go_simp
              with_reducible rfl
            (try simp only [glA, glB, glC, Act.put, glD, glE, glF])
            refine wpAnyJ_take 4 (v := ?_) (by first | exact hF | exact wideFn) (HS.out _ Bd.out) rfl (by kernel_rfl) (by kernel_rfl) (by kernel_rfl) (by kernel_rfl) rfl ?_ (by first | exact fun _ _ _ h => h | exact fun _ _ _ h => hQ2 _ _ _ _ _ h) ?_
            rotate_left
            · intro W hSW
              simp only [glA, glB, glC]
              (try dsimp only at hSW)
              go_simp
              with_reducible rfl
            (try simp only [glA, glB, glC, Act.put, glD, glE, glF])
            refine wpAnyJ_take 5 (v := ?_) (by first | exact hF | exact wideFn) (HS.out _ Bd.out) rfl (by kernel_rfl) (by kernel_rfl) (by kernel_rfl) (by kernel_rfl) rfl ?_ (by first | exact fun _ _ _ h => h | exact fun _ _ _ h => hQ2 _ _ _ _ _ h) ?_
            rotate_left
            · intro W hSW
              simp only [glA, glB, glC]
              (try dsimp only at hSW)
              go_simp
              with_reducible rfl
            (try simp only [glA, glB, glC, Act.put, glD, glE, glF])
            refine wpAnyJ_take 6 (v := ?_) (by first | exact hF | exact wideFn) (HS.out _ Bd.out) rfl (by kernel_rfl) (by kernel_rfl) (by kernel_rfl) (by kernel_rfl) rfl ?_ (by first | exact fun _ _ _ h => h | exact fun _ _ _ h => hQ2 _ _ _ _ _ h) ?_
            rotate_left
            · intro W hSW
              simp only [glA, glB, glC]
              (try dsimp only at hSW)
              go_simp
              with_reducible rfl
            (try simp only [glA, glB, glC, Act.put, glD, glE, glF])
            refine wpAnyJ_take 7 (v := ?_) (by first | exact hF | exact wideFn) (HS.out _ Bd.out) rfl (by kernel_rfl) (by kernel_rfl) (by kernel_rfl) (by kernel_rfl) rfl ?_ (by first | exact fun _ _ _ h => h | exact fun _ _ _ h => hQ2 _ _ _ _ _ h) ?_
            rotate_left
            · intro W hSW
              simp only [glA, glB, glC]
              (try dsimp only at hSW)
              go_simp
              with_reducible rfl
            (try simp only [glA, glB, glC, Act.put, glD, glE, glF])
            refine wpAnyJ_take 8 (v := ?_) (by first | exact hF | exact wideFn) (HS.out _ Bd.out) rfl (by kernel_rfl) (by kernel_rfl) (by kernel_rfl) (by kernel_rfl) rfl ?_ (by first | exact fun _ _ _ h => h | exact fun _ _ _ h => hQ2 _ _ _ _ _ h) ?_
            rotate_left
            · intro W hSW
              simp only [glA, glB, glC]
              (try dsimp only at hSW)
              go_simp
              with_reducible rfl
            (try simp only [glA, glB, glC, Act.put, glD, glE, glF])
            refine wpAnyJ_take 9 (v := ?_) (by first | exact hF | exact wideFn) (HS.out _ Bd.out) rfl (by kernel_rfl) (by kernel_rfl) (by kernel_rfl) (by kernel_rfl) rfl ?_ (by first | exact fun _ _ _ h => h | exact fun _ _ _ h => hQ2 _ _ _ _ _ h) ?_
            rotate_left
            · intro W hSW
              simp only [glA, glB, glC]
              (try dsimp only at hSW)
              go_simp
              with_reducible rfl
            (try simp only [glA, glB, glC, Act.put, glD, glE, glF])
            refine wpAnyJ_take 10 (v := ?_) (by first | exact hF | exact wideFn) (HS.out _ Bd.out) rfl (by kernel_rfl) (by kernel_rfl) (by kernel_rfl) (by kernel_rfl) rfl ?_ (by first | exact fun _ _ _ h => h | exact fun _ _ _ h => hQ2 _ _ _ _ _ h) ?_
            rotate_left
            · intro W hSW
              simp only [glA, glB, glC]
              (try dsimp only at hSW)
              go_simp
              with_reducible rfl
            (try simp only [glA, glB, glC, Act.put, glD, glE, glF])
            refine wpAnyJ_take 11 (v := ?_) (by first | exact hF | exact wideFn) (HS.out _ Bd.out) rfl (by kernel_rfl) (by kernel_rfl) (by kernel_rfl) (by kernel_rfl) rfl ?_ (by first | exact fun _ _ _ h => h | exact fun _ _ _ h => hQ2 _ _ _ _ _ h) ?_
            rotate_left
            · intro W hSW
              simp only [glA, glB, glC]
              (try dsimp only at hSW)
              go_simp
              with_reducible rfl
            (try simp only [glA, glB, glC, Act.put, glD, glE, glF])
            refine wpAnyJ_take 12 (v := ?_) (by first | exact hF | exact wideFn) (HS.out _ Bd.out) rfl (by kernel_rfl) (by kernel_rfl) (by kernel_rfl) (by kernel_rfl) rfl ?_ (by first | exact fun _ _ _ h => h | exact fun _ _ _ h => hQ2 _ _ _ _ _ h) ?_
            rotate_left
            · intro W hSW
              simp only [glA, glB, glC]
              (try dsimp only at hSW)
              go_simp
              with_reducible rfl
            (try simp only [glA, glB, glC, Act.put, glD, glE, glF])
            refine wpAnyJ_take 13 (v := ?_) (by first | exact hF | exact wideFn) (HS.out _ Bd.out) rfl (by kernel_rfl) (by kernel_rfl) (by kernel_rfl) (by kernel_rfl) rfl ?_ (by first | exact fun _ _ _ h => h | exact fun _ _ _ h => hQ2 _ _ _ _ _ h) ?_
            rotate_left
            · intro W hSW
              simp only [glA, glB, glC]
              (try dsimp only at hSW)
              go_simp
              with_reducible rfl
            (try simp only [glA, glB, glC, Act.put, glD, glE, glF])
            refine wpAnyJ_take 14 (v := ?_) (by first | exact hF | exact wideFn) (HS.out _ Bd.out) rfl (by kernel_rfl) (by kernel_rfl) (by kernel_rfl) (by kernel_rfl) rfl ?_ (by first | exact fun _ _ _ h => h | exact fun _ _ _ h => hQ2 _ _ _ _ _ h) ?_
            rotate_left
            · intro W hSW
              simp only [glA, glB, glC]
              (try dsimp only at hSW)
              go_simp
              with_reducible rfl
            (try simp only [glA, glB, glC, Act.put, glD, glE, glF])
            refine wpAnyJ_take 15 (v := ?_) (by first | exact hF | exact wideFn) (HS.out _ Bd.out) rfl (by kernel_rfl) (by kernel_rfl) (by kernel_rfl) (by kernel_rfl) rfl ?_ (by first | exact fun _ _ _ h => h | exact fun _ _ _ h => hQ2 _ _ _ _ _ h) ?_
            rotate_left
            · intro W hSW
              simp only [glA, glB, glC]
              (try dsimp only at hSW)
              go_simp
              with_reducible rfl
            (try simp only [glA, glB, glC, Act.put, glD, glE, glF])
            refine wpAnyJ_take 16 (v := ?_) (by first | exact hF | exact wideFn) (HS.out _ Bd.out) rfl (by kernel_rfl) (by kernel_rfl) (by kernel_rfl) (by kernel_rfl) rfl ?_ (by first | exact fun _ _ _ h => h | exact fun _ _ _ h => hQ2 _ _ _ _ _ h) ?_
            rotate_left
            · intro W hSW
              simp only [glA, glB, glC]
              (try dsimp only at hSW)
              go_simp
              with_reducible rfl
            (try simp only [glA, glB, glC, Act.put, glD, glE, glF])
            refine wpAnyJ_take 17 (v := ?_) (by first | exact hF | exact wideFn) (HS.out _ Bd.out) rfl (by kernel_rfl) (by kernel_rfl) (by kernel_rfl) (by kernel_rfl) rfl ?_ (by first | exact fun _ _ _ h => h | exact fun _ _ _ h => hQ2 _ _ _ _ _ h) ?_
            rotate_left
            · intro W hSW
              simp only [glA, glB, glC]
              (try dsimp only at hSW)
              go_simp
              with_reducible rfl
            (try simp only [glA, glB, glC, Act.put, glD, glE, glF])
            refine wpAnyJ_take 18 (v := ?_) (by first | exact hF | exact wideFn) (HS.out _ Bd.out) rfl (by kernel_rfl) (by kernel_rfl) (by kernel_rfl) (by kernel_rfl) rfl ?_ (by first | exact fun _ _ _ h => h | exact fun _ _ _ h => hQ2 _ _ _ _ _ h) ?_
            rotate_left
            · intro W hSW
              simp only [glA, glB, glC]
              (try dsimp only at hSW)
              go_simp
              with_reducible rfl
            (try simp only [glA, glB, glC, Act.put, glD, glE, glF])
            refine wpAnyJ_take 19 (v := ?_) (by first | exact hF | exact wideFn) (HS.out _ Bd.out) rfl (by kernel_rfl) (by kernel_rfl) (by kernel_rfl) (by kernel_rfl) rfl ?_ (by first | exact fun _ _ _ h => h | exact fun _ _ _ h => hQ2 _ _ _ _ _ h) ?_
            rotate_left
            · intro W hSW
              simp only [glA, glB, glC]
              (try dsimp only at hSW)
              go_simp
              with_reducible rfl
            (try simp only [glA, glB, glC, Act.put, glD, glE, glF])
            by_cases hxy : y = x2
            · subst hxy
              refine wpAnyJ_take 20 (v := ?_) (by first | exact hF | exact wideFn) (HS.out _ Bd.out) rfl (by kernel_rfl) (by kernel_rfl) (by kernel_rfl) (by kernel_rfl) rfl ?_ (by first | exact fun _ _ _ h => h | exact fun _ _ _ h => hQ2 _ _ _ _ _ h) ?_
              rotate_left
              · intro W hSW
                simp only [glA, glB, glC]
                (try dsimp only at hSW)
                go_simp
                with_reducible rfl
              (try simp only [glA, glB, glC, Act.put, glD, glE, glF])
              refine wpAnyJ_take 21 (v := ?_) (by first | exact hF | exact wideFn) (HS.out _ Bd.out) rfl (by kernel_rfl) (by kernel_rfl) (by kernel_rfl) (by kernel_rfl) rfl ?_ (by first | exact fun _ _ _ h => h | exact fun _ _ _ h => hQ2 _ _ _ _ _ h) ?_
              rotate_left
              · intro W hSW
                simp only [glA, glB, glC]
                (try dsimp only at hSW)
                go_simp
                with_reducible rfl
              (try simp only [glA, glB, glC, Act.put, glD, glE, glF])
              refine wpAnyJ_done (by kernel_rfl) ?_
              go_wp2_with fail
              go_roundw
              case rel => exact ⟨k + 1, by omega, by go_num, hide (by
                rw [apC_succ a es k HC.out, HE.out]
                refine if_pos ?_
                unfold edE
                rw [HN.out.1]
                dsimp only
                rw [if_neg (by rintro (h | ⟨h, -⟩) <;> omega), if_neg (by rintro ⟨-, h⟩; exact h HY.out)]), Bd⟩
              case measure => simp [intOf]; omega
            · have e3 := str_ne hxy
              refine wpAnyJ_take 20 (v := ?_) (by first | exact hF | exact wideFn) (HS.out _ Bd.out) rfl (by kernel_rfl) (by kernel_rfl) (by kernel_rfl) (by kernel_rfl) rfl ?_ (by first | exact fun _ _ _ h => h | exact fun _ _ _ h => hQ2 _ _ _ _ _ h) ?_
              rotate_left
              · intro W hSW
                simp only [glA, glB, glC]
                (try dsimp only at hSW)
                go_simp
                with_reducible rfl
              (try simp only [glA, glB, glC, Act.put, glD, glE, glF])
              refine wpAnyJ_take 21 (v := ?_) (by first | exact hF | exact wideFn) (HS.out _ Bd.out) rfl (by kernel_rfl) (by kernel_rfl) (by kernel_rfl) (by kernel_rfl) rfl ?_ (by first | exact fun _ _ _ h => h | exact fun _ _ _ h => hQ2 _ _ _ _ _ h) ?_
              rotate_left
              · intro W hSW
                simp only [glA, glB, glC]
                (try dsimp only at hSW)
                go_simp
                with_reducible rfl
              (try simp only [glA, glB, glC, Act.put, glD, glE, glF])
              refine wpAnyJ_done (by kernel_rfl) ?_
              go_wp2_with fail
              go_ret3
              unfold MgPost
              rw [apX_bad (by rw [HN.out.2]; exact hlt) HC.out HE.out (r := 111) (by
                unfold edE
                rw [HN.out.1]
                dsimp only
                rw [if_neg (by rintro (h | ⟨h, -⟩) <;> omega), if_pos ⟨h3, fun h => hxy (HY.out.symm.trans h)⟩]) (by decide)]
              exact ⟨_, rfl, OwnS.nil _ _, Bd.out⟩
      -- END1
    · -- BEGIN2
      obtain rfl : m = k := by omega
      have hnl : ¬ (m : Int) < (m : Int) := by omega
      have HX : Hid (apX a es = if (apI a es (a.length + 1)).length ≤ 20 then (apI a es (a.length + 1), 0, 0) else ([], 0, 5)) := hide (by unfold apX; rw [HN.out.2, HC.out])
      have HI0 : Hid (OwnS (wr.alloc (.cells #[] 9)) w.heap.size (.slice (some ⟨wr.heap.size, 0, none⟩) 0 0) (apI a es 0)) := hide (show OwnS (wr.alloc (.cells #[] 9)) w.heap.size (.slice (some ⟨wr.heap.size, 0, none⟩) 0 0) [] from OwnS.low (OwnS.made0 wr) HBW.out.size)
      have HB1 : Hid (Below w.heap.size w (wr.alloc (.cells #[] 9))) := hide (HBW.out.trans (((Below.refl wr.heap.size wr).alloc (Nat.le_refl _) _).mono HBW.out.size))
      go_upto_region 10 with fail
      generalize (wr.alloc (.cells #[] 9)) = w1 at HI0 HB1 ⊢
      go_loopw [8, 9] (fun v x wr => ∃ (i : Nat) (vl : Value), i ≤ n + 1 ∧ x = .int .i64 i ∧ v = vl ∧ Hid (OwnS wr w.heap.size vl (apI a es i)) ∧ Hid (Below w.heap.size w wr)) (fun _ x _ => n + 1 - (intOf x).toNat)
      case atStart => exact ⟨0, _, Nat.zero_le _, rfl, rfl, HI0, HB1⟩
      case round =>
        obtain ⟨i, vl, hi, rfl, rfl, HO, HB2⟩ := hrel
        clear HI0 HB1
        obtain ⟨vA, vc, hv⟩ := own_shape HO.out
        subst hv
        have hlen := apI_len a es i
        rw [HN.out.2] at hlen
        have hlen2 : (apI a es i).length ≤ 32 * 10001 := Nat.le_trans hlen (Nat.mul_le_mul (by omega) (by omega))
        clear hlen
        by_cases hin : i ≤ n
        · -- BEGIN3
          have hin' : (i : Int) ≤ (n : Int) := by omega
          have hst : IntKind.i64.wrap ((i : Int) + 1) = (i : Int) + 1 := IntWalk.i64_in _ (by omega)
          have HST := hide hst
          clear hst
          obtain ⟨L, hL⟩ : ∃ L, apI a es i = L := ⟨_, rfl⟩
          have HL := hide hL
          rw [hL] at HO hlen2 ⊢
          clear hL
          go_upto_region 14 with fail
          go_loopw [8, 10, 11] (fun v fl x wq => ∃ (j : Nat) (vl : Value) (p : List Wd) (f : Bool), j ≤ m ∧ x = .int .i64 j ∧ v = vl ∧ fl = .bool f ∧ Hid (apJ es i L j = (p, f)) ∧ Hid (OwnS wq w.heap.size vl p) ∧ Hid (Below w.heap.size w wq)) (fun _ _ x _ => m - (intOf x).toNat)
          case atStart => exact ⟨0, _, L, false, Nat.zero_le _, rfl, rfl, rfl, hide rfl, HO, HB2⟩
          case round =>
            obtain ⟨j, vl, p, f, hj, rfl, rfl, rfl, HJ, HQ, HB3⟩ := hrel
            obtain ⟨qA, qc, hv⟩ := own_shape HQ.out
            subst hv
            have hpl := apJ_len es i L j
            rw [HJ.out] at hpl
            dsimp only at hpl
            by_cases hjm : j < m
            · -- BEGIN5
              have hjm' : (j : Int) < (m : Int) := by omega
              have j0 : (0 : Int) ≤ (j : Int) := by omega
              have hst : IntKind.i64.wrap ((j : Int) + 1) = (j : Int) + 1 := IntWalk.i64_in _ (by omega)
              obtain ⟨e, he'⟩ : ∃ e, es.getD j e0 = e := ⟨_, rfl⟩
              obtain ⟨xb, xo, rfl, hxb, a0, a1, a2, a3⟩ := HB.out.at_ (by rw [HN.out.2]; exact hjm) he'
              have HE := hide he'
              clear he'
              obtain ⟨x0, x1, x2, x3⟩ := e
              dsimp only at a0 a1 a2 a3
              have c0 := (HB3.out.cell (p := ⟨xb, xo + j * 4, none⟩) hxb).trans a0
              have c1 := (HB3.out.cell (p := ⟨xb, xo + j * 4 + 1, none⟩) hxb).trans a1
              have c3 := (HB3.out.cell (p := ⟨xb, xo + j * 4 + 3, none⟩) hxb).trans a3
              by_cases hx1 : x1 = (i : Int)
              · subst hx1
                by_cases h2 : x0 = 2
                · subst h2
                  rcases f with _ | _
                  · go_wp2_with fail
                    go_roundw
                    case rel => exact ⟨j + 1, _, p, true, by omega, by go_num, rfl, rfl, hide (by rw [apJ_yes HE.out rfl HJ.out]; simp), HQ, HB3⟩
                    case measure => simp [intOf]; omega
                  · go_wp2_with fail
                    go_roundw
                    case rel => exact ⟨j + 1, _, p, true, by omega, by go_num, rfl, rfl, hide (by rw [apJ_yes HE.out rfl HJ.out]; simp), HQ, HB3⟩
                    case measure => simp [intOf]; omega
                · obtain ⟨A2, c2, w2, hrun, ho, hbb⟩ := HQ.out.push x3 (by omega) HB3.out.size
                  have HQ2 := hide ho
                  have HB4 := hide (hbb w rfl HB3.out)
                  have HRUN := hide hrun
                  have c0' := (HB4.out.cell (p := ⟨xb, xo + j * 4, none⟩) hxb).trans a0
                  have c1' := (HB4.out.cell (p := ⟨xb, xo + j * 4 + 1, none⟩) hxb).trans a1
                  clear hrun ho hbb a0 a1 a2 a3
                  rcases f with _ | _
                  · by_cases h3 : x0 = 3
                    · subst h3
                      go_wp2_with (at_builtin; refine wpList_append_run rfl (.tmp 94) (.tmp 100) 22 rfl rfl rfl HRUN.out ?_)
                      go_roundw
                      case rel => exact ⟨j + 1, _, p ++ [x3], false, by omega, by go_num, rfl, rfl, hide (by rw [apJ_yes HE.out rfl HJ.out]; simp), HQ2, HB4⟩
                      case measure => simp [intOf]; omega
                    · have e3 : (x0 != 3) = true := by simp [h3]
                      go_wp2_with (at_builtin; refine wpList_append_run rfl (.tmp 94) (.tmp 100) 22 rfl rfl rfl HRUN.out ?_)
                      go_roundw
                      case rel => exact ⟨j + 1, _, p ++ [x3], true, by omega, by go_num, rfl, (by simp [e3]), hide (by rw [apJ_yes HE.out rfl HJ.out]; simp [h2, h3]), HQ2, HB4⟩
                      case measure => simp [intOf]; omega
                  · go_wp2_with (at_builtin; refine wpList_append_run rfl (.tmp 94) (.tmp 100) 22 rfl rfl rfl HRUN.out ?_)
                    go_roundw
                    case rel => exact ⟨j + 1, _, p ++ [x3], true, by omega, by go_num, rfl, rfl, hide (by rw [apJ_yes HE.out rfl HJ.out]; simp [h2]), HQ2, HB4⟩
                    case measure => simp [intOf]; omega
              · clear a0 a1 a2 a3
                go_wp2_with fail
                go_roundw
                case rel => exact ⟨j + 1, _, p, f, by omega, by go_num, rfl, rfl, hide (by rw [apJ_no HE.out hx1]; exact HJ.out), HQ, HB3⟩
                case measure => simp [intOf]; omega
              -- END5
            · -- BEGIN6
              obtain rfl : m = j := by omega
              have hnl : ¬ (m : Int) < (m : Int) := by omega
              have HAI := hide (apI_next (a := a) (es := es) (i := i) (p := p) (f := f) HN.out.2 (by rw [HL.out]; exact HJ.out))
              have hst := HST.out
              rcases f with _ | _
              · by_cases hlt : i < n
                · have hlt' : (i : Int) < (n : Int) := by omega
                  have i0 : (0 : Int) ≤ (i : Int) := by omega
                  obtain ⟨yb, yo, rfl, hyb, b0⟩ := HA.out.at_ (k := i) (by rw [HN.out.1]; omega)
                  obtain ⟨y, hy⟩ : ∃ y, a.getD i noW = y := ⟨_, rfl⟩
                  rw [hy] at b0
                  have HY := hide hy
                  have c0 := (HB3.out.cell (p := ⟨yb, yo + i, none⟩) hyb).trans b0
                  obtain ⟨A2, c2, w2, hrun, ho, hbb⟩ := HQ.out.push y (by omega) HB3.out.size
                  have HQ2 := hide ho
                  have HB4 := hide (hbb w rfl HB3.out)
                  have HRUN := hide hrun
                  clear hrun ho hbb b0 hy
                  go_wp2_with (at_builtin; refine wpList_append_run rfl (.tmp 119) (.tmp 124) 22 rfl rfl rfl HRUN.out ?_)
                  go_roundw
                  case rel => exact ⟨i + 1, _, by omega, by go_num, rfl, hide (by rw [HAI.out, if_pos ⟨rfl, by rw [HN.out.1]; exact hlt⟩, HY.out]; exact HQ2.out), HB4⟩
                  case measure => simp [intOf]; omega
                · have hlt' : ¬ (i : Int) < (n : Int) := by omega
                  go_wp2_with fail
                  go_roundw
                  case rel => exact ⟨i + 1, _, by omega, by go_num, rfl, hide (by rw [HAI.out, if_neg (by rw [HN.out.1]; omega), List.append_nil]; exact HQ.out), HB3⟩
                  case measure => simp [intOf]; omega
              · go_wp2_with fail
                go_roundw
                case rel => exact ⟨i + 1, _, by omega, by go_num, rfl, hide (by rw [HAI.out, if_neg (by simp), List.append_nil]; exact HQ.out), HB3⟩
                case measure => simp [intOf]; omega
              -- END6
          -- END3
        · -- BEGIN4
          obtain rfl : i = n + 1 := by omega
          have hin' : ¬ (((n + 1 : Nat) : Int)) ≤ (n : Int) := by omega
          have HX2 := HX.out
          rw [HN.out.1] at HX2
          obtain ⟨L, hL⟩ : ∃ L, apI a es (n + 1) = L := ⟨_, rfl⟩
          rw [hL] at HO HX2 ⊢
          obtain ⟨N, hNn⟩ : ∃ N, n + 1 = N := ⟨_, rfl⟩
          rw [hNn] at hin' ⊢
          by_cases hl : L.length ≤ 20
          · have hl' : ¬ (20 : Int) < (L.length : Int) := by omega
            rw [if_pos hl] at HX2
            have HX3 := hide HX2
            clear HX2 hL hlen2
            go_wp2_with fail
            go_ret3
            unfold MgPost
            rw [HX3.out]
            exact ⟨_, rfl, HO.out, HB2.out⟩
          · have hl' : (20 : Int) < (L.length : Int) := by omega
            rw [if_neg hl] at HX2
            have HX3 := hide HX2
            clear HX2 hL hlen2
            go_wp2_with fail
            go_ret3
            unfold MgPost
            rw [HX3.out]
            exact ⟨_, rfl, OwnS.nil _ _, HB2.out⟩
          -- END4
      -- END2
end Go.Proofs.YtmpegkojencbjaaDoor
/- School, plain: what the reference's Apply makes of joined edits is what Merge makes. -/
namespace Go.Proofs.YtmpegkojencbjaaDoor
open Go Go.RowKit Go.Shelf
set_option maxHeartbeats 2000000
set_option maxRecDepth 100000
/-- the edits joined, list after list -/
def flQ (la lb : List Ed) : Nat → List Ed
  | 0 => []
  | q + 1 => flQ la lb q ++ jnL (plL la q) (plL lb q)
theorem atL_pl {l : List Ed} (h : ∀ e ∈ l, 0 ≤ e.at_) (i : Nat) : atL l i true = plL l (i * 2) ∧ atL l i false = plL l (i * 2 + 1) := by
  unfold atL plL
  refine ⟨List.filter_congr fun e he => ?_, List.filter_congr fun e he => ?_⟩
  all_goals
    have h0 := h e he
    unfold atB plq
    by_cases h3 : e.ki = 3
    · rw [if_pos h3]
      by_cases h1 : e.at_ = (i : Int)
      · simp [h3, h1]; try omega
      · simp [h3, h1]; omega
    · rw [if_neg h3]
      by_cases h1 : e.at_ = (i : Int)
      · simp [h3, h1]; try omega
      · simp [h3, h1]; omega
theorem flQ_two (la lb : List Ed) (i : Nat) : flQ la lb ((i + 1) * 2) = flQ la lb (i * 2) ++ mgE la lb i := by
  have e1 : (i + 1) * 2 = i * 2 + 1 + 1 := by omega
  rw [e1]
  unfold mgE
  rw [← List.append_assoc]
  rfl
theorem flQ_len (la lb : List Ed) {n : Nat} (hl : la.length ≤ n) (hm : lb.length ≤ n) : ∀ q, (flQ la lb q).length ≤ q * n
  | 0 => Nat.zero_le _
  | q + 1 => by
    have h1 := flQ_len la lb hl hm q
    have h2 := jnL_len (plL la q) (plL lb q) (n := n) (by have := plL_len la q; omega) (by have := plL_len lb q; omega)
    have h3 : (q + 1) * n = q * n + n := Nat.succ_mul _ _
    show (flQ la lb q ++ jnL (plL la q) (plL lb q)).length ≤ _
    rw [List.length_append, h3]
    omega
theorem mgC_none {la lb : List Ed} : ∀ {i : Nat}, (∀ q, q < i * 2 → jnB (plL la q) (plL lb q) = true) → mgC la lb i = none
  | 0, _ => rfl
  | i + 1, h => by
    rw [mgC_succ la lb i (mgC_none fun q hq => h q (by omega)), if_pos]
    unfold mgOk
    rw [h (i * 2) (by omega), h (i * 2 + 1) (by omega)]
    rfl
theorem mgC_at {la lb : List Ed} {i q n : Nat} (h : ∀ q, q < i * 2 → jnB (plL la q) (plL lb q) = true) (hq : q = i * 2 ∨ q = i * 2 + 1) (hb : jnB (plL la q) (plL lb q) = false) (hn : i < n) : mgC la lb n = some i := by
  refine mgC_some la lb (i + 1) n hn ?_
  rw [mgC_succ la lb i (mgC_none h), if_neg]
  unfold mgOk
  rcases hq with rfl | rfl
  · rw [hb]; simp
  · rw [hb]; simp
/-- the new words of edits -/
def nwL (es : List Ed) : List Wd := es.flatMap fun e => if e.ki = 2 then [] else [e.new]
theorem nwL_append (l m : List Ed) : nwL (l ++ m) = nwL l ++ nwL m := by unfold nwL; rw [List.flatMap_append]
def atP (i : Nat) (e : Ed) : Bool := decide (e.at_ = (i : Int))
theorem apJ_eq (es : List Ed) (i : Nat) (l : List Wd) : ∀ j, j ≤ es.length → apJ es i l j = (l ++ nwL ((es.take j).filter (atP i)), ((es.take j).filter (atP i)).any fun e => decide (e.ki ≠ 3))
  | 0, _ => by
    rw [List.take_zero]
    show (l, false) = (l ++ [], false)
    rw [List.append_nil]
  | j + 1, hj => by
    have ih := apJ_eq es i l j (by omega)
    obtain ⟨e, he⟩ : ∃ e, es.getD j e0 = e := ⟨_, rfl⟩
    have h1 : es.take (j + 1) = es.take j ++ [e] := by
      rw [List.take_succ_eq_append_getElem (by omega)]
      rw [List.getD_eq_getElem?_getD, List.getElem?_eq_getElem (by omega)] at he
      rw [← he]; rfl
    rw [h1, List.filter_append]
    by_cases h : e.at_ = (i : Int)
    · rw [apJ_yes he h ih, List.filter_cons_of_pos (by unfold atP; exact decide_eq_true h), List.filter_nil, nwL_append, List.any_append, List.append_assoc]
      have e1 : nwL [e] = if e.ki = 2 then [] else [e.new] := by
        show (if e.ki = 2 then [] else [e.new]) ++ [] = _
        rw [List.append_nil]
      rw [e1]
      simp
    · rw [apJ_no he h, ih, List.filter_cons_of_neg (by unfold atP; simpa using h), List.filter_nil, List.append_nil]
theorem apI_eq (a : List Wd) (es : List Ed) (i : Nat) : apI a es (i + 1) = (apI a es i ++ nwL (es.filter (atP i))) ++ if ((es.filter (atP i)).any fun e => decide (e.ki ≠ 3)) = false ∧ i < a.length then [a.getD i noW] else [] := by
  have h := apJ_eq es i (apI a es i) es.length (Nat.le_refl _)
  rw [List.take_length] at h
  rw [apI_next rfl h]
section
variable {a : List Wd} {la lb : List Ed} (ha : ∀ e ∈ la, EdFit a 0 e) (hb : ∀ e ∈ lb, EdFit a 0 e)
include ha hb
theorem flQ_ok : ∀ (q : Nat) (e : Ed), e ∈ flQ la lb q → EdOk a e
  | 0, e, h => absurd h (by simp [flQ])
  | q + 1, e, h => by
    rcases List.mem_append.1 (show e ∈ flQ la lb q ++ jnL (plL la q) (plL lb q) from h) with h | h
    · exact flQ_ok q e h
    · exact (jn_mem ha hb h).1
theorem flQ_at (i : Nat) : ∀ n, (flQ la lb (n * 2)).filter (atP i) = if i < n then mgE la lb i else []
  | 0 => by rw [if_neg (by omega)]; rfl
  | n + 1 => by
    rw [flQ_two, List.filter_append, flQ_at i n]
    have key : ∀ e ∈ mgE la lb n, atP i e = decide (i = n) := fun e he => by
      obtain ⟨h1, h2⟩ := mgE_ok ha hb he
      have := h1.lo
      unfold atP
      rw [decide_eq_decide]
      omega
    by_cases h : i = n
    · subst h
      rw [if_neg (by omega), if_pos (by omega), List.nil_append]
      exact List.filter_eq_self.2 fun e he => by rw [key e he]; simp
    · have h1 : (mgE la lb n).filter (atP i) = [] := List.filter_eq_nil_iff.2 fun e he => by rw [key e he]; simp [h]
      rw [h1, List.append_nil]
      by_cases h2 : i < n
      · rw [if_pos h2, if_pos (by omega)]
      · rw [if_neg h2, if_neg (by omega)]
end
theorem takeL_self (a : List Wd) (k : Nat) (l : List Wd) : takeL a k k l = l := by
  unfold takeL
  rw [Nat.sub_self, List.take_zero, List.append_nil]
theorem takeL_next (a : List Wd) (i k : Nat) (l : List Wd) (hi : i ≤ k) (hk : k < a.length) : takeL a i (k + 1) l = takeL a i k l ++ [a.getD k noW] := by
  unfold takeL
  have h1 : k + 1 - i = k - i + 1 := by omega
  have h2 : k - i < (a.drop i).length := by rw [List.length_drop]; omega
  rw [h1, List.take_succ_eq_append_getElem h2, List.append_assoc, List.getElem_drop, List.getD_eq_getElem?_getD, List.getElem?_eq_getElem hk]
  have h3 : i + (k - i) = k := by omega
  simp only [h3, Option.getD_some]
/-- words put ahead of word k -/
theorem adds_eq (a : List Wd) (k : Nat) : ∀ (es : List Ed) (s : Nat × List Wd), (∀ e ∈ es, e.ki = 3 ∧ e.at_.toNat = k) → takeL a (edsF a s es).1 k (edsF a s es).2 = takeL a s.1 k s.2 ++ nwL es
  | [], s, _ => by
    show takeL a s.1 k s.2 = _ ++ []
    rw [List.append_nil]
  | e :: es, s, h => by
    obtain ⟨h1, h2⟩ := h e List.mem_cons_self
    have ih := adds_eq a k es (edI s.1 e, edL a s.1 e s.2) (fun e he => h e (List.mem_cons_of_mem _ he))
    refine ih.trans ?_
    dsimp only
    have e1 : edI s.1 e = k := by unfold edI; rw [if_pos h1, h2]
    have e2 : nwL (e :: es) = [e.new] ++ nwL es := by
      show (if e.ki = 2 then [] else [e.new]) ++ nwL es = _
      rw [if_neg (by omega)]
    rw [e1, takeL_self, e2]
    unfold edL
    rw [h2, if_neg (by omega), List.append_assoc]
theorem place_eq {a : List Wd} {la lb : List Ed} (ha : ∀ e ∈ la, EdFit a 0 e) (hb : ∀ e ∈ lb, EdFit a 0 e) (h1 : ∀ q, (plL la (q * 2 + 1)).length ≤ 1) (h2 : ∀ q, (plL lb (q * 2 + 1)).length ≤ 1) (k : Nat) (s : Nat × List Wd) (hs : s.1 ≤ k) (hk : k ≤ a.length) :
    takeL a (edsF a s (mgE la lb k)).1 (min (k + 1) a.length) (edsF a s (mgE la lb k)).2 = (takeL a s.1 k s.2 ++ nwL (mgE la lb k)) ++ if ((mgE la lb k).any fun e => decide (e.ki ≠ 3)) = false ∧ k < a.length then [a.getD k noW] else [] := by
  have hok := fun e (he : e ∈ mgE la lb k) => mgE_ok ha hb he
  unfold mgE at hok ⊢
  obtain ⟨es, hes⟩ : ∃ es, jnL (plL la (k * 2)) (plL lb (k * 2)) = es := ⟨_, rfl⟩
  obtain ⟨fs, hfs⟩ : ∃ fs, jnL (plL la (k * 2 + 1)) (plL lb (k * 2 + 1)) = fs := ⟨_, rfl⟩
  have hE : ∀ e ∈ es, e.ki = 3 ∧ e.at_.toNat = k := fun e he => by
    rw [← hes] at he
    have h3 := jn_mem ha hb he
    exact plq_even h3.1 h3.2
  have hF : ∀ e ∈ fs, e.ki ≠ 3 ∧ e.at_.toNat = k := fun e he => by
    rw [← hfs] at he
    have h3 := jn_mem ha hb he
    exact plq_odd h3.1 h3.2
  have hF1 : fs.length ≤ 1 := by
    rw [← hfs]
    unfold jnL; split
    · exact h2 k
    · exact h1 k
  rw [hes, hfs] at hok ⊢
  rw [edsF_append, nwL_append, List.any_append]
  obtain ⟨s', hs'⟩ : ∃ s', edsF a s es = s' := ⟨_, rfl⟩
  have hp := adds_place (a := a) k es s hE hs
  have ht := adds_eq a k es s hE
  rw [hs'] at hp ht ⊢
  have hany : (es.any fun e => decide (e.ki ≠ 3)) = false := by
    rw [List.any_eq_false]
    intro e he
    simp [(hE e he).1]
  rw [hany, Bool.false_or, ← List.append_assoc, ← ht]
  rcases fs with _ | ⟨f, fs⟩
  · have e1 : edsF a s' [] = s' := rfl
    have e2 : nwL [] = [] := rfl
    rw [e1, e2, List.any_nil, List.append_nil]
    by_cases hlt : k < a.length
    · rw [if_pos ⟨rfl, hlt⟩, Nat.min_eq_left (by omega), takeL_next a s'.1 k s'.2 hp hlt]
    · rw [if_neg (fun h => hlt h.2), Nat.min_eq_right (by omega), List.append_nil]
      rw [show a.length = k by omega]
  · obtain rfl : fs = [] := by
      rw [List.length_cons] at hF1
      exact List.length_eq_zero_iff.1 (by omega)
    obtain ⟨h3, h4⟩ := hF f List.mem_cons_self
    have hlt : k < a.length := by
      have h5 := (hok f (by simp)).1
      rcases h5.ki with h6 | ⟨-, h6, -⟩
      · exact absurd h6 h3
      · have := h5.lo; omega
    rw [Nat.min_eq_left (by omega), if_neg (by simp [h3]), List.append_nil]
    show takeL a (edI s'.1 f) (k + 1) (edL a s'.1 f s'.2) = takeL a s'.1 k s'.2 ++ ((if f.ki = 2 then [] else [f.new]) ++ [])
    have e1 : edI s'.1 f = k + 1 := by unfold edI; rw [if_neg h3, h4]
    rw [e1, takeL_self, List.append_nil]
    unfold edL
    rw [h4]
theorem apI_mg {a : List Wd} {la lb : List Ed} (ha : ∀ e ∈ la, EdFit a 0 e) (hb : ∀ e ∈ lb, EdFit a 0 e) (h1 : ∀ q, (plL la (q * 2 + 1)).length ≤ 1) (h2 : ∀ q, (plL lb (q * 2 + 1)).length ≤ 1) :
    ∀ k, k ≤ a.length + 1 → apI a (flQ la lb ((a.length + 1) * 2)) k = takeL a (mgF a la lb k).1 (min k a.length) (mgF a la lb k).2
  | 0, _ => by
    rw [Nat.zero_min]
    show [] = takeL a 0 0 []
    rw [takeL_self]
  | k + 1, hk => by
    have ih := apI_mg ha hb h1 h2 k (by omega)
    rw [Nat.min_eq_left (by omega)] at ih
    rw [apI_eq, flQ_at ha hb k, if_pos (by omega), ih]
    exact (place_eq ha hb h1 h2 k _ (mgF_place ha hb h1 h2 k) (by omega)).symm
theorem edE_ok {a : List Wd} {e : Ed} (h : EdOk a e) : edE a e = 0 := by
  have h0 := h.lo
  have h1 := h.hi
  unfold edE
  rcases h.ki with h3 | ⟨h3, h4, h5⟩
  · rw [if_neg (by rintro (h | ⟨-, h⟩) <;> omega), if_neg (fun h => h.1 h3)]
  · rw [if_neg (by rintro (h | ⟨h, -⟩) <;> omega), if_neg (fun h => h.2 h5)]
theorem apC_none {a : List Wd} {es : List Ed} (h : ∀ e ∈ es, edE a e = 0) : ∀ n, n ≤ es.length → apC a es n = none
  | 0, _ => rfl
  | n + 1, hn => by
    rw [apC_succ a es n (apC_none h n (by omega)), if_pos]
    refine h _ ?_
    rw [List.getD_eq_getElem?_getD, List.getElem?_eq_getElem (by omega)]
    exact List.getElem_mem _
/-- what Apply makes of all joined edits is what Merge makes -/
theorem apX_mg (a : List Wd) (b e : List Wd) (hc : mgC (alL a 0 b) (alL a 0 e) (a.length + 1) = none) :
    apX a (flQ (alL a 0 b) (alL a 0 e) ((a.length + 1) * 2)) = mgX a (alL a 0 b) (alL a 0 e) := by
  have ha := alL_fit a 0 b
  have hb := alL_fit a 0 e
  have h1 := alL_one a 0 b
  have h2 := alL_one a 0 e
  have hn := apC_none (a := a) (es := flQ (alL a 0 b) (alL a 0 e) ((a.length + 1) * 2)) (fun x hx => edE_ok (flQ_ok ha hb _ x hx)) _ (Nat.le_refl _)
  unfold apX mgX
  rw [hn, hc]
  dsimp only
  rw [apI_mg ha hb h1 h2 (a.length + 1) (Nat.le_refl _), Nat.min_eq_right (by omega)]
end Go.Proofs.YtmpegkojencbjaaDoor
/- School, plain: the edits that make b of a, carried out, give b. -/
namespace Go.Proofs.YtmpegkojencbjaaDoor
open Go Go.RowKit Go.Shelf
set_option maxHeartbeats 2000000
set_option maxRecDepth 100000
/-- what edits make of the words from word i on -/
def resF (es : List Ed) : List Wd → Nat → List Wd
  | [], i => nwL (es.filter (atP i))
  | x :: o, i => (nwL (es.filter (atP i)) ++ if ((es.filter (atP i)).any fun e => decide (e.ki ≠ 3)) = false then [x] else []) ++ resF es o (i + 1)
theorem atP_no {i : Nat} {e : Ed} (h : e.at_ ≠ (i : Int)) : ¬ atP i e = true := by unfold atP; simpa using h
theorem atP_yes {i : Nat} {e : Ed} (h : e.at_ = (i : Int)) : atP i e = true := by unfold atP; simpa using h
theorem resF_skip {e : Ed} (es : List Ed) : ∀ (o : List Wd) (i : Nat), e.at_ < (i : Int) → resF (e :: es) o i = resF es o i
  | [], i, h => by
    unfold resF
    rw [List.filter_cons_of_neg (atP_no (by omega))]
  | x :: o, i, h => by
    unfold resF
    rw [List.filter_cons_of_neg (atP_no (by omega)), resF_skip es o (i + 1) (by omega)]
theorem none_at {a b : List Wd} (i : Nat) : (alL a (i + 1) b).filter (atP i) = [] :=
  List.filter_eq_nil_iff.2 fun e he => atP_no (by have := (alL_fit a (i + 1) b e he).1; omega)
theorem resF_cons (es : List Ed) (x : Wd) (o : List Wd) (i : Nat) : resF es (x :: o) i = (nwL (es.filter (atP i)) ++ if ((es.filter (atP i)).any fun e => decide (e.ki ≠ 3)) = false then [x] else []) ++ resF es o (i + 1) := rfl
/-- a word's own edit at i, and the rest behind it -/
theorem resF_word {a b : List Wd} (x : Wd) (i : Nat) (k : Int) (hk : k ≠ 3) (old new : Wd) : resF (⟨k, i, old, new⟩ :: alL a (i + 1) b) (x :: a) i = (if k = 2 then [] else [new]) ++ resF (alL a (i + 1) b) a (i + 1) := by
  rw [resF_cons, List.filter_cons_of_pos (atP_yes rfl), none_at, resF_skip _ _ _ (by show (i : Int) < ((i + 1 : Nat) : Int); omega)]
  have e1 : nwL [(⟨k, i, old, new⟩ : Ed)] = if k = 2 then [] else [new] := by
    show (if k = 2 then [] else [new]) ++ [] = _
    rw [List.append_nil]
  have e2 : ([(⟨k, i, old, new⟩ : Ed)].any fun e => decide (e.ki ≠ 3)) = true := by simp [hk]
  rw [e1, e2, if_neg (show ¬ true = false by decide), List.append_nil]
theorem alL_res : ∀ (a : List Wd) (i : Nat) (b : List Wd), resF (alL a i b) a i = b
  | [], i, b => by
    show nwL ((alL [] i b).filter (atP i)) = b
    rw [alL_nil]
    induction b with
    | nil => rfl
    | cons y b ih =>
      rw [List.map_cons, List.filter_cons_of_pos (atP_yes rfl)]
      show [y] ++ nwL _ = _
      rw [ih]; rfl
  | x :: a, i, [] => by
    rw [alL_end, resF_word x i 2 (by decide), if_pos rfl, List.nil_append]
    exact alL_res a (i + 1) []
  | x :: a, i, y :: b => by
    rw [alL_cons]
    by_cases e0 : x = y
    · rw [if_pos e0, resF_cons, none_at, alL_res a (i + 1) b, e0]
      rfl
    · rw [if_neg e0]
      by_cases e1 : dsL (x :: a) (y :: b) = 1 + dsL a b
      · rw [if_pos e1, resF_word x i 1 (by decide), if_neg (by decide), alL_res a (i + 1) b]
        rfl
      · rw [if_neg e1]
        by_cases e2 : dsL (x :: a) (y :: b) = 1 + dsL a (y :: b)
        · rw [if_pos e2, resF_word x i 2 (by decide), if_pos rfl, alL_res a (i + 1) (y :: b)]
          rfl
        · rw [if_neg e2]
          have ih := alL_res (x :: a) i b
          rw [resF_cons] at ih
          rw [resF_cons, List.filter_cons_of_pos (atP_yes rfl), resF_skip _ _ _ (by show (i : Int) < ((i + 1 : Nat) : Int); omega)]
          have e3 : ∀ l : List Ed, nwL ((⟨3, i, noW, y⟩ : Ed) :: l) = y :: nwL l := fun l => rfl
          have e4 : ∀ l : List Ed, ((((⟨3, i, noW, y⟩ : Ed) :: l).any fun e => decide (e.ki ≠ 3))) = l.any fun e => decide (e.ki ≠ 3) := fun l => by simp
          rw [e3, e4, List.cons_append, List.cons_append, ih]
theorem apI_res (a : List Wd) (es : List Ed) : ∀ i, i ≤ a.length → apI a es i ++ resF es (a.drop i) i = resF es a 0
  | 0, _ => rfl
  | i + 1, h => by
    have ih := apI_res a es i (by omega)
    rw [← ih, apI_eq, drop_cons (l := a) (k := i) (by omega), resF_cons]
    by_cases hb : ((es.filter (atP i)).any fun e => decide (e.ki ≠ 3)) = false
    · rw [if_pos ⟨hb, by omega⟩, if_pos hb]; simp only [List.append_assoc]
    · rw [if_neg (fun h => hb h.1), if_neg hb]; simp only [List.append_assoc]
theorem apI_all (a : List Wd) (es : List Ed) : apI a es (a.length + 1) = resF es a 0 := by
  have h := apI_res a es a.length (Nat.le_refl _)
  rw [List.drop_length] at h
  rw [← h, apI_eq, if_neg (fun h => by omega), List.append_nil]
  rfl
end Go.Proofs.YtmpegkojencbjaaDoor
/- School, plain: one text's edits joined with none, or with themselves. -/
namespace Go.Proofs.YtmpegkojencbjaaDoor
open Go Go.RowKit Go.Shelf
set_option maxHeartbeats 2000000
set_option maxRecDepth 100000
/-- adds stand ahead of the word's own edit -/
theorem add_first {es : List Ed} {e : Ed} {q : Nat} (h0 : 0 ≤ e.at_) (hk : e.ki = 3) (ih : es.filter (atP q) = plL es (q * 2) ++ plL es (q * 2 + 1)) : (e :: es).filter (atP q) = plL (e :: es) (q * 2) ++ plL (e :: es) (q * 2 + 1) := by
  rw [plL_cons, plL_cons]
  have h2 : plq e = e.at_.toNat * 2 := by unfold plq; rw [if_pos hk]; rfl
  rw [h2, if_neg (show ¬ e.at_.toNat * 2 = q * 2 + 1 by omega)]
  by_cases hq : e.at_ = (q : Int)
  · rw [List.filter_cons_of_pos (atP_yes hq), if_pos (by omega), ih]; rfl
  · rw [List.filter_cons_of_neg (atP_no hq), if_neg (by omega), ih]
theorem word_first {a b : List Wd} {e : Ed} {i q : Nat} (h0 : e.at_ = (i : Int)) (hk : e.ki ≠ 3) (ih : (alL a (i + 1) b).filter (atP q) = plL (alL a (i + 1) b) (q * 2) ++ plL (alL a (i + 1) b) (q * 2 + 1)) : (e :: alL a (i + 1) b).filter (atP q) = plL (e :: alL a (i + 1) b) (q * 2) ++ plL (e :: alL a (i + 1) b) (q * 2 + 1) := by
  rw [plL_cons, plL_cons]
  have h2 : plq e = i * 2 + 1 := by unfold plq; rw [if_neg hk, h0]; omega
  rw [h2, if_neg (show ¬ i * 2 + 1 = q * 2 by omega)]
  by_cases hq : i = q
  · subst hq
    rw [List.filter_cons_of_pos (atP_yes h0), if_pos rfl]
    have h3 := none_at (a := a) (b := b) i
    rw [h3] at ih ⊢
    have h4 := List.append_eq_nil_iff.1 ih.symm
    rw [h4.1, h4.2]; rfl
  · rw [List.filter_cons_of_neg (atP_no (by omega)), if_neg (by omega), ih]
theorem alL_parts : ∀ (a : List Wd) (i : Nat) (b : List Wd) (q : Nat), (alL a i b).filter (atP q) = plL (alL a i b) (q * 2) ++ plL (alL a i b) (q * 2 + 1)
  | [], i, b, q => by
    rw [alL_nil]
    induction b with
    | nil => rfl
    | cons y b ih =>
      rw [List.map_cons]
      exact add_first (by show (0 : Int) ≤ (i : Int); omega) rfl ih
  | x :: a, i, [], q => by
    rw [alL_end]
    exact word_first rfl (by show (2 : Int) ≠ 3; decide) (alL_parts a (i + 1) [] q)
  | x :: a, i, y :: b, q => by
    rw [alL_cons]
    by_cases e0 : x = y
    · rw [if_pos e0]; exact alL_parts a (i + 1) b q
    · rw [if_neg e0]
      by_cases e1 : dsL (x :: a) (y :: b) = 1 + dsL a b
      · rw [if_pos e1]; exact word_first rfl (by show (1 : Int) ≠ 3; decide) (alL_parts a (i + 1) b q)
      · rw [if_neg e1]
        by_cases e2 : dsL (x :: a) (y :: b) = 1 + dsL a (y :: b)
        · rw [if_pos e2]; exact word_first rfl (by show (2 : Int) ≠ 3; decide) (alL_parts a (i + 1) (y :: b) q)
        · rw [if_neg e2]
          exact add_first (by show (0 : Int) ≤ (i : Int); omega) rfl (alL_parts (x :: a) i b q)
theorem resF_congr {es fs : List Ed} : ∀ (o : List Wd) (i : Nat), (∀ q, q ≤ i + o.length → es.filter (atP q) = fs.filter (atP q)) → resF es o i = resF fs o i
  | [], i, h => by
    unfold resF
    rw [h i (by simp)]
  | x :: o, i, h => by
    unfold resF
    rw [h i (by omega), resF_congr o (i + 1) (fun q hq => h q (by simp only [List.length_cons]; omega))]
theorem jnL_self (l : List Ed) : jnL l l = l := by unfold jnL; split <;> rfl
theorem jnL_nil (l : List Ed) : jnL l [] = l := by
  unfold jnL; split
  · rename_i h; exact (List.length_eq_zero_iff.1 h).symm
  · rfl
theorem jnB_self (l : List Ed) : jnB l l = true := by unfold jnB; simp
theorem jnB_nil (l : List Ed) : jnB l [] = true := by unfold jnB; simp
theorem alL_self : ∀ (a : List Wd) (i : Nat), alL a i a = []
  | [], i => rfl
  | x :: a, i => by rw [alL_cons, if_pos rfl]; exact alL_self a (i + 1)
/-- joined with themselves, or with none, the edits that make b give b -/
theorem mgX_one (o b : List Wd) (lb : List Ed) (h : lb = alL o 0 b ∨ lb = []) (hb : b.length ≤ 20) : mgX o (alL o 0 b) lb = (b, 0, 0) := by
  have hj : ∀ q, jnB (plL (alL o 0 b) q) (plL lb q) = true ∧ jnL (plL (alL o 0 b) q) (plL lb q) = plL (alL o 0 b) q := fun q => by
    rcases h with rfl | rfl
    · exact ⟨jnB_self _, jnL_self _⟩
    · exact ⟨jnB_nil _, jnL_nil _⟩
  have hf : ∀ e ∈ lb, EdFit o 0 e := by
    rcases h with rfl | rfl
    · exact alL_fit o 0 b
    · intro e he; cases he
  have h2 : ∀ q, (plL lb (q * 2 + 1)).length ≤ 1 := by
    rcases h with rfl | rfl
    · exact alL_one o 0 b
    · intro q; exact Nat.zero_le _
  have hE : ∀ q, mgE (alL o 0 b) lb q = (alL o 0 b).filter (atP q) := fun q => by
    unfold mgE
    rw [(hj _).2, (hj _).2, alL_parts o 0 b q]
  have hm := apI_mg (alL_fit o 0 b) hf (alL_one o 0 b) h2 (o.length + 1) (Nat.le_refl _)
  rw [Nat.min_eq_right (by omega), apI_all, resF_congr (fs := alL o 0 b) o 0 (fun q hq => by rw [flQ_at (alL_fit o 0 b) hf q, if_pos (by omega), hE]), alL_res] at hm
  exact mgX_ok (mgC_none fun q _ => (hj q).1) rfl hm.symm hb
theorem mgR_own (o b : List Wd) (ho : textB o = true) (hb : textB b = true) : mgR o b o = (b, 0, 0) ∧ mgR o b b = (b, 0, 0) := by
  unfold mgR
  rw [ho, hb]
  exact ⟨mgX_one o b _ (.inr (alL_self o 0)) (textB_len hb), mgX_one o b _ (.inl rfl) (textB_len hb)⟩
end Go.Proofs.YtmpegkojencbjaaDoor
/- School, plain: Merge is the same in both orders. -/
namespace Go.Proofs.YtmpegkojencbjaaDoor
open Go Go.RowKit Go.Shelf
set_option maxHeartbeats 2000000
set_option maxRecDepth 100000
theorem jnB_comm (l m : List Ed) : jnB l m = jnB m l := by
  unfold jnB
  rw [show decide (l = m) = decide (m = l) from decide_eq_decide.2 ⟨Eq.symm, Eq.symm⟩]
  cases decide (l.length = 0) <;> cases decide (m.length = 0) <;> rfl
theorem jnL_comm {l m : List Ed} (h : jnB l m = true) : jnL l m = jnL m l := by
  unfold jnB at h
  unfold jnL
  by_cases h1 : l.length = 0
  · rw [if_pos h1]
    by_cases h2 : m.length = 0
    · rw [if_pos h2, List.length_eq_zero_iff.1 h1, List.length_eq_zero_iff.1 h2]
    · rw [if_neg h2]
  · rw [if_neg h1]
    by_cases h2 : m.length = 0
    · rw [if_pos h2]
    · rw [if_neg h2]
      rw [decide_eq_false h1, decide_eq_false h2] at h
      exact of_decide_eq_true h
theorem mgOk_comm (la lb : List Ed) (k : Nat) : mgOk la lb k = mgOk lb la k := by
  unfold mgOk; rw [jnB_comm, jnB_comm (plL la (k * 2 + 1))]
theorem mgC_comm (la lb : List Ed) : ∀ n, mgC la lb n = mgC lb la n
  | 0 => rfl
  | n + 1 => by
    show (match mgC la lb n with | some k => some k | none => if mgOk la lb n then none else some n) = (match mgC lb la n with | some k => some k | none => if mgOk lb la n then none else some n)
    rw [mgC_comm la lb n, mgOk_comm]
theorem mgC_ok {la lb : List Ed} {k : Nat} : ∀ n, mgC la lb n = none → k < n → mgOk la lb k = true
  | 0, _, h => absurd h (by omega)
  | n + 1, hc, h => by
    cases h1 : mgC la lb n with
    | some j => rw [mgC_some la lb n (n + 1) (by omega) h1] at hc; cases hc
    | none =>
      rcases (by omega : k < n ∨ k = n) with h2 | rfl
      · exact mgC_ok n h1 h2
      · rw [mgC_succ la lb k h1] at hc
        cases h3 : mgOk la lb k with
        | true => rfl
        | false => rw [h3] at hc; cases hc
theorem mgE_comm {la lb : List Ed} {k : Nat} (h : mgOk la lb k = true) : mgE la lb k = mgE lb la k := by
  unfold mgOk at h
  rw [Bool.and_eq_true] at h
  unfold mgE
  rw [jnL_comm h.1, jnL_comm h.2]
theorem mgF_comm (a : List Wd) {la lb : List Ed} {n : Nat} (h : mgC la lb n = none) : ∀ k, k ≤ n → mgF a la lb k = mgF a lb la k
  | 0, _ => rfl
  | k + 1, hk => by
    show edsF a (mgF a la lb k) (mgE la lb k) = edsF a (mgF a lb la k) (mgE lb la k)
    rw [mgF_comm a h k (by omega), mgE_comm (mgC_ok n h (by omega))]
theorem mgX_comm (o : List Wd) (la lb : List Ed) : mgX o la lb = mgX o lb la := by
  unfold mgX
  rw [mgC_comm lb la]
  cases h : mgC la lb (o.length + 1) with
  | some k => rfl
  | none => dsimp only; rw [mgF_comm o h (o.length + 1) (Nat.le_refl _)]
theorem mgR_comm (o a b : List Wd) : mgR o a b = mgR o b a := by
  unfold mgR
  rw [mgX_comm]
  cases textB o <;> cases textB a <;> cases textB b <;> rfl
end Go.Proofs.YtmpegkojencbjaaDoor
/- School, plain: what Merge's answer holds: codes, places, words. -/
namespace Go.Proofs.YtmpegkojencbjaaDoor
open Go Go.RowKit Go.Shelf
set_option maxHeartbeats 2000000
set_option maxRecDepth 100000
theorem mgC_lt {la lb : List Ed} {k : Nat} : ∀ n, mgC la lb n = some k → k < n
  | 0, h => by cases h
  | n + 1, h => by
    cases h1 : mgC la lb n with
    | some j =>
      rw [mgC_some la lb n (n + 1) (by omega) h1] at h
      injection h with h
      subst h
      have := mgC_lt n h1
      omega
    | none =>
      rw [mgC_succ la lb n h1] at h
      split at h
      · cases h
      · injection h with h; omega
/-- codes and places -/
theorem mgR_code (o a b : List Wd) : (mgR o a b = ([], 0, 2) ∧ (textB o && textB a && textB b) = false) ∨
    ((textB o && textB a && textB b) = true ∧ ((mgR o a b).2.2 = 0 ∨ (mgR o a b).2.2 = 110 ∨ (mgR o a b).2.2 = 5) ∧ 0 ≤ (mgR o a b).2.1 ∧ (mgR o a b).2.1 ≤ o.length) := by
  unfold mgR
  cases h : textB o && textB a && textB b with
  | false => left; exact ⟨rfl, rfl⟩
  | true =>
    right
    refine ⟨rfl, ?_⟩
    rw [if_pos rfl]
    unfold mgX
    cases hc : mgC (alL o 0 a) (alL o 0 b) (o.length + 1) with
    | some k =>
      have := mgC_lt _ hc
      exact ⟨.inr (.inl rfl), by show (0 : Int) ≤ (k : Int); omega, by show (k : Int) ≤ _; omega⟩
    | none =>
      dsimp only
      split
      · exact ⟨.inl rfl, Int.le_refl _, by show (0 : Int) ≤ _; omega⟩
      · exact ⟨.inr (.inr rfl), Int.le_refl _, by show (0 : Int) ≤ _; omega⟩
theorem nwL_mem {es : List Ed} {x : Wd} (h : x ∈ nwL es) : ∃ e ∈ es, e.ki ≠ 2 ∧ e.new = x := by
  obtain ⟨e, he, hx⟩ := List.mem_flatMap.1 h
  by_cases h2 : e.ki = 2
  · rw [if_pos h2] at hx; cases hx
  · rw [if_neg h2] at hx
    exact ⟨e, he, h2, (List.mem_singleton.1 hx).symm⟩
theorem resF_mem {es : List Ed} {x : Wd} : ∀ (o : List Wd) (i : Nat), x ∈ resF es o i → x ∈ o ∨ ∃ e ∈ es, e.ki ≠ 2 ∧ e.new = x
  | [], i, h => by
    obtain ⟨e, he, h2⟩ := nwL_mem (show x ∈ nwL (es.filter (atP i)) from h)
    exact .inr ⟨e, (List.mem_filter.1 he).1, h2⟩
  | y :: o, i, h => by
    rw [resF_cons] at h
    rcases List.mem_append.1 h with h | h
    · rcases List.mem_append.1 h with h | h
      · obtain ⟨e, he, h2⟩ := nwL_mem h
        exact .inr ⟨e, (List.mem_filter.1 he).1, h2⟩
      · split at h
        · rw [List.mem_singleton.1 h]; exact .inl List.mem_cons_self
        · cases h
    · rcases resF_mem o (i + 1) h with h | h
      · exact .inl (List.mem_cons_of_mem _ h)
      · exact .inr h
theorem alL_new : ∀ (a : List Wd) (i : Nat) (b : List Wd), ∀ e ∈ alL a i b, e.ki ≠ 2 → e.new ∈ b
  | [], i, b => fun e he _ => by
    rw [alL_nil] at he
    obtain ⟨y, hy, rfl⟩ := List.mem_map.1 he
    exact hy
  | x :: a, i, [] => fun e he hk => by
    rw [alL_end] at he
    rcases List.mem_cons.1 he with rfl | h
    · exact absurd rfl hk
    · exact alL_new a (i + 1) [] e h hk
  | x :: a, i, y :: b => fun e he hk => by
    rw [alL_cons] at he
    by_cases e0 : x = y
    · rw [if_pos e0] at he; exact List.mem_cons_of_mem _ (alL_new a (i + 1) b e he hk)
    · rw [if_neg e0] at he
      by_cases e1 : dsL (x :: a) (y :: b) = 1 + dsL a b
      · rw [if_pos e1] at he
        rcases List.mem_cons.1 he with rfl | h
        · exact List.mem_cons_self
        · exact List.mem_cons_of_mem _ (alL_new a (i + 1) b e h hk)
      · rw [if_neg e1] at he
        by_cases e2 : dsL (x :: a) (y :: b) = 1 + dsL a (y :: b)
        · rw [if_pos e2] at he
          rcases List.mem_cons.1 he with rfl | h
          · exact absurd rfl hk
          · exact alL_new a (i + 1) (y :: b) e h hk
        · rw [if_neg e2] at he
          rcases List.mem_cons.1 he with rfl | h
          · exact List.mem_cons_self
          · exact List.mem_cons_of_mem _ (alL_new (x :: a) i b e h hk)
theorem flQ_mem {la lb : List Ed} {e : Ed} : ∀ q, e ∈ flQ la lb q → e ∈ la ∨ e ∈ lb
  | 0, h => by cases h
  | q + 1, h => by
    rcases List.mem_append.1 (show e ∈ flQ la lb q ++ jnL (plL la q) (plL lb q) from h) with h | h
    · exact flQ_mem q h
    · unfold jnL at h
      split at h
      · exact .inr (plL_mem h).1
      · exact .inl (plL_mem h).1
/-- the answer's words are words of the three texts -/
theorem mgR_words (o a b : List Wd) : ∀ x ∈ (mgR o a b).1, x ∈ o ++ a ++ b := by
  intro x hx
  unfold mgR at hx
  split at hx
  · unfold mgX at hx
    cases hc : mgC (alL o 0 a) (alL o 0 b) (o.length + 1) with
    | some k => rw [hc] at hx; cases hx
    | none =>
      rw [hc] at hx
      dsimp only at hx
      split at hx
      · have hm := apI_mg (alL_fit o 0 a) (alL_fit o 0 b) (alL_one o 0 a) (alL_one o 0 b) (o.length + 1) (Nat.le_refl _)
        rw [Nat.min_eq_right (by omega), apI_all] at hm
        rw [← hm] at hx
        rcases resF_mem o 0 hx with h | ⟨e, he, hk, rfl⟩
        · simp [h]
        · rcases flQ_mem _ he with h | h
          · have := alL_new o 0 a e h hk; simp [this]
          · have := alL_new o 0 b e h hk; simp [this]
      · cases hx
  · cases hx
end Go.Proofs.YtmpegkojencbjaaDoor
/- School: the reference's Merge, walked. -/
namespace Go.Proofs.YtmpegkojencbjaaDoor
open Go Go.RowKit Go.Shelf
set_option maxHeartbeats 4000000
set_option maxRecDepth 100000
/-- what the walk keeps at list q -/
structure RmI (W0 W : World) (q : Nat) (la lb : List Ed) (v : Value) : Prop where
  below : Below W0.heap.size W0 W
  out : OwnE W W0.heap.size v (flQ la lb q)
theorem RmI.ext {W0 W W' : World} {q : Nat} {la lb : List Ed} {v : Value} (h : RmI W0 W q la lb v) (hb : Below W.heap.size W W') : RmI W0 W' q la lb v :=
  ⟨h.below.trans (hb.mono h.below.size), h.out.ext hb⟩
theorem RmI.step {W0 W : World} {q : Nat} {la lb : List Ed} {v : Value} (h : RmI W0 W q la lb v) (X : Option Addr) (d : Nat) (m : List Ed) (hX : EdR W W.heap.size X m) (hj : jnL (plL la q) (plL lb q) = m) (hl : (flQ la lb q).length + m.length ≤ 1000000) :
    ∃ A c w', (Builtin.append_ #[26, 26] 26 #[v, .slice X m.length d]).run Tryd.prog W = .ok (.slice A (flQ la lb (q + 1)).length c) w' ∧ RmI W0 w' (q + 1) la lb (.slice A (flQ la lb (q + 1)).length c) := by
  obtain ⟨v', w', hr, ho, hg⟩ := h.out.pushes X d m hX hl h.below.size
  have e1 : flQ la lb (q + 1) = flQ la lb q ++ m := by rw [← hj]; rfl
  rw [← e1] at ho
  obtain ⟨A', c', rfl⟩ := own_shape ho
  exact ⟨A', c', w', hr, h.below.grown hg h.below.size (fun k hk => (World.ownsRow.lt h.out k hk).1), ho⟩
theorem atL_k {l : List Ed} (h : ∀ e ∈ l, 0 ≤ e.at_) (i k : Nat) (hk : k < 2) : atL l i ((k : Int) == 0) = plL l (i * 2 + k) := by
  rcases (by omega : k = 0 ∨ k = 1) with rfl | rfl
  · exact (atL_pl h i).1
  · exact (atL_pl h i).2
theorem jnB_more {la lb : List Ed} {q : Nat} (h : ∀ r, r < q → jnB (plL la r) (plL lb r) = true) (hb : jnB (plL la q) (plL lb q) = true) : ∀ r, r < q + 1 → jnB (plL la r) (plL lb r) = true := fun r hr => by
  rcases (by omega : r < q ∨ r = q) with h1 | rfl
  · exact h r h1
  · exact hb
theorem refMerge_any (A B C : Option Addr) (c d f : Nat) (base a b : List Wd) (w : World) (h0 : base.length ≤ 20) (ha : a.length ≤ 20) (hb : b.length ≤ 20) (hA : SR w w.heap.size A base) (hB : SR w w.heap.size B a) (hC : SR w w.heap.size C b) :
    Calls Tryd.prog 23 #[.slice A base.length c, .slice B a.length d, .slice C b.length f] w (MgPost w (mgX base (alL base 0 a) (alL base 0 b))) := by
  have H1 := hide (refAlign_any A B c d base a w h0 ha hA hB)
  have H2 : Hid (∀ W, Below w.heap.size w W → Calls Tryd.prog 21 #[.slice A base.length c, .slice C b.length f] W (AlignPost W base b)) := hide fun W h => refAlign_any A C c f base b W h0 hb ((ER.below hA h (Nat.le_refl _)).more h.size) ((ER.below hC h (Nat.le_refl _)).more h.size)
  have HA := hide hA
  obtain ⟨la, hla⟩ : ∃ l, alL base 0 a = l := ⟨_, rfl⟩
  obtain ⟨lb, hlb⟩ : ∃ l, alL base 0 b = l := ⟨_, rfl⟩
  have HFA : Hid (∀ e ∈ la, EdFit base 0 e) := hide (hla ▸ alL_fit base 0 a)
  have HFB : Hid (∀ e ∈ lb, EdFit base 0 e) := hide (hlb ▸ alL_fit base 0 b)
  have hl1 : la.length ≤ 40 := by
    rw [← hla, alL_len]
    have h1 := dsL_le base a
    omega
  have hl2 : lb.length ≤ 40 := by
    rw [← hlb, alL_len]
    have h1 := dsL_le base b
    omega
  have HPX : Hid (mgC la lb (base.length + 1) = none → apX base (flQ la lb ((base.length + 1) * 2)) = mgX base la lb) := hide (by rw [← hla, ← hlb]; exact apX_mg base a b)
  unfold AlignPost at H1 H2
  rw [hla] at H1 ⊢
  rw [hlb] at H2 ⊢
  obtain ⟨n, hn⟩ : ∃ n, base.length = n := ⟨_, rfl⟩
  rw [hn] at H1 H2 h0 ⊢
  have HN := hide hn
  generalize a.length = na at *
  generalize b.length = nb at *
  clear hA hB hC hn hla hlb ha hb
  go_enter Tryd.func23, Tryd.ntmps23
  go_wp2_with fail
  refine H1.out.mono ?_
  rintro e w1 ⟨v1, rfl, ho1, hb1⟩
  obtain ⟨A1, c1, rfl⟩ := own_shape ho1
  have HO1 := hide ho1
  have HB1 := hide hb1
  clear ho1 hb1 H1
  go_wp2_with fail
  refine (H2.out w1 HB1.out).mono ?_
  rintro e w2 ⟨v2, rfl, ho2, hb2⟩
  obtain ⟨A2, c2, rfl⟩ := own_shape ho2
  have HRA := hide ((HO1.out.ext hb2).edS).2
  have HRB := hide (ho2.edS).2
  have HB2 := hide (HB1.out.trans (hb2.mono HB1.out.size))
  have HI0 : Hid (RmI w2 (w2.alloc (.cells #[] 86)) 0 la lb (.slice (some ⟨w2.heap.size, 0, none⟩) 0 0)) := hide ⟨(Below.refl _ _).alloc (Nat.le_refl _) _, OwnE.made0 w2⟩
  clear ho2 hb2 H2 HO1 HB1
  obtain ⟨L1, hL1⟩ : ∃ n, la.length = n := ⟨_, rfl⟩
  obtain ⟨L2, hL2⟩ : ∃ n, lb.length = n := ⟨_, rfl⟩
  have HL := hide (And.intro hL1 hL2)
  rw [hL1] at hl1 ⊢
  rw [hL2] at hl2 ⊢
  clear hL1 hL2
  go_upto_region 3 with fail
  generalize (w2.alloc (.cells #[] 86)) = w3 at HI0 ⊢
  go_loopw [11, 12] (fun v x wr => ∃ (i : Nat) (vl : Value), i ≤ n + 1 ∧ x = .int .i64 i ∧ v = vl ∧ Hid (RmI w2 wr (i * 2) la lb vl) ∧ Hid (∀ q, q < i * 2 → jnB (plL la q) (plL lb q) = true)) (fun _ x _ => n + 1 - (intOf x).toNat)
  case atStart => exact ⟨0, _, Nat.zero_le _, rfl, rfl, HI0, hide (fun q hq => absurd hq (by omega))⟩
  case round =>
    obtain ⟨i, vl, hi, rfl, rfl, HR, HJ⟩ := hrel
    clear HI0
    obtain ⟨vA, vc, hv⟩ := own_shape HR.out.out
    subst hv
    by_cases hin : i ≤ n
    · -- BEGIN1
      have hin' : (i : Int) ≤ (n : Int) := by omega
      have hst : IntKind.i64.wrap ((i : Int) + 1) = (i : Int) + 1 := IntWalk.i64_in _ (by omega)
      have HST := hide hst
      clear hst
      have HR0 : Hid (RmI w2 wr (i * 2 + 0) la lb (.slice vA (flQ la lb (i * 2)).length vc)) := HR
      go_upto_region 6 with fail
      go_loopw [11, 13] (fun v x wq => ∃ (k : Nat) (vl : Value), k ≤ 2 ∧ x = .int .i64 k ∧ v = vl ∧ Hid (RmI w2 wq (i * 2 + k) la lb vl) ∧ Hid (∀ q, q < i * 2 + k → jnB (plL la q) (plL lb q) = true)) (fun _ x _ => 2 - (intOf x).toNat)
      case atStart => exact ⟨0, _, Nat.zero_le _, rfl, rfl, HR0, HJ⟩
      case round =>
        obtain ⟨k, vl, hk, rfl, rfl, HI, HJB⟩ := hrel
        obtain ⟨qA, qc, hv⟩ := own_shape HI.out.out
        subst hv
        clear HR HR0
        by_cases hlt : k < 2
        · -- BEGIN2
          have hlt' : (k : Int) < 2 := by omega
          have k0 : (0 : Int) ≤ (k : Int) := by omega
          have hst : IntKind.i64.wrap ((k : Int) + 1) = (k : Int) + 1 := IntWalk.i64_in _ (by omega)
          have hfl : (flQ la lb (i * 2 + k)).length ≤ 50 * 40 := Nat.le_trans (flQ_len la lb (n := 40) (by rw [HL.out.1]; exact hl1) (by rw [HL.out.2]; exact hl2) _) (Nat.mul_le_mul (by omega) (Nat.le_refl _))
          have HAT := at_any A1 c1 la i ((k : Int) == 0) wr (by rw [HL.out.1]; omega) ((ER.below HRA.out HI.out.below (Nat.le_refl _)).more HI.out.below.size)
          rw [HL.out.1, atL_k (fun e he => by have := (HFA.out e he).1; omega) i k hlt] at HAT
          have HBT := fun W (h : Below wr.heap.size wr W) => by
            have h3 := at_any A2 c2 lb i ((k : Int) == 0) W (by rw [HL.out.2]; omega) ((ER.below HRB.out (HI.out.below.trans (h.mono HI.out.below.size)) (Nat.le_refl _)).more (Nat.le_trans HI.out.below.size h.size))
            rw [HL.out.2, atL_k (fun e he => by have := (HFB.out e he).1; omega) i k hlt] at h3
            exact h3
          obtain ⟨p, hp⟩ : ∃ p, plL la (i * 2 + k) = p := ⟨_, rfl⟩
          obtain ⟨r, hr⟩ : ∃ p, plL lb (i * 2 + k) = p := ⟨_, rfl⟩
          have pl1 := plL_len la (i * 2 + k)
          have pl2 := plL_len lb (i * 2 + k)
          rw [hp, HL.out.1] at pl1
          rw [hr, HL.out.2] at pl2
          rw [hp] at HAT
          simp only [hr] at HBT
          have HAT := hide HAT
          have HBT := hide HBT
          have HPR := hide (And.intro hp hr)
          clear hp hr
          go_wp2_with fail
          refine HAT.out.mono ?_
          rintro e w4 ⟨v4, rfl, ho4, hb4⟩
          obtain ⟨X1, d1, rfl⟩ := own_shape ho4
          have HO4 := hide ho4
          have HB4 := hide hb4
          clear ho4 hb4 HAT
          go_wp2_with fail
          refine (HBT.out w4 HB4.out).mono ?_
          rintro e w5 ⟨v5, rfl, ho5, hb5⟩
          obtain ⟨X2, d2, rfl⟩ := own_shape ho5
          have HX1 := hide ((HO4.out.ext hb5).edS).2
          have HX2 := hide (ho5.edS).2
          have HI5 := hide (HI.out.ext (HB4.out.trans (hb5.mono HB4.out.size)))
          clear ho5 hb5 HBT HO4 HB4
          by_cases hp0 : p.length = 0
          · have hjb : jnB (plL la (i * 2 + k)) (plL lb (i * 2 + k)) = true := by unfold jnB; rw [HPR.out.1, decide_eq_true hp0]; rfl
            obtain ⟨A3, c3, w6, hrun, hn2⟩ := HI5.out.step X2 d2 r HX2.out (by unfold jnL; rw [HPR.out.1, HPR.out.2, if_pos hp0]) (by omega)
            have HRUN := hide hrun
            have HR2 := hide hn2
            clear hrun hn2
            rw [hp0]
            go_wp2_with (at_builtin; refine wpList_append_run rfl (.tmp 62) (.tmp 63) 26 rfl rfl rfl HRUN.out ?_)
            go_roundw
            case rel => exact ⟨k + 1, _, by omega, by go_num, rfl, HR2, hide (jnB_more HJB.out (hjb))⟩
            case measure => simp [intOf]; omega
          · have hp1 : (0 : Int) < (p.length : Int) := by omega
            have hp2 : ¬ (p.length : Int) = 0 := by omega
            by_cases hr0 : r.length = 0
            · have hjb : jnB (plL la (i * 2 + k)) (plL lb (i * 2 + k)) = true := by unfold jnB; rw [HPR.out.1, HPR.out.2, decide_eq_true hr0]; simp
              obtain ⟨A3, c3, w6, hrun, hn2⟩ := HI5.out.step X1 d1 p HX1.out (by unfold jnL; rw [HPR.out.1, HPR.out.2, if_neg hp0]) (by omega)
              have HRUN := hide hrun
              have HR2 := hide hn2
              clear hrun hn2
              rw [hr0]
              go_wp2_with (at_builtin; refine wpList_append_run rfl (.tmp 62) (.tmp 63) 26 rfl rfl rfl HRUN.out ?_)
              go_roundw
              case rel => exact ⟨k + 1, _, by omega, by go_num, rfl, HR2, hide (jnB_more HJB.out (hjb))⟩
              case measure => simp [intOf]; omega
            · have hr1 : (0 : Int) < (r.length : Int) := by omega
              have HS := refSame_any X1 X2 d1 d2 p r w5 (by unfold maxLen; omega) HX1.out HX2.out
              by_cases hpr : p = r
              · rw [decide_eq_true hpr] at HS
                have HS := hide HS
                have hjb : jnB (plL la (i * 2 + k)) (plL lb (i * 2 + k)) = true := by unfold jnB; rw [HPR.out.1, HPR.out.2, decide_eq_true hpr]; simp
                have HJ2 := hide hjb
                clear hjb hpr
                go_wp2_with fail
                refine HS.out.mono ?_
                rintro e w7 ⟨rfl, hb7⟩
                obtain ⟨A3, c3, w6, hrun, hn2⟩ := (HI5.out.ext hb7).step X1 d1 p (HX1.out.ext hb7) (by unfold jnL; rw [HPR.out.1, HPR.out.2, if_neg hp0]) (by omega)
                have HRUN := hide hrun
                have HR2 := hide hn2
                clear hrun hn2 hb7
                go_wp2_with (at_builtin; refine wpList_append_run rfl (.tmp 62) (.tmp 63) 26 rfl rfl rfl HRUN.out ?_)
                go_roundw
                case rel => exact ⟨k + 1, _, by omega, by go_num, rfl, HR2, hide (jnB_more HJB.out (HJ2.out))⟩
                case measure => simp [intOf]; omega
              · rw [decide_eq_false hpr] at HS
                have HS := hide HS
                have hjb : jnB (plL la (i * 2 + k)) (plL lb (i * 2 + k)) = false := by unfold jnB; rw [HPR.out.1, HPR.out.2, decide_eq_false hpr, decide_eq_false hp0, decide_eq_false hr0]; rfl
                have HJ2 := hide hjb
                clear hjb hpr
                go_wp2_with fail
                refine HS.out.mono ?_
                rintro e w7 ⟨rfl, hb7⟩
                have HB7 := hide (HI5.out.below.trans (hb7.mono HI5.out.below.size))
                clear hb7
                go_wp2_with fail
                go_ret3
                unfold MgPost
                rw [mgX_clash (k := i) (mgC_at (n := base.length + 1) (q := i * 2 + k) HJ.out (by omega) HJ2.out (by rw [HN.out]; omega))]
                exact ⟨_, rfl, OwnS.nil _ _, HB2.out.trans (HB7.out.mono HB2.out.size)⟩
          -- END2
        · -- BEGIN3
          obtain rfl : k = 2 := by omega
          have hlt' : ¬ ((2 : Nat) : Int) < 2 := by omega
          have hst := HST.out
          go_wp2_with fail
          go_roundw
          case rel => exact ⟨i + 1, _, by omega, by go_num, rfl, hide (by rw [show (i + 1) * 2 = i * 2 + 2 by omega]; exact HI.out), hide (fun q hq => HJB.out q (by omega))⟩
          case measure => simp [intOf]; omega
          -- END3
      -- END1
    · -- BEGIN4
      obtain rfl : i = n + 1 := by omega
      have hin' : ¬ (((n + 1 : Nat) : Int)) ≤ (n : Int) := by omega
      obtain ⟨N, hNn⟩ : ∃ N, n + 1 = N := ⟨_, rfl⟩
      have hc : mgC la lb (base.length + 1) = none := by rw [HN.out]; exact mgC_none HJ.out
      have hx := HPX.out hc
      rw [HN.out, hNn] at hx
      rw [hNn] at HR hin' ⊢
      have hfl : (flQ la lb (N * 2)).length ≤ 50 * 40 := Nat.le_trans (flQ_len la lb (n := 40) (by rw [HL.out.1]; exact hl1) (by rw [HL.out.2]; exact hl2) _) (Nat.mul_le_mul (by omega) (Nat.le_refl _))
      have HAP := refApply_any A vA c vc base (flQ la lb (N * 2)) wr (by rw [HN.out]; omega) (by omega) (((ER.below HA.out HB2.out (Nat.le_refl _)).more HB2.out.size |>.below HR.out.below (Nat.le_refl _)).more HR.out.below.size) (HR.out.out.edS).2 (fun e he => (flQ_ok HFA.out HFB.out _ e he).lo)
      rw [HN.out, hx] at HAP
      have HAP := hide HAP
      have HB3 := hide (HB2.out.trans (HR.out.below.mono HB2.out.size))
      clear hc hx hfl HR HPX
      obtain ⟨l3, hl3⟩ : ∃ l, mgX base la lb = l := ⟨_, rfl⟩
      rw [hl3] at HAP
      have HL3 := hide hl3
      clear hl3
      obtain ⟨ol, oe, oc⟩ := l3
      unfold MgPost at HAP
      dsimp only at HAP
      go_wp2_with fail
      refine HAP.out.mono ?_
      rintro e w6 ⟨v6, rfl, ho6, hb6⟩
      have HO6 := hide (ho6.low HB3.out.size)
      have HB6 := hide (HB3.out.trans (hb6.mono HB3.out.size))
      clear ho6 hb6 HAP
      go_wp2_with fail
      go_ret3
      unfold MgPost
      rw [HL3.out]
      exact ⟨_, rfl, HO6.out, HB6.out⟩
      -- END4
end Go.Proofs.YtmpegkojencbjaaDoor
/- School: the law SchoolMerges, walked. -/
namespace Go.Proofs.YtmpegkojencbjaaDoor
open Go Go.RowKit Go.Shelf
set_option maxHeartbeats 4000000
set_option maxRecDepth 100000
theorem OwnS.cap {W : World} {n0 : Nat} {A : Option Addr} {n c : Nat} {l : List Wd} (h : OwnS W n0 (.slice A n c) l) : n ≤ c ∧ c ≤ maxLen := by
  rcases h.2 with ⟨h1, -⟩ | ⟨g, cap, cur, h1, -, -, h2, h3, -⟩
  · injection h1 with h1 h2 h3
    subst h2 h3
    exact ⟨Nat.le_refl _, by unfold maxLen; omega⟩
  · injection h1 with h1 h4 h5
    subst h5
    exact ⟨by omega, h3⟩
theorem merges_any (A B C : Option Addr) (c d f : Nat) (o a b : List Wd) (w : World) (h0 : SzOk o) (ha : SzOk a) (hb : SzOk b) (hA : SR w w.heap.size A o) (hB : SR w w.heap.size B a) (hC : SR w w.heap.size C b) :
    Calls Tryd.prog 4 #[.slice A o.length c, .slice B a.length d, .slice C b.length f] w fun e w' => e = .returned (.bool true) ∧ Below w.heap.size w w' := by
  have HL1 := long_any A c o w h0 hA
  have HL2 := long_any B d a w ha hB
  have HL3 := long_any C f b w hb hC
  have HA := hide hA
  have HB := hide hB
  have HC := hide hC
  have HSO := hide h0
  have HSA := hide ha
  have HSB := hide hb
  obtain ⟨n, hn⟩ : ∃ n, o.length = n := ⟨_, rfl⟩
  obtain ⟨m, hm⟩ : ∃ n, a.length = n := ⟨_, rfl⟩
  obtain ⟨r, hr⟩ : ∃ n, b.length = n := ⟨_, rfl⟩
  have HN := hide (And.intro hn (And.intro hm hr))
  rw [hn] at HL1
  rw [hm] at HL2
  rw [hr] at HL3
  rw [hn, hm, hr]
  clear hA hB hC h0 ha hb hn hm hr
  rcases hl1 : lgB o with _ | _
  rotate_left
  · rw [hl1] at HL1
    have H1 := hide HL1
    have HK := hide (known_any w)
    clear hl1 HL1 HL2 HL3
    go_enter Tryd.func4, Tryd.ntmps4
    go_wp2_with fail
    refine H1.out.mono ?_
    rintro e _ ⟨rfl, rfl⟩
    go_wp2_with fail
    refine HK.out.mono ?_
    rintro e w2 ⟨rfl, hb2⟩
    go_wp2_with fail
    go_ret
    exact ⟨rfl, hb2⟩
  rw [hl1] at HL1
  have H1 := hide HL1
  rcases hl2 : lgB a with _ | _
  rotate_left
  · rw [hl2] at HL2
    have H2 := hide HL2
    have HK := hide (known_any w)
    clear hl1 hl2 HL1 HL2 HL3
    go_enter Tryd.func4, Tryd.ntmps4
    go_wp2_with fail
    refine H1.out.mono ?_
    rintro e _ ⟨rfl, rfl⟩
    go_wp2_with fail
    refine H2.out.mono ?_
    rintro e _ ⟨rfl, rfl⟩
    go_wp2_with fail
    refine HK.out.mono ?_
    rintro e w2 ⟨rfl, hb2⟩
    go_wp2_with fail
    go_ret
    exact ⟨rfl, hb2⟩
  rw [hl2] at HL2
  have H2 := hide HL2
  rcases hl3 : lgB b with _ | _
  rotate_left
  · rw [hl3] at HL3
    have H3 := hide HL3
    have HK := hide (known_any w)
    clear hl1 hl2 hl3 HL1 HL2 HL3
    go_enter Tryd.func4, Tryd.ntmps4
    go_wp2_with fail
    refine H1.out.mono ?_
    rintro e _ ⟨rfl, rfl⟩
    go_wp2_with fail
    refine H2.out.mono ?_
    rintro e _ ⟨rfl, rfl⟩
    go_wp2_with fail
    refine H3.out.mono ?_
    rintro e _ ⟨rfl, rfl⟩
    go_wp2_with fail
    refine HK.out.mono ?_
    rintro e w2 ⟨rfl, hb2⟩
    go_wp2_with fail
    go_ret
    exact ⟨rfl, hb2⟩
  rw [hl3] at HL3
  have H3 := hide HL3
  have h1 := (lgB_no hl1).1
  have h2 := (lgB_no hl2).1
  have h3 := (lgB_no hl3).1
  have HW1 := words_any A c o w (by omega) HA.out
  rw [HN.out.1] at HW1
  have HW1 := hide HW1
  have HW2 : Hid (∀ W, Below w.heap.size w W → Calls Tryd.prog 16 #[.slice B m d] W fun e w' => ∃ v, e = .returned v ∧ OwnS w' W.heap.size v a ∧ Below W.heap.size W w') := hide fun W h => by
    have := words_any B d a W (by omega) ((ER.below HB.out h (Nat.le_refl _)).more h.size)
    rwa [HN.out.2.1] at this
  have HW3 : Hid (∀ W, Below w.heap.size w W → Calls Tryd.prog 16 #[.slice C r f] W fun e w' => ∃ v, e = .returned v ∧ OwnS w' W.heap.size v b ∧ Below W.heap.size W w') := hide fun W h => by
    have := words_any C f b W (by omega) ((ER.below HC.out h (Nat.le_refl _)).more h.size)
    rwa [HN.out.2.2] at this
  clear hl1 hl2 hl3 HL1 HL2 HL3 h1 h2 h3
  go_enter Tryd.func4, Tryd.ntmps4
  go_wp2_with fail
  refine H1.out.mono ?_
  rintro e _ ⟨rfl, rfl⟩
  go_wp2_with fail
  refine H2.out.mono ?_
  rintro e _ ⟨rfl, rfl⟩
  go_wp2_with fail
  refine H3.out.mono ?_
  rintro e _ ⟨rfl, rfl⟩
  go_wp2_with fail
  refine HW1.out.mono ?_
  rintro e w1 ⟨v1, rfl, ho1, hb1⟩
  obtain ⟨A1, c1, rfl⟩ := own_shape ho1
  have B1 := hide hb1
  have O1 := hide ho1
  rw [HN.out.1]
  clear hb1 ho1
  go_wp2_with fail
  refine (HW2.out w1 B1.out).mono ?_
  rintro e w2 ⟨v2, rfl, ho2, hb2⟩
  obtain ⟨A2, c2, rfl⟩ := own_shape ho2
  have B2 := hide (B1.out.trans (hb2.mono B1.out.size))
  have B12 := hide hb2
  have O2 := hide ho2
  rw [HN.out.2.1]
  clear hb2 ho2
  go_wp2_with fail
  refine (HW3.out w2 B2.out).mono ?_
  rintro e w3 ⟨v3, rfl, ho3, hb3⟩
  obtain ⟨A3, c3, rfl⟩ := own_shape ho3
  have B3 := hide (B2.out.trans (hb3.mono B2.out.size))
  have hs1 := (OwnS.ext O1.out (B12.out.trans (hb3.mono B12.out.size))).sr.2
  have hs2 := (OwnS.ext O2.out hb3).sr.2
  have hs3 := ho3.sr.2
  have hcap := O1.out.cap
  have HMG := Merge_any A1 A2 A3 c1 c2 c3 o a b w3 HSO.out HSA.out HSB.out hs1 hs2 hs3 hcap.1 hcap.2
  rw [HN.out.1, HN.out.2.1, HN.out.2.2] at HMG
  rw [HN.out.2.2]
  obtain ⟨q, hq⟩ : ∃ q, mgR o a b = q := ⟨_, rfl⟩
  rw [hq] at HMG
  obtain ⟨ml, me, mc⟩ := q
  have HR := hide hq
  unfold MgPost at HMG
  dsimp only at HMG
  have HMG := hide HMG
  clear hb3 ho3 hs1 hs2 hs3 hcap hq O1 O2 B12 B1 B2
  go_wp2_with fail
  refine HMG.out.mono ?_
  rintro e w4 ⟨v4, rfl, ho4, hb4⟩
  obtain ⟨A4, c4, hv4⟩ := own_shape ho4
  subst hv4
  have B4 := hide (B3.out.trans (hb4.mono B3.out.size))
  have O4 := hide ho4
  have HK := hide (known_any w4)
  have HT1 := refText_any A c o w4 HSO.out ((ER.below HA.out B4.out (Nat.le_refl _)).more B4.out.size)
  have HT2 := refText_any B d a w4 HSA.out ((ER.below HB.out B4.out (Nat.le_refl _)).more B4.out.size)
  have HT3 := refText_any C f b w4 HSB.out ((ER.below HC.out B4.out (Nat.le_refl _)).more B4.out.size)
  rw [HN.out.1] at HT1
  rw [HN.out.2.1] at HT2
  rw [HN.out.2.2] at HT3
  clear ho4 hb4 HMG HW1 HW2 HW3 H1 H2 H3
  rcases ht1 : textB o with _ | _
  · rw [ht1] at HT1
    have hr := HR.out
    unfold mgR at hr
    rw [if_neg (by simp [*])] at hr
    injection hr with hr1 hr2
    injection hr2 with hr2 hr3
    subst hr1 hr2 hr3
    have J1 := hide HT1
    clear HT1 HT2 HT3 ht1
    go_wp2_with fail
    refine J1.out.mono ?_
    rintro e _ ⟨rfl, rfl⟩
    go_wp2_with fail
    refine HK.out.mono ?_
    rintro e w6 ⟨rfl, hb6⟩
    go_wp2_with fail
    go_ret
    exact ⟨rfl, B4.out.trans (hb6.mono B4.out.size)⟩
  rw [ht1] at HT1
  have J1 := hide HT1
  rcases ht2 : textB a with _ | _
  · rw [ht2] at HT2
    have hr := HR.out
    unfold mgR at hr
    rw [if_neg (by simp [*])] at hr
    injection hr with hr1 hr2
    injection hr2 with hr2 hr3
    subst hr1 hr2 hr3
    have J2 := hide HT2
    clear HT1 HT2 HT3 ht1 ht2
    go_wp2_with fail
    refine J1.out.mono ?_
    rintro e _ ⟨rfl, rfl⟩
    go_wp2_with fail
    refine J2.out.mono ?_
    rintro e _ ⟨rfl, rfl⟩
    go_wp2_with fail
    refine HK.out.mono ?_
    rintro e w6 ⟨rfl, hb6⟩
    go_wp2_with fail
    go_ret
    exact ⟨rfl, B4.out.trans (hb6.mono B4.out.size)⟩
  rw [ht2] at HT2
  have J2 := hide HT2
  rcases ht3 : textB b with _ | _
  · rw [ht3] at HT3
    have hr := HR.out
    unfold mgR at hr
    rw [if_neg (by simp [*])] at hr
    injection hr with hr1 hr2
    injection hr2 with hr2 hr3
    subst hr1 hr2 hr3
    have J3 := hide HT3
    clear HT1 HT2 HT3 ht1 ht2 ht3
    go_wp2_with fail
    refine J1.out.mono ?_
    rintro e _ ⟨rfl, rfl⟩
    go_wp2_with fail
    refine J2.out.mono ?_
    rintro e _ ⟨rfl, rfl⟩
    go_wp2_with fail
    refine J3.out.mono ?_
    rintro e _ ⟨rfl, rfl⟩
    go_wp2_with fail
    refine HK.out.mono ?_
    rintro e w6 ⟨rfl, hb6⟩
    go_wp2_with fail
    go_ret
    exact ⟨rfl, B4.out.trans (hb6.mono B4.out.size)⟩
  rw [ht3] at HT3
  have J3 := hide HT3
  have HMX : mgX o (alL o 0 a) (alL o 0 b) = (ml, me, mc) := by
    have := HR.out
    unfold mgR at this
    rw [ht1, ht2, ht3] at this
    exact this
  have HRM := refMerge_any A B C c d f o a b w4 (textB_len ht1) (textB_len ht2) (textB_len ht3) ((ER.below HA.out B4.out (Nat.le_refl _)).more B4.out.size) ((ER.below HB.out B4.out (Nat.le_refl _)).more B4.out.size) ((ER.below HC.out B4.out (Nat.le_refl _)).more B4.out.size)
  rw [HN.out.1, HN.out.2.1, HN.out.2.2, HMX] at HRM
  unfold MgPost at HRM
  dsimp only at HRM
  have HRM := hide HRM
  have hml : ml.length ≤ 20 := by
    have h5 := HMX
    unfold mgX at h5
    split at h5
    · injection h5 with h5; rw [← h5]; simp
    · dsimp only at h5
      split at h5
      · injection h5 with h5; rw [← h5]; assumption
      · injection h5 with h5; rw [← h5]; simp
  have HML := hide hml
  clear HT1 HT2 HT3 ht1 ht2 ht3 HMX hml HK
  go_wp2_with fail
  refine J1.out.mono ?_
  rintro e _ ⟨rfl, rfl⟩
  go_wp2_with fail
  refine J2.out.mono ?_
  rintro e _ ⟨rfl, rfl⟩
  go_wp2_with fail
  refine J3.out.mono ?_
  rintro e _ ⟨rfl, rfl⟩
  go_wp2_with fail
  refine HRM.out.mono ?_
  rintro e w5 ⟨v5, rfl, ho5, hb5⟩
  obtain ⟨A5, c5, hv5⟩ := own_shape ho5
  subst hv5
  have HSM := same_any A4 A5 c4 c5 ml ml w5 (by have := HML.out; unfold maxLen; omega) (O4.out.ext hb5).sr.2 ho5.sr.2
  rw [decide_eq_true rfl] at HSM
  have HSM := hide HSM
  have B5 := hide (B4.out.trans (hb5.mono B4.out.size))
  clear ho5 hb5 HRM
  go_wp2_with fail
  refine HSM.out.mono ?_
  rintro e w6 ⟨rfl, hb6⟩
  have B6 := hide (B5.out.trans (hb6.mono B5.out.size))
  clear hb6
  go_wp2_with fail
  refine (known_any w6).mono ?_
  rintro e w7 ⟨rfl, hb7⟩
  go_wp2_with fail
  go_ret
  exact ⟨rfl, B6.out.trans (hb7.mono B6.out.size)⟩
end Go.Proofs.YtmpegkojencbjaaDoor
