/- School: the law SchoolAligns: the row and the tied card. -/
import Derived.Test.YtmpegkojencbjaaDoorAlignsK
import Derived.Test.YtmpegkojencbjaaDoorRows
import Derived.ProofKit
import Derived.OpenShut
import Derived.Carry
import Derived.ChangeSame
import Derived.Deep.SlicePairs
import Derived.ChangeSlices
import Derived.SliceStrings
import Derived.Test.YtmpegkojencbjaaDoorCards
import Derived.Test.YtmpegkojencbjaaDoorTie
import Derived.LaidMore
import Derived.Lay
import Derived.SevenTiedAt
import Derived.Stop.Joined
set_option linter.unusedSimpArgs false
set_option linter.unusedVariables false
set_option linter.unnecessarySimpa false
/- School: the law SchoolAligns, walked. -/
namespace Go.Proofs.YtmpegkojencbjaaDoor
open Go Go.RowKit Go.Shelf
set_option maxHeartbeats 4000000
set_option maxRecDepth 100000
theorem OwnE.edS' {W : World} {n0 : Nat} {A : Option Addr} {n c : Nat} {l : List Ed} (h : OwnE W n0 (.slice A n c) l) (_ : l.length = n) : EdR W W.heap.size A l := h.edS.2
theorem aligns_any (A B : Option Addr) (c d : Nat) (a b : List Wd) (w : World) (ha : SzOk a) (hb : SzOk b) (hA : SR w w.heap.size A a) (hB : SR w w.heap.size B b) :
    Calls Tryd.prog 3 #[.slice A a.length c, .slice B b.length d] w fun e w' => e = .returned (.bool true) ∧ Below w.heap.size w w' := by
  have HL1 := long_any A c a w ha hA
  have HL2 := long_any B d b w hb hB
  have HA := hide hA
  have HB := hide hB
  have HSA := hide ha
  have HSB := hide hb
  obtain ⟨n, hn⟩ : ∃ n, a.length = n := ⟨_, rfl⟩
  obtain ⟨m, hm⟩ : ∃ n, b.length = n := ⟨_, rfl⟩
  have HN := hide (And.intro hn hm)
  rw [hn] at HL1
  rw [hm] at HL2
  rw [hn, hm]
  clear hA hB ha hb hn hm
  rcases hl1 : lgB a with _ | _
  rotate_left
  · rw [hl1] at HL1
    have HL := hide HL1
    have HK := hide (known_any w)
    clear hl1 HL1 HL2
    go_enter Tryd.func3, Tryd.ntmps3
    go_wp2_with fail
    refine HL.out.mono ?_
    rintro e _ ⟨rfl, rfl⟩
    go_wp2_with fail
    refine HK.out.mono ?_
    rintro e w2 ⟨rfl, hb2⟩
    go_wp2_with fail
    go_ret
    exact ⟨rfl, hb2⟩
  rw [hl1] at HL1
  have HL := hide HL1
  rcases hl2 : lgB b with _ | _
  rotate_left
  · rw [hl2] at HL2
    have HM := hide HL2
    have HK := hide (known_any w)
    clear hl1 hl2 HL1 HL2
    go_enter Tryd.func3, Tryd.ntmps3
    go_wp2_with fail
    refine HL.out.mono ?_
    rintro e _ ⟨rfl, rfl⟩
    go_wp2_with fail
    refine HM.out.mono ?_
    rintro e _ ⟨rfl, rfl⟩
    go_wp2_with fail
    refine HK.out.mono ?_
    rintro e w2 ⟨rfl, hb2⟩
    go_wp2_with fail
    go_ret
    exact ⟨rfl, hb2⟩
  rw [hl2] at HL2
  have HM := hide HL2
  have ha25 := (lgB_no hl1).1
  have hb25 := (lgB_no hl2).1
  have HW1 := words_any A c a w (by omega) HA.out
  rw [HN.out.1] at HW1
  have HW1 := hide HW1
  have H25 := hide (And.intro ha25 hb25)
  clear hl1 hl2 HL1 HL2 ha25 hb25
  go_enter Tryd.func3, Tryd.ntmps3
  go_wp2_with fail
  refine HL.out.mono ?_
  rintro e _ ⟨rfl, rfl⟩
  go_wp2_with fail
  refine HM.out.mono ?_
  rintro e _ ⟨rfl, rfl⟩
  go_wp2_with fail
  refine HW1.out.mono ?_
  rintro e w1 ⟨v1, rfl, ho1, hb1⟩
  obtain ⟨A1, c1, rfl⟩ := own_shape ho1
  have B1 := hide hb1
  have O1 := hide ho1
  have HW2 := words_any B d b w1 (by have := H25.out; omega) ((ER.below HB.out hb1 (Nat.le_refl _)).more hb1.size)
  rw [HN.out.2] at HW2
  have HW2 := hide HW2
  clear hb1 ho1
  rw [HN.out.1]
  go_wp2_with fail
  refine HW2.out.mono ?_
  rintro e w2 ⟨v2, rfl, ho2, hb2⟩
  obtain ⟨A2, c2, rfl⟩ := own_shape ho2
  rw [HN.out.2]
  have B2 := hide (B1.out.trans (hb2.mono B1.out.size))
  have hs1 := (OwnS.ext O1.out hb2).sr.2
  have hs2 := ho2.sr.2
  have HAL := Align_any A1 A2 c1 c2 a b w2 HSA.out HSB.out hs1 hs2
  rw [HN.out.1, HN.out.2] at HAL
  have HAL := hide HAL
  have HS1 := hide hs1
  have HS2 := hide hs2
  clear hb2 ho2 hs1 hs2 O1 B1
  go_wp2_with fail
  refine HAL.out.mono ?_
  rintro e w3 ⟨v3, rfl, ho3, hb3⟩
  obtain ⟨A3, c3, hv3⟩ := own_shape ho3
  have B3 := hide (B2.out.trans (hb3.mono B2.out.size))
  have HS1 := hide ((ER.below HS1.out hb3 (Nat.le_refl _)).more hb3.size)
  have HS2 := hide ((ER.below HS2.out hb3 (Nat.le_refl _)).more hb3.size)
  have HS1' : Calls Tryd.prog 18 #[.slice A1 n c1, .slice A n c] w3 fun e w' => e = .returned (.bool true) ∧ Below w3.heap.size w3 w' := by
    have := same_any A1 A c1 c a a w3 (by have := H25.out; unfold maxLen; omega) HS1.out ((ER.below HA.out B3.out (Nat.le_refl _)).more B3.out.size)
    rw [HN.out.1, decide_eq_true rfl] at this
    exact this
  have HS2' : ∀ W, Below w3.heap.size w3 W → Calls Tryd.prog 18 #[.slice A2 m c2, .slice B m d] W fun e w' => e = .returned (.bool true) ∧ Below W.heap.size W w' := fun W hW => by
    have := same_any A2 B c2 d b b W (by have := H25.out; unfold maxLen; omega) ((ER.below HS2.out hW (Nat.le_refl _)).more hW.size) ((ER.below HB.out (B3.out.trans (hW.mono B3.out.size)) (Nat.le_refl _)).more (Nat.le_trans B3.out.size hW.size))
    rw [HN.out.2, decide_eq_true rfl] at this
    exact this
  have HE1 := hide HS1'
  have HE2 := hide HS2'
  have HO3 := hide ho3
  obtain ⟨ok, hok⟩ : ∃ ok, (textB a && textB b) = ok := ⟨_, rfl⟩
  have HOK := hide hok
  obtain ⟨l3, hl3⟩ : ∃ l, (if textB a && textB b then alL a 0 b else []) = l := ⟨_, rfl⟩
  rw [hl3] at hv3 HO3
  have HL3 := hide hl3
  obtain ⟨n3, hn3⟩ : ∃ n, l3.length = n := ⟨_, rfl⟩
  rw [hn3] at hv3
  subst hv3
  rw [hok]
  have HN3 := hide hn3
  obtain ⟨en, hen⟩ : ∃ en : Int, (if ok = true then (0 : Int) else 2) = en := ⟨_, rfl⟩
  rw [hen]
  have HEN := hide hen
  clear hok hen hb3 ho3 HS1' HS2' hl3 hn3 HS1 HS2 B2
  go_wp2_with fail
  refine HE1.out.mono ?_
  rintro e w4 ⟨rfl, hb4⟩
  have B34 := hide hb4
  clear hb4
  go_wp2_with fail
  refine (HE2.out w4 B34.out).mono ?_
  rintro e w5 ⟨rfl, hb5⟩
  have B35 := hide (B34.out.trans (hb5.mono B34.out.size))
  have B5 := hide (B3.out.trans (B35.out.mono B3.out.size))
  clear hb5 B34
  have HT1 := refText_any A c a w5 HSA.out ((ER.below HA.out B5.out (Nat.le_refl _)).more B5.out.size)
  have HT2 := refText_any B d b w5 HSB.out ((ER.below HB.out B5.out (Nat.le_refl _)).more B5.out.size)
  rw [HN.out.1] at HT1
  rw [HN.out.2] at HT2
  have HK := known_any w5
  rcases ht1 : textB a with _ | _
  · rw [ht1] at HT1
    have hokf : ok = false := by rw [← HOK.out, ht1]; rfl
    subst hokf
    obtain rfl : 2 = en := HEN.out
    have hn0 : n3 = 0 := by rw [← HN3.out, ← HL3.out, ht1]; rfl
    subst hn0
    have HT := hide HT1
    have HK := hide HK
    clear HT1 HT2 ht1
    go_wp2_with fail
    refine HT.out.mono ?_
    rintro e _ ⟨rfl, rfl⟩
    go_wp2_with fail
    refine HK.out.mono ?_
    rintro e w6 ⟨rfl, hb6⟩
    go_wp2_with fail
    go_ret
    exact ⟨rfl, B5.out.trans (hb6.mono B5.out.size)⟩
  rw [ht1] at HT1
  rcases ht2 : textB b with _ | _
  · rw [ht2] at HT2
    have hokf : ok = false := by rw [← HOK.out, ht2, Bool.and_false]
    subst hokf
    obtain rfl : 2 = en := HEN.out
    have hn0 : n3 = 0 := by rw [← HN3.out, ← HL3.out, ht2, Bool.and_false]; rfl
    subst hn0
    have HT := hide HT1
    have HU := hide HT2
    have HK := hide HK
    clear HT1 HT2 ht1 ht2
    go_wp2_with fail
    refine HT.out.mono ?_
    rintro e _ ⟨rfl, rfl⟩
    go_wp2_with fail
    refine HU.out.mono ?_
    rintro e _ ⟨rfl, rfl⟩
    go_wp2_with fail
    refine HK.out.mono ?_
    rintro e w6 ⟨rfl, hb6⟩
    go_wp2_with fail
    go_ret
    exact ⟨rfl, B5.out.trans (hb6.mono B5.out.size)⟩
  rw [ht2] at HT2
  have hokt : ok = true := by rw [← HOK.out, ht1, ht2]; rfl
  subst hokt
  obtain rfl : 0 = en := HEN.out
  have hl3 : alL a 0 b = l3 := by rw [← HL3.out, ht1, ht2]; rfl
  have HRA := refAlign_any A B c d a b w5 (textB_len ht1) (textB_len ht2) ((ER.below HA.out B5.out (Nat.le_refl _)).more B5.out.size) ((ER.below HB.out B5.out (Nat.le_refl _)).more B5.out.size)
  rw [HN.out.1, HN.out.2] at HRA
  unfold AlignPost at HRA
  rw [hl3] at HRA
  have HRA := hide HRA
  have HT := hide HT1
  have HU := hide HT2
  have hl40 : l3.length ≤ 40 := by
    rw [← hl3, alL_len]
    have h1 := dsL_le a b
    have h2 := textB_len ht1
    have h3 := textB_len ht2
    omega
  have HL40 := hide hl40
  clear HT1 HT2 ht1 ht2 hl3 HK hl40
  go_wp2_with fail
  refine HT.out.mono ?_
  rintro e _ ⟨rfl, rfl⟩
  go_wp2_with fail
  refine HU.out.mono ?_
  rintro e _ ⟨rfl, rfl⟩
  go_wp2_with fail
  refine HRA.out.mono ?_
  rintro e w6 ⟨v6, rfl, ho6, hb6⟩
  obtain ⟨A6, c6, rfl, hr6⟩ := ho6.edR
  have B56 := hide (B35.out.trans (hb6.mono B35.out.size))
  have HSM := refSame_any A3 A6 c3 c6 l3 l3 w6 (by have := HL40.out; unfold maxLen; omega) ((HO3.out.ext B56.out).edS' HN3.out) hr6
  rw [HN3.out, decide_eq_true rfl] at HSM
  have HSM := hide HSM
  have B6 := hide (B5.out.trans (hb6.mono B5.out.size))
  rw [HN3.out]
  clear ho6 hb6 hr6 B56
  go_wp2_with fail
  refine HSM.out.mono ?_
  rintro e w7 ⟨rfl, hb7⟩
  have B7 := hide (B6.out.trans (hb7.mono B6.out.size))
  clear hb7
  go_wp2_with fail
  refine (known_any w7).mono ?_
  rintro e w8 ⟨rfl, hb8⟩
  go_wp2_with fail
  go_ret
  exact ⟨rfl, B7.out.trans (hb8.mono B7.out.size)⟩
end Go.Proofs.YtmpegkojencbjaaDoor
/- How a law's statement follows from its walk; arguments opened as readings. -/
namespace Go.Proofs.YtmpegkojencbjaaDoor
open Go Go.RowKit Go.ChangeShapes Go.WideShapes Go.ChangeAt
set_option maxRecDepth 100000
theorem own_knob : ownKnob Tryd.prog.godebug = none := by kernel_rfl
theorem laidOut : laidOutB Tryd.prog = true := by kernel_rfl
section
variable {H : Type} {enc : TypeId × Value → H}
/-- arguments read behind the call as before, if below the heap's old size nothing has turned -/
theorem stay_all {W W' : World} (hb : Below W.heap.size W W') {sp : Nat → Bool} : ∀ {ts : List TypeId} {vs : List Value} {ds : List (DataW H)} {ps : List MemPlace},
    (∀ t ∈ ts, Tryd.prog.readableRec t = true ∧ t < Tryd.prog.types.size) → DataW.TrodAll enc Tryd.prog W 0 (fun _ => true) true ts vs ds ps → (∀ x ∈ ps, x.block < W.heap.size) → (∀ x ∈ ps, sp x.block = true) →
    DataW.TrodAll enc Tryd.prog W' 0 sp true ts vs ds ps
  | [], _, _, _, _, h, _, _ => by
    obtain ⟨rfl, rfl, rfl⟩ := trodAll_nil h
    exact trodAll_mk0
  | t :: ts, _, _, _, hr, h, hlt, hsp => by
    obtain ⟨v, vs, d, ds, p, q, rfl, rfl, rfl, h0, r0⟩ := trodAll_cons h
    have k := hr t (by simp)
    exact trodAll_cons_mk (WideElems.Trod_stays laidOut k.1 k.2 h0 (fun x hx => hb.same (hlt x (by simp [hx]))) (fun x hx => hsp x (by simp [hx])))
      (stay_all hb (fun t ht => hr t (by simp [ht])) r0 (fun x hx => hlt x (by simp [hx])) (fun x hx => hsp x (by simp [hx])))
/-- a law that returned true and turned nothing old -/
theorem law_post {f : Func} {s : ChangeSpec} {apart fresh handsOn again : Bool} {W W' : World} {args : Array Value} {ds gs : List (DataW H)} {before : List MemPlace}
    (hW : DataW.Whole enc Tryd.prog f.params.toList s.vars apart W args.toList ds gs before) (hb : Below W.heap.size W W')
    (hvs : s.vars = []) (hr1 : f.resultTypes = #[4])
    (hpar : f.params.toList.all (fun t => Tryd.prog.readableRec t && decide (t < Tryd.prog.types.size)) = true)
    (hfn : (s.fn H ds).results = [.lit (.bool true)] ∧ (s.fn H ds).args = ds ∧ (s.fn H ds).vars = []) :
    s.post enc Tryd.prog f apart fresh handsOn again W args (.bool true) W' := by
  have hW0 := hW
  have hlt : ∀ p ∈ before, p.block < W.heap.size := fun p hp => hW.lt p hp
  have hold : ∀ p ∈ before, (fun b => decide (b < W.heap.size)) p.block = true := fun p hp => by simpa using hlt p hp
  obtain ⟨p, q, hA, hV, rfl, hz, hn⟩ := hW
  rw [hvs] at hV
  obtain ⟨rfl, rfl⟩ := trodVars_none hV
  simp only [List.append_nil] at *
  have hk : ∀ t ∈ f.params.toList, Tryd.prog.readableRec t = true ∧ t < Tryd.prog.types.size := by
    intro t ht
    have := List.all_eq_true.1 hpar t ht
    simpa using this
  have hargs : ∀ sp : Nat → Bool, (∀ x ∈ p, sp x.block = true) → DataW.TrodAll enc Tryd.prog W' 0 sp true f.params.toList args.toList (s.fn H (ds ++ [])).args p := fun sp hsp => by
    rw [List.append_nil, hfn.2.1]; exact stay_all hb hk hA hlt hsp
  have hvars : ∀ sp : Nat → Bool, DataW.TrodVars enc Tryd.prog W' sp s.vars (s.fn H (ds ++ [])).vars [] := fun sp => by
    rw [hvs, List.append_nil, hfn.2.2]; exact rfl
  have hres : ∀ (b : Nat) (sp : Nat → Bool) (hd : Bool), DataW.TrodAll enc Tryd.prog W' b sp hd f.resultTypes.toList ((Value.bool true).resultList f.resultTypes.size) (s.fn H (ds ++ [])).results [] := fun b sp hd => by
    rw [List.append_nil, hfn.1, hr1]
    exact trodAll_cons_mk (shut_bool Tryd.underlying4 _) trodAll_mk0
  refine ⟨ds, [], p, [], p, [], hW0, hres _ _ _, hargs _ hold, hvars _, World.keptBut_mono (fun x hx => ⟨hx, Or.inr (by simpa using hx)⟩) (hb.frame (· ∈ p)), fun _ => ?_⟩
  refine ⟨ok_one hr1 rfl (okWide_bool_mk Tryd.underlying4 _), _, _, ([] ++ p) ++ [], ⟨[] ++ p, [], trodAll_append (hargs _ (fun _ _ => rfl)) (hres _ _ _), hvars (fun _ => true), rfl, ?_, ?_⟩, ?_⟩
  · intro b off hp
    have hin : MemPlace.cell b off ∈ p := by simpa using hp
    rw [hb.frozen (hlt _ hin)]
    exact hz b off hin
  · intro ha
    simpa using hn ha
  · intro x hx _
    simpa using hx
/-- a slice of structs of two cells: the readings of its elements -/
theorem open_pairs_c {W : World} {t e : TypeId} {f0 f1 : Field} {v : Value} {x : DataW H × List MemPlace} {fuel : Nat} (ht : Tryd.prog.underlying t = some (.slice e)) (he : Tryd.prog.underlying e = some (.struct #[f0, f1]))
    (ce : Tryd.prog.cellsOf e = 2) (o0 : f0.offset = 0) (o1 : f1.offset = 1) (c0 : Tryd.prog.cellsOf f0.type = 1) (c1 : Tryd.prog.cellsOf f1.type = 1)
    (h : DataW.trod enc Tryd.prog W 0 (fun _ => true) true fuel t [v] = some x) (hlt : ∀ y ∈ x.2, y.block < W.heap.size) :
    ∃ A n c V0 V1, v = .slice A n c ∧ n ≤ maxLen ∧ n ≤ c ∧ P2 W W.heap.size A n V0 V1 ∧ ∀ i, i < n → ∃ m x0 x1, DataW.trod enc Tryd.prog W 0 (fun _ => true) true m f0.type [V0 i] = some x0 ∧ DataW.trod enc Tryd.prog W 0 (fun _ => true) true m f1.type [V1 i] = some x1 ∧
      (∀ y ∈ x0.2, y.block < W.heap.size) ∧ (∀ y ∈ x1.2, y.block < W.heap.size) := by
  rcases Deep.open_slice_pairs ht he ce o0 o1 c0 c1 h with ⟨h1, -⟩ | ⟨a, len, cap, m, n, V0, V1, D0, D1, P0, P1, h1, hb, hl, hm, hmm, hx, hc⟩
  · injection h1 with h1
    subst h1
    exact ⟨none, 0, 0, fun _ => .nilIface, fun _ => .nilIface, rfl, by simp [maxLen], Nat.le_refl _, ER.nil _ _ _ _ _, fun i hi => absurd hi (by omega)⟩
  · injection h1 with h1
    subst h1
    simp only [if_true] at hmm
    subst hmm
    refine ⟨some a, len, m, V0, V1, rfl, by omega, hl, fun hn => ?_, fun i hi => ?_⟩
    · have h0 := (hc 0 (by omega)).1
      obtain ⟨b, off, spot⟩ := a
      have hsp : spot = none := by simpa [Addr.add] using World.cell?_spot h0
      subst hsp
      refine ⟨b, off, rfl, ?_, fun k i hk hi => ?_⟩
      · have hb1 := hlt (.cell b (off + 0)) (by
          rw [hx]
          exact List.mem_append_left _ (MemPlace.mem_row.2 ⟨0, by omega, rfl⟩))
        exact hb1
      · have hk2 := hc k (by omega)
        have q0 := hk2.1
        have q1 := hk2.2.1
        rw [add_lit'] at q0 q1
        rcases (by omega : i = 0 ∨ i = 1) with rfl | rfl
        · simpa using q0
        · simpa [Nat.add_assoc] using q1
    · have hi2 := hc i (by omega)
      refine ⟨n, _, _, hi2.2.2.1, hi2.2.2.2, fun y hy => hlt y ?_, fun y hy => hlt y ?_⟩
      · rw [hx]; exact List.mem_append_right _ (List.mem_flatMap.2 ⟨i, by simp; omega, List.mem_append_left _ hy⟩)
      · rw [hx]; exact List.mem_append_right _ (List.mem_flatMap.2 ⟨i, by simp; omega, List.mem_append_right _ hy⟩)
/-- a slice of ints -/
theorem open_ints_c {W : World} {t : TypeId} {v : Value} {x : DataW H × List MemPlace} {fuel : Nat} (ht : Tryd.prog.underlying t = some (.slice 3))
    (h : DataW.trod enc Tryd.prog W 0 (fun _ => true) true fuel t [v] = some x) (hlt : ∀ y ∈ x.2, y.block < W.heap.size) :
    ∃ A n c z, v = .slice A n c ∧ n ≤ maxLen ∧ n ≤ c ∧ IR W W.heap.size A n z ∧ ∀ i, i < n → -9223372036854775808 ≤ z i ∧ z i ≤ 9223372036854775807 := by
  rcases open_ints ht Tryd.underlying3 (by kernel_rfl) h with ⟨h1, -⟩ | ⟨a, len, cap, zs, h1, hb, hl, hm, hz, hx, hc, hwf⟩
  · injection h1 with h1
    subst h1
    exact ⟨none, 0, 0, fun _ => 0, rfl, by simp [maxLen], Nat.le_refl _, ER.nil _ _ _ _ _, fun i hi => absurd hi (by omega)⟩
  · injection h1 with h1
    subst h1
    simp only [if_true] at hz
    refine ⟨some a, len, cap, fun i => zs.getD i 0, rfl, by omega, hl, fun hn => ?_, fun i hi => ?_⟩
    · have h0 := hc 0 (by omega)
      obtain ⟨b, off, spot⟩ := a
      have hsp : spot = none := by simpa [Addr.add] using World.cell?_spot h0
      subst hsp
      refine ⟨b, off, rfl, ?_, fun k i hk hi => ?_⟩
      · have hb1 := hlt (.cell b (off + 0)) (by
          rw [hx]
          exact MemPlace.mem_row.2 ⟨0, by omega, rfl⟩)
        exact hb1
      · obtain rfl : i = 0 := by omega
        have := hc k (by omega)
        rw [add_lit'] at this
        simpa using this
    · have h1 : zs.getD i 0 ∈ zs := by
        rw [List.getD_eq_getElem?_getD, List.getElem?_eq_getElem (by omega)]
        exact List.getElem_mem _
      have := hwf _ h1
      simp only [Lit.wf, Bool.and_eq_true, decide_eq_true_eq] at this
      simpa [IntKind.min, IntKind.max, IntKind.signed, IntKind.bits] using this
theorem int_of_trod {W : World} {t : TypeId} {v : Value} {x : DataW H × List MemPlace} {fuel : Nat} (ht : Tryd.prog.underlying t = some (.int .i64)) (h : DataW.trod enc Tryd.prog W 0 (fun _ => true) true fuel t [v] = some x) :
    v = .int .i64 (intOf v) ∧ -9223372036854775808 ≤ intOf v ∧ intOf v ≤ 9223372036854775807 := by
  obtain ⟨z, hz, -, hw⟩ := DataW.trod_int ht h
  injection hz with hz
  subst hz
  simp only [Lit.wf, Bool.and_eq_true, decide_eq_true_eq] at hw
  exact ⟨rfl, by simpa [intOf, IntKind.min, IntKind.max, IntKind.signed, IntKind.bits] using hw⟩
theorem cells_slice {A : Option Addr} {n c : Nat} : (Value.slice A n c).cells.toList = [.slice A n c] := rfl
/-- a slice of structs of two ints -/
theorem open_pairs {r : Reach} {b0 : Nat} {W : World} {t e : TypeId} {f0 f1 : Field} {v : Value} {d : DataW H} {p : List MemPlace} (ht : Tryd.prog.underlying t = some (.slice e)) (he : Tryd.prog.underlying e = some (.struct #[f0, f1]))
    (ce : Tryd.prog.cellsOf e = 2) (o0 : f0.offset = 0) (o1 : f1.offset = 1) (c0 : Tryd.prog.cellsOf f0.type = 1) (c1 : Tryd.prog.cellsOf f1.type = 1)
    (k0 : Tryd.prog.underlying f0.type = some (.int .i64)) (k1 : Tryd.prog.underlying f1.type = some (.int .i64)) (hval : Value.okWide Tryd.prog W r b0 t v)
    (h : DataW.Trod enc Tryd.prog W 0 (fun _ => true) true t v d p) (hlt : ∀ x ∈ p, x.block < W.heap.size) :
    ∃ A n c x y, v = .slice A n c ∧ n ≤ maxLen ∧ n ≤ c ∧ PI W W.heap.size A n x y := by
  obtain ⟨fuel, h⟩ := h
  obtain ⟨A, n, c, rfl⟩ := okWide_slice ht hval
  rw [cells_slice] at h
  obtain ⟨A', n', c', V0, V1, h1, hn, hnc, hP, hV⟩ := open_pairs_c ht he ce o0 o1 c0 c1 h hlt
  injection h1 with h1 h2 h3
  subst h1 h2 h3
  refine ⟨A, n, c, fun i => intOf (V0 i), fun i => intOf (V1 i), rfl, hn, hnc, fun hn0 => ?_⟩
  obtain ⟨b, off, hA, hb, hc⟩ := hP hn0
  refine ⟨b, off, hA, hb, fun k i hk hi => ?_⟩
  obtain ⟨m, x0, x1, g0, g1, -, -⟩ := hV k hk
  rw [hc k i hk hi]
  rcases (by omega : i = 0 ∨ i = 1) with rfl | rfl
  · simpa using (int_of_trod k0 g0).1
  · simpa using (int_of_trod k1 g1).1
end
end Go.Proofs.YtmpegkojencbjaaDoor
/- School: a law's arguments opened: texts. -/
namespace Go.Proofs.YtmpegkojencbjaaDoor
open Go Go.RowKit Go.ChangeShapes Go.WideShapes Go.ChangeAt
section
variable {H : Type} {enc : TypeId × Value → H} {r : Reach} {b0 : Nat} {W : World} {v : Value} {d : DataW H} {p : List MemPlace}
set_option maxRecDepth 100000
theorem open_words (hval : Value.okWide Tryd.prog W r b0 22 v) (h : DataW.Trod enc Tryd.prog W 0 (fun _ => true) true 22 v d p) (hlt : ∀ x ∈ p, x.block < W.heap.size) :
    ∃ (A : Option Addr) (c : Nat) (l : List Wd), v = .slice A l.length c ∧ SzOk l ∧ SR W W.heap.size A l := by
  obtain ⟨fuel, h⟩ := h
  obtain ⟨A, n, c, rfl⟩ := okWide_slice Tryd.underlying22 hval
  rw [cells_slice] at h
  rcases open_strings Tryd.underlying22 Tryd.underlying9 (by kernel_rfl) h with ⟨h1, -⟩ | ⟨a, len, cap, ss, h1, -, hl, hm, hz, hx, hc, hsz⟩
  · injection h1 with h1
    injection h1 with h1 h2 h3
    subst h1 h2 h3
    exact ⟨none, 0, [], rfl, ⟨Nat.zero_le _, fun x hx => absurd hx (by simp)⟩, ER.nil _ _ _ _ _⟩
  · injection h1 with h1
    injection h1 with h1 h2 h3
    subst h1 h2 h3
    simp only [if_true] at hz
    have hlen : (ss.take n).length = n := by rw [List.length_take]; omega
    refine ⟨some a, c, ss.take n, by rw [hlen], ⟨by omega, fun x hx => hsz x (List.mem_of_mem_take hx)⟩, ?_⟩
    unfold SR
    rw [hlen]
    refine fun hn => ?_
    have h0 := hc 0 (by omega)
    obtain ⟨b, off, spot⟩ := a
    have hsp : spot = none := by simpa [Addr.add] using World.cell?_spot h0
    subst hsp
    refine ⟨b, off, rfl, ?_, fun k i hk hi => ?_⟩
    · have hb1 := hlt (.cell b (off + 0)) (by
        rw [(Prod.mk.inj hx).2]
        exact MemPlace.mem_row.2 ⟨0, by omega, rfl⟩)
      exact hb1
    · obtain rfl : i = 0 := by omega
      have h2 := hc k (by omega)
      rw [add_lit'] at h2
      have h3 : (ss.take n).getD k noW = ss.getD k ByteArray.empty := by
        simp [List.getD_eq_getElem?_getD, List.getElem?_take, hk, noW]
        rfl
      show W.cell? ⟨b, off + k * 1 + 0, none⟩ = some (.string ((ss.take n).getD k noW))
      rw [h3]
      simpa using h2
end
end Go.Proofs.YtmpegkojencbjaaDoor
namespace Go.Proofs.YtmpegkojencbjaaDoor.schoolAligns
open Go Go.ChangeShapes Go.WideShapes Go.ChangeAt Go.RowKit
set_option maxRecDepth 100000 in
theorem lifted (os : Os) (started : os.Started) (H : Type) (enc : TypeId × Value → H) :
    ReturnsInHanded {} Tryd.checked os 3 .any (fun w args => (Rows.schoolAlignsSpec.pre enc Tryd.prog Tryd.f3 Rows.schoolAlignsRow.domain false w args ∧ laidMetH Tryd.prog Rows.schoolAlignsRow.laid w) ∧ sizedMet enc Tryd.prog Tryd.f3 (OpenSpec.ofChange Rows.schoolAlignsSpec) false w args)
      (Rows.schoolAlignsSpec.post enc Tryd.prog Tryd.f3 false true false false) := by
  refine returnsInHanded_of_change_and (C := Tryd.checked) (X := fun w _ => laidMetH Tryd.prog Rows.schoolAlignsRow.laid w) (fun _ _ _ hh h => h.of_heap hh) own_knob started (by kernel_rfl) Tryd.func3
    (ChangeSpec.witness_shaped (enc := enc) (C := Tryd.checked) (os := os) (X := fun w _ => laidMetH Tryd.prog Rows.schoolAlignsRow.laid w) false (World.laidAll Tryd.prog os Rows.schoolAlignsRow.laid) #[.slice none 0 0, .slice none 0 0] 8 (World.laidAll_os _ _ _)
      (World.shaped_of_ZipB (by kernel_rfl) (by kernel_rfl)) (by kernel_rfl) (by kernel_rfl) (by kernel_rfl)
      (by rw [MakeChecks.laidMetH_plain _ _ _ (by kernel_rfl)]; exact laidMet_laidAll _ (by kernel_rfl) (by kernel_rfl))) ?_
  intro W base args ds gs before hval0 hW _ _ hL _
  have hval : ∀ (j : Nat) t v, Tryd.f3.params[j]? = some t → args[j]? = some v → Value.okWide Tryd.prog W .any base t v := hval0
  have hW' := hW
  have hlt : ∀ p ∈ before, p.block < W.heap.size := fun p hp => hW.lt p hp
  obtain ⟨p, q, hA0, hV, rfl, hfz, hnd⟩ := hW
  have hA : DataW.TrodAll enc Tryd.prog W 0 (fun _ => true) true Tryd.f3.params.toList args.toList ds p := hA0
  rw [Tryd.params3] at hA hval
  obtain ⟨v0, vs0, d0, ds0, p0, q0, hargs, rfl, rfl, h0, r0⟩ := trodAll_cons hA
  obtain ⟨v1, vs1, d1, ds1, p1, q1, rfl, rfl, rfl, h1, r1⟩ := trodAll_cons r0
  obtain ⟨rfl, rfl, rfl⟩ := trodAll_nil r1
  obtain rfl : args = #[v0, v1] := by cases args; simp_all
  obtain ⟨rfl, rfl⟩ := trodVars_none hV
  have k0 := hval 0 22 v0 rfl rfl
  have k1 := hval 1 22 v1 rfl rfl
  obtain ⟨A0, c0, l0, rfl, z0, s0⟩ := open_words k0 h0 (fun x hx => hlt x (by simp [hx]))
  obtain ⟨A1, c1, l1, rfl, z1, s1⟩ := open_words k1 h1 (fun x hx => hlt x (by simp [hx]))
  clear hA0 hval0
  refine (aligns_any A0 A1 c0 c1 l0 l1 W z0 z1 s0 s1).mono fun e W' ⟨he, hb⟩ => ?_
  subst he
  exact ⟨_, rfl, law_post hW' hb rfl rfl (by kernel_rfl) ⟨rfl, rfl, rfl⟩⟩
theorem over : Rows.schoolAlignsRow.holds Tryd.pinned (OpenSpec.ofChange Rows.schoolAlignsSpec) :=
  OpenClaim.holds_of_wide 3 Tryd.f3 rfl rfl rfl rfl rfl rfl rfl ⟨rfl, rfl, rfl, rfl, rfl⟩ rfl rfl rfl rfl rfl (by kernel_rfl) Tryd.func3 (by kernel_rfl)
    (of_decide_eq_true (by kernel_rfl)) (by unfold Func.isWrapper; first | (rw [if_pos (by decide +kernel)]; kernel_rfl) | (rw [if_neg (by decide +kernel)]; exact ⟨rfl, rfl⟩))
    (fun os started H enc _ => lifted os started H enc)
theorem proved : Rows.SchoolAlignsCardSaid :=
  Claim7.holds_tied_plain_at .later [] [.data, .pinned] true (true, "de0e8bac062d770159938a4787e32507ef436192cdeecd4cdeadb3815a38d22b") false over (fun _ h => by cases h) (by kernel_rfl) (fun _ h => by cases h) schoolAligns_row_tie rfl ⟨rfl, rfl⟩ (by kernel_rfl) rfl
    (fun f fn hf hfn => by
      obtain rfl : f = 3 := Option.some.inj ((show Tryd.prog.funcNamed "chiti/chitilaw11.SchoolAligns" = some 3 by kernel_rfl).symm.trans hf) |>.symm
      obtain rfl : fn = Tryd.f3 := (Option.some.inj (Tryd.func3.symm.trans hfn)).symm
      exact ⟨by kernel_rfl, fun j t ht => by
        rw [Tryd.params3] at ht
        have hm : t ∈ ([22] : List TypeId) := by simpa using Array.mem_of_getElem? ht
        have hall : (([22] : List TypeId).all fun u => !Tryd.prog.wantsStandIn u) = true := by kernel_rfl
        exact (show Tryd.prog.wantsStandIn t = false by simpa using List.all_eq_true.1 hall t hm)⟩)
    (by kernel_rfl)
#print axioms proved
end Go.Proofs.YtmpegkojencbjaaDoor.schoolAligns
