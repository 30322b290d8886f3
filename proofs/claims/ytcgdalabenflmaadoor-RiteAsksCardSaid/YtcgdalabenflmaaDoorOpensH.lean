/- Rite: the law RiteAsks: the row and the tied card. -/
import Derived.Test.YtcgdalabenflmaaDoorOpensG
import Derived.Test.YtcgdalabenflmaaDoorRows
import Derived.ProofKit
import Derived.OpenShut
import Derived.Carry
import Derived.ChangeSame
import Derived.Deep.SlicePairs
import Derived.ChangeSlices
import Derived.Deep.Fields
import Derived.Lib.LaidU8
import Derived.MakeChecks
import Derived.Test.YtcgdalabenflmaaDoorCards
import Derived.Test.YtcgdalabenflmaaDoorTie
import Derived.LaidMore
import Derived.Lay
import Derived.SevenTiedAt
import Derived.Stop.Joined
set_option linter.unusedSimpArgs false
set_option linter.unusedVariables false
set_option linter.unnecessarySimpa false
/- Rite, the reference: Hopeless. -/
namespace Go.Proofs.YtcgdalabenflmaaDoor
open List renaming getElem_toArray → glA, getElem_cons_zero → glB, getElem_cons_succ → glC, setIfInBounds_toArray → glD, set_cons_zero → glE, set_cons_succ → glF
open Go Go.RowKit Go.Shelf
set_option maxHeartbeats 8000000
set_option maxRecDepth 100000
theorem dn_upd {X Y a : Nat} {b : Bool} (ha : a < 10) (h : ∀ j, j < 10 → dB Y j = if j = a then b else dB X j) : (#[.bool (dB X 0), .bool (dB X 1), .bool (dB X 2), .bool (dB X 3), .bool (dB X 4), .bool (dB X 5), .bool (dB X 6), .bool (dB X 7), .bool (dB X 8), .bool (dB X 9)] : Array Value).setIfInBounds a (.bool b) = #[.bool (dB Y 0), .bool (dB Y 1), .bool (dB Y 2), .bool (dB Y 3), .bool (dB Y 4), .bool (dB Y 5), .bool (dB Y 6), .bool (dB Y 7), .bool (dB Y 8), .bool (dB Y 9)] := by
  rw [h 0 (by omega), h 1 (by omega), h 2 (by omega), h 3 (by omega), h 4 (by omega), h 5 (by omega), h 6 (by omega), h 7 (by omega), h 8 (by omega), h 9 (by omega)]
  rcases (by omega : a = 0 ∨ a = 1 ∨ a = 2 ∨ a = 3 ∨ a = 4 ∨ a = 5 ∨ a = 6 ∨ a = 7 ∨ a = 8 ∨ a = 9) with rfl | rfl | rfl | rfl | rfl | rfl | rfl | rfl | rfl | rfl <;> simp
/-- what lies while lost acts are told -/
structure HpI (w W : World) (G T : Nat) (cs : Array Value) (D X : Nat) : Prop where
  lo : Below w.heap.size w W
  kG : Blk W G 24 cs
  kD : Blk W (G + 1) 37 #[.bool (dB D 0), .bool (dB D 1), .bool (dB D 2), .bool (dB D 3), .bool (dB D 4), .bool (dB D 5), .bool (dB D 6), .bool (dB D 7), .bool (dB D 8), .bool (dB D 9)]
  kT : Blk W T 37 #[.bool (dB X 0), .bool (dB X 1), .bool (dB X 2), .bool (dB X 3), .bool (dB X 4), .bool (dB X 5), .bool (dB X 6), .bool (dB X 7), .bool (dB X 8), .bool (dB X 9)]
  ne : G + 1 ≠ T
  hT : w.heap.size ≤ T
theorem HpI.ext {w W W' : World} {G T : Nat} {cs : Array Value} {D X : Nat} (h : HpI w W G T cs D X) (hb : Below W.heap.size W W') : HpI w W' G T cs D X :=
  ⟨h.lo.trans (hb.mono h.lo.size), h.kG.ext hb, h.kD.ext hb, h.kT.ext hb, h.ne, h.hT⟩
theorem HpI.put {w W : World} {G T : Nat} {cs : Array Value} {D X : Nat} (h : HpI w W G T cs D X) {a : Nat} {b : Bool} (ha : a < 10) {Y : Nat} (hY : ∀ j, j < 10 → dB Y j = if j = a then b else dB X j) : HpI w (W.setCell ⟨T, a, none⟩ (.bool b)) G T cs D Y :=
  ⟨h.lo.setCell (p := ⟨T, a, none⟩) h.hT _, h.kG.far (p := ⟨T, a, none⟩) (h.kG.ne_ h.kT (by decide)) _, h.kD.far (p := ⟨T, a, none⟩) h.ne _, by rw [← dn_upd ha hY]; exact h.kT.set_ a _, h.ne, h.hT⟩
/-- the set that a block tells -/
def rdX (T : Nat) (W : World) : Nat := mkS (fun i => match W.cell? ⟨T, i, none⟩ with | some (.bool b) => b | _ => false) 10
theorem rdX_eq {W : World} {T X : Nat} (h : Blk W T 37 #[.bool (dB X 0), .bool (dB X 1), .bool (dB X 2), .bool (dB X 3), .bool (dB X 4), .bool (dB X 5), .bool (dB X 6), .bool (dB X 7), .bool (dB X 8), .bool (dB X 9)]) (hX : ∀ i, 10 ≤ i → X.testBit i = false) : rdX T W = X := by
  refine Nat.eq_of_testBit_eq fun i => ?_
  unfold rdX
  rw [mkS_bit]
  by_cases hi : i < 10
  · rw [dn_cell h hi, decide_eq_true hi]; rfl
  · rw [decide_eq_false hi, hX i (by omega)]; rfl
theorem hp_boxes (w : World) (cs : Array Value) (D : Nat) : ∃ w2, (w.alloc (.cells cs 24)).alloc (.cells #[.bool (dB D 0), .bool (dB D 1), .bool (dB D 2), .bool (dB D 3), .bool (dB D 4), .bool (dB D 5), .bool (dB D 6), .bool (dB D 7), .bool (dB D 8), .bool (dB D 9)] 37) = w2 ∧ ∃ w3, (Instr.storeAt 37 (.pointer (some ⟨w2.heap.size, 0, none⟩)) (.agg #[.bool false, .bool false, .bool false, .bool false, .bool false, .bool false, .bool false, .bool false, .bool false, .bool false])).run Tryd.prog (w2.alloc (.cells #[.bool false, .bool false, .bool false, .bool false, .bool false, .bool false, .bool false, .bool false, .bool false, .bool false] 37)) = .ok () w3 ∧ HpI w w3 w.heap.size w2.heap.size cs D 0 := by
  obtain ⟨w1, w2, hw1, hw2, hs1, k1, k2, hbb⟩ := two_boxes w cs D
  have hs2 : w2.heap.size = w.heap.size + 2 := by rw [← hw2]; simp [hs1]
  refine ⟨w2, by rw [hw1, hw2], ?_⟩
  have hb3 : Below w2.heap.size w2 (w2.alloc (.cells #[.bool false, .bool false, .bool false, .bool false, .bool false, .bool false, .bool false, .bool false, .bool false, .bool false] 37)) := (Below.refl _ _).alloc (Nat.le_refl _) _
  obtain ⟨wS, hrun, hKS, hBS, -⟩ := store_blk (P := Tryd.prog) (ty := 37) (cells := #[.bool false, .bool false, .bool false, .bool false, .bool false, .bool false, .bool false, .bool false, .bool false, .bool false]) (Blk.new w2 37 #[.bool false, .bool false, .bool false, .bool false, .bool false, .bool false, .bool false, .bool false, .bool false, .bool false]) rfl (by kernel_rfl) (by simp [Value.oneCell'])
  have hb4 := hBS _ _ hb3 (Nat.le_refl _)
  exact ⟨wS, hrun, hbb.trans (hb4.mono (by omega)), k1.ext hb4, k2.ext hb4, hKS, by omega, by omega⟩
theorem OwnJ.made1 (W : World) (x : Int) : OwnJ (W.alloc (.cells #[.int .i64 x] 3)) W.heap.size (.slice (some ⟨W.heap.size, 0, none⟩) 1 1) [x] :=
  ⟨by simp [intJ], .inr ⟨W.heap.size, 1, #[.int .i64 x], rfl, Nat.le_refl _, heap_alloc_new W _, Nat.le_refl _, by unfold maxLen; omega, rfl, by simp [intJ]⟩⟩
/-- the ways of an act as they lie -/
structure WyI (W : World) (T wb wo : Nat) (L : List Int) : Prop where
  lt : wb < W.heap.size
  ne : wb ≠ T
  at_ : ∀ k, k < L.length → W.cell? ⟨wb, wo + k, none⟩ = some (.int .i64 (L.getD k 0))
theorem WyI.ext {W W' : World} {T wb wo : Nat} {L : List Int} (h : WyI W T wb wo L) (hb : Below W.heap.size W W') : WyI W' T wb wo L :=
  ⟨Nat.lt_of_lt_of_le h.lt hb.size, h.ne, fun k hk => (hb.cell (p := ⟨wb, wo + k, none⟩) h.lt).trans (h.at_ k hk)⟩
theorem WyI.put {W : World} {T wb wo : Nat} {L : List Int} (h : WyI W T wb wo L) (a : Nat) (u : Value) : WyI (W.setCell ⟨T, a, none⟩ u) T wb wo L :=
  ⟨by rw [size_set]; exact h.lt, h.ne, fun k hk => (World.cell?_of_block (Below.heap_setCell W ⟨T, a, none⟩ u wb h.ne)).trans (h.at_ k hk)⟩
theorem WyI.of {W : World} {n0 T : Nat} {A : Option Addr} {n c : Nat} {L : List Int} (h : OwnJ W n0 (.slice A n c) L) (hn : 0 < L.length) (hT : T < n0) : ∃ wb wo, A = some ⟨wb, wo, none⟩ ∧ WyI W T wb wo L := by
  obtain ⟨wb, wo, rfl, hlt, hc⟩ := VR1.allR h.li.2 hn
  have := (World.ownsRow.lt h wb rfl).1
  exact ⟨wb, wo, rfl, hlt, by omega, hc⟩
def boV : Value → Nat
  | .bool true => 1
  | _ => 0
theorem unl_bit {r : Rit} {D i j : Nat} {s : Bool} (hs : seB r D i = s) : dB (mkS (fun j => !seB r D j) (i + 1)) j = if j = i then !s else dB (mkS (fun j => !seB r D j) i) j := by
  unfold dB
  rw [mkS_bit, mkS_bit]
  by_cases h : j = i
  · subst h
    rw [if_pos rfl, hs, decide_eq_true (show j < j + 1 by omega), Bool.true_and]
  · rw [if_neg h]
    by_cases h2 : j < i
    · rw [decide_eq_true h2, decide_eq_true (show j < i + 1 by omega)]
    · rw [decide_eq_false h2, decide_eq_false (show ¬ j < i + 1 by omega)]
theorem clr_bit {X i j : Nat} (hX : X < 65536) : dB (anN X (2 ^ i)) j = if j = i then false else dB X j := by
  unfold dB
  rw [an_one hX]
  by_cases h : j = i
  · subst h; simp
  · rw [if_neg h, decide_eq_false (fun e => h e.symm)]; simp
theorem refHopeless_any (d : Rad) (r : Rit) (D : Nat) (day : Int) (w : World) (hd : RtR w d r) (hr : RiOk r) (hz : RtZ r) :
    Calls Tryd.prog 26 #[.agg #[.slice d.A r.n d.c, .int .i64 r.last, .int .i64 r.toil], .agg #[.bool (dB D 0), .bool (dB D 1), .bool (dB D 2), .bool (dB D 3), .bool (dB D 4), .bool (dB D 5), .bool (dB D 6), .bool (dB D 7), .bool (dB D 8), .bool (dB D 9)], .int .i64 day] w fun e w' => ∃ B bc, e = .returned (.slice B (ofN (elS (hpS r ⟨D, day, 0⟩))).length bc) ∧ LI w' w'.heap.size B (ofN (elS (hpS r ⟨D, day, 0⟩))) ∧ Below w.heap.size w w' := by
  have HSE := hide (fun act (hact : act < r.n) W (h : RtR W d r) => refSettled_any d r D act W h hr hz hact)
  obtain ⟨w2, hw2, w3, hw3, hf⟩ := hp_boxes w #[.slice d.A r.n d.c, .int .i64 r.last, .int .i64 r.toil] D
  have HRD := hide (fun W (h : Below w.heap.size w W) => hd.ext h)
  have HRO := hide hr
  have HZ := hide hz
  have hn10 := hr.n10
  obtain ⟨X9, hX9⟩ : ∃ x, hpS r ⟨D, day, 0⟩ = x := ⟨_, rfl⟩
  have HX9 := hide hX9
  rw [hX9]
  obtain ⟨n, hn⟩ : ∃ x, r.n = x := ⟨_, rfl⟩
  obtain ⟨la, hla⟩ : ∃ x, r.last = x := ⟨_, rfl⟩
  obtain ⟨tl, htl⟩ : ∃ x, r.toil = x := ⟨_, rfl⟩
  obtain ⟨ab, ao, hra, hal, hrow⟩ := hd.row (by have := hr.n1; omega)
  have HAC : Hid (∀ W, Below w.heap.size w W → ∀ y, y < n → W.cell? ⟨ab, ao + y * 7 + 1, none⟩ = some (.slice (d.na y) (r.ac y).nd.length (d.nc y)) ∧ W.cell? ⟨ab, ao + y * 7 + 2, none⟩ = some (.slice (d.ia y) (r.ac y).ins.length (d.ic y)) ∧ W.cell? ⟨ab, ao + y * 7 + 3, none⟩ = some (.int .i64 (r.ac y).at_) ∧ W.cell? ⟨ab, ao + y * 7 + 5, none⟩ = some (.int .i64 (r.ac y).to_)) := hide fun W h y hy =>
    ⟨(h.cell (p := ⟨ab, ao + y * 7 + 1, none⟩) hal).trans (hrow y 1 (by rw [hn]; exact hy) (by omega)), (h.cell (p := ⟨ab, ao + y * 7 + 2, none⟩) hal).trans (hrow y 2 (by rw [hn]; exact hy) (by omega)), (h.cell (p := ⟨ab, ao + y * 7 + 3, none⟩) hal).trans (hrow y 3 (by rw [hn]; exact hy) (by omega)), (h.cell (p := ⟨ab, ao + y * 7 + 5, none⟩) hal).trans (hrow y 5 (by rw [hn]; exact hy) (by omega))⟩
  have HN := hide hn
  rw [hn] at hn10
  rw [hra, hn, hla, htl] at hw2 hf HSE
  rw [hra, hn, hla, htl]
  have HI := hide hf
  have HRUN := hide hw3
  have HAL := hide hal
  clear hd hr hz hX9 hn hla htl hrow hf hw3 hal hra
  go_enter Tryd.func26, Tryd.ntmps26
  go_upto_region 1 with fail
  (try rw [hw2])
  clear hw2
  obtain ⟨G, hG⟩ : ∃ x, w.heap.size = x := ⟨_, rfl⟩
  obtain ⟨T, hT⟩ : ∃ x, w2.heap.size = x := ⟨_, rfl⟩
  rw [hT, hG] at HI
  rw [hT] at HRUN
  (try rw [hG])
  clear hG
  go_wp2_with (refine wpList_store_run rfl 37 (.tmp 7) (.tmp 17) rfl rfl rfl HRUN.out ?_)
  clear hT HRUN
  generalize hcs : #[Value.slice (some ⟨ab, ao, none⟩) n d.c, Value.int IntKind.i64 la, Value.int IntKind.i64 tl] = cs at HI
  have HCS := hide hcs.symm
  clear hcs
  go_loopw [8] (fun z wr => ∃ i : Nat, i ≤ n ∧ z = .int .i64 i ∧ Hid (HpI w wr G T cs D (mkS (fun j => !seB r D j) i))) (fun z _ => n - (intOf z).toNat)
  case atStart => exact ⟨0, Nat.zero_le _, rfl, by
    have : mkS (fun j => !seB r D j) 0 = 0 := Nat.eq_of_testBit_eq fun j => by rw [mkS_bit, decide_eq_false (by omega), Nat.zero_testBit]; rfl
    rw [this]; exact HI⟩
  clear HI
  case round =>
    obtain ⟨i, hi, rfl, HI⟩ := hrel
    have hst : IntKind.i64.wrap ((i : Int) + 1) = ((i + 1 : Nat) : Int) := by rw [IntWalk.i64_in _ (by omega)]; omega
    obtain ⟨-, g0, g1, g2, -⟩ := blk3 (by have := HI.out.kG; rw [HCS.out] at this; exact this)
    by_cases hlt : i < n
    · have hlt' : (i : Int) < (n : Int) := by omega
      have hi9 : i < 10 := by omega
      have hi9' : (i : Int) < 10 := by omega
      obtain ⟨x0, x1, x2, x3, x4, x5, x6, x7, x8, x9⟩ := bx10 HI.out.kD
      obtain ⟨s, hs⟩ : ∃ x, seB r D i = x := ⟨_, rfl⟩
      have HS := hide (HSE.out i hlt wr (HRD.out wr HI.out.lo))
      rw [hs] at HS
      have HBT : Hid (∀ j, dB (mkS (fun j => !seB r D j) (i + 1)) j = if j = i then !s else dB (mkS (fun j => !seB r D j) i) j) := hide fun j => unl_bit hs
      clear hs
      go_wp2_with fail
      refine HS.out.mono ?_
      rintro e wa ⟨rfl, hba⟩
      replace HI := hide (HI.out.ext hba)
      clear hba HS x0 x1 x2 x3 x4 x5 x6 x7 x8 x9 g0 g1 g2
      have q0 := dn_cell HI.out.kT hi9
      have q1 := HI.out.kT.frozen i
      have HI2 := hide (HI.out.put hi9 (fun j _ => HBT.out j))
      go_wp2_with fail
      go_roundw
      case rel => exact ⟨i + 1, by omega, by go_num, HI2⟩
      case measure => simp [intOf]; omega
    · obtain rfl : n = i := by omega
      have hnl : ¬ (n : Int) < (n : Int) := by omega
      have HB0 : Hid (HpI w wr G T cs D (hpB r D)) := hide (by rw [← unl_eq HRO.out, HN.out]; exact HI.out)
      clear HI
      go_wp2_with fail
      clear g0 g1 g2 hst hlt hnl hi
      go_loopw [9] (fun v wr => ∃ (X : Nat) (c : Bool), v = .bool c ∧ Hid (HoI r D day X) ∧ Hid (c = false → StaS r day X) ∧ Hid (HpI w wr G T cs D X)) (fun v wr => 2 * rdX T wr + boV v)
      case atStart => exact ⟨_, true, rfl, hide (HoI.init r D day), hide (fun h => by cases h), HB0⟩
      clear HB0
      case round =>
        obtain ⟨X, c, rfl, HH, HST, HI⟩ := hrel
        cases c with
        | false =>
          have HXE : Hid (X = X9) := hide (by rw [← HX9.out]; exact HH.out.hp (HST.out rfl))
          obtain rfl := HXE.out
          have HLE : Hid (fiL X.testBit n = ofN (elS X)) := hide (by
            rw [fiL_mk _ (by omega)]
            have e : mkS X.testBit n = X := Nat.eq_of_testBit_eq fun i => by
              rw [mkS_bit]
              rcases h : X.testBit i with _ | _
              · simp
              · have := HH.out.n HRO.out h; rw [HN.out] at this; rw [decide_eq_true this]; rfl
            rw [e])
          clear HST HXE HX9
          have hbT : Below wr.heap.size wr (wr.alloc (.cells #[] 3)) := (Below.refl _ _).alloc (Nat.le_refl _) _
          have HO0 := hide (OwnJ.made0 wr)
          have HBT := hide hbT
          clear hbT
          obtain ⟨wS, hwS⟩ : ∃ x, x = wr := ⟨_, rfl⟩
          rw [← hwS] at HI HO0 HBT ⊢
          clear hwS
          go_wp2_with fail
          generalize wS.alloc (.cells #[] 3) = wT at HO0 HBT ⊢
          go_loopw [15, 16] (fun x z wr => ∃ (i : Nat) (B : Option Addr) (bc : Nat), i ≤ n ∧ z = .int .i64 i ∧ x = .slice B (fiL X.testBit i).length bc ∧ Hid (OwnJ wr wS.heap.size (.slice B (fiL X.testBit i).length bc) (fiL X.testBit i)) ∧ Hid (Below wS.heap.size wS wr)) (fun _ z _ => n - (intOf z).toNat)
          case atStart => exact ⟨0, _, _, Nat.zero_le _, rfl, rfl, HO0, HBT⟩
          case round =>
            obtain ⟨i, B, bc, hi, rfl, rfl, HO, HB⟩ := hrel
            have hst : IntKind.i64.wrap ((i : Int) + 1) = ((i + 1 : Nat) : Int) := by rw [IntWalk.i64_in _ (by omega)]; omega
            obtain ⟨-, g0, -⟩ := blk3 (by have := (HI.out.ext HB.out).kG; rw [HCS.out] at this; exact this)
            by_cases hlt : i < n
            · have hlt' : (i : Int) < (n : Int) := by omega
              have hi9 : i < 10 := by omega
              have hi9' : (i : Int) < 10 := by omega
              have q0 := dn_cell (HI.out.ext HB.out).kT hi9
              rcases hXi : dB X i with _ | _
              · rw [hXi] at q0
                have hfs : fiL X.testBit (i + 1) = fiL X.testBit i := by rw [fiL_succ, if_neg (by rw [show X.testBit i = false from hXi]; decide)]
                have HFS := hide hfs
                clear hXi hfs
                go_wp2_with fail
                go_roundw
                case rel => exact ⟨i + 1, B, bc, by omega, by go_num, by rw [HFS.out], hide (by rw [HFS.out]; exact HO.out), HB⟩
                case measure => simp [intOf]; omega
              · rw [hXi] at q0
                have hfl := fiL_len X.testBit i
                have hfs : fiL X.testBit (i + 1) = fiL X.testBit i ++ [(i : Int)] := by rw [fiL_succ, if_pos (show X.testBit i = true from hXi)]
                obtain ⟨v9, w9, hrun, ho9, hg9⟩ := HO.out.push (i : Int) (by omega) HB.out.size
                have hbA : Below wr.heap.size wr (wr.alloc (.cells #[.int .i64 i] 3)) := (Below.refl _ _).alloc (Nat.le_refl _) _
                have hb9 : Below wS.heap.size wS w9 := (HB.out.trans (hbA.mono HB.out.size)).grown hg9 (Nat.le_trans HB.out.size hbA.size) (fun j e => (World.ownsRow.lt HO.out j e).1)
                obtain ⟨A9, c9, rfl⟩ := own_shape ho9
                rw [← hfs] at ho9 hrun
                have HRUN := hide hrun
                have HO9 := hide ho9
                have HB9 := hide hb9
                clear hrun ho9 hg9 hbA hb9 hfl hfs hXi
                go_wp2_with (at_builtin; refine wpList_append_run rfl (.tmp 132) (.tmp 134) 48 rfl rfl rfl HRUN.out ?_)
                go_roundw
                case rel => exact ⟨i + 1, A9, c9, by omega, by go_num, rfl, HO9, HB9⟩
                case measure => simp [intOf]; omega
            · obtain rfl : n = i := by omega
              have hnl : ¬ (n : Int) < (n : Int) := by omega
              have hli := HO.out.li.2
              rw [HLE.out] at hli ⊢
              have HLI := hide hli
              clear hli
              go_wp2_with fail
              go_ret
              exact ⟨B, ⟨bc, rfl⟩, HLI.out, HI.out.lo.trans (HB.out.mono HI.out.lo.size)⟩
        | true =>
          have HRX : Hid (rdX T wr = X) := hide (rdX_eq HI.out.kT (fun i hi => by
            rcases h : X.testBit i with _ | _
            · rfl
            · have := HH.out.n HRO.out h; rw [HN.out] at this; omega))
          go_wp2_with fail
          clear HST
          go_loopw [9, 10] (fun v z wr2 => ∃ (i Y : Nat) (c : Bool), i ≤ n ∧ v = .bool c ∧ z = .int .i64 i ∧ Hid (HoI r D day Y) ∧ Hid ((c = false → Y = X ∧ ∀ j, j < i → X.testBit j = true → canB r day X j = false) ∧ (c = true → Y < X)) ∧ Hid (HpI w wr2 G T cs D Y)) (fun _ z _ => n - (intOf z).toNat)
          case atStart => exact ⟨0, X, false, Nat.zero_le _, rfl, rfl, HH, hide ⟨fun _ => ⟨rfl, fun j hj => absurd hj (by omega)⟩, fun h => by cases h⟩, HI⟩
          clear HI
          case round =>
            obtain ⟨i, Y, c, hi, rfl, rfl, HY, HC, HI⟩ := hrel
            have hst : IntKind.i64.wrap ((i : Int) + 1) = ((i + 1 : Nat) : Int) := by rw [IntWalk.i64_in _ (by omega)]; omega
            obtain ⟨-, g0, g1, g2, -⟩ := blk3 (by have := HI.out.kG; rw [HCS.out] at this; exact this)
            by_cases hlt : i < n
            · have hlt' : (i : Int) < (n : Int) := by omega
              have hi9 : i < 10 := by omega
              have hi9' : (i : Int) < 10 := by omega
              have q0 := dn_cell HI.out.kT hi9
              rcases hYi : dB Y i with _ | _
              · rw [hYi] at q0
                have HC2 : Hid ((c = false → Y = X ∧ ∀ j, j < i + 1 → X.testBit j = true → canB r day X j = false) ∧ (c = true → Y < X)) := hide ⟨fun h => ⟨(HC.out.1 h).1, fun j hj hx => by
                  rcases (by omega : j < i ∨ j = i) with h2 | rfl
                  · exact (HC.out.1 h).2 j h2 hx
                  · rw [← (HC.out.1 h).1] at hx
                    have hx2 : dB Y j = true := hx
                    rw [hYi] at hx2; cases hx2⟩, HC.out.2⟩
                clear hYi
                go_wp2_with fail
                go_roundw
                case rel => exact ⟨i + 1, Y, c, by omega, rfl, by go_num, HY, HC2, HI⟩
                case measure => simp [intOf]; omega
              · rw [hYi] at q0
                have HYI : Hid (Y.testBit i = true) := hide hYi
                clear hYi
                have hir : i < r.n := by rw [HN.out]; exact hlt
                obtain ⟨a1, a2, a3, a5⟩ := HAC.out wr HI.out.lo i hlt
                obtain ⟨ia, hia⟩ : ∃ x, d.ia i = x := ⟨_, rfl⟩
                obtain ⟨ic, hic⟩ : ∃ x, d.ic i = x := ⟨_, rfl⟩
                obtain ⟨ni, hni⟩ : ∃ x, (r.ac i).ins.length = x := ⟨_, rfl⟩
                obtain ⟨at_, hat⟩ : ∃ x, (r.ac i).at_ = x := ⟨_, rfl⟩
                have hz3 := HZ.out.ins i hir
                have hli := (HRD.out wr HI.out.lo).ins i hir
                have hTl := HI.out.kT.lt
                have hnib : ni ≤ 1000 := by rw [← hni]; exact hz3
                have HNI := hide hni
                rw [hia] at hli
                rw [hia, hni, hic] at a2
                rw [hat] at a3
                have hbA : Below wr.heap.size wr (wr.alloc (.cells #[.int .i64 i] 3)) := (Below.refl _ _).alloc (Nat.le_refl _) _
                obtain ⟨v4, w4, hrun, ho4, hg4, -⟩ := (OwnJ.made1 wr i).pushes ia ic (r.ac i).ins (liE hli hbA) (by simp; omega) hbA.size
                have hb4 : Below wr.heap.size wr w4 := hbA.grown hg4 hbA.size (fun j e => (World.ownsRow.lt (OwnJ.made1 wr i) j e).1)
                rw [hni] at hrun
                have hl4 : ([(i : Int)] ++ (r.ac i).ins).length = ni + 1 := by simp; omega
                obtain ⟨A4, c4, rfl⟩ := own_shape ho4
                rw [hl4] at hrun ho4
                have hal := HAL.out
                have hab : ab ≠ wr.heap.size := by have := HI.out.lo.size; omega
                have hab2 : ab < wr.heap.size := by have := HI.out.lo.size; omega
                have hG1 : G < wr.heap.size := HI.out.kG.lt
                have b0 := (hbA.cell (p := ⟨G, 0, none⟩) hG1).trans g0
                have b2 := (hbA.cell (p := ⟨ab, ao + i * 7 + 2, none⟩) hab2).trans a2
                have d0 := (hb4.cell (p := ⟨G, 0, none⟩) hG1).trans g0
                have d3 := (hb4.cell (p := ⟨ab, ao + i * 7 + 3, none⟩) hab2).trans a3
                have HR1 := hide hrun
                have HO4 := hide ho4
                have HB4 := hide hb4
                have HTL := hide hTl
                clear hrun ho4 hg4 hb4 hbA hli hz3 hia hic hTl hal a1 a5 hl4
                by_cases hat0 : at_ ≥ 0
                · have hwy : wyL r i = ([(i : Int)] ++ (r.ac i).ins) ++ [at_] := by unfold wyL; rw [hat, if_pos hat0]; rfl
                  obtain ⟨v5, w5, hrun, ho5, hg5⟩ := HO4.out.push at_ (by simp; omega) HB4.out.size
                  have hbA : Below w4.heap.size w4 (w4.alloc (.cells #[.int .i64 at_] 3)) := (Below.refl _ _).alloc (Nat.le_refl _) _
                  have hb5 : Below wr.heap.size wr w5 := (HB4.out.trans (hbA.mono HB4.out.size)).grown hg5 (Nat.le_trans HB4.out.size hbA.size) (fun j e => (World.ownsRow.lt HO4.out j e).1)
                  obtain ⟨A5, c5, rfl⟩ := own_shape ho5
                  rw [← hwy] at ho5 hrun
                  have HR2 := hide hrun
                  have HO5 := hide ho5
                  have HB5 := hide hb5
                  clear hrun ho5 hg5 hbA hb5 hwy hni hat
                  have hat1 : 0 ≤ at_ := hat0
                  go_wp2_with (first | (at_builtin; refine wpList_append_run rfl (.tmp 45) (.tmp 51) 48 rfl rfl rfl HR1.out ?_) | (at_builtin; refine wpList_append_run rfl (.tmp 60) (.tmp 67) 48 rfl rfl rfl HR2.out ?_))
                  have HOW := HO5
                  have HBW := HB5
                  clear HO4 HB4 HO5 HB5 HR1 HR2 a2 a3 b0 b2 d0 d3 q0 hab hab2 hG1 g0 g1 g2 hat0 hat1
                  obtain ⟨L, hL⟩ : ∃ L, wyL r i = L := ⟨_, rfl⟩
                  rw [hL] at HOW ⊢
                  have hLp : 0 < L.length := by rw [← hL]; unfold wyL; simp
                  obtain ⟨wb, wo, rfl, hw⟩ := WyI.of HOW.out hLp HTL.out
                  have HWY := hide hw
                  have HLM : Hid (∀ x ∈ L, 0 ≤ x ∧ x < n) := hide fun x hx => by
                    rw [← hL] at hx
                    have := wy_mem HRO.out (by rw [HN.out]; exact hlt) hx
                    rw [HN.out] at this
                    exact this
                  obtain ⟨nw, hnw⟩ : ∃ x, L.length = x := ⟨_, rfl⟩
                  have HNW := hide hnw
                  have hnw2 : nw ≤ 2000 := by
                    rw [← hnw, ← hL]
                    unfold wyL
                    simp only [List.length_append, List.length_cons, HNI.out]
                    split
                    · simp; omega
                    · simp; omega
                  have HCW : Hid (canB r day Y i = L.any fun x => cwB r day Y x.toNat) := hide (by rw [← hL]; exact can_wy HRO.out (by rw [HN.out]; exact hlt))
                  have HIW := hide (HI.out.ext HBW.out)
                  rw [hnw]
                  clear hL hLp hw hnw HOW HTL HBW HI HNI
                  go_loopw [9, 12] (fun v z wf => ∃ (k Z : Nat) (c2 : Bool), k ≤ nw ∧ v = .bool c2 ∧ z = .int .i64 k ∧ Hid (((L.take k).any (fun x => cwB r day Y x.toNat) = false ∧ Z = Y ∧ c2 = c) ∨ ((L.take k).any (fun x => cwB r day Y x.toNat) = true ∧ Z = anN Y (2 ^ i) ∧ c2 = true)) ∧ Hid (HpI w wf G T cs D Z) ∧ Hid (WyI wf T wb wo L)) (fun _ z _ => nw - (intOf z).toNat)
                  case atStart => exact ⟨0, Y, c, Nat.zero_le _, rfl, rfl, hide (.inl ⟨rfl, rfl, rfl⟩), HIW, HWY⟩
                  clear HIW HWY
                  case round =>
                    obtain ⟨k, Z, c2, hk, rfl, rfl, HZ2, HI, HWY⟩ := hrel
                    have hst3 : IntKind.i64.wrap ((k : Int) + 1) = ((k + 1 : Nat) : Int) := by rw [IntWalk.i64_in _ (by omega)]; omega
                    by_cases hkl : k < nw
                    · have hkl' : (k : Int) < (nw : Int) := by omega
                      have hkL : k < L.length := by rw [HNW.out]; exact hkl
                      have hmem : L.getD k 0 ∈ L := by rw [List.getD_eq_getElem?_getD, List.getElem?_eq_getElem hkL]; exact List.getElem_mem hkL
                      have hy := HLM.out _ hmem
                      obtain ⟨y, hyy⟩ : ∃ y : Nat, L.getD k 0 = y := ⟨(L.getD k 0).toNat, by omega⟩
                      rw [hyy] at hy
                      have hyn : y < n := by omega
                      have hyn' : (y : Int) < (n : Int) := by omega
                      have hyr : y < r.n := by rw [HN.out]; exact hyn
                      have HTK : Hid (∀ V, (L.take (k + 1)).any (fun x => cwB r day V x.toNat) = ((L.take k).any (fun x => cwB r day V x.toNat) || cwB r day V y)) := hide fun V => by
                        have e : L[k] = (y : Int) := by rw [← hyy, List.getD_eq_getElem?_getD, List.getElem?_eq_getElem hkL]; rfl
                        rw [List.take_add_one, List.getElem?_eq_getElem hkL, List.any_append, e]
                        simp
                      obtain ⟨nd, hnd⟩ : ∃ x, (r.ac y).nd = x := ⟨_, rfl⟩
                      obtain ⟨to_, hto⟩ : ∃ x, (r.ac y).to_ = x := ⟨_, rfl⟩
                      have HCB : Hid (∀ V, cwB r day V y = (!decide (to_ < day) && nd.all fun x => !V.testBit x.toNat)) := hide fun V => by
                        unfold cwB; rw [hnd, hto]
                      obtain ⟨na, hna⟩ : ∃ x, d.na y = x := ⟨_, rfl⟩
                      obtain ⟨nc, hnc⟩ : ∃ x, d.nc y = x := ⟨_, rfl⟩
                      obtain ⟨nn, hnn⟩ : ∃ x, nd.length = x := ⟨_, rfl⟩
                      have HNN := hide hnn
                      have hnb : nn ≤ 1000 := by
                        have h := HZ.out.nd y hyr
                        rw [hnd, hnn] at h
                        exact h
                      have HNM : Hid (∀ x ∈ nd, 0 ≤ x ∧ x < n) := hide fun x hx => by
                        rw [← hnd] at hx
                        have h := (HRO.out.at_ hyr).nd x hx
                        rw [HN.out] at h
                        exact ⟨h.1, h.2.1⟩
                      have HNL : Hid (∀ W, Below w.heap.size w W → LI W W.heap.size na nd) := hide fun W h => by
                        have q := (HRD.out W h).nd y hyr
                        rw [hna, hnd] at q
                        exact q
                      have HS19 : Hid (∀ W, HpI w W G T cs D Z → WyI W T wb wo L → ((W.cell? ⟨G, 0, none⟩ = some (.slice (some ⟨ab, ao, none⟩) n d.c) ∧ W.cell? ⟨wb, wo + k, none⟩ = some (.int .i64 (y : Nat))) ∧ W.cell? ⟨ab, ao + y * 7 + 1, none⟩ = some (.slice na nn nc) ∧ W.cell? ⟨ab, ao + y * 7 + 5, none⟩ = some (.int .i64 to_))) := hide fun W h h2 => by
                        obtain ⟨-, g0, -⟩ := blk3 (by have := h.kG; rw [HCS.out] at this; exact this)
                        have q := h2.at_ k hkL
                        rw [hyy] at q
                        obtain ⟨p1, -, -, p5⟩ := HAC.out W h.lo y hyn
                        rw [hna, hnd, hnn, hnc] at p1
                        rw [hto] at p5
                        exact ⟨⟨g0, q⟩, p1, p5⟩
                      clear hkL hmem hy hyy hyr hnd hto hna hnc hnn
                      have hd1 := (Below.refl wr.heap.size wr).drew
                      go_upto_region 19 with fail
                      replace HI := hide (HI.out.ext hd1)
                      replace HWY := hide (HWY.out.ext hd1)
                      clear hd1
                      refine wp_region_J (fun W : World => ((W.cell? ⟨G, 0, none⟩ = some (.slice (some ⟨ab, ao, none⟩) n d.c) ∧ W.cell? ⟨wb, wo + k, none⟩ = some (.int .i64 (y : Nat))) ∧ W.cell? ⟨ab, ao + y * 7 + 1, none⟩ = some (.slice na nn nc) ∧ W.cell? ⟨ab, ao + y * 7 + 5, none⟩ = some (.int .i64 to_))) (by kernel_rfl) ?_
                      generalize wr.drew = wd at HI HWY ⊢
                      refine tk_start [0, 1, 2, 3, 4, 5, 6, 7, 8, 9, 10, 11] ?_
                      iterate 12
                        refine tk_one (v := ?_) (by first | exact hF | exact wideFn) (HS19.out _ HI.out HWY.out) rfl (by kernel_rfl) (by kernel_rfl) (by kernel_rfl) (by kernel_rfl) rfl ?_ (by first | exact fun _ _ _ h => h | exact fun _ _ _ h => hQ2 _ _ _ _ _ h) ?_
                        rotate_left
                        · intro W hSW
                          simp only [glA, glB, glC]
                          (try dsimp only at hSW)
                          go_simp
                          with_reducible rfl
                        (try simp only [glA, glB, glC, Act.put, glD, glE, glF])
                      refine tk_end ?_
                      refine wpAnyJ_done (by kernel_rfl) ?_
                      obtain ⟨c0, hc0⟩ : ∃ x, decide (day ≤ to_) = x := ⟨_, rfl⟩
                      have HC0 : Hid ((!decide (to_ < day)) = c0) := hide (by rw [← hc0, Bool.eq_iff_iff]; simp)
                      (try rw [hc0])
                      go_wp2_with fail
                      clear hc0
                      go_loopw [13, 14] (fun v z wf => ∃ (t : Nat) (cb : Bool), t ≤ nn ∧ v = .bool cb ∧ z = .int .i64 t ∧ Hid (cb = (c0 && (nd.take t).all fun x => !Z.testBit x.toNat)) ∧ Hid (Below wd.heap.size wd wf)) (fun _ z _ => nn - (intOf z).toNat)
                      case atStart => exact ⟨0, c0, Nat.zero_le _, rfl, rfl, hide (by rw [List.take_zero]; simp), hide (Below.refl _ _)⟩
                      case round =>
                        obtain ⟨t, cb, ht, rfl, rfl, HCX, HBF⟩ := hrel
                        have hst4 : IntKind.i64.wrap ((t : Int) + 1) = ((t + 1 : Nat) : Int) := by rw [IntWalk.i64_in _ (by omega)]; omega
                        by_cases htl : t < nn
                        · have htl' : (t : Int) < (nn : Int) := by omega
                          have htn : t < nd.length := by rw [HNN.out]; exact htl
                          obtain ⟨xb, xo, hxa, hxl, hxc⟩ := VR1.at_ (HNL.out wd HI.out.lo) htn
                          have hmx : nd.getD t 0 ∈ nd := by rw [List.getD_eq_getElem?_getD, List.getElem?_eq_getElem htn]; exact List.getElem_mem htn
                          have hx := HNM.out _ hmx
                          obtain ⟨x, hxx⟩ : ∃ x : Nat, nd.getD t 0 = x := ⟨(nd.getD t 0).toNat, by omega⟩
                          rw [hxx] at hxc hx
                          have hx9 : x < 10 := by omega
                          have hx9' : (x : Int) < 10 := by omega
                          obtain ⟨lx, hlx⟩ : ∃ b, dB Z x = b := ⟨_, rfl⟩
                          have HAX : Hid (((nd.take (t + 1)).all fun x => !Z.testBit x.toNat) = (((nd.take t).all fun x => !Z.testBit x.toNat) && !lx)) := hide (by
                            have e : nd[t] = (x : Int) := by rw [← hxx, List.getD_eq_getElem?_getD, List.getElem?_eq_getElem htn]; rfl
                            rw [List.take_add_one, List.getElem?_eq_getElem htn, List.all_append, e, ← hlx]
                            simp [dB])
                          have HS23 : Hid (∀ W, Below wd.heap.size wd W → (((W.cell? ⟨G, 0, none⟩ = some (.slice (some ⟨ab, ao, none⟩) n d.c) ∧ W.cell? ⟨wb, wo + k, none⟩ = some (.int .i64 (y : Nat))) ∧ W.cell? ⟨ab, ao + y * 7 + 1, none⟩ = some (.slice (some ⟨xb, xo, none⟩) nn nc) ∧ W.cell? ⟨ab, ao + y * 7 + 5, none⟩ = some (.int .i64 to_)) ∧ W.cell? ⟨xb, xo + t, none⟩ = some (.int .i64 (x : Nat)) ∧ W.cell? ⟨T, x, none⟩ = some (.bool lx))) := hide fun W h => by
                            have q := HS19.out W (HI.out.ext h) (HWY.out.ext h)
                            rw [hxa] at q
                            refine ⟨q, (h.cell (p := ⟨xb, xo + t, none⟩) hxl).trans hxc, ?_⟩
                            rw [← hlx]
                            exact dn_cell (HI.out.ext h).kT hx9
                          have HS21 : Hid (∀ W, Below wd.heap.size wd W → ((W.cell? ⟨G, 0, none⟩ = some (.slice (some ⟨ab, ao, none⟩) n d.c) ∧ W.cell? ⟨wb, wo + k, none⟩ = some (.int .i64 (y : Nat))) ∧ W.cell? ⟨ab, ao + y * 7 + 1, none⟩ = some (.slice na nn nc) ∧ W.cell? ⟨ab, ao + y * 7 + 5, none⟩ = some (.int .i64 to_))) := hide fun W h => HS19.out W (HI.out.ext h) (HWY.out.ext h)
                          clear htn hmx hx hxx hlx hxl hxc
                          go_upto_region 21 with fail
                          replace HBF := hide (HBF.out.trans ((Below.refl wr.heap.size wr).drew.mono HBF.out.size))
                          refine wp_region_J (fun W : World => ((W.cell? ⟨G, 0, none⟩ = some (.slice (some ⟨ab, ao, none⟩) n d.c) ∧ W.cell? ⟨wb, wo + k, none⟩ = some (.int .i64 (y : Nat))) ∧ W.cell? ⟨ab, ao + y * 7 + 1, none⟩ = some (.slice na nn nc) ∧ W.cell? ⟨ab, ao + y * 7 + 5, none⟩ = some (.int .i64 to_))) (by kernel_rfl) ?_
                          generalize wr.drew = we at HBF ⊢
                          refine tk_start [0, 1, 2, 3, 4, 5, 6, 7, 8, 9, 10, 11] ?_
                          iterate 12
                            refine tk_one (v := ?_) (by first | exact hF | exact wideFn) (HS21.out _ HBF.out) rfl (by kernel_rfl) (by kernel_rfl) (by kernel_rfl) (by kernel_rfl) rfl ?_ (by first | exact fun _ _ _ h => h | exact fun _ _ _ h => hQ2 _ _ _ _ _ h) ?_
                            rotate_left
                            · intro W hSW
                              simp only [glA, glB, glC]
                              (try dsimp only at hSW)
                              go_simp
                              with_reducible rfl
                            (try simp only [glA, glB, glC, Act.put, glD, glE, glF])
                          refine tk_end ?_
                          refine wpAnyJ_done (by kernel_rfl) ?_
                          go_upto_region 23 with fail
                          replace HBF := hide (HBF.out.trans ((Below.refl we.heap.size we).drew.mono HBF.out.size))
                          clear HS21
                          refine wp_region_J (fun W : World => (((W.cell? ⟨G, 0, none⟩ = some (.slice (some ⟨ab, ao, none⟩) n d.c) ∧ W.cell? ⟨wb, wo + k, none⟩ = some (.int .i64 (y : Nat))) ∧ W.cell? ⟨ab, ao + y * 7 + 1, none⟩ = some (.slice (some ⟨xb, xo, none⟩) nn nc) ∧ W.cell? ⟨ab, ao + y * 7 + 5, none⟩ = some (.int .i64 to_)) ∧ W.cell? ⟨xb, xo + t, none⟩ = some (.int .i64 (x : Nat)) ∧ W.cell? ⟨T, x, none⟩ = some (.bool lx))) (by kernel_rfl) ?_
                          generalize we.drew = wf at HBF ⊢
                          cases cb with
                          | false =>
                            refine wpAnyJ_take 0 (v := ?_) (by first | exact hF | exact wideFn) (HS23.out _ HBF.out) rfl (by kernel_rfl) (by kernel_rfl) (by kernel_rfl) (by kernel_rfl) rfl ?_ (by first | exact fun _ _ _ h => h | exact fun _ _ _ h => hQ2 _ _ _ _ _ h) ?_
                            rotate_left
                            · intro W hSW
                              simp only [glA, glB, glC]
                              (try dsimp only at hSW)
                              go_simp
                              with_reducible rfl
                            (try simp only [glA, glB, glC, Act.put, glD, glE, glF])
                            refine wpAnyJ_take 1 (v := ?_) (by first | exact hF | exact wideFn) (HS23.out _ HBF.out) rfl (by kernel_rfl) (by kernel_rfl) (by kernel_rfl) (by kernel_rfl) rfl ?_ (by first | exact fun _ _ _ h => h | exact fun _ _ _ h => hQ2 _ _ _ _ _ h) ?_
                            rotate_left
                            · intro W hSW
                              simp only [glA, glB, glC]
                              (try dsimp only at hSW)
                              go_simp
                              with_reducible rfl
                            (try simp only [glA, glB, glC, Act.put, glD, glE, glF])
                            refine tk_start [2, 3, 4, 5, 6, 7, 8, 9, 10, 11, 12, 13, 14, 15, 16] ?_
                            iterate 15
                              refine tk_skip (by first | exact hF | exact wideFn) (HS23.out _ HBF.out) rfl (by kernel_rfl) (by kernel_rfl) (by kernel_rfl) (by kernel_rfl) rfl (by first | exact fun _ _ _ h => h | exact fun _ _ _ h => hQ2 _ _ _ _ _ h) ?_
                              (try simp only [glA, glB, glC, Act.put, glD, glE, glF])
                            refine tk_end ?_
                            refine wpAnyJ_take 17 (v := ?_) (by first | exact hF | exact wideFn) (HS23.out _ HBF.out) rfl (by kernel_rfl) (by kernel_rfl) (by kernel_rfl) (by kernel_rfl) rfl ?_ (by first | exact fun _ _ _ h => h | exact fun _ _ _ h => hQ2 _ _ _ _ _ h) ?_
                            rotate_left
                            · intro W hSW
                              simp only [glA, glB, glC]
                              (try dsimp only at hSW)
                              go_simp
                              with_reducible rfl
                            (try simp only [glA, glB, glC, Act.put, glD, glE, glF])
                            refine wpAnyJ_take 18 (v := ?_) (by first | exact hF | exact wideFn) (HS23.out _ HBF.out) rfl (by kernel_rfl) (by kernel_rfl) (by kernel_rfl) (by kernel_rfl) rfl ?_ (by first | exact fun _ _ _ h => h | exact fun _ _ _ h => hQ2 _ _ _ _ _ h) ?_
                            rotate_left
                            · intro W hSW
                              simp only [glA, glB, glC]
                              (try dsimp only at hSW)
                              go_simp
                              with_reducible rfl
                            (try simp only [glA, glB, glC, Act.put, glD, glE, glF])
                            refine wpAnyJ_done (by kernel_rfl) ?_
                            go_wp2_with fail
                            go_roundw
                            case rel => exact ⟨t + 1, false, by omega, rfl, by go_num, hide (by rw [HAX.out, ← Bool.and_assoc, ← HCX.out]; rfl), HBF⟩
                            case measure => simp [intOf]; omega
                          | true =>
                            refine tk_start [0, 1, 2, 3, 4, 5, 6, 7, 8, 9, 10, 11, 12, 13, 14, 15, 16, 17, 18] ?_
                            iterate 19
                              refine tk_one (v := ?_) (by first | exact hF | exact wideFn) (HS23.out _ HBF.out) rfl (by kernel_rfl) (by kernel_rfl) (by kernel_rfl) (by kernel_rfl) rfl ?_ (by first | exact fun _ _ _ h => h | exact fun _ _ _ h => hQ2 _ _ _ _ _ h) ?_
                              rotate_left
                              · intro W hSW
                                simp only [glA, glB, glC]
                                (try dsimp only at hSW)
                                go_simp
                                with_reducible rfl
                              (try simp only [glA, glB, glC, Act.put, glD, glE, glF])
                            refine tk_end ?_
                            refine wpAnyJ_done (by kernel_rfl) ?_
                            go_wp2_with fail
                            go_roundw
                            case rel => exact ⟨t + 1, !lx, by omega, rfl, by go_num, hide (by rw [HAX.out, ← Bool.and_assoc, ← HCX.out]; rfl), HBF⟩
                            case measure => simp [intOf]; omega
                        · obtain rfl : nn = t := by omega
                          have hnl : ¬ (nn : Int) < (nn : Int) := by omega
                          have HCZ : Hid (cb = cwB r day Z y) := hide (by
                            rw [HCB.out Z, HC0.out, HCX.out, List.take_of_length_le (by rw [HNN.out]; exact Nat.le_refl _)])
                          have HS21 : Hid (∀ W, Below wd.heap.size wd W → ((W.cell? ⟨G, 0, none⟩ = some (.slice (some ⟨ab, ao, none⟩) n d.c) ∧ W.cell? ⟨wb, wo + k, none⟩ = some (.int .i64 (y : Nat))) ∧ W.cell? ⟨ab, ao + y * 7 + 1, none⟩ = some (.slice na nn nc) ∧ W.cell? ⟨ab, ao + y * 7 + 5, none⟩ = some (.int .i64 to_))) := hide fun W h => HS19.out W (HI.out.ext h) (HWY.out.ext h)
                          go_upto_region 21 with fail
                          replace HBF := hide (HBF.out.trans ((Below.refl wr.heap.size wr).drew.mono HBF.out.size))
                          refine wp_region_J (fun W : World => ((W.cell? ⟨G, 0, none⟩ = some (.slice (some ⟨ab, ao, none⟩) n d.c) ∧ W.cell? ⟨wb, wo + k, none⟩ = some (.int .i64 (y : Nat))) ∧ W.cell? ⟨ab, ao + y * 7 + 1, none⟩ = some (.slice na nn nc) ∧ W.cell? ⟨ab, ao + y * 7 + 5, none⟩ = some (.int .i64 to_))) (by kernel_rfl) ?_
                          generalize wr.drew = we at HBF ⊢
                          refine tk_start [0, 1, 2, 3, 4, 5, 6, 7, 8, 9, 10, 11] ?_
                          iterate 12
                            refine tk_one (v := ?_) (by first | exact hF | exact wideFn) (HS21.out _ HBF.out) rfl (by kernel_rfl) (by kernel_rfl) (by kernel_rfl) (by kernel_rfl) rfl ?_ (by first | exact fun _ _ _ h => h | exact fun _ _ _ h => hQ2 _ _ _ _ _ h) ?_
                            rotate_left
                            · intro W hSW
                              simp only [glA, glB, glC]
                              (try dsimp only at hSW)
                              go_simp
                              with_reducible rfl
                            (try simp only [glA, glB, glC, Act.put, glD, glE, glF])
                          refine tk_end ?_
                          refine wpAnyJ_done (by kernel_rfl) ?_
                          have HIE := hide (HI.out.ext HBF.out)
                          have HWE := hide (HWY.out.ext HBF.out)
                          have hi9 : i < 10 := by omega
                          have hi9' : (i : Int) < 10 := by omega
                          cases cb with
                          | false =>
                            have HZ3 : Hid (((L.take (k + 1)).any (fun x => cwB r day Y x.toNat) = false ∧ Z = Y ∧ c2 = c) ∨ ((L.take (k + 1)).any (fun x => cwB r day Y x.toNat) = true ∧ Z = anN Y (2 ^ i) ∧ c2 = true)) := hide (by
                              rcases HZ2.out with ⟨h1, h2, h3⟩ | ⟨h1, h2, h3⟩
                              · refine .inl ⟨?_, h2, h3⟩
                                rw [HTK.out, h1, ← h2, ← HCZ.out]; rfl
                              · exact .inr ⟨by rw [HTK.out, h1]; rfl, h2, h3⟩)
                            go_wp2_with fail
                            go_roundw
                            case rel => exact ⟨k + 1, Z, c2, by omega, rfl, by go_num, HZ3, HIE, HWE⟩
                            case measure => simp [intOf]; omega
                          | true =>
                            have HZ3 : Hid (((L.take (k + 1)).any (fun x => cwB r day Y x.toNat) = false ∧ anN Y (2 ^ i) = Y ∧ true = c) ∨ ((L.take (k + 1)).any (fun x => cwB r day Y x.toNat) = true ∧ anN Y (2 ^ i) = anN Y (2 ^ i) ∧ true = true)) := hide (by
                              refine .inr ⟨?_, rfl, rfl⟩
                              rcases HZ2.out with ⟨h1, h2, h3⟩ | ⟨h1, h2, h3⟩
                              · rw [HTK.out, h1, ← h2, ← HCZ.out]; rfl
                              · rw [HTK.out, h1]; rfl)
                            have HCL : Hid (∀ j, dB (anN Y (2 ^ i)) j = if j = i then false else dB Z j) := hide fun j => by
                              rw [clr_bit HY.out.lt]
                              rcases HZ2.out with ⟨h1, h2, h3⟩ | ⟨h1, h2, h3⟩
                              · rw [h2]
                              · rw [h2, clr_bit HY.out.lt]
                                by_cases h : j = i
                                · rw [if_pos h, if_pos h]
                                · rw [if_neg h, if_neg h]
                            have q0 := dn_cell HIE.out.kT hi9
                            have q1 := HIE.out.kT.frozen i
                            have HI5 := hide (HIE.out.put (b := false) hi9 (fun j _ => HCL.out j))
                            have HW5 := hide (HWE.out.put i (.bool false))
                            go_wp2_with fail
                            go_roundw
                            case rel => exact ⟨k + 1, anN Y (2 ^ i), true, by omega, rfl, by go_num, HZ3, HI5, HW5⟩
                            case measure => simp [intOf]; omega
                    · obtain rfl : nw = k := by omega
                      have hnl : ¬ (nw : Int) < (nw : Int) := by omega
                      have HEND : Hid (HoI r D day Z ∧ (c2 = false → Z = X ∧ ∀ j, j < i + 1 → X.testBit j = true → canB r day X j = false) ∧ (c2 = true → Z < X)) := hide (by
                        have h := HZ2.out
                        rw [List.take_of_length_le (by rw [HNW.out]; exact Nat.le_refl _), ← HCW.out] at h
                        have hYX : Y ≤ X := by
                          cases c with
                          | false => rw [(HC.out.1 rfl).1]; exact Nat.le_refl _
                          | true => exact Nat.le_of_lt (HC.out.2 rfl)
                        rcases h with ⟨h1, rfl, rfl⟩ | ⟨h1, rfl, rfl⟩
                        · refine ⟨HY.out, fun h2 => ⟨(HC.out.1 h2).1, fun j hj hx => ?_⟩, HC.out.2⟩
                          rcases (by omega : j < i ∨ j = i) with h3 | rfl
                          · exact (HC.out.1 h2).2 j h3 hx
                          · rw [← (HC.out.1 h2).1]; exact h1
                        · exact ⟨HY.out.clr h1, fun h2 => (by cases h2), fun _ => Nat.lt_of_lt_of_le (clr_lt HY.out.lt HYI.out) hYX⟩)
                      go_wp2_with fail
                      go_roundw
                      case rel => exact ⟨i + 1, Z, c2, by omega, rfl, by go_num, hide HEND.out.1, hide HEND.out.2, HI⟩
                      case measure => simp [intOf]; omega
                · have hwy : wyL r i = [(i : Int)] ++ (r.ac i).ins := by unfold wyL; rw [hat, if_neg (show ¬ 0 ≤ at_ from hat0), List.append_nil]; rfl
                  have hat1 : ¬ 0 ≤ at_ := hat0
                  have hl4 : ni + 1 = (wyL r i).length := by rw [hwy]; simp; omega
                  rw [hl4, ← hwy] at HO4
                  rw [hl4] at HR1
                  clear hl4 hwy hni hat
                  go_wp2_with (first | (at_builtin; refine wpList_append_run rfl (.tmp 45) (.tmp 51) 48 rfl rfl rfl HR1.out ?_))
                  have HOW := HO4
                  have HBW := HB4
                  clear HO4 HB4 HR1 a2 a3 b0 b2 d0 d3 q0 hab hab2 hG1 g0 g1 g2 hat0 hat1
                  obtain ⟨L, hL⟩ : ∃ L, wyL r i = L := ⟨_, rfl⟩
                  rw [hL] at HOW ⊢
                  have hLp : 0 < L.length := by rw [← hL]; unfold wyL; simp
                  obtain ⟨wb, wo, rfl, hw⟩ := WyI.of HOW.out hLp HTL.out
                  have HWY := hide hw
                  have HLM : Hid (∀ x ∈ L, 0 ≤ x ∧ x < n) := hide fun x hx => by
                    rw [← hL] at hx
                    have := wy_mem HRO.out (by rw [HN.out]; exact hlt) hx
                    rw [HN.out] at this
                    exact this
                  obtain ⟨nw, hnw⟩ : ∃ x, L.length = x := ⟨_, rfl⟩
                  have HNW := hide hnw
                  have hnw2 : nw ≤ 2000 := by
                    rw [← hnw, ← hL]
                    unfold wyL
                    simp only [List.length_append, List.length_cons, HNI.out]
                    split
                    · simp; omega
                    · simp; omega
                  have HCW : Hid (canB r day Y i = L.any fun x => cwB r day Y x.toNat) := hide (by rw [← hL]; exact can_wy HRO.out (by rw [HN.out]; exact hlt))
                  have HIW := hide (HI.out.ext HBW.out)
                  rw [hnw]
                  clear hL hLp hw hnw HOW HTL HBW HI HNI
                  go_loopw [9, 12] (fun v z wf => ∃ (k Z : Nat) (c2 : Bool), k ≤ nw ∧ v = .bool c2 ∧ z = .int .i64 k ∧ Hid (((L.take k).any (fun x => cwB r day Y x.toNat) = false ∧ Z = Y ∧ c2 = c) ∨ ((L.take k).any (fun x => cwB r day Y x.toNat) = true ∧ Z = anN Y (2 ^ i) ∧ c2 = true)) ∧ Hid (HpI w wf G T cs D Z) ∧ Hid (WyI wf T wb wo L)) (fun _ z _ => nw - (intOf z).toNat)
                  case atStart => exact ⟨0, Y, c, Nat.zero_le _, rfl, rfl, hide (.inl ⟨rfl, rfl, rfl⟩), HIW, HWY⟩
                  clear HIW HWY
                  case round =>
                    obtain ⟨k, Z, c2, hk, rfl, rfl, HZ2, HI, HWY⟩ := hrel
                    have hst3 : IntKind.i64.wrap ((k : Int) + 1) = ((k + 1 : Nat) : Int) := by rw [IntWalk.i64_in _ (by omega)]; omega
                    by_cases hkl : k < nw
                    · have hkl' : (k : Int) < (nw : Int) := by omega
                      have hkL : k < L.length := by rw [HNW.out]; exact hkl
                      have hmem : L.getD k 0 ∈ L := by rw [List.getD_eq_getElem?_getD, List.getElem?_eq_getElem hkL]; exact List.getElem_mem hkL
                      have hy := HLM.out _ hmem
                      obtain ⟨y, hyy⟩ : ∃ y : Nat, L.getD k 0 = y := ⟨(L.getD k 0).toNat, by omega⟩
                      rw [hyy] at hy
                      have hyn : y < n := by omega
                      have hyn' : (y : Int) < (n : Int) := by omega
                      have hyr : y < r.n := by rw [HN.out]; exact hyn
                      have HTK : Hid (∀ V, (L.take (k + 1)).any (fun x => cwB r day V x.toNat) = ((L.take k).any (fun x => cwB r day V x.toNat) || cwB r day V y)) := hide fun V => by
                        have e : L[k] = (y : Int) := by rw [← hyy, List.getD_eq_getElem?_getD, List.getElem?_eq_getElem hkL]; rfl
                        rw [List.take_add_one, List.getElem?_eq_getElem hkL, List.any_append, e]
                        simp
                      obtain ⟨nd, hnd⟩ : ∃ x, (r.ac y).nd = x := ⟨_, rfl⟩
                      obtain ⟨to_, hto⟩ : ∃ x, (r.ac y).to_ = x := ⟨_, rfl⟩
                      have HCB : Hid (∀ V, cwB r day V y = (!decide (to_ < day) && nd.all fun x => !V.testBit x.toNat)) := hide fun V => by
                        unfold cwB; rw [hnd, hto]
                      obtain ⟨na, hna⟩ : ∃ x, d.na y = x := ⟨_, rfl⟩
                      obtain ⟨nc, hnc⟩ : ∃ x, d.nc y = x := ⟨_, rfl⟩
                      obtain ⟨nn, hnn⟩ : ∃ x, nd.length = x := ⟨_, rfl⟩
                      have HNN := hide hnn
                      have hnb : nn ≤ 1000 := by
                        have h := HZ.out.nd y hyr
                        rw [hnd, hnn] at h
                        exact h
                      have HNM : Hid (∀ x ∈ nd, 0 ≤ x ∧ x < n) := hide fun x hx => by
                        rw [← hnd] at hx
                        have h := (HRO.out.at_ hyr).nd x hx
                        rw [HN.out] at h
                        exact ⟨h.1, h.2.1⟩
                      have HNL : Hid (∀ W, Below w.heap.size w W → LI W W.heap.size na nd) := hide fun W h => by
                        have q := (HRD.out W h).nd y hyr
                        rw [hna, hnd] at q
                        exact q
                      have HS19 : Hid (∀ W, HpI w W G T cs D Z → WyI W T wb wo L → ((W.cell? ⟨G, 0, none⟩ = some (.slice (some ⟨ab, ao, none⟩) n d.c) ∧ W.cell? ⟨wb, wo + k, none⟩ = some (.int .i64 (y : Nat))) ∧ W.cell? ⟨ab, ao + y * 7 + 1, none⟩ = some (.slice na nn nc) ∧ W.cell? ⟨ab, ao + y * 7 + 5, none⟩ = some (.int .i64 to_))) := hide fun W h h2 => by
                        obtain ⟨-, g0, -⟩ := blk3 (by have := h.kG; rw [HCS.out] at this; exact this)
                        have q := h2.at_ k hkL
                        rw [hyy] at q
                        obtain ⟨p1, -, -, p5⟩ := HAC.out W h.lo y hyn
                        rw [hna, hnd, hnn, hnc] at p1
                        rw [hto] at p5
                        exact ⟨⟨g0, q⟩, p1, p5⟩
                      clear hkL hmem hy hyy hyr hnd hto hna hnc hnn
                      have hd1 := (Below.refl wr.heap.size wr).drew
                      go_upto_region 19 with fail
                      replace HI := hide (HI.out.ext hd1)
                      replace HWY := hide (HWY.out.ext hd1)
                      clear hd1
                      refine wp_region_J (fun W : World => ((W.cell? ⟨G, 0, none⟩ = some (.slice (some ⟨ab, ao, none⟩) n d.c) ∧ W.cell? ⟨wb, wo + k, none⟩ = some (.int .i64 (y : Nat))) ∧ W.cell? ⟨ab, ao + y * 7 + 1, none⟩ = some (.slice na nn nc) ∧ W.cell? ⟨ab, ao + y * 7 + 5, none⟩ = some (.int .i64 to_))) (by kernel_rfl) ?_
                      generalize wr.drew = wd at HI HWY ⊢
                      refine tk_start [0, 1, 2, 3, 4, 5, 6, 7, 8, 9, 10, 11] ?_
                      iterate 12
                        refine tk_one (v := ?_) (by first | exact hF | exact wideFn) (HS19.out _ HI.out HWY.out) rfl (by kernel_rfl) (by kernel_rfl) (by kernel_rfl) (by kernel_rfl) rfl ?_ (by first | exact fun _ _ _ h => h | exact fun _ _ _ h => hQ2 _ _ _ _ _ h) ?_
                        rotate_left
                        · intro W hSW
                          simp only [glA, glB, glC]
                          (try dsimp only at hSW)
                          go_simp
                          with_reducible rfl
                        (try simp only [glA, glB, glC, Act.put, glD, glE, glF])
                      refine tk_end ?_
                      refine wpAnyJ_done (by kernel_rfl) ?_
                      obtain ⟨c0, hc0⟩ : ∃ x, decide (day ≤ to_) = x := ⟨_, rfl⟩
                      have HC0 : Hid ((!decide (to_ < day)) = c0) := hide (by rw [← hc0, Bool.eq_iff_iff]; simp)
                      (try rw [hc0])
                      go_wp2_with fail
                      clear hc0
                      go_loopw [13, 14] (fun v z wf => ∃ (t : Nat) (cb : Bool), t ≤ nn ∧ v = .bool cb ∧ z = .int .i64 t ∧ Hid (cb = (c0 && (nd.take t).all fun x => !Z.testBit x.toNat)) ∧ Hid (Below wd.heap.size wd wf)) (fun _ z _ => nn - (intOf z).toNat)
                      case atStart => exact ⟨0, c0, Nat.zero_le _, rfl, rfl, hide (by rw [List.take_zero]; simp), hide (Below.refl _ _)⟩
                      case round =>
                        obtain ⟨t, cb, ht, rfl, rfl, HCX, HBF⟩ := hrel
                        have hst4 : IntKind.i64.wrap ((t : Int) + 1) = ((t + 1 : Nat) : Int) := by rw [IntWalk.i64_in _ (by omega)]; omega
                        by_cases htl : t < nn
                        · have htl' : (t : Int) < (nn : Int) := by omega
                          have htn : t < nd.length := by rw [HNN.out]; exact htl
                          obtain ⟨xb, xo, hxa, hxl, hxc⟩ := VR1.at_ (HNL.out wd HI.out.lo) htn
                          have hmx : nd.getD t 0 ∈ nd := by rw [List.getD_eq_getElem?_getD, List.getElem?_eq_getElem htn]; exact List.getElem_mem htn
                          have hx := HNM.out _ hmx
                          obtain ⟨x, hxx⟩ : ∃ x : Nat, nd.getD t 0 = x := ⟨(nd.getD t 0).toNat, by omega⟩
                          rw [hxx] at hxc hx
                          have hx9 : x < 10 := by omega
                          have hx9' : (x : Int) < 10 := by omega
                          obtain ⟨lx, hlx⟩ : ∃ b, dB Z x = b := ⟨_, rfl⟩
                          have HAX : Hid (((nd.take (t + 1)).all fun x => !Z.testBit x.toNat) = (((nd.take t).all fun x => !Z.testBit x.toNat) && !lx)) := hide (by
                            have e : nd[t] = (x : Int) := by rw [← hxx, List.getD_eq_getElem?_getD, List.getElem?_eq_getElem htn]; rfl
                            rw [List.take_add_one, List.getElem?_eq_getElem htn, List.all_append, e, ← hlx]
                            simp [dB])
                          have HS23 : Hid (∀ W, Below wd.heap.size wd W → (((W.cell? ⟨G, 0, none⟩ = some (.slice (some ⟨ab, ao, none⟩) n d.c) ∧ W.cell? ⟨wb, wo + k, none⟩ = some (.int .i64 (y : Nat))) ∧ W.cell? ⟨ab, ao + y * 7 + 1, none⟩ = some (.slice (some ⟨xb, xo, none⟩) nn nc) ∧ W.cell? ⟨ab, ao + y * 7 + 5, none⟩ = some (.int .i64 to_)) ∧ W.cell? ⟨xb, xo + t, none⟩ = some (.int .i64 (x : Nat)) ∧ W.cell? ⟨T, x, none⟩ = some (.bool lx))) := hide fun W h => by
                            have q := HS19.out W (HI.out.ext h) (HWY.out.ext h)
                            rw [hxa] at q
                            refine ⟨q, (h.cell (p := ⟨xb, xo + t, none⟩) hxl).trans hxc, ?_⟩
                            rw [← hlx]
                            exact dn_cell (HI.out.ext h).kT hx9
                          have HS21 : Hid (∀ W, Below wd.heap.size wd W → ((W.cell? ⟨G, 0, none⟩ = some (.slice (some ⟨ab, ao, none⟩) n d.c) ∧ W.cell? ⟨wb, wo + k, none⟩ = some (.int .i64 (y : Nat))) ∧ W.cell? ⟨ab, ao + y * 7 + 1, none⟩ = some (.slice na nn nc) ∧ W.cell? ⟨ab, ao + y * 7 + 5, none⟩ = some (.int .i64 to_))) := hide fun W h => HS19.out W (HI.out.ext h) (HWY.out.ext h)
                          clear htn hmx hx hxx hlx hxl hxc
                          go_upto_region 21 with fail
                          replace HBF := hide (HBF.out.trans ((Below.refl wr.heap.size wr).drew.mono HBF.out.size))
                          refine wp_region_J (fun W : World => ((W.cell? ⟨G, 0, none⟩ = some (.slice (some ⟨ab, ao, none⟩) n d.c) ∧ W.cell? ⟨wb, wo + k, none⟩ = some (.int .i64 (y : Nat))) ∧ W.cell? ⟨ab, ao + y * 7 + 1, none⟩ = some (.slice na nn nc) ∧ W.cell? ⟨ab, ao + y * 7 + 5, none⟩ = some (.int .i64 to_))) (by kernel_rfl) ?_
                          generalize wr.drew = we at HBF ⊢
                          refine tk_start [0, 1, 2, 3, 4, 5, 6, 7, 8, 9, 10, 11] ?_
                          iterate 12
                            refine tk_one (v := ?_) (by first | exact hF | exact wideFn) (HS21.out _ HBF.out) rfl (by kernel_rfl) (by kernel_rfl) (by kernel_rfl) (by kernel_rfl) rfl ?_ (by first | exact fun _ _ _ h => h | exact fun _ _ _ h => hQ2 _ _ _ _ _ h) ?_
                            rotate_left
                            · intro W hSW
                              simp only [glA, glB, glC]
                              (try dsimp only at hSW)
                              go_simp
                              with_reducible rfl
                            (try simp only [glA, glB, glC, Act.put, glD, glE, glF])
                          refine tk_end ?_
                          refine wpAnyJ_done (by kernel_rfl) ?_
                          go_upto_region 23 with fail
                          replace HBF := hide (HBF.out.trans ((Below.refl we.heap.size we).drew.mono HBF.out.size))
                          clear HS21
                          refine wp_region_J (fun W : World => (((W.cell? ⟨G, 0, none⟩ = some (.slice (some ⟨ab, ao, none⟩) n d.c) ∧ W.cell? ⟨wb, wo + k, none⟩ = some (.int .i64 (y : Nat))) ∧ W.cell? ⟨ab, ao + y * 7 + 1, none⟩ = some (.slice (some ⟨xb, xo, none⟩) nn nc) ∧ W.cell? ⟨ab, ao + y * 7 + 5, none⟩ = some (.int .i64 to_)) ∧ W.cell? ⟨xb, xo + t, none⟩ = some (.int .i64 (x : Nat)) ∧ W.cell? ⟨T, x, none⟩ = some (.bool lx))) (by kernel_rfl) ?_
                          generalize we.drew = wf at HBF ⊢
                          cases cb with
                          | false =>
                            refine wpAnyJ_take 0 (v := ?_) (by first | exact hF | exact wideFn) (HS23.out _ HBF.out) rfl (by kernel_rfl) (by kernel_rfl) (by kernel_rfl) (by kernel_rfl) rfl ?_ (by first | exact fun _ _ _ h => h | exact fun _ _ _ h => hQ2 _ _ _ _ _ h) ?_
                            rotate_left
                            · intro W hSW
                              simp only [glA, glB, glC]
                              (try dsimp only at hSW)
                              go_simp
                              with_reducible rfl
                            (try simp only [glA, glB, glC, Act.put, glD, glE, glF])
                            refine wpAnyJ_take 1 (v := ?_) (by first | exact hF | exact wideFn) (HS23.out _ HBF.out) rfl (by kernel_rfl) (by kernel_rfl) (by kernel_rfl) (by kernel_rfl) rfl ?_ (by first | exact fun _ _ _ h => h | exact fun _ _ _ h => hQ2 _ _ _ _ _ h) ?_
                            rotate_left
                            · intro W hSW
                              simp only [glA, glB, glC]
                              (try dsimp only at hSW)
                              go_simp
                              with_reducible rfl
                            (try simp only [glA, glB, glC, Act.put, glD, glE, glF])
                            refine tk_start [2, 3, 4, 5, 6, 7, 8, 9, 10, 11, 12, 13, 14, 15, 16] ?_
                            iterate 15
                              refine tk_skip (by first | exact hF | exact wideFn) (HS23.out _ HBF.out) rfl (by kernel_rfl) (by kernel_rfl) (by kernel_rfl) (by kernel_rfl) rfl (by first | exact fun _ _ _ h => h | exact fun _ _ _ h => hQ2 _ _ _ _ _ h) ?_
                              (try simp only [glA, glB, glC, Act.put, glD, glE, glF])
                            refine tk_end ?_
                            refine wpAnyJ_take 17 (v := ?_) (by first | exact hF | exact wideFn) (HS23.out _ HBF.out) rfl (by kernel_rfl) (by kernel_rfl) (by kernel_rfl) (by kernel_rfl) rfl ?_ (by first | exact fun _ _ _ h => h | exact fun _ _ _ h => hQ2 _ _ _ _ _ h) ?_
                            rotate_left
                            · intro W hSW
                              simp only [glA, glB, glC]
                              (try dsimp only at hSW)
                              go_simp
                              with_reducible rfl
                            (try simp only [glA, glB, glC, Act.put, glD, glE, glF])
                            refine wpAnyJ_take 18 (v := ?_) (by first | exact hF | exact wideFn) (HS23.out _ HBF.out) rfl (by kernel_rfl) (by kernel_rfl) (by kernel_rfl) (by kernel_rfl) rfl ?_ (by first | exact fun _ _ _ h => h | exact fun _ _ _ h => hQ2 _ _ _ _ _ h) ?_
                            rotate_left
                            · intro W hSW
                              simp only [glA, glB, glC]
                              (try dsimp only at hSW)
                              go_simp
                              with_reducible rfl
                            (try simp only [glA, glB, glC, Act.put, glD, glE, glF])
                            refine wpAnyJ_done (by kernel_rfl) ?_
                            go_wp2_with fail
                            go_roundw
                            case rel => exact ⟨t + 1, false, by omega, rfl, by go_num, hide (by rw [HAX.out, ← Bool.and_assoc, ← HCX.out]; rfl), HBF⟩
                            case measure => simp [intOf]; omega
                          | true =>
                            refine tk_start [0, 1, 2, 3, 4, 5, 6, 7, 8, 9, 10, 11, 12, 13, 14, 15, 16, 17, 18] ?_
                            iterate 19
                              refine tk_one (v := ?_) (by first | exact hF | exact wideFn) (HS23.out _ HBF.out) rfl (by kernel_rfl) (by kernel_rfl) (by kernel_rfl) (by kernel_rfl) rfl ?_ (by first | exact fun _ _ _ h => h | exact fun _ _ _ h => hQ2 _ _ _ _ _ h) ?_
                              rotate_left
                              · intro W hSW
                                simp only [glA, glB, glC]
                                (try dsimp only at hSW)
                                go_simp
                                with_reducible rfl
                              (try simp only [glA, glB, glC, Act.put, glD, glE, glF])
                            refine tk_end ?_
                            refine wpAnyJ_done (by kernel_rfl) ?_
                            go_wp2_with fail
                            go_roundw
                            case rel => exact ⟨t + 1, !lx, by omega, rfl, by go_num, hide (by rw [HAX.out, ← Bool.and_assoc, ← HCX.out]; rfl), HBF⟩
                            case measure => simp [intOf]; omega
                        · obtain rfl : nn = t := by omega
                          have hnl : ¬ (nn : Int) < (nn : Int) := by omega
                          have HCZ : Hid (cb = cwB r day Z y) := hide (by
                            rw [HCB.out Z, HC0.out, HCX.out, List.take_of_length_le (by rw [HNN.out]; exact Nat.le_refl _)])
                          have HS21 : Hid (∀ W, Below wd.heap.size wd W → ((W.cell? ⟨G, 0, none⟩ = some (.slice (some ⟨ab, ao, none⟩) n d.c) ∧ W.cell? ⟨wb, wo + k, none⟩ = some (.int .i64 (y : Nat))) ∧ W.cell? ⟨ab, ao + y * 7 + 1, none⟩ = some (.slice na nn nc) ∧ W.cell? ⟨ab, ao + y * 7 + 5, none⟩ = some (.int .i64 to_))) := hide fun W h => HS19.out W (HI.out.ext h) (HWY.out.ext h)
                          go_upto_region 21 with fail
                          replace HBF := hide (HBF.out.trans ((Below.refl wr.heap.size wr).drew.mono HBF.out.size))
                          refine wp_region_J (fun W : World => ((W.cell? ⟨G, 0, none⟩ = some (.slice (some ⟨ab, ao, none⟩) n d.c) ∧ W.cell? ⟨wb, wo + k, none⟩ = some (.int .i64 (y : Nat))) ∧ W.cell? ⟨ab, ao + y * 7 + 1, none⟩ = some (.slice na nn nc) ∧ W.cell? ⟨ab, ao + y * 7 + 5, none⟩ = some (.int .i64 to_))) (by kernel_rfl) ?_
                          generalize wr.drew = we at HBF ⊢
                          refine tk_start [0, 1, 2, 3, 4, 5, 6, 7, 8, 9, 10, 11] ?_
                          iterate 12
                            refine tk_one (v := ?_) (by first | exact hF | exact wideFn) (HS21.out _ HBF.out) rfl (by kernel_rfl) (by kernel_rfl) (by kernel_rfl) (by kernel_rfl) rfl ?_ (by first | exact fun _ _ _ h => h | exact fun _ _ _ h => hQ2 _ _ _ _ _ h) ?_
                            rotate_left
                            · intro W hSW
                              simp only [glA, glB, glC]
                              (try dsimp only at hSW)
                              go_simp
                              with_reducible rfl
                            (try simp only [glA, glB, glC, Act.put, glD, glE, glF])
                          refine tk_end ?_
                          refine wpAnyJ_done (by kernel_rfl) ?_
                          have HIE := hide (HI.out.ext HBF.out)
                          have HWE := hide (HWY.out.ext HBF.out)
                          have hi9 : i < 10 := by omega
                          have hi9' : (i : Int) < 10 := by omega
                          cases cb with
                          | false =>
                            have HZ3 : Hid (((L.take (k + 1)).any (fun x => cwB r day Y x.toNat) = false ∧ Z = Y ∧ c2 = c) ∨ ((L.take (k + 1)).any (fun x => cwB r day Y x.toNat) = true ∧ Z = anN Y (2 ^ i) ∧ c2 = true)) := hide (by
                              rcases HZ2.out with ⟨h1, h2, h3⟩ | ⟨h1, h2, h3⟩
                              · refine .inl ⟨?_, h2, h3⟩
                                rw [HTK.out, h1, ← h2, ← HCZ.out]; rfl
                              · exact .inr ⟨by rw [HTK.out, h1]; rfl, h2, h3⟩)
                            go_wp2_with fail
                            go_roundw
                            case rel => exact ⟨k + 1, Z, c2, by omega, rfl, by go_num, HZ3, HIE, HWE⟩
                            case measure => simp [intOf]; omega
                          | true =>
                            have HZ3 : Hid (((L.take (k + 1)).any (fun x => cwB r day Y x.toNat) = false ∧ anN Y (2 ^ i) = Y ∧ true = c) ∨ ((L.take (k + 1)).any (fun x => cwB r day Y x.toNat) = true ∧ anN Y (2 ^ i) = anN Y (2 ^ i) ∧ true = true)) := hide (by
                              refine .inr ⟨?_, rfl, rfl⟩
                              rcases HZ2.out with ⟨h1, h2, h3⟩ | ⟨h1, h2, h3⟩
                              · rw [HTK.out, h1, ← h2, ← HCZ.out]; rfl
                              · rw [HTK.out, h1]; rfl)
                            have HCL : Hid (∀ j, dB (anN Y (2 ^ i)) j = if j = i then false else dB Z j) := hide fun j => by
                              rw [clr_bit HY.out.lt]
                              rcases HZ2.out with ⟨h1, h2, h3⟩ | ⟨h1, h2, h3⟩
                              · rw [h2]
                              · rw [h2, clr_bit HY.out.lt]
                                by_cases h : j = i
                                · rw [if_pos h, if_pos h]
                                · rw [if_neg h, if_neg h]
                            have q0 := dn_cell HIE.out.kT hi9
                            have q1 := HIE.out.kT.frozen i
                            have HI5 := hide (HIE.out.put (b := false) hi9 (fun j _ => HCL.out j))
                            have HW5 := hide (HWE.out.put i (.bool false))
                            go_wp2_with fail
                            go_roundw
                            case rel => exact ⟨k + 1, anN Y (2 ^ i), true, by omega, rfl, by go_num, HZ3, HI5, HW5⟩
                            case measure => simp [intOf]; omega
                    · obtain rfl : nw = k := by omega
                      have hnl : ¬ (nw : Int) < (nw : Int) := by omega
                      have HEND : Hid (HoI r D day Z ∧ (c2 = false → Z = X ∧ ∀ j, j < i + 1 → X.testBit j = true → canB r day X j = false) ∧ (c2 = true → Z < X)) := hide (by
                        have h := HZ2.out
                        rw [List.take_of_length_le (by rw [HNW.out]; exact Nat.le_refl _), ← HCW.out] at h
                        have hYX : Y ≤ X := by
                          cases c with
                          | false => rw [(HC.out.1 rfl).1]; exact Nat.le_refl _
                          | true => exact Nat.le_of_lt (HC.out.2 rfl)
                        rcases h with ⟨h1, rfl, rfl⟩ | ⟨h1, rfl, rfl⟩
                        · refine ⟨HY.out, fun h2 => ⟨(HC.out.1 h2).1, fun j hj hx => ?_⟩, HC.out.2⟩
                          rcases (by omega : j < i ∨ j = i) with h3 | rfl
                          · exact (HC.out.1 h2).2 j h3 hx
                          · rw [← (HC.out.1 h2).1]; exact h1
                        · exact ⟨HY.out.clr h1, fun h2 => (by cases h2), fun _ => Nat.lt_of_lt_of_le (clr_lt HY.out.lt HYI.out) hYX⟩)
                      go_wp2_with fail
                      go_roundw
                      case rel => exact ⟨i + 1, Z, c2, by omega, rfl, by go_num, hide HEND.out.1, hide HEND.out.2, HI⟩
                      case measure => simp [intOf]; omega
            · obtain rfl : n = i := by omega
              have hnl : ¬ (n : Int) < (n : Int) := by omega
              have HRY : Hid (rdX T wr = Y) := hide (rdX_eq HI.out.kT (fun i hi => by
                rcases h : Y.testBit i with _ | _
                · rfl
                · have := HY.out.n HRO.out h; rw [HN.out] at this; omega))
              have HST2 : Hid (c = false → StaS r day Y) := hide fun h j hj => by
                have h2 := HC.out.1 h
                rw [h2.1] at hj ⊢
                exact h2.2 j (by have := HH.out.n HRO.out hj; rw [HN.out] at this; exact this) hj
              go_wp2_with fail
              go_roundw
              case rel => exact ⟨Y, c, rfl, HY, HST2, HI⟩
              case measure =>
                show 2 * rdX T _ + boV (.bool c) < 2 * rdX T _ + boV (.bool true)
                rw [HRY.out, HRX.out]
                cases c with
                | false =>
                  have := (HC.out.1 rfl).1
                  show 2 * Y + 0 < 2 * X + 1
                  omega
                | true =>
                  have := HC.out.2 rfl
                  show 2 * Y + 1 < 2 * X + 1
                  omega
end Go.Proofs.YtcgdalabenflmaaDoor
/- Rite: what a question answers, said in one way. -/
namespace Go.Proofs.YtcgdalabenflmaaDoor
open Go Go.RowKit Go.Shelf
set_option maxHeartbeats 8000000
set_option maxRecDepth 100000
/-- what a question answers, if it is answered -/
def askL (r : Rit) (l : List (Int × Int)) (day : Int) (S : Nat) : List Int := if frC r l day = 0 then ofN (elS S) else []
theorem ask_all {w w' : World} {r : Rit} {l : List (Int × Int)} {day : Int} {S : Nat} {e : Ending} (h : AskPost w r l day S e w') :
    ∃ B bc, e = .returned (.tuple #[.slice B (askL r l day S).length bc, .int .i64 (frC r l day)]) ∧ LI w' w'.heap.size B (askL r l day S) ∧ Below w.heap.size w w' := by
  obtain ⟨⟨hc, rfl⟩ | ⟨hc, -, v, rfl, hv⟩, hb⟩ := h
  · unfold askL
    rw [if_neg hc]
    exact ⟨none, 0, rfl, ER.nil _ _ _ _ _, hb⟩
  · obtain ⟨B, bc, rfl⟩ := own_shape hv
    unfold askL
    rw [if_pos hc, hc]
    exact ⟨B, bc, rfl, hv.li.2, hb⟩
theorem on_dayA (m : Mom) (x : Int) : (m.on x).day = x := by
  unfold Mom.on
  split
  · rename_i h; exact h.symm
  · rfl
end Go.Proofs.YtcgdalabenflmaaDoor
/- Rite: the law RiteAsks, walked. -/
namespace Go.Proofs.YtcgdalabenflmaaDoor
open Go Go.RowKit Go.Shelf
set_option maxHeartbeats 8000000
set_option maxRecDepth 100000
/-- two own lists of numbers in the making -/
structure Ij2 (w0 W : World) (VC VO : Value) (c o : List Int) : Prop where
  below : Below w0.heap.size w0 W
  cO : OwnJ W w0.heap.size VC c
  oO : OwnJ W w0.heap.size VO o
  ne : VC.ownBlock = none ∨ VO.ownBlock = none ∨ VC.ownBlock ≠ VO.ownBlock
theorem Ij2.ext {w0 W W' : World} {VC VO : Value} {c o : List Int} (h : Ij2 w0 W VC VO c o) (hb : Below W.heap.size W W') : Ij2 w0 W' VC VO c o :=
  ⟨h.below.trans (hb.mono h.below.size), h.cO.ext hb, h.oO.ext hb, h.ne⟩
theorem Ij2.turn {w0 W : World} {VC VO : Value} {c o : List Int} (h : Ij2 w0 W VC VO c o) : Ij2 w0 W VO VC o c :=
  ⟨h.below, h.oO, h.cO, by rcases h.ne with h | h | h; exact .inr (.inl h); exact .inl h; exact .inr (.inr fun e => h e.symm)⟩
theorem Ij2.pushC {w0 W : World} {VC VO : Value} {c o : List Int} (h : Ij2 w0 W VC VO c o) (x : Int) (hl : c.length ≤ 1000) :
    ∃ A cc w', (Builtin.append_ #[48, 48] 48 #[VC, .slice (some ⟨W.heap.size, 0, none⟩) 1 1]).run Tryd.prog (W.alloc (.cells #[.int .i64 x] 3)) = .ok (.slice A (c ++ [x]).length cc) w' ∧ Ij2 w0 w' (.slice A (c ++ [x]).length cc) VO (c ++ [x]) o := by
  have hBA : Below W.heap.size W (W.alloc (.cells #[.int .i64 x] 3)) := (Below.refl _ _).alloc (Nat.le_refl _) _
  have h5 := h.ext hBA
  obtain ⟨v', w', hr, h1, hg, ha⟩ := h5.cO.pushes (some ⟨W.heap.size, 0, none⟩) 1 [x] (LI.one W x) (by simp; omega) h5.below.size
  obtain ⟨A, cc, rfl⟩ := own_shape h1
  refine ⟨A, cc, w', hr, ?_, h1, own_grown h5.oO hg (ne_or h.ne).2, ?_⟩
  · exact h5.below.grown hg h5.below.size (fun j hj => (World.ownsRow.lt h5.cO j hj).1)
  · rcases ha with ha | ha
    · rw [ha]; exact h.ne
    · cases hvo : VO.ownBlock with
      | none => exact .inr (.inl rfl)
      | some g =>
        refine .inr (.inr ?_)
        rw [ha]
        have h7 := (World.ownsRow.lt h.oO g hvo).2
        have h8 := hBA.size
        intro e
        injection e with e
        omega
theorem Ij2.pushO {w0 W : World} {VC VO : Value} {c o : List Int} (h : Ij2 w0 W VC VO c o) (x : Int) (hl : o.length ≤ 1000) :
    ∃ A cc w', (Builtin.append_ #[48, 48] 48 #[VO, .slice (some ⟨W.heap.size, 0, none⟩) 1 1]).run Tryd.prog (W.alloc (.cells #[.int .i64 x] 3)) = .ok (.slice A (o ++ [x]).length cc) w' ∧ Ij2 w0 w' VC (.slice A (o ++ [x]).length cc) c (o ++ [x]) := by
  obtain ⟨A, cc, w', hr, h2⟩ := h.turn.pushC x hl
  exact ⟨A, cc, w', hr, h2.turn⟩
theorem Ij2.made (W : World) : Ij2 W ((W.alloc (.cells #[] 3)).alloc (.cells #[] 3)) (.slice (some ⟨W.heap.size, 0, none⟩) 0 0) (.slice (some ⟨W.heap.size + 1, 0, none⟩) 0 0) [] [] := by
  have h1 : Below (W.alloc (.cells #[] 3)).heap.size (W.alloc (.cells #[] 3)) ((W.alloc (.cells #[] 3)).alloc (.cells #[] 3)) := (Below.refl _ _).alloc (Nat.le_refl _) _
  have h0 : Below W.heap.size W (W.alloc (.cells #[] 3)) := (Below.refl _ _).alloc (Nat.le_refl _) _
  have hs : (W.alloc (.cells #[] 3)).heap.size = W.heap.size + 1 := by simp
  have h2 : OwnJ ((W.alloc (.cells #[] 3)).alloc (.cells #[] 3)) (W.heap.size + 1) (.slice (some ⟨W.heap.size + 1, 0, none⟩) 0 0) [] := by
    have h := OwnJ.made0 (W.alloc (.cells #[] 3))
    rw [hs] at h
    exact h
  refine ⟨h0.trans (h1.mono h0.size), (OwnJ.made0 W).ext h1, OwnJ.low3 h2 (by omega), .inr (.inr ?_)⟩
  intro e
  have e : some W.heap.size = some (W.heap.size + 1) := e
  injection e with e
  omega
theorem fiL_no {p : Nat → Bool} {i : Nat} {b : Bool} (h : p i = b) (hb : b = false) : fiL p (i + 1) = fiL p i := by rw [fiL_succ, if_neg (by rw [h, hb]; decide)]
theorem fiL_yes {p : Nat → Bool} {i : Nat} {b : Bool} (h : p i = b) (hb : b = true) : fiL p (i + 1) = fiL p i ++ [(i : Int)] := by rw [fiL_succ, if_pos (by rw [h, hb])]
theorem asks_any (d : Rad) (r : Rit) (A : Option Addr) (c : Nat) (l : List (Int × Int)) (day : Int) (w : World) (hd : RtR w d r) (hD : DsR w A l) (hT : TB w) :
    Calls Tryd.prog 4 #[.agg #[.slice d.A r.n d.c, .int .i64 r.last, .int .i64 r.toil], .slice A l.length c, .int .i64 day] w fun e w' => e = .returned (.bool true) ∧ Below w.heap.size w w' := by
  have HT := hide hT
  have HB1 : Hid (Below w.heap.size w (w.alloc (.cells #[.slice d.A r.n d.c, .int .i64 r.last, .int .i64 r.toil] 24))) := hide ((Below.refl _ _).alloc (Nat.le_refl _) _)
  obtain ⟨G, hG⟩ : ∃ x, w.heap.size = x := ⟨_, rfl⟩
  have HS : Hid (LwS w (w.alloc (.cells #[.slice d.A r.n d.c, .int .i64 r.last, .int .i64 r.toil] 24)) G d r A l) := hide ⟨HB1.out, by rw [← hG]; exact Blk.new w _ _, hd.ext HB1.out, hD.ext HB1.out⟩
  have HLO1 := hide (fun W (h : RtR W d r) => long_any d r A c l W h)
  have HKN := hide (fun W (h : Below w.heap.size w W) => known_any W (hT.ext h))
  have HCP := hide (fun (hz : RtZ r) W (h : RtR W d r) => copied_any d r W h hz)
  have HDE := hide (fun (hl : l.length ≤ 1000000) W (h : DsR W A l) => deeds_any A c l W h hl)
  have HOP := hide (fun (hz : RtZ r) (hl : l.length ≤ 1000000) d' A' c' W (h : RtR W d' r) (h2 : DsR W A' l) (h3 : TB W) => (open_rite d' r A' c' l day W h hz hl h2 h3).mono fun _ _ => ask_all)
  have HFO := hide (fun (hz : RtZ r) (hl : l.length ≤ 1000000) d' A' c' W (h : RtR W d' r) (h2 : DsR W A' l) (h3 : TB W) => (forgotten_rite d' r A' c' l day W h hz hl h2 h3).mono fun _ _ => ask_all)
  have HHO := hide (fun (hz : RtZ r) (hl : l.length ≤ 1000000) d' A' c' W (h : RtR W d' r) (h2 : DsR W A' l) (h3 : TB W) => (hopeless_rite d' r A' c' l day W h hz hl h2 h3).mono fun _ _ => ask_all)
  have HVA := hide (fun (hz : RtZ r) W (h : RtR W d r) => valid_any d r W h hz)
  have HFW := hide (fun (hr : RiOk r) (hz : RtZ r) (hl : l.length ≤ 1000000) W (h : RtR W d r) (h2 : DsR W A l) => refFollow_any d r A c l W h hr hz h2 hl)
  unfold CpPost at HCP
  obtain ⟨nl, hnl⟩ : ∃ n, l.length = n := ⟨_, rfl⟩
  have HNL := hide hnl
  obtain ⟨fr, hfr⟩ : ∃ x, frC r l day = x := ⟨_, rfl⟩
  obtain ⟨vb, hvb⟩ : ∃ x, riB r = x := ⟨_, rfl⟩
  obtain ⟨LO, hLO⟩ : ∃ x, askL r l day (if riB r = true then neS r ((folF r m0 l 0).1.on day) else 0) = x := ⟨_, rfl⟩
  obtain ⟨nO, hnO⟩ : ∃ x, LO.length = x := ⟨_, rfl⟩
  obtain ⟨LF, hLF⟩ : ∃ x, askL r l day (if riB r = true then foS r ((folF r m0 l 0).1.on day).d ((folF r m0 l 0).1.on day).day else 0) = x := ⟨_, rfl⟩
  obtain ⟨nF, hnF⟩ : ∃ x, LF.length = x := ⟨_, rfl⟩
  obtain ⟨LH, hLH⟩ : ∃ x, askL r l day (if riB r = true then hpS r ((folF r m0 l 0).1.on day) else 0) = x := ⟨_, rfl⟩
  obtain ⟨nH, hnH⟩ : ∃ x, LH.length = x := ⟨_, rfl⟩
  rw [hLO, hnO, hfr] at HOP
  rw [hLF, hnF, hfr] at HFO
  rw [hLH, hnH, hfr] at HHO
  rw [hvb] at HVA
  have HFR := hide hfr
  have HVB := hide hvb
  have HLO0 := hide hLO
  have HLF0 := hide hLF
  have HLH0 := hide hLH
  have HNO := hide hnO
  have HNF := hide hnF
  have HNH := hide hnH
  have hl16 : ∀ S, (askL r l day S).length ≤ 16 := fun S => by
    unfold askL
    split
    · unfold ofN; rw [List.length_map]; exact el_len S
    · simp
  have HL16 : Hid (nO ≤ 16 ∧ nF ≤ 16 ∧ nH ≤ 16) := hide ⟨by rw [← hnO, ← hLO]; exact hl16 _, by rw [← hnF, ← hLF]; exact hl16 _, by rw [← hnH, ← hLH]; exact hl16 _⟩
  rw [hnl] at HLO1 HDE HOP HFO HHO HFW ⊢
  clear hd hD hT HB1 hnl hfr hvb hLO hnO hLF hnF hLH hnH hl16
  go_enter Tryd.func4, Tryd.ntmps4
  go_upto_region 1 with fail
  (try rw [hG])
  clear hG
  generalize w.alloc (.cells #[.slice d.A r.n d.c, .int .i64 r.last, .int .i64 r.toil] 24) = w1 at HS ⊢
  obtain ⟨g9, g0, g1, g2, -⟩ := blk3 HS.out.kG
  go_wp2_with fail
  refine (HLO1.out w1 HS.out.rt).mono ?_
  rintro e w2 ⟨rfl, hb2⟩
  replace HS := hide (HS.out.ext hb2)
  (try replace HLO := hide (liE HLO.out hb2))
  (try replace HLF := hide (liE HLF.out hb2))
  (try replace HLH := hide (liE HLH.out hb2))
  (try replace KD := hide (KD.out.ext hb2))
  clear g9 g0 g1 g2 hb2 HLO1
  rcases hlo : loF r l with _ | _
  · obtain ⟨hz, hl20⟩ := lo_z hlo
    rw [HNL.out] at hl20
    have hlm : nl ≤ 1000000 := by omega
    have HZ := hide hz
    replace HCP := hide (HCP.out hz)
    replace HDE := hide (HDE.out hlm)
    replace HOP := hide (HOP.out hz hlm)
    replace HFO := hide (HFO.out hz hlm)
    replace HHO := hide (HHO.out hz hlm)
    replace HVA := hide (HVA.out hz)
    clear hlo hz
    obtain ⟨g9, g0, g1, g2, -⟩ := blk3 HS.out.kG
    go_wp2_with fail
    refine (HCP.out w2 HS.out.rt).mono ?_
    rintro e wpa ⟨dpa, rfl, hrp, hbp⟩
    have RPa := hide hrp
    replace HS := hide (HS.out.ext hbp)
    (try replace HLO := hide (liE HLO.out hbp))
    (try replace HLF := hide (liE HLF.out hbp))
    (try replace HLH := hide (liE HLH.out hbp))
    (try replace KD := hide (KD.out.ext hbp))
    clear hrp hbp g9 g0 g1 g2
    go_wp2_with fail
    refine (HDE.out wpa HS.out.ds).mono ?_
    rintro e wqa ⟨Aqa, cqa, rfl, hoq, hbq⟩
    have DQa := hide hoq.dsr.2
    replace RPa := hide (RPa.out.ext hbq)
    replace HS := hide (HS.out.ext hbq)
    (try replace HLO := hide (liE HLO.out hbq))
    (try replace HLF := hide (liE HLF.out hbq))
    (try replace HLH := hide (liE HLH.out hbq))
    (try replace KD := hide (KD.out.ext hbq))
    clear hoq hbq
    go_wp2_with fail
    refine (HOP.out dpa Aqa cqa wqa RPa.out DQa.out (HT.out.ext HS.out.lo)).mono ?_
    rintro e w4 ⟨AO, cO, rfl, hlo, hb4⟩
    replace HS := hide (HS.out.ext hb4)
    (try replace HLO := hide (liE HLO.out hb4))
    (try replace HLF := hide (liE HLF.out hb4))
    (try replace HLH := hide (liE HLH.out hb4))
    (try replace KD := hide (KD.out.ext hb4))
    have HLO := hide hlo
    clear hlo hb4 HOP RPa DQa
    obtain ⟨g9, g0, g1, g2, -⟩ := blk3 HS.out.kG
    go_wp2_with fail
    refine (HCP.out w4 HS.out.rt).mono ?_
    rintro e wpb ⟨dpb, rfl, hrp, hbp⟩
    have RPb := hide hrp
    replace HS := hide (HS.out.ext hbp)
    (try replace HLO := hide (liE HLO.out hbp))
    (try replace HLF := hide (liE HLF.out hbp))
    (try replace HLH := hide (liE HLH.out hbp))
    (try replace KD := hide (KD.out.ext hbp))
    clear hrp hbp g9 g0 g1 g2
    go_wp2_with fail
    refine (HDE.out wpb HS.out.ds).mono ?_
    rintro e wqb ⟨Aqb, cqb, rfl, hoq, hbq⟩
    have DQb := hide hoq.dsr.2
    replace RPb := hide (RPb.out.ext hbq)
    replace HS := hide (HS.out.ext hbq)
    (try replace HLO := hide (liE HLO.out hbq))
    (try replace HLF := hide (liE HLF.out hbq))
    (try replace HLH := hide (liE HLH.out hbq))
    (try replace KD := hide (KD.out.ext hbq))
    clear hoq hbq
    go_wp2_with fail
    refine (HFO.out dpb Aqb cqb wqb RPb.out DQb.out (HT.out.ext HS.out.lo)).mono ?_
    rintro e w5 ⟨AF, cF, rfl, hlf, hb5⟩
    replace HS := hide (HS.out.ext hb5)
    (try replace HLO := hide (liE HLO.out hb5))
    (try replace HLF := hide (liE HLF.out hb5))
    (try replace HLH := hide (liE HLH.out hb5))
    (try replace KD := hide (KD.out.ext hb5))
    have HLF := hide hlf
    clear hlf hb5 HFO RPb DQb
    obtain ⟨g9, g0, g1, g2, -⟩ := blk3 HS.out.kG
    go_wp2_with fail
    refine (HCP.out w5 HS.out.rt).mono ?_
    rintro e wpc ⟨dpc, rfl, hrp, hbp⟩
    have RPc := hide hrp
    replace HS := hide (HS.out.ext hbp)
    (try replace HLO := hide (liE HLO.out hbp))
    (try replace HLF := hide (liE HLF.out hbp))
    (try replace HLH := hide (liE HLH.out hbp))
    (try replace KD := hide (KD.out.ext hbp))
    clear hrp hbp g9 g0 g1 g2
    go_wp2_with fail
    refine (HDE.out wpc HS.out.ds).mono ?_
    rintro e wqc ⟨Aqc, cqc, rfl, hoq, hbq⟩
    have DQc := hide hoq.dsr.2
    replace RPc := hide (RPc.out.ext hbq)
    replace HS := hide (HS.out.ext hbq)
    (try replace HLO := hide (liE HLO.out hbq))
    (try replace HLF := hide (liE HLF.out hbq))
    (try replace HLH := hide (liE HLH.out hbq))
    (try replace KD := hide (KD.out.ext hbq))
    clear hoq hbq
    go_wp2_with fail
    refine (HHO.out dpc Aqc cqc wqc RPc.out DQc.out (HT.out.ext HS.out.lo)).mono ?_
    rintro e w6 ⟨AH, cH, rfl, hlh, hb6⟩
    replace HS := hide (HS.out.ext hb6)
    (try replace HLO := hide (liE HLO.out hb6))
    (try replace HLF := hide (liE HLF.out hb6))
    (try replace HLH := hide (liE HLH.out hb6))
    (try replace KD := hide (KD.out.ext hb6))
    have HLH := hide hlh
    clear hlh hb6 HHO RPc DQc HCP HDE
    have HS6 := hide HS.out
    have hba : Below w6.heap.size w6 (w6.alloc (.cells #[.bool false, .bool false, .bool false, .bool false, .bool false, .bool false, .bool false, .bool false, .bool false, .bool false] 37)) := (Below.refl _ _).alloc (Nat.le_refl _) _
    obtain ⟨wS, hrun, hKS, hBS, -⟩ := store_blk (P := Tryd.prog) (ty := 37) (cells := #[.bool false, .bool false, .bool false, .bool false, .bool false, .bool false, .bool false, .bool false, .bool false, .bool false]) (Blk.new w6 37 #[.bool false, .bool false, .bool false, .bool false, .bool false, .bool false, .bool false, .bool false, .bool false, .bool false]) rfl (by kernel_rfl) (by simp [Value.oneCell'])
    have HB : Hid (Below w6.heap.size w6 wS) := hide (hBS _ _ hba (Nat.le_refl _))
    have HRUN := hide hrun
    have KD := hide hKS
    obtain ⟨T, hT2⟩ : ∃ x, w6.heap.size = x := ⟨_, rfl⟩
    have HT2 := hide hT2
    rw [hT2] at KD HRUN
    clear hba hrun hKS hBS
    obtain ⟨-, g0, g1, g2, -⟩ := blk3 (HS.out.ext HB.out).kG
    go_wp2_with (first | (refine wpList_store_run rfl 37 (.tmp 14) (.tmp 53) rfl rfl rfl HRUN.out ?_))
    clear HRUN hT2
    refine (HVA.out wS (HS.out.ext HB.out).rt).mono ?_
    rintro e w7 ⟨rfl, hb7⟩
    replace HB := hide (HB.out.trans ((hb7).mono HB.out.size))
    (try replace KD := hide (KD.out.ext hb7))
    clear hb7 HVA g0 g1 g2
    cases vb with
    | false =>
      have e9 : fr = 2 := by rw [← HFR.out]; unfold frC aftC; rw [HVB.out]; rfl
      subst e9
      have e1 : nO = 0 := by rw [← HNO.out, ← HLO0.out]; unfold askL; rw [HFR.out]; rfl
      have e2 : nF = 0 := by rw [← HNF.out, ← HLF0.out]; unfold askL; rw [HFR.out]; rfl
      have e3 : nH = 0 := by rw [← HNH.out, ← HLH0.out]; unfold askL; rw [HFR.out]; rfl
      subst e1 e2 e3
      go_wp2_with fail
      refine (HKN.out w7 (HS.out.ext HB.out).lo).mono ?_
      rintro e wk ⟨rfl, hbk⟩
      replace HB := hide (HB.out.trans ((hbk).mono HB.out.size))
      (try replace KD := hide (KD.out.ext hbk))
      clear hbk
      go_wp2_with fail
      go_ret
      exact ⟨rfl, (HS.out.ext HB.out).lo⟩
    | true =>
      have HRO := hide (riB_ok HVB.out)
      have hn10 := HRO.out.n10
      obtain ⟨D, hDD⟩ : ∃ x, (folF r m0 l 0).1.d = x := ⟨_, rfl⟩
      obtain ⟨dy, hdy⟩ : ∃ x, (folF r m0 l 0).1.day = x := ⟨_, rfl⟩
      obtain ⟨de, hde⟩ : ∃ x, (folF r m0 l 0).1.de = x := ⟨_, rfl⟩
      obtain ⟨ru, hru⟩ : ∃ x, (folF r m0 l 0).2.2 = x := ⟨_, rfl⟩
      obtain ⟨de2, hde2⟩ : ∃ x, ((folF r m0 l 0).1.on day).de = x := ⟨_, rfl⟩
      have hmo : (folF r m0 l 0).1.on day = ⟨D, day, de2⟩ := by
        rw [← hde2, ← hDD, ← on_d _ day]
        have := on_dayA (folF r m0 l 0).1 day
        generalize (folF r m0 l 0).1.on day = m at this ⊢
        subst this
        rfl
      have hde3 : de2 = if day = dy then de else 0 := by
        rw [← hde2, ← hdy, ← hde]
        unfold Mom.on
        split <;> rfl
      have ha : aftC r l = if ru = 0 then 0 else 9 := by unfold aftC; rw [HVB.out, hru]; rfl
      have hfr : fr = if ru = 0 then (if dy ≤ day ∧ day ≤ r.last then 0 else 3) else 9 := by
        rw [← HFR.out]
        unfold frC
        rw [ha, hdy]
        by_cases h0 : ru = 0
        · rw [if_pos h0, if_pos h0, if_pos rfl]
        · rw [if_neg h0, if_neg h0, if_neg (by decide)]
      have HFX := hide (HFW.out HRO.out HZ.out hlm)
      rw [hDD, hdy, hde, hru] at HFX
      rw [hmo] at HLO0 HLF0 HLH0
      have HMO := hide hmo
      have HE3 := hide hde3
      have HFR2 := hide hfr
      clear HFW hDD hdy hde hru hde2 hmo hde3 ha hfr
      obtain ⟨at_, hat⟩ : ∃ x, (folF r m0 l 0).2.1 = x := ⟨_, rfl⟩
      rw [hat] at HFX
      clear hat
      obtain ⟨-, g0, g1, g2, -⟩ := blk3 (HS.out.ext HB.out).kG
      go_wp2_with fail
      refine (HFX.out w7 (HS.out.ext HB.out).rt (HS.out.ext HB.out).ds).mono ?_
      rintro e wF ⟨rfl, hbF⟩
      replace HB := hide (HB.out.trans ((hbF).mono HB.out.size))
      (try replace KD := hide (KD.out.ext hbF))
      clear hbF HFX g0 g1 g2
      obtain ⟨wU, hrun, hKU, hBU, -⟩ := store_blk (P := Tryd.prog) (ty := 37) (cells := #[.bool (dB D 0), .bool (dB D 1), .bool (dB D 2), .bool (dB D 3), .bool (dB D 4), .bool (dB D 5), .bool (dB D 6), .bool (dB D 7), .bool (dB D 8), .bool (dB D 9)]) KD.out rfl (by kernel_rfl) (by simp [Value.oneCell'])
      have hb8 := hBU _ _ HB.out (by rw [HT2.out]; exact Nat.le_refl _)
      replace HB := hide hb8
      replace KD := hide hKU
      have HRUN := hide hrun
      clear hrun hKU hBU hb8
      obtain ⟨n, hn⟩ : ∃ x, r.n = x := ⟨_, rfl⟩
      obtain ⟨la, hla⟩ : ∃ x, r.last = x := ⟨_, rfl⟩
      obtain ⟨tl, htl⟩ : ∃ x, r.toil = x := ⟨_, rfl⟩
      have HN := hide (And.intro hn (And.intro hla htl))
      have HBX := hide (fun i W (h : RtR W d r) => refBreaks_any d r D day de2 i W h HRO.out HZ.out)
      have HGX := hide (fun i (hi : i < r.n) W (h : RtR W d r) => refForgotten_any d r D i day W h HRO.out HZ.out hi)
      have HHX := hide (fun W (h : RtR W d r) => refHopeless_any d r D day W h HRO.out HZ.out)
      have HLD : Hid (∀ W, Below w6.heap.size w6 W → W.cell? ⟨G, 0, none⟩ = some (.slice d.A n d.c) ∧ W.cell? ⟨G, 1, none⟩ = some (.int .i64 la) ∧ W.cell? ⟨G, 2, none⟩ = some (.int .i64 tl)) := hide fun W h => by
        obtain ⟨-, g0, g1, g2, -⟩ := blk3 (HS.out.ext h).kG
        rw [hn] at g0
        rw [hla] at g1
        rw [htl] at g2
        exact ⟨g0, g1, g2⟩
      rw [hla] at HFR2
      rw [hn] at hn10
      rw [hn, hla, htl] at HBX HGX HHX
      rw [hn, hla, htl]
      clear hn hla htl
      obtain ⟨g0, g1, g2⟩ := HLD.out wU HB.out
      by_cases hru0 : ru = 0
      · by_cases hin : dy ≤ day ∧ day ≤ la
        · have hf0 := HFR2.out
          rw [if_pos hru0, if_pos hin] at hf0
          subst hf0 hru0
          clear HFR2
          have hin1 : ¬ day < dy := by omega
          have hin2 : ¬ la < day := by omega
          have HD2 : Hid (if dy < day then de2 = 0 else de2 = de) := hide (by
            rw [HE3.out]
            by_cases h : dy < day
            · rw [if_pos h, if_neg (by omega)]
            · rw [if_neg h, if_pos (by omega)])
          go_upto_if 108 with (refine wpList_store_run rfl 37 (.tmp 14) (.tmp 61) rfl rfl rfl HRUN.out ?_)
          go_cut [16] (fun v w' => v = .int .i64 de2 ∧ w' = wU)
          case first =>
            by_cases hdd : dy < day
            · have h2 := HD2.out
              rw [if_pos hdd] at h2
              subst h2
              clear HRUN
              go_wp2_with fail
              go_meet
              exact ⟨rfl, rfl⟩
            · have h2 := HD2.out
              rw [if_neg hdd] at h2
              subst h2
              clear HRUN
              go_wp2_with fail
              go_meet
              exact ⟨rfl, rfl⟩
          obtain ⟨rfl, hwc⟩ := hcut
          obtain rfl : wU = wc := hwc.symm
          clear HRUN HD2 hin1 hin2 g0 g1 g2 HE3 HMO
          have HLO1 : Hid (fiL (fun i => decide (brF r D day de2 (i : Nat) = 0)) n = LO) := hide (by
            rw [fiL_mk _ (by omega), ← HLO0.out]
            unfold askL
            rw [if_pos HFR.out, if_pos HVB.out, ← HN.out.1]
            rfl)
          have HLF1 : Hid (fiL (foB r D day) n = LF) := hide (by
            rw [fiL_mk _ (by omega), ← HLF0.out]
            unfold askL
            rw [if_pos HFR.out, if_pos HVB.out, ← HN.out.1]
            rfl)
          have HLH1 : Hid (ofN (elS (hpS r ⟨D, day, 0⟩)) = LH) := hide (by
            rw [← HLH0.out]
            unfold askL
            rw [if_pos HFR.out, if_pos HVB.out]
            rfl)
          clear HLO0 HLF0 HLH0 HFR HVB
          obtain ⟨p, hp⟩ : ∃ p : Nat → Bool, (fun i : Nat => decide (brF r D day de2 (i : Nat) = 0)) = p := ⟨_, rfl⟩
          obtain ⟨q, hq⟩ : ∃ q : Nat → Bool, foB r D day = q := ⟨_, rfl⟩
          have HP : Hid (∀ i : Nat, p i = decide (brF r D day de2 (i : Nat) = 0)) := hide fun i => by rw [← hp]
          rw [hp] at HLO1
          rw [hq] at HLF1 HGX
          clear hp hq
          have HI0 := hide (Ij2.made wU)
          go_wp2_with fail
          generalize (wU.alloc (.cells #[] 3)).alloc (.cells #[] 3) = wT at HI0 ⊢
          go_loopw [19, 20, 21] (fun x y z wr => ∃ (i : Nat) (B1 B2 : Option Addr) (c1 c2 : Nat), i ≤ n ∧ z = .int .i64 i ∧ x = .slice B1 (fiL p i).length c1 ∧ y = .slice B2 (fiL q i).length c2 ∧ Hid (Ij2 wU wr (.slice B1 (fiL p i).length c1) (.slice B2 (fiL q i).length c2) (fiL p i) (fiL q i))) (fun _ _ z _ => n - (intOf z).toNat)
          case atStart => exact ⟨0, _, _, _, _, Nat.zero_le _, rfl, rfl, rfl, HI0⟩
          case round =>
            obtain ⟨i, B1, B2, c1, c2, hi, rfl, rfl, rfl, HI⟩ := hrel
            have hst : IntKind.i64.wrap ((i : Int) + 1) = ((i + 1 : Nat) : Int) := by rw [IntWalk.i64_in _ (by omega)]; omega
            have HBr : Hid (Below w6.heap.size w6 wr) := hide (HB.out.trans (HI.out.below.mono HB.out.size))
            have KDr := hide (KD.out.ext HI.out.below)
            obtain ⟨g0, g1, g2⟩ := HLD.out wr HBr.out
            obtain ⟨x0, x1, x2, x3, x4, x5, x6, x7, x8, x9⟩ := bx10 KDr.out
            by_cases hlt : i < n
            · have hlt' : (i : Int) < (n : Int) := by omega
              obtain ⟨bi, hbi⟩ : ∃ x, brF r D day de2 (i : Nat) = x := ⟨_, rfl⟩
              have HPi : Hid (p i = decide (bi = 0)) := hide (by rw [HP.out, hbi])
              obtain ⟨fb, hfb⟩ : ∃ x, q i = x := ⟨_, rfl⟩
              have HQi := hide hfb
              have HC1 := hide (HBX.out i wr (HS.out.ext HBr.out).rt)
              rw [hbi] at HC1
              clear hbi hfb
              go_wp2_with fail
              refine HC1.out.mono ?_
              rintro e wa ⟨rfl, hba⟩
              replace HI := hide (HI.out.ext hba)
              clear hba HC1 g0 g1 g2 x0 x1 x2 x3 x4 x5 x6 x7 x8 x9 HBr KDr
              go_upto_if 124 with fail
              go_cut [19] (fun v w' => ∃ A cc, v = .slice A (fiL p (i + 1)).length cc ∧ Hid (Ij2 wU w' (.slice A (fiL p (i + 1)).length cc) (.slice B2 (fiL q i).length c2) (fiL p (i + 1)) (fiL q i)))
              case first =>
                by_cases hb0 : bi = 0
                · subst hb0
                  have hfs := fiL_yes HPi.out rfl
                  obtain ⟨A9, c9, w9, hrun, hI9⟩ := HI.out.pushC (i : Int) (by have := fiL_len p i; omega)
                  rw [← hfs] at hrun hI9
                  have HRUN := hide hrun
                  have HI9 := hide hI9
                  clear hrun hI9 hfs
                  go_wp2_with (at_builtin; refine wpList_append_run rfl (.tmp 125) (.tmp 127) 48 rfl rfl rfl HRUN.out ?_)
                  go_meet
                  exact ⟨A9, c9, rfl, HI9⟩
                · have hfs := fiL_no HPi.out (decide_eq_false hb0)
                  go_wp2_with fail
                  go_meet
                  exact ⟨B1, c1, by rw [hfs], by rw [hfs]; exact HI⟩
              obtain ⟨B3, c3, rfl, HI2⟩ := hcut
              clear HI HPi
              have HBr : Hid (Below w6.heap.size w6 wc) := hide (HB.out.trans (HI2.out.below.mono HB.out.size))
              have KDr := hide (KD.out.ext HI2.out.below)
              obtain ⟨g0, g1, g2⟩ := HLD.out wc HBr.out
              obtain ⟨x0, x1, x2, x3, x4, x5, x6, x7, x8, x9⟩ := bx10 KDr.out
              have HC2 := hide (HGX.out i hlt wc (HS.out.ext HBr.out).rt)
              rw [HQi.out] at HC2
              go_wp2_with fail
              refine HC2.out.mono ?_
              rintro e wd ⟨rfl, hbd⟩
              replace HI2 := hide (HI2.out.ext hbd)
              clear hbd HC2 g0 g1 g2 x0 x1 x2 x3 x4 x5 x6 x7 x8 x9 HBr KDr
              cases fb with
              | true =>
                have hfs := fiL_yes HQi.out rfl
                obtain ⟨A9, c9, w9, hrun, hI9⟩ := HI2.out.pushO (i : Int) (by have := fiL_len q i; omega)
                rw [← hfs] at hrun hI9
                have HRUN := hide hrun
                have HI9 := hide hI9
                clear hrun hI9 hfs
                go_wp2_with (at_builtin; refine wpList_append_run rfl (.tmp 134) (.tmp 136) 48 rfl rfl rfl HRUN.out ?_)
                go_roundw
                case rel => exact ⟨i + 1, B3, A9, c3, c9, by omega, by go_num, rfl, rfl, HI9⟩
                case measure => simp [intOf]; omega
              | false =>
                have hfs := fiL_no HQi.out rfl
                go_wp2_with fail
                go_roundw
                case rel => exact ⟨i + 1, B3, B2, c3, c2, by omega, by go_num, rfl, by rw [hfs], by rw [hfs]; exact HI2⟩
                case measure => simp [intOf]; omega
            · obtain rfl : n = i := by omega
              have hnl : ¬ (n : Int) < (n : Int) := by omega
              have hl1 := HI.out.cO.li.2
              have hl2 := HI.out.oO.li.2
              rw [HLO1.out] at hl1 HI ⊢
              rw [HLF1.out] at hl2 HI ⊢
              rw [HNO.out, HNF.out]
              have HL1 := hide hl1
              have HL2 := hide hl2
              clear hl1 hl2
              have HLO2 := hide (liE (liE HLO.out HB.out) HI.out.below)
              have HLF2 := hide (liE (liE HLF.out HB.out) HI.out.below)
              have HLH2 := hide (liE (liE HLH.out HB.out) HI.out.below)
              have HE1 := hide (requal_any AO B1 cO c1 LO LO wr (by rw [HNO.out]; have := HL16.out; unfold maxLen; omega) HLO2.out HL1.out)
              have HE2 := hide (fun W (h : Below wr.heap.size wr W) => requal_any AF B2 cF c2 LF LF W (by rw [HNF.out]; have := HL16.out; unfold maxLen; omega) (liE HLF2.out h) (liE HL2.out h))
              rw [HNO.out, show decide (LO = LO) = true from decide_eq_true rfl] at HE1
              rw [HNF.out, show decide (LF = LF) = true from decide_eq_true rfl] at HE2
              clear HLO HLF HLH HLO2 HLF2 HL1 HL2 HI hst hlt HP HLO1 HLF1 HBX HGX x0 x1 x2 x3 x4 x5 x6 x7 x8 x9
              go_wp2_with fail
              refine HE1.out.mono ?_
              rintro e wa ⟨rfl, hba⟩
              go_wp2_with fail
              refine (HE2.out wa hba).mono ?_
              rintro e wb ⟨rfl, hbb⟩
              have HBq := hide (hba.trans (hbb.mono hba.size))
              replace HBr := hide (HBr.out.trans (HBq.out.mono HBr.out.size))
              replace KDr := hide (KDr.out.ext HBq.out)
              replace HLH2 := hide (liE HLH2.out HBq.out)
              clear HE1 HE2 hba hbb HBq g0 g1 g2
              obtain ⟨g0, g1, g2⟩ := HLD.out wb HBr.out
              obtain ⟨x0, x1, x2, x3, x4, x5, x6, x7, x8, x9⟩ := bx10 KDr.out
              go_wp2_with fail
              refine (HHX.out wb (HS.out.ext HBr.out).rt).mono ?_
              rintro e wv ⟨BH, ch, rfl, hlh, hbv⟩
              rw [HLH1.out] at hlh ⊢
              have HE3 := requal_any AH BH cH ch LH LH wv (by rw [HNH.out]; have := HL16.out; unfold maxLen; omega) (liE HLH2.out hbv) hlh
              rw [HNH.out, show decide (LH = LH) = true from decide_eq_true rfl] at HE3
              rw [HNH.out]
              replace HE3 := hide HE3
              replace HBr := hide (HBr.out.trans (hbv.mono HBr.out.size))
              clear hlh hbv g0 g1 g2 x0 x1 x2 x3 x4 x5 x6 x7 x8 x9 HLH2 HHX
              go_wp2_with fail
              refine HE3.out.mono ?_
              rintro e wx ⟨rfl, hbx⟩
              replace HBr := hide (HBr.out.trans (hbx.mono HBr.out.size))
              clear hbx HE3
              go_wp2_with fail
              refine (HKN.out wx (HS.out.ext HBr.out).lo).mono ?_
              rintro e wk ⟨rfl, hbk⟩
              replace HBr := hide (HBr.out.trans (hbk.mono HBr.out.size))
              clear hbk
              go_wp2_with fail
              go_ret
              exact ⟨rfl, (HS.out.ext HBr.out).lo⟩
        · have hf0 := HFR2.out
          rw [if_pos hru0, if_neg hin] at hf0
          subst hf0 hru0
          clear HFR2
          have e1 : nO = 0 := by rw [← HNO.out, ← HLO0.out]; unfold askL; rw [HFR.out]; rfl
          have e2 : nF = 0 := by rw [← HNF.out, ← HLF0.out]; unfold askL; rw [HFR.out]; rfl
          have e3 : nH = 0 := by rw [← HNH.out, ← HLH0.out]; unfold askL; rw [HFR.out]; rfl
          subst e1 e2 e3
          by_cases hdd : day < dy
          · go_wp2_with (refine wpList_store_run rfl 37 (.tmp 14) (.tmp 61) rfl rfl rfl HRUN.out ?_)
            refine (HKN.out wU (HS.out.ext HB.out).lo).mono ?_
            rintro e wk ⟨rfl, hbk⟩
            replace HB := hide (HB.out.trans ((hbk).mono HB.out.size))
            (try replace KD := hide (KD.out.ext hbk))
            clear hbk
            go_wp2_with fail
            go_ret
            exact ⟨rfl, (HS.out.ext HB.out).lo⟩
          · have hd2 : la < day := by omega
            go_wp2_with (refine wpList_store_run rfl 37 (.tmp 14) (.tmp 61) rfl rfl rfl HRUN.out ?_)
            refine (HKN.out wU (HS.out.ext HB.out).lo).mono ?_
            rintro e wk ⟨rfl, hbk⟩
            replace HB := hide (HB.out.trans ((hbk).mono HB.out.size))
            (try replace KD := hide (KD.out.ext hbk))
            clear hbk
            go_wp2_with fail
            go_ret
            exact ⟨rfl, (HS.out.ext HB.out).lo⟩
      · have hf0 := HFR2.out
        rw [if_neg hru0] at hf0
        subst hf0
        clear HFR2
        have e1 : nO = 0 := by rw [← HNO.out, ← HLO0.out]; unfold askL; rw [HFR.out]; rfl
        have e2 : nF = 0 := by rw [← HNF.out, ← HLF0.out]; unfold askL; rw [HFR.out]; rfl
        have e3 : nH = 0 := by rw [← HNH.out, ← HLH0.out]; unfold askL; rw [HFR.out]; rfl
        subst e1 e2 e3
        have hr2 : (ru != 0) = true := by rw [bne_iff_ne]; exact hru0
        go_wp2_with (refine wpList_store_run rfl 37 (.tmp 14) (.tmp 61) rfl rfl rfl HRUN.out ?_)
        refine (HKN.out wU (HS.out.ext HB.out).lo).mono ?_
        rintro e wk ⟨rfl, hbk⟩
        replace HB := hide (HB.out.trans ((hbk).mono HB.out.size))
        (try replace KD := hide (KD.out.ext hbk))
        clear hbk
        go_wp2_with fail
        go_ret
        exact ⟨rfl, (HS.out.ext HB.out).lo⟩
  · clear hlo
    go_wp2_with fail
    refine (HKN.out w2 HS.out.lo).mono ?_
    rintro e wk ⟨rfl, hbk⟩
    replace HS := hide (HS.out.ext hbk)
    (try replace HLO := hide (liE HLO.out hbk))
    (try replace HLF := hide (liE HLF.out hbk))
    (try replace HLH := hide (liE HLH.out hbk))
    (try replace KD := hide (KD.out.ext hbk))
    clear hbk
    go_wp2_with fail
    go_ret
    exact ⟨rfl, HS.out.lo⟩
end Go.Proofs.YtcgdalabenflmaaDoor
/- How a law's statement follows from its walk; arguments opened as readings. -/
namespace Go.Proofs.YtcgdalabenflmaaDoor
open Go Go.RowKit Go.ChangeShapes Go.WideShapes Go.ChangeAt
set_option maxRecDepth 100000
theorem own_knob : ownKnob Tryd.prog.godebug = none := by kernel_rfl
theorem laidOut : laidOutB Tryd.prog = true := by kernel_rfl
section
variable {H : Type} {enc : TypeId × Value → H}
/-- arguments read behind the call as before, if below the heap's old size nothing has turned -/
theorem stay_all {W W' : World} (hb : Below W.heap.size W W') {sp : Nat → Bool} : ∀ {ts : List TypeId} {vs : List Value} {ds : List (DataW H)} {ps : List MemPlace},
    (∀ t ∈ ts, Tryd.prog.readableRec t = true ∧ t < Tryd.prog.types.size) → DataW.TrodAll enc Tryd.prog W 0 (fun _ => true) true ts vs ds ps → (∀ x ∈ ps, x.block < W.heap.size) → (∀ x ∈ ps, sp x.block = true) →
    DataW.TrodAll enc Tryd.prog W' 0 sp true ts vs ds ps
  | [], _, _, _, _, h, _, _ => by
    obtain ⟨rfl, rfl, rfl⟩ := trodAll_nil h
    exact trodAll_mk0
  | t :: ts, _, _, _, hr, h, hlt, hsp => by
    obtain ⟨v, vs, d, ds, p, q, rfl, rfl, rfl, h0, r0⟩ := trodAll_cons h
    have k := hr t (by simp)
    exact trodAll_cons_mk (WideElems.Trod_stays laidOut k.1 k.2 h0 (fun x hx => hb.same (hlt x (by simp [hx]))) (fun x hx => hsp x (by simp [hx])))
      (stay_all hb (fun t ht => hr t (by simp [ht])) r0 (fun x hx => hlt x (by simp [hx])) (fun x hx => hsp x (by simp [hx])))
/-- a law that returned true and turned nothing old -/
theorem law_post {f : Func} {s : ChangeSpec} {apart fresh handsOn again : Bool} {W W' : World} {args : Array Value} {ds gs : List (DataW H)} {before : List MemPlace}
    (hW : DataW.Whole enc Tryd.prog f.params.toList s.vars apart W args.toList ds gs before) (hb : Below W.heap.size W W')
    (hvs : s.vars = []) (hr1 : f.resultTypes = #[4])
    (hpar : f.params.toList.all (fun t => Tryd.prog.readableRec t && decide (t < Tryd.prog.types.size)) = true)
    (hfn : (s.fn H ds).results = [.lit (.bool true)] ∧ (s.fn H ds).args = ds ∧ (s.fn H ds).vars = []) :
    s.post enc Tryd.prog f apart fresh handsOn again W args (.bool true) W' := by
  have hW0 := hW
  have hlt : ∀ p ∈ before, p.block < W.heap.size := fun p hp => hW.lt p hp
  have hold : ∀ p ∈ before, (fun b => decide (b < W.heap.size)) p.block = true := fun p hp => by simpa using hlt p hp
  obtain ⟨p, q, hA, hV, rfl, hz, hn⟩ := hW
  rw [hvs] at hV
  obtain ⟨rfl, rfl⟩ := trodVars_none hV
  simp only [List.append_nil] at *
  have hk : ∀ t ∈ f.params.toList, Tryd.prog.readableRec t = true ∧ t < Tryd.prog.types.size := by
    intro t ht
    have := List.all_eq_true.1 hpar t ht
    simpa using this
  have hargs : ∀ sp : Nat → Bool, (∀ x ∈ p, sp x.block = true) → DataW.TrodAll enc Tryd.prog W' 0 sp true f.params.toList args.toList (s.fn H (ds ++ [])).args p := fun sp hsp => by
    rw [List.append_nil, hfn.2.1]; exact stay_all hb hk hA hlt hsp
  have hvars : ∀ sp : Nat → Bool, DataW.TrodVars enc Tryd.prog W' sp s.vars (s.fn H (ds ++ [])).vars [] := fun sp => by
    rw [hvs, List.append_nil, hfn.2.2]; exact rfl
  have hres : ∀ (b : Nat) (sp : Nat → Bool) (hd : Bool), DataW.TrodAll enc Tryd.prog W' b sp hd f.resultTypes.toList ((Value.bool true).resultList f.resultTypes.size) (s.fn H (ds ++ [])).results [] := fun b sp hd => by
    rw [List.append_nil, hfn.1, hr1]
    exact trodAll_cons_mk (shut_bool Tryd.underlying4 _) trodAll_mk0
  refine ⟨ds, [], p, [], p, [], hW0, hres _ _ _, hargs _ hold, hvars _, World.keptBut_mono (fun x hx => ⟨hx, Or.inr (by simpa using hx)⟩) (hb.frame (· ∈ p)), fun _ => ?_⟩
  refine ⟨ok_one hr1 rfl (okWide_bool_mk Tryd.underlying4 _), _, _, ([] ++ p) ++ [], ⟨[] ++ p, [], trodAll_append (hargs _ (fun _ _ => rfl)) (hres _ _ _), hvars (fun _ => true), rfl, ?_, ?_⟩, ?_⟩
  · intro b off hp
    have hin : MemPlace.cell b off ∈ p := by simpa using hp
    rw [hb.frozen (hlt _ hin)]
    exact hz b off hin
  · intro ha
    simpa using hn ha
  · intro x hx _
    simpa using hx
/-- a slice of structs of two cells: the readings of its elements -/
theorem open_pairs_c {W : World} {t e : TypeId} {f0 f1 : Field} {v : Value} {x : DataW H × List MemPlace} {fuel : Nat} (ht : Tryd.prog.underlying t = some (.slice e)) (he : Tryd.prog.underlying e = some (.struct #[f0, f1]))
    (ce : Tryd.prog.cellsOf e = 2) (o0 : f0.offset = 0) (o1 : f1.offset = 1) (c0 : Tryd.prog.cellsOf f0.type = 1) (c1 : Tryd.prog.cellsOf f1.type = 1)
    (h : DataW.trod enc Tryd.prog W 0 (fun _ => true) true fuel t [v] = some x) (hlt : ∀ y ∈ x.2, y.block < W.heap.size) :
    ∃ A n c V0 V1, v = .slice A n c ∧ n ≤ maxLen ∧ n ≤ c ∧ P2 W W.heap.size A n V0 V1 ∧ ∀ i, i < n → ∃ m x0 x1, DataW.trod enc Tryd.prog W 0 (fun _ => true) true m f0.type [V0 i] = some x0 ∧ DataW.trod enc Tryd.prog W 0 (fun _ => true) true m f1.type [V1 i] = some x1 ∧
      (∀ y ∈ x0.2, y.block < W.heap.size) ∧ (∀ y ∈ x1.2, y.block < W.heap.size) := by
  rcases Deep.open_slice_pairs ht he ce o0 o1 c0 c1 h with ⟨h1, -⟩ | ⟨a, len, cap, m, n, V0, V1, D0, D1, P0, P1, h1, hb, hl, hm, hmm, hx, hc⟩
  · injection h1 with h1
    subst h1
    exact ⟨none, 0, 0, fun _ => .nilIface, fun _ => .nilIface, rfl, by simp [maxLen], Nat.le_refl _, ER.nil _ _ _ _ _, fun i hi => absurd hi (by omega)⟩
  · injection h1 with h1
    subst h1
    simp only [if_true] at hmm
    subst hmm
    refine ⟨some a, len, m, V0, V1, rfl, by omega, hl, fun hn => ?_, fun i hi => ?_⟩
    · have h0 := (hc 0 (by omega)).1
      obtain ⟨b, off, spot⟩ := a
      have hsp : spot = none := by simpa [Addr.add] using World.cell?_spot h0
      subst hsp
      refine ⟨b, off, rfl, ?_, fun k i hk hi => ?_⟩
      · have hb1 := hlt (.cell b (off + 0)) (by
          rw [hx]
          exact List.mem_append_left _ (MemPlace.mem_row.2 ⟨0, by omega, rfl⟩))
        exact hb1
      · have hk2 := hc k (by omega)
        have q0 := hk2.1
        have q1 := hk2.2.1
        rw [add_lit'] at q0 q1
        rcases (by omega : i = 0 ∨ i = 1) with rfl | rfl
        · simpa using q0
        · simpa [Nat.add_assoc] using q1
    · have hi2 := hc i (by omega)
      refine ⟨n, _, _, hi2.2.2.1, hi2.2.2.2, fun y hy => hlt y ?_, fun y hy => hlt y ?_⟩
      · rw [hx]; exact List.mem_append_right _ (List.mem_flatMap.2 ⟨i, by simp; omega, List.mem_append_left _ hy⟩)
      · rw [hx]; exact List.mem_append_right _ (List.mem_flatMap.2 ⟨i, by simp; omega, List.mem_append_right _ hy⟩)
/-- a slice of ints -/
theorem open_ints_c {W : World} {t : TypeId} {v : Value} {x : DataW H × List MemPlace} {fuel : Nat} (ht : Tryd.prog.underlying t = some (.slice 3))
    (h : DataW.trod enc Tryd.prog W 0 (fun _ => true) true fuel t [v] = some x) (hlt : ∀ y ∈ x.2, y.block < W.heap.size) :
    ∃ A n c z, v = .slice A n c ∧ n ≤ maxLen ∧ n ≤ c ∧ IR W W.heap.size A n z ∧ ∀ i, i < n → -9223372036854775808 ≤ z i ∧ z i ≤ 9223372036854775807 := by
  rcases open_ints ht Tryd.underlying3 (by kernel_rfl) h with ⟨h1, -⟩ | ⟨a, len, cap, zs, h1, hb, hl, hm, hz, hx, hc, hwf⟩
  · injection h1 with h1
    subst h1
    exact ⟨none, 0, 0, fun _ => 0, rfl, by simp [maxLen], Nat.le_refl _, ER.nil _ _ _ _ _, fun i hi => absurd hi (by omega)⟩
  · injection h1 with h1
    subst h1
    simp only [if_true] at hz
    refine ⟨some a, len, cap, fun i => zs.getD i 0, rfl, by omega, hl, fun hn => ?_, fun i hi => ?_⟩
    · have h0 := hc 0 (by omega)
      obtain ⟨b, off, spot⟩ := a
      have hsp : spot = none := by simpa [Addr.add] using World.cell?_spot h0
      subst hsp
      refine ⟨b, off, rfl, ?_, fun k i hk hi => ?_⟩
      · have hb1 := hlt (.cell b (off + 0)) (by
          rw [hx]
          exact MemPlace.mem_row.2 ⟨0, by omega, rfl⟩)
        exact hb1
      · obtain rfl : i = 0 := by omega
        have := hc k (by omega)
        rw [add_lit'] at this
        simpa using this
    · have h1 : zs.getD i 0 ∈ zs := by
        rw [List.getD_eq_getElem?_getD, List.getElem?_eq_getElem (by omega)]
        exact List.getElem_mem _
      have := hwf _ h1
      simp only [Lit.wf, Bool.and_eq_true, decide_eq_true_eq] at this
      simpa [IntKind.min, IntKind.max, IntKind.signed, IntKind.bits] using this
theorem int_of_trod {W : World} {t : TypeId} {v : Value} {x : DataW H × List MemPlace} {fuel : Nat} (ht : Tryd.prog.underlying t = some (.int .i64)) (h : DataW.trod enc Tryd.prog W 0 (fun _ => true) true fuel t [v] = some x) :
    v = .int .i64 (intOf v) ∧ -9223372036854775808 ≤ intOf v ∧ intOf v ≤ 9223372036854775807 := by
  obtain ⟨z, hz, -, hw⟩ := DataW.trod_int ht h
  injection hz with hz
  subst hz
  simp only [Lit.wf, Bool.and_eq_true, decide_eq_true_eq] at hw
  exact ⟨rfl, by simpa [intOf, IntKind.min, IntKind.max, IntKind.signed, IntKind.bits] using hw⟩
theorem cells_slice {A : Option Addr} {n c : Nat} : (Value.slice A n c).cells.toList = [.slice A n c] := rfl
/-- a slice of structs of two ints -/
theorem open_pairs {r : Reach} {b0 : Nat} {W : World} {t e : TypeId} {f0 f1 : Field} {v : Value} {d : DataW H} {p : List MemPlace} (ht : Tryd.prog.underlying t = some (.slice e)) (he : Tryd.prog.underlying e = some (.struct #[f0, f1]))
    (ce : Tryd.prog.cellsOf e = 2) (o0 : f0.offset = 0) (o1 : f1.offset = 1) (c0 : Tryd.prog.cellsOf f0.type = 1) (c1 : Tryd.prog.cellsOf f1.type = 1)
    (k0 : Tryd.prog.underlying f0.type = some (.int .i64)) (k1 : Tryd.prog.underlying f1.type = some (.int .i64)) (hval : Value.okWide Tryd.prog W r b0 t v)
    (h : DataW.Trod enc Tryd.prog W 0 (fun _ => true) true t v d p) (hlt : ∀ x ∈ p, x.block < W.heap.size) :
    ∃ A n c x y, v = .slice A n c ∧ n ≤ maxLen ∧ n ≤ c ∧ PI W W.heap.size A n x y := by
  obtain ⟨fuel, h⟩ := h
  obtain ⟨A, n, c, rfl⟩ := okWide_slice ht hval
  rw [cells_slice] at h
  obtain ⟨A', n', c', V0, V1, h1, hn, hnc, hP, hV⟩ := open_pairs_c ht he ce o0 o1 c0 c1 h hlt
  injection h1 with h1 h2 h3
  subst h1 h2 h3
  refine ⟨A, n, c, fun i => intOf (V0 i), fun i => intOf (V1 i), rfl, hn, hnc, fun hn0 => ?_⟩
  obtain ⟨b, off, hA, hb, hc⟩ := hP hn0
  refine ⟨b, off, hA, hb, fun k i hk hi => ?_⟩
  obtain ⟨m, x0, x1, g0, g1, -, -⟩ := hV k hk
  rw [hc k i hk hi]
  rcases (by omega : i = 0 ∨ i = 1) with rfl | rfl
  · simpa using (int_of_trod k0 g0).1
  · simpa using (int_of_trod k1 g1).1
end
end Go.Proofs.YtcgdalabenflmaaDoor
/- Rite: a law's arguments opened: rites, lists of deeds, the library's table. -/
namespace Go.Proofs.YtcgdalabenflmaaDoor
open Go Go.RowKit Go.ChangeShapes Go.WideShapes Go.ChangeAt
section
variable {H : Type} {enc : TypeId × Value → H} {r : Reach} {b0 : Nat} {W : World} {v : Value} {d : DataW H} {p : List MemPlace}
set_option maxRecDepth 100000
/-- a slice of structs of one-cell fields -/
theorem open_cellsR {t e : TypeId} {fs : Array Field} {x : DataW H × List MemPlace} {fuel : Nat} (ht : Tryd.prog.underlying t = some (.slice e)) (he : Tryd.prog.underlying e = some (.struct fs)) (hone : Deep.oneCellFields Tryd.prog fs = true)
    (ce : Tryd.prog.cellsOf e = fs.size) (hpos : 0 < fs.size) (h : DataW.trod enc Tryd.prog W 0 (fun _ => true) true fuel t [v] = some x) (hlt : ∀ y ∈ x.2, y.block < W.heap.size) :
    ∃ A n c V, v = .slice A n c ∧ n ≤ maxLen ∧ n ≤ c ∧ ER W W.heap.size fs.size A n V ∧ ∀ i k f, i < n → fs[k]? = some f → ∃ m y, DataW.trod enc Tryd.prog W 0 (fun _ => true) true m f.type [V i k] = some y ∧ (∀ z ∈ y.2, z.block < W.heap.size) := by
  rcases Deep.open_slice ht h with ⟨h1, -⟩ | ⟨a, len, cap, m, n, D, Pl, h1, hb, hl, hm, hmm, hx, hc⟩
  · injection h1 with h1
    subst h1
    exact ⟨none, 0, 0, fun _ _ => .nilIface, rfl, by simp [maxLen], Nat.le_refl _, ER.nil _ _ _ _ _, fun i k f hi => absurd hi (by omega)⟩
  · injection h1 with h1
    subst h1
    simp only [if_true] at hmm
    subst hmm
    rw [ce] at hc hx
    obtain ⟨C, hC⟩ := Deep.choose_lt hc
    refine ⟨some a, len, m, fun i k => (C i).getD k undef, rfl, by omega, hl, fun hn => ?_, fun i k f hi hf => ?_⟩
    · obtain ⟨-, hl0, hc0⟩ := World.cells?_some (hC 0 (by omega)).1
      have h0 := hc0 0 hpos
      rw [List.getElem?_eq_getElem (by omega)] at h0
      obtain ⟨b, off, spot⟩ := a
      have hsp : spot = none := by simpa [Addr.add] using World.cell?_spot h0
      subst hsp
      refine ⟨b, off, rfl, ?_, fun k i hk hi => ?_⟩
      · have hb1 := hlt (.cell b (off + 0)) (by
          rw [hx]
          exact List.mem_append_left _ (MemPlace.mem_row.2 ⟨0, Nat.mul_pos (by omega) hpos, rfl⟩))
        exact hb1
      · obtain ⟨-, hl1, hc1⟩ := World.cells?_some (hC k (by omega)).1
        have h2 := hc1 i hi
        rw [Deep.add_add, add_lit', List.getElem?_eq_getElem (by omega)] at h2
        rw [show off + k * fs.size + i = off + (k * fs.size + i) by omega, h2]
        simp [List.getD, List.getElem?_eq_getElem (show i < (C k).length by omega)]
    · obtain ⟨-, hl1, -⟩ := World.cells?_some (hC i (by omega)).1
      obtain ⟨xs, m', -, hxy, -, hxl, hf2⟩ := DataW.trod_struct he (hC i (by omega)).2
      have hk : k < fs.size := (Array.getElem?_eq_some_iff.1 hf).1
      obtain ⟨ho, hc1⟩ := Deep.hone_of hone k f hf
      have g := hf2 k f hf
      rw [ho, hc1, Deep.take1_drop (C i) k undef (by omega), List.getElem?_eq_getElem (by omega)] at g
      refine ⟨m', _, g, fun z hz => hlt z ?_⟩
      rw [hx]
      simp only [Prod.mk.injEq] at hxy
      refine List.mem_append_right _ (List.mem_flatMap.2 ⟨i, by simp; omega, ?_⟩)
      rw [hxy.2]
      exact List.mem_flatMap.2 ⟨_, List.getElem_mem _, hz⟩
theorem arr3R {cs : Array Value} (h : cs.size = 3) : ∃ a b c, cs = #[a, b, c] := by
  rcases cs with ⟨l⟩
  match l, h with
  | [a, b, c], _ => exact ⟨a, b, c, rfl⟩
/-- the table of the library, from a row's list -/
theorem tb_laid {l : List (String × DataW Unit)} {T : DataW Unit} (h : laidMetH Tryd.prog l W) (hpl : (l.all fun x => x.2.handleName?.isNone) = true) (hm : ("math/bits.deBruijn32tab", T) ∈ l)
    (hT : T = Lib.tabData .u8 ((List.range 32).map fun j => ((Lib.deBruijn32tab.getD j 0 : Nat) : Int))) : TB W := by
  rw [MakeChecks.laidMetH_plain _ _ _ hpl] at h
  obtain ⟨g, t, cs, fuel, p, hg, hty, hvar, hd⟩ := Lib.laidMet.reads h hm
  obtain rfl := Option.some.inj ((show Tryd.prog.globalNamed "math/bits.deBruijn32tab" = some 0 by kernel_rfl).symm.trans hg)
  have ht2 : (Tryd.prog.globals[0]?).map (·.type) = some 135 := by kernel_rfl
  obtain rfl := Option.some.inj (ht2.symm.trans hty)
  rw [hT] at hd
  have hcs := Lib.cells_of_tab Tryd.underlying135 Tryd.underlying5 (by kernel_rfl) (by kernel_rfl) hd
  have key : ∀ j, j < 32 → W.cell? ⟨0, j, none⟩ = some (.int .u8 (Lib.deBruijn32tab.getD j 0 : Nat)) := fun j hj => by
    have := World.var?_cell hg hvar j
    rw [this, ← Array.getElem?_toList, hcs]
    simp [hj]
  exact ⟨World.block_lt_of_cell? W ⟨0, 0, none⟩ (key 0 (by omega)), key⟩
/-- a list of deeds -/
theorem open_deeds {x : DataW H × List MemPlace} {fuel : Nat} (h : DataW.trod enc Tryd.prog W 0 (fun _ => true) true fuel 25 [v] = some x) (hlt : ∀ y ∈ x.2, y.block < W.heap.size) :
    ∃ (A : Option Addr) (c : Nat) (l : List (Int × Int)), v = .slice A l.length c ∧ (l.length ≤ maxLen ∧ l.length ≤ c) ∧ DsR W A l ∧ ∀ t ∈ l, (-9223372036854775808 ≤ t.1 ∧ t.1 ≤ 9223372036854775807) ∧ -9223372036854775808 ≤ t.2 ∧ t.2 ≤ 9223372036854775807 := by
  obtain ⟨A, n, c, V, rfl, hn, hnc, hE, hV⟩ := open_cellsR Tryd.underlying25 Tryd.underlying60 (by kernel_rfl) (by kernel_rfl) (by decide) h hlt
  have k0 : ∀ k, k < n → V k 0 = .int .i64 (intOf (V k 0)) ∧ -9223372036854775808 ≤ intOf (V k 0) ∧ intOf (V k 0) ≤ 9223372036854775807 := fun k hk => by
    obtain ⟨m, y, g, -⟩ := hV k 0 _ hk rfl
    exact int_of_trod Tryd.underlying3 g
  have k1 : ∀ k, k < n → V k 1 = .int .i64 (intOf (V k 1)) ∧ -9223372036854775808 ≤ intOf (V k 1) ∧ intOf (V k 1) ≤ 9223372036854775807 := fun k hk => by
    obtain ⟨m, y, g, -⟩ := hV k 1 _ hk rfl
    exact int_of_trod Tryd.underlying3 g
  obtain ⟨f, hf⟩ : ∃ f : Nat → Int × Int, f = fun k => (intOf (V k 0), intOf (V k 1)) := ⟨_, rfl⟩
  have hl : ((List.range n).map f).length = n := by simp
  have hg : ∀ k, k < n → ((List.range n).map f).getD k (0, 0) = f k := fun k hk => by
    rw [List.getD_eq_getElem?_getD, List.getElem?_map, List.getElem?_range hk]; rfl
  refine ⟨A, c, (List.range n).map f, by rw [hl], by rw [hl]; exact ⟨hn, hnc⟩, ?_, fun t ht => by
    obtain ⟨k, hk, rfl⟩ := List.mem_map.1 ht
    rw [hf]
    exact ⟨(k0 k (List.mem_range.1 hk)).2, (k1 k (List.mem_range.1 hk)).2⟩⟩
  unfold DsR
  rw [hl]
  refine fun hn0 => ?_
  obtain ⟨b, off, hA, hb, hc⟩ := hE hn0
  refine ⟨b, off, hA, hb, fun k i hk hi => ?_⟩
  refine (hc k i hk hi).trans ?_
  show _ = some (dsV (((List.range n).map f).getD k (0, 0)) i)
  rw [hg k hk, hf]
  rcases (by omega : i = 0 ∨ i = 1) with rfl | rfl
  · rw [(k0 k hk).1]; rfl
  · rw [(k1 k hk).1]; rfl
/-- a list of acts -/
theorem open_acts {x : DataW H × List MemPlace} {fuel : Nat} (h : DataW.trod enc Tryd.prog W 0 (fun _ => true) true fuel 22 [v] = some x) (hlt : ∀ y ∈ x.2, y.block < W.heap.size) (last toil : Int) :
    ∃ (d : Rad) (l : List Rac), v = .slice d.A l.length d.c ∧ l.length ≤ maxLen ∧ RtR W d ⟨l, last, toil⟩ := by
  obtain ⟨A, n, c, V, rfl, hn, hnc, hE, hV⟩ := open_cellsR Tryd.underlying22 Tryd.underlying58 (by kernel_rfl) (by kernel_rfl) (by decide) h hlt
  have key : ∀ i, i < n → ∃ q : Option Addr × Nat × Option Addr × Nat × Rac, (∀ k, k < 7 → V i k = acV q.2.2.2.2 q.1 q.2.1 q.2.2.1 q.2.2.2.1 k) ∧ LI W W.heap.size q.1 q.2.2.2.2.nd ∧ LI W W.heap.size q.2.2.1 q.2.2.2.2.ins := fun i hi => by
    obtain ⟨m0, y0, g0, l0⟩ := hV i 0 _ hi rfl
    obtain ⟨m1, y1, g1, l1⟩ := hV i 1 _ hi rfl
    obtain ⟨m2, y2, g2, l2⟩ := hV i 2 _ hi rfl
    obtain ⟨m3, y3, g3, l3⟩ := hV i 3 _ hi rfl
    obtain ⟨m4, y4, g4, l4⟩ := hV i 4 _ hi rfl
    obtain ⟨m5, y5, g5, l5⟩ := hV i 5 _ hi rfl
    obtain ⟨m6, y6, g6, l6⟩ := hV i 6 _ hi rfl
    obtain ⟨s, hs, -, -⟩ := DataW.trod_string Tryd.underlying9 g0
    obtain ⟨bo, hbo, -⟩ := DataW.trod_bool Tryd.underlying4 g6
    obtain ⟨A1, n1, c1, z1, e1, -, -, r1, -⟩ := open_ints_c Tryd.underlying48 g1 l1
    obtain ⟨A2, n2, c2, z2, e2, -, -, r2, -⟩ := open_ints_c Tryd.underlying48 g2 l2
    have e3 := (int_of_trod Tryd.underlying3 g3).1
    have e4 := (int_of_trod Tryd.underlying3 g4).1
    have e5 := (int_of_trod Tryd.underlying3 g5).1
    injection hs with e0
    injection hbo with e6
    have li : ∀ (A : Option Addr) (n : Nat) (z : Nat → Int), IR W W.heap.size A n z → LI W W.heap.size A ((List.range n).map z) := fun A n z hz => by
      have hl : ((List.range n).map z).length = n := by simp
      unfold LI
      rw [hl]
      refine fun hn => ?_
      obtain ⟨b', off, hA, hb, hc⟩ := hz hn
      refine ⟨b', off, hA, hb, fun k i hk hi => ?_⟩
      rw [hc k i hk hi]
      have e : ((List.range n).map z).getD k 0 = z k := by
        rw [List.getD_eq_getElem?_getD, List.getElem?_map, List.getElem?_range hk]; rfl
      show some (Value.int .i64 (z k)) = some (Value.int .i64 (((List.range n).map z).getD k 0))
      rw [e]
    refine ⟨(A1, c1, A2, c2, ⟨s, (List.range n1).map z1, (List.range n2).map z2, intOf (V i 3), intOf (V i 4), intOf (V i 5), bo⟩), fun k hk => ?_, li _ _ _ r1, li _ _ _ r2⟩
    have hl1 : ((List.range n1).map z1).length = n1 := by simp
    have hl2 : ((List.range n2).map z2).length = n2 := by simp
    rcases (by omega : k = 0 ∨ k = 1 ∨ k = 2 ∨ k = 3 ∨ k = 4 ∨ k = 5 ∨ k = 6) with rfl | rfl | rfl | rfl | rfl | rfl | rfl
    · exact e0
    · rw [e1]; show Value.slice A1 n1 c1 = Value.slice A1 ((List.range n1).map z1).length c1; rw [hl1]
    · rw [e2]; show Value.slice A2 n2 c2 = Value.slice A2 ((List.range n2).map z2).length c2; rw [hl2]
    · exact e3
    · exact e4
    · exact e5
    · exact e6
  haveI : Inhabited Rac := ⟨ra0⟩
  obtain ⟨q, hq⟩ := Deep.choose_lt key
  obtain ⟨f, hf⟩ : ∃ f : Nat → Rac, f = fun k => (q k).2.2.2.2 := ⟨_, rfl⟩
  have hl : ((List.range n).map f).length = n := by simp
  have hg : ∀ k, k < n → (⟨(List.range n).map f, last, toil⟩ : Rit).ac k = f k := fun k hk => by
    unfold Rit.ac
    show ((List.range n).map f).getD k ra0 = f k
    rw [List.getD_eq_getElem?_getD, List.getElem?_map, List.getElem?_range hk]; rfl
  have hn2 : (⟨(List.range n).map f, last, toil⟩ : Rit).n = n := hl
  refine ⟨⟨A, c, fun k => (q k).1, fun k => (q k).2.1, fun k => (q k).2.2.1, fun k => (q k).2.2.2.1⟩, (List.range n).map f, by rw [hl], by rw [hl]; exact hn, ⟨?_, fun k hk => ?_, fun k hk => ?_⟩⟩
  · rw [hn2]
    refine fun hn0 => ?_
    obtain ⟨b, off, hA, hb, hc⟩ := hE hn0
    refine ⟨b, off, hA, hb, fun k i hk hi => ?_⟩
    refine (hc k i hk hi).trans ?_
    show _ = some (acV (Rit.ac _ k) (q k).1 (q k).2.1 (q k).2.2.1 (q k).2.2.2.1 i)
    rw [hg k hk, hf, (hq k hk).1 i hi]
  · rw [hn2] at hk
    rw [hg k hk, hf]
    exact (hq k hk).2.1
  · rw [hn2] at hk
    rw [hg k hk, hf]
    exact (hq k hk).2.2
/-- a rite -/
theorem open_riteV (hval : Value.okWide Tryd.prog W r b0 24 v) (h : DataW.Trod enc Tryd.prog W 0 (fun _ => true) true 24 v d p) (hlt : ∀ x ∈ p, x.block < W.heap.size) :
    ∃ (dd : Rad) (s : Rit), v = .agg #[.slice dd.A s.n dd.c, .int .i64 s.last, .int .i64 s.toil] ∧ s.n ≤ maxLen ∧ RtR W dd s ∧ (-9223372036854775808 ≤ s.last ∧ s.last ≤ 9223372036854775807) ∧ -9223372036854775808 ≤ s.toil ∧ s.toil ≤ 9223372036854775807 := by
  obtain ⟨cs, rfl, hsz⟩ := okWide_struct Tryd.underlying24 hval
  obtain ⟨a, b, c, rfl⟩ : ∃ a b c, cs = #[a, b, c] := by
    have hsz := hsz.trans (show _ = 3 by kernel_rfl)
    rcases cs with ⟨l⟩
    match l, hsz with
    | [a, b, c], _ => exact ⟨a, b, c, rfl⟩
  obtain ⟨fuel, h⟩ := h
  have h' : DataW.trod enc Tryd.prog W 0 (fun _ => true) true fuel 24 [a, b, c] = some (d, p) := h
  obtain ⟨xs, m, -, hxy, -, hxl, hf⟩ := DataW.trod_struct Tryd.underlying24 h'
  have g0 := hf 0 _ rfl
  have g1 := hf 1 _ rfl
  have g2 := hf 2 _ rfl
  rw [List.getElem?_eq_getElem (by rw [hxl]; decide)] at g0 g1 g2
  have k0 : DataW.trod enc Tryd.prog W 0 (fun _ => true) true m 22 [a] = _ := g0
  have k1 : DataW.trod enc Tryd.prog W 0 (fun _ => true) true m 3 [b] = _ := g1
  have k2 : DataW.trod enc Tryd.prog W 0 (fun _ => true) true m 3 [c] = _ := g2
  obtain ⟨e1, b1⟩ := int_of_trod Tryd.underlying3 k1
  obtain ⟨e2, b2⟩ := int_of_trod Tryd.underlying3 k2
  simp only [Prod.mk.injEq] at hxy
  obtain ⟨dd, l, e0, l0, r0⟩ := open_acts k0 (fun y hy => hlt y (by
    rw [hxy.2]
    exact List.mem_flatMap.2 ⟨_, List.getElem_mem _, hy⟩)) (intOf b) (intOf c)
  refine ⟨dd, ⟨l, intOf b, intOf c⟩, ?_, l0, r0, b1, b2⟩
  show _ = Value.agg #[.slice dd.A l.length dd.c, .int .i64 (intOf b), .int .i64 (intOf c)]
  rw [← e0, ← e1, ← e2]
theorem open_deedsV (hval : Value.okWide Tryd.prog W r b0 25 v) (h : DataW.Trod enc Tryd.prog W 0 (fun _ => true) true 25 v d p) (hlt : ∀ x ∈ p, x.block < W.heap.size) :
    ∃ (A : Option Addr) (c : Nat) (l : List (Int × Int)), v = .slice A l.length c ∧ (l.length ≤ maxLen ∧ l.length ≤ c) ∧ DsR W A l ∧ ∀ t ∈ l, (-9223372036854775808 ≤ t.1 ∧ t.1 ≤ 9223372036854775807) ∧ -9223372036854775808 ≤ t.2 ∧ t.2 ≤ 9223372036854775807 := by
  obtain ⟨fuel, h⟩ := h
  obtain ⟨A, n, c, rfl⟩ := okWide_slice Tryd.underlying25 hval
  rw [cells_slice] at h
  exact open_deeds h hlt
theorem open_intV (hval : Value.okWide Tryd.prog W r b0 3 v) (h : DataW.Trod enc Tryd.prog W 0 (fun _ => true) true 3 v d p) : ∃ x, v = .int .i64 x ∧ -9223372036854775808 ≤ x ∧ x ≤ 9223372036854775807 := by
  obtain ⟨z, rfl, rfl, rfl, -⟩ := open_int Tryd.underlying3 hval h
  obtain ⟨fuel, h⟩ := h
  have e := int_of_trod Tryd.underlying3 h
  exact ⟨z, rfl, e.2⟩
end
end Go.Proofs.YtcgdalabenflmaaDoor
namespace Go.Proofs.YtcgdalabenflmaaDoor.riteAsks
open Go Go.ChangeShapes Go.WideShapes Go.ChangeAt Go.RowKit
set_option maxRecDepth 100000 in
theorem lifted (os : Os) (started : os.Started) (H : Type) (enc : TypeId × Value → H) :
    ReturnsInHanded {} Tryd.checked os 4 .any (fun w args => (Rows.riteAsksSpec.pre enc Tryd.prog Tryd.f4 Rows.riteAsksRow.domain false w args ∧ laidMetH Tryd.prog Rows.riteAsksRow.laid w) ∧ sizedMet enc Tryd.prog Tryd.f4 (OpenSpec.ofChange Rows.riteAsksSpec) false w args)
      (Rows.riteAsksSpec.post enc Tryd.prog Tryd.f4 false true false false) := by
  refine returnsInHanded_of_change_and (C := Tryd.checked) (X := fun w _ => laidMetH Tryd.prog Rows.riteAsksRow.laid w) (fun _ _ _ hh h => h.of_heap hh) own_knob started (by kernel_rfl) Tryd.func4
    (ChangeSpec.witness_shaped (enc := enc) (C := Tryd.checked) (os := os) (X := fun w _ => laidMetH Tryd.prog Rows.riteAsksRow.laid w) false (World.laidAll Tryd.prog os Rows.riteAsksRow.laid) #[.agg #[.slice none 0 0, .int .i64 0, .int .i64 0], .slice none 0 0, .int .i64 0] 8 (World.laidAll_os _ _ _)
      (World.shaped_of_ZipB (by kernel_rfl) (by kernel_rfl)) (by kernel_rfl) (by kernel_rfl) (by kernel_rfl)
      (by rw [MakeChecks.laidMetH_plain _ _ _ (by kernel_rfl)]; exact laidMet_laidAll _ (by kernel_rfl) (by kernel_rfl))) ?_
  intro W base args ds gs before hval0 hW _ _ hL _
  have hval : ∀ (j : Nat) t v, Tryd.f4.params[j]? = some t → args[j]? = some v → Value.okWide Tryd.prog W .any base t v := hval0
  have hW' := hW
  have hlt : ∀ p ∈ before, p.block < W.heap.size := fun p hp => hW.lt p hp
  obtain ⟨p, q, hA0, hV, rfl, hfz, hnd⟩ := hW
  have hA : DataW.TrodAll enc Tryd.prog W 0 (fun _ => true) true Tryd.f4.params.toList args.toList ds p := hA0
  rw [Tryd.params4] at hA hval
  obtain ⟨v0, vs0, d0, ds0, p0, q0, hargs, rfl, rfl, h0, r0⟩ := trodAll_cons hA
  obtain ⟨v1, vs1, d1, ds1, p1, q1, rfl, rfl, rfl, h1, r1⟩ := trodAll_cons r0
  obtain ⟨v2, vs2, d2, ds2, p2, q2, rfl, rfl, rfl, h2, r2⟩ := trodAll_cons r1
  obtain ⟨rfl, rfl, rfl⟩ := trodAll_nil r2
  obtain rfl : args = #[v0, v1, v2] := by cases args; simp_all
  obtain ⟨rfl, rfl⟩ := trodVars_none hV
  have k0 := hval 0 24 v0 rfl rfl
  have k1 := hval 1 25 v1 rfl rfl
  have k2 := hval 2 3 v2 rfl rfl
  have hT : TB W := tb_laid hL (by kernel_rfl) (.head _) (by kernel_rfl)
  obtain ⟨e0, l0, rfl, -, s0, -, -⟩ := open_riteV k0 h0 (fun x hx => hlt x (by simp [hx]))
  obtain ⟨A1, c1, u1, rfl, -, s1, -⟩ := open_deedsV k1 h1 (fun x hx => hlt x (by simp [hx]))
  obtain ⟨a2, rfl, -, -⟩ := open_intV k2 h2
  clear hA0 hval0
  refine (asks_any e0 l0 A1 c1 u1 a2 W s0 s1 hT).mono fun e W' ⟨he, hb⟩ => ?_
  subst he
  exact ⟨_, rfl, law_post hW' hb rfl rfl (by kernel_rfl) ⟨rfl, rfl, rfl⟩⟩
theorem over : Rows.riteAsksRow.holds Tryd.pinned (OpenSpec.ofChange Rows.riteAsksSpec) :=
  OpenClaim.holds_of_wide 4 Tryd.f4 rfl rfl rfl rfl rfl rfl rfl ⟨rfl, rfl, rfl, rfl, rfl⟩ rfl rfl rfl rfl rfl (by kernel_rfl) Tryd.func4 (by kernel_rfl)
    (of_decide_eq_true (by kernel_rfl)) (by unfold Func.isWrapper; first | (rw [if_pos (by decide +kernel)]; kernel_rfl) | (rw [if_neg (by decide +kernel)]; exact ⟨rfl, rfl⟩))
    (fun os started H enc _ => lifted os started H enc)
theorem proved : Rows.RiteAsksCardSaid :=
  Claim7.holds_tied_plain_at .later [] [.data, .data, .data, .data, .pinned] true (true, "376b80f4633cca043c83d1652b79e11020b8f3081dfa86be3e3dff3f771ffefe") false over (fun _ h => by cases h) (by kernel_rfl) (fun _ h => by cases h) riteAsks_row_tie rfl ⟨rfl, rfl⟩ (by kernel_rfl) rfl
    (fun f fn hf hfn => by
      obtain rfl : f = 4 := Option.some.inj ((show Tryd.prog.funcNamed "chiti/chitilaw09.RiteAsks" = some 4 by kernel_rfl).symm.trans hf) |>.symm
      obtain rfl : fn = Tryd.f4 := (Option.some.inj (Tryd.func4.symm.trans hfn)).symm
      exact ⟨by kernel_rfl, fun j t ht => by
        rw [Tryd.params4] at ht
        have hm : t ∈ ([24, 25, 3] : List TypeId) := by simpa using Array.mem_of_getElem? ht
        have hall : (([24, 25, 3] : List TypeId).all fun u => !Tryd.prog.wantsStandIn u) = true := by kernel_rfl
        exact (show Tryd.prog.wantsStandIn t = false by simpa using List.all_eq_true.1 hall t hm)⟩)
    (by kernel_rfl)
#print axioms proved
end Go.Proofs.YtcgdalabenflmaaDoor.riteAsks
